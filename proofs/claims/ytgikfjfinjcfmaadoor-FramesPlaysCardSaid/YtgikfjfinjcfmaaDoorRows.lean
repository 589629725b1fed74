/-
  NARROWER THAN 'FOR EVERY INPUT', by the rows' own cells (each row's printed sentence says how): FramesNews: laid · FramesAll: laid · FramesShares: laid · FramesPlays: laid · FramesNil: laid · FramesFresh: laid · FramesCopies: laid.
  DERIVED. THE GIVEN ROWS OF THIS SEAT. 7 by the template 'for every input the law returns true; each argument reads behind the call as it read before'; 0 by the template 'total and deterministic' (their statements: YtgikfjfinjcfmaaDoorTotals.lean).
  GIVEN WITH THE SEED: the statements are not yours to turn. If you find one false, say at which input.
  Laid BY PROGRAM, IN A SANDBOX (cutbox-rows.mjs): the forced cells as the released guide's own fill.sh prints them over the translation 338e52756948e9ed… (all of the seat's roots in one cut). By AI agents, Wed Nov 11 2026. No macro, syntax, notation, axiom, sorry.
-/
import Derived.Test.YtgikfjfinjcfmaaDoorChecked
import GoSem.Claim
import GoSem.ClaimJoined
import GoSem.ClaimMapViews
import Derived.JoinedTies
import Derived.KernelRfl
namespace Go.Proofs.YtgikfjfinjcfmaaDoor
/- THE CELL 'sum', in the pinned program and in every row, IS THE sha256 OF THE DUMP (.gsa) THAT YtgikfjfinjcfmaaDoorProg.lean LOADS. Nothing in Lean hashes anything: it is a label: what it is worth is what the hold of that sum in a sandbox is worth. -/
noncomputable def Tryd.pinned : Pinned := { name := "ytgikfjfinjcfmaadoor", sum := "338e52756948e9ed4e6a4671e631e20f09034bcbad6d73ddd80efc0ec36cd7a7", checked := Tryd.checked }
namespace Rows
def none {H : Type} : Left H := { results := [], args := [] }

/- WHAT THE LISTED PACKAGE-LEVEL VARIABLES READ AS WHEN THE CALL BEGINS. Each datum BY PROGRAM (the guide's laid-datum.mjs) off the statement by which the dump's own 'gosem.cut.vars' lays the variable. In a bare row this is a premise. The card (YtgikfjfinjcfmaaDoorCards.lean) ties it to the program's text. -/
def laid_math_bits_deBruijn64tab {H : Type} : DataW H := .agg [.lit (.int .u8 0), .lit (.int .u8 1), .lit (.int .u8 56), .lit (.int .u8 2), .lit (.int .u8 57), .lit (.int .u8 49), .lit (.int .u8 28), .lit (.int .u8 3), .lit (.int .u8 61), .lit (.int .u8 58), .lit (.int .u8 42), .lit (.int .u8 50), .lit (.int .u8 38), .lit (.int .u8 29), .lit (.int .u8 17), .lit (.int .u8 4), .lit (.int .u8 62), .lit (.int .u8 47), .lit (.int .u8 59), .lit (.int .u8 36), .lit (.int .u8 45), .lit (.int .u8 43), .lit (.int .u8 51), .lit (.int .u8 22), .lit (.int .u8 53), .lit (.int .u8 39), .lit (.int .u8 33), .lit (.int .u8 30), .lit (.int .u8 24), .lit (.int .u8 18), .lit (.int .u8 12), .lit (.int .u8 5), .lit (.int .u8 63), .lit (.int .u8 55), .lit (.int .u8 48), .lit (.int .u8 27), .lit (.int .u8 60), .lit (.int .u8 41), .lit (.int .u8 37), .lit (.int .u8 16), .lit (.int .u8 46), .lit (.int .u8 35), .lit (.int .u8 44), .lit (.int .u8 21), .lit (.int .u8 52), .lit (.int .u8 32), .lit (.int .u8 23), .lit (.int .u8 11), .lit (.int .u8 54), .lit (.int .u8 26), .lit (.int .u8 40), .lit (.int .u8 15), .lit (.int .u8 34), .lit (.int .u8 20), .lit (.int .u8 31), .lit (.int .u8 10), .lit (.int .u8 25), .lit (.int .u8 14), .lit (.int .u8 19), .lit (.int .u8 9), .lit (.int .u8 13), .lit (.int .u8 8), .lit (.int .u8 7), .lit (.int .u8 6)]

/-- 'hostellaw07.FramesNews': WHATEVER THE INPUT: true; the input reads as it did. -/
def framesNewsSpec : ChangeSpec := { name := "framesNews", fn := fun _ => fun
  | [d] => { results := [.lit (.bool true)], args := [d] }
  | _ => none }
def framesNewsRow : OpenClaim := { program := "ytgikfjfinjcfmaadoor", sum := "338e52756948e9ed4e6a4671e631e20f09034bcbad6d73ddd80efc0ec36cd7a7", func := "hostel/hostellaw07.FramesNews", spec := "framesNews", named := ["math/bits.deBruijn64tab"], apart := false, laid := [("math/bits.deBruijn64tab", laid_math_bits_deBruijn64tab)] }
def FramesNewsSaid : Prop := framesNewsRow.holds Tryd.pinned (OpenSpec.ofChange framesNewsSpec)

/-- ITS FALSE NEIGHBOUR: 'it returns false'. Refute it at one input. -/
def framesNewsWrong : ChangeSpec := { name := "framesNews", fn := fun _ => fun
  | [d] => { results := [.lit (.bool false)], args := [d] }
  | _ => none }
def FramesNewsWrongFalsely : Prop := framesNewsRow.holds Tryd.pinned (OpenSpec.ofChange framesNewsWrong)

/-- 'hostellaw07.FramesAll': WHATEVER THE INPUT: true; the input reads as it did. -/
def framesAllSpec : ChangeSpec := { name := "framesAll", fn := fun _ => fun
  | [d1, d2] => { results := [.lit (.bool true)], args := [d1, d2] }
  | _ => none }
def framesAllRow : OpenClaim := { program := "ytgikfjfinjcfmaadoor", sum := "338e52756948e9ed4e6a4671e631e20f09034bcbad6d73ddd80efc0ec36cd7a7", func := "hostel/hostellaw07.FramesAll", spec := "framesAll", named := ["math/bits.deBruijn64tab"], apart := false, laid := [("math/bits.deBruijn64tab", laid_math_bits_deBruijn64tab)] }
def FramesAllSaid : Prop := framesAllRow.holds Tryd.pinned (OpenSpec.ofChange framesAllSpec)

/-- ITS FALSE NEIGHBOUR: 'it returns false'. Refute it at one input. -/
def framesAllWrong : ChangeSpec := { name := "framesAll", fn := fun _ => fun
  | [d1, d2] => { results := [.lit (.bool false)], args := [d1, d2] }
  | _ => none }
def FramesAllWrongFalsely : Prop := framesAllRow.holds Tryd.pinned (OpenSpec.ofChange framesAllWrong)

/-- 'hostellaw07.FramesShares': WHATEVER THE INPUT: true; the input reads as it did. -/
def framesSharesSpec : ChangeSpec := { name := "framesShares", fn := fun _ => fun
  | [d1, d2, d3, d4] => { results := [.lit (.bool true)], args := [d1, d2, d3, d4] }
  | _ => none }
def framesSharesRow : OpenClaim := { program := "ytgikfjfinjcfmaadoor", sum := "338e52756948e9ed4e6a4671e631e20f09034bcbad6d73ddd80efc0ec36cd7a7", func := "hostel/hostellaw07.FramesShares", spec := "framesShares", named := ["math/bits.deBruijn64tab"], apart := false, laid := [("math/bits.deBruijn64tab", laid_math_bits_deBruijn64tab)] }
def FramesSharesSaid : Prop := framesSharesRow.holds Tryd.pinned (OpenSpec.ofChange framesSharesSpec)

/-- ITS FALSE NEIGHBOUR: 'it returns false'. Refute it at one input. -/
def framesSharesWrong : ChangeSpec := { name := "framesShares", fn := fun _ => fun
  | [d1, d2, d3, d4] => { results := [.lit (.bool false)], args := [d1, d2, d3, d4] }
  | _ => none }
def FramesSharesWrongFalsely : Prop := framesSharesRow.holds Tryd.pinned (OpenSpec.ofChange framesSharesWrong)

/-- 'hostellaw07.FramesPlays': WHATEVER THE INPUT: true; the input reads as it did. -/
def framesPlaysSpec : ChangeSpec := { name := "framesPlays", fn := fun _ => fun
  | [d1, d2] => { results := [.lit (.bool true)], args := [d1, d2] }
  | _ => none }
def framesPlaysRow : OpenClaim := { program := "ytgikfjfinjcfmaadoor", sum := "338e52756948e9ed4e6a4671e631e20f09034bcbad6d73ddd80efc0ec36cd7a7", func := "hostel/hostellaw07.FramesPlays", spec := "framesPlays", named := ["math/bits.deBruijn64tab"], apart := false, laid := [("math/bits.deBruijn64tab", laid_math_bits_deBruijn64tab)] }
def FramesPlaysSaid : Prop := framesPlaysRow.holds Tryd.pinned (OpenSpec.ofChange framesPlaysSpec)

/-- ITS FALSE NEIGHBOUR: 'it returns false'. Refute it at one input. -/
def framesPlaysWrong : ChangeSpec := { name := "framesPlays", fn := fun _ => fun
  | [d1, d2] => { results := [.lit (.bool false)], args := [d1, d2] }
  | _ => none }
def FramesPlaysWrongFalsely : Prop := framesPlaysRow.holds Tryd.pinned (OpenSpec.ofChange framesPlaysWrong)

/-- 'hostellaw07.FramesNil': WHATEVER THE INPUT: true; the input reads as it did. -/
def framesNilSpec : ChangeSpec := { name := "framesNil", fn := fun _ => fun
  | [d] => { results := [.lit (.bool true)], args := [d] }
  | _ => none }
def framesNilRow : OpenClaim := { program := "ytgikfjfinjcfmaadoor", sum := "338e52756948e9ed4e6a4671e631e20f09034bcbad6d73ddd80efc0ec36cd7a7", func := "hostel/hostellaw07.FramesNil", spec := "framesNil", named := ["math/bits.deBruijn64tab"], apart := false, laid := [("math/bits.deBruijn64tab", laid_math_bits_deBruijn64tab)] }
def FramesNilSaid : Prop := framesNilRow.holds Tryd.pinned (OpenSpec.ofChange framesNilSpec)

/-- ITS FALSE NEIGHBOUR: 'it returns false'. Refute it at one input. -/
def framesNilWrong : ChangeSpec := { name := "framesNil", fn := fun _ => fun
  | [d] => { results := [.lit (.bool false)], args := [d] }
  | _ => none }
def FramesNilWrongFalsely : Prop := framesNilRow.holds Tryd.pinned (OpenSpec.ofChange framesNilWrong)

/-- 'hostellaw07.FramesFresh': WHATEVER THE INPUT: true; the input reads as it did. -/
def framesFreshSpec : ChangeSpec := { name := "framesFresh", fn := fun _ => fun
  | [d1, d2, d3, d4] => { results := [.lit (.bool true)], args := [d1, d2, d3, d4] }
  | _ => none }
def framesFreshRow : OpenClaim := { program := "ytgikfjfinjcfmaadoor", sum := "338e52756948e9ed4e6a4671e631e20f09034bcbad6d73ddd80efc0ec36cd7a7", func := "hostel/hostellaw07.FramesFresh", spec := "framesFresh", named := ["math/bits.deBruijn64tab"], apart := false, laid := [("math/bits.deBruijn64tab", laid_math_bits_deBruijn64tab)] }
def FramesFreshSaid : Prop := framesFreshRow.holds Tryd.pinned (OpenSpec.ofChange framesFreshSpec)

/-- ITS FALSE NEIGHBOUR: 'it returns false'. Refute it at one input. -/
def framesFreshWrong : ChangeSpec := { name := "framesFresh", fn := fun _ => fun
  | [d1, d2, d3, d4] => { results := [.lit (.bool false)], args := [d1, d2, d3, d4] }
  | _ => none }
def FramesFreshWrongFalsely : Prop := framesFreshRow.holds Tryd.pinned (OpenSpec.ofChange framesFreshWrong)

/-- 'hostellaw07.FramesCopies': WHATEVER THE INPUT: true; the input reads as it did. -/
def framesCopiesSpec : ChangeSpec := { name := "framesCopies", fn := fun _ => fun
  | [d1, d2, d3, d4, d5] => { results := [.lit (.bool true)], args := [d1, d2, d3, d4, d5] }
  | _ => none }
def framesCopiesRow : OpenClaim := { program := "ytgikfjfinjcfmaadoor", sum := "338e52756948e9ed4e6a4671e631e20f09034bcbad6d73ddd80efc0ec36cd7a7", func := "hostel/hostellaw07.FramesCopies", spec := "framesCopies", named := ["math/bits.deBruijn64tab"], apart := false, laid := [("math/bits.deBruijn64tab", laid_math_bits_deBruijn64tab)] }
def FramesCopiesSaid : Prop := framesCopiesRow.holds Tryd.pinned (OpenSpec.ofChange framesCopiesSpec)

/-- ITS FALSE NEIGHBOUR: 'it returns false'. Refute it at one input. -/
def framesCopiesWrong : ChangeSpec := { name := "framesCopies", fn := fun _ => fun
  | [d1, d2, d3, d4, d5] => { results := [.lit (.bool false)], args := [d1, d2, d3, d4, d5] }
  | _ => none }
def FramesCopiesWrongFalsely : Prop := framesCopiesRow.holds Tryd.pinned (OpenSpec.ofChange framesCopiesWrong)

/- THE SECOND FORM. 'bulk': how many values and letters a reading holds, each counted each time it is reached (what is shared counts as often as it is met; a slice's spare places count too). A statement '..UptoSaid' is the law's where the arguments, and the package variables that the reading takes, are together of bulk at most 1048576: NARROWER than '..Said'. Prove '..Said' where nothing that the law and all that it calls make is longer than what came in: it says more and counts as full. Else prove '..UptoSaid'. A law counts once. -/
mutual
def uptoBulk {H : Type} : DataW H → Nat
  | .lit (.string bytes) => bytes.length + 1
  | .lit _ => 1
  | .nil => 1
  | .ptr d => uptoBulk d + 1
  | .slice elems spare => uptoBulkAll elems + uptoBulkAll spare + 1
  | .agg parts => uptoBulkAll parts + 1
  | .iface _ d => uptoBulk d + 1
  | .map entries => uptoBulkEntries entries + 1
  | .held _ => 1
def uptoBulkAll {H : Type} : List (DataW H) → Nat
  | [] => 0
  | d :: r => uptoBulk d + uptoBulkAll r
def uptoBulkEntries {H : Type} : List (Lit × DataW H) → Nat
  | [] => 0
  | x :: r => uptoBulkEntry x + uptoBulkEntries r
def uptoBulkEntry {H : Type} : Lit × DataW H → Nat
  | (.string bytes, d) => bytes.length + uptoBulk d + 1
  | (_, d) => uptoBulk d + 1
 end
def uptoSmall : (H : Type) → List (DataW H) → Bool := fun _ ds => decide (uptoBulkAll ds ≤ 1048576)
def OpenSpec.upto (s : _root_.Go.ChangeSpec) : _root_.Go.OpenSpec := { _root_.Go.OpenSpec.ofChange s with cond := some uptoSmall }

/-- 'hostellaw07.FramesNews', WHERE WHAT IT READS IS OF BULK AT MOST 1048576: true; the input reads as it did. -/
def framesNewsUptoRow : OpenClaim := { program := "ytgikfjfinjcfmaadoor", sum := "338e52756948e9ed4e6a4671e631e20f09034bcbad6d73ddd80efc0ec36cd7a7", func := "hostel/hostellaw07.FramesNews", spec := "framesNews", named := ["math/bits.deBruijn64tab"], apart := false, laid := [("math/bits.deBruijn64tab", laid_math_bits_deBruijn64tab)], narrowed := true }
def FramesNewsUptoSaid : Prop := framesNewsUptoRow.holds Tryd.pinned (OpenSpec.upto framesNewsSpec)

/-- 'hostellaw07.FramesAll', WHERE WHAT IT READS IS OF BULK AT MOST 1048576: true; the input reads as it did. -/
def framesAllUptoRow : OpenClaim := { program := "ytgikfjfinjcfmaadoor", sum := "338e52756948e9ed4e6a4671e631e20f09034bcbad6d73ddd80efc0ec36cd7a7", func := "hostel/hostellaw07.FramesAll", spec := "framesAll", named := ["math/bits.deBruijn64tab"], apart := false, laid := [("math/bits.deBruijn64tab", laid_math_bits_deBruijn64tab)], narrowed := true }
def FramesAllUptoSaid : Prop := framesAllUptoRow.holds Tryd.pinned (OpenSpec.upto framesAllSpec)

/-- 'hostellaw07.FramesShares', WHERE WHAT IT READS IS OF BULK AT MOST 1048576: true; the input reads as it did. -/
def framesSharesUptoRow : OpenClaim := { program := "ytgikfjfinjcfmaadoor", sum := "338e52756948e9ed4e6a4671e631e20f09034bcbad6d73ddd80efc0ec36cd7a7", func := "hostel/hostellaw07.FramesShares", spec := "framesShares", named := ["math/bits.deBruijn64tab"], apart := false, laid := [("math/bits.deBruijn64tab", laid_math_bits_deBruijn64tab)], narrowed := true }
def FramesSharesUptoSaid : Prop := framesSharesUptoRow.holds Tryd.pinned (OpenSpec.upto framesSharesSpec)

/-- 'hostellaw07.FramesPlays', WHERE WHAT IT READS IS OF BULK AT MOST 1048576: true; the input reads as it did. -/
def framesPlaysUptoRow : OpenClaim := { program := "ytgikfjfinjcfmaadoor", sum := "338e52756948e9ed4e6a4671e631e20f09034bcbad6d73ddd80efc0ec36cd7a7", func := "hostel/hostellaw07.FramesPlays", spec := "framesPlays", named := ["math/bits.deBruijn64tab"], apart := false, laid := [("math/bits.deBruijn64tab", laid_math_bits_deBruijn64tab)], narrowed := true }
def FramesPlaysUptoSaid : Prop := framesPlaysUptoRow.holds Tryd.pinned (OpenSpec.upto framesPlaysSpec)

/-- 'hostellaw07.FramesNil', WHERE WHAT IT READS IS OF BULK AT MOST 1048576: true; the input reads as it did. -/
def framesNilUptoRow : OpenClaim := { program := "ytgikfjfinjcfmaadoor", sum := "338e52756948e9ed4e6a4671e631e20f09034bcbad6d73ddd80efc0ec36cd7a7", func := "hostel/hostellaw07.FramesNil", spec := "framesNil", named := ["math/bits.deBruijn64tab"], apart := false, laid := [("math/bits.deBruijn64tab", laid_math_bits_deBruijn64tab)], narrowed := true }
def FramesNilUptoSaid : Prop := framesNilUptoRow.holds Tryd.pinned (OpenSpec.upto framesNilSpec)

/-- 'hostellaw07.FramesFresh', WHERE WHAT IT READS IS OF BULK AT MOST 1048576: true; the input reads as it did. -/
def framesFreshUptoRow : OpenClaim := { program := "ytgikfjfinjcfmaadoor", sum := "338e52756948e9ed4e6a4671e631e20f09034bcbad6d73ddd80efc0ec36cd7a7", func := "hostel/hostellaw07.FramesFresh", spec := "framesFresh", named := ["math/bits.deBruijn64tab"], apart := false, laid := [("math/bits.deBruijn64tab", laid_math_bits_deBruijn64tab)], narrowed := true }
def FramesFreshUptoSaid : Prop := framesFreshUptoRow.holds Tryd.pinned (OpenSpec.upto framesFreshSpec)

/-- 'hostellaw07.FramesCopies', WHERE WHAT IT READS IS OF BULK AT MOST 1048576: true; the input reads as it did. -/
def framesCopiesUptoRow : OpenClaim := { program := "ytgikfjfinjcfmaadoor", sum := "338e52756948e9ed4e6a4671e631e20f09034bcbad6d73ddd80efc0ec36cd7a7", func := "hostel/hostellaw07.FramesCopies", spec := "framesCopies", named := ["math/bits.deBruijn64tab"], apart := false, laid := [("math/bits.deBruijn64tab", laid_math_bits_deBruijn64tab)], narrowed := true }
def FramesCopiesUptoSaid : Prop := framesCopiesUptoRow.holds Tryd.pinned (OpenSpec.upto framesCopiesSpec)

end Rows
end Go.Proofs.YtgikfjfinjcfmaaDoor
