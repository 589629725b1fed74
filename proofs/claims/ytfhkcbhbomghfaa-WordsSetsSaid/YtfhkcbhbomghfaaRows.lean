/-
  No cell of these rows narrows 'for every input' (looked for: loops, veiled, ifaces, maps, wideKeys, modest, calm, conditions, laid).
  DERIVED. THE GIVEN ROWS OF THIS SEAT. 6 by the template 'for every input the law returns true; each argument reads behind the call as it read before'; 0 by the template 'total and deterministic' (their statements: YtfhkcbhbomghfaaTotals.lean).
  GIVEN WITH THE SEED: the statements are not yours to turn. If you find one false, say at which input.
  Laid BY PROGRAM, IN A SANDBOX (cutbox-rows.mjs): the forced cells as the released guide's own fill.sh prints them over the translation e62743a6df3c355f… (all of the seat's roots in one cut). By AI agents, Wed Nov 11 2026. No macro, syntax, notation, axiom, sorry.
-/
import Derived.Test.YtfhkcbhbomghfaaChecked
import GoSem.Claim
import GoSem.ClaimJoined
import GoSem.ClaimMapViews
import Derived.JoinedTies
import Derived.KernelRfl
namespace Go.Proofs.Ytfhkcbhbomghfaa
/- THE CELL 'sum', in the pinned program and in every row, IS THE sha256 OF THE DUMP (.gsa) THAT YtfhkcbhbomghfaaProg.lean LOADS. Nothing in Lean hashes anything: it is a label: what it is worth is what the hold of that sum in a sandbox is worth. -/
noncomputable def Try.pinned : Pinned := { name := "ytfhkcbhbomghfaa", sum := "e62743a6df3c355f0319008fc7635c5c647ada2d0320abb42ff4c1d684d39297", checked := Try.checked }
namespace Rows
def none {H : Type} : Left H := { results := [], args := [] }

/-- 'hostellaw01.WordsGets': WHATEVER THE INPUT: true; the input reads as it did. -/
def wordsGetsSpec : ChangeSpec := { name := "wordsGets", fn := fun _ => fun
  | [d1, d2, d3] => { results := [.lit (.bool true)], args := [d1, d2, d3] }
  | _ => none }
def wordsGetsRow : OpenClaim := { program := "ytfhkcbhbomghfaa", sum := "e62743a6df3c355f0319008fc7635c5c647ada2d0320abb42ff4c1d684d39297", func := "hostel/hostellaw01.WordsGets", spec := "wordsGets", apart := false }
def WordsGetsSaid : Prop := wordsGetsRow.holds Try.pinned (OpenSpec.ofChange wordsGetsSpec)

/-- ITS FALSE NEIGHBOUR: 'it returns false'. Refute it at one input. -/
def wordsGetsWrong : ChangeSpec := { name := "wordsGets", fn := fun _ => fun
  | [d1, d2, d3] => { results := [.lit (.bool false)], args := [d1, d2, d3] }
  | _ => none }
def WordsGetsWrongFalsely : Prop := wordsGetsRow.holds Try.pinned (OpenSpec.ofChange wordsGetsWrong)

/-- 'hostellaw01.WordsSets': WHATEVER THE INPUT: true; the input reads as it did. -/
def wordsSetsSpec : ChangeSpec := { name := "wordsSets", fn := fun _ => fun
  | [d] => { results := [.lit (.bool true)], args := [d] }
  | _ => none }
def wordsSetsRow : OpenClaim := { program := "ytfhkcbhbomghfaa", sum := "e62743a6df3c355f0319008fc7635c5c647ada2d0320abb42ff4c1d684d39297", func := "hostel/hostellaw01.WordsSets", spec := "wordsSets", apart := false }
def WordsSetsSaid : Prop := wordsSetsRow.holds Try.pinned (OpenSpec.ofChange wordsSetsSpec)

/-- ITS FALSE NEIGHBOUR: 'it returns false'. Refute it at one input. -/
def wordsSetsWrong : ChangeSpec := { name := "wordsSets", fn := fun _ => fun
  | [d] => { results := [.lit (.bool false)], args := [d] }
  | _ => none }
def WordsSetsWrongFalsely : Prop := wordsSetsRow.holds Try.pinned (OpenSpec.ofChange wordsSetsWrong)

/-- 'hostellaw01.WordsAdds': WHATEVER THE INPUT: true; the input reads as it did. -/
def wordsAddsSpec : ChangeSpec := { name := "wordsAdds", fn := fun _ => fun
  | [d1, d2, d3] => { results := [.lit (.bool true)], args := [d1, d2, d3] }
  | _ => none }
def wordsAddsRow : OpenClaim := { program := "ytfhkcbhbomghfaa", sum := "e62743a6df3c355f0319008fc7635c5c647ada2d0320abb42ff4c1d684d39297", func := "hostel/hostellaw01.WordsAdds", spec := "wordsAdds", apart := false }
def WordsAddsSaid : Prop := wordsAddsRow.holds Try.pinned (OpenSpec.ofChange wordsAddsSpec)

/-- ITS FALSE NEIGHBOUR: 'it returns false'. Refute it at one input. -/
def wordsAddsWrong : ChangeSpec := { name := "wordsAdds", fn := fun _ => fun
  | [d1, d2, d3] => { results := [.lit (.bool false)], args := [d1, d2, d3] }
  | _ => none }
def WordsAddsWrongFalsely : Prop := wordsAddsRow.holds Try.pinned (OpenSpec.ofChange wordsAddsWrong)

/-- 'hostellaw01.WordsBack': WHATEVER THE INPUT: true; the input reads as it did. -/
def wordsBackSpec : ChangeSpec := { name := "wordsBack", fn := fun _ => fun
  | [d] => { results := [.lit (.bool true)], args := [d] }
  | _ => none }
def wordsBackRow : OpenClaim := { program := "ytfhkcbhbomghfaa", sum := "e62743a6df3c355f0319008fc7635c5c647ada2d0320abb42ff4c1d684d39297", func := "hostel/hostellaw01.WordsBack", spec := "wordsBack", apart := false }
def WordsBackSaid : Prop := wordsBackRow.holds Try.pinned (OpenSpec.ofChange wordsBackSpec)

/-- ITS FALSE NEIGHBOUR: 'it returns false'. Refute it at one input. -/
def wordsBackWrong : ChangeSpec := { name := "wordsBack", fn := fun _ => fun
  | [d] => { results := [.lit (.bool false)], args := [d] }
  | _ => none }
def WordsBackWrongFalsely : Prop := wordsBackRow.holds Try.pinned (OpenSpec.ofChange wordsBackWrong)

/-- 'hostellaw01.WordsPages': WHATEVER THE INPUT: true; the input reads as it did. -/
def wordsPagesSpec : ChangeSpec := { name := "wordsPages", fn := fun _ => fun
  | [d1, d2] => { results := [.lit (.bool true)], args := [d1, d2] }
  | _ => none }
def wordsPagesRow : OpenClaim := { program := "ytfhkcbhbomghfaa", sum := "e62743a6df3c355f0319008fc7635c5c647ada2d0320abb42ff4c1d684d39297", func := "hostel/hostellaw01.WordsPages", spec := "wordsPages", apart := false }
def WordsPagesSaid : Prop := wordsPagesRow.holds Try.pinned (OpenSpec.ofChange wordsPagesSpec)

/-- ITS FALSE NEIGHBOUR: 'it returns false'. Refute it at one input. -/
def wordsPagesWrong : ChangeSpec := { name := "wordsPages", fn := fun _ => fun
  | [d1, d2] => { results := [.lit (.bool false)], args := [d1, d2] }
  | _ => none }
def WordsPagesWrongFalsely : Prop := wordsPagesRow.holds Try.pinned (OpenSpec.ofChange wordsPagesWrong)

/-- 'hostellaw01.WordsParts': WHATEVER THE INPUT: true; the input reads as it did. -/
def wordsPartsSpec : ChangeSpec := { name := "wordsParts", fn := fun _ => fun
  | [d1, d2, d3] => { results := [.lit (.bool true)], args := [d1, d2, d3] }
  | _ => none }
def wordsPartsRow : OpenClaim := { program := "ytfhkcbhbomghfaa", sum := "e62743a6df3c355f0319008fc7635c5c647ada2d0320abb42ff4c1d684d39297", func := "hostel/hostellaw01.WordsParts", spec := "wordsParts", apart := false }
def WordsPartsSaid : Prop := wordsPartsRow.holds Try.pinned (OpenSpec.ofChange wordsPartsSpec)

/-- ITS FALSE NEIGHBOUR: 'it returns false'. Refute it at one input. -/
def wordsPartsWrong : ChangeSpec := { name := "wordsParts", fn := fun _ => fun
  | [d1, d2, d3] => { results := [.lit (.bool false)], args := [d1, d2, d3] }
  | _ => none }
def WordsPartsWrongFalsely : Prop := wordsPartsRow.holds Try.pinned (OpenSpec.ofChange wordsPartsWrong)

/- THE SECOND FORM. 'bulk': how many values and letters a reading holds, each counted each time it is reached (what is shared counts as often as it is met; a slice's spare places count too). A statement '..UptoSaid' is the law's where the arguments, and the package variables that the reading takes, are together of bulk at most 1048576: NARROWER than '..Said'. Prove '..Said' where nothing that the law and all that it calls make is longer than what came in: it says more and counts as full. Else prove '..UptoSaid'. A law counts once. -/
mutual
def uptoBulk {H : Type} : DataW H → Nat
  | .lit (.string bytes) => bytes.length + 1
  | .lit _ => 1
  | .nil => 1
  | .ptr d => uptoBulk d + 1
  | .slice elems spare => uptoBulkAll elems + uptoBulkAll spare + 1
  | .agg parts => uptoBulkAll parts + 1
  | .iface _ d => uptoBulk d + 1
  | .map entries => uptoBulkEntries entries + 1
  | .held _ => 1
def uptoBulkAll {H : Type} : List (DataW H) → Nat
  | [] => 0
  | d :: r => uptoBulk d + uptoBulkAll r
def uptoBulkEntries {H : Type} : List (Lit × DataW H) → Nat
  | [] => 0
  | x :: r => uptoBulkEntry x + uptoBulkEntries r
def uptoBulkEntry {H : Type} : Lit × DataW H → Nat
  | (.string bytes, d) => bytes.length + uptoBulk d + 1
  | (_, d) => uptoBulk d + 1
 end
def uptoSmall : (H : Type) → List (DataW H) → Bool := fun _ ds => decide (uptoBulkAll ds ≤ 1048576)
def OpenSpec.upto (s : _root_.Go.ChangeSpec) : _root_.Go.OpenSpec := { _root_.Go.OpenSpec.ofChange s with cond := some uptoSmall }

/-- 'hostellaw01.WordsGets', WHERE WHAT IT READS IS OF BULK AT MOST 1048576: true; the input reads as it did. -/
def wordsGetsUptoRow : OpenClaim := { program := "ytfhkcbhbomghfaa", sum := "e62743a6df3c355f0319008fc7635c5c647ada2d0320abb42ff4c1d684d39297", func := "hostel/hostellaw01.WordsGets", spec := "wordsGets", apart := false, narrowed := true }
def WordsGetsUptoSaid : Prop := wordsGetsUptoRow.holds Try.pinned (OpenSpec.upto wordsGetsSpec)

/-- 'hostellaw01.WordsSets', WHERE WHAT IT READS IS OF BULK AT MOST 1048576: true; the input reads as it did. -/
def wordsSetsUptoRow : OpenClaim := { program := "ytfhkcbhbomghfaa", sum := "e62743a6df3c355f0319008fc7635c5c647ada2d0320abb42ff4c1d684d39297", func := "hostel/hostellaw01.WordsSets", spec := "wordsSets", apart := false, narrowed := true }
def WordsSetsUptoSaid : Prop := wordsSetsUptoRow.holds Try.pinned (OpenSpec.upto wordsSetsSpec)

/-- 'hostellaw01.WordsAdds', WHERE WHAT IT READS IS OF BULK AT MOST 1048576: true; the input reads as it did. -/
def wordsAddsUptoRow : OpenClaim := { program := "ytfhkcbhbomghfaa", sum := "e62743a6df3c355f0319008fc7635c5c647ada2d0320abb42ff4c1d684d39297", func := "hostel/hostellaw01.WordsAdds", spec := "wordsAdds", apart := false, narrowed := true }
def WordsAddsUptoSaid : Prop := wordsAddsUptoRow.holds Try.pinned (OpenSpec.upto wordsAddsSpec)

/-- 'hostellaw01.WordsBack', WHERE WHAT IT READS IS OF BULK AT MOST 1048576: true; the input reads as it did. -/
def wordsBackUptoRow : OpenClaim := { program := "ytfhkcbhbomghfaa", sum := "e62743a6df3c355f0319008fc7635c5c647ada2d0320abb42ff4c1d684d39297", func := "hostel/hostellaw01.WordsBack", spec := "wordsBack", apart := false, narrowed := true }
def WordsBackUptoSaid : Prop := wordsBackUptoRow.holds Try.pinned (OpenSpec.upto wordsBackSpec)

/-- 'hostellaw01.WordsPages', WHERE WHAT IT READS IS OF BULK AT MOST 1048576: true; the input reads as it did. -/
def wordsPagesUptoRow : OpenClaim := { program := "ytfhkcbhbomghfaa", sum := "e62743a6df3c355f0319008fc7635c5c647ada2d0320abb42ff4c1d684d39297", func := "hostel/hostellaw01.WordsPages", spec := "wordsPages", apart := false, narrowed := true }
def WordsPagesUptoSaid : Prop := wordsPagesUptoRow.holds Try.pinned (OpenSpec.upto wordsPagesSpec)

/-- 'hostellaw01.WordsParts', WHERE WHAT IT READS IS OF BULK AT MOST 1048576: true; the input reads as it did. -/
def wordsPartsUptoRow : OpenClaim := { program := "ytfhkcbhbomghfaa", sum := "e62743a6df3c355f0319008fc7635c5c647ada2d0320abb42ff4c1d684d39297", func := "hostel/hostellaw01.WordsParts", spec := "wordsParts", apart := false, narrowed := true }
def WordsPartsUptoSaid : Prop := wordsPartsUptoRow.holds Try.pinned (OpenSpec.upto wordsPartsSpec)

end Rows
end Go.Proofs.Ytfhkcbhbomghfaa
