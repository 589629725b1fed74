/-
  No cell of these rows narrows 'for every input' (looked for: loops, veiled, ifaces, maps, wideKeys, modest, calm, conditions, laid).
  DERIVED. THE GIVEN ROWS OF THIS SEAT. 4 by the template 'for every input the law returns true; each argument reads behind the call as it read before'; 0 by the template 'total and deterministic' (their statements: YtaeccpoljenjmaaTotals.lean).
  GIVEN WITH THE SEED: the statements are not yours to turn. If you find one false, say at which input.
  Laid BY PROGRAM, IN A SANDBOX (cutbox-rows.mjs): the forced cells as the released guide's own fill.sh prints them over the translation 238495e5cab5403a… (all of the seat's roots in one cut). By AI agents, Wed Nov 11 2026. No macro, syntax, notation, axiom, sorry.
-/
import Derived.Test.YtaeccpoljenjmaaChecked
import GoSem.Claim
import GoSem.ClaimJoined
import GoSem.ClaimMapViews
import Derived.JoinedTies
import Derived.KernelRfl
namespace Go.Proofs.Ytaeccpoljenjmaa
/- THE CELL 'sum', in the pinned program and in every row, IS THE sha256 OF THE DUMP (.gsa) THAT YtaeccpoljenjmaaProg.lean LOADS. Nothing in Lean hashes anything: it is a label: what it is worth is what the hold of that sum in a sandbox is worth. -/
noncomputable def Try.pinned : Pinned := { name := "ytaeccpoljenjmaa", sum := "238495e5cab5403afadeacb8cd98688ee01ae8e372c9ac8ecdb40fbda19710d2", checked := Try.checked }
namespace Rows
def none {H : Type} : Left H := { results := [], args := [] }

/-- 'hostellaw05.FdsLowest': WHATEVER THE INPUT: true; the input reads as it did. -/
def fdsLowestSpec : ChangeSpec := { name := "fdsLowest", fn := fun _ => fun
  | [d] => { results := [.lit (.bool true)], args := [d] }
  | _ => none }
def fdsLowestRow : OpenClaim := { program := "ytaeccpoljenjmaa", sum := "238495e5cab5403afadeacb8cd98688ee01ae8e372c9ac8ecdb40fbda19710d2", func := "hostel/hostellaw05.FdsLowest", spec := "fdsLowest", unfollowed := true, recurses := true, apart := false }
def FdsLowestSaid : Prop := fdsLowestRow.holds Try.pinned (OpenSpec.ofChange fdsLowestSpec)

/-- ITS FALSE NEIGHBOUR: 'it returns false'. Refute it at one input. -/
def fdsLowestWrong : ChangeSpec := { name := "fdsLowest", fn := fun _ => fun
  | [d] => { results := [.lit (.bool false)], args := [d] }
  | _ => none }
def FdsLowestWrongFalsely : Prop := fdsLowestRow.holds Try.pinned (OpenSpec.ofChange fdsLowestWrong)

/-- 'hostellaw05.FdsPlays': WHATEVER THE INPUT: true; the input reads as it did. -/
def fdsPlaysSpec : ChangeSpec := { name := "fdsPlays", fn := fun _ => fun
  | [d] => { results := [.lit (.bool true)], args := [d] }
  | _ => none }
def fdsPlaysRow : OpenClaim := { program := "ytaeccpoljenjmaa", sum := "238495e5cab5403afadeacb8cd98688ee01ae8e372c9ac8ecdb40fbda19710d2", func := "hostel/hostellaw05.FdsPlays", spec := "fdsPlays", unfollowed := true, recurses := true, apart := false }
def FdsPlaysSaid : Prop := fdsPlaysRow.holds Try.pinned (OpenSpec.ofChange fdsPlaysSpec)

/-- ITS FALSE NEIGHBOUR: 'it returns false'. Refute it at one input. -/
def fdsPlaysWrong : ChangeSpec := { name := "fdsPlays", fn := fun _ => fun
  | [d] => { results := [.lit (.bool false)], args := [d] }
  | _ => none }
def FdsPlaysWrongFalsely : Prop := fdsPlaysRow.holds Try.pinned (OpenSpec.ofChange fdsPlaysWrong)

/-- 'hostellaw05.FdsSweeps': WHATEVER THE INPUT: true; the input reads as it did. -/
def fdsSweepsSpec : ChangeSpec := { name := "fdsSweeps", fn := fun _ => fun
  | [d] => { results := [.lit (.bool true)], args := [d] }
  | _ => none }
def fdsSweepsRow : OpenClaim := { program := "ytaeccpoljenjmaa", sum := "238495e5cab5403afadeacb8cd98688ee01ae8e372c9ac8ecdb40fbda19710d2", func := "hostel/hostellaw05.FdsSweeps", spec := "fdsSweeps", unfollowed := true, recurses := true, apart := false }
def FdsSweepsSaid : Prop := fdsSweepsRow.holds Try.pinned (OpenSpec.ofChange fdsSweepsSpec)

/-- ITS FALSE NEIGHBOUR: 'it returns false'. Refute it at one input. -/
def fdsSweepsWrong : ChangeSpec := { name := "fdsSweeps", fn := fun _ => fun
  | [d] => { results := [.lit (.bool false)], args := [d] }
  | _ => none }
def FdsSweepsWrongFalsely : Prop := fdsSweepsRow.holds Try.pinned (OpenSpec.ofChange fdsSweepsWrong)

/-- 'hostellaw05.FdsNil': WHATEVER THE INPUT: true; the input reads as it did. -/
def fdsNilSpec : ChangeSpec := { name := "fdsNil", fn := fun _ => fun
  | [d] => { results := [.lit (.bool true)], args := [d] }
  | _ => none }
def fdsNilRow : OpenClaim := { program := "ytaeccpoljenjmaa", sum := "238495e5cab5403afadeacb8cd98688ee01ae8e372c9ac8ecdb40fbda19710d2", func := "hostel/hostellaw05.FdsNil", spec := "fdsNil", unfollowed := true, recurses := true, apart := false }
def FdsNilSaid : Prop := fdsNilRow.holds Try.pinned (OpenSpec.ofChange fdsNilSpec)

/-- ITS FALSE NEIGHBOUR: 'it returns false'. Refute it at one input. -/
def fdsNilWrong : ChangeSpec := { name := "fdsNil", fn := fun _ => fun
  | [d] => { results := [.lit (.bool false)], args := [d] }
  | _ => none }
def FdsNilWrongFalsely : Prop := fdsNilRow.holds Try.pinned (OpenSpec.ofChange fdsNilWrong)

/- THE SECOND FORM. 'bulk': how many values and letters a reading holds, each counted each time it is reached (what is shared counts as often as it is met; a slice's spare places count too). A statement '..UptoSaid' is the law's where the arguments, and the package variables that the reading takes, are together of bulk at most 1048576: NARROWER than '..Said'. Prove '..Said' where nothing that the law and all that it calls make is longer than what came in: it says more and counts as full. Else prove '..UptoSaid'. A law counts once. -/
mutual
def uptoBulk {H : Type} : DataW H → Nat
  | .lit (.string bytes) => bytes.length + 1
  | .lit _ => 1
  | .nil => 1
  | .ptr d => uptoBulk d + 1
  | .slice elems spare => uptoBulkAll elems + uptoBulkAll spare + 1
  | .agg parts => uptoBulkAll parts + 1
  | .iface _ d => uptoBulk d + 1
  | .map entries => uptoBulkEntries entries + 1
  | .held _ => 1
def uptoBulkAll {H : Type} : List (DataW H) → Nat
  | [] => 0
  | d :: r => uptoBulk d + uptoBulkAll r
def uptoBulkEntries {H : Type} : List (Lit × DataW H) → Nat
  | [] => 0
  | x :: r => uptoBulkEntry x + uptoBulkEntries r
def uptoBulkEntry {H : Type} : Lit × DataW H → Nat
  | (.string bytes, d) => bytes.length + uptoBulk d + 1
  | (_, d) => uptoBulk d + 1
 end
def uptoSmall : (H : Type) → List (DataW H) → Bool := fun _ ds => decide (uptoBulkAll ds ≤ 1048576)
def OpenSpec.upto (s : _root_.Go.ChangeSpec) : _root_.Go.OpenSpec := { _root_.Go.OpenSpec.ofChange s with cond := some uptoSmall }

/-- 'hostellaw05.FdsLowest', WHERE WHAT IT READS IS OF BULK AT MOST 1048576: true; the input reads as it did. -/
def fdsLowestUptoRow : OpenClaim := { program := "ytaeccpoljenjmaa", sum := "238495e5cab5403afadeacb8cd98688ee01ae8e372c9ac8ecdb40fbda19710d2", func := "hostel/hostellaw05.FdsLowest", spec := "fdsLowest", unfollowed := true, recurses := true, apart := false, narrowed := true }
def FdsLowestUptoSaid : Prop := fdsLowestUptoRow.holds Try.pinned (OpenSpec.upto fdsLowestSpec)

/-- 'hostellaw05.FdsPlays', WHERE WHAT IT READS IS OF BULK AT MOST 1048576: true; the input reads as it did. -/
def fdsPlaysUptoRow : OpenClaim := { program := "ytaeccpoljenjmaa", sum := "238495e5cab5403afadeacb8cd98688ee01ae8e372c9ac8ecdb40fbda19710d2", func := "hostel/hostellaw05.FdsPlays", spec := "fdsPlays", unfollowed := true, recurses := true, apart := false, narrowed := true }
def FdsPlaysUptoSaid : Prop := fdsPlaysUptoRow.holds Try.pinned (OpenSpec.upto fdsPlaysSpec)

/-- 'hostellaw05.FdsSweeps', WHERE WHAT IT READS IS OF BULK AT MOST 1048576: true; the input reads as it did. -/
def fdsSweepsUptoRow : OpenClaim := { program := "ytaeccpoljenjmaa", sum := "238495e5cab5403afadeacb8cd98688ee01ae8e372c9ac8ecdb40fbda19710d2", func := "hostel/hostellaw05.FdsSweeps", spec := "fdsSweeps", unfollowed := true, recurses := true, apart := false, narrowed := true }
def FdsSweepsUptoSaid : Prop := fdsSweepsUptoRow.holds Try.pinned (OpenSpec.upto fdsSweepsSpec)

/-- 'hostellaw05.FdsNil', WHERE WHAT IT READS IS OF BULK AT MOST 1048576: true; the input reads as it did. -/
def fdsNilUptoRow : OpenClaim := { program := "ytaeccpoljenjmaa", sum := "238495e5cab5403afadeacb8cd98688ee01ae8e372c9ac8ecdb40fbda19710d2", func := "hostel/hostellaw05.FdsNil", spec := "fdsNil", unfollowed := true, recurses := true, apart := false, narrowed := true }
def FdsNilUptoSaid : Prop := fdsNilUptoRow.holds Try.pinned (OpenSpec.upto fdsNilSpec)

end Rows
end Go.Proofs.Ytaeccpoljenjmaa
