/-
  No cell of these rows narrows 'for every input' (looked for: loops, veiled, ifaces, maps, wideKeys, modest, calm, conditions, laid).
  DERIVED. THE GIVEN ROWS OF THIS SEAT. 4 by the template 'for every input the law returns true; each argument reads behind the call as it read before'; 0 by the template 'total and deterministic' (their statements: YtlenjpgkmikgpaaTotals.lean).
  GIVEN WITH THE SEED: the statements are not yours to turn. If you find one false, say at which input.
  Laid BY PROGRAM, IN A SANDBOX (cutbox-rows.mjs): the forced cells as the released guide's own fill.sh prints them over the translation 53b5971a5fd8969b… (all of the seat's roots in one cut). By AI agents, Wed Nov 11 2026. No macro, syntax, notation, axiom, sorry.
-/
import Derived.Test.YtlenjpgkmikgpaaChecked
import GoSem.Claim
import GoSem.ClaimJoined
import GoSem.ClaimMapViews
import Derived.JoinedTies
import Derived.KernelRfl
namespace Go.Proofs.Ytlenjpgkmikgpaa
/- THE CELL 'sum', in the pinned program and in every row, IS THE sha256 OF THE DUMP (.gsa) THAT YtlenjpgkmikgpaaProg.lean LOADS. Nothing in Lean hashes anything: it is a label: what it is worth is what the hold of that sum in a sandbox is worth. -/
noncomputable def Try.pinned : Pinned := { name := "ytlenjpgkmikgpaa", sum := "53b5971a5fd8969ba821f5102225b14e3f3bde9492695459bffb286b28711fb4", checked := Try.checked }
namespace Rows
def none {H : Type} : Left H := { results := [], args := [] }

/-- 'hostellaw19.RelocPatches': WHATEVER THE INPUT: true; the input reads as it did. -/
def relocPatchesSpec : ChangeSpec := { name := "relocPatches", fn := fun _ => fun
  | [d] => { results := [.lit (.bool true)], args := [d] }
  | _ => none }
def relocPatchesRow : OpenClaim := { program := "ytlenjpgkmikgpaa", sum := "53b5971a5fd8969ba821f5102225b14e3f3bde9492695459bffb286b28711fb4", func := "hostel/hostellaw19.RelocPatches", spec := "relocPatches", unfollowed := true, recurses := true, apart := false }
def RelocPatchesSaid : Prop := relocPatchesRow.holds Try.pinned (OpenSpec.ofChange relocPatchesSpec)

/-- ITS FALSE NEIGHBOUR: 'it returns false'. Refute it at one input. -/
def relocPatchesWrong : ChangeSpec := { name := "relocPatches", fn := fun _ => fun
  | [d] => { results := [.lit (.bool false)], args := [d] }
  | _ => none }
def RelocPatchesWrongFalsely : Prop := relocPatchesRow.holds Try.pinned (OpenSpec.ofChange relocPatchesWrong)

/-- 'hostellaw19.RelocWrites': WHATEVER THE INPUT: true; the input reads as it did. -/
def relocWritesSpec : ChangeSpec := { name := "relocWrites", fn := fun _ => fun
  | [d] => { results := [.lit (.bool true)], args := [d] }
  | _ => none }
def relocWritesRow : OpenClaim := { program := "ytlenjpgkmikgpaa", sum := "53b5971a5fd8969ba821f5102225b14e3f3bde9492695459bffb286b28711fb4", func := "hostel/hostellaw19.RelocWrites", spec := "relocWrites", unfollowed := true, recurses := true, apart := false }
def RelocWritesSaid : Prop := relocWritesRow.holds Try.pinned (OpenSpec.ofChange relocWritesSpec)

/-- ITS FALSE NEIGHBOUR: 'it returns false'. Refute it at one input. -/
def relocWritesWrong : ChangeSpec := { name := "relocWrites", fn := fun _ => fun
  | [d] => { results := [.lit (.bool false)], args := [d] }
  | _ => none }
def RelocWritesWrongFalsely : Prop := relocWritesRow.holds Try.pinned (OpenSpec.ofChange relocWritesWrong)

/-- 'hostellaw19.RelocEach': WHATEVER THE INPUT: true; the input reads as it did. -/
def relocEachSpec : ChangeSpec := { name := "relocEach", fn := fun _ => fun
  | [d1, d2, d3] => { results := [.lit (.bool true)], args := [d1, d2, d3] }
  | _ => none }
def relocEachRow : OpenClaim := { program := "ytlenjpgkmikgpaa", sum := "53b5971a5fd8969ba821f5102225b14e3f3bde9492695459bffb286b28711fb4", func := "hostel/hostellaw19.RelocEach", spec := "relocEach", unfollowed := true, recurses := true, apart := false }
def RelocEachSaid : Prop := relocEachRow.holds Try.pinned (OpenSpec.ofChange relocEachSpec)

/-- ITS FALSE NEIGHBOUR: 'it returns false'. Refute it at one input. -/
def relocEachWrong : ChangeSpec := { name := "relocEach", fn := fun _ => fun
  | [d1, d2, d3] => { results := [.lit (.bool false)], args := [d1, d2, d3] }
  | _ => none }
def RelocEachWrongFalsely : Prop := relocEachRow.holds Try.pinned (OpenSpec.ofChange relocEachWrong)

/-- 'hostellaw19.RelocMoved': WHATEVER THE INPUT: true; the input reads as it did. -/
def relocMovedSpec : ChangeSpec := { name := "relocMoved", fn := fun _ => fun
  | [d1, d2, d3] => { results := [.lit (.bool true)], args := [d1, d2, d3] }
  | _ => none }
def relocMovedRow : OpenClaim := { program := "ytlenjpgkmikgpaa", sum := "53b5971a5fd8969ba821f5102225b14e3f3bde9492695459bffb286b28711fb4", func := "hostel/hostellaw19.RelocMoved", spec := "relocMoved", unfollowed := true, recurses := true, apart := false }
def RelocMovedSaid : Prop := relocMovedRow.holds Try.pinned (OpenSpec.ofChange relocMovedSpec)

/-- ITS FALSE NEIGHBOUR: 'it returns false'. Refute it at one input. -/
def relocMovedWrong : ChangeSpec := { name := "relocMoved", fn := fun _ => fun
  | [d1, d2, d3] => { results := [.lit (.bool false)], args := [d1, d2, d3] }
  | _ => none }
def RelocMovedWrongFalsely : Prop := relocMovedRow.holds Try.pinned (OpenSpec.ofChange relocMovedWrong)

/- THE SECOND FORM. 'bulk': how many values and letters a reading holds, each counted each time it is reached (what is shared counts as often as it is met; a slice's spare places count too). A statement '..UptoSaid' is the law's where the arguments, and the package variables that the reading takes, are together of bulk at most 1048576: NARROWER than '..Said'. Prove '..Said' where nothing that the law and all that it calls make is longer than what came in: it says more and counts as full. Else prove '..UptoSaid'. A law counts once. -/
mutual
def uptoBulk {H : Type} : DataW H → Nat
  | .lit (.string bytes) => bytes.length + 1
  | .lit _ => 1
  | .nil => 1
  | .ptr d => uptoBulk d + 1
  | .slice elems spare => uptoBulkAll elems + uptoBulkAll spare + 1
  | .agg parts => uptoBulkAll parts + 1
  | .iface _ d => uptoBulk d + 1
  | .map entries => uptoBulkEntries entries + 1
  | .held _ => 1
def uptoBulkAll {H : Type} : List (DataW H) → Nat
  | [] => 0
  | d :: r => uptoBulk d + uptoBulkAll r
def uptoBulkEntries {H : Type} : List (Lit × DataW H) → Nat
  | [] => 0
  | x :: r => uptoBulkEntry x + uptoBulkEntries r
def uptoBulkEntry {H : Type} : Lit × DataW H → Nat
  | (.string bytes, d) => bytes.length + uptoBulk d + 1
  | (_, d) => uptoBulk d + 1
 end
def uptoSmall : (H : Type) → List (DataW H) → Bool := fun _ ds => decide (uptoBulkAll ds ≤ 1048576)
def OpenSpec.upto (s : _root_.Go.ChangeSpec) : _root_.Go.OpenSpec := { _root_.Go.OpenSpec.ofChange s with cond := some uptoSmall }

/-- 'hostellaw19.RelocPatches', WHERE WHAT IT READS IS OF BULK AT MOST 1048576: true; the input reads as it did. -/
def relocPatchesUptoRow : OpenClaim := { program := "ytlenjpgkmikgpaa", sum := "53b5971a5fd8969ba821f5102225b14e3f3bde9492695459bffb286b28711fb4", func := "hostel/hostellaw19.RelocPatches", spec := "relocPatches", unfollowed := true, recurses := true, apart := false, narrowed := true }
def RelocPatchesUptoSaid : Prop := relocPatchesUptoRow.holds Try.pinned (OpenSpec.upto relocPatchesSpec)

/-- 'hostellaw19.RelocWrites', WHERE WHAT IT READS IS OF BULK AT MOST 1048576: true; the input reads as it did. -/
def relocWritesUptoRow : OpenClaim := { program := "ytlenjpgkmikgpaa", sum := "53b5971a5fd8969ba821f5102225b14e3f3bde9492695459bffb286b28711fb4", func := "hostel/hostellaw19.RelocWrites", spec := "relocWrites", unfollowed := true, recurses := true, apart := false, narrowed := true }
def RelocWritesUptoSaid : Prop := relocWritesUptoRow.holds Try.pinned (OpenSpec.upto relocWritesSpec)

/-- 'hostellaw19.RelocEach', WHERE WHAT IT READS IS OF BULK AT MOST 1048576: true; the input reads as it did. -/
def relocEachUptoRow : OpenClaim := { program := "ytlenjpgkmikgpaa", sum := "53b5971a5fd8969ba821f5102225b14e3f3bde9492695459bffb286b28711fb4", func := "hostel/hostellaw19.RelocEach", spec := "relocEach", unfollowed := true, recurses := true, apart := false, narrowed := true }
def RelocEachUptoSaid : Prop := relocEachUptoRow.holds Try.pinned (OpenSpec.upto relocEachSpec)

/-- 'hostellaw19.RelocMoved', WHERE WHAT IT READS IS OF BULK AT MOST 1048576: true; the input reads as it did. -/
def relocMovedUptoRow : OpenClaim := { program := "ytlenjpgkmikgpaa", sum := "53b5971a5fd8969ba821f5102225b14e3f3bde9492695459bffb286b28711fb4", func := "hostel/hostellaw19.RelocMoved", spec := "relocMoved", unfollowed := true, recurses := true, apart := false, narrowed := true }
def RelocMovedUptoSaid : Prop := relocMovedUptoRow.holds Try.pinned (OpenSpec.upto relocMovedSpec)

end Rows
end Go.Proofs.Ytlenjpgkmikgpaa
