import Derived.Test.YtfhkcbhbomghfaaWg
import Derived.Test.YtfhkcbhbomghfaaA6
namespace Go.Proofs.Ytfhkcbhbomghfaa
open Go.RowKit Go.Hos
set_option linter.unusedVariables false

/-- three rows of the call's own, in a block of slices -/
structure AP (B ga : Nat) (A : Nat → Option Addr) (n c : Nat → Nat) (xs : Nat → List Nat) (W : World) : Prop where
  all : Blk W ga 22 #[.slice (A 0) (n 0) (c 0), .slice (A 1) (n 1) (c 1), .slice (A 2) (n 2) (c 2)]
  row : ∀ i, i < 3 → W.ownsRow B 5 1 (.slice (A i) (n i) (c i)) (n i) (B8 (xs i))
theorem AP.next {B ga : Nat} {A : Nat → Option Addr} {n c : Nat → Nat} {xs : Nat → List Nat} {W W' : World} (h : AP B ga A n c xs W) (hb : Below W.heap.size W W') : AP B ga A n c xs W' :=
  ⟨h.all.below hb h.all.lt, fun i hi => owns_below (h.row i hi) hb⟩
/-- a block of slices takes one more -/
theorem AP.far {B ga g : Nat} {A : Nat → Option Addr} {n c : Nat → Nat} {xs : Nat → List Nat} {W : World} {cs : Array Value} (h : AP B ga A n c xs W) (hg : Blk W g 22 cs) (hne : ga ≠ g) (i : Nat) (u : Value) : AP B ga A n c xs (W.setCell ⟨g, i, none⟩ u) := by
  refine ⟨h.all.far hne _, fun j hj => ?_⟩
  have hb := own_blk_ne (h.row j hj) hg (by decide)
  obtain ⟨h1, h2⟩ := h.row j hj
  refine ⟨h1, ?_⟩
  rcases h2 with h2 | ⟨g', cap, cur, hv, hbg, hh, r⟩
  · exact .inl h2
  · rw [hv] at hb
    exact .inr ⟨g', cap, cur, hv, hbg, (Below.heap_setCell W ⟨g, i, none⟩ u g' (fun e => hb (by simp [Value.ownBlock, e]))).trans hh, r⟩
theorem row_far {B g m : Nat} {v : Value} {ys : List Value} {W : World} {cs : Array Value} (h : W.ownsRow B 5 1 v m ys) (hg : Blk W g 22 cs) (i : Nat) (u : Value) : (W.setCell ⟨g, i, none⟩ u).ownsRow B 5 1 v m ys := by
  have hb := own_blk_ne h hg (by decide)
  obtain ⟨h1, h2⟩ := h
  refine ⟨h1, ?_⟩
  rcases h2 with h2 | ⟨g', cap, cur, hv, hbg, hh, r⟩
  · exact .inl h2
  · rw [hv] at hb
    exact .inr ⟨g', cap, cur, hv, hbg, (Below.heap_setCell W ⟨g, i, none⟩ u g' (fun e => hb (by simp [Value.ownBlock, e]))).trans hh, r⟩
theorem all_get {B ga : Nat} {A : Nat → Option Addr} {n c : Nat → Nat} {xs : Nat → List Nat} {W : World} (h : AP B ga A n c xs W) {i : Nat} (hi : i < 3) : W.cell? ⟨ga, i, none⟩ = some (.slice (A i) (n i) (c i)) := by
  rw [h.all.cell]
  rcases i with _ | _ | _ | i <;> first | rfl | omega
end Go.Proofs.Ytfhkcbhbomghfaa
