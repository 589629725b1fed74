import Derived.Test.YtnkmdbmepncbkaaMem
namespace Go.Hos
open Go.RowKit
/-- a new row reads as what was laid there -/
theorem reads_new (w : World) {g : Nat} (t : TypeId) (size n : Nat) (cs : List Value) (hg : w.heap.size = g) (hl : cs.length = n * size) : Reads (w.alloc (.cells cs.toArray t)) (g + 1) size (some ⟨g, 0, none⟩) n cs := by
  subst hg
  refine ⟨hl, fun _ => ⟨_, rfl, by simp, fun j u hu => ?_⟩⟩
  have hadd : (⟨w.heap.size, 0, none⟩ : Addr).add j = ⟨w.heap.size, j, none⟩ := by unfold Addr.add; split <;> simp_all
  rw [hadd, (Blk.new w t cs.toArray).cell j]
  simpa using hu
theorem owns_succ {w : World} {base : Nat} {e : TypeId} {size : Nat} {v : Value} {k : Nat} {xs : List Value} (h : w.ownsRow base e size v (k + 1) xs) : ∃ g cap, v = .slice (some ⟨g, 0, none⟩) (k + 1) cap ∧ base ≤ g ∧ g < w.heap.size ∧ k + 1 ≤ cap := by
  rcases h.2 with ⟨_, h0⟩ | ⟨g, cap, _, rfl, hb, hg, hc, _⟩
  · omega
  · exact ⟨g, cap, rfl, hb, (Array.getElem?_eq_some_iff.1 hg).1, hc⟩

/-- a row of the call's own stays while another block is written -/
theorem owns_far {w : World} {base : Nat} {e : TypeId} {size g n cap : Nat} {xs : List Value} (h : w.ownsRow base e size (.slice (some ⟨g, 0, none⟩) n cap) n xs) {p : Addr} (hne : g ≠ p.block) (u : Value) :
    (w.setCell p u).ownsRow base e size (.slice (some ⟨g, 0, none⟩) n cap) n xs := by
  refine ⟨h.1, ?_⟩
  rcases h.2 with ⟨e, _⟩ | ⟨g', cap', cur, e, hb, hg, r⟩
  · cases e
  · have hgg : g = g' := by
      injection e with e1 e2 e3
      injection e1 with e1
      injection e1
    subst hgg
    exact .inr ⟨g, cap', cur, e, hb, by rw [Below.heap_setCell _ _ _ _ hne]; exact hg, r⟩

end Go.Hos
