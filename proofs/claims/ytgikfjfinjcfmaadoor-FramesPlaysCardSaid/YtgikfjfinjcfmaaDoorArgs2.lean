import Derived.Test.YtgikfjfinjcfmaaDoorArgs
import Derived.Test.YtgikfjfinjcfmaaDoorG1
namespace Go.Proofs.YtgikfjfinjcfmaaDoor
open Go Go.ChangeShapes Go.WideShapes Go.ChangeAt Go.RowKit Go.Hos
section
variable {H : Type} {enc : TypeId × Value → H} {W : World} {r : Reach} {b0 : Nat} {v : Value} {d : DataW H} {p : List MemPlace}
theorem open_ops (hv : Value.okWide Tryd.prog W r b0 29 v) (h : DataW.Trod enc Tryd.prog W 0 (fun _ => true) true 29 v d p) :
    ∃ (A : Option Addr) (n c : Nat) (O : Nat → OpD), v = .slice A n c ∧ OpR W W.heap.size A n O ∧ n ≤ maxLen := by
  obtain ⟨m, hm⟩ := h
  obtain ⟨A0, n0, c0, rfl⟩ := okWide_slice Tryd.underlying29 hv
  rcases open_slice_fields (w := W) Tryd.underlying29 Tryd.underlying44 (by kernel_rfl) (by rw [cells44]; rfl) (by simpa [Value.cells] using hm) with ⟨hcs, _⟩ | ⟨a, l, c, m', D, Pl, hcs, _, hl, hc, hmm, _, hf⟩
  · obtain ⟨rfl, rfl, rfl⟩ : A0 = none ∧ n0 = 0 ∧ c0 = 0 := by simpa using hcs
    exact ⟨_, _, _, fun _ => ⟨0, 0, 0, 0, none, 0, 0, []⟩, rfl, fun i hi => absurd hi (by omega), by simp [maxLen]⟩
  · obtain ⟨rfl, rfl, rfl⟩ : A0 = some a ∧ n0 = l ∧ c0 = c := by simpa using hcs
    have key : ∀ i, ∃ o : OpD, i < n0 → (W.cell? (a.add (i * 5)) = some (.int .i64 o.k) ∧ W.cell? (a.add (i * 5 + 1)) = some (.int .i64 o.x) ∧ W.cell? (a.add (i * 5 + 2)) = some (.int .i64 o.y) ∧
        W.cell? (a.add (i * 5 + 3)) = some (.int .i64 o.z) ∧ W.cell? (a.add (i * 5 + 4)) = some (.slice o.A o.m o.q) ∧ Reads W W.heap.size 1 o.A o.m (u8s o.bs) ∧ o.m ≤ maxLen) := by
      intro i
      by_cases hi : i < n0
      · obtain ⟨ys, n, _, _, _, hfi⟩ := hf i (by rw [hmm]; simp; omega)
        obtain ⟨u0, y0, c0', _, t0⟩ := hfi 0 _ rfl
        obtain ⟨u1, y1, c1', _, t1⟩ := hfi 1 _ rfl
        obtain ⟨u2, y2, c2', _, t2⟩ := hfi 2 _ rfl
        obtain ⟨u3, y3, c3', _, t3⟩ := hfi 3 _ rfl
        obtain ⟨u4, y4, c4', _, t4⟩ := hfi 4 _ rfl
        obtain ⟨a0, e0, _, _⟩ := DataW.trod_int Tryd.underlying3 t0
        obtain ⟨a1, e1, _, _⟩ := DataW.trod_int Tryd.underlying3 t1
        obtain ⟨a2, e2, _, _⟩ := DataW.trod_int Tryd.underlying3 t2
        obtain ⟨a3, e3, _, _⟩ := DataW.trod_int Tryd.underlying3 t3
        simp at e0 e1 e2 e3
        subst e0 e1 e2 e3
        obtain ⟨A, l, c', zs, rfl, hr, hn, hw⟩ := reads_of_trod_ints Tryd.underlying42 Tryd.underlying5 (by kernel_rfl) t4
        obtain ⟨bs, hb, _⟩ := ints_nats zs hw
        exact ⟨⟨a0, a1, a2, a3, A, l, c', bs⟩, fun _ => ⟨c0', c1', c2', c3', c4', by show Reads W _ 1 A l (u8s bs); unfold u8s; rw [← hb]; exact hr, hn⟩⟩
      · exact ⟨⟨0, 0, 0, 0, none, 0, 0, []⟩, fun h => absurd h hi⟩
    refine ⟨some a, n0, c0, fun i => Classical.choose (key i), rfl, fun i hi => ⟨a, rfl, ?_, Classical.choose_spec (key i) hi⟩, by omega⟩
    have h0 := (Classical.choose_spec (key i) hi).1
    have := World.block_lt_of_cell? W _ h0
    rwa [block_of_add] at this
end
end Go.Proofs.YtgikfjfinjcfmaaDoor
