import Derived.Test.YtneleioiondapaaY7
import Derived.Test.YtneleioiondapaaOpen
import Derived.Test.YtneleioiondapaaRows
import Derived.LaidMore
import Derived.Lay
import Derived.WalkKit
namespace Go.Proofs.Ytneleioiondapaa
open Go Go.ChangeShapes Go.WideShapes Go.ChangeAt Go.RowKit Go.Hos Go.Joins Go.Deep
set_option linter.unusedVariables false
theorem cl3 : Try.prog.cellsOf 3 = 1 := by kernel_rfl
theorem cl32 : Try.prog.cellsOf 32 = 1 := by kernel_rfl
theorem cl33 : Try.prog.cellsOf 33 = 1 := by kernel_rfl
theorem cl36 : Try.prog.cellsOf 36 = 4 := by kernel_rfl
theorem cl31 : Try.prog.cellsOf 31 = 5 := by kernel_rfl
theorem cl34 : Try.prog.cellsOf 34 = 1 := by kernel_rfl
theorem cl27 : Try.prog.cellsOf 27 = 1 := by kernel_rfl
theorem cl28 : Try.prog.cellsOf 28 = 1 := by kernel_rfl
theorem cl29 : Try.prog.cellsOf 29 = 1 := by kernel_rfl
theorem cl9 : Try.prog.cellsOf 9 = 1 := by kernel_rfl
theorem cl38 : Try.prog.cellsOf 38 = 11 := by kernel_rfl
theorem cl46 : Try.prog.cellsOf 46 = 5 := by kernel_rfl
section
variable {H : Type} {enc : TypeId × Value → H} {W : World}
theorem sl_form {t e : TypeId} {fuel : Nat} {v : Value} {x : DataW H × List MemPlace} (ht : Try.prog.underlying t = some (.slice e)) (h : DataW.trod enc Try.prog W 0 (fun _ => true) true fuel t [v] = some x) : ∃ A n c, v = .slice A n c := by
  rcases open_slice ht h with ⟨hc, _⟩ | ⟨a, l, c, m, n, D, Pl, hc, _⟩
  · simp at hc; exact ⟨_, _, _, hc⟩
  · simp at hc; exact ⟨_, _, _, hc⟩
theorem syms_of_trod {fuel : Nat} {v : Value} {x : DataW H × List MemPlace} (h : DataW.trod enc Try.prog W 0 (fun _ => true) true fuel 28 [v] = some x) :
    ∃ (A : Option Addr) (n c : Nat) (S : Nat → SymD), v = .slice A n c ∧ StR W W.heap.size 5 A n (fun k => (S k).cs) ∧ n ≤ maxLen ∧ ∀ k, (S k).nm.size ≤ maxLen := by
  rcases open_slice_fields Try.underlying28 Try.underlying46 (by kernel_rfl) (by rw [cl46]; rfl) h with ⟨hcs, _⟩ | ⟨a, l, c, m', D, Pl, hcs, _, hl, hc, hmm, _, hf⟩
  · simp at hcs
    exact ⟨none, 0, 0, fun _ => symZ, hcs, fun h => absurd h (by omega), by simp [maxLen], fun _ => Nat.zero_le _⟩
  · simp at hcs
    have key : ∀ k, ∃ s : SymD, s.nm.size ≤ maxLen ∧ (k < l → ∀ j u, s.cs[j]? = some u → W.cell? (a.add (k * 5 + j)) = some u) := by
      intro k
      by_cases hk : k < l
      · obtain ⟨ys, n, _, _, _, hfi⟩ := hf k (by rw [hmm]; simp; omega)
        obtain ⟨u0, y0, c0', _, t0⟩ := hfi 0 _ rfl
        obtain ⟨u1, y1, c1', _, t1⟩ := hfi 1 _ rfl
        obtain ⟨u2, y2, c2', _, t2⟩ := hfi 2 _ rfl
        obtain ⟨u3, y3, c3', _, t3⟩ := hfi 3 _ rfl
        obtain ⟨u4, y4, c4', _, t4⟩ := hfi 4 _ rfl
        obtain ⟨a0, e0, _, hsz⟩ := DataW.trod_string Try.underlying9 t0
        obtain ⟨a1, e1, _, _⟩ := DataW.trod_int Try.underlying32 t1
        obtain ⟨a2, e2, _, _⟩ := DataW.trod_int Try.underlying32 t2
        obtain ⟨a3, e3, _, _⟩ := DataW.trod_int Try.underlying5 t3
        obtain ⟨a4, e4, _⟩ := DataW.trod_bool Try.underlying4 t4
        simp at e0 e1 e2 e3 e4
        subst e0 e1 e2 e3 e4
        refine ⟨⟨a0, a1, a2, a3, a4⟩, hsz, fun _ j u hu => ?_⟩
        unfold SymD.cs at hu
        dsimp only at hu
        match j, hu with
        | 0, hu => obtain rfl := Option.some.inj hu; exact c0'
        | 1, hu => obtain rfl := Option.some.inj hu; exact c1'
        | 2, hu => obtain rfl := Option.some.inj hu; exact c2'
        | 3, hu => obtain rfl := Option.some.inj hu; exact c3'
        | 4, hu => obtain rfl := Option.some.inj hu; exact c4'
        | j + 5, hu => simp at hu
      · exact ⟨symZ, Nat.zero_le _, fun h => absurd h hk⟩
    refine ⟨some a, l, c, fun k => Classical.choose (key k), hcs, fun hn => ⟨a, rfl, ?_, fun i hi j u hu => (Classical.choose_spec (key i)).2 hi j u hu⟩, by omega, fun k => (Classical.choose_spec (key k)).1⟩
    have h0 := (Classical.choose_spec (key 0)).2 hn 0 _ rfl
    have := World.block_lt_of_cell? W _ h0
    rwa [block_of_add] at this
theorem obj_of_trod {fuel : Nat} {cs : List Value} {x : DataW H × List MemPlace} (h : DataW.trod enc Try.prog W 0 (fun _ => true) true fuel 38 cs = some x) :
    ∃ o : ObjD, cs = o.cs.toList ∧ o.sM ≤ maxLen ∧ StR W W.heap.size 5 o.sA o.sM (fun k => (o.sy k).cs) ∧ ∀ k, (o.sy k).nm.size ≤ maxLen := by
  obtain ⟨xs, n, _, _, hlen, hxl, hg⟩ := DataW.trod_struct Try.underlying38 h
  rw [cl38] at hlen
  match cs, hlen with
  | [c0, c1, c2, c3, c4, c5, c6, c7, c8, c9, c10], _ =>
    have g0 : DataW.trod enc Try.prog W 0 (fun _ => true) true n 3 [c0] = xs[0]? := by
      have := hg 0 _ rfl
      rw [show (Field.type _) = 3 from rfl, cl3] at this
      exact this
    have g1 : DataW.trod enc Try.prog W 0 (fun _ => true) true n 32 [c1] = xs[1]? := by
      have := hg 1 _ rfl
      rw [show (Field.type _) = 32 from rfl, cl32] at this
      exact this
    have g2 : DataW.trod enc Try.prog W 0 (fun _ => true) true n 36 [c2, c3, c4, c5] = xs[2]? := by
      have := hg 2 _ rfl
      rw [show (Field.type _) = 36 from rfl, cl36] at this
      exact this
    have g3 : DataW.trod enc Try.prog W 0 (fun _ => true) true n 31 [c6, c7, c8, c9, c10] = xs[3]? := by
      have := hg 3 _ rfl
      rw [show (Field.type _) = 31 from rfl, cl31] at this
      exact this
    have hx4 : xs.length = 4 := hxl
    rw [List.getElem?_eq_getElem (by omega)] at g0 g1 g2 g3
    obtain ⟨a0, e0, _, _⟩ := DataW.trod_int Try.underlying3 g0
    obtain ⟨a1, e1, _, _⟩ := DataW.trod_int Try.underlying32 g1
    obtain ⟨ys, n2, _, _, _, hyl, hh⟩ := DataW.trod_struct Try.underlying36 g2
    obtain ⟨zs, n3, _, _, _, hzl, hd⟩ := DataW.trod_struct Try.underlying31 g3
    have hy4 : ys.length = 4 := hyl
    have hz5 : zs.length = 5 := hzl
    have k0 : DataW.trod enc Try.prog W 0 (fun _ => true) true n2 33 [c2] = ys[0]? := by
      have := hh 0 _ rfl
      rw [show (Field.type _) = 33 from rfl, cl33] at this
      exact this
    have k1 : DataW.trod enc Try.prog W 0 (fun _ => true) true n2 32 [c3] = ys[1]? := by
      have := hh 1 _ rfl
      rw [show (Field.type _) = 32 from rfl, cl32] at this
      exact this
    have k2 : DataW.trod enc Try.prog W 0 (fun _ => true) true n2 32 [c4] = ys[2]? := by
      have := hh 2 _ rfl
      rw [show (Field.type _) = 32 from rfl, cl32] at this
      exact this
    have k3 : DataW.trod enc Try.prog W 0 (fun _ => true) true n2 34 [c5] = ys[3]? := by
      have := hh 3 _ rfl
      rw [show (Field.type _) = 34 from rfl, cl34] at this
      exact this
    have l0 : DataW.trod enc Try.prog W 0 (fun _ => true) true n3 27 [c6] = zs[0]? := by
      have := hd 0 _ rfl
      rw [show (Field.type _) = 27 from rfl, cl27] at this
      exact this
    have l1 : DataW.trod enc Try.prog W 0 (fun _ => true) true n3 9 [c7] = zs[1]? := by
      have := hd 1 _ rfl
      rw [show (Field.type _) = 9 from rfl, cl9] at this
      exact this
    have l2 : DataW.trod enc Try.prog W 0 (fun _ => true) true n3 9 [c8] = zs[2]? := by
      have := hd 2 _ rfl
      rw [show (Field.type _) = 9 from rfl, cl9] at this
      exact this
    have l3 : DataW.trod enc Try.prog W 0 (fun _ => true) true n3 28 [c9] = zs[3]? := by
      have := hd 3 _ rfl
      rw [show (Field.type _) = 28 from rfl, cl28] at this
      exact this
    have l4 : DataW.trod enc Try.prog W 0 (fun _ => true) true n3 29 [c10] = zs[4]? := by
      have := hd 4 _ rfl
      rw [show (Field.type _) = 29 from rfl, cl29] at this
      exact this
    rw [List.getElem?_eq_getElem (by omega)] at k0 k1 k2 k3 l0 l1 l2 l3 l4
    obtain ⟨b0, f0, _, _⟩ := DataW.trod_int Try.underlying33 k0
    obtain ⟨b1, f1, _, _⟩ := DataW.trod_int Try.underlying32 k1
    obtain ⟨b2, f2, _, _⟩ := DataW.trod_int Try.underlying32 k2
    obtain ⟨gA, gM, gQ, rfl⟩ := sl_form Try.underlying34 k3
    obtain ⟨nA, nM, nQ, rfl⟩ := sl_form Try.underlying27 l0
    obtain ⟨so, f7, _, _⟩ := DataW.trod_string Try.underlying9 l1
    obtain ⟨rn, f8, _, _⟩ := DataW.trod_string Try.underlying9 l2
    obtain ⟨sA, sM, sQ, S, rfl, hS, hSl, hSn⟩ := syms_of_trod l3
    obtain ⟨rA, rM, rQ, rfl⟩ := sl_form Try.underlying29 l4
    simp at e0 e1 f0 f1 f2 f7 f8
    subst e0 e1 f0 f1 f2 f7 f8
    exact ⟨⟨a0, a1, b0, b1, b2, gA, gM, gQ, nA, nM, nQ, so, rn, sA, sM, sQ, rA, rM, rQ, S⟩, rfl, hSl, hS, hSn⟩
def objZ : ObjD := ⟨0, 0, 0, 0, 0, none, 0, 0, none, 0, 0, ⟨#[]⟩, ⟨#[]⟩, none, 0, 0, none, 0, 0, fun _ => symZ⟩
/-- objects that came in -/
theorem open_objs {r : Reach} {b0 : Nat} {v : Value} {d : DataW H} {p : List MemPlace} (hv : Value.okWide Try.prog W r b0 22 v) (h : DataW.Trod enc Try.prog W 0 (fun _ => true) true 22 v d p) :
    ∃ (A : Option Addr) (m c : Nat) (O : Nat → ObjD), v = .slice A m c ∧ ObjR W W.heap.size A m O ∧ ∀ x, (symA O x).nm.size ≤ maxLen := by
  obtain ⟨f, hf⟩ := h
  obtain ⟨A0, m0, c0, rfl⟩ := okWide_slice Try.underlying22 hv
  rcases open_slice Try.underlying22 (by simpa [Value.cells] using hf) with ⟨hcs, _⟩ | ⟨a, l, c, m', n, D, Pl, hcs, _, hl, hc, hmm, _, hi⟩
  · obtain ⟨rfl, rfl, rfl⟩ : A0 = none ∧ m0 = 0 ∧ c0 = 0 := by simpa using hcs
    exact ⟨none, 0, 0, fun _ => objZ, rfl, ⟨fun h => absurd h (by omega), fun i hi => absurd hi (by omega), by simp [maxLen]⟩, fun _ => Nat.zero_le _⟩
  · obtain ⟨rfl, rfl, rfl⟩ : A0 = some a ∧ m0 = l ∧ c0 = c := by simpa using hcs
    rw [cl38] at hi
    have key : ∀ i, ∃ o : ObjD, (∀ k, (o.sy k).nm.size ≤ maxLen) ∧ (i < m0 → (∀ j u, o.cs[j]? = some u → W.cell? (a.add (i * 11 + j)) = some u) ∧ StR W W.heap.size 5 o.sA o.sM (fun k => (o.sy k).cs) ∧ o.sM ≤ maxLen) := by
      intro i
      by_cases him : i < m0
      · obtain ⟨cs', hcc, ht⟩ := hi i (by rw [hmm]; simp; omega)
        obtain ⟨o, ho, h1, h2, h3⟩ := obj_of_trod ht
        obtain ⟨_, hcl, hat⟩ := World.cells?_some hcc
        refine ⟨o, h3, fun _ => ⟨fun j u hu => ?_, h2, h1⟩⟩
        have hj : j < 11 := by have := (Array.getElem?_eq_some_iff.1 hu).1; simpa [ObjD.cs] using this
        rw [← Go.Deep.add_add, hat j hj, ho, Array.getElem?_toList]
        exact hu
      · exact ⟨objZ, fun _ => Nat.zero_le _, fun h => absurd h him⟩
    refine ⟨some a, m0, c0, fun i => Classical.choose (key i), rfl, ⟨fun hn => ⟨a, rfl, ?_, fun i hi j u hu => ((Classical.choose_spec (key i)).2 hi).1 j u hu⟩, fun i hi => ((Classical.choose_spec (key i)).2 hi).2, by omega⟩, fun x => (Classical.choose_spec (key x.1)).1 x.2⟩
    have h0 := ((Classical.choose_spec (key 0)).2 hn).1 0 _ rfl
    have := World.block_lt_of_cell? W _ h0
    rwa [block_of_add] at this
end
end Go.Proofs.Ytneleioiondapaa
