import Derived.Test.YtneleioiondapaaY24
import Derived.SizedLaws
namespace Go.Proofs.Ytneleioiondapaa
open Go Go.ChangeShapes Go.WideShapes Go.ChangeAt Go.RowKit Go.Hos Go.Joins Go.Deep
set_option linter.unusedVariables false
theorem cl71 : Try.prog.cellsOf 71 = 4 := by kernel_rfl
theorem bo9 : Try.prog.bytesOf 9 = 16 := by kernel_rfl
theorem bo71 : Try.prog.bytesOf 71 = 32 := by kernel_rfl
theorem reach47 : reachBytes ≤ 140737488355328 := by decide
section
variable {H : Type} {enc : TypeId × Value → H} {W : World} {P : Program}
theorem mem_weightsAll {e : TypeId} {n : Nat} : ∀ {l : List (DataW H)} {i : Nat} {d : DataW H}, l[i]? = some d → n ∈ d.weights P e → n ∈ DataW.weightsAll P e l
  | [], _, _, h, _ => by simp at h
  | a :: r, 0, d, h, hn => by
    obtain rfl := Option.some.inj h
    simp only [DataW.weightsAll, List.mem_append]; exact .inl hn
  | a :: r, i + 1, d, h, hn => by
    simp only [DataW.weightsAll, List.mem_append]; exact .inr (mem_weightsAll (by simpa using h) hn)
theorem weights_elem {t e : TypeId} {E S : List (DataW H)} {i n : Nat} {d : DataW H} (ht : P.underlying t = some (.slice e)) (hd : E[i]? = some d) (hn : n ∈ d.weights P e) : n ∈ (DataW.slice E S).weights P t := by
  simp only [DataW.weights, ht, List.mem_cons, List.mem_append]
  exact .inr (.inl (mem_weightsAll hd hn))
theorem weights_field {t : TypeId} {fs : Array Field} {f : Field} {parts : List (DataW H)} {j n : Nat} {d : DataW H} (ht : P.underlying t = some (.struct fs)) (hf : fs[j]? = some f) (hd : parts[j]? = some d) (hn : n ∈ d.weights P f.type) : n ∈ (DataW.agg parts).weights P t := by
  simp only [DataW.weights, ht]
  exact DataW.weights_mem_each (j := j) (t := f.type) (by rw [List.getElem?_map, Array.getElem?_toList, hf]; rfl) hd n hn
theorem len_of_trod {t e : TypeId} {R : Nat} {l k : Nat} {D : Nat → DataW H} (ht : P.underlying t = some (.slice e)) (hw : ∀ n ∈ (DataW.slice ((List.range l).map D) ((List.range k).map fun j => D (l + j))).weights P t, n ≤ R) : l * P.bytesOf e ≤ R := by
  have := hw ((l + k) * P.bytesOf e) (by simp only [DataW.weights, ht, List.mem_cons, List.length_map, List.length_range]; exact .inl trivial)
  exact Nat.le_trans (Nat.mul_le_mul_right _ (by omega)) this
theorem tx_of_trod {fuel : Nat} {v : Value} {x : DataW H × List MemPlace} (h : DataW.trod enc Try.prog W 0 (fun _ => true) true fuel 27 [v] = some x) (hw : ∀ n ∈ x.1.weights Try.prog 27, n ≤ reachBytes) :
    ∃ (A : Option Addr) (n c : Nat) (T : Nat → ByteArray), v = .slice A n c ∧ StR W W.heap.size 1 A n (txC T) ∧ n * 16 ≤ 140737488355328 := by
  rcases open_slice Try.underlying27 h with ⟨hcs, _⟩ | ⟨a, l, c, m', n, D, Pl, hcs, _, hl, hc, hmm, hxd, hi⟩
  · simp at hcs
    exact ⟨none, 0, 0, fun _ => ⟨#[]⟩, hcs, fun h => absurd h (by omega), by omega⟩
  · simp at hcs
    rw [cl9] at hi
    have hlen : l * 16 ≤ 140737488355328 := by
      rw [hxd] at hw
      have := len_of_trod Try.underlying27 hw
      rw [bo9] at this
      have := reach47; omega
    have key : ∀ k, ∃ s : ByteArray, k < l → W.cell? (a.add k) = some (.string s) := by
      intro k
      by_cases hk : k < l
      · obtain ⟨cs', hcc, ht⟩ := hi k (by rw [hmm]; simp; omega)
        obtain ⟨_, hcl, hat⟩ := World.cells?_some hcc
        match cs', hcl with
        | [u], _ =>
          obtain ⟨s, e, _, _⟩ := DataW.trod_string Try.underlying9 ht
          simp at e
          subst e
          refine ⟨s, fun _ => ?_⟩
          have h0 := hat 0 (by omega)
          rw [Nat.mul_one, Go.Deep.add_add, Nat.add_zero] at h0
          exact h0
      · exact ⟨⟨#[]⟩, fun h => absurd h hk⟩
    refine ⟨some a, l, c, fun k => Classical.choose (key k), hcs, fun hn => ⟨a, rfl, ?_, fun i hi j u hu => ?_⟩, hlen⟩
    · have h0 := Classical.choose_spec (key 0) hn
      have := World.block_lt_of_cell? W _ h0
      rwa [block_of_add] at this
    · have hj : j < 1 := by have := (Array.getElem?_eq_some_iff.1 hu).1; simpa [txC] using this
      obtain rfl : j = 0 := by omega
      obtain rfl := Option.some.inj hu
      rw [Nat.mul_one, Nat.add_zero]
      exact Classical.choose_spec (key i) hi
theorem rel_of_trod {fuel : Nat} {v : Value} {x : DataW H × List MemPlace} (h : DataW.trod enc Try.prog W 0 (fun _ => true) true fuel 29 [v] = some x) (hw : ∀ n ∈ x.1.weights Try.prog 29, n ≤ reachBytes) :
    ∃ (A : Option Addr) (n c : Nat) (R : Nat → RelD), v = .slice A n c ∧ StR W W.heap.size 4 A n (relC R) ∧ n * 32 ≤ 140737488355328 := by
  rcases open_slice_fields Try.underlying29 Try.underlying71 (by kernel_rfl) (by rw [cl71]; rfl) h with ⟨hcs, _⟩ | ⟨a, l, c, m', D, Pl, hcs, _, hl, hc, hmm, hxd, hf⟩
  · simp at hcs
    exact ⟨none, 0, 0, fun _ => ⟨0, 0, 0, 0⟩, hcs, fun h => absurd h (by omega), by omega⟩
  · simp at hcs
    have hlen : l * 32 ≤ 140737488355328 := by
      rw [hxd] at hw
      have := len_of_trod Try.underlying29 hw
      rw [bo71] at this
      have := reach47; omega
    have key : ∀ k, ∃ s : RelD, k < l → ∀ j u, s.cs[j]? = some u → W.cell? (a.add (k * 4 + j)) = some u := by
      intro k
      by_cases hk : k < l
      · obtain ⟨ys, n, _, _, _, hfi⟩ := hf k (by rw [hmm]; simp; omega)
        obtain ⟨u0, y0, c0', _, t0⟩ := hfi 0 _ rfl
        obtain ⟨u1, y1, c1', _, t1⟩ := hfi 1 _ rfl
        obtain ⟨u2, y2, c2', _, t2⟩ := hfi 2 _ rfl
        obtain ⟨u3, y3, c3', _, t3⟩ := hfi 3 _ rfl
        obtain ⟨a0, e0, _, _⟩ := DataW.trod_int Try.underlying32 t0
        obtain ⟨a1, e1, _, _⟩ := DataW.trod_int Try.underlying69 t1
        obtain ⟨a2, e2, _, _⟩ := DataW.trod_int Try.underlying3 t2
        obtain ⟨a3, e3, _, _⟩ := DataW.trod_int Try.underlying2 t3
        simp at e0 e1 e2 e3
        subst e0 e1 e2 e3
        refine ⟨⟨a0, a1, a2, a3⟩, fun _ j u hu => ?_⟩
        unfold RelD.cs at hu
        dsimp only at hu
        match j, hu with
        | 0, hu => obtain rfl := Option.some.inj hu; exact c0'
        | 1, hu => obtain rfl := Option.some.inj hu; exact c1'
        | 2, hu => obtain rfl := Option.some.inj hu; exact c2'
        | 3, hu => obtain rfl := Option.some.inj hu; exact c3'
        | j + 4, hu => simp at hu
      · exact ⟨⟨0, 0, 0, 0⟩, fun h => absurd h hk⟩
    refine ⟨some a, l, c, fun k => Classical.choose (key k), hcs, fun hn => ⟨a, rfl, ?_, fun i hi j u hu => Classical.choose_spec (key i) hi j u hu⟩, hlen⟩
    have h0 := Classical.choose_spec (key 0) hn 0 _ rfl
    have := World.block_lt_of_cell? W _ h0
    rwa [block_of_add] at this
theorem obj_of_trodX {fuel : Nat} {cs : List Value} {x : DataW H × List MemPlace} (h : DataW.trod enc Try.prog W 0 (fun _ => true) true fuel 38 cs = some x) (hw : ∀ n ∈ x.1.weights Try.prog 38, n ≤ reachBytes) :
    ∃ (o : ObjD) (X : (Nat → ByteArray) × (Nat → RelD)), cs = o.cs.toList ∧ o.sM ≤ maxLen ∧ StR W W.heap.size 5 o.sA o.sM (fun k => (o.sy k).cs) ∧ (∀ k, (o.sy k).nm.size ≤ maxLen) ∧ StR W W.heap.size 1 o.nA o.nM (txC X.1) ∧ o.nM * 16 ≤ 140737488355328 ∧ StR W W.heap.size 4 o.rA o.rM (relC X.2) ∧ o.rM * 32 ≤ 140737488355328 := by
  obtain ⟨xs, n, _, hxx, hlen, hxl, hg⟩ := DataW.trod_struct Try.underlying38 h
  rw [cl38] at hlen
  match cs, hlen with
  | [c0, c1, c2, c3, c4, c5, c6, c7, c8, c9, c10], _ =>
    have g0 : DataW.trod enc Try.prog W 0 (fun _ => true) true n 3 [c0] = xs[0]? := by
      have := hg 0 _ rfl
      rw [show (Field.type _) = 3 from rfl, cl3] at this
      exact this
    have g1 : DataW.trod enc Try.prog W 0 (fun _ => true) true n 32 [c1] = xs[1]? := by
      have := hg 1 _ rfl
      rw [show (Field.type _) = 32 from rfl, cl32] at this
      exact this
    have g2 : DataW.trod enc Try.prog W 0 (fun _ => true) true n 36 [c2, c3, c4, c5] = xs[2]? := by
      have := hg 2 _ rfl
      rw [show (Field.type _) = 36 from rfl, cl36] at this
      exact this
    have g3 : DataW.trod enc Try.prog W 0 (fun _ => true) true n 31 [c6, c7, c8, c9, c10] = xs[3]? := by
      have := hg 3 _ rfl
      rw [show (Field.type _) = 31 from rfl, cl31] at this
      exact this
    have hx4 : xs.length = 4 := hxl
    rw [List.getElem?_eq_getElem (by omega)] at g0 g1 g2 g3
    obtain ⟨a0, e0, _, _⟩ := DataW.trod_int Try.underlying3 g0
    obtain ⟨a1, e1, _, _⟩ := DataW.trod_int Try.underlying32 g1
    obtain ⟨ys, n2, _, _, _, hyl, hh⟩ := DataW.trod_struct Try.underlying36 g2
    obtain ⟨zs, n3, _, hzx, _, hzl, hd⟩ := DataW.trod_struct Try.underlying31 g3
    have hy4 : ys.length = 4 := hyl
    have hz5 : zs.length = 5 := hzl
    have k0 : DataW.trod enc Try.prog W 0 (fun _ => true) true n2 33 [c2] = ys[0]? := by
      have := hh 0 _ rfl
      rw [show (Field.type _) = 33 from rfl, cl33] at this
      exact this
    have k1 : DataW.trod enc Try.prog W 0 (fun _ => true) true n2 32 [c3] = ys[1]? := by
      have := hh 1 _ rfl
      rw [show (Field.type _) = 32 from rfl, cl32] at this
      exact this
    have k2 : DataW.trod enc Try.prog W 0 (fun _ => true) true n2 32 [c4] = ys[2]? := by
      have := hh 2 _ rfl
      rw [show (Field.type _) = 32 from rfl, cl32] at this
      exact this
    have k3 : DataW.trod enc Try.prog W 0 (fun _ => true) true n2 34 [c5] = ys[3]? := by
      have := hh 3 _ rfl
      rw [show (Field.type _) = 34 from rfl, cl34] at this
      exact this
    have l0 : DataW.trod enc Try.prog W 0 (fun _ => true) true n3 27 [c6] = zs[0]? := by
      have := hd 0 _ rfl
      rw [show (Field.type _) = 27 from rfl, cl27] at this
      exact this
    have l1 : DataW.trod enc Try.prog W 0 (fun _ => true) true n3 9 [c7] = zs[1]? := by
      have := hd 1 _ rfl
      rw [show (Field.type _) = 9 from rfl, cl9] at this
      exact this
    have l2 : DataW.trod enc Try.prog W 0 (fun _ => true) true n3 9 [c8] = zs[2]? := by
      have := hd 2 _ rfl
      rw [show (Field.type _) = 9 from rfl, cl9] at this
      exact this
    have l3 : DataW.trod enc Try.prog W 0 (fun _ => true) true n3 28 [c9] = zs[3]? := by
      have := hd 3 _ rfl
      rw [show (Field.type _) = 28 from rfl, cl28] at this
      exact this
    have l4 : DataW.trod enc Try.prog W 0 (fun _ => true) true n3 29 [c10] = zs[4]? := by
      have := hd 4 _ rfl
      rw [show (Field.type _) = 29 from rfl, cl29] at this
      exact this
    rw [List.getElem?_eq_getElem (by omega)] at k0 k1 k2 k3 l0 l1 l2 l3 l4
    obtain ⟨b0, f0, _, _⟩ := DataW.trod_int Try.underlying33 k0
    obtain ⟨b1, f1, _, _⟩ := DataW.trod_int Try.underlying32 k1
    obtain ⟨b2, f2, _, _⟩ := DataW.trod_int Try.underlying32 k2
    obtain ⟨gA, gM, gQ, rfl⟩ := sl_form Try.underlying34 k3
    have hw31 : ∀ n ∈ (xs[3]'(by omega)).1.weights Try.prog 31, n ≤ reachBytes := fun q hq => hw q (by rw [hxx]; exact weights_field Try.underlying38 (j := 3) rfl (by rw [List.getElem?_map, List.getElem?_eq_getElem (by omega)]; rfl) hq)
    have hw27 : ∀ n ∈ (zs[0]'(by omega)).1.weights Try.prog 27, n ≤ reachBytes := fun q hq => hw31 q (by rw [hzx]; exact weights_field Try.underlying31 (j := 0) rfl (by rw [List.getElem?_map, List.getElem?_eq_getElem (by omega)]; rfl) hq)
    have hw29 : ∀ n ∈ (zs[4]'(by omega)).1.weights Try.prog 29, n ≤ reachBytes := fun q hq => hw31 q (by rw [hzx]; exact weights_field Try.underlying31 (j := 4) rfl (by rw [List.getElem?_map, List.getElem?_eq_getElem (by omega)]; rfl) hq)
    obtain ⟨nA, nM, nQ, T, rfl, hT, hTn⟩ := tx_of_trod l0 hw27
    obtain ⟨so, f7, _, _⟩ := DataW.trod_string Try.underlying9 l1
    obtain ⟨rn, f8, _, _⟩ := DataW.trod_string Try.underlying9 l2
    obtain ⟨sA, sM, sQ, S, rfl, hS, hSl, hSn⟩ := syms_of_trod l3
    obtain ⟨rA, rM, rQ, R, rfl, hR, hRn⟩ := rel_of_trod l4 hw29
    simp at e0 e1 f0 f1 f2 f7 f8
    subst e0 e1 f0 f1 f2 f7 f8
    exact ⟨⟨a0, a1, b0, b1, b2, gA, gM, gQ, nA, nM, nQ, so, rn, sA, sM, sQ, rA, rM, rQ, S⟩, (T, R), rfl, hSl, hS, hSn, hT, hTn, hR, hRn⟩
/-- objects that came in -/
theorem open_objsX {r : Reach} {b0 : Nat} {v : Value} {d : DataW H} {p : List MemPlace} (hv : Value.okWide Try.prog W r b0 22 v) (h : DataW.Trod enc Try.prog W 0 (fun _ => true) true 22 v d p) (hw : ∀ n ∈ d.weights Try.prog 22, n ≤ reachBytes) :
    ∃ (A : Option Addr) (m c : Nat) (O : Nat → ObjD) (X : Nat → (Nat → ByteArray) × (Nat → RelD)), v = .slice A m c ∧ ObjR W W.heap.size A m O ∧ (∀ x, (symA O x).nm.size ≤ maxLen) ∧ ObjX W W.heap.size m O X := by
  obtain ⟨f, hf⟩ := h
  obtain ⟨A0, m0, c0, rfl⟩ := okWide_slice Try.underlying22 hv
  rcases open_slice Try.underlying22 (by simpa [Value.cells] using hf) with ⟨hcs, _⟩ | ⟨a, l, c, m', n, D, Pl, hcs, _, hl, hc, hmm, hxd, hi⟩
  · obtain ⟨rfl, rfl, rfl⟩ : A0 = none ∧ m0 = 0 ∧ c0 = 0 := by simpa using hcs
    exact ⟨none, 0, 0, fun _ => objZ, fun _ => (fun _ => ⟨#[]⟩, fun _ => ⟨0, 0, 0, 0⟩), rfl, ⟨fun h => absurd h (by omega), fun i hi => absurd hi (by omega), by simp [maxLen]⟩, fun _ => Nat.zero_le _, fun i hi => absurd hi (by omega)⟩
  · obtain ⟨rfl, rfl, rfl⟩ : A0 = some a ∧ m0 = l ∧ c0 = c := by simpa using hcs
    rw [cl38] at hi
    have hd : d = .slice ((List.range m0).map D) ((List.range (m' - m0)).map fun j => D (m0 + j)) := congrArg (·.1) hxd
    have key : ∀ i, ∃ oX : ObjD × ((Nat → ByteArray) × (Nat → RelD)), (∀ k, (oX.1.sy k).nm.size ≤ maxLen) ∧ (i < m0 → (∀ j u, oX.1.cs[j]? = some u → W.cell? (a.add (i * 11 + j)) = some u) ∧ StR W W.heap.size 5 oX.1.sA oX.1.sM (fun k => (oX.1.sy k).cs) ∧ oX.1.sM ≤ maxLen ∧ StR W W.heap.size 1 oX.1.nA oX.1.nM (txC oX.2.1) ∧ oX.1.nM * 16 ≤ 140737488355328 ∧ StR W W.heap.size 4 oX.1.rA oX.1.rM (relC oX.2.2) ∧ oX.1.rM * 32 ≤ 140737488355328) := by
      intro i
      by_cases him : i < m0
      · obtain ⟨cs', hcc, ht⟩ := hi i (by rw [hmm]; simp; omega)
        obtain ⟨o, X, ho, h1, h2, h3, h4, h5, h6, h7⟩ := obj_of_trodX ht (fun q hq => hw q (by rw [hd]; exact weights_elem Try.underlying22 (i := i) (by rw [List.getElem?_map, List.getElem?_range him]; rfl) hq))
        obtain ⟨_, hcl, hat⟩ := World.cells?_some hcc
        refine ⟨(o, X), h3, fun _ => ⟨fun j u hu => ?_, h2, h1, h4, h5, h6, h7⟩⟩
        have hu : o.cs[j]? = some u := hu
        have hj : j < 11 := by have := (Array.getElem?_eq_some_iff.1 hu).1; simpa [ObjD.cs] using this
        rw [← Go.Deep.add_add, hat j hj, ho, Array.getElem?_toList]
        exact hu
      · exact ⟨(objZ, (fun _ => ⟨#[]⟩, fun _ => ⟨0, 0, 0, 0⟩)), fun _ => Nat.zero_le _, fun h => absurd h him⟩
    refine ⟨some a, m0, c0, fun i => (Classical.choose (key i)).1, fun i => (Classical.choose (key i)).2, rfl, ⟨fun hn => ⟨a, rfl, ?_, fun i hi j u hu => ((Classical.choose_spec (key i)).2 hi).1 j u hu⟩, fun i hi => ⟨((Classical.choose_spec (key i)).2 hi).2.1, ((Classical.choose_spec (key i)).2 hi).2.2.1⟩, by omega⟩, fun x => (Classical.choose_spec (key x.1)).1 x.2, fun i hi => ((Classical.choose_spec (key i)).2 hi).2.2.2⟩
    have h0 := ((Classical.choose_spec (key 0)).2 hn).1 0 _ rfl
    have := World.block_lt_of_cell? W _ h0
    rwa [block_of_add] at this
end
end Go.Proofs.Ytneleioiondapaa
