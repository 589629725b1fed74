import Derived.Test.YtneleioiondapaaY11
namespace Go.Proofs.Ytneleioiondapaa
open Go.RowKit Go.Shelf Go.Hos
set_option linter.unusedVariables false
/-- the objects' cells, one behind another -/
def flatC (O : Nat → ObjD) : Nat → List Value
  | 0 => []
  | n + 1 => flatC O n ++ (O n).cs.toList
theorem cs_len (o : ObjD) : o.cs.toList.length = 11 := rfl
theorem flatC_len (O : Nat → ObjD) : ∀ n, (flatC O n).length = n * 11
  | 0 => rfl
  | n + 1 => by unfold flatC; rw [List.length_append, flatC_len O n, cs_len]; omega
theorem flatC_get (O : Nat → ObjD) : ∀ n i j, i < n → j < 11 → (flatC O n)[i * 11 + j]? = (O i).cs[j]?
  | n + 1, i, j, hi, hj => by
    unfold flatC
    by_cases e : i = n
    · subst e
      rw [List.getElem?_append_right (by rw [flatC_len]; omega), flatC_len, show i * 11 + j - i * 11 = j by omega, Array.getElem?_toList]
    · rw [List.getElem?_append_left (by rw [flatC_len]; omega)]
      exact flatC_get O n i j (by omega) hj
theorem flatC_congr {O O' : Nat → ObjD} : ∀ n, (∀ i, i < n → O i = O' i) → flatC O n = flatC O' n
  | 0, _ => rfl
  | n + 1, h => by unfold flatC; rw [flatC_congr n fun i hi => h i (by omega), h n (by omega)]
theorem flatC_cons (o : ObjD) (O : Nat → ObjD) : ∀ n, flatC (consO o O) (n + 1) = o.cs.toList ++ flatC O n
  | 0 => by show [] ++ _ = _; simp [consO, flatC]
  | n + 1 => by
    have : flatC (consO o O) (n + 1 + 1) = flatC (consO o O) (n + 1) ++ (O n).cs.toList := rfl
    rw [this, flatC_cons o O n, List.append_assoc]; rfl
theorem flatC_one : ∀ (O : Nat → ObjD) n, ∀ u ∈ flatC O n, u.oneCell' = true
  | _, 0, u, h => by cases h
  | O, n + 1, u, h => by
    unfold flatC at h
    rcases List.mem_append.1 h with h | h
    · exact flatC_one O n u h
    · have : ∀ o : ObjD, ∀ u ∈ o.cs.toList, u.oneCell' = true := by
        intro o u hu
        simp only [ObjD.cs, List.mem_cons, List.not_mem_nil, or_false] at hu
        rcases hu with rfl | rfl | rfl | rfl | rfl | rfl | rfl | rfl | rfl | rfl | rfl <;> rfl
      exact this _ u h
theorem StR.reads {W : World} {B : Nat} {A : Option Addr} {n : Nat} {O : Nat → ObjD} (h : StR W B 11 A n (fun i => (O i).cs)) : Reads W B 11 A n (flatC O n) := by
  refine ⟨flatC_len O n, fun hn => ?_⟩
  obtain ⟨ad, rfl, hb, hc⟩ := h hn
  refine ⟨ad, rfl, hb, fun j u hu => ?_⟩
  have hj : j < n * 11 := by have := (List.getElem?_eq_some_iff.1 hu).1; rwa [flatC_len] at this
  have e : j = j / 11 * 11 + j % 11 := by omega
  have hi : j / 11 < n := by omega
  have hr : j % 11 < 11 := by omega
  rw [e] at hu ⊢
  rw [flatC_get O n _ _ hi hr] at hu
  exact hc _ hi _ u hu
theorem StR.of_own {W : World} {base e n c : Nat} {A : Option Addr} {O : Nat → ObjD} (h : W.ownsRow base e 11 (.slice A n c) n (flatC O n)) : StR W W.heap.size 11 A n (fun i => (O i).cs) := fun hn => by
  obtain ⟨ad, rfl, hb, hc⟩ := (Reads.of_own h).2 hn
  refine ⟨ad, rfl, hb, fun i hi j u hu => ?_⟩
  have hj : j < 11 := (Array.getElem?_eq_some_iff.1 hu).1
  exact hc _ u (by rw [flatC_get O n i j hi hj]; exact hu)
/-- the object in its box, and what was handed in -/
structure OS (w : World) (o : ObjD) (A : Option Addr) (m : Nat) (O : Nat → ObjD) (W : World) : Prop where
  bl : Below w.heap.size w W
  bo : Blk W w.heap.size 38 o.cs
theorem OS.next {w W W' : World} {o : ObjD} {A : Option Addr} {m : Nat} {O : Nat → ObjD} (h : OS w o A m O W) (hb : Below W.heap.size W W') : OS w o A m O W' :=
  ⟨h.bl.trans (hb.mono h.bl.size), h.bo.below hb h.bo.lt⟩
theorem OS.grown {w W W' : World} {o : ObjD} {A : Option Addr} {m : Nat} {O : Nat → ObjD} {v : Value} {n : Nat} {xs : List Value} (h : OS w o A m O W) (ho : W.ownsRow (w.heap.size + 1) 38 11 v n xs) (hg : W.grownBy W' v.ownBlock) : OS w o A m O W' :=
  ⟨h.bl.trans (below_own hg h.bl.size fun k hk => by have := (ho.lt k hk).1; omega), h.bo.grown hg fun e => by have := (ho.lt _ e.symm).1; omega⟩
theorem OS.cells {w W : World} {ino base ty en ph : Int} {gA nA sA rA : Option Addr} {gM gQ nM nQ sM sQ rM rQ : Nat} {so rn : ByteArray} {sy : Nat → SymD} {A : Option Addr} {m : Nat} {O : Nat → ObjD} (h : Hid (OS w ⟨ino, base, ty, en, ph, gA, gM, gQ, nA, nM, nQ, so, rn, sA, sM, sQ, rA, rM, rQ, sy⟩ A m O W)) :
    W.cell? ⟨w.heap.size, 0, none⟩ = some (.int .i64 ino) ∧ W.cell? ⟨w.heap.size, 1, none⟩ = some (.int .u64 base) ∧ W.cell? ⟨w.heap.size, 2, none⟩ = some (.int .u16 ty) ∧ W.cell? ⟨w.heap.size, 3, none⟩ = some (.int .u64 en) ∧ W.cell? ⟨w.heap.size, 4, none⟩ = some (.int .u64 ph) ∧ W.cell? ⟨w.heap.size, 5, none⟩ = some (.slice gA gM gQ) ∧
    W.cell? ⟨w.heap.size, 6, none⟩ = some (.slice nA nM nQ) ∧ W.cell? ⟨w.heap.size, 7, none⟩ = some (.string so) ∧ W.cell? ⟨w.heap.size, 8, none⟩ = some (.string rn) ∧ W.cell? ⟨w.heap.size, 9, none⟩ = some (.slice sA sM sQ) ∧ W.cell? ⟨w.heap.size, 10, none⟩ = some (.slice rA rM rQ) :=
  ⟨(h.out.bo.cell 0).trans rfl, (h.out.bo.cell 1).trans rfl, (h.out.bo.cell 2).trans rfl, (h.out.bo.cell 3).trans rfl, (h.out.bo.cell 4).trans rfl, (h.out.bo.cell 5).trans rfl, (h.out.bo.cell 6).trans rfl, (h.out.bo.cell 7).trans rfl, (h.out.bo.cell 8).trans rfl, (h.out.bo.cell 9).trans rfl, (h.out.bo.cell 10).trans rfl⟩
/-- objects of which each is one of those, or the one -/
theorem ObjR.of_own {W : World} {base e n c B : Nat} {A : Option Addr} {O : Nat → ObjD} (h : W.ownsRow base e 11 (.slice A n c) n (flatC O n)) (hs : ∀ i, i < n → StR W B 5 (O i).sA (O i).sM (fun k => ((O i).sy k).cs) ∧ (O i).sM ≤ maxLen) (hB : B ≤ W.heap.size) (hn : n ≤ maxLen) : ObjR W W.heap.size A n O :=
  ⟨StR.of_own h, fun i hi => ⟨(hs i hi).1.more hB, (hs i hi).2⟩, hn⟩
theorem info38 : (Try.prog.info? 38).map (fun i => (i.size, i.bytes)) = some (11, 168) := by kernel_rfl
end Go.Proofs.Ytneleioiondapaa
