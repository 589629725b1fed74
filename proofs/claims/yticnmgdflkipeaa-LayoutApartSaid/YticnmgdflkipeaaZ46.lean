import Derived.Test.YticnmgdflkipeaaZ45
namespace Go.Proofs.Yticnmgdflkipeaa
open Go.RowKit Go.Shelf Go.Hos
set_option linter.unusedVariables false
/-! plain laws: objects lie apart -/
def fA (o : ObjD) : Nat := (fnS (lds o.sg o.gM) 0).addr
def lA (o : ObjD) : Nat := (fnS (lds o.sg o.gM) ((lds o.sg o.gM).length - 1)).addr
def lM (o : ObjD) : Nat := (fnS (lds o.sg o.gM) ((lds o.sg o.gM).length - 1)).msz
def frm (o : ObjD) : Nat := o.base + fA o
def toO (o : ObjD) : Nat := o.base + lA o + lM o
/-- where an object lies, in pages and in bytes -/
structure ApO (o : ObjD) : Prop where
  lie : Lie o
  b4 : o.base % 4096 = 0
  x4 : sx o % 4096 = 0
  y4 : sy o % 4096 = 0
  f1 : sx o ≤ frm o
  f2 : frm o < sx o + 4096
  t1 : toO o ≤ sy o
  t2 : sy o < toO o + 4096
  ft : frm o < toO o
  le : sy o ≤ 140737488355328
set_option maxRecDepth 20000 in
theorem ap_o {o : ObjD} (h : Lie o) (hb : o.base % 4096 = 0) : ApO o := by
  have hl := (right_parts h.r).2.2.2.2
  have S := right_span h.r
  obtain ⟨r1, r2, r3⟩ := right_last h.r (n := (lds o.sg o.gM).length - 1) (by omega)
  have le : o.base + spanZ o ≤ 140737488355328 := of_decide_eq_true h.l
  have z4 : spanZ o % 4096 = 0 := S.za
  have a4 : spanA o % 4096 = 0 := S.aa
  have lok0 := load_ok h.r hl
  have lok := load_ok h.r (n := (lds o.sg o.gM).length - 1) (by omega)
  have u1 : upv (lA o + lM o) = dn (lA o + lM o + 4095) := upv_dn r1
  have ft : fA o < lA o + lM o := by
    by_cases e : (lds o.sg o.gM).length - 1 = 0
    · have : lA o = fA o := by unfold lA fA; rw [e]
      have h2 : 0 < lM o := lok.m0
      omega
    · have o1 := ld_order h.r (i := 0) (j := (lds o.sg o.gM).length - 1) (by omega) (by omega)
      have d1 := dn_le (fnS (lds o.sg o.gM) ((lds o.sg o.gM).length - 1)).addr
      have u0 := lok0.up
      have m0 := lok0.m0
      unfold fA lA lM
      omega
  have r2' : spanZ o = dn (lA o + lM o + 4095) := by rw [← u1]; exact r2
  have r3' : spanA o = dn (fA o) := r3
  clear r1 r2 r3 u1 S lok lok0
  refine ⟨h, hb, ?_, ?_, ?_, ?_, ?_, ?_, ?_, ?_⟩
  · unfold sx; omega
  · unfold sy; omega
  · unfold sx frm; rw [r3']; unfold dn; omega
  · unfold sx frm; rw [r3']; unfold dn; omega
  · unfold sy toO; rw [r2']; unfold dn; omega
  · unfold sy toO; rw [r2']; unfold dn; omega
  · unfold frm toO; omega
  · exact le
theorem ap_stack {o : ObjD} (h : ApO o) (hs : meetB (sx o) (sy o) 140737488334848 140737488351232 = false) : ¬ (frm o < 140737488351232 ∧ 140737488334848 < toO o) := by
  intro ⟨h1, h2⟩
  have := h.f1; have := h.t1
  unfold meetB at hs
  simp at hs
  omega
theorem ap_two {o p : ObjD} (h : ApO o) (k : ApO p) (hs : meetB (sx o) (sy o) (sx p) (sy p) = false) : ¬ (frm o / 4096 ≤ (toO p - 1) / 4096 ∧ frm p / 4096 ≤ (toO o - 1) / 4096) := by
  intro ⟨h1, h2⟩
  obtain ⟨_, _, a1, a2, a3, a4, a5, a6, a7, a8⟩ := h
  obtain ⟨_, _, b1, b2, b3, b4, b5, b6, b7, b8⟩ := k
  unfold meetB at hs
  simp at hs
  omega
theorem anyM_no {O : Nat → ObjD} {x y : Nat} : ∀ {n i : Nat}, anyM O x y n = false → i < n → meetB x y (sx (O i)) (sy (O i)) = false
  | n + 1, i, h, hi => by
    unfold anyM at h
    rw [Bool.or_eq_false_iff] at h
    by_cases e : i = n
    · subst e; exact h.2
    · exact anyM_no h.1 (by omega)
theorem clearAll_yes {O : Nat → ObjD} {n i : Nat} (h : clearAll O n = true) (hi : i < n) : clearP O i = true := by
  by_cases hc : clearP O i = true
  · exact hc
  · rw [clearAll_no hi (by simpa using hc)] at h; cases h
set_option maxRecDepth 20000 in
theorem nxB_al {O : Nat → ObjD} {m : Nat} (h : okObjs O m) : ∀ i, i ≤ m → nxB O i % 4096 = 0
  | 0, _ => by unfold nxB; rfl
  | i + 1, hi => by
    have ih := nxB_al h i (by omega)
    have nb := nxB_bound h i (by omega)
    unfold nxB
    split
    · rfl
    · rename_i e
      obtain ⟨hr, h3⟩ := h i (by omega)
      have h3 : (O i).ty = 3 := by rcases h3 with h3 | h3; exact absurd h3 e; exact h3
      have a1 : spanA (O i) % 4096 = 0 := (right_span hr).aa
      have a2 : spanZ (O i) % 4096 = 0 := (right_span hr).za
      have a3 := spanA_lt hr
      have a4 := spanZ_le3 hr h3
      omega
set_option maxRecDepth 20000 in
theorem nbB_al {O : Nat → ObjD} {m i : Nat} (h : okObjs O m) (hi : i < m) : nbB O i % 4096 = 0 := by
  obtain ⟨hr, h3⟩ := h i hi
  have a1 : spanA (O i) % 4096 = 0 := (right_span hr).aa
  have a3 := spanA_lt hr
  have nb := nxB_bound h i (by omega)
  have al := nxB_al h i (by omega)
  unfold nbB
  split
  · split
    · rfl
    · rename_i t
      have t3 : (O i).ty = 3 := by rcases (right_parts hr).2.2.1 with t' | t'; exact absurd t' t; exact t'
      have := spanZ_le3 hr t3
      omega
  · rename_i e
    have t3 : (O i).ty = 3 := by rcases h3 with h3 | h3; exact absurd h3 e; exact h3
    have := spanZ_le3 hr t3
    omega
set_option maxRecDepth 20000 in
theorem nxB_mono {O : Nat → ObjD} {m : Nat} (h : okObjs O m) {k : Nat} (hk : 0 < k) : ∀ d, k + d ≤ m → nxB O k ≤ nxB O (k + d)
  | 0, _ => Nat.le_refl _
  | d + 1, hd => by
    have ih := nxB_mono h hk d (by omega)
    have e : nxB O (k + (d + 1)) = nxB O (k + d) - spanA (O (k + d)) + spanZ (O (k + d)) + 4096 := by
      show nxB O ((k + d) + 1) = _
      rw [nxB, if_neg (by omega)]
    obtain ⟨hr, h3⟩ := h (k + d) (by omega)
    have a3 := spanA_lt hr
    omega
/-- n objects that lie apart, the first mm of them in a row -/
structure Apart (Q : Nat → ObjD) (n mm : Nat) : Prop where
  ob : ∀ i, i < n → ApO (Q i)
  st : ∀ i, i < n → ¬ (frm (Q i) < 140737488351232 ∧ 140737488334848 < toO (Q i))
  tw : ∀ i k, i < n → k < i → ¬ (frm (Q i) / 4096 ≤ (toO (Q k) - 1) / 4096 ∧ frm (Q k) / 4096 ≤ (toO (Q i) - 1) / 4096)
  rw : ∀ i k, i < n → k < i → 0 < k → i < mm → toO (Q k) < frm (Q i)
set_option maxRecDepth 20000 in
theorem apart_placed {O : Nat → ObjD} {m : Nat} (h : okObjs O m) (hf : fitsO O) (hm : m ≤ 8) (hc : clearAll O m = true) : Apart (placed O) m m := by
  have ob : ∀ i, i < m → ApO (placed O i) := fun i hi => ap_o (placed_lie h hf hm hi) (nbB_al h hi)
  have cl : ∀ i, i < m → meetB (sx (placed O i)) (sy (placed O i)) 140737488334848 140737488351232 = false ∧ anyM (placed O) (sx (placed O i)) (sy (placed O i)) i = false := fun i hi => by
    have := clearAll_yes hc hi
    unfold clearP clearB at this
    simpa using this
  refine ⟨ob, fun i hi => ap_stack (ob i hi) (cl i hi).1, fun i k hi hk => ap_two (ob i hi) (ob k (by omega)) (anyM_no (cl i hi).2 hk), fun i k hi hk h0 _ => ?_⟩
  have e1 := (ob i hi).f1
  have e2 := (ob k (by omega)).t1
  obtain ⟨hrk, hk3⟩ := h k (by omega)
  obtain ⟨hri, hi3⟩ := h i hi
  have mono := nxB_mono h (k := k + 1) (by omega) (i - (k + 1)) (by omega)
  rw [show k + 1 + (i - (k + 1)) = i by omega] at mono
  have e3 : nxB O (k + 1) = nxB O k - spanA (O k) + spanZ (O k) + 4096 := by rw [nxB, if_neg (by omega)]
  have sk : sy (placed O k) = nxB O k - spanA (O k) + spanZ (O k) := by
    show nbB O k + spanZ (O k) = _
    unfold nbB; rw [if_neg (by omega)]
  have nb := nxB_bound h i (by omega)
  have zi := spanZ_le3 hri (by rcases hi3 with h' | h'; omega; exact h')
  have ai := spanA_lt hri
  have si : sx (placed O i) = nxB O i := by
    show nbB O i + spanA (O i) = _
    unfold nbB; rw [if_neg (by omega)]; omega
  omega
/-- one more object behind them -/
def addO (Q : Nat → ObjD) (m : Nat) (o : ObjD) (i : Nat) : ObjD := if i < m then Q i else o
theorem addO_lt {Q : Nat → ObjD} {m i : Nat} {o : ObjD} (h : i < m) : addO Q m o i = Q i := if_pos h
theorem addO_eq {Q : Nat → ObjD} {m : Nat} {o : ObjD} : addO Q m o m = o := if_neg (Nat.lt_irrefl _)
theorem apart_add {Q : Nat → ObjD} {m : Nat} {o : ObjD} (h : Apart Q m m) (ho : ApO o) (hc : clearB Q (sx o) (sy o) m = true) : Apart (addO Q m o) (m + 1) m := by
  have hc : meetB (sx o) (sy o) 140737488334848 140737488351232 = false ∧ anyM Q (sx o) (sy o) m = false := by unfold clearB at hc; simpa using hc
  refine ⟨fun i hi => ?_, fun i hi => ?_, fun i k hi hk => ?_, fun i k hi hk h0 hm => ?_⟩
  · by_cases e : i < m
    · rw [addO_lt e]; exact h.ob i e
    · obtain rfl : i = m := by omega
      rw [addO_eq]; exact ho
  · by_cases e : i < m
    · rw [addO_lt e]; exact h.st i e
    · obtain rfl : i = m := by omega
      rw [addO_eq]; exact ap_stack ho hc.1
  · by_cases e : i < m
    · rw [addO_lt e, addO_lt (by omega)]; exact h.tw i k e hk
    · obtain rfl : i = m := by omega
      rw [addO_eq, addO_lt hk]; exact ap_two ho (h.ob k hk) (anyM_no hc.2 hk)
  · rw [addO_lt hm, addO_lt (by omega)]; exact h.rw i k hm hk h0 hm
theorem ap_putI {o : ObjD} (hr : rightB o = true) (h3 : o.ty = 3) (hf : ∀ k, (o.sg k).fits) : ApO (putI o) := by
  refine ap_o (putI_lie hr h3 hf) ?_
  have a1 : spanA o % 4096 = 0 := (right_span hr).aa
  have a3 := spanA_lt hr
  have := spanZ_le3 hr h3
  show (138538465099776 - spanA o) % 4096 = 0
  omega
end Go.Proofs.Yticnmgdflkipeaa
