import Derived.Test.YticnmgdflkipeaaZ18
namespace Go.Proofs.Yticnmgdflkipeaa
open Go.RowKit Go.Shelf Go.Hos
set_option linter.unusedVariables false
/-! where objects are placed: plain -/
/-- the address from which object i would lie, ahead of round i -/
def nxB (O : Nat → ObjD) : Nat → Nat
  | 0 => 139637976727552
  | i + 1 => if i = 0 then 139637976727552 else nxB O i - spanA (O i) + spanZ (O i) + 4096
def nbB (O : Nat → ObjD) (i : Nat) : Nat := if i = 0 then (if (O i).ty = 2 then 0 else 93824992231424 - spanA (O i)) else nxB O i - spanA (O i)
def placed (O : Nat → ObjD) (i : Nat) : ObjD := { O i with base := nbB O i }
def okObjs (O : Nat → ObjD) (m : Nat) : Prop := ∀ i, i < m → rightB (O i) = true ∧ (i = 0 ∨ (O i).ty = 3)
def fitsO (O : Nat → ObjD) : Prop := ∀ i k, ((O i).sg k).fits
theorem placed_right (O : Nat → ObjD) (i : Nat) : rightB (placed O i) = rightB (O i) := rfl
theorem placed_A (O : Nat → ObjD) (i : Nat) : spanA (placed O i) = spanA (O i) := rfl
theorem placed_Z (O : Nat → ObjD) (i : Nat) : spanZ (placed O i) = spanZ (O i) := rfl
set_option maxRecDepth 20000 in
theorem nxB_bound {O : Nat → ObjD} {m : Nat} (h : okObjs O m) : ∀ i, i ≤ m → 139637976727552 ≤ nxB O i ∧ nxB O i ≤ 139637976727552 + i * 4294971392
  | 0, _ => ⟨Nat.le_refl _, Nat.le_add_right _ _⟩
  | i + 1, hi => by
    have ih := nxB_bound h i (by omega)
    unfold nxB
    by_cases e : i = 0
    · rw [if_pos e]; omega
    · rw [if_neg e]
      obtain ⟨hr, h3⟩ := h i (by omega)
      have h3 : (O i).ty = 3 := by rcases h3 with h3 | h3; exact absurd h3 e; exact h3
      have z := spanZ_le3 hr h3
      have a := spanA_lt hr
      omega
set_option maxRecDepth 20000 in
theorem placed_lie {O : Nat → ObjD} {m i : Nat} (h : okObjs O m) (hf : fitsO O) (hm : m ≤ 8) (hi : i < m) : Lie (placed O i) := by
  obtain ⟨hr, h3⟩ := h i hi
  have a := spanA_lt hr
  have z := spanZ_le hr
  have nb := nxB_bound h i (by omega)
  have key : nbB O i + spanZ (O i) ≤ 140737488355328 := by
    unfold nbB
    by_cases e : i = 0
    · rw [if_pos e]
      by_cases t : (O i).ty = 2
      · rw [if_pos t]; omega
      · rw [if_neg t]
        have t3 : (O i).ty = 3 := by rcases (right_parts hr).2.2.1 with t' | t'; exact absurd t' t; exact t'
        have := spanZ_le3 hr t3
        omega
    · rw [if_neg e]
      have t3 : (O i).ty = 3 := by rcases h3 with h3 | h3; exact absurd h3 e; exact h3
      have := spanZ_le3 hr t3
      omega
  refine ⟨hr, decide_eq_true key, ?_, hf i⟩
  show nbB O i < M
  unfold M; omega
/-- the sums and differences of the loop, in the words' arithmetic -/
structure BasSum (O : Nat → ObjD) (i : Nat) (nx nx' nb : Nat) : Prop where
  d : i ≠ 0 → nb + spanA (O i) = nx
  s : i ≠ 0 → nx' = nb + spanZ (O i) + 4096
  b : i ≠ 0 → nx' < M
def clearP (O : Nat → ObjD) (i : Nat) : Bool := clearB (placed O) (sx (placed O i)) (sy (placed O i)) i
def clearAll (O : Nat → ObjD) : Nat → Bool
  | 0 => true
  | n + 1 => clearAll O n && clearP O n
theorem clearAll_no {O : Nat → ObjD} : ∀ {n i : Nat}, i < n → clearP O i = false → clearAll O n = false
  | n + 1, i, h, hc => by
    unfold clearAll
    by_cases e : i = n
    · subst e; rw [hc, Bool.and_false]
    · rw [clearAll_no (n := n) (by omega) hc, Bool.false_and]
/-- the first fault of a list, or none -/
noncomputable def basesE (O : Nat → ObjD) (m : Nat) : Int := by
  classical
  exact if m = 0 ∨ 8 < m then 1 else if okObjs O m then (if clearAll O m then 0 else 13) else 1
theorem basesE_arg {O : Nat → ObjD} {m : Nat} (h : m = 0 ∨ 8 < m ∨ ¬ okObjs O m) : basesE O m = 1 := by
  unfold basesE
  by_cases h1 : m = 0 ∨ 8 < m
  · rw [if_pos h1]
  · rw [if_neg h1, if_neg (by
      rcases h with h | h | h
      · exact absurd (.inl h) h1
      · exact absurd (.inr h) h1
      · exact h)]
theorem basesE_ok {O : Nat → ObjD} {m : Nat} (h0 : 0 < m) (h8 : m ≤ 8) (h : okObjs O m) : basesE O m = if clearAll O m then 0 else 13 := by
  unfold basesE
  rw [if_neg (by omega), if_pos h]
/-- what Bases and its document answer -/
structure BaP (w : World) (O : Nat → ObjD) (m : Nat) (e : Ending) (W' : World) : Prop where
  bl : Below w.heap.size w W'
  re : ∃ A' c' n', e = .returned (.tuple #[.slice A' n' c', .int .i64 (basesE O m)]) ∧ (basesE O m ≠ 0 → A' = none ∧ n' = 0 ∧ c' = 0) ∧ (basesE O m = 0 → n' = m ∧ W'.ownsRow w.heap.size 33 11 (.slice A' m c') m (flatG (objC (placed O)) m))
/-- the objects behind k rounds -/
def partO (O : Nat → ObjD) (k i : Nat) : ObjD := if i < k then placed O i else O i
theorem partO_zero (O : Nat → ObjD) : partO O 0 = O := by funext i; unfold partO; rw [if_neg (by omega)]
theorem flat_part (O : Nat → ObjD) {m k : Nat} (hk : k < m) : (flatG (objC (partO O k)) m).set (k * 11 + 1) (.int .u64 ((nbB O k : Nat) : Int)) = flatG (objC (partO O (k + 1))) m := by
  have l1 := flatG_len (F := objC (partO O k)) (sz := 11) (fun _ => rfl) m
  have l2 := flatG_len (F := objC (partO O (k + 1))) (sz := 11) (fun _ => rfl) m
  refine List.ext_getElem? fun j => ?_
  by_cases hj : j < m * 11
  · have e : j = j / 11 * 11 + j % 11 := by omega
    have hi : j / 11 < m := by omega
    have hr : j % 11 < 11 := by omega
    have g1 := flatG_get (F := objC (partO O k)) (sz := 11) (fun _ => rfl) m (j / 11) (j % 11) hi hr
    have g2 := flatG_get (F := objC (partO O (k + 1))) (sz := 11) (fun _ => rfl) m (j / 11) (j % 11) hi hr
    rw [← e] at g1 g2
    rw [g2]
    by_cases ek : k * 11 + 1 = j
    · rw [List.getElem?_set, if_pos ek, if_pos (by omega)]
      have e1 : j / 11 = k := by omega
      have e2 : j % 11 = 1 := by omega
      rw [e1, e2]
      show _ = (partO O (k + 1) k).cs[1]?
      unfold partO
      rw [if_pos (by omega)]; rfl
    · rw [List.getElem?_set_ne ek, g1]
      by_cases eq : j / 11 = k
      · rw [eq]
        show (partO O k k).cs[j % 11]? = (partO O (k + 1) k).cs[j % 11]?
        unfold partO
        rw [if_neg (by omega), if_pos (by omega)]
        have hne : j % 11 ≠ 1 := by omega
        have : ∀ x, x < 11 → x ≠ 1 → (O k).cs[x]? = (placed O k).cs[x]? := by
          intro x hx h1
          match x, hx, h1 with
          | 0, _, _ => rfl
          | 2, _, _ => rfl
          | 3, _, _ => rfl
          | 4, _, _ => rfl
          | 5, _, _ => rfl
          | 6, _, _ => rfl
          | 7, _, _ => rfl
          | 8, _, _ => rfl
          | 9, _, _ => rfl
          | 10, _, _ => rfl
        exact this _ hr hne
      · show (partO O k (j / 11)).cs[j % 11]? = (partO O (k + 1) (j / 11)).cs[j % 11]?
        unfold partO
        by_cases h1 : j / 11 < k
        · rw [if_pos h1, if_pos (by omega)]
        · rw [if_neg h1, if_neg (by omega)]
  · rw [List.getElem?_eq_none (by rw [List.length_set]; omega), List.getElem?_eq_none (by omega)]
end Go.Proofs.Yticnmgdflkipeaa
