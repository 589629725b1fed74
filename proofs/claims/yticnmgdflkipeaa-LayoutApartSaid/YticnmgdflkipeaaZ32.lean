import Derived.Test.YticnmgdflkipeaaZ30
import Derived.Test.YticnmgdflkipeaaZ31
import Derived.Test.YticnmgdflkipeaaZ25
namespace Go.Proofs.Yticnmgdflkipeaa
open Go.RowKit Go.Shelf Go.Hos Go.Sort
set_option linter.unusedVariables false
/-! LayoutBases: alike lists have one answer -/
theorem SameO.right {o o' : ObjD} (h : SameO o o') : rightB o' = rightB o ∧ spanA o' = spanA o ∧ spanZ o' = spanZ o ∧ o'.ty = o.ty ∧ o'.sg = o.sg ∧ o'.gM = o.gM := by
  obtain ⟨A, q, rfl⟩ := h; exact ⟨rfl, rfl, rfl, rfl, rfl, rfl⟩
theorem SameO.symm {o o' : ObjD} (h : SameO o o') : SameO o' o := by
  obtain ⟨A, q, rfl⟩ := h; exact ⟨o.gA, o.gQ, rfl⟩
section
variable {O O' : Nat → ObjD} (h : ∀ j, SameO (O j) (O' j))
include h
theorem nxB_same : ∀ i, nxB O' i = nxB O i
  | 0 => rfl
  | i + 1 => by unfold nxB; rw [nxB_same i, (h i).right.2.1, (h i).right.2.2.1]
theorem nbB_same (i : Nat) : nbB O' i = nbB O i := by unfold nbB; rw [nxB_same h, (h i).right.2.1, (h i).right.2.2.2.1]
theorem placed_same (i : Nat) : SameO (placed O i) (placed O' i) := by
  obtain ⟨A, q, e⟩ := h i
  refine ⟨A, q, ?_⟩
  unfold placed
  rw [nbB_same h, e]; rfl
theorem sx_same (i : Nat) : sx (placed O' i) = sx (placed O i) ∧ sy (placed O' i) = sy (placed O i) := by
  obtain ⟨A, q, e⟩ := placed_same h i
  rw [e]; exact ⟨rfl, rfl⟩
theorem anyM_same (x y : Nat) : ∀ n, anyM (placed O') x y n = anyM (placed O) x y n
  | 0 => rfl
  | n + 1 => by unfold anyM meetO; rw [anyM_same x y n, (sx_same h n).1, (sx_same h n).2]
theorem clearP_same (i : Nat) : clearP O' i = clearP O i := by unfold clearP clearB; rw [(sx_same h i).1, (sx_same h i).2, anyM_same h]
theorem clearAll_same : ∀ n, clearAll O' n = clearAll O n
  | 0 => rfl
  | n + 1 => by unfold clearAll; rw [clearAll_same n, clearP_same h]
theorem okObjs_same (m : Nat) : okObjs O' m ↔ okObjs O m := by
  unfold okObjs
  constructor
  · intro k i hi; have := k i hi; rwa [(h i).right.1, (h i).right.2.2.2.1] at this
  · intro k i hi; have := k i hi; rwa [← (h i).right.1, ← (h i).right.2.2.2.1] at this
theorem basesE_same (m : Nat) : basesE O' m = basesE O m := by
  have e : okObjs O' m = okObjs O m := propext (okObjs_same h m)
  unfold basesE
  rw [e, clearAll_same h]
theorem fitsO_same (hf : fitsO O) : fitsO O' := fun i k => by rw [(h i).right.2.2.2.2.1]; exact hf i k
end
end Go.Proofs.Yticnmgdflkipeaa
