import Derived.Test.YtneleioiondapaaY10
namespace Go.Proofs.Ytneleioiondapaa
open Go.RowKit Go.Shelf Go.Hos
set_option linter.unusedVariables false
/-! an object behind all others, an object ahead of them -/
def consO (o : ObjD) (O : Nat → ObjD) : Nat → ObjD := fun i => match i with | 0 => o | i + 1 => O i
def snocO (O : Nat → ObjD) (m : Nat) (o : ObjD) : Nat → ObjD := fun i => if i = m then o else O i
theorem dfI_congr {O O' : Nat → ObjD} {i : Nat} (h : O i = O' i) : ∀ m, dfI O i m = dfI O' i m
  | 0 => rfl
  | m + 1 => by unfold dfI; rw [dfI_congr h m, h]
theorem dfO_congr {O O' : Nat → ObjD} : ∀ n, (∀ i, i < n → O i = O' i) → dfO O n = dfO O' n
  | 0, _ => rfl
  | n + 1, h => by unfold dfO; rw [dfO_congr n fun i hi => h i (by omega), dfI_congr (h n (by omega)), h n (by omega)]
theorem find_congr {α : Type} {p q : α → Bool} : ∀ (l : List α), (∀ x ∈ l, p x = q x) → l.find? p = l.find? q
  | [], _ => rfl
  | a :: r, h => by
    rw [List.find?_cons, List.find?_cons, h a List.mem_cons_self]
    split
    · rfl
    · exact find_congr r fun x hx => h x (List.mem_cons_of_mem _ hx)
theorem lk_snoc (O : Nat → ObjD) (m : Nat) (o : ObjD) (nm : ByteArray) {x : Nat × Nat} (h : lkO O m nm = some x) : lkO (snocO O m o) (m + 1) nm = some x := by
  unfold lkO at h ⊢
  have e : dfO (snocO O m o) (m + 1) = dfO O m ++ dfI (snocO O m o) m ((snocO O m o) m).sM := by
    show dfO (snocO O m o) m ++ _ = _
    rw [dfO_congr (O := snocO O m o) (O' := O) m fun i hi => by unfold snocO; rw [if_neg (by omega)]]
  rw [e, List.find?_append]
  have e2 : (dfO O m).find? (nmB (snocO O m o) nm) = (dfO O m).find? (nmB O nm) := find_congr _ fun y hy => by
    have := (mem_dfO hy).1
    unfold nmB symA snocO
    rw [if_neg (by omega)]
  rw [e2, h]; rfl
def up1 (x : Nat × Nat) : Nat × Nat := (x.1 + 1, x.2)
theorem dfI_cons (o : ObjD) (O : Nat → ObjD) (i : Nat) : ∀ m, dfI (consO o O) (i + 1) m = (dfI O i m).map up1
  | 0 => rfl
  | m + 1 => by
    unfold dfI
    rw [dfI_cons o O i m, List.map_append]
    show _ ++ (if dfB ((O i).sy m) then [(i + 1, m)] else []) = _
    split <;> rfl
theorem dfO_cons (o : ObjD) (O : Nat → ObjD) : ∀ n, dfO (consO o O) (n + 1) = dfI (consO o O) 0 o.sM ++ (dfO O n).map up1
  | 0 => by show [] ++ dfI (consO o O) 0 ((consO o O) 0).sM = _; simp [dfO, consO]
  | n + 1 => by
    have ih := dfO_cons o O n
    have e : dfO (consO o O) (n + 1 + 1) = dfO (consO o O) (n + 1) ++ dfI (consO o O) (n + 1) ((consO o O) (n + 1)).sM := rfl
    rw [e, ih, dfI_cons]
    have e2 : dfO O (n + 1) = dfO O n ++ dfI O n (O n).sM := rfl
    rw [e2, List.map_append, List.append_assoc]
    rfl
theorem find_map {α β : Type} (f : α → β) (p : β → Bool) : ∀ l : List α, (l.map f).find? p = (l.find? (fun x => p (f x))).map f
  | [] => rfl
  | a :: r => by
    rw [List.map_cons, List.find?_cons, List.find?_cons]
    cases p (f a)
    · exact find_map f p r
    · rfl
/-- one object ahead -/
theorem lk_cons (o : ObjD) (O : Nat → ObjD) (m : Nat) (nm : ByteArray) :
    lkO (consO o O) (m + 1) nm = match lkO (fun _ => o) 1 nm with | some x => some x | none => (lkO O m nm).map up1 := by
  unfold lkO
  rw [dfO_cons, List.find?_append, find_map]
  have e1 : dfO (fun _ => o) 1 = dfI (fun _ => o) 0 o.sM := by show [] ++ _ = _; rfl
  have e2 : dfI (consO o O) 0 o.sM = dfI (fun _ => o) 0 o.sM := dfI_congr (O := consO o O) (O' := fun _ => o) (i := 0) rfl _
  have e3 : (dfI (fun _ => o) 0 o.sM).find? (nmB (consO o O) nm) = (dfI (fun _ => o) 0 o.sM).find? (nmB (fun _ => o) nm) := find_congr _ fun y hy => by
    have := (mem_dfI hy).1
    unfold nmB symA
    rw [this]; rfl
  rw [e1, e2, e3]
  have e4 : (fun x => nmB (consO o O) nm (up1 x)) = nmB O nm := by funext x; rfl
  rw [e4]
  cases (dfI (fun _ => o) 0 o.sM).find? (nmB (fun _ => o) nm) <;> rfl
theorem lk_one {o : ObjD} {nm : ByteArray} {x : Nat × Nat} (h : lkO (fun _ => o) 1 nm = some x) : x.1 = 0 := by have := (lkO_some h).1; omega
/-- behind all others, where nothing was found: an answer is the new object's alone -/
theorem lk_snoc_none (O : Nat → ObjD) (m : Nat) (o : ObjD) (nm : ByteArray) (h : lkO O m nm = none) : (lkO (snocO O m o) (m + 1) nm).isSome = (lkO (fun _ => o) 1 nm).isSome := by
  unfold lkO at h ⊢
  have e : dfO (snocO O m o) (m + 1) = dfO O m ++ dfI (snocO O m o) m o.sM := by
    show dfO (snocO O m o) m ++ dfI (snocO O m o) m ((snocO O m o) m).sM = _
    rw [dfO_congr (O := snocO O m o) (O' := O) m fun i hi => by unfold snocO; rw [if_neg (by omega)]]
    unfold snocO; rw [if_pos rfl]
  have e2 : (dfO O m).find? (nmB (snocO O m o) nm) = (dfO O m).find? (nmB O nm) := find_congr _ fun y hy => by
    have := (mem_dfO hy).1
    unfold nmB symA snocO
    rw [if_neg (by omega)]
  rw [e, List.find?_append, e2, h]
  have e1 : dfO (fun _ => o) 1 = dfI (fun _ => o) 0 o.sM := by show [] ++ _ = _; rfl
  rw [e1]
  have key : ∀ k, ((dfI (snocO O m o) m k).find? (nmB (snocO O m o) nm)).isSome = ((dfI (fun _ => o) 0 k).find? (nmB (fun _ => o) nm)).isSome := by
    intro k
    induction k with
    | zero => rfl
    | succ k ih =>
      have hs : (snocO O m o m) = o := by unfold snocO; rw [if_pos rfl]
      unfold dfI
      rw [List.find?_append, List.find?_append, Option.isSome_or, Option.isSome_or, ih, hs]
      congr 1
      split
      · have : nmB (snocO O m o) nm (m, k) = nmB (fun _ => o) nm (0, k) := by unfold nmB symA; dsimp only; rw [hs]
        rw [List.find?_cons, List.find?_cons, this]
        split <;> rfl
      · rfl
  have := key o.sM
  simpa using this
end Go.Proofs.Ytneleioiondapaa
