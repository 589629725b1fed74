import Derived.Test.YtlenjpgkmikgpaaLZ7
namespace Go.Proofs.Ytlenjpgkmikgpaa.Lay
open Go.RowKit Go.Shelf Go.Hos
set_option linter.unusedVariables false
attribute [local go_sem] Oper.semAt_some
/-! the program's Right -/
def SegD.fits (s : SegD) : Prop := s.off < M ∧ s.addr < M ∧ s.fsz < M ∧ s.msz < M
/-- is a load right, where the pages below 'low' are taken and addresses end at 'en'? -/
def okS (en low : Nat) (s : SegD) : Bool := decide (s.fl ≤ 7) && !(s.msz == 0) && decide (s.fsz ≤ s.msz) && decide (s.off + s.fsz ≤ 65536) && (s.off % 4096 == s.addr % 4096) && decide (s.addr + s.msz ≤ en) && !decide (dn s.addr < low)
def stepR (en : Nat) (st : Bool × Nat) (s : SegD) : Bool × Nat := (st.1 && okS en st.2 s, upv (s.addr + s.msz))
def stR (en : Nat) (l : List SegD) : Bool × Nat := l.foldl (stepR en) (true, 0)
theorem stR_snoc (en : Nat) (l : List SegD) (s : SegD) : stR en (l ++ [s]) = ((stR en l).1 && okS en (stR en l).2 s, upv (s.addr + s.msz)) := by simp [stR, stepR]
theorem stR_pre (en : Nat) {a b : List SegD} (h : a <+: b) (hb : (stR en b).1 = true) : (stR en a).1 = true := by
  obtain ⟨t, rfl⟩ := h
  have key : ∀ (t : List SegD) (st : Bool × Nat), (t.foldl (stepR en) st).1 = true → st.1 = true := by
    intro t
    induction t with
    | nil => intro st h; exact h
    | cons s r ih => intro st h; have := ih _ h; simp only [stepR, Bool.and_eq_true] at this; exact this.1
  unfold stR at hb ⊢
  rw [List.foldl_append] at hb
  exact key t _ hb
def enOf (ty : Nat) : Nat := if ty = 2 then 140737488355328 else 4294967296
theorem enOf_le (ty : Nat) : enOf ty ≤ 140737488355328 := by unfold enOf; split <;> omega
def rightB (o : ObjD) : Bool := decide (0 ≤ o.ino) && decide (o.gM ≤ 8) && (o.ty == 2 || o.ty == 3) && (stR (enOf o.ty) (lds o.sg o.gM)).1 && !(lds o.sg o.gM).isEmpty
theorem upv_lt (a : Nat) : upv a < M := by
  unfold upv
  split
  · exact Nat.lt_of_le_of_lt (dn_le _) ‹_›
  · unfold M; omega
theorem fits_yes (a b c : Nat) (w : World) (ha : a < M) (hb : b < M) (hc : c < M) (h : a + b ≤ c) : Calls Try.prog 35 #[.int .u64 a, .int .u64 b, .int .u64 c] w fun e w' => e = .returned (.bool true) ∧ w = w' := by
  have := fits_any a b c w ha hb hc
  rwa [decide_eq_true h] at this
theorem fits_no (a b c : Nat) (w : World) (ha : a < M) (hb : b < M) (hc : c < M) (h : ¬ a + b ≤ c) : Calls Try.prog 35 #[.int .u64 a, .int .u64 b, .int .u64 c] w fun e w' => e = .returned (.bool false) ∧ w = w' := by
  have := fits_any a b c w ha hb hc
  rwa [decide_eq_false h] at this
/-- what Right keeps between two rounds -/
structure RTI (w : World) (en : Nat) (S : Nat → SegD) (pre : List Nat) (W : World) : Prop where
  ok : (stR en (pre.map S)).1 = true
  b2 : Boxed W (w.heap.size + 1) 4 (.bool false)
  b3 : Boxed W (w.heap.size + 1 + 1) 35 (.int .u64 en)
  b4 : Boxed W (w.heap.size + 1 + 1 + 1) 35 (.int .u64 (stR en (pre.map S)).2)
  b5 : Boxed W (w.heap.size + 1 + 1 + 1 + 1) 4 (.bool (!pre.isEmpty))
  bl : Below w.heap.size w W
structure RTX (w : World) (en : Nat) (S : Nat → SegD) (c : Code) (pre : List Nat) (W : World) : Prop where
  cc : c = .ret
  no : (stR en (pre.map S)).1 = false
  b2 : Boxed W (w.heap.size + 1) 4 (.bool false)
  bl : Below w.heap.size w W
theorem boxed_grown {X Y : World} {row : Option Nat} {B : Nat} {t : TypeId} {v : Value} (h : Boxed X B t v) (hg : X.grownBy Y row) (hr : ∀ r, row = some r → ∃ o : Obj, X.heap[r]? = some o ∧ o.isCells = false) : Boxed Y B t v :=
  boxed_own B t (fun (_ : Unit) => v) () X Y row h hg hr
theorem Blk.own {β : Type} (B : Nat) (t : TypeId) (f : β → Array Value) : Own (fun s W => Blk W B t (f s)) := fun s X Y row hs hg hrow =>
  hs.grown hg (fun e' => by obtain ⟨o, ho, hc⟩ := hrow B e'.symm; rw [show X.heap[B]? = _ from hs] at ho; cases ho; cases hc)
theorem blk_grown {X Y : World} {row : Option Nat} {B : Nat} {t : TypeId} {v : Array Value} (h : Blk X B t v) (hg : X.grownBy Y row) (hr : ∀ r, row = some r → ∃ o : Obj, X.heap[r]? = some o ∧ o.isCells = false) : Blk Y B t v :=
  Blk.own B t (fun (_ : Unit) => v) () X Y row h hg hr
theorem RTI.own (w : World) (en M' : Nat) (S : Nat → SegD) (hM : w.heap.size ≤ M') : OwnFrom M' (RTI w en S) := fun s X Y row hs hg hr =>
  have hr2 := fun r e => (hr r e).2
  ⟨hs.ok, boxed_grown hs.b2 hg hr2, boxed_grown hs.b3 hg hr2, boxed_grown hs.b4 hg hr2, boxed_grown hs.b5 hg hr2, (ownFrom_below (β := Unit) (w₀ := w) (Nat.le_refl _) hM) () X Y row hs.bl hg hr⟩
theorem RTX.own (w : World) (en M' : Nat) (S : Nat → SegD) (hM : w.heap.size ≤ M') (c : Code) : OwnFrom M' (RTX w en S c) := fun s X Y row hs hg hr => by
  have hr2 := fun r e => (hr r e).2
  exact ⟨hs.cc, hs.no, boxed_grown hs.b2 hg hr2, (ownFrom_below (β := Unit) (w₀ := w) (Nat.le_refl _) hM) () X Y row hs.bl hg hr⟩
theorem snoc_not_empty (pre : List Nat) (x : Nat) : (!(pre ++ [x]).isEmpty) = true := by cases pre <;> rfl
theorem okS_no {en low : Nat} {s : SegD} (h : ¬ (s.fl ≤ 7 ∧ ¬ s.msz = 0 ∧ s.fsz ≤ s.msz ∧ s.off + s.fsz ≤ 65536 ∧ s.off % 4096 = s.addr % 4096 ∧ s.addr + s.msz ≤ en ∧ ¬ dn s.addr < low)) : okS en low s = false := by
  rw [← Bool.not_eq_true]
  intro h2
  apply h
  simpa [okS, and_assoc] using h2
theorem okS_yes {en low : Nat} {s : SegD} (h : s.fl ≤ 7 ∧ ¬ s.msz = 0 ∧ s.fsz ≤ s.msz ∧ s.off + s.fsz ≤ 65536 ∧ s.off % 4096 = s.addr % 4096 ∧ s.addr + s.msz ≤ en ∧ ¬ dn s.addr < low) : okS en low s = true := by
  simpa [okS, and_assoc] using h
/-- a fence that is none -/
structure Wide (F : Fence) : Prop where
  fn : ∀ f, F.fn f
  ro : F.round = none
  ca : ∀ {n : Nat} {f : FuncId} {args : Array Value} {w : World} {R : Ending → World → Prop}, Calls Try.prog f args w R → CallsIn F n Try.prog f args w R
theorem wide_wide : Wide Fence.wide := ⟨fun _ => trivial, rfl, fun h => callsIn_wide.2 h⟩
theorem RTX.drew {w : World} {en : Nat} {S : Nat → SegD} {c : Code} {pre : List Nat} {W : World} (h : RTX w en S c pre W) : RTX w en S c pre W.drew := ⟨h.cc, h.no, h.b2, h.bl.trans (Below.refl _ _).drew⟩
end Go.Proofs.Ytlenjpgkmikgpaa.Lay
