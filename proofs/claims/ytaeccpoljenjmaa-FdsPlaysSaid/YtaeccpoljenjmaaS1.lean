/-
  Slots in memory: a block of sixteen slots of four cells, read as a function of the slot's number. Plain lemmas.
-/
import Derived.Test.YtaeccpoljenjmaaMem
import Derived.OneCell
namespace Go.Hos
open Go.RowKit

structure Sl where
  u : Bool
  i : Int
  p : Int
  x : Bool
  deriving DecidableEq
def Sl.cs (s : Sl) : Array Value := #[.bool s.u, .int .i64 s.i, .int .i64 s.p, .bool s.x]
def nosl : Sl := ⟨false, 0, 0, false⟩
def upd {α : Type} (f : Nat → α) (k : Nat) (x : α) : Nat → α := fun j => if j = k then x else f j
theorem upd_same {α : Type} (f : Nat → α) (k : Nat) (x : α) : upd f k x k = x := if_pos rfl
theorem upd_other {α : Type} (f : Nat → α) {k j : Nat} (x : α) (h : j ≠ k) : upd f k x j = f j := if_neg h

def RD (cs : Array Value) (T : Nat → Sl) : Prop := ∀ k, k < 16 → cs[k * 4]? = some (.bool (T k).u) ∧ cs[k * 4 + 1]? = some (.int .i64 (T k).i) ∧ cs[k * 4 + 2]? = some (.int .i64 (T k).p) ∧ cs[k * 4 + 3]? = some (.bool (T k).x)
structure SB (W : World) (g : Nat) (t : TypeId) (m : Nat) (T : Nat → Sl) : Prop where
  ex : ∃ cs, Blk W g t cs ∧ cs.size = m * 4 ∧ RD cs T
  le : 16 ≤ m
section
variable {W W' : World} {g m : Nat} {t : TypeId} {T T' : Nat → Sl}
theorem SB.lt (h : SB W g t m T) : g < W.heap.size := by obtain ⟨cs, hb, _⟩ := h.ex; exact hb.lt
theorem SB.cells (h : SB W g t m T) {k : Nat} (hk : k < 16) : W.cell? ⟨g, k * 4, none⟩ = some (.bool (T k).u) ∧ W.cell? ⟨g, k * 4 + 1, none⟩ = some (.int .i64 (T k).i) ∧ W.cell? ⟨g, k * 4 + 2, none⟩ = some (.int .i64 (T k).p) ∧ W.cell? ⟨g, k * 4 + 3, none⟩ = some (.bool (T k).x) := by
  obtain ⟨cs, hb, _, hr⟩ := h.ex
  obtain ⟨h1, h2, h3, h4⟩ := hr k hk
  exact ⟨(hb.cell _).trans h1, (hb.cell _).trans h2, (hb.cell _).trans h3, (hb.cell _).trans h4⟩
theorem SB.free (h : SB W g t m T) (i : Nat) : W.frozen? ⟨g, i, none⟩ = false := by obtain ⟨cs, hb, _⟩ := h.ex; exact hb.frozen i
theorem SB.below {B : Nat} (h : SB W g t m T) (hb : Below B W W') (hg : g < B) : SB W' g t m T := by
  obtain ⟨cs, h1, h2⟩ := h.ex
  exact ⟨⟨cs, h1.below hb hg, h2⟩, h.le⟩
theorem SB.next (h : SB W g t m T) (hb : Below W.heap.size W W') : SB W' g t m T := h.below hb h.lt
theorem SB.grown {row : Option Nat} (h : SB W g t m T) (hb : W.grownBy W' row) (hg : some g ≠ row) : SB W' g t m T := by
  obtain ⟨cs, h1, h2⟩ := h.ex
  exact ⟨⟨cs, h1.grown hb hg, h2⟩, h.le⟩
theorem SB.ne_ {g' m' : Nat} {t' : TypeId} (h : SB W g t m T) (h' : SB W g' t' m' T') (hne : t ≠ t') : g ≠ g' := by
  obtain ⟨cs, h1, _⟩ := h.ex
  obtain ⟨cs', h1', _⟩ := h'.ex
  exact h1.ne_ h1' hne
theorem SB.ne_blk {g' : Nat} {t' : TypeId} {cs' : Array Value} (h : SB W g t m T) (h' : Blk W g' t' cs') (hne : t ≠ t') : g ≠ g' := by
  obtain ⟨cs, h1, _⟩ := h.ex
  exact h1.ne_ h' hne
theorem SB.same (h : SB W g t m T) (hT : ∀ k, k < 16 → T' k = T k) : SB W g t m T' := by
  obtain ⟨cs, h1, h2, h3⟩ := h.ex
  exact ⟨⟨cs, h1, h2, fun k hk => by rw [hT k hk]; exact h3 k hk⟩, h.le⟩
theorem rd_set {cs : Array Value} {k : Nat} (h : RD cs T) (hs : 64 ≤ cs.size) (hk : k < 16) (s : Sl) :
    RD ((((cs.setIfInBounds (k * 4) (.bool s.u)).setIfInBounds (k * 4 + 1) (.int .i64 s.i)).setIfInBounds (k * 4 + 2) (.int .i64 s.p)).setIfInBounds (k * 4 + 3) (.bool s.x)) (upd T k s) := by
  intro j hj
  obtain ⟨h1, h2, h3, h4⟩ := h j hj
  by_cases e : j = k
  · subst e
    rw [upd_same]
    simp only [Array.getElem?_setIfInBounds, Array.size_setIfInBounds]
    refine ⟨?_, ?_, ?_, ?_⟩
    · rw [if_neg (by omega), if_neg (by omega), if_neg (by omega), if_pos trivial, if_pos (by omega)]
    · rw [if_neg (by omega), if_neg (by omega), if_pos trivial, if_pos (by omega)]
    · rw [if_neg (by omega), if_pos trivial, if_pos (by omega)]
    · rw [if_pos trivial, if_pos (by omega)]
  · rw [upd_other _ _ e]
    simp only [Array.getElem?_setIfInBounds, Array.size_setIfInBounds]
    refine ⟨?_, ?_, ?_, ?_⟩
    · rw [if_neg (by omega), if_neg (by omega), if_neg (by omega), if_neg (by omega)]; exact h1
    · rw [if_neg (by omega), if_neg (by omega), if_neg (by omega), if_neg (by omega)]; exact h2
    · rw [if_neg (by omega), if_neg (by omega), if_neg (by omega), if_neg (by omega)]; exact h3
    · rw [if_neg (by omega), if_neg (by omega), if_neg (by omega), if_neg (by omega)]; exact h4
theorem SB.store (h : SB W g t m T) {k : Nat} (hk : k < 16) (s : Sl) :
    SB ((((W.setCell ⟨g, k * 4, none⟩ (.bool s.u)).setCell ⟨g, k * 4 + 1, none⟩ (.int .i64 s.i)).setCell ⟨g, k * 4 + 2, none⟩ (.int .i64 s.p)).setCell ⟨g, k * 4 + 3, none⟩ (.bool s.x)) g t m (upd T k s) := by
  obtain ⟨cs, h1, h2, h3⟩ := h.ex
  have := h.le
  exact ⟨⟨_, (((h1.set_ _ _).set_ _ _).set_ _ _).set_ _ _, by simp [h2], rd_set h3 (by omega) hk s⟩, h.le⟩
theorem SB.storeP (h : SB W g t m T) {k : Nat} (hk : k < 16) (p : Int) : SB (W.setCell ⟨g, k * 4 + 2, none⟩ (.int .i64 p)) g t m (upd T k { T k with p := p }) := by
  obtain ⟨cs, h1, h2, h3⟩ := h.ex
  have := h.le
  refine ⟨⟨_, h1.set_ _ _, by simp [h2], fun j hj => ?_⟩, h.le⟩
  obtain ⟨e1, e2, e3, e4⟩ := h3 j hj
  simp only [Array.getElem?_setIfInBounds]
  by_cases e : j = k
  · subst e
    rw [upd_same]
    refine ⟨?_, ?_, ?_, ?_⟩
    · rw [if_neg (by omega)]; exact e1
    · rw [if_neg (by omega)]; exact e2
    · rw [if_pos rfl, if_pos (by omega)]
    · rw [if_neg (by omega)]; exact e4
  · rw [upd_other _ _ e]
    refine ⟨?_, ?_, ?_, ?_⟩
    · rw [if_neg (by omega)]; exact e1
    · rw [if_neg (by omega)]; exact e2
    · rw [if_neg (by omega)]; exact e3
    · rw [if_neg (by omega)]; exact e4
theorem grown_set (W : World) (g i : Nat) (v : Value) : W.grownBy (W.setCell ⟨g, i, none⟩ v) (some g) :=
  ⟨rfl, rfl, rfl, by simp [World.setCell], fun k hk hne => Below.heap_setCell W ⟨g, i, none⟩ v k (fun e => hne (by rw [e]))⟩
theorem grown_set4 (W : World) (g i j k l : Nat) (a b c d : Value) : W.grownBy ((((W.setCell ⟨g, i, none⟩ a).setCell ⟨g, j, none⟩ b).setCell ⟨g, k, none⟩ c).setCell ⟨g, l, none⟩ d) (some g) :=
  (((grown_set W g i a).trans (grown_set _ g j b)).trans (grown_set _ g k c)).trans (grown_set _ g l d)
theorem grown_alloc (W : World) (o : Obj) (row : Option Nat) : W.grownBy (W.alloc o) row := World.grownBy_alloc W o row
theorem grown_of_below (h : Below W.heap.size W W') (row : Option Nat) : W.grownBy W' row := ⟨h.os, h.tape, h.output, h.size, fun k hk _ => h.block k hk⟩
theorem below_of_grown {B : Nat} (h : W.grownBy W' (some g)) (hg : B ≤ g) (hB : B ≤ W.heap.size) : Below B W W' := ⟨h.os, h.tape, h.output, h.size, fun k hk => h.block k (by omega) (by intro e; injection e with e; omega)⟩
end

/-! what the calls do, on the slots -/
def okf (T : Nat → Sl) (f : Int) : Bool := decide (0 ≤ f) && decide (f < 16) && (T f.toNat).u
theorem okf_yes {T : Nat → Sl} {f : Int} (h : okf T f = true) : ∃ k : Nat, f = k ∧ k < 16 ∧ (T k).u = true := by
  simp only [okf, Bool.and_eq_true, decide_eq_true_eq] at h
  obtain ⟨k, rfl⟩ := Int.eq_ofNat_of_zero_le h.1.1
  exact ⟨k, rfl, by omega, h.2⟩
theorem okf_no {T : Nat → Sl} {f : Int} (h : okf T f = false) : f < 0 ∨ 16 ≤ f ∨ ∃ k : Nat, f = k ∧ k < 16 ∧ (T k).u = false := by
  by_cases h0 : f < 0
  · exact .inl h0
  by_cases h1 : 16 ≤ f
  · exact .inr (.inl h1)
  obtain ⟨k, rfl⟩ := Int.eq_ofNat_of_zero_le (show 0 ≤ f by omega)
  refine .inr (.inr ⟨k, rfl, by omega, ?_⟩)
  cases hu : (T k).u
  · rfl
  · have : okf T k = true := by simp [okf, hu]; omega
    rw [this] at h; cases h
def closeE (T : Nat → Sl) (f : Int) : Int := if okf T f then 0 else 14
def closeT (T : Nat → Sl) (f : Int) : Nat → Sl := if okf T f then upd T f.toNat nosl else T
def atV (T : Nat → Sl) (f : Int) : Sl := if okf T f then T f.toNat else nosl
def moveE (T : Nat → Sl) (f p : Int) : Int := if okf T f then (if p < 0 ∨ 65536 < p then 1 else 0) else 14
def moveT (T : Nat → Sl) (f p : Int) : Nat → Sl := if okf T f then (if p < 0 ∨ 65536 < p then T else upd T f.toNat { T f.toNat with p := p }) else T
section
variable {T : Nat → Sl} {f p : Int} {k : Nat}
theorem closeE_no (h : okf T f = false) : closeE T f = 14 := by simp [closeE, h]
theorem closeT_no (h : okf T f = false) : closeT T f = T := by simp [closeT, h]
theorem atV_no (h : okf T f = false) : atV T f = nosl := by simp [atV, h]
theorem moveE_no (h : okf T f = false) : moveE T f p = 14 := by simp [moveE, h]
theorem moveT_no (h : okf T f = false) : moveT T f p = T := by simp [moveT, h]
theorem closeE_yes (h : okf T k = true) : closeE T k = 0 := by simp [closeE, h]
theorem closeT_yes (h : okf T k = true) : closeT T k = upd T k nosl := by simp [closeT, h]
theorem atV_yes (h : okf T k = true) : atV T k = T k := by simp [atV, h]
theorem moveE_bad (h : okf T k = true) (hp : p < 0 ∨ 65536 < p) : moveE T k p = 1 := by simp [moveE, h, hp]
theorem moveT_bad (h : okf T k = true) (hp : p < 0 ∨ 65536 < p) : moveT T k p = T := by simp [moveT, h, hp]
theorem moveE_ok (h : okf T k = true) (hp : ¬ (p < 0 ∨ 65536 < p)) : moveE T k p = 0 := by simp only [moveE, h, if_pos, if_neg hp]
theorem moveT_ok (h : okf T k = true) (hp : ¬ (p < 0 ∨ 65536 < p)) : moveT T k p = upd T k { T k with p := p } := by simp only [moveT, h, if_pos, if_neg hp, Int.toNat_natCast]
end
def ff (T : Nat → Sl) : Nat := (List.range 16).findIdx fun k => !(T k).u
theorem ff_spec (T : Nat → Sl) : ff T ≤ 16 ∧ (∀ j, j < ff T → (T j).u = true) ∧ (ff T < 16 → (T (ff T)).u = false) := by
  refine ⟨by have := List.findIdx_le_length (p := fun k => !(T k).u) (xs := List.range 16); simpa [ff] using this, fun j hj => ?_, fun h => ?_⟩
  · have := List.not_of_lt_findIdx hj
    simpa using this
  · have h' : (List.range 16).findIdx (fun k => !(T k).u) < (List.range 16).length := by simpa [ff] using h
    have := List.findIdx_getElem (w := h')
    simpa [ff] using this
theorem ff_eq {T : Nat → Sl} {k : Nat} (h : k ≤ 16) (h1 : ∀ j, j < k → (T j).u = true) (h2 : k < 16 → (T k).u = false) : ff T = k := by
  obtain ⟨a, b, c⟩ := ff_spec T
  rcases Nat.lt_trichotomy (ff T) k with e | e | e
  · have := h1 _ e; rw [c (by omega)] at this; cases this
  · exact e
  · have := b _ e; rw [h2 (by omega)] at this; cases this
def openN (T : Nat → Sl) (ino : Int) : Int := if ino < 0 then 0 else if ff T < 16 then ff T else 0
def openE (T : Nat → Sl) (ino : Int) : Int := if ino < 0 then 1 else if ff T < 16 then 0 else 15
def openT (T : Nat → Sl) (ino : Int) (cx : Bool) : Nat → Sl := if ino < 0 then T else if ff T < 16 then upd T (ff T) ⟨true, ino, 0, cx⟩ else T
def sweepT (T : Nat → Sl) (n : Nat) : Nat → Sl := fun k => if k < n ∧ (T k).x = true then nosl else T k
theorem sweepT_zero (T : Nat → Sl) : sweepT T 0 = T := by funext k; simp [sweepT]
theorem sweepT_yes (T : Nat → Sl) {n : Nat} (h : (T n).x = true) : sweepT T (n + 1) = upd (sweepT T n) n nosl := by
  funext k
  unfold sweepT upd
  by_cases e : k = n
  · subst e; simp [h]
  · have : (k < n + 1 ∧ (T k).x = true) ↔ (k < n ∧ (T k).x = true) := by
      constructor <;> intro ⟨a, b⟩ <;> exact ⟨by omega, b⟩
    simp [e, this]
theorem sweepT_no (T : Nat → Sl) {n : Nat} (h : (T n).x = false) : sweepT T (n + 1) = sweepT T n := by
  funext k
  unfold sweepT
  by_cases e : k = n
  · subst e; simp [h]
  · have : (k < n + 1 ∧ (T k).x = true) ↔ (k < n ∧ (T k).x = true) := by
      constructor <;> intro ⟨a, b⟩ <;> exact ⟨by omega, b⟩
    simp [this]
end Go.Hos
