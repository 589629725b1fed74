/-
  Rows in memory: a block known as a function of the index. Plain lemmas.
-/
import Derived.Test.YtgikfjfinjcfmaaDoorMem
import Derived.OneCell
namespace Go.Hos
open Go.RowKit
def upd {α : Type} (f : Nat → α) (k : Nat) (x : α) : Nat → α := fun j => if j = k then x else f j
theorem upd_same {α : Type} (f : Nat → α) (k : Nat) (x : α) : upd f k x k = x := if_pos rfl
theorem upd_other {α : Type} (f : Nat → α) {k j : Nat} (x : α) (h : j ≠ k) : upd f k x j = f j := if_neg h

def Row (W : World) (g : Nat) (t : TypeId) (n : Nat) (f : Nat → Value) : Prop := ∃ cs, Blk W g t cs ∧ cs.size = n ∧ ∀ k, k < n → cs[k]? = some (f k)
section
variable {W W' : World} {g n : Nat} {t : TypeId} {f : Nat → Value}
theorem Row.lt (h : Row W g t n f) : g < W.heap.size := by obtain ⟨cs, hb, _⟩ := h; exact hb.lt
theorem Row.get (h : Row W g t n f) {k : Nat} (hk : k < n) : W.cell? ⟨g, k, none⟩ = some (f k) := by obtain ⟨cs, hb, _, hr⟩ := h; exact (hb.cell k).trans (hr k hk)
theorem Row.free (h : Row W g t n f) (k : Nat) : W.frozen? ⟨g, k, none⟩ = false := by obtain ⟨cs, hb, _⟩ := h; exact hb.frozen k
theorem Row.grown {row : Option Nat} (h : Row W g t n f) (hb : W.grownBy W' row) (hg : some g ≠ row) : Row W' g t n f := by obtain ⟨cs, h1, h2⟩ := h; exact ⟨cs, h1.grown hb hg, h2⟩
theorem Row.below {B : Nat} (h : Row W g t n f) (hb : Below B W W') (hg : g < B) : Row W' g t n f := by obtain ⟨cs, h1, h2⟩ := h; exact ⟨cs, h1.below hb hg, h2⟩
theorem Row.next (h : Row W g t n f) (hb : Below W.heap.size W W') : Row W' g t n f := h.below hb h.lt
theorem Row.ne_ {g' n' : Nat} {t' : TypeId} {f' : Nat → Value} (h : Row W g t n f) (h' : Row W g' t' n' f') (hne : t ≠ t') : g ≠ g' := by
  obtain ⟨cs, h1, _⟩ := h; obtain ⟨cs', h1', _⟩ := h'; exact h1.ne_ h1' hne
theorem Row.ne_blk {g' : Nat} {t' : TypeId} {cs' : Array Value} (h : Row W g t n f) (h' : Blk W g' t' cs') (hne : t ≠ t') : g ≠ g' := by
  obtain ⟨cs, h1, _⟩ := h; exact h1.ne_ h' hne
theorem Row.set_ (h : Row W g t n f) (k : Nat) (u : Value) : Row (W.setCell ⟨g, k, none⟩ u) g t n (upd f k u) := by
  obtain ⟨cs, h1, h2, h3⟩ := h
  refine ⟨_, h1.set_ k u, by simp [h2], fun j hj => ?_⟩
  rw [Array.getElem?_setIfInBounds]
  by_cases e : j = k
  · subst e; rw [upd_same, if_pos rfl, if_pos (by omega)]
  · rw [upd_other _ _ e, if_neg (by omega)]; exact h3 j hj
theorem Row.far (h : Row W g t n f) {p : Addr} (hp : g ≠ p.block) (u : Value) : Row (W.setCell p u) g t n f := by obtain ⟨cs, h1, h2⟩ := h; exact ⟨cs, h1.far hp u, h2⟩
theorem Row.congr {f' : Nat → Value} (h : Row W g t n f) (he : ∀ k, k < n → f' k = f k) : Row W g t n f' := by
  obtain ⟨cs, h1, h2, h3⟩ := h; exact ⟨cs, h1, h2, fun k hk => by rw [he k hk]; exact h3 k hk⟩
theorem Row.made (W : World) (t : TypeId) (n : Nat) (v : Value) (cs : Array Value) (hc : cs.toList = List.replicate n v) : Row (W.alloc (.cells cs t)) W.heap.size t n (fun _ => v) := by
  refine ⟨cs, Blk.new _ _ _, by rw [← Array.length_toList, hc]; simp, fun k hk => ?_⟩
  rw [← Array.getElem?_toList, hc, List.getElem?_replicate, if_pos hk]
theorem Row.keep (h : Row W g t n f) (hk : ∀ cs, Blk W g t cs → Blk W' g t cs) : Row W' g t n f := by obtain ⟨cs, h1, h2⟩ := h; exact ⟨cs, hk cs h1, h2⟩
end
theorem grown_set (W : World) (g i : Nat) (v : Value) : W.grownBy (W.setCell ⟨g, i, none⟩ v) (some g) :=
  ⟨rfl, rfl, rfl, by simp [World.setCell], fun k hk hne => Below.heap_setCell W ⟨g, i, none⟩ v k (fun e => hne (by rw [e]))⟩
theorem grown_of_below {W W' : World} (h : Below W.heap.size W W') (row : Option Nat) : W.grownBy W' row := ⟨h.os, h.tape, h.output, h.size, fun k hk _ => h.block k hk⟩
theorem below_of_grown {W W' : World} {g B : Nat} (h : W.grownBy W' (some g)) (hg : B ≤ g) (hB : B ≤ W.heap.size) : Below B W W' := ⟨h.os, h.tape, h.output, h.size, fun k hk => h.block k (by omega) (by intro e; injection e with e; omega)⟩

/-! how many of n are free -/
def frees (C : Nat → Nat) : Nat → Nat
  | 0 => 0
  | n + 1 => frees C n + if C n = 0 then 1 else 0
theorem frees_le (C : Nat → Nat) : ∀ n, frees C n ≤ n
  | 0 => Nat.le_refl _
  | n + 1 => by have := frees_le C n; unfold frees; split <;> omega
theorem frees_congr {C C' : Nat → Nat} : ∀ n, (∀ k, k < n → (C' k = 0 ↔ C k = 0)) → frees C' n = frees C n
  | 0, _ => rfl
  | n + 1, h => by
    unfold frees
    rw [frees_congr n (fun k hk => h k (by omega))]
    have := h n (by omega)
    by_cases e : C n = 0
    · rw [if_pos e, if_pos (this.2 e)]
    · rw [if_neg e, if_neg (fun e' => e (this.1 e'))]
theorem frees_upd_far (C : Nat → Nat) (k x : Nat) : ∀ n, n ≤ k → frees (upd C k x) n = frees C n := fun n h => frees_congr n fun j hj => by rw [upd_other _ _ (by omega)]
/-- one is given up -/
theorem frees_up (C : Nat → Nat) (k x : Nat) (h0 : C k ≠ 0) (hx : x = 0) : ∀ n, k < n → frees (upd C k x) n = frees C n + 1
  | n + 1, h => by
    unfold frees
    by_cases e : n = k
    · subst e; rw [frees_upd_far C n x n (Nat.le_refl _), upd_same, if_pos hx, if_neg h0]
    · rw [frees_up C k x h0 hx n (by omega), upd_other _ _ e]; omega
/-- one is taken -/
theorem frees_down (C : Nat → Nat) (k x : Nat) (h0 : C k = 0) (hx : x ≠ 0) : ∀ n, k < n → frees (upd C k x) n + 1 = frees C n
  | n + 1, h => by
    unfold frees
    by_cases e : n = k
    · subst e; rw [frees_upd_far C n x n (Nat.le_refl _), upd_same, if_neg hx, if_pos h0]
    · have := frees_down C k x h0 hx n (by omega); rw [upd_other _ _ e]; omega
theorem frees_zero (C : Nat → Nat) : ∀ n, frees C n = 0 → ∀ k, k < n → C k ≠ 0
  | n + 1, h, k, hk => by
    unfold frees at h
    by_cases e : k = n
    · subst e; intro e0; rw [if_pos e0] at h; omega
    · exact frees_zero C n (by omega) k (by omega)
theorem frees_all (C : Nat → Nat) : ∀ n, (∀ k, k < n → C k = 0) → frees C n = n
  | 0, _ => rfl
  | n + 1, h => by unfold frees; rw [frees_all C n (fun k hk => h k (by omega)), if_pos (h n (by omega))]
theorem frees_none (C : Nat → Nat) : ∀ n, (∀ k, k < n → C k ≠ 0) → frees C n = 0
  | 0, _ => rfl
  | n + 1, h => by unfold frees; rw [frees_none C n (fun k hk => h k (by omega)), if_neg (h n (by omega))]
end Go.Hos
