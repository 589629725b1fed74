import Derived.Test.YtgikfjfinjcfmaaDoorF3
import Derived.Great.BuildSlice
namespace Go.Hos
theorem exists_low (x : Nat) (h0 : x ≠ 0) (hx : x < 18446744073709551616) : ∃ k, k < 64 ∧ x.testBit k = true ∧ ∀ j, j < k → x.testBit j = false := by
  obtain ⟨i, hi⟩ : ∃ i, x.testBit i = true := Nat.exists_testBit_of_ne_zero h0
  have key : ∀ m i, i ≤ m → x.testBit i = true → ∃ k, x.testBit k = true ∧ ∀ j, j < k → x.testBit j = false := by
    intro m
    induction m with
    | zero => intro i him h; exact ⟨i, h, fun j hj => absurd hj (by omega)⟩
    | succ m ih =>
      intro i him h
      by_cases hall : ∀ j, j < i → x.testBit j = false
      · exact ⟨i, h, hall⟩
      · obtain ⟨j, hj⟩ := Classical.not_forall.1 hall
        obtain ⟨hji, hjt⟩ := Classical.not_imp.1 hj
        exact ih j (by omega) (by simpa using hjt)
  obtain ⟨k, h1, h2⟩ := key i i (Nat.le_refl _) hi
  exact ⟨k, lt_64 hx h1, h1, h2⟩
theorem andnot_bit {x r : Nat} (hx : x < 18446744073709551616) (hr : r < 64) : x &&& (18446744073709551615 - 2 ^ r) < 18446744073709551616 ∧ ∀ j, j < 64 → (x &&& (18446744073709551615 - 2 ^ r)).testBit j = (x.testBit j && !decide (r = j)) := by
  refine ⟨Nat.lt_of_le_of_lt Nat.and_le_left hx, fun j hj => ?_⟩
  have h1 : 2 ^ r < 2 ^ 64 := Nat.pow_lt_pow_right (by omega) hr
  have e : 18446744073709551615 - 2 ^ r = 2 ^ 64 - (2 ^ r + 1) := by omega
  rw [Nat.testBit_and, e, Nat.testBit_two_pow_sub_succ h1, Nat.testBit_two_pow, decide_eq_true hj, Bool.true_and]
def tf (C : Nat → Nat) (n : Nat) : Nat := (List.range n).findIdx fun k => C k == 0
theorem tf_spec (C : Nat → Nat) (n : Nat) : tf C n ≤ n ∧ (∀ j, j < tf C n → C j ≠ 0) ∧ (tf C n < n → C (tf C n) = 0) := by
  refine ⟨by have := List.findIdx_le_length (p := fun k => C k == 0) (xs := List.range n); simpa [tf] using this, fun j hj => ?_, fun h => ?_⟩
  · have := List.not_of_lt_findIdx hj
    simpa using this
  · have h' : (List.range n).findIdx (fun k => C k == 0) < (List.range n).length := by simpa [tf] using h
    have := List.findIdx_getElem (w := h')
    simpa [tf] using this
theorem tf_eq {C : Nat → Nat} {n k : Nat} (h : k ≤ n) (h1 : ∀ j, j < k → C j ≠ 0) (h2 : k < n → C k = 0) : tf C n = k := by
  obtain ⟨a, b, c⟩ := tf_spec C n
  rcases Nat.lt_trichotomy (tf C n) k with e | e | e
  · exact absurd (c (by omega)) (h1 _ e)
  · exact e
  · exact absurd (h2 (by omega)) (b _ e)
end Go.Hos
namespace Go.Proofs.YtgikfjfinjcfmaaDoor
open Go.RowKit Go.Hos
set_option linter.unusedVariables false

def z4 : Array Value := Array.replicate 4096 (.int .u8 0)
theorem z4_built : Tryd.prog.built 69 [] = some z4 := by kernel_rfl
theorem z4_row (W : World) {g : Nat} (hg : W.heap.size = g) : Row (W.alloc (.cells z4 69)) g 69 4096 (fun _ => .int .u8 ((0 : Nat) : Int)) := by
  subst hg
  exact Row.made W 69 4096 _ z4 (by simp [z4])

/-- the world behind a take -/
theorem PM.take {B : Nat} {W : World} {p c b f n : Nat} {C Fb : Nat → Nat} {D : Nat → Nat → Nat} {k : Nat} {X : Nat → Nat} (h : PM B W p c b f n C Fb D) (hB : B ≤ W.heap.size) (hk : k < n) (h0 : C k = 0)
    (hX : Row W f 65 ((n + 63) / 64) (fun i => .int .u64 (X i))) (hX2 : ∀ i, i < (n + 63) / 64 → X i < 18446744073709551616 ∧ ∀ j, j < 64 → (X i).testBit j = decide (i * 64 + j < n ∧ C (i * 64 + j) = 0)) :
    PM B (((((W.setCell ⟨f, k / 64, none⟩ (.int .u64 ((X (k / 64) &&& (18446744073709551615 - 2 ^ (k % 64)) : Nat) : Int))).setCell ⟨p, 3, none⟩ (.int .i64 (frees (upd C k 1) n))).setCell ⟨c, k, none⟩ (.int .i64 1)).setCell ⟨b, k, none⟩ (.pointer (some ⟨W.heap.size, 0, none⟩))).alloc (.cells z4 69))
      p c b f n (upd C k 1) (upd Fb k W.heap.size) (upd D k (fun _ => 0)) := by
  have nfp := hX.ne_blk h.hd (by decide)
  have nfc := hX.ne_ h.cc (by decide)
  obtain ⟨P, hP, hP2⟩ := h.bb
  have nfb := hX.ne_ hP (by decide)
  have ncp := h.cc.ne_blk h.hd (by decide)
  have ncb := h.cc.ne_ hP (by decide)
  have nbp := hP.ne_blk h.hd (by decide)
  have sz : ∀ (W : World) (a : Addr) (v : Value), (W.setCell a v).heap.size = W.heap.size := fun W a v => by simp [World.setCell]
  refine ⟨?_, ?_, ⟨upd P k (some ⟨W.heap.size, 0, none⟩), ?_, fun j hj hc => ?_⟩, ⟨upd X (k / 64) (X (k / 64) &&& (18446744073709551615 - 2 ^ (k % 64))), ?_, fun i hi => ?_⟩, fun j hj hc => ?_, fun i j hi hj hci hcj hij => ?_, ⟨h.bs.1, h.bs.2.1, h.bs.2.2.1, h.bs.2.2.2.1, fun j hj hc => ?_⟩, h.nn⟩
  · refine Blk.alloc ?_ _
    refine Blk.far ?_ (fun e => nbp e.symm) _
    refine Blk.far ?_ (fun e => ncp e.symm) _
    exact (h.hd.far (fun e => nfp e.symm) _).set_ 3 _
  · refine row_al ?_ _
    refine Row.far ?_ ncb _
    have h1 := ((h.cc.far (fun e => nfc e.symm) (.int .u64 ((X (k / 64) &&& (18446744073709551615 - 2 ^ (k % 64)) : Nat) : Int)) (p := ⟨f, k / 64, none⟩)).far (p := ⟨p, 3, none⟩) ncp (.int .i64 (frees (upd C k 1) n))).set_ k (.int .i64 ((1 : Nat) : Int))
    rw [upd_comp (fun x : Nat => Value.int .i64 (x : Int))] at h1
    exact h1
  · refine row_al ?_ _
    have h1 := (((hP.far (p := ⟨f, k / 64, none⟩) (fun e => nfb e.symm) (.int .u64 ((X (k / 64) &&& (18446744073709551615 - 2 ^ (k % 64)) : Nat) : Int))).far (p := ⟨p, 3, none⟩) nbp (.int .i64 (frees (upd C k 1) n))).far (p := ⟨c, k, none⟩) (fun e => ncb e.symm) (.int .i64 1)).set_ k (.pointer (some ⟨W.heap.size, 0, none⟩))
    rw [upd_comp (fun x : Option Addr => Value.pointer x)] at h1
    exact h1
  · by_cases e : j = k
    · subst e; rw [upd_same, upd_same]
    · rw [upd_other _ _ e, upd_other _ _ e]
      rw [upd_other _ _ e] at hc
      exact hP2 j hj hc
  · refine row_al ?_ _
    refine Row.far ?_ nfb _
    refine Row.far ?_ nfc _
    refine Row.far ?_ nfp _
    have h1 := hX.set_ (k / 64) (.int .u64 ((X (k / 64) &&& (18446744073709551615 - 2 ^ (k % 64)) : Nat) : Int))
    rw [upd_comp (fun x : Nat => Value.int .u64 (x : Int))] at h1
    exact h1
  · by_cases e : i = k / 64
    · subst e
      obtain ⟨h1, h2⟩ := hX2 _ hi
      obtain ⟨h3, h4⟩ := andnot_bit h1 (show k % 64 < 64 by omega)
      rw [upd_same]
      refine ⟨h3, fun j hj => ?_⟩
      rw [h4 j hj, h2 j hj]
      by_cases e : k % 64 = j
      · have ek : k / 64 * 64 + j = k := by omega
        rw [ek, upd_same]; simp [e]
      · rw [upd_other _ _ (by omega)]; simp [e]
    · rw [upd_other _ _ e]
      obtain ⟨h1, h2⟩ := hX2 i hi
      refine ⟨h1, fun j hj => ?_⟩
      rw [h2 j hj, upd_other _ _ (by omega)]
  · by_cases e : j = k
    · subst e
      rw [upd_same, upd_same]
      exact z4_row _ (by simp only [sz])
    · rw [upd_other _ _ e] at hc
      rw [upd_other _ _ e, upd_other _ _ e]
      have hr := h.fr j hj hc
      have m1 := hr.ne_ hX (by decide)
      have m2 := hr.ne_blk h.hd (by decide)
      have m3 := hr.ne_ h.cc (by decide)
      have m4 := hr.ne_ hP (by decide)
      exact row_al ((((hr.far m1 _).far m2 _).far m3 _).far m4 _) _
  · by_cases e1 : i = k
    · subst e1
      rw [upd_other _ _ (by omega)] at hcj
      rw [upd_same, upd_other _ _ (by omega)]
      have := (h.fr j hj hcj).lt; omega
    · rw [upd_other _ _ e1] at hci
      rw [upd_other _ _ e1]
      by_cases e2 : j = k
      · subst e2
        rw [upd_same]
        have := (h.fr i hi hci).lt; omega
      · rw [upd_other _ _ e2] at hcj
        rw [upd_other _ _ e2]
        exact h.dj i j hi hj hci hcj hij
  · by_cases e : j = k
    · subst e; rw [upd_same]; exact hB
    · rw [upd_other _ _ e] at hc; rw [upd_other _ _ e]; exact h.bs.2.2.2.2 j hj hc
end Go.Proofs.YtgikfjfinjcfmaaDoor
