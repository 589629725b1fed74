import Derived.Test.YtgikfjfinjcfmaaDoorS1
import Derived.Test.YtgikfjfinjcfmaaDoorF1
import Derived.BigQuiet
import Derived.Deep.QuietTactic
namespace Go.Proofs.YtgikfjfinjcfmaaDoor
open Go.RowKit Go.Hos
set_option linter.unusedVariables false

/-- the program's pool in memory: counts C, the frames' blocks Fb, their bytes D -/
structure PM (B : Nat) (W : World) (p c b f n : Nat) (C Fb : Nat → Nat) (D : Nat → Nat → Nat) : Prop where
  hd : Blk W p 64 #[.slice (some ⟨c, 0, none⟩) n n, .slice (some ⟨b, 0, none⟩) n n, .slice (some ⟨f, 0, none⟩) ((n + 63) / 64) ((n + 63) / 64), .int .i64 (frees C n)]
  cc : Row W c 3 n (fun k => .int .i64 (C k))
  bb : ∃ P : Nat → Option Addr, Row W b 67 n (fun k => .pointer (P k)) ∧ ∀ k, k < n → 0 < C k → P k = some ⟨Fb k, 0, none⟩
  ff : ∃ X : Nat → Nat, Row W f 65 ((n + 63) / 64) (fun i => .int .u64 (X i)) ∧ ∀ i, i < (n + 63) / 64 → X i < 18446744073709551616 ∧ ∀ j, j < 64 → (X i).testBit j = decide (i * 64 + j < n ∧ C (i * 64 + j) = 0)
  fr : ∀ k, k < n → 0 < C k → Row W (Fb k) 69 4096 (fun i => .int .u8 (D k i))
  dj : ∀ i j, i < n → j < n → 0 < C i → 0 < C j → i ≠ j → Fb i ≠ Fb j
  bs : B ≤ p ∧ B ≤ c ∧ B ≤ b ∧ B ≤ f ∧ ∀ k, k < n → 0 < C k → B ≤ Fb k
  nn : 1 ≤ n ∧ n ≤ 1024
/-- what a call on the pool leaves as it was -/
def KF (c : Nat) (W W' : World) : Prop := ∀ g t cs, Blk W g t cs → t ≠ 64 → t ≠ 65 → t ≠ 67 → t ≠ 69 → g ≠ c → Blk W' g t cs
theorem KF.refl (c : Nat) (W : World) : KF c W W := fun _ _ _ h _ _ _ _ _ => h
theorem KF.trans {c : Nat} {W W' W'' : World} (h : KF c W W') (h' : KF c W' W'') : KF c W W'' := fun g t cs hb a1 a2 a3 a4 a5 => h' g t cs (h g t cs hb a1 a2 a3 a4 a5) a1 a2 a3 a4 a5
theorem KF.of_below {c : Nat} {W W' : World} (h : Below W.heap.size W W') : KF c W W' := fun g t cs hb _ _ _ _ _ => hb.below h hb.lt

section
variable {B : Nat} {W W' : World} {p c b f n : Nat} {C Fb : Nat → Nat} {D : Nat → Nat → Nat}
theorem PM.next (h : PM B W p c b f n C Fb D) (hb : Below W.heap.size W W') : PM B W' p c b f n C Fb D := by
  obtain ⟨P, h1, h2⟩ := h.bb
  obtain ⟨X, h3, h4⟩ := h.ff
  exact ⟨h.hd.below hb h.hd.lt, h.cc.next hb, ⟨P, h1.next hb, h2⟩, ⟨X, h3.next hb, h4⟩, fun k hk hc => (h.fr k hk hc).next hb, h.dj, h.bs, h.nn⟩
theorem PM.head (h : PM B W p c b f n C Fb D) : W.cell? ⟨p, 0, none⟩ = some (.slice (some ⟨c, 0, none⟩) n n) ∧ W.cell? ⟨p, 1, none⟩ = some (.slice (some ⟨b, 0, none⟩) n n) ∧
    W.cell? ⟨p, 2, none⟩ = some (.slice (some ⟨f, 0, none⟩) ((n + 63) / 64) ((n + 63) / 64)) ∧ W.cell? ⟨p, 3, none⟩ = some (.int .i64 (frees C n)) :=
  ⟨(h.hd.cell 0).trans rfl, (h.hd.cell 1).trans rfl, (h.hd.cell 2).trans rfl, (h.hd.cell 3).trans rfl⟩
end
def tkB (C : Nat → Nat) (n : Nat) (f : Int) : Bool := decide (0 ≤ f) && decide (f < n) && decide (0 < C f.toNat)
theorem tkB_yes {C : Nat → Nat} {n : Nat} {f : Int} (h : tkB C n f = true) : ∃ k : Nat, f = k ∧ k < n ∧ 0 < C k := by
  simp only [tkB, Bool.and_eq_true, decide_eq_true_eq] at h
  obtain ⟨k, rfl⟩ := Int.eq_ofNat_of_zero_le h.1.1
  exact ⟨k, rfl, by omega, h.2⟩
theorem tkB_of {C : Nat → Nat} {n k : Nat} (hk : k < n) (hc : 0 < C k) : tkB C n k = true := by simp [tkB, hc, hk]
theorem tkB_no {C : Nat → Nat} {n : Nat} {f : Int} (h : tkB C n f = false) : f < 0 ∨ (n : Int) ≤ f ∨ ∃ k : Nat, f = k ∧ k < n ∧ C k = 0 := by
  by_cases h0 : f < 0
  · exact .inl h0
  by_cases h1 : (n : Int) ≤ f
  · exact .inr (.inl h1)
  obtain ⟨k, rfl⟩ := Int.eq_ofNat_of_zero_le (show 0 ≤ f by omega)
  refine .inr (.inr ⟨k, rfl, by omega, ?_⟩)
  rcases Nat.eq_zero_or_pos (C k) with e | e
  · exact e
  · rw [tkB_of (by omega) e] at h; cases h

set_option maxHeartbeats 800000 in
theorem taken_any {B p c b f n : Nat} {C Fb : Nat → Nat} {D : Nat → Nat → Nat} (x : Int) (w : World) (h : PM B w p c b f n C Fb D) :
    Calls Tryd.prog 34 #[.pointer (some ⟨p, 0, none⟩), .int .i64 x] w fun e w' => e = .returned (.bool (tkB C n x)) ∧ w = w' := by
  have hn := h.nn
  obtain ⟨k0, k1, k2, k3⟩ := h.head
  cases hx : tkB C n x
  · rcases tkB_no hx with h0 | h0 | ⟨k, rfl, hk, hc⟩
    · have b0 : ¬ 0 ≤ x := by omega
      clear h hx k1 k2 k3
      go_enter Tryd.func34, Tryd.ntmps34
      go_wp2_with fail
      go_ret
      exact ⟨rfl, rfl⟩
    · have b0 : 0 ≤ x := by omega
      have b1 : ¬ x < (n : Int) := by omega
      clear h hx k1 k2 k3
      go_enter Tryd.func34, Tryd.ntmps34
      go_wp2_with fail
      go_ret
      exact ⟨rfl, rfl⟩
    · have hg := h.cc.get hk
      rw [hc] at hg
      have b0 : (0 : Int) ≤ (k : Int) := by omega
      have b1 : (k : Int) < (n : Int) := by omega
      clear h hx k1 k2 k3 hc
      go_enter Tryd.func34, Tryd.ntmps34
      go_wp2_with fail
      go_ret
      exact ⟨rfl, rfl⟩
  · obtain ⟨k, rfl, hk, hc⟩ := tkB_yes hx
    have hg := h.cc.get hk
    have b0 : (0 : Int) ≤ (k : Int) := by omega
    have b1 : (k : Int) < (n : Int) := by omega
    have b2 : (0 : Int) < (C k : Int) := by omega
    clear h hx k1 k2 k3
    go_enter Tryd.func34, Tryd.ntmps34
    go_wp2_with fail
    go_ret
    exact ⟨rfl, rfl⟩

def cnt (C : Nat → Nat) (n : Nat) (x : Int) : Int := if tkB C n x then (C x.toNat : Int) else 0
set_option maxHeartbeats 800000 in
theorem count_any {B p c b f n : Nat} {C Fb : Nat → Nat} {D : Nat → Nat → Nat} (x : Int) (w : World) (h : PM B w p c b f n C Fb D) :
    Calls Tryd.prog 16 #[.pointer (some ⟨p, 0, none⟩), .int .i64 x] w fun e w' => e = .returned (.int .i64 (cnt C n x)) ∧ w = w' := by
  have hn := h.nn
  have H := Lib.hid h
  obtain ⟨k0, k1, k2, k3⟩ := h.head
  cases hx : tkB C n x
  · rw [cnt, hx]
    have HX := Lib.hid hx
    clear h hx k0 k1 k2 k3
    go_enter Tryd.func16, Tryd.ntmps16
    go_wp2_with fail
    refine (taken_any x _ H.out).mono ?_
    rw [HX.out]
    rintro e w' ⟨rfl, rfl⟩
    go_wp2_with fail
    go_ret
    exact ⟨rfl, rfl⟩
  · rw [cnt, hx, if_pos rfl]
    have HX := Lib.hid hx
    obtain ⟨k, rfl, hk, hc⟩ := tkB_yes hx
    rw [Int.toNat_natCast]
    have hg := h.cc.get hk
    clear h hx k1 k2 k3
    go_enter Tryd.func16, Tryd.ntmps16
    go_wp2_with fail
    refine (taken_any k _ H.out).mono ?_
    rw [HX.out]
    rintro e w' ⟨rfl, rfl⟩
    go_wp2_with fail
    go_ret
    exact ⟨rfl, rfl⟩
set_option maxHeartbeats 800000 in
theorem free_any {B p c b f n : Nat} {C Fb : Nat → Nat} {D : Nat → Nat → Nat} (w : World) (h : PM B w p c b f n C Fb D) :
    Calls Tryd.prog 17 #[.pointer (some ⟨p, 0, none⟩)] w fun e w' => e = .returned (.int .i64 (frees C n)) ∧ w = w' := by
  obtain ⟨k0, k1, k2, k3⟩ := h.head
  clear h k0 k1 k2
  go_enter Tryd.func17, Tryd.ntmps17
  go_wp2_with fail
  go_ret
  exact ⟨rfl, rfl⟩
set_option maxHeartbeats 800000 in
theorem size_any {B p c b f n : Nat} {C Fb : Nat → Nat} {D : Nat → Nat → Nat} (w : World) (h : PM B w p c b f n C Fb D) :
    Calls Tryd.prog 18 #[.pointer (some ⟨p, 0, none⟩)] w fun e w' => e = .returned (.int .i64 n) ∧ w = w' := by
  obtain ⟨k0, k1, k2, k3⟩ := h.head
  clear h k3 k1 k2
  go_enter Tryd.func18, Tryd.ntmps18
  go_wp2_with fail
  go_ret
  exact ⟨rfl, rfl⟩
/-! no pool -/
set_option maxHeartbeats 800000 in
theorem count_nil (x : Int) (w : World) : Calls Tryd.prog 16 #[.pointer none, .int .i64 x] w fun e w' => e = .returned (.int .i64 0) ∧ w = w' := by
  go_enter Tryd.func16, Tryd.ntmps16
  go_wp2_with fail
  go_ret
  exact ⟨rfl, rfl⟩
theorem free_nil (w : World) : Calls Tryd.prog 17 #[.pointer none] w fun e w' => e = .returned (.int .i64 0) ∧ w = w' := by
  go_enter Tryd.func17, Tryd.ntmps17
  go_wp2_with fail
  go_ret
  exact ⟨rfl, rfl⟩
theorem size_nil (w : World) : Calls Tryd.prog 18 #[.pointer none] w fun e w' => e = .returned (.int .i64 0) ∧ w = w' := by
  go_enter Tryd.func18, Tryd.ntmps18
  go_wp2_with fail
  go_ret
  exact ⟨rfl, rfl⟩
theorem take_nil (w : World) : Calls Tryd.prog 19 #[.pointer none] w fun e w' => e = .returned (.tuple #[.int .i64 0, .int .i64 2]) ∧ w = w' := by
  go_enter Tryd.func19, Tryd.ntmps19
  go_wp2_with fail
  go_ret2
  exact ⟨rfl, rfl⟩
theorem up_nil (x : Int) (w : World) : Calls Tryd.prog 20 #[.pointer none, .int .i64 x] w fun e w' => e = .returned (.int .i64 2) ∧ w = w' := by
  go_enter Tryd.func20, Tryd.ntmps20
  go_wp2_with fail
  go_ret
  exact ⟨rfl, rfl⟩
theorem down_nil (x : Int) (w : World) : Calls Tryd.prog 21 #[.pointer none, .int .i64 x] w fun e w' => e = .returned (.int .i64 2) ∧ w = w' := by
  go_enter Tryd.func21, Tryd.ntmps21
  go_wp2_with fail
  go_ret
  exact ⟨rfl, rfl⟩
theorem load_nil (x y z : Int) (w : World) : Calls Tryd.prog 24 #[.pointer none, .int .i64 x, .int .i64 y, .int .i64 z] w fun e w' => e = .returned (.tuple #[.slice none 0 0, .int .i64 2]) ∧ w = w' := by
  go_enter Tryd.func24, Tryd.ntmps24
  go_wp2_with fail
  go_ret2
  exact ⟨rfl, rfl⟩
theorem store_nil (x y : Int) (A : Option Addr) (m q : Nat) (w : World) : Calls Tryd.prog 25 #[.pointer none, .int .i64 x, .int .i64 y, .slice A m q] w fun e w' => e = .returned (.int .i64 2) ∧ w = w' := by
  go_enter Tryd.func25, Tryd.ntmps25
  go_wp2_with fail
  go_ret
  exact ⟨rfl, rfl⟩
theorem copy_nil (x : Int) (w : World) : Calls Tryd.prog 26 #[.pointer none, .int .i64 x] w fun e w' => e = .returned (.tuple #[.int .i64 0, .int .i64 2]) ∧ w = w' := by
  go_enter Tryd.func26, Tryd.ntmps26
  go_wp2_with fail
  go_ret2
  exact ⟨rfl, rfl⟩
end Go.Proofs.YtgikfjfinjcfmaaDoor
