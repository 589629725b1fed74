import Derived.Test.YtfhkcbhbomghfaaW1
namespace Go.Proofs.Ytfhkcbhbomghfaa
open Go.RowKit Go.Hos
set_option linter.unusedVariables false

theorem page_mask (a : Nat) (h : a < M) : a &&& 18446744073709547520 = a / 4096 * 4096 := by
  unfold M at h
  have e : a / 4096 * 4096 = (a >>> 12) <<< 12 := by
    rw [Nat.shiftRight_eq_div_pow, Nat.shiftLeft_eq]
  rw [e]
  apply Nat.eq_of_testBit_eq
  intro i
  rw [Nat.testBit_and, Nat.testBit_shiftLeft]
  by_cases hi : i < 64
  · have hc : ∀ i, i < 64 → (18446744073709547520 : Nat).testBit i = decide (12 ≤ i) := by decide +kernel
    rw [hc i hi]
    by_cases h12 : 12 ≤ i
    · simp [h12, Nat.testBit_shiftRight, show 12 + (i - 12) = i by omega]
    · simp [h12]
  · have h0 : a.testBit i = false := Nat.testBit_lt_two_pow (Nat.lt_of_lt_of_le h (by
      have : 2 ^ 64 ≤ 2 ^ i := Nat.pow_le_pow_right (by omega) (by omega)
      exact this))
    rw [h0]
    have h1 : (a >>> 12).testBit (i - 12) = false := by
      rw [Nat.testBit_shiftRight, show 12 + (i - 12) = i by omega, h0]
    simp [h1]
theorem page_andNot (a : Nat) (h : a < M) : bits .andNot .u64 (a : Int) 4095 = ((a / 4096 * 4096 : Nat) : Int) := by
  have e := u64_andNot_nat a 4095 h (by omega)
  rw [show bits .andNot .u64 (a : Int) 4095 = _ from e]
  rw [show 18446744073709551615 - 4095 = 18446744073709547520 from rfl, page_mask a h]

/-- where a page begins -/
def dn (a : Nat) : Nat := a / 4096 * 4096
theorem dn_le (a : Nat) : dn a ≤ a := by unfold dn; omega

set_option maxHeartbeats 400000 in
theorem down_any (a : Nat) (w : World) (ha : a < M) : Calls Try.prog 27 #[.int .u64 a] w fun e w' => e = .returned (.int .u64 (dn a)) ∧ w = w' := by
  have h1 := page_andNot a ha
  obtain ⟨d, hd⟩ : ∃ d, d = a / 4096 * 4096 := ⟨_, rfl⟩
  rw [← hd] at h1
  have h2 : dn a = d := by rw [hd]; rfl
  rw [h2]
  clear hd h2
  go_enter Try.func27, Try.ntmps27
  go_wp2
  go_ret
  exact ⟨rfl, rfl⟩
set_option maxHeartbeats 400000 in
theorem rdown_any (a : Nat) (w : World) (ha : a < M) : Calls Try.prog 28 #[.int .u64 a] w fun e w' => e = .returned (.int .u64 (dn a)) ∧ w = w' := by
  obtain ⟨d, hd⟩ : ∃ d, d = dn a := ⟨_, rfl⟩
  rw [← hd]
  have h1 : IntKind.u64.wrap ((a : Int) - (a : Int) % 4096) = (d : Int) := by
    have e : (a : Int) - (a : Int) % 4096 = ((d : Nat) : Int) := by rw [hd]; unfold dn; omega
    rw [e]; exact wrap_small (by rw [hd]; have := dn_le a; omega)
  clear hd
  go_enter Try.func28, Try.ntmps28
  go_wp2
  go_ret
  exact ⟨rfl, rfl⟩

/-- the first beginning of a page that is not below, where there is one -/
def upv (a : Nat) : Nat := if a + 4095 < M then dn (a + 4095) else 0
set_option maxHeartbeats 400000 in
theorem up_any (a : Nat) (w : World) (ha : a < M) : Calls Try.prog 23 #[.int .u64 a] w fun e w' => e = .returned (.tuple #[.int .u64 (upv a), .bool (decide (a + 4095 < M))]) ∧ w = w' := by
  by_cases h : a + 4095 < M
  · rw [upv, if_pos h, decide_eq_true h]
    obtain ⟨s, hs⟩ : ∃ s, s = a + 4095 := ⟨_, rfl⟩
    rw [← hs]
    have HS := Lib.hid hs
    clear hs
    go_enter Try.func23, Try.ntmps23
    go_wp2_with fail
    refine (add_ok a 4095 s _ ha (by unfold M; omega) HS.out (by have := HS.out; omega)).mono ?_
    rintro e w' ⟨rfl, rfl⟩
    go_wp2_with fail
    refine (down_any s _ (by have := HS.out; omega)).mono ?_
    rintro e w' ⟨rfl, rfl⟩
    go_wp2
    go_ret2
    exact ⟨rfl, rfl⟩
  · rw [upv, if_neg h, decide_eq_false h]
    go_enter Try.func23, Try.ntmps23
    go_wp2_with fail
    refine (add_no a 4095 _ ha (by unfold M; omega) h).mono ?_
    rintro e w' ⟨rfl, rfl⟩
    go_wp2_with fail
    refine (down_any 0 _ (by unfold M; omega)).mono ?_
    rintro e w' ⟨rfl, rfl⟩
    go_wp2
    go_ret2
    exact ⟨rfl, rfl⟩
set_option maxHeartbeats 400000 in
theorem rup_any (a : Nat) (w : World) (ha : a < M) : Calls Try.prog 24 #[.int .u64 a] w fun e w' => e = .returned (.tuple #[.int .u64 (upv a), .bool (decide (a + 4095 < M))]) ∧ w = w' := by
  have hM : M = 18446744073709551616 := rfl
  by_cases h0 : a % 4096 = 0
  · have h : a + 4095 < M := by unfold M at *; omega
    rw [upv, if_pos h, decide_eq_true h, show dn (a + 4095) = a by unfold dn; omega]
    have h1 : ((a : Int) % 4096 == 0) = true := by simp; omega
    clear hM
    go_enter Try.func24, Try.ntmps24
    go_wp2_with fail
    go_ret2
    exact ⟨rfl, rfl⟩
  · have h1 : ((a : Int) % 4096 == 0) = false := by simp; omega
    by_cases h : a + 4095 < M
    · rw [upv, if_pos h, decide_eq_true h]
      have e : dn (a + 4095) = dn a + 4096 := by unfold dn; omega
      rw [e]
      obtain ⟨s, hs⟩ : ∃ s, s = dn a + 4096 := ⟨_, rfl⟩
      rw [← hs]
      have HS := Lib.hid hs
      have hl : Hid (dn a + 4096 < M) := by show _ < _; rw [← e]; have := dn_le (a + 4095); omega
      clear hs hM e
      go_enter Try.func24, Try.ntmps24
      go_wp2_with fail
      refine (rdown_any a _ ha).mono ?_
      rintro e w' ⟨rfl, rfl⟩
      go_wp2_with fail
      refine (radd_ok (dn a) 4096 s _ (by have := dn_le a; omega) (by unfold M; omega) HS.out (by have := HS.out; have := hl.out; omega)).mono ?_
      rintro e w' ⟨rfl, rfl⟩
      go_wp2
      go_ret2
      exact ⟨rfl, rfl⟩
    · rw [upv, if_neg h, decide_eq_false h]
      have hl : Hid (¬ dn a + 4096 < M) := by show ¬ _; unfold dn; unfold M at *; omega
      clear hM
      go_enter Try.func24, Try.ntmps24
      go_wp2_with fail
      refine (rdown_any a _ ha).mono ?_
      rintro e w' ⟨rfl, rfl⟩
      go_wp2_with fail
      refine (radd_no (dn a) 4096 _ (by have := dn_le a; omega) (by unfold M; omega) hl.out).mono ?_
      rintro e w' ⟨rfl, rfl⟩
      go_wp2
      go_ret2
      exact ⟨rfl, rfl⟩
end Go.Proofs.Ytfhkcbhbomghfaa
