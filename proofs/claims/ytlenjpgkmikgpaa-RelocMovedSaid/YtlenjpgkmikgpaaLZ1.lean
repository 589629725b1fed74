import Derived.Test.YtlenjpgkmikgpaaMem
import Derived.Test.YtlenjpgkmikgpaaRows
import Derived.WalkKit
import Derived.WalkSpells
import Derived.WalkLawsBesides
import Derived.Deep.QuietTactic
import Derived.BigQuiet
namespace Go.Proofs.Ytlenjpgkmikgpaa.Lay
open Go.RowKit Go.Hos
set_option linter.unusedVariables false

/-- two to the sixty-four -/
def M : Nat := 18446744073709551616
theorem M_eq : M = 18446744073709551616 := rfl

theorem not64 {b : Nat} (hb : b < M) : bits .xor .u64 IntKind.u64.max (b : Int) = ((M - 1 - b : Nat) : Int) := by
  unfold M at *
  have h := u64_xor_nat 18446744073709551615 b (by omega) hb
  have e : 18446744073709551615 ^^^ b = 18446744073709551615 - b := by
    have h1 : (BitVec.allOnes 64 ^^^ BitVec.ofNat 64 b).toNat = 18446744073709551615 ^^^ b := by
      rw [BitVec.toNat_xor, BitVec.toNat_allOnes, BitVec.toNat_ofNat, Nat.mod_eq_of_lt (by omega)]
    rw [← h1, BitVec.allOnes_xor, BitVec.toNat_not, BitVec.toNat_ofNat, Nat.mod_eq_of_lt (by omega)]
  rw [show IntKind.u64.max = ((18446744073709551615 : Nat) : Int) from rfl, h, e]
theorem wrap_small {s : Nat} (h : s < M) : IntKind.u64.wrap (s : Int) = s := by
  unfold M at h; rw [IntKind.wrap_u64]; omega
theorem wrap_big {a b : Nat} (ha : a < M) (hb : b < M) (h : ¬ a + b < M) : IntKind.u64.wrap ((a : Int) + (b : Int)) = ((a + b - M : Nat) : Int) := by
  unfold M at *; rw [IntKind.wrap_u64]; omega

set_option maxHeartbeats 400000 in
theorem add_ok (a b s : Nat) (w : World) (ha : a < M) (hb : b < M) (hs : s = a + b) (h : s < M) :
    Calls Try.prog 46 #[.int .u64 a, .int .u64 b] w fun e w' => e = .returned (.tuple #[.int .u64 s, .bool true]) ∧ w = w' := by
  have h1 := not64 hb
  have h2 : (if IntKind.u64.signed = true then (-1 : Int) else IntKind.u64.max) = IntKind.u64.max := rfl
  have h3 : IntKind.u64.wrap ((a : Int) + (b : Int)) = s := by subst hs; exact wrap_small h
  obtain ⟨nb, hnb⟩ : ∃ nb, nb = M - 1 - b := ⟨_, rfl⟩
  rw [← hnb] at h1
  have h4 : a ≤ nb := by omega
  clear hs hnb
  go_enter Try.func46, Try.ntmps46
  go_wp2
  go_ret2
  exact ⟨rfl, rfl⟩
set_option maxHeartbeats 400000 in
theorem add_no (a b : Nat) (w : World) (ha : a < M) (hb : b < M) (h : ¬ a + b < M) :
    Calls Try.prog 46 #[.int .u64 a, .int .u64 b] w fun e w' => e = .returned (.tuple #[.int .u64 0, .bool false]) ∧ w = w' := by
  have h1 := not64 hb
  have h2 : (if IntKind.u64.signed = true then (-1 : Int) else IntKind.u64.max) = IntKind.u64.max := rfl
  obtain ⟨nb, hnb⟩ : ∃ nb, nb = M - 1 - b := ⟨_, rfl⟩
  rw [← hnb] at h1
  have h4 : nb < a := by omega
  clear hnb
  go_enter Try.func46, Try.ntmps46
  go_wp2
  go_ret2
  exact ⟨rfl, rfl⟩
set_option maxHeartbeats 400000 in
theorem inside_any (a b c : Nat) (w : World) (ha : a < M) (hb : b < M) (hc : c < M) :
    Calls Try.prog 38 #[.int .u64 a, .int .u64 b, .int .u64 c] w fun e w' => e = .returned (.bool (decide (a + b ≤ c))) ∧ w = w' := by
  by_cases h : a + b < M
  · obtain ⟨s, hs⟩ : ∃ s, s = a + b := ⟨_, rfl⟩
    rw [← hs]
    have HS := Lib.hid hs
    clear hs
    go_enter Try.func38, Try.ntmps38
    go_wp2_with (go_at_call 46; refine (add_ok _ _ s _ ha hb HS.out (by have := HS.out; omega)).mono ?_; rintro e w' ⟨rfl, rfl⟩)
    go_ret
    exact ⟨by congr 2, rfl⟩
  · have hd : decide (a + b ≤ c) = false := decide_eq_false (by omega)
    rw [hd]
    clear hd
    go_enter Try.func38, Try.ntmps38
    go_wp2_with (go_at_call 46; refine (add_no _ _ _ ha hb h).mono ?_; rintro e w' ⟨rfl, rfl⟩)
    go_ret
    exact ⟨rfl, rfl⟩
theorem page_mask (a : Nat) (h : a < M) : a &&& 18446744073709547520 = a / 4096 * 4096 := by
  unfold M at h
  have e : a / 4096 * 4096 = (a >>> 12) <<< 12 := by
    rw [Nat.shiftRight_eq_div_pow, Nat.shiftLeft_eq]
  rw [e]
  apply Nat.eq_of_testBit_eq
  intro i
  rw [Nat.testBit_and, Nat.testBit_shiftLeft]
  by_cases hi : i < 64
  · have hc : ∀ i, i < 64 → (18446744073709547520 : Nat).testBit i = decide (12 ≤ i) := by decide +kernel
    rw [hc i hi]
    by_cases h12 : 12 ≤ i
    · simp [h12, Nat.testBit_shiftRight, show 12 + (i - 12) = i by omega]
    · simp [h12]
  · have h0 : a.testBit i = false := Nat.testBit_lt_two_pow (Nat.lt_of_lt_of_le h (by
      have : 2 ^ 64 ≤ 2 ^ i := Nat.pow_le_pow_right (by omega) (by omega)
      exact this))
    rw [h0]
    have h1 : (a >>> 12).testBit (i - 12) = false := by
      rw [Nat.testBit_shiftRight, show 12 + (i - 12) = i by omega, h0]
    simp [h1]
theorem page_andNot (a : Nat) (h : a < M) : bits .andNot .u64 (a : Int) 4095 = ((a / 4096 * 4096 : Nat) : Int) := by
  have e := u64_andNot_nat a 4095 h (by omega)
  rw [show bits .andNot .u64 (a : Int) 4095 = _ from e]
  rw [show 18446744073709551615 - 4095 = 18446744073709547520 from rfl, page_mask a h]

/-- where a page begins -/
def dn (a : Nat) : Nat := a / 4096 * 4096
theorem dn_le (a : Nat) : dn a ≤ a := by unfold dn; omega

set_option maxHeartbeats 400000 in
theorem down_any (a : Nat) (w : World) (ha : a < M) : Calls Try.prog 36 #[.int .u64 a] w fun e w' => e = .returned (.int .u64 (dn a)) ∧ w = w' := by
  have h1 := page_andNot a ha
  obtain ⟨d, hd⟩ : ∃ d, d = a / 4096 * 4096 := ⟨_, rfl⟩
  rw [← hd] at h1
  have h2 : dn a = d := by rw [hd]; rfl
  rw [h2]
  clear hd h2
  go_enter Try.func36, Try.ntmps36
  go_wp2
  go_ret
  exact ⟨rfl, rfl⟩
/-- the first beginning of a page that is not below, where there is one -/
def upv (a : Nat) : Nat := if a + 4095 < M then dn (a + 4095) else 0
set_option maxHeartbeats 400000 in
theorem up_any (a : Nat) (w : World) (ha : a < M) : Calls Try.prog 45 #[.int .u64 a] w fun e w' => e = .returned (.tuple #[.int .u64 (upv a), .bool (decide (a + 4095 < M))]) ∧ w = w' := by
  by_cases h : a + 4095 < M
  · rw [upv, if_pos h, decide_eq_true h]
    obtain ⟨s, hs⟩ : ∃ s, s = a + 4095 := ⟨_, rfl⟩
    rw [← hs]
    have HS := Lib.hid hs
    clear hs
    go_enter Try.func45, Try.ntmps45
    go_wp2_with fail
    refine (add_ok a 4095 s _ ha (by unfold M; omega) HS.out (by have := HS.out; omega)).mono ?_
    rintro e w' ⟨rfl, rfl⟩
    go_wp2_with fail
    refine (down_any s _ (by have := HS.out; omega)).mono ?_
    rintro e w' ⟨rfl, rfl⟩
    go_wp2
    go_ret2
    exact ⟨rfl, rfl⟩
  · rw [upv, if_neg h, decide_eq_false h]
    go_enter Try.func45, Try.ntmps45
    go_wp2_with fail
    refine (add_no a 4095 _ ha (by unfold M; omega) h).mono ?_
    rintro e w' ⟨rfl, rfl⟩
    go_wp2_with fail
    refine (down_any 0 _ (by unfold M; omega)).mono ?_
    rintro e w' ⟨rfl, rfl⟩
    go_wp2
    go_ret2
    exact ⟨rfl, rfl⟩

/-! layout's own words, and the document's -/
set_option maxHeartbeats 400000 in
theorem lup_any (a : Nat) (w : World) (ha : a < M) : Calls Try.prog 37 #[.int .u64 a] w fun e w' => e = .returned (.int .u64 (upv a)) ∧ w = w' := by
  obtain ⟨u, hu⟩ : ∃ u, u = upv a := ⟨_, rfl⟩
  have HU := Lib.hid hu
  clear hu
  go_enter Try.func37, Try.ntmps37
  go_wp2_with fail
  refine (up_any a _ ha).mono ?_
  rw [← HU.out]
  rintro e w1 ⟨rfl, rfl⟩
  go_wp2_with fail
  go_ret
  exact ⟨by rw [HU.out]; rfl, rfl⟩
set_option maxHeartbeats 400000 in
theorem fits_any (a b c : Nat) (w : World) (ha : a < M) (hb : b < M) (hc : c < M) : Calls Try.prog 35 #[.int .u64 a, .int .u64 b, .int .u64 c] w fun e w' => e = .returned (.bool (decide (a + b ≤ c))) ∧ w = w' := by
  obtain ⟨u, hu⟩ : ∃ u, u = decide (a + b ≤ c) := ⟨_, rfl⟩
  have HU := Lib.hid hu
  clear hu
  go_enter Try.func35, Try.ntmps35
  go_wp2_with fail
  refine (inside_any a b c _ ha hb hc).mono ?_
  rw [← HU.out]
  rintro e w1 ⟨rfl, rfl⟩
  go_wp2_with fail
  go_ret
  exact ⟨by rw [HU.out]; rfl, rfl⟩
set_option maxHeartbeats 400000 in
theorem rdown_any (a : Nat) (w : World) (ha : a < M) : Calls Try.prog 29 #[.int .u64 a] w fun e w' => e = .returned (.int .u64 (dn a)) ∧ w = w' := by
  obtain ⟨x, hx⟩ : ∃ x, x = dn a := ⟨_, rfl⟩
  obtain ⟨d, hd⟩ : ∃ d : Nat, (a : Int) / 4096 = (d : Int) := ⟨a / 4096, by omega⟩
  have hda : d = a / 4096 := by omega
  have h1 : (a : Int).tdiv 4096 = (d : Int) := by rw [Int.tdiv_eq_ediv_of_nonneg (by omega)]; omega
  have hdM : d < M := Nat.lt_of_le_of_lt (by omega) ha
  have h2 : IntKind.u64.wrap (d : Int) = (d : Int) := wrap_small hdM
  have hxd : (d : Int) * 4096 = (x : Int) := by rw [hx, hda]; unfold dn; omega
  have hxM : x < M := Nat.lt_of_le_of_lt (by rw [hx]; exact dn_le a) ha
  have h3 : IntKind.u64.wrap ((d : Int) * 4096) = (x : Int) := by rw [hxd]; exact wrap_small hxM
  clear hxd hxM hdM
  rw [← hx]
  clear hx hda
  go_enter Try.func29, Try.ntmps29
  go_wp2_with fail
  go_ret
  exact ⟨rfl, rfl⟩
end Go.Proofs.Ytlenjpgkmikgpaa.Lay
