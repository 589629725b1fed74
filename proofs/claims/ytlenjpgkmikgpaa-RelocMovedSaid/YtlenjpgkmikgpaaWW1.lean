import Derived.Test.YtlenjpgkmikgpaaMem
import Derived.Test.YtlenjpgkmikgpaaRows
import Derived.WalkKit
import Derived.WalkSpells
import Derived.WalkLawsBesides
import Derived.Deep.QuietTactic
import Derived.BigQuiet
namespace Go.Proofs.Ytlenjpgkmikgpaa.Wrd
open Go.RowKit Go.Hos
set_option linter.unusedVariables false

/-- two to the sixty-four -/
def M : Nat := 18446744073709551616
theorem M_eq : M = 18446744073709551616 := rfl

theorem not64 {b : Nat} (hb : b < M) : bits .xor .u64 IntKind.u64.max (b : Int) = ((M - 1 - b : Nat) : Int) := by
  unfold M at *
  have h := u64_xor_nat 18446744073709551615 b (by omega) hb
  have e : 18446744073709551615 ^^^ b = 18446744073709551615 - b := by
    have h1 : (BitVec.allOnes 64 ^^^ BitVec.ofNat 64 b).toNat = 18446744073709551615 ^^^ b := by
      rw [BitVec.toNat_xor, BitVec.toNat_allOnes, BitVec.toNat_ofNat, Nat.mod_eq_of_lt (by omega)]
    rw [← h1, BitVec.allOnes_xor, BitVec.toNat_not, BitVec.toNat_ofNat, Nat.mod_eq_of_lt (by omega)]
  rw [show IntKind.u64.max = ((18446744073709551615 : Nat) : Int) from rfl, h, e]
theorem wrap_small {s : Nat} (h : s < M) : IntKind.u64.wrap (s : Int) = s := by
  unfold M at h; rw [IntKind.wrap_u64]; omega
theorem wrap_big {a b : Nat} (ha : a < M) (hb : b < M) (h : ¬ a + b < M) : IntKind.u64.wrap ((a : Int) + (b : Int)) = ((a + b - M : Nat) : Int) := by
  unfold M at *; rw [IntKind.wrap_u64]; omega

set_option maxHeartbeats 400000 in
theorem add_ok (a b s : Nat) (w : World) (ha : a < M) (hb : b < M) (hs : s = a + b) (h : s < M) :
    Calls Try.prog 46 #[.int .u64 a, .int .u64 b] w fun e w' => e = .returned (.tuple #[.int .u64 s, .bool true]) ∧ w = w' := by
  have h1 := not64 hb
  have h2 : (if IntKind.u64.signed = true then (-1 : Int) else IntKind.u64.max) = IntKind.u64.max := rfl
  have h3 : IntKind.u64.wrap ((a : Int) + (b : Int)) = s := by subst hs; exact wrap_small h
  obtain ⟨nb, hnb⟩ : ∃ nb, nb = M - 1 - b := ⟨_, rfl⟩
  rw [← hnb] at h1
  have h4 : a ≤ nb := by omega
  clear hs hnb
  go_enter Try.func46, Try.ntmps46
  go_wp2
  go_ret2
  exact ⟨rfl, rfl⟩
set_option maxHeartbeats 400000 in
theorem add_no (a b : Nat) (w : World) (ha : a < M) (hb : b < M) (h : ¬ a + b < M) :
    Calls Try.prog 46 #[.int .u64 a, .int .u64 b] w fun e w' => e = .returned (.tuple #[.int .u64 0, .bool false]) ∧ w = w' := by
  have h1 := not64 hb
  have h2 : (if IntKind.u64.signed = true then (-1 : Int) else IntKind.u64.max) = IntKind.u64.max := rfl
  obtain ⟨nb, hnb⟩ : ∃ nb, nb = M - 1 - b := ⟨_, rfl⟩
  rw [← hnb] at h1
  have h4 : nb < a := by omega
  clear hnb
  go_enter Try.func46, Try.ntmps46
  go_wp2
  go_ret2
  exact ⟨rfl, rfl⟩
set_option maxHeartbeats 400000 in
theorem inside_any (a b c : Nat) (w : World) (ha : a < M) (hb : b < M) (hc : c < M) :
    Calls Try.prog 38 #[.int .u64 a, .int .u64 b, .int .u64 c] w fun e w' => e = .returned (.bool (decide (a + b ≤ c))) ∧ w = w' := by
  by_cases h : a + b < M
  · obtain ⟨s, hs⟩ : ∃ s, s = a + b := ⟨_, rfl⟩
    rw [← hs]
    have HS := Lib.hid hs
    clear hs
    go_enter Try.func38, Try.ntmps38
    go_wp2_with (go_at_call 46; refine (add_ok _ _ s _ ha hb HS.out (by have := HS.out; omega)).mono ?_; rintro e w' ⟨rfl, rfl⟩)
    go_ret
    exact ⟨by congr 2, rfl⟩
  · have hd : decide (a + b ≤ c) = false := decide_eq_false (by omega)
    rw [hd]
    clear hd
    go_enter Try.func38, Try.ntmps38
    go_wp2_with (go_at_call 46; refine (add_no _ _ _ ha hb h).mono ?_; rintro e w' ⟨rfl, rfl⟩)
    go_ret
    exact ⟨rfl, rfl⟩
end Go.Proofs.Ytlenjpgkmikgpaa.Wrd
