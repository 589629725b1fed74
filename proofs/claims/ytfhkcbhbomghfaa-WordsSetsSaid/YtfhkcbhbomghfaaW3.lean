import Derived.Test.YtfhkcbhbomghfaaW2
namespace Go.Proofs.Ytfhkcbhbomghfaa
open Go.RowKit Go.Hos
set_option linter.unusedVariables false

/-- how many pages have a byte of a stretch -/
def many (f s : Nat) : Nat := if s = 0 then 0 else (f + s - 1) / 4096 - f / 4096 + 1

set_option maxHeartbeats 400000 in
theorem pages_no (f s : Nat) (w : World) (hf : f < M) (hs : s < M) (h : ¬ f + s < M) :
    Calls Try.prog 25 #[.int .u64 f, .int .u64 s] w fun e w' => e = .returned (.tuple #[.int .u64 0, .int .u64 0, .int .i64 1]) ∧ w = w' := by
  go_enter Try.func25, Try.ntmps25
  go_wp2_with fail
  refine (add_no f s _ hf hs h).mono ?_
  rintro e w' ⟨rfl, rfl⟩
  go_wp2
  go_ret3
  exact ⟨rfl, rfl⟩
set_option maxHeartbeats 400000 in
theorem pages_ok (f s : Nat) (w : World) (hf : f < M) (hs : s < M) (h : f + s < M) :
    Calls Try.prog 25 #[.int .u64 f, .int .u64 s] w fun e w' => e = .returned (.tuple #[.int .u64 ((f / 4096 : Nat) : Int), .int .u64 (many f s), .int .i64 0]) ∧ w = w' := by
  obtain ⟨q, hq⟩ : ∃ q, q = f / 4096 := ⟨_, rfl⟩
  rw [← hq]
  have h1 : (f : Int) / 4096 = (q : Int) := by omega
  have wq : IntKind.u64.wrap (q : Int) = (q : Int) := wrap_small (by omega)
  obtain ⟨t, ht⟩ : ∃ t, t = f + s := ⟨_, rfl⟩
  have HT := Lib.hid ht
  by_cases hz : s = 0
  · have h0 : ¬ 0 < s := by omega
    have hm : many f s = 0 := by simp [many, hz]
    rw [hm]
    clear hm hq ht
    have HZ := Lib.hid hz
    clear hz
    go_enter Try.func25, Try.ntmps25
    go_wp2_with fail
    refine (add_ok f s t _ hf hs HT.out (by have := HT.out; omega)).mono ?_
    rintro e w' ⟨rfl, rfl⟩
    go_wp2
    go_ret3
    exact ⟨rfl, rfl⟩
  · have h0 : 0 < s := by omega
    obtain ⟨m, hm⟩ : ∃ m, m = many f s := ⟨_, rfl⟩
    have hm2 : m = (f + s - 1) / 4096 - f / 4096 + 1 := by rw [hm, many, if_neg hz]
    rw [← hm]
    clear hm
    obtain ⟨p, hp⟩ : ∃ p, p = t - 1 := ⟨_, rfl⟩
    have tM : t < M := by omega
    have k1 : IntKind.u64.wrap ((t : Int) - 1) = (p : Int) := by
      have := wrap_small (s := p) (by omega)
      rw [← this]; congr 1; omega
    obtain ⟨u, hu⟩ : ∃ u, u = p / 4096 := ⟨_, rfl⟩
    have k2 : (p : Int) / 4096 = (u : Int) := by omega
    have wu : IntKind.u64.wrap (u : Int) = (u : Int) := wrap_small (by omega)
    obtain ⟨v, hv⟩ : ∃ v, v = u - q := ⟨_, rfl⟩
    have huq : q ≤ u := by rw [hq, hu]; exact Nat.div_le_div_right (by omega)
    have k3 : IntKind.u64.wrap ((u : Int) - (q : Int)) = (v : Int) := by
      have := wrap_small (s := v) (by omega)
      rw [← this]; congr 1; omega
    have k4 : IntKind.u64.wrap ((v : Int) + 1) = (m : Int) := by
      have hmv : m = v + 1 := by rw [hm2, hv, hu, hp, hq, ht]
      have := wrap_small (s := m) (by unfold M at *; omega)
      rw [← this]; congr 1; omega
    clear hm2 hp hu hv huq hq ht tM
    go_enter Try.func25, Try.ntmps25
    go_wp2_with fail
    refine (add_ok f s t _ hf hs HT.out (by have := HT.out; omega)).mono ?_
    rintro e w' ⟨rfl, rfl⟩
    go_wp2
    go_ret3
    exact ⟨rfl, rfl⟩

set_option maxHeartbeats 400000 in
theorem rpages_no (f s : Nat) (w : World) (hf : f < M) (hs : s < M) (h : ¬ f + s < M) :
    Calls Try.prog 26 #[.int .u64 f, .int .u64 s] w fun e w' => e = .returned (.tuple #[.int .u64 0, .int .u64 0, .int .i64 1]) ∧ w = w' := by
  go_enter Try.func26, Try.ntmps26
  go_wp2_with fail
  refine (radd_no f s _ hf hs h).mono ?_
  rintro e w' ⟨rfl, rfl⟩
  go_wp2
  go_ret3
  exact ⟨rfl, rfl⟩
set_option maxHeartbeats 400000 in
theorem rpages_ok (f s : Nat) (w : World) (hf : f < M) (hs : s < M) (h : f + s < M) :
    Calls Try.prog 26 #[.int .u64 f, .int .u64 s] w fun e w' => e = .returned (.tuple #[.int .u64 ((f / 4096 : Nat) : Int), .int .u64 (many f s), .int .i64 0]) ∧ w = w' := by
  obtain ⟨q, hq⟩ : ∃ q, q = f / 4096 := ⟨_, rfl⟩
  rw [← hq]
  have h1 : (f : Int) / 4096 = (q : Int) := by omega
  have wq : IntKind.u64.wrap (q : Int) = (q : Int) := wrap_small (by omega)
  obtain ⟨t, ht⟩ : ∃ t, t = f + s := ⟨_, rfl⟩
  have HT := Lib.hid ht
  by_cases hz : s = 0
  · have h0 : ((s : Int) == 0) = true := by simp [hz]
    have hm : many f s = 0 := by simp [many, hz]
    rw [hm]
    clear hm hq ht
    have HZ := Lib.hid hz
    clear hz
    go_enter Try.func26, Try.ntmps26
    go_wp2_with fail
    refine (radd_ok f s t _ hf hs HT.out (by have := HT.out; omega)).mono ?_
    rintro e w' ⟨rfl, rfl⟩
    go_wp2
    go_ret3
    exact ⟨rfl, rfl⟩
  · have h0 : ((s : Int) == 0) = false := by simp; omega
    obtain ⟨m, hm⟩ : ∃ m, m = many f s := ⟨_, rfl⟩
    have hm2 : m = (f + s - 1) / 4096 - f / 4096 + 1 := by rw [hm, many, if_neg hz]
    rw [← hm]
    clear hm
    obtain ⟨p, hp⟩ : ∃ p, p = t - 1 := ⟨_, rfl⟩
    have tM : t < M := by omega
    have k1 : IntKind.u64.wrap ((t : Int) - 1) = (p : Int) := by
      have := wrap_small (s := p) (by omega)
      rw [← this]; congr 1; omega
    obtain ⟨u, hu⟩ : ∃ u, u = p / 4096 := ⟨_, rfl⟩
    have k2 : (p : Int) / 4096 = (u : Int) := by omega
    have wu : IntKind.u64.wrap (u : Int) = (u : Int) := wrap_small (by omega)
    obtain ⟨v, hv⟩ : ∃ v, v = u - q := ⟨_, rfl⟩
    have huq : q ≤ u := by rw [hq, hu]; exact Nat.div_le_div_right (by omega)
    have k3 : IntKind.u64.wrap ((u : Int) - (q : Int)) = (v : Int) := by
      have := wrap_small (s := v) (by omega)
      rw [← this]; congr 1; omega
    have k4 : IntKind.u64.wrap ((v : Int) + 1) = (m : Int) := by
      have hmv : m = v + 1 := by rw [hm2, hv, hu, hp, hq, ht]
      have := wrap_small (s := m) (by unfold M at *; omega)
      rw [← this]; congr 1; omega
    clear hm2 hp hu hv huq hq ht tM
    go_enter Try.func26, Try.ntmps26
    go_wp2_with fail
    refine (radd_ok f s t _ hf hs HT.out (by have := HT.out; omega)).mono ?_
    rintro e w' ⟨rfl, rfl⟩
    go_wp2
    go_ret3
    exact ⟨rfl, rfl⟩
end Go.Proofs.Ytfhkcbhbomghfaa
