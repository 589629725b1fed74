import Derived.Test.YticnmgdflkipeaaZ1
namespace Go.Proofs.Yticnmgdflkipeaa
open Go.RowKit Go.Hos
set_option linter.unusedVariables false
set_option maxHeartbeats 400000 in
theorem rup_any (a : Nat) (w : World) (ha : a + 4096 < M) : Calls Try.prog 30 #[.int .u64 a] w fun e w' => e = .returned (.int .u64 (upv a)) ∧ w = w' := by
  have hup : upv a = dn (a + 4095) := by unfold upv; rw [if_pos (by omega)]
  rw [hup]
  obtain ⟨x, hx⟩ : ∃ x, x = dn (a + 4095) := ⟨_, rfl⟩
  obtain ⟨s, hs⟩ : ∃ s : Nat, (a : Int) + 4096 = (s : Int) := ⟨a + 4096, by omega⟩
  obtain ⟨t, ht⟩ : ∃ t : Nat, (s : Int) - 1 = (t : Int) := ⟨s - 1, by omega⟩
  obtain ⟨d, hd⟩ : ∃ d : Nat, (t : Int) / 4096 = (d : Int) := ⟨t / 4096, by omega⟩
  have hta : t = a + 4095 := by omega
  have hda : d = t / 4096 := by omega
  have h0 : IntKind.u64.wrap (s : Int) = (s : Int) := wrap_small (Nat.lt_of_le_of_lt (by omega) ha)
  have h0' : IntKind.u64.wrap ((a : Int) + 4096) = (s : Int) := by rw [hs]; exact h0
  have htM : t < M := Nat.lt_of_le_of_lt (by omega) ha
  have h1 : IntKind.u64.wrap ((s : Int) - 1) = (t : Int) := by rw [ht]; exact wrap_small htM
  have h2 : (t : Int).tdiv 4096 = (d : Int) := by rw [Int.tdiv_eq_ediv_of_nonneg (by omega)]; omega
  have h3 : IntKind.u64.wrap (d : Int) = (d : Int) := wrap_small (Nat.lt_of_le_of_lt (by omega) htM)
  have hxd : (d : Int) * 4096 = (x : Int) := by rw [hx, hda, hta]; unfold dn; omega
  have hxM : x < M := Nat.lt_of_le_of_lt (by rw [hx]; exact dn_le _) (show a + 4095 < M by omega)
  have h4 : IntKind.u64.wrap ((d : Int) * 4096) = (x : Int) := by rw [hxd]; exact wrap_small hxM
  rw [← hx]
  clear hx hta hda htM hxd hxM hup ha hs ht
  go_enter Try.func30, Try.ntmps30
  go_wp2_with fail
  go_ret
  exact ⟨rfl, rfl⟩
/-- have two stretches a byte in common? -/
def meetB (a b c d : Nat) : Bool := decide (a < d) && decide (c < b)
set_option maxHeartbeats 400000 in
theorem meet_any (a b c d : Nat) (w : World) : Calls Try.prog 37 #[.int .u64 a, .int .u64 b, .int .u64 c, .int .u64 d] w fun e w' => e = .returned (.bool (meetB a b c d)) ∧ w = w' := by
  by_cases h1 : a < d
  · obtain ⟨x, hx⟩ : ∃ x, x = decide (c < b) := ⟨_, rfl⟩
    have e : meetB a b c d = x := by unfold meetB; rw [decide_eq_true h1, hx]; rfl
    rw [e]
    have h1' : (a : Int) < (d : Int) := by omega
    have HX := Lib.hid hx
    clear hx e
    go_enter Try.func37, Try.ntmps37
    go_wp2_with fail
    go_ret
    exact ⟨by rw [HX.out]; rfl, rfl⟩
  · have e : meetB a b c d = false := by unfold meetB; rw [decide_eq_false h1]; rfl
    rw [e]
    have h1' : ¬ (a : Int) < (d : Int) := by omega
    have h1'' : decide ((a : Int) < (d : Int)) = false := decide_eq_false h1'
    clear e
    go_enter Try.func37, Try.ntmps37
    go_wp2_with fail
    go_ret
    exact ⟨rfl, rfl⟩
set_option maxHeartbeats 400000 in
theorem stacked_any (a b : Nat) (w : World) : Calls Try.prog 36 #[.int .u64 a, .int .u64 b] w fun e w' => e = .returned (.bool (meetB a b 140737488334848 140737488351232)) ∧ w = w' := by
  obtain ⟨x, hx⟩ : ∃ x, x = meetB a b 140737488334848 140737488351232 := ⟨_, rfl⟩
  have HX := Lib.hid hx
  rw [← hx]
  clear hx
  go_enter Try.func36, Try.ntmps36
  go_wp2_with fail
  refine (meet_any a b 140737488334848 140737488351232 _).mono ?_
  rw [← HX.out]
  rintro e w1 ⟨rfl, rfl⟩
  go_wp2_with fail
  go_ret
  exact ⟨rfl, rfl⟩
set_option maxHeartbeats 400000 in
theorem meets_any (a b c d : Nat) (w : World) : Calls Try.prog 43 #[.agg #[.int .u64 a, .int .u64 b], .agg #[.int .u64 c, .int .u64 d]] w fun e w' => e = .returned (.bool (meetB a b c d)) ∧ Below w.heap.size w w' := by
  by_cases h1 : a < d
  · obtain ⟨x, hx⟩ : ∃ x, x = decide (c < b) := ⟨_, rfl⟩
    have e : meetB a b c d = x := by unfold meetB; rw [decide_eq_true h1, hx]; rfl
    rw [e]
    have h1' : (a : Int) < (d : Int) := by omega
    have HX := Lib.hid hx
    clear hx e
    go_enter Try.func43, Try.ntmps43
    go_wp2_with fail
    go_ret
    exact ⟨by rw [HX.out]; rfl, ((Below.refl _ _).alloc (Nat.le_refl _) _).alloc (by simp) _⟩
  · have e : meetB a b c d = false := by unfold meetB; rw [decide_eq_false h1]; rfl
    rw [e]
    have h1' : ¬ (a : Int) < (d : Int) := by omega
    have h1'' : decide ((a : Int) < (d : Int)) = false := decide_eq_false h1'
    clear e
    go_enter Try.func43, Try.ntmps43
    go_wp2_with fail
    go_ret
    exact ⟨rfl, ((Below.refl _ _).alloc (Nat.le_refl _) _).alloc (by simp) _⟩
set_option maxHeartbeats 400000 in
theorem stack_any (w : World) : Calls Try.prog 44 #[] w fun e w' => e = .returned (.agg #[.int .u64 140737488334848, .int .u64 140737488351232]) ∧ Below w.heap.size w w' := by
  have k0 : (w.alloc (.cells #[.int .u64 140737488334848, .int .u64 140737488351232] 71)).cell? ⟨w.heap.size, 0, none⟩ = some (.int .u64 140737488334848) := ((Blk.new _ _ _).cell 0).trans rfl
  have k1 : (w.alloc (.cells #[.int .u64 140737488334848, .int .u64 140737488351232] 71)).cell? ⟨w.heap.size, 1, none⟩ = some (.int .u64 140737488351232) := ((Blk.new _ _ _).cell 1).trans rfl
  go_enter Try.func44, Try.ntmps44
  go_wp2_with fail
  refine bodyPost_ret (v := .agg #[.int .u64 140737488334848, .int .u64 140737488351232]) (by simp [results, Try.results44, go_sem, k0, k1]) rfl ⟨rfl, (Below.refl _ _).alloc (Nat.le_refl _) _⟩
end Go.Proofs.Yticnmgdflkipeaa
