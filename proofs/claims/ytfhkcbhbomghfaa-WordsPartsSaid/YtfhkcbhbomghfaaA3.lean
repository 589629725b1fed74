import Derived.Test.YtfhkcbhbomghfaaA2
namespace Go.Proofs.Ytfhkcbhbomghfaa
open Go.RowKit Go.Hos
set_option linter.unusedVariables false

theorem up_facts {f : Nat} (h : f + 4095 < M) : ∃ k u j, dn f + k = f ∧ k < 4096 ∧ u = upv f ∧ f + j = u ∧ k + j ≤ 4096 ∧ ((k = 0 ∧ j = 0) ∨ (0 < k ∧ 0 < j)) ∧ u % 4096 = 0 := by
  refine ⟨f - dn f, upv f, upv f - f, ?_⟩
  rw [upv, if_pos h]
  unfold dn
  omega

set_option maxRecDepth 20000 in
set_option maxHeartbeats 6400000 in
theorem parts_early (f s c : Nat) (w : World) (hf : f < M) (hs : s < M) (hc : c < M) (h : f + 4095 < M) (hq : ¬ f + s < M ∨ s ≤ upv f - f) :
    Calls Try.prog 8 #[.int .u64 f, .int .u64 s, .int .u64 c] w fun e w' => e = .returned (.bool true) ∧ Below w.heap.size w w' := by
  obtain ⟨k, u, j, hk, hk2, hu, hj, hkj, hkj2, hm⟩ := up_facts h
  obtain ⟨d, hd⟩ : ∃ d, d = dn f := ⟨_, rfl⟩
  have hm : (d : Int) % 4096 = 0 := by have := dn_mod f; rw [← hd] at this; omega
  rw [← hd] at hk
  rw [← hu] at hq
  have hM : M = 18446744073709551616 := rfl
  have h1 : IntKind.u64.wrap ((f : Int) - (d : Int)) = (k : Int) := wrap_sub hf hk
  obtain ⟨kj, hkj1⟩ : ∃ kj, kj = k + j := ⟨_, rfl⟩
  have hk4 : kj ≤ 4096 := by omega
  have hdf : d ≤ f := by omega
  have hfu : f ≤ u := by omega
  have huM : u < M := by omega
  have h2 : IntKind.u64.wrap ((u : Int) - (d : Int)) = (kj : Int) := wrap_sub huM (by omega)
  have h3 : IntKind.u64.wrap ((u : Int) - (f : Int)) = (j : Int) := wrap_sub huM (by omega)
  have ho : decide (f + 4095 < M) = true := decide_eq_true h
  obtain ⟨b, hb1, hb2⟩ : ∃ b : Bool, ((u : Int) == (d : Int)) = b ∧ ((f : Int) == (d : Int)) = b := by
    rcases hkj2 with ⟨h1, h2⟩ | ⟨h1, h2⟩
    · exact ⟨true, by simp; omega, by simp; omega⟩
    · exact ⟨false, by simp; omega, by simp; omega⟩
  have hsj : f + s < M → s ≤ j := by omega
  obtain ⟨x, hx⟩ : ∃ x, x = pgA f s := ⟨_, rfl⟩
  obtain ⟨y, hy⟩ : ∃ y, y = pgN f s := ⟨_, rfl⟩
  obtain ⟨z, hz, hz2⟩ : ∃ z, z = pgE f s ∧ (z = 0 ∧ s = 0 ∨ z = 0 ∧ 0 < s ∧ s ≤ j ∨ z = 1) := ⟨_, rfl, by unfold pgE; split <;> simp; omega⟩
  have HU := Lib.hid hu; have HO := Lib.hid ho; have HD := Lib.hid hd; have HX := Lib.hid hx; have HY := Lib.hid hy; have HZ := Lib.hid hz
  clear hu ho hd hx hy hz h hk hkj1 hkj hkj2 hsj hj hM huM hq
  rcases hz2 with ⟨rfl, h7⟩ | ⟨rfl, h5, h6⟩ | rfl
  · replace h7 : ((s : Int) == 0) = true := by simp; omega
    go_enter Try.func8, Try.ntmps8
    go_wp2_with fail
    refine (down_any f _ hf).mono ?_
    rintro e w1 ⟨rfl, rfl⟩
    rw [← HD.out]
    go_wp2_with fail
    refine (up_any f _ hf).mono ?_
    rintro e w1 ⟨rfl, rfl⟩
    rw [← HU.out, HO.out]
    go_wp2_with fail
    clear h1 h2 hm hb1 hb2 hk2 hk4 hdf
    refine (pages_any f s _ hf hs).mono ?_
    rintro e w1 ⟨rfl, rfl⟩
    rw [← HX.out, ← HY.out, ← HZ.out]
    go_wp2_with fail
    refine (works_any _).mono ?_
    rintro e w1 ⟨rfl, hb1⟩
    have HB := Lib.hid hb1
    clear hb1
    go_wp2_with fail
    go_ret
    exact ⟨rfl, HB.out⟩
  · go_enter Try.func8, Try.ntmps8
    go_wp2_with fail
    refine (down_any f _ hf).mono ?_
    rintro e w1 ⟨rfl, rfl⟩
    rw [← HD.out]
    go_wp2_with fail
    refine (up_any f _ hf).mono ?_
    rintro e w1 ⟨rfl, rfl⟩
    rw [← HU.out, HO.out]
    go_wp2_with fail
    clear h1 h2 hm hb1 hb2 hk2 hk4 hdf
    refine (pages_any f s _ hf hs).mono ?_
    rintro e w1 ⟨rfl, rfl⟩
    rw [← HX.out, ← HY.out, ← HZ.out]
    go_wp2_with fail
    refine (works_any _).mono ?_
    rintro e w1 ⟨rfl, hb1⟩
    have HB := Lib.hid hb1
    clear hb1
    go_wp2_with fail
    go_ret
    exact ⟨rfl, HB.out⟩
  · go_enter Try.func8, Try.ntmps8
    go_wp2_with fail
    refine (down_any f _ hf).mono ?_
    rintro e w1 ⟨rfl, rfl⟩
    rw [← HD.out]
    go_wp2_with fail
    refine (up_any f _ hf).mono ?_
    rintro e w1 ⟨rfl, rfl⟩
    rw [← HU.out, HO.out]
    go_wp2_with fail
    clear h1 h2 hm hb1 hb2 hk2 hk4 hdf
    refine (pages_any f s _ hf hs).mono ?_
    rintro e w1 ⟨rfl, rfl⟩
    rw [← HX.out, ← HY.out, ← HZ.out]
    go_wp2_with fail
    refine (works_any _).mono ?_
    rintro e w1 ⟨rfl, hb1⟩
    have HB := Lib.hid hb1
    clear hb1
    go_wp2_with fail
    go_ret
    exact ⟨rfl, HB.out⟩
end Go.Proofs.Ytfhkcbhbomghfaa
