import Derived.Test.YtfhkcbhbomghfaaA1
namespace Go.Proofs.Ytfhkcbhbomghfaa
open Go.RowKit Go.Hos
set_option linter.unusedVariables false

theorem wrap_sub {a b k : Nat} (ha : a < M) (h : b + k = a) : IntKind.u64.wrap ((a : Int) - (b : Int)) = (k : Int) := by
  have := wrap_small (s := k) (by omega)
  rw [← this]; congr 1; omega
theorem dn_mod (f : Nat) : dn f % 4096 = 0 := by unfold dn; omega

set_option maxRecDepth 20000 in
set_option maxHeartbeats 3200000 in
theorem parts_nofit (f s c : Nat) (w : World) (hf : f < M) (hs : s < M) (hc : c < M) (h : ¬ f + 4095 < M) :
    Calls Try.prog 8 #[.int .u64 f, .int .u64 s, .int .u64 c] w fun e w' => e = .returned (.bool true) ∧ Below w.heap.size w w' := by
  obtain ⟨d, hd⟩ : ∃ d, d = dn f := ⟨_, rfl⟩
  have hle : d ≤ f := hd ▸ dn_le f
  obtain ⟨k, hk⟩ : ∃ k, d + k = f := ⟨f - d, by omega⟩
  have hk2 : k < 4096 := by unfold dn at hd; omega
  have hm : (d : Int) % 4096 = 0 := by have := dn_mod f; rw [← hd] at this; omega
  have h1 : IntKind.u64.wrap ((f : Int) - (d : Int)) = (k : Int) := wrap_sub hf hk
  have hu : upv f = 0 := by rw [upv, if_neg h]
  have ho : decide (f + 4095 < M) = false := decide_eq_false h
  obtain ⟨x, hx⟩ : ∃ x, x = pgA f s := ⟨_, rfl⟩
  obtain ⟨y, hy⟩ : ∃ y, y = pgN f s := ⟨_, rfl⟩
  obtain ⟨z, hz, hz2⟩ : ∃ z, z = pgE f s ∧ (z = 0 ∨ z = 1) := ⟨_, rfl, by unfold pgE; split <;> simp⟩
  have HU := Lib.hid hu; have HO := Lib.hid ho; have HD := Lib.hid hd; have HX := Lib.hid hx; have HY := Lib.hid hy; have HZ := Lib.hid hz
  clear hu ho hd hx hy hz h hk
  rcases hz2 with rfl | rfl <;> (
  go_enter Try.func8, Try.ntmps8
  go_wp2_with fail
  refine (down_any f _ hf).mono ?_
  rintro e w1 ⟨rfl, rfl⟩
  rw [← HD.out]
  go_wp2_with fail
  refine (up_any f _ hf).mono ?_
  rintro e w1 ⟨rfl, rfl⟩
  rw [HU.out, HO.out]
  go_wp2_with fail
  refine (pages_any f s _ hf hs).mono ?_
  rintro e w1 ⟨rfl, rfl⟩
  rw [← HX.out, ← HY.out, ← HZ.out]
  go_wp2_with fail
  refine (works_any _).mono ?_
  rintro e w1 ⟨rfl, hb1⟩
  have HB := Lib.hid hb1
  clear hb1
  go_wp2_with fail
  go_ret
  exact ⟨rfl, HB.out⟩)
end Go.Proofs.Ytfhkcbhbomghfaa
