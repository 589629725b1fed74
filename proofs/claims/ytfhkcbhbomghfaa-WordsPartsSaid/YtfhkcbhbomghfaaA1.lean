import Derived.Test.YtfhkcbhbomghfaaWa
namespace Go.Proofs.Ytfhkcbhbomghfaa
open Go.RowKit Go.Hos
set_option linter.unusedVariables false

def sumv (a b : Nat) : Nat := if a + b < M then a + b else 0
theorem add_any (a b : Nat) (w : World) (ha : a < M) (hb : b < M) :
    Calls Try.prog 18 #[.int .u64 a, .int .u64 b] w fun e w' => e = .returned (.tuple #[.int .u64 (sumv a b), .bool (decide (a + b < M))]) ∧ w = w' := by
  by_cases h : a + b < M
  · rw [sumv, if_pos h, decide_eq_true h]; exact add_ok a b _ w ha hb rfl h
  · rw [sumv, if_neg h, decide_eq_false h]; exact add_no a b w ha hb h
theorem radd_any (a b : Nat) (w : World) (ha : a < M) (hb : b < M) :
    Calls Try.prog 19 #[.int .u64 a, .int .u64 b] w fun e w' => e = .returned (.tuple #[.int .u64 (sumv a b), .bool (decide (a + b < M))]) ∧ w = w' := by
  by_cases h : a + b < M
  · rw [sumv, if_pos h, decide_eq_true h]; exact radd_ok a b _ w ha hb rfl h
  · rw [sumv, if_neg h, decide_eq_false h]; exact radd_no a b w ha hb h

set_option maxHeartbeats 800000 in
theorem adds_any (a b c : Nat) (w : World) (ha : a < M) (hb : b < M) (hc : c < M) :
    Calls Try.prog 5 #[.int .u64 a, .int .u64 b, .int .u64 c] w fun e w' => e = .returned (.bool true) ∧ Below w.heap.size w w' := by
  obtain ⟨s, hs⟩ : ∃ s, s = sumv a b := ⟨_, rfl⟩
  obtain ⟨o, ho⟩ : ∃ o, o = decide (a + b < M) := ⟨_, rfl⟩
  obtain ⟨i, hi⟩ : ∃ i, i = decide (a + b ≤ c) := ⟨_, rfl⟩
  have HS := Lib.hid hs; have HO := Lib.hid ho; have HI := Lib.hid hi
  clear hs ho hi
  go_enter Try.func5, Try.ntmps5
  go_wp2_with fail
  refine (add_any a b _ ha hb).mono ?_
  rintro e w1 ⟨rfl, rfl⟩
  rw [← HS.out, ← HO.out]
  go_wp2_with fail
  refine (radd_any a b _ ha hb).mono ?_
  rintro e w1 ⟨rfl, rfl⟩
  rw [← HS.out, ← HO.out]
  go_wp2_with fail
  refine (inside_any a b c _ ha hb hc).mono ?_
  rintro e w1 ⟨rfl, rfl⟩
  rw [← HI.out]
  go_wp2_with fail
  refine (rinside_any a b c _ ha hb hc).mono ?_
  rintro e w1 ⟨rfl, rfl⟩
  rw [← HI.out]
  go_wp2_with fail
  refine (works_any _).mono ?_
  rintro e w1 ⟨rfl, hb1⟩
  have HB := Lib.hid hb1
  clear hb1
  go_wp2_with fail
  go_ret
  exact ⟨rfl, HB.out⟩


def pgA (f s : Nat) : Nat := if f + s < M then f / 4096 else 0
def pgN (f s : Nat) : Nat := if f + s < M then many f s else 0
def pgE (f s : Nat) : Int := if f + s < M then 0 else 1
theorem pages_any (f s : Nat) (w : World) (hf : f < M) (hs : s < M) :
    Calls Try.prog 25 #[.int .u64 f, .int .u64 s] w fun e w' => e = .returned (.tuple #[.int .u64 (pgA f s), .int .u64 (pgN f s), .int .i64 (pgE f s)]) ∧ w = w' := by
  by_cases h : f + s < M
  · rw [pgA, pgN, pgE, if_pos h, if_pos h, if_pos h]; exact pages_ok f s w hf hs h
  · rw [pgA, pgN, pgE, if_neg h, if_neg h, if_neg h]; exact pages_no f s w hf hs h
theorem rpages_any (f s : Nat) (w : World) (hf : f < M) (hs : s < M) :
    Calls Try.prog 26 #[.int .u64 f, .int .u64 s] w fun e w' => e = .returned (.tuple #[.int .u64 (pgA f s), .int .u64 (pgN f s), .int .i64 (pgE f s)]) ∧ w = w' := by
  by_cases h : f + s < M
  · rw [pgA, pgN, pgE, if_pos h, if_pos h, if_pos h]; exact rpages_ok f s w hf hs h
  · rw [pgA, pgN, pgE, if_neg h, if_neg h, if_neg h]; exact rpages_no f s w hf hs h

set_option maxHeartbeats 1600000 in
theorem pages_all (a b : Nat) (w : World) (ha : a < M) (hb : b < M) :
    Calls Try.prog 7 #[.int .u64 a, .int .u64 b] w fun e w' => e = .returned (.bool true) ∧ Below w.heap.size w w' := by
  obtain ⟨u, hu⟩ : ∃ u, u = upv a := ⟨_, rfl⟩
  obtain ⟨o, ho⟩ : ∃ o, o = decide (a + 4095 < M) := ⟨_, rfl⟩
  obtain ⟨d, hd⟩ : ∃ d, d = dn a := ⟨_, rfl⟩
  obtain ⟨x, hx⟩ : ∃ x, x = pgA a b := ⟨_, rfl⟩
  obtain ⟨y, hy⟩ : ∃ y, y = pgN a b := ⟨_, rfl⟩
  obtain ⟨z, hz⟩ : ∃ z, z = pgE a b := ⟨_, rfl⟩
  have HU := Lib.hid hu; have HO := Lib.hid ho; have HD := Lib.hid hd; have HX := Lib.hid hx; have HY := Lib.hid hy; have HZ := Lib.hid hz
  clear hu ho hd hx hy hz
  go_enter Try.func7, Try.ntmps7
  go_wp2_with fail
  refine (up_any a _ ha).mono ?_
  rintro e w1 ⟨rfl, rfl⟩
  rw [← HU.out, ← HO.out]
  go_wp2_with fail
  refine (rup_any a _ ha).mono ?_
  rintro e w1 ⟨rfl, rfl⟩
  rw [← HU.out, ← HO.out]
  go_wp2_with fail
  refine (pages_any a b _ ha hb).mono ?_
  rintro e w1 ⟨rfl, rfl⟩
  rw [← HX.out, ← HY.out, ← HZ.out]
  go_wp2_with fail
  refine (rpages_any a b _ ha hb).mono ?_
  rintro e w1 ⟨rfl, rfl⟩
  rw [← HX.out, ← HY.out, ← HZ.out]
  go_wp2_with fail
  refine (down_any a _ ha).mono ?_
  rintro e w1 ⟨rfl, rfl⟩
  rw [← HD.out]
  go_wp2_with fail
  refine (rdown_any a _ ha).mono ?_
  rintro e w1 ⟨rfl, rfl⟩
  rw [← HD.out]
  go_wp2_with fail
  refine (works_any _).mono ?_
  rintro e w1 ⟨rfl, hb1⟩
  have HB := Lib.hid hb1
  clear hb1
  go_wp2_with fail
  go_ret
  exact ⟨rfl, HB.out⟩
end Go.Proofs.Ytfhkcbhbomghfaa
