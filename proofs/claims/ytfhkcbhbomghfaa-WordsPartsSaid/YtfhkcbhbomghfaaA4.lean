import Derived.Test.YtfhkcbhbomghfaaA3
import Derived.Test.YtfhkcbhbomghfaaP4
namespace Go.Proofs.Ytfhkcbhbomghfaa
open Go.RowKit Go.Hos
set_option linter.unusedVariables false

set_option maxRecDepth 20000 in
set_option maxHeartbeats 12800000 in
theorem parts_full (f s c : Nat) (w : World) (hf : f < M) (hs : s < M) (hc : c < M) (h : f + 4095 < M) (hq : f + s < M) (hq2 : upv f - f < s) :
    Calls Try.prog 8 #[.int .u64 f, .int .u64 s, .int .u64 c] w fun e w' => e = .returned (.bool true) ∧ Below w.heap.size w w' := by
  obtain ⟨k, u, j, hk, hk2, hu, hj, hkj, hkj2, hum⟩ := up_facts h
  obtain ⟨d, hd⟩ : ∃ d, d = dn f := ⟨_, rfl⟩
  have hm : (d : Int) % 4096 = 0 := by have := dn_mod f; rw [← hd] at this; omega
  rw [← hd] at hk
  rw [← hu] at hq2
  have hM : M = 18446744073709551616 := rfl
  have h1 : IntKind.u64.wrap ((f : Int) - (d : Int)) = (k : Int) := wrap_sub hf hk
  obtain ⟨kj, hkj1⟩ : ∃ kj, kj = k + j := ⟨_, rfl⟩
  have hk4 : kj ≤ 4096 := by omega
  have hdf : d ≤ f := by omega
  have hfu : f ≤ u := by omega
  have huM : u < M := by omega
  have h2 : IntKind.u64.wrap ((u : Int) - (d : Int)) = (kj : Int) := wrap_sub huM (by omega)
  have h3 : IntKind.u64.wrap ((u : Int) - (f : Int)) = (j : Int) := wrap_sub huM (by omega)
  have ho : decide (f + 4095 < M) = true := decide_eq_true h
  obtain ⟨b, hb1, hb2⟩ : ∃ b : Bool, ((u : Int) == (d : Int)) = b ∧ ((f : Int) == (d : Int)) = b := by
    rcases hkj2 with ⟨h1, h2⟩ | ⟨h1, h2⟩
    · exact ⟨true, by simp; omega, by simp; omega⟩
    · exact ⟨false, by simp; omega, by simp; omega⟩
  have hz : pgE f s = 0 := by rw [pgE, if_pos hq]
  have hy : pgN f s = many f s := by rw [pgN, if_pos hq]
  obtain ⟨x, hx⟩ : ∃ x, x = pgA f s := ⟨_, rfl⟩
  obtain ⟨y, hy2⟩ : ∃ y, y = many f s := ⟨_, rfl⟩
  rw [← hy2] at hy
  have h5 : 0 < s := by omega
  have h6 : j < s := by omega
  -- the cut
  obtain ⟨r, hr⟩ : ∃ r, j + r = s := ⟨s - j, by omega⟩
  have h4 : IntKind.u64.wrap ((s : Int) - (j : Int)) = (r : Int) := wrap_sub hs hr
  have hr0 : 0 < r := by omega
  have hrM : r < M := by omega
  obtain ⟨cr, hcr⟩ : ∃ cr, cr = c % r := ⟨_, rfl⟩
  have hcr2 : cr < r := hcr ▸ Nat.mod_lt _ hr0
  have hcr3 : (c : Int) % (r : Int) = (cr : Int) := by omega
  obtain ⟨q, hqe⟩ : ∃ q, q = cr / 4096 := ⟨_, rfl⟩
  have hq3 : (cr : Int) / 4096 = (q : Int) := by omega
  have hq4 : IntKind.u64.wrap (q : Int) = (q : Int) := wrap_small (by omega)
  have hcr4 : IntKind.u64.wrap (cr : Int) = (cr : Int) := wrap_small (by omega)
  obtain ⟨qp, hqp⟩ : ∃ qp, qp = q * 4096 := ⟨_, rfl⟩
  have hqp2 : IntKind.u64.wrap ((q : Int) * 4096) = (qp : Int) := by
    rw [← wrap_small (s := qp) (by omega)]; congr 1; omega
  obtain ⟨t, ht⟩ : ∃ t, t = u + qp := ⟨_, rfl⟩
  have ht2 : IntKind.u64.wrap ((u : Int) + (qp : Int)) = (t : Int) := by
    rw [← wrap_small (s := t) (by omega)]; congr 1; omega
  have htM : t < M := by omega
  obtain ⟨af, haf⟩ : ∃ af, f + af = t := ⟨t - f, by omega⟩
  have haf2 : IntKind.u64.wrap ((t : Int) - (f : Int)) = (af : Int) := wrap_sub htM haf
  have hafM : af < M := by omega
  obtain ⟨sa, hsa⟩ : ∃ sa, af + sa = s := ⟨s - af, by omega⟩
  have hsa2 : IntKind.u64.wrap ((s : Int) - (af : Int)) = (sa : Int) := wrap_sub hs hsa
  have hsaM : sa < M := by omega
  have hmp := many_parts (f := f) (s := s) (a := t) (by omega) (by omega) (by omega)
  rw [show t - f = af by omega, show s - af = sa by omega, ← hy2] at hmp
  have ha1 : pgN f af = many f af := by rw [pgN, if_pos (by omega)]
  have ha2 : pgE f af = 0 := by rw [pgE, if_pos (by omega)]
  have hb3 : pgN t sa = many t sa := by rw [pgN, if_pos (by omega)]
  have hb4 : pgE t sa = 0 := by rw [pgE, if_pos (by omega)]
  obtain ⟨m1, hm1⟩ : ∃ m, m = many f af := ⟨_, rfl⟩
  obtain ⟨m2, hm2⟩ : ∃ m, m = many t sa := ⟨_, rfl⟩
  rw [← hm1] at ha1 hmp
  rw [← hm2] at hb3 hmp
  have hyM : y < M := by
    have hy3 := hy2
    unfold many at hy3
    rw [if_neg (by omega)] at hy3
    omega
  have hsum : IntKind.u64.wrap ((m1 : Int) + (m2 : Int)) = (y : Int) := by
    rw [← wrap_small (s := y) hyM]; congr 1; omega
  obtain ⟨xa, hxa⟩ : ∃ x, x = pgA f af := ⟨_, rfl⟩
  obtain ⟨xb, hxb⟩ : ∃ x, x = pgA t sa := ⟨_, rfl⟩
  have HU := Lib.hid hu; have HO := Lib.hid ho; have HD := Lib.hid hd; have HX := Lib.hid hx; have HY := Lib.hid hy; have HZ := Lib.hid hz
  have HA := Lib.hid ha1; have HA2 := Lib.hid ha2; have HB := Lib.hid hb3; have HB2 := Lib.hid hb4; have HXA := Lib.hid hxa; have HXB := Lib.hid hxb
  have H4 := Lib.hid (And.intro h4 (And.intro hcr3 (And.intro hcr4 (And.intro hq3 (And.intro hq4 (And.intro hqp2 (And.intro ht2 (And.intro haf2 (And.intro hsa2 hsum)))))))))
  clear hu ho hd hx hy hz h hk hkj1 hkj hkj2 hj hM huM hq hq2 hum hy2 hr hrM hcr hcr2 hqe hqp ht haf hsa hmp ha1 ha2 hb3 hb4 hm1 hm2 hxa hxb hyM h4 hcr3 hcr4 hq3 hq4 hqp2 ht2 haf2 hsa2 hsum
  have HR := Lib.hid hr0
  clear hr0
  go_enter Try.func8, Try.ntmps8
  go_wp2_with fail
  refine (down_any f _ hf).mono ?_
  rintro e w1 ⟨rfl, rfl⟩
  rw [← HD.out]
  go_wp2_with fail
  refine (up_any f _ hf).mono ?_
  rintro e w1 ⟨rfl, rfl⟩
  rw [← HU.out, HO.out]
  go_wp2_with fail
  clear h1 h2 hm hb1 hb2 hk2 hk4 hdf
  obtain ⟨h4, hcr3, hcr4, hq3, hq4, hqp2, ht2, haf2, hsa2, hsum⟩ := H4.out
  have hr0 := HR.out
  refine (pages_any f s _ hf hs).mono ?_
  rintro e w1 ⟨rfl, rfl⟩
  rw [← HX.out, HY.out, HZ.out]
  have h7 : ((s : Int) == 0) = false := by simp; omega
  go_wp2_with fail
  clear h4 hcr3 hcr4 hq3 hq4 hqp2 hr0 h5 h6
  refine (pages_any f af _ hf hafM).mono ?_
  rintro e w1 ⟨rfl, rfl⟩
  rw [← HXA.out, HA.out, HA2.out]
  go_wp2_with fail
  refine (pages_any t sa _ htM hsaM).mono ?_
  rintro e w1 ⟨rfl, rfl⟩
  rw [← HXB.out, HB.out, HB2.out]
  go_wp2_with fail
  refine (works_any _).mono ?_
  rintro e w1 ⟨rfl, hb1⟩
  have HBW := Lib.hid hb1
  clear hb1
  go_wp2_with fail
  go_ret
  exact ⟨rfl, HBW.out⟩

theorem parts_all (f s c : Nat) (w : World) (hf : f < M) (hs : s < M) (hc : c < M) :
    Calls Try.prog 8 #[.int .u64 f, .int .u64 s, .int .u64 c] w fun e w' => e = .returned (.bool true) ∧ Below w.heap.size w w' := by
  by_cases h : f + 4095 < M
  · by_cases h2 : f + s < M ∧ upv f - f < s
    · exact parts_full f s c w hf hs hc h h2.1 h2.2
    · exact parts_early f s c w hf hs hc h (by omega)
  · exact parts_nofit f s c w hf hs hc h
end Go.Proofs.Ytfhkcbhbomghfaa
