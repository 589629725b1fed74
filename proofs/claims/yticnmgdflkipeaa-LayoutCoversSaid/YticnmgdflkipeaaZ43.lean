import Derived.Test.YticnmgdflkipeaaZ42
import Derived.Test.YticnmgdflkipeaaZ38
namespace Go.Proofs.Yticnmgdflkipeaa
open Go.RowKit Go.Shelf Go.Hos
set_option linter.unusedVariables false
/-! the law's loads; what lies at an address -/
set_option maxRecDepth 20000 in
set_option maxHeartbeats 3200000 in
theorem found_any {n m : Nat} {A A' : Option Addr} {P : Nat → PieceD} {K : Nat → Nat × Nat} {X : Nat → WriteD} (c c' a : Nat) (w : World) (hR : PWR w n m A A' P K X) (ha : a ≤ 140737488355328) (hn : n ≤ 16) (hm : m ≤ 8)
    (hP : ∀ i, (P i).f ≤ 140737488355328 ∧ (P i).t ≤ 140737488355328 ∧ (P i).off ≤ 65536) (hK : ∀ i, (K i).1 ≤ 140737488355328) (hL : ∀ i, (K i).2 ≤ 4095) :
    Calls Try.prog 21 #[.slice A n c, .slice A' m c', .int .u64 a] w fun e W' => e = .returned (.tuple #[.int .i64 (fndW a K (fndP a P n).2 m), .bool (decide ((fndP a P n).1 = 1))]) ∧ Below w.heap.size w W' := by
  have hmm : maxLen = 9223372036854775807 := by simp [maxLen]
  have R := Lib.hid hR; have HP := Lib.hid hP; have HK := Lib.hid hK; have HL := Lib.hid hL
  clear hR hP hK hL
  go_enter Try.func21, Try.ntmps21
  go_wp2_with fail
  go_loopw [8, 9, 10] (fun v8 v9 v10 wr => ∃ (i q k : Nat) (x : Int), i ≤ n ∧ Hid (fndP a P i = (k, x) ∧ k ≤ i) ∧ v8 = .int .i64 k ∧ v9 = .int .i64 x ∧ v10 = .int .i64 i ∧ wr = w.drewN q) (fun _ _ v10 _ => n - (intOf v10).toNat)
  case atStart => exact ⟨0, 0, 0, -1, Nat.zero_le _, Lib.hid ⟨rfl, Nat.le_refl _⟩, rfl, rfl, rfl, rfl⟩
  case round =>
    obtain ⟨i, q, k, x, hi, hf, rfl, rfl, rfl, rfl⟩ := hrel
    by_cases hin : i < n
    · have e1 : decide ((i : Int) < (n : Int)) = true := by simp; omega
      have e2 : (i : Int) < (n : Int) := by omega
      have hk16 : k ≤ 16 := by have := hf.out.2; omega
      obtain ⟨ad, rfl, had, d0, d1, d2, d3, d4⟩ := R.out.piece hin
      have hp := HP.out i
      have NX := Lib.hid (show fndP a P (i + 1) = stepP a (k, x) (P i) by rw [fndP, hf.out.1])
      have hki := hf.out.2
      generalize P i = p at d0 d1 d2 d3 d4 hp NX
      obtain ⟨f, t, pr, pi, po⟩ := p
      dsimp only at d0 d1 d2 d3 d4 hp
      obtain ⟨p1, p2, p3⟩ := hp
      by_cases h1 : f ≤ a
      · have t1 : decide ((f : Int) ≤ (a : Int)) = true := by simp; omega
        have t1n : decide (f ≤ a) = true := by simp; omega
        by_cases h2 : a < t
        · have t2 : decide ((a : Int) < (t : Int)) = true := by simp; omega
          have t2n : decide (a < t) = true := by simp; omega
          have hit : hitP a ⟨f, t, pr, pi, po⟩ = true := by unfold hitP; simp; omega
          by_cases h3 : 0 ≤ pi
          · have t3 : decide ((0 : Int) ≤ pi) = true := by simp; omega
            have N2 := Lib.hid (show fndP a P (i + 1) = (k + 1, ((po + a - f : Nat) : Int)) by rw [NX.out]; unfold stepP; rw [if_pos hit, if_pos h3])
            obtain ⟨s1, hs1⟩ : ∃ z, z = po + a := ⟨_, rfl⟩
            obtain ⟨s2, hs2⟩ : ∃ z, z = po + a - f := ⟨_, rfl⟩
            rw [← hs2] at N2
            have w1 : IntKind.u64.wrap ((po : Int) + (a : Int)) = (s1 : Int) := wrap_sum hs1 (by unfold M; omega)
            have w2 : IntKind.u64.wrap ((s1 : Int) - (f : Int)) = (s2 : Int) := by rw [show (s1 : Int) - (f : Int) = ((s1 - f : Nat) : Int) by omega, show s1 - f = s2 by omega]; exact wrap_small (by unfold M; omega)
            have w3 : IntKind.i64.wrap (s2 : Int) = (s2 : Int) := IntWalk.i64_in _ (by omega)
            clear hs1 hs2 h1 h2 h3 p1 p2 p3 hit NX
            go_wp2_with fail
            go_quiet (fail)
            go_wp2_with fail
            go_roundw
            case rel => exact ⟨i + 1, _, k + 1, _, by omega, Lib.hid ⟨N2.out, by omega⟩, by go_num, rfl, by go_num, rfl⟩
            case measure => simp [intOf]; omega
          · have t3 : decide ((0 : Int) ≤ pi) = false := by simp; omega
            have N2 := Lib.hid (show fndP a P (i + 1) = (k + 1, x) by rw [NX.out]; unfold stepP; rw [if_pos hit, if_neg h3])
            clear h1 h2 h3 p1 p2 p3 hit NX
            go_wp2_with fail
            go_roundw
            case rel => exact ⟨i + 1, _, k + 1, x, by omega, Lib.hid ⟨N2.out, by omega⟩, by go_num, rfl, by go_num, rfl⟩
            case measure => simp [intOf]; omega
        · have t2 : decide ((a : Int) < (t : Int)) = false := by simp; omega
          have t2n : decide (a < t) = false := by simp; omega
          have N2 := Lib.hid (show fndP a P (i + 1) = (k, x) by rw [NX.out]; unfold stepP; rw [if_neg (by unfold hitP; simp; omega)])
          clear h1 h2 p1 p2 p3 NX
          go_wp2_with fail
          go_roundw
          case rel => exact ⟨i + 1, _, k, x, by omega, Lib.hid ⟨N2.out, by omega⟩, rfl, rfl, by go_num, rfl⟩
          case measure => simp [intOf]; omega
      · have t1 : decide ((f : Int) ≤ (a : Int)) = false := by simp; omega
        have t1n : decide (f ≤ a) = false := by simp; omega
        have N2 := Lib.hid (show fndP a P (i + 1) = (k, x) by rw [NX.out]; unfold stepP; rw [if_neg (by unfold hitP; simp; omega)])
        clear h1 p1 p2 p3 NX
        go_wp2_with fail
        go_roundw
        case rel => exact ⟨i + 1, _, k, x, by omega, Lib.hid ⟨N2.out, by omega⟩, rfl, rfl, by go_num, rfl⟩
        case measure => simp [intOf]; omega
    · obtain rfl : i = n := by omega
      have e1 : decide ((i : Int) < (i : Int)) = false := by simp
      have hf1 := hf.out.1
      have HF1 := Lib.hid hf1
      obtain ⟨bb, hbb⟩ : ∃ b, b = decide (k = 1) := ⟨_, rfl⟩
      have t5 : ((k : Int) == 1) = bb := by rw [hbb]; by_cases hk1 : k = 1 <;> simp [hk1]; omega
      have HBB := Lib.hid hbb
      clear hf1 hbb
      go_wp2_with fail
      go_loopw [9, 11] (fun v9 v11 wr => ∃ (j q : Nat) (y : Int), j ≤ m ∧ Hid (fndW a K x j = y) ∧ v9 = .int .i64 y ∧ v11 = .int .i64 j ∧ wr = w.drewN q) (fun _ v11 _ => m - (intOf v11).toNat)
      case atStart => exact ⟨0, _, x, Nat.zero_le _, Lib.hid rfl, rfl, rfl, rfl⟩
      case round =>
        obtain ⟨j, q2, y, hj, hy, rfl, rfl, rfl⟩ := hrel
        by_cases hjm : j < m
        · have f1 : decide ((j : Int) < (m : Int)) = true := by simp; omega
          have f2 : (j : Int) < (m : Int) := by omega
          obtain ⟨ad, g, rfl, had, d0, d1, hg, hz⟩ := R.out.write hjm
          have hk := HK.out j
          have hl := HL.out j
          have NX := Lib.hid (show fndW a K x (j + 1) = stepW a y (K j) by rw [fndW, hy.out])
          clear hz
          generalize K j = kk at d0 d1 hk hl NX
          obtain ⟨b, l⟩ := kk
          dsimp only at d0 d1 hk hl
          have w4 : IntKind.u64.wrap (l : Int) = (l : Int) := wrap_small (by unfold M; omega)
          by_cases h1 : b ≤ a
          · have t1 : decide ((b : Int) ≤ (a : Int)) = true := by simp; omega
            have t1n : decide (b ≤ a) = true := by simp; omega
            obtain ⟨s1, hs1⟩ : ∃ z, z = a - b := ⟨_, rfl⟩
            have w1 : IntKind.u64.wrap ((a : Int) - (b : Int)) = (s1 : Int) := by rw [show (a : Int) - (b : Int) = ((a - b : Nat) : Int) by omega, ← hs1]; exact wrap_small (by unfold M; omega)
            by_cases h2 : s1 < l
            · have t2 : decide ((s1 : Int) < (l : Int)) = true := by simp; omega
              have t2n : decide (s1 < l) = true := by simp; omega
              have N2 := Lib.hid (show fndW a K x (j + 1) = -1 by rw [NX.out]; unfold stepW; rw [if_pos (by unfold hitW; simp; omega)])
              clear hs1 h1 h2 NX hk hl
              go_wp2_with fail
              go_quiet (fail)
              go_wp2_with fail
              go_roundw
              case rel => exact ⟨j + 1, _, -1, by omega, N2, rfl, by go_num, rfl⟩
              case measure => simp [intOf]; omega
            · have t2 : decide ((s1 : Int) < (l : Int)) = false := by simp; omega
              have t2n : decide (s1 < l) = false := by simp; omega
              have N2 := Lib.hid (show fndW a K x (j + 1) = y by rw [NX.out]; unfold stepW; rw [if_neg (by unfold hitW; simp; omega)])
              clear hs1 h1 h2 NX hk hl
              go_wp2_with fail
              go_quiet (fail)
              go_wp2_with fail
              go_roundw
              case rel => exact ⟨j + 1, _, y, by omega, N2, rfl, by go_num, rfl⟩
              case measure => simp [intOf]; omega
          · have t1 : decide ((b : Int) ≤ (a : Int)) = false := by simp; omega
            have t1n : decide (b ≤ a) = false := by simp; omega
            have N2 := Lib.hid (show fndW a K x (j + 1) = y by rw [NX.out]; unfold stepW; rw [if_neg (by unfold hitW; simp; omega)])
            clear h1 NX hk hl
            go_wp2_with fail
            go_quiet (fail)
            go_wp2_with fail
            go_roundw
            case rel => exact ⟨j + 1, _, y, by omega, N2, rfl, by go_num, rfl⟩
            case measure => simp [intOf]; omega
        · obtain rfl : j = m := by omega
          have f1 : decide ((j : Int) < (j : Int)) = false := by simp
          go_wp2_with fail
          go_ret2
          exact ⟨by rw [HF1.out, hy.out, HBB.out]; rfl, below_drewN (Below.refl _ _) _⟩
end Go.Proofs.Yticnmgdflkipeaa
