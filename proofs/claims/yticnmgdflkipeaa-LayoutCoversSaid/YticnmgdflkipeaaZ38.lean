import Derived.Test.YticnmgdflkipeaaZ37
namespace Go.Proofs.Yticnmgdflkipeaa
open Go.RowKit Go.Shelf Go.Hos
set_option linter.unusedVariables false
/-! LayoutPieces' walk -/
theorem drewN_drewN (w : World) (a b : Nat) : (w.drewN a).drewN b = w.drewN (a + b) := by simp [World.drewN, Nat.add_assoc]
set_option maxRecDepth 20000 in
set_option maxHeartbeats 3200000 in
theorem piecesl_any (o : ObjD) (w : World) (hS : StR w w.heap.size 6 o.gA o.gM (segC o.sg)) (hf : ∀ k, (o.sg k).fits) (hm : o.gM ≤ maxLen) (hb : o.base < M) :
    Calls Try.prog 5 #[.agg o.cs] w fun e W' => e = .returned (.bool true) ∧ Below w.heap.size w W' := by
  have hmm : maxLen = 9223372036854775807 := by simp [maxLen]
  have HS := Lib.hid hS; have HF := Lib.hid hf; have HM := Lib.hid hm; have HB := Lib.hid hb
  obtain ⟨w0, hw0⟩ : ∃ x, x = w.alloc (.cells o.cs 33) := ⟨_, rfl⟩
  have L0 : Hid (LR w o.cs w0) := by rw [hw0]; exact Lib.hid ⟨(Below.refl _ _).alloc (Nat.le_refl _) _, Blk.new _ _ _⟩
  obtain ⟨w1, hw1⟩ : ∃ x, x = w0.alloc (.cells o.cs 33) := ⟨_, rfl⟩
  have L1 : Hid (LR w o.cs w1) := by rw [hw1]; exact Lib.hid (L0.out.next ((Below.refl _ _).alloc (Nat.le_refl _) _))
  have R1 : Hid (ObjR w1 w1.heap.size (some ⟨w0.heap.size, 0, none⟩) 1 (fun _ => o)) := by
    have kb : Blk w1 w0.heap.size 33 o.cs := by rw [hw1]; exact Blk.new _ _ _
    exact Lib.hid (obj1 kb kb.lt ((hS.below L1.out.bl).more L1.out.bl.size) hm)
  have hz0 : w0.heap.size = w.heap.size + 1 := by rw [hw0]; simp
  rw [hz0] at R1
  rw [hw0] at hw1
  have HW1 := Lib.hid hw1
  obtain ⟨O0, hO0⟩ : ∃ x, x = o := ⟨_, rfl⟩
  have hO1 : o.cs = O0.cs := by rw [hO0]
  rw [← hO0] at HS HF HM HB L0 L1 R1
  obtain ⟨ino, base, ty, en, ph, gA, gM, gQ, nA, nM, nQ, so, rn, sA, sM, sQ, rA, rM, rQ, sg⟩ := o
  rw [show (ObjD.mk ino base ty en ph gA gM gQ nA nM nQ so rn sA sM sQ rA rM rQ sg).cs = #[.int .i64 ino, .int .u64 base, .int .u16 ty, .int .u64 en, .int .u64 ph, .slice gA gM gQ, .slice nA nM nQ, .string so, .string rn, .slice sA sM sQ, .slice rA rM rQ] from rfl] at HW1 hO1 ⊢
  have HO1 : Hid (O0.cs = #[.int .i64 ino, .int .u64 base, .int .u16 ty, .int .u64 en, .int .u64 ph, .slice gA gM gQ, .slice nA nM nQ, .string so, .string rn, .slice sA sM sQ, .slice rA rM rQ]) := Lib.hid hO1.symm
  clear hS hf hm hb hw0 hw1 hO0 hO1 hz0
  go_enter Try.func5, Try.ntmps5
  go_wp2_with fail
  rw [← HW1.out]
  refine (vast_any _ 1 1 (fun _ => O0) _ w1 R1.out).mono ?_
  rintro e w' ⟨b, rfl, hb, rfl⟩
  cases b with
  | true =>
    clear hb
    go_wp2_with fail
    refine (works_any _).mono ?_
    rintro e w2 ⟨rfl, b2⟩
    have B2 := Lib.hid (L1.out.bl.trans (b2.mono L1.out.bl.size))
    clear b2
    go_wp2_with fail
    go_ret
    exact ⟨rfl, B2.out⟩
  | false =>
    have h40 : O0.gM ≤ 40 := (hb.out rfl).2 0 (by omega)
    clear hb
    obtain ⟨k0, k1, k2, k3, k4, k5, k6, k7, k8, k9, k10, _⟩ := lrs_of HO1 L1.out
    have l1 := L1.out.bo.lt
    go_wp2_with fail
    rw [← HO1.out]
    refine (LR.call12 L1 HS h40).mono ?_
    rintro e w2 ⟨⟨A', q', rfl, hr'⟩, l2⟩
    clear k0 k1 k2 k3 k4 k5 k6 k7 k8 k9 k10 l1
    go_wp2_with fail
    refine (LR.call18 (Lib.hid l2) hr' HF HB).mono ?_
    rintro e w3 ⟨⟨Ap, cp, Aw, cw, X, rfl, PW3⟩, l3⟩
    have L3 := Lib.hid l3
    clear l2 l3 hr'
    obtain ⟨k0, k1, k2, k3, k4, k5, k6, k7, k8, k9, k10, _⟩ := lrs_of HO1 L3.out
    have l1 := L3.out.bo.lt
    go_wp2_with fail
    rw [← HO1.out]
    refine (LR.call19 L3 HS HF HB).mono ?_
    rintro e w4 ⟨⟨Aq, cq, Ax, cx, X', rfl, PW4⟩, b4, l4⟩
    have PW3' := Lib.hid (PW3.out.below b4)
    have L4 := Lib.hid l4
    clear b4 l4 PW3 L3 k0 k1 k2 k3 k4 k5 k6 k7 k8 k9 k10 l1 L0 L1 R1 HW1
    have hn := pcN_le O0
    have hmw := wrN_le O0
    have HK := Lib.hid (wrF_far O0)
    generalize pcN O0 = n at PW3' PW4 hn ⊢
    generalize wrN O0 = m at PW3' PW4 hmw ⊢
    generalize okE O0 = E at ⊢
    generalize pcF O0 = P at PW3' PW4 ⊢
    generalize wrF O0 = K at PW3' PW4 HK ⊢
    have t1 : (E != E) = false := by simp
    have t2 : ((n : Int) != (n : Int)) = false := by simp
    have t3 : ((m : Int) != (m : Int)) = false := by simp
    have st49 : Try.prog.stoodInHeld 49 = false := by kernel_rfl
    have eg49 : Try.prog.eqGuardType Try.prog.depth 49 = false := by kernel_rfl
    go_wp2_with fail
    go_loopw [9] (fun v9 wr => ∃ i q : Nat, i ≤ n ∧ v9 = .int .i64 i ∧ wr = w4.drewN q) (fun v9 _ => n - (intOf v9).toNat)
    case atStart => exact ⟨0, 0, Nat.zero_le _, rfl, rfl⟩
    case round =>
      obtain ⟨i, q, hi, rfl, rfl⟩ := hrel
      by_cases hin : i < n
      · have e1 : decide ((i : Int) < (n : Int)) = true := by simp; omega
        have e2 : (i : Int) < (n : Int) := by omega
        obtain ⟨ad, rfl, had, d0, d1, d2, d3, d4⟩ := PW3'.out.piece hin
        obtain ⟨ad', rfl, had', d0', d1', d2', d3', d4'⟩ := PW4.out.piece hin
        generalize P i = p at d0 d1 d2 d3 d4 d0' d1' d2' d3' d4'
        obtain ⟨f, t, pr, pi, po⟩ := p
        dsimp only at d0 d1 d2 d3 d4 d0' d1' d2' d3' d4'
        go_wp2_with fail
        go_quiet (fail)
        go_wp2_with fail
        go_roundw
        case rel => exact ⟨i + 1, _, by omega, by go_num, rfl⟩
        case measure => simp [intOf]; omega
      · obtain rfl : i = n := by omega
        have e1 : decide ((i : Int) < (i : Int)) = false := by simp
        go_wp2_with fail
        go_loopw [10] (fun v10 wr => ∃ j q : Nat, j ≤ m ∧ v10 = .int .i64 j ∧ wr = w4.drewN q) (fun v10 _ => m - (intOf v10).toNat)
        case atStart => exact ⟨0, _, Nat.zero_le _, rfl, rfl⟩
        case round =>
          obtain ⟨j, q2, hj, rfl, rfl⟩ := hrel
          by_cases hjm : j < m
          · have f1 : decide ((j : Int) < (m : Int)) = true := by simp; omega
            have f2 : (j : Int) < (m : Int) := by omega
            obtain ⟨ad, g, rfl, had, d0, d1, hg, hz⟩ := PW3'.out.write hjm
            obtain ⟨ad', g', rfl, had', d0', d1', hg', hz'⟩ := PW4.out.write hjm
            have hk := HK.out j
            have HZ := Lib.hid hz
            generalize K j = k at d0 d1 d0' d1' hk HZ
            obtain ⟨a, l⟩ := k
            dsimp only at d0 d1 d0' d1' hk HZ
            have s1 : ((a : Int) != (a : Int)) = false := by simp
            have s2 : ((l : Int) != (l : Int)) = false := by simp
            clear hz hz'
            go_wp2_with fail
            go_quiet (fail)
            go_wp2_with fail
            go_loopw [11] (fun v11 wr => ∃ k q : Nat, k ≤ l ∧ v11 = .int .i64 k ∧ wr = w4.drewN q) (fun v11 _ => l - (intOf v11).toNat)
            case atStart => exact ⟨0, _, Nat.zero_le _, rfl, drewN_drewN _ _ _⟩
            case round =>
              obtain ⟨k, q3, hkl, rfl, rfl⟩ := hrel
              by_cases hkm : k < l
              · have g1 : decide ((k : Int) < (l : Int)) = true := by simp; omega
                have g2 : (k : Int) < (l : Int) := by omega
                have hc := HZ.out k hkm
                go_wp2_with fail
                go_roundw
                case rel => exact ⟨k + 1, q3, by omega, by go_num, rfl⟩
                case measure => simp [intOf]; omega
              · have g1 : decide ((k : Int) < (l : Int)) = false := by simp; omega
                go_wp2_with fail
                go_roundw
                case rel => exact ⟨j + 1, q3, by omega, by go_num, rfl⟩
                case measure => simp [intOf]; omega
          · obtain rfl : j = m := by omega
            have f1 : decide ((j : Int) < (j : Int)) = false := by simp
            go_wp2_with fail
            refine (works_any _).mono ?_
            rintro e w7 ⟨rfl, b7⟩
            have B7 := Lib.hid ((below_drewN L4.out.bl q2).trans (b7.mono (below_drewN L4.out.bl q2).size))
            clear b7
            go_wp2_with fail
            go_ret
            exact ⟨rfl, B7.out⟩
end Go.Proofs.Yticnmgdflkipeaa
