import Derived.Test.YticnmgdflkipeaaZ38
import Derived.Test.YticnmgdflkipeaaZ39
namespace Go.Proofs.Yticnmgdflkipeaa
open Go.RowKit Go.Shelf Go.Hos
set_option linter.unusedVariables false
/-! LayoutMoved's walk -/
theorem okE_or (o : ObjD) : okE o = 0 ∧ okP o = true ∨ okE o = 1 := by
  unfold okE
  by_cases h : okP o = true
  · exact .inl ⟨by rw [h]; rfl, h⟩
  · exact .inr (by rw [if_neg h])
theorem moved_two {o : ObjD} {d b : Nat} (hd : d % 4096 = 0) (hb : b = o.base + d) :
    okE o = 1 ∨ (okE o = 0 ∧ okE { o with base := b } = 1) ∨ (okE o = 0 ∧ okE { o with base := b } = 0 ∧ pcN { o with base := b } = pcN o ∧ wrN { o with base := b } = wrN o ∧ (∀ i, i < pcN o → pcF { o with base := b } i = PieceD.sh d (pcF o i)) ∧ ∀ i, i < wrN o → wrF { o with base := b } i = ((wrF o i).1 + d, (wrF o i).2)) := by
  subst hb
  rcases okE_or o with ⟨h0, h1⟩ | h
  · rcases okE_or { o with base := o.base + d } with ⟨h2, h3⟩ | h
    · exact .inr (.inr ⟨h0, h2, (pcN_sh hd h1 h3).1, (pcN_sh hd h1 h3).2, fun i hi => pcF_sh hd h1 h3 hi, fun i hi => wrF_sh hd h1 h3 hi⟩)
    · exact .inr (.inl ⟨h0, h⟩)
  · exact .inl h
set_option maxRecDepth 20000 in
set_option maxHeartbeats 3200000 in
theorem moved_any (o : ObjD) (pg : Nat) (w : World) (hS : StR w w.heap.size 6 o.gA o.gM (segC o.sg)) (hf : ∀ k, (o.sg k).fits) (hm : o.gM ≤ maxLen) (hb : o.base < M) (hpg : pg < 65536) :
    Calls Try.prog 7 #[.agg o.cs, .int .u16 pg] w fun e W' => e = .returned (.bool true) ∧ Below w.heap.size w W' := by
  have hmm : maxLen = 9223372036854775807 := by simp [maxLen]
  have HS := Lib.hid hS; have HF := Lib.hid hf; have HM := Lib.hid hm; have HB := Lib.hid hb
  obtain ⟨w0, hw0⟩ : ∃ x, x = w.alloc (.cells o.cs 33) := ⟨_, rfl⟩
  have L0 : Hid (LR w o.cs w0) := by rw [hw0]; exact Lib.hid ⟨(Below.refl _ _).alloc (Nat.le_refl _) _, Blk.new _ _ _⟩
  obtain ⟨w1, hw1⟩ : ∃ x, x = w0.alloc (.cells o.cs 33) := ⟨_, rfl⟩
  have L1 : Hid (LR w o.cs w1) := by rw [hw1]; exact Lib.hid (L0.out.next ((Below.refl _ _).alloc (Nat.le_refl _) _))
  have R1 : Hid (ObjR w1 w1.heap.size (some ⟨w0.heap.size, 0, none⟩) 1 (fun _ => o)) := by
    have kb : Blk w1 w0.heap.size 33 o.cs := by rw [hw1]; exact Blk.new _ _ _
    exact Lib.hid (obj1 kb kb.lt ((hS.below L1.out.bl).more L1.out.bl.size) hm)
  have hz0 : w0.heap.size = w.heap.size + 1 := by rw [hw0]; simp
  rw [hz0] at R1
  rw [hw0] at hw1
  have HW1 := Lib.hid hw1
  obtain ⟨O0, hO0⟩ : ∃ x, x = o := ⟨_, rfl⟩
  have hO1 : o.cs = O0.cs := by rw [hO0]
  rw [← hO0] at HS HF HM HB L0 L1 R1
  obtain ⟨ino, base, ty, en, ph, gA, gM, gQ, nA, nM, nQ, so, rn, sA, sM, sQ, rA, rM, rQ, sg⟩ := o
  rw [show (ObjD.mk ino base ty en ph gA gM gQ nA nM nQ so rn sA sM sQ rA rM rQ sg).cs = #[.int .i64 ino, .int .u64 base, .int .u16 ty, .int .u64 en, .int .u64 ph, .slice gA gM gQ, .slice nA nM nQ, .string so, .string rn, .slice sA sM sQ, .slice rA rM rQ] from rfl] at HW1 hO1 ⊢
  have HO1 : Hid (O0.cs = #[.int .i64 ino, .int .u64 base, .int .u16 ty, .int .u64 en, .int .u64 ph, .slice gA gM gQ, .slice nA nM nQ, .string so, .string rn, .slice sA sM sQ, .slice rA rM rQ]) := Lib.hid hO1.symm
  have HOO := Lib.hid hO0
  obtain ⟨fr, hfr⟩ : ∃ x, x = pg * 4096 := ⟨_, rfl⟩
  have v0 : IntKind.u64.wrap (pg : Int) = (pg : Int) := wrap_small (by unfold M; omega)
  have v1 : IntKind.u64.wrap ((pg : Int) * 4096) = (fr : Int) := by rw [show (pg : Int) * 4096 = ((pg * 4096 : Nat) : Int) by omega, ← hfr]; exact wrap_small (by unfold M; omega)
  have frM : fr < 268435456 := by omega
  have fr4 : fr % 4096 = 0 := by omega
  have HB2 : Hid (base < M) := Lib.hid (by have := HB.out; rwa [hO0] at this)
  clear hS hf hm hb hw0 hw1 hO0 hO1 hz0 hfr hpg
  go_enter Try.func7, Try.ntmps7
  go_wp2_with fail
  rw [← HW1.out]
  refine (vast_any _ 1 1 (fun _ => O0) _ w1 R1.out).mono ?_
  rintro e w' ⟨b, rfl, hb, rfl⟩
  cases b with
  | true =>
    clear hb
    go_wp2_with fail
    refine (works_any _).mono ?_
    rintro e w2 ⟨rfl, b2⟩
    have B2 := Lib.hid (L1.out.bl.trans (b2.mono L1.out.bl.size))
    clear b2
    go_wp2_with fail
    go_ret
    exact ⟨rfl, B2.out⟩
  | false =>
    have h40 : O0.gM ≤ 40 := (hb.out rfl).2 0 (by omega)
    clear hb
    obtain ⟨k0, k1, k2, k3, k4, k5, k6, k7, k8, k9, k10, _⟩ := lrs_of HO1 L1.out
    have l1 := L1.out.bo.lt
    go_wp2_with fail
    rw [← HO1.out]
    refine (LR.call12 L1 HS h40).mono ?_
    rintro e w2 ⟨⟨A', q', rfl, hr'⟩, l2⟩
    clear k0 k1 k2 k3 k4 k5 k6 k7 k8 k9 k10 l1
    go_wp2_with fail
    refine (LR.call18 (Lib.hid l2) hr' HF HB).mono ?_
    rintro e w3 ⟨⟨Ap, cp, Aw, cw, X, rfl, PW3⟩, l3⟩
    have L3 := Lib.hid l3
    clear l2 l3 hr' L0 L1 R1 HW1
    obtain ⟨k0, k1, k2, k3, k4, k5, k6, k7, k8, k9, k10, _⟩ := lrs_of HO1 L3.out
    have l1 := L3.out.bo.lt
    go_wp2_with fail
    rw [← HO1.out]
    refine (twin_any O0 w3 ((HS.out.below L3.out.bl).more L3.out.bl.size) h40).mono ?_
    rintro e w4 ⟨A2, q2, rfl, ow4, b4⟩
    have PW4 := Lib.hid (PW3.out.below b4)
    have L4 := Lib.hid (L3.out.next b4)
    have R4 : Hid (StR w4 w4.heap.size 6 A2 O0.gM (segC O0.sg)) := Lib.hid (StR.of_own ow4)
    clear PW3 b4 ow4 k0 k1 k2 k3 k4 k5 k6 k7 k8 k9 k10 l1 L3
    have HAT : (O0.at A2 q2).cs = #[.int .i64 ino, .int .u64 base, .int .u16 ty, .int .u64 en, .int .u64 ph, .slice A2 gM q2, .slice nA nM nQ, .string so, .string rn, .slice sA sM sQ, .slice rA rM rQ] := by rw [HOO.out]; rfl
    rw [HAT]
    clear HAT
    obtain ⟨k0, k1, k2, k3, k4, k5, k6, k7, k8, k9, k10, _⟩ := lrs_of HO1 L4.out
    have l1 := L4.out.bo.lt
    by_cases hw : base + fr < M
    · obtain ⟨b2, hb2⟩ : ∃ x, x = base + fr := ⟨_, rfl⟩
      have w5 : IntKind.u64.wrap ((base : Int) + (fr : Int)) = (b2 : Int) := wrap_sum hb2 (by omega)
      have t1 : decide ((b2 : Int) < (fr : Int)) = false := by simp; omega
      have t1n : decide (b2 < fr) = false := by simp; omega
      have w6 : (base : Int) + (fr : Int) = (b2 : Int) := by omega
      have w7 : IntKind.u64.wrap (b2 : Int) = (b2 : Int) := wrap_small (by omega)
      have HB3 := Lib.hid hb2
      have hb2M : Hid (b2 < M) := Lib.hid (by omega)
      obtain ⟨W5, hW5⟩ : ∃ W, W = w4.alloc (.cells #[.int .i64 ino, .int .u64 b2, .int .u16 ty, .int .u64 en, .int .u64 ph, .slice A2 gM q2, .slice nA nM nQ, .string so, .string rn, .slice sA sM sQ, .slice rA rM rQ] 33) := ⟨_, rfl⟩
      have HAT : Hid ((ObjD.at { O0 with base := b2 } A2 q2).cs = #[.int .i64 ino, .int .u64 b2, .int .u16 ty, .int .u64 en, .int .u64 ph, .slice A2 gM q2, .slice nA nM nQ, .string so, .string rn, .slice sA sM sQ, .slice rA rM rQ]) := Lib.hid (by rw [HOO.out]; rfl)
      have B5 : Hid (Below w4.heap.size w4 W5) := by rw [hW5]; exact Lib.hid ((Below.refl _ _).alloc (Nat.le_refl _) _)
      have K5 : Blk W5 w4.heap.size 33 #[.int .i64 ino, .int .u64 b2, .int .u16 ty, .int .u64 en, .int .u64 ph, .slice A2 gM q2, .slice nA nM nQ, .string so, .string rn, .slice sA sM sQ, .slice rA rM rQ] := by rw [hW5]; exact Blk.new _ _ _
      have PW5 := Lib.hid (PW4.out.below B5.out)
      have L5 := Lib.hid (L4.out.next B5.out)
      have R5 := Lib.hid ((R4.out.below B5.out).more B5.out.size)
      have HW5 := Lib.hid hW5
      clear hb2 hw hW5 R4 PW4 L4 B5
      go_upto_region 7 with fail
      rw [← HW5.out]
      have j0 := (K5.cell 0).trans rfl
      have j1 := (K5.cell 1).trans rfl
      have j2 := (K5.cell 2).trans rfl
      have j3 := (K5.cell 3).trans rfl
      have j4 := (K5.cell 4).trans rfl
      have j5 := (K5.cell 5).trans rfl
      have j6 := (K5.cell 6).trans rfl
      have j7 := (K5.cell 7).trans rfl
      have j8 := (K5.cell 8).trans rfl
      have j9 := (K5.cell 9).trans rfl
      have j10 := (K5.cell 10).trans rfl
      simp only [List.getElem?_toArray, List.getElem?_cons_succ, List.getElem?_cons_zero] at j0 j1 j2 j3 j4 j5 j6 j7 j8 j9 j10
      have l5 := K5.lt
      clear k0 k1 k2 k3 k4 k5 k6 k7 k8 k9 k10 l1 K5 HW5
      go_wp2_with fail
      rw [← HAT.out]
      refine (pieces_any (ObjD.at { O0 with base := b2 } A2 q2) W5 R5.out HF.out hb2M.out).mono ?_
      rintro e u6 hp
      obtain ⟨Aq, cq, Ax, cx, X', rfl, pw⟩ := hp.read
      have PX6 := Lib.hid pw
      have PO6 := Lib.hid (PW5.out.below hp.bl)
      have L6 := Lib.hid (L5.out.next hp.bl)
      have hn := pcN_le O0
      have hmw := wrN_le O0
      have HPF := Lib.hid (pcF_le O0)
      have HKF := Lib.hid (wrF_le O0)
      have HKL := Lib.hid (wrF_far O0)
      have TWO := moved_two (o := O0) fr4 (show b2 = O0.base + fr by rw [HOO.out]; exact HB3.out)
      clear hp pw PW5 L5 R5 j0 j1 j2 j3 j4 j5 j6 j7 j8 j9 j10 l5 w5 w6 w7 t1 t1n v0 v1 HAT
      obtain ⟨N2, hN2⟩ : ∃ z, z = pcN ({ O0 with base := b2 }.at A2 q2) := ⟨_, rfl⟩
      obtain ⟨M2, hM2⟩ : ∃ z, z = wrN ({ O0 with base := b2 }.at A2 q2) := ⟨_, rfl⟩
      obtain ⟨E2, hE2⟩ : ∃ z, z = okE ({ O0 with base := b2 }.at A2 q2) := ⟨_, rfl⟩
      obtain ⟨P2, hP2⟩ : ∃ z, z = pcF ({ O0 with base := b2 }.at A2 q2) := ⟨_, rfl⟩
      obtain ⟨K2, hK2⟩ : ∃ z, z = wrF ({ O0 with base := b2 }.at A2 q2) := ⟨_, rfl⟩
      rw [← hN2, ← hM2, ← hP2, ← hK2] at PX6
      rw [← hN2, ← hM2, ← hE2]
      rw [show okE { O0 with base := b2 } = E2 from hE2.symm, show pcN { O0 with base := b2 } = N2 from hN2.symm, show wrN { O0 with base := b2 } = M2 from hM2.symm, show pcF { O0 with base := b2 } = P2 from hP2.symm, show wrF { O0 with base := b2 } = K2 from hK2.symm] at TWO
      clear hN2 hM2 hE2 hP2 hK2
      generalize pcN O0 = n at PO6 hn TWO ⊢
      generalize wrN O0 = m at PO6 hmw TWO ⊢
      generalize okE O0 = E at TWO ⊢
      generalize pcF O0 = P at PO6 TWO HPF ⊢
      generalize wrF O0 = K at PO6 HKF HKL TWO ⊢
      have WK : ∀ W : World, Calls Try.prog 10 #[] W fun e w' => e = .returned (.bool true) ∧ Below W.heap.size W w' := works_any
      have HWK := Lib.hid WK
      clear WK
      rcases TWO with rfl | ⟨rfl, rfl⟩ | ⟨rfl, rfl, rfl, rfl, hPP, hKK⟩
      · go_wp2_with fail
        refine (HWK.out _).mono ?_
        rintro e u7 ⟨rfl, b7⟩
        have B7 := Lib.hid (L6.out.bl.trans (b7.mono L6.out.bl.size))
        clear b7
        go_wp2_with fail
        go_ret
        exact ⟨rfl, B7.out⟩
      · go_wp2_with fail
        refine (HWK.out _).mono ?_
        rintro e u7 ⟨rfl, b7⟩
        have B7 := Lib.hid (L6.out.bl.trans (b7.mono L6.out.bl.size))
        clear b7
        go_wp2_with fail
        go_ret
        exact ⟨rfl, B7.out⟩
      · have HPP := Lib.hid hPP; have HKK := Lib.hid hKK
        have t2 : ((N2 : Int) != (N2 : Int)) = false := by simp
        have t3 : ((M2 : Int) != (M2 : Int)) = false := by simp
        clear hPP hKK
        go_wp2_with fail
        go_loopw [13] (fun v9 wr => ∃ i q : Nat, i ≤ N2 ∧ v9 = .int .i64 i ∧ wr = u6.drewN q) (fun v9 _ => N2 - (intOf v9).toNat)
        case atStart => exact ⟨0, 0, Nat.zero_le _, rfl, rfl⟩
        case round =>
          obtain ⟨i, q, hi, rfl, rfl⟩ := hrel
          by_cases hin : i < N2
          · have e1 : decide ((i : Int) < (N2 : Int)) = true := by simp; omega
            have e2 : (i : Int) < (N2 : Int) := by omega
            obtain ⟨ad, rfl, had, d0, d1, d2, d3, d4⟩ := PO6.out.piece hin
            obtain ⟨ad', rfl, had', d0', d1', d2', d3', d4'⟩ := PX6.out.piece hin
            rw [HPP.out i hin] at d0' d1' d2' d3' d4'
            have hpf := HPF.out i
            generalize P i = p at d0 d1 d2 d3 d4 d0' d1' d2' d3' d4' hpf
            obtain ⟨f, t, pr, pi, po⟩ := p
            obtain ⟨f2, hf2⟩ : ∃ z, z = f + fr := ⟨_, rfl⟩
            obtain ⟨t2', ht2⟩ : ∃ z, z = t + fr := ⟨_, rfl⟩
            simp only [PieceD.sh, ← hf2, ← ht2] at d0 d1 d2 d3 d4 d0' d1' d2' d3' d4' hpf
            have s1 : IntKind.u64.wrap ((f : Int) + (fr : Int)) = (f2 : Int) := wrap_sum hf2 (by unfold M; omega)
            have s2 : IntKind.u64.wrap ((t : Int) + (fr : Int)) = (t2' : Int) := wrap_sum ht2 (by unfold M; omega)
            have r1 : ((f2 : Int) != (f2 : Int)) = false := by simp
            have r2 : ((t2' : Int) != (t2' : Int)) = false := by simp
            have r3 : ((pi : Int) != (pi : Int)) = false := by simp
            have r4 : ((po : Int) != (po : Int)) = false := by simp
            have r5 : ((pr : Int) != (pr : Int)) = false := by simp
            clear hf2 ht2 hpf
            go_wp2_with fail
            go_quiet (fail)
            go_wp2_with fail
            go_roundw
            case rel => exact ⟨i + 1, _, by omega, by go_num, rfl⟩
            case measure => simp [intOf]; omega
          · obtain rfl : i = N2 := by omega
            have e1 : decide ((i : Int) < (i : Int)) = false := by simp
            go_wp2_with fail
            go_loopw [14] (fun v10 wr => ∃ j q : Nat, j ≤ M2 ∧ v10 = .int .i64 j ∧ wr = u6.drewN q) (fun v10 _ => M2 - (intOf v10).toNat)
            case atStart => exact ⟨0, _, Nat.zero_le _, rfl, rfl⟩
            case round =>
              obtain ⟨j, q2, hj, rfl, rfl⟩ := hrel
              by_cases hjm : j < M2
              · have f1 : decide ((j : Int) < (M2 : Int)) = true := by simp; omega
                have f2 : (j : Int) < (M2 : Int) := by omega
                obtain ⟨ad, g, rfl, had, d0, d1, hg, hz⟩ := PO6.out.write hjm
                obtain ⟨ad', g', rfl, had', d0', d1', hg', hz'⟩ := PX6.out.write hjm
                rw [HKK.out j hjm] at d0' d1'
                have hk := HKL.out j
                have hk2 := HKF.out j
                clear hz hz'
                generalize K j = k at d0 d1 d0' d1' hk hk2
                obtain ⟨a, l⟩ := k
                obtain ⟨a2, ha2⟩ : ∃ z, z = a + fr := ⟨_, rfl⟩
                simp only [← ha2] at d0 d1 d0' d1' hk hk2
                have s1 : IntKind.u64.wrap ((a : Int) + (fr : Int)) = (a2 : Int) := wrap_sum ha2 (by unfold M; omega)
                have s2 : ((a2 : Int) != (a2 : Int)) = false := by simp
                have s3 : ((l : Int) != (l : Int)) = false := by simp
                clear ha2 hk2
                go_wp2_with fail
                go_quiet (fail)
                go_wp2_with fail
                go_roundw
                case rel => exact ⟨j + 1, _, by omega, by go_num, rfl⟩
                case measure => simp [intOf]; omega
              · obtain rfl : j = M2 := by omega
                have f1 : decide ((j : Int) < (j : Int)) = false := by simp
                go_wp2_with fail
                refine (HWK.out _).mono ?_
                rintro e u7 ⟨rfl, b7⟩
                have B7 := Lib.hid ((below_drewN L6.out.bl q2).trans (b7.mono (below_drewN L6.out.bl q2).size))
                clear b7
                go_wp2_with fail
                go_ret
                exact ⟨rfl, B7.out⟩
    · obtain ⟨b2, hb2⟩ : ∃ x, x = base + fr - M := ⟨_, rfl⟩
      have w5 : IntKind.u64.wrap ((base : Int) + (fr : Int)) = (b2 : Int) := by rw [hb2]; exact wrap_big HB2.out (by unfold M; omega) hw
      have t1 : decide ((b2 : Int) < (fr : Int)) = true := by have := HB2.out; simp; omega
      have t1n : decide (b2 < fr) = true := by have := HB2.out; simp; omega
      have B4 := Lib.hid (L4.out.bl)
      clear hw hb2 frM fr4
      go_wp2_with fail
      refine (works_any _).mono ?_
      rintro e u7 ⟨rfl, b7⟩
      have B7 := Lib.hid ((B4.out.alloc B4.out.size _).trans (b7.mono (B4.out.alloc B4.out.size _).size))
      clear b7
      go_wp2_with fail
      go_ret
      exact ⟨rfl, B7.out⟩
end Go.Proofs.Yticnmgdflkipeaa
