import Derived.Test.YticnmgdflkipeaaZ43
import Derived.Test.YticnmgdflkipeaaZ40
namespace Go.Proofs.Yticnmgdflkipeaa
open Go.RowKit Go.Shelf Go.Hos
set_option linter.unusedVariables false
/-! LayoutCovers' walk -/
set_option maxRecDepth 20000 in
set_option maxHeartbeats 3200000 in
theorem covers_any (o : ObjD) (nr : Int) (ba : Nat) (w : World) (hS : StR w w.heap.size 6 o.gA o.gM (segC o.sg)) (hf : ∀ k, (o.sg k).fits) (hm : o.gM ≤ maxLen) (hb : o.base < M) (hba : ba < M) (hn1 : -9223372036854775808 ≤ nr) (hn2 : nr ≤ 9223372036854775807) :
    Calls Try.prog 6 #[.agg o.cs, .int .i64 nr, .int .u64 ba] w fun e W' => e = .returned (.bool true) ∧ Below w.heap.size w W' := by
  have hmm : maxLen = 9223372036854775807 := by simp [maxLen]
  have HS := Lib.hid hS; have HF := Lib.hid hf; have HM := Lib.hid hm; have HB := Lib.hid hb
  obtain ⟨w0, hw0⟩ : ∃ x, x = w.alloc (.cells o.cs 33) := ⟨_, rfl⟩
  have L0 : Hid (LR w o.cs w0) := by rw [hw0]; exact Lib.hid ⟨(Below.refl _ _).alloc (Nat.le_refl _) _, Blk.new _ _ _⟩
  obtain ⟨w1, hw1⟩ : ∃ x, x = w0.alloc (.cells o.cs 33) := ⟨_, rfl⟩
  have L1 : Hid (LR w o.cs w1) := by rw [hw1]; exact Lib.hid (L0.out.next ((Below.refl _ _).alloc (Nat.le_refl _) _))
  have R1 : Hid (ObjR w1 w1.heap.size (some ⟨w0.heap.size, 0, none⟩) 1 (fun _ => o)) := by
    have kb : Blk w1 w0.heap.size 33 o.cs := by rw [hw1]; exact Blk.new _ _ _
    exact Lib.hid (obj1 kb kb.lt ((hS.below L1.out.bl).more L1.out.bl.size) hm)
  have hz0 : w0.heap.size = w.heap.size + 1 := by rw [hw0]; simp
  rw [hz0] at R1
  rw [hw0] at hw1
  have HW1 := Lib.hid hw1
  obtain ⟨O0, hO0⟩ : ∃ x, x = o := ⟨_, rfl⟩
  have hO1 : o.cs = O0.cs := by rw [hO0]
  rw [← hO0] at HS HF HM HB L0 L1 R1
  obtain ⟨ino, base, ty, en, ph, gA, gM, gQ, nA, nM, nQ, so, rn, sA, sM, sQ, rA, rM, rQ, sg⟩ := o
  rw [show (ObjD.mk ino base ty en ph gA gM gQ nA nM nQ so rn sA sM sQ rA rM rQ sg).cs = #[.int .i64 ino, .int .u64 base, .int .u16 ty, .int .u64 en, .int .u64 ph, .slice gA gM gQ, .slice nA nM nQ, .string so, .string rn, .slice sA sM sQ, .slice rA rM rQ] from rfl] at HW1 hO1 ⊢
  have HO1 : Hid (O0.cs = #[.int .i64 ino, .int .u64 base, .int .u16 ty, .int .u64 en, .int .u64 ph, .slice gA gM gQ, .slice nA nM nQ, .string so, .string rn, .slice sA sM sQ, .slice rA rM rQ]) := Lib.hid hO1.symm
  have HOB : Hid (O0.base = base ∧ O0.ino = ino) := Lib.hid (by rw [hO0]; exact ⟨rfl, rfl⟩)
  clear hS hf hm hb hw0 hw1 hO0 hO1 hz0
  go_enter Try.func6, Try.ntmps6
  go_wp2_with fail
  rw [← HW1.out]
  refine (vast_any _ 1 1 (fun _ => O0) _ w1 R1.out).mono ?_
  rintro e w' ⟨b, rfl, hb, rfl⟩
  cases b with
  | true =>
    clear hb
    go_wp2_with fail
    refine (works_any _).mono ?_
    rintro e w2 ⟨rfl, b2⟩
    have B2 := Lib.hid (L1.out.bl.trans (b2.mono L1.out.bl.size))
    clear b2
    go_wp2_with fail
    go_ret
    exact ⟨rfl, B2.out⟩
  | false =>
    have h40 : O0.gM ≤ 40 := (hb.out rfl).2 0 (by omega)
    clear hb
    obtain ⟨k0, k1, k2, k3, k4, k5, k6, k7, k8, k9, k10, _⟩ := lrs_of HO1 L1.out
    have l1 := L1.out.bo.lt
    go_wp2_with fail
    rw [← HO1.out]
    refine (LR.call12 L1 HS h40).mono ?_
    rintro e w2 ⟨⟨A', q', rfl, hr'⟩, l2⟩
    clear k0 k1 k2 k3 k4 k5 k6 k7 k8 k9 k10 l1
    go_wp2_with fail
    refine (LR.call18 (Lib.hid l2) hr' HF HB).mono ?_
    rintro e w3 ⟨⟨Ap, cp, Aw, cw, X, rfl, PW3⟩, l3⟩
    have L3 := Lib.hid l3
    clear l2 l3 hr' L0 L1 R1 HW1
    have hn := pcN_le O0
    have hmw := wrN_le O0
    rcases okE_or O0 with ⟨hE, hok⟩ | hE
    · rw [hE]
      have HOK := Lib.hid hok
      obtain ⟨k0, k1, k2, k3, k4, k5, k6, k7, k8, k9, k10, _⟩ := lrs_of HO1 L3.out
      have l1 := L3.out.bo.lt
      have hL0 := (right_parts (okP_right hok).1).2.2.2.2
      have hL8 : (lds O0.sg O0.gM).length ≤ 8 := by have := lds_len O0.sg O0.gM; have := (right_parts (okP_right hok).1).2.1; omega
      obtain ⟨j, hj, hjn⟩ : ∃ j : Nat, j < (lds O0.sg O0.gM).length ∧ (if nr < 0 ∨ ((lds O0.sg O0.gM).length : Int) ≤ nr then (0 : Int) else nr) = (j : Int) := by
        by_cases h : nr < 0 ∨ ((lds O0.sg O0.gM).length : Int) ≤ nr
        · exact ⟨0, hL0, by rw [if_pos h]; rfl⟩
        · exact ⟨nr.toNat, by omega, by rw [if_neg h]; omega⟩
      have HJ := Lib.hid hj
      have HJN := Lib.hid hjn
      have LD := load_ok (okP_right hok).1 hj
      have FO : Hid (∀ k, k < (fnS (lds O0.sg O0.gM) j).msz → _ ∧ _) := Lib.hid fun k hk => found_ok hok hj hk
      have PO : Hid (∀ k, k < (fnS (lds O0.sg O0.gM) j).msz → ∀ i, i < pcN O0 → _) := Lib.hid fun k hk i hi => pieces_ok hok hj hk hi
      have LX := ld_x hok (fnS_mem hj)
      have HPF := Lib.hid (pcF_le O0)
      have HKF := Lib.hid (wrF_le O0)
      have HKL := Lib.hid (wrF_far O0)
      clear hE hok hj hjn
      go_wp2_with fail
      rw [← HO1.out]
      refine (loads_any O0 w3 ((HS.out.below L3.out.bl).more L3.out.bl.size) h40).mono ?_
      rintro e w4 ⟨Al, cl, rfl, ow4, b4⟩
      have PW4 := Lib.hid (PW3.out.below b4)
      have L4 := Lib.hid (L3.out.next b4)
      have R4 := Lib.hid (row_fnS ow4)
      clear b4 ow4 PW3 L3 k0 k1 k2 k3 k4 k5 k6 k7 k8 k9 k10 l1
      generalize (lds O0.sg O0.gM).length = L at *
      have g0 : ((L : Int) == 0) = false := by simp; omega
      obtain ⟨bb, hbb⟩ : ∃ b, b = decide (nr < 0 ∨ (L : Int) ≤ nr) := ⟨_, rfl⟩
      have HBB := Lib.hid hbb
      clear hbb
      go_upto_region 9 with fail
      go_cut [57] from 50 to 56 (fun v57 wx => v57 = .bool bb ∧ wx = w4)
      case first =>
        by_cases h1 : nr < 0
        · have x1 : decide (nr < 0) = true := by simp; omega
          have x3 := Lib.hid (show true = bb by rw [HBB.out]; simp; omega)
          go_wp2_with fail
          go_meet
          exact ⟨by rw [x3.out], rfl⟩
        · have x1 : decide (nr < 0) = false := by simp; omega
          by_cases h2 : (L : Int) ≤ nr
          · have x2 : decide ((L : Int) ≤ nr) = true := by simp; omega
            have x3 := Lib.hid (show true = bb by rw [HBB.out]; simp; omega)
            go_wp2_with fail
            go_meet
            exact ⟨by rw [x3.out], rfl⟩
          · have x2 : decide ((L : Int) ≤ nr) = false := by simp; omega
            have x3 := Lib.hid (show false = bb by rw [HBB.out]; simp; omega)
            go_wp2_with fail
            go_meet
            exact ⟨by rw [x3.out], rfl⟩
      case rest =>
      obtain ⟨rfl, rfl⟩ := hcut
      go_upto_if 57 with fail
      go_cut [1] from 50 to 57 (fun v1 wx => v1 = .int .i64 j ∧ wx = wc)
      case first =>
        cases bb with
        | true =>
          have x3 := Lib.hid (show (0 : Int) = (j : Int) by rw [← HJN.out, if_pos (of_decide_eq_true HBB.out.symm)])
          go_wp2_with fail
          go_meet
          exact ⟨by rw [x3.out], rfl⟩
        | false =>
          have x3 := Lib.hid (show nr = (j : Int) by rw [← HJN.out, if_neg (of_decide_eq_false HBB.out.symm)])
          go_wp2_with fail
          go_meet
          exact ⟨by rw [x3.out], rfl⟩
      case rest =>
      obtain ⟨rfl, rfl⟩ := hcut
      obtain ⟨ad, rfl, had, d0, d1, d2, d3, d4, d5⟩ := seg_cells R4.out HJ.out
      have hi0 := HOB.out.1
      obtain ⟨s, hs⟩ : ∃ s, s = fnS (lds O0.sg O0.gM) j := ⟨_, rfl⟩
      rw [← hs] at d0 d1 d2 d3 d4 d5 LD LX FO PO
      rw [hi0] at FO PO
      have le1 := LX.en
      have le2 := LD.up
      have le3 := LD.fm
      have le4 := LD.ofs
      have le5 := LD.m0
      rw [hi0] at le1
      obtain ⟨kd, fl, off, addr, fsz, msz⟩ := s
      dsimp only at d0 d1 d2 d3 d4 d5 le1 le2 le3 le4 le5
      obtain ⟨k, hk⟩ : ∃ k, k = ba % msz := ⟨_, rfl⟩
      have hkm : k < msz := by rw [hk]; exact Nat.mod_lt _ le5
      have m1 : (ba : Int).tmod (msz : Int) = (k : Int) := by rw [Int.tmod_eq_emod_of_nonneg (by omega), hk]; norm_cast
      have m2 : (ba : Int) % (msz : Int) = (k : Int) := by rw [hk]; norm_cast
      have m3 : ((msz : Int) == 0) = false := by simp; omega
      have m4 : ¬ (msz : Int) = 0 := by omega
      obtain ⟨a0, ha0⟩ : ∃ y, y = base + addr := ⟨_, rfl⟩
      obtain ⟨a, ha⟩ : ∃ y, y = base + addr + k := ⟨_, rfl⟩
      have w1 : IntKind.u64.wrap ((base : Int) + (addr : Int)) = (a0 : Int) := wrap_sum ha0 (by unfold M; omega)
      have w2 : IntKind.u64.wrap ((a0 : Int) + (k : Int)) = (a : Int) := wrap_sum (by omega) (by unfold M; omega)
      have haM : a ≤ 140737488355328 := by omega
      have FO2 := FO.out k hkm
      have PO2 := PO.out k hkm
      dsimp only at FO2 PO2
      rw [← ha] at FO2 PO2
      obtain ⟨F1, F2⟩ := FO2
      obtain ⟨at_, hat⟩ : ∃ y, y = atS ⟨kd, fl, off, addr, fsz, msz⟩ k := ⟨_, rfl⟩
      rw [← hat] at F2
      have CF : Hid (∀ (W : World), PWR W (pcN O0) (wrN O0) Ap Aw (pcF O0) (wrF O0) X → Calls Try.prog 21 #[.slice Ap (pcN O0) cp, .slice Aw (wrN O0) cw, .int .u64 a] W fun e W' => e = .returned (.tuple #[.int .i64 at_, .bool true]) ∧ Below W.heap.size W W') := Lib.hid fun W h => by
        have := found_any cp cw a W h haM hn hmw HPF.out HKF.out HKL.out
        rwa [F2, F1] at this
      have PO3 := Lib.hid PO2
      have HAT := Lib.hid hat
      obtain ⟨W5, hW5⟩ : ∃ W, W = wc.alloc (.cells #[.int .u32 kd, .int .u8 fl, .int .u64 off, .int .u64 addr, .int .u64 fsz, .int .u64 msz] 56) := ⟨_, rfl⟩
      have b5 : Below wc.heap.size wc W5 := by rw [hW5]; exact (Below.refl _ _).alloc (Nat.le_refl _) _
      have PW5 := Lib.hid (PW4.out.below b5)
      have L5 := Lib.hid (L4.out.next b5)
      have Q5 : Hid (Blk W5 wc.heap.size 56 #[.int .u32 kd, .int .u8 fl, .int .u64 off, .int .u64 addr, .int .u64 fsz, .int .u64 msz]) := by rw [hW5]; exact Lib.hid (Blk.new _ _ _)
      obtain ⟨g, hg⟩ : ∃ y, y = wc.heap.size := ⟨_, rfl⟩
      rw [← hg] at Q5
      have HW5 := Lib.hid hW5
      have HG := Lib.hid hg
      have hjn2 := HJ.out
      clear hs F1 F2 hat FO PO PO2 LX LD hi0 hk ha0 ha le1 le2 b5 hW5 L4 PW4 R4 hL0 HPF HKF HKL hba hn1 hn2 hg
      have j1 : (j : Int) < (L : Int) := by omega
      have j2 : (0 : Int) ≤ (j : Int) := by omega
      have lwc := World.block_lt_of_cell? _ _ d0
      go_upto_region 12 with fail
      rw [← HW5.out, ← HG.out]
      clear d0 d1 d2 d3 d4 d5 had lwc
      have q1 := (Q5.out.cell 1).trans rfl; have q2 := (Q5.out.cell 2).trans rfl; have q3 := (Q5.out.cell 3).trans rfl; have q4 := (Q5.out.cell 4).trans rfl; have q5 := (Q5.out.cell 5).trans rfl
      simp only [List.getElem?_toArray, List.getElem?_cons_succ, List.getElem?_cons_zero] at q1 q2 q3 q4 q5
      have lq := Q5.out.lt
      obtain ⟨k0, k1, k2, k3, k4, k5, k6, k7, k8, k9, k10, _⟩ := lrs_of HO1 L5.out
      have l1 := L5.out.bo.lt
      go_wp2_with fail
      refine (CF.out W5 PW5.out).mono ?_
      rintro e W6 ⟨rfl, b6⟩
      have PW6 := Lib.hid (PW5.out.below b6)
      have L6 := Lib.hid (L5.out.next b6)
      have Q6 := Lib.hid (Q5.out.below b6 Q5.out.lt)
      clear b6 PW5 L5 Q5 CF q1 q2 q3 q4 q5 lq k0 k1 k2 k3 k4 k5 k6 k7 k8 k9 k10 l1 w1 w2 m1 m2 m3 m4
      have q1 := (Q6.out.cell 1).trans rfl; have q2 := (Q6.out.cell 2).trans rfl; have q3 := (Q6.out.cell 3).trans rfl; have q4 := (Q6.out.cell 4).trans rfl; have q5 := (Q6.out.cell 5).trans rfl
      simp only [List.getElem?_toArray, List.getElem?_cons_succ, List.getElem?_cons_zero] at q1 q2 q3 q4 q5
      have lq := Q6.out.lt
      generalize pcN O0 = n at PW6 hn PO3 ⊢
      generalize wrN O0 = m at PW6 hmw ⊢
      generalize pcF O0 = P at PW6 PO3 ⊢
      generalize wrF O0 = K at PW6 ⊢
      go_wp2_with fail
      go_loopw [16] (fun v9 wr => ∃ i q : Nat, i ≤ n ∧ v9 = .int .i64 i ∧ wr = W6.drewN q) (fun v9 _ => n - (intOf v9).toNat)
      case atStart => exact ⟨0, 0, Nat.zero_le _, rfl, rfl⟩
      case round =>
        obtain ⟨i, q, hi, rfl, rfl⟩ := hrel
        by_cases hin : i < n
        · have e1 : decide ((i : Int) < (n : Int)) = true := by simp; omega
          have e2 : (i : Int) < (n : Int) := by omega
          obtain ⟨ad', hAp, had, d0, d1, d2, d3, d4⟩ := PW6.out.piece hin
          obtain ⟨p1, p2, p3, p4, p5⟩ := PO3.out i hin
          have hlast : i = 0 ∨ ∃ i1 t', i = i1 + 1 ∧ W6.cell? ⟨(ad'.add (i1 * 5)).block, (ad'.add (i1 * 5)).off + 1, none⟩ = some (.int .u64 ((t' : Nat) : Int)) ∧ t' ≤ (P i).f := by
            rcases Nat.eq_zero_or_pos i with h0 | h0
            · exact .inl h0
            · obtain ⟨i1, rfl⟩ : ∃ i1, i = i1 + 1 := ⟨i - 1, by omega⟩
              obtain ⟨ad2, hAp2, _, _, c1, _⟩ := PW6.out.piece (i := i1) (by omega)
              rw [hAp] at hAp2
              injection hAp2 with hAp2
              subst hAp2
              exact .inr ⟨i1, _, rfl, c1, p4 h0⟩
          subst hAp
          clear p4
          generalize P i = p at d0 d1 d2 d3 d4 p1 p2 p3 p5 hlast
          obtain ⟨f, t, pr, pi, po⟩ := p
          dsimp only at d0 d1 d2 d3 d4 p1 p2 p3 p5 hlast
          have x1 : (f : Int).tmod 4096 = 0 := by rw [Int.tmod_eq_emod_of_nonneg (by omega)]; omega
          have x2 : (t : Int).tmod 4096 = 0 := by rw [Int.tmod_eq_emod_of_nonneg (by omega)]; omega
          have x1' : (f : Int) % 4096 = 0 := by omega
          have x2' : (t : Int) % 4096 = 0 := by omega
          have x3 : decide ((t : Int) ≤ (f : Int)) = false := by simp; omega
          have x3n : decide (t ≤ f) = false := by simp; omega
          have HL := Lib.hid hlast
          have P5 := Lib.hid p5
          clear p1 p2 p3 hlast p5
          go_upto_region 22 with fail
          go_cut [137] from 91 to 136 (fun v wx => v = .bool false ∧ ∃ q' : Nat, wx = W6.drewN q')
          case first =>
            rcases HL.out with h0 | ⟨i1, t', h1, c1, h2⟩
            · have y1 : decide ((0 : Int) < (i : Int)) = false := by simp; omega
              have y1n : decide (0 < i) = false := by simp; omega
              clear h0
              go_wp2_with fail
              go_quiet (fail)
              go_wp2_with fail
              go_meet
              exact ⟨rfl, _, drewN_drewN _ _ _⟩
            · have y1 : decide ((0 : Int) < (i : Int)) = true := by simp; omega
              have y1n : decide (0 < i) = true := by simp; omega
              have y2 : IntKind.i64.wrap ((i : Int) - 1) = (i1 : Int) := by rw [show (i : Int) - 1 = (i1 : Int) by omega]; exact IntWalk.i64_in _ (by omega)
              have y3 : (i1 : Int) < (n : Int) := by omega
              have y4 : (0 : Int) ≤ (i1 : Int) := by omega
              have y5 : decide ((f : Int) < (t' : Int)) = false := by simp; omega
              have y5n : decide (f < t') = false := by simp; omega
              have y6 : i1 < n := by omega
              clear h1 h2
              go_wp2_with fail
              go_quiet (fail)
              go_wp2_with fail
              go_meet
              exact ⟨rfl, _, drewN_drewN _ _ _⟩
          case rest =>
          obtain ⟨rfl, q', rfl⟩ := hcut
          clear x1 x2 x1' x2' x3 x3n HL
          by_cases h1 : f ≤ a
          · have t1 : decide ((f : Int) ≤ (a : Int)) = true := by simp; omega
            have t1n : decide (f ≤ a) = true := by simp; omega
            by_cases h2 : a < t
            · have t2 : decide ((a : Int) < (t : Int)) = true := by simp; omega
              have t2n : decide (a < t) = true := by simp; omega
              obtain rfl : pr = fl := P5.out (by unfold hitP; simp; omega)
              have t3 : ((pr : Int) != (pr : Int)) = false := by simp
              clear h1 h2
              go_wp2_with fail
              go_quiet (fail)
              go_wp2_with fail
              go_roundw
              case rel => exact ⟨i + 1, _, by omega, by go_num, rfl⟩
              case measure => simp [intOf]; omega
            · have t2 : decide ((a : Int) < (t : Int)) = false := by simp; omega
              have t2n : decide (a < t) = false := by simp; omega
              clear h1 h2
              go_wp2_with fail
              go_quiet (fail)
              go_wp2_with fail
              go_roundw
              case rel => exact ⟨i + 1, _, by omega, by go_num, rfl⟩
              case measure => simp [intOf]; omega
          · have t1 : decide ((f : Int) ≤ (a : Int)) = false := by simp; omega
            have t1n : decide (f ≤ a) = false := by simp; omega
            clear h1
            go_wp2_with fail
            go_quiet (fail)
            go_wp2_with fail
            go_roundw
            case rel => exact ⟨i + 1, _, by omega, by go_num, rfl⟩
            case measure => simp [intOf]; omega
        · obtain rfl : i = n := by omega
          have e1 : decide ((i : Int) < (i : Int)) = false := by simp
          have HAT2 := HAT.out
          unfold atS at HAT2
          dsimp only at HAT2
          by_cases hkf : k < fsz
          · have t1 : decide ((k : Int) < (fsz : Int)) = true := by simp; omega
            have t1n : decide (k < fsz) = true := by simp; omega
            rw [if_pos hkf] at HAT2
            obtain ⟨z, hz⟩ : ∃ z, z = off + k := ⟨_, rfl⟩
            rw [← hz] at HAT2
            have w1 : IntKind.u64.wrap ((off : Int) + (k : Int)) = (z : Int) := wrap_sum hz (by unfold M; omega)
            have w2 : IntKind.i64.wrap (z : Int) = (z : Int) := IntWalk.i64_in _ (by omega)
            have t2 : ((z : Int) == (z : Int)) = true := by simp
            subst HAT2
            clear hz hkf
            go_wp2_with fail
            refine (works_any _).mono ?_
            rintro e w7 ⟨rfl, b7⟩
            have B7 := Lib.hid ((below_drewN L6.out.bl q).trans (b7.mono (below_drewN L6.out.bl q).size))
            clear b7
            go_wp2_with fail
            go_ret
            exact ⟨rfl, B7.out⟩
          · have t1 : decide ((k : Int) < (fsz : Int)) = false := by simp; omega
            have t1n : decide (k < fsz) = false := by simp; omega
            rw [if_neg hkf] at HAT2
            subst HAT2
            clear hkf
            go_wp2_with fail
            refine (works_any _).mono ?_
            rintro e w7 ⟨rfl, b7⟩
            have B7 := Lib.hid ((below_drewN L6.out.bl q).trans (b7.mono (below_drewN L6.out.bl q).size))
            clear b7
            go_wp2_with fail
            go_ret
            exact ⟨rfl, B7.out⟩
    · rw [hE, (okE_one hE).1, (okE_one hE).2]
      have B3 := Lib.hid L3.out.bl
      clear PW3 L3
      go_wp2_with fail
      refine (works_any _).mono ?_
      rintro e w7 ⟨rfl, b7⟩
      have B7 := Lib.hid (B3.out.trans (b7.mono B3.out.size))
      clear b7
      go_wp2_with fail
      go_ret
      exact ⟨rfl, B7.out⟩
end Go.Proofs.Yticnmgdflkipeaa
