import Derived.Test.YtlenjpgkmikgpaaLZ11
namespace Go.Proofs.Ytlenjpgkmikgpaa.Lay
open Go.RowKit Go.Shelf Go.Hos
set_option linter.unusedVariables false
set_option maxRecDepth 100000 in
set_option maxHeartbeats 8000000 in
theorem rright3 (ino : Int) (base : Nat) (en ph : Int) (gA nA sA rA : Option Addr) (gM gQ nM nQ sM sQ rM rQ : Nat) (so rn : ByteArray) (sg : Nat → SegD) (w : World) (hS : StR w w.heap.size 6 gA gM (segC sg)) (hf : ∀ k, (sg k).fits) (h0 : 0 ≤ ino) (h8 : gM ≤ 8) :
    Calls Try.prog 21 #[.agg #[.int .i64 ino, .int .u64 base, .int .u16 3, .int .u64 en, .int .u64 ph, .slice gA gM gQ, .slice nA nM nQ, .string so, .string rn, .slice sA sM sQ, .slice rA rM rQ]] w fun e W' => e = .returned (.bool ((stR 4294967296 (lds sg gM)).1 && !(lds sg gM).isEmpty)) ∧ Below w.heap.size w W' := by
  have HS := Lib.hid hS; have HF := Lib.hid hf
  clear hS hf
  have g1 : decide (ino < 0) = false := by simp; omega
  have g2 : decide ((8 : Int) < (gM : Int)) = false := by simp; omega
  have g3 : ¬ ino < 0 := by omega
  have g4 : ¬ (8 : Int) < (gM : Int) := by omega
  obtain ⟨w0, hw0⟩ : ∃ x, x = w.alloc (.cells #[.int .i64 ino, .int .u64 base, .int .u16 3, .int .u64 en, .int .u64 ph, .slice gA gM gQ, .slice nA nM nQ, .string so, .string rn, .slice sA sM sQ, .slice rA rM rQ] 50) := ⟨_, rfl⟩
  have B0 : Hid (Below w.heap.size w w0) := by rw [hw0]; exact Lib.hid ((Below.refl _ _).alloc (Nat.le_refl _) _)
  have c0 : w0.cell? ⟨w.heap.size, 0, none⟩ = some (.int .i64 ino) := by rw [hw0]; exact ((Blk.new _ _ _).cell 0).trans rfl
  have K0 : Hid (Blk w0 w.heap.size 50 #[.int .i64 ino, .int .u64 base, .int .u16 3, .int .u64 en, .int .u64 ph, .slice gA gM gQ, .slice nA nM nQ, .string so, .string rn, .slice sA sM sQ, .slice rA rM rQ]) := by rw [hw0]; exact Lib.hid (Blk.new _ _ _)
  obtain ⟨l, hl⟩ : ∃ l, l = lds sg gM := ⟨_, rfl⟩
  have HLL := Lib.hid hl
  have hll : l.length ≤ 8 := by rw [hl]; exact Nat.le_trans (lds_len _ _) h8
  obtain ⟨n, hn⟩ : ∃ n, n = l.length := ⟨_, rfl⟩
  have HN := Lib.hid hn
  have hn8 : n ≤ 8 := by omega
  clear hl hll hn c0
  go_enter Try.func21, Try.ntmps21
  go_wp2_with fail
  rw [← hw0]
  clear hw0
  refine (rloads_any ⟨ino, base, 3, en, ph, gA, gM, gQ, nA, nM, nQ, so, rn, sA, sM, sQ, rA, rM, rQ, sg⟩ w0 ((HS.out.below B0.out).more B0.out.size) (by dsimp only; omega)).mono ?_
  dsimp only
  rw [← HLL.out, ← HN.out]
  rintro e w2 ⟨A, c, rfl, ow, bl⟩
  have R2 : Hid (StR w2 w2.heap.size 6 A n (segC (fnS l))) := Lib.hid (by have := ow; rw [HN.out] at this; rw [HN.out]; exact row_fnS this)
  have B2 : Hid (Below w.heap.size w w2) := Lib.hid (B0.out.trans (bl.mono B0.out.size))
  clear ow bl
  go_wp2_with fail
  go_loopw [5] (fun v5 wr => ∃ i : Nat, i ≤ n ∧ v5 = .int .i64 i ∧ Hid (Below w2.heap.size w2 wr) ∧ Hid ((stR 4294967296 (l.take i)).1 = true)) (fun v5 _ => n - (intOf v5).toNat)
  case atStart => exact ⟨0, Nat.zero_le _, rfl, Lib.hid (Below.refl _ _), Lib.hid rfl⟩
  case round =>
    obtain ⟨i, hi, rfl, bl, ok⟩ := hrel
    by_cases hin : i < n
    · have e1 : decide ((i : Int) < (n : Int)) = true := by simp; omega
      have e2 : (i : Int) < (n : Int) := by omega
      have hil : i < l.length := by have := HN.out; omega
      have HIL := Lib.hid hil
      obtain ⟨ad, rfl, had, d0, d1, d2, d3, d4, d5⟩ := seg_cells (R2.out.below bl.out) hin
      obtain ⟨s, hs⟩ : ∃ s, s = fnS l i := ⟨_, rfl⟩
      have hfit : (fnS l i).fits := by
        have hx := HLL.out
        rw [hx] at hil ⊢
        exact fnS_fits HF.out hil
      rw [← hs] at d0 d1 d2 d3 d4 d5 hfit
      have HSS := Lib.hid hs
      obtain ⟨low, hlow⟩ : ∃ y, y = (stR 4294967296 (l.take i)).2 := ⟨_, rfl⟩
      have HLO := Lib.hid hlow
      obtain ⟨kd, fl, off, addr, fsz, msz⟩ := s
      obtain ⟨m1, m2, m3, m4⟩ := hfit
      dsimp only at d0 d1 d2 d3 d4 d5 m1 m2 m3 m4
      have l2 := World.block_lt_of_cell? _ _ d0
      have BAD : okS 4294967296 low ⟨kd, fl, off, addr, fsz, msz⟩ = false → ((stR 4294967296 (lds sg gM)).1 && !(lds sg gM).isEmpty) = false := fun h => by
        rw [← HLL.out, stR_bad HIL.out (by rw [← HLO.out, ← HSS.out]; exact h)]; rfl
      have HBAD := Lib.hid BAD
      have hzr : w.heap.size ≤ wr.heap.size := by have := B2.out.size; have := bl.out.size; omega
      have END : Hid (Below w.heap.size w (wr.alloc (.cells #[.int .u32 kd, .int .u8 fl, .int .u64 off, .int .u64 addr, .int .u64 fsz, .int .u64 msz] 67))) := Lib.hid ((B2.out.trans (bl.out.mono B2.out.size)).alloc hzr _)
      have NXB : Hid (Below w2.heap.size w2 (wr.alloc (.cells #[.int .u32 kd, .int .u8 fl, .int .u64 off, .int .u64 addr, .int .u64 fsz, .int .u64 msz] 67))) := Lib.hid (bl.out.alloc bl.out.size _)
      obtain ⟨ro, hro1⟩ : ∃ y, y = off % 4096 := ⟨_, rfl⟩
      obtain ⟨ra, hra1⟩ : ∃ y, y = addr % 4096 := ⟨_, rfl⟩
      have tr1 : (off : Int).tmod 4096 = (ro : Int) := by rw [Int.tmod_eq_emod_of_nonneg (by omega)]; omega
      have tr2 : (addr : Int).tmod 4096 = (ra : Int) := by rw [Int.tmod_eq_emod_of_nonneg (by omega)]; omega
      have tr3 : (off : Int) % 4096 = (ro : Int) := by omega
      have tr4 : (addr : Int) % 4096 = (ra : Int) := by omega
      have HRO := Lib.hid hro1; have HRA := Lib.hid hra1
      obtain ⟨dd, hdd⟩ : ∃ y, y = dn addr := ⟨_, rfl⟩
      have HDD := Lib.hid hdd
      obtain ⟨sm, hsm⟩ : ∃ y, y = addr + msz := ⟨_, rfl⟩
      have HSM := Lib.hid hsm
      obtain ⟨sf, hsf⟩ : ∃ y, y = off + fsz := ⟨_, rfl⟩
      have HSF := Lib.hid hsf
      have STEP : Hid (stR 4294967296 (l.take (i + 1)) = (okS 4294967296 low ⟨kd, fl, off, addr, fsz, msz⟩, upv (addr + msz))) := Lib.hid (by rw [stR_take HIL.out, ok.out, ← HLO.out, ← HSS.out, Bool.true_and])
      clear hs hlow hro1 hra1 hdd hsm hsf BAD hil
      by_cases cA : 7 < fl
      · 
        have HNO := Lib.hid (okS_no (en := 4294967296) (low := low) (s := ⟨kd, fl, off, addr, fsz, msz⟩) (by dsimp only; omega))
        have fA : decide ((7 : Int) < (fl : Int)) = true := by simp; omega
        clear cA
        go_wp2_with fail
        go_ret
        exact ⟨by rw [HBAD.out HNO.out]; rfl, END.out⟩
      have fA : decide ((7 : Int) < (fl : Int)) = false := by simp; omega
      by_cases cB : msz = 0
      · 
        have HNO := Lib.hid (okS_no (en := 4294967296) (low := low) (s := ⟨kd, fl, off, addr, fsz, msz⟩) (by dsimp only; omega))
        have fB : ((msz : Int) == 0) = true := by simp; omega
        clear cA cB
        go_wp2_with fail
        go_ret
        exact ⟨by rw [HBAD.out HNO.out]; rfl, END.out⟩
      have fB : ((msz : Int) == 0) = false := by simp; omega
      by_cases cC : msz < fsz
      · 
        have HNO := Lib.hid (okS_no (en := 4294967296) (low := low) (s := ⟨kd, fl, off, addr, fsz, msz⟩) (by dsimp only; omega))
        have fC : decide (msz < fsz) = true := by simp; omega
        have fC2 : decide ((msz : Int) < (fsz : Int)) = true := by simp; omega
        clear cA cB cC
        go_wp2_with fail
        go_ret
        exact ⟨by rw [HBAD.out HNO.out]; rfl, END.out⟩
      have fC : decide (msz < fsz) = false := by simp; omega
      have fC2 : decide ((msz : Int) < (fsz : Int)) = false := by simp; omega
      by_cases cD : 65536 < off
      · 
        have HNO := Lib.hid (okS_no (en := 4294967296) (low := low) (s := ⟨kd, fl, off, addr, fsz, msz⟩) (by dsimp only; omega))
        have fD : decide ((65536 : Int) < (off : Int)) = true := by simp; omega
        clear cA cB cC cD
        go_wp2_with fail
        go_ret
        exact ⟨by rw [HBAD.out HNO.out]; rfl, END.out⟩
      have fD : decide ((65536 : Int) < (off : Int)) = false := by simp; omega
      by_cases cE : 65536 < fsz
      · 
        have HNO := Lib.hid (okS_no (en := 4294967296) (low := low) (s := ⟨kd, fl, off, addr, fsz, msz⟩) (by dsimp only; omega))
        have fE : decide ((65536 : Int) < (fsz : Int)) = true := by simp; omega
        clear cA cB cC cD cE
        go_wp2_with fail
        go_ret
        exact ⟨by rw [HBAD.out HNO.out]; rfl, END.out⟩
      have fE : decide ((65536 : Int) < (fsz : Int)) = false := by simp; omega
      have wsf : IntKind.u64.wrap ((off : Int) + (fsz : Int)) = (sf : Int) := by
        rw [show (off : Int) + (fsz : Int) = ((sf : Nat) : Int) by have := HSF.out; omega]; exact wrap_small (by have := HSF.out; unfold M; omega)
      by_cases cF : 65536 < off + fsz
      · 
        have HNO := Lib.hid (okS_no (en := 4294967296) (low := low) (s := ⟨kd, fl, off, addr, fsz, msz⟩) (by dsimp only; omega))
        have fF : decide ((65536 : Int) < (sf : Int)) = true := by have := HSF.out; simp; omega
        clear cA cB cC cD cE cF
        go_wp2_with fail
        go_ret
        exact ⟨by rw [HBAD.out HNO.out]; rfl, END.out⟩
      have fF : decide ((65536 : Int) < (sf : Int)) = false := by have := HSF.out; simp; omega
      by_cases cG : ¬ off % 4096 = addr % 4096
      · 
        have HNO := Lib.hid (okS_no (en := 4294967296) (low := low) (s := ⟨kd, fl, off, addr, fsz, msz⟩) (by dsimp only; omega))
        have fG : ((ro : Int) != (ra : Int)) = true := by have := HRO.out; have := HRA.out; simp; omega
        have fG2 : ((ro : Int) == (ra : Int)) = false := by have := HRO.out; have := HRA.out; simp; omega
        clear cA cB cC cD cE cF cG
        go_wp2_with fail
        go_ret
        exact ⟨by rw [HBAD.out HNO.out]; rfl, END.out⟩
      have cG := Decidable.not_not.1 cG
      have fG : ((ro : Int) != (ra : Int)) = false := by have := HRO.out; have := HRA.out; simp; omega
      have fG2 : ((ro : Int) == (ra : Int)) = true := by have := HRO.out; have := HRA.out; simp; omega
      by_cases cH : 4294967296 < addr
      · 
        have HNO := Lib.hid (okS_no (en := 4294967296) (low := low) (s := ⟨kd, fl, off, addr, fsz, msz⟩) (by dsimp only; omega))
        have fH : decide ((4294967296 : Int) < (addr : Int)) = true := by simp; omega
        clear cA cB cC cD cE cF cG cH
        go_wp2_with fail
        go_ret
        exact ⟨by rw [HBAD.out HNO.out]; rfl, END.out⟩
      have fH : decide ((4294967296 : Int) < (addr : Int)) = false := by simp; omega
      by_cases cI : 4294967296 < msz
      · 
        have HNO := Lib.hid (okS_no (en := 4294967296) (low := low) (s := ⟨kd, fl, off, addr, fsz, msz⟩) (by dsimp only; omega))
        have fI : decide ((4294967296 : Int) < (msz : Int)) = true := by simp; omega
        clear cA cB cC cD cE cF cG cH cI
        go_wp2_with fail
        go_ret
        exact ⟨by rw [HBAD.out HNO.out]; rfl, END.out⟩
      have fI : decide ((4294967296 : Int) < (msz : Int)) = false := by simp; omega
      have wsm : IntKind.u64.wrap ((addr : Int) + (msz : Int)) = (sm : Int) := by
        rw [show (addr : Int) + (msz : Int) = ((sm : Nat) : Int) by have := HSM.out; omega]; exact wrap_small (by have := HSM.out; unfold M; omega)
      by_cases cJ : 4294967296 < addr + msz
      · 
        have HNO := Lib.hid (okS_no (en := 4294967296) (low := low) (s := ⟨kd, fl, off, addr, fsz, msz⟩) (by dsimp only; omega))
        have fJ : decide ((4294967296 : Int) < (sm : Int)) = true := by have := HSM.out; simp; omega
        clear cA cB cC cD cE cF cG cH cI cJ
        go_wp2_with fail
        go_ret
        exact ⟨by rw [HBAD.out HNO.out]; rfl, END.out⟩
      have fJ : decide ((4294967296 : Int) < (sm : Int)) = false := by have := HSM.out; simp; omega
      by_cases ci : i = 0
      · have fi : decide ((0 : Int) < (i : Int)) = false := by simp; omega
        have low0 : low = 0 := by have := HLO.out; rw [ci] at this; simpa [stR] using this
        have YES := Lib.hid (okS_yes (en := 4294967296) (low := low) (s := ⟨kd, fl, off, addr, fsz, msz⟩) (by dsimp only; omega))
        have fi2 : decide (0 < i) = false := by simp; omega
        have OK2 : Hid ((stR 4294967296 (l.take (i + 1))).1 = true) := Lib.hid (by rw [STEP.out]; exact YES.out)
        clear ci low0 cA cB cC cD cE cF cG cH cI cJ
        go_wp2_with fail
        go_quiet (fail)
        go_wp2_with fail
        go_roundw
        case rel => exact ⟨i + 1, by omega, by go_num, Lib.hid (below_drewN NXB.out _), OK2⟩
        case measure => simp [intOf]; omega
      · have fi : decide ((0 : Int) < (i : Int)) = true := by simp; omega
        have fi2 : decide (0 < i) = true := by simp; omega
        obtain ⟨i1, hi1⟩ : ∃ y, y = i - 1 := ⟨_, rfl⟩
        have w1 : IntKind.i64.wrap ((i : Int) - 1) = (i1 : Int) := by rw [show (i : Int) - 1 = (i1 : Int) by omega]; exact IntWalk.i64_in _ (by omega)
        have w2' : (i : Int) - 1 = (i1 : Int) := by omega
        have w3 : IntKind.i64.wrap (i1 : Int) = (i1 : Int) := IntWalk.i64_in _ (by omega)
        have hi1n : i1 < n := by omega
        have p1 : (i1 : Int) < (n : Int) := by omega
        have p2 : (0 : Int) ≤ (i1 : Int) := by omega
        obtain ⟨ad', ead, _, _, _, _, k3, _, k5⟩ := seg_cells (R2.out.below bl.out) hi1n
        injection ead with ead
        subst ead
        have hil1 : i1 < l.length := by have := HN.out; omega
        have st1 := stR_take (en := 4294967296) hil1
        rw [show i1 + 1 = i by omega] at st1
        have ok1 := ok.out
        rw [st1, Bool.and_eq_true] at ok1
        have ok2 := (okS_iff.1 ok1.2).2.2.2.2.2.1
        obtain ⟨addr1, ha1⟩ : ∃ y, y = (fnS l i1).addr := ⟨_, rfl⟩
        obtain ⟨msz1, hm1⟩ : ∃ y, y = (fnS l i1).msz := ⟨_, rfl⟩
        have lowe : low = upv (addr1 + msz1) := by have := HLO.out; rw [st1] at this; rw [this, ha1, hm1]
        have l3 := World.block_lt_of_cell? _ _ k3
        rw [← ha1] at k3
        rw [← hm1] at k5
        rw [← ha1, ← hm1] at ok2
        obtain ⟨sm1, hsm1⟩ : ∃ y, y = addr1 + msz1 := ⟨_, rfl⟩
        have HS1 : Hid (sm1 + 4096 < M) := Lib.hid (by rw [hsm1]; unfold M; omega)
        have wsm1 : IntKind.u64.wrap ((addr1 : Int) + (msz1 : Int)) = (sm1 : Int) := by
          rw [show (addr1 : Int) + (msz1 : Int) = ((sm1 : Nat) : Int) by omega]; exact wrap_small (by have := HS1.out; omega)
        rw [← hsm1] at lowe
        have HU1 := Lib.hid lowe
        have RD : Hid (∀ W : World, Calls Try.prog 29 #[.int .u64 addr] W fun e w' => e = .returned (.int .u64 dd) ∧ w' = W) := Lib.hid fun W => by
          rw [HDD.out]; exact (rdown_any addr W m2).mono fun _ _ h => ⟨h.1, h.2.symm⟩
        have RU : Hid (∀ W : World, Calls Try.prog 30 #[.int .u64 sm1] W fun e w' => e = .returned (.int .u64 low) ∧ w' = W) := Lib.hid fun W => by
          rw [HU1.out]; exact (rup_any sm1 W HS1.out).mono fun _ _ h => ⟨h.1, h.2.symm⟩
        clear hi1 st1 ok1 ok2 ha1 hm1 lowe hsm1 ci
        by_cases cK : dn addr < low
        · have HNO := Lib.hid (okS_no (en := 4294967296) (low := low) (s := ⟨kd, fl, off, addr, fsz, msz⟩) (by dsimp only; omega))
          have fK : decide (dd < low) = true := by rw [← HDD.out] at cK; simp; omega
          have fK2 : decide ((dd : Int) < (low : Int)) = true := by rw [← HDD.out] at cK; simp; omega
          clear cA cB cC cD cE cF cG cH cI cJ cK
          go_wp2_with fail
          go_quiet ((first | (go_at_call 29; exact Calls.quiet_of_same (RD.out _)) | (go_at_call 30; exact Calls.quiet_of_same (RU.out _))))
          go_wp2_with fail
          go_ret
          exact ⟨by rw [HBAD.out HNO.out]; rfl, below_drewN END.out _⟩
        · have YES := Lib.hid (okS_yes (en := 4294967296) (low := low) (s := ⟨kd, fl, off, addr, fsz, msz⟩) (by dsimp only; omega))
          have fK : decide (dd < low) = false := by rw [← HDD.out] at cK; simp; omega
          have fK2 : decide ((dd : Int) < (low : Int)) = false := by rw [← HDD.out] at cK; simp; omega
          have OK2 : Hid ((stR 4294967296 (l.take (i + 1))).1 = true) := Lib.hid (by rw [STEP.out]; exact YES.out)
          clear cA cB cC cD cE cF cG cH cI cJ cK
          go_wp2_with fail
          go_quiet ((first | (go_at_call 29; exact Calls.quiet_of_same (RD.out _)) | (go_at_call 30; exact Calls.quiet_of_same (RU.out _))))
          go_wp2_with fail
          go_roundw
          case rel => exact ⟨i + 1, by omega, by go_num, Lib.hid (below_drewN NXB.out _), OK2⟩
          case measure => simp [intOf]; omega
    · obtain rfl : i = n := by omega
      have d1 : decide ((i : Int) < (i : Int)) = false := by simp
      have ok' := ok.out
      rw [HN.out, List.take_length] at ok'
      have RES : Hid (((stR 4294967296 (lds sg gM)).1 && !(lds sg gM).isEmpty) = decide (0 < i)) := Lib.hid (by
        rw [← HLL.out, ok', Bool.true_and, HN.out]
        cases l <;> simp)
      have B3 : Hid (Below w.heap.size w wr) := Lib.hid (B2.out.trans (bl.out.mono B2.out.size))
      clear ok' ok
      by_cases hi0 : 0 < i
      · have f1 : decide ((0 : Int) < (i : Int)) = true := by simp; omega
        have RES2 : Hid (((stR 4294967296 (lds sg gM)).1 && !(lds sg gM).isEmpty) = true) := Lib.hid (by rw [RES.out]; exact decide_eq_true hi0)
        go_wp2_with fail
        go_ret
        exact ⟨by rw [RES2.out]; rfl, B3.out⟩
      · have f1 : decide ((0 : Int) < (i : Int)) = false := by simp; omega
        have RES2 : Hid (((stR 4294967296 (lds sg gM)).1 && !(lds sg gM).isEmpty) = false) := Lib.hid (by rw [RES.out]; exact decide_eq_false hi0)
        go_wp2_with fail
        go_ret
        exact ⟨by rw [RES2.out]; rfl, B3.out⟩
end Go.Proofs.Ytlenjpgkmikgpaa.Lay
