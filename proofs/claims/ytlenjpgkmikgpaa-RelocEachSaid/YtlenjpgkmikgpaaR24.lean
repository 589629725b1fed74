import Derived.Test.YtlenjpgkmikgpaaR23
import Derived.Lib.QuietBelow
namespace Go.Proofs.Ytlenjpgkmikgpaa
open Go.RowKit Go.Shelf Go.Hos Go.Sort
set_option linter.unusedVariables false
/-! the walk of RelocEach -/
theorem oneO_fits {O : Nat → ObjD} {i g : Nat} {r : RelD} (h : ∀ i k, ((O i).sg k).fits) (j k : Nat) : ((oneO O i g r j).sg k).fits := by
  unfold oneO; split <;> exact h j k
theorem oneO_fitsR {O : Nat → ObjD} {i g : Nat} {r : RelD} (h : fitsR O) (hr : r.fits) : fitsR (oneO O i g r) := fun j k => by
  unfold oneO
  split
  · exact hr
  · exact h j k
theorem add0 (a : Addr) : a.add (0 * 3) = a := by unfold Addr.add; simp
set_option maxRecDepth 100000 in
set_option maxHeartbeats 16000000 in
theorem law5_any (A : Option Addr) (m c : Nat) (O : Nat → ObjD) (oi nr : Int) (w : World) (hR : ObjR w w.heap.size A m O) (hk : ∀ i, (O i).ok) (hz : ∀ i, (O i).room) (h1 : -9223372036854775808 ≤ oi) (h2 : oi ≤ 9223372036854775807) (h3 : -9223372036854775808 ≤ nr) (h4 : nr ≤ 9223372036854775807) :
    Calls Try.prog 5 #[.slice A m c, .int .i64 oi, .int .i64 nr] w fun e W' => e = .returned (.bool true) ∧ Below w.heap.size w W' := by
  have hmm : maxLen = 9223372036854775807 := by simp [maxLen]
  have H := Lib.hid hR; have HK := Lib.hid hk; have HZ := Lib.hid hz
  clear hR hk hz h1 h2 h3 h4
  go_enter Try.func5, Try.ntmps5
  go_wp2_with fail
  refine (vast_any A m c O w H.out fun i k => (HK.out i).nm k).mono ?_
  rintro e W1 ⟨b1, b, rfl, hb⟩
  have B1 := Lib.hid b1
  have HB := Lib.hid hb
  clear b1 hb
  cases b with
  | true =>
    go_wp2_with fail
    refine (works_any _).mono ?_
    rintro e W2 ⟨rfl, b2⟩
    have B2 := Lib.hid (B1.out.trans (b2.mono B1.out.size))
    clear b2
    go_wp2_with fail
    go_ret
    exact ⟨rfl, B2.out⟩
  | false =>
    have hm := HB.out rfl
    have HM := Lib.hid hm
    have hml : m ≤ maxLen := by omega
    clear hm
    go_wp2_with fail
    refine (twins_any A m c O W1 ((H.out.below B1.out).more B1.out.size) HM.out HZ.out).mono ?_
    rintro e W2 ⟨A2, c2, O2, rfl, tw⟩
    have B2 := Lib.hid (B1.out.trans (tw.bl.mono B1.out.size))
    have R2 := Lib.hid (tw.objs HZ.out)
    have AL := Lib.hid (show AlikeD O O2 from tw.al)
    have HF := Lib.hid (tw.sgf HK.out)
    clear tw
    obtain ⟨E, hE⟩ : ∃ E, E = patE O m := ⟨_, rfl⟩
    obtain ⟨N, hN⟩ : ∃ N, N = numP O m := ⟨_, rfl⟩
    have ROW2 : Hid (∀ (w W' : World) e (h : PaP w O2 m e W'), ∃ A c, e = .returned (.tuple #[.slice A N c, .int .i64 E]) ∧ Lay.StR W' W'.heap.size 3 A N (fun k => (patF O m k).cs) ∧ N ≤ maxLen ∧ Below w.heap.size w W') := Lib.hid fun w W' e h => by
      have := h.rows
      rw [AL.out.numP, AL.out.patE, AL.out.patF, ← hE, ← hN] at this
      exact this
    have HE := Lib.hid hE; have HN := Lib.hid hN
    clear hE hN
    go_wp2_with fail
    refine (patches_any A2 m c2 O2 W2 R2.out HF.out.1 HF.out.2).mono ?_
    rintro e W3 hp
    obtain ⟨A3, c3, rfl, s3, hNl, b3⟩ := ROW2.out _ _ _ hp
    have S3 := Lib.hid s3
    have B3 := Lib.hid (B2.out.trans (b3.mono B2.out.size))
    clear hp s3 b3 ROW2 R2 HF AL B2 B1 HB
    by_cases hE0 : E = 0
    · subst hE0
      have t1 : ((0 : Int) != 0) = false := by decide
      have PE := Lib.hid HE.out.symm
      have HM9 := (patE_ok HE.out.symm).2.1
      have NEQ := Lib.hid (show N = (ptO O m m).length by rw [HN.out]; unfold numP; rw [if_pos HE.out.symm])
      have EACH := Lib.hid (fun i k (hi : i < m) (hk : k < (O i).rM) => (show _ ∧ _ ∧ _ < N from by rw [HN.out]; exact each_ok HE.out.symm hi hk))
      clear HE
      go_wp2_with fail
      go_loopw [9, 10] (fun v9 v10 wr => ∃ i a : Nat, i ≤ m ∧ v10 = .int .i64 i ∧ v9 = .int .i64 a ∧ Hid (a = (ptO O m i).length ∧ Below W3.heap.size W3 wr)) (fun _ v10 _ => m - (intOf v10).toNat)
      case atStart => exact ⟨0, 0, Nat.zero_le _, rfl, rfl, Lib.hid ⟨rfl, Below.refl _ _⟩⟩
      case round =>
        obtain ⟨i, a, hi, rfl, rfl, hb⟩ := hrel
        by_cases him : i < m
        · have e1 : decide ((i : Int) < (m : Int)) = true := by simp; omega
          have e2 : (i : Int) < (m : Int) := by omega
          have EI := Lib.hid (fun k hk => EACH.out i k him hk)
          have ok := (patE_ok PE.out).1
          have OKi := okAll_at ok him
          unfold okR at OKi
          simp only [Bool.and_eq_true, decide_eq_true_eq] at OKi
          have h64 := OKi.1.2
          have HRI := Lib.hid (show (O i).gM ≤ 40 by have := gM8 OKi.1.1; show (O i).lay.gM ≤ 40; omega)
          have hsucc := Lib.hid (ptO_succ O m i)
          have CEL : Hid (∀ W, Below W3.heap.size W3 W → ObjR W W3.heap.size A m O) := Lib.hid fun W h => ((H.out.below (B3.out.trans (h.mono B3.out.size))).more B3.out.size)
          have HA := Lib.hid hb.out.1
          have HBW := Lib.hid hb.out.2
          clear ok OKi hb
          obtain ⟨rM, hrM⟩ : ∃ x, x = (O i).rM := ⟨_, rfl⟩
          have HRM := Lib.hid hrM
          rw [← hrM] at h64 hsucc EI
          clear hrM
          go_wp2_with fail
          clear e1 e2
          go_loopw [9, 11] (fun v9 v11 wr => ∃ k a1 : Nat, k ≤ rM ∧ v11 = .int .i64 k ∧ v9 = .int .i64 a1 ∧ Hid (a1 = a + k ∧ Below W3.heap.size W3 wr)) (fun _ v11 _ => rM - (intOf v11).toNat)
          case atStart => exact ⟨0, a, Nat.zero_le _, rfl, rfl, Lib.hid ⟨rfl, HBW.out⟩⟩
          case round =>
            clear HBW
            obtain ⟨k, at1, hk, rfl, rfl, hb⟩ := hrel
            have i2 : (i : Int) < (m : Int) := by omega
            by_cases hkm : k < rM
            · have f1 : decide ((k : Int) < (rM : Int)) = true := by simp; omega
              have f2 : (k : Int) < (rM : Int) := by omega
              have HI := Lib.hid (CEL.out wr hb.out.2)
              obtain ⟨ado, rfl, hado, c0, c1, c2, c3, c4, c5, c6, c7, c8, c9, c10⟩ := HI.out.lay.cells him
              obtain ⟨adr, har, hadr, d0, d1, d2, d3⟩ := rel_cells (HI.out.rl i him).1 (show k < (O i).rM by rw [← HRM.out]; exact hkm)
              dsimp only [ObjD.lay] at c0 c1 c2 c3 c4 c5 c6 c7 c8 c9 c10
              obtain ⟨hE2, hpF, hatN⟩ := EI.out k hkm
              rw [← HA.out, ← hb.out.1] at hpF hatN
              obtain ⟨q1, q2, q3, q4⟩ := one_ok hE2
              have hrf := (HK.out i).rl k
              obtain ⟨adp, rfl, hadp, x0, x1, x2⟩ := pat_cells (S3.out.below hb.out.2) hatN
              rw [hpF] at x0 x1 x2
              obtain ⟨p, hp⟩ : ∃ p, p = (oneP O m i ((O i).rl k)).1 := ⟨_, rfl⟩
              rw [← hp] at x0 x1 x2 q1 q2 q4
              have HP := Lib.hid hp
              obtain ⟨r, hr⟩ : ∃ r, r = (O i).rl k := ⟨_, rfl⟩
              rw [← hr] at d0 d1 d2 d3 hE2 q1 q2 q3 q4 hrf HP
              have HE2 := Lib.hid hE2
              have HRF := Lib.hid hrf
              obtain ⟨n, hn⟩ : ∃ n, n = szR r.ty := ⟨_, rfl⟩
              have hn8 : n ≤ 8 := by rw [hn]; unfold szR; repeat (first | omega | split)
              have LIE : Hid (∀ W, Below wr.heap.size wr W → Calls Try.prog 17 #[.agg (O i).lay.cs, .int .u64 r.off, .int .i64 n] W fun e W' => e = .returned (.bool true) ∧ Below W.heap.size W W') := Lib.hid fun W h => by
                have := rlies_any (O i).lay r.off n W (((HI.out.sg i him).1.below (h.mono hb.out.2.size)).more (Nat.le_trans hb.out.2.size h.size)) (HK.out i).sg HRI.out hrf.1 hn8
                rw [show lyB (O i).lay r.off n = true by rw [hn]; exact q3] at this
                exact this
              have SIZ : Hid (∀ W, Calls Try.prog 16 #[.int .u32 r.ty] W fun e W' => e = .returned (.int .i64 n) ∧ Below W.heap.size W W') := Lib.hid fun W => (rsize_any r.ty W).mono fun e W' h => ⟨by rw [hn]; exact h.1, by rw [← h.2]; exact Below.refl _ _⟩
              rw [← hn] at q2
              have WPA := Lib.hid (show IntKind.u64.wrap (((O i).base : Int) + (r.off : Int)) = p.at_ from q1.symm)
              have WQ8 := Lib.hid (show r.ty = 8 → p.v = IntKind.u64.wrap (((O i).base : Int) + IntKind.u64.wrap r.add) from q4)
              have HRR := Lib.hid hr
              obtain ⟨off, ty, sy, ad2⟩ := r
              obtain ⟨pa, ps, pv⟩ := p
              dsimp only at d0 d1 d2 d3 x0 x1 x2 q2 LIE SIZ WPA WQ8
              subst q2
              obtain ⟨W5, hW5⟩ : ∃ W, W = wr.alloc (.cells #[.int .u64 off, .int .u32 ty, .int .i64 sy, .int .i64 ad2] 53) := ⟨_, rfl⟩
              have B5 : Hid (Below wr.heap.size wr W5) := by rw [hW5]; exact Lib.hid ((Below.refl _ _).alloc (Nat.le_refl _) _)
              have K5 : Hid (Blk W5 wr.heap.size 53 #[.int .u64 off, .int .u32 ty, .int .i64 sy, .int .i64 ad2]) := by rw [hW5]; exact Lib.hid (Blk.new _ _ _)
              have HW5 := Lib.hid hW5
              have lo := World.block_lt_of_cell? _ _ c0
              have lr := World.block_lt_of_cell? _ _ d0
              have lp := World.block_lt_of_cell? _ _ x0
              rw [har] at c10
              have HAR := Lib.hid har
              clear hp hr hn hW5 q1 q3 q4 hrf hE2 hpF har hadr hado hadp
              have LIEx := Lib.hid LIE.out
              rw [(O i).lay_cs] at LIEx
              unfold ObjD.cs at LIEx
              clear LIE
              generalize (O i).ino = o0 at *
              generalize (O i).base = o1 at *
              generalize (O i).ty = o2 at *
              generalize (O i).en = o3 at *
              generalize (O i).ph = o4 at *
              generalize (O i).gA = o5 at *
              generalize (O i).gM = o6 at *
              generalize (O i).gQ = o7 at *
              generalize (O i).nA = o8 at *
              generalize (O i).nM = o9 at *
              generalize (O i).nQ = o10 at *
              generalize (O i).so = o11 at *
              generalize (O i).rn = o12 at *
              generalize (O i).sA = o13 at *
              generalize (O i).sM = o14 at *
              generalize (O i).sQ = o15 at *
              rw [← HRM.out] at c10 LIEx
              rw [HAR.out] at LIEx
              generalize (O i).rQ = o18 at *
              go_upto_region 14 with fail
              rw [← HW5.out]
              have P1 := Lib.hid (World.block_lt_of_cell? _ _ c0)
              have y0 := fun (d : Nat) (os : Array Obj) => cell_regrown ((B5.out.cell (p := ado.add (i * 11)) (by exact lo)).trans c0) d os
              have y1 := fun (d : Nat) (os : Array Obj) => cell_regrown ((B5.out.cell (p := ⟨(ado.add (i * 11)).block, (ado.add (i * 11)).off + 1, none⟩) (by exact lo)).trans c1) d os
              have y2 := fun (d : Nat) (os : Array Obj) => cell_regrown ((B5.out.cell (p := ⟨(ado.add (i * 11)).block, (ado.add (i * 11)).off + 2, none⟩) (by exact lo)).trans c2) d os
              have y3 := fun (d : Nat) (os : Array Obj) => cell_regrown ((B5.out.cell (p := ⟨(ado.add (i * 11)).block, (ado.add (i * 11)).off + 3, none⟩) (by exact lo)).trans c3) d os
              have y4 := fun (d : Nat) (os : Array Obj) => cell_regrown ((B5.out.cell (p := ⟨(ado.add (i * 11)).block, (ado.add (i * 11)).off + 4, none⟩) (by exact lo)).trans c4) d os
              have y5 := fun (d : Nat) (os : Array Obj) => cell_regrown ((B5.out.cell (p := ⟨(ado.add (i * 11)).block, (ado.add (i * 11)).off + 5, none⟩) (by exact lo)).trans c5) d os
              have y6 := fun (d : Nat) (os : Array Obj) => cell_regrown ((B5.out.cell (p := ⟨(ado.add (i * 11)).block, (ado.add (i * 11)).off + 6, none⟩) (by exact lo)).trans c6) d os
              have y7 := fun (d : Nat) (os : Array Obj) => cell_regrown ((B5.out.cell (p := ⟨(ado.add (i * 11)).block, (ado.add (i * 11)).off + 7, none⟩) (by exact lo)).trans c7) d os
              have y8 := fun (d : Nat) (os : Array Obj) => cell_regrown ((B5.out.cell (p := ⟨(ado.add (i * 11)).block, (ado.add (i * 11)).off + 8, none⟩) (by exact lo)).trans c8) d os
              have y9 := fun (d : Nat) (os : Array Obj) => cell_regrown ((B5.out.cell (p := ⟨(ado.add (i * 11)).block, (ado.add (i * 11)).off + 9, none⟩) (by exact lo)).trans c9) d os
              have y10 := fun (d : Nat) (os : Array Obj) => cell_regrown ((B5.out.cell (p := ⟨(ado.add (i * 11)).block, (ado.add (i * 11)).off + 10, none⟩) (by exact lo)).trans c10) d os
              have z0 := fun (d : Nat) (os : Array Obj) => cell_regrown ((B5.out.cell (p := adp.add (at1 * 3)) (by exact lp)).trans x0) d os
              have z1 := fun (d : Nat) (os : Array Obj) => cell_regrown ((B5.out.cell (p := ⟨(adp.add (at1 * 3)).block, (adp.add (at1 * 3)).off + 1, none⟩) (by exact lp)).trans x1) d os
              have b0 : ∀ d os, (grow (redrawn W5 d) os).cell? ⟨wr.heap.size, 0, none⟩ = some (.int .u64 off) := fun (d : Nat) (os : Array Obj) => cell_regrown ((K5.out.cell 0).trans rfl) d os
              have b1 : ∀ d os, (grow (redrawn W5 d) os).cell? ⟨wr.heap.size, 1, none⟩ = some (.int .u32 ty) := fun (d : Nat) (os : Array Obj) => cell_regrown ((K5.out.cell 1).trans rfl) d os
              have lo5 : (ado.add (i * 11)).block < W5.heap.size := Nat.lt_of_lt_of_le lo B5.out.size
              have lp5 : (adp.add (at1 * 3)).block < W5.heap.size := Nat.lt_of_lt_of_le lp B5.out.size
              have lb5 := K5.out.lt
              have X2 := Lib.hid (fun W (h : Below wr.heap.size wr W) => (h.cell (p := ⟨(adp.add (at1 * 3)).block, (adp.add (at1 * 3)).off + 2, none⟩) (by exact lp)).trans x2)
              have X1 := Lib.hid (fun W (h : Below wr.heap.size wr W) => (h.cell (p := ⟨(adp.add (at1 * 3)).block, (adp.add (at1 * 3)).off + 1, none⟩) (by exact lp)).trans x1)
              have X0 := Lib.hid (fun W (h : Below wr.heap.size wr W) => (h.cell (p := adp.add (at1 * 3)) (by exact lp)).trans x0)
              have C1 := Lib.hid (fun W (h : Below wr.heap.size wr W) => (h.cell (p := ⟨(ado.add (i * 11)).block, (ado.add (i * 11)).off + 1, none⟩) (by exact lo)).trans c1)
              have LP := Lib.hid lp; have LO := Lib.hid lo
              clear c0 c1 c2 c3 c4 c5 c6 c7 c8 c9 c10 d0 d1 d2 d3 x0 x1 x2 lo lr lp
              have LIEd : Hid (∀ d os, Calls Try.prog 17 #[.agg #[.int .i64 o0, .int .u64 o1, .int .u16 o2, .int .u64 o3, .int .u64 o4, .slice o5 o6 o7, .slice o8 o9 o10, .string o11, .string o12, .slice o13 o14 o15, .slice (some adr) rM o18], .int .u64 off, .int .i64 n] (grow (redrawn W5 d) os) fun e w' => e = .returned (.bool true) ∧ ∃ p : Regrown, w' = grow (redrawn W5 p.d) p.os) := Lib.hid fun d os => Calls.regrown_of (LIEx.out _ (B5.out.trans ((below_regrown W5 d os).mono B5.out.size)))
              have SIZd : Hid (∀ d os, Calls Try.prog 16 #[.int .u32 ty] (grow (redrawn W5 d) os) fun e w' => e = .returned (.int .i64 n) ∧ ∃ p : Regrown, w' = grow (redrawn W5 p.d) p.os) := Lib.hid fun d os => Calls.regrown_of (SIZ.out _)
              clear LIEx SIZ
              have wpa := WPA.out
              have g1 : decide ((N : Int) ≤ (at1 : Int)) = false := by simp; omega
              have g1' : (at1 : Int) < (N : Int) := by omega
              have g2 : (pa != pa) = false := by simp
              have g3 : ((n : Int) != (n : Int)) = false := by simp
              refine wp_region_quiet_below (by kernel_rfl) (by kernel_rfl) ?_
              repeat (quiet_step (first | (go_at_call 16; exact SIZd.out _ _) | (go_at_call 17; exact LIEd.out _ _)))
              refine wpQuiet_nil ?_
              intro _ hw'
              obtain ⟨⟨dq, osq⟩, hw''⟩ := hw'
              subst hw''
              have B6 : Hid (Below wr.heap.size wr (grow (redrawn W5 dq) osq)) := Lib.hid (B5.out.trans ((below_regrown W5 dq osq).mono B5.out.size))
              have K6 : Hid (Blk (grow (redrawn W5 dq) osq) wr.heap.size 53 #[.int .u64 off, .int .u32 ty, .int .i64 sy, .int .i64 ad2]) := Lib.hid (K5.out.below (below_regrown W5 dq osq) K5.out.lt)
              clear y0 y1 y2 y3 y4 y5 y6 y7 y8 y9 y10 z0 z1 b0 b1 lo5 lp5 lb5 LIEd SIZd g1 g2 g3 wpa B5 K5 HW5
              generalize grow (redrawn W5 dq) osq = W6 at *
              generalize hbx : wr.heap.size = bx at *
              have Q6 := Lib.hid (hb.out.2.trans (B6.out.mono (by rw [← hbx]; exact hb.out.2.size)))
              have BX := Lib.hid (show bx ≤ W6.heap.size by rw [← hbx]; exact B6.out.size)
              clear hbx
              by_cases hio : ((i : Int) == oi) = true
              · by_cases hkn : ((k : Int) == nr) = true
                · go_wp2_with fail
                  refine (twins_any (some ado) m c O W6 ((CEL.out W6 Q6.out).more Q6.out.size) HM.out HZ.out).mono ?_
                  rintro e W7 ⟨A7, c7, O7, rfl, tw⟩
                  obtain ⟨g7, cap7, hva, _, _⟩ := tw.ow.form (by omega)
                  obtain ⟨rfl, rfl⟩ : A7 = some ⟨g7, 0, none⟩ ∧ c7 = cap7 := by injection hva with h1 h2 h3; exact ⟨h1, h3⟩
                  obtain ⟨ad7, had7⟩ : ∃ x, x = (⟨g7, 0, none⟩ : Addr) := ⟨_, rfl⟩
                  have AL := Lib.hid (show AlikeD O O7 from tw.al)
                  have HF := Lib.hid (tw.sgf HK.out)
                  have N0 := Lib.hid tw.ns
                  have HAD := Lib.hid had7
                  clear tw hva
                  rw [← had7]
                  clear had7
                  go_wp2_with fail
                  go_loopw [14] (fun v14 wx => ∃ j : Nat, j ≤ m ∧ v14 = .int .i64 j ∧ Hid (NS W6 O7 m j (.slice (some ⟨g7, 0, none⟩) m c7) wx)) (fun v14 _ => m - (intOf v14).toNat)
                  case atStart => exact ⟨0, Nat.zero_le _, rfl, N0⟩
                  case round =>
                    clear N0
                    obtain ⟨j, hj, rfl, ns⟩ := hrel
                    by_cases hjm : j < m
                    · have f3 : decide ((j : Int) < (m : Int)) = true := by simp; omega
                      have f4 : (j : Int) < (m : Int) := by omega
                      obtain ⟨⟨u, hu⟩, hfz, hpe, hlt, _⟩ := ns.out.at_ HAD.out hjm
                      have NX := Lib.hid (ns.out.store hjm)
                      rw [← hpe] at NX
                      clear hpe
                      go_wp2_with fail
                      go_roundw
                      case rel => exact ⟨j + 1, by omega, by go_num, NX⟩
                      case measure => simp [intOf]; omega
                    · obtain rfl : m = j := by omega
                      have f3 : decide ((m : Int) < (m : Int)) = false := by simp
                      clear hjm hj
                      have BW8 := Lib.hid ns.out.bl
                      generalize wr = W8 at *
                      obtain ⟨⟨u, hu⟩, hfz, hpe, hlt, _⟩ := ns.out.at_ HAD.out him
                      have K8 := Lib.hid (K6.out.below BW8.out K6.out.lt)
                      have lb8 := K8.out.lt
                      obtain ⟨W9, hW9⟩ : ∃ W, W = (W8.alloc (.cells #[.int .u64 off, .int .u32 ty, .int .i64 sy, .int .i64 ad2] 53)).setCell ⟨(ad7.add (i * 11)).block, (ad7.add (i * 11)).off + 10, none⟩ (.slice (some ⟨W8.heap.size, 0, none⟩) 1 1) := ⟨_, rfl⟩
                      have L9 := ns.out.last him ⟨off, ty, sy, ad2⟩ W9 (by rw [hW9, hpe]; rfl)
                      rw [← HAD.out] at L9
                      have HW9 := Lib.hid hW9
                      have B9 := Lib.hid L9.2
                      have ONE : Hid (Calls Try.prog 10 #[.slice (some ad7) m c7] W9 fun e W' => ∃ ad10 c10, e = .returned (.tuple #[.slice (some ad10) 1 c10, .int .i64 0]) ∧ (W'.cell? ad10 = some (.int .u64 pa) ∧ W'.cell? ⟨ad10.block, ad10.off + 1, none⟩ = some (.int .i64 n) ∧ W'.cell? ⟨ad10.block, ad10.off + 2, none⟩ = some (.int .u64 pv)) ∧ Below W9.heap.size W9 W') := Lib.hid (by
                        refine (patches_any (some ad7) m c7 _ W9 L9.1 (oneO_fits HF.out.1) (oneO_fitsR HF.out.2 HRF.out)).mono ?_
                        intro e W' hp
                        obtain ⟨A10, c10, he, hs, _, hbl⟩ := hp.rows
                        obtain ⟨r1, r2, r3⟩ := oneO_all (O := O7) (m := m) (i := i) (g := W8.heap.size) (r := ⟨off, ty, sy, ad2⟩) (by rw [AL.out.patE]; exact PE.out) him (by rw [AL.out.one]; exact HE2.out)
                        rw [r1, r2] at he
                        rw [r2] at hs
                        obtain ⟨ad10, rfl, _, y0, y1, y2⟩ := pat_cells hs (k := 0) (by omega)
                        rw [r3, AL.out.one, ← HP.out] at y0 y1 y2
                        rw [add0] at y0 y1 y2
                        exact ⟨ad10, c10, he, ⟨y0, y1, y2⟩, hbl⟩)
                      clear hW9 L9 hpe ns
                      have k0 := (K8.out.cell 0).trans rfl
                      have k1 := (K8.out.cell 1).trans rfl
                      have k2 := (K8.out.cell 2).trans rfl
                      have k3 := (K8.out.cell 3).trans rfl
                      simp only [List.getElem?_toArray, List.getElem?_cons_succ, List.getElem?_cons_zero] at k0 k1 k2 k3
                      go_upto_region 22 with fail
                      go_cut [] from 127 to 133 (fun wx => Hid (wx = W9))
                      case first =>
                        go_wp2_with fail
                        go_meet
                        exact Lib.hid (by rw [HW9.out]; exact (World.setCell_alloc_past (w := W8) _ _ _ _ hlt).symm)
                      case rest =>
                      have hcw := hcut.out
                      subst hcw
                      clear k0 k1 k2 k3 hu hfz hlt lb8 f3 hcut
                      generalize wc = W9 at *
                      go_wp2_with fail
                      refine ONE.out.mono ?_
                      rintro e W10 ⟨ad10, c10, rfl, ⟨j0, j1, j2⟩, b10⟩
                      have l10 := World.block_lt_of_cell? _ _ j0
                      have B10 := Lib.hid (B9.out.trans (b10.mono B9.out.size))
                      have Q10 := Lib.hid (Q6.out.trans (B10.out.mono Q6.out.size))
                      have BB := Lib.hid (B6.out.trans (B10.out.mono BX.out))
                      have K10 := Lib.hid (K6.out.below B10.out K6.out.lt)
                      have x0 := X0.out W10 BB.out
                      have x1 := X1.out W10 BB.out
                      have x2 := X2.out W10 BB.out
                      have y1 := C1.out W10 BB.out
                      have lx := World.block_lt_of_cell? _ _ x0
                      have ly := World.block_lt_of_cell? _ _ y1
                      have lb := K10.out.lt
                      have k1 := (K10.out.cell 1).trans rfl
                      have k3 := (K10.out.cell 3).trans rfl
                      simp only [List.getElem?_toArray, List.getElem?_cons_succ, List.getElem?_cons_zero] at k1 k3
                      have st55 : Try.prog.stoodInHeld 55 = false := by kernel_rfl
                      have eg55 : Try.prog.eqGuardType Try.prog.depth 55 = false := by kernel_rfl
                      have i3 : (at1 : Int) < (N : Int) := by omega
                      clear ONE b10 HW9
                      go_wp2_with fail
                      go_quiet (fail)
                      go_wp2_with fail
                      by_cases h8 : ty = 8
                      · have q8 : ((ty : Int) == 8) = true := by simp; omega
                        have w8 := (WQ8.out h8).symm
                        have u8 : (pv != pv) = false := by simp
                        clear h8
                        go_quiet (fail)
                        go_wp2_with fail
                        go_roundw
                        case rel => exact ⟨k + 1, at1 + 1, by omega, by go_num, by go_num, Lib.hid ⟨by have := hb.out.1; omega, by first | exact below_drewN (below_drewN Q10.out _) _ | exact below_drewN Q10.out _⟩⟩
                        case measure => simp [intOf]; omega
                      · have q8 : ((ty : Int) == 8) = false := by simp; omega
                        clear h8
                        go_quiet (fail)
                        go_wp2_with fail
                        go_roundw
                        case rel => exact ⟨k + 1, at1 + 1, by omega, by go_num, by go_num, Lib.hid ⟨by have := hb.out.1; omega, by first | exact below_drewN (below_drewN Q10.out _) _ | exact below_drewN Q10.out _⟩⟩
                        case measure => simp [intOf]; omega
                · have hkn' : ((k : Int) == nr) = false := by simpa using hkn
                  clear hkn
                  go_wp2_with fail
                  go_roundw
                  case rel => exact ⟨k + 1, at1 + 1, by omega, by go_num, by go_num, Lib.hid ⟨by have := hb.out.1; omega, Q6.out⟩⟩
                  case measure => simp [intOf]; omega
              · have hio' : ((i : Int) == oi) = false := by simpa using hio
                clear hio
                go_wp2_with fail
                go_roundw
                case rel => exact ⟨k + 1, at1 + 1, by omega, by go_num, by go_num, Lib.hid ⟨by have := hb.out.1; omega, Q6.out⟩⟩
                case measure => simp [intOf]; omega
            · obtain rfl : k = rM := by omega
              have f1 : decide ((k : Int) < (k : Int)) = false := by simp
              have HI := Lib.hid (CEL.out wr hb.out.2)
              obtain ⟨ado, rfl, hado, _, _, _, _, _, _, _, _, _, _, c10⟩ := HI.out.lay.cells him
              dsimp only [ObjD.lay] at c10
              rw [← HRM.out] at c10
              have lo := World.block_lt_of_cell? _ _ c10
              go_wp2_with fail
              go_roundw
              case rel => exact ⟨i + 1, at1, by omega, by go_num, rfl, Lib.hid ⟨by rw [hsucc.out, ← HA.out]; exact hb.out.1, hb.out.2⟩⟩
              case measure => simp [intOf]; omega
        · obtain rfl : i = m := by omega
          have e1 : decide ((i : Int) < (i : Int)) = false := by simp
          obtain rfl : a = N := by rw [NEQ.out]; exact hb.out.1
          have t2 : ((a : Int) == (a : Int)) = true := by simp
          have BX := Lib.hid (B3.out.trans (hb.out.2.mono B3.out.size))
          go_wp2_with fail
          refine (works_any _).mono ?_
          rintro e W4 ⟨rfl, b4⟩
          have B4 := Lib.hid (BX.out.trans (b4.mono BX.out.size))
          clear b4
          go_wp2_with fail
          go_ret
          exact ⟨rfl, B4.out⟩
    · have t1 : (E != 0) = true := by simp [hE0]
      obtain rfl : N = 0 := by rw [HN.out]; unfold numP; rw [if_neg (by rw [← HE.out]; exact hE0)]
      clear HE
      go_wp2_with fail
      refine (works_any _).mono ?_
      rintro e W4 ⟨rfl, b4⟩
      have B4 := Lib.hid (B3.out.trans (b4.mono B3.out.size))
      clear b4
      go_wp2_with fail
      go_ret
      exact ⟨rfl, B4.out⟩
end Go.Proofs.Ytlenjpgkmikgpaa
