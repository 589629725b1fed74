import Derived.Test.YtgikfjfinjcfmaaDoorG8
namespace Go.Proofs.YtgikfjfinjcfmaaDoor
open Go.RowKit Go.Hos
set_option linter.unusedVariables false
/-- the pool, and two slices of bytes that were loaded of it -/
structure CS (w : World) (N p c b f : Nat) (C : Nat → Nat) (D : Nat → Nat → Nat) (r : Nat) (F : Nat → Nat) (W : World) : Prop where
  pm : ∃ Fb, PM w.heap.size W p c b f N C Fb D
  bl : Below w.heap.size w W
  wb : Row W r 5 4096 (fun i => .int .u8 (F i))
section
variable {w W W' : World} {N p c b f r : Nat} {C : Nat → Nat} {D : Nat → Nat → Nat} {F : Nat → Nat}
theorem CS.next (h : CS w N p c b f C D r F W) (hb : Below W.heap.size W W') : CS w N p c b f C D r F W' := by
  obtain ⟨Fb, h1⟩ := h.pm
  exact ⟨⟨Fb, h1.next hb⟩, h.bl.trans (hb.mono h.bl.size), h.wb.next hb⟩
theorem CS.load {k : Nat} (h : Hid (CS w N p c b f C D r F W)) (hk : k < N) (hc : Hid (0 < C k)) :
    Calls Tryd.prog 24 #[.pointer (some ⟨p, 0, none⟩), .int .i64 k, .int .i64 0, .int .i64 4096] W fun e W' => ∃ r2, e = .returned (.tuple #[.slice (some ⟨r2, 0, none⟩) 4096 4096, .int .i64 0]) ∧ Hid (Row W' r2 5 4096 (fun i => .int .u8 (D k i))) ∧ Hid (CS w N p c b f C D r F W') := by
  obtain ⟨Fb, h1⟩ := h.out.pm
  refine (load_any k 0 4096 W h1).mono ?_
  have e1 : Ms C k = 4096 := by unfold Ms; rw [if_pos hc.out]
  rw [ldL_page hk, ldE_page hk hc.out, e1]
  rintro e W' ⟨A, rfl, ld, b1⟩
  rcases ld with ⟨_, h0⟩ | ⟨r2, rfl, _, hr⟩
  · omega
  · have t : Row W' r2 5 4096 (fun i => .int .u8 (D k i)) := by simpa using hr
    exact ⟨r2, rfl, t, h.out.next b1⟩
theorem CS.load1 {k pl : Nat} (h : Hid (CS w N p c b f C D r F W)) (hk : k < N) (hc : Hid (0 < C k)) (hp : pl < 4096) :
    Calls Tryd.prog 24 #[.pointer (some ⟨p, 0, none⟩), .int .i64 k, .int .i64 pl, .int .i64 1] W fun e W' => ∃ r2, e = .returned (.tuple #[.slice (some ⟨r2, 0, none⟩) 1 1, .int .i64 0]) ∧ W'.cell? ⟨r2, 0, none⟩ = some (.int .u8 (D k pl)) ∧ Hid (CS w N p c b f C D r F W') ∧ Hid (∀ r' F', Row W r' 5 4096 F' → Row W' r' 5 4096 F') := by
  obtain ⟨Fb, h1⟩ := h.out.pm
  refine (load_any k pl 1 W h1).mono ?_
  have hl : ldB C N k pl 1 = true := by simp [ldB, tkB_of hk hc.out]; omega
  rw [ldL, ldE, hl, if_pos rfl, if_pos rfl]
  rintro e W' ⟨A, rfl, ld, b1⟩
  rcases ld with ⟨_, h0⟩ | ⟨r2, rfl, _, hr⟩
  · cases h0
  · have := hr.get (show 0 < (1 : Int).toNat by decide)
    exact ⟨r2, rfl, by simpa using this, h.out.next b1, fun r' F' hR => hR.next b1⟩
theorem CS.store {k pl x r2 : Nat} (h : Hid (CS w N p c b f C D r F W)) (hk : k < N) (hc : Hid (0 < C k)) (hp : pl < 4096) (hr : Hid (Reads W W.heap.size 1 (some ⟨r2, 0, none⟩) 1 (u8s [x]))) :
    Calls Tryd.prog 25 #[.pointer (some ⟨p, 0, none⟩), .int .i64 k, .int .i64 pl, .slice (some ⟨r2, 0, none⟩) 1 1] W fun e W' => e = .returned (.int .i64 0) ∧ ∃ D2, Hid (CS w N p c b f C D2 r F W') ∧ Hid (D2 k pl = x ∧ ∀ j, j ≠ k → D2 j = D j) ∧ Hid (∀ r' F', Row W r' 5 4096 F' → Row W' r' 5 4096 F') := by
  obtain ⟨Fb, h1⟩ := h.out.pm
  have hs : stB C N k pl 1 = true := by simp [stB, tkB_of hk hc.out]; omega
  refine (store_any k pl W h1 hr.out (by simp [maxLen])).mono ?_
  rw [stD, List.length_cons, List.length_nil, hs, if_pos rfl, if_pos rfl, Int.toNat_natCast, Int.toNat_natCast]
  rintro e W' ⟨rfl, pm2, kf, b2⟩
  refine ⟨rfl, _, ⟨⟨Fb, pm2⟩, h.out.bl.trans b2, h.out.wb.keep fun cs hb => kf _ _ _ hb (by decide) (by decide) (by decide) (by decide) (fun hcc => h1.cc.ne_blk hb (by decide) hcc.symm)⟩, ⟨?_, fun j hj => upd_other _ _ hj⟩, fun r' F' hR => hR.keep fun cs hb => kf _ _ _ hb (by decide) (by decide) (by decide) (by decide) (fun hcc => h1.cc.ne_blk hb (by decide) hcc.symm)⟩
  rw [upd_same]; unfold ov; rw [if_pos (by simp)]; simp
theorem CS.count (h : Hid (CS w N p c b f C D r F W)) (x : Int) :
    Calls Tryd.prog 16 #[.pointer (some ⟨p, 0, none⟩), .int .i64 x] W fun e W' => e = .returned (.int .i64 (cnt C N x)) ∧ W = W' := by
  obtain ⟨Fb, h1⟩ := h.out.pm
  exact count_any x W h1
theorem CS.copy {k g : Nat} (h : Hid (CS w N p c b f C D r F W)) (ht : Hid (TB w)) (h0 : 0 < w.heap.size) (hk : k < N) (hc : Hid (0 < C k)) (hg : Hid (g = tf C N ∧ g < N)) :
    Calls Tryd.prog 26 #[.pointer (some ⟨p, 0, none⟩), .int .i64 k] W fun e W' => e = .returned (.tuple #[.int .i64 g, .int .i64 0]) ∧ Hid (CS w N p c b f (upd C g 1) (upd D g (D k)) r F W') := by
  obtain ⟨Fb, h1⟩ := h.out.pm
  obtain ⟨hg1, hg2⟩ := hg.out
  have hf : tf C N < N := by omega
  have hx : tkB C N k = true := tkB_of hk hc.out
  refine (copy_any k W h1 h.out.bl.size (ht.out.below h.out.bl h0)).mono ?_
  rw [cpN, cpE, cpC, cpD, hx, if_pos rfl, if_pos rfl, if_pos rfl, if_pos ⟨rfl, hf⟩, takeN, takeE, takeC, if_pos hf, if_pos hf, if_pos hf, ← hg1, Int.toNat_natCast]
  rintro e W' ⟨rfl, ⟨Fb2, pm2⟩, kf, b2⟩
  exact ⟨rfl, ⟨⟨Fb2, pm2⟩, h.out.bl.trans b2, h.out.wb.keep fun cs hb => kf _ _ _ hb (by decide) (by decide) (by decide) (by decide) (fun hcc => h1.cc.ne_blk hb (by decide) hcc.symm)⟩⟩
theorem CS.copyfull {k : Nat} (h : Hid (CS w N p c b f C D r F W)) (ht : Hid (TB w)) (h0 : 0 < w.heap.size) (hk : k < N) (hc : Hid (0 < C k)) (hf : Hid (¬ tf C N < N)) :
    Calls Tryd.prog 26 #[.pointer (some ⟨p, 0, none⟩), .int .i64 k] W fun e W' => e = .returned (.tuple #[.int .i64 0, .int .i64 4]) ∧ Hid (CS w N p c b f C D r F W') := by
  obtain ⟨Fb, h1⟩ := h.out.pm
  have hx : tkB C N k = true := tkB_of hk hc.out
  have hf := hf.out
  refine (copy_any k W h1 h.out.bl.size (ht.out.below h.out.bl h0)).mono ?_
  rw [cpN, cpE, cpC, cpD, hx, if_pos rfl, if_pos rfl, if_pos rfl, if_neg (fun h => hf h.2), takeN, takeE, takeC, if_neg hf, if_neg hf, if_neg hf]
  rintro e W' ⟨rfl, ⟨Fb2, pm2⟩, kf, b2⟩
  exact ⟨rfl, ⟨⟨Fb2, pm2⟩, h.out.bl.trans b2, h.out.wb.keep fun cs hb => kf _ _ _ hb (by decide) (by decide) (by decide) (by decide) (fun hcc => h1.cc.ne_blk hb (by decide) hcc.symm)⟩⟩
end
theorem row_reads {W : World} {r : Nat} {F : Nat → Nat} (h : Row W r 5 4096 (fun i => .int .u8 (F i))) : Reads W W.heap.size 1 (some ⟨r, 0, none⟩) 4096 (u8s (bsF 4096 F)) := LdV.reads (L := 0) (.inr ⟨r, rfl, Nat.zero_le _, h⟩)
set_option maxRecDepth 200000 in
set_option maxHeartbeats 4000000 in
theorem copies_any {n q : Nat} {A : Option Addr} {O : Nat → OpD} (x z : Int) (t y : Nat) (w : World) (h : OpR w w.heap.size A n O) (hn : n ≤ maxLen) (ht : TB w) (h0 : 0 < w.heap.size) (ht16 : t < 65536) (hy8 : y < 256) :
    Calls Tryd.prog 9 #[.int .i64 x, .slice A n q, .int .i64 z, .int .u16 t, .int .u8 y] w fun e w' => e = .returned (.bool true) ∧ Below w.heap.size w w' := by
  have H := Lib.hid h
  have HT := Lib.hid ht
  by_cases hx : 1 ≤ x ∧ x ≤ 1024
  · cases hb : bigB O n
    · obtain ⟨N, rfl⟩ := Int.eq_ofNat_of_zero_le (show 0 ≤ x by omega)
      have hN1 : 1 ≤ N := by omega
      have hN2 : N ≤ 1024 := by omega
      have HX : Hid ((decide (1 ≤ (N : Int)) && decide ((N : Int) ≤ 1024)) = true) := Lib.hid (by simp; omega)
      have HB := Lib.hid hb
      clear h ht hx hb
      go_enter Tryd.func9, Tryd.ntmps9
      go_wp2_with fail
      refine (right_any N _).mono ?_
      rw [HX.out]
      rintro e w' ⟨rfl, rfl⟩
      go_wp2_with fail
      refine (vast_any _ H.out hn).mono ?_
      rw [HB.out]
      rintro e w' ⟨rfl, rfl⟩
      go_wp2_with fail
      refine (played_any N _ hN1 hN2 H.out HB.out HT.out h0).mono ?_
      rintro e w1 ⟨p, c, b, f, rfl, pi⟩
      obtain ⟨C, Fb, D, pm, hC, bl⟩ := pi
      have PMH := Lib.hid pm; have HC := Lib.hid hC; have BL := Lib.hid bl
      clear pm hC bl
      obtain ⟨fr, hfr⟩ : ∃ fr, fr = frees C N := ⟨_, rfl⟩
      have HFR := Lib.hid hfr
      clear hfr
      obtain ⟨ct, hct⟩ : ∃ ct, ct = cnt C N z := ⟨_, rfl⟩
      have HCT := Lib.hid hct
      clear hct
      cases hk : tkB C N z
      · have hl : Hid (ldL C N z 0 4096 = 0 ∧ ldE C N z 0 4096 = 1 ∧ cpN C N z = 0 ∧ cpE C N z = 1 ∧ cpC C N z = C) := by
          show _ ∧ _
          have hl : ldB C N z 0 4096 = false := by simp [ldB, hk]
          rw [ldL, ldE, hl, cpN, cpE, cpC, hk]
          exact ⟨rfl, rfl, rfl, rfl, rfl⟩
        clear hk
        go_wp2_with fail
        refine (load_any z 0 4096 _ PMH.out).mono ?_
        rw [hl.out.1, hl.out.2.1]
        rintro e w2 ⟨A2, rfl, ld2, bl2⟩
        have P2 := Lib.hid (PMH.out.next bl2)
        have B2 : Hid (Below w.heap.size w w2) := BL.out.trans (bl2.mono BL.out.size)
        clear ld2 bl2
        go_wp2_with fail
        refine (free_any _ P2.out).mono ?_
        rw [← HFR.out]
        rintro e w' ⟨rfl, rfl⟩
        go_wp2_with fail
        refine (count_any z _ P2.out).mono ?_
        rw [← HCT.out]
        rintro e w' ⟨rfl, rfl⟩
        go_wp2_with fail
        refine (copy_any z _ P2.out B2.out.size (HT.out.below B2.out h0)).mono ?_
        rw [hl.out.2.2.1, hl.out.2.2.2.1, hl.out.2.2.2.2]
        rintro e w3 ⟨rfl, ⟨Fb3, pm3⟩, kf3, bl3⟩
        have P3 := Lib.hid pm3
        have B3 : Hid (Below w.heap.size w w3) := B2.out.trans bl3
        clear pm3 bl3 kf3
        go_wp2_with fail
        refine (free_any _ P3.out).mono ?_
        rw [← HFR.out]
        rintro e w' ⟨rfl, rfl⟩
        go_wp2_with fail
        go_ret
        exact ⟨rfl, B3.out⟩
      · obtain ⟨k, rfl, hkN, hk0⟩ := tkB_yes hk
        have HK0 := Lib.hid hk0
        have hl : Hid (ldL C N k 0 4096 = 4096 ∧ ldE C N k 0 4096 = 0) := by
          show _ ∧ _
          rw [ldL_page hkN, ldE_page hkN hk0]
          unfold Ms
          rw [if_pos hk0]
          exact ⟨rfl, rfl⟩
        clear hk hk0
        go_wp2_with fail
        refine (load_any k 0 4096 _ PMH.out).mono ?_
        rw [hl.out.1, hl.out.2]
        rintro e w2 ⟨A2, rfl, ld2, bl2⟩
        have CS2 : ∃ r, A2 = some ⟨r, 0, none⟩ ∧ Hid (CS w N p c b f C D r (D k) w2) := by
          rcases ld2 with ⟨_, h0⟩ | ⟨r2, rfl, _, hr⟩
          · omega
          · exact ⟨r2, rfl, ⟨⟨Fb, PMH.out.next bl2⟩, BL.out.trans (bl2.mono BL.out.size), by simpa using hr⟩⟩
        have P2 := Lib.hid (PMH.out.next bl2)
        obtain ⟨r, rfl, cs2⟩ := CS2
        clear ld2 bl2
        go_wp2_with fail
        refine (free_any _ P2.out).mono ?_
        rw [← HFR.out]
        rintro e w' ⟨rfl, rfl⟩
        go_wp2_with fail
        refine (count_any k _ P2.out).mono ?_
        rw [← HCT.out]
        rintro e w' ⟨rfl, rfl⟩
        by_cases hf : tf C N < N
        · obtain ⟨g, hg⟩ : ∃ g, g = tf C N := ⟨_, rfl⟩
          have hgN : g < N := by omega
          have HG : Hid (g = tf C N ∧ g < N) := ⟨hg, hgN⟩
          have hg0 : C g = 0 := by rw [hg]; exact (tf_spec C N).2.2 hf
          have hgk : ¬ g = k := by rintro rfl; have := HK0.out; omega
          have hkg : ¬ k = g := fun e => hgk e.symm
          have HG1 : Hid (0 < upd C g 1 g) := Lib.hid (by rw [upd_same]; omega)
          have HK1 : Hid (0 < upd C g 1 k) := Lib.hid (by rw [upd_other _ _ hkg]; exact HK0.out)
          have HC1 : Hid (cnt (upd C g 1) N g = 1 ∧ cnt (upd C g 1) N k = ct) := by
            show _ ∧ _
            rw [cnt_in hgN, cnt_in hkN, upd_same, upd_other _ _ hkg, HCT.out, cnt_in hkN]
            exact ⟨rfl, rfl⟩
          have hfr0 : ¬ fr = 0 := by
            intro e
            exact frees_zero C N (by rw [← HFR.out]; exact e) g hgN hg0
          have b1 : ((fr : Int) == 0) = false := by simp; omega
          have b2 : ((g : Int) == (k : Int)) = false := by simp; omega
          have HGK := Lib.hid hgk; have HKG := Lib.hid hkg
          clear hf hg hg0 hgk hkg hfr0
          go_wp2_with fail
          refine (CS.copy cs2 HT h0 hkN HK0 HG).mono ?_
          rintro e w3 ⟨rfl, cs3⟩
          go_wp2_with fail
          refine (CS.load cs3 hgN HG1).mono ?_
          rintro e w4 ⟨r4, rfl, rw4, cs4⟩
          go_wp2_with fail
          have EQ1 : Hid (decide (bsF 4096 (upd D g (D k) g) = bsF 4096 (D k)) = true) := Lib.hid (by rw [upd_same]; exact decide_eq_true rfl)
          refine (same_any _ (row_reads rw4.out) (row_reads cs4.out.wb) (by omega) (by omega)).mono ?_
          rw [EQ1.out]
          rintro e w5 ⟨rfl, bl5⟩
          have cs5 := Lib.hid (cs4.out.next bl5)
          clear bl5
          go_wp2_with fail
          refine (CS.count cs5 g).mono ?_
          rw [HC1.out.1]
          rintro e w' ⟨rfl, rfl⟩
          go_wp2_with fail
          refine (CS.count cs5 k).mono ?_
          rw [HC1.out.2]
          rintro e w' ⟨rfl, rfl⟩
          have b3 : ((ct : Int) != (ct : Int)) = false := by simp
          obtain ⟨pl, hpl⟩ : ∃ pl, pl = t % 4096 := ⟨_, rfl⟩
          have hp4 : pl < 4096 := by omega
          have hm3 : (t : Int).tmod 4096 = (pl : Int) := by rw [Int.tmod_eq_emod_of_nonneg (by omega)]; omega
          have hm4 : (t : Int) % 4096 = (pl : Int) := by omega
          have hm5 : IntKind.i64.wrap (t : Int) = (t : Int) := IntWalk.i64_in _ (by omega)
          obtain ⟨y1, hy1⟩ : ∃ y1, y1 = (y + 1) % 256 := ⟨_, rfl⟩
          have hm6 : IntKind.u8.wrap ((y : Int) + 1) = (y1 : Int) := by rw [IntKind.wrap_u8]; omega
          have HY1 := Lib.hid hy1
          clear hpl hy1
          go_wp2_with fail
          have bl0 : Below w5.heap.size w5 (w5.alloc (.cells #[.int .u8 y] 5)) := (Below.refl _ _).alloc (Nat.le_refl _) _
          have cs5' := Lib.hid (cs5.out.next bl0)
          clear bl0
          refine (CS.store cs5' hkN HK1 hp4 (Lib.hid ((reads_new w5 5 1 1 (u8s [y]) rfl rfl).more (by simp)))).mono ?_
          rintro e w6 ⟨rfl, D6, cs6, hd6, _⟩
          go_wp2_with fail
          refine (CS.load cs6 hgN HG1).mono ?_
          rintro e w7 ⟨r7, rfl, rw7, cs7⟩
          go_wp2_with fail
          have bl7 : Below w7.heap.size w7 (w7.alloc (.cells #[.int .u8 y1] 5)) := (Below.refl _ _).alloc (Nat.le_refl _) _
          have cs7' := Lib.hid (cs7.out.next bl7)
          have rw7' := Lib.hid (rw7.out.next bl7)
          clear bl7
          refine (CS.store cs7' hgN HG1 hp4 (Lib.hid ((reads_new w7 5 1 1 (u8s [y1]) rfl rfl).more (by simp)))).mono ?_
          rintro e w8 ⟨rfl, D8, cs8, hd8, kp8⟩
          have rw8 := Lib.hid (kp8.out _ _ rw7'.out)
          clear rw7 rw7' kp8
          go_wp2_with fail
          refine (CS.load1 cs8 hkN HK1 hp4).mono ?_
          rintro e w9 ⟨r9, rfl, c9, cs9, kp9⟩
          have rw9 := Lib.hid (kp9.out _ _ rw8.out)
          rw [hd8.out.2 k HKG.out, hd6.out.1] at c9
          have EQ2 : Hid (decide (bsF 4096 (D6 g) = bsF 4096 (D k)) = true) := Lib.hid (by rw [hd6.out.2 g HGK.out, upd_same]; exact decide_eq_true rfl)
          have R9 := Lib.hid (row_reads rw9.out)
          have R10 := Lib.hid (row_reads cs9.out.wb)
          clear rw8 kp9 rw9 rw4 cs8 cs7 cs6 cs5 cs4
          go_wp2_with fail
          refine (same_any _ R9.out R10.out (by omega) (by omega)).mono ?_
          rw [EQ2.out]
          rintro e w10 ⟨rfl, bl10⟩
          have c10 : w10.cell? ⟨r9, 0, none⟩ = some (.int .u8 (y : Int)) := (bl10.cell (p := ⟨r9, 0, none⟩) (block_lt_of_cell c9)).trans c9
          have B10 : Hid (Below w.heap.size w w10) := cs9.out.bl.trans (bl10.mono cs9.out.bl.size)
          have b4 : ((y : Int) == (y : Int)) = true := by simp
          clear bl10 c9
          go_wp2_with fail
          go_ret
          exact ⟨rfl, B10.out⟩
        · have HF := Lib.hid hf
          have hfr0 : fr = 0 := by rw [HFR.out]; exact tf_full hf
          subst hfr0
          clear hf
          go_wp2_with fail
          refine (CS.copyfull cs2 HT h0 hkN HK0 HF).mono ?_
          rintro e w3 ⟨rfl, cs3⟩
          go_wp2_with fail
          refine (CS.count cs3 k).mono ?_
          rw [← HCT.out]
          rintro e w' ⟨rfl, rfl⟩
          go_wp2_with fail
          go_ret
          exact ⟨rfl, cs3.out.bl⟩
    · have HX : Hid ((decide (1 ≤ x) && decide (x ≤ 1024)) = true) := Lib.hid (by simp; omega)
      have HB := Lib.hid hb
      clear h ht hx hb
      go_enter Tryd.func9, Tryd.ntmps9
      go_wp2_with fail
      refine (right_any x _).mono ?_
      rw [HX.out]
      rintro e w' ⟨rfl, rfl⟩
      go_wp2_with fail
      refine (vast_any _ H.out hn).mono ?_
      rw [HB.out]
      rintro e w' ⟨rfl, rfl⟩
      go_wp2_with fail
      refine (works_any _ HT.out h0).mono ?_
      rintro e w3 ⟨rfl, hb⟩
      have G3 := Lib.hid hb
      clear hb
      go_wp2_with fail
      go_ret
      exact ⟨rfl, G3.out⟩
  · have HX : Hid ((decide (1 ≤ x) && decide (x ≤ 1024)) = false) := Lib.hid (by simp; omega)
    clear h ht hx
    go_enter Tryd.func9, Tryd.ntmps9
    go_wp2_with fail
    refine (right_any x _).mono ?_
    rw [HX.out]
    rintro e w' ⟨rfl, rfl⟩
    go_wp2_with fail
    refine (works_any _ HT.out h0).mono ?_
    rintro e w3 ⟨rfl, hb⟩
    have G3 := Lib.hid hb
    clear hb
    go_wp2_with fail
    go_ret
    exact ⟨rfl, G3.out⟩
end Go.Proofs.YtgikfjfinjcfmaaDoor
