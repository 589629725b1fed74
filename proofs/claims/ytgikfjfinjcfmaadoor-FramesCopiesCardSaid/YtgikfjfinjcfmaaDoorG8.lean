import Derived.Test.YtgikfjfinjcfmaaDoorG7
namespace Go.Proofs.YtgikfjfinjcfmaaDoor
open Go.RowKit Go.Hos
set_option linter.unusedVariables false
theorem LdV.reads' {W : World} {L m : Nat} {A : Option Addr} {F : Nat → Nat} (h : LdV W L A m F) : Reads W W.heap.size 1 A m (u8s (bsF m F)) := h.reads
theorem Ms_le (C : Nat → Nat) (k : Nat) : Ms C k ≤ 4096 := by unfold Ms; split <;> omega
theorem WS.push' {w : World} {N p c b f i m : Nat} {C Fb : Nat → Nat} {D : Nat → Nat → Nat} {v v' : Value} {As : Nat → Option Addr} {A : Option Addr} {W W' : World} {o : Obj} (h : Hid (WS w N p c b f i C Fb D v As W)) (ld : Hid (LdV W w.heap.size A m (D i))) (hm : Hid (m = Ms C i))
    (ho : W'.ownsRow w.heap.size 42 1 v' (i + 1) (((List.range i).map fun k => .slice (As k) (Ms C k) (Ms C k)) ++ [.slice A m m])) (hg : (W.alloc o).grownBy W' v.ownBlock) : Hid (∃ As', WS w N p c b f (i + 1) C Fb D v' As' W') := by
  obtain rfl := hm.out
  have hb : Below W.heap.size W (W.alloc o) := (Below.refl _ _).alloc (Nat.le_refl _) _
  exact Lib.hid ⟨_, WS.push (h.out.next hb) (ld.out.below (B := 0) hb) ho hg⟩
set_option maxRecDepth 200000 in
set_option maxHeartbeats 4000000 in
theorem fresh_any {n q : Nat} {A : Option Addr} {O : Nat → OpD} (x : Int) (t y : Nat) (w : World) (h : OpR w w.heap.size A n O) (hn : n ≤ maxLen) (ht : TB w) (h0 : 0 < w.heap.size) (ht16 : t < 65536) :
    Calls Tryd.prog 8 #[.int .i64 x, .slice A n q, .int .u16 t, .int .u8 y] w fun e w' => e = .returned (.bool true) ∧ Below w.heap.size w w' := by
  have H := Lib.hid h
  have HT := Lib.hid ht
  by_cases hx : (1 ≤ x ∧ x ≤ 1024) ∧ x ≤ 64
  · cases hb : bigB O n
    · obtain ⟨N, rfl⟩ := Int.eq_ofNat_of_zero_le (show 0 ≤ x by omega)
      have hN1 : 1 ≤ N := by omega
      have hN2 : N ≤ 1024 := by omega
      have hN3 : ¬ (64 : Int) < (N : Int) := by omega
      have HX : Hid ((decide (1 ≤ (N : Int)) && decide ((N : Int) ≤ 1024)) = true) := Lib.hid (by simp; omega)
      have HB := Lib.hid hb
      obtain ⟨i0, hi0, hz0, hz1, hz2⟩ := info_parts info42
      clear h ht hx hb
      go_enter Tryd.func8, Tryd.ntmps8
      go_wp2_with fail
      refine (right_any N _).mono ?_
      rw [HX.out]
      rintro e w' ⟨rfl, rfl⟩
      go_wp2_with fail
      refine (vast_any _ H.out hn).mono ?_
      rw [HB.out]
      rintro e w' ⟨rfl, rfl⟩
      go_wp2_with fail
      refine (played_any N _ hN1 hN2 H.out HB.out HT.out h0).mono ?_
      rintro e w1 ⟨p, c, b, f, rfl, pi⟩
      obtain ⟨C, Fb, D, pm, hC, bl⟩ := pi
      have w0 : Hid (WS w N p c b f 0 C Fb D (.slice none 0 0) (fun _ => none) w1) := ⟨pm, bl, ⟨World.ownsRow_nil _ _ _ _, fun k hk => absurd hk (by omega)⟩⟩
      clear pm hC bl
      go_wp2_with fail
      go_loopw [11, 12] (fun v11 v12 wr => ∃ (i cp : Nat) (Aw : Option Addr) (As : Nat → Option Addr), i ≤ N ∧ v11 = .slice Aw i cp ∧ v12 = .int .i64 i ∧ Hid (WS w N p c b f i C Fb D (.slice Aw i cp) As wr)) (fun _ v12 _ => N - (intOf v12).toNat)
      case atStart => exact ⟨0, 0, none, _, by omega, rfl, rfl, w0⟩
      case round =>
        obtain ⟨i, cp, Aw, As, hi, rfl, rfl, ws⟩ := hrel
        by_cases hiN : i < N
        · have e1 : decide ((i : Int) < (N : Int)) = true := by simp; omega
          go_wp2_with fail
          refine (WS.load ws hiN).mono ?_
          rintro e w2 ⟨A1, z1, rfl, ld, ws2⟩
          obtain ⟨m1, hm1⟩ : ∃ m, m = Ms C i := ⟨_, rfl⟩
          rw [← hm1] at ld ⊢
          have HM := Lib.hid hm1
          clear hm1
          have ho := ws2.out.wa.own
          have HO := Lib.hid ho
          clear ho
          go_wp2_with (at_builtin
                       refine wpList_append_any _ rfl (.tmp 54) (.tmp 56) _ rfl w.heap.size 42 i0 _ 1 24 Tryd.underlying51 hi0 hz0 hz1 hz2 rfl (by omega) (.slice Aw i cp) i _ rfl
                         (HO.out.alloc _) (w2.heap.size + 1) (some ⟨w2.heap.size, 0, none⟩) 1 1 [.slice A1 m1 m1] rfl (reads_new w2 42 1 1 [.slice A1 m1 m1] rfl rfl) (by simp [Value.oneCell']) (by simp only [maxLen]; omega) (by omega) (by have := ws2.out.bl.size; simp; omega) ?_
                       intro v1 w3 hown hg hat
                       obtain ⟨A2, c2, rfl⟩ := ownsRow_val hown
                       have P1 := WS.push' ws2 ld HM hown hg
                       clear hown hg hat)
          go_wp2_with fail
          go_roundw
          case rel => obtain ⟨As2, h2⟩ := P1.out; exact ⟨i + 1, c2, A2, As2, by omega, rfl, by go_num, h2⟩
          case measure => simp [intOf]; omega
        · obtain rfl : i = N := by omega
          obtain ⟨gw, cp', hAw, hgw, hgw2, hcp⟩ := owns_succ (k := i - 1) (by rw [show i - 1 + 1 = i by omega]; exact ws.out.wa.own)
          rw [show i - 1 + 1 = i by omega] at hAw hcp
          obtain ⟨rfl, _, rfl⟩ := Value.slice.inj hAw
          clear hAw hgw hgw2
          have PMH := Lib.hid ws.out.pm
          by_cases hf : tf C i < i
          · obtain ⟨g, hg⟩ : ∃ g, g = tf C i := ⟨_, rfl⟩
            have hgi : g < i := by omega
            have E : Hid (takeN C i = g ∧ takeE C i = 0 ∧ takeC C i = upd C g 1 ∧ takeD C i D = upd D g (fun _ => 0)) := by
              show _ ∧ _
              unfold takeN takeE takeC takeD
              rw [if_pos hf, if_pos hf, if_pos hf, if_pos hf, hg]
              exact ⟨rfl, rfl, rfl, rfl⟩
            clear hf hg
            go_wp2_with fail
            refine (take_any _ PMH.out ws.out.bl.size (HT.out.below ws.out.bl h0)).mono ?_
            rw [E.out.1, E.out.2.1, E.out.2.2.1, E.out.2.2.2]
            rintro e w2 ⟨rfl, ⟨Fb2, pm2⟩, kf2, bl2⟩
            have PM2 := Lib.hid pm2
            have BL2 : Hid (Below w.heap.size w w2) := ws.out.bl.trans bl2
            have WA2 := Lib.hid (ws.out.wa.kf PMH.out.cc kf2)
            clear pm2 kf2 bl2
            go_wp2_with fail
            refine (load_new PM2 BL2 WA2 hgi).mono ?_
            rintro e w3 ⟨r, rfl, RW, PM3, BL3, WA3⟩
            go_wp2_with fail
            go_loop [18] (fun v18 => ∃ j : Nat, j ≤ 4096 ∧ v18 = .int .i64 j) (fun v18 => 4096 - (intOf v18).toNat)
            case atStart => exact ⟨0, by omega, rfl⟩
            case round =>
              obtain ⟨j, hj, rfl⟩ := hrel
              by_cases hj4 : j < 4096
              · have e1 : decide ((j : Int) < 4096) = true := by simp; omega
                have c1 := RW.out.get hj4
                go_wp2_with fail
                go_round
                case rel => exact ⟨j + 1, by omega, by go_num⟩
                case measure => simp [intOf]; omega
              · obtain rfl : j = 4096 := by omega
                obtain ⟨pl, hpl⟩ : ∃ pl, pl = t % 4096 := ⟨_, rfl⟩
                have hp4 : pl < 4096 := by omega
                have hm3 : (t : Int).tmod 4096 = (pl : Int) := by rw [Int.tmod_eq_emod_of_nonneg (by omega)]; omega
                have hm4 : (t : Int) % 4096 = (pl : Int) := by omega
                have hm5 : IntKind.i64.wrap (t : Int) = (t : Int) := IntWalk.i64_in _ (by omega)
                clear hpl
                go_wp2_with fail
                refine (store_new (x := y) (Lib.hid (PM3.out.next ((Below.refl _ _).alloc (Nat.le_refl _) _))) (Lib.hid (BL3.out.trans (((Below.refl _ _).alloc (Nat.le_refl _) _).mono BL3.out.size))) (Lib.hid (WA3.out.below ((Below.refl _ _).alloc (Nat.le_refl _) _))) hgi hp4
                  (Lib.hid ((reads_new w3 5 1 1 (u8s [y]) rfl rfl).more (by simp)))).mono ?_
                rintro e w4 ⟨rfl, D2, WT4⟩
                clear PM3 BL3 WA3 RW PM2 BL2 WA2
                go_wp2_with fail
                go_loopw [20] (fun v20 wr => ∃ k : Nat, k ≤ i ∧ v20 = .int .i64 k ∧ Hid (WT w i p c b f g y pl C Fb2 D D2 (.slice (some ⟨gw, 0, none⟩) i cp) As wr)) (fun v20 _ => i - (intOf v20).toNat)
                case atStart => exact ⟨0, by omega, rfl, WT4⟩
                case round =>
                  obtain ⟨k, hk, rfl, wt⟩ := hrel
                  by_cases hki : k < i
                  · have e1 : decide ((k : Int) < (i : Int)) = true := by simp; omega
                    by_cases hkg : k = g
                    · subst hkg
                      have b1 : ((k : Int) == (k : Int)) = true := by simp
                      go_wp2_with fail
                      refine (WT.loadg wt hki hp4).mono ?_
                      rintro e w5 ⟨r5, rfl, c5, wt5⟩
                      have b2 : ((y : Int) != (y : Int)) = false := by simp
                      have b3 : decide ((pl : Int) < 4096) = true := by simp; omega
                      go_wp2_with fail
                      go_roundw
                      case rel => exact ⟨k + 1, by omega, by go_num, wt5⟩
                      case measure => simp [intOf]; omega
                    · have b1 : ((k : Int) == (g : Int)) = false := by simp; omega
                      go_wp2_with fail
                      refine (WT.load wt hki hkg).mono ?_
                      rintro e w5 ⟨A5, z5, rfl, ld5, wt5⟩
                      have c5 := wt5.out.wa.at_ hki
                      have ld6 := Lib.hid (wt5.out.wa.en k hki)
                      have hml := Ms_le C k
                      obtain ⟨m1, hm1⟩ : ∃ m, m = Ms C k := ⟨_, rfl⟩
                      obtain ⟨x1, hx1⟩ : ∃ m, m = As k := ⟨_, rfl⟩
                      rw [← hm1, ← hx1] at ld6 c5
                      rw [← hm1] at ld5 hml ⊢
                      clear hm1 hx1
                      go_wp2_with fail
                      refine (same_any _ ld5.out.reads ld6.out.reads (by omega) (by omega)).mono ?_
                      rw [decide_eq_true rfl]
                      rintro e w6 ⟨rfl, bl6⟩
                      have wt6 := Lib.hid (wt5.out.next bl6)
                      clear bl6
                      go_wp2_with fail
                      go_roundw
                      case rel => exact ⟨k + 1, by omega, by go_num, wt6⟩
                      case measure => simp [intOf]; omega
                  · obtain rfl : k = i := by omega
                    go_wp2_with fail
                    go_ret
                    exact ⟨rfl, wt.out.bl⟩
          · have E : Hid (takeN C i = 0 ∧ takeE C i = 4 ∧ takeC C i = C ∧ takeD C i D = D ∧ frees C i = 0) := by
              show _ ∧ _
              unfold takeN takeE takeC takeD
              rw [if_neg hf, if_neg hf, if_neg hf, if_neg hf]
              exact ⟨rfl, rfl, rfl, rfl, tf_full hf⟩
            clear hf
            go_wp2_with fail
            refine (take_any _ PMH.out ws.out.bl.size (HT.out.below ws.out.bl h0)).mono ?_
            rw [E.out.1, E.out.2.1, E.out.2.2.1, E.out.2.2.2.1]
            rintro e w2 ⟨rfl, ⟨Fb2, pm2⟩, kf2, bl2⟩
            have PM2 := Lib.hid pm2
            have BL2 : Hid (Below w.heap.size w w2) := ws.out.bl.trans bl2
            clear pm2 kf2 bl2
            go_wp2_with fail
            refine (free_any _ PM2.out).mono ?_
            rw [E.out.2.2.2.2]
            rintro e w' ⟨rfl, rfl⟩
            go_wp2_with fail
            go_ret
            exact ⟨rfl, BL2.out⟩
    · have HX : Hid ((decide (1 ≤ x) && decide (x ≤ 1024)) = true) := Lib.hid (by simp; omega)
      have hN3 : ¬ (64 : Int) < x := by omega
      have HB := Lib.hid hb
      clear h ht hx hb
      go_enter Tryd.func8, Tryd.ntmps8
      go_wp2_with fail
      refine (right_any x _).mono ?_
      rw [HX.out]
      rintro e w' ⟨rfl, rfl⟩
      go_wp2_with fail
      refine (vast_any _ H.out hn).mono ?_
      rw [HB.out]
      rintro e w' ⟨rfl, rfl⟩
      go_wp2_with fail
      refine (works_any _ HT.out h0).mono ?_
      rintro e w3 ⟨rfl, hb⟩
      have G3 := Lib.hid hb
      clear hb
      go_wp2_with fail
      go_ret
      exact ⟨rfl, G3.out⟩
  · cases hr : (decide (1 ≤ x) && decide (x ≤ 1024))
    · have HX := Lib.hid hr
      clear h ht hx hr
      go_enter Tryd.func8, Tryd.ntmps8
      go_wp2_with fail
      refine (right_any x _).mono ?_
      rw [HX.out]
      rintro e w' ⟨rfl, rfl⟩
      go_wp2_with fail
      refine (works_any _ HT.out h0).mono ?_
      rintro e w3 ⟨rfl, hb⟩
      have G3 := Lib.hid hb
      clear hb
      go_wp2_with fail
      go_ret
      exact ⟨rfl, G3.out⟩
    · have hN3 : (64 : Int) < x := by simp at hr; omega
      have HX := Lib.hid hr
      clear h ht hx hr
      go_enter Tryd.func8, Tryd.ntmps8
      go_wp2_with fail
      refine (right_any x _).mono ?_
      rw [HX.out]
      rintro e w' ⟨rfl, rfl⟩
      go_wp2_with fail
      refine (works_any _ HT.out h0).mono ?_
      rintro e w3 ⟨rfl, hb⟩
      have G3 := Lib.hid hb
      clear hb
      go_wp2_with fail
      go_ret
      exact ⟨rfl, G3.out⟩
end Go.Proofs.YtgikfjfinjcfmaaDoor
