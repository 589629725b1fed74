import Derived.Test.YtaeccpoljenjmaaL2
import Derived.Deep.RegionWith
import Derived.Deep.CutRange
namespace Go.Proofs.Ytaeccpoljenjmaa
open Go.RowKit Go.Hos
set_option linter.unusedVariables false

/-- the law's own row of bools -/
def US (W : World) (gu : Nat) (T : Nat → Sl) : Prop := ∃ us, Blk W gu 25 us ∧ us.size = 16 ∧ ∀ k, k < 16 → us[k]? = some (.bool (T k).u)
section
variable {W W' : World} {gu : Nat} {T T' : Nat → Sl}
theorem US.get (h : US W gu T) {k : Nat} (hk : k < 16) : W.cell? ⟨gu, k, none⟩ = some (.bool (T k).u) := by
  obtain ⟨us, hb, _, hr⟩ := h; exact (hb.cell k).trans (hr k hk)
theorem US.free (h : US W gu T) (k : Nat) : W.frozen? ⟨gu, k, none⟩ = false := by obtain ⟨us, hb, _⟩ := h; exact hb.frozen k
theorem US.lt (h : US W gu T) : gu < W.heap.size := by obtain ⟨us, hb, _⟩ := h; exact hb.lt
theorem US.grown {row : Option Nat} (h : US W gu T) (hb : W.grownBy W' row) (hg : some gu ≠ row) : US W' gu T := by
  obtain ⟨us, h1, h2⟩ := h; exact ⟨us, h1.grown hb hg, h2⟩
theorem US.next (h : US W gu T) (hb : Below W.heap.size W W') : US W' gu T := h.grown (grown_of_below hb none) (by simp)
theorem US.set_ (h : US W gu T) {k : Nat} (hk : k < 16) (b : Bool) (hT : ∀ j, j < 16 → (T' j).u = if j = k then b else (T j).u) : US (W.setCell ⟨gu, k, none⟩ (.bool b)) gu T' := by
  obtain ⟨us, h1, h2, h3⟩ := h
  refine ⟨_, h1.set_ _ _, by simp [h2], fun j hj => ?_⟩
  rw [Array.getElem?_setIfInBounds, hT j hj]
  by_cases e : j = k
  · subst e; rw [if_pos rfl, if_pos (by omega), if_pos rfl]
  · rw [if_neg (by omega), if_neg e]; exact h3 j hj
theorem US.ne_ {g m : Nat} {T' : Nat → Sl} (h : US W gu T) (h' : SB W g 50 m T') : gu ≠ g := by
  obtain ⟨us, h1, _⟩ := h
  exact fun e => h'.ne_blk h1 (by decide) e.symm
end
structure UW (w : World) (g gu : Nat) (T : Nat → Sl) (W : World) : Prop where
  tb : SB W g 50 16 T
  us : US W gu T
  low : Below w.heap.size w W
theorem UW.drew {w : World} {g gu : Nat} {T : Nat → Sl} {W : World} (h : UW w g gu T W) : UW w g gu T W.drew := ⟨h.tb.next (Below.refl _ _).drew, h.us.next (Below.refl _ _).drew, h.low.drew⟩

theorem OpR.of {W W' : World} {B : Nat} {ad : Addr} {n : Nat} {O : Nat → OpD} (h : OpR W B (some ad) n O) (hb : Below B W W') {i : Nat} (hi : i < n) : W'.cell? (ad.add (i * 6)) = some (.int .i64 (O i).d) ∧ W'.cell? ⟨(ad.add (i * 6)).block, (ad.add (i * 6)).off + 1, none⟩ = some (.int .i64 (O i).t) ∧ W'.cell? ⟨(ad.add (i * 6)).block, (ad.add (i * 6)).off + 2, none⟩ = some (.int .i64 (O i).f) ∧
    W'.cell? ⟨(ad.add (i * 6)).block, (ad.add (i * 6)).off + 3, none⟩ = some (.int .i64 (O i).i) ∧ W'.cell? ⟨(ad.add (i * 6)).block, (ad.add (i * 6)).off + 4, none⟩ = some (.int .i64 (O i).p) ∧ W'.cell? ⟨(ad.add (i * 6)).block, (ad.add (i * 6)).off + 5, none⟩ = some (.bool (O i).x) := by
  obtain ⟨ad', e, h0, h1, h2, h3, h4, h5, _⟩ := h.at_ hb hi
  injection e with e
  subst e
  exact ⟨h0, h1, h2, h3, h4, h5⟩
set_option maxRecDepth 20000 in
set_option maxHeartbeats 3200000 in
theorem lowest_any (A : Option Addr) (n c : Nat) (O : Nat → OpD) (w : World) (h : OpR w w.heap.size A n O) (hn : n ≤ maxLen) :
    Calls Try.prog 3 #[.slice A n c] w fun e w' => e = .returned (.bool true) ∧ Below w.heap.size w w' := by
  unfold maxLen at hn
  have H := Lib.hid h
  clear h
  go_enter Try.func3, Try.ntmps3
  go_wp2_with fail
  refine (new_any _).mono ?_
  rintro e w1 ⟨g, rfl, hg, hs, hb⟩
  have s1 : Hid (SB w1 g 50 16 emptyT ∧ Below w.heap.size w w1) := ⟨hs, hb⟩
  clear hs hb
  go_wp2_with fail
  have u1 : Hid (UW w g w1.heap.size emptyT (w1.alloc (.cells #[.bool false, .bool false, .bool false, .bool false, .bool false, .bool false, .bool false, .bool false, .bool false, .bool false, .bool false, .bool false, .bool false, .bool false, .bool false, .bool false] 25))) := by
    refine ⟨s1.out.1.next ((Below.refl _ _).alloc (Nat.le_refl _) _), ⟨_, Blk.new _ _ _, rfl, fun k hk => ?_⟩, s1.out.2.alloc s1.out.2.size _⟩
    rcases k with _ | _ | _ | _ | _ | _ | _ | _ | _ | _ | _ | _ | _ | _ | _ | _ | k <;> first | rfl | omega
  obtain ⟨gu, hgu⟩ : ∃ gu, gu = w1.heap.size := ⟨_, rfl⟩
  have hgl : w.heap.size ≤ gu := by rw [hgu]; exact s1.out.2.size
  rw [← hgu] at u1 ⊢
  clear s1
  generalize (w1.alloc (.cells #[.bool false, .bool false, .bool false, .bool false, .bool false, .bool false, .bool false, .bool false, .bool false, .bool false, .bool false, .bool false, .bool false, .bool false, .bool false, .bool false] 25)) = W0 at *
  clear hgu
  go_loopw [5] (fun i wr => ∃ (k : Nat) (T : Nat → Sl), k ≤ n ∧ k ≤ 200 ∧ i = .int .i64 k ∧ Hid (UW w g gu T wr)) (fun i _ => 200 - (intOf i).toNat)
  case atStart => exact ⟨0, _, by omega, by omega, rfl, u1⟩
  case round =>
    obtain ⟨k, T, hk, hk2, rfl, t⟩ := hrel
    by_cases h1 : k < n ∧ k < 200
    · obtain ⟨h1, h2⟩ := h1
      obtain ⟨ad, rfl, c0, c1, c2, c3, c4, c5, _⟩ := H.out.at_ t.out.low h1
      have e200 : decide ((k : Int) < 200) = true := by simp; omega
      obtain ⟨d, hd⟩ : ∃ d, d = (O k).d := ⟨_, rfl⟩
      obtain ⟨f, hf⟩ : ∃ f, f = (O k).f := ⟨_, rfl⟩
      obtain ⟨i, hi⟩ : ∃ i, i = (O k).i := ⟨_, rfl⟩
      obtain ⟨x, hx⟩ : ∃ x, x = (O k).x := ⟨_, rfl⟩
      rw [← hd] at c0
      rw [← hf] at c2
      rw [← hi] at c3
      rw [← hx] at c5
      have HF := Lib.hid hf; have HI := Lib.hid hi; have HX := Lib.hid hx
      clear hd hf hi hx c1 c4
      by_cases d2 : d = 2
      · subst d2
        go_wp2_with fail
        refine (close_any g f T _ t.out.tb).mono ?_
        cases hok : okf T f
        · rw [closeE_no hok, closeT_no hok]
          rintro e w2 ⟨rfl, hs, hgr⟩
          have t2 : Hid (UW w g gu T w2) := ⟨hs, t.out.us.grown hgr (by have h := t.out.us.ne_ t.out.tb; intro e; injection e with e; exact h e), t.out.low.trans (below_of_grown hgr hg t.out.low.size)⟩
          obtain ⟨_, _, k2, _⟩ := H.out.of t2.out.low h1
          rw [← HF.out] at k2
          clear hs hgr c0 c2 c3 c5 t
          rcases okf_no hok with h0 | h0 | ⟨m, rfl, hm, hu⟩
          · have b0 : ¬ (0 ≤ f) := by omega
            clear hok
            go_wp2_with fail
            go_roundw
            case rel => exact ⟨k + 1, _, by omega, by omega, by go_num, t2⟩
            case measure => simp [intOf]; omega
          · have b0 : 0 ≤ f := by omega
            have b1 : ¬ (f < 16) := by omega
            clear hok
            go_wp2_with fail
            go_roundw
            case rel => exact ⟨k + 1, _, by omega, by omega, by go_num, t2⟩
            case measure => simp [intOf]; omega
          · have u1 := t2.out.us.get hm
            rw [hu] at u1
            have b0 : (0 : Int) ≤ (m : Int) := by omega
            have b1 : (m : Int) ≤ 15 := by omega
            clear hok hu
            rcases Nat.eq_zero_or_pos m with e0 | hm0
            · subst e0
              rw [show ((0 : Nat) : Int) = 0 from rfl] at *
              clear b0 b1
              go_wp2_with fail
              go_roundw
              case rel => exact ⟨k + 1, _, by omega, by omega, by go_num, t2⟩
              case measure => simp [intOf]; omega
            · go_wp2_with fail
              go_roundw
              case rel => exact ⟨k + 1, _, by omega, by omega, by go_num, t2⟩
              case measure => simp [intOf]; omega
        · obtain ⟨m, rfl, hm, hu⟩ := okf_yes hok
          rw [closeE_yes hok, closeT_yes hok]
          rintro e w2 ⟨rfl, hs, hgr⟩
          have us2 : Hid (US w2 gu T) := t.out.us.grown hgr (by have h := t.out.us.ne_ t.out.tb; intro e; injection e with e; exact h e)
          have t2 : Hid (SB w2 g 50 16 (upd T m nosl)) := hs
          have l2 : Hid (Below w.heap.size w w2) := t.out.low.trans (below_of_grown hgr hg t.out.low.size)
          obtain ⟨_, _, k2, _⟩ := H.out.of l2.out h1
          rw [← HF.out] at k2
          have u1 := us2.out.get hm
          rw [hu] at u1
          have f1 := us2.out.free m
          have t3 : Hid (UW w g gu (upd T m nosl) (w2.setCell ⟨gu, m, none⟩ (.bool false))) := by
            refine ⟨t2.out.grown (grown_set _ _ _ _) (by have h := us2.out.ne_ t2.out; intro e; injection e with e; exact h e.symm), us2.out.set_ hm false (fun j hj => ?_), l2.out.setCell hgl _⟩
            by_cases e : j = m
            · subst e; rw [upd_same, if_pos rfl]; rfl
            · rw [upd_other _ _ e, if_neg e]
          have b0 : (0 : Int) ≤ (m : Int) := by omega
          have b1 : (m : Int) ≤ 15 := by omega
          clear hok hu hs hgr c0 c2 c3 c5 t
          rcases Nat.eq_zero_or_pos m with e0 | hm0
          · subst e0
            rw [show ((0 : Nat) : Int) = 0 from rfl] at *
            clear b0 b1
            go_wp2_with fail
            go_roundw
            case rel => exact ⟨k + 1, _, by omega, by omega, by go_num, t3⟩
            case measure => simp [intOf]; omega
          · go_wp2_with fail
            go_roundw
            case rel => exact ⟨k + 1, _, by omega, by omega, by go_num, t3⟩
            case measure => simp [intOf]; omega
      · by_cases d1 : d = 1
        · subst d1
          clear d2
          go_upto_region 17 with fail
          go_cut [8, 9] from 16 to 148 (fun v8 v9 wx => v8 = .int .i64 (openN T i) ∧ v9 = .int .i64 (openE T i) ∧ Hid (SB wx g 50 16 (openT T i x) ∧ wr.drew.grownBy wx (some g)))
          case first =>
            go_region_with ((go_at_call 9; refine (open_any g T i x _ t.out.drew.tb).mono ?_; rintro e w2 ⟨rfl, hs, hgr⟩))
            all_goals (clear c0 c2 c3 c5; go_wp2_with fail; go_meet; exact ⟨rfl, rfl, hs, hgr⟩)
          case rest =>
          obtain ⟨rfl, rfl, hcc⟩ := hcut
          obtain ⟨hs, hgr⟩ := hcc.out
          clear hcc
          generalize wc = w2 at *
          clear c0 c2 c3 c5
          have us2 : Hid (US w2 gu T) := t.out.drew.us.grown hgr (by have h := t.out.us.ne_ t.out.tb; intro e; injection e with e; exact h e)
          have t2 : Hid (SB w2 g 50 16 (openT T i x)) := hs
          have l2 : Hid (Below w.heap.size w w2) := t.out.low.drew.trans (below_of_grown hgr hg t.out.low.drew.size)
          obtain ⟨n1, hn1⟩ : ∃ n1, n1 = openN T i := ⟨_, rfl⟩
          obtain ⟨e1', he1⟩ : ∃ e1, e1 = openE T i := ⟨_, rfl⟩
          rw [← hn1, ← he1]
          have HN := Lib.hid hn1; have HE := Lib.hid he1
          clear hs hgr t hn1 he1
          go_wp2_with fail
          go_loop [10] (fun v => ∃ j : Nat, j ≤ 16 ∧ v = .int .i64 j ∧ Hid (∀ j', j' < j → (T j').u = true)) (fun v => 16 - (intOf v).toNat)
          case atStart => exact ⟨0, by omega, rfl, fun j hj => absurd hj (by omega)⟩
          case round =>
            obtain ⟨j, hj, rfl, hall⟩ := hrel
            by_cases hju : j < 16 ∧ (T j).u = true
            · obtain ⟨hj3, hu⟩ := hju
              have u1 := us2.out.get hj3
              rw [hu] at u1
              have hall' : Hid (∀ j', j' < j + 1 → (T j').u = true) := fun j' hj' => by
                by_cases e : j' = j
                · subst e; exact hu
                · exact hall.out j' (by omega)
              clear hu
              go_wp2_with fail
              go_round
              case rel => exact ⟨j + 1, by omega, by go_num, hall'⟩
              case measure => simp [intOf]; omega
            · have hffj : ff T = j := by
                refine ff_eq hj hall.out (fun hj3 => ?_)
                cases hu : (T j).u
                · rfl
                · exact absurd ⟨hj3, hu⟩ hju
              obtain ⟨_, _, _, k3, _, k5⟩ := H.out.of l2.out h1
              rw [← HI.out] at k3
              rw [← HX.out] at k5
              by_cases hi0 : i < 0
              · have e1 : n1 = 0 := by rw [HN.out, openN, if_pos hi0]
                have e2 : e1' = 1 := by rw [HE.out, openE, if_pos hi0]
                have t3 : Hid (UW w g gu T w2) := ⟨by have h := t2.out; rw [openT, if_pos hi0] at h; exact h, us2.out, l2.out⟩
                subst e1 e2
                have b0 : ¬ (0 ≤ i) := by omega
                clear hi0 HN HE t2 us2 l2 hffj k5
                by_cases hj3 : j < 16
                · have u1 := t3.out.us.get hj3
                  have hu : (T j).u = false := by
                    cases hu : (T j).u
                    · rfl
                    · exact absurd ⟨hj3, hu⟩ hju
                  rw [hu] at u1
                  clear hju hu
                  go_wp2_with fail
                  go_roundw
                  case rel => exact ⟨k + 1, _, by omega, by omega, by go_num, t3⟩
                  case measure => simp [intOf]; omega
                · obtain rfl : j = 16 := by omega
                  rw [show ((16 : Nat) : Int) = 16 from rfl]
                  clear hju hj3
                  go_wp2_with fail
                  go_roundw
                  case rel => exact ⟨k + 1, _, by omega, by omega, by go_num, t3⟩
                  case measure => simp [intOf]; omega
              · have b0 : 0 ≤ i := by omega
                by_cases hj3 : j < 16
                · have hf16 : ff T < 16 := by omega
                  have e1 : n1 = (j : Int) := by rw [HN.out, openN, if_neg hi0, if_pos hf16, hffj]
                  have e2 : e1' = 0 := by rw [HE.out, openE, if_neg hi0, if_pos hf16]
                  have t3 : Hid (SB w2 g 50 16 (upd T j ⟨true, i, 0, x⟩)) := by have h := t2.out; rw [openT, if_neg hi0, if_pos hf16, hffj] at h; exact h
                  subst e1 e2
                  have hu : (T j).u = false := by
                    cases hu : (T j).u
                    · rfl
                    · exact absurd ⟨hj3, hu⟩ hju
                  have u1 := us2.out.get hj3
                  rw [hu] at u1
                  have hok : Hid (okf (upd T j ⟨true, i, 0, x⟩) j = true) := by
                    show okf _ _ = true
                    simp [okf, upd_same]; omega
                  clear hju hu hi0 HN HE t2 hffj hf16
                  go_wp2_with fail
                  refine (at_any g j _ _ t3.out).mono ?_
                  rw [closeE_yes hok.out, atV_yes hok.out, upd_same, Sl.cs]
                  rintro e w3 ⟨rfl, hb3⟩
                  have t4 : Hid (SB w3 g 50 16 (upd T j ⟨true, i, 0, x⟩)) := t3.out.next hb3
                  have us4 : Hid (US w3 gu T) := us2.out.next hb3
                  have l4 : Hid (Below w.heap.size w w3) := l2.out.trans (hb3.mono l2.out.size)
                  obtain ⟨_, _, _, k3, _, k5⟩ := H.out.of l4.out h1
                  rw [← HI.out] at k3
                  rw [← HX.out] at k5
                  have had : (ad.add (k * 6)).block < w3.heap.size := block_lt_of_cell (a := ⟨(ad.add (k * 6)).block, (ad.add (k * 6)).off + 3, none⟩) k3
                  have hq : ∀ w, (binOp .neq 33 (.agg #[.bool true, .int .i64 i, .int .i64 0, .bool x]) (.agg #[.bool true, .int .i64 i, .int .i64 0, .bool x])).run Try.prog w = .ok (.bool false) w := fun w => by
                    have h := run_neq33 ⟨true, i, 0, x⟩ ⟨true, i, 0, x⟩ w
                    rw [h, decide_eq_true rfl]; rfl
                  clear hb3 t3 us2 l2 u1
                  go_wp2_with fail
                  go_quiet (fail)
                  clear hq k3 k5
                  have t5 : ∀ q, Hid (SB ((w3.alloc (.cells #[.bool true, .int .i64 i, .int .i64 0, .bool x] 33)).drewN q) g 50 16 (upd T j ⟨true, i, 0, x⟩) ∧ US ((w3.alloc (.cells #[.bool true, .int .i64 i, .int .i64 0, .bool x] 33)).drewN q) gu T ∧ Below w.heap.size w ((w3.alloc (.cells #[.bool true, .int .i64 i, .int .i64 0, .bool x] 33)).drewN q)) := fun q =>
                    ⟨t4.out.next (below_drewN ((Below.refl _ _).alloc (Nat.le_refl _) _) q), us4.out.next (below_drewN ((Below.refl _ _).alloc (Nat.le_refl _) _) q), below_drewN (l4.out.alloc l4.out.size _) q⟩
                  obtain ⟨w4, hw4⟩ : ∃ w4, w4 = (w3.alloc (.cells #[.bool true, .int .i64 i, .int .i64 0, .bool x] 33)).drewN nq := ⟨_, rfl⟩
                  have t6 := t5 nq
                  rw [← hw4] at t6 ⊢
                  clear hw4 t5 t4 us4 l4
                  have u4 := t6.out.2.1.get hj3
                  have f4 := t6.out.2.1.free j
                  have t7 : Hid (UW w g gu (upd T j ⟨true, i, 0, x⟩) (w4.setCell ⟨gu, j, none⟩ (.bool true))) := by
                    obtain ⟨q1, q2, q3⟩ := t6.out
                    refine ⟨q1.grown (grown_set _ _ _ _) (by have h := q2.ne_ q1; intro e; injection e with e; exact h e.symm), q2.set_ hj3 true (fun j' hj' => ?_), q3.setCell hgl _⟩
                    by_cases e : j' = j
                    · subst e; rw [upd_same, if_pos rfl]
                    · rw [upd_other _ _ e, if_neg e]
                  go_wp2_with fail
                  go_roundw
                  case rel => exact ⟨k + 1, _, by omega, by omega, by go_num, t7⟩
                  case measure => simp [intOf]; omega
                · obtain rfl : j = 16 := by omega
                  have e1 : n1 = 0 := by rw [HN.out, openN, if_neg hi0, if_neg (by omega)]
                  have e2 : e1' = 15 := by rw [HE.out, openE, if_neg hi0, if_neg (by omega)]
                  have t3 : Hid (UW w g gu T w2) := ⟨by have h := t2.out; rw [openT, if_neg hi0, if_neg (by omega)] at h; exact h, us2.out, l2.out⟩
                  subst e1 e2
                  rw [show ((16 : Nat) : Int) = 16 from rfl]
                  clear hi0 HN HE t2 us2 l2 hffj hju hj3 k5
                  go_wp2_with fail
                  go_roundw
                  case rel => exact ⟨k + 1, _, by omega, by omega, by go_num, t3⟩
                  case measure => simp [intOf]; omega
        · have b1 : (d == 1) = false := by simpa using d1
          have b2 : (d == 2) = false := by simpa using d2
          clear d1 d2
          go_wp2_with fail
          go_roundw
          case rel => exact ⟨k + 1, _, by omega, by omega, by go_num, t⟩
          case measure => simp [intOf]; omega
    · obtain ⟨kk, hkk⟩ : ∃ kk : Int, kk = (k : Int) := ⟨_, rfl⟩
      have key : (decide (kk < (n : Int)) = false) ∨ (kk = 200 ∧ decide ((200 : Int) < (n : Int)) = true) := by
        by_cases e : k < n
        · right; simp; omega
        · left; simp; omega
      rw [← hkk]
      clear h1 hkk
      rcases key with key | ⟨rfl, key⟩
      all_goals
        go_wp2_with fail
        refine (works_any _).mono ?_
        rintro e w9 ⟨rfl, hb9⟩
        have B9 : Hid (Below w.heap.size w w9) := t.out.low.trans (hb9.mono t.out.low.size)
        clear hb9
        go_wp2_with fail
        go_ret
        exact ⟨rfl, B9.out⟩
end Go.Proofs.Ytaeccpoljenjmaa
