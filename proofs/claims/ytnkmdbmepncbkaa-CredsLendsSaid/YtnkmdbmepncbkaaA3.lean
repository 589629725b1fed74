import Derived.Deep.RegionWith
import Derived.Test.YtnkmdbmepncbkaaA2
import Derived.Test.YtnkmdbmepncbkaaP3
namespace Go.Proofs.Ytnkmdbmepncbkaa
open Go.RowKit Go.Hos Go.Sort

set_option maxHeartbeats 2000000 in
theorem classes_any (uid euid suid gid : Int) (A : Option Addr) (n c : Nat) (gs : List Int) (kd mu mg sz : Int) (m want : Nat) (w : World)
    (h : Reads w w.heap.size 1 A n (gs.map (Value.int .u32))) (hm1 : m ≤ 65535) (hw1 : want ≤ 255) (hn : n ≤ 65536) :
    Calls Try.prog 5 #[.agg #[.int .u32 uid, .int .u32 euid, .int .u32 suid, .int .u32 gid, .slice A n c], .agg #[.int .u8 kd, .int .u16 m, .int .u32 mu, .int .u32 mg, .int .i64 sz], .int .u8 want] w
      fun e w' => e = .returned (.bool true) ∧ Below w.heap.size w w' := by
  have H := Lib.hid h
  clear h
  have hq : decide ((65536 : Int) < n) = false := by simp; omega
  go_enter Try.func5, Try.ntmps5
  go_wp2_with fail
  have st := Bx.start w uid euid suid gid A n c kd mu mg sz m
  refine (large_any _ _ _ _ _ _ _ _).mono ?_
  rintro e w0 ⟨rfl, hb0⟩
  have st0 : Hid (Bx w uid euid suid gid A n c kd mu mg sz m w0) := st.next hb0
  have kc := st0.out.bc.cell
  have kc2 := st0.out.bm.cell
  clear st hb0
  go_wp2_with fail
  refine (class_any _ _ _ _ _ _ _ gs _ _ _ _ _ w.heap.size _ (H.out.below st0.out.low) st0.out.low.size (by omega)).mono ?_
  rintro e w1 ⟨rfl, hb1⟩
  have st1 : Hid (Bx w uid euid suid gid A n c kd mu mg sz m w1) := st0.out.next hb1
  clear kc kc2 hb1
  have kc := st1.out.bc.cell
  have kc2 := st1.out.bm.cell
  obtain ⟨k, hk⟩ : ∃ k, k = cls euid gid gs mu mg := ⟨_, rfl⟩
  have hk3 := cls_3 euid gid gs mu mg
  rw [← hk] at hk3 ⊢
  have hk0 : Hid ((k == 0) = (euid == mu)) := by
    show _ = _
    rw [hk, Bool.eq_iff_iff]
    simp only [beq_iff_eq]
    unfold cls
    by_cases e : euid = mu
    · simp [e]
    · rw [if_neg e]; split <;> simp [e]
  have HK := Lib.hid hk
  clear hk
  have z0 := st1.out.bc.lt
  have z1 := st1.out.bm.lt
  have hmod : Hid (((want : Int) % 8 = ((want % 8 : Nat) : Int))) := by show _ = _; omega
  obtain ⟨q, hqq⟩ : ∃ q, q = want % 8 / 2 * 2 := ⟨_, rfl⟩
  have b6 : bits .and .u8 ((want : Int) % 8) 6 = (q : Int) := by
    rw [hmod.out, u8_and6 (want % 8) (by omega), hqq]
  have hq7 : q ≤ 6 := by omega
  have HQ : Hid (q % 2 = 0) := by show _ = _; omega
  clear hqq
  have MAY : ∀ (j : Nat) (q : Nat) (W : World), j ≤ 65535 → q ≤ 255 → Below w.heap.size w W →
      Calls Try.prog 17 #[.agg #[.int .u32 uid, .int .u32 euid, .int .u32 suid, .int .u32 gid, .slice A n c], .agg #[.int .u8 kd, .int .u16 j, .int .u32 mu, .int .u32 mg, .int .i64 sz], .int .u8 q] W
        fun e w' => e = .returned (.bool (mayB (euid == 0) (kd == 2) (bts k j) (anyX j) q)) ∧ Below W.heap.size W w' := by
    intro j q W hj hq hs
    have := may_any uid euid suid gid A n c gs kd mu mg sz j q w.heap.size W (H.out.below hs) hs.size (by omega) hq hj
    rw [← HK.out] at this
    exact this
  have HM := Lib.hid MAY
  clear MAY
  rcases hk3 with rfl | rfl | rfl
  · have e1 : (euid == mu) = true := by rw [← hk0.out]; rfl
    cases e0 : (euid == 0)
    · have b1 : bits .and .u16 (m : Int) 448 = ((m &&& 448 : Nat) : Int) := u16_and_nat m 448 (by omega) (by omega)
      have b2 : bits .andNot .u16 (m : Int) 448 = ((m &&& (65535 - 448) : Nat) : Int) := u16_andNot_nat m 448 (by omega) (by omega)
      have ht1 : Hid (bts 0 (m &&& 448) = bts 0 m) := bts_mine 0 m
      have ht2 : Hid (bts 0 (m &&& (65535 - 448)) = 0) := bts_other 0 m
      have l1 : m &&& 448 ≤ 65535 := Nat.le_trans Nat.and_le_left hm1
      have l2 : m &&& (65535 - 448) ≤ 65535 := Nat.le_trans Nat.and_le_left hm1
      generalize m &&& 448 = m1 at *
      generalize m &&& (65535 - 448) = m2 at *
      go_wp2
      obtain ⟨W, hW⟩ : ∃ W, W = (w1.alloc (Obj.cells #[.int .u8 kd, .int .u16 m1, .int .u32 mu, .int .u32 mg, .int .i64 sz] 28)).alloc (Obj.cells #[.int .u8 kd, .int .u16 m2, .int .u32 mu, .int .u32 mg, .int .i64 sz] 28) := ⟨_, rfl⟩
      rw [← hW]
      have d1 : Blk W w.heap.size 25 #[.int .u32 uid, .int .u32 euid, .int .u32 suid, .int .u32 gid, .slice A n c] := by subst hW; exact (st1.out.bc.alloc _).alloc _
      have d2 : Blk W (w.heap.size + 1) 28 #[.int .u8 kd, .int .u16 m, .int .u32 mu, .int .u32 mg, .int .i64 sz] := by subst hW; exact (st1.out.bm.alloc _).alloc _
      have d3 : Blk W w1.heap.size 28 #[.int .u8 kd, .int .u16 m1, .int .u32 mu, .int .u32 mg, .int .i64 sz] := by subst hW; exact (Blk.new _ _ _).alloc _
      have d4 : Blk W (w1.heap.size + 1) 28 #[.int .u8 kd, .int .u16 m2, .int .u32 mu, .int .u32 mg, .int .i64 sz] := by subst hW; exact blk_at _ _ (by simp)
      have dl : Hid (Below w.heap.size w W) := by subst hW; exact (st1.out.low.alloc st1.out.low.size _).alloc (by have := st1.out.low.size; simp; omega) _
      clear hW kc kc2 z0 z1
      have c1 := fun i (d : Nat) (os : Array Obj) => ((below_regrown W d os).cell (p := ⟨w.heap.size, i, none⟩) d1.lt).trans (d1.cell i)
      have c2 := fun i (d : Nat) (os : Array Obj) => ((below_regrown W d os).cell (p := ⟨w.heap.size + 1, i, none⟩) d2.lt).trans (d2.cell i)
      have c3 := fun i (d : Nat) (os : Array Obj) => ((below_regrown W d os).cell (p := ⟨w1.heap.size, i, none⟩) d3.lt).trans (d3.cell i)
      have c4 := fun i (d : Nat) (os : Array Obj) => ((below_regrown W d os).cell (p := ⟨w1.heap.size + 1, i, none⟩) d4.lt).trans (d4.cell i)
      clear d1 d2 d3 d4
      obtain ⟨r, hr⟩ : ∃ r, r = mayB false (kd == 2) (bts 0 m) (anyX m) want := ⟨_, rfl⟩
      have MA : Hid (∀ d os, Calls Try.prog 17 #[.agg #[.int .u32 uid, .int .u32 euid, .int .u32 suid, .int .u32 gid, .slice A n c], .agg #[.int .u8 kd, .int .u16 m, .int .u32 mu, .int .u32 mg, .int .i64 sz], .int .u8 want] (grow (redrawn W d) os) fun e w' => e = .returned (.bool r) ∧ ∃ p : Regrown, w' = grow (redrawn W p.d) p.os) := by
        intro d os
        refine Calls.regrown_of ((HM.out m want _ hm1 hw1 (dl.out.trans ((below_regrown W d os).mono dl.out.size))).mono ?_)
        rintro e w' ⟨rfl, hb⟩
        exact ⟨by rw [hr, e0], hb⟩
      have MB : Hid (∀ d os, Calls Try.prog 17 #[.agg #[.int .u32 uid, .int .u32 euid, .int .u32 suid, .int .u32 gid, .slice A n c], .agg #[.int .u8 kd, .int .u16 m1, .int .u32 mu, .int .u32 mg, .int .i64 sz], .int .u8 want] (grow (redrawn W d) os) fun e w' => e = .returned (.bool r) ∧ ∃ p : Regrown, w' = grow (redrawn W p.d) p.os) := by
        intro d os
        refine Calls.regrown_of ((HM.out m1 want _ l1 hw1 (dl.out.trans ((below_regrown W d os).mono dl.out.size))).mono ?_)
        rintro e w' ⟨rfl, hb⟩
        exact ⟨by rw [hr, e0, ht1.out, may_same _ (kd == 2) _ _ (anyX m)], hb⟩
      have MC : Hid (∀ d os, Calls Try.prog 17 #[.agg #[.int .u32 uid, .int .u32 euid, .int .u32 suid, .int .u32 gid, .slice A n c], .agg #[.int .u8 kd, .int .u16 m2, .int .u32 mu, .int .u32 mg, .int .i64 sz], .int .u8 want] (grow (redrawn W d) os) fun e w' => e = .returned (.bool (want == 0)) ∧ ∃ p : Regrown, w' = grow (redrawn W p.d) p.os) := by
        intro d os
        refine Calls.regrown_of ((HM.out m2 want _ l2 hw1 (dl.out.trans ((below_regrown W d os).mono dl.out.size))).mono ?_)
        rintro e w' ⟨rfl, hb⟩
        exact ⟨by rw [e0, ht2.out, may_none], hb⟩
      have hrr : (r == r) = true := by simp
      clear hr
      have e3 : ((want : Int) == 0) = (want == 0) := by rw [Bool.eq_iff_iff]; simp only [beq_iff_eq]; omega
      cases e2 : (want == 0)
      all_goals
        rw [e2] at MC e3
        refine wp_region_quiet_below (by kernel_rfl) (by kernel_rfl) ?_
        repeat (quiet_step (first
          | (go_at_call_of 17 m1; exact MB.out _ _)
          | (go_at_call_of 17 m2; exact MC.out _ _)
          | (go_at_call_of 17 m; exact MA.out _ _)
          | (go_at_call 9; exact Calls.regrown_of (works_any _))))
        refine wpQuiet_nil ?_
        intro _ hw'
        obtain ⟨⟨dq, osq⟩, hw''⟩ := hw'
        subst hw''
        go_wp2
        go_ret
        exact ⟨rfl, dl.out.trans ((below_regrown _ _ _).mono dl.out.size)⟩
    · go_wp2_with fail
      refine (HM.out m q _ hm1 (by omega) st1.out.low).mono ?_
      rintro e w2 ⟨rfl, hb2⟩
      rw [e0, may_root _ _ _ _ (by omega) HQ.out]
      have st2 : Hid (Bx w uid euid suid gid A n c kd mu mg sz m w2) := st1.out.next hb2
      clear hb2 kc kc2
      go_wp2_with fail
      refine (works_any _).mono ?_
      rintro e w3 ⟨rfl, hb3⟩
      have HB3 := Lib.hid hb3
      clear hb3
      go_wp2
      go_ret
      exact ⟨rfl, st2.out.low.trans (HB3.out.mono st2.out.low.size)⟩
  · have e1 : (euid == mu) = false := by rw [← hk0.out]; rfl
    cases e0 : (euid == 0)
    · have b1 : bits .and .u16 (m : Int) 56 = ((m &&& 56 : Nat) : Int) := u16_and_nat m 56 (by omega) (by omega)
      have b2 : bits .andNot .u16 (m : Int) 56 = ((m &&& (65535 - 56) : Nat) : Int) := u16_andNot_nat m 56 (by omega) (by omega)
      have ht1 : Hid (bts 1 (m &&& 56) = bts 1 m) := bts_mine 1 m
      have ht2 : Hid (bts 1 (m &&& (65535 - 56)) = 0) := bts_other 1 m
      have l1 : m &&& 56 ≤ 65535 := Nat.le_trans Nat.and_le_left hm1
      have l2 : m &&& (65535 - 56) ≤ 65535 := Nat.le_trans Nat.and_le_left hm1
      generalize m &&& 56 = m1 at *
      generalize m &&& (65535 - 56) = m2 at *
      go_wp2
      obtain ⟨W, hW⟩ : ∃ W, W = (w1.alloc (Obj.cells #[.int .u8 kd, .int .u16 m1, .int .u32 mu, .int .u32 mg, .int .i64 sz] 28)).alloc (Obj.cells #[.int .u8 kd, .int .u16 m2, .int .u32 mu, .int .u32 mg, .int .i64 sz] 28) := ⟨_, rfl⟩
      rw [← hW]
      have d1 : Blk W w.heap.size 25 #[.int .u32 uid, .int .u32 euid, .int .u32 suid, .int .u32 gid, .slice A n c] := by subst hW; exact (st1.out.bc.alloc _).alloc _
      have d2 : Blk W (w.heap.size + 1) 28 #[.int .u8 kd, .int .u16 m, .int .u32 mu, .int .u32 mg, .int .i64 sz] := by subst hW; exact (st1.out.bm.alloc _).alloc _
      have d3 : Blk W w1.heap.size 28 #[.int .u8 kd, .int .u16 m1, .int .u32 mu, .int .u32 mg, .int .i64 sz] := by subst hW; exact (Blk.new _ _ _).alloc _
      have d4 : Blk W (w1.heap.size + 1) 28 #[.int .u8 kd, .int .u16 m2, .int .u32 mu, .int .u32 mg, .int .i64 sz] := by subst hW; exact blk_at _ _ (by simp)
      have dl : Hid (Below w.heap.size w W) := by subst hW; exact (st1.out.low.alloc st1.out.low.size _).alloc (by have := st1.out.low.size; simp; omega) _
      clear hW kc kc2 z0 z1
      have c1 := fun i (d : Nat) (os : Array Obj) => ((below_regrown W d os).cell (p := ⟨w.heap.size, i, none⟩) d1.lt).trans (d1.cell i)
      have c2 := fun i (d : Nat) (os : Array Obj) => ((below_regrown W d os).cell (p := ⟨w.heap.size + 1, i, none⟩) d2.lt).trans (d2.cell i)
      have c3 := fun i (d : Nat) (os : Array Obj) => ((below_regrown W d os).cell (p := ⟨w1.heap.size, i, none⟩) d3.lt).trans (d3.cell i)
      have c4 := fun i (d : Nat) (os : Array Obj) => ((below_regrown W d os).cell (p := ⟨w1.heap.size + 1, i, none⟩) d4.lt).trans (d4.cell i)
      clear d1 d2 d3 d4
      obtain ⟨r, hr⟩ : ∃ r, r = mayB false (kd == 2) (bts 1 m) (anyX m) want := ⟨_, rfl⟩
      have MA : Hid (∀ d os, Calls Try.prog 17 #[.agg #[.int .u32 uid, .int .u32 euid, .int .u32 suid, .int .u32 gid, .slice A n c], .agg #[.int .u8 kd, .int .u16 m, .int .u32 mu, .int .u32 mg, .int .i64 sz], .int .u8 want] (grow (redrawn W d) os) fun e w' => e = .returned (.bool r) ∧ ∃ p : Regrown, w' = grow (redrawn W p.d) p.os) := by
        intro d os
        refine Calls.regrown_of ((HM.out m want _ hm1 hw1 (dl.out.trans ((below_regrown W d os).mono dl.out.size))).mono ?_)
        rintro e w' ⟨rfl, hb⟩
        exact ⟨by rw [hr, e0], hb⟩
      have MB : Hid (∀ d os, Calls Try.prog 17 #[.agg #[.int .u32 uid, .int .u32 euid, .int .u32 suid, .int .u32 gid, .slice A n c], .agg #[.int .u8 kd, .int .u16 m1, .int .u32 mu, .int .u32 mg, .int .i64 sz], .int .u8 want] (grow (redrawn W d) os) fun e w' => e = .returned (.bool r) ∧ ∃ p : Regrown, w' = grow (redrawn W p.d) p.os) := by
        intro d os
        refine Calls.regrown_of ((HM.out m1 want _ l1 hw1 (dl.out.trans ((below_regrown W d os).mono dl.out.size))).mono ?_)
        rintro e w' ⟨rfl, hb⟩
        exact ⟨by rw [hr, e0, ht1.out, may_same _ (kd == 2) _ _ (anyX m)], hb⟩
      have MC : Hid (∀ d os, Calls Try.prog 17 #[.agg #[.int .u32 uid, .int .u32 euid, .int .u32 suid, .int .u32 gid, .slice A n c], .agg #[.int .u8 kd, .int .u16 m2, .int .u32 mu, .int .u32 mg, .int .i64 sz], .int .u8 want] (grow (redrawn W d) os) fun e w' => e = .returned (.bool (want == 0)) ∧ ∃ p : Regrown, w' = grow (redrawn W p.d) p.os) := by
        intro d os
        refine Calls.regrown_of ((HM.out m2 want _ l2 hw1 (dl.out.trans ((below_regrown W d os).mono dl.out.size))).mono ?_)
        rintro e w' ⟨rfl, hb⟩
        exact ⟨by rw [e0, ht2.out, may_none], hb⟩
      have hrr : (r == r) = true := by simp
      clear hr
      have e3 : ((want : Int) == 0) = (want == 0) := by rw [Bool.eq_iff_iff]; simp only [beq_iff_eq]; omega
      cases e2 : (want == 0)
      all_goals
        rw [e2] at MC e3
        refine wp_region_quiet_below (by kernel_rfl) (by kernel_rfl) ?_
        repeat (quiet_step (first
          | (go_at_call_of 17 m1; exact MB.out _ _)
          | (go_at_call_of 17 m2; exact MC.out _ _)
          | (go_at_call_of 17 m; exact MA.out _ _)
          | (go_at_call 9; exact Calls.regrown_of (works_any _))))
        refine wpQuiet_nil ?_
        intro _ hw'
        obtain ⟨⟨dq, osq⟩, hw''⟩ := hw'
        subst hw''
        go_wp2
        go_ret
        exact ⟨rfl, dl.out.trans ((below_regrown _ _ _).mono dl.out.size)⟩
    · go_wp2_with fail
      refine (HM.out m q _ hm1 (by omega) st1.out.low).mono ?_
      rintro e w2 ⟨rfl, hb2⟩
      rw [e0, may_root _ _ _ _ (by omega) HQ.out]
      have st2 : Hid (Bx w uid euid suid gid A n c kd mu mg sz m w2) := st1.out.next hb2
      clear hb2 kc kc2
      go_wp2_with fail
      refine (works_any _).mono ?_
      rintro e w3 ⟨rfl, hb3⟩
      have HB3 := Lib.hid hb3
      clear hb3
      go_wp2
      go_ret
      exact ⟨rfl, st2.out.low.trans (HB3.out.mono st2.out.low.size)⟩
  · have e1 : (euid == mu) = false := by rw [← hk0.out]; rfl
    cases e0 : (euid == 0)
    · have b1 : bits .and .u16 (m : Int) 7 = ((m &&& 7 : Nat) : Int) := u16_and_nat m 7 (by omega) (by omega)
      have b2 : bits .andNot .u16 (m : Int) 7 = ((m &&& (65535 - 7) : Nat) : Int) := u16_andNot_nat m 7 (by omega) (by omega)
      have ht1 : Hid (bts 2 (m &&& 7) = bts 2 m) := bts_mine 2 m
      have ht2 : Hid (bts 2 (m &&& (65535 - 7)) = 0) := bts_other 2 m
      have l1 : m &&& 7 ≤ 65535 := Nat.le_trans Nat.and_le_left hm1
      have l2 : m &&& (65535 - 7) ≤ 65535 := Nat.le_trans Nat.and_le_left hm1
      generalize m &&& 7 = m1 at *
      generalize m &&& (65535 - 7) = m2 at *
      go_wp2
      obtain ⟨W, hW⟩ : ∃ W, W = (w1.alloc (Obj.cells #[.int .u8 kd, .int .u16 m1, .int .u32 mu, .int .u32 mg, .int .i64 sz] 28)).alloc (Obj.cells #[.int .u8 kd, .int .u16 m2, .int .u32 mu, .int .u32 mg, .int .i64 sz] 28) := ⟨_, rfl⟩
      rw [← hW]
      have d1 : Blk W w.heap.size 25 #[.int .u32 uid, .int .u32 euid, .int .u32 suid, .int .u32 gid, .slice A n c] := by subst hW; exact (st1.out.bc.alloc _).alloc _
      have d2 : Blk W (w.heap.size + 1) 28 #[.int .u8 kd, .int .u16 m, .int .u32 mu, .int .u32 mg, .int .i64 sz] := by subst hW; exact (st1.out.bm.alloc _).alloc _
      have d3 : Blk W w1.heap.size 28 #[.int .u8 kd, .int .u16 m1, .int .u32 mu, .int .u32 mg, .int .i64 sz] := by subst hW; exact (Blk.new _ _ _).alloc _
      have d4 : Blk W (w1.heap.size + 1) 28 #[.int .u8 kd, .int .u16 m2, .int .u32 mu, .int .u32 mg, .int .i64 sz] := by subst hW; exact blk_at _ _ (by simp)
      have dl : Hid (Below w.heap.size w W) := by subst hW; exact (st1.out.low.alloc st1.out.low.size _).alloc (by have := st1.out.low.size; simp; omega) _
      clear hW kc kc2 z0 z1
      have c1 := fun i (d : Nat) (os : Array Obj) => ((below_regrown W d os).cell (p := ⟨w.heap.size, i, none⟩) d1.lt).trans (d1.cell i)
      have c2 := fun i (d : Nat) (os : Array Obj) => ((below_regrown W d os).cell (p := ⟨w.heap.size + 1, i, none⟩) d2.lt).trans (d2.cell i)
      have c3 := fun i (d : Nat) (os : Array Obj) => ((below_regrown W d os).cell (p := ⟨w1.heap.size, i, none⟩) d3.lt).trans (d3.cell i)
      have c4 := fun i (d : Nat) (os : Array Obj) => ((below_regrown W d os).cell (p := ⟨w1.heap.size + 1, i, none⟩) d4.lt).trans (d4.cell i)
      clear d1 d2 d3 d4
      obtain ⟨r, hr⟩ : ∃ r, r = mayB false (kd == 2) (bts 2 m) (anyX m) want := ⟨_, rfl⟩
      have MA : Hid (∀ d os, Calls Try.prog 17 #[.agg #[.int .u32 uid, .int .u32 euid, .int .u32 suid, .int .u32 gid, .slice A n c], .agg #[.int .u8 kd, .int .u16 m, .int .u32 mu, .int .u32 mg, .int .i64 sz], .int .u8 want] (grow (redrawn W d) os) fun e w' => e = .returned (.bool r) ∧ ∃ p : Regrown, w' = grow (redrawn W p.d) p.os) := by
        intro d os
        refine Calls.regrown_of ((HM.out m want _ hm1 hw1 (dl.out.trans ((below_regrown W d os).mono dl.out.size))).mono ?_)
        rintro e w' ⟨rfl, hb⟩
        exact ⟨by rw [hr, e0], hb⟩
      have MB : Hid (∀ d os, Calls Try.prog 17 #[.agg #[.int .u32 uid, .int .u32 euid, .int .u32 suid, .int .u32 gid, .slice A n c], .agg #[.int .u8 kd, .int .u16 m1, .int .u32 mu, .int .u32 mg, .int .i64 sz], .int .u8 want] (grow (redrawn W d) os) fun e w' => e = .returned (.bool r) ∧ ∃ p : Regrown, w' = grow (redrawn W p.d) p.os) := by
        intro d os
        refine Calls.regrown_of ((HM.out m1 want _ l1 hw1 (dl.out.trans ((below_regrown W d os).mono dl.out.size))).mono ?_)
        rintro e w' ⟨rfl, hb⟩
        exact ⟨by rw [hr, e0, ht1.out, may_same _ (kd == 2) _ _ (anyX m)], hb⟩
      have MC : Hid (∀ d os, Calls Try.prog 17 #[.agg #[.int .u32 uid, .int .u32 euid, .int .u32 suid, .int .u32 gid, .slice A n c], .agg #[.int .u8 kd, .int .u16 m2, .int .u32 mu, .int .u32 mg, .int .i64 sz], .int .u8 want] (grow (redrawn W d) os) fun e w' => e = .returned (.bool (want == 0)) ∧ ∃ p : Regrown, w' = grow (redrawn W p.d) p.os) := by
        intro d os
        refine Calls.regrown_of ((HM.out m2 want _ l2 hw1 (dl.out.trans ((below_regrown W d os).mono dl.out.size))).mono ?_)
        rintro e w' ⟨rfl, hb⟩
        exact ⟨by rw [e0, ht2.out, may_none], hb⟩
      have hrr : (r == r) = true := by simp
      clear hr
      have e3 : ((want : Int) == 0) = (want == 0) := by rw [Bool.eq_iff_iff]; simp only [beq_iff_eq]; omega
      cases e2 : (want == 0)
      all_goals
        rw [e2] at MC e3
        refine wp_region_quiet_below (by kernel_rfl) (by kernel_rfl) ?_
        repeat (quiet_step (first
          | (go_at_call_of 17 m1; exact MB.out _ _)
          | (go_at_call_of 17 m2; exact MC.out _ _)
          | (go_at_call_of 17 m; exact MA.out _ _)
          | (go_at_call 9; exact Calls.regrown_of (works_any _))))
        refine wpQuiet_nil ?_
        intro _ hw'
        obtain ⟨⟨dq, osq⟩, hw''⟩ := hw'
        subst hw''
        go_wp2
        go_ret
        exact ⟨rfl, dl.out.trans ((below_regrown _ _ _).mono dl.out.size)⟩
    · go_wp2_with fail
      refine (HM.out m q _ hm1 (by omega) st1.out.low).mono ?_
      rintro e w2 ⟨rfl, hb2⟩
      rw [e0, may_root _ _ _ _ (by omega) HQ.out]
      have st2 : Hid (Bx w uid euid suid gid A n c kd mu mg sz m w2) := st1.out.next hb2
      clear hb2 kc kc2
      go_wp2_with fail
      refine (works_any _).mono ?_
      rintro e w3 ⟨rfl, hb3⟩
      have HB3 := Lib.hid hb3
      clear hb3
      go_wp2
      go_ret
      exact ⟨rfl, st2.out.low.trans (HB3.out.mono st2.out.low.size)⟩
end Go.Proofs.Ytnkmdbmepncbkaa
