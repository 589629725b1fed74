import Derived.Test.YtaeccpoljenjmaaW5
import Derived.Test.YtaeccpoljenjmaaArgs
import Derived.StillTailTactics
import Derived.BigQuiet
import Derived.Deep.QuietTactic
namespace Go.Hos
/-- a slot that is not used is empty -/
def WF (T : Nat → Sl) : Prop := ∀ k, k < 16 → (T k).u = false → T k = nosl
theorem wf_upd {T : Nat → Sl} {k : Nat} {s : Sl} (h : WF T) (hs : s.u = false → s = nosl) : WF (upd T k s) := fun j hj hu => by
  by_cases e : j = k
  · subst e; rw [upd_same] at hu ⊢; exact hs hu
  · rw [upd_other _ _ e] at hu ⊢; exact h j hj hu
theorem wf_open {T : Nat → Sl} (h : WF T) (i : Int) (x : Bool) : WF (openT T i x) := by
  unfold openT
  split
  · exact h
  · split
    · exact wf_upd h (by simp)
    · exact h
theorem wf_close {T : Nat → Sl} (h : WF T) (f : Int) : WF (closeT T f) := by
  unfold closeT
  split
  · exact wf_upd h (fun _ => rfl)
  · exact h
theorem wf_move {T : Nat → Sl} (h : WF T) (f p : Int) : WF (moveT T f p) := by
  unfold moveT
  split
  · next hf =>
    split
    · exact h
    · refine wf_upd h (fun hu => ?_)
      simp only [okf, Bool.and_eq_true] at hf
      rw [hf.2] at hu; cases hu
  · exact h
end Go.Hos
namespace Go.Proofs.Ytaeccpoljenjmaa
open Go.RowKit Go.Hos
set_option linter.unusedVariables false

theorem OpR.at_ {W W' : World} {B : Nat} {A : Option Addr} {n : Nat} {O : Nat → OpD} (h : OpR W B A n O) (hb : Below B W W') {i : Nat} (hi : i < n) : ∃ ad, A = some ad ∧ W'.cell? (ad.add (i * 6)) = some (.int .i64 (O i).d) ∧ W'.cell? ⟨(ad.add (i * 6)).block, (ad.add (i * 6)).off + 1, none⟩ = some (.int .i64 (O i).t) ∧ W'.cell? ⟨(ad.add (i * 6)).block, (ad.add (i * 6)).off + 2, none⟩ = some (.int .i64 (O i).f) ∧
    W'.cell? ⟨(ad.add (i * 6)).block, (ad.add (i * 6)).off + 3, none⟩ = some (.int .i64 (O i).i) ∧ W'.cell? ⟨(ad.add (i * 6)).block, (ad.add (i * 6)).off + 4, none⟩ = some (.int .i64 (O i).p) ∧ W'.cell? ⟨(ad.add (i * 6)).block, (ad.add (i * 6)).off + 5, none⟩ = some (.bool (O i).x) ∧ (O i).ok := by
  obtain ⟨ad, rfl, hlt, h0, h1, h2, h3, h4, h5, ho⟩ := h i hi
  have k : ∀ j, W'.cell? (ad.add j) = W.cell? (ad.add j) := fun j => hb.cell (by rw [block_of_add]; exact hlt)
  have e : ∀ i j, 0 < j → ad.add (i + j) = ⟨(ad.add i).block, (ad.add i).off + j, none⟩ := fun i j hj => by
    rw [← add_of_add]; unfold Addr.add; rw [if_neg (by omega : ¬ j = 0)]
  exact ⟨ad, rfl, (k _).trans h0, by rw [← e _ 1 (by omega)]; exact (k _).trans h1, by rw [← e _ 2 (by omega)]; exact (k _).trans h2, by rw [← e _ 3 (by omega)]; exact (k _).trans h3, by rw [← e _ 4 (by omega)]; exact (k _).trans h4, by rw [← e _ 5 (by omega)]; exact (k _).trans h5, ho⟩

/-- a table, and all that was there below it -/
structure TW (w : World) (g : Nat) (T : Nat → Sl) (W : World) : Prop where
  tb : SB W g 50 16 T
  wf : WF T
  low : Below w.heap.size w W

theorem TW.drew {w : World} {g : Nat} {T : Nat → Sl} {W : World} (h : TW w g T W) : TW w g T W.drew := ⟨h.tb.next (Below.refl _ _).drew, h.wf, h.low.drew⟩
theorem drewc {W : World} {a : Addr} {v : Value} (h : W.cell? a = some v) : ({ heap := W.heap, tape := W.tape, drawn := W.drawn + 1, os := W.os, output := W.output } : World).cell? a = some v := h
theorem TW.open_ {w : World} {g : Nat} {T : Nat → Sl} {W : World} (t : TW w g T W) (hg : w.heap.size ≤ g) (i : Int) (x : Bool) :
    Calls Try.prog 9 #[.pointer (some ⟨g, 0, none⟩), .int .i64 i, .bool x] W fun e w' => e = .returned (.tuple #[.int .i64 (openN T i), .int .i64 (openE T i)]) ∧ Hid (TW w g (openT T i x) w') := by
  refine (open_any g T i x _ t.tb).mono ?_
  rintro e w' ⟨rfl, hs, hb⟩
  exact ⟨rfl, hs, wf_open t.wf _ _, t.low.trans (below_of_grown hb hg t.low.size)⟩

theorem TW.close_ {w : World} {g : Nat} {T : Nat → Sl} {W : World} (t : TW w g T W) (hg : w.heap.size ≤ g) (f : Int) :
    Calls Try.prog 8 #[.pointer (some ⟨g, 0, none⟩), .int .i64 f] W fun e w' => e = .returned (.int .i64 (closeE T f)) ∧ Hid (TW w g (closeT T f) w') := by
  refine (close_any g f T _ t.tb).mono ?_
  rintro e w' ⟨rfl, hs, hb⟩
  exact ⟨rfl, hs, wf_close t.wf _, t.low.trans (below_of_grown hb hg t.low.size)⟩
theorem TW.move_ {w : World} {g : Nat} {T : Nat → Sl} {W : World} (t : TW w g T W) (hg : w.heap.size ≤ g) (f p : Int) :
    Calls Try.prog 17 #[.pointer (some ⟨g, 0, none⟩), .int .i64 f, .int .i64 p] W fun e w' => e = .returned (.int .i64 (moveE T f p)) ∧ Hid (TW w g (moveT T f p) w') := by
  refine (move_any g f p T _ t.tb).mono ?_
  rintro e w' ⟨rfl, hs, hb⟩
  exact ⟨rfl, hs, wf_move t.wf _ _, t.low.trans (below_of_grown hb hg t.low.size)⟩

set_option maxRecDepth 20000 in
set_option maxHeartbeats 1600000 in
theorem sweeps_any (A : Option Addr) (n c : Nat) (O : Nat → OpD) (w : World) (h : OpR w w.heap.size A n O) (hn : n ≤ maxLen) :
    Calls Try.prog 5 #[.slice A n c] w fun e w' => e = .returned (.bool true) ∧ Below w.heap.size w w' := by
  unfold maxLen at hn
  have H := Lib.hid h
  clear h
  go_enter Try.func5, Try.ntmps5
  go_wp2_with fail
  refine (new_any _).mono ?_
  rintro e w1 ⟨g, rfl, hg, hs, hb⟩
  have t1 : Hid (TW w g emptyT w1) := ⟨hs, fun _ _ _ => rfl, hb⟩
  clear hs hb
  go_wp2_with fail
  go_loopw [4] (fun i wr => ∃ (k : Nat) (T : Nat → Sl), k ≤ n ∧ k ≤ 200 ∧ i = .int .i64 k ∧ Hid (TW w g T wr)) (fun i _ => 200 - (intOf i).toNat)
  case atStart => exact ⟨0, _, by omega, by omega, rfl, t1⟩
  case round =>
    obtain ⟨k, T, hk, hk2, rfl, t⟩ := hrel
    by_cases h1 : k < n ∧ k < 200
    · obtain ⟨h1, h2⟩ := h1
      obtain ⟨ad, rfl, c0, c1, c2, c3, c4, c5, _⟩ := H.out.at_ t.out.low h1
      have e200 : decide ((k : Int) < 200) = true := by simp; omega
      obtain ⟨d, hd⟩ : ∃ d, d = (O k).d := ⟨_, rfl⟩
      rw [← hd] at c0
      clear hd
      by_cases d1 : d = 1
      · subst d1
        go_wp2_with fail
        have c3d := drewc c3
        have c5d := drewc c5
        go_still_tail 11, (by kernel_rfl)
        change wpList _ _ _ _ _ wr.drew
        clear c3d c5d c0 c1 c2 c3 c4 c5
        go_wp2_with fail
        refine (t.out.drew.open_ hg _ _).mono ?_
        rintro e w2 ⟨rfl, t2⟩
        go_wp2_with fail
        go_roundw
        case rel => exact ⟨k + 1, _, by omega, by omega, by go_num, t2⟩
        case measure => simp [intOf]; omega
      · by_cases d2 : d = 2
        · subst d2
          go_wp2_with fail
          refine (t.out.close_ hg _).mono ?_
          rintro e w2 ⟨rfl, t2⟩
          clear c0 c1 c2 c3 c4 c5 d1
          go_wp2_with fail
          go_roundw
          case rel => exact ⟨k + 1, _, by omega, by omega, by go_num, t2⟩
          case measure => simp [intOf]; omega
        · by_cases d4 : d = 4
          · subst d4
            clear d1 d2
            go_wp2_with fail
            have c2d := drewc c2
            have c4d := drewc c4
            go_still_tail 11, (by kernel_rfl)
            change wpList _ _ _ _ _ wr.drew
            clear c2d c4d c0 c1 c2 c3 c4 c5
            go_wp2_with fail
            refine (t.out.drew.move_ hg _ _).mono ?_
            rintro e w2 ⟨rfl, t2⟩
            go_wp2_with fail
            go_roundw
            case rel => exact ⟨k + 1, _, by omega, by omega, by go_num, t2⟩
            case measure => simp [intOf]; omega
          · have b1 : (d == 1) = false := by simpa using d1
            have b2 : (d == 2) = false := by simpa using d2
            have b4 : (d == 4) = false := by simpa using d4
            clear d1 d2 d4
            go_wp2_with fail
            go_roundw
            case rel => exact ⟨k + 1, _, by omega, by omega, by go_num, t⟩
            case measure => simp [intOf]; omega
    · obtain ⟨kk, hkk⟩ : ∃ kk : Int, kk = (k : Int) := ⟨_, rfl⟩
      have key : (decide (kk < (n : Int)) = false) ∨ (kk = 200 ∧ decide ((200 : Int) < (n : Int)) = true) := by
        by_cases e : k < n
        · right; simp; omega
        · left; simp; omega
      rw [← hkk]
      clear h1 hkk
      rcases key with key | ⟨rfl, key⟩
      all_goals
        go_wp2_with fail
        refine (list_any g T _ t.out.tb).mono ?_
        rintro e w2 ⟨g1, c1, rfl, hg1, hs1, hb1⟩
        have x2 : Hid (TW w g T w2) := ⟨t.out.tb.next hb1, t.out.wf, t.out.low.trans (hb1.mono t.out.low.size)⟩
        have L2 : Hid (SB w2 g1 33 c1 T) := hs1
        have gg1 : w.heap.size ≤ g1 := Nat.le_trans t.out.low.size hg1
        clear hs1 hb1 t
        go_wp2_with fail
        refine (fork_any g T _ x2.out.tb).mono ?_
        rintro e w3 ⟨g2, rfl, hg2, hs2, hb2⟩
        have x3 : Hid (TW w g T w3) := ⟨x2.out.tb.next hb2, x2.out.wf, x2.out.low.trans (hb2.mono x2.out.low.size)⟩
        have L3 : Hid (SB w3 g1 33 c1 T) := L2.out.next hb2
        have F3 : Hid (SB w3 g2 50 16 T) := hs2
        have gf : g ≠ g2 := by have := x2.out.tb.lt; omega
        have gg2 : w.heap.size ≤ g2 := Nat.le_trans x2.out.low.size hg2
        clear hs2 hb2 x2 L2
        go_wp2_with fail
        refine (sweep_any g T _ x3.out.tb).mono ?_
        rintro e w4 ⟨rfl, hs, hgr⟩
        have S4 : Hid (SB w4 g 50 16 (sweepT T 16)) := hs
        have F4 : Hid (SB w4 g2 50 16 T) := F3.out.grown hgr (by intro e; injection e with e; exact gf e.symm)
        have L4 : Hid (SB w4 g1 33 c1 T) := L3.out.grown hgr (by have h := L3.out.ne_ x3.out.tb (by decide); intro e; injection e with e; exact h e)
        have B4 : Hid (Below w.heap.size w w4) := x3.out.low.trans (below_of_grown hgr hg x3.out.low.size)
        have HW : Hid (WF T) := x3.out.wf
        clear hs hgr F3 L3 x3
        go_wp2_with fail
        refine (list_any g _ _ S4.out).mono ?_
        rintro e w5 ⟨g3, c3, rfl, hg3, hs3, hb3⟩
        have L5 : Hid (SB w5 g1 33 c1 T) := L4.out.next hb3
        have N5 : Hid (SB w5 g3 33 c3 (sweepT T 16)) := hs3
        have F5 : Hid (SB w5 g2 50 16 T) := F4.out.next hb3
        have B5 : Hid (Below w.heap.size w w5) := B4.out.trans (hb3.mono B4.out.size)
        clear hs3 hb3 S4 F4 L4 B4
        go_wp2_with fail
        refine (list_any g2 T _ F5.out).mono ?_
        rintro e w6 ⟨g4, c4, rfl, hg4, hs4, hb4⟩
        have L6 : Hid (SB w6 g1 33 c1 T) := L5.out.next hb4
        have M6 : Hid (SB w6 g4 33 c4 T) := hs4
        have N6 : Hid (SB w6 g3 33 c3 (sweepT T 16)) := N5.out.next hb4
        have B6 : Hid (Below w.heap.size w w6) := B5.out.trans (hb4.mono B5.out.size)
        clear hs4 hb4 L5 F5 N5 B5
        go_wp2_with fail
        refine (eq_same g4 g1 c4 c1 _ _ _ _ T _ M6.out L6.out).mono ?_
        rintro e w7 ⟨rfl, hb7⟩
        have L7 : Hid (SB w7 g1 33 c1 T) := L6.out.next hb7
        have N7 : Hid (SB w7 g3 33 c3 (sweepT T 16)) := N6.out.next hb7
        have B7 : Hid (Below w.heap.size w w7) := B6.out.trans (hb7.mono B6.out.size)
        clear hb7 L6 M6 N6 B6
        go_wp2_with fail
        go_loopw [8] (fun i wr => ∃ k : Nat, k ≤ 16 ∧ i = .int .i64 k ∧ Hid (Below w7.heap.size w7 wr)) (fun i _ => 16 - (intOf i).toNat)
        case atStart => exact ⟨0, by omega, rfl, Below.refl _ _⟩
        case round =>
          obtain ⟨j, hj, rfl, hbj⟩ := hrel
          by_cases hj3 : j < 16
          · have ej : decide ((j : Int) < 16) = true := by simp; omega
            obtain ⟨a1, a2, a3, a4⟩ := (L7.out.next hbj.out).cells hj3
            obtain ⟨b1, b2, b3, b4⟩ := (N7.out.next hbj.out).cells hj3
            have l1 := (L7.out.next hbj.out).lt
            have l3 := (N7.out.next hbj.out).lt
            have hwf := HW.out j hj3
            have hqz : ∀ w, (binOp .neq 33 (.agg #[.bool false, .int .i64 0, .int .i64 0, .bool false]) (.agg #[.bool false, .int .i64 0, .int .i64 0, .bool false])).run Try.prog w = .ok (.bool false) w := fun w => run_neq33 nosl nosl w
            cases hx : (T j).x
            · have e : sweepT T 16 j = T j := by unfold sweepT; rw [if_neg (by rw [hx]; simp)]
              rw [e] at b1 b2 b3 b4
              rw [hx] at a4 b4
              have hq : ∀ w, (binOp .neq 33 (.agg #[.bool (T j).u, .int .i64 (T j).i, .int .i64 (T j).p, .bool false]) (.agg #[.bool (T j).u, .int .i64 (T j).i, .int .i64 (T j).p, .bool false])).run Try.prog w = .ok (.bool false) w := fun w => by
                have h := run_neq33 (T j) (T j) w
                rw [hx] at h; rw [h, decide_eq_true rfl]; rfl
              have hq0 : ∀ w, (binOp .neq 33 (.agg #[.bool (T j).u, .int .i64 (T j).i, .int .i64 (T j).p, .bool false]) (.agg #[.bool false, .int .i64 0, .int .i64 0, .bool false])).run Try.prog w = .ok (.bool (T j).u) w := fun w => by
                have h := run_neq33 (T j) nosl w
                rw [hx] at h; rw [show (Value.agg #[.bool false, .int .i64 0, .int .i64 0, .bool false]) = .agg #[.bool nosl.u, .int .i64 nosl.i, .int .i64 nosl.p, .bool nosl.x] from rfl, h]
                cases hu : (T j).u
                · rw [decide_eq_true (hwf hu)]; rfl
                · rw [decide_eq_false (fun e => by rw [e] at hu; cases hu)]; rfl
              generalize (T j).u = u at *; generalize (T j).i = i at *; generalize (T j).p = p at *
              clear e hx hwf
              go_wp2_with fail
              go_quiet (fail)
              clear hq hq0 hqz a1 a2 a3 a4 b1 b2 b3 b4
              go_wp2_with fail
              go_roundw
              case rel => exact ⟨j + 1, by omega, by go_num, below_drewN (hbj.out.alloc hbj.out.size _) _⟩
              case measure => simp [intOf]; omega
            · have e : sweepT T 16 j = nosl := by unfold sweepT; rw [if_pos ⟨hj3, hx⟩]
              rw [e, nosl] at b1 b2 b3 b4
              rw [hx] at a4
              generalize (T j).u = u at *; generalize (T j).i = i at *; generalize (T j).p = p at *
              clear e hx hwf
              go_wp2_with fail
              go_quiet (fail)
              clear hqz a1 a2 a3 a4 b1 b2 b3 b4
              go_wp2_with fail
              go_roundw
              case rel => exact ⟨j + 1, by omega, by go_num, below_drewN (hbj.out.alloc hbj.out.size _) _⟩
              case measure => simp [intOf]; omega
          · obtain rfl : j = 16 := by omega
            rw [show ((16 : Nat) : Int) = 16 from rfl]
            go_wp2_with fail
            refine (works_any _).mono ?_
            rintro e w9 ⟨rfl, hb9⟩
            have B9 : Hid (Below w.heap.size w w9) := by
              have h := B7.out.trans (hbj.out.mono B7.out.size)
              exact h.trans (hb9.mono h.size)
            clear hb9
            go_wp2_with fail
            go_ret
            exact ⟨rfl, B9.out⟩
end Go.Proofs.Ytaeccpoljenjmaa
