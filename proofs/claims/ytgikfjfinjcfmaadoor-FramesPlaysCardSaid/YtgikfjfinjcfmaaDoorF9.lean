import Derived.Test.YtgikfjfinjcfmaaDoorF8
import Derived.Lib.SlBuf
namespace Go.Proofs.YtgikfjfinjcfmaaDoor
open Go.RowKit Go.Hos
set_option linter.unusedVariables false
theorem info5 : (Tryd.prog.info? 5).map (·.size) = some 1 := by kernel_rfl

theorem run_copy_reads {w : World} {g o L cap m q B' : Nat} {A : Option Addr} {bs : List Nat} (ty : TypeId) (hr : Reads w B' 1 A m (u8s bs)) (hm : m ≤ L) (th : w.there g o m) :
    (Builtin.copy_ #[42, 42] ty #[.slice (some ⟨g, o, none⟩) L cap, .slice A m q]).run Tryd.prog w = .ok (goInt m) (w.setCells g o (u8s bs)) := by
  have hl : (u8s bs).length = m := by have := hr.1; omega
  rcases Nat.eq_zero_or_pos m with e | e
  · subst e
    rw [List.eq_nil_of_length_eq_zero hl]
    exact run_copy_none w 42 42 ty 5 _ _ _ _ _ _ Tryd.underlying42 info5 (Nat.min_eq_left (Nat.zero_le _))
  · obtain ⟨ad, rfl, _, hc⟩ := hr.2 e
    have := run_copy_cells w 42 42 ty 5 g o L cap ad m q (u8s bs) Tryd.underlying42 info5 (by rw [hl]; exact (Nat.min_eq_left hm).symm) hc (fun j hj => (th j (by omega)).1) (fun j hj => (th j (by omega)).2) (u8s_one bs)
    rw [hl] at this
    exact this
theorem run_copy_zero {w : World} {L cap m q B' : Nat} {d A : Option Addr} {bs : List Nat} (ty : TypeId) (hm : m = 0) :
    (Builtin.copy_ #[42, 42] ty #[.slice d L cap, .slice A m q]).run Tryd.prog w = .ok (goInt 0) w := by
  subst hm
  exact run_copy_none w 42 42 ty 5 _ _ _ _ _ _ Tryd.underlying42 info5 (Nat.min_eq_left (Nat.zero_le _))

def stB (C : Nat → Nat) (n : Nat) (x y : Int) (m : Nat) : Bool := tkB C n x && decide (0 ≤ y) && decide (y + m ≤ 4096)
def stD (C : Nat → Nat) (n : Nat) (x y : Int) (bs : List Nat) (D : Nat → Nat → Nat) : Nat → Nat → Nat := if stB C n x y bs.length then upd D x.toNat (ov (D x.toNat) y.toNat bs) else D

set_option maxRecDepth 20000 in
set_option maxHeartbeats 1600000 in
theorem store_any {B p c b f n m q B' : Nat} {C Fb : Nat → Nat} {D : Nat → Nat → Nat} {A : Option Addr} {bs : List Nat} (x y : Int) (w : World) (h : PM B w p c b f n C Fb D) (hr : Reads w B' 1 A m (u8s bs)) (hm : m ≤ maxLen) :
    Calls Tryd.prog 25 #[.pointer (some ⟨p, 0, none⟩), .int .i64 x, .int .i64 y, .slice A m q] w fun e w' => e = .returned (.int .i64 (if stB C n x y m then 0 else 1)) ∧
      PM B w' p c b f n C Fb (stD C n x y bs D) ∧ KF c w w' ∧ Below B w w' := by
  have hn := h.nn
  have H := Lib.hid h
  have hbm : bs.length = m := by have := hr.1; rw [u8s_len] at this; omega
  have HR := Lib.hid hr
  by_cases hx : tkB C n x = true
  · have HX := Lib.hid hx
    obtain ⟨k, rfl, hk, hc⟩ := tkB_yes hx
    by_cases hy0 : 0 ≤ y
    · obtain ⟨o, rfl⟩ := Int.eq_ofNat_of_zero_le hy0
      by_cases hom : o + m ≤ 4096
      · have hs : stB C n k o m = true := by simp [stB, hx]; omega
        rw [stD, hbm, hs, if_pos rfl, if_pos rfl, Int.toNat_natCast, Int.toNat_natCast]
        obtain ⟨P, hP, hP2⟩ := h.bb
        have qb : w.cell? ⟨b, k, none⟩ = some (.pointer (some ⟨Fb k, 0, none⟩)) := by rw [hP.get hk, hP2 k hk hc]
        obtain ⟨g, hg⟩ : ∃ g, g = Fb k := ⟨_, rfl⟩
        rw [← hg] at qb
        have q1 := h.head.2.1
        have pm := Lib.hid (PM.lay h hk hc o bs)
        rw [← hg] at pm
        have th : Hid (w.there g o m) := by rw [hg]; exact (h.fr k hk hc).there o m hom
        have b1 : (0 : Int) ≤ (k : Int) := by omega
        have b2 : (k : Int) < (n : Int) := by omega
        have b3 : ¬ (o : Int) < 0 := by omega
        have b4 : ¬ (4096 : Int) < (o : Int) := by omega
        have b5 : ¬ (4096 : Int) - (o : Int) < (m : Int) := by omega
        have kf : Hid (KF c w (w.setCells g o (u8s bs)) ∧ Below B w (w.setCells g o (u8s bs))) := by
          rw [hg]
          exact ⟨KF.sets (h.fr k hk hc) _ _, Below.sets (h.bs.2.2.2.2 k hk hc) _ _ _ (Below.refl _ _)⟩
        clear h hr hx hy0 hs hc hP hP2 hg
        by_cases h4 : 4096 = o
        · obtain rfl : m = 0 := by omega
          have hbs : bs = [] := List.eq_nil_of_length_eq_zero (by omega)
          rw [hbs] at pm kf ⊢
          clear th hbs
          go_enter Tryd.func25, Tryd.ntmps25
          go_wp2_with fail
          refine (taken_any k _ H.out).mono ?_
          rw [HX.out]
          rintro e w' ⟨rfl, rfl⟩
          go_wp2_with (refine Lib.wpList_copy_run _ rfl (.tmp 41) (.tmp 42) 42 42 rfl _ _ rfl rfl (run_copy_zero (bs := []) (B' := 0) _ rfl) ?_)
          go_wp2_with fail
          go_ret
          exact ⟨rfl, pm.out, kf.out.1, kf.out.2⟩
        · go_enter Tryd.func25, Tryd.ntmps25
          go_wp2_with fail
          refine (taken_any k _ H.out).mono ?_
          rw [HX.out]
          rintro e w' ⟨rfl, rfl⟩
          go_wp2_with (refine Lib.wpList_copy_run _ rfl (.tmp 41) (.tmp 42) 42 42 rfl _ _ rfl rfl (run_copy_reads (o := o) (g := g) _ HR.out (by omega) th.out) ?_)
          go_wp2_with fail
          go_ret
          exact ⟨rfl, pm.out, kf.out.1, kf.out.2⟩
      · by_cases h4 : 4096 < (o : Int)
        · have b3 : ¬ (o : Int) < 0 := by omega
          have hs : stB C n k o m = false := by simp [stB, hx]; omega
          rw [stD, hbm, hs]
          clear h hr hx
          go_enter Tryd.func25, Tryd.ntmps25
          go_wp2_with fail
          refine (taken_any k _ H.out).mono ?_
          rw [HX.out]
          rintro e w' ⟨rfl, rfl⟩
          go_wp2_with fail
          go_ret
          exact ⟨rfl, by simpa using H.out, KF.refl _ _, Below.refl _ _⟩
        · have b3 : ¬ (o : Int) < 0 := by omega
          have b5 : (4096 : Int) - (o : Int) < (m : Int) := by omega
          have hs : stB C n k o m = false := by simp [stB, hx]; omega
          rw [stD, hbm, hs]
          clear h hr hx
          go_enter Tryd.func25, Tryd.ntmps25
          go_wp2_with fail
          refine (taken_any k _ H.out).mono ?_
          rw [HX.out]
          rintro e w' ⟨rfl, rfl⟩
          go_wp2_with fail
          go_ret
          exact ⟨rfl, by simpa using H.out, KF.refl _ _, Below.refl _ _⟩
    · have b3 : y < 0 := by omega
      have hs : stB C n k y m = false := by simp [stB, hx]; omega
      rw [stD, hbm, hs]
      clear h hr hx
      go_enter Tryd.func25, Tryd.ntmps25
      go_wp2_with fail
      refine (taken_any k _ H.out).mono ?_
      rw [HX.out]
      rintro e w' ⟨rfl, rfl⟩
      go_wp2_with fail
      go_ret
      exact ⟨rfl, by simpa using H.out, KF.refl _ _, Below.refl _ _⟩
  · have hx : tkB C n x = false := by simpa using hx
    have HX := Lib.hid hx
    have hs : stB C n x y m = false := by simp [stB, hx]
    rw [stD, hbm, hs]
    clear h hr hx
    go_enter Tryd.func25, Tryd.ntmps25
    go_wp2_with fail
    refine (taken_any x _ H.out).mono ?_
    rw [HX.out]
    rintro e w' ⟨rfl, rfl⟩
    go_wp2_with fail
    go_ret
    exact ⟨rfl, by simpa using H.out, KF.refl _ _, Below.refl _ _⟩
end Go.Proofs.YtgikfjfinjcfmaaDoor
