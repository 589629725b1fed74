import Derived.Test.YtneleioiondapaaY22
import Derived.StillTailTactics
namespace Go.Proofs.Ytneleioiondapaa
open Go.RowKit Go.Shelf Go.Hos
set_option linter.unusedVariables false
theorem drewc {w : World} {a : Addr} {v : Option Value} (h : w.cell? a = v) : w.drew.cell? a = v := h
set_option maxRecDepth 20000 in
set_option maxHeartbeats 1600000 in
theorem same_any (A A' : Option Addr) (m c c' : Nat) (O O' : Nat → ObjD) (X : Nat → (Nat → ByteArray) × (Nat → RelD)) (w : World) (hR : ObjR w w.heap.size A m O) (hX : ObjX w w.heap.size m O X) (hR' : ObjR w w.heap.size A' m O') (hX' : ObjX w w.heap.size m O' X) (al : ∀ j, SameD (O j) (O' j)) :
    Calls Try.prog 11 #[.slice A' m c', .slice A m c] w fun e W' => e = .returned (.bool true) ∧ Below w.heap.size w W' := by
  have hm := hR.len
  have hmm : maxLen = 9223372036854775807 := by simp [maxLen]
  have H := Lib.hid hR; have HX := Lib.hid hX; have H' := Lib.hid hR'; have HX' := Lib.hid hX'; have AL := Lib.hid al
  have q1 : ((m : Int) == (m : Int)) = true := by simp
  clear hR hX hR' hX' al
  go_enter Try.func11, Try.ntmps11
  go_wp2_with fail
  go_loopw [5] (fun v5 wr => ∃ i : Nat, i ≤ m ∧ v5 = .int .i64 i ∧ Hid (Below w.heap.size w wr)) (fun v5 _ => m - (intOf v5).toNat)
  case atStart => exact ⟨0, Nat.zero_le _, rfl, Lib.hid (Below.refl _ _)⟩
  case round =>
    obtain ⟨i, hi, rfl, bl⟩ := hrel
    by_cases him : i < m
    · have e1 : decide ((i : Int) < (m : Int)) = true := by simp; omega
      have e2 : (i : Int) < (m : Int) := by omega
      have hzw := bl.out.size
      obtain ⟨ad, rfl, had, c0, c1, c2, c3, c4, c5, c6, c7, c8, c9, c10⟩ := (H.out.below bl.out).cells him
      obtain ⟨ad', rfl, had', k0, k1, k2, k3, k4, k5, k6, k7, k8, k9, k10⟩ := (H'.out.below bl.out).cells him
      have hsy := ((H.out.below bl.out).sy i him)
      have hsy' := ((H'.out.below bl.out).sy i him)
      obtain ⟨x1, x2, x3, x4⟩ := (HX.out.below bl.out) i him
      obtain ⟨y1, y2, y3, y4⟩ := (HX'.out.below bl.out) i him
      obtain ⟨nA', nQ', sA', sQ', rA', rQ', ee⟩ := AL.out i
      rw [ee] at k0 k1 k2 k3 k4 k5 k6 k7 k8 k9 k10 hsy' y1 y3
      obtain ⟨o, ho⟩ : ∃ o, o = O i := ⟨_, rfl⟩
      obtain ⟨x, hx⟩ : ∃ x, x = X i := ⟨_, rfl⟩
      rw [← ho] at c0 c1 c2 c3 c4 c5 c6 c7 c8 c9 c10 hsy x1 x2 x3 x4 k0 k1 k2 k3 k4 k5 k6 k7 k8 k9 k10 hsy' y1 y3
      rw [← hx] at x1 x3 y1 y3
      obtain ⟨ino, base, ty, en, ph, gA, gM, gQ, nA, nM, nQ, so, rn, sA, sM, sQ, rA, rM, rQ, sy⟩ := o
      dsimp only at c0 c1 c2 c3 c4 c5 c6 c7 c8 c9 c10 hsy x1 x2 x3 x4 k0 k1 k2 k3 k4 k5 k6 k7 k8 k9 k10 hsy' y1 y3
      have X1 := Lib.hid x1; have X3 := Lib.hid x3; have HSY := Lib.hid hsy.1; have X1' := Lib.hid y1; have X3' := Lib.hid y3; have HSY' := Lib.hid hsy'.1
      have hsl := hsy.2
      have lad := World.block_lt_of_cell? _ _ c1
      have lad' := World.block_lt_of_cell? _ _ k1
      have t1 : (ino == ino) = true := by simp
      have t2 : (base == base) = true := by simp
      have t3 : (ino != ino) = false := by simp
      have t4 : (base != base) = false := by simp
      clear ho hx x1 x3 y1 y3 hsy hsy' ee y2 y4 c2 c3 c4 c5 k2 k3 k4 k5
      have c0d := drewc c0; have c1d := drewc c1; have c6d := drewc c6; have c7d := drewc c7; have c8d := drewc c8; have c9d := drewc c9; have c10d := drewc c10
      have k0d := drewc k0; have k1d := drewc k1; have k6d := drewc k6; have k7d := drewc k7; have k8d := drewc k8; have k9d := drewc k9; have k10d := drewc k10
      go_wp2_with fail
      go_still_tail 35, (by kernel_rfl)
      change wpList _ _ _ _ _ wr.drew
      clear c0d c1d c6d c7d c8d c9d c10d k0d k1d k6d k7d k8d k9d k10d c0 c1 c6 c7 c8 c9 c10 k0 k1 k6 k7 k8 k9 k10 t1 t2 t3 t4 lad lad'
      have BD : Hid (Below w.heap.size w wr.drew) := Lib.hid (bl.out.trans ((Below.refl _ _).drew))
      go_wp2_with fail
      refine (same13_any nA' sA' rA' nA sA rA nM nQ' sM sQ' rM rQ' nQ sQ rQ so rn x.1 sy x.2 wr.drew (X1'.out.more hzw) (HSY'.out.more hzw) (X3'.out.more hzw) (X1.out.more hzw) (HSY.out.more hzw) (X3.out.more hzw) (by omega) hsl (by omega)).mono ?_
      rintro e w2 ⟨rfl, bl2⟩
      have BL2 := Lib.hid (BD.out.trans (bl2.mono BD.out.size))
      clear bl2
      go_wp2_with fail
      go_roundw
      case rel => exact ⟨i + 1, by omega, by go_num, BL2⟩
      case measure => simp [intOf]; omega
    · obtain rfl : i = m := by omega
      have d1 : decide ((i : Int) < (i : Int)) = false := by simp
      go_wp2_with fail
      go_ret
      exact ⟨rfl, bl.out⟩
end Go.Proofs.Ytneleioiondapaa
