import Derived.Test.YtaeccpoljenjmaaW8
namespace Go.Proofs.Ytaeccpoljenjmaa
open Go.RowKit Go.Hos
set_option linter.unusedVariables false

set_option maxHeartbeats 1600000 in
theorem same_any (gt gx ga ca : Nat) (T : Nat → Sl) (w : World) (ht : SB w gt 50 16 T) (hr : RT w gx ga ca T) :
    Calls Try.prog 16 #[.agg #[.pointer (some ⟨gt, 0, none⟩), .pointer (some ⟨gx, 0, none⟩)]] w fun e w' => e = .returned (.bool true) ∧ Below w.heap.size w w' := by
  have b0 : Below w.heap.size w (w.alloc (.cells #[.pointer (some ⟨gt, 0, none⟩), .pointer (some ⟨gx, 0, none⟩)] 41)) := (Below.refl _ _).alloc (Nat.le_refl _) _
  have T0 := Lib.hid (ht.next b0)
  have R0 := Lib.hid (hr.next b0)
  have k0 := Lib.hid (Blk.new w 41 #[.pointer (some ⟨gt, 0, none⟩), .pointer (some ⟨gx, 0, none⟩)])
  have B0 := Lib.hid b0
  clear ht hr b0
  go_enter Try.func16, Try.ntmps16
  go_wp2_with fail
  generalize (w.alloc (.cells #[.pointer (some ⟨gt, 0, none⟩), .pointer (some ⟨gx, 0, none⟩)] 41)) = W0 at *
  refine (list_any gt T _ T0.out).mono ?_
  rintro e w1 ⟨g1, c1, rfl, hg1, hs, hb⟩
  have L1 : Hid (SB w1 g1 33 c1 T) := hs
  have R1 : Hid (RT w1 gx ga ca T) := R0.out.next hb
  have k1 : Hid (Blk w1 w.heap.size 41 #[.pointer (some ⟨gt, 0, none⟩), .pointer (some ⟨gx, 0, none⟩)]) := k0.out.below hb k0.out.lt
  have B1 : Hid (Below w.heap.size w w1) := B0.out.trans (hb.mono B0.out.size)
  have gg1 : w.heap.size ≤ g1 := Nat.le_trans B0.out.size hg1
  have kc := k1.out.cell
  clear hs hb T0 R0 k0 B0
  go_wp2_with fail
  refine (rlist_any gx ga ca T _ R1.out).mono ?_
  rintro e w2 ⟨g2, c2, rfl, hg2, hs, hb⟩
  have M2 : Hid (SB w2 g2 33 c2 T) := hs
  have L2 : Hid (SB w2 g1 33 c1 T) := L1.out.next hb
  have B2 : Hid (Below w.heap.size w w2) := B1.out.trans (hb.mono B1.out.size)
  clear hs hb L1 R1 k1 B1 kc
  go_wp2_with fail
  refine (eq_same g1 g2 c1 c2 _ _ _ _ T _ L2.out M2.out).mono ?_
  rintro e w3 ⟨rfl, hb⟩
  have L3 : Hid (SB w3 g1 33 c1 T) := L2.out.next hb
  have B3 : Hid (Below w.heap.size w w3) := B2.out.trans (hb.mono B2.out.size)
  clear hb L2 M2 B2
  go_wp2_with fail
  go_loopw [4] (fun i wr => ∃ (k : Nat) (T' : Nat → Sl), k ≤ 16 ∧ i = .int .i64 k ∧ Hid (SB wr g1 33 c1 T') ∧ Hid (Below w.heap.size w wr)) (fun i _ => 16 - (intOf i).toNat)
  case atStart => exact ⟨0, T, by omega, rfl, L3, B3⟩
  case round =>
    obtain ⟨k, T', hk, rfl, sk, bk⟩ := hrel
    by_cases hk3 : k < 16
    · obtain ⟨d1, d2, d3, d4⟩ := sk.out.cells hk3
      have f1 := sk.out.free (k * 4); have f2 := sk.out.free (k * 4 + 1); have f3 := sk.out.free (k * 4 + 2); have f4 := sk.out.free (k * 4 + 3)
      have s1 := Lib.hid (sk.out.store hk3 ⟨true, 77, 0, false⟩)
      have g1' := Lib.hid ((((bk.out.setCell (p := ⟨g1, k * 4, none⟩) gg1 (.bool true)).setCell (p := ⟨g1, k * 4 + 1, none⟩) gg1 (.int .i64 77)).setCell (p := ⟨g1, k * 4 + 2, none⟩) gg1 (.int .i64 0)).setCell (p := ⟨g1, k * 4 + 3, none⟩) gg1 (.bool false))
      go_wp2_with fail
      go_roundw
      case rel => exact ⟨k + 1, _, by omega, by go_num, s1, g1'⟩
      case measure => simp [intOf]; omega
    · obtain rfl : k = 16 := by omega
      rw [show ((16 : Nat) : Int) = 16 from rfl]
      go_wp2_with fail
      go_ret
      exact ⟨rfl, bk.out⟩
end Go.Proofs.Ytaeccpoljenjmaa
