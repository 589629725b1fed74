import Derived.Test.YtaeccpoljenjmaaW4
import Derived.BigQuiet
import Derived.Deep.QuietTactic
namespace Go.Proofs.Ytaeccpoljenjmaa
open Go.RowKit Go.Hos
set_option linter.unusedVariables false

set_option maxHeartbeats 800000 in
theorem eq_same (a b ca cb ma mb : Nat) (ta tb : TypeId) (T : Nat → Sl) (w : World) (ha : SB w a ta ma T) (hb : SB w b tb mb T) :
    Calls Try.prog 20 #[.slice (some ⟨a, 0, none⟩) 16 ca, .slice (some ⟨b, 0, none⟩) 16 cb] w fun e w' => e = .returned (.bool true) ∧ Below w.heap.size w w' := by
  have HA := Lib.hid ha; have HB := Lib.hid hb
  clear ha hb
  go_enter Try.func20, Try.ntmps20
  go_wp2_with fail
  go_loopw [5] (fun i wr => ∃ k : Nat, k ≤ 16 ∧ i = .int .i64 k ∧ Hid (Below w.heap.size w wr)) (fun i _ => 16 - (intOf i).toNat)
  case atStart => exact ⟨0, by omega, rfl, Below.refl _ _⟩
  case round =>
    obtain ⟨k, hk, rfl, hb⟩ := hrel
    by_cases hk3 : k < 16
    · obtain ⟨a1, a2, a3, a4⟩ := (HA.out.next hb.out).cells hk3
      obtain ⟨b1, b2, b3, b4⟩ := (HB.out.next hb.out).cells hk3
      have hq : ∀ w, (binOp .neq 33 (.agg #[.bool (T k).u, .int .i64 (T k).i, .int .i64 (T k).p, .bool (T k).x]) (.agg #[.bool (T k).u, .int .i64 (T k).i, .int .i64 (T k).p, .bool (T k).x])).run Try.prog w = .ok (.bool false) w := fun w => by
        rw [run_neq33, decide_eq_true rfl]; rfl
      generalize T k = s at *
      obtain ⟨u, i, p, x⟩ := s
      go_wp2_with fail
      go_quiet (fail)
      clear hq a1 a2 a3 a4 b1 b2 b3 b4
      go_wp2_with fail
      go_roundw
      case rel => exact ⟨k + 1, by omega, by go_num, below_drewN hb.out _⟩
      case measure => simp [intOf]; omega
    · obtain rfl : k = 16 := by omega
      rw [show ((16 : Nat) : Int) = 16 from rfl]
      go_wp2_with fail
      go_ret
      exact ⟨rfl, hb.out⟩
end Go.Proofs.Ytaeccpoljenjmaa
