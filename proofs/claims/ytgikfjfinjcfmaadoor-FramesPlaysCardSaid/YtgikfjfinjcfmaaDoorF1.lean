import Derived.Test.YtgikfjfinjcfmaaDoorMem
import Derived.Test.YtgikfjfinjcfmaaDoorP1
import Derived.Test.YtgikfjfinjcfmaaDoorProg
import Derived.WalkKit
import Derived.IntWalk
import Derived.Outline
import Derived.Laws.BitsAllLaws
namespace Go.Proofs.YtgikfjfinjcfmaaDoor
open Go.RowKit Go.Hos
set_option linter.unusedVariables false

/-- the table lies at block 0 -/
def TB (W : World) : Prop := ∀ i, i < 64 → ∃ v : Nat, dbt[i]? = some v ∧ W.cell? ⟨0, i, none⟩ = some (.int .u8 (v : Int))

set_option maxHeartbeats 800000 in
theorem tz_any (x k : Nat) (hx : x < 18446744073709551616) (hk : x.testBit k = true) (h : ∀ j, j < k → x.testBit j = false) (w : World) (ht : TB w) :
    Calls Tryd.prog 35 #[.int .u64 x] w fun e w' => e = .returned (.int .i64 k) ∧ w = w' := by
  have hl := low_bit x k hx hk h
  have hk64 := lt_64 hx hk
  have hx0 : 0 < x := by
    rcases Nat.eq_zero_or_pos x with e | e
    · subst e; simp at hk
    · exact e
  obtain ⟨hi, hd⟩ := dbt_at ⟨k, hk64⟩
  simp only at hi hd
  obtain ⟨v, hv, hc⟩ := ht _ hi
  rw [hd] at hv
  obtain rfl : k = v := by injection hv
  obtain ⟨y, hy⟩ : ∃ y, y = 18446744073709551616 - x := ⟨_, rfl⟩
  obtain ⟨p, hp⟩ : ∃ p, p = 2 ^ k := ⟨_, rfl⟩
  obtain ⟨q, hq⟩ : ∃ q, q = 2 ^ k * 285870213051353865 % 18446744073709551616 := ⟨_, rfl⟩
  obtain ⟨i, hii⟩ : ∃ i, i = q / 288230376151711744 := ⟨_, rfl⟩
  rw [← hq, ← hii] at hi hc
  rw [← hy, ← hp] at hl
  have hneg : IntKind.u64.wrap (-(x : Int)) = (y : Int) := by rw [IntKind.wrap_u64]; omega
  have hand : bits .and .u64 (x : Int) (y : Int) = (p : Int) := by rw [u64_and_nat x y hx (by omega), hl]
  have hmul : IntKind.u64.wrap ((p : Int) * 285870213051353865) = (q : Int) := by rw [IntKind.wrap_u64, hq, hp]; omega
  have hx0' : ((x : Int) == 0) = false := by simp; omega
  have hqb : q < 18446744073709551616 := by omega
  have hshr : (q : Int) / 288230376151711744 = (i : Int) := by omega
  clear hk h hl hd ht hx0 hv hy hp hq hii hqb
  go_enter Tryd.func35, Tryd.ntmps35
  go_wp2_with fail
  go_ret
  exact ⟨rfl, rfl⟩
end Go.Proofs.YtgikfjfinjcfmaaDoor
