import Derived.Test.YtfhkcbhbomghfaaA6
namespace Go.Proofs.Ytfhkcbhbomghfaa
open Go.RowKit Go.Hos
set_option linter.unusedVariables false

set_option maxHeartbeats 800000 in
theorem back_any (A : Option Addr) (n c at_ x : Nat) (bs : List Nat) (sz : Int) (w : World) (h : Reads w w.heap.size 1 A n (B8 bs)) (h8 : ∀ x ∈ bs, x < 256) (ha : at_ < M) (hx : x < M) (hn : n ≤ maxLen) :
    Calls Try.prog 6 #[.agg #[.slice A n c, .int .u64 at_, .int .i64 sz, .int .u64 x]] w fun e w' => e = .returned (.bool true) ∧ Below w.heap.size w w' := by
  by_cases hl : n ≤ 8192
  · exact back_small A n c at_ x bs sz w h h8 ha hx hl
  · have st0 : Hid (S1 w A n c at_ sz x bs (w.alloc (.cells #[.slice A n c, .int .u64 at_, .int .i64 sz, .int .u64 x] 32))) := S1.start h
    clear h h8
    go_enter Try.func6, Try.ntmps6
    go_wp2_with fail
    refine (works_any _).mono ?_
    rintro e w1 ⟨rfl, hb1⟩
    have HB : Hid (Below w.heap.size w w1) := st0.out.low.trans (hb1.mono st0.out.low.size)
    clear hb1
    go_wp2_with fail
    go_ret
    exact ⟨rfl, HB.out⟩
end Go.Proofs.Ytfhkcbhbomghfaa
