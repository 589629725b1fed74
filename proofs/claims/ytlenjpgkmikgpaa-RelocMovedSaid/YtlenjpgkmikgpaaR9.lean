import Derived.Test.YtlenjpgkmikgpaaR8
import Derived.BigQuiet
namespace Go.Proofs.Ytlenjpgkmikgpaa
open Go.RowKit Go.Shelf Go.Hos
set_option linter.unusedVariables false
/-! the law's comparing of patches that are alike -/
theorem pat_cells {W : World} {B : Nat} {A : Option Addr} {n : Nat} {S : Nat → PatD} (h : Lay.StR W B 3 A n (fun k => (S k).cs)) {k : Nat} (hk : k < n) : ∃ ad, A = some ad ∧ ad.block < B ∧
    W.cell? (ad.add (k * 3)) = some (.int .u64 (S k).at_) ∧ W.cell? ⟨(ad.add (k * 3)).block, (ad.add (k * 3)).off + 1, none⟩ = some (.int .i64 (S k).size) ∧ W.cell? ⟨(ad.add (k * 3)).block, (ad.add (k * 3)).off + 2, none⟩ = some (.int .u64 (S k).v) := by
  obtain ⟨ad, rfl, hb, hc⟩ := h (by omega)
  have hc := hc k hk
  refine ⟨ad, rfl, hb, hc 0 _ rfl, ?_, ?_⟩
  all_goals rw [← Lay.add_field]
  · exact hc 1 _ rfl
  · exact hc 2 _ rfl
theorem drewN_drewN (w : World) (a b : Nat) : (w.drewN a).drewN b = w.drewN (a + b) := by simp [World.drewN, Nat.add_assoc]
set_option maxRecDepth 20000 in
set_option maxHeartbeats 1600000 in
theorem same_any (A A' : Option Addr) (n c c' : Nat) (P : Nat → PatD) (w : World) (h : Lay.StR w w.heap.size 3 A n (fun k => (P k).cs)) (h' : Lay.StR w w.heap.size 3 A' n (fun k => (P k).cs)) (hn : n ≤ maxLen) :
    Calls Try.prog 12 #[.slice A n c, .slice A' n c'] w fun e W' => e = .returned (.bool true) ∧ Below w.heap.size w W' := by
  have hmm : maxLen = 9223372036854775807 := by simp [maxLen]
  have H := Lib.hid h; have H' := Lib.hid h'
  have t1 : ((n : Int) != (n : Int)) = false := by simp
  have st55 : Try.prog.stoodInHeld 55 = false := by kernel_rfl
  have eg55 : Try.prog.eqGuardType Try.prog.depth 55 = false := by kernel_rfl
  clear h h'
  go_enter Try.func12, Try.ntmps12
  go_wp2_with fail
  go_loopw [5] (fun v5 wr => ∃ i q : Nat, i ≤ n ∧ v5 = .int .i64 i ∧ wr = w.drewN q) (fun v5 _ => n - (intOf v5).toNat)
  case atStart => exact ⟨0, 0, Nat.zero_le _, rfl, rfl⟩
  case round =>
    obtain ⟨i, q, hi, rfl, rfl⟩ := hrel
    by_cases hin : i < n
    · have e1 : decide ((i : Int) < (n : Int)) = true := by simp; omega
      have e2 : (i : Int) < (n : Int) := by omega
      obtain ⟨ad, rfl, had, d0, d1, d2⟩ := pat_cells H.out hin
      obtain ⟨ad', rfl, had', d0', d1', d2'⟩ := pat_cells H'.out hin
      generalize P i = p at d0 d1 d2 d0' d1' d2'
      obtain ⟨a, s, v⟩ := p
      dsimp only at d0 d1 d2 d0' d1' d2'
      go_wp2_with fail
      go_quiet (fail)
      go_wp2_with fail
      go_roundw
      case rel => exact ⟨i + 1, _, by omega, by go_num, rfl⟩
      case measure => simp [intOf]; omega
    · obtain rfl : i = n := by omega
      have e1 : decide ((i : Int) < (i : Int)) = false := by simp
      go_wp2_with fail
      go_ret
      exact ⟨rfl, below_drewN (Below.refl _ _) _⟩
end Go.Proofs.Ytlenjpgkmikgpaa
