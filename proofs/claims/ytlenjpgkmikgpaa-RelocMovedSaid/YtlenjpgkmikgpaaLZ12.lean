import Derived.Test.YtlenjpgkmikgpaaLZ11a
import Derived.Test.YtlenjpgkmikgpaaLZ11b
namespace Go.Proofs.Ytlenjpgkmikgpaa.Lay
open Go.RowKit Go.Shelf Go.Hos
set_option linter.unusedVariables false
set_option maxRecDepth 100000 in
set_option maxHeartbeats 1600000 in
theorem rright_any (o : ObjD) (w : World) (hS : StR w w.heap.size 6 o.gA o.gM (segC o.sg)) (hf : ∀ k, (o.sg k).fits) :
    Calls Try.prog 21 #[.agg o.cs] w fun e W' => e = .returned (.bool (rightB o)) ∧ Below w.heap.size w W' := by
  obtain ⟨ino, base, ty, en, ph, gA, gM, gQ, nA, nM, nQ, so, rn, sA, sM, sQ, rA, rM, rQ, sg⟩ := o
  dsimp only at hS hf
  rw [show (ObjD.mk ino base ty en ph gA gM gQ nA nM nQ so rn sA sM sQ rA rM rQ sg).cs = #[.int .i64 ino, .int .u64 base, .int .u16 ty, .int .u64 en, .int .u64 ph, .slice gA gM gQ, .slice nA nM nQ, .string so, .string rn, .slice sA sM sQ, .slice rA rM rQ] from rfl]
  by_cases h0 : 0 ≤ ino
  · by_cases t2 : ty = 2 ∨ ty = 3
    · by_cases h8 : gM ≤ 8
      · rcases t2 with rfl | rfl
        · have hr : rightB ⟨ino, base, 2, en, ph, gA, gM, gQ, nA, nM, nQ, so, rn, sA, sM, sQ, rA, rM, rQ, sg⟩ = ((stR 140737488355328 (lds sg gM)).1 && !(lds sg gM).isEmpty) := by simp [rightB, h0, h8, enOf]
          rw [hr]
          exact rright2 ino base en ph gA nA sA rA gM gQ nM nQ sM sQ rM rQ so rn sg w hS hf h0 h8
        · have hr : rightB ⟨ino, base, 3, en, ph, gA, gM, gQ, nA, nM, nQ, so, rn, sA, sM, sQ, rA, rM, rQ, sg⟩ = ((stR 4294967296 (lds sg gM)).1 && !(lds sg gM).isEmpty) := by simp [rightB, h0, h8, enOf]
          rw [hr]
          exact rright3 ino base en ph gA nA sA rA gM gQ nM nQ sM sQ rM rQ so rn sg w hS hf h0 h8
      · have hr : rightB ⟨ino, base, ty, en, ph, gA, gM, gQ, nA, nM, nQ, so, rn, sA, sM, sQ, rA, rM, rQ, sg⟩ = false := by simp [rightB, h8]
        rw [hr]
        have g1 : decide (ino < 0) = false := by simp; omega
        have g2 : decide ((8 : Int) < (gM : Int)) = true := by simp; omega
        have g3 : ¬ ino < 0 := by omega
        have g4 : (8 : Int) < (gM : Int) := by omega
        clear hS hf hr h0 h8
        rcases t2 with rfl | rfl
        all_goals
          go_enter Try.func21, Try.ntmps21
          go_wp2_with fail
          go_ret
          exact ⟨rfl, (Below.refl _ _).alloc (Nat.le_refl _) _⟩
    · have t2' : ty ≠ 2 := fun e => t2 (.inl e)
      have t3 : ty ≠ 3 := fun e => t2 (.inr e)
      have hr : rightB ⟨ino, base, ty, en, ph, gA, gM, gQ, nA, nM, nQ, so, rn, sA, sM, sQ, rA, rM, rQ, sg⟩ = false := by simp [rightB, t2', t3]
      rw [hr]
      have g1 : decide (ino < 0) = false := by simp; omega
      have g3 : ¬ ino < 0 := by omega
      have g5 : ((ty : Int) == 2) = false := by simp; omega
      have g6 : ((ty : Int) == 3) = false := by simp; omega
      have g7 : ((ty : Int) != 2) = true := by simp; omega
      have g8 : ((ty : Int) != 3) = true := by simp; omega
      clear hS hf hr t2 t2' t3 h0
      go_enter Try.func21, Try.ntmps21
      go_wp2_with fail
      go_ret
      exact ⟨rfl, (Below.refl _ _).alloc (Nat.le_refl _) _⟩
  · have hr : rightB ⟨ino, base, ty, en, ph, gA, gM, gQ, nA, nM, nQ, so, rn, sA, sM, sQ, rA, rM, rQ, sg⟩ = false := by simp [rightB, h0]
    rw [hr]
    have g1 : decide (ino < 0) = true := by simp; omega
    have g3 : ino < 0 := by omega
    clear hS hf hr h0
    go_enter Try.func21, Try.ntmps21
    go_wp2_with fail
    go_ret
    exact ⟨rfl, (Below.refl _ _).alloc (Nat.le_refl _) _⟩
end Go.Proofs.Ytlenjpgkmikgpaa.Lay
