import Derived.Test.YtlenjpgkmikgpaaLZ8a
import Derived.Test.YtlenjpgkmikgpaaLZ8b
namespace Go.Proofs.Ytlenjpgkmikgpaa.Lay
open Go.RowKit Go.Shelf Go.Hos
set_option linter.unusedVariables false
set_option maxRecDepth 20000 in
set_option maxHeartbeats 1600000 in
theorem right_any (o : ObjD) (w : World) (hS : StR w w.heap.size 6 o.gA o.gM (segC o.sg)) (hf : ∀ k, (o.sg k).fits) :
    Calls Try.prog 25 #[.agg o.cs] w fun e W' => e = .returned (.bool (rightB o)) ∧ Below w.heap.size w W' := by
  obtain ⟨ino, base, ty, en, ph, gA, gM, gQ, nA, nM, nQ, so, rn, sA, sM, sQ, rA, rM, rQ, sg⟩ := o
  dsimp only at hS hf
  rw [show (ObjD.mk ino base ty en ph gA gM gQ nA nM nQ so rn sA sM sQ rA rM rQ sg).cs = #[.int .i64 ino, .int .u64 base, .int .u16 ty, .int .u64 en, .int .u64 ph, .slice gA gM gQ, .slice nA nM nQ, .string so, .string rn, .slice sA sM sQ, .slice rA rM rQ] from rfl]
  by_cases h0 : 0 ≤ ino
  · by_cases h8 : gM ≤ 8
    · by_cases t2 : ty = 2
      · subst t2
        have hr : rightB ⟨ino, base, 2, en, ph, gA, gM, gQ, nA, nM, nQ, so, rn, sA, sM, sQ, rA, rM, rQ, sg⟩ = ((stR 140737488355328 (lds sg gM)).1 && !(lds sg gM).isEmpty) := by simp [rightB, h0, h8, enOf]
        rw [hr]
        exact callsIn_wide.1 (right_in2 Fence.wide wide_wide ino base en ph gA nA sA rA gM gQ nM nQ sM sQ rM rQ so rn sg w hS hf h0 h8)
      · by_cases t3 : ty = 3
        · subst t3
          have hr : rightB ⟨ino, base, 3, en, ph, gA, gM, gQ, nA, nM, nQ, so, rn, sA, sM, sQ, rA, rM, rQ, sg⟩ = ((stR 4294967296 (lds sg gM)).1 && !(lds sg gM).isEmpty) := by simp [rightB, h0, h8, enOf]
          rw [hr]
          exact callsIn_wide.1 (right_in3 Fence.wide wide_wide ino base en ph gA nA sA rA gM gQ nM nQ sM sQ rM rQ so rn sg w hS hf h0 h8)
        · have hr : rightB ⟨ino, base, ty, en, ph, gA, gM, gQ, nA, nM, nQ, so, rn, sA, sM, sQ, rA, rM, rQ, sg⟩ = false := by simp [rightB, t2, t3]
          rw [hr]
          have g1 : decide (ino < 0) = false := by simp; omega
          have g2 : decide ((8 : Int) < (gM : Int)) = false := by simp; omega
          have g3 : ¬ ino < 0 := by omega
          have g4 : ¬ (8 : Int) < (gM : Int) := by omega
          have g5 : ((ty : Int) == 2) = false := by simp; omega
          have g6 : ((ty : Int) == 3) = false := by simp; omega
          clear hS hf hr t2 t3 h0 h8
          go_enter Try.func25, Try.ntmps25
          go_wp2_with fail
          refine bodyPost_ret (v := .bool false) (by simp [results, Try.results25, go_sem]) rfl ⟨rfl, ?_⟩
          repeat (first | exact Below.refl _ _ | refine Below.setCell ?_ (by simp) _ | refine Below.alloc ?_ (by simp; try omega) _)
    · have hr : rightB ⟨ino, base, ty, en, ph, gA, gM, gQ, nA, nM, nQ, so, rn, sA, sM, sQ, rA, rM, rQ, sg⟩ = false := by simp [rightB, h8]
      rw [hr]
      have g1 : decide (ino < 0) = false := by simp; omega
      have g2 : decide ((8 : Int) < (gM : Int)) = true := by simp; omega
      have g3 : ¬ ino < 0 := by omega
      have g4 : (8 : Int) < (gM : Int) := by omega
      clear hS hf hr h0 h8
      go_enter Try.func25, Try.ntmps25
      go_wp2_with fail
      refine bodyPost_ret (v := .bool false) (by simp [results, Try.results25, go_sem]) rfl ⟨rfl, ?_⟩
      repeat (first | exact Below.refl _ _ | refine Below.setCell ?_ (by simp) _ | refine Below.alloc ?_ (by simp; try omega) _)
  · have hr : rightB ⟨ino, base, ty, en, ph, gA, gM, gQ, nA, nM, nQ, so, rn, sA, sM, sQ, rA, rM, rQ, sg⟩ = false := by simp [rightB, h0]
    rw [hr]
    have g1 : decide (ino < 0) = true := by simp; omega
    have g3 : ino < 0 := by omega
    clear hS hf hr h0
    go_enter Try.func25, Try.ntmps25
    go_wp2_with fail
    refine bodyPost_ret (v := .bool false) (by simp [results, Try.results25, go_sem]) rfl ⟨rfl, ?_⟩
    repeat (first | exact Below.refl _ _ | refine Below.setCell ?_ (by simp) _ | refine Below.alloc ?_ (by simp; try omega) _)
end Go.Proofs.Ytlenjpgkmikgpaa.Lay
