import Derived.Test.YticnmgdflkipeaaZ29
namespace Go.Proofs.Yticnmgdflkipeaa
open Go.RowKit Go.Shelf Go.Hos Go.Sort
set_option linter.unusedVariables false
set_option maxRecDepth 20000 in
set_option maxHeartbeats 3200000 in
theorem sames_any (A A' : Option Addr) (m c c' : Nat) (O O' : Nat → ObjD) (w : World) (hR : ObjR w w.heap.size A m O) (hR' : ObjR w w.heap.size A' m O') (al : ∀ j, j < m → SameO (O j) (O' j)) :
    Calls Try.prog 17 #[.slice A m c, .slice A' m c'] w fun e W' => e = .returned (.bool true) ∧ Below w.heap.size w W' := by
  have hm := hR.len
  have hmm : maxLen = 9223372036854775807 := by simp [maxLen]
  have H := Lib.hid hR; have H' := Lib.hid hR'; have AL := Lib.hid al
  have q1 : ((m : Int) != (m : Int)) = false := by simp
  clear hR hR' al
  go_enter Try.func17, Try.ntmps17
  go_wp2_with fail
  go_loopw [5] (fun v5 wr => ∃ i : Nat, i ≤ m ∧ v5 = .int .i64 i ∧ Hid (Below w.heap.size w wr)) (fun v5 _ => m - (intOf v5).toNat)
  case atStart => exact ⟨0, Nat.zero_le _, rfl, Lib.hid (Below.refl _ _)⟩
  case round =>
    obtain ⟨i, hi, rfl, bl⟩ := hrel
    by_cases him : i < m
    · have e1 : decide ((i : Int) < (m : Int)) = true := by simp; omega
      have e2 : (i : Int) < (m : Int) := by omega
      have hzw := bl.out.size
      obtain ⟨ad, rfl, had, c0, c1, c2, c3, c4, c5, c6, c7, c8, c9, c10⟩ := (H.out.below bl.out).cells him
      obtain ⟨ad', rfl, had', k0, k1, k2, k3, k4, k5, k6, k7, k8, k9, k10⟩ := (H'.out.below bl.out).cells him
      have hsy := ((H.out.below bl.out).sy i him)
      have hsy' := ((H'.out.below bl.out).sy i him)
      obtain ⟨gA', gQ', ee⟩ := AL.out i him
      rw [ee] at k0 k1 k2 k3 k4 k5 k6 k7 k8 k9 k10 hsy'
      obtain ⟨o, ho⟩ : ∃ o, o = O i := ⟨_, rfl⟩
      rw [← ho] at c0 c1 c2 c3 c4 c5 c6 c7 c8 c9 c10 hsy k0 k1 k2 k3 k4 k5 k6 k7 k8 k9 k10 hsy'
      have CC : ∀ d os, Calls Try.prog 38 #[.agg o.cs, .agg (o.at gA' gQ').cs] (grow (redrawn wr d) os) fun e w' => e = .returned (.bool true) ∧ ∃ p : Regrown, w' = grow (redrawn wr p.d) p.os := fun d os => by
        have b := below_regrown wr d os
        exact Calls.regrown_of (same_any o o.gA gA' o.gQ gQ' _ (((hsy.1.more hzw).below b).more b.size) (((hsy'.1.more hzw).below b).more b.size) hsy.2)
      obtain ⟨ino, base, ty, en, ph, gA, gM, gQ, nA, nM, nQ, so, rn, sA, sM, sQ, rA, rM, rQ, sg⟩ := o
      rw [show (ObjD.mk ino base ty en ph gA gM gQ nA nM nQ so rn sA sM sQ rA rM rQ sg).cs = #[.int .i64 ino, .int .u64 base, .int .u16 ty, .int .u64 en, .int .u64 ph, .slice gA gM gQ, .slice nA nM nQ, .string so, .string rn, .slice sA sM sQ, .slice rA rM rQ] from rfl,
        show (ObjD.at ⟨ino, base, ty, en, ph, gA, gM, gQ, nA, nM, nQ, so, rn, sA, sM, sQ, rA, rM, rQ, sg⟩ gA' gQ').cs = #[.int .i64 ino, .int .u64 base, .int .u16 ty, .int .u64 en, .int .u64 ph, .slice gA' gM gQ', .slice nA nM nQ, .string so, .string rn, .slice sA sM sQ, .slice rA rM rQ] from rfl] at CC
      dsimp only [ObjD.at] at c0 c1 c2 c3 c4 c5 c6 c7 c8 c9 c10 k0 k1 k2 k3 k4 k5 k6 k7 k8 k9 k10
      have HCC := Lib.hid CC
      have lad := World.block_lt_of_cell? _ _ c1
      have lad' := World.block_lt_of_cell? _ _ k1
      clear ho hsy hsy' ee CC
      go_wp2_with fail
      have r0 := fun (d : Nat) (os : Array Obj) => cell_regrown c0 d os
      have r1 := fun (d : Nat) (os : Array Obj) => cell_regrown c1 d os
      have r2 := fun (d : Nat) (os : Array Obj) => cell_regrown c2 d os
      have r3 := fun (d : Nat) (os : Array Obj) => cell_regrown c3 d os
      have r4 := fun (d : Nat) (os : Array Obj) => cell_regrown c4 d os
      have r5 := fun (d : Nat) (os : Array Obj) => cell_regrown c5 d os
      have r6 := fun (d : Nat) (os : Array Obj) => cell_regrown c6 d os
      have r7 := fun (d : Nat) (os : Array Obj) => cell_regrown c7 d os
      have r8 := fun (d : Nat) (os : Array Obj) => cell_regrown c8 d os
      have r9 := fun (d : Nat) (os : Array Obj) => cell_regrown c9 d os
      have r10 := fun (d : Nat) (os : Array Obj) => cell_regrown c10 d os
      have s0 := fun (d : Nat) (os : Array Obj) => cell_regrown k0 d os
      have s1 := fun (d : Nat) (os : Array Obj) => cell_regrown k1 d os
      have s2 := fun (d : Nat) (os : Array Obj) => cell_regrown k2 d os
      have s3 := fun (d : Nat) (os : Array Obj) => cell_regrown k3 d os
      have s4 := fun (d : Nat) (os : Array Obj) => cell_regrown k4 d os
      have s5 := fun (d : Nat) (os : Array Obj) => cell_regrown k5 d os
      have s6 := fun (d : Nat) (os : Array Obj) => cell_regrown k6 d os
      have s7 := fun (d : Nat) (os : Array Obj) => cell_regrown k7 d os
      have s8 := fun (d : Nat) (os : Array Obj) => cell_regrown k8 d os
      have s9 := fun (d : Nat) (os : Array Obj) => cell_regrown k9 d os
      have s10 := fun (d : Nat) (os : Array Obj) => cell_regrown k10 d os
      refine wp_region_quiet_below (by kernel_rfl) (by kernel_rfl) ?_
      repeat (quiet_step (first | (go_at_call 38; exact HCC.out _ _)))
      refine wpQuiet_nil ?_
      intro _ hw'
      obtain ⟨⟨dq, osq⟩, hw''⟩ := hw'
      subst hw''
      have BG : Hid (Below w.heap.size w (grow (redrawn wr dq) osq)) := Lib.hid (bl.out.trans ((below_regrown wr dq osq).mono hzw))
      go_wp2_with fail
      go_roundw
      case rel => exact ⟨i + 1, by omega, by go_num, BG⟩
      case measure => simp [intOf]; omega
    · obtain rfl : i = m := by omega
      have d1 : decide ((i : Int) < (i : Int)) = false := by simp
      go_wp2_with fail
      go_ret
      exact ⟨rfl, bl.out⟩
end Go.Proofs.Yticnmgdflkipeaa
