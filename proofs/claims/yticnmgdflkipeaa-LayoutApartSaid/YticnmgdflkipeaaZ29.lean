import Derived.Test.YticnmgdflkipeaaZ28
namespace Go.Proofs.Yticnmgdflkipeaa
open Go.RowKit Go.Shelf Go.Hos
set_option linter.unusedVariables false
/-! the law's comparing of two objects that are alike but for where their segments lie -/
theorem TW.cells {w W : World} {a0 a1 a2 a3 a4 a5 a6 a7 a8 a9 a10 z0 z1 z2 z3 z4 z5 z6 z7 z8 z9 z10 : Value} (h : TW w #[a0, a1, a2, a3, a4, a5, a6, a7, a8, a9, a10] #[z0, z1, z2, z3, z4, z5, z6, z7, z8, z9, z10] W) :
    (W.cell? ⟨w.heap.size, 0, none⟩ = some a0 ∧ W.cell? ⟨w.heap.size, 1, none⟩ = some a1 ∧ W.cell? ⟨w.heap.size, 2, none⟩ = some a2 ∧ W.cell? ⟨w.heap.size, 3, none⟩ = some a3 ∧ W.cell? ⟨w.heap.size, 4, none⟩ = some a4 ∧ W.cell? ⟨w.heap.size, 5, none⟩ = some a5 ∧ W.cell? ⟨w.heap.size, 6, none⟩ = some a6 ∧ W.cell? ⟨w.heap.size, 7, none⟩ = some a7 ∧ W.cell? ⟨w.heap.size, 8, none⟩ = some a8 ∧ W.cell? ⟨w.heap.size, 9, none⟩ = some a9 ∧ W.cell? ⟨w.heap.size, 10, none⟩ = some a10) ∧
    W.cell? ⟨w.heap.size + 1, 0, none⟩ = some z0 ∧ W.cell? ⟨w.heap.size + 1, 1, none⟩ = some z1 ∧ W.cell? ⟨w.heap.size + 1, 2, none⟩ = some z2 ∧ W.cell? ⟨w.heap.size + 1, 3, none⟩ = some z3 ∧ W.cell? ⟨w.heap.size + 1, 4, none⟩ = some z4 ∧ W.cell? ⟨w.heap.size + 1, 5, none⟩ = some z5 ∧ W.cell? ⟨w.heap.size + 1, 6, none⟩ = some z6 ∧ W.cell? ⟨w.heap.size + 1, 7, none⟩ = some z7 ∧ W.cell? ⟨w.heap.size + 1, 8, none⟩ = some z8 ∧ W.cell? ⟨w.heap.size + 1, 9, none⟩ = some z9 ∧ W.cell? ⟨w.heap.size + 1, 10, none⟩ = some z10 :=
  ⟨⟨(h.b1.cell 0).trans rfl, (h.b1.cell 1).trans rfl, (h.b1.cell 2).trans rfl, (h.b1.cell 3).trans rfl, (h.b1.cell 4).trans rfl, (h.b1.cell 5).trans rfl, (h.b1.cell 6).trans rfl, (h.b1.cell 7).trans rfl, (h.b1.cell 8).trans rfl, (h.b1.cell 9).trans rfl, (h.b1.cell 10).trans rfl⟩,
   (h.b2.cell 0).trans rfl, (h.b2.cell 1).trans rfl, (h.b2.cell 2).trans rfl, (h.b2.cell 3).trans rfl, (h.b2.cell 4).trans rfl, (h.b2.cell 5).trans rfl, (h.b2.cell 6).trans rfl, (h.b2.cell 7).trans rfl, (h.b2.cell 8).trans rfl, (h.b2.cell 9).trans rfl, (h.b2.cell 10).trans rfl⟩
set_option maxRecDepth 20000 in
set_option maxHeartbeats 3200000 in
theorem same_any (o : ObjD) (B A' : Option Addr) (r q' : Nat) (w : World) (hS : StR w w.heap.size 6 B o.gM (segC o.sg)) (hS' : StR w w.heap.size 6 A' o.gM (segC o.sg)) (hm : o.gM ≤ maxLen) :
    Calls Try.prog 38 #[.agg (o.at B r).cs, .agg (o.at A' q').cs] w fun e W' => e = .returned (.bool true) ∧ Below w.heap.size w W' := by
  have hmm : maxLen = 9223372036854775807 := by simp [maxLen]
  have HS := Lib.hid hS; have HS' := Lib.hid hS'
  obtain ⟨ino, base, ty, en, ph, gA, gM, gQ, nA, nM, nQ, so, rn, sA, sM, sQ, rA, rM, rQ, sg⟩ := o
  dsimp only at HS HS' hm
  rw [show (ObjD.at ⟨ino, base, ty, en, ph, gA, gM, gQ, nA, nM, nQ, so, rn, sA, sM, sQ, rA, rM, rQ, sg⟩ B r).cs = #[.int .i64 ino, .int .u64 base, .int .u16 ty, .int .u64 en, .int .u64 ph, .slice B gM r, .slice nA nM nQ, .string so, .string rn, .slice sA sM sQ, .slice rA rM rQ] from rfl,
    show (ObjD.at ⟨ino, base, ty, en, ph, gA, gM, gQ, nA, nM, nQ, so, rn, sA, sM, sQ, rA, rM, rQ, sg⟩ A' q').cs = #[.int .i64 ino, .int .u64 base, .int .u16 ty, .int .u64 en, .int .u64 ph, .slice A' gM q', .slice nA nM nQ, .string so, .string rn, .slice sA sM sQ, .slice rA rM rQ] from rfl]
  obtain ⟨W1, hW1⟩ : ∃ W, W = ((w.alloc (.cells #[.int .i64 ino, .int .u64 base, .int .u16 ty, .int .u64 en, .int .u64 ph, .slice B gM r, .slice nA nM nQ, .string so, .string rn, .slice sA sM sQ, .slice rA rM rQ] 33)).alloc (.cells #[.int .i64 ino, .int .u64 base, .int .u16 ty, .int .u64 en, .int .u64 ph, .slice A' gM q', .slice nA nM nQ, .string so, .string rn, .slice sA sM sQ, .slice rA rM rQ] 33)) := ⟨_, rfl⟩
  have C0 : Hid (TW w #[.int .i64 ino, .int .u64 base, .int .u16 ty, .int .u64 en, .int .u64 ph, .slice B gM r, .slice nA nM nQ, .string so, .string rn, .slice sA sM sQ, .slice rA rM rQ] #[.int .i64 ino, .int .u64 base, .int .u16 ty, .int .u64 en, .int .u64 ph, .slice A' gM q', .slice nA nM nQ, .string so, .string rn, .slice sA sM sQ, .slice rA rM rQ] W1) := by
    rw [hW1]; exact Lib.hid ⟨((Below.refl _ _).alloc (Nat.le_refl _) _).alloc (by simp) _, (Blk.new _ _ _).alloc _, blk_at _ _ (by simp)⟩
  have HW1 := Lib.hid hW1
  have t1 : (ino != ino) = false := by simp
  have t2 : ((base : Int) != (base : Int)) = false := by simp
  have t3 : ((ty : Int) != (ty : Int)) = false := by simp
  have t4 : (en != en) = false := by simp
  have t5 : (ph != ph) = false := by simp
  have t6 : ((gM : Int) != (gM : Int)) = false := by simp
  have t7 : ((nM : Int) == (nM : Int)) = true := by simp
  have t8 : ((sM : Int) == (sM : Int)) = true := by simp
  have t9 : ((rM : Int) == (rM : Int)) = true := by simp
  have t10 : (so.toList == so.toList) = true := by simp
  have t11 : (rn.toList == rn.toList) = true := by simp
  have st56 : Try.prog.stoodInHeld 56 = false := by kernel_rfl
  have eg56 : Try.prog.eqGuardType Try.prog.depth 56 = false := by kernel_rfl
  clear hS hS' hW1
  go_enter Try.func38, Try.ntmps38
  go_upto_region 1 with fail
  rw [← HW1.out]
  obtain ⟨⟨a0, a1, a2, a3, a4, a5, a6, a7, a8, a9, a10⟩, z0, z1, z2, z3, z4, z5, z6, z7, z8, z9, z10⟩ := C0.out.cells
  have l1 := C0.out.b1.lt
  have l2 := C0.out.b2.lt
  go_wp2_with fail
  go_loopw [5] (fun v5 wr => ∃ i q : Nat, i ≤ gM ∧ v5 = .int .i64 i ∧ wr = W1.drewN q) (fun v5 _ => gM - (intOf v5).toNat)
  case atStart => exact ⟨0, 0, Nat.zero_le _, rfl, rfl⟩
  case round =>
    obtain ⟨i, q, hi, rfl, rfl⟩ := hrel
    by_cases hin : i < gM
    · have e1 : decide ((i : Int) < (gM : Int)) = true := by simp; omega
      have e2 : (i : Int) < (gM : Int) := by omega
      obtain ⟨ad, rfl, had, d0, d1, d2, d3, d4, d5⟩ := seg_cells (HS.out.below C0.out.bl) hin
      obtain ⟨ad', rfl, had', d0', d1', d2', d3', d4', d5'⟩ := seg_cells (HS'.out.below C0.out.bl) hin
      obtain ⟨s, hs⟩ : ∃ s, s = sg i := ⟨_, rfl⟩
      rw [← hs] at d0 d1 d2 d3 d4 d5 d0' d1' d2' d3' d4' d5'
      obtain ⟨kd, fl, off, addr, fsz, msz⟩ := s
      dsimp only at d0 d1 d2 d3 d4 d5 d0' d1' d2' d3' d4' d5'
      have l3 := World.block_lt_of_cell? _ _ d0
      have l4 := World.block_lt_of_cell? _ _ d0'
      clear hs
      go_wp2_with fail
      go_quiet (fail)
      go_wp2_with fail
      go_roundw
      case rel => exact ⟨i + 1, _, by omega, by go_num, rfl⟩
      case measure => simp [intOf]; omega
    · obtain rfl : i = gM := by omega
      have d1 : decide ((i : Int) < (i : Int)) = false := by simp
      go_wp2_with fail
      go_ret
      exact ⟨rfl, below_drewN C0.out.bl _⟩
end Go.Proofs.Yticnmgdflkipeaa
