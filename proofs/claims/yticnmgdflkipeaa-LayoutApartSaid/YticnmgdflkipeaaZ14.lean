import Derived.Test.YticnmgdflkipeaaZ13
import Derived.Deep.RegionHeld3
namespace Go.Proofs.Yticnmgdflkipeaa
open Go.RowKit Go.Shelf Go.Hos
set_option linter.unusedVariables false
/-! where an object lies: the document's and the program's; clear -/
theorem wrap_sum {a b s : Nat} (hs : s = a + b) (h : s < M) : IntKind.u64.wrap ((a : Int) + (b : Int)) = (s : Int) := by subst hs; exact wrap_small h
set_option maxRecDepth 20000 in
set_option maxHeartbeats 1600000 in
theorem rlies_yes (o : ObjD) (w : World) (hS : StR w w.heap.size 6 o.gA o.gM (segC o.sg)) (hf : ∀ k, (o.sg k).fits) (hr : rightB o = true) (hb : o.base < M) (hl : liesB o = true) :
    Calls Try.prog 35 #[.agg o.cs] w fun e W' => e = .returned (.tuple #[.int .u64 ((o.base + spanA o : Nat) : Int), .int .u64 ((o.base + spanZ o : Nat) : Int), .bool true]) ∧ Below w.heap.size w W' := by
  have hle := of_decide_eq_true hl
  have hlt := spanA_lt hr
  obtain ⟨aa, haa⟩ : ∃ x, x = spanA o := ⟨_, rfl⟩
  obtain ⟨zz, hzz⟩ : ∃ x, x = spanZ o := ⟨_, rfl⟩
  have SP := fun W hW => span_any o W hW hf hr
  rw [← haa, ← hzz] at SP ⊢
  rw [← hzz] at hle
  rw [← haa, ← hzz] at hlt
  obtain ⟨x, hx⟩ : ∃ x, x = o.base + aa := ⟨_, rfl⟩
  obtain ⟨y, hy⟩ : ∃ x, x = o.base + zz := ⟨_, rfl⟩
  rw [← hx, ← hy]
  have HS := Lib.hid hS; have HSP := Lib.hid SP
  obtain ⟨w0, hw0⟩ : ∃ x, x = w.alloc (.cells o.cs 33) := ⟨_, rfl⟩
  have B0 : Hid (Below w.heap.size w w0) := by rw [hw0]; exact Lib.hid ((Below.refl _ _).alloc (Nat.le_refl _) _)
  have K0 : Hid (Blk w0 w.heap.size 33 o.cs) := by rw [hw0]; exact Lib.hid (Blk.new _ _ _)
  have HW0 := Lib.hid hw0
  obtain ⟨O0, hO0⟩ : ∃ x, x = o := ⟨_, rfl⟩
  have hO1 : o.cs = O0.cs := by rw [hO0]
  obtain ⟨ino, base, ty, en, ph, gA, gM, gQ, nA, nM, nQ, so, rn, sA, sM, sQ, rA, rM, rQ, sg⟩ := o
  rw [show (ObjD.mk ino base ty en ph gA gM gQ nA nM nQ so rn sA sM sQ rA rM rQ sg).cs = #[.int .i64 ino, .int .u64 base, .int .u16 ty, .int .u64 en, .int .u64 ph, .slice gA gM gQ, .slice nA nM nQ, .string so, .string rn, .slice sA sM sQ, .slice rA rM rQ] from rfl] at HW0 K0 hO1 ⊢
  have HO1 := Lib.hid hO1
  have HO0 := Lib.hid hO0
  rw [← hO0] at HS HSP
  dsimp only at hb hx hy hle
  have s1 : IntKind.u64.wrap ((base : Int) + (aa : Int)) = (x : Int) := wrap_sum hx (by unfold M; omega)
  have s2 : IntKind.u64.wrap ((base : Int) + (zz : Int)) = (y : Int) := wrap_sum hy (by unfold M; omega)
  have f1 : decide (x < aa) = false := by simp; omega
  have f2 : decide (y < zz) = false := by simp; omega
  have f3 : decide ((140737488355328 : Int) < (y : Int)) = false := by simp; omega
  have f1' : decide ((x : Int) < (aa : Int)) = false := by simp; omega
  have f2' : decide ((y : Int) < (zz : Int)) = false := by simp; omega
  clear hS hf hr hl hw0 hO0 hO1 hx hy hlt hle haa hzz SP
  go_enter Try.func35, Try.ntmps35
  go_wp2_with fail
  rw [← HW0.out, HO1.out]
  refine (HSP.out w0 ((HS.out.below B0.out).more B0.out.size)).mono ?_
  rintro e w2 ⟨rfl, bl⟩
  have B2 : Hid (Below w.heap.size w w2) := Lib.hid (B0.out.trans (bl.mono B0.out.size))
  have K2 := Lib.hid (K0.out.below bl K0.out.lt)
  have c1 : w2.cell? ⟨w.heap.size, 1, none⟩ = some (.int .u64 base) := (K2.out.cell 1).trans rfl
  have l1 := K2.out.lt
  clear bl
  go_wp2_with fail
  go_quiet (fail)
  go_wp2_with fail
  go_ret3
  exact ⟨rfl, below_drewN B2.out _⟩
set_option maxRecDepth 20000 in
set_option maxHeartbeats 1600000 in
theorem rlies_no (o : ObjD) (w : World) (hS : StR w w.heap.size 6 o.gA o.gM (segC o.sg)) (hf : ∀ k, (o.sg k).fits) (hr : rightB o = true) (hb : o.base < M) (hl : liesB o = false) :
    Calls Try.prog 35 #[.agg o.cs] w fun e W' => e = .returned (.tuple #[.int .u64 0, .int .u64 0, .bool false]) ∧ Below w.heap.size w W' := by
  have hle := of_decide_eq_false hl
  have hlt := spanA_lt hr
  have hz := spanZ_le hr
  obtain ⟨aa, haa⟩ : ∃ x, x = spanA o := ⟨_, rfl⟩
  obtain ⟨zz, hzz⟩ : ∃ x, x = spanZ o := ⟨_, rfl⟩
  have SP := fun W hW => span_any o W hW hf hr
  rw [← haa, ← hzz] at SP
  rw [← hzz] at hle hz
  rw [← haa, ← hzz] at hlt
  obtain ⟨x, hx⟩ : ∃ x, x = (o.base + aa) % M := ⟨_, rfl⟩
  obtain ⟨y, hy⟩ : ∃ x, x = (o.base + zz) % M := ⟨_, rfl⟩
  have HS := Lib.hid hS; have HSP := Lib.hid SP
  obtain ⟨w0, hw0⟩ : ∃ x, x = w.alloc (.cells o.cs 33) := ⟨_, rfl⟩
  have B0 : Hid (Below w.heap.size w w0) := by rw [hw0]; exact Lib.hid ((Below.refl _ _).alloc (Nat.le_refl _) _)
  have K0 : Hid (Blk w0 w.heap.size 33 o.cs) := by rw [hw0]; exact Lib.hid (Blk.new _ _ _)
  have HW0 := Lib.hid hw0
  obtain ⟨O0, hO0⟩ : ∃ x, x = o := ⟨_, rfl⟩
  have hO1 : o.cs = O0.cs := by rw [hO0]
  obtain ⟨ino, base, ty, en, ph, gA, gM, gQ, nA, nM, nQ, so, rn, sA, sM, sQ, rA, rM, rQ, sg⟩ := o
  rw [show (ObjD.mk ino base ty en ph gA gM gQ nA nM nQ so rn sA sM sQ rA rM rQ sg).cs = #[.int .i64 ino, .int .u64 base, .int .u16 ty, .int .u64 en, .int .u64 ph, .slice gA gM gQ, .slice nA nM nQ, .string so, .string rn, .slice sA sM sQ, .slice rA rM rQ] from rfl] at HW0 K0 hO1 ⊢
  have HO1 := Lib.hid hO1
  have HO0 := Lib.hid hO0
  rw [← hO0] at HS HSP
  dsimp only at hb hx hy hle
  have s1 : IntKind.u64.wrap ((base : Int) + (aa : Int)) = (x : Int) := by rw [IntKind.wrap_u64, hx]; unfold M; omega
  have s2 : IntKind.u64.wrap ((base : Int) + (zz : Int)) = (y : Int) := by rw [IntKind.wrap_u64, hy]; unfold M; omega
  have HX := Lib.hid hx; have HY := Lib.hid hy; have HLE := Lib.hid hle
  clear hS hf hr hl hw0 hO0 hO1 hx hy haa hzz SP hle
  by_cases c1 : x < aa
  · have f1 : decide (x < aa) = true := decide_eq_true c1
    have f1' : decide ((x : Int) < (aa : Int)) = true := by simp; omega
    clear c1 hz hlt
    go_enter Try.func35, Try.ntmps35
    go_wp2_with fail
    rw [← HW0.out, HO1.out]
    refine (HSP.out w0 ((HS.out.below B0.out).more B0.out.size)).mono ?_
    rintro e w2 ⟨rfl, bl⟩
    have B2 : Hid (Below w.heap.size w w2) := Lib.hid (B0.out.trans (bl.mono B0.out.size))
    have K2 := Lib.hid (K0.out.below bl K0.out.lt)
    have k1 : w2.cell? ⟨w.heap.size, 1, none⟩ = some (.int .u64 base) := (K2.out.cell 1).trans rfl
    have l1 := K2.out.lt
    clear bl
    go_wp2_with fail
    go_ret3
    exact ⟨rfl, B2.out⟩
  · by_cases c2 : y < zz
    · have f1 : decide (x < aa) = false := decide_eq_false c1
      have f1' : decide ((x : Int) < (aa : Int)) = false := by simp; omega
      have f2 : decide (y < zz) = true := decide_eq_true c2
      have f2' : decide ((y : Int) < (zz : Int)) = true := by simp; omega
      clear c1 c2 hz hlt
      go_enter Try.func35, Try.ntmps35
      go_wp2_with fail
      rw [← HW0.out, HO1.out]
      refine (HSP.out w0 ((HS.out.below B0.out).more B0.out.size)).mono ?_
      rintro e w2 ⟨rfl, bl⟩
      have B2 : Hid (Below w.heap.size w w2) := Lib.hid (B0.out.trans (bl.mono B0.out.size))
      have K2 := Lib.hid (K0.out.below bl K0.out.lt)
      have k1 : w2.cell? ⟨w.heap.size, 1, none⟩ = some (.int .u64 base) := (K2.out.cell 1).trans rfl
      have l1 := K2.out.lt
      clear bl
      go_wp2_with fail
      go_ret3
      exact ⟨rfl, B2.out⟩
    · have hyb : 140737488355328 < y := by
        have h1 := HX.out; have h2 := HY.out; have h3 := HLE.out
        unfold M at h1 h2 hb
        omega
      have f1 : decide (x < aa) = false := decide_eq_false c1
      have f1' : decide ((x : Int) < (aa : Int)) = false := by simp; omega
      have f2 : decide (y < zz) = false := decide_eq_false c2
      have f2' : decide ((y : Int) < (zz : Int)) = false := by simp; omega
      have f3 : decide ((140737488355328 : Int) < (y : Int)) = true := by simp; omega
      clear c1 c2 hz hlt hyb
      go_enter Try.func35, Try.ntmps35
      go_wp2_with fail
      rw [← HW0.out, HO1.out]
      refine (HSP.out w0 ((HS.out.below B0.out).more B0.out.size)).mono ?_
      rintro e w2 ⟨rfl, bl⟩
      have B2 : Hid (Below w.heap.size w w2) := Lib.hid (B0.out.trans (bl.mono B0.out.size))
      have K2 := Lib.hid (K0.out.below bl K0.out.lt)
      have k1 : w2.cell? ⟨w.heap.size, 1, none⟩ = some (.int .u64 base) := (K2.out.cell 1).trans rfl
      have l1 := K2.out.lt
      clear bl
      go_wp2_with fail
      go_ret3
      exact ⟨rfl, B2.out⟩
end Go.Proofs.Yticnmgdflkipeaa
