import Derived.Test.YticnmgdflkipeaaZ33
import Derived.Test.YticnmgdflkipeaaZ42
namespace Go.Proofs.Yticnmgdflkipeaa
open Go.RowKit Go.Shelf Go.Hos
set_option linter.unusedVariables false
/-! Place, beside objects that lie -/
def putI (o : ObjD) : ObjD := { o with base := 138538465099776 - spanA o }
theorem TW.next {w W W' : World} {cs z : Array Value} (h : TW w cs z W) (hb : Below W.heap.size W W') : TW w cs z W' :=
  ⟨h.bl.trans (hb.mono h.bl.size), h.b1.below hb h.b1.lt, h.b2.below hb h.b2.lt⟩
theorem putI_lie {o : ObjD} (hr : rightB o = true) (h3 : o.ty = 3) (hf : ∀ k, (o.sg k).fits) : Lie (putI o) := by
  have a := spanA_lt hr
  have z := spanZ_le3 hr h3
  refine ⟨hr, decide_eq_true ?_, ?_, hf⟩
  · show 138538465099776 - spanA o + spanZ o ≤ 140737488355328
    omega
  · show 138538465099776 - spanA o < M
    unfold M; omega
theorem field71 (x y : Int) (W : World) : Sem.run Try.prog (Instr.field 71 (.agg #[.int .u64 x, .int .u64 y]) 0) W = .ok (.int .u64 x) W := by kernel_rfl
/-- what Place answers -/
def PlR (O : Nat → ObjD) (o : ObjD) (m : Nat) (E : Int) (cs : Array Value) : Prop :=
  (E = 0 ∧ cs = (putI o).cs ∧ rightB o = true ∧ o.ty = 3 ∧ clearB O (sx (putI o)) (sy (putI o)) m = true) ∨ (E ≠ 0 ∧ cs = #[.int .i64 0, .int .u64 0, .int .u16 0, .int .u64 0, .int .u64 0, .slice none 0 0, .slice none 0 0, .string ⟨#[]⟩, .string ⟨#[]⟩, .slice none 0 0, .slice none 0 0])
theorem below_sets {a W : World} {B g : Nat} (h : Below B a W) (hg : B ≤ g) (v0 v1 v2 v3 v4 v5 v6 v7 v8 v9 v10 : Value) : Below B a (((((((((((W.setCell ⟨g, 0, none⟩ (v0)).setCell ⟨g, 1, none⟩ (v1)).setCell ⟨g, 2, none⟩ (v2)).setCell ⟨g, 3, none⟩ (v3)).setCell ⟨g, 4, none⟩ (v4)).setCell ⟨g, 5, none⟩ (v5)).setCell ⟨g, 6, none⟩ (v6)).setCell ⟨g, 7, none⟩ (v7)).setCell ⟨g, 8, none⟩ (v8)).setCell ⟨g, 9, none⟩ (v9)).setCell ⟨g, 10, none⟩ (v10)) :=
  ((((((((((h.setCell hg v0).setCell hg v1).setCell hg v2).setCell hg v3).setCell hg v4).setCell hg v5).setCell hg v6).setCell hg v7).setCell hg v8).setCell hg v9).setCell hg v10
set_option maxRecDepth 100000 in
set_option maxHeartbeats 8000000 in
theorem place_any (o : ObjD) (A : Option Addr) (m c : Nat) (O : Nat → ObjD) (w : World) (hS : StR w w.heap.size 6 o.gA o.gM (segC o.sg)) (hf : ∀ k, (o.sg k).fits) (hgm : o.gM ≤ maxLen) (hR : ObjR w w.heap.size A m O) (hL : ∀ i, i < m → Lie (O i)) (hm : m ≤ 8) :
    Calls Try.prog 22 #[.slice A m c, .agg o.cs] w fun e W' => Below w.heap.size w W' ∧ ∃ E cs, e = .returned (.tuple #[.agg cs, .int .i64 E]) ∧ PlR O o m E cs := by
  have hmm : maxLen = 9223372036854775807 := by simp [maxLen]
  have HS := Lib.hid hS; have HF := Lib.hid hf; have HR := Lib.hid hR; have HL := Lib.hid hL
  obtain ⟨rb, hrb⟩ : ∃ b, b = rightB o := ⟨_, rfl⟩
  have HRB := Lib.hid hrb
  obtain ⟨aa, haa⟩ : ∃ x, x = spanA o := ⟨_, rfl⟩
  obtain ⟨zz, hzz⟩ : ∃ x, x = spanZ o := ⟨_, rfl⟩
  have HAA := Lib.hid haa
  have RC : Hid (∀ W : World, StR W W.heap.size 6 o.gA o.gM (segC o.sg) → Calls Try.prog 11 #[.agg o.cs] W fun e W' => e = .returned (.bool rb) ∧ Below W.heap.size W W') := Lib.hid fun W h => by
    have := right_any o W h hf; rwa [← hrb] at this
  have EX : Hid (∀ W : World, StR W W.heap.size 6 o.gA o.gM (segC o.sg) → Calls Try.prog 32 #[.agg o.cs] W fun e W' => e = .returned (.agg #[.int .u64 aa, .int .u64 zz]) ∧ Below W.heap.size W W') := Lib.hid fun W h => by
    rw [haa, hzz]; exact extent_any o W h hf hgm
  have RI : Hid (∀ i, i < m → ∀ W : World, StR W W.heap.size 6 (O i).gA (O i).gM (segC (O i).sg) → Calls Try.prog 11 #[.agg (O i).cs] W fun e W' => e = .returned (.bool true) ∧ Below W.heap.size W W') := Lib.hid fun i hi W h => by
    have := right_any (O i) W h (hL i hi).f; rwa [(hL i hi).r] at this
  have LI : Hid (∀ i, i < m → ∀ W : World, StR W W.heap.size 6 (O i).gA (O i).gM (segC (O i).sg) → Calls Try.prog 39 #[.agg (O i).cs] W fun e W' => (∃ p q : Nat, e = .returned (.tuple #[.agg #[.int .u64 p, .int .u64 q], .bool true])) ∧ Below W.heap.size W W') := Lib.hid fun i hi W h =>
    (lies_yes (O i) W h (hL i hi).f (hL i hi).r (hL i hi).b (hL i hi).l).mono fun e W' he => ⟨⟨_, _, he.1⟩, he.2⟩
  obtain ⟨O0, hO0⟩ : ∃ x, x = o := ⟨_, rfl⟩
  rw [← hO0] at HS HF HRB HAA RC EX ⊢
  have HOO := Lib.hid hO0
  obtain ⟨ino, base, ty, en, ph, gA, gM, gQ, nA, nM, nQ, so, rn, sA, sM, sQ, rA, rM, rQ, sg⟩ := o
  have HCS : Hid (O0.cs = #[.int .i64 ino, .int .u64 base, .int .u16 ty, .int .u64 en, .int .u64 ph, .slice gA gM gQ, .slice nA nM nQ, .string so, .string rn, .slice sA sM sQ, .slice rA rM rQ]) := Lib.hid (by rw [hO0]; rfl)
  have HTY : Hid (O0.ty = ty) := Lib.hid (by rw [hO0])
  obtain ⟨W0, hW0⟩ : ∃ W, W = (w.alloc (.cells #[.int .i64 ino, .int .u64 base, .int .u16 ty, .int .u64 en, .int .u64 ph, .slice gA gM gQ, .slice nA nM nQ, .string so, .string rn, .slice sA sM sQ, .slice rA rM rQ] 33)).alloc (.cells #[.int .i64 0, .int .u64 0, .int .u16 0, .int .u64 0, .int .u64 0, .slice none 0 0, .slice none 0 0, .string ⟨#[]⟩, .string ⟨#[]⟩, .slice none 0 0, .slice none 0 0] 33) := ⟨_, rfl⟩
  have T0 : Hid (TW w #[.int .i64 ino, .int .u64 base, .int .u16 ty, .int .u64 en, .int .u64 ph, .slice gA gM gQ, .slice nA nM nQ, .string so, .string rn, .slice sA sM sQ, .slice rA rM rQ] #[.int .i64 0, .int .u64 0, .int .u16 0, .int .u64 0, .int .u64 0, .slice none 0 0, .slice none 0 0, .string ⟨#[]⟩, .string ⟨#[]⟩, .slice none 0 0, .slice none 0 0] W0) := by
    rw [hW0]; exact Lib.hid ⟨((Below.refl _ _).alloc (Nat.le_refl _) _).alloc (by simp) _, (Blk.new _ _ _).alloc _, blk_at _ _ (by simp)⟩
  have HW0 := Lib.hid hW0
  rw [HCS.out]
  clear hS hf hgm hR hL hrb haa hzz hO0 hW0
  go_enter Try.func22, Try.ntmps22
  go_upto_region 1 with fail
  rw [← HW0.out]
  have a0 := (T0.out.b1.cell 0).trans rfl
  have a1 := (T0.out.b1.cell 1).trans rfl
  have a2 := (T0.out.b1.cell 2).trans rfl
  have a3 := (T0.out.b1.cell 3).trans rfl
  have a4 := (T0.out.b1.cell 4).trans rfl
  have a5 := (T0.out.b1.cell 5).trans rfl
  have a6 := (T0.out.b1.cell 6).trans rfl
  have a7 := (T0.out.b1.cell 7).trans rfl
  have a8 := (T0.out.b1.cell 8).trans rfl
  have a9 := (T0.out.b1.cell 9).trans rfl
  have a10 := (T0.out.b1.cell 10).trans rfl
  simp only [List.getElem?_toArray, List.getElem?_cons_succ, List.getElem?_cons_zero] at a0 a1 a2 a3 a4 a5 a6 a7 a8 a9 a10
  have la := T0.out.b1.lt
  go_wp2_with fail
  rw [← HCS.out]
  refine (RC.out W0 ((HS.out.below T0.out.bl).more T0.out.bl.size)).mono ?_
  rintro e w1 ⟨rfl, b1⟩
  have T1 := Lib.hid (T0.out.next b1)
  have S1 := Lib.hid ((HS.out.below T1.out.bl).more T1.out.bl.size)
  have R1 := Lib.hid ((HR.out.below T1.out.bl).more T1.out.bl.size)
  clear a0 a1 a2 a3 a4 a5 a6 a7 a8 a9 a10 la
  have HR0 := Lib.hid HR.out
  clear b1 T0 HW0 HR
  cases rb with
  | false =>
    have a0 := (T1.out.b1.cell 0).trans rfl
    have a1 := (T1.out.b1.cell 1).trans rfl
    have a2 := (T1.out.b1.cell 2).trans rfl
    have a3 := (T1.out.b1.cell 3).trans rfl
    have a4 := (T1.out.b1.cell 4).trans rfl
    have a5 := (T1.out.b1.cell 5).trans rfl
    have a6 := (T1.out.b1.cell 6).trans rfl
    have a7 := (T1.out.b1.cell 7).trans rfl
    have a8 := (T1.out.b1.cell 8).trans rfl
    have a9 := (T1.out.b1.cell 9).trans rfl
    have a10 := (T1.out.b1.cell 10).trans rfl
    simp only [List.getElem?_toArray, List.getElem?_cons_succ, List.getElem?_cons_zero] at a0 a1 a2 a3 a4 a5 a6 a7 a8 a9 a10
    have la := T1.out.b1.lt
    have z0 := (T1.out.b2.cell 0).trans rfl
    have z1 := (T1.out.b2.cell 1).trans rfl
    have z2 := (T1.out.b2.cell 2).trans rfl
    have z3 := (T1.out.b2.cell 3).trans rfl
    have z4 := (T1.out.b2.cell 4).trans rfl
    have z5 := (T1.out.b2.cell 5).trans rfl
    have z6 := (T1.out.b2.cell 6).trans rfl
    have z7 := (T1.out.b2.cell 7).trans rfl
    have z8 := (T1.out.b2.cell 8).trans rfl
    have z9 := (T1.out.b2.cell 9).trans rfl
    have z10 := (T1.out.b2.cell 10).trans rfl
    simp only [List.getElem?_toArray, List.getElem?_cons_succ, List.getElem?_cons_zero] at z0 z1 z2 z3 z4 z5 z6 z7 z8 z9 z10
    have lz := T1.out.b2.lt
    have fz : ∀ j, w1.frozen? ⟨w.heap.size + 1, j, none⟩ = false := fun j => T1.out.b2.frozen j
    go_wp2_with fail
    obtain ⟨W', hW'⟩ : ∃ W', W' = (((((((((((w1.setCell ⟨w.heap.size + 1, 0, none⟩ (.int .i64 0)).setCell ⟨w.heap.size + 1, 1, none⟩ (.int .u64 0)).setCell ⟨w.heap.size + 1, 2, none⟩ (.int .u16 0)).setCell ⟨w.heap.size + 1, 3, none⟩ (.int .u64 0)).setCell ⟨w.heap.size + 1, 4, none⟩ (.int .u64 0)).setCell ⟨w.heap.size + 1, 5, none⟩ (.slice none 0 0)).setCell ⟨w.heap.size + 1, 6, none⟩ (.slice none 0 0)).setCell ⟨w.heap.size + 1, 7, none⟩ (.string ⟨#[]⟩)).setCell ⟨w.heap.size + 1, 8, none⟩ (.string ⟨#[]⟩)).setCell ⟨w.heap.size + 1, 9, none⟩ (.slice none 0 0)).setCell ⟨w.heap.size + 1, 10, none⟩ (.slice none 0 0)) := ⟨_, rfl⟩
    have B2 : Blk W' (w.heap.size + 1) 33 #[.int .i64 0, .int .u64 0, .int .u16 0, .int .u64 0, .int .u64 0, .slice none 0 0, .slice none 0 0, .string ⟨#[]⟩, .string ⟨#[]⟩, .slice none 0 0, .slice none 0 0] := by rw [hW']; exact Blk.set11 T1.out.b2 _ _ _ _ _ _ _ _ _ _ _
    have y0 := (B2.cell 0).trans rfl
    have y1 := (B2.cell 1).trans rfl
    have y2 := (B2.cell 2).trans rfl
    have y3 := (B2.cell 3).trans rfl
    have y4 := (B2.cell 4).trans rfl
    have y5 := (B2.cell 5).trans rfl
    have y6 := (B2.cell 6).trans rfl
    have y7 := (B2.cell 7).trans rfl
    have y8 := (B2.cell 8).trans rfl
    have y9 := (B2.cell 9).trans rfl
    have y10 := (B2.cell 10).trans rfl
    simp only [List.getElem?_toArray, List.getElem?_cons_succ, List.getElem?_cons_zero] at y0 y1 y2 y3 y4 y5 y6 y7 y8 y9 y10
    rw [← hW']
    refine bodyPost_ret (v := .tuple #[.agg #[.int .i64 0, .int .u64 0, .int .u16 0, .int .u64 0, .int .u64 0, .slice none 0 0, .slice none 0 0, .string ⟨#[]⟩, .string ⟨#[]⟩, .slice none 0 0, .slice none 0 0], .int .i64 1]) (by simp [results, Try.results22, go_sem, y0, y1, y2, y3, y4, y5, y6, y7, y8, y9, y10]) rfl ⟨by rw [hW']; exact below_sets T1.out.bl (by omega) _ _ _ _ _ _ _ _ _ _ _, 1, _, rfl, .inr ⟨by decide, rfl⟩⟩
  | true =>
    by_cases h3 : ty = 3
    · have t3 : ((ty : Int) != 3) = false := by simp; omega
      have t4 : decide ((8 : Int) < (m : Int)) = false := by simp; omega
      have t4n : decide (8 < m) = false := by simp; omega
      have H3 := Lib.hid h3
      clear h3
      have a0 := (T1.out.b1.cell 0).trans rfl
      have a1 := (T1.out.b1.cell 1).trans rfl
      have a2 := (T1.out.b1.cell 2).trans rfl
      have a3 := (T1.out.b1.cell 3).trans rfl
      have a4 := (T1.out.b1.cell 4).trans rfl
      have a5 := (T1.out.b1.cell 5).trans rfl
      have a6 := (T1.out.b1.cell 6).trans rfl
      have a7 := (T1.out.b1.cell 7).trans rfl
      have a8 := (T1.out.b1.cell 8).trans rfl
      have a9 := (T1.out.b1.cell 9).trans rfl
      have a10 := (T1.out.b1.cell 10).trans rfl
      simp only [List.getElem?_toArray, List.getElem?_cons_succ, List.getElem?_cons_zero] at a0 a1 a2 a3 a4 a5 a6 a7 a8 a9 a10
      have la := T1.out.b1.lt
      go_wp2_with fail
      clear a0 a1 a2 a3 a4 a5 a6 a7 a8 a9 a10 la
      go_loopw [27] (fun v27 wr => ∃ i : Nat, i ≤ m ∧ v27 = .int .i64 i ∧ Hid (Below w1.heap.size w1 wr)) (fun v27 _ => m - (intOf v27).toNat)
      case atStart => exact ⟨0, Nat.zero_le _, rfl, Lib.hid (Below.refl _ _)⟩
      case round =>
        obtain ⟨i, hi, rfl, bl⟩ := hrel
        by_cases him : i < m
        · have e1 : decide ((i : Int) < (m : Int)) = true := by simp; omega
          have e2 : (i : Int) < (m : Int) := by omega
          obtain ⟨ad, rfl, had, c0, c1, c2, c3, c4, c5, c6, c7, c8, c9, c10⟩ := (R1.out.below bl.out).cells him
          have hsy := (R1.out.below bl.out).sy i him
          obtain ⟨Wa, hWa⟩ : ∃ W, W = wr.alloc (.cells (O i).cs 33) := ⟨_, rfl⟩
          have Ba : Hid (Below wr.heap.size wr Wa) := by rw [hWa]; exact Lib.hid ((Below.refl _ _).alloc (Nat.le_refl _) _)
          have Ka : Hid (Blk Wa wr.heap.size 33 (O i).cs) := by rw [hWa]; exact Lib.hid (Blk.new _ _ _)
          have Sa := (hsy.1.more bl.out.size).below Ba.out
          have CR := RI.out i him Wa (Sa.more Ba.out.size)
          have CL : ∀ W : World, Below Wa.heap.size Wa W → _ := fun W h => LI.out i him W ((Sa.below (h.mono Ba.out.size)).more (Nat.le_trans Ba.out.size h.size))
          have ecs : (O i).cs = #[.int .i64 (O i).ino, .int .u64 (O i).base, .int .u16 (O i).ty, .int .u64 (O i).en, .int .u64 (O i).ph, .slice (O i).gA (O i).gM (O i).gQ, .slice (O i).nA (O i).nM (O i).nQ, .string (O i).so, .string (O i).rn, .slice (O i).sA (O i).sM (O i).sQ, .slice (O i).rA (O i).rM (O i).rQ] := rfl
          rw [ecs] at Ka CR CL hWa
          have HWa := Lib.hid hWa; have HCR := Lib.hid CR; have HCL := Lib.hid CL
          have lad := World.block_lt_of_cell? _ _ c0
          clear hsy Sa CR CL hWa ecs
          generalize (O i).ino = o0 at *
          generalize (O i).base = o1 at *
          generalize (O i).ty = o2 at *
          generalize (O i).en = o3 at *
          generalize (O i).ph = o4 at *
          generalize (O i).gA = o5 at *
          generalize (O i).gM = o6 at *
          generalize (O i).gQ = o7 at *
          generalize (O i).nA = o8 at *
          generalize (O i).nM = o9 at *
          generalize (O i).nQ = o10 at *
          generalize (O i).so = o11 at *
          generalize (O i).rn = o12 at *
          generalize (O i).sA = o13 at *
          generalize (O i).sM = o14 at *
          generalize (O i).sQ = o15 at *
          generalize (O i).rA = o16 at *
          generalize (O i).rM = o17 at *
          generalize (O i).rQ = o18 at *
          go_upto_region 6 with fail
          rw [← HWa.out]
          have k0 := (Ka.out.cell 0).trans rfl
          have k1 := (Ka.out.cell 1).trans rfl
          have k2 := (Ka.out.cell 2).trans rfl
          have k3 := (Ka.out.cell 3).trans rfl
          have k4 := (Ka.out.cell 4).trans rfl
          have k5 := (Ka.out.cell 5).trans rfl
          have k6 := (Ka.out.cell 6).trans rfl
          have k7 := (Ka.out.cell 7).trans rfl
          have k8 := (Ka.out.cell 8).trans rfl
          have k9 := (Ka.out.cell 9).trans rfl
          have k10 := (Ka.out.cell 10).trans rfl
          simp only [List.getElem?_toArray, List.getElem?_cons_succ, List.getElem?_cons_zero] at k0 k1 k2 k3 k4 k5 k6 k7 k8 k9 k10
          have lk := Ka.out.lt
          clear c0 c1 c2 c3 c4 c5 c6 c7 c8 c9 c10 lad
          go_wp2_with fail
          refine HCR.out.mono ?_
          rintro e wb ⟨rfl, bb⟩
          have Bb := Lib.hid bb
          have Kb := Lib.hid (Ka.out.below bb Ka.out.lt)
          clear k0 k1 k2 k3 k4 k5 k6 k7 k8 k9 k10 lk bb
          have k0 := (Kb.out.cell 0).trans rfl
          have k1 := (Kb.out.cell 1).trans rfl
          have k2 := (Kb.out.cell 2).trans rfl
          have k3 := (Kb.out.cell 3).trans rfl
          have k4 := (Kb.out.cell 4).trans rfl
          have k5 := (Kb.out.cell 5).trans rfl
          have k6 := (Kb.out.cell 6).trans rfl
          have k7 := (Kb.out.cell 7).trans rfl
          have k8 := (Kb.out.cell 8).trans rfl
          have k9 := (Kb.out.cell 9).trans rfl
          have k10 := (Kb.out.cell 10).trans rfl
          simp only [List.getElem?_toArray, List.getElem?_cons_succ, List.getElem?_cons_zero] at k0 k1 k2 k3 k4 k5 k6 k7 k8 k9 k10
          have lk := Kb.out.lt
          go_wp2_with fail
          refine (HCL.out wb Bb.out).mono ?_
          rintro e wd ⟨⟨px, qx, rfl⟩, bd⟩
          have Bd := Lib.hid (bl.out.trans ((Ba.out.trans ((Bb.out.trans (bd.mono Bb.out.size)).mono Ba.out.size)).mono bl.out.size))
          clear bd k0 k1 k2 k3 k4 k5 k6 k7 k8 k9 k10 lk
          have B9 := Lib.hid (Bd.out.alloc Bd.out.size (.cells #[.int .u64 px, .int .u64 qx] 71))
          go_wp2_with fail
          go_roundw
          case rel => exact ⟨i + 1, by omega, by go_num, B9⟩
          case measure => simp [intOf]; omega
        · obtain rfl : i = m := by omega
          have e1 : decide ((i : Int) < (i : Int)) = false := by simp
          have T3 := Lib.hid (T1.out.next bl.out)
          have S3 := Lib.hid ((HS.out.below T3.out.bl).more T3.out.bl.size)
          have R3 := Lib.hid ((R1.out.below bl.out).more bl.out.size)
          clear bl T1 S1 R1 RI LI
          have a0 := (T3.out.b1.cell 0).trans rfl
          have a1 := (T3.out.b1.cell 1).trans rfl
          have a2 := (T3.out.b1.cell 2).trans rfl
          have a3 := (T3.out.b1.cell 3).trans rfl
          have a4 := (T3.out.b1.cell 4).trans rfl
          have a5 := (T3.out.b1.cell 5).trans rfl
          have a6 := (T3.out.b1.cell 6).trans rfl
          have a7 := (T3.out.b1.cell 7).trans rfl
          have a8 := (T3.out.b1.cell 8).trans rfl
          have a9 := (T3.out.b1.cell 9).trans rfl
          have a10 := (T3.out.b1.cell 10).trans rfl
          simp only [List.getElem?_toArray, List.getElem?_cons_succ, List.getElem?_cons_zero] at a0 a1 a2 a3 a4 a5 a6 a7 a8 a9 a10
          have la := T3.out.b1.lt
          go_wp2_with fail
          rw [← HCS.out]
          refine (EX.out wr S3.out).mono ?_
          rintro e w4 ⟨rfl, b4⟩
          have T4 := Lib.hid (T3.out.next b4)
          have R4 := Lib.hid ((R3.out.below b4).more b4.size)
          clear a0 a1 a2 a3 a4 a5 a6 a7 a8 a9 a10 la
          clear b4 T3 S3 R3
          have r1 : aa < 4294967296 := by rw [HAA.out]; have := spanA_lt HRB.out.symm; have := spanZ_le3 HRB.out.symm (by rw [HTY.out]; exact H3.out); omega
          obtain ⟨nb, hnb⟩ : ∃ x, x = 138538465099776 - aa := ⟨_, rfl⟩
          have w5' : IntKind.u64.wrap (138538465099776 - (aa : Int)) = (nb : Int) := by rw [show (138538465099776 : Int) - (aa : Int) = ((138538465099776 - aa : Nat) : Int) by omega, ← hnb]; exact wrap_small (by unfold M; omega)
          have w6' : (138538465099776 : Int) - (aa : Int) = (nb : Int) := by omega
          have w7' : IntKind.u64.wrap (nb : Int) = (nb : Int) := wrap_small (by unfold M; omega)
          have PI : Hid ((putI O0).cs = #[.int .i64 ino, .int .u64 nb, .int .u16 ty, .int .u64 en, .int .u64 ph, .slice gA gM gQ, .slice nA nM nQ, .string so, .string rn, .slice sA sM sQ, .slice rA rM rQ]) := Lib.hid (by rw [hnb, HAA.out, HOO.out]; rfl)
          have LP : Hid (Lie (putI O0)) := Lib.hid (putI_lie HRB.out.symm (by rw [HTY.out]; exact H3.out) HF.out)
          have hfd := field71 (aa : Int) (zz : Int)
          obtain ⟨w5, hw5⟩ : ∃ W, W = w4.setCell ⟨w.heap.size, 1, none⟩ (.int .u64 nb) := ⟨_, rfl⟩
          have T5 : Hid (TW w #[.int .i64 ino, .int .u64 nb, .int .u16 ty, .int .u64 en, .int .u64 ph, .slice gA gM gQ, .slice nA nM nQ, .string so, .string rn, .slice sA sM sQ, .slice rA rM rQ] #[.int .i64 0, .int .u64 0, .int .u16 0, .int .u64 0, .int .u64 0, .slice none 0 0, .slice none 0 0, .string ⟨#[]⟩, .string ⟨#[]⟩, .slice none 0 0, .slice none 0 0] w5) := by rw [hw5]; exact Lib.hid ⟨T4.out.bl.setCell (by simp) _, T4.out.b1.set_ 1 _, T4.out.b2.far (by simp) _⟩
          have S5 := Lib.hid ((HS.out.below T5.out.bl).more T5.out.bl.size)
          have R5 : Hid (ObjR w5 w5.heap.size A i O) := Lib.hid (by
            have h5 : Below w.heap.size w4 w5 := by rw [hw5]; exact (Below.refl _ _).setCell (by simp) _
            exact ((HR0.out.below T4.out.bl).below h5).more (Nat.le_trans T4.out.bl.size h5.size))
          have HW5 := Lib.hid hw5
          clear hnb hw5 r1
          have a0 := (T4.out.b1.cell 0).trans rfl
          have a1 := (T4.out.b1.cell 1).trans rfl
          have a2 := (T4.out.b1.cell 2).trans rfl
          have a3 := (T4.out.b1.cell 3).trans rfl
          have a4 := (T4.out.b1.cell 4).trans rfl
          have a5 := (T4.out.b1.cell 5).trans rfl
          have a6 := (T4.out.b1.cell 6).trans rfl
          have a7 := (T4.out.b1.cell 7).trans rfl
          have a8 := (T4.out.b1.cell 8).trans rfl
          have a9 := (T4.out.b1.cell 9).trans rfl
          have a10 := (T4.out.b1.cell 10).trans rfl
          simp only [List.getElem?_toArray, List.getElem?_cons_succ, List.getElem?_cons_zero] at a0 a1 a2 a3 a4 a5 a6 a7 a8 a9 a10
          have la := T4.out.b1.lt
          have fa : ∀ j, w4.frozen? ⟨w.heap.size, j, none⟩ = false := fun j => T4.out.b1.frozen j
          go_upto_region 13 with fail
          rw [← HW5.out]
          clear a0 a1 a2 a3 a4 a5 a6 a7 a8 a9 a10 la
          clear fa w5' w6' w7' hfd
          have a0 := (T5.out.b1.cell 0).trans rfl
          have a1 := (T5.out.b1.cell 1).trans rfl
          have a2 := (T5.out.b1.cell 2).trans rfl
          have a3 := (T5.out.b1.cell 3).trans rfl
          have a4 := (T5.out.b1.cell 4).trans rfl
          have a5 := (T5.out.b1.cell 5).trans rfl
          have a6 := (T5.out.b1.cell 6).trans rfl
          have a7 := (T5.out.b1.cell 7).trans rfl
          have a8 := (T5.out.b1.cell 8).trans rfl
          have a9 := (T5.out.b1.cell 9).trans rfl
          have a10 := (T5.out.b1.cell 10).trans rfl
          simp only [List.getElem?_toArray, List.getElem?_cons_succ, List.getElem?_cons_zero] at a0 a1 a2 a3 a4 a5 a6 a7 a8 a9 a10
          have la := T5.out.b1.lt
          go_wp2_with fail
          rw [← PI.out]
          obtain ⟨cb, hcb⟩ : ∃ b, b = clearB O (sx (putI O0)) (sy (putI O0)) i := ⟨_, rfl⟩
          have CC := clear_any (putI O0) A i c O w5 S5.out LP.out R5.out HL.out
          rw [← hcb] at CC
          refine CC.mono ?_
          rintro e w6 ⟨rfl, b6⟩
          have T6 := Lib.hid (T5.out.next b6)
          have HCB := Lib.hid hcb
          clear a0 a1 a2 a3 a4 a5 a6 a7 a8 a9 a10 la
          clear b6 CC hcb T4 R4 T5 S5 R5 HW5
          cases cb with
          | false =>
            have a0 := (T6.out.b1.cell 0).trans rfl
            have a1 := (T6.out.b1.cell 1).trans rfl
            have a2 := (T6.out.b1.cell 2).trans rfl
            have a3 := (T6.out.b1.cell 3).trans rfl
            have a4 := (T6.out.b1.cell 4).trans rfl
            have a5 := (T6.out.b1.cell 5).trans rfl
            have a6 := (T6.out.b1.cell 6).trans rfl
            have a7 := (T6.out.b1.cell 7).trans rfl
            have a8 := (T6.out.b1.cell 8).trans rfl
            have a9 := (T6.out.b1.cell 9).trans rfl
            have a10 := (T6.out.b1.cell 10).trans rfl
            simp only [List.getElem?_toArray, List.getElem?_cons_succ, List.getElem?_cons_zero] at a0 a1 a2 a3 a4 a5 a6 a7 a8 a9 a10
            have la := T6.out.b1.lt
            have z0 := (T6.out.b2.cell 0).trans rfl
            have z1 := (T6.out.b2.cell 1).trans rfl
            have z2 := (T6.out.b2.cell 2).trans rfl
            have z3 := (T6.out.b2.cell 3).trans rfl
            have z4 := (T6.out.b2.cell 4).trans rfl
            have z5 := (T6.out.b2.cell 5).trans rfl
            have z6 := (T6.out.b2.cell 6).trans rfl
            have z7 := (T6.out.b2.cell 7).trans rfl
            have z8 := (T6.out.b2.cell 8).trans rfl
            have z9 := (T6.out.b2.cell 9).trans rfl
            have z10 := (T6.out.b2.cell 10).trans rfl
            simp only [List.getElem?_toArray, List.getElem?_cons_succ, List.getElem?_cons_zero] at z0 z1 z2 z3 z4 z5 z6 z7 z8 z9 z10
            have lz := T6.out.b2.lt
            have fz : ∀ j, w6.frozen? ⟨w.heap.size + 1, j, none⟩ = false := fun j => T6.out.b2.frozen j
            go_wp2_with fail
            obtain ⟨W', hW'⟩ : ∃ W', W' = (((((((((((w6.setCell ⟨w.heap.size + 1, 0, none⟩ (.int .i64 0)).setCell ⟨w.heap.size + 1, 1, none⟩ (.int .u64 0)).setCell ⟨w.heap.size + 1, 2, none⟩ (.int .u16 0)).setCell ⟨w.heap.size + 1, 3, none⟩ (.int .u64 0)).setCell ⟨w.heap.size + 1, 4, none⟩ (.int .u64 0)).setCell ⟨w.heap.size + 1, 5, none⟩ (.slice none 0 0)).setCell ⟨w.heap.size + 1, 6, none⟩ (.slice none 0 0)).setCell ⟨w.heap.size + 1, 7, none⟩ (.string ⟨#[]⟩)).setCell ⟨w.heap.size + 1, 8, none⟩ (.string ⟨#[]⟩)).setCell ⟨w.heap.size + 1, 9, none⟩ (.slice none 0 0)).setCell ⟨w.heap.size + 1, 10, none⟩ (.slice none 0 0)) := ⟨_, rfl⟩
            have B2 : Blk W' (w.heap.size + 1) 33 #[.int .i64 0, .int .u64 0, .int .u16 0, .int .u64 0, .int .u64 0, .slice none 0 0, .slice none 0 0, .string ⟨#[]⟩, .string ⟨#[]⟩, .slice none 0 0, .slice none 0 0] := by rw [hW']; exact Blk.set11 T6.out.b2 _ _ _ _ _ _ _ _ _ _ _
            have y0 := (B2.cell 0).trans rfl
            have y1 := (B2.cell 1).trans rfl
            have y2 := (B2.cell 2).trans rfl
            have y3 := (B2.cell 3).trans rfl
            have y4 := (B2.cell 4).trans rfl
            have y5 := (B2.cell 5).trans rfl
            have y6 := (B2.cell 6).trans rfl
            have y7 := (B2.cell 7).trans rfl
            have y8 := (B2.cell 8).trans rfl
            have y9 := (B2.cell 9).trans rfl
            have y10 := (B2.cell 10).trans rfl
            simp only [List.getElem?_toArray, List.getElem?_cons_succ, List.getElem?_cons_zero] at y0 y1 y2 y3 y4 y5 y6 y7 y8 y9 y10
            rw [← hW']
            refine bodyPost_ret (v := .tuple #[.agg #[.int .i64 0, .int .u64 0, .int .u16 0, .int .u64 0, .int .u64 0, .slice none 0 0, .slice none 0 0, .string ⟨#[]⟩, .string ⟨#[]⟩, .slice none 0 0, .slice none 0 0], .int .i64 13]) (by simp [results, Try.results22, go_sem, y0, y1, y2, y3, y4, y5, y6, y7, y8, y9, y10]) rfl ⟨by rw [hW']; exact below_sets T6.out.bl (by omega) _ _ _ _ _ _ _ _ _ _ _, 13, _, rfl, .inr ⟨by decide, rfl⟩⟩
          | true =>
            have a0 := (T6.out.b1.cell 0).trans rfl
            have a1 := (T6.out.b1.cell 1).trans rfl
            have a2 := (T6.out.b1.cell 2).trans rfl
            have a3 := (T6.out.b1.cell 3).trans rfl
            have a4 := (T6.out.b1.cell 4).trans rfl
            have a5 := (T6.out.b1.cell 5).trans rfl
            have a6 := (T6.out.b1.cell 6).trans rfl
            have a7 := (T6.out.b1.cell 7).trans rfl
            have a8 := (T6.out.b1.cell 8).trans rfl
            have a9 := (T6.out.b1.cell 9).trans rfl
            have a10 := (T6.out.b1.cell 10).trans rfl
            simp only [List.getElem?_toArray, List.getElem?_cons_succ, List.getElem?_cons_zero] at a0 a1 a2 a3 a4 a5 a6 a7 a8 a9 a10
            have la := T6.out.b1.lt
            have z0 := (T6.out.b2.cell 0).trans rfl
            have z1 := (T6.out.b2.cell 1).trans rfl
            have z2 := (T6.out.b2.cell 2).trans rfl
            have z3 := (T6.out.b2.cell 3).trans rfl
            have z4 := (T6.out.b2.cell 4).trans rfl
            have z5 := (T6.out.b2.cell 5).trans rfl
            have z6 := (T6.out.b2.cell 6).trans rfl
            have z7 := (T6.out.b2.cell 7).trans rfl
            have z8 := (T6.out.b2.cell 8).trans rfl
            have z9 := (T6.out.b2.cell 9).trans rfl
            have z10 := (T6.out.b2.cell 10).trans rfl
            simp only [List.getElem?_toArray, List.getElem?_cons_succ, List.getElem?_cons_zero] at z0 z1 z2 z3 z4 z5 z6 z7 z8 z9 z10
            have lz := T6.out.b2.lt
            have fz : ∀ j, w6.frozen? ⟨w.heap.size + 1, j, none⟩ = false := fun j => T6.out.b2.frozen j
            go_wp2_with fail
            obtain ⟨W', hW'⟩ : ∃ W', W' = (((((((((((w6.setCell ⟨w.heap.size + 1, 0, none⟩ (.int .i64 ino)).setCell ⟨w.heap.size + 1, 1, none⟩ (.int .u64 nb)).setCell ⟨w.heap.size + 1, 2, none⟩ (.int .u16 ty)).setCell ⟨w.heap.size + 1, 3, none⟩ (.int .u64 en)).setCell ⟨w.heap.size + 1, 4, none⟩ (.int .u64 ph)).setCell ⟨w.heap.size + 1, 5, none⟩ (.slice gA gM gQ)).setCell ⟨w.heap.size + 1, 6, none⟩ (.slice nA nM nQ)).setCell ⟨w.heap.size + 1, 7, none⟩ (.string so)).setCell ⟨w.heap.size + 1, 8, none⟩ (.string rn)).setCell ⟨w.heap.size + 1, 9, none⟩ (.slice sA sM sQ)).setCell ⟨w.heap.size + 1, 10, none⟩ (.slice rA rM rQ)) := ⟨_, rfl⟩
            have B2 : Blk W' (w.heap.size + 1) 33 #[.int .i64 ino, .int .u64 nb, .int .u16 ty, .int .u64 en, .int .u64 ph, .slice gA gM gQ, .slice nA nM nQ, .string so, .string rn, .slice sA sM sQ, .slice rA rM rQ] := by rw [hW']; exact Blk.set11 T6.out.b2 _ _ _ _ _ _ _ _ _ _ _
            have y0 := (B2.cell 0).trans rfl
            have y1 := (B2.cell 1).trans rfl
            have y2 := (B2.cell 2).trans rfl
            have y3 := (B2.cell 3).trans rfl
            have y4 := (B2.cell 4).trans rfl
            have y5 := (B2.cell 5).trans rfl
            have y6 := (B2.cell 6).trans rfl
            have y7 := (B2.cell 7).trans rfl
            have y8 := (B2.cell 8).trans rfl
            have y9 := (B2.cell 9).trans rfl
            have y10 := (B2.cell 10).trans rfl
            simp only [List.getElem?_toArray, List.getElem?_cons_succ, List.getElem?_cons_zero] at y0 y1 y2 y3 y4 y5 y6 y7 y8 y9 y10
            rw [← hW']
            refine bodyPost_ret (v := .tuple #[.agg #[.int .i64 ino, .int .u64 nb, .int .u16 ty, .int .u64 en, .int .u64 ph, .slice gA gM gQ, .slice nA nM nQ, .string so, .string rn, .slice sA sM sQ, .slice rA rM rQ], .int .i64 0]) (by simp [results, Try.results22, go_sem, y0, y1, y2, y3, y4, y5, y6, y7, y8, y9, y10]) rfl ⟨by rw [hW']; exact below_sets T6.out.bl (by omega) _ _ _ _ _ _ _ _ _ _ _, 0, _, rfl, .inl ⟨rfl, PI.out.symm, HRB.out.symm, by rw [HTY.out]; exact H3.out, HCB.out.symm⟩⟩
    · have t3 : ((ty : Int) != 3) = true := by simp; omega
      clear h3
      have a0 := (T1.out.b1.cell 0).trans rfl
      have a1 := (T1.out.b1.cell 1).trans rfl
      have a2 := (T1.out.b1.cell 2).trans rfl
      have a3 := (T1.out.b1.cell 3).trans rfl
      have a4 := (T1.out.b1.cell 4).trans rfl
      have a5 := (T1.out.b1.cell 5).trans rfl
      have a6 := (T1.out.b1.cell 6).trans rfl
      have a7 := (T1.out.b1.cell 7).trans rfl
      have a8 := (T1.out.b1.cell 8).trans rfl
      have a9 := (T1.out.b1.cell 9).trans rfl
      have a10 := (T1.out.b1.cell 10).trans rfl
      simp only [List.getElem?_toArray, List.getElem?_cons_succ, List.getElem?_cons_zero] at a0 a1 a2 a3 a4 a5 a6 a7 a8 a9 a10
      have la := T1.out.b1.lt
      have z0 := (T1.out.b2.cell 0).trans rfl
      have z1 := (T1.out.b2.cell 1).trans rfl
      have z2 := (T1.out.b2.cell 2).trans rfl
      have z3 := (T1.out.b2.cell 3).trans rfl
      have z4 := (T1.out.b2.cell 4).trans rfl
      have z5 := (T1.out.b2.cell 5).trans rfl
      have z6 := (T1.out.b2.cell 6).trans rfl
      have z7 := (T1.out.b2.cell 7).trans rfl
      have z8 := (T1.out.b2.cell 8).trans rfl
      have z9 := (T1.out.b2.cell 9).trans rfl
      have z10 := (T1.out.b2.cell 10).trans rfl
      simp only [List.getElem?_toArray, List.getElem?_cons_succ, List.getElem?_cons_zero] at z0 z1 z2 z3 z4 z5 z6 z7 z8 z9 z10
      have lz := T1.out.b2.lt
      have fz : ∀ j, w1.frozen? ⟨w.heap.size + 1, j, none⟩ = false := fun j => T1.out.b2.frozen j
      go_wp2_with fail
      obtain ⟨W', hW'⟩ : ∃ W', W' = (((((((((((w1.setCell ⟨w.heap.size + 1, 0, none⟩ (.int .i64 0)).setCell ⟨w.heap.size + 1, 1, none⟩ (.int .u64 0)).setCell ⟨w.heap.size + 1, 2, none⟩ (.int .u16 0)).setCell ⟨w.heap.size + 1, 3, none⟩ (.int .u64 0)).setCell ⟨w.heap.size + 1, 4, none⟩ (.int .u64 0)).setCell ⟨w.heap.size + 1, 5, none⟩ (.slice none 0 0)).setCell ⟨w.heap.size + 1, 6, none⟩ (.slice none 0 0)).setCell ⟨w.heap.size + 1, 7, none⟩ (.string ⟨#[]⟩)).setCell ⟨w.heap.size + 1, 8, none⟩ (.string ⟨#[]⟩)).setCell ⟨w.heap.size + 1, 9, none⟩ (.slice none 0 0)).setCell ⟨w.heap.size + 1, 10, none⟩ (.slice none 0 0)) := ⟨_, rfl⟩
      have B2 : Blk W' (w.heap.size + 1) 33 #[.int .i64 0, .int .u64 0, .int .u16 0, .int .u64 0, .int .u64 0, .slice none 0 0, .slice none 0 0, .string ⟨#[]⟩, .string ⟨#[]⟩, .slice none 0 0, .slice none 0 0] := by rw [hW']; exact Blk.set11 T1.out.b2 _ _ _ _ _ _ _ _ _ _ _
      have y0 := (B2.cell 0).trans rfl
      have y1 := (B2.cell 1).trans rfl
      have y2 := (B2.cell 2).trans rfl
      have y3 := (B2.cell 3).trans rfl
      have y4 := (B2.cell 4).trans rfl
      have y5 := (B2.cell 5).trans rfl
      have y6 := (B2.cell 6).trans rfl
      have y7 := (B2.cell 7).trans rfl
      have y8 := (B2.cell 8).trans rfl
      have y9 := (B2.cell 9).trans rfl
      have y10 := (B2.cell 10).trans rfl
      simp only [List.getElem?_toArray, List.getElem?_cons_succ, List.getElem?_cons_zero] at y0 y1 y2 y3 y4 y5 y6 y7 y8 y9 y10
      rw [← hW']
      refine bodyPost_ret (v := .tuple #[.agg #[.int .i64 0, .int .u64 0, .int .u16 0, .int .u64 0, .int .u64 0, .slice none 0 0, .slice none 0 0, .string ⟨#[]⟩, .string ⟨#[]⟩, .slice none 0 0, .slice none 0 0], .int .i64 1]) (by simp [results, Try.results22, go_sem, y0, y1, y2, y3, y4, y5, y6, y7, y8, y9, y10]) rfl ⟨by rw [hW']; exact below_sets T1.out.bl (by omega) _ _ _ _ _ _ _ _ _ _ _, 1, _, rfl, .inr ⟨by decide, rfl⟩⟩
end Go.Proofs.Yticnmgdflkipeaa
