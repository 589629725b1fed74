import Derived.Test.YticnmgdflkipeaaZ14
namespace Go.Proofs.Yticnmgdflkipeaa
open Go.RowKit Go.Shelf Go.Hos
set_option linter.unusedVariables false
/-- what 'lies' has laid: the object, the answer's block, the span's block -/
structure LI (w : World) (cs : Array Value) (a z : Nat) (W : World) : Prop where
  bl : Below w.heap.size w W
  k0 : Blk W w.heap.size 33 cs
  k1 : Blk W (w.heap.size + 1) 71 #[.int .u64 0, .int .u64 0]
set_option maxRecDepth 20000 in
set_option maxHeartbeats 1600000 in
theorem lies_yes (o : ObjD) (w : World) (hS : StR w w.heap.size 6 o.gA o.gM (segC o.sg)) (hf : ∀ k, (o.sg k).fits) (hr : rightB o = true) (hb : o.base < M) (hl : liesB o = true) :
    Calls Try.prog 39 #[.agg o.cs] w fun e W' => e = .returned (.tuple #[.agg #[.int .u64 ((o.base + spanA o : Nat) : Int), .int .u64 ((o.base + spanZ o : Nat) : Int)], .bool true]) ∧ Below w.heap.size w W' := by
  have hle := of_decide_eq_true hl
  have hlt := spanA_lt hr
  have hm : o.gM ≤ maxLen := by have := (right_parts hr).2.1; simp only [maxLen]; omega
  obtain ⟨aa, haa⟩ : ∃ x, x = spanA o := ⟨_, rfl⟩
  obtain ⟨zz, hzz⟩ : ∃ x, x = spanZ o := ⟨_, rfl⟩
  have SP : ∀ W : World, StR W W.heap.size 6 o.gA o.gM (segC o.sg) → Calls Try.prog 32 #[.agg o.cs] W fun e W' => e = .returned (.agg #[.int .u64 (spanA o), .int .u64 (spanZ o)]) ∧ Below W.heap.size W W' := fun W hW => extent_any o W hW hf hm
  rw [← haa, ← hzz] at SP ⊢
  rw [← hzz] at hle
  rw [← haa, ← hzz] at hlt
  obtain ⟨x, hx⟩ : ∃ x, x = o.base + aa := ⟨_, rfl⟩
  obtain ⟨y, hy⟩ : ∃ x, x = o.base + zz := ⟨_, rfl⟩
  rw [← hx, ← hy]
  have HS := Lib.hid hS; have HSP := Lib.hid SP
  obtain ⟨w0, hw0⟩ : ∃ x, x = (w.alloc (.cells o.cs 33)).alloc (.cells #[.int .u64 0, .int .u64 0] 71) := ⟨_, rfl⟩
  have L0 : Hid (LI w o.cs aa zz w0) := by rw [hw0]; exact Lib.hid ⟨((Below.refl _ _).alloc (Nat.le_refl _) _).alloc (by simp) _, (Blk.new _ _ _).alloc _, blk_at _ _ (by simp)⟩
  have HW0 := Lib.hid hw0
  obtain ⟨O0, hO0⟩ : ∃ x, x = o := ⟨_, rfl⟩
  have hO1 : o.cs = O0.cs := by rw [hO0]
  obtain ⟨ino, base, ty, en, ph, gA, gM, gQ, nA, nM, nQ, so, rn, sA, sM, sQ, rA, rM, rQ, sg⟩ := o
  rw [show (ObjD.mk ino base ty en ph gA gM gQ nA nM nQ so rn sA sM sQ rA rM rQ sg).cs = #[.int .i64 ino, .int .u64 base, .int .u16 ty, .int .u64 en, .int .u64 ph, .slice gA gM gQ, .slice nA nM nQ, .string so, .string rn, .slice sA sM sQ, .slice rA rM rQ] from rfl] at HW0 L0 hO1 ⊢
  have HO1 := Lib.hid hO1
  have HO0 := Lib.hid hO0
  rw [← hO0] at HS HSP
  dsimp only at hb hx hy hle
  have HX := Lib.hid hx; have HY := Lib.hid hy
  have hxM : Hid (x < M) := Lib.hid (by unfold M; omega)
  have hyM : Hid (y < M) := Lib.hid (by unfold M; omega)
  have haM : Hid (aa < M) := Lib.hid (by unfold M; omega)
  have hzM : Hid (zz < M) := Lib.hid (by unfold M; omega)
  have HB := Lib.hid hb
  have f3 : decide ((y : Int) ≤ (140737488355328 : Int)) = true := by simp; omega
  clear hS hf hr hl hw0 hO0 hO1 hx hy hlt hle haa hzz SP hb hm
  go_enter Try.func39, Try.ntmps39
  go_wp2_with fail
  rw [← HW0.out, HO1.out]
  refine (HSP.out w0 ((HS.out.below L0.out.bl).more L0.out.bl.size)).mono ?_
  rintro e w2 ⟨rfl, bl⟩
  have B2 : Hid (Below w.heap.size w w2) := Lib.hid (L0.out.bl.trans (bl.mono L0.out.bl.size))
  have K0 := Lib.hid (L0.out.k0.below bl L0.out.k0.lt)
  have K1 := Lib.hid (L0.out.k1.below bl L0.out.k1.lt)
  have c1 : w2.cell? ⟨w.heap.size, 1, none⟩ = some (.int .u64 base) := (K0.out.cell 1).trans rfl
  have e0 : w2.cell? ⟨w.heap.size + 1, 0, none⟩ = some (.int .u64 0) := (K1.out.cell 0).trans rfl
  have e1 : w2.cell? ⟨w.heap.size + 1, 1, none⟩ = some (.int .u64 0) := (K1.out.cell 1).trans rfl
  have ef : ∀ j, w2.frozen? ⟨w.heap.size + 1, j, none⟩ = false := fun j => K1.out.frozen j
  have l1 := K0.out.lt
  have l2 := K1.out.lt
  clear bl
  go_wp2_with fail
  refine (add_ok base aa x _ HB.out haM.out HX.out hxM.out).mono ?_
  rintro e w' ⟨rfl, rfl⟩
  go_wp2_with fail
  refine (add_ok base zz y _ HB.out hzM.out HY.out hyM.out).mono ?_
  rintro e w' ⟨rfl, rfl⟩
  go_wp2_with fail
  obtain ⟨W', hW'⟩ : ∃ W', W' = (((w2.setCell ⟨w.heap.size + 1, 0, none⟩ (.int .u64 x)).setCell ⟨w.heap.size + 1, 1, none⟩ (.int .u64 y)).alloc (.cells #[.int .u64 aa, .int .u64 zz] 71)) := ⟨_, rfl⟩
  have Y : Blk W' (w.heap.size + 1) 71 #[.int .u64 x, .int .u64 y] := by rw [hW']; exact ((K1.out.set_ 0 _).set_ 1 _).alloc _
  have y0 : W'.cell? ⟨w.heap.size + 1, 0, none⟩ = some (.int .u64 x) := (Y.cell 0).trans rfl
  have y1 : W'.cell? ⟨w.heap.size + 1, 1, none⟩ = some (.int .u64 y) := (Y.cell 1).trans rfl
  rw [← hW']
  refine bodyPost_ret (v := .tuple #[.agg #[.int .u64 x, .int .u64 y], .bool true]) (by simp [results, Try.results39, go_sem, y0, y1]) rfl ⟨rfl, ?_⟩
  rw [hW']
  exact ((B2.out.setCell (by simp) _).setCell (by simp) _).alloc (by have := B2.out.size; simp; omega) _
set_option maxRecDepth 20000 in
set_option maxHeartbeats 1600000 in
theorem lies_no (o : ObjD) (w : World) (hS : StR w w.heap.size 6 o.gA o.gM (segC o.sg)) (hf : ∀ k, (o.sg k).fits) (hr : rightB o = true) (hb : o.base < M) (hl : liesB o = false) :
    Calls Try.prog 39 #[.agg o.cs] w fun e W' => ∃ p q : Int, e = .returned (.tuple #[.agg #[.int .u64 p, .int .u64 q], .bool false]) ∧ Below w.heap.size w W' := by
  have hle := of_decide_eq_false hl
  have hlt := spanA_lt hr
  have hz := spanZ_le hr
  have hm : o.gM ≤ maxLen := by have := (right_parts hr).2.1; simp only [maxLen]; omega
  obtain ⟨aa, haa⟩ : ∃ x, x = spanA o := ⟨_, rfl⟩
  obtain ⟨zz, hzz⟩ : ∃ x, x = spanZ o := ⟨_, rfl⟩
  have SP : ∀ W : World, StR W W.heap.size 6 o.gA o.gM (segC o.sg) → Calls Try.prog 32 #[.agg o.cs] W fun e W' => e = .returned (.agg #[.int .u64 (spanA o), .int .u64 (spanZ o)]) ∧ Below W.heap.size W W' := fun W hW => extent_any o W hW hf hm
  rw [← haa, ← hzz] at SP
  rw [← hzz] at hle hz
  rw [← haa, ← hzz] at hlt
  obtain ⟨x, hx⟩ : ∃ x, x = o.base + aa := ⟨_, rfl⟩
  obtain ⟨y, hy⟩ : ∃ x, x = o.base + zz := ⟨_, rfl⟩
  have HS := Lib.hid hS; have HSP := Lib.hid SP
  obtain ⟨w0, hw0⟩ : ∃ x, x = (w.alloc (.cells o.cs 33)).alloc (.cells #[.int .u64 0, .int .u64 0] 71) := ⟨_, rfl⟩
  have L0 : Hid (LI w o.cs aa zz w0) := by rw [hw0]; exact Lib.hid ⟨((Below.refl _ _).alloc (Nat.le_refl _) _).alloc (by simp) _, (Blk.new _ _ _).alloc _, blk_at _ _ (by simp)⟩
  have HW0 := Lib.hid hw0
  obtain ⟨O0, hO0⟩ : ∃ x, x = o := ⟨_, rfl⟩
  have hO1 : o.cs = O0.cs := by rw [hO0]
  obtain ⟨ino, base, ty, en, ph, gA, gM, gQ, nA, nM, nQ, so, rn, sA, sM, sQ, rA, rM, rQ, sg⟩ := o
  rw [show (ObjD.mk ino base ty en ph gA gM gQ nA nM nQ so rn sA sM sQ rA rM rQ sg).cs = #[.int .i64 ino, .int .u64 base, .int .u16 ty, .int .u64 en, .int .u64 ph, .slice gA gM gQ, .slice nA nM nQ, .string so, .string rn, .slice sA sM sQ, .slice rA rM rQ] from rfl] at HW0 L0 hO1 ⊢
  have HO1 := Lib.hid hO1
  have HO0 := Lib.hid hO0
  rw [← hO0] at HS HSP
  dsimp only at hb hx hy hle
  have HX := Lib.hid hx; have HY := Lib.hid hy
  have haM : Hid (aa < M) := Lib.hid (by unfold M; omega)
  have hzM : Hid (zz < M) := Lib.hid (by unfold M; omega)
  have HB := Lib.hid hb
  have HLE := Lib.hid hle
  have key : ∀ (w2 : World), Below w.heap.size w w2 → Blk w2 (w.heap.size + 1) 71 #[.int .u64 0, .int .u64 0] → ∀ (p q : Int) (W' : World), W' = (((w2.setCell ⟨w.heap.size + 1, 0, none⟩ (.int .u64 p)).setCell ⟨w.heap.size + 1, 1, none⟩ (.int .u64 q)).alloc (.cells #[.int .u64 aa, .int .u64 zz] 71)) →
      Below w.heap.size w W' ∧ W'.cell? ⟨w.heap.size + 1, 0, none⟩ = some (.int .u64 p) ∧ W'.cell? ⟨w.heap.size + 1, 1, none⟩ = some (.int .u64 q) := by
    rintro w2 b2 k1 p q W' rfl
    have Y : Blk (((w2.setCell ⟨w.heap.size + 1, 0, none⟩ (.int .u64 p)).setCell ⟨w.heap.size + 1, 1, none⟩ (.int .u64 q)).alloc (.cells #[.int .u64 aa, .int .u64 zz] 71)) (w.heap.size + 1) 71 #[.int .u64 p, .int .u64 q] := ((k1.set_ 0 _).set_ 1 _).alloc _
    exact ⟨((b2.setCell (by simp) _).setCell (by simp) _).alloc (by have := b2.size; simp; omega) _, (Y.cell 0).trans rfl, (Y.cell 1).trans rfl⟩
  have KEY := Lib.hid key
  clear hS hf hr hl hw0 hO0 hO1 hx hy haa hzz SP hb hm key
  by_cases c1 : x < M
  · by_cases c2 : y < M
    · have hyb : 140737488355328 < y := by have h2 := HY.out; have h3 := HLE.out; omega
      have f3 : decide ((y : Int) ≤ (140737488355328 : Int)) = false := by simp; omega
      have hxM := Lib.hid c1; have hyM := Lib.hid c2
      clear c1 c2 hyb hlt hle hz
      go_enter Try.func39, Try.ntmps39
      go_wp2_with fail
      rw [← HW0.out, HO1.out]
      refine (HSP.out w0 ((HS.out.below L0.out.bl).more L0.out.bl.size)).mono ?_
      rintro e w2 ⟨rfl, bl⟩
      have B2 : Hid (Below w.heap.size w w2) := Lib.hid (L0.out.bl.trans (bl.mono L0.out.bl.size))
      have K0 := Lib.hid (L0.out.k0.below bl L0.out.k0.lt)
      have K1 := Lib.hid (L0.out.k1.below bl L0.out.k1.lt)
      have c1 : w2.cell? ⟨w.heap.size, 1, none⟩ = some (.int .u64 base) := (K0.out.cell 1).trans rfl
      have e0 : w2.cell? ⟨w.heap.size + 1, 0, none⟩ = some (.int .u64 0) := (K1.out.cell 0).trans rfl
      have e1 : w2.cell? ⟨w.heap.size + 1, 1, none⟩ = some (.int .u64 0) := (K1.out.cell 1).trans rfl
      have ef : ∀ j, w2.frozen? ⟨w.heap.size + 1, j, none⟩ = false := fun j => K1.out.frozen j
      have l1 := K0.out.lt
      have l2 := K1.out.lt
      clear bl
      go_wp2_with fail
      refine (add_ok base aa x _ HB.out haM.out HX.out hxM.out).mono ?_
      rintro e w' ⟨rfl, rfl⟩
      go_wp2_with fail
      refine (add_ok base zz y _ HB.out hzM.out HY.out hyM.out).mono ?_
      rintro e w' ⟨rfl, rfl⟩
      go_wp2_with fail
      obtain ⟨W', hW'⟩ : ∃ W', W' = (((w2.setCell ⟨w.heap.size + 1, 0, none⟩ (.int .u64 x)).setCell ⟨w.heap.size + 1, 1, none⟩ (.int .u64 y)).alloc (.cells #[.int .u64 aa, .int .u64 zz] 71)) := ⟨_, rfl⟩
      obtain ⟨b', y0, y1⟩ := KEY.out w2 B2.out K1.out x y W' hW'
      rw [← hW']
      exact bodyPost_ret (v := .tuple #[.agg #[.int .u64 x, .int .u64 y], .bool false]) (by simp [results, Try.results39, go_sem, y0, y1]) rfl ⟨_, _, rfl, b'⟩
    · have hxM := Lib.hid c1
      have hyM : Hid (¬ base + zz < M) := Lib.hid (by rw [← HY.out]; exact c2)
      clear c1 c2 hlt hle hz
      go_enter Try.func39, Try.ntmps39
      go_wp2_with fail
      rw [← HW0.out, HO1.out]
      refine (HSP.out w0 ((HS.out.below L0.out.bl).more L0.out.bl.size)).mono ?_
      rintro e w2 ⟨rfl, bl⟩
      have B2 : Hid (Below w.heap.size w w2) := Lib.hid (L0.out.bl.trans (bl.mono L0.out.bl.size))
      have K0 := Lib.hid (L0.out.k0.below bl L0.out.k0.lt)
      have K1 := Lib.hid (L0.out.k1.below bl L0.out.k1.lt)
      have c1 : w2.cell? ⟨w.heap.size, 1, none⟩ = some (.int .u64 base) := (K0.out.cell 1).trans rfl
      have e0 : w2.cell? ⟨w.heap.size + 1, 0, none⟩ = some (.int .u64 0) := (K1.out.cell 0).trans rfl
      have e1 : w2.cell? ⟨w.heap.size + 1, 1, none⟩ = some (.int .u64 0) := (K1.out.cell 1).trans rfl
      have ef : ∀ j, w2.frozen? ⟨w.heap.size + 1, j, none⟩ = false := fun j => K1.out.frozen j
      have l1 := K0.out.lt
      have l2 := K1.out.lt
      clear bl
      go_wp2_with fail
      refine (add_ok base aa x _ HB.out haM.out HX.out hxM.out).mono ?_
      rintro e w' ⟨rfl, rfl⟩
      go_wp2_with fail
      refine (add_no base zz _ HB.out hzM.out hyM.out).mono ?_
      rintro e w' ⟨rfl, rfl⟩
      go_wp2_with fail
      obtain ⟨W', hW'⟩ : ∃ W', W' = (((w2.setCell ⟨w.heap.size + 1, 0, none⟩ (.int .u64 x)).setCell ⟨w.heap.size + 1, 1, none⟩ (.int .u64 0)).alloc (.cells #[.int .u64 aa, .int .u64 zz] 71)) := ⟨_, rfl⟩
      obtain ⟨b', y0, y1⟩ := KEY.out w2 B2.out K1.out x 0 W' hW'
      rw [← hW']
      exact bodyPost_ret (v := .tuple #[.agg #[.int .u64 x, .int .u64 0], .bool false]) (by simp [results, Try.results39, go_sem, y0, y1]) rfl ⟨_, _, rfl, b'⟩
  · have hxM : Hid (¬ base + aa < M) := Lib.hid (by rw [← HX.out]; exact c1)
    have hyM : Hid (¬ base + zz < M) := Lib.hid (by rw [← HX.out] at hxM; have := hxM.out; have h := HX.out; omega)
    clear c1 hlt hle hz
    go_enter Try.func39, Try.ntmps39
    go_wp2_with fail
    rw [← HW0.out, HO1.out]
    refine (HSP.out w0 ((HS.out.below L0.out.bl).more L0.out.bl.size)).mono ?_
    rintro e w2 ⟨rfl, bl⟩
    have B2 : Hid (Below w.heap.size w w2) := Lib.hid (L0.out.bl.trans (bl.mono L0.out.bl.size))
    have K0 := Lib.hid (L0.out.k0.below bl L0.out.k0.lt)
    have K1 := Lib.hid (L0.out.k1.below bl L0.out.k1.lt)
    have c1 : w2.cell? ⟨w.heap.size, 1, none⟩ = some (.int .u64 base) := (K0.out.cell 1).trans rfl
    have e0 : w2.cell? ⟨w.heap.size + 1, 0, none⟩ = some (.int .u64 0) := (K1.out.cell 0).trans rfl
    have e1 : w2.cell? ⟨w.heap.size + 1, 1, none⟩ = some (.int .u64 0) := (K1.out.cell 1).trans rfl
    have ef : ∀ j, w2.frozen? ⟨w.heap.size + 1, j, none⟩ = false := fun j => K1.out.frozen j
    have l1 := K0.out.lt
    have l2 := K1.out.lt
    clear bl
    go_wp2_with fail
    refine (add_no base aa _ HB.out haM.out hxM.out).mono ?_
    rintro e w' ⟨rfl, rfl⟩
    go_wp2_with fail
    refine (add_no base zz _ HB.out hzM.out hyM.out).mono ?_
    rintro e w' ⟨rfl, rfl⟩
    go_wp2_with fail
    obtain ⟨W', hW'⟩ : ∃ W', W' = (((w2.setCell ⟨w.heap.size + 1, 0, none⟩ (.int .u64 0)).setCell ⟨w.heap.size + 1, 1, none⟩ (.int .u64 0)).alloc (.cells #[.int .u64 aa, .int .u64 zz] 71)) := ⟨_, rfl⟩
    obtain ⟨b', y0, y1⟩ := KEY.out w2 B2.out K1.out 0 0 W' hW'
    rw [← hW']
    exact bodyPost_ret (v := .tuple #[.agg #[.int .u64 0, .int .u64 0], .bool false]) (by simp [results, Try.results39, go_sem, y0, y1]) rfl ⟨_, _, rfl, b'⟩
end Go.Proofs.Yticnmgdflkipeaa
