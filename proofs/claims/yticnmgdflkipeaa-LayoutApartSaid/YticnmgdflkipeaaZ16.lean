import Derived.Test.YticnmgdflkipeaaZ15
namespace Go.Proofs.Yticnmgdflkipeaa
open Go.RowKit Go.Shelf Go.Hos
set_option linter.unusedVariables false
/-! clear -/
structure Lie (o : ObjD) : Prop where
  r : rightB o = true
  l : liesB o = true
  b : o.base < M
  f : ∀ k, (o.sg k).fits
def sx (o : ObjD) : Nat := o.base + spanA o
def sy (o : ObjD) : Nat := o.base + spanZ o
set_option maxRecDepth 20000 in
set_option maxHeartbeats 1600000 in
theorem clear1_any (o : ObjD) (xb x y : Nat) (w : World) (hS : StR w w.heap.size 6 o.gA o.gM (segC o.sg)) (h : Lie o) (hx : Blk w xb 71 #[.int .u64 x, .int .u64 y]) :
    Calls Try.prog 46 #[.agg o.cs, .pointer (some ⟨xb, 0, none⟩)] w fun e W' => e = .returned (.bool (meetB x y (sx o) (sy o))) ∧ Below w.heap.size w W' := by
  have SP : ∀ W : World, StR W W.heap.size 6 o.gA o.gM (segC o.sg) → Calls Try.prog 39 #[.agg o.cs] W fun e W' => e = .returned (.tuple #[.agg #[.int .u64 (sx o), .int .u64 (sy o)], .bool true]) ∧ Below W.heap.size W W' := fun W hW => lies_yes o W hW h.f h.r h.b h.l
  obtain ⟨p, hp⟩ : ∃ p, p = sx o := ⟨_, rfl⟩
  obtain ⟨q, hq⟩ : ∃ p, p = sy o := ⟨_, rfl⟩
  rw [← hp, ← hq] at SP ⊢
  have HS := Lib.hid hS; have HSP := Lib.hid SP; have HXB := Lib.hid hx
  obtain ⟨w0, hw0⟩ : ∃ x, x = w.alloc (.cells o.cs 33) := ⟨_, rfl⟩
  have B0 : Hid (Below w.heap.size w w0) := by rw [hw0]; exact Lib.hid ((Below.refl _ _).alloc (Nat.le_refl _) _)
  have HW0 := Lib.hid hw0
  obtain ⟨O0, hO0⟩ : ∃ x, x = o := ⟨_, rfl⟩
  have hO1 : o.cs = O0.cs := by rw [hO0]
  obtain ⟨ino, base, ty, en, ph, gA, gM, gQ, nA, nM, nQ, so, rn, sA, sM, sQ, rA, rM, rQ, sg⟩ := o
  rw [show (ObjD.mk ino base ty en ph gA gM gQ nA nM nQ so rn sA sM sQ rA rM rQ sg).cs = #[.int .i64 ino, .int .u64 base, .int .u16 ty, .int .u64 en, .int .u64 ph, .slice gA gM gQ, .slice nA nM nQ, .string so, .string rn, .slice sA sM sQ, .slice rA rM rQ] from rfl] at HW0 hO1 ⊢
  have HO1 := Lib.hid hO1
  have HO0 := Lib.hid hO0
  rw [← hO0] at HS HSP
  obtain ⟨mb, hmb⟩ : ∃ b, b = meetB x y p q := ⟨_, rfl⟩
  have HMB := Lib.hid hmb
  clear hS SP hw0 hO0 hO1 hp hq hx h hmb
  go_enter Try.func46, Try.ntmps46
  go_wp2_with fail
  rw [← HW0.out, HO1.out]
  refine (HSP.out w0 ((HS.out.below B0.out).more B0.out.size)).mono ?_
  rintro e w2 ⟨rfl, bl⟩
  have B2 : Hid (Below w.heap.size w w2) := Lib.hid (B0.out.trans (bl.mono B0.out.size))
  have X2 := Lib.hid (HXB.out.below B2.out HXB.out.lt)
  have c0 : w2.cell? ⟨xb, 0, none⟩ = some (.int .u64 x) := (X2.out.cell 0).trans rfl
  have c1 : w2.cell? ⟨xb, 1, none⟩ = some (.int .u64 y) := (X2.out.cell 1).trans rfl
  have l1 := X2.out.lt
  clear bl
  go_wp2_with fail
  refine (meets_any x y p q _).mono ?_
  rw [← HMB.out]
  rintro e w3 ⟨rfl, bl3⟩
  have B3 : Hid (Below w.heap.size w w3) := Lib.hid ((B2.out.alloc B2.out.size _).trans (bl3.mono (by have := B2.out.size; simp; omega)))
  clear bl3
  go_wp2_with fail
  go_ret
  exact ⟨by rw [HMB.out]; rfl, B3.out⟩
def meetO (O : Nat → ObjD) (x y i : Nat) : Bool := meetB x y (sx (O i)) (sy (O i))
def anyM (O : Nat → ObjD) (x y : Nat) : Nat → Bool
  | 0 => false
  | n + 1 => anyM O x y n || meetO O x y n
theorem anyM_at (O : Nat → ObjD) (x y : Nat) : ∀ {m i : Nat}, i < m → meetO O x y i = true → anyM O x y m = true
  | m + 1, i, h, hm => by
    unfold anyM
    by_cases e : i = m
    · subst e; rw [hm, Bool.or_true]
    · rw [anyM_at O x y (m := m) (by omega) hm, Bool.true_or]
def IxP (w : World) (b : Bool) (e : Ending) (W' : World) : Prop := ∃ z : Int, e = .returned (.int .i64 z) ∧ Hid (decide (0 ≤ z) = b) ∧ Below w.heap.size w W'
set_option maxRecDepth 20000 in
set_option maxHeartbeats 1600000 in
theorem index_any (A : Option Addr) (m c : Nat) (O : Nat → ObjD) (xb x y : Nat) (w : World) (hR : ObjR w w.heap.size A m O) (hL : ∀ i, i < m → Lie (O i)) (hx : Blk w xb 71 #[.int .u64 x, .int .u64 y]) :
    Calls Try.prog 48 #[.slice A m c, .func (.func 46) #[] #[.pointer (some ⟨xb, 0, none⟩)]] w (IxP w (anyM O x y m)) := by
  have hm := hR.len
  have hmm : maxLen = 9223372036854775807 := by simp [maxLen]
  have H := Lib.hid hR; have HL := Lib.hid hL; have HX := Lib.hid hx
  clear hR hL hx
  go_enter Try.func48, Try.ntmps48
  go_wp2_with fail
  go_loopw [8] (fun v8 wr => ∃ i : Nat, i ≤ m ∧ v8 = .int .i64 i ∧ Hid (Below w.heap.size w wr) ∧ Hid (anyM O x y i = false)) (fun v8 _ => m - (intOf v8).toNat)
  case atStart => exact ⟨0, Nat.zero_le _, rfl, Lib.hid (Below.refl _ _), Lib.hid rfl⟩
  case round =>
    obtain ⟨i, hi, rfl, bl, hno⟩ := hrel
    by_cases him : i < m
    · have e1 : decide ((i : Int) < (m : Int)) = true := by simp; omega
      have e2 : (i : Int) < (m : Int) := by omega
      obtain ⟨ad, rfl, had, c0, c1, c2, c3, c4, c5, c6, c7, c8, c9, c10⟩ := (H.out.below bl.out).cells him
      have hsy := ((H.out.below bl.out).sy i him).1
      have CL := clear1_any (O i) xb x y wr (hsy.more bl.out.size) (HL.out i him) (HX.out.below bl.out HX.out.lt)
      obtain ⟨mb, hmb⟩ : ∃ b, b = meetB x y (sx (O i)) (sy (O i)) := ⟨_, rfl⟩
      rw [← hmb] at CL
      have HMB : Hid (mb = meetO O x y i) := Lib.hid hmb
      have e3 : (O i).cs = #[.int .i64 (O i).ino, .int .u64 (O i).base, .int .u16 (O i).ty, .int .u64 (O i).en, .int .u64 (O i).ph, .slice (O i).gA (O i).gM (O i).gQ, .slice (O i).nA (O i).nM (O i).nQ, .string (O i).so, .string (O i).rn, .slice (O i).sA (O i).sM (O i).sQ, .slice (O i).rA (O i).rM (O i).rQ] := rfl
      rw [e3] at CL
      have HCL := Lib.hid CL
      have lad := World.block_lt_of_cell? _ _ c1
      clear hsy hmb CL e3
      generalize (O i).ino = o0 at *
      generalize (O i).base = o1 at *
      generalize (O i).ty = o2 at *
      generalize (O i).en = o3 at *
      generalize (O i).ph = o4 at *
      generalize (O i).gA = o5 at *
      generalize (O i).gM = o6 at *
      generalize (O i).gQ = o7 at *
      generalize (O i).nA = o8 at *
      generalize (O i).nM = o9 at *
      generalize (O i).nQ = o10 at *
      generalize (O i).so = o11 at *
      generalize (O i).rn = o12 at *
      generalize (O i).sA = o13 at *
      generalize (O i).sM = o14 at *
      generalize (O i).sQ = o15 at *
      generalize (O i).rA = o16 at *
      generalize (O i).rM = o17 at *
      generalize (O i).rQ = o18 at *
      cases mb with
      | true =>
        have ANY := Lib.hid (anyM_at O x y him (by rw [← HMB.out]))
        go_wp2_with fail
        refine HCL.out.mono ?_
        rintro e w3 ⟨rfl, bl3⟩
        have B3 := Lib.hid (bl.out.trans (bl3.mono bl.out.size))
        clear bl3
        go_wp2_with fail
        go_ret
        exact ⟨(i : Int), rfl, Lib.hid (by rw [ANY.out]; exact decide_eq_true (by omega)), B3.out⟩
      | false =>
        have NX : Hid (anyM O x y (i + 1) = false) := Lib.hid (by unfold anyM; rw [hno.out, ← HMB.out]; rfl)
        go_wp2_with fail
        refine HCL.out.mono ?_
        rintro e w3 ⟨rfl, bl3⟩
        have B3 := Lib.hid (bl.out.trans (bl3.mono bl.out.size))
        clear bl3
        go_wp2_with fail
        go_roundw
        case rel => exact ⟨i + 1, by omega, by go_num, B3, NX⟩
        case measure => simp [intOf]; omega
    · obtain rfl : i = m := by omega
      have d1 : decide ((i : Int) < (i : Int)) = false := by simp
      go_wp2_with fail
      go_ret
      exact ⟨-1, rfl, Lib.hid (by rw [hno.out]; rfl), bl.out⟩
set_option maxRecDepth 20000 in
set_option maxHeartbeats 1600000 in
theorem contains_any (A : Option Addr) (m c : Nat) (O : Nat → ObjD) (xb x y : Nat) (w : World) (hR : ObjR w w.heap.size A m O) (hL : ∀ i, i < m → Lie (O i)) (hx : Blk w xb 71 #[.int .u64 x, .int .u64 y]) :
    Calls Try.prog 45 #[.slice A m c, .func (.func 46) #[] #[.pointer (some ⟨xb, 0, none⟩)]] w fun e W' => e = .returned (.bool (anyM O x y m)) ∧ Below w.heap.size w W' := by
  have HC := Lib.hid (index_any A m c O xb x y w hR hL hx)
  obtain ⟨b, hb⟩ : ∃ b, b = anyM O x y m := ⟨_, rfl⟩
  rw [← hb] at HC ⊢
  clear hR hL hx hb
  go_enter Try.func45, Try.ntmps45
  go_wp2_with fail
  refine HC.out.mono ?_
  rintro e w2 ⟨z, rfl, hz, bl⟩
  have BL := Lib.hid bl
  clear bl
  have hz' := hz.out
  go_wp2_with fail
  go_ret
  exact ⟨rfl, BL.out⟩
end Go.Proofs.Yticnmgdflkipeaa
