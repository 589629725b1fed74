import Derived.Test.YticnmgdflkipeaaZ16
import Derived.Lib.QuietBelow
namespace Go.Proofs.Yticnmgdflkipeaa
open Go.RowKit Go.Shelf Go.Hos Go.Sort
set_option linter.unusedVariables false
/-- what clear keeps: the span's block -/
structure CLR (w : World) (xb x y : Nat) (W : World) : Prop where
  bl : Below w.heap.size w W
  bx : Blk W xb 71 #[.int .u64 x, .int .u64 y]
theorem CLR.next {w W W' : World} {xb x y : Nat} (h : CLR w xb x y W) (hb : Below W.heap.size W W') : CLR w xb x y W' := ⟨h.bl.trans (hb.mono h.bl.size), h.bx.below hb h.bx.lt⟩
theorem CLR.drew {w W : World} {xb x y : Nat} (h : CLR w xb x y W) : CLR w xb x y W.drew := ⟨h.bl.trans (Below.refl _ _).drew, h.bx⟩
def CLS (w : World) (xb x y : Nat) (W : World) : Prop := W.cell? ⟨xb, 0, none⟩ = some (.int .u64 x) ∧ W.cell? ⟨xb, 1, none⟩ = some (.int .u64 y) ∧ Hid (CLR w xb x y W)
theorem cls_of {w W : World} {xb x y : Nat} (h : CLR w xb x y W) : CLS w xb x y W := ⟨(h.bx.cell 0).trans rfl, (h.bx.cell 1).trans rfl, Lib.hid h⟩
theorem CLS.call1 {w W : World} {xb x y : Nat} (h : CLS w xb x y W) : Calls Try.prog 44 #[] W fun e w' => e = .returned (.agg #[.int .u64 140737488334848, .int .u64 140737488351232]) ∧ CLR w xb x y w' :=
  (stack_any W).mono fun _ _ ⟨he, hb⟩ => ⟨he, h.2.2.out.next hb⟩
theorem CLS.call2 {w W : World} {xb x y : Nat} (h : CLS w xb x y W) {b : Bool} (hb : Hid (b = meetB x y 140737488334848 140737488351232)) : Calls Try.prog 43 #[.agg #[.int .u64 x, .int .u64 y], .agg #[.int .u64 140737488334848, .int .u64 140737488351232]] W fun e w' => e = .returned (.bool b) ∧ CLR w xb x y w' := by
  rw [hb.out]
  exact (meets_any x y 140737488334848 140737488351232 W).mono fun _ _ ⟨he, hb⟩ => ⟨he, h.2.2.out.next hb⟩
theorem CLS.call3 {w W : World} {xb x y m c : Nat} {A : Option Addr} {O : Nat → ObjD} (h : CLS w xb x y W) {b : Bool} (hb : Hid (b = anyM O x y m)) (hR : Hid (ObjR w w.heap.size A m O)) (hL : Hid (∀ i, i < m → Lie (O i))) :
    Calls Try.prog 45 #[.slice A m c, .func (.func 46) #[] #[.pointer (some ⟨xb, 0, none⟩)]] W fun e w' => e = .returned (.bool b) ∧ CLR w xb x y w' := by
  rw [hb.out]
  exact (contains_any A m c O xb x y W ((hR.out.below h.2.2.out.bl).more h.2.2.out.bl.size) hL.out h.2.2.out.bx).mono fun _ _ ⟨he, hb⟩ => ⟨he, h.2.2.out.next hb⟩
def clearB (O : Nat → ObjD) (x y m : Nat) : Bool := !meetB x y 140737488334848 140737488351232 && !anyM O x y m
set_option maxRecDepth 20000 in
set_option maxHeartbeats 1600000 in
theorem clear_any (o : ObjD) (A : Option Addr) (m c : Nat) (O : Nat → ObjD) (w : World) (hS : StR w w.heap.size 6 o.gA o.gM (segC o.sg)) (h : Lie o) (hR : ObjR w w.heap.size A m O) (hL : ∀ i, i < m → Lie (O i)) :
    Calls Try.prog 33 #[.agg o.cs, .slice A m c] w fun e W' => e = .returned (.bool (clearB O (sx o) (sy o) m)) ∧ Below w.heap.size w W' := by
  have SP : ∀ W : World, StR W W.heap.size 6 o.gA o.gM (segC o.sg) → Calls Try.prog 39 #[.agg o.cs] W fun e W' => e = .returned (.tuple #[.agg #[.int .u64 (sx o), .int .u64 (sy o)], .bool true]) ∧ Below W.heap.size W W' := fun W hW => lies_yes o W hW h.f h.r h.b h.l
  obtain ⟨x, hp⟩ : ∃ p, p = sx o := ⟨_, rfl⟩
  obtain ⟨y, hq⟩ : ∃ p, p = sy o := ⟨_, rfl⟩
  rw [← hp, ← hq] at SP ⊢
  have HS := Lib.hid hS; have HSP := Lib.hid SP; have HR := Lib.hid hR; have HL := Lib.hid hL
  obtain ⟨w0, hw0⟩ : ∃ x, x = w.alloc (.cells o.cs 33) := ⟨_, rfl⟩
  have B0 : Hid (Below w.heap.size w w0) := by rw [hw0]; exact Lib.hid ((Below.refl _ _).alloc (Nat.le_refl _) _)
  have HW0 := Lib.hid hw0
  obtain ⟨O0, hO0⟩ : ∃ x, x = o := ⟨_, rfl⟩
  have hO1 : o.cs = O0.cs := by rw [hO0]
  obtain ⟨ino, base, ty, en, ph, gA, gM, gQ, nA, nM, nQ, so, rn, sA, sM, sQ, rA, rM, rQ, sg⟩ := o
  rw [show (ObjD.mk ino base ty en ph gA gM gQ nA nM nQ so rn sA sM sQ rA rM rQ sg).cs = #[.int .i64 ino, .int .u64 base, .int .u16 ty, .int .u64 en, .int .u64 ph, .slice gA gM gQ, .slice nA nM nQ, .string so, .string rn, .slice sA sM sQ, .slice rA rM rQ] from rfl] at HW0 hO1 ⊢
  have HO1 := Lib.hid hO1
  have HO0 := Lib.hid hO0
  rw [← hO0] at HS HSP
  obtain ⟨mb, hmb⟩ : ∃ b, b = meetB x y 140737488334848 140737488351232 := ⟨_, rfl⟩
  have HMB := Lib.hid hmb
  obtain ⟨ab, hab⟩ : ∃ b, b = anyM O x y m := ⟨_, rfl⟩
  have HAB := Lib.hid hab
  have RES : Hid (clearB O x y m = (!mb && !ab)) := Lib.hid (by unfold clearB; rw [← hmb, ← hab])
  clear hS SP hw0 hO0 hO1 hp hq h hmb hab hR hL
  cases mb
  · go_enter Try.func33, Try.ntmps33
    go_wp2_with fail
    rw [← HW0.out, HO1.out]
    refine (HSP.out w0 ((HS.out.below B0.out).more B0.out.size)).mono ?_
    rintro e w2 ⟨rfl, bl⟩
    have B2 : Hid (Below w.heap.size w w2) := Lib.hid (B0.out.trans (bl.mono B0.out.size))
    clear bl
    go_wp2_with fail
    obtain ⟨xb, hxb⟩ : ∃ b, b = w2.heap.size := ⟨_, rfl⟩
    obtain ⟨w3, hw3⟩ : ∃ W, W = w2.alloc (.cells #[.int .u64 x, .int .u64 y] 71) := ⟨_, rfl⟩
    have hst : CLR w xb x y w3 := by rw [hw3, hxb]; exact ⟨B2.out.alloc B2.out.size _, Blk.new _ _ _⟩
    rw [← hw3, ← hxb]
    clear hw3 hxb
    have st0 := Lib.hid hst
    clear hst
    obtain ⟨k0, k1, _⟩ := cls_of st0.out
    have lx := st0.out.bx.lt
    go_region_held3 (fun W' => W'.cell? ⟨xb, 0, none⟩ = some (.int .u64 x) ∧ W'.cell? ⟨xb, 1, none⟩ = some (.int .u64 y) ∧ Hid (CLR w xb x y W')) (first | exact cls_of st0.out | exact cls_of st0.out.drew | exact cls_of hst | exact cls_of hst.drew)
      (first
        | (go_at_call 44; refine (CLS.call1 (by assumption)).mono ?_; rintro e w' ⟨rfl, hst⟩)
        | (go_at_call 43; refine (CLS.call2 (by assumption) HMB).mono ?_; rintro e w' ⟨rfl, hst⟩)
        | (go_at_call 45; refine (CLS.call3 (by assumption) HAB HR HL).mono ?_; rintro e w' ⟨rfl, hst⟩))
    all_goals
      have BL := Lib.hid hst.bl
      clear hst
      go_wp2_with fail
      go_ret
      exact ⟨by rw [RES.out]; cases ab <;> rfl, BL.out⟩
  · go_enter Try.func33, Try.ntmps33
    go_wp2_with fail
    rw [← HW0.out, HO1.out]
    refine (HSP.out w0 ((HS.out.below B0.out).more B0.out.size)).mono ?_
    rintro e w2 ⟨rfl, bl⟩
    have B2 : Hid (Below w.heap.size w w2) := Lib.hid (B0.out.trans (bl.mono B0.out.size))
    clear bl
    go_wp2_with fail
    obtain ⟨xb, hxb⟩ : ∃ b, b = w2.heap.size := ⟨_, rfl⟩
    obtain ⟨w3, hw3⟩ : ∃ W, W = w2.alloc (.cells #[.int .u64 x, .int .u64 y] 71) := ⟨_, rfl⟩
    have hst : CLR w xb x y w3 := by rw [hw3, hxb]; exact ⟨B2.out.alloc B2.out.size _, Blk.new _ _ _⟩
    rw [← hw3, ← hxb]
    clear hw3 hxb
    have st0 := Lib.hid hst
    clear hst
    obtain ⟨k0, k1, _⟩ := cls_of st0.out
    have lx := st0.out.bx.lt
    have c0 := fun (d : Nat) (os : Array Obj) => cell_regrown k0 d os
    have c1 := fun (d : Nat) (os : Array Obj) => cell_regrown k1 d os
    have M1 : Hid (∀ d os, Calls Try.prog 44 #[] (grow (redrawn w3 d) os) fun e w' => e = .returned (.agg #[.int .u64 140737488334848, .int .u64 140737488351232]) ∧ ∃ p : Regrown, w' = grow (redrawn w3 p.d) p.os) := Lib.hid fun d os => Calls.regrown_of (stack_any _)
    have M2 : Hid (∀ d os, Calls Try.prog 43 #[.agg #[.int .u64 x, .int .u64 y], .agg #[.int .u64 140737488334848, .int .u64 140737488351232]] (grow (redrawn w3 d) os) fun e w' => e = .returned (.bool true) ∧ ∃ p : Regrown, w' = grow (redrawn w3 p.d) p.os) := Lib.hid fun d os => by
      rw [HMB.out]; exact Calls.regrown_of (meets_any x y 140737488334848 140737488351232 _)
    have B3 := Lib.hid st0.out.bl
    clear k0 k1 st0
    refine wp_region_quiet_below (by kernel_rfl) (by kernel_rfl) ?_
    repeat (quiet_step (first | (go_at_call 44; exact M1.out _ _) | (go_at_call 43; exact M2.out _ _)))
    refine wpQuiet_nil ?_
    intro _ hw'
    obtain ⟨⟨dq, osq⟩, hw''⟩ := hw'
    subst hw''
    go_wp2_with fail
    go_ret
    exact ⟨by rw [RES.out]; rfl, B3.out.trans ((below_regrown _ _ _).mono B3.out.size)⟩
end Go.Proofs.Yticnmgdflkipeaa
