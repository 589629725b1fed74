import Derived.Test.YticnmgdflkipeaaZ25
import Derived.Test.YticnmgdflkipeaaZ12
namespace Go.Proofs.Yticnmgdflkipeaa
open Go.RowKit Go.Shelf Go.Hos
set_option linter.unusedVariables false
/-! LayoutRights -/
structure LR (w : World) (cs : Array Value) (W : World) : Prop where
  bl : Below w.heap.size w W
  bo : Blk W w.heap.size 33 cs
theorem LR.next {w W W' : World} {cs : Array Value} (h : LR w cs W) (hb : Below W.heap.size W W') : LR w cs W' := ⟨h.bl.trans (hb.mono h.bl.size), h.bo.below hb h.bo.lt⟩
theorem LR.drew {w W : World} {cs : Array Value} (h : LR w cs W) : LR w cs W.drew := ⟨h.bl.trans (Below.refl _ _).drew, h.bo⟩
theorem obj1 {W : World} {B g : Nat} {o : ObjD} (h : Blk W g 33 o.cs) (hg : g < B) (hS : StR W B 6 o.gA o.gM (segC o.sg)) (hm : o.gM ≤ maxLen) : ObjR W B (some ⟨g, 0, none⟩) 1 (fun _ => o) :=
  ⟨fun _ => ⟨_, rfl, hg, fun i hi j v hv => by
    have : i = 0 := by omega
    subst this
    rw [Addr.add_mid, Nat.zero_add, h.cell, Nat.zero_mul, Nat.zero_add]
    exact hv⟩, fun i hi => ⟨hS, hm⟩, by simp [maxLen]⟩
abbrev LRS (w : World) (ino : Int) (base ty : Nat) (en ph : Int) (gA nA sA rA : Option Addr) (gM gQ nM nQ sM sQ rM rQ : Nat) (so rn : ByteArray) (cs : Array Value) (W : World) : Prop :=
  W.cell? ⟨w.heap.size, 0, none⟩ = some (.int .i64 ino) ∧ W.cell? ⟨w.heap.size, 1, none⟩ = some (.int .u64 base) ∧ W.cell? ⟨w.heap.size, 2, none⟩ = some (.int .u16 ty) ∧ W.cell? ⟨w.heap.size, 3, none⟩ = some (.int .u64 en) ∧ W.cell? ⟨w.heap.size, 4, none⟩ = some (.int .u64 ph) ∧ W.cell? ⟨w.heap.size, 5, none⟩ = some (.slice gA gM gQ) ∧
  W.cell? ⟨w.heap.size, 6, none⟩ = some (.slice nA nM nQ) ∧ W.cell? ⟨w.heap.size, 7, none⟩ = some (.string so) ∧ W.cell? ⟨w.heap.size, 8, none⟩ = some (.string rn) ∧ W.cell? ⟨w.heap.size, 9, none⟩ = some (.slice sA sM sQ) ∧ W.cell? ⟨w.heap.size, 10, none⟩ = some (.slice rA rM rQ) ∧ Hid (LR w cs W)
theorem lrs_of {w W : World} {ino : Int} {base ty : Nat} {en ph : Int} {gA nA sA rA : Option Addr} {gM gQ nM nQ sM sQ rM rQ : Nat} {so rn : ByteArray} {cs : Array Value} (e : Hid (cs = #[.int .i64 ino, .int .u64 base, .int .u16 ty, .int .u64 en, .int .u64 ph, .slice gA gM gQ, .slice nA nM nQ, .string so, .string rn, .slice sA sM sQ, .slice rA rM rQ])) (h : LR w cs W) :
    LRS w ino base ty en ph gA nA sA rA gM gQ nM nQ sM sQ rM rQ so rn cs W := by
  have b := h.bo
  rw [e.out] at b
  exact ⟨(b.cell 0).trans rfl, (b.cell 1).trans rfl, (b.cell 2).trans rfl, (b.cell 3).trans rfl, (b.cell 4).trans rfl, (b.cell 5).trans rfl, (b.cell 6).trans rfl, (b.cell 7).trans rfl, (b.cell 8).trans rfl, (b.cell 9).trans rfl, (b.cell 10).trans rfl, Lib.hid h⟩
theorem lr_of {w W : World} {ino : Int} {base ty : Nat} {en ph : Int} {gA nA sA rA : Option Addr} {gM gQ nM nQ sM sQ rM rQ : Nat} {so rn : ByteArray} {cs : Array Value} (h : LRS w ino base ty en ph gA nA sA rA gM gQ nM nQ sM sQ rM rQ so rn cs W) : Hid (LR w cs W) := h.2.2.2.2.2.2.2.2.2.2.2
section
variable {w W : World} {o : ObjD}
theorem LR.call12 (h : Hid (LR w o.cs W)) (hS : Hid (StR w w.heap.size 6 o.gA o.gM (segC o.sg))) (hn : o.gM ≤ 40) : Calls Try.prog 12 #[.agg o.cs] W fun e w' => (∃ A' q', e = .returned (.agg (o.at A' q').cs) ∧ Hid (StR w' w'.heap.size 6 A' o.gM (segC o.sg))) ∧ LR w o.cs w' :=
  (twin_any o W ((hS.out.below h.out.bl).more h.out.bl.size) hn).mono fun e w' ⟨A', q', he, ho, hb⟩ => ⟨⟨A', q', he, Lib.hid (StR.of_own ho)⟩, h.out.next hb⟩
theorem LR.call11 (h : Hid (LR w o.cs W)) {A' : Option Addr} {q' : Nat} (hr : Hid (StR W W.heap.size 6 A' o.gM (segC o.sg))) (hf : Hid (∀ k, (o.sg k).fits)) {b : Bool} (hb : Hid (b = rightB o)) : Calls Try.prog 11 #[.agg (o.at A' q').cs] W fun e w' => e = .returned (.bool b) ∧ LR w o.cs w' := by
  rw [hb.out]
  exact (right_any (o.at A' q') W hr.out hf.out).mono fun e w' ⟨he, hb⟩ => ⟨he, h.out.next hb⟩
theorem LR.call13 (h : Hid (LR w o.cs W)) (hS : Hid (StR w w.heap.size 6 o.gA o.gM (segC o.sg))) (hf : Hid (∀ k, (o.sg k).fits)) {b : Bool} (hb : Hid (b = rightB o)) : Calls Try.prog 13 #[.agg o.cs] W fun e w' => e = .returned (.bool b) ∧ LR w o.cs w' := by
  rw [hb.out]
  exact (rright_any o W ((hS.out.below h.out.bl).more h.out.bl.size) hf.out).mono fun e w' ⟨he, hb⟩ => ⟨he, h.out.next hb⟩
theorem LR.call10 (h : Hid (LR w o.cs W)) : Calls Try.prog 10 #[] W fun e w' => e = .returned (.bool true) ∧ LR w o.cs w' :=
  (works_any W).mono fun e w' ⟨he, hb⟩ => ⟨he, h.out.next hb⟩
end
set_option maxRecDepth 20000 in
set_option maxHeartbeats 3200000 in
theorem rights_any (o : ObjD) (w : World) (hS : StR w w.heap.size 6 o.gA o.gM (segC o.sg)) (hf : ∀ k, (o.sg k).fits) (hm : o.gM ≤ maxLen) :
    Calls Try.prog 3 #[.agg o.cs] w fun e W' => e = .returned (.bool true) ∧ Below w.heap.size w W' := by
  have HS := Lib.hid hS; have HF := Lib.hid hf; have HM := Lib.hid hm
  obtain ⟨rb, hrb⟩ : ∃ b, b = rightB o := ⟨_, rfl⟩
  have HRB := Lib.hid hrb
  obtain ⟨w0, hw0⟩ : ∃ x, x = w.alloc (.cells o.cs 33) := ⟨_, rfl⟩
  have L0 : Hid (LR w o.cs w0) := by rw [hw0]; exact Lib.hid ⟨(Below.refl _ _).alloc (Nat.le_refl _) _, Blk.new _ _ _⟩
  obtain ⟨w1, hw1⟩ : ∃ x, x = w0.alloc (.cells o.cs 33) := ⟨_, rfl⟩
  have L1 : Hid (LR w o.cs w1) := by rw [hw1]; exact Lib.hid (L0.out.next ((Below.refl _ _).alloc (Nat.le_refl _) _))
  have R1 : Hid (ObjR w1 w1.heap.size (some ⟨w0.heap.size, 0, none⟩) 1 (fun _ => o)) := by
    have kb : Blk w1 w0.heap.size 33 o.cs := by rw [hw1]; exact Blk.new _ _ _
    exact Lib.hid (obj1 kb kb.lt ((hS.below L1.out.bl).more L1.out.bl.size) hm)
  have hz0 : w0.heap.size = w.heap.size + 1 := by rw [hw0]; simp
  rw [hz0] at R1
  rw [hw0] at hw1
  have HW1 := Lib.hid hw1
  obtain ⟨O0, hO0⟩ : ∃ x, x = o := ⟨_, rfl⟩
  have hO1 : o.cs = O0.cs := by rw [hO0]
  rw [← hO0] at HS HF HM HRB L0 L1 R1
  obtain ⟨ino, base, ty, en, ph, gA, gM, gQ, nA, nM, nQ, so, rn, sA, sM, sQ, rA, rM, rQ, sg⟩ := o
  rw [show (ObjD.mk ino base ty en ph gA gM gQ nA nM nQ so rn sA sM sQ rA rM rQ sg).cs = #[.int .i64 ino, .int .u64 base, .int .u16 ty, .int .u64 en, .int .u64 ph, .slice gA gM gQ, .slice nA nM nQ, .string so, .string rn, .slice sA sM sQ, .slice rA rM rQ] from rfl] at HW1 hO1 ⊢
  have HO1 : Hid (O0.cs = #[.int .i64 ino, .int .u64 base, .int .u16 ty, .int .u64 en, .int .u64 ph, .slice gA gM gQ, .slice nA nM nQ, .string so, .string rn, .slice sA sM sQ, .slice rA rM rQ]) := Lib.hid hO1.symm
  clear hS hf hm hrb hw0 hw1 hO0 hO1 hz0
  go_enter Try.func3, Try.ntmps3
  go_wp2_with fail
  rw [← HW1.out]
  refine (vast_any _ 1 1 (fun _ => O0) _ w1 R1.out).mono ?_
  rintro e w' ⟨b, rfl, hb, rfl⟩
  cases b with
  | true =>
    clear hb
    go_wp2_with fail
    refine (works_any _).mono ?_
    rintro e w2 ⟨rfl, b2⟩
    have B2 := Lib.hid (L1.out.bl.trans (b2.mono L1.out.bl.size))
    clear b2
    go_wp2_with fail
    go_ret
    exact ⟨rfl, B2.out⟩
  | false =>
    have h40 : O0.gM ≤ 40 := (hb.out rfl).2 0 (by omega)
    clear hb
    go_wp2_with fail
    have e1 : (rb == rb) = true := by simp
    obtain ⟨k0, k1, k2, k3, k4, k5, k6, k7, k8, k9, k10, _⟩ := lrs_of HO1 L1.out
    have l1 := L1.out.bo.lt
    go_region_held3 (fun W' => LRS w ino base ty en ph gA nA sA rA gM gQ nM nQ sM sQ rM rQ so rn O0.cs W') (first | exact lrs_of HO1 L1.out | exact lrs_of HO1 L1.out.drew | exact lrs_of HO1 hst | exact lrs_of HO1 hst.drew)
      (first
        | (go_at_call 12; try rw [← HO1.out]; refine (LR.call12 (lr_of (show LRS w ino base ty en ph gA nA sA rA gM gQ nM nQ sM sQ rM rQ so rn O0.cs _ by assumption)) HS h40).mono ?_; rintro e w' ⟨⟨A', q', rfl, hr'⟩, hst⟩)
        | (go_at_call 11; refine (LR.call11 (Lib.hid hst) hr' HF HRB).mono ?_; rintro e w' ⟨rfl, hst⟩)
        | (go_at_call 13; refine (LR.call13 (Lib.hid hst) HS HF HRB).mono ?_; rintro e w' ⟨rfl, hst⟩)
        | (go_at_call 10; refine (LR.call10 (Lib.hid hst)).mono ?_; rintro e w' ⟨rfl, hst⟩))
    all_goals
      have BL := Lib.hid hst.bl
      clear hst
      go_wp2_with fail
      go_ret
      exact ⟨rfl, BL.out⟩
end Go.Proofs.Yticnmgdflkipeaa
