import Derived.Test.YtneleioiondapaaY17
namespace Go.Proofs.Ytneleioiondapaa
open Go.RowKit Go.Shelf Go.Hos
set_option linter.unusedVariables false
/-! the law's own helpers: 'one' -/
/-- alike in what names come to -/
def Alike (O O' : Nat → ObjD) : Prop := ∀ i, (O' i).sM = (O i).sM ∧ (O' i).sy = (O i).sy ∧ (O' i).base = (O i).base
theorem Alike.th {O O' : Nat → ObjD} (h : Alike O O') (m : Nat) (i k : Int) : thB O' m i k = thB O m i k := by unfold thB; rw [(h _).1]
theorem Alike.sv {O O' : Nat → ObjD} (h : Alike O O') (m : Nat) (i k : Int) : symV O' m i k = symV O m i k := by unfold symV; rw [h.th, (h _).2.1]
theorem Alike.vl {O O' : Nat → ObjD} (h : Alike O O') (m : Nat) (i k : Int) : vlV O' m i k = vlV O m i k := by unfold vlV; rw [h.th, (h _).2.1, (h _).2.2]
theorem Alike.dI {O O' : Nat → ObjD} (h : Alike O O') (i : Nat) : ∀ k, dfI O' i k = dfI O i k
  | 0 => rfl
  | k + 1 => by unfold dfI; rw [h.dI i k, (h _).2.1]
theorem Alike.dO {O O' : Nat → ObjD} (h : Alike O O') : ∀ m, dfO O' m = dfO O m
  | 0 => rfl
  | m + 1 => by unfold dfO; rw [h.dO m, h.dI, (h _).1]
theorem Alike.lk {O O' : Nat → ObjD} (h : Alike O O') (m : Nat) (nm : ByteArray) : lkO O' m nm = lkO O m nm := by
  have : nmB O' nm = nmB O nm := by funext x; unfold nmB symA; rw [(h _).2.1]
  unfold lkO; rw [h.dO, this]
theorem Alike.of {O O' : Nat → ObjD} (h : Alike O O') (m : Nat) (i k : Int) : ofP O' m i k = ofP O m i k := by
  unfold ofP; rw [h.th, h.sv, h.vl, h.lk]
  split
  · split
    · rfl
    · split
      · rw [h.vl]
      · rfl
  · rfl
set_option maxRecDepth 20000 in
set_option maxHeartbeats 1600000 in
theorem oneL_any (A A' : Option Addr) (m c c' : Nat) (O O' : Nat → ObjD) (i k : Int) (w : World) (hR : ObjR w w.heap.size A m O) (hR' : ObjR w w.heap.size A' m O') (ha : Alike O O') :
    Calls Try.prog 10 #[.slice A' m c', .slice A m c, .int .i64 i, .int .i64 k] w fun e W' => e = .returned (.bool true) ∧ Below w.heap.size w W' := by
  have H := Lib.hid hR; have H' := Lib.hid hR'; have HA := Lib.hid ha
  clear hR hR' ha
  go_enter Try.func10, Try.ntmps10
  go_wp2_with fail
  refine (of_any A' m c' O' i k _ _ H'.out (Nat.le_refl _)).mono ?_
  rw [HA.out.of]
  obtain ⟨p, hp⟩ : ∃ p, p = ofP O m i k := ⟨_, rfl⟩
  have HP := Lib.hid hp
  rw [← hp]
  clear hp
  obtain ⟨p1, p2⟩ := p
  dsimp only
  rintro e w1 ⟨rfl, bl1⟩
  have B1 := Lib.hid bl1
  clear bl1
  go_wp2_with fail
  refine (ref_any A m c O i k _ _ (H.out.below B1.out) B1.out.size).mono ?_
  rw [← HP.out]
  dsimp only
  rintro e w2 ⟨rfl, bl2⟩
  have B2 := Lib.hid (B1.out.trans (bl2.mono B1.out.size))
  clear bl2
  have q1 : decide (p1 = p1) = true := by simp
  have q2 : decide (p2 = p2) = true := by simp
  go_wp2_with fail
  refine (value_any A' m c' O' i k _ _ (H'.out.below B2.out) B2.out.size).mono ?_
  rw [HA.out.vl]
  obtain ⟨v, hv⟩ : ∃ v, v = vlV O m i k := ⟨_, rfl⟩
  have HV := Lib.hid hv
  rw [← hv]
  clear hv
  rintro e w3 ⟨rfl, bl3⟩
  have B3 := Lib.hid (B2.out.trans (bl3.mono B2.out.size))
  clear bl3
  go_wp2_with fail
  refine (value18_any A m c O i k _ _ (H.out.below B3.out)).mono ?_
  rw [← HV.out]
  rintro e w4 ⟨rfl, bl4⟩
  have B4 := Lib.hid (B3.out.trans (bl4.mono B3.out.size))
  clear bl4
  have q3 : decide (v = v) = true := by simp
  go_wp2_with fail
  go_ret
  exact ⟨rfl, B4.out⟩
end Go.Proofs.Ytneleioiondapaa
