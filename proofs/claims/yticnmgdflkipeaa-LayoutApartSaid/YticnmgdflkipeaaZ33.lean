import Derived.Test.YticnmgdflkipeaaZ32
namespace Go.Proofs.Yticnmgdflkipeaa
open Go.RowKit Go.Shelf Go.Hos Go.Sort
set_option linter.unusedVariables false
/-! LayoutBases' walk -/
theorem TWS.objs {w W : World} {O O' : Nat → ObjD} {m c : Nat} {A : Option Addr} (h : TWS w O O' m (.slice A m c) W) (hg : ∀ i, i < m → (O i).gM ≤ maxLen) (hm : m ≤ maxLen) : ObjR W W.heap.size A m O' :=
  ⟨StR.of_ownG h.ow (fun _ => rfl), fun i hi => ⟨StR.of_own (h.cp i hi), by rw [(h.al i).right.2.2.2.2.2]; exact hg i hi⟩, hm⟩
/-- what Bases answered reads as objects -/
theorem ObjR.placed {w W : World} {O : Nat → ObjD} {m c : Nat} {A A' : Option Addr} (h : ObjR w w.heap.size A m O) (hb : Below w.heap.size w W) (ho : W.ownsRow w.heap.size 33 11 (.slice A' m c) m (flatG (objC (Yticnmgdflkipeaa.placed O)) m)) : ObjR W W.heap.size A' m (Yticnmgdflkipeaa.placed O) :=
  ⟨StR.of_ownG ho (fun _ => rfl), fun i hi => ⟨((h.sy i hi).1.below hb).more hb.size, (h.sy i hi).2⟩, h.len⟩
theorem ObjR.none_ (W : World) (O : Nat → ObjD) (A : Option Addr) : ObjR W W.heap.size A 0 O := ⟨fun h => absurd h (by omega), fun i hi => absurd hi (by omega), Nat.zero_le _⟩
/-- the two answers, as the comparing takes them -/
theorem bap_two {w w1 w2 : World} {O O' : Nat → ObjD} {m : Nat} {A B : Option Addr} {e e' : Ending} (hR : ObjR w w.heap.size A m O') (hR' : ObjR w1 w1.heap.size B m O) (al : ∀ j, SameO (O j) (O' j)) (h : BaP w O' m e w1) (h' : BaP w1 O m e' w2) :
    ∃ (n : Nat) (A1 A2 : Option Addr) (c1 c2 : Nat) (P P' : Nat → ObjD), e = .returned (.tuple #[.slice A1 n c1, .int .i64 (basesE O m)]) ∧ e' = .returned (.tuple #[.slice A2 n c2, .int .i64 (basesE O m)]) ∧ ObjR w2 w2.heap.size A1 n P ∧ ObjR w2 w2.heap.size A2 n P' ∧ (∀ j, j < n → SameO (P j) (P' j)) := by
  obtain ⟨bl, A1, c1, n1, rfl, z1, o1⟩ := h
  obtain ⟨bl', A2, c2, n2, rfl, z2, o2⟩ := h'
  have eE := basesE_same al m
  rw [eE] at z1 o1
  by_cases hz : basesE O m = 0
  · obtain ⟨rfl, q1⟩ := o1 hz
    obtain ⟨rfl, q2⟩ := o2 hz
    exact ⟨_, A1, A2, c1, c2, placed O', placed O, by rw [eE], rfl, ((hR.placed bl q1).below bl').more bl'.size, hR'.placed bl' q2, fun j _ => (placed_same al j).symm⟩
  · obtain ⟨rfl, rfl, rfl⟩ := z1 hz
    obtain ⟨rfl, rfl, rfl⟩ := z2 hz
    exact ⟨0, none, none, 0, 0, O, O, by rw [eE], rfl, ObjR.none_ _ _ _, ObjR.none_ _ _ _, fun j hj => absurd hj (by omega)⟩
set_option maxRecDepth 20000 in
set_option maxHeartbeats 1600000 in
theorem basesl_any (A : Option Addr) (m c : Nat) (O : Nat → ObjD) (w : World) (hR : ObjR w w.heap.size A m O) (hF : fitsO O) :
    Calls Try.prog 4 #[.slice A m c] w fun e W' => e = .returned (.bool true) ∧ Below w.heap.size w W' := by
  have hmm : maxLen = 9223372036854775807 := by simp [maxLen]
  have H := Lib.hid hR; have HF := Lib.hid hF
  clear hR hF
  go_enter Try.func4, Try.ntmps4
  go_wp2_with fail
  refine (vast_any A m c O _ w H.out).mono ?_
  rintro e w' ⟨b, rfl, hb, rfl⟩
  cases b with
  | true =>
    clear hb
    go_wp2_with fail
    refine (works_any _).mono ?_
    rintro e w2 ⟨rfl, b2⟩
    have B2 := Lib.hid b2
    clear b2
    go_wp2_with fail
    go_ret
    exact ⟨rfl, B2.out⟩
  | false =>
    obtain ⟨hm20, hg40⟩ := hb.out rfl
    have HG := Lib.hid hg40
    clear hb hg40
    go_wp2_with fail
    refine (twins_any A m c O w H.out hm20 HG.out).mono ?_
    rintro e w2 ⟨Al, cl, O', rfl, tw⟩
    have TW2 := Lib.hid tw
    have L2 := Lib.hid (tw.objs (fun i hi => by have := HG.out i hi; omega) (by omega))
    have B2 := Lib.hid tw.bl
    have AL := Lib.hid tw.al
    clear tw hm20
    go_wp2_with fail
    refine (bases_any Al m cl O' w2 L2.out (fitsO_same AL.out HF.out)).mono ?_
    rintro e1 w3 p3
    have B3 := Lib.hid p3.bl
    have R3 := Lib.hid ((H.out.below (B2.out.trans (B3.out.mono B2.out.size))).more (B2.out.trans (B3.out.mono B2.out.size)).size)
    have P3 := Lib.hid p3
    obtain ⟨_, A1, c1, n1, rfl, _, _⟩ := p3
    go_wp2_with fail
    refine (rbases_any A m c O w3 R3.out HF.out).mono ?_
    rintro e2 w4 p4
    have B4 := Lib.hid p4.bl
    obtain ⟨n, A1', A2, c1', c2, P, P', q1, q2, r1, r2, al⟩ := bap_two L2.out R3.out AL.out P3.out p4
    simp only [Ending.returned.injEq, Value.tuple.injEq] at q1
    have q1' := congrArg Array.toList q1
    simp only [List.cons.injEq, Value.slice.injEq, Value.int.injEq] at q1'
    obtain ⟨⟨rfl, rfl, rfl⟩, ⟨_, eE⟩, _⟩ := q1'
    subst q2
    rw [eE]
    obtain ⟨E, hE⟩ : ∃ x, x = basesE O m := ⟨_, rfl⟩
    rw [← hE]
    have f1 : (E == E) = true := by simp
    have R1 := Lib.hid r1; have R2 := Lib.hid r2; have AL2 := Lib.hid al
    clear P3 p4 r1 r2 al q1 eE hE
    go_wp2_with fail
    refine (sames_any A1 A2 n1 c1 c2 P P' w4 R1.out R2.out AL2.out).mono ?_
    rintro e w5 ⟨rfl, b5⟩
    have B25 := Lib.hid ((B3.out.trans (B4.out.mono B3.out.size)).trans (b5.mono (B3.out.trans (B4.out.mono B3.out.size)).size))
    clear b5
    go_wp2_with fail
    refine (sames_any Al A m cl c O' O w5 ((L2.out.below B25.out).more B25.out.size) ((H.out.below (B2.out.trans (B25.out.mono B2.out.size))).more (B2.out.trans (B25.out.mono B2.out.size)).size) (fun j _ => (AL.out j).symm)).mono ?_
    rintro e w6 ⟨rfl, b6⟩
    have B26 := Lib.hid (B25.out.trans (b6.mono B25.out.size))
    clear b6
    go_wp2_with fail
    refine (works_any _).mono ?_
    rintro e w7 ⟨rfl, b7⟩
    have B27 := Lib.hid (B2.out.trans ((B26.out.trans (b7.mono B26.out.size)).mono B2.out.size))
    clear b7
    go_wp2_with fail
    go_ret
    exact ⟨rfl, B27.out⟩
end Go.Proofs.Yticnmgdflkipeaa
