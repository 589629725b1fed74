import Derived.Test.YtneleioiondapaaY23
namespace Go.Proofs.Ytneleioiondapaa
open Go.RowKit Go.Shelf Go.Hos
set_option linter.unusedVariables false
theorem SameD.lens {o o' : ObjD} (h : SameD o o') : o'.nM = o.nM ∧ o'.sM = o.sM ∧ o'.rM = o.rM ∧ o'.sy = o.sy := by
  obtain ⟨_, _, _, _, _, _, e⟩ := h
  rw [e]; exact ⟨rfl, rfl, rfl, rfl⟩
theorem CPD.objR {w W : World} {O O' : Nat → ObjD} {X : Nat → (Nat → ByteArray) × (Nat → RelD)} {m c B : Nat} {A : Option Addr} {A0 : Option Addr} {W0 : World} (h : CPD w O X O' m (.slice A m c) W) (hR : ObjR W0 B A0 m O) : ObjR W W.heap.size A m O' :=
  ⟨StR.of_own h.ow, fun i hi => ⟨StR.of_ownG (h.cp i hi).2.1 (fun _ => rfl), by rw [(h.al i).lens.2.1]; exact (hR.sy i hi).2⟩, hR.len⟩
theorem CPD.objX {w W : World} {O O' : Nat → ObjD} {X : Nat → (Nat → ByteArray) × (Nat → RelD)} {m c B : Nat} {A : Option Addr} {W0 : World} (h : CPD w O X O' m (.slice A m c) W) (hX : ObjX W0 B m O X) : ObjX W W.heap.size m O' X := fun i hi =>
  ⟨StR.of_ownG (h.cp i hi).1 (fun _ => rfl), by rw [(h.al i).lens.1]; exact (hX i hi).2.1, StR.of_ownG (h.cp i hi).2.2 (fun _ => rfl), by rw [(h.al i).lens.2.2.1]; exact (hX i hi).2.2.2⟩
set_option maxRecDepth 200000 in
set_option maxHeartbeats 8000000 in
theorem ofs_any (A : Option Addr) (m c : Nat) (O : Nat → ObjD) (X : Nat → (Nat → ByteArray) × (Nat → RelD)) (a0 a1 : Int) (w : World) (hR : ObjR w w.heap.size A m O) (hNm : ∀ x, (symA O x).nm.size ≤ maxLen) (hX : ObjX w w.heap.size m O X) :
    Calls Try.prog 3 #[.slice A m c, .agg #[.int .i64 a0, .int .i64 a1]] w fun e W' => e = .returned (.bool true) ∧ Below w.heap.size w W' := by
  have hm := hR.len
  have hmm : maxLen = 9223372036854775807 := by simp [maxLen]
  have H := Lib.hid hR; have HNM := Lib.hid hNm; have HX := Lib.hid hX
  obtain ⟨w1, hw1⟩ : ∃ x, x = w.alloc (.cells #[.int .i64 a0, .int .i64 a1] 23) := ⟨_, rfl⟩
  have B1 : Hid (Below w.heap.size w w1) := by rw [hw1]; exact Lib.hid ((Below.refl _ _).alloc (Nat.le_refl _) _)
  have K1 : Hid (Blk w1 w.heap.size 23 #[.int .i64 a0, .int .i64 a1]) := by rw [hw1]; exact Lib.hid (Blk.new _ _ _)
  clear hR hNm hX
  go_enter Try.func3, Try.ntmps3
  go_wp2_with fail
  rw [← hw1]
  clear hw1
  refine (large_any A m c O _ _ (H.out.below B1.out) HNM.out).mono ?_
  rintro e w' ⟨b, rfl, hb, rfl⟩
  cases b
  · have hlg := hb.out rfl
    have HLG := Lib.hid hlg
    have hm3 : m ≤ 300 := by omega
    clear hb hlg
    go_wp2_with fail
    refine (copied_any A m c O X _ ((H.out.below B1.out).more B1.out.size) ((HX.out.below B1.out).more B1.out.size) HLG.out).mono ?_
    rintro e w2 ⟨A', c', O', rfl, cpd⟩
    have H2 : Hid (ObjR w2 w2.heap.size A m O) := Lib.hid ((H.out.below (B1.out.trans (cpd.bl.mono B1.out.size))).more (by have := B1.out.size; have := cpd.bl.size; omega))
    have H2' := Lib.hid (cpd.objR H.out)
    have HX2 : Hid (ObjX w2 w2.heap.size m O X) := Lib.hid ((HX.out.below (B1.out.trans (cpd.bl.mono B1.out.size))).more (by have := B1.out.size; have := cpd.bl.size; omega))
    have HX2' := Lib.hid (cpd.objX HX.out)
    have AL := Lib.hid cpd.al
    have AK := Lib.hid (SameD.alike cpd.al)
    have B2 := Lib.hid (B1.out.trans (cpd.bl.mono B1.out.size))
    have K2 := Lib.hid (K1.out.below cpd.bl K1.out.lt)
    have hz2 : w.heap.size ≤ w2.heap.size := B2.out.size
    clear cpd K1 B1
    go_wp2_with fail
    go_loopw [6] (fun v6 wr => ∃ z : Int, -1 ≤ z ∧ z ≤ (m : Int) + 1 ∧ v6 = .int .i64 z ∧ Hid (Below w2.heap.size w2 wr)) (fun v6 _ => ((m : Int) + 1 - intOf v6).toNat)
    case atStart => exact ⟨-1, by omega, by omega, rfl, Lib.hid (Below.refl _ _)⟩
    case round =>
      obtain ⟨y, hy1, hy2, rfl, bl⟩ := hrel
      have hcase : y = -1 ∨ (∃ a : Nat, y = (a : Int) ∧ a < m) ∨ y = (m : Int) ∨ y = (m : Int) + 1 := by
        by_cases h : y = -1
        · exact .inl h
        · obtain ⟨a, rfl⟩ := Int.eq_ofNat_of_zero_le (show 0 ≤ y by omega)
          by_cases h2 : a < m
          · exact .inr (.inl ⟨a, rfl, h2⟩)
          · exact .inr (.inr (by omega))
      rcases hcase with rfl | ⟨a, rfl, ham⟩ | rfl | rfl
      · have g0 : (-1 : Int) ≤ (m : Int) := by omega
        have g2 : IntKind.i64.wrap (-1 + 1 : Int) = 0 := by decide
        obtain ⟨l, hl⟩ : ∃ l : Nat, l = 0 := ⟨_, rfl⟩
        have hl3 : l ≤ 300 := by omega
        have hl0 : (l : Int) = 0 := by omega
        clear hl
        go_wp2_with fail
        go_loopw [8] (fun v8 wr => ∃ z : Int, -1 ≤ z ∧ z ≤ (l : Int) + 1 ∧ v8 = .int .i64 z ∧ Hid (Below w2.heap.size w2 wr)) (fun v8 _ => ((l : Int) + 1 - intOf v8).toNat)
        case atStart => exact ⟨-1, by omega, by omega, rfl, bl⟩
        case round =>
          clear bl
          obtain ⟨z, hz1, hz2, rfl, bl⟩ := hrel
          have hzw := bl.out.size
          by_cases hzl : z ≤ (l : Int)
          · have f1 : decide (z ≤ (l : Int)) = true := by simp; omega
            have f2 : IntKind.i64.wrap (z + 1) = z + 1 := IntWalk.i64_in _ (by omega)
            go_wp2_with fail
            refine (oneL_any A A' m c c' O O' (-1) z _ ((H2.out.below bl.out).more hzw) ((H2'.out.below bl.out).more hzw) AK.out).mono ?_
            rintro e w3 ⟨rfl, bl3⟩
            have BL3 := Lib.hid (bl.out.trans (bl3.mono hzw))
            clear bl3
            go_wp2_with fail
            go_roundw
            case rel => exact ⟨z + 1, by omega, by omega, by first | rfl | rw [f2], BL3⟩
            case measure => simp [intOf]; omega
          · have f1 : decide (z ≤ (l : Int)) = false := by simp; omega
            go_wp2_with fail
            go_roundw
            case rel => exact ⟨0, by omega, by omega, by first | rfl | rw [g2] | go_num, bl⟩
            case measure => simp [intOf]; omega
      · have g0 : (a : Int) ≤ (m : Int) := by omega
        have g1 : (a : Int) < (m : Int) := by omega
        have g3 : (0 : Int) ≤ (a : Int) := by omega
        have g2 : IntKind.i64.wrap ((a : Int) + 1) = (a : Int) + 1 := IntWalk.i64_in _ (by omega)
        obtain ⟨ad, rfl, had, _, _, _, _, _, _, _, _, _, c9, _⟩ := (H2.out.below bl.out).cells ham
        obtain ⟨l, hl⟩ : ∃ l, l = (O a).sM := ⟨_, rfl⟩
        obtain ⟨x0, hx0⟩ : ∃ l, l = (O a).sA := ⟨_, rfl⟩
        obtain ⟨x1, hx1⟩ : ∃ l, l = (O a).sQ := ⟨_, rfl⟩
        rw [← hl, ← hx0, ← hx1] at c9
        have hl3 : l ≤ 300 := by rw [hl]; have := sumS_get O m a ham; have := HLG.out; omega
        have l1 := World.block_lt_of_cell? _ _ c9
        clear hl hx0 hx1
        go_wp2_with fail
        go_loopw [8] (fun v8 wr => ∃ z : Int, -1 ≤ z ∧ z ≤ (l : Int) + 1 ∧ v8 = .int .i64 z ∧ Hid (Below w2.heap.size w2 wr)) (fun v8 _ => ((l : Int) + 1 - intOf v8).toNat)
        case atStart => exact ⟨-1, by omega, by omega, rfl, bl⟩
        case round =>
          clear bl
          obtain ⟨z, hz1, hz2, rfl, bl⟩ := hrel
          have hzw := bl.out.size
          by_cases hzl : z ≤ (l : Int)
          · have f1 : decide (z ≤ (l : Int)) = true := by simp; omega
            have f2 : IntKind.i64.wrap (z + 1) = z + 1 := IntWalk.i64_in _ (by omega)
            go_wp2_with fail
            refine (oneL_any (some ad) A' m c c' O O' (a : Int) z _ ((H2.out.below bl.out).more hzw) ((H2'.out.below bl.out).more hzw) AK.out).mono ?_
            rintro e w3 ⟨rfl, bl3⟩
            have BL3 := Lib.hid (bl.out.trans (bl3.mono hzw))
            clear bl3
            go_wp2_with fail
            go_roundw
            case rel => exact ⟨z + 1, by omega, by omega, by first | rfl | rw [f2], BL3⟩
            case measure => simp [intOf]; omega
          · have f1 : decide (z ≤ (l : Int)) = false := by simp; omega
            go_wp2_with fail
            go_roundw
            case rel => exact ⟨(a : Int) + 1, by omega, by omega, by first | rfl | rw [g2] | go_num, bl⟩
            case measure => simp [intOf]; omega
      · have g0 : (m : Int) ≤ (m : Int) := by omega
        have g1 : ¬ (m : Int) < (m : Int) := by omega
        have g3 : (0 : Int) ≤ (m : Int) := by omega
        have g2 : IntKind.i64.wrap ((m : Int) + 1) = (m : Int) + 1 := IntWalk.i64_in _ (by omega)
        obtain ⟨l, hl⟩ : ∃ l : Nat, l = 0 := ⟨_, rfl⟩
        have hl3 : l ≤ 300 := by omega
        have hl0 : (l : Int) = 0 := by omega
        clear hl
        go_wp2_with fail
        go_loopw [8] (fun v8 wr => ∃ z : Int, -1 ≤ z ∧ z ≤ (l : Int) + 1 ∧ v8 = .int .i64 z ∧ Hid (Below w2.heap.size w2 wr)) (fun v8 _ => ((l : Int) + 1 - intOf v8).toNat)
        case atStart => exact ⟨-1, by omega, by omega, rfl, bl⟩
        case round =>
          clear bl
          obtain ⟨z, hz1, hz2, rfl, bl⟩ := hrel
          have hzw := bl.out.size
          by_cases hzl : z ≤ (l : Int)
          · have f1 : decide (z ≤ (l : Int)) = true := by simp; omega
            have f2 : IntKind.i64.wrap (z + 1) = z + 1 := IntWalk.i64_in _ (by omega)
            go_wp2_with fail
            refine (oneL_any A A' m c c' O O' (m : Int) z _ ((H2.out.below bl.out).more hzw) ((H2'.out.below bl.out).more hzw) AK.out).mono ?_
            rintro e w3 ⟨rfl, bl3⟩
            have BL3 := Lib.hid (bl.out.trans (bl3.mono hzw))
            clear bl3
            go_wp2_with fail
            go_roundw
            case rel => exact ⟨z + 1, by omega, by omega, by first | rfl | rw [f2], BL3⟩
            case measure => simp [intOf]; omega
          · have f1 : decide (z ≤ (l : Int)) = false := by simp; omega
            go_wp2_with fail
            go_roundw
            case rel => exact ⟨(m : Int) + 1, by omega, by omega, by first | rfl | rw [g2] | go_num, bl⟩
            case measure => simp [intOf] <;> omega
      · have d1 : decide ((m : Int) + 1 ≤ (m : Int)) = false := by simp; omega
        have d1' : ¬ (m : Int) + 1 ≤ (m : Int) := by omega
        have k0 : wr.cell? ⟨w.heap.size, 0, none⟩ = some (.int .i64 a0) := ((K2.out.below bl.out K2.out.lt).cell 0).trans rfl
        have k1 : wr.cell? ⟨w.heap.size, 1, none⟩ = some (.int .i64 a1) := ((K2.out.below bl.out K2.out.lt).cell 1).trans rfl
        have lw : w.heap.size < wr.heap.size := by have := K2.out.lt; have := bl.out.size; omega
        have hzw := bl.out.size
        go_wp2_with fail
        refine (oneL_any A A' m c c' O O' a0 a1 _ ((H2.out.below bl.out).more hzw) ((H2'.out.below bl.out).more hzw) AK.out).mono ?_
        rintro e w3 ⟨rfl, bl3⟩
        have BL3 := Lib.hid (bl.out.trans (bl3.mono hzw))
        have hz3 := BL3.out.size
        clear bl3
        go_wp2_with fail
        refine (same_any A A' m c c' O O' X _ ((H2.out.below BL3.out).more hz3) ((HX2.out.below BL3.out).more hz3) ((H2'.out.below BL3.out).more hz3) ((HX2'.out.below BL3.out).more hz3) AL.out).mono ?_
        rintro e w4 ⟨rfl, bl4⟩
        have BL4 := Lib.hid (BL3.out.trans (bl4.mono hz3))
        clear bl4
        go_wp2_with fail
        refine (works_any _).mono ?_
        rintro e w5 ⟨rfl, bl5⟩
        have BL5 := Lib.hid (B2.out.trans ((BL4.out.trans (bl5.mono BL4.out.size)).mono hz2))
        clear bl5
        go_wp2_with fail
        go_ret
        exact ⟨rfl, BL5.out⟩
  · clear hb
    go_wp2_with fail
    refine (works_any _).mono ?_
    rintro e w3 ⟨rfl, hb⟩
    have G3 := Lib.hid (B1.out.trans (hb.mono B1.out.size))
    clear hb
    go_wp2_with fail
    go_ret
    exact ⟨rfl, G3.out⟩
end Go.Proofs.Ytneleioiondapaa
