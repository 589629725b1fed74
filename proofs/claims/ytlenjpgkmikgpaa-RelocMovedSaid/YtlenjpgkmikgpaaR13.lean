import Derived.Test.YtlenjpgkmikgpaaR12
namespace Go.Proofs.Ytlenjpgkmikgpaa
open Go.RowKit Go.Shelf Go.Hos
set_option linter.unusedVariables false
/-! more than a statement looks at -/
structure VaP (w : World) (m : Nat) (e : Ending) (W' : World) : Prop where
  bl : Below w.heap.size w W'
  re : ∃ b, e = .returned (.bool b) ∧ (b = false → m ≤ 20)
set_option maxRecDepth 100000 in
set_option maxHeartbeats 8000000 in
theorem vast_any (A : Option Addr) (m c : Nat) (O : Nat → ObjD) (w : World) (hR : ObjR w w.heap.size A m O) (hNm : ∀ i k, ((O i).sy k).nm.size ≤ maxLen) :
    Calls Try.prog 7 #[.slice A m c] w (VaP w m) := by
  have hmm : maxLen = 9223372036854775807 := by simp [maxLen]
  have H := Lib.hid hR; have HNM := Lib.hid hNm
  clear hR hNm
  by_cases h20 : m ≤ 20
  · have g1 : decide ((20 : Int) < (m : Int)) = false := by simp; omega
    have g2 : ¬ (20 : Int) < (m : Int) := by omega
    go_enter Try.func7, Try.ntmps7
    go_wp2_with fail
    go_loopw [3, 4] (fun v3 v4 wr => ∃ (i : Nat) (z : Int), i ≤ m ∧ 0 ≤ z ∧ z ≤ 2000 ∧ v4 = .int .i64 i ∧ v3 = .int .i64 z ∧ Hid (Below w.heap.size w wr)) (fun _ v4 _ => m - (intOf v4).toNat)
    case atStart => exact ⟨0, 0, Nat.zero_le _, by omega, by omega, rfl, rfl, Lib.hid (Below.refl _ _)⟩
    case round =>
      obtain ⟨i, z, hi, hz0, hz1, rfl, rfl, hb⟩ := hrel
      by_cases him : i < m
      · have d1 : decide ((i : Int) < (m : Int)) = true := by simp; omega
        have d2 : (i : Int) < (m : Int) := by omega
        have HI := Lib.hid (H.out.below hb.out)
        obtain ⟨ad, rfl, had, c0, c1, c2, c3, c4, c5, c6, c7, c8, c9, c10⟩ := HI.out.lay.cells him
        dsimp only [ObjD.lay] at c5 c9 c10
        have SY := Lib.hid (HI.out.sy i him).1
        have hsM := (HI.out.sy i him).2
        have lad := World.block_lt_of_cell? _ _ c5
        clear c0 c1 c2 c3 c4 c6 c7 c8
        generalize (O i).gA = o5 at *
        generalize (O i).gM = o6 at *
        generalize (O i).gQ = o7 at *
        generalize (O i).sA = o13 at *
        generalize (O i).sM = o14 at *
        generalize (O i).sQ = o15 at *
        generalize (O i).rA = o16 at *
        generalize (O i).rM = o17 at *
        generalize (O i).rQ = o18 at *
        go_wp2_with fail
        go_quiet (fail)
        go_wp2_with fail
        obtain ⟨W0, hW0⟩ : ∃ W, W = wr.drewN nq := ⟨_, rfl⟩
        have B0 : Hid (Below w.heap.size w W0) := by rw [hW0]; exact Lib.hid (below_drewN hb.out _)
        have C9 : Hid (∀ W : World, Below W0.heap.size W0 W → W.cell? ⟨(ad.add (i * 11)).block, (ad.add (i * 11)).off + 9, none⟩ = some (.slice o13 o14 o15)) := by
          rw [hW0]; exact Lib.hid fun W h => by rw [h.cell (by exact lad)]; exact c9
        have SY0 : Hid (Lay.StR W0 w.heap.size 5 o13 o14 fun k => ((O i).sy k).cs) := by rw [hW0]; exact SY
        rw [← hW0]
        obtain ⟨y, hy, hy0, hy1⟩ : ∃ y : Int, y = z + min (o6 : Int) 500 + min (o14 : Int) 500 + min (o17 : Int) 500 ∧ 0 ≤ y ∧ y ≤ 3500 := ⟨_, rfl, by omega, by omega⟩
        rw [← hy]
        clear hy hW0 c5 c9 c10 had lad hb HI SY
        go_loopw [3, 5] (fun v3 v5 wr => ∃ (k : Nat) (y : Int), k ≤ o14 ∧ 0 ≤ y ∧ y ≤ 6000 ∧ v5 = .int .i64 k ∧ v3 = .int .i64 y ∧ Hid (Below W0.heap.size W0 wr)) (fun _ v5 _ => o14 - (intOf v5).toNat)
        case atStart => exact ⟨0, y, Nat.zero_le _, by omega, by omega, rfl, rfl, Lib.hid (Below.refl _ _)⟩
        case round =>
          clear hy0 hy1
          obtain ⟨k, y, hk, hy0, hy1, rfl, rfl, hb⟩ := hrel
          have c9 := C9.out wr hb.out
          have lad := World.block_lt_of_cell? _ _ c9
          by_cases hko : k < o14
          · have e1 : decide ((k : Int) < (o14 : Int)) = true := by simp; omega
            have e2 : (k : Int) < (o14 : Int) := by omega
            by_cases hyy : y ≤ 2000
            · have e3 : decide (y ≤ 2000) = true := by simp; omega
              obtain ⟨ad', rfl, hb', hc'⟩ := SY0.out (by omega)
              obtain ⟨s, hs⟩ : ∃ s, s = ((O i).sy k).nm := ⟨_, rfl⟩
              have s0 : W0.cell? (ad'.add (k * 5)) = some (.string s) := by rw [hs]; exact hc' k hko 0 _ rfl
              have s1 : wr.cell? (ad'.add (k * 5)) = some (.string s) := by rw [hb.out.cell (World.block_lt_of_cell? _ _ s0)]; exact s0
              have hsz : s.size ≤ maxLen := by rw [hs]; exact HNM.out i k
              clear hs hc' s0
              go_wp2_with fail
              go_roundw
              case rel => exact ⟨k + 1, _, by omega, by omega, by omega, by go_num, rfl, hb⟩
              case measure => simp [intOf]; omega
            · have e3 : decide (y ≤ 2000) = false := by simp; omega
              have e4 : decide ((2000 : Int) < y) = true := by simp; omega
              go_wp2_with fail
              go_ret
              exact ⟨B0.out.trans (hb.out.mono B0.out.size), true, rfl, fun h => (by cases h)⟩
          · obtain rfl : k = o14 := by omega
            have e1 : decide ((k : Int) < (k : Int)) = false := by simp
            by_cases hyy : y ≤ 2000
            · have e3 : decide ((2000 : Int) < y) = false := by simp; omega
              go_wp2_with fail
              go_roundw
              case rel => exact ⟨i + 1, y, by omega, by omega, by omega, by go_num, rfl, Lib.hid (B0.out.trans (hb.out.mono B0.out.size))⟩
              case measure => simp [intOf]; omega
            · have e4 : decide ((2000 : Int) < y) = true := by simp; omega
              go_wp2_with fail
              go_ret
              exact ⟨B0.out.trans (hb.out.mono B0.out.size), true, rfl, fun h => (by cases h)⟩
      · obtain rfl : i = m := by omega
        have d1 : decide ((i : Int) < (i : Int)) = false := by simp
        go_wp2_with fail
        go_ret
        exact ⟨hb.out, false, rfl, fun _ => h20⟩
  · have g1 : decide ((20 : Int) < (m : Int)) = true := by simp; omega
    have g2 : (20 : Int) < (m : Int) := by omega
    go_enter Try.func7, Try.ntmps7
    go_wp2_with fail
    go_ret
    exact ⟨Below.refl _ _, true, rfl, fun h => (by cases h)⟩
end Go.Proofs.Ytlenjpgkmikgpaa
