import Derived.Test.YtlenjpgkmikgpaaR20
namespace Go.Proofs.Ytlenjpgkmikgpaa
open Go.RowKit Go.Shelf Go.Hos
set_option linter.unusedVariables false
/-! objects compared that are alike (kept) -/
theorem sym_cells {W : World} {B : Nat} {A : Option Addr} {n : Nat} {S : Nat → Sym.SymD} (h : Lay.StR W B 5 A n (fun k => (S k).cs)) {k : Nat} (hk : k < n) : ∃ ad, A = some ad ∧ ad.block < B ∧
    W.cell? (ad.add (k * 5)) = some (.string (S k).nm) ∧ W.cell? ⟨(ad.add (k * 5)).block, (ad.add (k * 5)).off + 1, none⟩ = some (.int .u64 (S k).v) ∧ W.cell? ⟨(ad.add (k * 5)).block, (ad.add (k * 5)).off + 2, none⟩ = some (.int .u64 (S k).sz) ∧
    W.cell? ⟨(ad.add (k * 5)).block, (ad.add (k * 5)).off + 3, none⟩ = some (.int .u8 (S k).bd) ∧ W.cell? ⟨(ad.add (k * 5)).block, (ad.add (k * 5)).off + 4, none⟩ = some (.bool (S k).df) := by
  obtain ⟨ad, rfl, hb, hc⟩ := h (by omega)
  have hc := hc k hk
  refine ⟨ad, rfl, hb, hc 0 _ rfl, ?_, ?_, ?_, ?_⟩
  all_goals rw [← Lay.add_field]
  · exact hc 1 _ rfl
  · exact hc 2 _ rfl
  · exact hc 3 _ rfl
  · exact hc 4 _ rfl
set_option maxRecDepth 20000 in
set_option maxHeartbeats 6400000 in
theorem kept_any (A A' : Option Addr) (m c c' : Nat) (O O' : Nat → ObjD) (w : World) (hR : ObjR w w.heap.size A m O) (hR' : ObjR w w.heap.size A' m O') (hs : ∀ i, SameD (O i) (O' i)) :
    Calls Try.prog 13 #[.slice A m c, .slice A' m c'] w fun e W' => e = .returned (.bool true) ∧ Below w.heap.size w W' := by
  have hmm : maxLen = 9223372036854775807 := by simp [maxLen]
  have H := Lib.hid hR; have H' := Lib.hid hR'; have HS := Lib.hid hs
  have hmx := hR.len
  have t1 : ((m : Int) != (m : Int)) = false := by simp
  have st67 : Try.prog.stoodInHeld 67 = false := by kernel_rfl
  have eg67 : Try.prog.eqGuardType Try.prog.depth 67 = false := by kernel_rfl
  have st61 : Try.prog.stoodInHeld 61 = false := by kernel_rfl
  have eg61 : Try.prog.eqGuardType Try.prog.depth 61 = false := by kernel_rfl
  have st53 : Try.prog.stoodInHeld 53 = false := by kernel_rfl
  have eg53 : Try.prog.eqGuardType Try.prog.depth 53 = false := by kernel_rfl
  clear hR hR' hs
  go_enter Try.func13, Try.ntmps13
  go_wp2_with fail
  go_loopw [5] (fun v5 wr => ∃ i q : Nat, i ≤ m ∧ v5 = .int .i64 i ∧ wr = w.drewN q) (fun v5 _ => m - (intOf v5).toNat)
  case atStart => exact ⟨0, 0, Nat.zero_le _, rfl, rfl⟩
  case round =>
    obtain ⟨i, q, hi, rfl, rfl⟩ := hrel
    by_cases him : i < m
    · have e1 : decide ((i : Int) < (m : Int)) = true := by simp; omega
      have e2 : (i : Int) < (m : Int) := by omega
      obtain ⟨ad, rfl, had, c0, c1, c2, c3, c4, c5, c6, c7, c8, c9, c10⟩ := H.out.lay.cells him
      obtain ⟨ad', rfl, had', d0, d1, d2, d3, d4, d5, d6, d7, d8, d9, d10⟩ := H'.out.lay.cells him
      dsimp only [ObjD.lay] at c1 c5 c9 c10 d1 d5 d9 d10
      have SG := Lib.hid (H.out.sg i him).1; have SG' := Lib.hid (H'.out.sg i him).1
      have SY := Lib.hid (H.out.sy i him).1; have SY' := Lib.hid (H'.out.sy i him).1
      have RL := Lib.hid (H.out.rl i him).1; have RL' := Lib.hid (H'.out.rl i him).1
      have hg := (H.out.sg i him).2; have hy := (H.out.sy i him).2; have hr := (H.out.rl i him).2
      obtain ⟨gA, gQ, sA, sQ, rA, rQ, e⟩ := HS.out i
      rw [e] at d1 d5 d9 d10 SG' SY' RL'
      dsimp only at d1 d5 d9 d10 SG' SY' RL'
      generalize O i = o at *
      obtain ⟨ino, base, oty, en, ph, o5, o6, o7, nA, nM, nQ, so, rn, o13, o14, o15, o16, o17, o18, sg, sy, rl⟩ := o
      dsimp only at c1 c5 c9 c10 d1 d5 d9 d10 SG SY RL SG' SY' RL' hg hy hr
      clear c0 c2 c3 c4 c6 c7 c8 d0 d2 d3 d4 d6 d7 d8 e
      have u1 : ((base : Int) != (base : Int)) = false := by simp
      have u2 : ((o6 : Int) != (o6 : Int)) = false := by simp
      have u3 : ((o14 : Int) != (o14 : Int)) = false := by simp
      have u4 : ((o17 : Int) != (o17 : Int)) = false := by simp
      go_wp2_with fail
      go_quiet (fail)
      go_wp2_with fail
      go_loopw [6] (fun v6 wr => ∃ k q : Nat, k ≤ o6 ∧ v6 = .int .i64 k ∧ wr = w.drewN q) (fun v6 _ => o6 - (intOf v6).toNat)
      case atStart => exact ⟨0, _, Nat.zero_le _, rfl, by first | rfl | exact drewN_drewN _ _ _⟩
      case round =>
        obtain ⟨k, q, hk, rfl, rfl⟩ := hrel
        by_cases hko : k < o6
        · have f1 : decide ((k : Int) < (o6 : Int)) = true := by simp; omega
          have f2 : (k : Int) < (o6 : Int) := by omega
          obtain ⟨ag, rfl, _, x0, x1, x2, x3, x4, x5⟩ := Lay.seg_cells SG.out hko
          obtain ⟨ag', rfl, _, y0, y1, y2, y3, y4, y5⟩ := Lay.seg_cells SG'.out hko
          generalize sg k = s at x0 x1 x2 x3 x4 x5 y0 y1 y2 y3 y4 y5
          obtain ⟨s0, s1, s2, s3, s4, s5⟩ := s
          dsimp only at x0 x1 x2 x3 x4 x5 y0 y1 y2 y3 y4 y5
          go_wp2_with fail
          go_quiet (fail)
          go_wp2_with fail
          go_roundw
          case rel => exact ⟨k + 1, _, by omega, by go_num, by first | rfl | exact drewN_drewN _ _ _⟩
          case measure => simp [intOf]; omega
        · obtain rfl : k = o6 := by omega
          have f1 : decide ((k : Int) < (k : Int)) = false := by simp
          go_wp2_with fail
          go_loopw [7] (fun v6 wr => ∃ k q : Nat, k ≤ o14 ∧ v6 = .int .i64 k ∧ wr = w.drewN q) (fun v6 _ => o14 - (intOf v6).toNat)
          case atStart => exact ⟨0, _, Nat.zero_le _, rfl, by first | rfl | exact drewN_drewN _ _ _⟩
          case round =>
            obtain ⟨k1, q, hk1, rfl, rfl⟩ := hrel
            by_cases hko : k1 < o14
            · have g1 : decide ((k1 : Int) < (o14 : Int)) = true := by simp; omega
              have g2 : (k1 : Int) < (o14 : Int) := by omega
              obtain ⟨ag, rfl, _, x0, x1, x2, x3, x4⟩ := sym_cells SY.out hko
              obtain ⟨ag', rfl, _, y0, y1, y2, y3, y4⟩ := sym_cells SY'.out hko
              generalize sy k1 = s at x0 x1 x2 x3 x4 y0 y1 y2 y3 y4
              obtain ⟨s0, s1, s2, s3, s4⟩ := s
              dsimp only at x0 x1 x2 x3 x4 y0 y1 y2 y3 y4
              go_wp2_with fail
              go_quiet (fail)
              go_wp2_with fail
              go_roundw
              case rel => exact ⟨k1 + 1, _, by omega, by go_num, by first | rfl | exact drewN_drewN _ _ _⟩
              case measure => simp [intOf]; omega
            · obtain rfl : k1 = o14 := by omega
              have g1 : decide ((k1 : Int) < (k1 : Int)) = false := by simp
              go_wp2_with fail
              go_loopw [8] (fun v6 wr => ∃ k q : Nat, k ≤ o17 ∧ v6 = .int .i64 k ∧ wr = w.drewN q) (fun v6 _ => o17 - (intOf v6).toNat)
              case atStart => exact ⟨0, _, Nat.zero_le _, rfl, by first | rfl | exact drewN_drewN _ _ _⟩
              case round =>
                obtain ⟨k2, q, hk2, rfl, rfl⟩ := hrel
                by_cases hko : k2 < o17
                · have g3 : decide ((k2 : Int) < (o17 : Int)) = true := by simp; omega
                  have g4 : (k2 : Int) < (o17 : Int) := by omega
                  obtain ⟨ag, rfl, _, x0, x1, x2, x3⟩ := rel_cells RL.out hko
                  obtain ⟨ag', rfl, _, y0, y1, y2, y3⟩ := rel_cells RL'.out hko
                  generalize rl k2 = s at x0 x1 x2 x3 y0 y1 y2 y3
                  obtain ⟨s0, s1, s2, s3⟩ := s
                  dsimp only at x0 x1 x2 x3 y0 y1 y2 y3
                  go_wp2_with fail
                  go_quiet (fail)
                  go_wp2_with fail
                  go_roundw
                  case rel => exact ⟨k2 + 1, _, by omega, by go_num, by first | rfl | exact drewN_drewN _ _ _⟩
                  case measure => simp [intOf]; omega
                · obtain rfl : k2 = o17 := by omega
                  have g3 : decide ((k2 : Int) < (k2 : Int)) = false := by simp
                  go_wp2_with fail
                  go_roundw
                  case rel => exact ⟨i + 1, _, by omega, by go_num, by first | rfl | exact drewN_drewN _ _ _⟩
                  case measure => simp [intOf]; omega
    · obtain rfl : i = m := by omega
      have e1 : decide ((i : Int) < (i : Int)) = false := by simp
      go_wp2_with fail
      go_ret
      exact ⟨rfl, below_drewN (Below.refl _ _) _⟩
end Go.Proofs.Ytlenjpgkmikgpaa
