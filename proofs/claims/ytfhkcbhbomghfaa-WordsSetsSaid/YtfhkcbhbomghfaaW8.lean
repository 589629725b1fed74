import Derived.Test.YtfhkcbhbomghfaaW7
namespace Go.Proofs.Ytfhkcbhbomghfaa
open Go.RowKit Go.Hos
set_option linter.unusedVariables false

theorem nlist_eq (gs hs : List Nat) (hl : gs.length = hs.length) (h : ∀ j, j < gs.length → gs.getD j 0 = hs.getD j 0) : gs = hs := by
  apply List.ext_getElem hl
  intro j h1 h2
  have := h j h1
  simpa [List.getD_eq_getElem?_getD, List.getElem?_eq_getElem h1, List.getElem?_eq_getElem h2] using this

set_option maxHeartbeats 800000 in
theorem eq_any (A A' : Option Addr) (n c n' c' : Nat) (gs hs : List Nat) (B B' : Nat) (w : World) (h : Reads w B 1 A n (B8 gs)) (h' : Reads w B' 1 A' n' (B8 hs))
    (hn : n ≤ 140737488355328) (hn' : n' ≤ 140737488355328) :
    Calls Try.prog 16 #[.slice A n c, .slice A' n' c'] w fun e w' => e = .returned (.bool (decide (gs = hs))) ∧ Below w.heap.size w w' := by
  have HL : Hid (gs.length = n) := b8_len h
  have HL' : Hid (hs.length = n') := b8_len h'
  have H := Lib.hid h
  have H' := Lib.hid h'
  clear h h'
  go_enter Try.func16, Try.ntmps16
  go_wp2_with fail
  go_loopw [5] (fun i wr => ∃ k m : Nat, k ≤ n ∧ k ≤ n' ∧ i = .int .i64 k ∧ wr = w.drewN m ∧ Hid (∀ j, j < k → gs.getD j 0 = hs.getD j 0)) (fun i _ => n - (intOf i).toNat)
  case atStart => exact ⟨0, 0, Nat.zero_le _, Nat.zero_le _, rfl, rfl, fun j hj => absurd hj (by omega)⟩
  case round =>
    obtain ⟨k, m, hk, hk', rfl, rfl, hno⟩ := hrel
    by_cases h1 : k < n
    · have d1 : decide ((k : Int) < (n : Int)) = true := by simp; omega
      have e1 : ((k : Int) == (n : Int)) = false := by simp; omega
      by_cases h2 : k < n'
      · have d2 : decide ((k : Int) < (n' : Int)) = true := by simp; omega
        obtain ⟨ad, x, rfl, hb, hc, hx⟩ := b8_get H.out h1
        obtain ⟨ad', x', rfl, hb', hc', hx'⟩ := b8_get H'.out h2
        by_cases hxx : x = x'
        · have d3 : ((x : Int) == (x' : Int)) = true := by simp [hxx]
          have HX := Lib.hid hxx
          clear hxx
          go_wp2_with fail
          go_quiet (fail)
          go_wp2_with fail
          go_roundw
          case rel =>
            refine ⟨k + 1, _, by omega, by omega, by go_num, rfl, fun j hj => ?_⟩
            by_cases e : j = k
            · subst e; rw [hx.out.1, hx'.out.1]; exact HX.out
            · exact hno j (by omega)
          case measure => simp [intOf]; omega
        · have d3 : ((x : Int) == (x' : Int)) = false := by simp; omega
          have HX := Lib.hid hxx
          clear hxx
          go_wp2_with fail
          go_quiet (fail)
          go_wp2_with fail
          go_ret
          have : ¬ gs = hs := by intro e; subst e; exact HX.out (hx.out.1.symm.trans hx'.out.1)
          exact ⟨by rw [decide_eq_false this]; rfl, below_drewN (Below.refl _ _) _⟩
      · have d2 : decide ((k : Int) < (n' : Int)) = false := by simp; omega
        have : ¬ gs = hs := by intro e; subst e; have := HL.out; have := HL'.out; omega
        have HN := Lib.hid this
        clear this
        go_wp2_with fail
        go_quiet (fail)
        go_wp2_with fail
        go_ret
        exact ⟨by rw [decide_eq_false HN.out]; rfl, below_drewN (Below.refl _ _) _⟩
    · have d1 : decide ((k : Int) < (n : Int)) = false := by simp; omega
      have e1 : ((k : Int) == (n : Int)) = true := by simp; omega
      by_cases h2 : k < n'
      · have e2 : ((k : Int) == (n' : Int)) = false := by simp; omega
        have : ¬ gs = hs := by intro e; subst e; have := HL.out; have := HL'.out; omega
        have HN := Lib.hid this
        clear this
        go_wp2_with fail
        go_quiet (fail)
        go_wp2_with fail
        go_ret
        exact ⟨by rw [decide_eq_false HN.out]; rfl, below_drewN (Below.refl _ _) _⟩
      · have e2 : ((k : Int) == (n' : Int)) = true := by simp; omega
        have : gs = hs := nlist_eq gs hs (by have := HL.out; have := HL'.out; omega) (fun j hj => hno.out j (by have := HL.out; omega))
        have HN := Lib.hid this
        clear this
        go_wp2_with fail
        go_quiet (fail)
        go_wp2_with fail
        go_ret
        exact ⟨by rw [decide_eq_true HN.out]; rfl, below_drewN (Below.refl _ _) _⟩
end Go.Proofs.Ytfhkcbhbomghfaa
