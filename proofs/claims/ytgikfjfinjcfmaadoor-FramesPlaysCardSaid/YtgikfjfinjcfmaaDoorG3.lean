import Derived.Test.YtgikfjfinjcfmaaDoorG2
namespace Go.Proofs.YtgikfjfinjcfmaaDoor
open Go.RowKit Go.Hos
set_option linter.unusedVariables false
/-- the sweep from above: so many free from j on, the first of them -/
def Sw (C : Nat → Nat) (N j fr : Nat) (fi : Int) : Prop := fr + frees C j = frees C N ∧ (0 < fr → ∃ z : Nat, fi = z ∧ j ≤ z ∧ z < N ∧ C z = 0 ∧ ∀ l, j ≤ l → l < z → C l ≠ 0)
theorem Sw.start (C : Nat → Nat) (N : Nat) : Sw C N N 0 (-1) := ⟨by omega, fun h => absurd h (by omega)⟩
theorem Sw.zero {C : Nat → Nat} {N j fr : Nat} {fi : Int} (h : Sw C N (j + 1) fr fi) (hj : j < N) (h0 : C j = 0) : Sw C N j (fr + 1) j := by
  refine ⟨?_, fun _ => ⟨j, rfl, Nat.le_refl _, hj, h0, fun l h1 h2 => absurd h1 (by omega)⟩⟩
  have := h.1
  have e : frees C (j + 1) = frees C j + if C j = 0 then 1 else 0 := rfl
  rw [if_pos h0] at e
  omega
theorem Sw.more {C : Nat → Nat} {N j fr : Nat} {fi : Int} (h : Sw C N (j + 1) fr fi) (h0 : C j ≠ 0) : Sw C N j fr fi := by
  refine ⟨?_, fun hp => ?_⟩
  · have := h.1
    have e : frees C (j + 1) = frees C j + if C j = 0 then 1 else 0 := rfl
    rw [if_neg h0] at e
    omega
  · obtain ⟨z, e, h1, h2, h3, h4⟩ := h.2 hp
    refine ⟨z, e, by omega, h2, h3, fun l hl hz => ?_⟩
    by_cases e : l = j
    · subst e; exact h0
    · exact h4 l (by omega) hz
theorem cnt_out {C : Nat → Nat} {N : Nat} {x : Int} (h : x < 0 ∨ (N : Int) ≤ x) : cnt C N x = 0 := by
  have : tkB C N x = false := by
    simp only [tkB, Bool.and_eq_false_iff, decide_eq_false_iff_not]
    omega
  unfold cnt
  rw [this]; rfl
theorem cnt_in {C : Nat → Nat} {N j : Nat} (h : j < N) : cnt C N j = C j := by
  unfold cnt
  rcases Nat.eq_zero_or_pos (C j) with e | e
  · have : tkB C N j = false := by simp [tkB, e]
    rw [this, e]; rfl
  · rw [tkB_of h e]; simp

set_option maxRecDepth 20000 in
set_option maxHeartbeats 1600000 in
theorem all_any {n q : Nat} {A : Option Addr} {O : Nat → OpD} (x : Int) (w : World) (h : OpR w w.heap.size A n O) (hn : n ≤ maxLen) (ht : TB w) (h0 : 0 < w.heap.size) :
    Calls Tryd.prog 4 #[.int .i64 x, .slice A n q] w fun e w' => e = .returned (.bool true) ∧ Below w.heap.size w w' := by
  have H := Lib.hid h
  have HT := Lib.hid ht
  by_cases hx : 1 ≤ x ∧ x ≤ 1024
  · cases hb : bigB O n
    · obtain ⟨N, rfl⟩ := Int.eq_ofNat_of_zero_le (show 0 ≤ x by omega)
      have hN1 : 1 ≤ N := by omega
      have hN2 : N ≤ 1024 := by omega
      have HX : Hid ((decide (1 ≤ (N : Int)) && decide ((N : Int) ≤ 1024)) = true) := Lib.hid (by simp; omega)
      have HB := Lib.hid hb
      clear h ht hx hb
      go_enter Tryd.func4, Tryd.ntmps4
      go_wp2_with fail
      refine (right_any N _).mono ?_
      rw [HX.out]
      rintro e w' ⟨rfl, rfl⟩
      go_wp2_with fail
      refine (vast_any _ H.out hn).mono ?_
      rw [HB.out]
      rintro e w' ⟨rfl, rfl⟩
      go_wp2_with fail
      refine (played_any N _ hN1 hN2 H.out HB.out HT.out h0).mono ?_
      rintro e w1 ⟨p, c, b, f, rfl, pi⟩
      obtain ⟨C, Fb, D, pm, hC, bl⟩ := pi
      have PMH := Lib.hid pm; have HC := Lib.hid hC; have BL := Lib.hid bl
      clear pm hC bl
      go_wp2_with fail
      go_loopw [7, 8, 9] (fun v7 v8 v9 wr => ∃ (j fr : Nat) (fi : Int), j ≤ N ∧ v7 = .int .i64 fr ∧ v8 = .int .i64 fi ∧ v9 = .int .i64 ((j : Int) - 1) ∧ wr = w1 ∧ fr ≤ N ∧ Hid (Sw C N j fr fi)) (fun _ _ v9 _ => ((intOf v9) + 1).toNat)
      case atStart => exact ⟨N, 0, -1, Nat.le_refl _, rfl, rfl, by go_num, rfl, by omega, Sw.start C N⟩
      case round =>
        obtain ⟨j, fr, fi, hj, rfl, rfl, rfl, rfl, hfr, sw⟩ := hrel
        rcases j with _ | j
        · have e1 : ¬ (0 : Int) ≤ ((0 : Nat) : Int) - 1 := by omega
          have hfe : Hid (frees C N = fr) := by have := sw.out.1; have e : frees C 0 = 0 := rfl; exact (by omega : frees C N = fr)
          clear e1
          have e1 : ((0 : Nat) : Int) - 1 = -1 := by omega
          rw [e1]
          go_wp2_with fail
          refine (free_any _ PMH.out).mono ?_
          rw [hfe.out]
          rintro e w' ⟨rfl, rfl⟩
          go_wp2_with fail
          refine (size_any _ PMH.out).mono ?_
          rintro e w' ⟨rfl, rfl⟩
          go_wp2_with fail
          refine (count_any N _ PMH.out).mono ?_
          rw [cnt_out (.inr (by omega))]
          rintro e w' ⟨rfl, rfl⟩
          go_wp2_with fail
          refine (count_any (-1) _ PMH.out).mono ?_
          rw [cnt_out (.inl (by omega))]
          rintro e w' ⟨rfl, rfl⟩
          go_wp2_with fail
          by_cases hf0 : fr = 0
          · subst hf0
            have htf : tf C N = N := tf_eq (Nat.le_refl _) (fun j hj => frees_zero C N hfe.out j hj) (fun h => absurd h (by omega))
            have E : Hid (takeN C N = 0 ∧ takeE C N = 4) := by
              show _ ∧ _
              unfold takeN takeE
              rw [if_neg (by omega), if_neg (by omega)]
              exact ⟨rfl, rfl⟩
            clear htf
            refine (take_any _ PMH.out BL.out.size (HT.out.below BL.out h0)).mono ?_
            rw [E.out.1, E.out.2]
            rintro e w2 ⟨rfl, _, _, bl2⟩
            have B2 := Lib.hid bl2
            clear bl2
            go_wp2_with fail
            go_ret
            exact ⟨rfl, BL.out.trans B2.out⟩
          · obtain ⟨z, rfl, _, hz, hz0, hzl⟩ := sw.out.2 (by omega)
            obtain ⟨fs, rfl⟩ : ∃ fs, fr = fs + 1 := ⟨fr - 1, by omega⟩
            have htf : tf C N = z := tf_eq (by omega) (fun j hj => hzl j (by omega) hj) (fun _ => hz0)
            have E : Hid (takeN C N = z ∧ takeE C N = 0 ∧ takeC C N = upd C z 1) := by
              show _ ∧ _
              unfold takeN takeE takeC
              rw [htf, if_pos hz, if_pos hz, if_pos hz]
              exact ⟨rfl, rfl, rfl⟩
            have hfd : Hid (frees (upd C z 1) N = fs) := by have := frees_down C z 1 hz0 (by omega) N hz; have e := hfe.out; exact (by omega : frees (upd C z 1) N = fs)
            have hcz : Hid (cnt (upd C z 1) N z = 1) := by show _ = _; rw [cnt_in hz, upd_same]; rfl
            have hfi : ((fs + 1 : Nat) : Int) - 1 = (fs : Int) := by omega
            have hfi0 : (((fs + 1 : Nat) : Int) == 0) = false := by simp; omega
            clear htf hz0 hzl hf0
            refine (take_any _ PMH.out BL.out.size (HT.out.below BL.out h0)).mono ?_
            rw [E.out.1, E.out.2.1, E.out.2.2]
            rintro e w2 ⟨rfl, ⟨Fb2, pm2⟩, _, bl2⟩
            have B2 := Lib.hid bl2
            have P2 := Lib.hid pm2
            clear bl2 pm2
            go_wp2_with fail
            refine (count_any z _ P2.out).mono ?_
            rw [hcz.out]
            rintro e w' ⟨rfl, rfl⟩
            go_wp2_with fail
            refine (free_any _ P2.out).mono ?_
            rw [hfd.out]
            rintro e w' ⟨rfl, rfl⟩
            go_wp2_with fail
            go_ret
            exact ⟨rfl, BL.out.trans B2.out⟩
        · have e1 : (0 : Int) ≤ ((j + 1 : Nat) : Int) - 1 := by omega
          have e2 : ((j + 1 : Nat) : Int) - 1 = (j : Int) := by omega
          rw [e2] at e1 ⊢
          go_wp2_with fail
          refine (count_any j _ PMH.out).mono ?_
          rw [cnt_in (show j < N by omega)]
          rintro e w' ⟨rfl, rfl⟩
          obtain ⟨cj, hcj⟩ : ∃ cj, cj = C j := ⟨_, rfl⟩
          rw [← hcj]
          by_cases hc0 : cj = 0
          · have s2 := Lib.hid (sw.out.zero (by omega) (by omega))
            subst hc0
            have hfl : fr + 1 ≤ N := by have := s2.out.1; have := frees_le C N; omega
            clear hcj
            go_wp2_with fail
            go_roundw
            case rel => exact ⟨j, fr + 1, j, by omega, by go_num, rfl, by go_num, by first | rfl | trivial, hfl, s2⟩
            case measure => simp [intOf]
          · have s2 := Lib.hid (sw.out.more (by omega))
            have hc1 : ¬ (cj : Int) < 0 := by omega
            have hc2 : ((cj : Int) == 0) = false := by simpa using hc0
            clear hcj
            go_wp2_with fail
            go_roundw
            case rel => exact ⟨j, fr, fi, by omega, rfl, rfl, by go_num, by first | rfl | trivial, hfr, s2⟩
            case measure => simp [intOf]
    · have HX : Hid ((decide (1 ≤ x) && decide (x ≤ 1024)) = true) := Lib.hid (by simp; omega)
      have HB := Lib.hid hb
      clear h ht hx hb
      go_enter Tryd.func4, Tryd.ntmps4
      go_wp2_with fail
      refine (right_any x _).mono ?_
      rw [HX.out]
      rintro e w' ⟨rfl, rfl⟩
      go_wp2_with fail
      refine (vast_any _ H.out hn).mono ?_
      rw [HB.out]
      rintro e w' ⟨rfl, rfl⟩
      go_wp2_with fail
      refine (works_any _ HT.out h0).mono ?_
      rintro e w3 ⟨rfl, hb⟩
      have G3 := Lib.hid hb
      clear hb
      go_wp2_with fail
      go_ret
      exact ⟨rfl, G3.out⟩
  · have HX : Hid ((decide (1 ≤ x) && decide (x ≤ 1024)) = false) := Lib.hid (by simp; omega)
    clear h ht hx
    go_enter Tryd.func4, Tryd.ntmps4
    go_wp2_with fail
    refine (right_any x _).mono ?_
    rw [HX.out]
    rintro e w' ⟨rfl, rfl⟩
    go_wp2_with fail
    refine (works_any _ HT.out h0).mono ?_
    rintro e w3 ⟨rfl, hb⟩
    have G3 := Lib.hid hb
    clear hb
    go_wp2_with fail
    go_ret
    exact ⟨rfl, G3.out⟩
end Go.Proofs.YtgikfjfinjcfmaaDoor
