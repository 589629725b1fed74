import Derived.Test.YtgikfjfinjcfmaaDoorG3
namespace Go.Proofs.YtgikfjfinjcfmaaDoor
open Go.RowKit Go.Hos
set_option linter.unusedVariables false
theorem upd_upd {α : Type} (f : Nat → α) (k : Nat) (a b : α) : upd (upd f k a) k b = upd f k b := by
  funext j; unfold upd; split <;> rfl
theorem upd_self {α : Type} (f : Nat → α) (k : Nat) : upd f k (f k) = f := by
  funext j; unfold upd; split
  · rename_i h; rw [h]
  · rfl
/-- the pool, the frame k counted a times -/
def SP (w : World) (N p c b f : Nat) (C : Nat → Nat) (k a : Nat) (W : World) : Prop := ∃ Fb D, PM w.heap.size W p c b f N (upd C k a) Fb D ∧ Below w.heap.size w W ∧ k < N ∧ 0 < C k ∧ (∀ j, C j ≤ 300)
section
variable {w W : World} {N p c b f k a : Nat} {C : Nat → Nat}
theorem SP.bd (hC : ∀ j, C j ≤ 300) (ha : a ≤ 1000) (j : Nat) : upd C k a j < 4611686018427387904 := by
  unfold upd; split
  · omega
  · have := hC j; omega
theorem SP.up (h : Hid (SP w N p c b f C k a W)) (h0 : 0 < a) (ha : a ≤ 1000) :
    Calls Tryd.prog 20 #[.pointer (some ⟨p, 0, none⟩), .int .i64 k] W fun e W' => e = .returned (.int .i64 0) ∧ Hid (SP w N p c b f C k (a + 1) W') := by
  obtain ⟨Fb, D, h1, h2, h3, h4, h5⟩ := h.out
  have ht : tkB (upd C k a) N k = true := tkB_of h3 (by rw [upd_same]; exact h0)
  refine (up_any k W h1 (SP.bd h5 ha)).mono ?_
  rw [erA, upC, ht, if_pos rfl, if_pos rfl, Int.toNat_natCast, upd_same, upd_upd]
  rintro e W' ⟨rfl, pm, _, bl⟩
  exact ⟨rfl, _, _, pm, h2.trans bl, h3, h4, h5⟩
theorem SP.down (h : Hid (SP w N p c b f C k (a + 1) W)) (ha : a + 1 ≤ 1000) :
    Calls Tryd.prog 21 #[.pointer (some ⟨p, 0, none⟩), .int .i64 k] W fun e W' => e = .returned (.int .i64 0) ∧ Hid (SP w N p c b f C k a W') := by
  obtain ⟨Fb, D, h1, h2, h3, h4, h5⟩ := h.out
  have ht : tkB (upd C k (a + 1)) N k = true := tkB_of h3 (by rw [upd_same]; omega)
  refine (down_any k W h1 (SP.bd h5 ha)).mono ?_
  rw [erA, dnC, ht, if_pos rfl, if_pos rfl, Int.toNat_natCast, upd_same, upd_upd, Nat.add_sub_cancel]
  rintro e W' ⟨rfl, pm, _, bl⟩
  exact ⟨rfl, _, _, pm, h2.trans bl, h3, h4, h5⟩
theorem SP.down0 (h : Hid (SP w N p c b f C k 0 W)) :
    Calls Tryd.prog 21 #[.pointer (some ⟨p, 0, none⟩), .int .i64 k] W fun e W' => e = .returned (.int .i64 1) ∧ Hid (SP w N p c b f C k 0 W') := by
  obtain ⟨Fb, D, h1, h2, h3, h4, h5⟩ := h.out
  have ht : tkB (upd C k 0) N k = false := by simp [tkB, upd_same]
  refine (down_any k W h1 (SP.bd h5 (by omega))).mono ?_
  rw [erA, dnC, ht]
  rintro e W' ⟨rfl, pm, _, bl⟩
  exact ⟨rfl, _, _, pm, h2.trans bl, h3, h4, h5⟩
theorem SP.count (h : Hid (SP w N p c b f C k a W)) :
    Calls Tryd.prog 16 #[.pointer (some ⟨p, 0, none⟩), .int .i64 k] W fun e W' => e = .returned (.int .i64 a) ∧ W = W' := by
  obtain ⟨Fb, D, h1, h2, h3, h4, h5⟩ := h.out
  refine (count_any k W h1).mono ?_
  rw [cnt_in h3, upd_same]
  exact fun _ _ h => h
theorem SP.free (h : Hid (SP w N p c b f C k a W)) :
    Calls Tryd.prog 17 #[.pointer (some ⟨p, 0, none⟩)] W fun e W' => e = .returned (.int .i64 (((if a = 0 then frees C N + 1 else frees C N) : Nat) : Int)) ∧ W = W' := by
  obtain ⟨Fb, D, h1, h2, h3, h4, h5⟩ := h.out
  refine (free_any W h1).mono ?_
  have : frees (upd C k a) N = if a = 0 then frees C N + 1 else frees C N := by
    split
    · exact frees_up C k a (by omega) (by assumption) N h3
    · refine frees_congr N fun j _ => ?_
      by_cases e : j = k
      · subst e; rw [upd_same]; omega
      · rw [upd_other _ _ e]
  rw [this]
  exact fun _ _ h => h
theorem SP.below (h : SP w N p c b f C k a W) : Below w.heap.size w W := by obtain ⟨_, _, _, h2, _⟩ := h; exact h2
end
set_option maxRecDepth 200000 in
set_option maxHeartbeats 4000000 in
theorem shares_any {n q : Nat} {A : Option Addr} {O : Nat → OpD} (x y : Int) (t : Nat) (w : World) (h : OpR w w.heap.size A n O) (hn : n ≤ maxLen) (ht : TB w) (h0 : 0 < w.heap.size) (ht8 : t < 256) :
    Calls Tryd.prog 5 #[.int .i64 x, .slice A n q, .int .i64 y, .int .u8 t] w fun e w' => e = .returned (.bool true) ∧ Below w.heap.size w w' := by
  have H := Lib.hid h
  have HT := Lib.hid ht
  by_cases hx : 1 ≤ x ∧ x ≤ 1024
  · cases hb : bigB O n
    · obtain ⟨N, rfl⟩ := Int.eq_ofNat_of_zero_le (show 0 ≤ x by omega)
      have hN1 : 1 ≤ N := by omega
      have hN2 : N ≤ 1024 := by omega
      have HX : Hid ((decide (1 ≤ (N : Int)) && decide ((N : Int) ≤ 1024)) = true) := Lib.hid (by simp; omega)
      have HB := Lib.hid hb
      clear h ht hx hb
      go_enter Tryd.func5, Tryd.ntmps5
      go_wp2_with fail
      refine (right_any N _).mono ?_
      rw [HX.out]
      rintro e w' ⟨rfl, rfl⟩
      go_wp2_with fail
      refine (vast_any _ H.out hn).mono ?_
      rw [HB.out]
      rintro e w' ⟨rfl, rfl⟩
      go_wp2_with fail
      refine (played_any N _ hN1 hN2 H.out HB.out HT.out h0).mono ?_
      rintro e w1 ⟨p, c, b, f, rfl, pi⟩
      obtain ⟨C, Fb, D, pm, hC, bl⟩ := pi
      have PMH := Lib.hid pm; have HC := Lib.hid hC; have BL := Lib.hid bl
      clear pm hC bl
      obtain ⟨fr, hfr⟩ : ∃ fr, fr = frees C N := ⟨_, rfl⟩
      have HFR := Lib.hid hfr
      have hfn : fr ≤ N := by rw [hfr]; exact frees_le C N
      clear hfr
      cases hk : tkB C N y
      · have e1 : cnt C N y = 0 := by unfold cnt; rw [hk]; rfl
        have e2 : erA C N y = 1 := by unfold erA; rw [hk]; rfl
        have e3 : upC C N y = C := by unfold upC; rw [hk]; rfl
        have e4 : dnC C N y = C := by unfold dnC; rw [hk]; rfl
        have E := Lib.hid (And.intro e1 (And.intro e2 (And.intro e3 e4)))
        clear e1 e2 e3 e4 hk
        go_wp2_with fail
        refine (count_any y _ PMH.out).mono ?_
        rw [E.out.1]
        rintro e w' ⟨rfl, rfl⟩
        go_wp2_with fail
        refine (free_any _ PMH.out).mono ?_
        rw [← HFR.out]
        rintro e w' ⟨rfl, rfl⟩
        go_wp2_with fail
        refine (up_any y _ PMH.out (fun k => by have := HC.out k; omega)).mono ?_
        rw [E.out.2.1, E.out.2.2.1]
        rintro e w2 ⟨rfl, pm2, _, bl2⟩
        have P2 := Lib.hid pm2; have B2 := Lib.hid bl2
        clear pm2 bl2
        go_wp2_with fail
        refine (down_any y _ P2.out (fun k => by have := HC.out k; omega)).mono ?_
        rw [E.out.2.1, E.out.2.2.2]
        rintro e w3 ⟨rfl, pm3, _, bl3⟩
        have P3 := Lib.hid pm3; have B3 := Lib.hid bl3
        clear pm3 bl3
        go_wp2_with fail
        refine (free_any _ P3.out).mono ?_
        rw [← HFR.out]
        rintro e w' ⟨rfl, rfl⟩
        go_wp2_with fail
        go_ret
        exact ⟨rfl, BL.out.trans (B2.out.trans B3.out)⟩
      · obtain ⟨k, rfl, hkN, hk0⟩ := tkB_yes hk
        obtain ⟨ck, hck⟩ : ∃ ck, ck = C k := ⟨_, rfl⟩
        have hck1 : 1 ≤ ck := by omega
        have hck2 : ck ≤ 300 := by rw [hck]; exact HC.out k
        have s0 : Hid (SP w N p c b f C k ck w1) := ⟨Fb, D, by rw [hck, upd_self]; exact PMH.out, BL.out, hkN, hk0, HC.out⟩
        clear hck hk hk0
        have b1 : ¬ (ck : Int) ≤ 0 := by omega
        have b2 : ¬ ck = 0 := by omega
        obtain ⟨m, hm⟩ : ∃ m, m = t % 200 := ⟨_, rfl⟩
        have hm2 : m < 200 := by omega
        have hm3 : (t : Int).tmod 200 = (m : Int) := by rw [Int.tmod_eq_emod_of_nonneg (by omega)]; omega
        have hm4 : (t : Int) % 200 = (m : Int) := by omega
        have hm5 : IntKind.i64.wrap (t : Int) = (t : Int) := IntWalk.i64_in _ (by omega)
        have hm6 : IntKind.i64.wrap (m : Int) = (m : Int) := IntWalk.i64_in _ (by omega)
        clear hm
        go_wp2_with fail
        refine (SP.count s0).mono ?_
        rintro e w' ⟨rfl, rfl⟩
        go_wp2_with fail
        refine (SP.free s0).mono ?_
        rw [if_neg (by omega), ← HFR.out]
        rintro e w' ⟨rfl, rfl⟩
        go_wp2_with fail
        go_loopw [16] (fun v16 wr => ∃ i : Nat, i ≤ m ∧ v16 = .int .i64 i ∧ Hid (SP w N p c b f C k (ck + i) wr)) (fun v16 _ => m - (intOf v16).toNat)
        case atStart => exact ⟨0, by omega, rfl, s0⟩
        case round =>
          obtain ⟨i, hi, rfl, s1⟩ := hrel
          by_cases him : i < m
          · have e1 : decide ((i : Int) < (m : Int)) = true := by simp; omega
            go_wp2_with fail
            refine (SP.up s1 (by omega) (by omega)).mono ?_
            rintro e w2 ⟨rfl, s2⟩
            go_wp2_with fail
            go_roundw
            case rel => exact ⟨i + 1, by omega, by go_num, s2⟩
            case measure => simp [intOf]; omega
          · obtain rfl : i = m := by omega
            obtain ⟨s, hs⟩ : ∃ s, s = ck + i := ⟨_, rfl⟩
            have hsi : (ck : Int) + (i : Int) = (s : Int) := by omega
            have hs5 : s ≤ 500 := by omega
            have hsw : IntKind.i64.wrap (s : Int) = (s : Int) := IntWalk.i64_in _ (by omega)
            rw [← hs] at s1
            clear s0 hs
            go_wp2_with fail
            go_loopw [18] (fun v18 wr => ∃ j : Nat, j ≤ 500 ∧ v18 = .int .i64 j ∧ Hid (SP w N p c b f C k j wr)) (fun v18 _ => (intOf v18).toNat)
            case atStart => exact ⟨s, hs5, rfl, s1⟩
            case round =>
              obtain ⟨j, hj, rfl, s2⟩ := hrel
              rcases j with _ | j
              · have E1 : Hid (frees C N = fr) := Lib.hid HFR.out.symm
                have e0 : ¬ (0 : Int) < ((0 : Nat) : Int) := by omega
                obtain ⟨fs, hfs⟩ : ∃ fs, fs = fr + 1 := ⟨_, rfl⟩
                have hfi : (fr : Int) + 1 = (fs : Int) := by omega
                have hfw : IntKind.i64.wrap (fs : Int) = (fs : Int) := IntWalk.i64_in _ (by omega)
                have HFS := Lib.hid hfs
                clear hfs
                go_wp2_with fail
                refine (SP.down0 s2).mono ?_
                rintro e w2 ⟨rfl, s3⟩
                go_wp2_with fail
                refine (SP.count s3).mono ?_
                rintro e w' ⟨rfl, rfl⟩
                go_wp2_with fail
                refine (SP.free s3).mono ?_
                rw [if_pos rfl, E1.out, ← HFS.out]
                rintro e w' ⟨rfl, rfl⟩
                go_wp2_with fail
                go_ret
                exact ⟨rfl, s3.out.below⟩
              · have e0 : (0 : Int) < ((j + 1 : Nat) : Int) := by omega
                obtain ⟨j1, hj1⟩ : ∃ j1, j1 = j + 1 := ⟨_, rfl⟩
                have e2 : (j1 : Int) - 1 = (j : Int) := by omega
                have J1 := Lib.hid hj1
                rw [← hj1] at s2 e0 hj ⊢
                clear hj1
                go_wp2_with fail
                refine (SP.count s2).mono ?_
                rintro e w' ⟨rfl, rfl⟩
                go_wp2_with fail
                refine (SP.free s2).mono ?_
                rw [if_neg (by have := J1.out; omega), ← HFR.out]
                rintro e w' ⟨rfl, rfl⟩
                go_wp2_with fail
                rw [J1.out] at s2
                refine (SP.down s2 (by have := J1.out; omega)).mono ?_
                rintro e w2 ⟨rfl, s3⟩
                go_wp2_with fail
                go_roundw
                case rel => exact ⟨j, by have := J1.out; omega, by go_num, s3⟩
                case measure => simp [intOf]; have := J1.out; omega
    · have HX : Hid ((decide (1 ≤ x) && decide (x ≤ 1024)) = true) := Lib.hid (by simp; omega)
      have HB := Lib.hid hb
      clear h ht hx hb
      go_enter Tryd.func5, Tryd.ntmps5
      go_wp2_with fail
      refine (right_any x _).mono ?_
      rw [HX.out]
      rintro e w' ⟨rfl, rfl⟩
      go_wp2_with fail
      refine (vast_any _ H.out hn).mono ?_
      rw [HB.out]
      rintro e w' ⟨rfl, rfl⟩
      go_wp2_with fail
      refine (works_any _ HT.out h0).mono ?_
      rintro e w3 ⟨rfl, hb⟩
      have G3 := Lib.hid hb
      clear hb
      go_wp2_with fail
      go_ret
      exact ⟨rfl, G3.out⟩
  · have HX : Hid ((decide (1 ≤ x) && decide (x ≤ 1024)) = false) := Lib.hid (by simp; omega)
    clear h ht hx
    go_enter Tryd.func5, Tryd.ntmps5
    go_wp2_with fail
    refine (right_any x _).mono ?_
    rw [HX.out]
    rintro e w' ⟨rfl, rfl⟩
    go_wp2_with fail
    refine (works_any _ HT.out h0).mono ?_
    rintro e w3 ⟨rfl, hb⟩
    have G3 := Lib.hid hb
    clear hb
    go_wp2_with fail
    go_ret
    exact ⟨rfl, G3.out⟩
end Go.Proofs.YtgikfjfinjcfmaaDoor
