import Derived.Test.YtgikfjfinjcfmaaDoorH9
namespace Go.Proofs.YtgikfjfinjcfmaaDoor
open Go.RowKit Go.Hos
set_option linter.unusedVariables false
section
variable {w W : World} {p c b f q c2 b2 N : Nat} {C : Nat → Nat} {D : Nat → Nat → Nat}
theorem J.pload (h : Hid (J w p c b f q c2 b2 N C D W)) (x y z : Int) :
    Calls Tryd.prog 24 #[.pointer (some ⟨p, 0, none⟩), .int .i64 x, .int .i64 y, .int .i64 z] W fun e W' => ∃ A, e = .returned (.tuple #[.slice A (ldL C N x y z) (ldL C N x y z), .int .i64 (ldE C N x y z)]) ∧
      Hid (LdV W' 0 A (ldL C N x y z) (fun i => D x.toNat (y.toNat + i))) ∧ Hid (J w p c b f q c2 b2 N C D W') := by
  obtain ⟨Fb, pm⟩ := h.out.pm
  refine (load_any x y z W pm).mono ?_
  rintro e W' ⟨A, rfl, ld, bl⟩
  exact ⟨A, rfl, ld.low (Nat.zero_le _), h.out.next bl⟩
theorem J.qload (h : Hid (J w p c b f q c2 b2 N C D W)) (x y z : Int) :
    Calls Tryd.prog 39 #[.pointer (some ⟨q, 0, none⟩), .int .i64 x, .int .i64 y, .int .i64 z] W fun e W' => ∃ A, e = .returned (.tuple #[.slice A (ldL C N x y z) (ldL C N x y z), .int .i64 (ldE C N x y z)]) ∧
      Hid (LdV W' 0 A (ldL C N x y z) (fun i => D x.toNat (y.toNat + i))) ∧ Hid (J w p c b f q c2 b2 N C D W') ∧ Hid (Below W.heap.size W W') := by
  obtain ⟨V, L, rp⟩ := h.out.rp
  refine (rload_any x y z W rp).mono ?_
  rintro e W' ⟨A, rfl, ld, bl⟩
  exact ⟨A, rfl, ld.low (Nat.zero_le _), h.out.next bl, bl⟩
end
set_option maxRecDepth 20000 in
set_option maxHeartbeats 1600000 in
theorem whole_any {w W : World} {p c b f q c2 b2 N i : Nat} (h : Hid (JI w p c b f q c2 b2 N i W)) :
    Calls Tryd.prog 23 #[.pointer (some ⟨p, 0, none⟩), .pointer (some ⟨q, 0, none⟩)] W fun e W' => e = .returned (.bool true) ∧ Below w.heap.size w W' := by
  obtain ⟨C, D, hj, _⟩ := h.out
  have hn := hj.nn
  have J0 := Lib.hid hj
  clear h hj
  go_enter Tryd.func23, Tryd.ntmps23
  go_wp2_with fail
  go_loopw [5] (fun v5 wr => ∃ k : Nat, k ≤ N ∧ v5 = .int .i64 k ∧ Hid (J w p c b f q c2 b2 N C D wr)) (fun v5 _ => N - (intOf v5).toNat)
  case atStart => exact ⟨0, by omega, rfl, J0⟩
  case round =>
    obtain ⟨k, hk, rfl, j1⟩ := hrel
    by_cases hkn : k < N
    · have d1 : decide ((k : Int) < (N : Int)) = true := by simp; omega
      have hl4 := ldL_le C N k 0 4096
      obtain ⟨l, hl⟩ : ∃ l, l = ldL C N k 0 4096 := ⟨_, rfl⟩
      obtain ⟨t1, ht1⟩ : ∃ t1, t1 = ldE C N k 0 4096 := ⟨_, rfl⟩
      have HL := Lib.hid hl; have HT1 := Lib.hid ht1
      rw [← hl] at hl4
      clear hl ht1
      go_wp2_with fail
      refine (J.rsize j1).mono ?_
      rintro e w' ⟨rfl, rfl⟩
      go_wp2_with fail
      refine (J.pload j1 k 0 4096).mono ?_
      rw [← HL.out, ← HT1.out]
      rintro e w2 ⟨A1, rfl, ld1, j2⟩
      go_wp2_with fail
      refine (J.qload j2 k 0 4096).mono ?_
      rw [← HL.out, ← HT1.out]
      rintro e w3 ⟨A2, rfl, ld2, j3, bl3⟩
      have ld3 := Lib.hid (ld1.out.below (B := 0) bl3.out)
      have b1 : (t1 != t1) = false := by simp
      clear ld1 bl3
      go_wp2_with fail
      refine (same_any _ ld3.out.reads ld2.out.reads (by omega) (by omega)).mono ?_
      rw [decide_eq_true rfl]
      rintro e w4 ⟨rfl, bl4⟩
      have j4 := Lib.hid (j3.out.next bl4)
      clear bl4 ld2 ld3 j3
      go_wp2_with fail
      go_roundw
      case rel => exact ⟨k + 1, by omega, by go_num, j4⟩
      case measure => simp [intOf]; omega
    · obtain rfl : k = N := by omega
      have d1 : decide ((k : Int) < (k : Int)) = false := by simp
      go_wp2_with fail
      refine (J.rsize j1).mono ?_
      rintro e w' ⟨rfl, rfl⟩
      go_wp2_with fail
      go_ret
      exact ⟨rfl, j1.out.bl⟩
set_option maxRecDepth 20000 in
set_option maxHeartbeats 1600000 in
theorem plays_any {n q0 : Nat} {A : Option Addr} {O : Nat → OpD} (x : Int) (w : World) (h : OpR w w.heap.size A n O) (hn : n ≤ maxLen) (ht : TB w) (h0 : 0 < w.heap.size) :
    Calls Tryd.prog 6 #[.int .i64 x, .slice A n q0] w fun e w' => e = .returned (.bool true) ∧ Below w.heap.size w w' := by
  have H := Lib.hid h
  have HT := Lib.hid ht
  cases hb : bigB O n
  · have hn3 : n ≤ 300 := by
      simp only [bigB, Bool.or_eq_false_iff] at hb
      simpa using hb.1
    have HM : Hid (∀ i, i < n → (O i).m ≤ 16384) := fun i hi => by
      simp only [bigB, Bool.or_eq_false_iff, List.any_eq_false] at hb
      simpa using hb.2 i (by simpa using hi)
    have HB := Lib.hid hb
    clear h ht hb
    by_cases hx : 1 ≤ x ∧ x ≤ 1024
    · obtain ⟨N, rfl⟩ := Int.eq_ofNat_of_zero_le (show 0 ≤ x by omega)
      have hN1 : 1 ≤ N := by omega
      have hN2 : N ≤ 1024 := by omega
      clear hx
      go_enter Tryd.func6, Tryd.ntmps6
      go_wp2_with fail
      refine (vast_any _ H.out hn).mono ?_
      rw [HB.out]
      rintro e w' ⟨rfl, rfl⟩
      go_wp2_with fail
      refine (begun_ok N w hN1 hN2).mono ?_
      rintro e w1 ⟨p, c, b, f, q, c2, b2, rfl, hj⟩
      have J0 : Hid (JI w p c b f q c2 b2 N 0 w1) := ⟨_, _, hj.out, fun _ => Nat.le_refl _⟩
      clear hj
      go_wp2_with fail
      go_loopw [8] (fun v8 wr => ∃ i : Nat, i ≤ n ∧ v8 = .int .i64 i ∧ Hid (JI w p c b f q c2 b2 N i wr)) (fun v8 _ => n - (intOf v8).toNat)
      case atStart => exact ⟨0, by omega, rfl, J0⟩
      case round =>
        obtain ⟨i, hi, rfl, ji⟩ := hrel
        by_cases hin : i < n
        · have e1 : decide ((i : Int) < (n : Int)) = true := by simp; omega
          have hbl : Hid (Below w.heap.size w wr) := by obtain ⟨_, _, hj, _⟩ := ji.out; exact hj.bl
          obtain ⟨ad, hA, hl, c0, c1, c2', c3, c4, _, _⟩ := (H.out.below hbl.out) i hin
          have hr : Reads w w.heap.size 1 (O i).A (O i).m (u8s (O i).bs) := by obtain ⟨_, _, _, _, _, _, _, _, hr, _⟩ := H.out i hin; exact hr
          have hmb := HM.out i hin
          obtain ⟨k, hk⟩ : ∃ k, k = (O i).k := ⟨_, rfl⟩
          obtain ⟨y1, hx⟩ : ∃ x, x = (O i).x := ⟨_, rfl⟩
          obtain ⟨y2, hy⟩ : ∃ y, y = (O i).y := ⟨_, rfl⟩
          obtain ⟨y3, hz⟩ : ∃ z, z = (O i).z := ⟨_, rfl⟩
          obtain ⟨m, hmm⟩ : ∃ m, m = (O i).m := ⟨_, rfl⟩
          obtain ⟨x0, hx0⟩ : ∃ x, x = (O i).A := ⟨_, rfl⟩
          obtain ⟨x1, hx1⟩ : ∃ x, x = (O i).q := ⟨_, rfl⟩
          obtain ⟨bs, hbs⟩ : ∃ x, x = (O i).bs := ⟨_, rfl⟩
          subst hA
          rw [← hk] at c0; rw [← hx] at c1; rw [← hy] at c2'; rw [← hz] at c3
          rw [← hmm, ← hx0, ← hx1] at c4
          rw [← hmm, ← hx0, ← hbs] at hr
          rw [← hmm] at hmb
          have HR := Lib.hid hr
          rw [add_field ad (i * 5) 0] at c1
          rw [add_field ad (i * 5) 1] at c2'
          rw [add_field ad (i * 5) 2] at c3
          rw [add_field ad (i * 5) 3] at c4
          clear hk hx hy hz hmm hx0 hx1 hbs hr
          go_wp2_with fail
          refine (does_any ji (by omega) HT h0 HR hmb).mono ?_
          rintro e w2 ⟨rfl, ji2⟩
          clear c0 c1 c2' c3 c4
          have j2 : ∃ C D, Hid (J w p c b f q c2 b2 N C D w2) := by obtain ⟨C, D, hj, _⟩ := ji2.out; exact ⟨C, D, hj⟩
          obtain ⟨C, D, j3⟩ := j2
          go_wp2_with fail
          refine (alike_any w2 j3).mono ?_
          rintro e w3 ⟨rfl, rfl⟩
          go_wp2_with fail
          go_roundw
          case rel => exact ⟨i + 1, by omega, by go_num, ji2⟩
          case measure => simp [intOf]; omega
        · obtain rfl : i = n := by omega
          have d1 : decide ((i : Int) < (i : Int)) = false := by simp
          go_wp2_with fail
          refine (whole_any ji).mono ?_
          rintro e w2 ⟨rfl, bl2⟩
          have B2 := Lib.hid bl2
          clear bl2
          go_wp2_with fail
          go_ret
          exact ⟨rfl, B2.out⟩
    · go_enter Tryd.func6, Tryd.ntmps6
      go_wp2_with fail
      refine (vast_any _ H.out hn).mono ?_
      rw [HB.out]
      rintro e w' ⟨rfl, rfl⟩
      go_wp2_with fail
      refine (begun_bad x w (by omega)).mono ?_
      rintro e w1 ⟨rfl, rfl⟩
      go_wp2_with fail
      refine (works_any _ HT.out h0).mono ?_
      rintro e w3 ⟨rfl, hb⟩
      have G3 := Lib.hid hb
      clear hb
      go_wp2_with fail
      go_ret
      exact ⟨rfl, G3.out⟩
  · have HB := Lib.hid hb
    clear h ht hb
    go_enter Tryd.func6, Tryd.ntmps6
    go_wp2_with fail
    refine (vast_any _ H.out hn).mono ?_
    rw [HB.out]
    rintro e w' ⟨rfl, rfl⟩
    go_wp2_with fail
    refine (works_any _ HT.out h0).mono ?_
    rintro e w3 ⟨rfl, hb⟩
    have G3 := Lib.hid hb
    clear hb
    go_wp2_with fail
    go_ret
    exact ⟨rfl, G3.out⟩
end Go.Proofs.YtgikfjfinjcfmaaDoor
