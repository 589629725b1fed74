import Derived.Test.YtgikfjfinjcfmaaDoorH2
import Derived.Test.YtgikfjfinjcfmaaDoorF6
namespace Go.Proofs.YtgikfjfinjcfmaaDoor
open Go.RowKit Go.Hos
set_option linter.unusedVariables false
/-- both pools -/
structure J (w : World) (p c b f q c2 b2 N : Nat) (C : Nat → Nat) (D : Nat → Nat → Nat) (W : World) : Prop where
  pm : ∃ Fb, PM w.heap.size W p c b f N C Fb D
  rp : ∃ V L, RP w.heap.size W q c2 b2 N C D V L
  ne : c ≠ c2
  bl : Below w.heap.size w W
section
variable {w W W' : World} {p c b f q c2 b2 N : Nat} {C : Nat → Nat} {D : Nat → Nat → Nat}
theorem J.next (h : J w p c b f q c2 b2 N C D W) (hb : Below W.heap.size W W') : J w p c b f q c2 b2 N C D W' := by
  obtain ⟨Fb, h1⟩ := h.pm
  obtain ⟨V, L, h2⟩ := h.rp
  exact ⟨⟨Fb, h1.next hb⟩, ⟨V, L, h2.next hb⟩, h.ne, h.bl.trans (hb.mono h.bl.size)⟩
theorem J.free (h : Hid (J w p c b f q c2 b2 N C D W)) : Calls Tryd.prog 17 #[.pointer (some ⟨p, 0, none⟩)] W fun e w' => e = .returned (.int .i64 (frees C N)) ∧ W = w' := by
  obtain ⟨Fb, h1⟩ := h.out.pm
  exact free_any W h1
theorem J.size (h : Hid (J w p c b f q c2 b2 N C D W)) : Calls Tryd.prog 18 #[.pointer (some ⟨p, 0, none⟩)] W fun e w' => e = .returned (.int .i64 N) ∧ W = w' := by
  obtain ⟨Fb, h1⟩ := h.out.pm
  exact size_any W h1
theorem J.count (h : Hid (J w p c b f q c2 b2 N C D W)) (x : Int) : Calls Tryd.prog 16 #[.pointer (some ⟨p, 0, none⟩), .int .i64 x] W fun e w' => e = .returned (.int .i64 (cnt C N x)) ∧ W = w' := by
  obtain ⟨Fb, h1⟩ := h.out.pm
  exact count_any x W h1
theorem J.rfree (h : Hid (J w p c b f q c2 b2 N C D W)) : Calls Tryd.prog 30 #[.pointer (some ⟨q, 0, none⟩)] W fun e w' => e = .returned (.int .i64 (frees C N)) ∧ W = w' := by
  obtain ⟨V, L, h1⟩ := h.out.rp
  exact rfree_any W h1
theorem J.rsize (h : Hid (J w p c b f q c2 b2 N C D W)) : Calls Tryd.prog 31 #[.pointer (some ⟨q, 0, none⟩)] W fun e w' => e = .returned (.int .i64 N) ∧ W = w' := by
  obtain ⟨V, L, h1⟩ := h.out.rp
  exact rsize_any W h1
theorem J.rcount (h : Hid (J w p c b f q c2 b2 N C D W)) (x : Int) : Calls Tryd.prog 32 #[.pointer (some ⟨q, 0, none⟩), .int .i64 x] W fun e w' => e = .returned (.int .i64 (cnt C N x)) ∧ W = w' := by
  obtain ⟨V, L, h1⟩ := h.out.rp
  exact rcount_any x W h1
theorem J.nn (h : J w p c b f q c2 b2 N C D W) : 1 ≤ N ∧ N ≤ 1024 := by
  obtain ⟨V, L, h1⟩ := h.rp
  exact h1.nn
end
set_option maxHeartbeats 800000 in
theorem alike_any {w : World} {p c b f q c2 b2 N : Nat} {C : Nat → Nat} {D : Nat → Nat → Nat} (W : World) (h : Hid (J w p c b f q c2 b2 N C D W)) :
    Calls Tryd.prog 12 #[.pointer (some ⟨p, 0, none⟩), .pointer (some ⟨q, 0, none⟩)] W fun e W' => e = .returned (.bool true) ∧ W = W' := by
  have hn := h.out.nn
  obtain ⟨fr, hfr⟩ : ∃ fr, fr = frees C N := ⟨_, rfl⟩
  have HFR := Lib.hid hfr
  clear hfr
  have b1 : ((fr : Int) != (fr : Int)) = false := by simp
  have b2 : ((N : Int) != (N : Int)) = false := by simp
  go_enter Tryd.func12, Tryd.ntmps12
  go_wp2_with fail
  refine (J.free h).mono ?_
  rw [← HFR.out]
  rintro e w' ⟨rfl, rfl⟩
  go_wp2_with fail
  refine (J.rfree h).mono ?_
  rw [← HFR.out]
  rintro e w' ⟨rfl, rfl⟩
  go_wp2_with fail
  refine (J.size h).mono ?_
  rintro e w' ⟨rfl, rfl⟩
  go_wp2_with fail
  refine (J.rsize h).mono ?_
  rintro e w' ⟨rfl, rfl⟩
  go_wp2_with fail
  go_loop [5] (fun v5 => ∃ j : Nat, j ≤ N + 2 ∧ v5 = .int .i64 ((j : Int) - 1)) (fun v5 => (N + 2) - (intOf v5 + 1).toNat)
  case atStart => exact ⟨0, by omega, rfl⟩
  case round =>
    obtain ⟨j, hj, rfl⟩ := hrel
    by_cases hjn : j < N + 2
    · obtain ⟨x, hx⟩ : ∃ x : Int, x = (j : Int) - 1 := ⟨_, rfl⟩
      rw [← hx]
      have e1 : x ≤ (N : Int) := by omega
      have e2 : -1 ≤ x := by omega
      obtain ⟨ct, hct⟩ : ∃ ct, ct = cnt C N x := ⟨_, rfl⟩
      have HCT := Lib.hid hct
      have HX := Lib.hid hx
      clear hct hx
      have b3 : (ct != ct) = false := by simp
      go_wp2_with fail
      refine (J.rsize h).mono ?_
      rintro e w' ⟨rfl, rfl⟩
      go_wp2_with fail
      refine (J.count h x).mono ?_
      rw [← HCT.out]
      rintro e w' ⟨rfl, rfl⟩
      go_wp2_with fail
      refine (J.rcount h x).mono ?_
      rw [← HCT.out]
      rintro e w' ⟨rfl, rfl⟩
      go_wp2_with fail
      go_round
      case rel => exact ⟨j + 1, by omega, by rw [HX.out]; go_num⟩
      case measure => simp [intOf]; have := HX.out; omega
    · obtain rfl : j = N + 2 := by omega
      have e1 : ¬ ((N + 2 : Nat) : Int) - 1 ≤ (N : Int) := by omega
      obtain ⟨x, hx⟩ : ∃ x : Int, x = ((N + 2 : Nat) : Int) - 1 := ⟨_, rfl⟩
      rw [← hx] at e1 ⊢
      clear hx
      go_wp2_with fail
      refine (J.rsize h).mono ?_
      rintro e w' ⟨rfl, rfl⟩
      go_wp2_with fail
      go_ret
      exact ⟨rfl, rfl⟩
set_option maxHeartbeats 800000 in
theorem begun_ok (N : Nat) (w : World) (h1 : 1 ≤ N) (h2 : N ≤ 1024) :
    Calls Tryd.prog 10 #[.int .i64 N] w fun e W => ∃ p c b f q c2 b2, e = .returned (.tuple #[.pointer (some ⟨p, 0, none⟩), .pointer (some ⟨q, 0, none⟩), .bool true]) ∧ Hid (J w p c b f q c2 b2 N (fun _ => 0) (fun _ _ => 0) W) := by
  go_enter Tryd.func10, Tryd.ntmps10
  go_wp2_with fail
  refine (new_ok N w h1 h2).mono ?_
  rintro e w1 ⟨p, c, b, f, rfl, pm, bl⟩
  have PMH := Lib.hid pm; have BL := Lib.hid bl
  clear pm bl
  go_wp2_with fail
  refine (rnew_ok N w1 h1 h2).mono ?_
  rintro e w2 ⟨q, c2, b2, rfl, rp, bl2⟩
  have hJ : Hid (J w p c b f q c2 b2 N (fun _ => 0) (fun _ _ => 0) w2) := by
    refine ⟨⟨_, PMH.out.next bl2⟩, ⟨fun _ => .slice none 0 0, fun _ => 0, ?_⟩, ?_, BL.out.trans (bl2.mono BL.out.size)⟩
    · have hs := BL.out.size
      exact ⟨rp.hd, rp.cc, rp.bb, fun k _ h => absurd h (Nat.lt_irrefl 0), fun k _ h => absurd h (Nat.lt_irrefl 0), fun i j _ _ h => absurd h (Nat.lt_irrefl 0), ⟨by have := rp.bs.1; omega, by have := rp.bs.2.1; omega, by have := rp.bs.2.2; omega⟩, rp.nn⟩
    · have := PMH.out.cc.lt; have := rp.bs.2.1; omega
  clear rp bl2
  go_wp2_with fail
  go_ret3
  exact ⟨_, _, _, _, _, _, _, rfl, hJ⟩
set_option maxHeartbeats 800000 in
theorem begun_bad (n : Int) (w : World) (h : n < 1 ∨ 1024 < n) :
    Calls Tryd.prog 10 #[.int .i64 n] w fun e W => e = .returned (.tuple #[.pointer none, .pointer none, .bool true]) ∧ w = W := by
  have H := Lib.hid h
  clear h
  go_enter Tryd.func10, Tryd.ntmps10
  go_wp2_with fail
  refine (new_bad n w H.out).mono ?_
  rintro e w1 ⟨rfl, rfl⟩
  go_wp2_with fail
  refine (rnew_bad n _ H.out).mono ?_
  rintro e w1 ⟨rfl, rfl⟩
  go_wp2_with fail
  go_ret3
  exact ⟨rfl, rfl⟩
set_option maxHeartbeats 800000 in
theorem news_any (n : Int) (w : World) (ht : TB w) (h0 : 0 < w.heap.size) :
    Calls Tryd.prog 3 #[.int .i64 n] w fun e W => e = .returned (.bool true) ∧ Below w.heap.size w W := by
  have HT := Lib.hid ht
  clear ht
  by_cases hx : 1 ≤ n ∧ n ≤ 1024
  · obtain ⟨N, rfl⟩ := Int.eq_ofNat_of_zero_le (show 0 ≤ n by omega)
    have h1 : 1 ≤ N := by omega
    have h2 : N ≤ 1024 := by omega
    clear hx
    go_enter Tryd.func3, Tryd.ntmps3
    go_wp2_with fail
    refine (begun_ok N w h1 h2).mono ?_
    rintro e w1 ⟨p, c, b, f, q, c2, b2, rfl, hj⟩
    go_wp2_with fail
    refine (alike_any w1 hj).mono ?_
    rintro e w2 ⟨rfl, rfl⟩
    go_wp2_with fail
    refine (works_any _ (HT.out.below hj.out.bl h0) (by have := hj.out.bl.size; omega)).mono ?_
    rintro e w3 ⟨rfl, hb⟩
    have G3 := Lib.hid (hj.out.bl.trans (hb.mono hj.out.bl.size))
    clear hb
    go_wp2_with fail
    go_ret
    exact ⟨rfl, G3.out⟩
  · go_enter Tryd.func3, Tryd.ntmps3
    go_wp2_with fail
    refine (begun_bad n w (by omega)).mono ?_
    rintro e w1 ⟨rfl, rfl⟩
    go_wp2_with fail
    refine (works_any _ HT.out h0).mono ?_
    rintro e w3 ⟨rfl, hb⟩
    have G3 := Lib.hid hb
    clear hb
    go_wp2_with fail
    go_ret
    exact ⟨rfl, G3.out⟩
end Go.Proofs.YtgikfjfinjcfmaaDoor
