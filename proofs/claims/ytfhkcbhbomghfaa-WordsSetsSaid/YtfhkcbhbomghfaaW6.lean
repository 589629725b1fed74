import Derived.Test.YtfhkcbhbomghfaaW5
namespace Go.Proofs.Ytfhkcbhbomghfaa
open Go.RowKit Go.Hos
set_option linter.unusedVariables false

theorem getv_cons (bs : List Nat) (p k : Nat) (h : p < bs.length) : getv bs p (k + 1) = bs.getD p 0 + 256 * getv bs (p + 1) k := by
  unfold getv
  rw [List.drop_eq_getElem_cons h, List.take_succ_cons, le, List.getD_eq_getElem?_getD, List.getElem?_eq_getElem h]
  rfl
theorem getv_le56 (bs : List Nat) (p k : Nat) (hb : ∀ x ∈ bs, x < 256) (hk : k ≤ 7) : getv bs p k < 72057594037927936 := by
  have h := getv_lt bs p k hb
  have h2 : 256 ^ k ≤ 256 ^ 7 := Nat.pow_le_pow_right (by omega) hk
  omega

set_option maxHeartbeats 800000 in
theorem rget_ok (A : Option Addr) (len c at_ n B : Nat) (bs : List Nat) (w : World) (h : Reads w B 1 A len (B8 bs)) (h8 : ∀ x ∈ bs, x < 256) (hl : len ≤ 281474976710656) (hz : szB n = true) (hin : at_ + n ≤ len) :
    Calls Try.prog 12 #[.slice A len c, .int .u64 at_, .int .i64 n] w fun e w' => e = .returned (.tuple #[.int .u64 (getv bs at_ n), .int .i64 0]) ∧ w = w' := by
  have hn8 : 1 ≤ n ∧ n ≤ 8 := by have := of_decide_eq_true hz; omega
  have H := Lib.hid h
  have HZ := Lib.hid hz
  have H8 := Lib.hid h8
  have HL := b8_len h
  have HLL := Lib.hid HL
  clear h hz h8 HL
  go_enter Try.func12, Try.ntmps12
  go_wp2_with fail
  refine (place_any A len c at_ n _ (by omega) (by unfold M; omega)).mono ?_
  rintro e w1 ⟨rfl, rfl⟩
  rw [plc_yes HZ.out (by simpa using hin)]
  go_wp2_with fail
  go_loop [9, 10] (fun x i => ∃ j : Nat, j ≤ n ∧ i = .int .i64 ((j : Int) - 1) ∧ ∃ X : Nat, x = .int .u64 X ∧ Hid (X = getv bs (at_ + j) (n - j))) (fun _ i => (intOf i + 1).toNat)
  case atStart => exact ⟨n, by omega, rfl, 0, rfl, by show 0 = _; rw [Nat.sub_self, getv_zero]⟩
  case round =>
    obtain ⟨j, hj, rfl, X, rfl, hX⟩ := hrel
    rcases j with _ | j
    · go_wp2_with fail
      go_ret2
      exact ⟨by rw [hX.out]; rfl, rfl⟩
    · rw [show ((j + 1 : Nat) : Int) - 1 = (j : Int) by omega]
      obtain ⟨ad, x, rfl, hbl, hc, hx⟩ := b8_get H.out (k := at_ + j) (by omega)
      have x256 : x < 256 := H8.out x hx.out.2
      have X56 : X < 72057594037927936 := by rw [hX.out]; exact getv_le56 bs _ _ H8.out (by omega)
      have w1 : IntKind.u64.wrap (x : Int) = (x : Int) := by rw [IntKind.wrap_u64]; omega
      have w0 : IntKind.i64.wrap (at_ : Int) = (at_ : Int) := by rw [IntKind.wrap_i64]; omega
      obtain ⟨Y, hY⟩ : ∃ Y, Y = 256 * X := ⟨_, rfl⟩
      have w2 : IntKind.u64.wrap (256 * (X : Int)) = (Y : Int) := by rw [IntKind.wrap_u64]; omega
      obtain ⟨Z, hZ⟩ : ∃ Z, Z = Y + x := ⟨_, rfl⟩
      have w3 : IntKind.u64.wrap ((Y : Int) + (x : Int)) = (Z : Int) := by rw [IntKind.wrap_u64]; omega
      have HZ2 : Hid (Z = getv bs (at_ + j) (n - j)) := by
        show Z = _
        rw [show n - j = (n - (j + 1)) + 1 by omega, getv_cons bs (at_ + j) _ (by have := HLL.out; omega), hx.out.1, show at_ + j + 1 = at_ + (j + 1) by omega, ← hX.out, hZ, hY]
        omega
      clear hY hZ X56
      go_wp2_with fail
      go_round
      case rel => exact ⟨j, by omega, by go_num, Z, rfl, HZ2⟩
      case measure => simp [intOf]

set_option maxHeartbeats 800000 in
theorem rget_any (A : Option Addr) (len c at_ B : Nat) (n : Int) (bs : List Nat) (w : World) (h : Reads w B 1 A len (B8 bs)) (h8 : ∀ x ∈ bs, x < 256) (hl : len ≤ 281474976710656) (ha : at_ < M) :
    Calls Try.prog 12 #[.slice A len c, .int .u64 at_, .int .i64 n] w fun e w' => e = .returned (.tuple #[.int .u64 (gtv bs at_ n), .int .i64 (plc len at_ n)]) ∧ w = w' := by
  have hL := b8_len h
  rcases plc_cases len at_ n with ⟨hz, hin, hp⟩ | hp
  · have hn : 1 ≤ n := by have := of_decide_eq_true hz; omega
    obtain ⟨k, rfl⟩ := Int.eq_ofNat_of_zero_le (show 0 ≤ n by omega)
    have e : gtv bs at_ k = getv bs at_ k := by unfold gtv; rw [hL, if_pos hp]; rfl
    rw [hp, e]
    exact rget_ok A len c at_ k B bs w h h8 hl hz (by simpa using hin)
  · have hp0 : plc len at_ n ≠ 0 := by rcases hp with ⟨h, _⟩ | ⟨h, _⟩ <;> omega
    have e : gtv bs at_ n = 0 := by unfold gtv; rw [hL, if_neg hp0]
    rw [e]
    obtain ⟨q, hq⟩ : ∃ q, q = plc len at_ n := ⟨_, rfl⟩
    rw [← hq] at hp0 ⊢
    have hne : (q != 0) = true := by simpa using hp0
    have HQ := Lib.hid hq
    clear hq hp hp0 h h8 hL e
    go_enter Try.func12, Try.ntmps12
    go_wp2_with fail
    refine (place_any A len c at_ n _ (by omega) ha).mono ?_
    rintro e w1 ⟨rfl, rfl⟩
    rw [← HQ.out]
    go_wp2_with fail
    go_ret2
    exact ⟨rfl, rfl⟩
end Go.Proofs.Ytfhkcbhbomghfaa
