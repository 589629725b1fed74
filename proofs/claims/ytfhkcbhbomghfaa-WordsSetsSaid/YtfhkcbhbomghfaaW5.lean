import Derived.Test.YtfhkcbhbomghfaaW4
import Derived.Test.YtfhkcbhbomghfaaP1
namespace Go.Proofs.Ytfhkcbhbomghfaa
open Go.RowKit Go.Hos
set_option linter.unusedVariables false

/-- bytes as cells -/
def B8 (bs : List Nat) : List Value := bs.map fun (x : Nat) => Value.int .u8 (x : Int)
theorem b8_get {w : World} {B n : Nat} {A : Option Addr} {bs : List Nat} (h : Reads w B 1 A n (B8 bs)) {k : Nat} (hk : k < n) :
    ∃ ad x, A = some ad ∧ ad.block < B ∧ w.cell? (ad.add k) = some (.int .u8 ((x : Nat) : Int)) ∧ Hid (bs.getD k 0 = x ∧ x ∈ bs) := by
  obtain ⟨ad, u, e, hb, hx, hc⟩ := h.at_ hk
  have hl : k < bs.length := by have := h.1; simp [B8] at this; omega
  refine ⟨ad, bs[k], e, hb, ?_, ?_, List.getElem_mem _⟩
  · rw [hc]
    unfold B8 at hx
    rw [List.getElem?_map, List.getElem?_eq_getElem hl] at hx
    simp at hx
    rw [← hx]
  · rw [List.getD_eq_getElem?_getD, List.getElem?_eq_getElem hl]; rfl
theorem b8_len {w : World} {B n : Nat} {A : Option Addr} {bs : List Nat} (h : Reads w B 1 A n (B8 bs)) : bs.length = n := by
  have := h.1; simp [B8] at this; exact this
theorem b8_one (bs : List Nat) : ∀ u ∈ B8 bs, u.oneCell' = true := by
  intro u hu; obtain ⟨x, _, rfl⟩ := List.mem_map.1 hu; rfl

set_option maxHeartbeats 800000 in
theorem get_ok (A : Option Addr) (len c at_ n B : Nat) (bs : List Nat) (w : World) (h : Reads w B 1 A len (B8 bs)) (hB : B ≤ w.heap.size) (h8 : ∀ x ∈ bs, x < 256) (hl : len ≤ 281474976710656) (hz : szB n = true) (hin : at_ + n ≤ len) :
    Calls Try.prog 11 #[.slice A len c, .int .u64 at_, .int .i64 n] w fun e w' => e = .returned (.tuple #[.int .u64 (getv bs at_ n), .int .i64 0]) ∧ Below w.heap.size w w' := by
  have hn8 : 1 ≤ n ∧ n ≤ 8 := by have := of_decide_eq_true hz; omega
  have H := Lib.hid h
  have HZ := Lib.hid hz
  have H8 := Lib.hid h8
  have HL := b8_len h
  have HLL := Lib.hid HL
  clear h hz h8 HL
  go_enter Try.func11, Try.ntmps11
  go_wp2_with fail
  refine (check_any A len c at_ n _ (by omega) (by unfold M; omega)).mono ?_
  rintro e w1 ⟨rfl, hb1⟩
  rw [plc_yes HZ.out (by simpa using hin)]
  have HB : Hid (Below w.heap.size w w1) := hb1
  have H1 : Hid (Reads w1 B 1 A len (B8 bs)) := H.out.below (hb1.mono hB)
  clear hb1
  go_wp2_with fail
  go_loop [6, 18] (fun x i => ∃ k : Nat, k ≤ n ∧ i = .int .i64 k ∧ ∃ X : Nat, x = .int .u64 X ∧ Hid (X = getv bs at_ k)) (fun _ i => n - (intOf i).toNat)
  case atStart => exact ⟨0, by omega, rfl, 0, rfl, (getv_zero _ _).symm⟩
  case round =>
    obtain ⟨k, hk, rfl, X, rfl, hX⟩ := hrel
    by_cases hlt : k < n
    · obtain ⟨ad, x, rfl, hbl, hc, hx⟩ := b8_get H1.out (k := at_ + k) (by omega)
      have x256 : x < 256 := H8.out x hx.out.2
      have k8 : k < 8 := by omega
      have X256 : X < 256 ^ k := by rw [hX.out]; exact getv_lt bs at_ k H8.out
      have w1 : IntKind.u64.wrap (x : Int) = (x : Int) := by rw [IntKind.wrap_u64]; omega
      have w2 := shl_byte x k x256 k8
      have w3 := or_byte X x k X256 x256 k8
      obtain ⟨y, hy⟩ : ∃ y, y = x * 2 ^ (8 * k) := ⟨_, rfl⟩
      rw [← hy] at w2 w3
      obtain ⟨Z, hZ⟩ : ∃ Z, Z = X + 256 ^ k * x := ⟨_, rfl⟩
      rw [← hZ] at w3
      have HZ2 : Hid (Z = getv bs at_ (k + 1)) := by
        show Z = _
        rw [getv_succ bs at_ k (by have := HLL.out; omega), hx.out.1, ← hX.out, hZ]
      clear hy hZ X256
      go_wp2_with fail
      go_round
      case rel => exact ⟨k + 1, by omega, by go_num, Z, rfl, HZ2⟩
      case measure => simp [intOf]; omega
    · have hkn : k = n := by omega
      have HKN := Lib.hid hkn
      clear hkn
      go_wp2_with fail
      go_ret2
      exact ⟨by rw [← HKN.out, ← hX.out]; rfl, HB.out⟩

/-- Get's answer -/
def gtv (bs : List Nat) (at_ : Nat) (n : Int) : Nat := if plc bs.length at_ n = 0 then getv bs at_ n.toNat else 0
theorem plc_cases (len at_ : Nat) (n : Int) : (szB n = true ∧ at_ + n.toNat ≤ len ∧ plc len at_ n = 0) ∨ (plc len at_ n = 24 ∧ szB n = true) ∨ (plc len at_ n = 1 ∧ szB n = false) := by
  cases hz : szB n
  · exact .inr (.inr ⟨plc_arg hz, rfl⟩)
  · by_cases h : at_ + n.toNat ≤ len
    · exact .inl ⟨rfl, h, plc_yes hz h⟩
    · exact .inr (.inl ⟨plc_short hz h, rfl⟩)

set_option maxHeartbeats 800000 in
theorem get_any (A : Option Addr) (len c at_ B : Nat) (n : Int) (bs : List Nat) (w : World) (h : Reads w B 1 A len (B8 bs)) (hB : B ≤ w.heap.size) (h8 : ∀ x ∈ bs, x < 256) (hl : len ≤ 281474976710656) (ha : at_ < M) :
    Calls Try.prog 11 #[.slice A len c, .int .u64 at_, .int .i64 n] w fun e w' => e = .returned (.tuple #[.int .u64 (gtv bs at_ n), .int .i64 (plc len at_ n)]) ∧ Below w.heap.size w w' := by
  have hL := b8_len h
  rcases plc_cases len at_ n with ⟨hz, hin, hp⟩ | hp
  · have hn : 1 ≤ n := by have := of_decide_eq_true hz; omega
    obtain ⟨k, rfl⟩ := Int.eq_ofNat_of_zero_le (show 0 ≤ n by omega)
    have e : gtv bs at_ k = getv bs at_ k := by unfold gtv; rw [hL, if_pos hp]; rfl
    rw [hp, e]
    exact get_ok A len c at_ k B bs w h hB h8 hl hz (by simpa using hin)
  · have hp0 : plc len at_ n ≠ 0 := by rcases hp with ⟨h, _⟩ | ⟨h, _⟩ <;> omega
    have e : gtv bs at_ n = 0 := by unfold gtv; rw [hL, if_neg hp0]
    rw [e]
    obtain ⟨q, hq⟩ : ∃ q, q = plc len at_ n := ⟨_, rfl⟩
    rw [← hq] at hp0 ⊢
    have hne : (q != 0) = true := by simpa using hp0
    have HQ := Lib.hid hq
    clear hq hp hp0 h h8 hL e
    go_enter Try.func11, Try.ntmps11
    go_wp2_with fail
    refine (check_any A len c at_ n _ (by omega) ha).mono ?_
    rintro e w1 ⟨rfl, hb1⟩
    rw [← HQ.out]
    have HB := Lib.hid hb1
    clear hb1
    go_wp2_with fail
    go_ret2
    exact ⟨rfl, HB.out⟩
end Go.Proofs.Ytfhkcbhbomghfaa
