import Derived.Test.YtfhkcbhbomghfaaWf
namespace Go.Proofs.Ytfhkcbhbomghfaa
open Go.RowKit Go.Hos
set_option linter.unusedVariables false

set_option maxHeartbeats 800000 in
theorem marked_any (A : Option Addr) (n c m B : Nat) (bs : List Nat) (w : World) (h : Reads w B 1 A (n + 40) (B8 (bs ++ List.replicate 40 m))) (hb : bs.length = n) (hn : n ≤ 70368744177664) :
    Calls Try.prog 33 #[.slice A (n + 40 : Nat) c, .int .u8 m] w fun e w' => e = .returned (.int .i64 40) ∧ Below w.heap.size w w' := by
  obtain ⟨L, hL⟩ : ∃ L, L = n + 40 := ⟨_, rfl⟩
  rw [← hL] at h ⊢
  have H := Lib.hid h
  have HL := Lib.hid hL
  have HB := Lib.hid hb
  have hLb : L ≤ 70368744177704 := by omega
  have hL1 : 1 ≤ L := by omega
  clear h hL hb
  go_enter Try.func33, Try.ntmps33
  go_wp2_with fail
  go_loopw [5, 6] (fun s l wr => ∃ (k p : Nat), k ≤ 40 ∧ p + k = L ∧ s = .int .i64 (k : Int) ∧ l = .int .i64 ((p : Int) - 1) ∧ wr = w) (fun s _ _ => 40 - (intOf s).toNat)
  case atStart => exact ⟨0, L, Nat.zero_le _, rfl, rfl, rfl, rfl⟩
  case round =>
    obtain ⟨k, p, hk, hp, rfl, rfl, rfl⟩ := hrel
    by_cases hk4 : k < 40
    · obtain ⟨q, rfl⟩ : ∃ q, p = q + 1 := ⟨p - 1, by have := HL.out; omega⟩
      rw [show ((q + 1 : Nat) : Int) - 1 = (q : Int) by omega]
      obtain ⟨ad, x, rfl, hbl, hc, hx⟩ := b8_get H.out (k := q) (by omega)
      have hxm : x = m := by
        rw [← hx.out.1, List.getD_eq_getElem?_getD, List.getElem?_append_right (by have := HB.out; have := HL.out; omega), List.getElem?_replicate, if_pos (by have := HB.out; have := HL.out; omega)]
        rfl
      subst hxm
      have hqL : q < L := by omega
      have HP := Lib.hid hp
      clear hp hx
      go_wp2_with fail
      go_roundw
      case rel => exact ⟨k + 1, q, by omega, by have := HP.out; omega, by go_num, by go_num, trivial⟩
      case measure => simp [intOf]; omega
    · obtain rfl : k = 40 := by omega
      have e40 : ((40 : Nat) : Int) = 40 := rfl
      rcases p with _ | q
      · have e0 : ((0 : Nat) : Int) - 1 = -1 := rfl
        clear hp
        go_wp2_with fail
        go_ret
        exact ⟨rfl, Below.refl _ _⟩
      · rw [show ((q + 1 : Nat) : Int) - 1 = (q : Int) by omega]
        clear hp
        go_wp2_with fail
        go_ret
        exact ⟨rfl, Below.refl _ _⟩
end Go.Proofs.Ytfhkcbhbomghfaa
