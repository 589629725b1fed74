import Derived.Test.YtfhkcbhbomghfaaWb
namespace Go.Proofs.Ytfhkcbhbomghfaa
open Go.RowKit Go.Hos
set_option linter.unusedVariables false

theorem reads_take {w : World} {B : Nat} {A : Option Addr} {n m : Nat} {xs ys : List Nat} (h : Reads w B 1 A (n + m) (B8 (xs ++ ys))) (hx : xs.length = n) : Reads w B 1 A n (B8 xs) := by
  refine ⟨by simp [B8, hx], fun hn => ?_⟩
  obtain ⟨ad, e, hb, hc⟩ := h.2 (by omega)
  refine ⟨ad, e, hb, fun j u hu => hc j u ?_⟩
  have hj : j < (B8 xs).length := (List.getElem?_eq_some_iff.1 hu).1
  rw [show B8 (xs ++ ys) = B8 xs ++ B8 ys by simp [B8], List.getElem?_append_left hj]; exact hu

set_option maxHeartbeats 800000 in
theorem kept_any (g : Nat) (A' : Option Addr) (n n' c' : Nat) (cs bs : List Nat) (B B' : Nat) (w : World) (h : Reads w B 1 (some ⟨g, 0, none⟩) (n + 7) (B8 (cs ++ sp))) (h' : Reads w B' 1 A' n' (B8 bs))
    (hn : n ≤ 70368744177664) (hn' : n' ≤ 70368744177664) (hc : cs.length = n) (hg : g < w.heap.size) :
    Calls Try.prog 13 #[.slice (some ⟨g, 0, none⟩) n (n + 7 : Nat), .slice A' n' c'] w fun e w' => e = .returned (.bool (decide (cs = bs))) ∧ Below w.heap.size w w' := by
  have HR : Hid (Reads w B 1 (some ⟨g, 0, none⟩) n (B8 cs)) := reads_take h hc
  obtain ⟨n7, h7⟩ : ∃ n7, n7 = n + 7 := ⟨_, rfl⟩
  have h7i : (n : Int) + 7 = (n7 : Int) := by omega
  have hsl : n ≤ n7 := by omega
  rw [← h7] at h ⊢
  have H := Lib.hid h
  have H' := Lib.hid h'
  have H7 := Lib.hid h7
  have HC := Lib.hid hc
  have hn7 : n7 ≤ 70368744177671 := by omega
  clear h h' h7 hc
  go_enter Try.func13, Try.ntmps13
  go_wp2_with fail
  go_loopw [7, 8] (fun l i wr => ∃ k : Nat, k ≤ 7 ∧ l = .int .i64 ((7 - k : Nat) : Int) ∧ i = .int .i64 ((n + k : Nat) : Int) ∧ wr = w) (fun _ i _ => n7 - (intOf i).toNat)
  case atStart => exact ⟨0, Nat.zero_le _, rfl, rfl, rfl⟩
  case round =>
    obtain ⟨k, hk, rfl, rfl, rfl⟩ := hrel
    obtain ⟨at_, hat⟩ : ∃ a, a = n + k := ⟨_, rfl⟩
    rw [← hat]
    obtain ⟨l, hl⟩ : ∃ a, a = 7 - k := ⟨_, rfl⟩
    rw [← hl]
    have haM : at_ ≤ 70368744177671 := by omega
    by_cases h1 : k < 7
    · have hlt : at_ < n7 := by have := H7.out; omega
      obtain ⟨ad, x, had, hb, hcell, hx⟩ := b8_get H.out (k := at_) (by omega)
      obtain rfl : ad = ⟨g, 0, none⟩ := by injection had with h; exact h.symm
      have hcell2 : wr.cell? ⟨g, at_, none⟩ = some (.int .u8 (x : Int)) := by
        rw [← hcell]; unfold Addr.add; split
        · next e => rw [e]
        · simp
      have hx2 := hx.out.1
      rw [List.getD_eq_getElem?_getD, List.getElem?_append_right (by have := HC.out; omega), show at_ - cs.length = k by have := HC.out; omega, ← List.getD_eq_getElem?_getD, sp_get h1] at hx2
      have hcv : IntKind.u8.wrap (99 - ((at_ : Int) - (n : Int))) = (x : Int) := by rw [IntKind.wrap_u8]; omega
      have hl1 : 1 ≤ l := by omega
      have hl7 : l ≤ 7 := by omega
      have HL := Lib.hid hl
      have HAT := Lib.hid hat
      clear hat hl hx2 hx hcell had
      go_wp2_with fail
      go_roundw
      case rel => exact ⟨k + 1, by omega, by have := HL.out; go_num, by have := HAT.out; go_num, trivial⟩
      case measure => simp [intOf]; omega
    · have hge : ¬ at_ < n7 := by have := H7.out; omega
      have hl0 : l = 0 := by omega
      subst hl0
      have h10 : ((0 : Nat) : Int) = 0 := rfl
      clear hl
      go_wp2_with fail
      refine (eq_any _ _ _ _ _ _ cs bs B B' _ HR.out H'.out (by omega) (by omega)).mono ?_
      rintro e w1 ⟨rfl, hb⟩
      have HB : Hid (Below wr.heap.size wr w1) := hb
      clear hb
      go_wp2_with fail
      go_ret
      exact ⟨rfl, HB.out⟩
end Go.Proofs.Ytfhkcbhbomghfaa
