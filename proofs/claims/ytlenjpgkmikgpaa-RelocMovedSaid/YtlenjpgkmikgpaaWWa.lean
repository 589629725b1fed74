import Derived.Test.YtlenjpgkmikgpaaWW9
namespace Go.Proofs.Ytlenjpgkmikgpaa.Wrd
open Go.RowKit Go.Hos
set_option linter.unusedVariables false

/-- Set's answer -/
def stv (bs : List Nat) (at_ : Nat) (n : Int) (x : Nat) : List Nat := if plc bs.length at_ n = 0 then setv bs at_ x n.toNat else []
theorem stv_yes {bs : List Nat} {at_ : Nat} {n : Int} {x : Nat} (h : plc bs.length at_ n = 0) : stv bs at_ n x = setv bs at_ x n.toNat := by rw [stv, if_pos h]
theorem stv_no {bs : List Nat} {at_ : Nat} {n : Int} {x : Nat} (h : plc bs.length at_ n ≠ 0) : stv bs at_ n x = [] := by rw [stv, if_neg h]

set_option maxHeartbeats 800000 in
theorem set_any (A : Option Addr) (len c at_ x B : Nat) (n : Int) (bs : List Nat) (w : World) (h : Reads w B 1 A len (B8 bs)) (hB : B ≤ w.heap.size) (hl : len ≤ 140737488355328) (ha : at_ < M) (hx : x < M) :
    Calls Try.prog 23 #[.slice A len c, .int .u64 at_, .int .i64 n, .int .u64 x] w fun e w' => ∃ A' c', e = .returned (.tuple #[.slice A' (stv bs at_ n x).length c', .int .i64 (plc len at_ n)]) ∧
      w'.ownsRow w.heap.size 5 1 (.slice A' (stv bs at_ n x).length c') (stv bs at_ n x).length (B8 (stv bs at_ n x)) ∧ Below w.heap.size w w' := by
  have hL := b8_len h
  rcases plc_cases len at_ n with ⟨hz, hin, hp⟩ | hp
  · have hn : 1 ≤ n := by have := of_decide_eq_true hz; omega
    obtain ⟨k, rfl⟩ := Int.eq_ofNat_of_zero_le (show 0 ≤ n by omega)
    have e : stv bs at_ k x = setv bs at_ x k := stv_yes (by rw [hL]; exact hp)
    rw [hp, e]
    refine (set_ok A len c at_ k x B bs w h hB hl hz (by simpa using hin) hx).mono ?_
    rintro e w' ⟨v, rfl, ho, hb⟩
    obtain ⟨A', c', rfl⟩ := ownsRow_val ho
    rw [setv_len, hL]
    exact ⟨A', c', rfl, ho, hb⟩
  · have hp0 : plc len at_ n ≠ 0 := by rcases hp with ⟨h, _⟩ | ⟨h, _⟩ <;> omega
    rw [stv_no (by rw [hL]; exact hp0)]
    obtain ⟨q, hq⟩ : ∃ q, q = plc len at_ n := ⟨_, rfl⟩
    rw [← hq] at hp0 ⊢
    have hne : (q != 0) = true := by simpa using hp0
    have HQ := Lib.hid hq
    clear hq hp hp0 h hL
    go_enter Try.func23, Try.ntmps23
    go_wp2_with fail
    refine (check_any A len c at_ n _ (by omega) ha).mono ?_
    rintro e w1 ⟨rfl, hb1⟩
    rw [← HQ.out]
    have HB := Lib.hid hb1
    clear hb1
    go_wp2_with fail
    go_ret2
    exact ⟨none, 0, rfl, World.ownsRow_nil _ _ _ _, HB.out⟩
end Go.Proofs.Ytlenjpgkmikgpaa.Wrd
