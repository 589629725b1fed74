/-
  The lowest bit of a word: plain arithmetic.
-/
namespace Go.Hos
theorem mod_two_pow_zero (x k : Nat) (h : ∀ j, j < k → x.testBit j = false) : x % 2 ^ k = 0 := by
  apply Nat.eq_of_testBit_eq
  intro i
  rw [Nat.testBit_mod_two_pow, Nat.zero_testBit]
  by_cases hi : i < k
  · simp [hi, h i hi]
  · simp [hi]
/-- x & -x is x's lowest bit alone -/
theorem low_bit (x k : Nat) (hx : x < 18446744073709551616) (hk : x.testBit k = true) (h : ∀ j, j < k → x.testBit j = false) : x &&& (18446744073709551616 - x) = 2 ^ k := by
  have hm := mod_two_pow_zero x k h
  have hp : 0 < 2 ^ k := Nat.two_pow_pos k
  have hx0 : 0 < x := by
    rcases Nat.eq_zero_or_pos x with e | e
    · subst e; simp at hk
    · exact e
  obtain ⟨q, hq⟩ : ∃ q, x = 2 ^ k * q := ⟨x / 2 ^ k, by rw [Nat.mul_div_cancel' (Nat.dvd_of_mod_eq_zero hm)]⟩
  have hq1 : q % 2 = 1 := by
    have h1 : (x / 2 ^ k).testBit 0 = true := by rw [Nat.testBit_div_two_pow]; simpa using hk
    rw [hq, Nat.mul_div_cancel_left _ hp] at h1
    simpa [Nat.testBit_zero] using h1
  have hq0 : 0 < q := by omega
  have hy : (x - 1) / 2 ^ k = q - 1 := by
    obtain ⟨r, rfl⟩ : ∃ r, q = r + 1 := ⟨q - 1, by omega⟩
    rw [hq, Nat.mul_succ, Nat.add_sub_assoc hp, Nat.mul_add_div hp, Nat.div_eq_of_lt (by omega)]
    simp
  have e : 18446744073709551616 - x = 2 ^ 64 - ((x - 1) + 1) := by omega
  apply Nat.eq_of_testBit_eq
  intro i
  rw [Nat.testBit_and, e, Nat.testBit_two_pow_sub_succ (by omega), Nat.testBit_two_pow]
  by_cases hik : i < k
  · rw [h i hik]; simp; omega
  · obtain ⟨d, rfl⟩ : ∃ d, i = d + k := ⟨i - k, by omega⟩
    have b1 : x.testBit (d + k) = q.testBit d := by rw [← Nat.testBit_div_two_pow, hq, Nat.mul_div_cancel_left _ hp]
    have b2 : (x - 1).testBit (d + k) = (q - 1).testBit d := by rw [← Nat.testBit_div_two_pow, hy]
    rw [b1, b2]
    cases d with
    | zero =>
      have hk64 : k < 64 := by
        rcases Nat.lt_or_ge k 64 with hlt | hge
        · exact hlt
        · have : x.testBit k = false := Nat.testBit_lt_two_pow (Nat.lt_of_lt_of_le hx (by have := Nat.pow_le_pow_right (show 0 < 2 by omega) hge; omega))
          rw [this] at hk; cases hk
      simp [Nat.testBit_zero, hq1]
      omega
    | succ d =>
      have : (q - 1) / 2 = q / 2 := by omega
      rw [Nat.testBit_succ, Nat.testBit_succ, this]
      simp
      exact fun a _ => a
theorem lt_64 {x k : Nat} (hx : x < 18446744073709551616) (hk : x.testBit k = true) : k < 64 := by
  rcases Nat.lt_or_ge k 64 with hlt | hge
  · exact hlt
  · have : x.testBit k = false := Nat.testBit_lt_two_pow (Nat.lt_of_lt_of_le hx (by have := Nat.pow_le_pow_right (show 0 < 2 by omega) hge; omega))
    rw [this] at hk; cases hk
/-- the library's table -/
def dbt : List Nat := [0, 1, 56, 2, 57, 49, 28, 3, 61, 58, 42, 50, 38, 29, 17, 4, 62, 47, 59, 36, 45, 43, 51, 22, 53, 39, 33, 30, 24, 18, 12, 5, 63, 55, 48, 27, 60, 41, 37, 16, 46, 35, 44, 21, 52, 32, 23, 11, 54, 26, 40, 15, 34, 20, 31, 10, 25, 14, 19, 9, 13, 8, 7, 6]
theorem dbt_at : ∀ k : Fin 64, 2 ^ k.val * 285870213051353865 % 18446744073709551616 / 288230376151711744 < 64 ∧ dbt[2 ^ k.val * 285870213051353865 % 18446744073709551616 / 288230376151711744]? = some k.val := by decide
end Go.Hos
