import Derived.Test.YtfhkcbhbomghfaaWb
namespace Go.Proofs.Ytfhkcbhbomghfaa
set_option linter.unusedVariables false

theorem getD_set (l : List Nat) (i j x : Nat) : (l.set i x).getD j 0 = if i = j ∧ j < l.length then x else l.getD j 0 := by
  simp only [List.getD_eq_getElem?_getD, List.getElem?_set]
  by_cases h : i = j
  · subst h
    by_cases h2 : i < l.length
    · simp [h2]
    · simp [h2]
  · simp [h]
theorem setv_get (bs : List Nat) (at_ x : Nat) : ∀ k i, at_ + k ≤ bs.length → (setv bs at_ x k).getD i 0 = if at_ ≤ i ∧ i < at_ + k then x / 256 ^ (i - at_) % 256 else bs.getD i 0
  | 0, i, h => by rw [setv, if_neg (by omega)]
  | k + 1, i, h => by
    rw [setv, getD_set, setv_len, setv_get bs at_ x k i (by omega)]
    by_cases h1 : at_ + k = i
    · rw [if_pos ⟨h1, by omega⟩, if_pos (by omega), show i - at_ = k by omega]
    · rw [if_neg (by omega)]
      by_cases h2 : at_ ≤ i ∧ i < at_ + k
      · rw [if_pos h2, if_pos (by omega)]
      · rw [if_neg h2, if_neg (by omega)]
theorem setv_lt (bs : List Nat) (at_ x : Nat) (hb : ∀ b ∈ bs, b < 256) : ∀ k, ∀ b ∈ setv bs at_ x k, b < 256
  | 0 => hb
  | k + 1 => fun b h => by
    rw [setv] at h
    rcases List.mem_or_eq_of_mem_set h with h | h
    · exact setv_lt bs at_ x hb k b h
    · omega
theorem getv_setv (bs : List Nat) (at_ x k : Nat) (h : at_ + k ≤ bs.length) : ∀ m, m ≤ k → getv (setv bs at_ x k) at_ m = x % 256 ^ m
  | 0, _ => by rw [getv_zero]; simp [Nat.mod_one]
  | m + 1, hm => by
    rw [getv_succ _ _ _ (by rw [setv_len]; omega), getv_setv bs at_ x k h m (by omega), setv_get _ _ _ _ _ h, if_pos (by omega), show at_ + m - at_ = m by omega, Nat.mod_pow_succ]
theorem getv_byte (bs : List Nat) (at_ : Nat) (hb : ∀ b ∈ bs, b < 256) : ∀ k j, at_ + k ≤ bs.length → j < k → getv bs at_ k / 256 ^ j % 256 = bs.getD (at_ + j) 0
  | 0, j, _, h => by omega
  | k + 1, j, h, hj => by
    rw [getv_succ _ _ _ (by omega)]
    by_cases e : j = k
    · subst e
      rw [Nat.add_mul_div_left _ _ (Nat.pos_of_ne_zero (by simp)), Nat.div_eq_of_lt (getv_lt bs at_ j hb), Nat.zero_add]
      apply Nat.mod_eq_of_lt
      rw [List.getD_eq_getElem?_getD, List.getElem?_eq_getElem (by omega)]
      exact hb _ (List.getElem_mem _)
    · rw [← getv_byte bs at_ hb k j (by omega) (by omega)]
      obtain ⟨d, rfl⟩ : ∃ d, k = j + 1 + d := ⟨k - j - 1, by omega⟩
      rw [show 256 ^ (j + 1 + d) * bs.getD (at_ + (j + 1 + d)) 0 = 256 ^ j * (256 * (256 ^ d * bs.getD (at_ + (j + 1 + d)) 0)) by rw [Nat.pow_add, Nat.pow_succ]; simp only [Nat.mul_assoc]]
      rw [Nat.add_mul_div_left _ _ (Nat.pos_of_ne_zero (by simp)), Nat.add_mul_mod_self_left]
theorem setv_back (bs : List Nat) (at_ x k : Nat) (hb : ∀ b ∈ bs, b < 256) (h : at_ + k ≤ bs.length) : setv (setv bs at_ x k) at_ (getv bs at_ k) k = bs := by
  refine nlist_eq _ _ (by simp [setv_len]) fun j hj => ?_
  rw [setv_get _ _ _ _ _ (by rw [setv_len]; omega), setv_get _ _ _ _ _ h]
  by_cases h1 : at_ ≤ j ∧ j < at_ + k
  · rw [if_pos h1, getv_byte bs at_ hb k (j - at_) h (by omega), show at_ + (j - at_) = j by omega]
  · rw [if_neg h1, if_neg h1]
end Go.Proofs.Ytfhkcbhbomghfaa
