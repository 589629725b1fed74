import Derived.Test.YtnkmdbmepncbkaaP2
namespace Go.Proofs.Ytnkmdbmepncbkaa

/-- the bits of a class -/
def mine (k : Int) : Nat := if k = 0 then 448 else if k = 1 then 56 else 7

theorem bts_low (cl : Int) (a b : Nat) (h : a % 512 = b % 512) : bts cl a = bts cl b := by
  unfold bts
  split
  · omega
  · split <;> omega
theorem bts_mine (k : Int) (m : Nat) : bts k (m &&& mine k) = bts k m := by
  have e : (m &&& mine k) % 512 = ((m % 512) &&& (mine k)) % 512 := by
    have h1 := Nat.and_mod_two_pow (a := m) (b := mine k) (n := 9)
    have h2 := Nat.and_mod_two_pow (a := m % 512) (b := mine k) (n := 9)
    simp only [show (2 : Nat) ^ 9 = 512 from rfl] at h1 h2
    rw [h1, h2, Nat.mod_mod]
  rw [bts_low k _ _ e, bts_low k m (m % 512) (by omega)]
  have hm : m % 512 < 512 := by omega
  generalize m % 512 = j at hm ⊢
  unfold bts mine
  split
  · have : ∀ j, j < 512 → (j &&& 448) / 64 % 8 = j / 64 % 8 := by decide +kernel
    exact this j hm
  · split
    · have : ∀ j, j < 512 → (j &&& 56) / 8 % 8 = j / 8 % 8 := by decide +kernel
      exact this j hm
    · have : ∀ j, j < 512 → (j &&& 7) % 8 = j % 8 := by decide +kernel
      exact this j hm
theorem bts_other (k : Int) (m : Nat) : bts k (m &&& (65535 - mine k)) = 0 := by
  have e : (m &&& (65535 - mine k)) % 512 = ((m % 512) &&& ((65535 - mine k) % 512)) % 512 := by
    have h1 := Nat.and_mod_two_pow (a := m) (b := 65535 - mine k) (n := 9)
    have h2 := Nat.and_mod_two_pow (a := m % 512) (b := (65535 - mine k) % 512) (n := 9)
    simp only [show (2 : Nat) ^ 9 = 512 from rfl] at h1 h2
    rw [h1, h2, Nat.mod_mod, Nat.mod_mod]
  rw [bts_low k _ _ e]
  have hm : m % 512 < 512 := by omega
  generalize m % 512 = j at hm ⊢
  unfold bts mine
  split
  · have : ∀ j, j < 512 → (j &&& ((65535 - 448) % 512)) / 64 % 8 = 0 := by decide +kernel
    exact this j hm
  · split
    · have : ∀ j, j < 512 → (j &&& ((65535 - 56) % 512)) / 8 % 8 = 0 := by decide +kernel
      exact this j hm
    · have : ∀ j, j < 512 → (j &&& ((65535 - 7) % 512)) % 8 = 0 := by decide +kernel
      exact this j hm

theorem may_root (dir : Bool) (b : Nat) (x : Bool) (q : Nat) (h : q < 8) (h2 : q % 2 = 0) : mayB true dir b x q = true := by
  have : ¬ 7 < q := by omega
  simp [mayB, this, h2]
theorem may_same (dir dir' : Bool) (b : Nat) (x x' : Bool) (q : Nat) : mayB false dir b x q = mayB false dir' b x' q := by simp [mayB]
theorem may_none (dir : Bool) (x : Bool) (q : Nat) : mayB false dir 0 x q = (q == 0) := by
  unfold mayB
  by_cases h : 7 < q
  · have : q ≠ 0 := by omega
    simp [h, this]
  · have e : (q == 0) = (0 == q) := by rw [Bool.eq_iff_iff]; simp only [beq_iff_eq]; omega
    simp [h, e]
theorem u8_and6 (q : Nat) (h : q < 8) : bits .and .u8 (q : Int) 6 = ((q / 2 * 2 : Nat) : Int) := by
  have e := u8_and_nat q 6 (by omega) (by omega)
  rw [show bits .and .u8 (q : Int) 6 = _ from e]
  have : ∀ q, q < 8 → q &&& 6 = q / 2 * 2 := by decide +kernel
  rw [this q h]
end Go.Proofs.Ytnkmdbmepncbkaa
