import Derived.Laws.BitsAllLaws
import Derived.Laws.BitsLemmas
namespace Go.Proofs.Ytnkmdbmepncbkaa

def anyX (m : Nat) : Bool := m % 2 == 1 || m / 8 % 2 == 1 || m / 64 % 2 == 1
def bts (cl : Int) (m : Nat) : Nat := if cl = 0 then m / 64 % 8 else if cl = 1 then m / 8 % 8 else m % 8
def mayB (root dir : Bool) (b : Nat) (x : Bool) (want : Nat) : Bool :=
  if 7 < want then false else if root then (want % 2 == 0 || dir || x) else (b &&& want) == want

theorem u16_and7 (m : Nat) (h : m < 65536) : bits .and .u16 (m : Int) 7 = ((m % 8 : Nat) : Int) := by
  have := u16_and_nat m 7 h (by omega)
  rw [nat_mask3] at this; exact this
theorem u8_and7' (m : Nat) (h : m < 256) : bits .and .u8 (m : Int) 7 = ((m % 8 : Nat) : Int) := by
  have := u8_and_nat m 7 h (by omega)
  rw [nat_mask3] at this; exact this
theorem u8_and1 (m : Nat) (h : m < 256) : bits .and .u8 (m : Int) 1 = ((m % 2 : Nat) : Int) := by
  have := u8_and_nat m 1 h (by omega)
  rw [nat_mask1] at this; exact this
theorem andnot_eq (a b : Nat) (ha : a < 8) (hb : b < 8) : (bits .andNot .u16 (a : Int) (b : Int) == 0) = ((b &&& a) == a) := by
  rw [u16_andNot_nat a b (by omega) (by omega)]
  have : ∀ a, a < 8 → ∀ b, b < 8 → (((a &&& (65535 - b) : Nat) : Int) == 0) = ((b &&& a) == a) := by decide +kernel
  exact this a ha b hb
theorem or3 (x y z : Nat) (hx : x < 8) (hy : y < 8) (hz : z < 8) :
    (bits .and .u16 (bits .or .u16 (bits .or .u16 (x : Int) (y : Int)) (z : Int)) 1 != 0) = (z % 2 == 1 || y % 2 == 1 || x % 2 == 1) := by
  have h1 : x ||| y < 8 := by have : ∀ x, x < 8 → ∀ y, y < 8 → x ||| y < 8 := by decide +kernel
                              exact this x hx y hy
  have h2 : x ||| y ||| z < 8 := by have : ∀ x, x < 8 → ∀ y, y < 8 → x ||| y < 8 := by decide +kernel
                                    exact this _ h1 z hz
  rw [u16_or_nat x y (by omega) (by omega), u16_or_nat _ z (by omega) (by omega)]
  have e := u16_and_nat (x ||| y ||| z) 1 (by omega) (by omega)
  rw [show bits .and .u16 ((x ||| y ||| z : Nat) : Int) 1 = _ from e]
  have : ∀ x, x < 8 → ∀ y, y < 8 → ∀ z, z < 8 → ((((x ||| y ||| z) &&& 1 : Nat) : Int) != 0) = (z % 2 == 1 || y % 2 == 1 || x % 2 == 1) := by decide +kernel
  exact this x hx y hy z hz
theorem anyX_and (m : Nat) (h : m < 65536) : (bits .and .u16 (m : Int) 73 != 0) = anyX m := by
  have e := u16_and_nat m 73 h (by omega)
  rw [show bits .and .u16 (m : Int) 73 = _ from e]
  have e1 : m &&& 73 = (m % 512) &&& 73 := by
    have : m % 512 = m &&& 511 := (Nat.and_two_pow_sub_one_eq_mod m 9).symm
    rw [this, Nat.and_assoc]; rfl
  have e2 : anyX m = anyX (m % 512) := by
    unfold anyX
    rw [show m % 512 % 2 = m % 2 by omega, show m % 512 / 8 % 2 = m / 8 % 2 by omega, show m % 512 / 64 % 2 = m / 64 % 2 by omega]
  rw [e1, e2]
  have : ∀ k, k < 512 → (((k &&& 73 : Nat) : Int) != 0) = anyX k := by decide +kernel
  exact this _ (by omega)
theorem and_lt8 (a b : Nat) (hb : b < 8) : a &&& b < 8 := Nat.lt_of_le_of_lt Nat.and_le_right hb
end Go.Proofs.Ytnkmdbmepncbkaa
