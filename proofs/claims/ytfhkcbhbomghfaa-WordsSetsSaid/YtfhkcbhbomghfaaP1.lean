import Derived.Laws.BitsAllLaws
import Derived.Laws.BitsLemmas
namespace Go.Proofs.Ytfhkcbhbomghfaa
set_option linter.unusedVariables false

/-- the number that bytes say, the lowest first -/
def le : List Nat → Nat
  | [] => 0
  | b :: r => b + 256 * le r
theorem le_append (a b : List Nat) : le (a ++ b) = le a + 256 ^ a.length * le b := by
  induction a with
  | nil => simp [le]
  | cons x r ih => simp only [List.cons_append, le, ih, List.length_cons, Nat.pow_succ]; rw [Nat.mul_add, Nat.add_assoc, ← Nat.mul_assoc, Nat.mul_comm 256 (256 ^ r.length)]
theorem le_lt (a : List Nat) (h : ∀ x ∈ a, x < 256) : le a < 256 ^ a.length := by
  induction a with
  | nil => simp [le]
  | cons x r ih =>
    have h1 := ih (fun y hy => h y (List.mem_cons_of_mem _ hy))
    have h2 := h x (List.mem_cons_self)
    simp only [le, List.length_cons, Nat.pow_succ]
    omega
/-- the number of so many bytes at a place -/
def getv (bs : List Nat) (at_ n : Nat) : Nat := le ((bs.drop at_).take n)
theorem getv_zero (bs : List Nat) (at_ : Nat) : getv bs at_ 0 = 0 := by simp [getv, le]
theorem getv_succ (bs : List Nat) (at_ k : Nat) (h : at_ + k < bs.length) : getv bs at_ (k + 1) = getv bs at_ k + 256 ^ k * bs.getD (at_ + k) 0 := by
  unfold getv
  rw [List.take_succ_eq_append_getElem (by simp; omega), le_append]
  simp only [List.length_take, List.length_drop, List.getElem_drop, le, Nat.mul_zero, Nat.add_zero]
  rw [Nat.min_eq_left (by omega), List.getD_eq_getElem?_getD, List.getElem?_eq_getElem h]
  rfl
theorem getv_lt (bs : List Nat) (at_ k : Nat) (hb : ∀ x ∈ bs, x < 256) : getv bs at_ k < 256 ^ k := by
  unfold getv
  have h := le_lt ((bs.drop at_).take k) (fun x hx => hb x (List.mem_of_mem_drop (List.mem_of_mem_take hx)))
  exact Nat.lt_of_lt_of_le h (Nat.pow_le_pow_right (by omega) (by simp; omega))
/-- one more byte laid on top -/
theorem or_byte (X x k : Nat) (hX : X < 256 ^ k) (hx : x < 256) (hk : k < 8) :
    bits .or .u64 (X : Int) (((x * 2 ^ (8 * k) : Nat)) : Int) = ((X + 256 ^ k * x : Nat) : Int) := by
  have e : 256 ^ k = 2 ^ (8 * k) := by rw [show 256 = 2 ^ 8 from rfl, ← Nat.pow_mul]
  have hp : 2 ^ (8 * k) ≤ 2 ^ 56 := Nat.pow_le_pow_right (by omega) (by omega)
  have h1 : X < 18446744073709551616 := by rw [e] at hX; omega
  have h2 : x * 2 ^ (8 * k) < 18446744073709551616 := by
    have : x * 2 ^ (8 * k) ≤ 255 * 2 ^ 56 := Nat.mul_le_mul (by omega) hp
    omega
  rw [u64_or_nat X _ h1 h2]
  congr 1
  rw [Nat.or_comm, nat_join (8 * k) (x * 2 ^ (8 * k)) X (by simp) (by rw [← e]; exact hX), e, Nat.mul_comm x, Nat.add_comm]
theorem shl_byte (x k : Nat) (hx : x < 256) (hk : k < 8) : IntKind.u64.wrap ((x : Int) * 2 ^ (8 * k)) = ((x * 2 ^ (8 * k) : Nat) : Int) := by
  have hp : 2 ^ (8 * k) ≤ 2 ^ 56 := Nat.pow_le_pow_right (by omega) (by omega)
  have h2 : x * 2 ^ (8 * k) < 18446744073709551616 := by
    have : x * 2 ^ (8 * k) ≤ 255 * 2 ^ 56 := Nat.mul_le_mul (by omega) hp
    omega
  have e : (x : Int) * 2 ^ (8 * k) = ((x * 2 ^ (8 * k) : Nat) : Int) := by
    rw [Int.natCast_mul, Int.natCast_pow]; rfl
  rw [e, IntKind.wrap_u64]
  omega
end Go.Proofs.Ytfhkcbhbomghfaa
