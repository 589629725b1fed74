import Derived.Test.YtnkmdbmepncbkaaP1
namespace Go.Proofs.Ytnkmdbmepncbkaa

/-- of the first k bits, those that are wanted are permitted -/
def allB (root dir : Bool) (b : Nat) (x : Bool) (want k : Nat) : Bool := (List.range k).all fun i => want / 2 ^ i % 2 == 0 || mayB root dir b x (2 ^ i)

theorem allB_succ (root dir : Bool) (b : Nat) (x : Bool) (want k : Nat) : allB root dir b x want (k + 1) = (allB root dir b x want k && (want / 2 ^ k % 2 == 0 || mayB root dir b x (2 ^ k))) := by
  unfold allB
  rw [List.range_succ, List.all_append]
  simp

theorem bits_law (root dir : Bool) (b : Nat) (x : Bool) (want : Nat) (hb : b < 8) : mayB root dir b x want = (decide (want < 8) && allB root dir b x want 3) := by
  by_cases h : want < 8
  · have : ∀ root dir x : Bool, ∀ b, b < 8 → ∀ want, want < 8 → mayB root dir b x want = (decide (want < 8) && allB root dir b x want 3) := by decide +kernel
    exact this root dir x b hb want h
  · have h2 : 7 < want := by omega
    simp [mayB, h, h2]

theorem bts_lt (cl : Int) (m : Nat) : bts cl m < 8 := by
  unfold bts; split
  · omega
  · split <;> omega

theorem u8_bit (want k : Nat) (h : want < 256) (hk : k < 8) : (bits .and .u8 (want : Int) ((2 ^ k : Nat) : Int) != 0) = (want / 2 ^ k % 2 == 1) := by
  have h2 : 2 ^ k < 256 := by
    have : ∀ k, k < 8 → 2 ^ k < 256 := by decide
    exact this k hk
  rw [u8_and_nat want (2 ^ k) h h2, nat_bit k want, Bool.eq_iff_iff]
  simp only [bne_iff_ne, beq_iff_eq]
  have hp : 0 < 2 ^ k := Nat.two_pow_pos k
  rcases Nat.mod_two_eq_zero_or_one (want / 2 ^ k) with e | e
  · rw [e]; simp
  · rw [e, Nat.one_mul]
    exact ⟨fun _ => rfl, fun _ h0 => by have h1 : 2 ^ k = 0 := Int.ofNat_eq_zero.1 h0
                                        omega⟩
end Go.Proofs.Ytnkmdbmepncbkaa
