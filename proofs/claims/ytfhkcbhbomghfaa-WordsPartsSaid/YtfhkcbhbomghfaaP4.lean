import Derived.Test.YtfhkcbhbomghfaaA2
namespace Go.Proofs.Ytfhkcbhbomghfaa
set_option linter.unusedVariables false

/-- a stretch that is parted at a page has as many pages as its parts -/
theorem many_parts {f s a : Nat} (hm : a % 4096 = 0) (hfa : f ≤ a) (has : a < f + s) : many f (a - f) + many a (s - (a - f)) = many f s := by
  unfold many
  rw [if_neg (show ¬ s = 0 by omega), if_neg (show ¬ s - (a - f) = 0 by omega)]
  by_cases h : a - f = 0
  · rw [if_pos h]; have : a = f := by omega
    subst this; simp
  · rw [if_neg h]
    rw [show f + (a - f) - 1 = a - 1 by omega, show a + (s - (a - f)) - 1 = f + s - 1 by omega]
    have h1 : (a - 1) / 4096 + 1 = a / 4096 := by omega
    have h2 : f / 4096 ≤ (a - 1) / 4096 := Nat.div_le_div_right (by omega)
    have h3 : a / 4096 ≤ (f + s - 1) / 4096 := Nat.div_le_div_right (by omega)
    omega
end Go.Proofs.Ytfhkcbhbomghfaa
