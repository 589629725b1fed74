import Derived.Test.YtlenjpgkmikgpaaLZ4
namespace Go.Proofs.Ytlenjpgkmikgpaa.Lay
open Go.RowKit Go.Shelf Go.Hos
set_option linter.unusedVariables false
/-- all segments, flat -/
def alls (S : Nat → SegD) : Nat → List SegD
  | 0 => []
  | n + 1 => alls S n ++ [S n]
theorem alls_len (S : Nat → SegD) : ∀ n, (alls S n).length = n
  | 0 => rfl
  | n + 1 => by unfold alls; rw [List.length_append, alls_len S n]; rfl
theorem flatS_len : ∀ l : List SegD, (flatS l).length = l.length * 6
  | [] => rfl
  | s :: r => by unfold flatS; rw [List.length_append, flatS_len r]; show 6 + _ = _; simp; omega
theorem flatS_get (S : Nat → SegD) : ∀ n i j, i < n → j < 6 → (flatS (alls S n))[i * 6 + j]? = (S i).cs[j]?
  | n + 1, i, j, hi, hj => by
    unfold alls
    rw [flatS_append]
    by_cases e : i = n
    · subst e
      rw [List.getElem?_append_right (by rw [flatS_len, alls_len]; omega), flatS_len, alls_len, show i * 6 + j - i * 6 = j by omega]
      show ((S i).cs.toList ++ [])[j]? = _
      rw [List.append_nil, Array.getElem?_toList]
    · rw [List.getElem?_append_left (by rw [flatS_len, alls_len]; omega)]
      exact flatS_get S n i j (by omega) hj
theorem flatS_one : ∀ l : List SegD, ∀ u ∈ flatS l, u.oneCell' = true
  | [], u, h => by cases h
  | s :: r, u, h => by
    unfold flatS at h
    rcases List.mem_append.1 h with h | h
    · simp only [SegD.cs, List.mem_cons, List.not_mem_nil, or_false] at h
      rcases h with rfl | rfl | rfl | rfl | rfl | rfl <;> rfl
    · exact flatS_one r u h
theorem StR.reads {W : World} {B n : Nat} {A : Option Addr} {S : Nat → SegD} (h : StR W B 6 A n (segC S)) : Reads W B 6 A n (flatS (alls S n)) := by
  refine ⟨by rw [flatS_len, alls_len], fun hn => ?_⟩
  obtain ⟨ad, rfl, hb, hc⟩ := h hn
  refine ⟨ad, rfl, hb, fun j u hu => ?_⟩
  have hj : j < n * 6 := by have := (List.getElem?_eq_some_iff.1 hu).1; rwa [flatS_len, alls_len] at this
  have e : j = j / 6 * 6 + j % 6 := by omega
  have hi : j / 6 < n := by omega
  have hr : j % 6 < 6 := by omega
  rw [e] at hu ⊢
  rw [flatS_get S n _ _ hi hr] at hu
  exact hc _ hi _ u hu
theorem StR.of_own {W : World} {base e n c : Nat} {A : Option Addr} {S : Nat → SegD} (h : W.ownsRow base e 6 (.slice A n c) n (flatS (alls S n))) : StR W W.heap.size 6 A n (segC S) := fun hn => by
  obtain ⟨ad, rfl, hb, hc⟩ := (Reads.of_own h).2 hn
  refine ⟨ad, rfl, hb, fun i hi j u hu => ?_⟩
  have hj : j < 6 := (Array.getElem?_eq_some_iff.1 hu).1
  exact hc _ u (by rw [flatS_get S n i j hi hj]; exact hu)
end Go.Proofs.Ytlenjpgkmikgpaa.Lay
