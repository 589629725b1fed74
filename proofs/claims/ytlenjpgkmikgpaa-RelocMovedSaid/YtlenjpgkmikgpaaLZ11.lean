import Derived.Test.YtlenjpgkmikgpaaLZ8
import Derived.Deep.CutRange
namespace Go.Proofs.Ytlenjpgkmikgpaa.Lay
open Go.RowKit Go.Shelf Go.Hos
set_option linter.unusedVariables false
/-! the document's Right: words -/
/-- a list's segments, by place -/
def fnS (l : List SegD) (k : Nat) : SegD := l.getD k ⟨0, 0, 0, 0, 0, 0⟩
theorem take_fnS {l : List SegD} {i : Nat} (h : i < l.length) : l.take (i + 1) = l.take i ++ [fnS l i] := by
  unfold fnS
  rw [List.take_succ_eq_append_getElem h, List.getD_eq_getElem?_getD, List.getElem?_eq_getElem h]; rfl
theorem alls_fnS (l : List SegD) : ∀ n, n ≤ l.length → alls (fnS l) n = l.take n
  | 0, _ => rfl
  | n + 1, h => by unfold alls; rw [alls_fnS l n (by omega), take_fnS (by omega)]
theorem fnS_mem {l : List SegD} {i : Nat} (h : i < l.length) : fnS l i ∈ l := by
  unfold fnS; rw [List.getD_eq_getElem?_getD, List.getElem?_eq_getElem h]; exact List.getElem_mem _
theorem lds_mem {S : Nat → SegD} {s : SegD} : ∀ {n : Nat}, s ∈ lds S n → ∃ k, k < n ∧ s = S k ∧ s.kd = 1
  | n + 1, h => by
    unfold lds at h
    rcases List.mem_append.1 h with h | h
    · obtain ⟨k, h1, h2, h3⟩ := lds_mem h
      exact ⟨k, by omega, h2, h3⟩
    · by_cases hk : (S n).kd = 1
      · rw [if_pos hk] at h
        obtain rfl := List.mem_singleton.1 h
        exact ⟨n, by omega, rfl, hk⟩
      · rw [if_neg hk] at h; cases h
theorem lds_len (S : Nat → SegD) : ∀ n, (lds S n).length ≤ n
  | 0 => Nat.le_refl _
  | n + 1 => by
    unfold lds; rw [List.length_append]
    have := lds_len S n
    split <;> simp <;> omega
theorem fnS_fits {S : Nat → SegD} {n i : Nat} (hf : ∀ k, (S k).fits) (h : i < (lds S n).length) : (fnS (lds S n) i).fits := by
  obtain ⟨k, _, e, _⟩ := lds_mem (fnS_mem h)
  rw [e]; exact hf k
/-- the row of an object's loads, read by place -/
theorem row_fnS {W : World} {base c : Nat} {A : Option Addr} {l : List SegD} (h : W.ownsRow base 67 6 (.slice A l.length c) l.length (flatS l)) : StR W W.heap.size 6 A l.length (segC (fnS l)) := by
  refine StR.of_own (base := base) (e := 67) (c := c) ?_
  rw [alls_fnS l l.length (Nat.le_refl _), List.take_length]; exact h
theorem stR_take {en : Nat} {l : List SegD} {i : Nat} (h : i < l.length) : stR en (l.take (i + 1)) = ((stR en (l.take i)).1 && okS en (stR en (l.take i)).2 (fnS l i), upv ((fnS l i).addr + (fnS l i).msz)) := by
  rw [take_fnS h, stR_snoc]
theorem okS_iff {en low : Nat} {s : SegD} : okS en low s = true ↔ (s.fl ≤ 7 ∧ ¬ s.msz = 0 ∧ s.fsz ≤ s.msz ∧ s.off + s.fsz ≤ 65536 ∧ s.off % 4096 = s.addr % 4096 ∧ s.addr + s.msz ≤ en ∧ ¬ dn s.addr < low) := by
  simp [okS, and_assoc]
/-- where a round fails, all fails -/
theorem stR_bad {en : Nat} {l : List SegD} {i : Nat} (h : i < l.length) (hno : okS en (stR en (l.take i)).2 (fnS l i) = false) : (stR en l).1 = false := by
  rw [← Bool.not_eq_true]
  intro ht
  have := stR_pre en (List.take_prefix (i + 1) l) ht
  rw [stR_take h, hno] at this
  simp at this
end Go.Proofs.Ytlenjpgkmikgpaa.Lay
