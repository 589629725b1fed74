import Derived.Test.YtfhkcbhbomghfaaWc
import Derived.ArgAppend
import Derived.Laws.OwnMore
namespace Go.Proofs.Ytfhkcbhbomghfaa
open Go.RowKit Go.Hos
set_option linter.unusedVariables false

/-- one byte appended onto a row of the call's own: in place, or in a block that is new (then the old blocks stay) -/
theorem run_append_byte (w : World) (base : Nat) (i : TypeInfo) (hi : Try.prog.info? 5 = some i) (hz : i.zero = some (.int .u8 0)) (hsize : i.size = 1) (hby : i.bytes = 1)
    (A : Option Addr) (n cap : Nat) (xs : List Value) (hown : w.ownsRow base 5 1 (.slice A n cap) n xs) (ad : Addr) (c : Nat) (u : Value) (hu : w.cell? ad = some u) (h1 : u.oneCell' = true)
    (hb : n + 1 ≤ 140737488355328) (hbase : base ≤ w.heap.size) (ty : TypeId) :
    ∃ A' c' w', (Builtin.append_ #[22, 22] ty #[.slice A n cap, .slice (some ad) 1 c]).run Try.prog w = .ok (.slice A' (n + 1) c') w' ∧ w'.ownsRow base 5 1 (.slice A' (n + 1) c') (n + 1) (xs ++ [u]) ∧
      ((∃ g, A = some ⟨g, 0, none⟩ ∧ A' = A ∧ c' = cap ∧ w.grownBy w' (some g)) ∨ (w'.ownsRow w.heap.size 5 1 (.slice A' (n + 1) c') (n + 1) (xs ++ [u]) ∧ w.grownBy w' none)) := by
  have hnews : ∀ j x, ([u] : List Value)[j]? = some x → w.cell? (ad.add j) = some x := by
    intro j x hj
    match j, hj with
    | 0, hj => simp at hj; subst hj; simpa [Addr.add] using hu
  have h1' : ∀ x ∈ ([u] : List Value), x.oneCell' = true := by simpa using h1
  have hown0 := hown
  rcases hown.2 with ⟨hv, rfl⟩ | ⟨g, cap', cur, hv, hbg, hg, hnc, hcm, hcs, htake⟩
  · injection hv with e1 e2 e3
    subst e1 e3
    have hx : xs = [] := List.eq_nil_of_length_eq_zero (by simpa using hown.1)
    subst hx
    obtain ⟨v', w', hr, ho, hgr, _, hat⟩ := run_append_own_at (P := Try.prog) w w.heap.size 22 ty 5 i _ 1 1 Try.underlying22 hi hz hsize hby rfl (by omega) (.slice none 0 0) 0 [] (World.ownsRow_nil _ _ _ _) ad 1 c [u] rfl hnews h1' (by simp [maxLen]) (by omega) (Nat.le_refl _)
    obtain ⟨A', c', rfl⟩ := ownsRow_val ho
    exact ⟨A', c', w', hr, owns_base ho hbase, .inr ⟨ho, hgr⟩⟩
  · injection hv with e1 e2 e3
    subst e1 e3
    by_cases hroom : n + 1 ≤ cap
    · obtain ⟨w', hr, ho, hgr⟩ := run_append_fits (P := Try.prog) w base 22 ty 5 i 1 Try.underlying22 hi hsize g n cap xs hown0 ad 1 c [u] rfl hnews h1' hroom
      exact ⟨_, _, w', hr, ho, .inl ⟨g, rfl, rfl, rfl, hgr⟩⟩
    · obtain ⟨v', w', hr, ho, hgr⟩ := run_append_arg_grows (P := Try.prog) w 22 ty 5 i _ 1 1 Try.underlying22 hi hz hsize hby rfl (by omega) ⟨g, 0, none⟩ n cap xs hown0.1 (hown0.cells (g := g) rfl) ad 1 c [u] rfl hnews (by omega) (by simp only [maxLen]; omega) (by omega)
      obtain ⟨A', c', rfl⟩ := ownsRow_val ho
      exact ⟨A', c', w', hr, owns_base ho hbase, .inr ⟨ho, hgr⟩⟩

/-- a row that reads on in the same block, longer, still reads as it did -/
theorem own_front {w w' : World} {base g n m cap cap' : Nat} {xs ys : List Value} (h : w.ownsRow base 5 1 (.slice (some ⟨g, 0, none⟩) n cap) n xs) (h' : w'.ownsRow base 5 1 (.slice (some ⟨g, 0, none⟩) (n + m) cap') (n + m) (xs ++ ys)) (hc : cap' = cap) :
    w'.ownsRow base 5 1 (.slice (some ⟨g, 0, none⟩) n cap) n xs := by
  subst hc
  refine ⟨h.1, ?_⟩
  rcases h'.2 with ⟨hv, _⟩ | ⟨g', c', cur, hv, hb, hg, hn, hm, hs, ht⟩
  · simp at hv
  · injection hv with e1 e2 e3
    injection e1 with e1; injection e1 with e1
    subst e1 e3
    refine .inr ⟨g, cap', cur, rfl, hb, hg, by omega, hm, hs, ?_⟩
    have hx : xs.length = n := by have := h.1; omega
    have ht2 := congrArg (List.take n) ht
    rw [List.take_take, show min n ((n + m) * 1) = n by omega, List.take_append_of_le_length (Nat.le_of_eq hx.symm), ← hx, List.take_length, hx] at ht2
    rw [Nat.mul_one]; exact ht2
end Go.Proofs.Ytfhkcbhbomghfaa
