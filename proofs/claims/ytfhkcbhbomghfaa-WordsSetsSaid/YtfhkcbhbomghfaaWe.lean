import Derived.Test.YtfhkcbhbomghfaaWd
namespace Go.Proofs.Ytfhkcbhbomghfaa
open Go.RowKit Go.Hos
set_option linter.unusedVariables false

theorem reps_succ (xs : List Value) (k : Nat) (u : Value) : (xs ++ List.replicate k u) ++ [u] = xs ++ List.replicate (k + 1) u := by
  rw [List.append_assoc, List.replicate_succ']

/-- what goneOn keeps: the row so far, the old row, all else -/
structure GN (w : World) (B : Nat) (A : Option Addr) (n cap : Nat) (xs : List Value) (u : Value) (Ak : Option Addr) (k ck : Nat) (W : World) : Prop where
  own : W.ownsRow B 5 1 (.slice Ak (n + k) ck) (n + k) (xs ++ List.replicate k u)
  old : W.ownsRow B 5 1 (.slice A n cap) n xs
  grown : w.grownBy W (Value.slice A n cap).ownBlock
  at_ : (Ak = A ∧ ck = cap) ∨ ∀ g, Ak = some ⟨g, 0, none⟩ → w.heap.size ≤ g
theorem GN.start {w : World} {B n cap : Nat} {A : Option Addr} {xs : List Value} (u : Value) (h : w.ownsRow B 5 1 (.slice A n cap) n xs) : GN w B A n cap xs u A 0 cap w :=
  ⟨by simpa using h, h, World.grownBy.refl w _, .inl ⟨rfl, rfl⟩⟩
theorem GN.step {w : World} {B n cap k ck : Nat} {A Ak : Option Addr} {xs : List Value} {u : Value} {W : World} (hw : w.ownsRow B 5 1 (.slice A n cap) n xs) (h : GN w B A n cap xs u Ak k ck W)
    (i : TypeInfo) (hi : Try.prog.info? 5 = some i) (hz : i.zero = some (.int .u8 0)) (hsize : i.size = 1) (hby : i.bytes = 1) (h1 : u.oneCell' = true) (hb : n + k + 1 ≤ 140737488355328) (hB : B ≤ w.heap.size) (ty : TypeId) :
    ∃ A' c' W', (Builtin.append_ #[22, 22] ty #[.slice Ak (n + k) ck, .slice (some ⟨W.heap.size, 0, none⟩) 1 1]).run Try.prog (W.alloc (.cells #[u] 5)) = .ok (.slice A' (n + k + 1) c') W' ∧ GN w B A n cap xs u A' (k + 1) c' W' := by
  have hs := h.grown.size
  obtain ⟨A', c', W', hr, ho, hd⟩ := run_append_byte (W.alloc (.cells #[u] 5)) B i hi hz hsize hby Ak (n + k) ck _ (h.own.alloc _) ⟨W.heap.size, 0, none⟩ 1 u (cell_one_new W u 5 0 u rfl) h1 hb (by simp; omega) ty
  refine ⟨A', c', W', hr, ?_⟩
  rw [reps_succ] at ho
  have halt : ∀ g, A = some ⟨g, 0, none⟩ → g < w.heap.size := fun g hg => by
    rcases hw.2 with ⟨hv, _⟩ | ⟨g', c2, cur, hv, hb2, hg2, _⟩
    · injection hv with e1 _ _; rw [hg] at e1; cases e1
    · injection hv with e1 _ _; rw [hg] at e1; injection e1 with e1; injection e1 with e1; subst e1; exact (Array.getElem?_eq_some_iff.1 hg2).1
  have g1 : w.grownBy (W.alloc (.cells #[u] 5)) (Value.slice A n cap).ownBlock := ⟨h.grown.os, h.grown.tape, h.grown.output, by simp; omega, fun j hj hne => (heap_alloc_old W _ (show j < W.heap.size by omega)).trans (h.grown.block j hj hne)⟩
  rcases hd with ⟨g, e1, e2, e3, hgr⟩ | ⟨ho2, hgr⟩
  · subst e1 e2 e3
    rcases h.at_ with ⟨e4, e5⟩ | hge
    · subst e4 e5
      refine ⟨ho, own_front (m := k + 1) hw ho rfl, ⟨hgr.os.trans g1.os, hgr.tape.trans g1.tape, hgr.output.trans g1.output, Nat.le_trans g1.size hgr.size, fun j hj hne => ?_⟩, .inl ⟨rfl, rfl⟩⟩
      exact (hgr.block j (Nat.lt_of_lt_of_le hj g1.size) hne).trans (g1.block j hj hne)
    · have hg0 := hge g rfl
      refine ⟨ho, (h.old.alloc _).kept hgr (.inr ?_), ⟨hgr.os.trans g1.os, hgr.tape.trans g1.tape, hgr.output.trans g1.output, Nat.le_trans g1.size hgr.size, fun j hj hne => ?_⟩, .inr hge⟩
      · intro e
        rcases hw.2 with ⟨hv, _⟩ | ⟨g', c2, cur, hv, hb2, hg2, _⟩
        · injection hv with e1 _ _; subst e1; simp [Value.ownBlock] at e
        · injection hv with e1 _ _; subst e1
          have := halt g' rfl
          simp [Value.ownBlock] at e; omega
      · exact (hgr.block j (Nat.lt_of_lt_of_le hj g1.size) (by intro e; injection e with e; omega)).trans (g1.block j hj hne)
  · refine ⟨ho, (h.old.alloc _).kept hgr (Decidable.em _), ⟨hgr.os.trans g1.os, hgr.tape.trans g1.tape, hgr.output.trans g1.output, Nat.le_trans g1.size hgr.size, fun j hj hne => ?_⟩, .inr ?_⟩
    · exact (hgr.block j (Nat.lt_of_lt_of_le hj g1.size) (by simp)).trans (g1.block j hj hne)
    · intro g hg
      rcases ho2.2 with ⟨hv, _⟩ | ⟨g', c2, cur, hv, hb2, hg2, _⟩
      · injection hv with e1 _ _; rw [hg] at e1; cases e1
      · injection hv with e1 _ _; rw [hg] at e1; injection e1 with e1; injection e1 with e1; subst e1
        have := g1.size; omega
end Go.Proofs.Ytfhkcbhbomghfaa
