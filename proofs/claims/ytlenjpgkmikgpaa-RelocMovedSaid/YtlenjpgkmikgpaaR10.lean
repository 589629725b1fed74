import Derived.Test.YtlenjpgkmikgpaaR9
namespace Go.Proofs.Ytlenjpgkmikgpaa
open Go.RowKit Go.Shelf Go.Hos
set_option linter.unusedVariables false
/-! patches as bytes: plain -/
/-- the bytes of a number, the lowest first -/
def byL (x : Nat) : Nat → List Nat
  | 0 => []
  | k + 1 => byL x k ++ [x / 256 ^ k % 256]
theorem byL_len (x : Nat) : ∀ k, (byL x k).length = k
  | 0 => rfl
  | k + 1 => by rw [byL, List.length_append, byL_len x k]; rfl
theorem setv_by (x n : Nat) : ∀ k, k ≤ n → Wrd.setv (List.replicate n 0) 0 x k = byL x k ++ List.replicate (n - k) 0
  | 0, _ => by simp [Wrd.setv, byL]
  | k + 1, h => by
    rw [Wrd.setv, setv_by x n k (by omega), byL, Nat.zero_add]
    rw [show n - k = (n - (k + 1)) + 1 by omega, List.replicate_succ, List.set_append_right _ _ (by rw [byL_len]; exact Nat.le_refl _), byL_len, Nat.sub_self, List.set_cons_zero]
    simp
theorem stv_by {n : Nat} (x : Nat) (h : Wrd.szB n = true) : Wrd.stv (List.replicate n 0) 0 n x = byL x n ∧ Wrd.plc n 0 n = 0 := by
  have hp : Wrd.plc n 0 n = 0 := Wrd.plc_yes h (by simp)
  refine ⟨?_, hp⟩
  rw [Wrd.stv_yes (by rw [List.length_replicate]; exact hp)]
  have := setv_by x n n (Nat.le_refl _)
  rw [Nat.sub_self, List.replicate_zero, List.append_nil] at this
  simpa using this
/-- the first patch that may not be, or none -/
def okW (P : Nat → PatD) : Nat → Bool
  | 0 => true
  | i + 1 => okW P i && Wrd.szB (P i).size
theorem okW_no {P : Nat → PatD} : ∀ {n i : Nat}, i < n → Wrd.szB (P i).size = false → okW P n = false
  | n + 1, i, h, hc => by
    unfold okW
    by_cases e : i = n
    · subst e; rw [hc, Bool.and_false]
    · rw [okW_no (n := n) (by omega) hc, Bool.false_and]
/-- a write: where, and its bytes' block -/
structure WrD where
  at_ : Int
  blk : Nat
  len : Nat
  cap : Nat
def WrD.cs (d : WrD) : Array Value := #[.int .u64 d.at_, .slice (some ⟨d.blk, 0, none⟩) d.len d.cap]
def flatW (l : List WrD) : List Value := l.flatMap fun q => q.cs.toList
theorem flatW_snoc (l : List WrD) (q : WrD) : flatW (l ++ [q]) = flatW l ++ q.cs.toList := by simp [flatW]
/-- what Writes keeps: so many writes, each with its patch's bytes -/
structure WS (w : World) (P : Nat → PatD) (V : Nat → Nat) (n : Nat) (ds : List WrD) (v : Value) (W : World) : Prop where
  bl : Below w.heap.size w W
  ow : W.ownsRow w.heap.size 38 2 v ds.length (flatW ds)
  len : ds.length = n
  at_ : ∀ i d, ds[i]? = some d → d.at_ = (P i).at_ ∧ (d.len : Int) = (P i).size ∧ W.ownsRow w.heap.size 5 1 (.slice (some ⟨d.blk, 0, none⟩) d.len d.cap) d.len (Wrd.B8 (byL (V i) d.len))
theorem WS.next {w W W' : World} {P : Nat → PatD} {V : Nat → Nat} {n : Nat} {ds : List WrD} {v : Value} (h : WS w P V n ds v W) (hb : Below W.heap.size W W') : WS w P V n ds v W' :=
  ⟨h.bl.trans (hb.mono h.bl.size), owns_below h.ow hb, h.len, fun i d hd => ⟨(h.at_ i d hd).1, (h.at_ i d hd).2.1, owns_below (h.at_ i d hd).2.2 hb⟩⟩
theorem rows_apartZ {W W1 : World} {b1 b2 s1 s2 n1 n2 : Nat} {e1 e2 : TypeId} {v1 v2 : Value} {x1 x2 : List Value} {o : Obj} (h1 : W.ownsRow b1 e1 s1 v1 n1 x1) (h2 : W.ownsRow b2 e2 s2 v2 n2 x2) (hne : e1 ≠ e2) (hg : (W.alloc o).grownBy W1 v2.ownBlock) : W1.ownsRow b1 e1 s1 v1 n1 x1 := by
  refine (h1.alloc o).kept hg ?_
  rcases h1.2 with ⟨rfl, _⟩ | ⟨g, cap, cur, rfl, _, hgb, _⟩
  · exact .inl rfl
  · refine .inr fun e => ?_
    have := own_blk_ne h2 (g := g) (t := e1) (cs := cur) hgb (fun e => hne e.symm)
    exact this e.symm
theorem WS.push {w W w1 : World} {P : Nat → PatD} {V : Nat → Nat} {n : Nat} {ds : List WrD} {v v' : Value} {d : WrD} {tmp : Obj} (h : WS w P V n ds v W) (ha : d.at_ = (P n).at_) (hl : (d.len : Int) = (P n).size)
    (hd : W.ownsRow w.heap.size 5 1 (.slice (some ⟨d.blk, 0, none⟩) d.len d.cap) d.len (Wrd.B8 (byL (V n) d.len)))
    (hown : w1.ownsRow w.heap.size 38 2 v' (ds.length + 1) (flatW ds ++ d.cs.toList)) (hg : (W.alloc tmp).grownBy w1 v.ownBlock) : WS w P V (n + 1) (ds ++ [d]) v' w1 := by
  refine ⟨(h.bl.alloc h.bl.size tmp).trans (below_own hg (by have := h.bl.size; simp; omega) fun k hk => (h.ow.lt k hk).1), by rw [List.length_append, flatW_snoc]; exact hown, by rw [List.length_append, h.len]; rfl, fun i x hx => ?_⟩
  by_cases e : i < ds.length
  · rw [List.getElem?_append_left e] at hx
    obtain ⟨a, b, c⟩ := h.at_ i x hx
    exact ⟨a, b, rows_apartZ c h.ow (by decide) hg⟩
  · have hi : i = n := by
      have := (List.getElem?_eq_some_iff.1 hx).1
      rw [List.length_append, List.length_singleton] at this
      have := h.len
      omega
    subst hi
    rw [List.getElem?_append_right (by omega), h.len, Nat.sub_self] at hx
    obtain rfl := Option.some.inj hx
    exact ⟨ha, hl, rows_apartZ hd h.ow (by decide) hg⟩
theorem info38 : (Try.prog.info? 38).map (fun i => (i.zero, i.size, i.bytes)) = some (some (.agg #[.int .u64 0, .slice none 0 0]), 2, 32) := by kernel_rfl
end Go.Proofs.Ytlenjpgkmikgpaa
