import Derived.Test.YtlenjpgkmikgpaaR17
import Derived.Test.YtlenjpgkmikgpaaR18
namespace Go.Proofs.Ytlenjpgkmikgpaa
open Go.RowKit Go.Shelf Go.Hos
set_option linter.unusedVariables false
/-! the law's own copy of the objects (twins) -/
theorem info50 : (Try.prog.info? 50).map (fun i => (i.zero, i.size, i.bytes)) = some (some (.agg #[.int .i64 0, .int .u64 0, .int .u16 0, .int .u64 0, .int .u64 0, .slice none 0 0, .slice none 0 0, .string ⟨#[]⟩, .string ⟨#[]⟩, .slice none 0 0, .slice none 0 0]), 11, 168) := by kernel_rfl
theorem info67 : (Try.prog.info? 67).map (fun i => (i.zero, i.size, i.bytes)) = some (some (.agg #[.int .u32 0, .int .u8 0, .int .u64 0, .int .u64 0, .int .u64 0, .int .u64 0]), 6, 40) := by kernel_rfl
theorem info61 : (Try.prog.info? 61).map (fun i => (i.zero, i.size, i.bytes)) = some (some (.agg #[.string ⟨#[]⟩, .int .u64 0, .int .u64 0, .int .u8 0, .bool false]), 5, 40) := by kernel_rfl
theorem info53 : (Try.prog.info? 53).map (fun i => (i.zero, i.size, i.bytes)) = some (some (.agg #[.int .u64 0, .int .u32 0, .int .i64 0, .int .i64 0]), 4, 32) := by kernel_rfl
def segF (o : ObjD) : Nat → Array Value := fun k => (o.sg k).cs
def symF (o : ObjD) : Nat → Array Value := fun k => (o.sy k).cs
def relF (o : ObjD) : Nat → Array Value := fun k => (o.rl k).cs
def objF (O : Nat → ObjD) : Nat → Array Value := fun k => (O k).cs
theorem segF_one (o : ObjD) : ∀ n, ∀ u ∈ flatG (segF o) n, u.oneCell' = true := flatG_one fun i u hu => by
  simp only [segF, Lay.SegD.cs, List.mem_cons, List.not_mem_nil, or_false] at hu
  rcases hu with rfl | rfl | rfl | rfl | rfl | rfl <;> rfl
theorem symF_one (o : ObjD) : ∀ n, ∀ u ∈ flatG (symF o) n, u.oneCell' = true := flatG_one fun i u hu => by
  simp only [symF, Sym.SymD.cs, List.mem_cons, List.not_mem_nil, or_false] at hu
  rcases hu with rfl | rfl | rfl | rfl | rfl <;> rfl
theorem relF_one (o : ObjD) : ∀ n, ∀ u ∈ flatG (relF o) n, u.oneCell' = true := flatG_one fun i u hu => by
  simp only [relF, RelD.cs, List.mem_cons, List.not_mem_nil, or_false] at hu
  rcases hu with rfl | rfl | rfl | rfl <;> rfl
/-- the same but for where it lies -/
def SameD (o o' : ObjD) : Prop := ∃ gA gQ sA sQ rA rQ, o' = { o with gA := gA, gQ := gQ, sA := sA, sQ := sQ, rA := rA, rQ := rQ }
theorem SameD.refl (o : ObjD) : SameD o o := ⟨_, _, _, _, _, _, rfl⟩
theorem owns_apart {W W1 : World} {b1 b2 s1 s2 n1 n2 : Nat} {e1 e2 : TypeId} {v1 v2 : Value} {x1 x2 : List Value} (h1 : W.ownsRow b1 e1 s1 v1 n1 x1) (h2 : W.ownsRow b2 e2 s2 v2 n2 x2) (hne : e1 ≠ e2) (hg : W.grownBy W1 v2.ownBlock) : W1.ownsRow b1 e1 s1 v1 n1 x1 := by
  refine h1.kept hg ?_
  rcases h1.2 with ⟨rfl, _⟩ | ⟨g, cap, cur, rfl, _, hgb, _⟩
  · exact .inl rfl
  · refine .inr fun e => ?_
    have := own_blk_ne h2 (g := g) (t := e1) (cs := cur) hgb (fun e => hne e.symm)
    exact this e.symm
theorem owns_set {W : World} {base e s n : Nat} {v : Value} {xs : List Value} (h : W.ownsRow base e s v n xs) {g i : Nat} (hg : g < base) (u : Value) : (W.setCell ⟨g, i, none⟩ u).ownsRow base e s v n xs :=
  h.kept (row := some g) ⟨rfl, rfl, rfl, by simp [World.setCell], fun k hk hne => Below.heap_setCell W ⟨g, i, none⟩ u k (fun e => hne (by rw [e]))⟩ (.inr fun e => by have := (h.lt g e).1; omega)
/-- the rows of one object's copy -/
structure RowsT (W : World) (B : Nat) (o : ObjD) : Prop where
  g : W.ownsRow B 67 6 (.slice o.gA o.gM o.gQ) o.gM (flatG (segF o) o.gM)
  s : W.ownsRow B 61 5 (.slice o.sA o.sM o.sQ) o.sM (flatG (symF o) o.sM)
  r : W.ownsRow B 53 4 (.slice o.rA o.rM o.rQ) o.rM (flatG (relF o) o.rM)
theorem RowsT.next {W W' : World} {B : Nat} {o : ObjD} (h : RowsT W B o) (hb : Below W.heap.size W W') : RowsT W' B o := ⟨owns_below h.g hb, owns_below h.s hb, owns_below h.r hb⟩
theorem RowsT.base {W : World} {B B' : Nat} {o : ObjD} (h : RowsT W B o) (hB : B' ≤ B) : RowsT W B' o := ⟨owns_base h.g hB, owns_base h.s hB, owns_base h.r hB⟩
/-- what twins keeps: so many copies -/
structure TWS (w : World) (O O' : Nat → ObjD) (i : Nat) (v : Value) (W : World) : Prop where
  ow : W.ownsRow w.heap.size 50 11 v i (flatG (objF O') i)
  bl : Below w.heap.size w W
  al : ∀ j, SameD (O j) (O' j)
  cp : ∀ j, j < i → RowsT W w.heap.size (O' j)
theorem TWS.next {w W W' : World} {O O' : Nat → ObjD} {i : Nat} {v : Value} (h : TWS w O O' i v W) (hb : Below W.heap.size W W') : TWS w O O' i v W' :=
  ⟨owns_below h.ow hb, h.bl.trans (hb.mono h.bl.size), h.al, fun j hj => (h.cp j hj).next hb⟩
theorem TWS.push {w W W' : World} {O O' : Nat → ObjD} {i : Nat} {v v' : Value} {o : ObjD} (h : TWS w O O' i v W) (ho : W'.ownsRow w.heap.size 50 11 v' (i + 1) (flatG (objF O') i ++ o.cs.toList)) (hg : W.grownBy W' v.ownBlock) (hr : RowsT W w.heap.size o) (hs : SameD (O i) o) :
    TWS w O (fun j => if j = i then o else O' j) (i + 1) v' W' := by
  refine ⟨?_, h.bl.trans (below_own hg h.bl.size fun k hk => (h.ow.lt k hk).1), fun j => ?_, fun j hj => ?_⟩
  · show W'.ownsRow _ _ _ _ _ (flatG _ i ++ _)
    rw [flatG_congr (F := objF fun j => if j = i then o else O' j) (G := objF O') i fun k hk => by show (if k = i then o else O' k).cs = _; rw [if_neg (by omega)]; rfl]
    rw [show objF (fun j => if j = i then o else O' j) i = o.cs from by show (if i = i then o else O' i).cs = _; rw [if_pos rfl]]; exact ho
  · by_cases e : j = i
    · subst e; rw [if_pos rfl]; exact hs
    · rw [if_neg e]; exact h.al j
  · by_cases e : j = i
    · subst e; rw [if_pos rfl]
      exact ⟨owns_apart hr.g h.ow (by decide) hg, owns_apart hr.s h.ow (by decide) hg, owns_apart hr.r h.ow (by decide) hg⟩
    · rw [if_neg e]
      have hr := h.cp j (by omega)
      exact ⟨owns_apart hr.g h.ow (by decide) hg, owns_apart hr.s h.ow (by decide) hg, owns_apart hr.r h.ow (by decide) hg⟩
/-- the object in its box -/
structure TB (wr : World) (cs : Array Value) (W : World) : Prop where
  bl : Below wr.heap.size wr W
  bx : Blk W wr.heap.size 50 cs
theorem TB.step {wr W W' : World} {cs : Array Value} {e j : Nat} {v : Value} (h : TB wr cs W) (hg : (W.alloc (.cells #[] e)).grownBy W' (Value.slice (some ⟨W.heap.size, 0, none⟩) 0 0).ownBlock) : TB wr (cs.setIfInBounds j v) (W'.setCell ⟨wr.heap.size, j, none⟩ v) := by
  have hlt := h.bx.lt
  have hb : Below W.heap.size W W' := ((Below.refl _ _).alloc (Nat.le_refl _) _).trans (below_own hg (by simp) fun k hk => by
    have : W.heap.size = k := by simpa [Value.ownBlock] using hk
    omega)
  exact ⟨(h.bl.trans (hb.mono h.bl.size)).setCell (Nat.le_refl _) v, (h.bx.below hb hlt).set_ j v⟩
theorem row_step {wr W W' : World} {e j n e2 s2 : Nat} {v u : Value} {xs : List Value} (h : W.ownsRow (wr.heap.size + 1) e2 s2 v n xs) (hg : (W.alloc (.cells #[] e)).grownBy W' (Value.slice (some ⟨W.heap.size, 0, none⟩) 0 0).ownBlock) (hne : e2 ≠ e) : (W'.setCell ⟨wr.heap.size, j, none⟩ u).ownsRow (wr.heap.size + 1) e2 s2 v n xs :=
  owns_set (owns_apart (h.alloc _) (owns_empty (base := 0) W e 1 (Nat.zero_le _)) hne hg) (Nat.lt_succ_self _) u
theorem TB.mid {wr W W' : World} {cs : Array Value} {e : TypeId} (h : TB wr cs W) (hg : (W.alloc (.cells #[] e)).grownBy W' (Value.slice (some ⟨W.heap.size, 0, none⟩) 0 0).ownBlock) : Blk W' wr.heap.size 50 cs :=
  (h.bx.alloc _).grown hg (fun x => by have := h.bx.lt; have e' : wr.heap.size = W.heap.size := by simpa [Value.ownBlock] using x
                                       omega)
end Go.Proofs.Ytlenjpgkmikgpaa
