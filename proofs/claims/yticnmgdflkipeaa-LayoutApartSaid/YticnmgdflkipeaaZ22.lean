import Derived.Test.YticnmgdflkipeaaZ21
namespace Go.Proofs.Yticnmgdflkipeaa
open Go.RowKit Go.Shelf Go.Hos
set_option linter.unusedVariables false
/-! the loads of a right object; pieces and writes as data -/
set_option maxRecDepth 20000 in
theorem low_step {en : Nat} {l : List SegD} (he : en ≤ 140737488355328) (h4 : en % 4096 = 0) (h : (stR en l).1 = true) {n : Nat} (hn : n < l.length) : (stR en (l.take n)).2 ≤ (stR en (l.take (n + 1))).2 ∧ (stR en (l.take (n + 1))).2 = upv ((fnS l n).addr + (fnS l n).msz) ∧ okS en (stR en (l.take n)).2 (fnS l n) = true := by
  have e1 := stR_take (en := en) hn
  have h3 : (stR en (l.take (n + 1))).1 = true := stR_pre _ (List.take_prefix _ _) h
  rw [e1, Bool.and_eq_true] at h3
  obtain ⟨k1, k2, k3, k4, k5, k6, k7⟩ := okS_iff.1 h3.2
  have hd := dn_le (fnS l n).addr
  obtain ⟨u1, u2, u3⟩ := upv_le k6 he h4
  rw [e1]
  refine ⟨?_, rfl, h3.2⟩
  show _ ≤ upv _
  omega
theorem low_mono {en : Nat} {l : List SegD} (he : en ≤ 140737488355328) (h4 : en % 4096 = 0) (h : (stR en l).1 = true) {n : Nat} : ∀ d, n + d ≤ l.length → (stR en (l.take n)).2 ≤ (stR en (l.take (n + d))).2
  | 0, _ => Nat.le_refl _
  | d + 1, hd => Nat.le_trans (low_mono he h4 h d (by omega)) (low_step he h4 h (n := n + d) (by omega)).1
theorem enOf_mod (ty : Nat) : enOf ty % 4096 = 0 := by unfold enOf; split <;> rfl
/-- what is known of a load of a right object -/
structure LoadOk (o : ObjD) (s : SegD) : Prop where
  fl : s.fl ≤ 7
  m0 : 0 < s.msz
  fm : s.fsz ≤ s.msz
  ofs : s.off + s.fsz ≤ 65536
  al : s.off % 4096 = s.addr % 4096
  en : upv (s.addr + s.msz) ≤ spanZ o
  e2 : s.addr + s.msz ≤ 140737488355328
  up : s.addr + s.msz ≤ upv (s.addr + s.msz)
set_option maxRecDepth 20000 in
theorem load_ok {o : ObjD} (h : rightB o = true) {n : Nat} (hn : n < (lds o.sg o.gM).length) : LoadOk o (fnS (lds o.sg o.gM) n) := by
  obtain ⟨_, _, _, h1, h2⟩ := right_parts h
  obtain ⟨a, b, c⟩ := low_step (enOf_le o.ty) (enOf_mod o.ty) h1 hn
  obtain ⟨k1, k2, k3, k4, k5, k6, k7⟩ := okS_iff.1 c
  have e2 := enOf_le o.ty
  obtain ⟨u1, u2, u3⟩ := upv_le k6 e2 (enOf_mod o.ty)
  have hm := low_mono (enOf_le o.ty) (enOf_mod o.ty) h1 (n := n + 1) ((lds o.sg o.gM).length - (n + 1)) (by omega)
  rw [show n + 1 + ((lds o.sg o.gM).length - (n + 1)) = (lds o.sg o.gM).length by omega, List.take_length, (right_span h).lo, b] at hm
  exact ⟨k1, by omega, k3, k4, k5, hm, by omega, u1⟩
theorem ldx_mem {S : Nat → SegD} {k : Nat} : ∀ {n : Nat}, k ∈ ldx S n → S k ∈ lds S n := fun {n} h => by
  rw [lds_ldx]; exact List.mem_map_of_mem h
theorem mem_fnS {l : List SegD} {s : SegD} (h : s ∈ l) : ∃ n, n < l.length ∧ fnS l n = s := by
  obtain ⟨n, hn, e⟩ := List.getElem_of_mem h
  exact ⟨n, hn, by unfold fnS; rw [List.getD_eq_getElem?_getD, List.getElem?_eq_getElem hn, ← e]; rfl⟩
theorem load_okX {o : ObjD} (h : rightB o = true) {k : Nat} (hk : k ∈ ldx o.sg o.gM) : LoadOk o (o.sg k) := by
  obtain ⟨n, hn, e⟩ := mem_fnS (ldx_mem hk)
  rw [← e]; exact load_ok h hn
structure PieceD where
  f : Nat
  t : Nat
  pr : Nat
  ino : Int
  off : Nat
def PieceD.cs (p : PieceD) : Array Value := #[.int .u64 p.f, .int .u64 p.t, .int .u8 p.pr, .int .i64 p.ino, .int .u64 p.off]
structure WriteD where
  at_ : Nat
  len : Nat
  blk : Nat
def WriteD.cs (d : WriteD) : Array Value := #[.int .u64 d.at_, .slice (some ⟨d.blk, 0, none⟩) d.len d.len]
/-- what is mapped for a load -/
def pcS (base : Nat) (ino : Int) (s : SegD) : List PieceD :=
  if 0 < s.fsz then ⟨dn (base + s.addr), upv (base + s.addr + s.fsz), s.fl, ino, dn s.off⟩ :: (if upv (base + s.addr + s.fsz) < upv (base + s.addr + s.msz) then [⟨upv (base + s.addr + s.fsz), upv (base + s.addr + s.msz), s.fl, -1, 0⟩] else [])
  else [⟨dn (base + s.addr), upv (base + s.addr + s.msz), s.fl, -1, 0⟩]
/-- what is written for a load: where, how much -/
def wrS (base : Nat) (s : SegD) : List (Nat × Nat) :=
  if 0 < s.fsz ∧ s.fsz < s.msz ∧ base + s.addr + s.fsz < upv (base + s.addr + s.fsz) then [(base + s.addr + s.fsz, upv (base + s.addr + s.fsz) - (base + s.addr + s.fsz))] else []
def pcL (base : Nat) (ino : Int) (l : List SegD) : List PieceD := l.flatMap (pcS base ino)
def wrL (base : Nat) (l : List SegD) : List (Nat × Nat) := l.flatMap (wrS base)
theorem pcL_snoc (base : Nat) (ino : Int) (l : List SegD) (s : SegD) : pcL base ino (l ++ [s]) = pcL base ino l ++ pcS base ino s := by simp [pcL]
theorem wrL_snoc (base : Nat) (l : List SegD) (s : SegD) : wrL base (l ++ [s]) = wrL base l ++ wrS base s := by simp [wrL]
theorem pcS_len (base : Nat) (ino : Int) (s : SegD) : (pcS base ino s).length ≤ 2 := by unfold pcS; split <;> (try split) <;> simp
theorem wrS_len (base : Nat) (s : SegD) : (wrS base s).length ≤ 1 := by unfold wrS; split <;> simp
theorem pcL_len (base : Nat) (ino : Int) : ∀ l : List SegD, (pcL base ino l).length ≤ 2 * l.length
  | [] => by simp [pcL]
  | s :: r => by have := pcL_len base ino r; have := pcS_len base ino s; simp only [pcL, List.flatMap_cons, List.length_append, List.length_cons] at *; omega
theorem wrL_len (base : Nat) : ∀ l : List SegD, (wrL base l).length ≤ l.length
  | [] => by simp [wrL]
  | s :: r => by have := wrL_len base r; have := wrS_len base s; simp only [wrL, List.flatMap_cons, List.length_append, List.length_cons] at *; omega
def flatL {α : Type} (c : α → Array Value) (l : List α) : List Value := l.flatMap fun a => (c a).toList
theorem flatL_snoc {α : Type} (c : α → Array Value) (l : List α) (a : α) : flatL c (l ++ [a]) = flatL c l ++ (c a).toList := by simp [flatL]
def WriteD.key (d : WriteD) : Nat × Nat := (d.at_, d.len)
/-- what Pieces keeps -/
structure PCJ (w : World) (cs : Array Value) (b7 b8 : Nat) (ps : List PieceD) (ws : List WriteD) (W : World) : Prop where
  bo : Blk W w.heap.size 33 cs
  bp : ∃ v, Boxed W b7 44 v ∧ W.ownsRow w.heap.size 49 5 v ps.length (flatL PieceD.cs ps)
  bw : ∃ v, Boxed W b8 45 v ∧ W.ownsRow w.heap.size 52 2 v ws.length (flatL WriteD.cs ws)
  wb : ∀ d ∈ ws, w.heap.size ≤ d.blk ∧ Blk W d.blk 5 (madeCells #[.int .u8 0] d.len)
  bl : Below w.heap.size w W
  h7 : w.heap.size < b7
  h8 : w.heap.size < b8
theorem not_blk {W : World} {g : Nat} {t e : TypeId} {cs : Array Value} {base size n : Nat} {v : Value} {xs : List Value} (hg : Blk W g t cs) (h : W.ownsRow base e size v n xs) (hne : e ≠ t) : some g ≠ v.ownBlock := fun e' => own_blk_ne h hg hne e'.symm
theorem PCJ.kept {w W W' : World} {cs : Array Value} {b7 b8 : Nat} {ps : List PieceD} {ws : List WriteD} {row : Option Nat} (h : PCJ w cs b7 b8 ps ws W) (hg : W.grownBy W' row) (hr : ∀ g, row = some g → ∃ o : Obj, W.heap[g]? = some o ∧ o.isCells = false) (hb : ∀ g, row = some g → w.heap.size ≤ g) : PCJ w cs b7 b8 ps ws W' := by
  have nr : ∀ {g : Nat} {cs' : Array Value} {t : TypeId}, Blk W g t cs' → some g ≠ row := fun hk e => by
    obtain ⟨o, ho, hc⟩ := hr _ e.symm
    rw [show W.heap[_]? = _ from hk] at ho; cases ho; cases hc
  refine ⟨h.bo.grown hg (nr h.bo), ?_, ?_, fun d hd => ⟨(h.wb d hd).1, (h.wb d hd).2.grown hg (nr (h.wb d hd).2)⟩, h.bl.grown hg h.bl.size hb, h.h7, h.h8⟩
  · obtain ⟨v, h1, h2⟩ := h.bp
    refine ⟨v, h1.kept hg (nr (cs' := #[v]) h1), h2.kept hg ?_⟩
    rcases h2.2 with ⟨rfl, _⟩ | ⟨g, cap, cur, rfl, _, hgb, _⟩
    · exact .inl rfl
    · exact .inr (nr (cs' := cur) hgb)
  · obtain ⟨v, h1, h2⟩ := h.bw
    refine ⟨v, h1.kept hg (nr (cs' := #[v]) h1), h2.kept hg ?_⟩
    rcases h2.2 with ⟨rfl, _⟩ | ⟨g, cap, cur, rfl, _, hgb, _⟩
    · exact .inl rfl
    · exact .inr (nr (cs' := cur) hgb)
theorem PCJ.alloc {w W : World} {cs : Array Value} {b7 b8 : Nat} {ps : List PieceD} {ws : List WriteD} (h : PCJ w cs b7 b8 ps ws W) (o : Obj) : PCJ w cs b7 b8 ps ws (W.alloc o) :=
  h.kept (World.grownBy_alloc W o none) (fun g e => by cases e) (fun g e => by cases e)
theorem PCJ.drew {w W : World} {cs : Array Value} {b7 b8 : Nat} {ps : List PieceD} {ws : List WriteD} (h : PCJ w cs b7 b8 ps ws W) : PCJ w cs b7 b8 ps ws W.drew := ⟨h.bo, h.bp, h.bw, h.wb, h.bl.trans (Below.refl _ _).drew, h.h7, h.h8⟩
theorem rows_apartZ {W W1 : World} {b1 b2 s1 s2 n1 n2 : Nat} {e1 e2 : TypeId} {v1 v2 : Value} {x1 x2 : List Value} {o : Obj} (h1 : W.ownsRow b1 e1 s1 v1 n1 x1) (h2 : W.ownsRow b2 e2 s2 v2 n2 x2) (hne : e1 ≠ e2) (hg : (W.alloc o).grownBy W1 v2.ownBlock) : W1.ownsRow b1 e1 s1 v1 n1 x1 := by
  refine (h1.alloc o).kept hg ?_
  rcases h1.2 with ⟨rfl, _⟩ | ⟨g, cap, cur, rfl, _, hgb, _⟩
  · exact .inl rfl
  · refine .inr fun e => ?_
    have := own_blk_ne h2 (g := g) (t := e1) (cs := cur) hgb (fun e => hne e.symm)
    exact this e.symm
/-- a store into a box of its own type leaves the rest -/
theorem PCJ.pushP {w W w1 : World} {cs : Array Value} {b7 b8 : Nat} {ps : List PieceD} {ws : List WriteD} {v v' : Value} {tmp : Obj} {p : PieceD} (h : PCJ w cs b7 b8 ps ws W) (hv : Boxed W b7 44 v) (hrow : W.ownsRow w.heap.size 49 5 v ps.length (flatL PieceD.cs ps))
    (hown : w1.ownsRow w.heap.size 49 5 v' (ps.length + 1) (flatL PieceD.cs ps ++ p.cs.toList)) (hg : (W.alloc tmp).grownBy w1 v.ownBlock) :
    Boxed w1 b7 44 v ∧ PCJ w cs b7 b8 (ps ++ [p]) ws (w1.setCell ⟨b7, 0, none⟩ v') ∧ KeepsOthers W (w1.setCell ⟨b7, 0, none⟩ v') ∧ Below w.heap.size W (w1.setCell ⟨b7, 0, none⟩ v') := by
  obtain ⟨a1, a2, a3, a4, a5⟩ := hv.appended (by decide) hrow h.bl.size (Nat.le_of_lt h.h7) hown hg
  refine ⟨a1, ⟨?_, ⟨v', a2, by rw [List.length_append, flatL_snoc]; exact a3⟩, ?_, fun d hd => ⟨(h.wb d hd).1, ?_⟩, h.bl.trans a5, h.h7, h.h8⟩, a4, a5⟩
  · exact ((h.bo.alloc tmp).grown hg (not_blk (h.bo.alloc tmp) (hrow.alloc tmp) (by decide))).far (by have := h.h7; show w.heap.size ≠ b7; omega) _
  · obtain ⟨u, h1, h2⟩ := h.bw
    have k1 : Boxed w1 b8 45 u := (h1.alloc tmp).kept hg (not_blk (h1.alloc tmp) (hrow.alloc tmp) (by decide))
    have ne : b8 ≠ b7 := Blk.ne_ (t := 45) (t' := 44) k1 a1 (by decide)
    refine ⟨u, k1.other ne _, ?_⟩
    refine (rows_apartZ h2 hrow (by decide) hg).kept (grownBy_setCell' w1 b7 v') (.inr (a1.not_row (by decide) (rows_apartZ h2 hrow (by decide) hg)).symm)
  · have k1 : Blk w1 d.blk 5 (madeCells #[.int .u8 0] d.len) := ((h.wb d hd).2.alloc tmp).grown hg (not_blk ((h.wb d hd).2.alloc tmp) (hrow.alloc tmp) (by decide))
    have ne5 : d.blk ≠ b7 := Blk.ne_ (t := 5) (t' := 44) (cs' := #[v]) k1 a1 (by decide)
    exact k1.far ne5 _
theorem PCJ.pushW {w W w1 : World} {cs : Array Value} {b7 b8 : Nat} {ps : List PieceD} {ws : List WriteD} {v v' : Value} {tmp : Obj} {d : WriteD} (h : PCJ w cs b7 b8 ps ws W) (hd0 : w.heap.size ≤ d.blk) (hd : Blk W d.blk 5 (madeCells #[.int .u8 0] d.len)) (hv : Boxed W b8 45 v) (hrow : W.ownsRow w.heap.size 52 2 v ws.length (flatL WriteD.cs ws))
    (hown : w1.ownsRow w.heap.size 52 2 v' (ws.length + 1) (flatL WriteD.cs ws ++ d.cs.toList)) (hg : (W.alloc tmp).grownBy w1 v.ownBlock) :
    Boxed w1 b8 45 v ∧ PCJ w cs b7 b8 ps (ws ++ [d]) (w1.setCell ⟨b8, 0, none⟩ v') ∧ KeepsOthers W (w1.setCell ⟨b8, 0, none⟩ v') ∧ Below w.heap.size W (w1.setCell ⟨b8, 0, none⟩ v') := by
  obtain ⟨a1, a2, a3, a4, a5⟩ := hv.appended (by decide) hrow h.bl.size (Nat.le_of_lt h.h8) hown hg
  have far : ∀ {g n : Nat}, Blk W g 5 (madeCells #[.int .u8 0] n) → Blk (w1.setCell ⟨b8, 0, none⟩ v') g 5 (madeCells #[.int .u8 0] n) := fun {g n} hk => by
    have k1 := (hk.alloc tmp).grown hg (not_blk (hk.alloc tmp) (hrow.alloc tmp) (by decide))
    have ne5 : g ≠ b8 := Blk.ne_ (t := 5) (t' := 45) (cs' := #[v]) k1 a1 (by decide)
    exact k1.far ne5 _
  refine ⟨a1, ⟨?_, ?_, ⟨v', a2, by rw [List.length_append, flatL_snoc]; exact a3⟩, fun x hx => ?_, h.bl.trans a5, h.h7, h.h8⟩, a4, a5⟩
  · exact ((h.bo.alloc tmp).grown hg (not_blk (h.bo.alloc tmp) (hrow.alloc tmp) (by decide))).far (by have := h.h8; show w.heap.size ≠ b8; omega) _
  · obtain ⟨u, h1, h2⟩ := h.bp
    have k1 : Boxed w1 b7 44 u := (h1.alloc tmp).kept hg (not_blk (h1.alloc tmp) (hrow.alloc tmp) (by decide))
    have ne : b7 ≠ b8 := Blk.ne_ (t := 44) (t' := 45) k1 a1 (by decide)
    refine ⟨u, k1.other ne _, ?_⟩
    refine (rows_apartZ h2 hrow (by decide) hg).kept (grownBy_setCell' w1 b8 v') (.inr (a1.not_row (by decide) (rows_apartZ h2 hrow (by decide) hg)).symm)
  · rcases List.mem_append.1 hx with hx | hx
    · exact ⟨(h.wb x hx).1, far (h.wb x hx).2⟩
    · obtain rfl := List.mem_singleton.1 hx
      exact ⟨hd0, far hd⟩
end Go.Proofs.Yticnmgdflkipeaa
