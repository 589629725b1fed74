import Derived.Test.YticnmgdflkipeaaZ5
import Derived.Deep.CutRange
namespace Go.Proofs.Yticnmgdflkipeaa
open Go.RowKit Go.Shelf Go.Hos
set_option linter.unusedVariables false
/-- the same object, its segments elsewhere -/
def ObjD.at (o : ObjD) (A : Option Addr) (q : Nat) : ObjD := { o with gA := A, gQ := q }
theorem owns_set {W : World} {base e s n : Nat} {v : Value} {xs : List Value} (h : W.ownsRow base e s v n xs) {g i : Nat} (hg : g < base) (u : Value) : (W.setCell ⟨g, i, none⟩ u).ownsRow base e s v n xs :=
  h.kept (row := some g) ⟨rfl, rfl, rfl, by simp [World.setCell], fun k hk hne => Below.heap_setCell W ⟨g, i, none⟩ u k (fun e => hne (by rw [e]))⟩ (.inr fun e => by have := (h.lt g e).1; omega)
theorem Blk.set11 {W : World} {g : Nat} {t : TypeId} {z0 z1 z2 z3 z4 z5 z6 z7 z8 z9 z10 : Value} (h : Blk W g t #[z0, z1, z2, z3, z4, z5, z6, z7, z8, z9, z10]) (v0 v1 v2 v3 v4 v5 v6 v7 v8 v9 v10 : Value) : Blk (((((((((((W.setCell ⟨g, 0, none⟩ v0).setCell ⟨g, 1, none⟩ v1).setCell ⟨g, 2, none⟩ v2).setCell ⟨g, 3, none⟩ v3).setCell ⟨g, 4, none⟩ v4).setCell ⟨g, 5, none⟩ v5).setCell ⟨g, 6, none⟩ v6).setCell ⟨g, 7, none⟩ v7).setCell ⟨g, 8, none⟩ v8).setCell ⟨g, 9, none⟩ v9).setCell ⟨g, 10, none⟩ v10) g t #[v0, v1, v2, v3, v4, v5, v6, v7, v8, v9, v10] := by
  have h0 : Blk (W.setCell ⟨g, 0, none⟩ v0) g t #[v0, z1, z2, z3, z4, z5, z6, z7, z8, z9, z10] := h.set_ 0 v0
  have h1 : Blk ((W.setCell ⟨g, 0, none⟩ v0).setCell ⟨g, 1, none⟩ v1) g t #[v0, v1, z2, z3, z4, z5, z6, z7, z8, z9, z10] := h0.set_ 1 v1
  have h2 : Blk (((W.setCell ⟨g, 0, none⟩ v0).setCell ⟨g, 1, none⟩ v1).setCell ⟨g, 2, none⟩ v2) g t #[v0, v1, v2, z3, z4, z5, z6, z7, z8, z9, z10] := h1.set_ 2 v2
  have h3 : Blk ((((W.setCell ⟨g, 0, none⟩ v0).setCell ⟨g, 1, none⟩ v1).setCell ⟨g, 2, none⟩ v2).setCell ⟨g, 3, none⟩ v3) g t #[v0, v1, v2, v3, z4, z5, z6, z7, z8, z9, z10] := h2.set_ 3 v3
  have h4 : Blk (((((W.setCell ⟨g, 0, none⟩ v0).setCell ⟨g, 1, none⟩ v1).setCell ⟨g, 2, none⟩ v2).setCell ⟨g, 3, none⟩ v3).setCell ⟨g, 4, none⟩ v4) g t #[v0, v1, v2, v3, v4, z5, z6, z7, z8, z9, z10] := h3.set_ 4 v4
  have h5 : Blk ((((((W.setCell ⟨g, 0, none⟩ v0).setCell ⟨g, 1, none⟩ v1).setCell ⟨g, 2, none⟩ v2).setCell ⟨g, 3, none⟩ v3).setCell ⟨g, 4, none⟩ v4).setCell ⟨g, 5, none⟩ v5) g t #[v0, v1, v2, v3, v4, v5, z6, z7, z8, z9, z10] := h4.set_ 5 v5
  have h6 : Blk (((((((W.setCell ⟨g, 0, none⟩ v0).setCell ⟨g, 1, none⟩ v1).setCell ⟨g, 2, none⟩ v2).setCell ⟨g, 3, none⟩ v3).setCell ⟨g, 4, none⟩ v4).setCell ⟨g, 5, none⟩ v5).setCell ⟨g, 6, none⟩ v6) g t #[v0, v1, v2, v3, v4, v5, v6, z7, z8, z9, z10] := h5.set_ 6 v6
  have h7 : Blk ((((((((W.setCell ⟨g, 0, none⟩ v0).setCell ⟨g, 1, none⟩ v1).setCell ⟨g, 2, none⟩ v2).setCell ⟨g, 3, none⟩ v3).setCell ⟨g, 4, none⟩ v4).setCell ⟨g, 5, none⟩ v5).setCell ⟨g, 6, none⟩ v6).setCell ⟨g, 7, none⟩ v7) g t #[v0, v1, v2, v3, v4, v5, v6, v7, z8, z9, z10] := h6.set_ 7 v7
  have h8 : Blk (((((((((W.setCell ⟨g, 0, none⟩ v0).setCell ⟨g, 1, none⟩ v1).setCell ⟨g, 2, none⟩ v2).setCell ⟨g, 3, none⟩ v3).setCell ⟨g, 4, none⟩ v4).setCell ⟨g, 5, none⟩ v5).setCell ⟨g, 6, none⟩ v6).setCell ⟨g, 7, none⟩ v7).setCell ⟨g, 8, none⟩ v8) g t #[v0, v1, v2, v3, v4, v5, v6, v7, v8, z9, z10] := h7.set_ 8 v8
  have h9 : Blk ((((((((((W.setCell ⟨g, 0, none⟩ v0).setCell ⟨g, 1, none⟩ v1).setCell ⟨g, 2, none⟩ v2).setCell ⟨g, 3, none⟩ v3).setCell ⟨g, 4, none⟩ v4).setCell ⟨g, 5, none⟩ v5).setCell ⟨g, 6, none⟩ v6).setCell ⟨g, 7, none⟩ v7).setCell ⟨g, 8, none⟩ v8).setCell ⟨g, 9, none⟩ v9) g t #[v0, v1, v2, v3, v4, v5, v6, v7, v8, v9, z10] := h8.set_ 9 v9
  have h10 : Blk (((((((((((W.setCell ⟨g, 0, none⟩ v0).setCell ⟨g, 1, none⟩ v1).setCell ⟨g, 2, none⟩ v2).setCell ⟨g, 3, none⟩ v3).setCell ⟨g, 4, none⟩ v4).setCell ⟨g, 5, none⟩ v5).setCell ⟨g, 6, none⟩ v6).setCell ⟨g, 7, none⟩ v7).setCell ⟨g, 8, none⟩ v8).setCell ⟨g, 9, none⟩ v9).setCell ⟨g, 10, none⟩ v10) g t #[v0, v1, v2, v3, v4, v5, v6, v7, v8, v9, v10] := h9.set_ 10 v10
  exact h10
structure TW (w : World) (cs z : Array Value) (W : World) : Prop where
  bl : Below w.heap.size w W
  b1 : Blk W w.heap.size 33 cs
  b2 : Blk W (w.heap.size + 1) 33 z
theorem TW.grown {w W W' : World} {cs z : Array Value} {e s n : Nat} {v : Value} {xs : List Value} (h : TW w cs z W) (ho : W.ownsRow (w.heap.size + 2) e s v n xs) (hg : W.grownBy W' v.ownBlock) : TW w cs z W' :=
  ⟨h.bl.trans (below_own hg h.bl.size fun k hk => by have := (ho.lt k hk).1; omega), h.b1.grown hg fun e => by have := (ho.lt _ e.symm).1; omega, h.b2.grown hg fun e => by have := (ho.lt _ e.symm).1; omega⟩
set_option maxRecDepth 20000 in
set_option maxHeartbeats 1600000 in
theorem twin_any (o : ObjD) (w : World) (hS : StR w w.heap.size 6 o.gA o.gM (segC o.sg)) (hn : o.gM ≤ 40) :
    Calls Try.prog 12 #[.agg o.cs] w fun e W' => ∃ A' q', e = .returned (.agg (o.at A' q').cs) ∧ W'.ownsRow w.heap.size 56 6 (.slice A' o.gM q') o.gM (flatS (alls o.sg o.gM)) ∧ Below w.heap.size w W' := by
  have hmm : maxLen = 9223372036854775807 := by simp [maxLen]
  obtain ⟨i0, hi0, hz0, hz1, hz2⟩ := info_parts info56
  obtain ⟨ino, base, ty, en, ph, gA, gM, gQ, nA, nM, nQ, so, rn, sA, sM, sQ, rA, rM, rQ, sg⟩ := o
  dsimp only at hS hn ⊢
  rw [show (ObjD.mk ino base ty en ph gA gM gQ nA nM nQ so rn sA sM sQ rA rM rQ sg).cs = #[.int .i64 ino, .int .u64 base, .int .u16 ty, .int .u64 en, .int .u64 ph, .slice gA gM gQ, .slice nA nM nQ, .string so, .string rn, .slice sA sM sQ, .slice rA rM rQ] from rfl]
  obtain ⟨xs, hxs⟩ : ∃ x, x = flatS (alls sg gM) := ⟨_, rfl⟩
  have HXS := Lib.hid hxs
  have RD : Hid (Reads w w.heap.size 6 gA gM xs) := Lib.hid (by rw [hxs]; exact hS.reads)
  have X1 : Hid (∀ u ∈ xs, u.oneCell' = true) := Lib.hid (by rw [hxs]; exact flatS_one _)
  clear hS hxs
  have C0 : Hid (TW w #[.int .i64 ino, .int .u64 base, .int .u16 ty, .int .u64 en, .int .u64 ph, .slice gA gM gQ, .slice nA nM nQ, .string so, .string rn, .slice sA sM sQ, .slice rA rM rQ] #[.int .i64 0, .int .u64 0, .int .u16 0, .int .u64 0, .int .u64 0, .slice none 0 0, .slice none 0 0, .string ⟨#[]⟩, .string ⟨#[]⟩, .slice none 0 0, .slice none 0 0] (((w.alloc (.cells #[.int .i64 ino, .int .u64 base, .int .u16 ty, .int .u64 en, .int .u64 ph, .slice gA gM gQ, .slice nA nM nQ, .string so, .string rn, .slice sA sM sQ, .slice rA rM rQ] 33)).alloc (.cells #[.int .i64 0, .int .u64 0, .int .u16 0, .int .u64 0, .int .u64 0, .slice none 0 0, .slice none 0 0, .string ⟨#[]⟩, .string ⟨#[]⟩, .slice none 0 0, .slice none 0 0] 33)).alloc (.cells #[] 56))) := Lib.hid ⟨(((Below.refl _ _).alloc (Nat.le_refl _) _).alloc (by simp) _).alloc (by simp; omega) _, ((Blk.new _ _ _).alloc _).alloc _, (blk_at _ _ (by simp)).alloc _⟩
  have OE : Hid ((((w.alloc (.cells #[.int .i64 ino, .int .u64 base, .int .u16 ty, .int .u64 en, .int .u64 ph, .slice gA gM gQ, .slice nA nM nQ, .string so, .string rn, .slice sA sM sQ, .slice rA rM rQ] 33)).alloc (.cells #[.int .i64 0, .int .u64 0, .int .u16 0, .int .u64 0, .int .u64 0, .slice none 0 0, .slice none 0 0, .string ⟨#[]⟩, .string ⟨#[]⟩, .slice none 0 0, .slice none 0 0] 33)).alloc (.cells #[] 56)).ownsRow (w.heap.size + 2) 56 6 (.slice (some ⟨w.heap.size + 1 + 1, 0, none⟩) 0 0) 0 []) := Lib.hid (by simpa using owns_empty (base := w.heap.size + 2) ((w.alloc (.cells #[.int .i64 ino, .int .u64 base, .int .u16 ty, .int .u64 en, .int .u64 ph, .slice gA gM gQ, .slice nA nM nQ, .string so, .string rn, .slice sA sM sQ, .slice rA rM rQ] 33)).alloc (.cells #[.int .i64 0, .int .u64 0, .int .u16 0, .int .u64 0, .int .u64 0, .slice none 0 0, .slice none 0 0, .string ⟨#[]⟩, .string ⟨#[]⟩, .slice none 0 0, .slice none 0 0] 33)) 56 6 (by simp))
  go_enter Try.func12, Try.ntmps12
  go_upto_region 1 with fail
  go_cut [] from 3 (fun wx => ∃ A1 q1, Hid (TW w #[.int .i64 ino, .int .u64 base, .int .u16 ty, .int .u64 en, .int .u64 ph, .slice A1 gM q1, .slice nA nM nQ, .string so, .string rn, .slice sA sM sQ, .slice rA rM rQ] #[.int .i64 0, .int .u64 0, .int .u16 0, .int .u64 0, .int .u64 0, .slice none 0 0, .slice none 0 0, .string ⟨#[]⟩, .string ⟨#[]⟩, .slice none 0 0, .slice none 0 0] wx ∧ wx.ownsRow (w.heap.size + 2) 56 6 (.slice A1 gM q1) gM xs))
  case first =>
    go_wp2_with (
                 at_builtin
                 refine wpList_append_any _ rfl (.tmp 3) (.tmp 6) _ rfl (w.heap.size + 2) 56 i0 _ 6 40 Try.underlying24 hi0 hz0 hz1 hz2 rfl (by omega) (.slice (some ⟨w.heap.size + 1 + 1, 0, none⟩) 0 0) 0 [] rfl OE.out w.heap.size gA gM gQ xs rfl (RD.out.below C0.out.bl) X1.out (by simp only [maxLen]; omega) (by omega) (by simp) ?_
                 intro v1 w4 hown1 hg1 hat1
                 rw [Nat.zero_add, List.nil_append] at hown1
                 have C1 := Lib.hid (C0.out.grown OE.out hg1)
                 have HO1 := Lib.hid hown1
                 obtain ⟨A1, q1, rfl⟩ := ownsRow_val hown1
                 have f1 : ∀ j, w4.frozen? ⟨w.heap.size, j, none⟩ = false := fun j => C1.out.b1.frozen j
                 have l1 := C1.out.b1.lt
                 have a5 := (C1.out.b1.cell 5).trans rfl
                 simp only [List.getElem?_toArray, List.getElem?_cons_succ, List.getElem?_cons_zero] at a5
                 clear hown1 hg1 hat1 C0 OE)
    go_meet
    exact ⟨_, _, Lib.hid ⟨⟨C1.out.bl.setCell (by simp) _, C1.out.b1.set_ 5 _, C1.out.b2.far (by simp) _⟩, owns_set HO1.out (by omega) _⟩⟩
  case rest =>
    obtain ⟨A1, q1, hc⟩ := hcut
    generalize wc = w4 at *
    clear C0 OE
    have f2 : ∀ j, w4.frozen? ⟨w.heap.size + 1, j, none⟩ = false := fun j => hc.out.1.b2.frozen j
    have l1 := hc.out.1.b1.lt
    have l2 := hc.out.1.b2.lt
    have a0 := (hc.out.1.b1.cell 0).trans rfl
    have a1 := (hc.out.1.b1.cell 1).trans rfl
    have a2 := (hc.out.1.b1.cell 2).trans rfl
    have a3 := (hc.out.1.b1.cell 3).trans rfl
    have a4 := (hc.out.1.b1.cell 4).trans rfl
    have a5 := (hc.out.1.b1.cell 5).trans rfl
    have a6 := (hc.out.1.b1.cell 6).trans rfl
    have a7 := (hc.out.1.b1.cell 7).trans rfl
    have a8 := (hc.out.1.b1.cell 8).trans rfl
    have a9 := (hc.out.1.b1.cell 9).trans rfl
    have a10 := (hc.out.1.b1.cell 10).trans rfl
    have z0 := (hc.out.1.b2.cell 0).trans rfl
    have z1 := (hc.out.1.b2.cell 1).trans rfl
    have z2 := (hc.out.1.b2.cell 2).trans rfl
    have z3 := (hc.out.1.b2.cell 3).trans rfl
    have z4 := (hc.out.1.b2.cell 4).trans rfl
    have z5 := (hc.out.1.b2.cell 5).trans rfl
    have z6 := (hc.out.1.b2.cell 6).trans rfl
    have z7 := (hc.out.1.b2.cell 7).trans rfl
    have z8 := (hc.out.1.b2.cell 8).trans rfl
    have z9 := (hc.out.1.b2.cell 9).trans rfl
    have z10 := (hc.out.1.b2.cell 10).trans rfl
    simp only [List.getElem?_toArray, List.getElem?_cons_succ, List.getElem?_cons_zero] at a0 z0 a1 z1 a2 z2 a3 z3 a4 z4 a5 z5 a6 z6 a7 z7 a8 z8 a9 z9 a10 z10
    go_wp2_with fail
    obtain ⟨W', hW'⟩ : ∃ W', W' = ((((((((((w4.setCell ⟨w.heap.size + 1, 0, none⟩ (.int .i64 ino)).setCell ⟨w.heap.size + 1, 1, none⟩ (.int .u64 base)).setCell ⟨w.heap.size + 1, 2, none⟩ (.int .u16 ty)).setCell ⟨w.heap.size + 1, 3, none⟩ (.int .u64 en)).setCell ⟨w.heap.size + 1, 4, none⟩ (.int .u64 ph)).setCell ⟨w.heap.size + 1, 5, none⟩ (.slice A1 gM q1)).setCell ⟨w.heap.size + 1, 6, none⟩ (.slice nA nM nQ)).setCell ⟨w.heap.size + 1, 7, none⟩ (.string so)).setCell ⟨w.heap.size + 1, 8, none⟩ (.string rn)).setCell ⟨w.heap.size + 1, 9, none⟩ (.slice sA sM sQ)).setCell ⟨w.heap.size + 1, 10, none⟩ (.slice rA rM rQ) := ⟨_, rfl⟩
    have B2 : Blk W' (w.heap.size + 1) 33 #[.int .i64 ino, .int .u64 base, .int .u16 ty, .int .u64 en, .int .u64 ph, .slice A1 gM q1, .slice nA nM nQ, .string so, .string rn, .slice sA sM sQ, .slice rA rM rQ] := by rw [hW']; exact Blk.set11 hc.out.1.b2 _ _ _ _ _ _ _ _ _ _ _
    have y0 := (B2.cell 0).trans rfl
    have y1 := (B2.cell 1).trans rfl
    have y2 := (B2.cell 2).trans rfl
    have y3 := (B2.cell 3).trans rfl
    have y4 := (B2.cell 4).trans rfl
    have y5 := (B2.cell 5).trans rfl
    have y6 := (B2.cell 6).trans rfl
    have y7 := (B2.cell 7).trans rfl
    have y8 := (B2.cell 8).trans rfl
    have y9 := (B2.cell 9).trans rfl
    have y10 := (B2.cell 10).trans rfl
    simp only [List.getElem?_toArray, List.getElem?_cons_succ, List.getElem?_cons_zero] at y0 y1 y2 y3 y4 y5 y6 y7 y8 y9 y10
    rw [← hW']
    refine bodyPost_ret (v := .agg #[.int .i64 ino, .int .u64 base, .int .u16 ty, .int .u64 en, .int .u64 ph, .slice A1 gM q1, .slice nA nM nQ, .string so, .string rn, .slice sA sM sQ, .slice rA rM rQ]) (by simp [results, Try.results12, go_sem, y0, y1, y2, y3, y4, y5, y6, y7, y8, y9, y10]) rfl ⟨A1, q1, rfl, ?_, ?_⟩
    all_goals rw [hW']
    · refine owns_base (base := w.heap.size + 2) ?_ (by omega)
      iterate 11 (refine owns_set ?_ (by omega) _)
      have := hc.out.2; rw [HXS.out] at this; exact this
    · iterate 11 (refine Below.setCell ?_ (by simp) _)
      exact hc.out.1.bl
end Go.Proofs.Yticnmgdflkipeaa
