import Derived.Test.YtneleioiondapaaY19
namespace Go.Proofs.Ytneleioiondapaa
open Go.RowKit Go.Shelf Go.Hos
set_option linter.unusedVariables false
/-! hostelref13.Copy -/
structure RelD where
  off : Int
  ty : Int
  sym : Int
  add : Int
def RelD.cs (r : RelD) : Array Value := #[.int .u64 r.off, .int .u32 r.ty, .int .i64 r.sym, .int .i64 r.add]
theorem info46 : (Try.prog.info? 46).map (fun i => (i.zero, i.size, i.bytes)) = some (some (.agg #[.string ⟨#[]⟩, .int .u64 0, .int .u64 0, .int .u8 0, .bool false]), 5, 40) := by kernel_rfl
theorem info71 : (Try.prog.info? 71).map (fun i => (i.zero, i.size, i.bytes)) = some (some (.agg #[.int .u64 0, .int .u32 0, .int .i64 0, .int .i64 0]), 4, 32) := by kernel_rfl
theorem owns_set {W : World} {base e s n : Nat} {v : Value} {xs : List Value} (h : W.ownsRow base e s v n xs) {g i : Nat} (hg : g < base) (u : Value) : (W.setCell ⟨g, i, none⟩ u).ownsRow base e s v n xs :=
  h.kept (row := some g) ⟨rfl, rfl, rfl, by simp [World.setCell], fun k hk hne => Below.heap_setCell W ⟨g, i, none⟩ u k (fun e => hne (by rw [e]))⟩ (.inr fun e => by have := (h.lt g e).1; omega)
theorem owns_below {W W' : World} {base e s n : Nat} {v : Value} {xs : List Value} (h : W.ownsRow base e s v n xs) (hb : Below W.heap.size W W') : W'.ownsRow base e s v n xs :=
  h.kept (row := none) ⟨hb.os, hb.tape, hb.output, hb.size, fun k hk _ => hb.block k hk⟩ (by
    rcases h.2 with ⟨e, _⟩ | ⟨g, cap, cur, e, _⟩
    · left; rw [e]; rfl
    · right; rw [e]; simp [Value.ownBlock])
theorem owns_apart {W W1 : World} {b1 b2 s1 s2 n1 n2 : Nat} {e1 e2 : TypeId} {v1 v2 : Value} {x1 x2 : List Value} (h1 : W.ownsRow b1 e1 s1 v1 n1 x1) (h2 : W.ownsRow b2 e2 s2 v2 n2 x2) (hne : e1 ≠ e2) (hg : W.grownBy W1 v2.ownBlock) : W1.ownsRow b1 e1 s1 v1 n1 x1 := by
  refine h1.kept hg ?_
  rcases h1.2 with ⟨rfl, _⟩ | ⟨g, cap, cur, rfl, _, hgb, _⟩
  · exact .inl rfl
  · refine .inr fun e => ?_
    have := own_blk_ne h2 (g := g) (t := e1) (cs := cur) hgb (fun e => hne e.symm)
    exact this e.symm
structure CP1 (w : World) (cs z : Array Value) (W : World) : Prop where
  bl : Below w.heap.size w W
  b1 : Blk W w.heap.size 31 cs
  b2 : Blk W (w.heap.size + 1) 31 z
theorem CP1.next {w W W' : World} {cs z : Array Value} (h : CP1 w cs z W) (hb : Below W.heap.size W W') : CP1 w cs z W' :=
  ⟨h.bl.trans (hb.mono h.bl.size), h.b1.below hb h.b1.lt, h.b2.below hb h.b2.lt⟩
theorem CP1.grown {w W W' : World} {cs z : Array Value} {e s n : Nat} {v : Value} {xs : List Value} (h : CP1 w cs z W) (ho : W.ownsRow (w.heap.size + 2) e s v n xs) (hg : W.grownBy W' v.ownBlock) : CP1 w cs z W' :=
  ⟨h.bl.trans (below_own hg h.bl.size fun k hk => by have := (ho.lt k hk).1; omega), h.b1.grown hg fun e => by have := (ho.lt _ e.symm).1; omega, h.b2.grown hg fun e => by have := (ho.lt _ e.symm).1; omega⟩
theorem CP1.cells {w W : World} {a0 a1 a2 a3 a4 z0 z1 z2 z3 z4 : Value} (h : Hid (CP1 w #[a0, a1, a2, a3, a4] #[z0, z1, z2, z3, z4] W)) :
    W.cell? ⟨w.heap.size, 0, none⟩ = some a0 ∧ W.cell? ⟨w.heap.size, 1, none⟩ = some a1 ∧ W.cell? ⟨w.heap.size, 2, none⟩ = some a2 ∧ W.cell? ⟨w.heap.size, 3, none⟩ = some a3 ∧ W.cell? ⟨w.heap.size, 4, none⟩ = some a4 ∧
    W.cell? ⟨w.heap.size + 1, 0, none⟩ = some z0 ∧ W.cell? ⟨w.heap.size + 1, 1, none⟩ = some z1 ∧ W.cell? ⟨w.heap.size + 1, 2, none⟩ = some z2 ∧ W.cell? ⟨w.heap.size + 1, 3, none⟩ = some z3 ∧ W.cell? ⟨w.heap.size + 1, 4, none⟩ = some z4 :=
  ⟨(h.out.b1.cell 0).trans rfl, (h.out.b1.cell 1).trans rfl, (h.out.b1.cell 2).trans rfl, (h.out.b1.cell 3).trans rfl, (h.out.b1.cell 4).trans rfl,
   (h.out.b2.cell 0).trans rfl, (h.out.b2.cell 1).trans rfl, (h.out.b2.cell 2).trans rfl, (h.out.b2.cell 3).trans rfl, (h.out.b2.cell 4).trans rfl⟩
theorem sym_one (S : Nat → SymD) : ∀ i, ∀ u ∈ ((S i).cs).toList, u.oneCell' = true := by
  intro i u hu
  simp only [SymD.cs, List.mem_cons, List.not_mem_nil, or_false] at hu
  rcases hu with rfl | rfl | rfl | rfl | rfl <;> rfl
theorem rel_one (R : Nat → RelD) : ∀ i, ∀ u ∈ ((R i).cs).toList, u.oneCell' = true := by
  intro i u hu
  simp only [RelD.cs, List.mem_cons, List.not_mem_nil, or_false] at hu
  rcases hu with rfl | rfl | rfl | rfl <;> rfl
def symC (S : Nat → SymD) : Nat → Array Value := fun k => (S k).cs
def relC (R : Nat → RelD) : Nat → Array Value := fun k => (R k).cs
set_option maxRecDepth 20000 in
set_option maxHeartbeats 1600000 in
theorem copy13_any (nA sA rA : Option Addr) (nM nQ sM sQ rM rQ : Nat) (so rn : ByteArray) (T : Nat → ByteArray) (S : Nat → SymD) (R : Nat → RelD) (w : World)
    (hT : StR w w.heap.size 1 nA nM (txC T)) (hTn : nM * 16 ≤ 140737488355328) (hS : StR w w.heap.size 5 sA sM (symC S)) (hSn : sM * 40 ≤ 140737488355328) (hR : StR w w.heap.size 4 rA rM (relC R)) (hRn : rM * 32 ≤ 140737488355328) :
    Calls Try.prog 15 #[.agg #[.slice nA nM nQ, .string so, .string rn, .slice sA sM sQ, .slice rA rM rQ]] w fun e W' => ∃ nA' nQ' sA' sQ' rA' rQ', e = .returned (.agg #[.slice nA' nM nQ', .string so, .string rn, .slice sA' sM sQ', .slice rA' rM rQ']) ∧
      W'.ownsRow w.heap.size 9 1 (.slice nA' nM nQ') nM (flatG (txC T) nM) ∧ W'.ownsRow w.heap.size 46 5 (.slice sA' sM sQ') sM (flatG (symC S) sM) ∧ W'.ownsRow w.heap.size 71 4 (.slice rA' rM rQ') rM (flatG (relC R) rM) ∧ Below w.heap.size w W' := by
  have HT := Lib.hid hT; have HS := Lib.hid hS; have HR := Lib.hid hR
  have hmm : maxLen = 9223372036854775807 := by simp [maxLen]
  obtain ⟨i0, hi0, hz0, hz1, hz2⟩ := info_parts info46
  obtain ⟨j0, hj0, hy0, hy1, hy2⟩ := info_parts info71
  obtain ⟨ss, hss⟩ : ∃ x, x = flatG (symC S) sM := ⟨_, rfl⟩
  obtain ⟨rs, hrs⟩ : ∃ x, x = flatG (relC R) rM := ⟨_, rfl⟩
  have HSS := Lib.hid hss; have HRS := Lib.hid hrs
  have S1 : Hid (∀ u ∈ ss, u.oneCell' = true) := Lib.hid (by rw [hss]; exact flatG_one (sym_one S) sM)
  have R1 : Hid (∀ u ∈ rs, u.oneCell' = true) := Lib.hid (by rw [hrs]; exact flatG_one (rel_one R) rM)
  have RS : Hid (Reads w w.heap.size 5 sA sM ss) := Lib.hid (by rw [hss]; exact hS.readsG (fun _ => rfl) (by omega))
  have RR : Hid (Reads w w.heap.size 4 rA rM rs) := Lib.hid (by rw [hrs]; exact hR.readsG (fun _ => rfl) (by omega))
  have C0 : Hid (CP1 w #[.slice nA nM nQ, .string so, .string rn, .slice sA sM sQ, .slice rA rM rQ] #[.slice none 0 0, .string ⟨#[]⟩, .string ⟨#[]⟩, .slice none 0 0, .slice none 0 0] ((w.alloc (.cells #[.slice nA nM nQ, .string so, .string rn, .slice sA sM sQ, .slice rA rM rQ] 31)).alloc (.cells #[.slice none 0 0, .string ⟨#[]⟩, .string ⟨#[]⟩, .slice none 0 0, .slice none 0 0] 31))) :=
    Lib.hid ⟨((Below.refl _ _).alloc (Nat.le_refl _) _).alloc (by simp) _, (Blk.new _ _ _).alloc _, blk_at _ _ (by simp)⟩
  clear hT hS hR hss hrs
  go_enter Try.func15, Try.ntmps15
  go_wp2_with (first
    | (at_builtin
       refine wpList_append_any _ rfl (.tmp 5) (.tmp 7) _ rfl (w.heap.size + 2) 46 i0 _ 5 40 Try.underlying28 hi0 hz0 hz1 hz2 rfl (by omega) (.slice none 0 0) 0 [] rfl (World.ownsRow_nil _ _ _ _) w.heap.size sA sM sQ ss rfl (RS.out.below C0.out.bl) S1.out (by simp only [maxLen]; omega) (by omega) (by simp) ?_
       intro v1 w4 hown1 hg1 hat1
       rw [Nat.zero_add, List.nil_append] at hown1
       have C1 := Lib.hid (C0.out.grown (World.ownsRow_nil _ _ 46 5) hg1)
       have HO1 := Lib.hid hown1
       obtain ⟨A1, q1, rfl⟩ := ownsRow_val hown1
       obtain ⟨a0, a1, a2, a3, a4, z0, z1, z2, z3, z4⟩ := CP1.cells C1
       have hz4 : w.heap.size + 2 ≤ w4.heap.size := C1.out.b2.lt
       clear hown1 hg1 hat1 C0)
    | (at_builtin
       refine wpList_append_any _ rfl (.tmp 9) (.tmp 11) _ rfl (w.heap.size + 2) 71 j0 _ 4 32 Try.underlying29 hj0 hy0 hy1 hy2 rfl (by omega) (.slice none 0 0) 0 [] rfl (World.ownsRow_nil _ _ _ _) w.heap.size rA rM rQ rs rfl (RR.out.below C1.out.bl) R1.out (by simp only [maxLen]; omega) (by omega) hz4 ?_
       intro v2 w5 hown2 hg2 hat2
       rw [Nat.zero_add, List.nil_append] at hown2
       have C2 := Lib.hid (C1.out.grown (World.ownsRow_nil _ _ 71 4) hg2)
       have HO1' := Lib.hid (owns_apart HO1.out (World.ownsRow_nil _ 0 71 4) (by decide) hg2)
       have HO2 := Lib.hid hown2
       obtain ⟨A2, q2, rfl⟩ := ownsRow_val hown2
       clear a0 a1 a2 a3 a4 z0 z1 z2 z3 z4
       obtain ⟨a0, a1, a2, a3, a4, z0, z1, z2, z3, z4⟩ := CP1.cells C2
       have hz5 : w.heap.size + 2 ≤ w5.heap.size := C2.out.b2.lt
       clear hown2 hg2 hat2 C1 HO1 hz4))
  refine (copytexts_any nA nM nQ T _ ((HT.out.below C2.out.bl).more (by omega)) hTn).mono ?_
  rintro e w6 ⟨A3, q3, rfl, hown3, bl6⟩
  have C3 := Lib.hid (C2.out.next bl6)
  have P1 := Lib.hid (owns_below HO1'.out bl6)
  have P2 := Lib.hid (owns_below HO2.out bl6)
  have P3 := Lib.hid (owns_base hown3 hz5)
  clear bl6 C2 HO1' HO2 hown3 a0 a1 a2 a3 a4 z0 z1 z2 z3 z4
  obtain ⟨a0, a1, a2, a3, a4, z0, z1, z2, z3, z4⟩ := CP1.cells C3
  have f1 : ∀ j, w6.frozen? ⟨w.heap.size, j, none⟩ = false := fun j => C3.out.b1.frozen j
  have f2 : ∀ j, w6.frozen? ⟨w.heap.size + 1, j, none⟩ = false := fun j => C3.out.b2.frozen j
  have l1 := C3.out.b1.lt
  have l2 := C3.out.b2.lt
  go_wp2_with fail
  obtain ⟨W', hW'⟩ : ∃ W', W' = (((((((w6.setCell ⟨w.heap.size, 0, none⟩ (.slice A3 nM q3)).setCell ⟨w.heap.size, 3, none⟩ (.slice A1 sM q1)).setCell ⟨w.heap.size, 4, none⟩ (.slice A2 rM q2)).setCell ⟨w.heap.size + 1, 0, none⟩ (.slice A3 nM q3)).setCell ⟨w.heap.size + 1, 1, none⟩ (.string so)).setCell ⟨w.heap.size + 1, 2, none⟩ (.string rn)).setCell ⟨w.heap.size + 1, 3, none⟩ (.slice A1 sM q1)).setCell ⟨w.heap.size + 1, 4, none⟩ (.slice A2 rM q2) := ⟨_, rfl⟩
  have B2 : Blk W' (w.heap.size + 1) 31 #[.slice A3 nM q3, .string so, .string rn, .slice A1 sM q1, .slice A2 rM q2] := by
    rw [hW']
    exact (((((((C3.out.b2.far (by simp) _).far (by simp) _).far (by simp) _).set_ 0 _).set_ 1 _).set_ 2 _).set_ 3 _).set_ 4 _
  have y0 : W'.cell? ⟨w.heap.size + 1, 0, none⟩ = some (.slice A3 nM q3) := (B2.cell 0).trans rfl
  have y1 : W'.cell? ⟨w.heap.size + 1, 1, none⟩ = some (.string so) := (B2.cell 1).trans rfl
  have y2 : W'.cell? ⟨w.heap.size + 1, 2, none⟩ = some (.string rn) := (B2.cell 2).trans rfl
  have y3 : W'.cell? ⟨w.heap.size + 1, 3, none⟩ = some (.slice A1 sM q1) := (B2.cell 3).trans rfl
  have y4 : W'.cell? ⟨w.heap.size + 1, 4, none⟩ = some (.slice A2 rM q2) := (B2.cell 4).trans rfl
  rw [← hW']
  refine bodyPost_ret (v := .agg #[.slice A3 nM q3, .string so, .string rn, .slice A1 sM q1, .slice A2 rM q2]) (by simp [results, Try.results15, go_sem, y0, y1, y2, y3, y4]) rfl ⟨_, _, _, _, _, _, rfl, ?_, ?_, ?_, ?_⟩
  all_goals rw [hW']
  · refine owns_base (base := w.heap.size + 2) ?_ (by omega)
    iterate 8 (refine owns_set ?_ (by omega) _)
    exact P3.out
  · refine owns_base (base := w.heap.size + 2) ?_ (by omega)
    iterate 8 (refine owns_set ?_ (by omega) _)
    have := P1.out; rw [HSS.out] at this; exact this
  · refine owns_base (base := w.heap.size + 2) ?_ (by omega)
    iterate 8 (refine owns_set ?_ (by omega) _)
    have := P2.out; rw [HRS.out] at this; exact this
  · iterate 8 (refine Below.setCell ?_ (by simp) _)
    exact C3.out.bl
end Go.Proofs.Ytneleioiondapaa
