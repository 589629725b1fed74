import Derived.Test.YtneleioiondapaaY20
namespace Go.Proofs.Ytneleioiondapaa
open Go.RowKit Go.Shelf Go.Hos
set_option linter.unusedVariables false
/-! the law's own copy of the objects -/
/-- what 'ObjR' says nothing of: names and relocations -/
def ObjX (W : World) (B m : Nat) (O : Nat → ObjD) (X : Nat → (Nat → ByteArray) × (Nat → RelD)) : Prop := ∀ i, i < m → StR W B 1 (O i).nA (O i).nM (txC (X i).1) ∧ (O i).nM * 16 ≤ 140737488355328 ∧ StR W B 4 (O i).rA (O i).rM (relC (X i).2) ∧ (O i).rM * 32 ≤ 140737488355328
theorem ObjX.below {W W' : World} {B m : Nat} {O : Nat → ObjD} {X : Nat → (Nat → ByteArray) × (Nat → RelD)} (h : ObjX W B m O X) (hb : Below B W W') : ObjX W' B m O X := fun i hi => ⟨(h i hi).1.below hb, (h i hi).2.1, (h i hi).2.2.1.below hb, (h i hi).2.2.2⟩
theorem ObjX.more {W : World} {B B' m : Nat} {O : Nat → ObjD} {X : Nat → (Nat → ByteArray) × (Nat → RelD)} (h : ObjX W B m O X) (hB : B ≤ B') : ObjX W B' m O X := fun i hi => ⟨(h i hi).1.more hB, (h i hi).2.1, (h i hi).2.2.1.more hB, (h i hi).2.2.2⟩
/-- the same but for where it lies -/
def SameD (o o' : ObjD) : Prop := ∃ nA nQ sA sQ rA rQ, o' = { o with nA := nA, nQ := nQ, sA := sA, sQ := sQ, rA := rA, rQ := rQ }
theorem SameD.refl (o : ObjD) : SameD o o := ⟨_, _, _, _, _, _, rfl⟩
theorem SameD.alike {O O' : Nat → ObjD} (h : ∀ i, SameD (O i) (O' i)) : Alike O O' := fun i => by
  obtain ⟨_, _, _, _, _, _, e⟩ := h i
  rw [e]; exact ⟨rfl, rfl, rfl⟩
/-- the rows of one copy -/
def RowsC (w W : World) (o : ObjD) (x : (Nat → ByteArray) × (Nat → RelD)) : Prop :=
  W.ownsRow w.heap.size 9 1 (.slice o.nA o.nM o.nQ) o.nM (flatG (txC x.1) o.nM) ∧ W.ownsRow w.heap.size 46 5 (.slice o.sA o.sM o.sQ) o.sM (flatG (symC o.sy) o.sM) ∧ W.ownsRow w.heap.size 71 4 (.slice o.rA o.rM o.rQ) o.rM (flatG (relC x.2) o.rM)
structure CPD (w : World) (O : Nat → ObjD) (X : Nat → (Nat → ByteArray) × (Nat → RelD)) (O' : Nat → ObjD) (i : Nat) (v : Value) (W : World) : Prop where
  ow : W.ownsRow w.heap.size 38 11 v i (flatC O' i)
  bl : Below w.heap.size w W
  al : ∀ j, SameD (O j) (O' j)
  cp : ∀ j, j < i → RowsC w W (O' j) (X j)
theorem CPD.next {w W W' : World} {O O' : Nat → ObjD} {X : Nat → (Nat → ByteArray) × (Nat → RelD)} {i : Nat} {v : Value} (h : CPD w O X O' i v W) (hb : Below W.heap.size W W') : CPD w O X O' i v W' :=
  ⟨owns_below h.ow hb, h.bl.trans (hb.mono h.bl.size), h.al, fun j hj => ⟨owns_below (h.cp j hj).1 hb, owns_below (h.cp j hj).2.1 hb, owns_below (h.cp j hj).2.2 hb⟩⟩
theorem CPD.push {w W W' : World} {O O' : Nat → ObjD} {X : Nat → (Nat → ByteArray) × (Nat → RelD)} {i : Nat} {v v' : Value} {o : ObjD} (h : CPD w O X O' i v W) (ho : W'.ownsRow w.heap.size 38 11 v' (i + 1) (flatC O' i ++ o.cs.toList)) (hg : W.grownBy W' v.ownBlock) (hr : RowsC w W o (X i)) (hs : SameD (O i) o) :
    CPD w O X (fun j => if j = i then o else O' j) (i + 1) v' W' := by
  refine ⟨?_, h.bl.trans (below_own hg h.bl.size fun k hk => (h.ow.lt k hk).1), fun j => ?_, fun j hj => ?_⟩
  · show W'.ownsRow _ _ _ _ _ (flatC _ i ++ _)
    rw [flatC_congr (O := fun j => if j = i then o else O' j) (O' := O') i fun k hk => by rw [if_neg (by omega)]]
    rw [show (fun j => if j = i then o else O' j) i = o from if_pos rfl]; exact ho
  · by_cases e : j = i
    · subst e; rw [if_pos rfl]; exact hs
    · rw [if_neg e]; exact h.al j
  · by_cases e : j = i
    · subst e; rw [if_pos rfl]
      exact ⟨owns_apart hr.1 h.ow (by decide) hg, owns_apart hr.2.1 h.ow (by decide) hg, owns_apart hr.2.2 h.ow (by decide) hg⟩
    · rw [if_neg e]
      have hr := h.cp j (by omega)
      exact ⟨owns_apart hr.1 h.ow (by decide) hg, owns_apart hr.2.1 h.ow (by decide) hg, owns_apart hr.2.2 h.ow (by decide) hg⟩
set_option maxRecDepth 20000 in
set_option maxHeartbeats 3200000 in
theorem copied_any (A : Option Addr) (m c : Nat) (O : Nat → ObjD) (X : Nat → (Nat → ByteArray) × (Nat → RelD)) (w : World) (hR : ObjR w w.heap.size A m O) (hX : ObjX w w.heap.size m O X) (hlen : m + sumS O m ≤ 300) :
    Calls Try.prog 9 #[.slice A m c] w fun e W' => ∃ A' c' O', e = .returned (.slice A' m c') ∧ CPD w O X O' m (.slice A' m c') W' := by
  have hm := hR.len
  have hmm : maxLen = 9223372036854775807 := by simp [maxLen]
  have H := Lib.hid hR; have HX := Lib.hid hX; have HLEN := Lib.hid hlen
  obtain ⟨i0, hi0, hz0, hz1, hz2⟩ := info_parts info38'
  have hm3 : m ≤ 300 := by omega
  clear hR hX hlen
  go_enter Try.func9, Try.ntmps9
  go_wp2_with fail
  go_loopw [3, 4] (fun v3 v4 wr => ∃ (i q : Nat) (Ao : Option Addr) (O' : Nat → ObjD), i ≤ m ∧ v3 = .slice Ao i q ∧ v4 = .int .i64 i ∧ Hid (CPD w O X O' i (.slice Ao i q) wr)) (fun _ v4 _ => m - (intOf v4).toNat)
  case atStart => exact ⟨0, 0, none, O, Nat.zero_le _, rfl, rfl, Lib.hid ⟨World.ownsRow_nil _ _ _ _, Below.refl _ _, fun j => SameD.refl _, fun j hj => by omega⟩⟩
  case round =>
    obtain ⟨i, q, Ao, O', hi, rfl, rfl, cpd⟩ := hrel
    by_cases him : i < m
    · have e1 : decide ((i : Int) < (m : Int)) = true := by simp; omega
      have e2 : (i : Int) < (m : Int) := by omega
      obtain ⟨ad, rfl, had, c0, c1, c2, c3, c4, c5, c6, c7, c8, c9, c10⟩ := (H.out.below cpd.out.bl).cells him
      have hsl : (O i).sM ≤ 300 := by have := sumS_get O m i him; have := HLEN.out; omega
      have hsy := ((H.out.below cpd.out.bl).sy i him).1
      obtain ⟨x1, x2, x3, x4⟩ := (HX.out.below cpd.out.bl) i him
      obtain ⟨o, ho⟩ : ∃ o, o = O i := ⟨_, rfl⟩
      obtain ⟨x, hx⟩ : ∃ x, x = X i := ⟨_, rfl⟩
      rw [← ho] at c0 c1 c2 c3 c4 c5 c6 c7 c8 c9 c10 hsl hsy x1 x2 x3 x4
      rw [← hx] at x1 x3
      have HO := Lib.hid ho
      have HXX := Lib.hid hx
      obtain ⟨ino, base, ty, en, ph, gA, gM, gQ, nA, nM, nQ, so, rn, sA, sM, sQ, rA, rM, rQ, sy⟩ := o
      dsimp only at c0 c1 c2 c3 c4 c5 c6 c7 c8 c9 c10 hsl hsy x1 x2 x3 x4
      have X1 := Lib.hid x1; have X3 := Lib.hid x3; have HSY := Lib.hid hsy
      have lad := World.block_lt_of_cell? _ _ c1
      clear ho hx x1 x3 hsy
      have bl1 : Below wr.heap.size wr (wr.alloc (.cells #[.int .i64 ino, .int .u64 base, .int .u16 ty, .int .u64 en, .int .u64 ph, .slice gA gM gQ, .slice nA nM nQ, .string so, .string rn, .slice sA sM sQ, .slice rA rM rQ] 38)) := (Below.refl _ _).alloc (Nat.le_refl _) _
      have B1 := Lib.hid bl1
      have hzw := cpd.out.bl.size
      clear bl1
      go_wp2_with fail
      refine (copy13_any nA sA rA nM nQ sM sQ rM rQ so rn x.1 sy x.2 _ ((X1.out.more hzw).below B1.out |>.more (by simp)) x2 ((HSY.out.more hzw).below B1.out |>.more (by simp)) (by omega) ((X3.out.more hzw).below B1.out |>.more (by simp)) x4).mono ?_
      rintro e w2 ⟨nA', nQ', sA', sQ', rA', rQ', rfl, r1, r2, r3, bl2⟩
      have R1 := Lib.hid r1; have R2 := Lib.hid r2; have R3 := Lib.hid r3
      have B2 := Lib.hid (B1.out.trans (bl2.mono (by simp)))
      have KB : Hid (Blk w2 wr.heap.size 38 #[.int .i64 ino, .int .u64 base, .int .u16 ty, .int .u64 en, .int .u64 ph, .slice gA gM gQ, .slice nA nM nQ, .string so, .string rn, .slice sA sM sQ, .slice rA rM rQ]) := Lib.hid ((Blk.new wr 38 _).below bl2 (by simp))
      have k0 := (KB.out.cell 0).trans rfl
      have k1 := (KB.out.cell 1).trans rfl
      have k2 := (KB.out.cell 2).trans rfl
      have k3 := (KB.out.cell 3).trans rfl
      have k4 := (KB.out.cell 4).trans rfl
      have k5 := (KB.out.cell 5).trans rfl
      have k6 := (KB.out.cell 6).trans rfl
      have k7 := (KB.out.cell 7).trans rfl
      have k8 := (KB.out.cell 8).trans rfl
      have k9 := (KB.out.cell 9).trans rfl
      have k10 := (KB.out.cell 10).trans rfl
      have kf : ∀ j, w2.frozen? ⟨wr.heap.size, j, none⟩ = false := fun j => KB.out.frozen j
      have lk := KB.out.lt
      simp only [List.getElem?_toArray, List.getElem?_cons_succ, List.getElem?_cons_zero] at k0 k1 k2 k3 k4 k5 k6 k7 k8 k9 k10
      clear r1 r2 r3 bl2 c0 c1 c2 c3 c4 c5 c6 c7 c8 c9 c10 lad
      have b3 : Below wr.heap.size wr (((((w2.setCell ⟨wr.heap.size, 6, none⟩ (.slice nA' nM nQ')).setCell ⟨wr.heap.size, 7, none⟩ (.string so)).setCell ⟨wr.heap.size, 8, none⟩ (.string rn)).setCell ⟨wr.heap.size, 9, none⟩ (.slice sA' sM sQ')).setCell ⟨wr.heap.size, 10, none⟩ (.slice rA' rM rQ')) := by
        iterate 5 (refine Below.setCell ?_ (by simp) _)
        exact B2.out
      have B3 := Lib.hid b3
      have RC : Hid (RowsC wr (((((w2.setCell ⟨wr.heap.size, 6, none⟩ (.slice nA' nM nQ')).setCell ⟨wr.heap.size, 7, none⟩ (.string so)).setCell ⟨wr.heap.size, 8, none⟩ (.string rn)).setCell ⟨wr.heap.size, 9, none⟩ (.slice sA' sM sQ')).setCell ⟨wr.heap.size, 10, none⟩ (.slice rA' rM rQ')) ⟨ino, base, ty, en, ph, gA, gM, gQ, nA', nM, nQ', so, rn, sA', sM, sQ', rA', rM, rQ', sy⟩ x) := by
        refine Lib.hid ⟨?_, ?_, ?_⟩
        all_goals
          refine owns_base (base := wr.heap.size + 1) ?_ (by omega)
          iterate 5 (refine owns_set ?_ (by omega) _)
        · simpa using R1.out
        · simpa using R2.out
        · simpa using R3.out
      have CP3 : Hid (CPD w O X O' i (.slice Ao i q) ((((((w2.setCell ⟨wr.heap.size, 6, none⟩ (.slice nA' nM nQ')).setCell ⟨wr.heap.size, 7, none⟩ (.string so)).setCell ⟨wr.heap.size, 8, none⟩ (.string rn)).setCell ⟨wr.heap.size, 9, none⟩ (.slice sA' sM sQ')).setCell ⟨wr.heap.size, 10, none⟩ (.slice rA' rM rQ')).alloc (.cells #[.int .i64 ino, .int .u64 base, .int .u16 ty, .int .u64 en, .int .u64 ph, .slice gA gM gQ, .slice nA' nM nQ', .string so, .string rn, .slice sA' sM sQ', .slice rA' rM rQ'] 38))) := Lib.hid (cpd.out.next (B3.out.alloc B3.out.size _))
      have RC3 : Hid (RowsC w ((((((w2.setCell ⟨wr.heap.size, 6, none⟩ (.slice nA' nM nQ')).setCell ⟨wr.heap.size, 7, none⟩ (.string so)).setCell ⟨wr.heap.size, 8, none⟩ (.string rn)).setCell ⟨wr.heap.size, 9, none⟩ (.slice sA' sM sQ')).setCell ⟨wr.heap.size, 10, none⟩ (.slice rA' rM rQ')).alloc (.cells #[.int .i64 ino, .int .u64 base, .int .u16 ty, .int .u64 en, .int .u64 ph, .slice gA gM gQ, .slice nA' nM nQ', .string so, .string rn, .slice sA' sM sQ', .slice rA' rM rQ'] 38)) ⟨ino, base, ty, en, ph, gA, gM, gQ, nA', nM, nQ', so, rn, sA', sM, sQ', rA', rM, rQ', sy⟩ (X i)) := by
        rw [← HXX.out]
        exact Lib.hid ⟨owns_base (RC.out.1.alloc _) hzw, owns_base (RC.out.2.1.alloc _) hzw, owns_base (RC.out.2.2.alloc _) hzw⟩
      have SD : Hid (SameD (O i) ⟨ino, base, ty, en, ph, gA, gM, gQ, nA', nM, nQ', so, rn, sA', sM, sQ', rA', rM, rQ', sy⟩) := by rw [← HO.out]; exact Lib.hid ⟨nA', nQ', sA', sQ', rA', rQ', rfl⟩
      obtain ⟨xs, hxs⟩ : ∃ x, x = flatC O' i := ⟨_, rfl⟩
      have OW := CP3.out.ow
      rw [← hxs] at OW
      have HOW := Lib.hid OW
      have HXS := Lib.hid hxs
      have hz8 : w.heap.size ≤ ((((((w2.setCell ⟨wr.heap.size, 6, none⟩ (.slice nA' nM nQ')).setCell ⟨wr.heap.size, 7, none⟩ (.string so)).setCell ⟨wr.heap.size, 8, none⟩ (.string rn)).setCell ⟨wr.heap.size, 9, none⟩ (.slice sA' sM sQ')).setCell ⟨wr.heap.size, 10, none⟩ (.slice rA' rM rQ')).alloc (.cells #[.int .i64 ino, .int .u64 base, .int .u16 ty, .int .u64 en, .int .u64 ph, .slice gA gM gQ, .slice nA' nM nQ', .string so, .string rn, .slice sA' sM sQ', .slice rA' rM rQ'] 38)).heap.size := CP3.out.bl.size
      clear b3 OW hxs RC B3 B2 R1 R2 R3
      go_wp2_with (at_builtin
                   refine wpList_append_any _ rfl (.tmp 20) (.tmp 22) _ rfl w.heap.size 38 i0 _ 11 168 Try.underlying22 hi0 hz0 hz1 hz2 rfl (by omega) (.slice Ao i q) i xs rfl HOW.out (w2.heap.size + 1) (some ⟨w2.heap.size, 0, none⟩) 1 1 [.int .i64 ino, .int .u64 base, .int .u16 ty, .int .u64 en, .int .u64 ph, .slice gA gM gQ, .slice nA' nM nQ', .string so, .string rn, .slice sA' sM sQ', .slice rA' rM rQ'] rfl (reads_new (((((w2.setCell ⟨wr.heap.size, 6, none⟩ (.slice nA' nM nQ')).setCell ⟨wr.heap.size, 7, none⟩ (.string so)).setCell ⟨wr.heap.size, 8, none⟩ (.string rn)).setCell ⟨wr.heap.size, 9, none⟩ (.slice sA' sM sQ')).setCell ⟨wr.heap.size, 10, none⟩ (.slice rA' rM rQ')) 38 11 1 [.int .i64 ino, .int .u64 base, .int .u16 ty, .int .u64 en, .int .u64 ph, .slice gA gM gQ, .slice nA' nM nQ', .string so, .string rn, .slice sA' sM sQ', .slice rA' rM rQ'] (by simp) rfl) (by simp [Value.oneCell']) (by simp only [maxLen]; omega) (by omega) hz8 ?_
                   intro v4 w4 hown4 hg4 hat4
                   rw [HXS.out] at hown4
                   have CP4 := Lib.hid (CPD.push (o := ⟨ino, base, ty, en, ph, gA, gM, gQ, nA', nM, nQ', so, rn, sA', sM, sQ', rA', rM, rQ', sy⟩) CP3.out hown4 hg4 RC3.out SD.out)
                   obtain ⟨A4, q4, rfl⟩ := ownsRow_val hown4
                   clear hown4 hg4 hat4)
      go_roundw
      case rel => exact ⟨i + 1, q4, A4, _, by omega, rfl, by go_num, CP4⟩
      case measure => simp [intOf]; omega
    · obtain rfl : i = m := by omega
      have d1 : decide ((i : Int) < (i : Int)) = false := by simp
      go_wp2_with fail
      go_ret
      exact ⟨_, _, _, rfl, cpd.out⟩
end Go.Proofs.Ytneleioiondapaa
