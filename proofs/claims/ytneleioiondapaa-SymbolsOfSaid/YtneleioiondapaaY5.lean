import Derived.Test.YtneleioiondapaaY4
import Derived.Maps.OwnIn
import Derived.Maps.OwnSet
import Derived.Maps.AppendAt
import Derived.StringKeys
namespace Go.Proofs.Ytneleioiondapaa
open Go.RowKit Go.Shelf Go.Hos
set_option linter.unusedVariables false
attribute [local go_sem] Oper.semAt_some
def hasN (l : List ByteArray) (s : ByteArray) : Bool := l.any fun a => decide (a = s)
/-- the names so far, each once -/
def addN (O : Nat → ObjD) (acc : List ByteArray) (x : Nat × Nat) : List ByteArray := if hasN acc (symA O x).nm then acc else acc ++ [(symA O x).nm]
def allN (O : Nat → ObjD) (l : List (Nat × Nat)) : List ByteArray := l.foldl (addN O) []
theorem allN_snoc (O : Nat → ObjD) (pre : List (Nat × Nat)) (x : Nat × Nat) : allN O (pre ++ [x]) = addN O (allN O pre) x := by simp [allN]
theorem allN_len (O : Nat → ObjD) : ∀ (l : List (Nat × Nat)) (acc : List ByteArray), (l.foldl (addN O) acc).length ≤ acc.length + l.length
  | [], acc => by simp
  | x :: r, acc => by
    have := allN_len O r (addN O acc x)
    have h2 : (addN O acc x).length ≤ acc.length + 1 := by unfold addN; split <;> simp
    simp; omega
theorem allN_le (O : Nat → ObjD) (l : List (Nat × Nat)) : (allN O l).length ≤ l.length := by have := allN_len O l []; simpa [allN] using this
def keyL (s : ByteArray) : Lit := .string s.data.toList
def namD (l : List ByteArray) : DataW Unit := Maps.setOf (.agg []) (l.map keyL)
theorem namD_snoc (l : List ByteArray) (s : ByteArray) : namD (l ++ [s]) = (namD l).put (keyL s) (.agg []) := by simp [namD, Maps.setOf_snoc]
theorem has_namD (l : List ByteArray) (s : ByteArray) : Maps.has (namD l) (keyL s) = hasN l s := by
  unfold namD hasN
  rw [Maps.has_setOf _ _ _ (fun y hy => by obtain ⟨_, _, rfl⟩ := List.mem_map.1 hy; trivial), List.any_map]
  congr 1
  funext a
  show (a.data.toList == s.data.toList) = decide (a = s)
  by_cases e : a = s
  · subst e; simp
  · have : ¬ a.data.toList = s.data.toList := fun h => e (by cases a; cases s; congr 1; exact Array.toList_inj.1 h)
    rw [beq_eq_false_iff_ne.2 this, decide_eq_false e]
theorem info9 : (Try.prog.info? 9).map (fun i => (i.zero, i.size, i.bytes)) = some (some (.string ⟨#[]⟩), 1, 16) := by kernel_rfl
/-- what All keeps between two rounds -/
structure ALI (w : World) (O : Nat → ObjD) (pre : List (Nat × Nat)) (W : World) : Prop where
  bo : ∃ v, Boxed W w.heap.size 27 v ∧ W.ownsRow w.heap.size 9 1 v (allN O pre).length ((allN O pre).map Value.string)
  bt : Boxed W (w.heap.size + 1 + 1) 56 (.map (some (w.heap.size + 1)))
  mo : W.ownsMap Try.prog 9 (unitElem (H := Unit)) (w.heap.size + 1) (allN O pre).length (namD (allN O pre))
  bl : Below w.heap.size w W
theorem ALI.own (w : World) (O : Nat → ObjD) (M : Nat) (hM : w.heap.size + 2 ≤ M) : OwnFrom M (ALI w O) := fun s X Y row hs hg hr => by
  have hr2 := fun r e => (hr r e).2
  have hb := holdsRow_own w.heap.size w.heap.size 27 9 1 (fun pre => (allN O pre).length) (fun pre => (allN O pre).map Value.string) (fun _ _ => True) s X Y row (by obtain ⟨v, h1, h2⟩ := hs.bo; exact ⟨v, h1, h2, trivial⟩) hg hr2
  exact ⟨by obtain ⟨v, h1, h2, _⟩ := hb; exact ⟨v, h1, h2⟩, boxed_grown hs.bt hg hr2, hs.mo.kept hg (fun e => by have := (hr _ e.symm).1; omega), (ownFrom_below (β := Unit) (w₀ := w) (Nat.le_refl _) (by omega)) () X Y row hs.bl hg hr⟩
theorem all_stage {h k : Nat} {D : DataW Unit} {W w1 : World} {o : Obj} {v : Value} {xs : List Value} {Bs : Nat} {nm2 : ByteArray} {n₀ : Nat} (hm : Hid (W.ownsMap Try.prog 9 (unitElem (H := Unit)) (h + 1) k D)) (hv : Hid (Boxed W h 27 v)) (hr : Hid (W.ownsRow n₀ 9 1 v k xs))
    (hd : W.cell? ⟨Bs, 0, none⟩ = some (.string nm2)) (hg : (W.alloc o).grownBy w1 (some (h + 1))) (hn : n₀ ≤ W.heap.size) :
    w1.cell? ⟨h, 0, none⟩ = some v ∧ w1.cell? ⟨Bs, 0, none⟩ = some (.string nm2) ∧ W.heap.size < w1.heap.size ∧ n₀ ≤ w1.heap.size ∧ Boxed w1 h 27 v ∧ w1.ownsRow n₀ 9 1 v k xs := by
  obtain ⟨es, ck, hh, _⟩ := hm.out.alloc o
  have hv1 : Boxed w1 h 27 v := (hv.out.alloc o).kept hg (fun e => by injection e with e; omega)
  refine ⟨hv1.cell, ?_, by have := hg.size; simp at this; omega, by have := hg.size; simp at this; omega, hv1, ?_⟩
  · have hlt := World.block_lt_of_cell? _ _ hd
    have h2 : (W.alloc o).cell? ⟨Bs, 0, none⟩ = some (.string nm2) := (World.cell?_alloc_lt W o _ hlt).trans hd
    exact cell_kept h2 hg (fun r e => by cases e; exact ⟨_, hh, rfl⟩)
  · refine (hr.out.alloc o).kept hg ?_
    rcases (hr.out.alloc o).2 with ⟨rfl, _⟩ | ⟨g, cap, cur, rfl, _, hgb, _⟩
    · exact .inl rfl
    · refine .inr fun e' => ?_
      obtain rfl : g = h + 1 := by simpa [Value.ownBlock] using e'
      rw [hgb] at hh; cases hh
theorem ALI.push {w W w1 w2 : World} {O : Nat → ObjD} {pre : List (Nat × Nat)} {x : Nat × Nat} {M : Nat} {o tmp : Obj} {v v' : Value} (hM : w.heap.size + 2 ≤ M) (hi : ALI w O pre W) (hno : hasN (allN O pre) (symA O x).nm = false)
    (hm : w1.ownsMap Try.prog 9 (unitElem (H := Unit)) (w.heap.size + 1) ((allN O pre).length + 1) ((namD (allN O pre)).put (keyL (symA O x).nm) (.agg []))) (hg : (W.alloc o).grownBy w1 (some (w.heap.size + 1)))
    (hv2 : Boxed (w2.setCell ⟨w.heap.size, 0, none⟩ v') w.heap.size 27 v') (hr2 : (w2.setCell ⟨w.heap.size, 0, none⟩ v').ownsRow w.heap.size 9 1 v' ((allN O pre).length + 1) ((allN O pre).map Value.string ++ [.string (symA O x).nm]))
    (hk2 : KeepsOthers w1 (w2.setCell ⟨w.heap.size, 0, none⟩ v')) (hb2 : Below w.heap.size w1 (w2.setCell ⟨w.heap.size, 0, none⟩ v')) (hv : Boxed w1 w.heap.size 27 v) (hr : w1.ownsRow w.heap.size 9 1 v (allN O pre).length ((allN O pre).map Value.string)) (hgr : (w1.alloc tmp).grownBy w2 v.ownBlock) :
    KeepsFrom M W (w2.setCell ⟨w.heap.size, 0, none⟩ v') ∧ Below w.heap.size W (w2.setCell ⟨w.heap.size, 0, none⟩ v') ∧ ALI w O (pre ++ [x]) (w2.setCell ⟨w.heap.size, 0, none⟩ v') := by
  have e1 : allN O (pre ++ [x]) = allN O pre ++ [(symA O x).nm] := by rw [allN_snoc]; unfold addN; rw [hno]; simp
  have hb1 : Below w.heap.size W w1 := ((Below.refl _ _).alloc hi.bl.size o).grown hg (by have := hi.bl.size; simp; omega) (fun k e => by injection e with e; omega)
  have hbt1 : Boxed w1 (w.heap.size + 1 + 1) 56 (.map (some (w.heap.size + 1))) := (hi.bt.alloc o).kept hg (fun e => by injection e with e; omega)
  refine ⟨((KeepsOthers.alloc W o).from M).trans ((KeepsFrom.of_grownBy hg (fun j e => by injection e with e; omega)).trans (hk2.from M)), hb1.trans hb2, ⟨⟨v', hv2, ?_⟩, ?_, ?_, hi.bl.trans (hb1.trans hb2)⟩⟩
  · rw [e1]; simpa using hr2
  · exact (((hbt1.alloc tmp).kept hgr (hbt1.not_row (by decide) hr)).other (by omega) _)
  · rw [e1, namD_snoc, List.length_append]
    refine World.ownsMap.setCell ((hm.alloc tmp).kept hgr fun e => ?_) (by show w.heap.size + 1 ≠ w.heap.size; omega) _
    obtain ⟨es, ck, hh, _⟩ := hm
    rcases hr.2 with ⟨rfl, _⟩ | ⟨g, cap, cur, rfl, _, hgb, _⟩
    · cases e
    · obtain rfl : w.heap.size + 1 = g := by simpa [Value.ownBlock] using e
      rw [hgb] at hh; cases hh
set_option maxRecDepth 100000 in
set_option maxHeartbeats 4000000 in
theorem all_in (F : Fence) (n : Nat) (h12 : F.fn 12) (h20 : F.fn 20) (h26 : F.fn 26) (hro : F.round = none) (hn : 6 ≤ n) (A : Option Addr) (m c : Nat) (O : Nat → ObjD) (w : World) (hR : ObjR w w.heap.size A m O) (hNm : ∀ x, (symA O x).nm.size ≤ maxLen) (hlen : (dfO O m).length ≤ 100000) :
    CallsIn F n Try.prog 12 #[.slice A m c] w fun e W' => ∃ v, e = .returned v ∧ W'.ownsRow w.heap.size 9 1 v (allN O (dfO O m)).length ((allN O (dfO O m)).map Value.string) ∧ Below w.heap.size w W' := by
  have h1 : 1 ≤ n := by omega
  have hmm := @run_makeMap Try.prog
  obtain ⟨i0, hi, hz0, hz1, hz2⟩ := info_parts info9
  refine callsIn_of_wp_marks Try.func12 rfl h12 ?_ hro
  simp only [Try.ntmps12, List.size_toArray, List.length_cons, List.length_nil, Nat.reduceAdd, Nat.reduceSub, Array.replicate_succ, Array.replicate_zero, List.push_toArray, List.append_toArray, List.nil_append, List.cons_append]
  gi_wp2_with (gi_at_call 20; refine (defs_in F (n - 1) h20 hro _ _ _ _).mono ?_; rintro e w' ⟨rfl, rfl⟩)
  have bO : Boxed ((((w.alloc (.cells #[.slice none 0 0] 27)).alloc (.map #[] 0)).alloc (.cells #[.map (some (w.heap.size + 1))] 56)).alloc (.cells #[.slice A m c] 22)) w.heap.size 27 (.slice none 0 0) := (((Boxed.new w 27 (.slice none 0 0)).alloc _).alloc _).alloc _
  have bM := ((World.ownsMap_made (w.alloc (.cells #[.slice none 0 0] 27)) Try.prog 9 (unitElem (H := Unit))).alloc (.cells #[.map (some (w.heap.size + 1))] 56)).alloc (.cells #[.slice A m c] 22)
  rw [World.size_alloc] at bM
  have bT : Boxed ((((w.alloc (.cells #[.slice none 0 0] 27)).alloc (.map #[] 0)).alloc (.cells #[.map (some (w.heap.size + 1))] 56)).alloc (.cells #[.slice A m c] 22)) (w.heap.size + 1 + 1) 56 (.map (some (w.heap.size + 1))) := by
    have := (Boxed.new ((w.alloc (.cells #[.slice none 0 0] 27)).alloc (.map #[] 0)) 56 (.map (some (w.heap.size + 1)))).alloc (.cells #[.slice A m c] 22)
    simpa only [World.size_alloc] using this
  have bL : Boxed ((((w.alloc (.cells #[.slice none 0 0] 27)).alloc (.map #[] 0)).alloc (.cells #[.map (some (w.heap.size + 1))] 56)).alloc (.cells #[.slice A m c] 22)) (w.heap.size + 1 + 1 + 1) 22 (.slice A m c) := by
    have := Boxed.new (((w.alloc (.cells #[.slice none 0 0] 27)).alloc (.map #[] 0)).alloc (.cells #[.map (some (w.heap.size + 1))] 56)) 22 (.slice A m c)
    simpa only [World.size_alloc] using this
  have hB0 : Below w.heap.size w ((((w.alloc (.cells #[.slice none 0 0] 27)).alloc (.map #[] 0)).alloc (.cells #[.map (some (w.heap.size + 1))] 56)).alloc (.cells #[.slice A m c] 22)) :=
    ((((Below.refl _ w).alloc (Nat.le_refl _) _).alloc (by simp) _).alloc (by simp; omega) _).alloc (by simp; omega) _
  have hsz : ((((w.alloc (.cells #[.slice none 0 0] 27)).alloc (.map #[] 0)).alloc (.cells #[.map (some (w.heap.size + 1))] 56)).alloc (.cells #[.slice A m c] 22)).heap.size = w.heap.size + 1 + 1 + 1 + 1 := by simp
  obtain ⟨W0, hW0⟩ : ∃ W0, (((w.alloc (.cells #[.slice none 0 0] 27)).alloc (.map #[] 0)).alloc (.cells #[.map (some (w.heap.size + 1))] 56)).alloc (.cells #[.slice A m c] 22) = W0 := ⟨_, rfl⟩
  rw [hW0] at bO bM bT bL hB0 hsz ⊢
  clear hW0
  refine wpIn_rangeFunc_ownH hro h1 (gf := 26) (lb := #[.pointer (some ⟨w.heap.size + 1 + 1 + 1, 0, none⟩)]) rfl h26 (enters_of Try.func26 (by kernel_rfl) rfl)
    (defs_stops F (n - 1) h26 hro (by omega) (w.heap.size + 1 + 1 + 1) w.heap.size m c A O W0 (by omega) (by omega) bL.cell (hR.below hB0)) belowK_t (belowK_b (by omega)) (Below.refl _ _) (fun _ => rfl)
    (ALI w O) (fun _ _ _ => False) (ALI.own w O _ (by omega)) (fun _ _ _ _ _ hs _ _ => hs)
    ⟨⟨_, bO, World.ownsRow_nil _ _ _ _⟩, bT, bM, hB0⟩
    (fun x a' W => ∃ Bs, w.heap.size + 2 < Bs ∧ Blk W Bs 46 (symA O x).cs ∧ a' = { tmps := #[.slice A m c, undef, .pointer (some ⟨w.heap.size, 0, none⟩), .pointer (some ⟨w.heap.size + 1 + 1, 0, none⟩), undef, .pointer (some ⟨Bs, 0, none⟩), undef, undef, .map (some (w.heap.size + 1)), .slice A m c, .func (.func 26) #[] #[.pointer (some ⟨w.heap.size + 1 + 1 + 1, 0, none⟩)], .agg #[.int .i64 (x.1 : Int), .int .i64 (x.2 : Int)], .agg (symA O x).cs, undef, undef, undef, undef, undef, undef, undef, undef, undef, undef, undef, undef, undef, undef, undef, undef, undef, undef, undef], defers := [] })
    (fun x a' _ X Y row hs hg hr => by obtain ⟨Bs, q2, q4, q5⟩ := hs; exact ⟨Bs, q2, blk_grown q4 hg (fun r e => (hr r e).2), q5⟩)
    ?assign ?body ?done ?stop
  case assign =>
    rintro l pre x W K hi hK
    have HI := Lib.hid hi
    have hsW := hi.bt.lt
    have hK2 := Lib.hid hK
    obtain ⟨s, hs⟩ : ∃ s, s = symA O x := ⟨_, rfl⟩
    have HS := Lib.hid hs
    rw [show encD O x = #[.agg #[.int .i64 (x.1 : Int), .int .i64 (x.2 : Int)], .agg s.cs] by rw [hs]; rfl]
    obtain ⟨nm2, v, sz, bd, df⟩ := s
    unfold SymD.cs
    dsimp only
    clear hi hK hs
    gi_wp2
    have hO := ALI.own w O W0.heap.size (by omega)
    refine hK2.out _ _ ((KeepsOthers.alloc _ _).from _) ((Below.refl _ W).alloc HI.out.bl.size _) (hO.alloc _ HI.out) ⟨W.heap.size, by omega, ?_, ?_⟩
    · rw [← HS.out]; exact blk_at _ _ rfl
    · rw [← HS.out]; rfl
  case body =>
    rintro l pre x a' W hl ⟨r, hr⟩ hi' ⟨Bs, hBs, qs, rfl⟩ hlt
    have HI := Lib.hid hi'
    have d3 : W.cell? ⟨Bs, 0, none⟩ = some (.string (symA O x).nm) := (qs.cell 0).trans rfl
    have lBs := qs.lt
    have dt := hi'.bt.cell
    obtain ⟨v, hv, hrow⟩ := hi'.bo
    have hown := hi'.mo
    have hns := hNm x
    have hcnt := allN_le O pre
    obtain ⟨nm2, hnm2⟩ : ∃ s, s = (symA O x).nm := ⟨_, rfl⟩
    rw [← hnm2] at d3 hns
    have HN := Lib.hid hnm2
    obtain ⟨D, hD⟩ : ∃ D, D = namD (allN O pre) := ⟨_, rfl⟩
    have HD := Lib.hid hD
    rw [← hD] at hown
    obtain ⟨k, hk⟩ : ∃ k, k = (allN O pre).length := ⟨_, rfl⟩
    have HK := Lib.hid hk
    rw [← hk] at hown hrow hcnt
    obtain ⟨xs, hxs⟩ : ∃ xs, xs = (allN O pre).map Value.string := ⟨_, rfl⟩
    have HXS := Lib.hid hxs
    rw [← hxs] at hrow
    have hkey : keyOf Try.prog 9 (.string nm2) = some (keyL nm2) := Go.WideMaps.keyOf_string_mk Try.underlying9 hns
    have hhas : Hid (Maps.has D (keyL nm2) = hasN (allN O pre) nm2) := Lib.hid (by rw [HD.out]; exact has_namD _ _)
    have hk1 : k ≤ 100000 := by omega
    have hHR := Lib.hid hrow
    have hHV := Lib.hid hv
    have hHM := Lib.hid hown
    have cO := hv.cell
    have hBl := hi'.bl
    have hsT := hi'.bt.lt
    clear hnm2 hD hk hxs hi' qs hr hrow hv hown hcnt hlt hns
    by_cases hin : hasN (allN O pre) nm2 = true
    · have hh : Maps.has D (keyL nm2) = true := by rw [hhas.out]; exact hin
      have HIN := Lib.hid hin
      clear hin hhas
      gi_wp2_with (gi_at_lookup; refine wpListIn_lookup_own_unit _ rfl _ _ 56 rfl 9 62 (Maps.string_keyed Try.underlying9) Try.underlying56 (Try.zeroValue62 _) (w.heap.size + 1) k D rfl hHM.out _ _ rfl hkey ?_)
      have hO := ALI.own w O W0.heap.size (by omega)
      have e1 : allN O (pre ++ [x]) = allN O pre := by rw [allN_snoc]; unfold addN; rw [← HN.out, if_pos HIN.out]
      have hI := hO.alloc (.cells #[] 62) HI.out
      exact ⟨(KeepsOthers.alloc _ _).from _, (Below.refl _ W).alloc hBl.size _, ⟨by rw [e1]; exact hI.bo, hI.bt, by rw [e1]; exact hI.mo, hI.bl⟩⟩
    · have hin2 : hasN (allN O pre) nm2 = false := by simpa using hin
      have hh : Maps.has D (keyL nm2) = false := by rw [hhas.out]; exact hin2
      have HIN := Lib.hid hin2
      clear hin hin2 hhas
      have hsB := hBl.size
      gi_wp2_with (first
        | (gi_at_lookup; refine wpListIn_lookup_own_unit _ rfl _ _ 56 rfl 9 62 (Maps.string_keyed Try.underlying9) Try.underlying56 (Try.zeroValue62 _) (w.heap.size + 1) k D rfl hHM.out _ _ rfl hkey ?_)
        | (gi_at_mapUpdate; refine wpListIn_mapUpdate_own _ rfl _ _ _ 56 rfl 9 62 (Maps.string_keyed Try.underlying9) Try.underlying56 _ (w.heap.size + 1) k D rfl (hHM.out.alloc _) (by unfold maxLen; omega) _ _ _ rfl rfl hkey (.agg []) [] unitElem_mk ?_; intro w1 hown1 hgrow1; have HM1 := Lib.hid hown1; have HG1 := Lib.hid hgrow1; have st := all_stage hHM hHV hHR d3 hgrow1 hsB; have cO1 := st.1; have d31 := st.2.1; have hs1 := st.2.2.1; have st2 := Lib.hid st.2.2.2.2; have hsB1 := st.2.2.2.1; clear st hown1 hgrow1)
        | (gi_at_builtin; refine wpListIn_append_own _ rfl _ _ 27 rfl w.heap.size 9 i0 (.string ⟨#[]⟩) 1 16 Try.underlying27 hi hz0 hz1 hz2 rfl (by decide) _ _ _ rfl (st2.out.2.alloc _) ⟨w1.heap.size, 0, none⟩ 1 1 [.string nm2] rfl rfl (cell_one_new _ _ _) (by simp [Value.oneCell']) (by simp only [maxLen]; omega) (by omega) (by simp; omega) ?_; intro v' w2 hown' hgrow _; obtain ⟨g', cap', rfl⟩ := ownsRow_succ hown'; obtain ⟨hv1, hv2, hr2, hk2, hb2⟩ := st2.out.1.appended (by decide) st2.out.2 hsB1 (Nat.le_refl _) hown' hgrow; have hc1 := hv1.cell; have hf1 := hv1.frozen; have HV2 := Lib.hid hv2; have HR2 := Lib.hid hr2; have HK2 := Lib.hid hk2; have HB2 := Lib.hid hb2; have HGR := Lib.hid hgrow; clear hv1 hv2 hr2 hk2 hb2 hgrow hown'))
      have e1 := HK.out; have e2 := HXS.out; have e3 := HD.out
      subst e1 e2 e3
      obtain ⟨p1, p2, p3⟩ := ALI.push (M := W0.heap.size) (by omega) HI.out (by rw [← HN.out]; exact HIN.out) (by rw [← HN.out]; exact HM1.out) HG1.out HV2.out (by rw [← HN.out]; exact HR2.out) HK2.out HB2.out st2.out.1 st2.out.2 HGR.out
      exact ⟨p1, p2, p3⟩
  case done =>
    rintro D ys W hD rfl hi hK
    obtain ⟨v, hv, hrow⟩ := hi.bo
    obtain ⟨A1, c1, rfl⟩ := ownsRow_val hrow
    have hc := hv.cell
    have hf := hv.frozen
    have hbl := hi.bl
    have HRW := Lib.hid hrow
    have HVV := Lib.hid hv
    have HKK := Lib.hid hK
    clear hv hrow hK
    clear hi
    gi_wp2
    have hK' := (KeepsOthers.setCell W ⟨w.heap.size, 0, none⟩ (.slice A1 (allN O (dfO O m)).length c1)).same D _ HKK.out rfl
    refine ⟨by simp, .inl ⟨_, _, rfl, run_takeDeferred hK', ?_⟩⟩
    have d1 := (boxed_grown (HVV.out.set (.slice A1 (allN O (dfO O m)).length c1)) (grownBy_putObj' _ D (.deferred none)) (fun r e => by cases e; exact ⟨_, hK', rfl⟩)).cell
    refine ⟨.slice A1 (allN O (dfO O m)).length c1, ?_, .slice A1 (allN O (dfO O m)).length c1, rfl, ownsRow_putObj (HRW.out.kept (grownBy_setCell' W w.heap.size _) (.inr (HVV.out.not_row (by decide) HRW.out).symm)) _ hK' rfl, (hbl.setCell (p := ⟨w.heap.size, 0, none⟩) (Nat.le_refl _) _).trans (belowK_b (w := w) (Nat.le_refl _) _ D _ _ (by omega) hK' rfl rfl)⟩
    simp [results, Try.f12, go_sem, d1]
  case stop =>
    rintro D c pre W _ _ h _
    exact h.elim
theorem all_any (A : Option Addr) (m c : Nat) (O : Nat → ObjD) (w : World) (hR : ObjR w w.heap.size A m O) (hNm : ∀ x, (symA O x).nm.size ≤ maxLen) (hlen : (dfO O m).length ≤ 100000) :
    Calls Try.prog 12 #[.slice A m c] w fun e W' => ∃ v, e = .returned v ∧ W'.ownsRow w.heap.size 9 1 v (allN O (dfO O m)).length ((allN O (dfO O m)).map Value.string) ∧ Below w.heap.size w W' :=
  callsIn_wide.1 (all_in Fence.wide 6 trivial trivial trivial rfl (Nat.le_refl _) A m c O w hR hNm hlen)
end Go.Proofs.Ytneleioiondapaa
