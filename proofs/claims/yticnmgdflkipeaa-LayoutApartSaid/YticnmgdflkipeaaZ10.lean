import Derived.Test.YticnmgdflkipeaaZ8
namespace Go.Proofs.Yticnmgdflkipeaa
open Go.RowKit Go.Shelf Go.Hos
set_option linter.unusedVariables false
attribute [local go_sem] Oper.semAt_some
/-! the program's extent and lies -/
def wsum (s : SegD) : Nat := (s.addr + s.msz) % M
theorem wsum_lt (s : SegD) : wsum s < M := Nat.mod_lt _ (by unfold M; omega)
def spA : List SegD → Nat
  | [] => 0
  | s :: _ => dn s.addr
def spZ (l : List SegD) : Nat := l.foldl (fun _ s => upv (wsum s)) 0
theorem spZ_snoc (l : List SegD) (s : SegD) : spZ (l ++ [s]) = upv (wsum s) := by simp [spZ]
theorem spA_snoc (l : List SegD) (s : SegD) (h : l.isEmpty = false) : spA (l ++ [s]) = spA l := by
  cases l
  · simp at h
  · rfl
/-- what extent keeps between two rounds -/
structure EXI (w : World) (S : Nat → SegD) (pre : List Nat) (W : World) : Prop where
  b2 : Blk W (w.heap.size + 1) 71 #[.int .u64 0, .int .u64 0]
  b3 : Blk W (w.heap.size + 1 + 1) 71 #[.int .u64 (spA (pre.map S)), .int .u64 (spZ (pre.map S))]
  b4 : Boxed W (w.heap.size + 1 + 1 + 1) 4 (.bool pre.isEmpty)
  bl : Below w.heap.size w W
theorem EXI.own (w : World) (M' : Nat) (S : Nat → SegD) (hM : w.heap.size ≤ M') : OwnFrom M' (EXI w S) := fun s X Y row hs hg hr =>
  have hr2 := fun r e => (hr r e).2
  ⟨blk_grown hs.b2 hg hr2, blk_grown hs.b3 hg hr2, boxed_grown hs.b4 hg hr2, (ownFrom_below (β := Unit) (w₀ := w) (Nat.le_refl _) hM) () X Y row hs.bl hg hr⟩
set_option maxRecDepth 100000 in
set_option maxHeartbeats 8000000 in
theorem extent_in (F : Fence) (hW : Wide F) (o : ObjD) (w : World) (hS : StR w w.heap.size 6 o.gA o.gM (segC o.sg)) (hf : ∀ k, (o.sg k).fits) (hm : o.gM ≤ maxLen) :
    CallsIn F 8 Try.prog 32 #[.agg o.cs] w fun e W' => e = .returned (.agg #[.int .u64 (spA (lds o.sg o.gM)), .int .u64 (spZ (lds o.sg o.gM))]) ∧ Below w.heap.size w W' := by
  have hFn := hW.fn; have hro := hW.ro
  have HS := Lib.hid hS; have HF := Lib.hid hf; have HW := Lib.hid hW
  clear hS hf hW
  obtain ⟨ino, base, ty, en, ph, gA, gM, gQ, nA, nM, nQ, so, rn, sA, sM, sQ, rA, rM, rQ, sg⟩ := o
  dsimp only at HS HF hm ⊢
  rw [show (ObjD.mk ino base ty en ph gA gM gQ nA nM nQ so rn sA sM sQ rA rM rQ sg).cs = #[.int .i64 ino, .int .u64 base, .int .u16 ty, .int .u64 en, .int .u64 ph, .slice gA gM gQ, .slice nA nM nQ, .string so, .string rn, .slice sA sM sQ, .slice rA rM rQ] from rfl]
  refine callsIn_of_wp_marks Try.func32 rfl (hFn 32) ?_ hro
  simp only [Try.ntmps32, List.size_toArray, List.length_cons, List.length_nil, Nat.reduceAdd, Nat.reduceSub, Array.replicate_succ, Array.replicate_zero, List.push_toArray, List.append_toArray, List.nil_append, List.cons_append]
  gi_wp2_with (gi_at_call 24; refine (ploads_in F _ (hFn 24) hro _ _).mono ?_; rintro e w' ⟨rfl, rfl⟩)
  obtain ⟨W0, hW0⟩ : ∃ W0, (((((w.alloc (.cells #[.int .i64 ino, .int .u64 base, .int .u16 ty, .int .u64 en, .int .u64 ph, .slice gA gM gQ, .slice nA nM nQ, .string so, .string rn, .slice sA sM sQ, .slice rA rM rQ] 33)).alloc (.cells #[.int .u64 0, .int .u64 0] 71)).alloc (.cells #[.int .u64 0, .int .u64 0] 71)).alloc (.cells #[.bool true] 4)).alloc (.cells #[.int .i64 ino, .int .u64 base, .int .u16 ty, .int .u64 en, .int .u64 ph, .slice gA gM gQ, .slice nA nM nQ, .string so, .string rn, .slice sA sM sQ, .slice rA rM rQ] 33)) = W0 := ⟨_, rfl⟩
  have b2 : Blk W0 (w.heap.size + 1) 71 #[.int .u64 0, .int .u64 0] := by rw [← hW0]; exact (((blk_at _ _ (by simp)).alloc _).alloc _).alloc _
  have b3 : Blk W0 (w.heap.size + 1 + 1) 71 #[.int .u64 0, .int .u64 0] := by rw [← hW0]; exact ((blk_at _ _ (by simp)).alloc _).alloc _
  have b4 : Boxed W0 (w.heap.size + 1 + 1 + 1) 4 (.bool true) := by rw [← hW0]; exact (blk_at (cs := #[.bool true]) _ (by simp)).alloc _
  have bL : W0.cell? ⟨w.heap.size + 1 + 1 + 1 + 1, 5, none⟩ = some (.slice gA gM gQ) := by rw [← hW0]; exact ((blk_at _ _ (by simp)).cell 5).trans rfl
  have hB0 : Below w.heap.size w W0 := by rw [← hW0]; exact (((((Below.refl _ w).alloc (Nat.le_refl _) _).alloc (by simp) _).alloc (by simp; omega) _).alloc (by simp; omega) _).alloc (by simp; omega) _
  have hsz : W0.heap.size = w.heap.size + 1 + 1 + 1 + 1 + 1 := by rw [← hW0]; simp
  rw [hW0]
  clear hW0
  refine wpIn_rangeFunc_ownH hro (by omega) (gf := 40) (lb := #[.pointer (some ⟨w.heap.size + 1 + 1 + 1 + 1, 0, none⟩)]) rfl (hFn 40) (enters_of Try.func40 (by kernel_rfl) rfl)
    (loads_stops F (8 - 1) (hFn 40) hro (by omega) (w.heap.size + 1 + 1 + 1 + 1) w.heap.size gM gQ gA sg W0 (by omega) (by omega) bL (HS.out.below hB0) hm) belowK_t (belowK_b (by omega)) (Below.refl _ _) (fun _ => rfl)
    (EXI w sg) (fun _ _ _ => False) (EXI.own w _ sg (by omega)) (fun _ _ _ _ _ hs _ _ => hs)
    ⟨b2, b3, b4, hB0⟩
    (fun x a' W => ∃ Bs q0 q6 q7, w.heap.size + 3 < Bs ∧ Blk W Bs 56 (sg x).cs ∧ a' = { tmps := #[q0, .pointer (some ⟨w.heap.size, 0, none⟩), .pointer (some ⟨w.heap.size + 1, 0, none⟩), .pointer (some ⟨w.heap.size + 1 + 1, 0, none⟩), .pointer (some ⟨w.heap.size + 1 + 1 + 1, 0, none⟩), .pointer (some ⟨Bs, 0, none⟩), q6, q7, .agg (sg x).cs, undef, undef, undef, undef, undef, undef, undef, undef, undef, undef, undef, undef, undef], defers := [] })
    (fun x a' _ X Y row hs hg hr => by obtain ⟨Bs, q0, q6, q7, r1, r2, r3⟩ := hs; exact ⟨Bs, q0, q6, q7, r1, blk_grown r2 hg (fun r e => (hr r e).2), r3⟩)
    ?assign ?body ?done ?stop
  case assign =>
    rintro l pre x W K hi hK
    have HI := Lib.hid hi
    have hsW := hi.b4.lt
    have hK2 := Lib.hid hK
    obtain ⟨s, hs⟩ : ∃ s, s = sg x := ⟨_, rfl⟩
    have HSS := Lib.hid hs
    rw [show encS sg x = #[.agg s.cs] by rw [hs]; rfl]
    obtain ⟨kd, fl, off, addr, fsz, msz⟩ := s
    unfold SegD.cs
    dsimp only
    clear hi hK hs
    gi_wp2
    have hO := EXI.own w W0.heap.size sg (by omega)
    refine hK2.out _ _ ((KeepsOthers.alloc _ _).from _) ((Below.refl _ W).alloc HI.out.bl.size _) (hO.alloc _ HI.out) ⟨W.heap.size, ?_⟩
    iterate 3 (apply Exists.intro)
    refine ⟨by omega, by rw [← HSS.out]; exact blk_at _ _ (by simp), ?_⟩
    rw [← HSS.out]; rfl
  case body =>
    rintro l pre x a' W hl ⟨r, hr⟩ hi ⟨Bs, q0, q6, q7, hBs, qs, rfl⟩ hlt
    have HI := Lib.hid hi
    obtain ⟨s, hs⟩ : ∃ s, s = sg x := ⟨_, rfl⟩
    have hfit := HF.out x
    rw [← hs] at qs hfit ⊢
    have HSS := Lib.hid hs
    obtain ⟨kd, fl, off, addr, fsz, msz⟩ := s
    obtain ⟨m1, m2, m3, m4⟩ := hfit
    dsimp only at m1 m2 m3 m4
    have d3 : W.cell? ⟨Bs, 3, none⟩ = some (.int .u64 addr) := (qs.cell 3).trans rfl
    have d5 : W.cell? ⟨Bs, 5, none⟩ = some (.int .u64 msz) := (qs.cell 5).trans rfl
    have e30 : W.cell? ⟨w.heap.size + 1 + 1, 0, none⟩ = some (.int .u64 (spA (pre.map sg))) := (hi.b3.cell 0).trans rfl
    have e31 : W.cell? ⟨w.heap.size + 1 + 1, 1, none⟩ = some (.int .u64 (spZ (pre.map sg))) := (hi.b3.cell 1).trans rfl
    have e4 := hi.b4.cell
    have f3 : ∀ j, W.frozen? ⟨w.heap.size + 1 + 1, j, none⟩ = false := fun j => hi.b3.frozen j
    have f4 := hi.b4.frozen
    have l3 := hi.b3.lt
    have lB := qs.lt
    obtain ⟨pa, hpa⟩ : ∃ y, y = spA (pre.map sg) := ⟨_, rfl⟩
    obtain ⟨pz, hpz⟩ : ∃ y, y = spZ (pre.map sg) := ⟨_, rfl⟩
    rw [← hpa] at e30
    rw [← hpz] at e31
    have HPA := Lib.hid hpa; have HPZ := Lib.hid hpz
    obtain ⟨dd, hdd⟩ : ∃ y, y = dn addr := ⟨_, rfl⟩
    have HDD := Lib.hid hdd
    obtain ⟨sm, hsm⟩ : ∃ y, y = wsum ⟨kd, fl, off, addr, fsz, msz⟩ := ⟨_, rfl⟩
    have hsmM : Hid (sm < M) := Lib.hid (by rw [hsm]; exact wsum_lt _)
    have wsm : IntKind.u64.wrap ((addr : Int) + (msz : Int)) = (sm : Int) := by
      rw [hsm, IntKind.wrap_u64]; unfold wsum M; dsimp only; omega
    obtain ⟨uu, huu⟩ : ∃ y, y = upv sm := ⟨_, rfl⟩
    have HUU := Lib.hid huu
    have ZZ : Hid (spZ ((pre ++ [x]).map sg) = uu) := Lib.hid (by rw [List.map_append, List.map_singleton, spZ_snoc, ← HSS.out, huu, hsm])
    by_cases hp : pre.isEmpty = true
    · have AA : Hid (spA ((pre ++ [x]).map sg) = dd) := Lib.hid (by
        have : pre = [] := by simpa using hp
        rw [this, hdd]; show spA [sg x] = _; rw [← HSS.out]; rfl)
      have hne : Hid ((pre ++ [x]).isEmpty = false) := Lib.hid (by cases pre <;> rfl)
      rw [hp] at e4
      clear hi qs hr hs hpa hpz hdd hsm huu hp m1 m3 m4
      gi_wp2_with (first | (gi_at_call 26; refine (CallsIn.inRound l (HW.out.ca (down_any addr _ m2))).mono ?_; rw [← HDD.out]; rintro e w' ⟨rfl, rfl⟩) | (gi_at_call 27; refine (CallsIn.inRound l (HW.out.ca (lup_any sm _ hsmM.out))).mono ?_; rw [← HUU.out]; rintro e w' ⟨rfl, rfl⟩))
      refine ⟨((KeepsOthers.setCell _ _ _).trans ((KeepsOthers.setCell _ _ _).trans (KeepsOthers.setCell _ _ _))).from _, ?_, ⟨?_, ?_, ?_, ?_⟩⟩
      · exact ((((Below.refl _ W).setCell (p := ⟨w.heap.size + 1 + 1, 0, none⟩) (by show w.heap.size ≤ w.heap.size + 1 + 1; omega) _).setCell (p := ⟨w.heap.size + 1 + 1 + 1, 0, none⟩) (by show w.heap.size ≤ w.heap.size + 1 + 1 + 1; omega) _).setCell (p := ⟨w.heap.size + 1 + 1, 1, none⟩) (by show w.heap.size ≤ w.heap.size + 1 + 1; omega) _)
      · exact ((HI.out.b2.far (by simp) _).far (by simp) _).far (by simp) _
      · rw [AA.out, ZZ.out]
        exact ((HI.out.b3.set_ 0 _).far (by simp) _).set_ 1 _
      · rw [hne.out]
        exact (Blk.far (Blk.set_ (cs := #[_]) (Blk.far (cs := #[_]) HI.out.b4 (by simp) _) 0 _) (by simp) _)
      · exact ((HI.out.bl.setCell (p := ⟨w.heap.size + 1 + 1, 0, none⟩) (by show w.heap.size ≤ w.heap.size + 1 + 1; omega) _).setCell (p := ⟨w.heap.size + 1 + 1 + 1, 0, none⟩) (by show w.heap.size ≤ w.heap.size + 1 + 1 + 1; omega) _).setCell (p := ⟨w.heap.size + 1 + 1, 1, none⟩) (by show w.heap.size ≤ w.heap.size + 1 + 1; omega) _
    · have hp' : pre.isEmpty = false := by simpa using hp
      have AA : Hid (spA ((pre ++ [x]).map sg) = pa) := Lib.hid (by rw [List.map_append, List.map_singleton, spA_snoc _ _ (by simpa using hp'), hpa])
      have hne : Hid ((pre ++ [x]).isEmpty = false) := Lib.hid (by cases pre <;> rfl)
      have b4' := hi.b4
      rw [hp'] at e4 b4'
      have B4 := Lib.hid b4'
      clear hi qs hr hs hpa hpz hdd hsm huu hp hp' m1 m3 m4 b4'
      gi_wp2_with (gi_at_call 27; refine (CallsIn.inRound l (HW.out.ca (lup_any sm _ hsmM.out))).mono ?_; rw [← HUU.out]; rintro e w' ⟨rfl, rfl⟩)
      refine ⟨(KeepsOthers.setCell _ _ _).from _, ?_, ⟨?_, ?_, ?_, ?_⟩⟩
      · exact (Below.refl _ W).setCell (p := ⟨w.heap.size + 1 + 1, 1, none⟩) (by show w.heap.size ≤ w.heap.size + 1 + 1; omega) _
      · exact HI.out.b2.far (by simp) _
      · rw [AA.out, ZZ.out, HPA.out]
        exact HI.out.b3.set_ 1 _
      · rw [hne.out]
        exact Blk.far (cs := #[_]) B4.out (by simp) _
      · exact HI.out.bl.setCell (p := ⟨w.heap.size + 1 + 1, 1, none⟩) (by show w.heap.size ≤ w.heap.size + 1 + 1; omega) _
  case done =>
    rintro D ys W hD rfl hi hK
    have HI := Lib.hid hi
    have HK := Lib.hid hK
    obtain ⟨pa, hpa⟩ : ∃ y, y = spA (lds sg gM) := ⟨_, rfl⟩
    obtain ⟨pz, hpz⟩ : ∃ y, y = spZ (lds sg gM) := ⟨_, rfl⟩
    have HPA := Lib.hid hpa; have HPZ := Lib.hid hpz
    have b3' := hi.b3
    rw [← lds_ldx, ← hpa, ← hpz] at b3'
    have e20 : W.cell? ⟨w.heap.size + 1, 0, none⟩ = some (.int .u64 0) := (hi.b2.cell 0).trans rfl
    have e21 : W.cell? ⟨w.heap.size + 1, 1, none⟩ = some (.int .u64 0) := (hi.b2.cell 1).trans rfl
    have e30 : W.cell? ⟨w.heap.size + 1 + 1, 0, none⟩ = some (.int .u64 pa) := (b3'.cell 0).trans rfl
    have e31 : W.cell? ⟨w.heap.size + 1 + 1, 1, none⟩ = some (.int .u64 pz) := (b3'.cell 1).trans rfl
    have f2 : ∀ j, W.frozen? ⟨w.heap.size + 1, j, none⟩ = false := fun j => hi.b2.frozen j
    have l2 := hi.b2.lt
    clear hi hK hpa hpz b3'
    gi_wp2
    have hK' := ((KeepsOthers.setCell W ⟨w.heap.size + 1, 0, none⟩ (.int .u64 pa)).trans (KeepsOthers.setCell _ ⟨w.heap.size + 1, 1, none⟩ (.int .u64 pz))).same D _ HK.out rfl
    refine ⟨by simp, .inl ⟨_, _, rfl, run_takeDeferred hK', ?_⟩⟩
    have B2 : Blk _ (w.heap.size + 1) 71 #[.int .u64 pa, .int .u64 pz] := blk_grown ((HI.out.b2.set_ 0 (.int .u64 pa)).set_ 1 (.int .u64 pz)) (grownBy_putObj' _ D (.deferred none)) (fun r e => by cases e; exact ⟨_, hK', rfl⟩)
    have c0 := (B2.cell 0).trans rfl
    have c1 := (B2.cell 1).trans rfl
    simp only [List.getElem?_toArray, List.getElem?_cons_succ, List.getElem?_cons_zero] at c0 c1
    refine ⟨.agg #[.int .u64 pa, .int .u64 pz], ?_, by rw [HPA.out, HPZ.out], ((HI.out.bl.setCell (p := ⟨w.heap.size + 1, 0, none⟩) (by show w.heap.size ≤ w.heap.size + 1; omega) _).setCell (p := ⟨w.heap.size + 1, 1, none⟩) (by show w.heap.size ≤ w.heap.size + 1; omega) _).trans (belowK_b (w := w) (Nat.le_refl _) _ D _ _ (by omega) hK' rfl rfl)⟩
    simp [results, Try.f32, go_sem, c0, c1]
  case stop =>
    rintro D c pre W _ _ h _
    exact h.elim
theorem extent_any (o : ObjD) (w : World) (hS : StR w w.heap.size 6 o.gA o.gM (segC o.sg)) (hf : ∀ k, (o.sg k).fits) (hm : o.gM ≤ maxLen) :
    Calls Try.prog 32 #[.agg o.cs] w fun e W' => e = .returned (.agg #[.int .u64 (spA (lds o.sg o.gM)), .int .u64 (spZ (lds o.sg o.gM))]) ∧ Below w.heap.size w W' :=
  callsIn_wide.1 (extent_in Fence.wide wide_wide o w hS hf hm)
end Go.Proofs.Yticnmgdflkipeaa
