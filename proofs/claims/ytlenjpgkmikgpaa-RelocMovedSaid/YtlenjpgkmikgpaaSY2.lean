import Derived.Test.YtlenjpgkmikgpaaSY1
import Derived.Shelf.RegionOpen
import Derived.Lib.Bytes
namespace Go.Proofs.Ytlenjpgkmikgpaa.Sym
open Go.RowKit Go.Shelf Go.Hos
set_option linter.unusedVariables false
attribute [local go_sem] Oper.semAt_some
theorem defs_stops (F : Fence) (n : Nat) (h26 : F.fn 54) (hro : F.round = none) (hn : 1 ≤ n) (Bs n₀ m c : Nat) (A : Option Addr) (O : Nat → ObjD) (w : World) (hBs : Bs < w.heap.size) (hn₀ : n₀ ≤ w.heap.size)
    (hc : w.cell? ⟨Bs, 0, none⟩ = some (.slice A m c)) (hR : ObjR w n₀ A m O) :
    SeqStopsK F n Try.prog 54 #[.pointer (some ⟨Bs, 0, none⟩)] (encD O) (Below n₀) (fun ys => ys = dfO O m) (fun pre => pre <+: dfO O m) (dfO O m).length w := fun l J Jx W hW hJ hJx hY h0 =>
  defs1_in F n h26 hro hn l Bs n₀ m c A O J Jx W hJ hY ((hW.cell (p := ⟨Bs, 0, none⟩) hBs).trans hc) (hR.below (hW.mono hn₀)) (by have := hW.size; omega) h0
set_option maxHeartbeats 1000000 in
theorem defs_in (F : Fence) (n : Nat) (h20 : F.fn 52) (hro : F.round = none) (A : Option Addr) (m c : Nat) (w : World) :
    CallsIn F n Try.prog 52 #[.slice A m c] w fun e w' => e = .returned (.func (.func 54) #[] #[.pointer (some ⟨w.heap.size, 0, none⟩)]) ∧ w' = w.alloc (.cells #[.slice A m c] 22) := by
  refine callsIn_of_wp Try.func52 rfl h20 ?_ hro
  simp only [Try.ntmps52, List.size_toArray, List.length_cons, List.length_nil, Nat.reduceAdd, Nat.reduceSub, Array.replicate_succ, Array.replicate_zero, List.push_toArray, List.append_toArray, List.nil_append, List.cons_append]
  gi_wp2
  go_ret
  exact ⟨rfl, rfl⟩
def symA (O : Nat → ObjD) (x : Nat × Nat) : SymD := (O x.1).sy x.2
/-- has the symbol that name? -/
def nmB (O : Nat → ObjD) (nm : ByteArray) (x : Nat × Nat) : Bool := decide ((symA O x).nm = nm)
def lkO (O : Nat → ObjD) (n : Nat) (nm : ByteArray) : Option (Nat × Nat) := (dfO O n).find? (nmB O nm)
def lkV : Option (Nat × Nat) → Value
  | some x => .tuple #[.int .i64 (x.1 : Int), .int .i64 (x.2 : Int), .bool true]
  | none => .tuple #[.int .i64 0, .int .i64 0, .bool false]
theorem Blk.own {β : Type} (B : Nat) (t : TypeId) (f : β → Array Value) : Own (fun s W => Blk W B t (f s)) := fun s X Y row hs hg hrow =>
  hs.grown hg (fun e' => by obtain ⟨o, ho, hc⟩ := hrow B e'.symm; rw [show X.heap[B]? = _ from hs] at ho; cases ho; cases hc)
/-- what Lookup keeps between two rounds -/
structure LKI (w : World) (O : Nat → ObjD) (nm : ByteArray) (pre : List (Nat × Nat)) (W : World) : Prop where
  no : ∀ x ∈ pre, nmB O nm x = false
  bn : Boxed W w.heap.size 9 (.string nm)
  b1 : Boxed W (w.heap.size + 1) 3 (.int .i64 0)
  b2 : Boxed W (w.heap.size + 1 + 1) 3 (.int .i64 0)
  b3 : Boxed W (w.heap.size + 1 + 1 + 1) 4 (.bool false)
  bl : Below w.heap.size w W
structure LKX (w : World) (O : Nat → ObjD) (nm : ByteArray) (c : Code) (pre : List (Nat × Nat)) (W : World) : Prop where
  cc : c = .ret
  ex : ∃ ini last, pre = ini ++ [last] ∧ (∀ x ∈ ini, nmB O nm x = false) ∧ nmB O nm last = true ∧ Boxed W (w.heap.size + 1) 3 (.int .i64 (last.1 : Int)) ∧ Boxed W (w.heap.size + 1 + 1) 3 (.int .i64 (last.2 : Int)) ∧ Boxed W (w.heap.size + 1 + 1 + 1) 4 (.bool true)
  bl : Below w.heap.size w W
theorem boxed_grown {X Y : World} {row : Option Nat} {B : Nat} {t : TypeId} {v : Value} (h : Boxed X B t v) (hg : X.grownBy Y row) (hr : ∀ r, row = some r → ∃ o : Obj, X.heap[r]? = some o ∧ o.isCells = false) : Boxed Y B t v :=
  boxed_own B t (fun (_ : Unit) => v) () X Y row h hg hr
theorem blk_grown {X Y : World} {row : Option Nat} {B : Nat} {t : TypeId} {v : Array Value} (h : Blk X B t v) (hg : X.grownBy Y row) (hr : ∀ r, row = some r → ∃ o : Obj, X.heap[r]? = some o ∧ o.isCells = false) : Blk Y B t v :=
  Blk.own B t (fun (_ : Unit) => v) () X Y row h hg hr
theorem LKI.own (w : World) (O : Nat → ObjD) (nm : ByteArray) (M : Nat) (hM : w.heap.size ≤ M) : OwnFrom M (LKI w O nm) := fun s X Y row hs hg hr =>
  have hr2 := fun r e => (hr r e).2
  ⟨hs.no, boxed_grown hs.bn hg hr2, boxed_grown hs.b1 hg hr2, boxed_grown hs.b2 hg hr2, boxed_grown hs.b3 hg hr2, (ownFrom_below (β := Unit) (w₀ := w) (Nat.le_refl _) hM) () X Y row hs.bl hg hr⟩
theorem LKX.own (w : World) (O : Nat → ObjD) (nm : ByteArray) (M : Nat) (hM : w.heap.size ≤ M) (c : Code) : OwnFrom M (LKX w O nm c) := fun s X Y row hs hg hr => by
  have hr2 := fun r e => (hr r e).2
  obtain ⟨ini, last, h1, h2, h3, h4, h5, h6⟩ := hs.ex
  exact ⟨hs.cc, ⟨ini, last, h1, h2, h3, boxed_grown h4 hg hr2, boxed_grown h5 hg hr2, boxed_grown h6 hg hr2⟩, (ownFrom_below (β := Unit) (w₀ := w) (Nat.le_refl _) hM) () X Y row hs.bl hg hr⟩
theorem bytes_ne {a b : ByteArray} (h : ¬ a = b) : (a.toList == b.toList) = false := by
  rw [Lib.toList_data, Lib.toList_data]
  have : ¬ a.data.toList = b.data.toList := fun e => h (by
    cases a; cases b
    congr 1
    exact Array.toList_inj.1 e)
  simpa using this
set_option maxRecDepth 100000 in
set_option maxHeartbeats 4000000 in
theorem lookup_in (F : Fence) (n : Nat) (h13 : F.fn 49) (h20 : F.fn 52) (h26 : F.fn 54) (hro : F.round = none) (hn : 6 ≤ n) (A : Option Addr) (m c : Nat) (O : Nat → ObjD) (nm : ByteArray) (w : World) (hR : ObjR w w.heap.size A m O) :
    CallsIn F n Try.prog 49 #[.slice A m c, .string nm] w fun e W' => e = .returned (lkV (lkO O m nm)) ∧ Below w.heap.size w W' := by
  have h1 : 1 ≤ n := by omega
  refine callsIn_of_wp_marks Try.func49 rfl h13 ?_ hro
  simp only [Try.ntmps49, List.size_toArray, List.length_cons, List.length_nil, Nat.reduceAdd, Nat.reduceSub, Array.replicate_succ, Array.replicate_zero, List.push_toArray, List.append_toArray, List.nil_append, List.cons_append]
  gi_wp2_with (gi_at_call 52; refine (defs_in F (n - 1) h20 hro _ _ _ _).mono ?_; rintro e w' ⟨rfl, rfl⟩)
  have bN : Boxed (((((w.alloc (.cells #[.string nm] 9)).alloc (.cells #[.int .i64 0] 3)).alloc (.cells #[.int .i64 0] 3)).alloc (.cells #[.bool false] 4)).alloc (.cells #[.slice A m c] 22)) w.heap.size 9 (.string nm) := ((((Boxed.new w 9 (.string nm)).alloc _).alloc _).alloc _).alloc _
  have b1 : Boxed (((((w.alloc (.cells #[.string nm] 9)).alloc (.cells #[.int .i64 0] 3)).alloc (.cells #[.int .i64 0] 3)).alloc (.cells #[.bool false] 4)).alloc (.cells #[.slice A m c] 22)) (w.heap.size + 1) 3 (.int .i64 0) := by
    have := (((Boxed.new (w.alloc (.cells #[.string nm] 9)) 3 (.int .i64 0)).alloc (.cells #[.int .i64 0] 3)).alloc (.cells #[.bool false] 4)).alloc (.cells #[.slice A m c] 22)
    simpa only [World.size_alloc] using this
  have b2 : Boxed (((((w.alloc (.cells #[.string nm] 9)).alloc (.cells #[.int .i64 0] 3)).alloc (.cells #[.int .i64 0] 3)).alloc (.cells #[.bool false] 4)).alloc (.cells #[.slice A m c] 22)) (w.heap.size + 1 + 1) 3 (.int .i64 0) := by
    have := ((Boxed.new ((w.alloc (.cells #[.string nm] 9)).alloc (.cells #[.int .i64 0] 3)) 3 (.int .i64 0)).alloc (.cells #[.bool false] 4)).alloc (.cells #[.slice A m c] 22)
    simpa only [World.size_alloc] using this
  have b3 : Boxed (((((w.alloc (.cells #[.string nm] 9)).alloc (.cells #[.int .i64 0] 3)).alloc (.cells #[.int .i64 0] 3)).alloc (.cells #[.bool false] 4)).alloc (.cells #[.slice A m c] 22)) (w.heap.size + 1 + 1 + 1) 4 (.bool false) := by
    have := (Boxed.new (((w.alloc (.cells #[.string nm] 9)).alloc (.cells #[.int .i64 0] 3)).alloc (.cells #[.int .i64 0] 3)) 4 (.bool false)).alloc (.cells #[.slice A m c] 22)
    simpa only [World.size_alloc] using this
  have bL : Boxed (((((w.alloc (.cells #[.string nm] 9)).alloc (.cells #[.int .i64 0] 3)).alloc (.cells #[.int .i64 0] 3)).alloc (.cells #[.bool false] 4)).alloc (.cells #[.slice A m c] 22)) (w.heap.size + 1 + 1 + 1 + 1) 22 (.slice A m c) := by
    have := Boxed.new ((((w.alloc (.cells #[.string nm] 9)).alloc (.cells #[.int .i64 0] 3)).alloc (.cells #[.int .i64 0] 3)).alloc (.cells #[.bool false] 4)) 22 (.slice A m c)
    simpa only [World.size_alloc] using this
  have hB0 : Below w.heap.size w (((((w.alloc (.cells #[.string nm] 9)).alloc (.cells #[.int .i64 0] 3)).alloc (.cells #[.int .i64 0] 3)).alloc (.cells #[.bool false] 4)).alloc (.cells #[.slice A m c] 22)) :=
    (((((Below.refl _ w).alloc (Nat.le_refl _) _).alloc (by simp) _).alloc (by simp; omega) _).alloc (by simp; omega) _).alloc (by simp; omega) _
  have hsz : (((((w.alloc (.cells #[.string nm] 9)).alloc (.cells #[.int .i64 0] 3)).alloc (.cells #[.int .i64 0] 3)).alloc (.cells #[.bool false] 4)).alloc (.cells #[.slice A m c] 22)).heap.size = w.heap.size + 1 + 1 + 1 + 1 + 1 := by simp
  obtain ⟨W0, hW0⟩ : ∃ W0, ((((w.alloc (.cells #[.string nm] 9)).alloc (.cells #[.int .i64 0] 3)).alloc (.cells #[.int .i64 0] 3)).alloc (.cells #[.bool false] 4)).alloc (.cells #[.slice A m c] 22) = W0 := ⟨_, rfl⟩
  rw [hW0] at bN b1 b2 b3 bL hB0 hsz ⊢
  clear hW0
  refine wpIn_rangeFunc_ownH hro h1 (gf := 54) (lb := #[.pointer (some ⟨w.heap.size + 1 + 1 + 1 + 1, 0, none⟩)]) rfl h26 (enters_of Try.func54 (by kernel_rfl) rfl)
    (defs_stops F (n - 1) h26 hro (by omega) (w.heap.size + 1 + 1 + 1 + 1) w.heap.size m c A O W0 (by omega) (by omega) bL.cell (hR.below hB0)) belowK_t (belowK_b (by omega)) (Below.refl _ _) (fun _ => rfl)
    (LKI w O nm) (LKX w O nm) (LKI.own w O nm _ (by omega)) (LKX.own w O nm _ (by omega))
    ⟨by simp, bN, b1, b2, b3, hB0⟩
    (fun x a' W => ∃ Bp Bs, w.heap.size + 3 < Bp ∧ w.heap.size + 3 < Bs ∧ Blk W Bp 98 #[.int .i64 (x.1 : Int), .int .i64 (x.2 : Int)] ∧ Blk W Bs 61 (symA O x).cs ∧ a' = { tmps := #[.slice A m c, .string nm, undef, .pointer (some ⟨w.heap.size, 0, none⟩), .pointer (some ⟨w.heap.size + 1, 0, none⟩), .pointer (some ⟨w.heap.size + 1 + 1, 0, none⟩), .pointer (some ⟨w.heap.size + 1 + 1 + 1, 0, none⟩), .pointer (some ⟨Bp, 0, none⟩), .pointer (some ⟨Bs, 0, none⟩), .slice A m c, .func (.func 54) #[] #[.pointer (some ⟨w.heap.size + 1 + 1 + 1 + 1, 0, none⟩)], .agg #[.int .i64 (x.1 : Int), .int .i64 (x.2 : Int)], .agg (symA O x).cs, undef, undef, undef, undef, undef, undef, undef, undef], defers := [] })
    (fun x a' _ X Y row hs hg hr => by obtain ⟨Bp, Bs, q1, q2, q3, q4, q5⟩ := hs; exact ⟨Bp, Bs, q1, q2, blk_grown q3 hg (fun r e => (hr r e).2), blk_grown q4 hg (fun r e => (hr r e).2), q5⟩)
    ?assign ?body ?done ?stop
  case assign =>
    rintro l pre x W K hi hK
    have HI := Lib.hid hi
    have hsW := hi.b3.lt
    have hK2 := Lib.hid hK
    obtain ⟨s, hs⟩ : ∃ s, s = symA O x := ⟨_, rfl⟩
    have HS := Lib.hid hs
    rw [show encD O x = #[.agg #[.int .i64 (x.1 : Int), .int .i64 (x.2 : Int)], .agg s.cs] by rw [hs]; rfl]
    obtain ⟨nm2, v, sz, bd, df⟩ := s
    unfold SymD.cs
    dsimp only
    clear hi hK hs
    gi_wp2
    have hO := LKI.own w O nm W0.heap.size (by omega)
    refine hK2.out _ _ (((KeepsOthers.alloc _ _).trans (KeepsOthers.alloc _ _)).from _) (((Below.refl _ W).alloc HI.out.bl.size _).alloc (by have := HI.out.bl.size; simp; omega) _) (hO.alloc _ (hO.alloc _ HI.out)) ⟨W.heap.size, W.heap.size + 1, by omega, by omega, (Blk.new _ _ _).alloc _, ?_, ?_⟩
    · rw [← HS.out]; exact blk_at _ _ (by simp)
    · rw [← HS.out]; rfl
  case body =>
    rintro l pre x a' W hl ⟨r, hr⟩ hi ⟨Bp, Bs, hBp, hBs, qp, qs, rfl⟩ hlt
    have HI := Lib.hid hi
    have d1 : W.cell? ⟨Bp, 0, none⟩ = some (.int .i64 (x.1 : Int)) := (qp.cell 0).trans rfl
    have d2 : W.cell? ⟨Bp, 1, none⟩ = some (.int .i64 (x.2 : Int)) := (qp.cell 1).trans rfl
    have d3 : W.cell? ⟨Bs, 0, none⟩ = some (.string (symA O x).nm) := (qs.cell 0).trans rfl
    have d4 := hi.bn.cell
    have e1 := hi.b1.cell; have e2 := hi.b2.cell; have e3 := hi.b3.cell
    have f1 := hi.b1.frozen; have f2 := hi.b2.frozen; have f3 := hi.b3.frozen
    obtain ⟨x1, x2⟩ := x
    dsimp only at d1 d2
    obtain ⟨nm2, hnm2⟩ : ∃ s, s = (symA O (x1, x2)).nm := ⟨_, rfl⟩
    rw [← hnm2] at d3
    have HN := Lib.hid hnm2
    clear hnm2 hi qp qs hr
    by_cases hnn : nm2 = nm
    · have hbb : (nm2.toList == nm.toList) = true := by rw [hnn]; simp
      have HNN := Lib.hid hnn
      clear hnn
      gi_wp2
      have hfol : Try.prog.follows Departure.mixedOrders = true := by kernel_rfl
      gi_region_with_o (fail)
      all_goals gi_wp2
      all_goals
        have hw : w.heap.size ≤ w.heap.size + 1 := by omega
        refine ⟨(((KeepsOthers.setCell _ _ _).trans ((KeepsOthers.setCell _ _ _).trans (KeepsOthers.setCell _ _ _))).trans (KeepsOthers.drew _)).from _, rfl, ⟨pre, (x1, x2), rfl, HI.out.no, ?_, ?_, ?_, ?_⟩, ?_⟩
        · unfold nmB; rw [← HN.out]; exact decide_eq_true HNN.out
        · exact ((HI.out.b1.set _).other (by omega) _).other (by omega) _
        · exact (((HI.out.b2.other (by omega) _).set _).other (by omega) _)
        · exact ((HI.out.b3.other (by omega) _).other (by omega) _).set _
        · exact (((HI.out.bl.setCell (p := ⟨w.heap.size + 1, 0, none⟩) (by show w.heap.size ≤ w.heap.size + 1; omega) _).setCell (p := ⟨w.heap.size + 1 + 1, 0, none⟩) (by show w.heap.size ≤ w.heap.size + 1 + 1; omega) _).setCell (p := ⟨w.heap.size + 1 + 1 + 1, 0, none⟩) (by show w.heap.size ≤ w.heap.size + 1 + 1 + 1; omega) _).drew
    · have hbb : (nm2.toList == nm.toList) = false := bytes_ne hnn
      have HNN := Lib.hid hnn
      clear hnn
      gi_wp2
      exact ⟨KeepsFrom.refl _ _, Below.refl _ _, ⟨fun y hy => by
        rcases List.mem_append.1 hy with h | h
        · exact HI.out.no y h
        · obtain rfl := List.mem_singleton.1 h
          unfold nmB; rw [← HN.out]; exact decide_eq_false HNN.out, HI.out.bn, HI.out.b1, HI.out.b2, HI.out.b3, HI.out.bl⟩⟩
  case done =>
    rintro D ys W hD rfl hi hK
    have hlk : Hid (lkO O m nm = none) := Lib.hid (List.find?_eq_none.2 fun x hx => by rw [hi.no x hx]; simp)
    have e1 := hi.b1.cell; have e2 := hi.b2.cell; have e3 := hi.b3.cell
    have f1 := hi.b1.frozen; have f2 := hi.b2.frozen; have f3 := hi.b3.frozen
    have HI := Lib.hid hi
    have HK := Lib.hid hK
    clear hi hK
    gi_wp2
    have hK' := ((KeepsOthers.setCell W ⟨w.heap.size + 1, 0, none⟩ (.int .i64 0)).trans ((KeepsOthers.setCell _ ⟨w.heap.size + 1 + 1, 0, none⟩ (.int .i64 0)).trans (KeepsOthers.setCell _ ⟨w.heap.size + 1 + 1 + 1, 0, none⟩ (.bool false)))).same D _ HK.out rfl
    have g1 := ((HI.out.b1.set (.int .i64 0)).other (B' := w.heap.size + 1 + 1) (by omega) (.int .i64 0)).other (B' := w.heap.size + 1 + 1 + 1) (by omega) (.bool false)
    have g2 := ((HI.out.b2.other (B' := w.heap.size + 1) (by omega) (.int .i64 0)).set (.int .i64 0)).other (B' := w.heap.size + 1 + 1 + 1) (by omega) (.bool false)
    have g3 := ((HI.out.b3.other (B' := w.heap.size + 1) (by omega) (.int .i64 0)).other (B' := w.heap.size + 1 + 1) (by omega) (.int .i64 0)).set (.bool false)
    have g4 := ((HI.out.bl.setCell (p := ⟨w.heap.size + 1, 0, none⟩) (by show w.heap.size ≤ w.heap.size + 1; omega) (.int .i64 0)).setCell (p := ⟨w.heap.size + 1 + 1, 0, none⟩) (by show w.heap.size ≤ w.heap.size + 1 + 1; omega) (.int .i64 0)).setCell (p := ⟨w.heap.size + 1 + 1 + 1, 0, none⟩) (by show w.heap.size ≤ w.heap.size + 1 + 1 + 1; omega) (.bool false)
    refine ⟨by simp, .inl ⟨_, _, rfl, run_takeDeferred hK', ?_⟩⟩
    have c1 := (boxed_grown g1 (grownBy_putObj' _ D (.deferred none)) (fun r e => by cases e; exact ⟨_, hK', rfl⟩)).cell
    have c2 := (boxed_grown g2 (grownBy_putObj' _ D (.deferred none)) (fun r e => by cases e; exact ⟨_, hK', rfl⟩)).cell
    have c3 := (boxed_grown g3 (grownBy_putObj' _ D (.deferred none)) (fun r e => by cases e; exact ⟨_, hK', rfl⟩)).cell
    refine ⟨.tuple #[.int .i64 0, .int .i64 0, .bool false], ?_, by rw [hlk.out]; rfl, g4.trans (belowK_b (w := w) (Nat.le_refl _) _ D _ _ (by omega) hK' rfl rfl)⟩
    simp [results, Try.f49, go_sem, c1, c2, c3]
  case stop =>
    rintro D c pre W hD hpre hx hK
    obtain ⟨rfl, ⟨ini, last, rfl, hno, hyes, q1, q2, q3⟩, hbl⟩ := hx
    have hlk : Hid (lkO O m nm = some last) := by
      obtain ⟨t, ht⟩ := hpre
      refine Lib.hid ?_
      unfold lkO
      rw [← ht, List.append_assoc, List.find?_append, List.find?_eq_none.2 (fun x hx => by rw [hno x hx]; simp)]
      simp [hyes]
    have HK := Lib.hid hK
    clear hpre hno hyes hK
    gi_wp2
    refine ⟨by simp, .inl ⟨_, _, rfl, run_takeDeferred HK.out, ?_⟩⟩
    have c1 := (boxed_grown q1 (grownBy_putObj' _ D (.deferred none)) (fun r e => by cases e; exact ⟨_, HK.out, rfl⟩)).cell
    have c2 := (boxed_grown q2 (grownBy_putObj' _ D (.deferred none)) (fun r e => by cases e; exact ⟨_, HK.out, rfl⟩)).cell
    have c3 := (boxed_grown q3 (grownBy_putObj' _ D (.deferred none)) (fun r e => by cases e; exact ⟨_, HK.out, rfl⟩)).cell
    refine ⟨.tuple #[.int .i64 (last.1 : Int), .int .i64 (last.2 : Int), .bool true], ?_, by rw [hlk.out]; rfl, hbl.trans (belowK_b (w := w) (Nat.le_refl _) _ D _ _ (by omega) HK.out rfl rfl)⟩
    simp [results, Try.f49, go_sem, c1, c2, c3]
theorem lookup_any (A : Option Addr) (m c : Nat) (O : Nat → ObjD) (nm : ByteArray) (w : World) (hR : ObjR w w.heap.size A m O) :
    Calls Try.prog 49 #[.slice A m c, .string nm] w fun e W' => e = .returned (lkV (lkO O m nm)) ∧ Below w.heap.size w W' :=
  callsIn_wide.1 (lookup_in Fence.wide 6 trivial trivial trivial rfl (Nat.le_refl _) A m c O nm w hR)
end Go.Proofs.Ytlenjpgkmikgpaa.Sym
