import Derived.Test.YticnmgdflkipeaaZ22r
import Derived.Maps.OwnIn
import Derived.Sort.CutIn
import Derived.Deep.RegionLaw
namespace Go.Proofs.Yticnmgdflkipeaa
open Go.RowKit Go.Shelf Go.Hos
set_option linter.unusedVariables false
attribute [local go_sem] Oper.semAt_some
/-! the program's Pieces -/
theorem info49 : (Try.prog.info? 49).map (fun i => (i.zero, i.size, i.bytes)) = some (some (.agg #[.int .u64 0, .int .u64 0, .int .u8 0, .int .i64 0, .int .u64 0]), 5, 40) := by kernel_rfl
theorem info52 : (Try.prog.info? 52).map (fun i => (i.zero, i.size, i.bytes)) = some (some (.agg #[.int .u64 0, .slice none 0 0]), 2, 32) := by kernel_rfl
theorem info5 : (Try.prog.info? 5).map (fun i => (i.zero, i.size, i.bytes)) = some (some (.int .u8 0), 1, 1) := by kernel_rfl
theorem cells_new (w : World) (t : TypeId) (cs : List Value) : ∀ j u, cs[j]? = some u → (w.alloc (.cells cs.toArray t)).cell? ((⟨w.heap.size, 0, none⟩ : Addr).add j) = some u := by
  intro j u hu
  rw [Addr.add_mid, Nat.zero_add, (Blk.new w t cs.toArray).cell]
  simpa using hu
theorem drewc {w : World} {a : Addr} {v : Option Value} (h : w.cell? a = v) : w.drew.cell? a = v := h
theorem push_far {W w1 : World} {B t e size k base : Nat} {v v' : Value} {xs : List Value} {tmp : Obj} {g t' : Nat} {c : Array Value} (hv : Boxed w1 B t v) (hrow : W.ownsRow base e size v k xs) (hg : (W.alloc tmp).grownBy w1 v.ownBlock) (h : Blk W g t' c) (h1 : e ≠ t') (h2 : t' ≠ t) : Blk (w1.setCell ⟨B, 0, none⟩ v') g t' c := by
  have k1 : Blk w1 g t' c := (h.alloc tmp).grown hg (not_blk (h.alloc tmp) (hrow.alloc tmp) h1)
  have ne : g ≠ B := Blk.ne_ (t := t') (t' := t) (cs' := #[v]) k1 hv h2
  exact k1.far ne _
/-- what Pieces keeps between two rounds -/
def PCI (w : World) (o : ObjD) (b7 b8 : Nat) (pre : List (LdI o.sg o.gM)) (W : World) : Prop := ∃ ws : List WriteD, ws.map WriteD.key = wrL o.base ((LdI.is pre).map o.sg) ∧ PCJ w o.cs b7 b8 (pcL o.base o.ino ((LdI.is pre).map o.sg)) ws W
theorem PCI.own (w : World) (o : ObjD) (b7 b8 M' : Nat) (hM : w.heap.size ≤ M') : OwnFrom M' (PCI w o b7 b8) := fun s X Y row hs hg hr => by
  obtain ⟨ws, h1, h2⟩ := hs
  exact ⟨ws, h1, h2.kept hg (fun r e => (hr r e).2) (fun r e => by have := (hr r e).1; omega)⟩
/-- what Pieces answers -/
structure PiP (w : World) (o : ObjD) (e : Ending) (W' : World) : Prop where
  bl : Below w.heap.size w W'
  re : ∃ Ap np cp Aw nw cw, e = .returned (.tuple #[.slice Ap np cp, .slice Aw nw cw, .int .i64 (if rightB o && o.base % 4096 == 0 && liesB o then 0 else 1)]) ∧
    ((rightB o && o.base % 4096 == 0 && liesB o) = false → np = 0 ∧ nw = 0) ∧
    ((rightB o && o.base % 4096 == 0 && liesB o) = true → ∃ ws : List WriteD, ws.map WriteD.key = wrL o.base (lds o.sg o.gM) ∧ np = (pcL o.base o.ino (lds o.sg o.gM)).length ∧ nw = ws.length ∧
      W'.ownsRow w.heap.size 49 5 (.slice Ap np cp) np (flatL PieceD.cs (pcL o.base o.ino (lds o.sg o.gM))) ∧ W'.ownsRow w.heap.size 52 2 (.slice Aw nw cw) nw (flatL WriteD.cs ws) ∧ ∀ d ∈ ws, w.heap.size ≤ d.blk ∧ Blk W' d.blk 5 (madeCells #[.int .u8 0] d.len))
theorem PiP.no {w W' : World} {o : ObjD} (hb : Below w.heap.size w W') (h : (rightB o && o.base % 4096 == 0 && liesB o) = false) : PiP w o (.returned (.tuple #[.slice none 0 0, .slice none 0 0, .int .i64 1])) W' :=
  ⟨hb, none, 0, 0, none, 0, 0, by rw [h]; rfl, fun _ => ⟨rfl, rfl⟩, fun e => by rw [h] at e; cases e⟩
theorem pcI_end {pre : List Nat} {S : Nat → SegD} {x : Nat} {base : Nat} {ino : Int} : pcL base ino ((pre ++ [x]).map S) = pcL base ino (pre.map S) ++ pcS base ino (S x) := by rw [List.map_append, List.map_singleton, pcL_snoc]
theorem wrI_end {pre : List Nat} {S : Nat → SegD} {x : Nat} {base : Nat} : wrL base ((pre ++ [x]).map S) = wrL base (pre.map S) ++ wrS base (S x) := by rw [List.map_append, List.map_singleton, wrL_snoc]
set_option maxRecDepth 100000 in
set_option maxHeartbeats 16000000 in
theorem pieces_in (F : Fence) (hWR : WideR F) (o : ObjD) (w : World) (hS : StR w w.heap.size 6 o.gA o.gM (segC o.sg)) (hf : ∀ k, (o.sg k).fits) (hr : rightB o = true) (hb : o.base < M) (hal : o.base % 4096 = 0) (hl : liesB o = true) :
    CallsIn F 8 Try.prog 18 #[.agg o.cs] w (PiP w o) := by
  have hW := hWR.wd
  have HWR := Lib.hid hWR
  have hFn := hW.fn; have hro := hW.ro
  have HS := Lib.hid hS; have HF := Lib.hid hf; have HW := Lib.hid hW; have HR := Lib.hid hr; have HL := Lib.hid hl; have HB := Lib.hid hb; have HAL := Lib.hid hal
  have RT : Hid (∀ W : World, StR W W.heap.size 6 o.gA o.gM (segC o.sg) → Calls Try.prog 11 #[.agg o.cs] W fun e W' => e = .returned (.bool true) ∧ Below W.heap.size W W') := Lib.hid fun W h => by
    have := right_any o W h hf; rwa [hr] at this
  obtain ⟨x5, hx5⟩ : ∃ x, x = o.base + spanA o := ⟨_, rfl⟩
  obtain ⟨y5, hy5⟩ : ∃ x, x = o.base + spanZ o := ⟨_, rfl⟩
  have LT : Hid (∀ W : World, StR W W.heap.size 6 o.gA o.gM (segC o.sg) → Calls Try.prog 39 #[.agg o.cs] W fun e W' => e = .returned (.tuple #[.agg #[.int .u64 x5, .int .u64 y5], .bool true]) ∧ Below W.heap.size W W') := Lib.hid fun W h => by rw [hx5, hy5]; exact lies_yes o W h hf hr hb hl
  have hle : Hid (o.base + spanZ o ≤ 140737488355328) := Lib.hid (of_decide_eq_true hl)
  have hgm : o.gM ≤ 8 := (right_parts hr).2.1
  have hmx : Hid (o.gM ≤ maxLen) := Lib.hid (by simp only [maxLen]; omega)
  have HGM := Lib.hid hgm
  have tr1 : (o.base : Int).tmod 4096 = 0 := by rw [Int.tmod_eq_emod_of_nonneg (by omega)]; omega
  have tr2 : (o.base : Int) % 4096 = 0 := by omega
  obtain ⟨w0, hw0⟩ : ∃ x, x = w.alloc (.cells o.cs 33) := ⟨_, rfl⟩
  have B0 : Hid (Below w.heap.size w w0) := by rw [hw0]; exact Lib.hid ((Below.refl _ _).alloc (Nat.le_refl _) _)
  have K0 : Hid (Blk w0 w.heap.size 33 o.cs) := by rw [hw0]; exact Lib.hid (Blk.new _ _ _)
  have HW0 := Lib.hid hw0
  obtain ⟨O0, hO0⟩ : ∃ x, x = o := ⟨_, rfl⟩
  rw [← hO0] at HS HF HR HL HB HAL RT LT hle hmx HGM K0 ⊢
  have hcs : O0.cs = #[.int .i64 o.ino, .int .u64 o.base, .int .u16 o.ty, .int .u64 o.en, .int .u64 o.ph, .slice o.gA o.gM o.gQ, .slice o.nA o.nM o.nQ, .string o.so, .string o.rn, .slice o.sA o.sM o.sQ, .slice o.rA o.rM o.rQ] := by rw [hO0]; rfl
  have hOb : O0.base = o.base := by rw [hO0]
  have hOi : O0.ino = o.ino := by rw [hO0]
  obtain ⟨ino, base, ty, en, ph, gA, gM, gQ, nA, nM, nQ, so, rn, sA, sM, sQ, rA, rM, rQ, sg⟩ := o
  dsimp only at hcs tr1 tr2 hOb hOi
  rw [show (ObjD.mk ino base ty en ph gA gM gQ nA nM nQ so rn sA sM sQ rA rM rQ sg).cs = #[.int .i64 ino, .int .u64 base, .int .u16 ty, .int .u64 en, .int .u64 ph, .slice gA gM gQ, .slice nA nM nQ, .string so, .string rn, .slice sA sM sQ, .slice rA rM rQ] from rfl] at HW0
  have HCS := Lib.hid hcs; have HOB := Lib.hid hOb; have HOI := Lib.hid hOi
  have HO0 : Hid (O0.gA = gA ∧ O0.gM = gM ∧ O0.gQ = gQ) := Lib.hid (by rw [hO0]; exact ⟨rfl, rfl, rfl⟩)
  rw [hcs]
  clear hS hf hW hWR hr hl hb hal hw0 hO0 hcs hOb hOi hgm hx5 hy5
  refine callsIn_of_wp_marks Try.func18 rfl (hFn 18) ?_ hro
  simp only [Try.ntmps18, List.size_toArray, List.length_cons, List.length_nil, Nat.reduceAdd, Nat.reduceSub, Array.replicate_succ, Array.replicate_zero, List.push_toArray, List.append_toArray, List.nil_append, List.cons_append]
  gi_wp2_with fail
  rw [← HW0.out, ← HCS.out]
  refine (HW.out.ca (RT.out w0 ((HS.out.below B0.out).more B0.out.size))).mono ?_
  rintro e w1 ⟨rfl, bl1⟩
  have B1 : Hid (Below w.heap.size w w1) := Lib.hid (B0.out.trans (bl1.mono B0.out.size))
  have K1 := Lib.hid (K0.out.below bl1 K0.out.lt)
  rw [HCS.out] at K1
  have k0 := (K1.out.cell 0).trans rfl
  have k1 := (K1.out.cell 1).trans rfl
  have k2 := (K1.out.cell 2).trans rfl
  have k3 := (K1.out.cell 3).trans rfl
  have k4 := (K1.out.cell 4).trans rfl
  have k5 := (K1.out.cell 5).trans rfl
  have k6 := (K1.out.cell 6).trans rfl
  have k7 := (K1.out.cell 7).trans rfl
  have k8 := (K1.out.cell 8).trans rfl
  have k9 := (K1.out.cell 9).trans rfl
  have k10 := (K1.out.cell 10).trans rfl
  simp only [List.getElem?_toArray, List.getElem?_cons_succ, List.getElem?_cons_zero] at k0 k1 k2 k3 k4 k5 k6 k7 k8 k9 k10
  have l1 := K1.out.lt
  clear bl1
  gi_wp2_with fail
  rw [← HCS.out] at K1 ⊢
  refine (HW.out.ca (LT.out w1 ((HS.out.below B1.out).more B1.out.size))).mono ?_
  rintro e w2 ⟨rfl, bl2⟩
  have B2 : Hid (Below w.heap.size w w2) := Lib.hid (B1.out.trans (bl2.mono B1.out.size))
  have K2 := Lib.hid (K1.out.below bl2 K1.out.lt)
  clear bl2 k0 k1 k2 k3 k4 k5 k6 k7 k8 k9 k10 l1
  rw [HCS.out] at K2
  have k0 := (K2.out.cell 0).trans rfl
  have k1 := (K2.out.cell 1).trans rfl
  have k2 := (K2.out.cell 2).trans rfl
  have k3 := (K2.out.cell 3).trans rfl
  have k4 := (K2.out.cell 4).trans rfl
  have k5 := (K2.out.cell 5).trans rfl
  have k6 := (K2.out.cell 6).trans rfl
  have k7 := (K2.out.cell 7).trans rfl
  have k8 := (K2.out.cell 8).trans rfl
  have k9 := (K2.out.cell 9).trans rfl
  have k10 := (K2.out.cell 10).trans rfl
  simp only [List.getElem?_toArray, List.getElem?_cons_succ, List.getElem?_cons_zero] at k0 k1 k2 k3 k4 k5 k6 k7 k8 k9 k10
  have l1 := K2.out.lt
  have l1a : w.heap.size < w2.heap.size + 1 := by omega
  have l1b : w.heap.size < w2.heap.size + 1 + 1 := by omega
  rw [← HCS.out] at K2
  gi_wp2_with (gi_at_call 24; refine (ploads_in F _ (hFn 24) hro _ _).mono ?_; rintro e w' ⟨rfl, rfl⟩)
  obtain ⟨W0, hW0⟩ : ∃ W0, ((((w2.alloc (.cells #[.int .u64 x5, .int .u64 y5] 71)).alloc (.cells #[.slice none 0 0] 44)).alloc (.cells #[.slice none 0 0] 45)).alloc (.cells #[.int .i64 ino, .int .u64 base, .int .u16 ty, .int .u64 en, .int .u64 ph, .slice gA gM gQ, .slice nA nM nQ, .string so, .string rn, .slice sA sM sQ, .slice rA rM rQ] 33)) = W0 := ⟨_, rfl⟩
  obtain ⟨b7, hb7⟩ : ∃ x, x = w2.heap.size + 1 := ⟨_, rfl⟩
  obtain ⟨b8, hb8⟩ : ∃ x, x = w2.heap.size + 1 + 1 := ⟨_, rfl⟩
  obtain ⟨b9, hb9⟩ : ∃ x, x = w2.heap.size + 1 + 1 + 1 := ⟨_, rfl⟩
  have bs2 := B2.out.size
  have hP0 : PCJ w O0.cs b7 b8 [] [] W0 := by
    rw [← hW0]
    refine ⟨(((K2.out.alloc _).alloc _).alloc _).alloc _, ⟨.slice none 0 0, ?_, World.ownsRow_nil _ _ _ _⟩, ⟨.slice none 0 0, ?_, World.ownsRow_nil _ _ _ _⟩, (fun d hd => by cases hd), (((B2.out.alloc bs2 _).alloc (by simp; omega) _).alloc (by simp; omega) _).alloc (by simp; omega) _, by omega, by omega⟩
    · exact ((blk_at (cs := #[.slice none 0 0]) 44 (by simp; omega)).alloc _).alloc _
    · exact (blk_at (cs := #[.slice none 0 0]) 45 (by simp; omega)).alloc _
  have bL : W0.cell? ⟨b9, 5, none⟩ = some (.slice gA gM gQ) := by rw [← hW0, hb9]; exact ((blk_at _ _ (by simp)).cell 5).trans rfl
  have hsz : W0.heap.size = w2.heap.size + 1 + 1 + 1 + 1 := by rw [← hW0]; simp
  have l7 : Hid (b7 < W0.heap.size ∧ b8 < W0.heap.size ∧ b9 < W0.heap.size ∧ w.heap.size < b7 ∧ w.heap.size < b8 ∧ w.heap.size ≤ W0.heap.size) := Lib.hid (by omega)
  have HP0 := Lib.hid hP0
  rw [hW0, ← hb9, ← hb8, ← hb7]
  obtain ⟨rfl, rfl, rfl⟩ := HO0.out
  clear HO0
  clear hW0 hb7 hb8 hb9 hP0 K1 K2 k0 k1 k2 k3 k4 k5 k6 k7 k8 k9 k10 l1 l1a l1b hsz bs2
  have hl7 := l7.out
  refine wpIn_rangeFunc_ownH hro (by omega) (gf := 40) (lb := #[.pointer (some ⟨b9, 0, none⟩)]) rfl (hFn 40) (enters_of Try.func40 (by kernel_rfl) rfl)
    (loads_next F (8 - 1) (hFn 40) hro (by omega) b9 w.heap.size O0.gM O0.gQ O0.gA O0.sg W0 (by omega) (by omega) bL (HS.out.below HP0.out.bl) hmx.out) belowK_t (belowK_b (by omega)) (Below.refl _ _) (fun _ => rfl)
    (PCI w O0 b7 b8) (fun _ _ _ => False) (PCI.own w O0 b7 b8 _ (by omega)) (fun _ _ _ _ _ hs _ _ => hs)
    ⟨[], rfl, HP0.out⟩
    (fun x a' W => ∃ Bs q0 q2 q3 q4 q5 q6 q10 q11 q12 q13 q14 q15 q16 q17 q18 q19 q20 q21 q22 q23 q24 q25 q26 q27 q28 q29 q30 q31, w.heap.size ≤ Bs ∧ Blk W Bs 56 (O0.sg x.1).cs ∧ a' = { tmps := #[q0, .pointer (some ⟨w.heap.size, 0, none⟩), q2, q3, q4, q5, q6, .pointer (some ⟨b7, 0, none⟩), .pointer (some ⟨b8, 0, none⟩), .pointer (some ⟨Bs, 0, none⟩), q10, q11, q12, q13, q14, q15, q16, q17, q18, q19, q20, q21, q22, q23, q24, q25, q26, q27, q28, q29, q30, q31, .agg (O0.sg x.1).cs, undef, undef, undef, undef, undef, undef, undef, undef, undef, undef, undef, undef, undef, undef, undef, undef, undef, undef, undef, undef, undef, undef, undef, undef, undef, undef, undef, undef, undef, undef, undef, undef, undef, undef, undef, undef, undef, undef, undef, undef, undef, undef, undef, undef, undef, undef, undef, undef, undef, undef, undef, undef, undef, undef, undef, undef, undef, undef, undef, undef, undef, undef, undef, undef, undef, undef, undef], defers := [] })
    (fun x a' _ X Y row hs hg hr => by obtain ⟨Bs, q0, q2, q3, q4, q5, q6, q10, q11, q12, q13, q14, q15, q16, q17, q18, q19, q20, q21, q22, q23, q24, q25, q26, q27, q28, q29, q30, q31, r1, r2, r3⟩ := hs; exact ⟨Bs, q0, q2, q3, q4, q5, q6, q10, q11, q12, q13, q14, q15, q16, q17, q18, q19, q20, q21, q22, q23, q24, q25, q26, q27, q28, q29, q30, q31, r1, blk_grown r2 hg (fun r e => (hr r e).2), r3⟩)
    ?assign ?body ?done ?stop
  case assign =>
    rintro l pre x W K hi hK
    have HI := Lib.hid hi
    have hsW : w.heap.size ≤ W.heap.size := by obtain ⟨ws, _, h⟩ := hi; exact h.bl.size
    have hK2 := Lib.hid hK
    obtain ⟨s, hs⟩ : ∃ s, s = O0.sg x.1 := ⟨_, rfl⟩
    have HSS := Lib.hid hs
    rw [show encS O0.sg x.1 = #[.agg s.cs] by rw [hs]; rfl]
    obtain ⟨kd, fl, off, addr, fsz, msz⟩ := s
    unfold SegD.cs
    dsimp only
    clear hi hK hs
    gi_wp2
    have hO := PCI.own w O0 b7 b8 W0.heap.size (by omega)
    refine hK2.out _ _ ((KeepsOthers.alloc _ _).from _) ((Below.refl _ W).alloc hsW _) (hO.alloc _ HI.out) ⟨W.heap.size, ?_⟩
    iterate 28 (apply Exists.intro)
    refine ⟨hsW, by rw [← HSS.out]; exact blk_at _ _ (by simp), ?_⟩
    rw [← HSS.out]; rfl
  case body =>
    rintro l pre x a' W hl ⟨r, hr⟩ hi ⟨Bs, q0, q2, q3, q4, q5, q6, q10, q11, q12, q13, q14, q15, q16, q17, q18, q19, q20, q21, q22, q23, q24, q25, q26, q27, q28, q29, q30, q31, hBs, qs, rfl⟩ hlt
    obtain ⟨ws, hws, hi⟩ := hi
    have hfol : Try.prog.follows Departure.mixedOrders = true := by kernel_rfl
    have LK := load_okX HR.out x.2
    have m2 := (HF.out x.1).2.1
    have m1 := (HF.out x.1).1
    have hpl : pre.length ≤ 8 := by
      have h1 : (ldx O0.sg O0.gM).length ≤ O0.gM := by have := lds_len O0.sg O0.gM; rwa [lds_ldx, List.length_map] at this
      have := HGM.out; omega
    obtain ⟨s, hs⟩ : ∃ s, s = O0.sg x.1 := ⟨_, rfl⟩
    rw [← hs] at qs LK m1 m2 ⊢
    obtain ⟨ps, hps⟩ : ∃ p, p = pcL O0.base O0.ino ((LdI.is pre).map O0.sg) := ⟨_, rfl⟩
    rw [← hps] at hi
    have hplen : ((LdI.is pre).map O0.sg).length = pre.length := by simp [LdI.is]
    have hpn : ps.length ≤ 16 := by rw [hps]; have := pcL_len O0.base O0.ino ((LdI.is pre).map O0.sg); rw [hplen] at this; omega
    have hwn : ws.length ≤ 8 := by have := wrL_len O0.base ((LdI.is pre).map O0.sg); rw [← hws, hplen, List.length_map] at this; omega
    have END : ∀ (W' : World) (ps' : List PieceD) (ws' : List WriteD), ps' = ps ++ pcS base ino s → ws'.map WriteD.key = ws.map WriteD.key ++ wrS base s → PCJ w O0.cs b7 b8 ps' ws' W' → PCI w O0 b7 b8 (pre ++ [x]) W' := by
      rintro W' ps' ws' rfl h2 h3
      refine ⟨ws', ?_, ?_⟩
      · rw [LdI.is_snoc, wrI_end, ← hws, h2, ← hs, HOB.out]
      · rw [LdI.is_snoc, pcI_end, ← hps, ← hs, HOB.out, HOI.out]; exact h3
    have HEND := Lib.hid END
    have hen : base + upv (s.addr + s.msz) ≤ 140737488355328 := by have := hle.out; rw [HOB.out] at this; have := LK.en; omega
    obtain ⟨kd, fl, off, addr, fsz, msz⟩ := s
    have g1 := LK.m0; have g2 := LK.fm; have g3 := LK.ofs; have g5 := LK.up
    dsimp only at g1 g2 g3 g5 m1 m2 hen
    have HSS := Lib.hid hs
    have hI0 := Lib.hid hi
    have QS0 := Lib.hid qs
    have mods : base % 4096 = 0 := by have := HAL.out; rwa [HOB.out] at this
    obtain ⟨a0, ha0⟩ : ∃ y, y = base + addr := ⟨_, rfl⟩
    obtain ⟨f0, hf0⟩ : ∃ y, y = base + addr + fsz := ⟨_, rfl⟩
    obtain ⟨e0, he0⟩ : ∃ y, y = base + addr + msz := ⟨_, rfl⟩
    obtain ⟨df, hdf⟩ : ∃ y, y = dn a0 := ⟨_, rfl⟩
    obtain ⟨uf, huf⟩ : ∃ y, y = upv f0 := ⟨_, rfl⟩
    obtain ⟨ue, hue⟩ : ∃ y, y = upv e0 := ⟨_, rfl⟩
    obtain ⟨dof, hdo⟩ : ∃ y, y = dn off := ⟨_, rfl⟩
    have w1 : IntKind.u64.wrap ((base : Int) + (addr : Int)) = (a0 : Int) := wrap_sum ha0 (by unfold M; omega)
    have w2' : IntKind.u64.wrap ((a0 : Int) + (fsz : Int)) = (f0 : Int) := wrap_sum (by omega) (by unfold M; omega)
    have w3 : IntKind.u64.wrap ((a0 : Int) + (msz : Int)) = (e0 : Int) := wrap_sum (by omega) (by unfold M; omega)
    have a0M : a0 < M := by unfold M; omega
    have f0M : f0 < M := by unfold M; omega
    have e0M : e0 < M := by unfold M; omega
    have q1 : f0 ≤ uf ∧ uf < M ∧ uf ≤ ue ∧ df < ue ∧ (fsz < msz → f0 < ue) ∧ (fsz = msz → uf = ue) ∧ uf < f0 + 4096 := by
      have hue' : ue = dn (e0 + 4095) := by rw [hue]; unfold upv; rw [if_pos (by unfold M; omega)]
      have huf' : uf = dn (f0 + 4095) := by rw [huf]; unfold upv; rw [if_pos (by unfold M; omega)]
      rw [hue', huf', hdf]
      unfold dn M
      refine ⟨by omega, by omega, by omega, by omega, by omega, by intro e; rw [hf0, he0, e], by omega⟩
    obtain ⟨q1a, q1b, q1c, q1d, q1e, q1f, q1g⟩ := q1
    have RD : Hid (∀ W : World, Calls Try.prog 26 #[.int .u64 a0] W fun e w' => e = .returned (.int .u64 df) ∧ w' = W) := Lib.hid fun W => by
      rw [hdf]; exact (down_any a0 W a0M).mono fun _ _ h => ⟨h.1, h.2.symm⟩
    have RO : Hid (∀ W : World, Calls Try.prog 26 #[.int .u64 off] W fun e w' => e = .returned (.int .u64 dof) ∧ w' = W) := Lib.hid fun W => by
      rw [hdo]; exact (down_any off W m1).mono fun _ _ h => ⟨h.1, h.2.symm⟩
    have RU : Hid (∀ W : World, Calls Try.prog 27 #[.int .u64 e0] W fun e w' => e = .returned (.int .u64 ue) ∧ w' = W) := Lib.hid fun W => by
      rw [hue]; exact (lup_any e0 W e0M).mono fun _ _ h => ⟨h.1, h.2.symm⟩
    have RF : Hid (∀ W : World, Calls Try.prog 27 #[.int .u64 f0] W fun e w' => e = .returned (.int .u64 uf) ∧ w' = W) := Lib.hid fun W => by
      rw [huf]; exact (lup_any f0 W f0M).mono fun _ _ h => ⟨h.1, h.2.symm⟩
    have RF2 : Hid (∀ W : World, Calls Try.prog 27 #[.int .u64 f0] W fun e w' => e = .returned (.int .u64 uf) ∧ W = w') := Lib.hid fun W => (RF.out W).mono fun _ _ h => ⟨h.1, h.2.symm⟩
    have PS : Hid (pcS base ino ⟨kd, fl, off, addr, fsz, msz⟩ = if 0 < fsz then ⟨df, uf, fl, ino, dof⟩ :: (if uf < ue then [⟨uf, ue, fl, -1, 0⟩] else []) else [⟨df, ue, fl, -1, 0⟩]) := Lib.hid (by rw [hdf, huf, hue, hdo, ha0, hf0, he0]; rfl)
    have WS : Hid (wrS base ⟨kd, fl, off, addr, fsz, msz⟩ = if 0 < fsz ∧ fsz < msz ∧ f0 < uf then [(f0, uf - f0)] else []) := Lib.hid (by rw [huf, hf0]; rfl)
    obtain ⟨i49, hi49, hz0, hz1, hz2⟩ := info_parts info49
    obtain ⟨i52, hi52, hy0, hy1, hy2⟩ := info_parts info52
    have hmm : maxLen = 9223372036854775807 := by simp [maxLen]
    have cE : (uf : Int) - (f0 : Int) = ((uf - f0 : Nat) : Int) := by omega
    obtain ⟨wl, hwl⟩ : ∃ y, y = uf - f0 := ⟨_, rfl⟩
    have w4 : IntKind.u64.wrap ((uf : Int) - (f0 : Int)) = (wl : Int) := by rw [cE, ← hwl]; exact wrap_small (by omega)
    have hwl2 : wl ≤ 4096 := by omega
    have HWL := Lib.hid hwl
    clear cE hwl hr hi hs hps hws qs END LK hen mods ha0 hf0 he0 hdf huf hue hdo a0M f0M e0M m1 m2 hlt g3 g5 hpl q1g hplen
    by_cases cA : fsz = 0
    ·
      have t1 : decide ((0 : Int) < (fsz : Int)) = false := by simp; omega
      have t1n : decide (0 < fsz) = false := by simp; omega
      have t2 : decide (df < ue) = true := by simp; omega
      have t2i : decide ((df : Int) < (ue : Int)) = true := by simp; omega
      have PSA := Lib.hid (show pcS base ino ⟨kd, fl, off, addr, fsz, msz⟩ = [⟨df, ue, fl, -1, 0⟩] by rw [PS.out, if_neg (by omega)])
      have WSA := Lib.hid (show wrS base ⟨kd, fl, off, addr, fsz, msz⟩ = [] by rw [WS.out, if_neg (by omega)])
      clear cA q1a q1b q1c q1d q1e q1f g1 g2
      have o0 : W.cell? ⟨w.heap.size, 0, none⟩ = some (.int .i64 ino) := (hI0.out.bo.cell 0).trans (by rw [HCS.out]; rfl)
      have o1 : W.cell? ⟨w.heap.size, 1, none⟩ = some (.int .u64 base) := (hI0.out.bo.cell 1).trans (by rw [HCS.out]; rfl)
      have lO := hI0.out.bo.lt
      have d1 := (QS0.out.cell 1).trans rfl; have d2 := (QS0.out.cell 2).trans rfl; have d3 := (QS0.out.cell 3).trans rfl; have d4 := (QS0.out.cell 4).trans rfl; have d5 := (QS0.out.cell 5).trans rfl
      simp only [SegD.cs, List.getElem?_toArray, List.getElem?_cons_succ, List.getElem?_cons_zero] at d1 d2 d3 d4 d5
      have lB := QS0.out.lt
      gi_wp2_with fail
      have d4d := drewc d4; have d5d := drewc d5
      refine wpIn_round_still HW.out (by omega) hfol (by kernel_rfl) (by kernel_rfl) ?_
      repeat still_step
      still_call (RD.out _)
      repeat still_step
      still_call (RU.out _)
      repeat still_step
      refine wpStill_nil ?_
      change Exit.then _ _ _ _ W.drew
      have I1 := Lib.hid hI0.out.drew
      have QS1 : Hid (Blk W.drew Bs 56 (SegD.cs ⟨kd, fl, off, addr, fsz, msz⟩)) := Lib.hid QS0.out
      have KO1 := Lib.hid (KeepsOthers.drew W)
      have BL1 : Hid (Below w.heap.size W W.drew) := Lib.hid (Below.refl _ _).drew
      generalize W.drew = W1 at I1 QS1 KO1 BL1 ⊢
      clear o0 o1 lO d1 d2 d3 d4 d5 d4d d5d lB
      have o0 : W1.cell? ⟨w.heap.size, 0, none⟩ = some (.int .i64 ino) := (I1.out.bo.cell 0).trans (by rw [HCS.out]; rfl)
      have o1 : W1.cell? ⟨w.heap.size, 1, none⟩ = some (.int .u64 base) := (I1.out.bo.cell 1).trans (by rw [HCS.out]; rfl)
      have lO := I1.out.bo.lt
      have d1 := (QS1.out.cell 1).trans rfl; have d2 := (QS1.out.cell 2).trans rfl; have d3 := (QS1.out.cell 3).trans rfl; have d4 := (QS1.out.cell 4).trans rfl; have d5 := (QS1.out.cell 5).trans rfl
      simp only [SegD.cs, List.getElem?_toArray, List.getElem?_cons_succ, List.getElem?_cons_zero] at d1 d2 d3 d4 d5
      have lB := QS1.out.lt
      obtain ⟨v7, hv7, hr7⟩ := I1.out.bp
      obtain ⟨A7, c7, rfl⟩ := ownsRow_val hr7
      have e7 := hv7.cell; have f7 := hv7.frozen; have L7 := hv7.lt
      have HV7 := Lib.hid hv7; have HR7 := Lib.hid hr7
      clear hv7 hr7
      have hs1 := I1.out.bl.size
      gi_wp2_with (gi_at_builtin; refine wpListIn_append_own _ rfl _ _ 44 rfl w.heap.size 49 i49 (.agg #[.int .u64 0, .int .u64 0, .int .u8 0, .int .i64 0, .int .u64 0]) 5 40 Try.underlying44 hi49 hz0 hz1 hz2 rfl (by decide) (.slice A7 ps.length c7) _ _ rfl (HR7.out.alloc _) ⟨W1.heap.size, 0, none⟩ 1 1 [.int .u64 df, .int .u64 ue, .int .u8 fl, .int .i64 (-1), .int .u64 0] rfl rfl (cells_new _ _ _) (by simp [Value.oneCell']) (by simp only [maxLen]; omega) (by omega) (by simp; omega) ?_; intro v' w2 hown' hgrow _; obtain ⟨g', cap', rfl⟩ := ownsRow_succ hown'; obtain ⟨a1, a2, a3, a4⟩ := PCJ.pushP (p := ⟨df, ue, fl, -1, 0⟩) I1.out HV7.out HR7.out hown' hgrow; have z1 := a1.cell; have z2 := a1.frozen; have Z2 := Lib.hid a2; have Z3 := Lib.hid a3; have Z4 := Lib.hid a4; clear a1 a2 a3 a4 hown' hgrow)
      exact ⟨(KO1.out.trans Z3.out).from _, BL1.out.trans Z4.out, HEND.out _ _ _ (by rw [PSA.out]) (by rw [WSA.out, List.append_nil]) Z2.out⟩
    have t1 : decide ((0 : Int) < (fsz : Int)) = true := by simp; omega
    have t1n : decide (0 < fsz) = true := by simp; omega
    have t1p : 0 < fsz := by omega
    have HQ := Lib.hid (show f0 ≤ uf ∧ uf < M ∧ uf ≤ ue ∧ df < ue ∧ (fsz < msz → f0 < ue) ∧ (fsz = msz → uf = ue) ∧ 0 < msz ∧ fsz ≤ msz from ⟨q1a, q1b, q1c, q1d, q1e, q1f, g1, g2⟩)
    clear cA q1a q1b q1c q1d q1e q1f g1 g2
    have o0 : W.cell? ⟨w.heap.size, 0, none⟩ = some (.int .i64 ino) := (hI0.out.bo.cell 0).trans (by rw [HCS.out]; rfl)
    have o1 : W.cell? ⟨w.heap.size, 1, none⟩ = some (.int .u64 base) := (hI0.out.bo.cell 1).trans (by rw [HCS.out]; rfl)
    have lO := hI0.out.bo.lt
    have d1 := (QS0.out.cell 1).trans rfl; have d2 := (QS0.out.cell 2).trans rfl; have d3 := (QS0.out.cell 3).trans rfl; have d4 := (QS0.out.cell 4).trans rfl; have d5 := (QS0.out.cell 5).trans rfl
    simp only [SegD.cs, List.getElem?_toArray, List.getElem?_cons_succ, List.getElem?_cons_zero] at d1 d2 d3 d4 d5
    have lB := QS0.out.lt
    gi_wp2_with fail
    have d4d := drewc d4; have d5d := drewc d5
    refine wpIn_round_still HW.out (by omega) hfol (by kernel_rfl) (by kernel_rfl) ?_
    repeat still_step
    still_call (RD.out _)
    repeat still_step
    still_call (RU.out _)
    repeat still_step
    refine wpStill_nil ?_
    change Exit.then _ _ _ _ W.drew
    have I1 := Lib.hid hI0.out.drew
    have QS1 : Hid (Blk W.drew Bs 56 (SegD.cs ⟨kd, fl, off, addr, fsz, msz⟩)) := Lib.hid QS0.out
    have KO1 := Lib.hid (KeepsOthers.drew W)
    have BL1 : Hid (Below w.heap.size W W.drew) := Lib.hid (Below.refl _ _).drew
    generalize W.drew = W1 at I1 QS1 KO1 BL1 ⊢
    clear o0 o1 lO d1 d2 d3 d4 d5 d4d d5d lB
    have o0 : W1.cell? ⟨w.heap.size, 0, none⟩ = some (.int .i64 ino) := (I1.out.bo.cell 0).trans (by rw [HCS.out]; rfl)
    have o1 : W1.cell? ⟨w.heap.size, 1, none⟩ = some (.int .u64 base) := (I1.out.bo.cell 1).trans (by rw [HCS.out]; rfl)
    have lO := I1.out.bo.lt
    have d1 := (QS1.out.cell 1).trans rfl; have d2 := (QS1.out.cell 2).trans rfl; have d3 := (QS1.out.cell 3).trans rfl; have d4 := (QS1.out.cell 4).trans rfl; have d5 := (QS1.out.cell 5).trans rfl
    simp only [SegD.cs, List.getElem?_toArray, List.getElem?_cons_succ, List.getElem?_cons_zero] at d1 d2 d3 d4 d5
    have lB := QS1.out.lt
    obtain ⟨v7, hv7, hr7⟩ := I1.out.bp
    obtain ⟨A7, c7, rfl⟩ := ownsRow_val hr7
    have e7 := hv7.cell; have f7 := hv7.frozen; have L7 := hv7.lt
    have HV7 := Lib.hid hv7; have HR7 := Lib.hid hr7
    clear hv7 hr7
    have hs1 := I1.out.bl.size
    gi_upto_region 13 with fail
    clear d1 d2 d3 d4 d5 lB o0 o1 lO e7 f7 L7
    gi_cut [] from 52 (fun wx => ∃ x : Unit, Hid (PCJ w O0.cs b7 b8 (ps ++ [⟨df, uf, fl, ino, dof⟩]) ws wx ∧ Blk wx Bs 56 (SegD.cs ⟨kd, fl, off, addr, fsz, msz⟩) ∧ KeepsOthers W wx ∧ Below w.heap.size W wx))
    case first =>
      refine wpIn_round_held (S := SG w Bs (SegD.cs ⟨kd, fl, off, addr, fsz, msz⟩) O0.cs) HWR.out (by omega) hfol (by kernel_rfl) ⟨QS1.out, I1.out.bo⟩ (fun hS => ?_)
      have I2 := Lib.hid I1.out.drew
      have QS2 : Hid (Blk W1.drew Bs 56 (SegD.cs ⟨kd, fl, off, addr, fsz, msz⟩)) := Lib.hid QS1.out
      have KO2 := Lib.hid (KO1.out.trans (KeepsOthers.drew W1))
      have BL2 : Hid (Below w.heap.size W W1.drew) := Lib.hid BL1.out.drew
      have HV72 : Hid (Boxed W1.drew b7 44 (.slice A7 ps.length c7)) := Lib.hid HV7.out
      have HR72 : Hid (W1.drew.ownsRow w.heap.size 49 5 (.slice A7 ps.length c7) ps.length (flatL PieceD.cs ps)) := Lib.hid HR7.out
      clear HV7 HR7 hs1 I1 QS1 KO1 BL1
      generalize W1.drew = W2 at I2 QS2 KO2 BL2 HV72 HR72 hS ⊢
      have e7 := HV72.out.cell
      have L7 := HV72.out.lt
      have hs2 := I2.out.bl.size
      have RO2 : Hid (∀ W : World, Calls Try.prog 26 #[.int .u64 off] W fun e w' => e = .returned (.int .u64 dof) ∧ W = w') := Lib.hid fun W => (RO.out W).mono fun _ _ h => ⟨h.1, h.2.symm⟩
      refine held_take 53 (i := 1) (v := .int .u64 df) rfl rfl (by kernel_rfl) (by kernel_rfl) (by kernel_rfl) (Or.inl ⟨by rfl, fun wz hz => ?_⟩) (by assumption) ?_
      · (go_simp; try rfl)
      dsimp only
      simp only [List.setIfInBounds_toArray, List.set_cons_zero, List.set_cons_succ]
      refine held_take 54 (i := 2) (v := .int .u64 f0) rfl rfl (by kernel_rfl) (by kernel_rfl) (by kernel_rfl) (Or.inl ⟨by rfl, fun wz hz => ?_⟩) (by assumption) ?_
      · (go_simp; try rfl)
      dsimp only
      simp only [List.setIfInBounds_toArray, List.set_cons_zero, List.set_cons_succ]
      refine held_take 56 (i := 4) (v := .pointer (some ⟨Bs, 1, none⟩)) rfl rfl (by kernel_rfl) (by kernel_rfl) (by kernel_rfl) (Or.inl ⟨by rfl, fun wz hz => ?_⟩) (by assumption) ?_
      · (go_simp; try rfl)
      dsimp only
      simp only [List.setIfInBounds_toArray, List.set_cons_zero, List.set_cons_succ]
      refine held_take 57 (i := 5) (v := .int .u8 fl) rfl rfl (by kernel_rfl) (by kernel_rfl) (by kernel_rfl) (Or.inl ⟨by rfl, fun wz hz => ?_⟩) (by assumption) ?_
      · obtain ⟨hz1, hz2⟩ := hz; have d1 := (hz1.cell 1).trans rfl; have d2 := (hz1.cell 2).trans rfl; have o0 : wz.cell? ⟨w.heap.size, 0, none⟩ = some (.int .i64 ino) := (hz2.cell 0).trans (by rw [HCS.out]; rfl); simp only [SegD.cs, List.getElem?_toArray, List.getElem?_cons_succ, List.getElem?_cons_zero] at d1 d2; (go_simp; try rfl)
      dsimp only
      simp only [List.setIfInBounds_toArray, List.set_cons_zero, List.set_cons_succ]
      refine held_take 58 (i := 6) (v := .pointer (some ⟨w.heap.size, 0, none⟩)) rfl rfl (by kernel_rfl) (by kernel_rfl) (by kernel_rfl) (Or.inl ⟨by rfl, fun wz hz => ?_⟩) (by assumption) ?_
      · (go_simp; try rfl)
      dsimp only
      simp only [List.setIfInBounds_toArray, List.set_cons_zero, List.set_cons_succ]
      refine held_take 59 (i := 7) (v := .int .i64 ino) rfl rfl (by kernel_rfl) (by kernel_rfl) (by kernel_rfl) (Or.inl ⟨by rfl, fun wz hz => ?_⟩) (by assumption) ?_
      · obtain ⟨hz1, hz2⟩ := hz; have d1 := (hz1.cell 1).trans rfl; have d2 := (hz1.cell 2).trans rfl; have o0 : wz.cell? ⟨w.heap.size, 0, none⟩ = some (.int .i64 ino) := (hz2.cell 0).trans (by rw [HCS.out]; rfl); simp only [SegD.cs, List.getElem?_toArray, List.getElem?_cons_succ, List.getElem?_cons_zero] at d1 d2; (go_simp; try rfl)
      dsimp only
      simp only [List.setIfInBounds_toArray, List.set_cons_zero, List.set_cons_succ]
      refine held_take 60 (i := 8) (v := .pointer (some ⟨Bs, 2, none⟩)) rfl rfl (by kernel_rfl) (by kernel_rfl) (by kernel_rfl) (Or.inl ⟨by rfl, fun wz hz => ?_⟩) (by assumption) ?_
      · (go_simp; try rfl)
      dsimp only
      simp only [List.setIfInBounds_toArray, List.set_cons_zero, List.set_cons_succ]
      refine held_take 61 (i := 9) (v := .int .u64 off) rfl rfl (by kernel_rfl) (by kernel_rfl) (by kernel_rfl) (Or.inl ⟨by rfl, fun wz hz => ?_⟩) (by assumption) ?_
      · obtain ⟨hz1, hz2⟩ := hz; have d1 := (hz1.cell 1).trans rfl; have d2 := (hz1.cell 2).trans rfl; have o0 : wz.cell? ⟨w.heap.size, 0, none⟩ = some (.int .i64 ino) := (hz2.cell 0).trans (by rw [HCS.out]; rfl); simp only [SegD.cs, List.getElem?_toArray, List.getElem?_cons_succ, List.getElem?_cons_zero] at d1 d2; (go_simp; try rfl)
      dsimp only
      simp only [List.setIfInBounds_toArray, List.set_cons_zero, List.set_cons_succ]
      refine wpAnyH_ready (rs := [0, 3]) (by kernel_rfl) (by simp) ?_
      refine AllReadyH.cons rfl (fun K hK => ?_) ?_
      · 
        go_simp
        refine hK.out _ _ hS (fun hS => ?_)
        clear hK K
        refine wpAnyH_ready (rs := [3]) (by kernel_rfl) (by simp) ?_
        refine AllReadyH.cons rfl (fun K hK => ?_) ?_
        rotate_left
        exact AllReadyH.nil
        go_simp
        refine (RF2.out _).mono ?_
        rintro e wq ⟨rfl, rfl⟩
        try go_simp
        refine hK.out _ _ hS (fun hS => ?_)
        clear hK K
        refine wpAnyH_ready (rs := [10]) (by kernel_rfl) (by simp) ?_
        refine AllReadyH.cons rfl (fun K hK => ?_) ?_
        rotate_left
        exact AllReadyH.nil
        go_simp
        refine (RO2.out _).mono ?_
        rintro e wq ⟨rfl, rfl⟩
        try go_simp
        refine hK.out _ _ hS (fun hS => ?_)
        clear hK K
        refine held_take 63 (i := 11) (v := .agg #[.int .u64 df, .int .u64 uf, .int .u8 fl, .int .i64 ino, .int .u64 dof]) rfl rfl (by kernel_rfl) (by kernel_rfl) (by kernel_rfl) (Or.inl ⟨by rfl, fun wz hz => ?_⟩) (by assumption) ?_
        · (go_simp; try rfl)
        dsimp only
        simp only [List.setIfInBounds_toArray, List.set_cons_zero, List.set_cons_succ]
        refine wpAnyH_ready (rs := [12]) (by kernel_rfl) (by simp) ?_
        refine AllReadyH.cons rfl (fun K hK => ?_) ?_
        rotate_left
        exact AllReadyH.nil
        go_simp
        refine hK.out _ _ (hS.alloc _) (fun hS => ?_)
        clear hK K
        refine wpAnyH_ready (rs := [13]) (by kernel_rfl) (by simp) ?_
        refine AllReadyH.cons rfl (fun K hK => ?_) ?_
        rotate_left
        exact AllReadyH.nil
        refine step_append_any _ rfl (.tmp 52) (.tmp 64) 44 rfl w.heap.size 49 i49 (.agg #[.int .u64 0, .int .u64 0, .int .u8 0, .int .i64 0, .int .u64 0]) 5 40 Try.underlying44 hi49 hz0 hz1 hz2 rfl (by decide) (.slice A7 ps.length c7) ps.length (flatL PieceD.cs ps) (by simp [Act.eval]) (HR72.out.alloc _) (W2.heap.size + 1) (some ⟨W2.heap.size, 0, none⟩) 1 1 [.int .u64 df, .int .u64 uf, .int .u8 fl, .int .i64 ino, .int .u64 dof] (by simp [Act.eval]) (reads_new W2 49 5 1 [.int .u64 df, .int .u64 uf, .int .u8 fl, .int .i64 ino, .int .u64 dof] rfl rfl) (by simp [Value.oneCell']) (by simp only [maxLen]; omega) (by omega) (by simp; omega) ?_
        intro v' w2 hown' hgrow _
        obtain ⟨g', cap', rfl⟩ := ownsRow_succ hown'
        obtain ⟨a1, a2, a3, a4⟩ := PCJ.pushP (p := ⟨df, uf, fl, ino, dof⟩) I2.out HV72.out HR72.out hown' hgrow
        have QS3 := Lib.hid (push_far (v' := .slice (some ⟨g', 0, none⟩) (ps.length + 1) cap') a1 HR72.out hgrow QS2.out (by decide) (by decide))
        have hs2' : SG w Bs (SegD.cs ⟨kd, fl, off, addr, fsz, msz⟩) O0.cs w2 := ⟨(QS2.out.alloc (.cells #[.int .u64 df, .int .u64 uf, .int .u8 fl, .int .i64 ino, .int .u64 dof] 49)).grown hgrow (not_blk (QS2.out.alloc (.cells #[.int .u64 df, .int .u64 uf, .int .u8 fl, .int .i64 ino, .int .u64 dof] 49)) (HR72.out.alloc (.cells #[.int .u64 df, .int .u64 uf, .int .u8 fl, .int .i64 ino, .int .u64 dof] 49)) (by decide)), (I2.out.bo.alloc (.cells #[.int .u64 df, .int .u64 uf, .int .u8 fl, .int .i64 ino, .int .u64 dof] 49)).grown hgrow (not_blk (I2.out.bo.alloc (.cells #[.int .u64 df, .int .u64 uf, .int .u8 fl, .int .i64 ino, .int .u64 dof] 49)) (HR72.out.alloc (.cells #[.int .u64 df, .int .u64 uf, .int .u8 fl, .int .i64 ino, .int .u64 dof] 49)) (by decide))⟩
        have z1 := a1.cell; have z2 := a1.frozen; have I3 := Lib.hid a2; have Z3 := Lib.hid a3; have Z4 := Lib.hid a4
        clear a1 a2 a3 a4 hown' hgrow
        refine hK.out _ _ hs2' (fun hS => ?_)
        clear hK K
        rw [put_d (d := 65) rfl]
        dsimp only
        simp only [List.setIfInBounds_toArray, List.set_cons_zero, List.set_cons_succ]
        refine wpAnyH_ready (rs := [14]) (by kernel_rfl) (by simp) ?_
        refine AllReadyH.cons rfl (fun K hK => ?_) ?_
        rotate_left
        exact AllReadyH.nil
        go_simp
        refine hK.out _ _ ⟨QS3.out, I3.out.bo⟩ (fun hS => ?_)
        clear hK K
        refine wpAnyH_done (by kernel_rfl) ?_ _
        refine NQ.normal ?_
        gi_wp2_with fail
        gi_meet
        exact ⟨(), Lib.hid ⟨I3.out, QS3.out, KO2.out.trans Z3.out, BL2.out.trans Z4.out⟩⟩
      refine AllReadyH.cons rfl (fun K hK => ?_) ?_
      · 
        go_simp
        refine (RF2.out _).mono ?_
        rintro e wq ⟨rfl, rfl⟩
        try go_simp
        refine hK.out _ _ hS (fun hS => ?_)
        clear hK K
        refine wpAnyH_ready (rs := [0, 10]) (by kernel_rfl) (by simp) ?_
        refine AllReadyH.cons rfl (fun K hK => ?_) ?_
        · 
          go_simp
          refine hK.out _ _ hS (fun hS => ?_)
          clear hK K
          refine wpAnyH_ready (rs := [10]) (by kernel_rfl) (by simp) ?_
          refine AllReadyH.cons rfl (fun K hK => ?_) ?_
          rotate_left
          exact AllReadyH.nil
          go_simp
          refine (RO2.out _).mono ?_
          rintro e wq ⟨rfl, rfl⟩
          try go_simp
          refine hK.out _ _ hS (fun hS => ?_)
          clear hK K
          refine held_take 63 (i := 11) (v := .agg #[.int .u64 df, .int .u64 uf, .int .u8 fl, .int .i64 ino, .int .u64 dof]) rfl rfl (by kernel_rfl) (by kernel_rfl) (by kernel_rfl) (Or.inl ⟨by rfl, fun wz hz => ?_⟩) (by assumption) ?_
          · (go_simp; try rfl)
          dsimp only
          simp only [List.setIfInBounds_toArray, List.set_cons_zero, List.set_cons_succ]
          refine wpAnyH_ready (rs := [12]) (by kernel_rfl) (by simp) ?_
          refine AllReadyH.cons rfl (fun K hK => ?_) ?_
          rotate_left
          exact AllReadyH.nil
          go_simp
          refine hK.out _ _ (hS.alloc _) (fun hS => ?_)
          clear hK K
          refine wpAnyH_ready (rs := [13]) (by kernel_rfl) (by simp) ?_
          refine AllReadyH.cons rfl (fun K hK => ?_) ?_
          rotate_left
          exact AllReadyH.nil
          refine step_append_any _ rfl (.tmp 52) (.tmp 64) 44 rfl w.heap.size 49 i49 (.agg #[.int .u64 0, .int .u64 0, .int .u8 0, .int .i64 0, .int .u64 0]) 5 40 Try.underlying44 hi49 hz0 hz1 hz2 rfl (by decide) (.slice A7 ps.length c7) ps.length (flatL PieceD.cs ps) (by simp [Act.eval]) (HR72.out.alloc _) (W2.heap.size + 1) (some ⟨W2.heap.size, 0, none⟩) 1 1 [.int .u64 df, .int .u64 uf, .int .u8 fl, .int .i64 ino, .int .u64 dof] (by simp [Act.eval]) (reads_new W2 49 5 1 [.int .u64 df, .int .u64 uf, .int .u8 fl, .int .i64 ino, .int .u64 dof] rfl rfl) (by simp [Value.oneCell']) (by simp only [maxLen]; omega) (by omega) (by simp; omega) ?_
          intro v' w2 hown' hgrow _
          obtain ⟨g', cap', rfl⟩ := ownsRow_succ hown'
          obtain ⟨a1, a2, a3, a4⟩ := PCJ.pushP (p := ⟨df, uf, fl, ino, dof⟩) I2.out HV72.out HR72.out hown' hgrow
          have QS3 := Lib.hid (push_far (v' := .slice (some ⟨g', 0, none⟩) (ps.length + 1) cap') a1 HR72.out hgrow QS2.out (by decide) (by decide))
          have hs2' : SG w Bs (SegD.cs ⟨kd, fl, off, addr, fsz, msz⟩) O0.cs w2 := ⟨(QS2.out.alloc (.cells #[.int .u64 df, .int .u64 uf, .int .u8 fl, .int .i64 ino, .int .u64 dof] 49)).grown hgrow (not_blk (QS2.out.alloc (.cells #[.int .u64 df, .int .u64 uf, .int .u8 fl, .int .i64 ino, .int .u64 dof] 49)) (HR72.out.alloc (.cells #[.int .u64 df, .int .u64 uf, .int .u8 fl, .int .i64 ino, .int .u64 dof] 49)) (by decide)), (I2.out.bo.alloc (.cells #[.int .u64 df, .int .u64 uf, .int .u8 fl, .int .i64 ino, .int .u64 dof] 49)).grown hgrow (not_blk (I2.out.bo.alloc (.cells #[.int .u64 df, .int .u64 uf, .int .u8 fl, .int .i64 ino, .int .u64 dof] 49)) (HR72.out.alloc (.cells #[.int .u64 df, .int .u64 uf, .int .u8 fl, .int .i64 ino, .int .u64 dof] 49)) (by decide))⟩
          have z1 := a1.cell; have z2 := a1.frozen; have I3 := Lib.hid a2; have Z3 := Lib.hid a3; have Z4 := Lib.hid a4
          clear a1 a2 a3 a4 hown' hgrow
          refine hK.out _ _ hs2' (fun hS => ?_)
          clear hK K
          rw [put_d (d := 65) rfl]
          dsimp only
          simp only [List.setIfInBounds_toArray, List.set_cons_zero, List.set_cons_succ]
          refine wpAnyH_ready (rs := [14]) (by kernel_rfl) (by simp) ?_
          refine AllReadyH.cons rfl (fun K hK => ?_) ?_
          rotate_left
          exact AllReadyH.nil
          go_simp
          refine hK.out _ _ ⟨QS3.out, I3.out.bo⟩ (fun hS => ?_)
          clear hK K
          refine wpAnyH_done (by kernel_rfl) ?_ _
          refine NQ.normal ?_
          gi_wp2_with fail
          gi_meet
          exact ⟨(), Lib.hid ⟨I3.out, QS3.out, KO2.out.trans Z3.out, BL2.out.trans Z4.out⟩⟩
        refine AllReadyH.cons rfl (fun K hK => ?_) ?_
        · 
          go_simp
          refine (RO2.out _).mono ?_
          rintro e wq ⟨rfl, rfl⟩
          try go_simp
          refine hK.out _ _ hS (fun hS => ?_)
          clear hK K
          refine held_take 63 (i := 11) (v := .agg #[.int .u64 df, .int .u64 uf, .int .u8 fl, .int .i64 ino, .int .u64 dof]) rfl rfl (by kernel_rfl) (by kernel_rfl) (by kernel_rfl) (Or.inl ⟨by rfl, fun wz hz => ?_⟩) (by assumption) ?_
          · (go_simp; try rfl)
          dsimp only
          simp only [List.setIfInBounds_toArray, List.set_cons_zero, List.set_cons_succ]
          refine wpAnyH_ready (rs := [0, 12]) (by kernel_rfl) (by simp) ?_
          refine AllReadyH.cons rfl (fun K hK => ?_) ?_
          · 
            go_simp
            refine hK.out _ _ hS (fun hS => ?_)
            clear hK K
            refine wpAnyH_ready (rs := [12]) (by kernel_rfl) (by simp) ?_
            refine AllReadyH.cons rfl (fun K hK => ?_) ?_
            rotate_left
            exact AllReadyH.nil
            go_simp
            refine hK.out _ _ (hS.alloc _) (fun hS => ?_)
            clear hK K
            refine wpAnyH_ready (rs := [13]) (by kernel_rfl) (by simp) ?_
            refine AllReadyH.cons rfl (fun K hK => ?_) ?_
            rotate_left
            exact AllReadyH.nil
            refine step_append_any _ rfl (.tmp 52) (.tmp 64) 44 rfl w.heap.size 49 i49 (.agg #[.int .u64 0, .int .u64 0, .int .u8 0, .int .i64 0, .int .u64 0]) 5 40 Try.underlying44 hi49 hz0 hz1 hz2 rfl (by decide) (.slice A7 ps.length c7) ps.length (flatL PieceD.cs ps) (by simp [Act.eval]) (HR72.out.alloc _) (W2.heap.size + 1) (some ⟨W2.heap.size, 0, none⟩) 1 1 [.int .u64 df, .int .u64 uf, .int .u8 fl, .int .i64 ino, .int .u64 dof] (by simp [Act.eval]) (reads_new W2 49 5 1 [.int .u64 df, .int .u64 uf, .int .u8 fl, .int .i64 ino, .int .u64 dof] rfl rfl) (by simp [Value.oneCell']) (by simp only [maxLen]; omega) (by omega) (by simp; omega) ?_
            intro v' w2 hown' hgrow _
            obtain ⟨g', cap', rfl⟩ := ownsRow_succ hown'
            obtain ⟨a1, a2, a3, a4⟩ := PCJ.pushP (p := ⟨df, uf, fl, ino, dof⟩) I2.out HV72.out HR72.out hown' hgrow
            have QS3 := Lib.hid (push_far (v' := .slice (some ⟨g', 0, none⟩) (ps.length + 1) cap') a1 HR72.out hgrow QS2.out (by decide) (by decide))
            have hs2' : SG w Bs (SegD.cs ⟨kd, fl, off, addr, fsz, msz⟩) O0.cs w2 := ⟨(QS2.out.alloc (.cells #[.int .u64 df, .int .u64 uf, .int .u8 fl, .int .i64 ino, .int .u64 dof] 49)).grown hgrow (not_blk (QS2.out.alloc (.cells #[.int .u64 df, .int .u64 uf, .int .u8 fl, .int .i64 ino, .int .u64 dof] 49)) (HR72.out.alloc (.cells #[.int .u64 df, .int .u64 uf, .int .u8 fl, .int .i64 ino, .int .u64 dof] 49)) (by decide)), (I2.out.bo.alloc (.cells #[.int .u64 df, .int .u64 uf, .int .u8 fl, .int .i64 ino, .int .u64 dof] 49)).grown hgrow (not_blk (I2.out.bo.alloc (.cells #[.int .u64 df, .int .u64 uf, .int .u8 fl, .int .i64 ino, .int .u64 dof] 49)) (HR72.out.alloc (.cells #[.int .u64 df, .int .u64 uf, .int .u8 fl, .int .i64 ino, .int .u64 dof] 49)) (by decide))⟩
            have z1 := a1.cell; have z2 := a1.frozen; have I3 := Lib.hid a2; have Z3 := Lib.hid a3; have Z4 := Lib.hid a4
            clear a1 a2 a3 a4 hown' hgrow
            refine hK.out _ _ hs2' (fun hS => ?_)
            clear hK K
            rw [put_d (d := 65) rfl]
            dsimp only
            simp only [List.setIfInBounds_toArray, List.set_cons_zero, List.set_cons_succ]
            refine wpAnyH_ready (rs := [14]) (by kernel_rfl) (by simp) ?_
            refine AllReadyH.cons rfl (fun K hK => ?_) ?_
            rotate_left
            exact AllReadyH.nil
            go_simp
            refine hK.out _ _ ⟨QS3.out, I3.out.bo⟩ (fun hS => ?_)
            clear hK K
            refine wpAnyH_done (by kernel_rfl) ?_ _
            refine NQ.normal ?_
            gi_wp2_with fail
            gi_meet
            exact ⟨(), Lib.hid ⟨I3.out, QS3.out, KO2.out.trans Z3.out, BL2.out.trans Z4.out⟩⟩
          refine AllReadyH.cons rfl (fun K hK => ?_) ?_
          · 
            go_simp
            refine hK.out _ _ (hS.alloc _) (fun hS => ?_)
            clear hK K
            refine wpAnyH_ready (rs := [0]) (by kernel_rfl) (by simp) ?_
            refine AllReadyH.cons rfl (fun K hK => ?_) ?_
            rotate_left
            exact AllReadyH.nil
            go_simp
            refine hK.out _ _ hS (fun hS => ?_)
            clear hK K
            refine wpAnyH_ready (rs := [13]) (by kernel_rfl) (by simp) ?_
            refine AllReadyH.cons rfl (fun K hK => ?_) ?_
            rotate_left
            exact AllReadyH.nil
            refine step_append_any _ rfl (.tmp 52) (.tmp 64) 44 rfl w.heap.size 49 i49 (.agg #[.int .u64 0, .int .u64 0, .int .u8 0, .int .i64 0, .int .u64 0]) 5 40 Try.underlying44 hi49 hz0 hz1 hz2 rfl (by decide) (.slice A7 ps.length c7) ps.length (flatL PieceD.cs ps) (by simp [Act.eval]) (HR72.out.alloc _) (W2.heap.size + 1) (some ⟨W2.heap.size, 0, none⟩) 1 1 [.int .u64 df, .int .u64 uf, .int .u8 fl, .int .i64 ino, .int .u64 dof] (by simp [Act.eval]) (reads_new W2 49 5 1 [.int .u64 df, .int .u64 uf, .int .u8 fl, .int .i64 ino, .int .u64 dof] rfl rfl) (by simp [Value.oneCell']) (by simp only [maxLen]; omega) (by omega) (by simp; omega) ?_
            intro v' w2 hown' hgrow _
            obtain ⟨g', cap', rfl⟩ := ownsRow_succ hown'
            obtain ⟨a1, a2, a3, a4⟩ := PCJ.pushP (p := ⟨df, uf, fl, ino, dof⟩) I2.out HV72.out HR72.out hown' hgrow
            have QS3 := Lib.hid (push_far (v' := .slice (some ⟨g', 0, none⟩) (ps.length + 1) cap') a1 HR72.out hgrow QS2.out (by decide) (by decide))
            have hs2' : SG w Bs (SegD.cs ⟨kd, fl, off, addr, fsz, msz⟩) O0.cs w2 := ⟨(QS2.out.alloc (.cells #[.int .u64 df, .int .u64 uf, .int .u8 fl, .int .i64 ino, .int .u64 dof] 49)).grown hgrow (not_blk (QS2.out.alloc (.cells #[.int .u64 df, .int .u64 uf, .int .u8 fl, .int .i64 ino, .int .u64 dof] 49)) (HR72.out.alloc (.cells #[.int .u64 df, .int .u64 uf, .int .u8 fl, .int .i64 ino, .int .u64 dof] 49)) (by decide)), (I2.out.bo.alloc (.cells #[.int .u64 df, .int .u64 uf, .int .u8 fl, .int .i64 ino, .int .u64 dof] 49)).grown hgrow (not_blk (I2.out.bo.alloc (.cells #[.int .u64 df, .int .u64 uf, .int .u8 fl, .int .i64 ino, .int .u64 dof] 49)) (HR72.out.alloc (.cells #[.int .u64 df, .int .u64 uf, .int .u8 fl, .int .i64 ino, .int .u64 dof] 49)) (by decide))⟩
            have z1 := a1.cell; have z2 := a1.frozen; have I3 := Lib.hid a2; have Z3 := Lib.hid a3; have Z4 := Lib.hid a4
            clear a1 a2 a3 a4 hown' hgrow
            refine hK.out _ _ hs2' (fun hS => ?_)
            clear hK K
            rw [put_d (d := 65) rfl]
            dsimp only
            simp only [List.setIfInBounds_toArray, List.set_cons_zero, List.set_cons_succ]
            refine wpAnyH_ready (rs := [14]) (by kernel_rfl) (by simp) ?_
            refine AllReadyH.cons rfl (fun K hK => ?_) ?_
            rotate_left
            exact AllReadyH.nil
            go_simp
            refine hK.out _ _ ⟨QS3.out, I3.out.bo⟩ (fun hS => ?_)
            clear hK K
            refine wpAnyH_done (by kernel_rfl) ?_ _
            refine NQ.normal ?_
            gi_wp2_with fail
            gi_meet
            exact ⟨(), Lib.hid ⟨I3.out, QS3.out, KO2.out.trans Z3.out, BL2.out.trans Z4.out⟩⟩
          exact AllReadyH.nil
        exact AllReadyH.nil
      exact AllReadyH.nil
    case rest =>
    obtain ⟨_, hc⟩ := hcut
    clear I1 QS1 KO1 BL1 HV7 HR7 hs1
    have I3 := Lib.hid hc.out.1; have QS3 := Lib.hid hc.out.2.1; have KO3 := Lib.hid hc.out.2.2.1; have BL3 := Lib.hid hc.out.2.2.2
    clear hc
    generalize wc = W3 at *
    obtain ⟨p1, hp1⟩ : ∃ p, p = ps ++ [⟨df, uf, fl, ino, dof⟩] := ⟨_, rfl⟩
    have hp1n : p1.length ≤ 17 := by rw [hp1, List.length_append, List.length_singleton]; omega
    rw [← hp1] at I3
    have HP1 := Lib.hid hp1
    clear hp1
    gi_wp2_with fail
    refine (CallsIn.inRound l (HW.out.ca (RF2.out _))).mono ?_
    rintro e W3' ⟨rfl, rfl⟩
    by_cases cB : fsz = msz
    · 
      obtain ⟨q1a, q1b, q1c, q1d, q1e, q1f, g1, g2⟩ := HQ.out
      have t3 : decide (fsz < msz) = false := by simp; omega
      have t3i : decide ((fsz : Int) < (msz : Int)) = false := by simp; omega
      have t2 : decide (uf < ue) = false := by simp; omega
      have t2i : decide ((uf : Int) < (ue : Int)) = false := by simp; omega
      have PSA := Lib.hid (show pcS base ino ⟨kd, fl, off, addr, fsz, msz⟩ = [⟨df, uf, fl, ino, dof⟩] by rw [PS.out, if_pos (by omega), if_neg (by omega)])
      have WSA := Lib.hid (show wrS base ⟨kd, fl, off, addr, fsz, msz⟩ = [] by rw [WS.out, if_neg (by omega)])
      clear q1a q1b q1c q1d q1e q1f g1 g2 cB
      have o0 : W3.cell? ⟨w.heap.size, 0, none⟩ = some (.int .i64 ino) := (I3.out.bo.cell 0).trans (by rw [HCS.out]; rfl)
      have o1 : W3.cell? ⟨w.heap.size, 1, none⟩ = some (.int .u64 base) := (I3.out.bo.cell 1).trans (by rw [HCS.out]; rfl)
      have lO := I3.out.bo.lt
      have d1 := (QS3.out.cell 1).trans rfl; have d2 := (QS3.out.cell 2).trans rfl; have d3 := (QS3.out.cell 3).trans rfl; have d4 := (QS3.out.cell 4).trans rfl; have d5 := (QS3.out.cell 5).trans rfl
      simp only [SegD.cs, List.getElem?_toArray, List.getElem?_cons_succ, List.getElem?_cons_zero] at d1 d2 d3 d4 d5
      have lB := QS3.out.lt
      gi_wp2_with fail
      exact ⟨KO3.out.from _, BL3.out, HEND.out _ _ _ (by rw [PSA.out, HP1.out]) (by rw [WSA.out, List.append_nil]) I3.out⟩
    by_cases cC : f0 = uf
    · 
      obtain ⟨q1a, q1b, q1c, q1d, q1e, q1f, g1, g2⟩ := HQ.out
      have t3 : decide (fsz < msz) = true := by simp; omega
      have t3i : decide ((fsz : Int) < (msz : Int)) = true := by simp; omega
      have t4 : decide (f0 < uf) = false := by simp; omega
      have t4i : decide ((f0 : Int) < (uf : Int)) = false := by simp; omega
      have t2 : decide (uf < ue) = true := by simp; omega
      have t2i : decide ((uf : Int) < (ue : Int)) = true := by simp; omega
      have PSA := Lib.hid (show pcS base ino ⟨kd, fl, off, addr, fsz, msz⟩ = [⟨df, uf, fl, ino, dof⟩, ⟨uf, ue, fl, -1, 0⟩] by rw [PS.out, if_pos (by omega), if_pos (by omega)])
      have WSA := Lib.hid (show wrS base ⟨kd, fl, off, addr, fsz, msz⟩ = [] by rw [WS.out, if_neg (by omega)])
      clear q1a q1b q1c q1d q1e q1f g1 g2 cB cC
      have o0 : W3.cell? ⟨w.heap.size, 0, none⟩ = some (.int .i64 ino) := (I3.out.bo.cell 0).trans (by rw [HCS.out]; rfl)
      have o1 : W3.cell? ⟨w.heap.size, 1, none⟩ = some (.int .u64 base) := (I3.out.bo.cell 1).trans (by rw [HCS.out]; rfl)
      have lO := I3.out.bo.lt
      have d1 := (QS3.out.cell 1).trans rfl; have d2 := (QS3.out.cell 2).trans rfl; have d3 := (QS3.out.cell 3).trans rfl; have d4 := (QS3.out.cell 4).trans rfl; have d5 := (QS3.out.cell 5).trans rfl
      simp only [SegD.cs, List.getElem?_toArray, List.getElem?_cons_succ, List.getElem?_cons_zero] at d1 d2 d3 d4 d5
      have lB := QS3.out.lt
      obtain ⟨v7, hv7, hr7⟩ := I3.out.bp
      obtain ⟨A7, c7, rfl⟩ := ownsRow_val hr7
      have e7 := hv7.cell; have f7 := hv7.frozen; have L7 := hv7.lt
      have HV7 := Lib.hid hv7; have HR7 := Lib.hid hr7
      clear hv7 hr7
      have hs3 := I3.out.bl.size
      gi_wp2_with (gi_at_builtin; refine wpListIn_append_own _ rfl _ _ 44 rfl w.heap.size 49 i49 (.agg #[.int .u64 0, .int .u64 0, .int .u8 0, .int .i64 0, .int .u64 0]) 5 40 Try.underlying44 hi49 hz0 hz1 hz2 rfl (by decide) (.slice A7 p1.length c7) _ _ rfl (HR7.out.alloc _) ⟨W3.heap.size, 0, none⟩ 1 1 [.int .u64 uf, .int .u64 ue, .int .u8 fl, .int .i64 (-1), .int .u64 0] rfl rfl (cells_new _ _ _) (by simp [Value.oneCell']) (by simp only [maxLen]; omega) (by omega) (by simp; omega) ?_; intro v' w5 hown' hgrow _; obtain ⟨g5, cap5, rfl⟩ := ownsRow_succ hown'; obtain ⟨a1, a2, a3, a4⟩ := PCJ.pushP (p := ⟨uf, ue, fl, -1, 0⟩) I3.out HV7.out HR7.out hown' hgrow; have z1 := a1.cell; have z2 := a1.frozen; have Z2 := Lib.hid a2; have Z3 := Lib.hid a3; have Z4 := Lib.hid a4; clear a1 a2 a3 a4 hown' hgrow)
      exact ⟨(KO3.out.trans Z3.out).from _, BL3.out.trans Z4.out, HEND.out _ _ _ (by rw [PSA.out, HP1.out, List.append_assoc]; rfl) (by rw [WSA.out, List.append_nil]) Z2.out⟩
    have HCB := Lib.hid cB; have HCC := Lib.hid cC
    obtain ⟨q1a, q1b, q1c, q1d, q1e, q1f, g1, g2⟩ := HQ.out
    have t3 : decide (fsz < msz) = true := by simp; omega
    have t3i : decide ((fsz : Int) < (msz : Int)) = true := by simp; omega
    have t4 : decide (f0 < uf) = true := by simp; omega
    have t4i : decide ((f0 : Int) < (uf : Int)) = true := by simp; omega
    have WSA := Lib.hid (show wrS base ⟨kd, fl, off, addr, fsz, msz⟩ = [(f0, uf - f0)] by rw [WS.out, if_pos (by omega)])
    clear q1a q1b q1c q1d q1e q1f g1 g2 cB cC
    have o0 : W3.cell? ⟨w.heap.size, 0, none⟩ = some (.int .i64 ino) := (I3.out.bo.cell 0).trans (by rw [HCS.out]; rfl)
    have o1 : W3.cell? ⟨w.heap.size, 1, none⟩ = some (.int .u64 base) := (I3.out.bo.cell 1).trans (by rw [HCS.out]; rfl)
    have lO := I3.out.bo.lt
    have d1 := (QS3.out.cell 1).trans rfl; have d2 := (QS3.out.cell 2).trans rfl; have d3 := (QS3.out.cell 3).trans rfl; have d4 := (QS3.out.cell 4).trans rfl; have d5 := (QS3.out.cell 5).trans rfl
    simp only [SegD.cs, List.getElem?_toArray, List.getElem?_cons_succ, List.getElem?_cons_zero] at d1 d2 d3 d4 d5
    have lB := QS3.out.lt
    obtain ⟨v8, hv8, hr8⟩ := I3.out.bw
    obtain ⟨A8, c8, rfl⟩ := ownsRow_val hr8
    have e8 := hv8.cell; have f8 := hv8.frozen; have L8 := hv8.lt
    have HV8 := Lib.hid hv8; have HR8 := Lib.hid hr8
    clear hv8 hr8
    have hmk := run_make_row' (P := Try.prog) 50 5 _ _ Try.underlying50 info5 rfl .u64 .u64 wl (by omega) (by omega)
    gi_upto_region 16 with fail
    clear d1 d2 d3 d4 d5 lB o0 o1 lO e8 f8 L8
    gi_cut [] from 78 (fun wx => ∃ d : WriteD, Hid (d.key = (f0, wl) ∧ PCJ w O0.cs b7 b8 p1 (ws ++ [d]) wx ∧ Blk wx Bs 56 (SegD.cs ⟨kd, fl, off, addr, fsz, msz⟩) ∧ KeepsOthers W wx ∧ Below w.heap.size W wx))
    case first =>
      refine wpIn_round_held (S := SG w Bs (SegD.cs ⟨kd, fl, off, addr, fsz, msz⟩) O0.cs) HWR.out (by omega) hfol (by kernel_rfl) ⟨QS3.out, I3.out.bo⟩ (fun hS => ?_)
      have I4 := Lib.hid I3.out.drew
      have QS4 : Hid (Blk W3.drew Bs 56 (SegD.cs ⟨kd, fl, off, addr, fsz, msz⟩)) := Lib.hid QS3.out
      have KO4 := Lib.hid (KO3.out.trans (KeepsOthers.drew W3))
      have BL4 : Hid (Below w.heap.size W W3.drew) := Lib.hid BL3.out.drew
      have HV82 : Hid (Boxed W3.drew b8 45 (.slice A8 ws.length c8)) := Lib.hid HV8.out
      have HR82 : Hid (W3.drew.ownsRow w.heap.size 52 2 (.slice A8 ws.length c8) ws.length (flatL WriteD.cs ws)) := Lib.hid HR8.out
      clear HV8 HR8 I3 QS3 KO3 BL3
      generalize W3.drew = W4 at I4 QS4 KO4 BL4 HV82 HR82 hS ⊢
      have e8 := HV82.out.cell
      have L8 := HV82.out.lt
      have L8b : b8 < W4.heap.size + 1 := by omega
      have hs4 := I4.out.bl.size
      have I5 := Lib.hid (I4.out.alloc (.cells (madeCells #[.int .u8 0] wl) 5))
      have QS5 := Lib.hid (QS4.out.alloc (.cells (madeCells #[.int .u8 0] wl) 5))
      have HV5 := Lib.hid (HV82.out.alloc (.cells (madeCells #[.int .u8 0] wl) 5))
      have HR5 := Lib.hid (HR82.out.alloc (.cells (madeCells #[.int .u8 0] wl) 5))
      have MK5 := Lib.hid (Blk.new W4 5 (madeCells #[.int .u8 0] wl))
      have RN : Hid (Reads ((W4.alloc (.cells (madeCells #[.int .u8 0] wl) 5)).alloc (.cells #[.int .u64 f0, .slice (some ⟨W4.heap.size, 0, none⟩) wl wl] 52)) (W4.heap.size + 1 + 1) 2 (some ⟨W4.heap.size + 1, 0, none⟩) 1 [.int .u64 f0, .slice (some ⟨W4.heap.size, 0, none⟩) wl wl]) := Lib.hid (reads_new (W4.alloc (.cells (madeCells #[.int .u8 0] wl) 5)) 52 2 1 [.int .u64 f0, .slice (some ⟨W4.heap.size, 0, none⟩) wl wl] (by simp) rfl)
      refine held_take 79 (i := 1) (v := .int .u64 f0) rfl rfl (by kernel_rfl) (by kernel_rfl) (by kernel_rfl) (Or.inl ⟨by rfl, fun wz hz => ?_⟩) (by assumption) ?_
      · (go_simp; try rfl)
      dsimp only
      simp only [List.setIfInBounds_toArray, List.set_cons_zero, List.set_cons_succ]
      refine held_take 80 (i := 2) (v := .int .u64 uf) rfl rfl (by kernel_rfl) (by kernel_rfl) (by kernel_rfl) (Or.inl ⟨by rfl, fun wz hz => ?_⟩) (by assumption) ?_
      · (go_simp; try rfl)
      dsimp only
      simp only [List.setIfInBounds_toArray, List.set_cons_zero, List.set_cons_succ]
      refine held_take 81 (i := 3) (v := .int .u64 f0) rfl rfl (by kernel_rfl) (by kernel_rfl) (by kernel_rfl) (Or.inl ⟨by rfl, fun wz hz => ?_⟩) (by assumption) ?_
      · (go_simp; try rfl)
      dsimp only
      simp only [List.setIfInBounds_toArray, List.set_cons_zero, List.set_cons_succ]
      refine held_take 82 (i := 4) (v := .int .u64 wl) rfl rfl (by kernel_rfl) (by kernel_rfl) (by kernel_rfl) (Or.inl ⟨by rfl, fun wz hz => ?_⟩) (by assumption) ?_
      · (go_simp; try rfl)
      dsimp only
      simp only [List.setIfInBounds_toArray, List.set_cons_zero, List.set_cons_succ]
      refine wpAnyH_ready (rs := [0, 5]) (by kernel_rfl) (by simp) ?_
      refine AllReadyH.cons rfl (fun K hK => ?_) ?_
      · 
        go_simp
        refine hK.out _ _ hS (fun hS => ?_)
        clear hK K
        refine wpAnyH_ready (rs := [5]) (by kernel_rfl) (by simp) ?_
        refine AllReadyH.cons rfl (fun K hK => ?_) ?_
        rotate_left
        exact AllReadyH.nil
        go_simp
        refine hK.out _ _ (hS.alloc _) (fun hS => ?_)
        clear hK K
        refine held_take 84 (i := 6) (v := .agg #[.int .u64 f0, .slice (some ⟨W4.heap.size, 0, none⟩) wl wl]) rfl rfl (by kernel_rfl) (by kernel_rfl) (by kernel_rfl) (Or.inl ⟨by rfl, fun wz hz => ?_⟩) (by assumption) ?_
        · (go_simp; try rfl)
        dsimp only
        simp only [List.setIfInBounds_toArray, List.set_cons_zero, List.set_cons_succ]
        refine wpAnyH_ready (rs := [7]) (by kernel_rfl) (by simp) ?_
        refine AllReadyH.cons rfl (fun K hK => ?_) ?_
        rotate_left
        exact AllReadyH.nil
        go_simp
        refine hK.out _ _ (hS.alloc _) (fun hS => ?_)
        clear hK K
        refine wpAnyH_ready (rs := [8]) (by kernel_rfl) (by simp) ?_
        refine AllReadyH.cons rfl (fun K hK => ?_) ?_
        rotate_left
        exact AllReadyH.nil
        refine step_append_any _ rfl (.tmp 78) (.tmp 85) 45 rfl w.heap.size 52 i52 (.agg #[.int .u64 0, .slice none 0 0]) 2 32 Try.underlying45 hi52 hy0 hy1 hy2 rfl (by decide) (.slice A8 ws.length c8) ws.length (flatL WriteD.cs ws) (by simp [Act.eval]) (HR5.out.alloc _) (W4.heap.size + 1 + 1) (some ⟨W4.heap.size + 1, 0, none⟩) 1 1 [.int .u64 f0, .slice (some ⟨W4.heap.size, 0, none⟩) wl wl] (by simp [Act.eval]) RN.out (by simp [Value.oneCell']) (by simp only [maxLen]; omega) (by omega) (by simp; omega) ?_
        intro v' w5 hown' hgrow _
        obtain ⟨g5, cap5, rfl⟩ := ownsRow_succ hown'
        obtain ⟨a1, a2, a3, a4⟩ := PCJ.pushW (d := ⟨f0, wl, W4.heap.size⟩) I5.out hs4 MK5.out HV5.out HR5.out hown' hgrow
        have QS6 := Lib.hid (push_far (v' := .slice (some ⟨g5, 0, none⟩) (ws.length + 1) cap5) a1 HR5.out hgrow QS5.out (by decide) (by decide))
        have hs2' : SG w Bs (SegD.cs ⟨kd, fl, off, addr, fsz, msz⟩) O0.cs w5 := ⟨(QS5.out.alloc (.cells #[.int .u64 f0, .slice (some ⟨W4.heap.size, 0, none⟩) wl wl] 52)).grown hgrow (not_blk (QS5.out.alloc (.cells #[.int .u64 f0, .slice (some ⟨W4.heap.size, 0, none⟩) wl wl] 52)) (HR5.out.alloc (.cells #[.int .u64 f0, .slice (some ⟨W4.heap.size, 0, none⟩) wl wl] 52)) (by decide)), (I5.out.bo.alloc (.cells #[.int .u64 f0, .slice (some ⟨W4.heap.size, 0, none⟩) wl wl] 52)).grown hgrow (not_blk (I5.out.bo.alloc (.cells #[.int .u64 f0, .slice (some ⟨W4.heap.size, 0, none⟩) wl wl] 52)) (HR5.out.alloc (.cells #[.int .u64 f0, .slice (some ⟨W4.heap.size, 0, none⟩) wl wl] 52)) (by decide))⟩
        have z1 := a1.cell; have z2 := a1.frozen; have I6 := Lib.hid a2; have Z3 := Lib.hid a3; have Z4 := Lib.hid a4
        clear a1 a2 a3 a4 hown' hgrow
        refine hK.out _ _ hs2' (fun hS => ?_)
        clear hK K
        rw [put_d (d := 86) rfl]
        dsimp only
        simp only [List.setIfInBounds_toArray, List.set_cons_zero, List.set_cons_succ]
        refine wpAnyH_ready (rs := [9]) (by kernel_rfl) (by simp) ?_
        refine AllReadyH.cons rfl (fun K hK => ?_) ?_
        rotate_left
        exact AllReadyH.nil
        go_simp
        refine hK.out _ _ ⟨QS6.out, I6.out.bo⟩ (fun hS => ?_)
        clear hK K
        refine wpAnyH_done (by kernel_rfl) ?_ _
        refine NQ.normal ?_
        gi_wp2_with fail
        gi_meet
        exact ⟨⟨f0, wl, W4.heap.size⟩, Lib.hid ⟨rfl, I6.out, QS6.out, KO4.out.trans ((KeepsOthers.alloc _ _).trans Z3.out), BL4.out.trans (((Below.refl _ _).alloc hs4 _).trans Z4.out)⟩⟩
      refine AllReadyH.cons rfl (fun K hK => ?_) ?_
      · 
        go_simp
        refine hK.out _ _ (hS.alloc _) (fun hS => ?_)
        clear hK K
        refine held_take 84 (i := 6) (v := .agg #[.int .u64 f0, .slice (some ⟨W4.heap.size, 0, none⟩) wl wl]) rfl rfl (by kernel_rfl) (by kernel_rfl) (by kernel_rfl) (Or.inl ⟨by rfl, fun wz hz => ?_⟩) (by assumption) ?_
        · (go_simp; try rfl)
        dsimp only
        simp only [List.setIfInBounds_toArray, List.set_cons_zero, List.set_cons_succ]
        refine wpAnyH_ready (rs := [0, 7]) (by kernel_rfl) (by simp) ?_
        refine AllReadyH.cons rfl (fun K hK => ?_) ?_
        · 
          go_simp
          refine hK.out _ _ hS (fun hS => ?_)
          clear hK K
          refine wpAnyH_ready (rs := [7]) (by kernel_rfl) (by simp) ?_
          refine AllReadyH.cons rfl (fun K hK => ?_) ?_
          rotate_left
          exact AllReadyH.nil
          go_simp
          refine hK.out _ _ (hS.alloc _) (fun hS => ?_)
          clear hK K
          refine wpAnyH_ready (rs := [8]) (by kernel_rfl) (by simp) ?_
          refine AllReadyH.cons rfl (fun K hK => ?_) ?_
          rotate_left
          exact AllReadyH.nil
          refine step_append_any _ rfl (.tmp 78) (.tmp 85) 45 rfl w.heap.size 52 i52 (.agg #[.int .u64 0, .slice none 0 0]) 2 32 Try.underlying45 hi52 hy0 hy1 hy2 rfl (by decide) (.slice A8 ws.length c8) ws.length (flatL WriteD.cs ws) (by simp [Act.eval]) (HR5.out.alloc _) (W4.heap.size + 1 + 1) (some ⟨W4.heap.size + 1, 0, none⟩) 1 1 [.int .u64 f0, .slice (some ⟨W4.heap.size, 0, none⟩) wl wl] (by simp [Act.eval]) RN.out (by simp [Value.oneCell']) (by simp only [maxLen]; omega) (by omega) (by simp; omega) ?_
          intro v' w5 hown' hgrow _
          obtain ⟨g5, cap5, rfl⟩ := ownsRow_succ hown'
          obtain ⟨a1, a2, a3, a4⟩ := PCJ.pushW (d := ⟨f0, wl, W4.heap.size⟩) I5.out hs4 MK5.out HV5.out HR5.out hown' hgrow
          have QS6 := Lib.hid (push_far (v' := .slice (some ⟨g5, 0, none⟩) (ws.length + 1) cap5) a1 HR5.out hgrow QS5.out (by decide) (by decide))
          have hs2' : SG w Bs (SegD.cs ⟨kd, fl, off, addr, fsz, msz⟩) O0.cs w5 := ⟨(QS5.out.alloc (.cells #[.int .u64 f0, .slice (some ⟨W4.heap.size, 0, none⟩) wl wl] 52)).grown hgrow (not_blk (QS5.out.alloc (.cells #[.int .u64 f0, .slice (some ⟨W4.heap.size, 0, none⟩) wl wl] 52)) (HR5.out.alloc (.cells #[.int .u64 f0, .slice (some ⟨W4.heap.size, 0, none⟩) wl wl] 52)) (by decide)), (I5.out.bo.alloc (.cells #[.int .u64 f0, .slice (some ⟨W4.heap.size, 0, none⟩) wl wl] 52)).grown hgrow (not_blk (I5.out.bo.alloc (.cells #[.int .u64 f0, .slice (some ⟨W4.heap.size, 0, none⟩) wl wl] 52)) (HR5.out.alloc (.cells #[.int .u64 f0, .slice (some ⟨W4.heap.size, 0, none⟩) wl wl] 52)) (by decide))⟩
          have z1 := a1.cell; have z2 := a1.frozen; have I6 := Lib.hid a2; have Z3 := Lib.hid a3; have Z4 := Lib.hid a4
          clear a1 a2 a3 a4 hown' hgrow
          refine hK.out _ _ hs2' (fun hS => ?_)
          clear hK K
          rw [put_d (d := 86) rfl]
          dsimp only
          simp only [List.setIfInBounds_toArray, List.set_cons_zero, List.set_cons_succ]
          refine wpAnyH_ready (rs := [9]) (by kernel_rfl) (by simp) ?_
          refine AllReadyH.cons rfl (fun K hK => ?_) ?_
          rotate_left
          exact AllReadyH.nil
          go_simp
          refine hK.out _ _ ⟨QS6.out, I6.out.bo⟩ (fun hS => ?_)
          clear hK K
          refine wpAnyH_done (by kernel_rfl) ?_ _
          refine NQ.normal ?_
          gi_wp2_with fail
          gi_meet
          exact ⟨⟨f0, wl, W4.heap.size⟩, Lib.hid ⟨rfl, I6.out, QS6.out, KO4.out.trans ((KeepsOthers.alloc _ _).trans Z3.out), BL4.out.trans (((Below.refl _ _).alloc hs4 _).trans Z4.out)⟩⟩
        refine AllReadyH.cons rfl (fun K hK => ?_) ?_
        · 
          go_simp
          refine hK.out _ _ (hS.alloc _) (fun hS => ?_)
          clear hK K
          refine wpAnyH_ready (rs := [0]) (by kernel_rfl) (by simp) ?_
          refine AllReadyH.cons rfl (fun K hK => ?_) ?_
          rotate_left
          exact AllReadyH.nil
          go_simp
          refine hK.out _ _ hS (fun hS => ?_)
          clear hK K
          refine wpAnyH_ready (rs := [8]) (by kernel_rfl) (by simp) ?_
          refine AllReadyH.cons rfl (fun K hK => ?_) ?_
          rotate_left
          exact AllReadyH.nil
          refine step_append_any _ rfl (.tmp 78) (.tmp 85) 45 rfl w.heap.size 52 i52 (.agg #[.int .u64 0, .slice none 0 0]) 2 32 Try.underlying45 hi52 hy0 hy1 hy2 rfl (by decide) (.slice A8 ws.length c8) ws.length (flatL WriteD.cs ws) (by simp [Act.eval]) (HR5.out.alloc _) (W4.heap.size + 1 + 1) (some ⟨W4.heap.size + 1, 0, none⟩) 1 1 [.int .u64 f0, .slice (some ⟨W4.heap.size, 0, none⟩) wl wl] (by simp [Act.eval]) RN.out (by simp [Value.oneCell']) (by simp only [maxLen]; omega) (by omega) (by simp; omega) ?_
          intro v' w5 hown' hgrow _
          obtain ⟨g5, cap5, rfl⟩ := ownsRow_succ hown'
          obtain ⟨a1, a2, a3, a4⟩ := PCJ.pushW (d := ⟨f0, wl, W4.heap.size⟩) I5.out hs4 MK5.out HV5.out HR5.out hown' hgrow
          have QS6 := Lib.hid (push_far (v' := .slice (some ⟨g5, 0, none⟩) (ws.length + 1) cap5) a1 HR5.out hgrow QS5.out (by decide) (by decide))
          have hs2' : SG w Bs (SegD.cs ⟨kd, fl, off, addr, fsz, msz⟩) O0.cs w5 := ⟨(QS5.out.alloc (.cells #[.int .u64 f0, .slice (some ⟨W4.heap.size, 0, none⟩) wl wl] 52)).grown hgrow (not_blk (QS5.out.alloc (.cells #[.int .u64 f0, .slice (some ⟨W4.heap.size, 0, none⟩) wl wl] 52)) (HR5.out.alloc (.cells #[.int .u64 f0, .slice (some ⟨W4.heap.size, 0, none⟩) wl wl] 52)) (by decide)), (I5.out.bo.alloc (.cells #[.int .u64 f0, .slice (some ⟨W4.heap.size, 0, none⟩) wl wl] 52)).grown hgrow (not_blk (I5.out.bo.alloc (.cells #[.int .u64 f0, .slice (some ⟨W4.heap.size, 0, none⟩) wl wl] 52)) (HR5.out.alloc (.cells #[.int .u64 f0, .slice (some ⟨W4.heap.size, 0, none⟩) wl wl] 52)) (by decide))⟩
          have z1 := a1.cell; have z2 := a1.frozen; have I6 := Lib.hid a2; have Z3 := Lib.hid a3; have Z4 := Lib.hid a4
          clear a1 a2 a3 a4 hown' hgrow
          refine hK.out _ _ hs2' (fun hS => ?_)
          clear hK K
          rw [put_d (d := 86) rfl]
          dsimp only
          simp only [List.setIfInBounds_toArray, List.set_cons_zero, List.set_cons_succ]
          refine wpAnyH_ready (rs := [9]) (by kernel_rfl) (by simp) ?_
          refine AllReadyH.cons rfl (fun K hK => ?_) ?_
          rotate_left
          exact AllReadyH.nil
          go_simp
          refine hK.out _ _ ⟨QS6.out, I6.out.bo⟩ (fun hS => ?_)
          clear hK K
          refine wpAnyH_done (by kernel_rfl) ?_ _
          refine NQ.normal ?_
          gi_wp2_with fail
          gi_meet
          exact ⟨⟨f0, wl, W4.heap.size⟩, Lib.hid ⟨rfl, I6.out, QS6.out, KO4.out.trans ((KeepsOthers.alloc _ _).trans Z3.out), BL4.out.trans (((Below.refl _ _).alloc hs4 _).trans Z4.out)⟩⟩
        exact AllReadyH.nil
      exact AllReadyH.nil
    case rest =>
    obtain ⟨dw, hc⟩ := hcut
    clear I3 QS3 KO3 BL3 HV8 HR8 hmk
    have I6 := Lib.hid hc.out.2.1; have QS6 := Lib.hid hc.out.2.2.1; have KO6 := Lib.hid hc.out.2.2.2.1; have BL6 := Lib.hid hc.out.2.2.2.2
    have WSE : Hid ((ws ++ [dw]).map WriteD.key = ws.map WriteD.key ++ wrS base ⟨kd, fl, off, addr, fsz, msz⟩) := Lib.hid (by rw [WSA.out, List.map_append, ← HWL.out, ← hc.out.1]; rfl)
    obtain ⟨ws6, hws6⟩ : ∃ p, p = ws ++ [dw] := ⟨_, rfl⟩
    rw [← hws6] at I6 WSE
    clear hws6 hc
    generalize wc = W6 at *
    by_cases cD : uf < ue
    · 
      obtain ⟨q1a, q1b, q1c, q1d, q1e, q1f, g1, g2⟩ := HQ.out
      have t2 : decide (uf < ue) = true := by simp; omega
      have t2i : decide ((uf : Int) < (ue : Int)) = true := by simp; omega
      have PSA := Lib.hid (show pcS base ino ⟨kd, fl, off, addr, fsz, msz⟩ = [⟨df, uf, fl, ino, dof⟩, ⟨uf, ue, fl, -1, 0⟩] by rw [PS.out, if_pos (by omega), if_pos (by omega)])
      clear q1a q1b q1c q1d q1e q1f g1 g2 cD
      have d1 := (QS6.out.cell 1).trans rfl; have d2 := (QS6.out.cell 2).trans rfl; have d3 := (QS6.out.cell 3).trans rfl; have d4 := (QS6.out.cell 4).trans rfl; have d5 := (QS6.out.cell 5).trans rfl
      simp only [SegD.cs, List.getElem?_toArray, List.getElem?_cons_succ, List.getElem?_cons_zero] at d1 d2 d3 d4 d5
      have lB := QS6.out.lt
      obtain ⟨v7, hv7, hr7⟩ := I6.out.bp
      obtain ⟨A7, c7, rfl⟩ := ownsRow_val hr7
      have e7 := hv7.cell; have f7 := hv7.frozen; have L7 := hv7.lt
      have HV7 := Lib.hid hv7; have HR7 := Lib.hid hr7
      clear hv7 hr7
      have hs3 := I6.out.bl.size
      gi_wp2_with (gi_at_builtin; refine wpListIn_append_own _ rfl _ _ 44 rfl w.heap.size 49 i49 (.agg #[.int .u64 0, .int .u64 0, .int .u8 0, .int .i64 0, .int .u64 0]) 5 40 Try.underlying44 hi49 hz0 hz1 hz2 rfl (by decide) (.slice A7 p1.length c7) _ _ rfl (HR7.out.alloc _) ⟨W6.heap.size, 0, none⟩ 1 1 [.int .u64 uf, .int .u64 ue, .int .u8 fl, .int .i64 (-1), .int .u64 0] rfl rfl (cells_new _ _ _) (by simp [Value.oneCell']) (by simp only [maxLen]; omega) (by omega) (by simp; omega) ?_; intro v' w5 hown' hgrow _; obtain ⟨g5, cap5, rfl⟩ := ownsRow_succ hown'; obtain ⟨a1, a2, a3, a4⟩ := PCJ.pushP (p := ⟨uf, ue, fl, -1, 0⟩) I6.out HV7.out HR7.out hown' hgrow; have z1 := a1.cell; have z2 := a1.frozen; have Z2 := Lib.hid a2; have Z3 := Lib.hid a3; have Z4 := Lib.hid a4; clear a1 a2 a3 a4 hown' hgrow)
      exact ⟨(KO6.out.trans Z3.out).from _, BL6.out.trans Z4.out, HEND.out _ _ _ (by rw [PSA.out, HP1.out, List.append_assoc]; rfl) WSE.out Z2.out⟩
    obtain ⟨q1a, q1b, q1c, q1d, q1e, q1f, g1, g2⟩ := HQ.out
    have t2 : decide (uf < ue) = false := by simp; omega
    have t2i : decide ((uf : Int) < (ue : Int)) = false := by simp; omega
    have PSA := Lib.hid (show pcS base ino ⟨kd, fl, off, addr, fsz, msz⟩ = [⟨df, uf, fl, ino, dof⟩] by rw [PS.out, if_pos (by omega), if_neg (by omega)])
    clear q1a q1b q1c q1d q1e q1f g1 g2 cD
    gi_wp2_with fail
    exact ⟨KO6.out.from _, BL6.out, HEND.out _ _ _ (by rw [PSA.out, HP1.out]) WSE.out I6.out⟩
  case done =>
    rintro D ys W hD hys hi hK
    obtain ⟨ws, hws, hi⟩ := hi
    have HI := Lib.hid hi
    have HK := Lib.hid hK
    have HWS : Hid (ws.map WriteD.key = wrL O0.base (lds O0.sg O0.gM)) := Lib.hid (by rw [hws, hys, lds_ldx])
    have HPS : Hid (pcL O0.base O0.ino ((LdI.is ys).map O0.sg) = pcL O0.base O0.ino (lds O0.sg O0.gM)) := Lib.hid (by rw [hys, lds_ldx])
    obtain ⟨v7, hv7, hr7⟩ := hi.bp
    obtain ⟨v8, hv8, hr8⟩ := hi.bw
    obtain ⟨A7, c7, rfl⟩ := ownsRow_val hr7
    obtain ⟨A8, c8, rfl⟩ := ownsRow_val hr8
    have e7 := hv7.cell; have e8 := hv8.cell
    rw [HPS.out] at e7 hr7
    have HR7 := Lib.hid hr7; have HR8 := Lib.hid hr8
    obtain ⟨n7, hn7⟩ : ∃ n, n = (pcL O0.base O0.ino (lds O0.sg O0.gM)).length := ⟨_, rfl⟩
    rw [← hn7] at e7 HR7
    obtain ⟨n8, hn8⟩ : ∃ n, n = ws.length := ⟨_, rfl⟩
    rw [← hn8] at e8 HR8
    have HN7 := Lib.hid hn7; have HN8 := Lib.hid hn8
    have hfol : Try.prog.follows Departure.mixedOrders = true := by kernel_rfl
    clear hi hK hws hys hv7 hv8 hr7 hr8 hn7 hn8
    gi_wp2
    gi_region_with_o (fail)
    all_goals
      gi_wp2
      have hK' : W.drew.heap[D]? = some (.deferred (some [])) := HK.out
      refine ⟨by simp, .inl ⟨_, _, rfl, run_takeDeferred hK', ?_⟩⟩
      have HIk := HI.out.drew.kept (grownBy_putObj' _ D (.deferred none)) (fun r e => by cases e; exact ⟨_, hK', rfl⟩) (fun r e => by cases e; omega)
      have okp : (rightB O0 && O0.base % 4096 == 0 && liesB O0) = true := by rw [HR.out, HL.out, HAL.out]; rfl
      refine ⟨.tuple #[.slice A7 n7 c7, .slice A8 n8 c8, .int .i64 0], ?_, ⟨HIk.bl, A7, n7, c7, A8, n8, c8, by rw [okp]; rfl, (fun e => by rw [okp] at e; cases e), fun _ => ⟨ws, HWS.out, HN7.out, HN8.out, ?_, ?_, HIk.wb⟩⟩⟩
      · simp [results, Try.f18, go_sem]
      · exact ownsRow_putObj (W := W.drew) HR7.out _ hK' rfl
      · exact ownsRow_putObj (W := W.drew) HR8.out _ hK' rfl
  case stop =>
    rintro D c pre W _ _ h _
    exact h.elim
end Go.Proofs.Yticnmgdflkipeaa
