import Derived.Test.YtlenjpgkmikgpaaR3
import Derived.Test.YtlenjpgkmikgpaaSY17
namespace Go.Proofs.Ytlenjpgkmikgpaa
open Go.RowKit Go.Shelf Go.Hos
set_option linter.unusedVariables false
/-! the document's One -/
theorem near_iff (s add pa : Int) : (nearP s add pa = IntKind.i64.wrap (IntKind.i32.wrap (nearP s add pa)) ↔ ¬ (4294967296 ≤ IntKind.u64.wrap (IntKind.u64.wrap (sumP s add - pa) + 2147483648))) ∧
    (nearP s add pa = IntKind.i64.wrap (IntKind.i32.wrap (nearP s add pa)) → IntKind.u64.wrap (IntKind.u32.wrap (nearP s add pa)) = IntKind.u64.wrap (sumP s add - pa) % 4294967296) := by
  unfold nearP
  have h : ∃ x : Int, x = IntKind.u64.wrap (sumP s add - pa) ∧ 0 ≤ x ∧ x < 18446744073709551616 := ⟨_, rfl, by rw [IntKind.wrap_u64]; omega, by rw [IntKind.wrap_u64]; omega⟩
  obtain ⟨x, hx, h0, h1⟩ := h
  rw [← hx]
  simp only [IntKind.wrap_u64, IntKind.wrap_i64, IntKind.wrap_i32, IntKind.wrap_u32]
  constructor
  · omega
  · omega
/-- a world with an object and a relocation laid -/
structure RN (w : World) (rc oc : Array Value) (W : World) : Prop where
  bl : Below w.heap.size w W
  b5 : Blk W w.heap.size 53 rc
  b6 : Blk W (w.heap.size + 1) 55 #[.int .u64 0, .int .i64 0, .int .u64 0]
  b8 : Blk W (w.heap.size + 2) 50 oc
theorem RN.next {w W W' : World} {rc oc : Array Value} (h : RN w rc oc W) (hb : Below W.heap.size W W') : RN w rc oc W' :=
  ⟨h.bl.trans (hb.mono h.bl.size), h.b5.below hb h.b5.lt, h.b6.below hb h.b6.lt, h.b8.below hb h.b8.lt⟩
set_option maxRecDepth 100000 in
set_option maxHeartbeats 8000000 in
theorem rone_any (A : Option Addr) (m c i : Nat) (O : Nat → ObjD) (r : RelD) (w : World) (hR : ObjR w w.heap.size A m O) (hf : ∀ i k, ((O i).sg k).fits) (hi : i < m) (h40 : (O i).gM ≤ 40) (hoff : r.off < M) (hs1 : -9223372036854775808 ≤ r.sym) (hs2 : r.sym ≤ 9223372036854775807) :
    Calls Try.prog 22 #[.slice A m c, .int .i64 i, .agg r.cs] w fun e W' => e = .returned (.tuple #[.agg (oneP O m i r).1.cs, .int .i64 (oneP O m i r).2]) ∧ Below w.heap.size w W' := by
  have hmm : maxLen = 9223372036854775807 := by simp [maxLen]
  obtain ⟨ad_, rfl, had, c0, c1, c2, c3, c4, c5, c6, c7, c8, c9, c10⟩ := hR.lay.cells hi
  have hsg := hR.sg i hi
  have H := Lib.hid hR
  obtain ⟨n, hn⟩ : ∃ n, n = szR r.ty := ⟨_, rfl⟩
  have hn8 : n ≤ 8 := by rw [hn]; unfold szR; repeat (first | omega | split)
  obtain ⟨lb, hlb⟩ : ∃ b, b = lyB (O i).lay r.off n := ⟨_, rfl⟩
  have SZ : Hid (∀ W : World, Calls Try.prog 16 #[.int .u32 r.ty] W fun e w' => e = .returned (.int .i64 n) ∧ W = w') := Lib.hid fun W => by rw [hn]; exact rsize_any r.ty W
  have LY : Hid (∀ W : World, Below w.heap.size w W → Calls Try.prog 17 #[.agg (O i).lay.cs, .int .u64 r.off, .int .i64 n] W fun e W' => e = .returned (.bool lb) ∧ Below W.heap.size W W') := Lib.hid fun W h => by
    rw [hlb]; exact rlies_any (O i).lay r.off n W ((hsg.1.below h).more h.size) (hf i) h40 hoff hn8
  obtain ⟨z, hz⟩ : ∃ z, z = symP O m i r := ⟨_, rfl⟩
  have SZ0 : Hid (r.sym = 0 ∨ r.ty = 8 → z = (0, 0)) := Lib.hid fun h => by rw [hz]; unfold symP; rw [if_pos h]
  have SY : Hid (0 < r.sym → r.ty ≠ 8 → ∀ W : World, Below w.heap.size w W → Calls Try.prog 31 #[.slice (some ad_) m c, .int .i64 i, .int .i64 (r.sym - 1)] W fun e W' => e = .returned (.tuple #[.int .u64 z.1, .int .i64 z.2]) ∧ Below W.heap.size W W') := Lib.hid fun h0 h8 W h => by
    have e : z = Sym.ofP (fun i => (O i).syms) m i (r.sym - 1) := by rw [hz]; unfold symP; rw [if_neg (by omega)]
    rw [e]
    exact Sym.ref_any (some ad_) m c (fun i => (O i).syms) i (r.sym - 1) w.heap.size W (H.out.below h).syms h.size
  obtain ⟨pa, hpa⟩ : ∃ x, x = addrP O i r := ⟨_, rfl⟩
  have RES : Hid (oneP O m i r = if decide (n = 0) || !lb || decide (r.sym < 0) || decide (((O i).sM : Int) < r.sym) then (patZ, 22) else if z.2 ≠ 0 then (patZ, z.2) else match valP O i r z.1 with | some v => (⟨pa, n, v⟩, 0) | none => (patZ, 22)) := Lib.hid (by
    unfold oneP badP; rw [← hn, ← hlb, ← hz, ← hpa]; rfl)
  have VAL : Hid (∀ s, valP O i r s = if r.ty = 1 then some (sumP s r.add) else if r.ty = 2 then (if nearP s r.add pa = IntKind.i64.wrap (IntKind.i32.wrap (nearP s r.add pa)) then some (IntKind.u64.wrap (IntKind.u32.wrap (nearP s r.add pa))) else none) else if r.ty = 8 then some (sumP (O i).base r.add) else some s) := Lib.hid fun s => by unfold valP; rw [← hpa]
  have WPA : Hid (IntKind.u64.wrap (((O i).base : Int) + (r.off : Int)) = pa) := Lib.hid (by rw [hpa]; rfl)
  obtain ⟨res, hres⟩ : ∃ x, x = oneP O m i r := ⟨_, rfl⟩
  rw [← hres] at RES ⊢
  obtain ⟨o, ho⟩ : ∃ o, o = O i := ⟨_, rfl⟩
  rw [← ho] at LY RES VAL WPA
  have d0 : w.cell? (ad_.add (i * 11)) = some (.int .i64 o.ino) := by rw [ho]; exact c0
  have d1 : w.cell? ⟨(ad_.add (i * 11)).block, (ad_.add (i * 11)).off + 1, none⟩ = some (.int .u64 o.base) := by rw [ho]; exact c1
  have d2 : w.cell? ⟨(ad_.add (i * 11)).block, (ad_.add (i * 11)).off + 2, none⟩ = some (.int .u16 o.ty) := by rw [ho]; exact c2
  have d3 : w.cell? ⟨(ad_.add (i * 11)).block, (ad_.add (i * 11)).off + 3, none⟩ = some (.int .u64 o.en) := by rw [ho]; exact c3
  have d4 : w.cell? ⟨(ad_.add (i * 11)).block, (ad_.add (i * 11)).off + 4, none⟩ = some (.int .u64 o.ph) := by rw [ho]; exact c4
  have d5 : w.cell? ⟨(ad_.add (i * 11)).block, (ad_.add (i * 11)).off + 5, none⟩ = some (.slice o.gA o.gM o.gQ) := by rw [ho]; exact c5
  have d6 : w.cell? ⟨(ad_.add (i * 11)).block, (ad_.add (i * 11)).off + 6, none⟩ = some (.slice o.nA o.nM o.nQ) := by rw [ho]; exact c6
  have d7 : w.cell? ⟨(ad_.add (i * 11)).block, (ad_.add (i * 11)).off + 7, none⟩ = some (.string o.so) := by rw [ho]; exact c7
  have d8 : w.cell? ⟨(ad_.add (i * 11)).block, (ad_.add (i * 11)).off + 8, none⟩ = some (.string o.rn) := by rw [ho]; exact c8
  have d9 : w.cell? ⟨(ad_.add (i * 11)).block, (ad_.add (i * 11)).off + 9, none⟩ = some (.slice o.sA o.sM o.sQ) := by rw [ho]; exact c9
  have d10 : w.cell? ⟨(ad_.add (i * 11)).block, (ad_.add (i * 11)).off + 10, none⟩ = some (.slice o.rA o.rM o.rQ) := by rw [ho]; exact c10
  have lad := World.block_lt_of_cell? _ _ d0
  obtain ⟨off, ty, sy, ad⟩ := r
  rw [show (RelD.mk off ty sy ad).cs = #[.int .u64 off, .int .u32 ty, .int .i64 sy, .int .i64 ad] from rfl]
  dsimp only at SZ LY RES VAL WPA hs1 hs2 SY SZ0
  rw [o.lay_cs] at LY
  obtain ⟨ino, base, oty, en, ph, gA, gM, gQ, nA, nM, nQ, so, rn, sA, sM, sQ, rA, rM, rQ, sg, sy_, rl⟩ := o
  rw [show (ObjD.mk ino base oty en ph gA gM gQ nA nM nQ so rn sA sM sQ rA rM rQ sg sy_ rl).cs = #[.int .i64 ino, .int .u64 base, .int .u16 oty, .int .u64 en, .int .u64 ph, .slice gA gM gQ, .slice nA nM nQ, .string so, .string rn, .slice sA sM sQ, .slice rA rM rQ] from rfl] at LY
  dsimp only at d0 d1 d2 d3 d4 d5 d6 d7 d8 d9 d10 RES VAL WPA
  have i1 : (i : Int) < (m : Int) := by omega
  have wpa := WPA.out
  obtain ⟨W3, hW3⟩ : ∃ W, W = ((w.alloc (.cells #[.int .u64 off, .int .u32 ty, .int .i64 sy, .int .i64 ad] 53)).alloc (.cells #[.int .u64 0, .int .i64 0, .int .u64 0] 55)).alloc (.cells #[.int .i64 ino, .int .u64 base, .int .u16 oty, .int .u64 en, .int .u64 ph, .slice gA gM gQ, .slice nA nM nQ, .string so, .string rn, .slice sA sM sQ, .slice rA rM rQ] 50) := ⟨_, rfl⟩
  have B3 : Hid (Below w.heap.size w W3) := by rw [hW3]; exact Lib.hid ((((Below.refl _ _).alloc (Nat.le_refl _) _).alloc (by simp) _).alloc (by simp; omega) _)
  have K5 : Hid (Blk W3 w.heap.size 53 #[.int .u64 off, .int .u32 ty, .int .i64 sy, .int .i64 ad]) := by rw [hW3]; exact Lib.hid (((Blk.new _ _ _).alloc _).alloc _)
  have K6 : Hid (Blk W3 (w.heap.size + 1) 55 #[.int .u64 0, .int .i64 0, .int .u64 0]) := by rw [hW3]; exact Lib.hid ((blk_at _ _ (by simp)).alloc _)
  have K8 : Hid (Blk W3 (w.heap.size + 2) 50 #[.int .i64 ino, .int .u64 base, .int .u16 oty, .int .u64 en, .int .u64 ph, .slice gA gM gQ, .slice nA nM nQ, .string so, .string rn, .slice sA sM sQ, .slice rA rM rQ]) := by rw [hW3]; exact Lib.hid (blk_at _ _ (by simp))
  have S3 : W3.heap.size = w.heap.size + 3 := by rw [hW3]; simp
  have HW3 := Lib.hid hW3
  have HS3 := Lib.hid S3
  clear hR hf hoff hsg hn hlb hz hpa hres ho c0 c1 c2 c3 c4 c5 c6 c7 c8 c9 c10 hW3 WPA S3 hi
  go_enter Try.func22, Try.ntmps22
  go_upto_region 2 with fail
  rw [← HW3.out]
  clear d0 d1 d2 d3 d4 d5 d6 d7 d8 d9 d10 had lad
  have T3 : Hid (RN w #[.int .u64 off, .int .u32 ty, .int .i64 sy, .int .i64 ad] #[.int .i64 ino, .int .u64 base, .int .u16 oty, .int .u64 en, .int .u64 ph, .slice gA gM gQ, .slice nA nM nQ, .string so, .string rn, .slice sA sM sQ, .slice rA rM rQ] W3) := Lib.hid ⟨B3.out, K5.out, K6.out, K8.out⟩
  clear K5 K6 K8 B3 HW3
  have k0 := (T3.out.b5.cell 0).trans rfl
  have k1 := (T3.out.b5.cell 1).trans rfl
  have k2 := (T3.out.b5.cell 2).trans rfl
  have k3 := (T3.out.b5.cell 3).trans rfl
  have o0 := (T3.out.b8.cell 0).trans rfl
  have o1 := (T3.out.b8.cell 1).trans rfl
  have o2 := (T3.out.b8.cell 2).trans rfl
  have o3 := (T3.out.b8.cell 3).trans rfl
  have o4 := (T3.out.b8.cell 4).trans rfl
  have o5 := (T3.out.b8.cell 5).trans rfl
  have o6 := (T3.out.b8.cell 6).trans rfl
  have o7 := (T3.out.b8.cell 7).trans rfl
  have o8 := (T3.out.b8.cell 8).trans rfl
  have o9 := (T3.out.b8.cell 9).trans rfl
  have o10 := (T3.out.b8.cell 10).trans rfl
  have zc0 := (T3.out.b6.cell 0).trans rfl
  have zc1 := (T3.out.b6.cell 1).trans rfl
  have zc2 := (T3.out.b6.cell 2).trans rfl
  have lk := T3.out.b5.lt; have lo := T3.out.b8.lt; have lz := T3.out.b6.lt
  have fz : ∀ j, W3.frozen? ⟨w.heap.size + 1, j, none⟩ = false := fun j => T3.out.b6.frozen j
  simp only [List.getElem?_toArray, List.getElem?_cons_succ, List.getElem?_cons_zero] at k0 k1 k2 k3 o0 o1 o2 o3 o4 o5 o6 o7 o8 o9 o10 zc0 zc1 zc2
  go_wp2_with fail
  refine (SZ.out _).mono ?_
  rintro e w' ⟨rfl, rfl⟩
  by_cases g0 : n = 0
  · have t0 : ((n : Int) == 0) = true := by simp; omega
    have RS := Lib.hid (show res = (patZ, 22) by rw [RES.out, if_pos (by simp [g0])])
    clear g0 RES VAL
    go_wp2_with fail
    obtain ⟨W', hW'⟩ : ∃ W', W' = (((W3.setCell ⟨w.heap.size + 1, 0, none⟩ (.int .u64 0)).setCell ⟨w.heap.size + 1, 1, none⟩ (.int .i64 0)).setCell ⟨w.heap.size + 1, 2, none⟩ (.int .u64 0)) := ⟨_, rfl⟩
    have B2 : Blk W' (w.heap.size + 1) 55 #[.int .u64 0, .int .i64 0, .int .u64 0] := by rw [hW']; exact ((T3.out.b6.set_ 0 _).set_ 1 _).set_ 2 _
    have y0 := (B2.cell 0).trans rfl; have y1 := (B2.cell 1).trans rfl; have y2 := (B2.cell 2).trans rfl
    simp only [List.getElem?_toArray, List.getElem?_cons_succ, List.getElem?_cons_zero] at y0 y1 y2
    rw [← hW']
    refine bodyPost_ret (v := .tuple #[.agg #[.int .u64 0, .int .i64 0, .int .u64 0], .int .i64 22]) (by simp [results, Try.results22, go_sem, y0, y1, y2]) rfl ⟨by rw [RS.out]; rfl, by rw [hW']; exact (((T3.out.bl.setCell (by simp) _).setCell (by simp) _).setCell (by simp) _)⟩
  have t0 : ((n : Int) == 0) = false := by simp; omega
  have G0 := Lib.hid g0
  clear g0
  go_wp2_with fail
  refine (LY.out W3 T3.out.bl).mono ?_
  rintro e W5 ⟨rfl, b5⟩
  have T5 := Lib.hid (T3.out.next b5)
  clear k0 k1 k2 k3 o0 o1 o2 o3 o4 o5 o6 o7 o8 o9 o10 zc0 zc1 zc2 lk lo lz fz
  clear b5 T3
  cases lb with
  | false =>
    have k0 := (T5.out.b5.cell 0).trans rfl
    have k1 := (T5.out.b5.cell 1).trans rfl
    have k2 := (T5.out.b5.cell 2).trans rfl
    have k3 := (T5.out.b5.cell 3).trans rfl
    have o0 := (T5.out.b8.cell 0).trans rfl
    have o1 := (T5.out.b8.cell 1).trans rfl
    have o2 := (T5.out.b8.cell 2).trans rfl
    have o3 := (T5.out.b8.cell 3).trans rfl
    have o4 := (T5.out.b8.cell 4).trans rfl
    have o5 := (T5.out.b8.cell 5).trans rfl
    have o6 := (T5.out.b8.cell 6).trans rfl
    have o7 := (T5.out.b8.cell 7).trans rfl
    have o8 := (T5.out.b8.cell 8).trans rfl
    have o9 := (T5.out.b8.cell 9).trans rfl
    have o10 := (T5.out.b8.cell 10).trans rfl
    have zc0 := (T5.out.b6.cell 0).trans rfl
    have zc1 := (T5.out.b6.cell 1).trans rfl
    have zc2 := (T5.out.b6.cell 2).trans rfl
    have lk := T5.out.b5.lt; have lo := T5.out.b8.lt; have lz := T5.out.b6.lt
    have fz : ∀ j, W5.frozen? ⟨w.heap.size + 1, j, none⟩ = false := fun j => T5.out.b6.frozen j
    simp only [List.getElem?_toArray, List.getElem?_cons_succ, List.getElem?_cons_zero] at k0 k1 k2 k3 o0 o1 o2 o3 o4 o5 o6 o7 o8 o9 o10 zc0 zc1 zc2
    have RS := Lib.hid (show res = (patZ, 22) by rw [RES.out, if_pos (by simp)])
    clear RES VAL
    go_wp2_with fail
    obtain ⟨W', hW'⟩ : ∃ W', W' = (((W5.setCell ⟨w.heap.size + 1, 0, none⟩ (.int .u64 0)).setCell ⟨w.heap.size + 1, 1, none⟩ (.int .i64 0)).setCell ⟨w.heap.size + 1, 2, none⟩ (.int .u64 0)) := ⟨_, rfl⟩
    have B2 : Blk W' (w.heap.size + 1) 55 #[.int .u64 0, .int .i64 0, .int .u64 0] := by rw [hW']; exact ((T5.out.b6.set_ 0 _).set_ 1 _).set_ 2 _
    have y0 := (B2.cell 0).trans rfl; have y1 := (B2.cell 1).trans rfl; have y2 := (B2.cell 2).trans rfl
    simp only [List.getElem?_toArray, List.getElem?_cons_succ, List.getElem?_cons_zero] at y0 y1 y2
    rw [← hW']
    refine bodyPost_ret (v := .tuple #[.agg #[.int .u64 0, .int .i64 0, .int .u64 0], .int .i64 22]) (by simp [results, Try.results22, go_sem, y0, y1, y2]) rfl ⟨by rw [RS.out]; rfl, by rw [hW']; exact (((T5.out.bl.setCell (by simp) _).setCell (by simp) _).setCell (by simp) _)⟩
  | true =>
    by_cases g1 : sy < 0
    · have t1 : decide (sy < 0) = true := by simp; omega
      have RS := Lib.hid (show res = (patZ, 22) by rw [RES.out, if_pos (by simp [g1])])
      clear g1 RES VAL
      have k0 := (T5.out.b5.cell 0).trans rfl
      have k1 := (T5.out.b5.cell 1).trans rfl
      have k2 := (T5.out.b5.cell 2).trans rfl
      have k3 := (T5.out.b5.cell 3).trans rfl
      have o0 := (T5.out.b8.cell 0).trans rfl
      have o1 := (T5.out.b8.cell 1).trans rfl
      have o2 := (T5.out.b8.cell 2).trans rfl
      have o3 := (T5.out.b8.cell 3).trans rfl
      have o4 := (T5.out.b8.cell 4).trans rfl
      have o5 := (T5.out.b8.cell 5).trans rfl
      have o6 := (T5.out.b8.cell 6).trans rfl
      have o7 := (T5.out.b8.cell 7).trans rfl
      have o8 := (T5.out.b8.cell 8).trans rfl
      have o9 := (T5.out.b8.cell 9).trans rfl
      have o10 := (T5.out.b8.cell 10).trans rfl
      have zc0 := (T5.out.b6.cell 0).trans rfl
      have zc1 := (T5.out.b6.cell 1).trans rfl
      have zc2 := (T5.out.b6.cell 2).trans rfl
      have lk := T5.out.b5.lt; have lo := T5.out.b8.lt; have lz := T5.out.b6.lt
      have fz : ∀ j, W5.frozen? ⟨w.heap.size + 1, j, none⟩ = false := fun j => T5.out.b6.frozen j
      simp only [List.getElem?_toArray, List.getElem?_cons_succ, List.getElem?_cons_zero] at k0 k1 k2 k3 o0 o1 o2 o3 o4 o5 o6 o7 o8 o9 o10 zc0 zc1 zc2
      go_wp2_with fail
      obtain ⟨W', hW'⟩ : ∃ W', W' = (((W5.setCell ⟨w.heap.size + 1, 0, none⟩ (.int .u64 0)).setCell ⟨w.heap.size + 1, 1, none⟩ (.int .i64 0)).setCell ⟨w.heap.size + 1, 2, none⟩ (.int .u64 0)) := ⟨_, rfl⟩
      have B2 : Blk W' (w.heap.size + 1) 55 #[.int .u64 0, .int .i64 0, .int .u64 0] := by rw [hW']; exact ((T5.out.b6.set_ 0 _).set_ 1 _).set_ 2 _
      have y0 := (B2.cell 0).trans rfl; have y1 := (B2.cell 1).trans rfl; have y2 := (B2.cell 2).trans rfl
      simp only [List.getElem?_toArray, List.getElem?_cons_succ, List.getElem?_cons_zero] at y0 y1 y2
      rw [← hW']
      refine bodyPost_ret (v := .tuple #[.agg #[.int .u64 0, .int .i64 0, .int .u64 0], .int .i64 22]) (by simp [results, Try.results22, go_sem, y0, y1, y2]) rfl ⟨by rw [RS.out]; rfl, by rw [hW']; exact (((T5.out.bl.setCell (by simp) _).setCell (by simp) _).setCell (by simp) _)⟩
    have t1 : decide (sy < 0) = false := by simp; omega
    by_cases g2 : (sM : Int) < sy
    · have t2 : decide ((sM : Int) < sy) = true := by simp; omega
      have RS := Lib.hid (show res = (patZ, 22) by rw [RES.out, if_pos (by simp [g2])])
      clear g1 g2 RES VAL
      have k0 := (T5.out.b5.cell 0).trans rfl
      have k1 := (T5.out.b5.cell 1).trans rfl
      have k2 := (T5.out.b5.cell 2).trans rfl
      have k3 := (T5.out.b5.cell 3).trans rfl
      have o0 := (T5.out.b8.cell 0).trans rfl
      have o1 := (T5.out.b8.cell 1).trans rfl
      have o2 := (T5.out.b8.cell 2).trans rfl
      have o3 := (T5.out.b8.cell 3).trans rfl
      have o4 := (T5.out.b8.cell 4).trans rfl
      have o5 := (T5.out.b8.cell 5).trans rfl
      have o6 := (T5.out.b8.cell 6).trans rfl
      have o7 := (T5.out.b8.cell 7).trans rfl
      have o8 := (T5.out.b8.cell 8).trans rfl
      have o9 := (T5.out.b8.cell 9).trans rfl
      have o10 := (T5.out.b8.cell 10).trans rfl
      have zc0 := (T5.out.b6.cell 0).trans rfl
      have zc1 := (T5.out.b6.cell 1).trans rfl
      have zc2 := (T5.out.b6.cell 2).trans rfl
      have lk := T5.out.b5.lt; have lo := T5.out.b8.lt; have lz := T5.out.b6.lt
      have fz : ∀ j, W5.frozen? ⟨w.heap.size + 1, j, none⟩ = false := fun j => T5.out.b6.frozen j
      simp only [List.getElem?_toArray, List.getElem?_cons_succ, List.getElem?_cons_zero] at k0 k1 k2 k3 o0 o1 o2 o3 o4 o5 o6 o7 o8 o9 o10 zc0 zc1 zc2
      go_wp2_with fail
      obtain ⟨W', hW'⟩ : ∃ W', W' = (((W5.setCell ⟨w.heap.size + 1, 0, none⟩ (.int .u64 0)).setCell ⟨w.heap.size + 1, 1, none⟩ (.int .i64 0)).setCell ⟨w.heap.size + 1, 2, none⟩ (.int .u64 0)) := ⟨_, rfl⟩
      have B2 : Blk W' (w.heap.size + 1) 55 #[.int .u64 0, .int .i64 0, .int .u64 0] := by rw [hW']; exact ((T5.out.b6.set_ 0 _).set_ 1 _).set_ 2 _
      have y0 := (B2.cell 0).trans rfl; have y1 := (B2.cell 1).trans rfl; have y2 := (B2.cell 2).trans rfl
      simp only [List.getElem?_toArray, List.getElem?_cons_succ, List.getElem?_cons_zero] at y0 y1 y2
      rw [← hW']
      refine bodyPost_ret (v := .tuple #[.agg #[.int .u64 0, .int .i64 0, .int .u64 0], .int .i64 22]) (by simp [results, Try.results22, go_sem, y0, y1, y2]) rfl ⟨by rw [RS.out]; rfl, by rw [hW']; exact (((T5.out.bl.setCell (by simp) _).setCell (by simp) _).setCell (by simp) _)⟩
    have t2 : decide ((sM : Int) < sy) = false := by simp; omega
    have RE2 := Lib.hid (show res = if z.2 ≠ 0 then (patZ, z.2) else match valP O i ⟨off, ty, sy, ad⟩ z.1 with | some v => (⟨pa, n, v⟩, 0) | none => (patZ, 22) by rw [RES.out, if_neg (by have := G0.out; simp; omega)])
    rw [VAL.out] at RE2
    clear RES G0 VAL
    obtain ⟨v1, hv1⟩ : ∃ x, x = IntKind.u64.wrap ad := ⟨_, rfl⟩
    have u1 : IntKind.u64.wrap ad = v1 := hv1.symm
    obtain ⟨W6, hW6⟩ : ∃ W, W = W5.alloc (.cells #[.int .u64 pa, .int .i64 n, .int .u64 0] 55) := ⟨_, rfl⟩
    obtain ⟨g, hg⟩ : ∃ g, g = W5.heap.size := ⟨_, rfl⟩
    have T6 : Hid (RN w #[.int .u64 off, .int .u32 ty, .int .i64 sy, .int .i64 ad] #[.int .i64 ino, .int .u64 base, .int .u16 oty, .int .u64 en, .int .u64 ph, .slice gA gM gQ, .slice nA nM nQ, .string so, .string rn, .slice sA sM sQ, .slice rA rM rQ] W6) := by rw [hW6]; exact Lib.hid (T5.out.next ((Below.refl _ _).alloc (Nat.le_refl _) _))
    have Q6 : Hid (Blk W6 g 55 #[.int .u64 pa, .int .i64 n, .int .u64 0]) := by rw [hW6, hg]; exact Lib.hid (Blk.new _ _ _)
    have hgw : Hid (w.heap.size + 2 < g) := Lib.hid (by rw [hg]; exact T5.out.b8.lt)
    have HW6 := Lib.hid hW6
    have HG := Lib.hid hg
    clear hW6 hg
    have k0 := (T5.out.b5.cell 0).trans rfl
    have k1 := (T5.out.b5.cell 1).trans rfl
    have k2 := (T5.out.b5.cell 2).trans rfl
    have k3 := (T5.out.b5.cell 3).trans rfl
    have o0 := (T5.out.b8.cell 0).trans rfl
    have o1 := (T5.out.b8.cell 1).trans rfl
    have o2 := (T5.out.b8.cell 2).trans rfl
    have o3 := (T5.out.b8.cell 3).trans rfl
    have o4 := (T5.out.b8.cell 4).trans rfl
    have o5 := (T5.out.b8.cell 5).trans rfl
    have o6 := (T5.out.b8.cell 6).trans rfl
    have o7 := (T5.out.b8.cell 7).trans rfl
    have o8 := (T5.out.b8.cell 8).trans rfl
    have o9 := (T5.out.b8.cell 9).trans rfl
    have o10 := (T5.out.b8.cell 10).trans rfl
    have zc0 := (T5.out.b6.cell 0).trans rfl
    have zc1 := (T5.out.b6.cell 1).trans rfl
    have zc2 := (T5.out.b6.cell 2).trans rfl
    have lk := T5.out.b5.lt; have lo := T5.out.b8.lt; have lz := T5.out.b6.lt
    have fz : ∀ j, W5.frozen? ⟨w.heap.size + 1, j, none⟩ = false := fun j => T5.out.b6.frozen j
    simp only [List.getElem?_toArray, List.getElem?_cons_succ, List.getElem?_cons_zero] at k0 k1 k2 k3 o0 o1 o2 o3 o4 o5 o6 o7 o8 o9 o10 zc0 zc1 zc2
    go_upto_region 6 with fail
    rw [← HW6.out, ← HG.out]
    clear k0 k1 k2 k3 o0 o1 o2 o3 o4 o5 o6 o7 o8 o9 o10 zc0 zc1 zc2 lk lo lz fz
    clear T5 wpa
    by_cases h8 : ty = 8
    · have f8 : ((ty : Int) == 8) = true := by simp; omega
      obtain ⟨v, hv⟩ : ∃ x, x = sumP (base : Int) ad := ⟨_, rfl⟩
      have u2 : IntKind.u64.wrap ((base : Int) + v1) = v := by rw [hv, hv1]; rfl
      have RS := Lib.hid (show res = (⟨pa, n, v⟩, 0) by rw [RE2.out, SZ0.out (.inr h8)]; simp [h8, hv])
      clear h8 hv hv1 RE2 SY SZ0
      obtain ⟨W8, hW8⟩ : ∃ W, W = W6.setCell ⟨g, 2, none⟩ (.int .u64 v) := ⟨_, rfl⟩
      have hgw' := hgw.out
      have T8 : Hid (RN w #[.int .u64 off, .int .u32 ty, .int .i64 sy, .int .i64 ad] #[.int .i64 ino, .int .u64 base, .int .u16 oty, .int .u64 en, .int .u64 ph, .slice gA gM gQ, .slice nA nM nQ, .string so, .string rn, .slice sA sM sQ, .slice rA rM rQ] W8) := by rw [hW8]; exact Lib.hid ⟨T6.out.bl.setCell (by show w.heap.size ≤ g; omega) _, T6.out.b5.far (by show w.heap.size ≠ g; omega) _, T6.out.b6.far (by show w.heap.size + 1 ≠ g; omega) _, T6.out.b8.far (by show w.heap.size + 2 ≠ g; omega) _⟩
      have Q8 : Hid (Blk W8 g 55 #[.int .u64 pa, .int .i64 n, .int .u64 v]) := by rw [hW8]; exact Lib.hid (Q6.out.set_ 2 _)
      have HW8 := Lib.hid hW8
      clear hW8 hgw'
      have k0 := (T6.out.b5.cell 0).trans rfl
      have k1 := (T6.out.b5.cell 1).trans rfl
      have k2 := (T6.out.b5.cell 2).trans rfl
      have k3 := (T6.out.b5.cell 3).trans rfl
      have o0 := (T6.out.b8.cell 0).trans rfl
      have o1 := (T6.out.b8.cell 1).trans rfl
      have o2 := (T6.out.b8.cell 2).trans rfl
      have o3 := (T6.out.b8.cell 3).trans rfl
      have o4 := (T6.out.b8.cell 4).trans rfl
      have o5 := (T6.out.b8.cell 5).trans rfl
      have o6 := (T6.out.b8.cell 6).trans rfl
      have o7 := (T6.out.b8.cell 7).trans rfl
      have o8 := (T6.out.b8.cell 8).trans rfl
      have o9 := (T6.out.b8.cell 9).trans rfl
      have o10 := (T6.out.b8.cell 10).trans rfl
      have zc0 := (T6.out.b6.cell 0).trans rfl
      have zc1 := (T6.out.b6.cell 1).trans rfl
      have zc2 := (T6.out.b6.cell 2).trans rfl
      have lk := T6.out.b5.lt; have lo := T6.out.b8.lt; have lz := T6.out.b6.lt
      have fz : ∀ j, W6.frozen? ⟨w.heap.size + 1, j, none⟩ = false := fun j => T6.out.b6.frozen j
      have q0 := (Q6.out.cell 0).trans rfl
      have q1 := (Q6.out.cell 1).trans rfl
      have q2 := (Q6.out.cell 2).trans rfl
      have lq := Q6.out.lt
      have fq : ∀ j, W6.frozen? ⟨g, j, none⟩ = false := fun j => Q6.out.frozen j
      simp only [List.getElem?_toArray, List.getElem?_cons_succ, List.getElem?_cons_zero] at k0 k1 k2 k3 o0 o1 o2 o3 o4 o5 o6 o7 o8 o9 o10 zc0 zc1 zc2 q0 q1 q2
      go_upto_region 8 with fail
      rw [← HW8.out]
      clear k0 k1 k2 k3 o0 o1 o2 o3 o4 o5 o6 o7 o8 o9 o10 zc0 zc1 zc2 lk lo lz fz q0 q1 q2 lq fq
      have k0 := (T8.out.b5.cell 0).trans rfl
      have k1 := (T8.out.b5.cell 1).trans rfl
      have k2 := (T8.out.b5.cell 2).trans rfl
      have k3 := (T8.out.b5.cell 3).trans rfl
      have o0 := (T8.out.b8.cell 0).trans rfl
      have o1 := (T8.out.b8.cell 1).trans rfl
      have o2 := (T8.out.b8.cell 2).trans rfl
      have o3 := (T8.out.b8.cell 3).trans rfl
      have o4 := (T8.out.b8.cell 4).trans rfl
      have o5 := (T8.out.b8.cell 5).trans rfl
      have o6 := (T8.out.b8.cell 6).trans rfl
      have o7 := (T8.out.b8.cell 7).trans rfl
      have o8 := (T8.out.b8.cell 8).trans rfl
      have o9 := (T8.out.b8.cell 9).trans rfl
      have o10 := (T8.out.b8.cell 10).trans rfl
      have zc0 := (T8.out.b6.cell 0).trans rfl
      have zc1 := (T8.out.b6.cell 1).trans rfl
      have zc2 := (T8.out.b6.cell 2).trans rfl
      have lk := T8.out.b5.lt; have lo := T8.out.b8.lt; have lz := T8.out.b6.lt
      have fz : ∀ j, W8.frozen? ⟨w.heap.size + 1, j, none⟩ = false := fun j => T8.out.b6.frozen j
      have q0 := (Q8.out.cell 0).trans rfl
      have q1 := (Q8.out.cell 1).trans rfl
      have q2 := (Q8.out.cell 2).trans rfl
      have lq := Q8.out.lt
      have fq : ∀ j, W8.frozen? ⟨g, j, none⟩ = false := fun j => Q8.out.frozen j
      simp only [List.getElem?_toArray, List.getElem?_cons_succ, List.getElem?_cons_zero] at k0 k1 k2 k3 o0 o1 o2 o3 o4 o5 o6 o7 o8 o9 o10 zc0 zc1 zc2 q0 q1 q2
      go_wp2_with fail
      obtain ⟨W', hW'⟩ : ∃ W', W' = (((W8.setCell ⟨w.heap.size + 1, 0, none⟩ (.int .u64 pa)).setCell ⟨w.heap.size + 1, 1, none⟩ (.int .i64 n)).setCell ⟨w.heap.size + 1, 2, none⟩ (.int .u64 v)) := ⟨_, rfl⟩
      have B2 : Blk W' (w.heap.size + 1) 55 #[.int .u64 pa, .int .i64 n, .int .u64 v] := by rw [hW']; exact ((T8.out.b6.set_ 0 _).set_ 1 _).set_ 2 _
      have y0 := (B2.cell 0).trans rfl; have y1 := (B2.cell 1).trans rfl; have y2 := (B2.cell 2).trans rfl
      simp only [List.getElem?_toArray, List.getElem?_cons_succ, List.getElem?_cons_zero] at y0 y1 y2
      rw [← hW']
      refine bodyPost_ret (v := .tuple #[.agg #[.int .u64 pa, .int .i64 n, .int .u64 v], .int .i64 0]) (by simp [results, Try.results22, go_sem, y0, y1, y2]) rfl ⟨by rw [RS.out]; rfl, by rw [hW']; exact (((T8.out.bl.setCell (by simp) _).setCell (by simp) _).setCell (by simp) _)⟩
    have f8 : ((ty : Int) == 8) = false := by simp; omega
    have H8 := Lib.hid h8
    have key : ∀ (W9 : World), Hid (RN w #[.int .u64 off, .int .u32 ty, .int .i64 sy, .int .i64 ad] #[.int .i64 ino, .int .u64 base, .int .u16 oty, .int .u64 en, .int .u64 ph, .slice gA gM gQ, .slice nA nM nQ, .string so, .string rn, .slice sA sM sQ, .slice rA rM rQ] W9) → Hid (Blk W9 g 55 #[.int .u64 pa, .int .i64 n, .int .u64 0]) → True := fun _ _ _ => trivial
    clear key
    by_cases g3 : z.2 = 0
    · by_cases hs0 : sy = 0
      · have t7 : decide ((0 : Int) < sy) = false := by simp; omega
        have RE0 := RE2.out
        rw [SZ0.out (.inl hs0)] at RE0
        obtain ⟨z1, hz1⟩ : ∃ x : Int, x = 0 := ⟨_, rfl⟩
        have RE3 := Lib.hid (show res = match (if ty = 1 then some (sumP z1 ad) else if ty = 2 then (if nearP z1 ad pa = IntKind.i64.wrap (IntKind.i32.wrap (nearP z1 ad pa)) then some (IntKind.u64.wrap (IntKind.u32.wrap (nearP z1 ad pa))) else none) else if ty = 8 then some (sumP (base : Int) ad) else some z1) with | some v => (⟨pa, n, v⟩, 0) | none => (patZ, 22) by rw [hz1]; simpa using RE0)
        have HZ1 := Lib.hid hz1
        clear g3 hs0 RE2 RE0 SY SZ0 hz1
        have k0 := (T6.out.b5.cell 0).trans rfl
        have k1 := (T6.out.b5.cell 1).trans rfl
        have k2 := (T6.out.b5.cell 2).trans rfl
        have k3 := (T6.out.b5.cell 3).trans rfl
        have o0 := (T6.out.b8.cell 0).trans rfl
        have o1 := (T6.out.b8.cell 1).trans rfl
        have o2 := (T6.out.b8.cell 2).trans rfl
        have o3 := (T6.out.b8.cell 3).trans rfl
        have o4 := (T6.out.b8.cell 4).trans rfl
        have o5 := (T6.out.b8.cell 5).trans rfl
        have o6 := (T6.out.b8.cell 6).trans rfl
        have o7 := (T6.out.b8.cell 7).trans rfl
        have o8 := (T6.out.b8.cell 8).trans rfl
        have o9 := (T6.out.b8.cell 9).trans rfl
        have o10 := (T6.out.b8.cell 10).trans rfl
        have zc0 := (T6.out.b6.cell 0).trans rfl
        have zc1 := (T6.out.b6.cell 1).trans rfl
        have zc2 := (T6.out.b6.cell 2).trans rfl
        have lk := T6.out.b5.lt; have lo := T6.out.b8.lt; have lz := T6.out.b6.lt
        have fz : ∀ j, W6.frozen? ⟨w.heap.size + 1, j, none⟩ = false := fun j => T6.out.b6.frozen j
        have q0 := (Q6.out.cell 0).trans rfl
        have q1 := (Q6.out.cell 1).trans rfl
        have q2 := (Q6.out.cell 2).trans rfl
        have lq := Q6.out.lt
        have fq : ∀ j, W6.frozen? ⟨g, j, none⟩ = false := fun j => Q6.out.frozen j
        simp only [List.getElem?_toArray, List.getElem?_cons_succ, List.getElem?_cons_zero] at k0 k1 k2 k3 o0 o1 o2 o3 o4 o5 o6 o7 o8 o9 o10 zc0 zc1 zc2 q0 q1 q2
        go_upto_region 9 with fail
        go_cut [11] from 65 to 65 (fun v wx => v = .int .u64 z1 ∧ wx = W6)
        case first =>
          go_wp2_with fail
          go_meet
          exact ⟨by rw [HZ1.out], rfl⟩
        case rest =>
        obtain ⟨rfl, rfl⟩ := hcut
        clear k0 k1 k2 k3 o0 o1 o2 o3 o4 o5 o6 o7 o8 o9 o10 zc0 zc1 zc2 lk lo lz fz q0 q1 q2 lq fq
        by_cases h1 : ty = 1
        · have f1 : ((ty : Int) == 1) = true := by simp; omega
          obtain ⟨v, hv⟩ : ∃ x, x = sumP z1 ad := ⟨_, rfl⟩
          have u2 : IntKind.u64.wrap (z1 + v1) = v := by rw [hv, hv1]; rfl
          have RS := Lib.hid (show res = (⟨pa, n, v⟩, 0) by rw [RE3.out, if_pos h1, hv])
          clear h1 hv hv1 RE3 h8
          obtain ⟨W8, hW8⟩ : ∃ W, W = wc.setCell ⟨g, 2, none⟩ (.int .u64 v) := ⟨_, rfl⟩
          have hgw' := hgw.out
          have T8 : Hid (RN w #[.int .u64 off, .int .u32 ty, .int .i64 sy, .int .i64 ad] #[.int .i64 ino, .int .u64 base, .int .u16 oty, .int .u64 en, .int .u64 ph, .slice gA gM gQ, .slice nA nM nQ, .string so, .string rn, .slice sA sM sQ, .slice rA rM rQ] W8) := by rw [hW8]; exact Lib.hid ⟨T6.out.bl.setCell (by show w.heap.size ≤ g; omega) _, T6.out.b5.far (by show w.heap.size ≠ g; omega) _, T6.out.b6.far (by show w.heap.size + 1 ≠ g; omega) _, T6.out.b8.far (by show w.heap.size + 2 ≠ g; omega) _⟩
          have Q8 : Hid (Blk W8 g 55 #[.int .u64 pa, .int .i64 n, .int .u64 v]) := by rw [hW8]; exact Lib.hid (Q6.out.set_ 2 _)
          have HW8 := Lib.hid hW8
          clear hW8 hgw'
          have k0 := (T6.out.b5.cell 0).trans rfl
          have k1 := (T6.out.b5.cell 1).trans rfl
          have k2 := (T6.out.b5.cell 2).trans rfl
          have k3 := (T6.out.b5.cell 3).trans rfl
          have o0 := (T6.out.b8.cell 0).trans rfl
          have o1 := (T6.out.b8.cell 1).trans rfl
          have o2 := (T6.out.b8.cell 2).trans rfl
          have o3 := (T6.out.b8.cell 3).trans rfl
          have o4 := (T6.out.b8.cell 4).trans rfl
          have o5 := (T6.out.b8.cell 5).trans rfl
          have o6 := (T6.out.b8.cell 6).trans rfl
          have o7 := (T6.out.b8.cell 7).trans rfl
          have o8 := (T6.out.b8.cell 8).trans rfl
          have o9 := (T6.out.b8.cell 9).trans rfl
          have o10 := (T6.out.b8.cell 10).trans rfl
          have zc0 := (T6.out.b6.cell 0).trans rfl
          have zc1 := (T6.out.b6.cell 1).trans rfl
          have zc2 := (T6.out.b6.cell 2).trans rfl
          have lk := T6.out.b5.lt; have lo := T6.out.b8.lt; have lz := T6.out.b6.lt
          have fz : ∀ j, wc.frozen? ⟨w.heap.size + 1, j, none⟩ = false := fun j => T6.out.b6.frozen j
          have q0 := (Q6.out.cell 0).trans rfl
          have q1 := (Q6.out.cell 1).trans rfl
          have q2 := (Q6.out.cell 2).trans rfl
          have lq := Q6.out.lt
          have fq : ∀ j, wc.frozen? ⟨g, j, none⟩ = false := fun j => Q6.out.frozen j
          simp only [List.getElem?_toArray, List.getElem?_cons_succ, List.getElem?_cons_zero] at k0 k1 k2 k3 o0 o1 o2 o3 o4 o5 o6 o7 o8 o9 o10 zc0 zc1 zc2 q0 q1 q2
          go_upto_region 24 with fail
          rw [← HW8.out]
          clear k0 k1 k2 k3 o0 o1 o2 o3 o4 o5 o6 o7 o8 o9 o10 zc0 zc1 zc2 lk lo lz fz q0 q1 q2 lq fq
          have k0 := (T8.out.b5.cell 0).trans rfl
          have k1 := (T8.out.b5.cell 1).trans rfl
          have k2 := (T8.out.b5.cell 2).trans rfl
          have k3 := (T8.out.b5.cell 3).trans rfl
          have o0 := (T8.out.b8.cell 0).trans rfl
          have o1 := (T8.out.b8.cell 1).trans rfl
          have o2 := (T8.out.b8.cell 2).trans rfl
          have o3 := (T8.out.b8.cell 3).trans rfl
          have o4 := (T8.out.b8.cell 4).trans rfl
          have o5 := (T8.out.b8.cell 5).trans rfl
          have o6 := (T8.out.b8.cell 6).trans rfl
          have o7 := (T8.out.b8.cell 7).trans rfl
          have o8 := (T8.out.b8.cell 8).trans rfl
          have o9 := (T8.out.b8.cell 9).trans rfl
          have o10 := (T8.out.b8.cell 10).trans rfl
          have zc0 := (T8.out.b6.cell 0).trans rfl
          have zc1 := (T8.out.b6.cell 1).trans rfl
          have zc2 := (T8.out.b6.cell 2).trans rfl
          have lk := T8.out.b5.lt; have lo := T8.out.b8.lt; have lz := T8.out.b6.lt
          have fz : ∀ j, W8.frozen? ⟨w.heap.size + 1, j, none⟩ = false := fun j => T8.out.b6.frozen j
          have q0 := (Q8.out.cell 0).trans rfl
          have q1 := (Q8.out.cell 1).trans rfl
          have q2 := (Q8.out.cell 2).trans rfl
          have lq := Q8.out.lt
          have fq : ∀ j, W8.frozen? ⟨g, j, none⟩ = false := fun j => Q8.out.frozen j
          simp only [List.getElem?_toArray, List.getElem?_cons_succ, List.getElem?_cons_zero] at k0 k1 k2 k3 o0 o1 o2 o3 o4 o5 o6 o7 o8 o9 o10 zc0 zc1 zc2 q0 q1 q2
          go_wp2_with fail
          obtain ⟨W', hW'⟩ : ∃ W', W' = (((W8.setCell ⟨w.heap.size + 1, 0, none⟩ (.int .u64 pa)).setCell ⟨w.heap.size + 1, 1, none⟩ (.int .i64 n)).setCell ⟨w.heap.size + 1, 2, none⟩ (.int .u64 v)) := ⟨_, rfl⟩
          have B2 : Blk W' (w.heap.size + 1) 55 #[.int .u64 pa, .int .i64 n, .int .u64 v] := by rw [hW']; exact ((T8.out.b6.set_ 0 _).set_ 1 _).set_ 2 _
          have y0 := (B2.cell 0).trans rfl; have y1 := (B2.cell 1).trans rfl; have y2 := (B2.cell 2).trans rfl
          simp only [List.getElem?_toArray, List.getElem?_cons_succ, List.getElem?_cons_zero] at y0 y1 y2
          rw [← hW']
          refine bodyPost_ret (v := .tuple #[.agg #[.int .u64 pa, .int .i64 n, .int .u64 v], .int .i64 0]) (by simp [results, Try.results22, go_sem, y0, y1, y2]) rfl ⟨by rw [RS.out]; rfl, by rw [hW']; exact (((T8.out.bl.setCell (by simp) _).setCell (by simp) _).setCell (by simp) _)⟩
        have f1 : ((ty : Int) == 1) = false := by simp; omega
        by_cases h2 : ty = 2
        · have f2 : ((ty : Int) == 2) = true := by simp; omega
          obtain ⟨v, hv⟩ : ∃ x, x = sumP z1 ad := ⟨_, rfl⟩
          have u2 : IntKind.u64.wrap (z1 + v1) = v := by rw [hv, hv1]; rfl
          obtain ⟨v3, hv3⟩ : ∃ x : Int, x = IntKind.u64.wrap (sumP z1 ad - pa) := ⟨_, rfl⟩
          have u3 : IntKind.u64.wrap (v - pa) = v3 := by rw [hv3, hv]
          obtain ⟨v4, hv4⟩ : ∃ x : Int, x = IntKind.u64.wrap (v3 + 2147483648) := ⟨_, rfl⟩
          have u4 : IntKind.u64.wrap (v3 + 2147483648) = v4 := hv4.symm
          have v30 : 0 ≤ v3 := by rw [hv3, IntKind.wrap_u64]; omega
          obtain ⟨v5, hv5⟩ : ∃ x : Int, x = v3 % 4294967296 := ⟨_, rfl⟩
          have u5 : v3.tmod 4294967296 = v5 := by rw [hv5, Int.tmod_eq_emod_of_nonneg v30]
          have u6 : v3 % 4294967296 = v5 := hv5.symm
          have u7 : IntKind.u64.wrap v5 = v5 := by rw [IntKind.wrap_u64]; omega
          obtain ⟨nw, nv⟩ := near_iff z1 ad pa
          rw [← hv3, ← hv4] at nw
          rw [← hv3, ← hv5] at nv
          by_cases hb : (4294967296 : Int) ≤ v4
          · have t9 : decide ((4294967296 : Int) ≤ v4) = true := by simp; omega
            have RS := Lib.hid (show res = (patZ, 22) by rw [RE3.out, if_neg h1, if_pos h2, if_neg (fun h => nw.1 h hb)])
            clear h1 h2 hv hv1 hv3 hv4 hv5 v30 nw nv hb RE3 h8
            have k0 := (T6.out.b5.cell 0).trans rfl
            have k1 := (T6.out.b5.cell 1).trans rfl
            have k2 := (T6.out.b5.cell 2).trans rfl
            have k3 := (T6.out.b5.cell 3).trans rfl
            have o0 := (T6.out.b8.cell 0).trans rfl
            have o1 := (T6.out.b8.cell 1).trans rfl
            have o2 := (T6.out.b8.cell 2).trans rfl
            have o3 := (T6.out.b8.cell 3).trans rfl
            have o4 := (T6.out.b8.cell 4).trans rfl
            have o5 := (T6.out.b8.cell 5).trans rfl
            have o6 := (T6.out.b8.cell 6).trans rfl
            have o7 := (T6.out.b8.cell 7).trans rfl
            have o8 := (T6.out.b8.cell 8).trans rfl
            have o9 := (T6.out.b8.cell 9).trans rfl
            have o10 := (T6.out.b8.cell 10).trans rfl
            have zc0 := (T6.out.b6.cell 0).trans rfl
            have zc1 := (T6.out.b6.cell 1).trans rfl
            have zc2 := (T6.out.b6.cell 2).trans rfl
            have lk := T6.out.b5.lt; have lo := T6.out.b8.lt; have lz := T6.out.b6.lt
            have fz : ∀ j, wc.frozen? ⟨w.heap.size + 1, j, none⟩ = false := fun j => T6.out.b6.frozen j
            have q0 := (Q6.out.cell 0).trans rfl
            have q1 := (Q6.out.cell 1).trans rfl
            have q2 := (Q6.out.cell 2).trans rfl
            have lq := Q6.out.lt
            have fq : ∀ j, wc.frozen? ⟨g, j, none⟩ = false := fun j => Q6.out.frozen j
            simp only [List.getElem?_toArray, List.getElem?_cons_succ, List.getElem?_cons_zero] at k0 k1 k2 k3 o0 o1 o2 o3 o4 o5 o6 o7 o8 o9 o10 zc0 zc1 zc2 q0 q1 q2
            go_wp2_with fail
            obtain ⟨W', hW'⟩ : ∃ W', W' = (((wc.setCell ⟨w.heap.size + 1, 0, none⟩ (.int .u64 0)).setCell ⟨w.heap.size + 1, 1, none⟩ (.int .i64 0)).setCell ⟨w.heap.size + 1, 2, none⟩ (.int .u64 0)) := ⟨_, rfl⟩
            have B2 : Blk W' (w.heap.size + 1) 55 #[.int .u64 0, .int .i64 0, .int .u64 0] := by rw [hW']; exact ((T6.out.b6.set_ 0 _).set_ 1 _).set_ 2 _
            have y0 := (B2.cell 0).trans rfl; have y1 := (B2.cell 1).trans rfl; have y2 := (B2.cell 2).trans rfl
            simp only [List.getElem?_toArray, List.getElem?_cons_succ, List.getElem?_cons_zero] at y0 y1 y2
            rw [← hW']
            refine bodyPost_ret (v := .tuple #[.agg #[.int .u64 0, .int .i64 0, .int .u64 0], .int .i64 22]) (by simp [results, Try.results22, go_sem, y0, y1, y2]) rfl ⟨by rw [RS.out]; rfl, by rw [hW']; exact (((T6.out.bl.setCell (by simp) _).setCell (by simp) _).setCell (by simp) _)⟩
          · have t9 : decide ((4294967296 : Int) ≤ v4) = false := by simp; omega
            have RS := Lib.hid (show res = (⟨pa, n, v5⟩, 0) by rw [RE3.out, if_neg h1, if_pos h2, if_pos (nw.2 hb), nv (nw.2 hb)])
            clear h1 h2 hv hv1 hv3 hv4 hv5 v30 nw nv hb RE3 h8
            obtain ⟨W8, hW8⟩ : ∃ W, W = wc.setCell ⟨g, 2, none⟩ (.int .u64 v5) := ⟨_, rfl⟩
            have hgw' := hgw.out
            have T8 : Hid (RN w #[.int .u64 off, .int .u32 ty, .int .i64 sy, .int .i64 ad] #[.int .i64 ino, .int .u64 base, .int .u16 oty, .int .u64 en, .int .u64 ph, .slice gA gM gQ, .slice nA nM nQ, .string so, .string rn, .slice sA sM sQ, .slice rA rM rQ] W8) := by rw [hW8]; exact Lib.hid ⟨T6.out.bl.setCell (by show w.heap.size ≤ g; omega) _, T6.out.b5.far (by show w.heap.size ≠ g; omega) _, T6.out.b6.far (by show w.heap.size + 1 ≠ g; omega) _, T6.out.b8.far (by show w.heap.size + 2 ≠ g; omega) _⟩
            have Q8 : Hid (Blk W8 g 55 #[.int .u64 pa, .int .i64 n, .int .u64 v5]) := by rw [hW8]; exact Lib.hid (Q6.out.set_ 2 _)
            have HW8 := Lib.hid hW8
            clear hW8 hgw'
            have k0 := (T6.out.b5.cell 0).trans rfl
            have k1 := (T6.out.b5.cell 1).trans rfl
            have k2 := (T6.out.b5.cell 2).trans rfl
            have k3 := (T6.out.b5.cell 3).trans rfl
            have o0 := (T6.out.b8.cell 0).trans rfl
            have o1 := (T6.out.b8.cell 1).trans rfl
            have o2 := (T6.out.b8.cell 2).trans rfl
            have o3 := (T6.out.b8.cell 3).trans rfl
            have o4 := (T6.out.b8.cell 4).trans rfl
            have o5 := (T6.out.b8.cell 5).trans rfl
            have o6 := (T6.out.b8.cell 6).trans rfl
            have o7 := (T6.out.b8.cell 7).trans rfl
            have o8 := (T6.out.b8.cell 8).trans rfl
            have o9 := (T6.out.b8.cell 9).trans rfl
            have o10 := (T6.out.b8.cell 10).trans rfl
            have zc0 := (T6.out.b6.cell 0).trans rfl
            have zc1 := (T6.out.b6.cell 1).trans rfl
            have zc2 := (T6.out.b6.cell 2).trans rfl
            have lk := T6.out.b5.lt; have lo := T6.out.b8.lt; have lz := T6.out.b6.lt
            have fz : ∀ j, wc.frozen? ⟨w.heap.size + 1, j, none⟩ = false := fun j => T6.out.b6.frozen j
            have q0 := (Q6.out.cell 0).trans rfl
            have q1 := (Q6.out.cell 1).trans rfl
            have q2 := (Q6.out.cell 2).trans rfl
            have lq := Q6.out.lt
            have fq : ∀ j, wc.frozen? ⟨g, j, none⟩ = false := fun j => Q6.out.frozen j
            simp only [List.getElem?_toArray, List.getElem?_cons_succ, List.getElem?_cons_zero] at k0 k1 k2 k3 o0 o1 o2 o3 o4 o5 o6 o7 o8 o9 o10 zc0 zc1 zc2 q0 q1 q2
            go_upto_region 24 with fail
            rw [← HW8.out]
            clear k0 k1 k2 k3 o0 o1 o2 o3 o4 o5 o6 o7 o8 o9 o10 zc0 zc1 zc2 lk lo lz fz q0 q1 q2 lq fq
            have k0 := (T8.out.b5.cell 0).trans rfl
            have k1 := (T8.out.b5.cell 1).trans rfl
            have k2 := (T8.out.b5.cell 2).trans rfl
            have k3 := (T8.out.b5.cell 3).trans rfl
            have o0 := (T8.out.b8.cell 0).trans rfl
            have o1 := (T8.out.b8.cell 1).trans rfl
            have o2 := (T8.out.b8.cell 2).trans rfl
            have o3 := (T8.out.b8.cell 3).trans rfl
            have o4 := (T8.out.b8.cell 4).trans rfl
            have o5 := (T8.out.b8.cell 5).trans rfl
            have o6 := (T8.out.b8.cell 6).trans rfl
            have o7 := (T8.out.b8.cell 7).trans rfl
            have o8 := (T8.out.b8.cell 8).trans rfl
            have o9 := (T8.out.b8.cell 9).trans rfl
            have o10 := (T8.out.b8.cell 10).trans rfl
            have zc0 := (T8.out.b6.cell 0).trans rfl
            have zc1 := (T8.out.b6.cell 1).trans rfl
            have zc2 := (T8.out.b6.cell 2).trans rfl
            have lk := T8.out.b5.lt; have lo := T8.out.b8.lt; have lz := T8.out.b6.lt
            have fz : ∀ j, W8.frozen? ⟨w.heap.size + 1, j, none⟩ = false := fun j => T8.out.b6.frozen j
            have q0 := (Q8.out.cell 0).trans rfl
            have q1 := (Q8.out.cell 1).trans rfl
            have q2 := (Q8.out.cell 2).trans rfl
            have lq := Q8.out.lt
            have fq : ∀ j, W8.frozen? ⟨g, j, none⟩ = false := fun j => Q8.out.frozen j
            simp only [List.getElem?_toArray, List.getElem?_cons_succ, List.getElem?_cons_zero] at k0 k1 k2 k3 o0 o1 o2 o3 o4 o5 o6 o7 o8 o9 o10 zc0 zc1 zc2 q0 q1 q2
            go_wp2_with fail
            obtain ⟨W', hW'⟩ : ∃ W', W' = (((W8.setCell ⟨w.heap.size + 1, 0, none⟩ (.int .u64 pa)).setCell ⟨w.heap.size + 1, 1, none⟩ (.int .i64 n)).setCell ⟨w.heap.size + 1, 2, none⟩ (.int .u64 v5)) := ⟨_, rfl⟩
            have B2 : Blk W' (w.heap.size + 1) 55 #[.int .u64 pa, .int .i64 n, .int .u64 v5] := by rw [hW']; exact ((T8.out.b6.set_ 0 _).set_ 1 _).set_ 2 _
            have y0 := (B2.cell 0).trans rfl; have y1 := (B2.cell 1).trans rfl; have y2 := (B2.cell 2).trans rfl
            simp only [List.getElem?_toArray, List.getElem?_cons_succ, List.getElem?_cons_zero] at y0 y1 y2
            rw [← hW']
            refine bodyPost_ret (v := .tuple #[.agg #[.int .u64 pa, .int .i64 n, .int .u64 v5], .int .i64 0]) (by simp [results, Try.results22, go_sem, y0, y1, y2]) rfl ⟨by rw [RS.out]; rfl, by rw [hW']; exact (((T8.out.bl.setCell (by simp) _).setCell (by simp) _).setCell (by simp) _)⟩
        have f2 : ((ty : Int) == 2) = false := by simp; omega
        have RS := Lib.hid (show res = (⟨pa, n, z1⟩, 0) by rw [RE3.out, if_neg h1, if_neg h2, if_neg h8])
        clear h1 h2 h8 hv1 RE3
        obtain ⟨W8, hW8⟩ : ∃ W, W = wc.setCell ⟨g, 2, none⟩ (.int .u64 z1) := ⟨_, rfl⟩
        have hgw' := hgw.out
        have T8 : Hid (RN w #[.int .u64 off, .int .u32 ty, .int .i64 sy, .int .i64 ad] #[.int .i64 ino, .int .u64 base, .int .u16 oty, .int .u64 en, .int .u64 ph, .slice gA gM gQ, .slice nA nM nQ, .string so, .string rn, .slice sA sM sQ, .slice rA rM rQ] W8) := by rw [hW8]; exact Lib.hid ⟨T6.out.bl.setCell (by show w.heap.size ≤ g; omega) _, T6.out.b5.far (by show w.heap.size ≠ g; omega) _, T6.out.b6.far (by show w.heap.size + 1 ≠ g; omega) _, T6.out.b8.far (by show w.heap.size + 2 ≠ g; omega) _⟩
        have Q8 : Hid (Blk W8 g 55 #[.int .u64 pa, .int .i64 n, .int .u64 z1]) := by rw [hW8]; exact Lib.hid (Q6.out.set_ 2 _)
        have HW8 := Lib.hid hW8
        clear hW8 hgw'
        have k0 := (T6.out.b5.cell 0).trans rfl
        have k1 := (T6.out.b5.cell 1).trans rfl
        have k2 := (T6.out.b5.cell 2).trans rfl
        have k3 := (T6.out.b5.cell 3).trans rfl
        have o0 := (T6.out.b8.cell 0).trans rfl
        have o1 := (T6.out.b8.cell 1).trans rfl
        have o2 := (T6.out.b8.cell 2).trans rfl
        have o3 := (T6.out.b8.cell 3).trans rfl
        have o4 := (T6.out.b8.cell 4).trans rfl
        have o5 := (T6.out.b8.cell 5).trans rfl
        have o6 := (T6.out.b8.cell 6).trans rfl
        have o7 := (T6.out.b8.cell 7).trans rfl
        have o8 := (T6.out.b8.cell 8).trans rfl
        have o9 := (T6.out.b8.cell 9).trans rfl
        have o10 := (T6.out.b8.cell 10).trans rfl
        have zc0 := (T6.out.b6.cell 0).trans rfl
        have zc1 := (T6.out.b6.cell 1).trans rfl
        have zc2 := (T6.out.b6.cell 2).trans rfl
        have lk := T6.out.b5.lt; have lo := T6.out.b8.lt; have lz := T6.out.b6.lt
        have fz : ∀ j, wc.frozen? ⟨w.heap.size + 1, j, none⟩ = false := fun j => T6.out.b6.frozen j
        have q0 := (Q6.out.cell 0).trans rfl
        have q1 := (Q6.out.cell 1).trans rfl
        have q2 := (Q6.out.cell 2).trans rfl
        have lq := Q6.out.lt
        have fq : ∀ j, wc.frozen? ⟨g, j, none⟩ = false := fun j => Q6.out.frozen j
        simp only [List.getElem?_toArray, List.getElem?_cons_succ, List.getElem?_cons_zero] at k0 k1 k2 k3 o0 o1 o2 o3 o4 o5 o6 o7 o8 o9 o10 zc0 zc1 zc2 q0 q1 q2
        go_upto_region 24 with fail
        rw [← HW8.out]
        clear k0 k1 k2 k3 o0 o1 o2 o3 o4 o5 o6 o7 o8 o9 o10 zc0 zc1 zc2 lk lo lz fz q0 q1 q2 lq fq
        have k0 := (T8.out.b5.cell 0).trans rfl
        have k1 := (T8.out.b5.cell 1).trans rfl
        have k2 := (T8.out.b5.cell 2).trans rfl
        have k3 := (T8.out.b5.cell 3).trans rfl
        have o0 := (T8.out.b8.cell 0).trans rfl
        have o1 := (T8.out.b8.cell 1).trans rfl
        have o2 := (T8.out.b8.cell 2).trans rfl
        have o3 := (T8.out.b8.cell 3).trans rfl
        have o4 := (T8.out.b8.cell 4).trans rfl
        have o5 := (T8.out.b8.cell 5).trans rfl
        have o6 := (T8.out.b8.cell 6).trans rfl
        have o7 := (T8.out.b8.cell 7).trans rfl
        have o8 := (T8.out.b8.cell 8).trans rfl
        have o9 := (T8.out.b8.cell 9).trans rfl
        have o10 := (T8.out.b8.cell 10).trans rfl
        have zc0 := (T8.out.b6.cell 0).trans rfl
        have zc1 := (T8.out.b6.cell 1).trans rfl
        have zc2 := (T8.out.b6.cell 2).trans rfl
        have lk := T8.out.b5.lt; have lo := T8.out.b8.lt; have lz := T8.out.b6.lt
        have fz : ∀ j, W8.frozen? ⟨w.heap.size + 1, j, none⟩ = false := fun j => T8.out.b6.frozen j
        have q0 := (Q8.out.cell 0).trans rfl
        have q1 := (Q8.out.cell 1).trans rfl
        have q2 := (Q8.out.cell 2).trans rfl
        have lq := Q8.out.lt
        have fq : ∀ j, W8.frozen? ⟨g, j, none⟩ = false := fun j => Q8.out.frozen j
        simp only [List.getElem?_toArray, List.getElem?_cons_succ, List.getElem?_cons_zero] at k0 k1 k2 k3 o0 o1 o2 o3 o4 o5 o6 o7 o8 o9 o10 zc0 zc1 zc2 q0 q1 q2
        go_wp2_with fail
        obtain ⟨W', hW'⟩ : ∃ W', W' = (((W8.setCell ⟨w.heap.size + 1, 0, none⟩ (.int .u64 pa)).setCell ⟨w.heap.size + 1, 1, none⟩ (.int .i64 n)).setCell ⟨w.heap.size + 1, 2, none⟩ (.int .u64 z1)) := ⟨_, rfl⟩
        have B2 : Blk W' (w.heap.size + 1) 55 #[.int .u64 pa, .int .i64 n, .int .u64 z1] := by rw [hW']; exact ((T8.out.b6.set_ 0 _).set_ 1 _).set_ 2 _
        have y0 := (B2.cell 0).trans rfl; have y1 := (B2.cell 1).trans rfl; have y2 := (B2.cell 2).trans rfl
        simp only [List.getElem?_toArray, List.getElem?_cons_succ, List.getElem?_cons_zero] at y0 y1 y2
        rw [← hW']
        refine bodyPost_ret (v := .tuple #[.agg #[.int .u64 pa, .int .i64 n, .int .u64 z1], .int .i64 0]) (by simp [results, Try.results22, go_sem, y0, y1, y2]) rfl ⟨by rw [RS.out]; rfl, by rw [hW']; exact (((T8.out.bl.setCell (by simp) _).setCell (by simp) _).setCell (by simp) _)⟩
      · have t7 : decide ((0 : Int) < sy) = true := by simp; omega
        obtain ⟨z1, z2⟩ := z
        dsimp only at g3
        subst g3
        have RE3 := Lib.hid (show res = match (if ty = 1 then some (sumP z1 ad) else if ty = 2 then (if nearP z1 ad pa = IntKind.i64.wrap (IntKind.i32.wrap (nearP z1 ad pa)) then some (IntKind.u64.wrap (IntKind.u32.wrap (nearP z1 ad pa))) else none) else if ty = 8 then some (sumP (base : Int) ad) else some z1) with | some v => (⟨pa, n, v⟩, 0) | none => (patZ, 22) by rw [RE2.out]; simp)
        obtain ⟨ks, hks⟩ : ∃ k, k = sy - 1 := ⟨_, rfl⟩
        have SYC := SY.out (by omega) H8.out
        rw [← hks] at SYC
        have HSY := Lib.hid SYC
        have u9 : IntKind.i64.wrap (sy - 1) = ks := by rw [← hks]; exact IntWalk.i64_in _ (by omega)
        clear hs0 RE2 SY SZ0 SYC hks
        have k0 := (T6.out.b5.cell 0).trans rfl
        have k1 := (T6.out.b5.cell 1).trans rfl
        have k2 := (T6.out.b5.cell 2).trans rfl
        have k3 := (T6.out.b5.cell 3).trans rfl
        have o0 := (T6.out.b8.cell 0).trans rfl
        have o1 := (T6.out.b8.cell 1).trans rfl
        have o2 := (T6.out.b8.cell 2).trans rfl
        have o3 := (T6.out.b8.cell 3).trans rfl
        have o4 := (T6.out.b8.cell 4).trans rfl
        have o5 := (T6.out.b8.cell 5).trans rfl
        have o6 := (T6.out.b8.cell 6).trans rfl
        have o7 := (T6.out.b8.cell 7).trans rfl
        have o8 := (T6.out.b8.cell 8).trans rfl
        have o9 := (T6.out.b8.cell 9).trans rfl
        have o10 := (T6.out.b8.cell 10).trans rfl
        have zc0 := (T6.out.b6.cell 0).trans rfl
        have zc1 := (T6.out.b6.cell 1).trans rfl
        have zc2 := (T6.out.b6.cell 2).trans rfl
        have lk := T6.out.b5.lt; have lo := T6.out.b8.lt; have lz := T6.out.b6.lt
        have fz : ∀ j, W6.frozen? ⟨w.heap.size + 1, j, none⟩ = false := fun j => T6.out.b6.frozen j
        have q0 := (Q6.out.cell 0).trans rfl
        have q1 := (Q6.out.cell 1).trans rfl
        have q2 := (Q6.out.cell 2).trans rfl
        have lq := Q6.out.lt
        have fq : ∀ j, W6.frozen? ⟨g, j, none⟩ = false := fun j => Q6.out.frozen j
        simp only [List.getElem?_toArray, List.getElem?_cons_succ, List.getElem?_cons_zero] at k0 k1 k2 k3 o0 o1 o2 o3 o4 o5 o6 o7 o8 o9 o10 zc0 zc1 zc2 q0 q1 q2
        go_wp2_with fail
        refine (HSY.out W6 T6.out.bl).mono ?_
        rintro e W7 ⟨rfl, b7⟩
        have T7 := Lib.hid (T6.out.next b7)
        have Q7 := Lib.hid (Q6.out.below b7 Q6.out.lt)
        clear k0 k1 k2 k3 o0 o1 o2 o3 o4 o5 o6 o7 o8 o9 o10 zc0 zc1 zc2 lk lo lz fz q0 q1 q2 lq fq
        clear b7 T6 Q6 HW6 HSY u9
        by_cases h1 : ty = 1
        · have f1 : ((ty : Int) == 1) = true := by simp; omega
          obtain ⟨v, hv⟩ : ∃ x, x = sumP z1 ad := ⟨_, rfl⟩
          have u2 : IntKind.u64.wrap (z1 + v1) = v := by rw [hv, hv1]; rfl
          have RS := Lib.hid (show res = (⟨pa, n, v⟩, 0) by rw [RE3.out, if_pos h1, hv])
          clear h1 hv hv1 RE3 h8
          obtain ⟨W8, hW8⟩ : ∃ W, W = W7.setCell ⟨g, 2, none⟩ (.int .u64 v) := ⟨_, rfl⟩
          have hgw' := hgw.out
          have T8 : Hid (RN w #[.int .u64 off, .int .u32 ty, .int .i64 sy, .int .i64 ad] #[.int .i64 ino, .int .u64 base, .int .u16 oty, .int .u64 en, .int .u64 ph, .slice gA gM gQ, .slice nA nM nQ, .string so, .string rn, .slice sA sM sQ, .slice rA rM rQ] W8) := by rw [hW8]; exact Lib.hid ⟨T7.out.bl.setCell (by show w.heap.size ≤ g; omega) _, T7.out.b5.far (by show w.heap.size ≠ g; omega) _, T7.out.b6.far (by show w.heap.size + 1 ≠ g; omega) _, T7.out.b8.far (by show w.heap.size + 2 ≠ g; omega) _⟩
          have Q8 : Hid (Blk W8 g 55 #[.int .u64 pa, .int .i64 n, .int .u64 v]) := by rw [hW8]; exact Lib.hid (Q7.out.set_ 2 _)
          have HW8 := Lib.hid hW8
          clear hW8 hgw'
          have k0 := (T7.out.b5.cell 0).trans rfl
          have k1 := (T7.out.b5.cell 1).trans rfl
          have k2 := (T7.out.b5.cell 2).trans rfl
          have k3 := (T7.out.b5.cell 3).trans rfl
          have o0 := (T7.out.b8.cell 0).trans rfl
          have o1 := (T7.out.b8.cell 1).trans rfl
          have o2 := (T7.out.b8.cell 2).trans rfl
          have o3 := (T7.out.b8.cell 3).trans rfl
          have o4 := (T7.out.b8.cell 4).trans rfl
          have o5 := (T7.out.b8.cell 5).trans rfl
          have o6 := (T7.out.b8.cell 6).trans rfl
          have o7 := (T7.out.b8.cell 7).trans rfl
          have o8 := (T7.out.b8.cell 8).trans rfl
          have o9 := (T7.out.b8.cell 9).trans rfl
          have o10 := (T7.out.b8.cell 10).trans rfl
          have zc0 := (T7.out.b6.cell 0).trans rfl
          have zc1 := (T7.out.b6.cell 1).trans rfl
          have zc2 := (T7.out.b6.cell 2).trans rfl
          have lk := T7.out.b5.lt; have lo := T7.out.b8.lt; have lz := T7.out.b6.lt
          have fz : ∀ j, W7.frozen? ⟨w.heap.size + 1, j, none⟩ = false := fun j => T7.out.b6.frozen j
          have q0 := (Q7.out.cell 0).trans rfl
          have q1 := (Q7.out.cell 1).trans rfl
          have q2 := (Q7.out.cell 2).trans rfl
          have lq := Q7.out.lt
          have fq : ∀ j, W7.frozen? ⟨g, j, none⟩ = false := fun j => Q7.out.frozen j
          simp only [List.getElem?_toArray, List.getElem?_cons_succ, List.getElem?_cons_zero] at k0 k1 k2 k3 o0 o1 o2 o3 o4 o5 o6 o7 o8 o9 o10 zc0 zc1 zc2 q0 q1 q2
          go_upto_region 24 with fail
          rw [← HW8.out]
          clear k0 k1 k2 k3 o0 o1 o2 o3 o4 o5 o6 o7 o8 o9 o10 zc0 zc1 zc2 lk lo lz fz q0 q1 q2 lq fq
          have k0 := (T8.out.b5.cell 0).trans rfl
          have k1 := (T8.out.b5.cell 1).trans rfl
          have k2 := (T8.out.b5.cell 2).trans rfl
          have k3 := (T8.out.b5.cell 3).trans rfl
          have o0 := (T8.out.b8.cell 0).trans rfl
          have o1 := (T8.out.b8.cell 1).trans rfl
          have o2 := (T8.out.b8.cell 2).trans rfl
          have o3 := (T8.out.b8.cell 3).trans rfl
          have o4 := (T8.out.b8.cell 4).trans rfl
          have o5 := (T8.out.b8.cell 5).trans rfl
          have o6 := (T8.out.b8.cell 6).trans rfl
          have o7 := (T8.out.b8.cell 7).trans rfl
          have o8 := (T8.out.b8.cell 8).trans rfl
          have o9 := (T8.out.b8.cell 9).trans rfl
          have o10 := (T8.out.b8.cell 10).trans rfl
          have zc0 := (T8.out.b6.cell 0).trans rfl
          have zc1 := (T8.out.b6.cell 1).trans rfl
          have zc2 := (T8.out.b6.cell 2).trans rfl
          have lk := T8.out.b5.lt; have lo := T8.out.b8.lt; have lz := T8.out.b6.lt
          have fz : ∀ j, W8.frozen? ⟨w.heap.size + 1, j, none⟩ = false := fun j => T8.out.b6.frozen j
          have q0 := (Q8.out.cell 0).trans rfl
          have q1 := (Q8.out.cell 1).trans rfl
          have q2 := (Q8.out.cell 2).trans rfl
          have lq := Q8.out.lt
          have fq : ∀ j, W8.frozen? ⟨g, j, none⟩ = false := fun j => Q8.out.frozen j
          simp only [List.getElem?_toArray, List.getElem?_cons_succ, List.getElem?_cons_zero] at k0 k1 k2 k3 o0 o1 o2 o3 o4 o5 o6 o7 o8 o9 o10 zc0 zc1 zc2 q0 q1 q2
          go_wp2_with fail
          obtain ⟨W', hW'⟩ : ∃ W', W' = (((W8.setCell ⟨w.heap.size + 1, 0, none⟩ (.int .u64 pa)).setCell ⟨w.heap.size + 1, 1, none⟩ (.int .i64 n)).setCell ⟨w.heap.size + 1, 2, none⟩ (.int .u64 v)) := ⟨_, rfl⟩
          have B2 : Blk W' (w.heap.size + 1) 55 #[.int .u64 pa, .int .i64 n, .int .u64 v] := by rw [hW']; exact ((T8.out.b6.set_ 0 _).set_ 1 _).set_ 2 _
          have y0 := (B2.cell 0).trans rfl; have y1 := (B2.cell 1).trans rfl; have y2 := (B2.cell 2).trans rfl
          simp only [List.getElem?_toArray, List.getElem?_cons_succ, List.getElem?_cons_zero] at y0 y1 y2
          rw [← hW']
          refine bodyPost_ret (v := .tuple #[.agg #[.int .u64 pa, .int .i64 n, .int .u64 v], .int .i64 0]) (by simp [results, Try.results22, go_sem, y0, y1, y2]) rfl ⟨by rw [RS.out]; rfl, by rw [hW']; exact (((T8.out.bl.setCell (by simp) _).setCell (by simp) _).setCell (by simp) _)⟩
        have f1 : ((ty : Int) == 1) = false := by simp; omega
        by_cases h2 : ty = 2
        · have f2 : ((ty : Int) == 2) = true := by simp; omega
          obtain ⟨v, hv⟩ : ∃ x, x = sumP z1 ad := ⟨_, rfl⟩
          have u2 : IntKind.u64.wrap (z1 + v1) = v := by rw [hv, hv1]; rfl
          obtain ⟨v3, hv3⟩ : ∃ x : Int, x = IntKind.u64.wrap (sumP z1 ad - pa) := ⟨_, rfl⟩
          have u3 : IntKind.u64.wrap (v - pa) = v3 := by rw [hv3, hv]
          obtain ⟨v4, hv4⟩ : ∃ x : Int, x = IntKind.u64.wrap (v3 + 2147483648) := ⟨_, rfl⟩
          have u4 : IntKind.u64.wrap (v3 + 2147483648) = v4 := hv4.symm
          have v30 : 0 ≤ v3 := by rw [hv3, IntKind.wrap_u64]; omega
          obtain ⟨v5, hv5⟩ : ∃ x : Int, x = v3 % 4294967296 := ⟨_, rfl⟩
          have u5 : v3.tmod 4294967296 = v5 := by rw [hv5, Int.tmod_eq_emod_of_nonneg v30]
          have u6 : v3 % 4294967296 = v5 := hv5.symm
          have u7 : IntKind.u64.wrap v5 = v5 := by rw [IntKind.wrap_u64]; omega
          obtain ⟨nw, nv⟩ := near_iff z1 ad pa
          rw [← hv3, ← hv4] at nw
          rw [← hv3, ← hv5] at nv
          by_cases hb : (4294967296 : Int) ≤ v4
          · have t9 : decide ((4294967296 : Int) ≤ v4) = true := by simp; omega
            have RS := Lib.hid (show res = (patZ, 22) by rw [RE3.out, if_neg h1, if_pos h2, if_neg (fun h => nw.1 h hb)])
            clear h1 h2 hv hv1 hv3 hv4 hv5 v30 nw nv hb RE3 h8
            have k0 := (T7.out.b5.cell 0).trans rfl
            have k1 := (T7.out.b5.cell 1).trans rfl
            have k2 := (T7.out.b5.cell 2).trans rfl
            have k3 := (T7.out.b5.cell 3).trans rfl
            have o0 := (T7.out.b8.cell 0).trans rfl
            have o1 := (T7.out.b8.cell 1).trans rfl
            have o2 := (T7.out.b8.cell 2).trans rfl
            have o3 := (T7.out.b8.cell 3).trans rfl
            have o4 := (T7.out.b8.cell 4).trans rfl
            have o5 := (T7.out.b8.cell 5).trans rfl
            have o6 := (T7.out.b8.cell 6).trans rfl
            have o7 := (T7.out.b8.cell 7).trans rfl
            have o8 := (T7.out.b8.cell 8).trans rfl
            have o9 := (T7.out.b8.cell 9).trans rfl
            have o10 := (T7.out.b8.cell 10).trans rfl
            have zc0 := (T7.out.b6.cell 0).trans rfl
            have zc1 := (T7.out.b6.cell 1).trans rfl
            have zc2 := (T7.out.b6.cell 2).trans rfl
            have lk := T7.out.b5.lt; have lo := T7.out.b8.lt; have lz := T7.out.b6.lt
            have fz : ∀ j, W7.frozen? ⟨w.heap.size + 1, j, none⟩ = false := fun j => T7.out.b6.frozen j
            have q0 := (Q7.out.cell 0).trans rfl
            have q1 := (Q7.out.cell 1).trans rfl
            have q2 := (Q7.out.cell 2).trans rfl
            have lq := Q7.out.lt
            have fq : ∀ j, W7.frozen? ⟨g, j, none⟩ = false := fun j => Q7.out.frozen j
            simp only [List.getElem?_toArray, List.getElem?_cons_succ, List.getElem?_cons_zero] at k0 k1 k2 k3 o0 o1 o2 o3 o4 o5 o6 o7 o8 o9 o10 zc0 zc1 zc2 q0 q1 q2
            go_wp2_with fail
            obtain ⟨W', hW'⟩ : ∃ W', W' = (((W7.setCell ⟨w.heap.size + 1, 0, none⟩ (.int .u64 0)).setCell ⟨w.heap.size + 1, 1, none⟩ (.int .i64 0)).setCell ⟨w.heap.size + 1, 2, none⟩ (.int .u64 0)) := ⟨_, rfl⟩
            have B2 : Blk W' (w.heap.size + 1) 55 #[.int .u64 0, .int .i64 0, .int .u64 0] := by rw [hW']; exact ((T7.out.b6.set_ 0 _).set_ 1 _).set_ 2 _
            have y0 := (B2.cell 0).trans rfl; have y1 := (B2.cell 1).trans rfl; have y2 := (B2.cell 2).trans rfl
            simp only [List.getElem?_toArray, List.getElem?_cons_succ, List.getElem?_cons_zero] at y0 y1 y2
            rw [← hW']
            refine bodyPost_ret (v := .tuple #[.agg #[.int .u64 0, .int .i64 0, .int .u64 0], .int .i64 22]) (by simp [results, Try.results22, go_sem, y0, y1, y2]) rfl ⟨by rw [RS.out]; rfl, by rw [hW']; exact (((T7.out.bl.setCell (by simp) _).setCell (by simp) _).setCell (by simp) _)⟩
          · have t9 : decide ((4294967296 : Int) ≤ v4) = false := by simp; omega
            have RS := Lib.hid (show res = (⟨pa, n, v5⟩, 0) by rw [RE3.out, if_neg h1, if_pos h2, if_pos (nw.2 hb), nv (nw.2 hb)])
            clear h1 h2 hv hv1 hv3 hv4 hv5 v30 nw nv hb RE3 h8
            obtain ⟨W8, hW8⟩ : ∃ W, W = W7.setCell ⟨g, 2, none⟩ (.int .u64 v5) := ⟨_, rfl⟩
            have hgw' := hgw.out
            have T8 : Hid (RN w #[.int .u64 off, .int .u32 ty, .int .i64 sy, .int .i64 ad] #[.int .i64 ino, .int .u64 base, .int .u16 oty, .int .u64 en, .int .u64 ph, .slice gA gM gQ, .slice nA nM nQ, .string so, .string rn, .slice sA sM sQ, .slice rA rM rQ] W8) := by rw [hW8]; exact Lib.hid ⟨T7.out.bl.setCell (by show w.heap.size ≤ g; omega) _, T7.out.b5.far (by show w.heap.size ≠ g; omega) _, T7.out.b6.far (by show w.heap.size + 1 ≠ g; omega) _, T7.out.b8.far (by show w.heap.size + 2 ≠ g; omega) _⟩
            have Q8 : Hid (Blk W8 g 55 #[.int .u64 pa, .int .i64 n, .int .u64 v5]) := by rw [hW8]; exact Lib.hid (Q7.out.set_ 2 _)
            have HW8 := Lib.hid hW8
            clear hW8 hgw'
            have k0 := (T7.out.b5.cell 0).trans rfl
            have k1 := (T7.out.b5.cell 1).trans rfl
            have k2 := (T7.out.b5.cell 2).trans rfl
            have k3 := (T7.out.b5.cell 3).trans rfl
            have o0 := (T7.out.b8.cell 0).trans rfl
            have o1 := (T7.out.b8.cell 1).trans rfl
            have o2 := (T7.out.b8.cell 2).trans rfl
            have o3 := (T7.out.b8.cell 3).trans rfl
            have o4 := (T7.out.b8.cell 4).trans rfl
            have o5 := (T7.out.b8.cell 5).trans rfl
            have o6 := (T7.out.b8.cell 6).trans rfl
            have o7 := (T7.out.b8.cell 7).trans rfl
            have o8 := (T7.out.b8.cell 8).trans rfl
            have o9 := (T7.out.b8.cell 9).trans rfl
            have o10 := (T7.out.b8.cell 10).trans rfl
            have zc0 := (T7.out.b6.cell 0).trans rfl
            have zc1 := (T7.out.b6.cell 1).trans rfl
            have zc2 := (T7.out.b6.cell 2).trans rfl
            have lk := T7.out.b5.lt; have lo := T7.out.b8.lt; have lz := T7.out.b6.lt
            have fz : ∀ j, W7.frozen? ⟨w.heap.size + 1, j, none⟩ = false := fun j => T7.out.b6.frozen j
            have q0 := (Q7.out.cell 0).trans rfl
            have q1 := (Q7.out.cell 1).trans rfl
            have q2 := (Q7.out.cell 2).trans rfl
            have lq := Q7.out.lt
            have fq : ∀ j, W7.frozen? ⟨g, j, none⟩ = false := fun j => Q7.out.frozen j
            simp only [List.getElem?_toArray, List.getElem?_cons_succ, List.getElem?_cons_zero] at k0 k1 k2 k3 o0 o1 o2 o3 o4 o5 o6 o7 o8 o9 o10 zc0 zc1 zc2 q0 q1 q2
            go_upto_region 24 with fail
            rw [← HW8.out]
            clear k0 k1 k2 k3 o0 o1 o2 o3 o4 o5 o6 o7 o8 o9 o10 zc0 zc1 zc2 lk lo lz fz q0 q1 q2 lq fq
            have k0 := (T8.out.b5.cell 0).trans rfl
            have k1 := (T8.out.b5.cell 1).trans rfl
            have k2 := (T8.out.b5.cell 2).trans rfl
            have k3 := (T8.out.b5.cell 3).trans rfl
            have o0 := (T8.out.b8.cell 0).trans rfl
            have o1 := (T8.out.b8.cell 1).trans rfl
            have o2 := (T8.out.b8.cell 2).trans rfl
            have o3 := (T8.out.b8.cell 3).trans rfl
            have o4 := (T8.out.b8.cell 4).trans rfl
            have o5 := (T8.out.b8.cell 5).trans rfl
            have o6 := (T8.out.b8.cell 6).trans rfl
            have o7 := (T8.out.b8.cell 7).trans rfl
            have o8 := (T8.out.b8.cell 8).trans rfl
            have o9 := (T8.out.b8.cell 9).trans rfl
            have o10 := (T8.out.b8.cell 10).trans rfl
            have zc0 := (T8.out.b6.cell 0).trans rfl
            have zc1 := (T8.out.b6.cell 1).trans rfl
            have zc2 := (T8.out.b6.cell 2).trans rfl
            have lk := T8.out.b5.lt; have lo := T8.out.b8.lt; have lz := T8.out.b6.lt
            have fz : ∀ j, W8.frozen? ⟨w.heap.size + 1, j, none⟩ = false := fun j => T8.out.b6.frozen j
            have q0 := (Q8.out.cell 0).trans rfl
            have q1 := (Q8.out.cell 1).trans rfl
            have q2 := (Q8.out.cell 2).trans rfl
            have lq := Q8.out.lt
            have fq : ∀ j, W8.frozen? ⟨g, j, none⟩ = false := fun j => Q8.out.frozen j
            simp only [List.getElem?_toArray, List.getElem?_cons_succ, List.getElem?_cons_zero] at k0 k1 k2 k3 o0 o1 o2 o3 o4 o5 o6 o7 o8 o9 o10 zc0 zc1 zc2 q0 q1 q2
            go_wp2_with fail
            obtain ⟨W', hW'⟩ : ∃ W', W' = (((W8.setCell ⟨w.heap.size + 1, 0, none⟩ (.int .u64 pa)).setCell ⟨w.heap.size + 1, 1, none⟩ (.int .i64 n)).setCell ⟨w.heap.size + 1, 2, none⟩ (.int .u64 v5)) := ⟨_, rfl⟩
            have B2 : Blk W' (w.heap.size + 1) 55 #[.int .u64 pa, .int .i64 n, .int .u64 v5] := by rw [hW']; exact ((T8.out.b6.set_ 0 _).set_ 1 _).set_ 2 _
            have y0 := (B2.cell 0).trans rfl; have y1 := (B2.cell 1).trans rfl; have y2 := (B2.cell 2).trans rfl
            simp only [List.getElem?_toArray, List.getElem?_cons_succ, List.getElem?_cons_zero] at y0 y1 y2
            rw [← hW']
            refine bodyPost_ret (v := .tuple #[.agg #[.int .u64 pa, .int .i64 n, .int .u64 v5], .int .i64 0]) (by simp [results, Try.results22, go_sem, y0, y1, y2]) rfl ⟨by rw [RS.out]; rfl, by rw [hW']; exact (((T8.out.bl.setCell (by simp) _).setCell (by simp) _).setCell (by simp) _)⟩
        have f2 : ((ty : Int) == 2) = false := by simp; omega
        have RS := Lib.hid (show res = (⟨pa, n, z1⟩, 0) by rw [RE3.out, if_neg h1, if_neg h2, if_neg h8])
        clear h1 h2 h8 hv1 RE3
        obtain ⟨W8, hW8⟩ : ∃ W, W = W7.setCell ⟨g, 2, none⟩ (.int .u64 z1) := ⟨_, rfl⟩
        have hgw' := hgw.out
        have T8 : Hid (RN w #[.int .u64 off, .int .u32 ty, .int .i64 sy, .int .i64 ad] #[.int .i64 ino, .int .u64 base, .int .u16 oty, .int .u64 en, .int .u64 ph, .slice gA gM gQ, .slice nA nM nQ, .string so, .string rn, .slice sA sM sQ, .slice rA rM rQ] W8) := by rw [hW8]; exact Lib.hid ⟨T7.out.bl.setCell (by show w.heap.size ≤ g; omega) _, T7.out.b5.far (by show w.heap.size ≠ g; omega) _, T7.out.b6.far (by show w.heap.size + 1 ≠ g; omega) _, T7.out.b8.far (by show w.heap.size + 2 ≠ g; omega) _⟩
        have Q8 : Hid (Blk W8 g 55 #[.int .u64 pa, .int .i64 n, .int .u64 z1]) := by rw [hW8]; exact Lib.hid (Q7.out.set_ 2 _)
        have HW8 := Lib.hid hW8
        clear hW8 hgw'
        have k0 := (T7.out.b5.cell 0).trans rfl
        have k1 := (T7.out.b5.cell 1).trans rfl
        have k2 := (T7.out.b5.cell 2).trans rfl
        have k3 := (T7.out.b5.cell 3).trans rfl
        have o0 := (T7.out.b8.cell 0).trans rfl
        have o1 := (T7.out.b8.cell 1).trans rfl
        have o2 := (T7.out.b8.cell 2).trans rfl
        have o3 := (T7.out.b8.cell 3).trans rfl
        have o4 := (T7.out.b8.cell 4).trans rfl
        have o5 := (T7.out.b8.cell 5).trans rfl
        have o6 := (T7.out.b8.cell 6).trans rfl
        have o7 := (T7.out.b8.cell 7).trans rfl
        have o8 := (T7.out.b8.cell 8).trans rfl
        have o9 := (T7.out.b8.cell 9).trans rfl
        have o10 := (T7.out.b8.cell 10).trans rfl
        have zc0 := (T7.out.b6.cell 0).trans rfl
        have zc1 := (T7.out.b6.cell 1).trans rfl
        have zc2 := (T7.out.b6.cell 2).trans rfl
        have lk := T7.out.b5.lt; have lo := T7.out.b8.lt; have lz := T7.out.b6.lt
        have fz : ∀ j, W7.frozen? ⟨w.heap.size + 1, j, none⟩ = false := fun j => T7.out.b6.frozen j
        have q0 := (Q7.out.cell 0).trans rfl
        have q1 := (Q7.out.cell 1).trans rfl
        have q2 := (Q7.out.cell 2).trans rfl
        have lq := Q7.out.lt
        have fq : ∀ j, W7.frozen? ⟨g, j, none⟩ = false := fun j => Q7.out.frozen j
        simp only [List.getElem?_toArray, List.getElem?_cons_succ, List.getElem?_cons_zero] at k0 k1 k2 k3 o0 o1 o2 o3 o4 o5 o6 o7 o8 o9 o10 zc0 zc1 zc2 q0 q1 q2
        go_upto_region 24 with fail
        rw [← HW8.out]
        clear k0 k1 k2 k3 o0 o1 o2 o3 o4 o5 o6 o7 o8 o9 o10 zc0 zc1 zc2 lk lo lz fz q0 q1 q2 lq fq
        have k0 := (T8.out.b5.cell 0).trans rfl
        have k1 := (T8.out.b5.cell 1).trans rfl
        have k2 := (T8.out.b5.cell 2).trans rfl
        have k3 := (T8.out.b5.cell 3).trans rfl
        have o0 := (T8.out.b8.cell 0).trans rfl
        have o1 := (T8.out.b8.cell 1).trans rfl
        have o2 := (T8.out.b8.cell 2).trans rfl
        have o3 := (T8.out.b8.cell 3).trans rfl
        have o4 := (T8.out.b8.cell 4).trans rfl
        have o5 := (T8.out.b8.cell 5).trans rfl
        have o6 := (T8.out.b8.cell 6).trans rfl
        have o7 := (T8.out.b8.cell 7).trans rfl
        have o8 := (T8.out.b8.cell 8).trans rfl
        have o9 := (T8.out.b8.cell 9).trans rfl
        have o10 := (T8.out.b8.cell 10).trans rfl
        have zc0 := (T8.out.b6.cell 0).trans rfl
        have zc1 := (T8.out.b6.cell 1).trans rfl
        have zc2 := (T8.out.b6.cell 2).trans rfl
        have lk := T8.out.b5.lt; have lo := T8.out.b8.lt; have lz := T8.out.b6.lt
        have fz : ∀ j, W8.frozen? ⟨w.heap.size + 1, j, none⟩ = false := fun j => T8.out.b6.frozen j
        have q0 := (Q8.out.cell 0).trans rfl
        have q1 := (Q8.out.cell 1).trans rfl
        have q2 := (Q8.out.cell 2).trans rfl
        have lq := Q8.out.lt
        have fq : ∀ j, W8.frozen? ⟨g, j, none⟩ = false := fun j => Q8.out.frozen j
        simp only [List.getElem?_toArray, List.getElem?_cons_succ, List.getElem?_cons_zero] at k0 k1 k2 k3 o0 o1 o2 o3 o4 o5 o6 o7 o8 o9 o10 zc0 zc1 zc2 q0 q1 q2
        go_wp2_with fail
        obtain ⟨W', hW'⟩ : ∃ W', W' = (((W8.setCell ⟨w.heap.size + 1, 0, none⟩ (.int .u64 pa)).setCell ⟨w.heap.size + 1, 1, none⟩ (.int .i64 n)).setCell ⟨w.heap.size + 1, 2, none⟩ (.int .u64 z1)) := ⟨_, rfl⟩
        have B2 : Blk W' (w.heap.size + 1) 55 #[.int .u64 pa, .int .i64 n, .int .u64 z1] := by rw [hW']; exact ((T8.out.b6.set_ 0 _).set_ 1 _).set_ 2 _
        have y0 := (B2.cell 0).trans rfl; have y1 := (B2.cell 1).trans rfl; have y2 := (B2.cell 2).trans rfl
        simp only [List.getElem?_toArray, List.getElem?_cons_succ, List.getElem?_cons_zero] at y0 y1 y2
        rw [← hW']
        refine bodyPost_ret (v := .tuple #[.agg #[.int .u64 pa, .int .i64 n, .int .u64 z1], .int .i64 0]) (by simp [results, Try.results22, go_sem, y0, y1, y2]) rfl ⟨by rw [RS.out]; rfl, by rw [hW']; exact (((T8.out.bl.setCell (by simp) _).setCell (by simp) _).setCell (by simp) _)⟩
    · have hs0 : 0 < sy := by
        rcases Int.lt_or_le 0 sy with h | h
        · exact h
        · exact absurd (by rw [SZ0.out (.inl (by omega))]) g3
      have t7 : decide ((0 : Int) < sy) = true := by simp; omega
      obtain ⟨z1, z2⟩ := z
      dsimp only at g3
      have RS := Lib.hid (show res = (patZ, z2) by rw [RE2.out, if_pos g3])
      have t8 : (z2 != 0) = true := by simp [g3]
      obtain ⟨ks, hks⟩ : ∃ k, k = sy - 1 := ⟨_, rfl⟩
      have SYC := SY.out hs0 H8.out
      rw [← hks] at SYC
      have HSY := Lib.hid SYC
      have u9 : IntKind.i64.wrap (sy - 1) = ks := by rw [← hks]; exact IntWalk.i64_in _ (by omega)
      clear hs0 RE2 SY SZ0 SYC hks g3 h8 hv1
      have k0 := (T6.out.b5.cell 0).trans rfl
      have k1 := (T6.out.b5.cell 1).trans rfl
      have k2 := (T6.out.b5.cell 2).trans rfl
      have k3 := (T6.out.b5.cell 3).trans rfl
      have o0 := (T6.out.b8.cell 0).trans rfl
      have o1 := (T6.out.b8.cell 1).trans rfl
      have o2 := (T6.out.b8.cell 2).trans rfl
      have o3 := (T6.out.b8.cell 3).trans rfl
      have o4 := (T6.out.b8.cell 4).trans rfl
      have o5 := (T6.out.b8.cell 5).trans rfl
      have o6 := (T6.out.b8.cell 6).trans rfl
      have o7 := (T6.out.b8.cell 7).trans rfl
      have o8 := (T6.out.b8.cell 8).trans rfl
      have o9 := (T6.out.b8.cell 9).trans rfl
      have o10 := (T6.out.b8.cell 10).trans rfl
      have zc0 := (T6.out.b6.cell 0).trans rfl
      have zc1 := (T6.out.b6.cell 1).trans rfl
      have zc2 := (T6.out.b6.cell 2).trans rfl
      have lk := T6.out.b5.lt; have lo := T6.out.b8.lt; have lz := T6.out.b6.lt
      have fz : ∀ j, W6.frozen? ⟨w.heap.size + 1, j, none⟩ = false := fun j => T6.out.b6.frozen j
      have q0 := (Q6.out.cell 0).trans rfl
      have q1 := (Q6.out.cell 1).trans rfl
      have q2 := (Q6.out.cell 2).trans rfl
      have lq := Q6.out.lt
      have fq : ∀ j, W6.frozen? ⟨g, j, none⟩ = false := fun j => Q6.out.frozen j
      simp only [List.getElem?_toArray, List.getElem?_cons_succ, List.getElem?_cons_zero] at k0 k1 k2 k3 o0 o1 o2 o3 o4 o5 o6 o7 o8 o9 o10 zc0 zc1 zc2 q0 q1 q2
      go_wp2_with fail
      refine (HSY.out W6 T6.out.bl).mono ?_
      rintro e W7 ⟨rfl, b7⟩
      have T7 := Lib.hid (T6.out.next b7)
      have Q7 := Lib.hid (Q6.out.below b7 Q6.out.lt)
      clear k0 k1 k2 k3 o0 o1 o2 o3 o4 o5 o6 o7 o8 o9 o10 zc0 zc1 zc2 lk lo lz fz q0 q1 q2 lq fq
      clear b7 T6 Q6 HW6 HSY u9
      have k0 := (T7.out.b5.cell 0).trans rfl
      have k1 := (T7.out.b5.cell 1).trans rfl
      have k2 := (T7.out.b5.cell 2).trans rfl
      have k3 := (T7.out.b5.cell 3).trans rfl
      have o0 := (T7.out.b8.cell 0).trans rfl
      have o1 := (T7.out.b8.cell 1).trans rfl
      have o2 := (T7.out.b8.cell 2).trans rfl
      have o3 := (T7.out.b8.cell 3).trans rfl
      have o4 := (T7.out.b8.cell 4).trans rfl
      have o5 := (T7.out.b8.cell 5).trans rfl
      have o6 := (T7.out.b8.cell 6).trans rfl
      have o7 := (T7.out.b8.cell 7).trans rfl
      have o8 := (T7.out.b8.cell 8).trans rfl
      have o9 := (T7.out.b8.cell 9).trans rfl
      have o10 := (T7.out.b8.cell 10).trans rfl
      have zc0 := (T7.out.b6.cell 0).trans rfl
      have zc1 := (T7.out.b6.cell 1).trans rfl
      have zc2 := (T7.out.b6.cell 2).trans rfl
      have lk := T7.out.b5.lt; have lo := T7.out.b8.lt; have lz := T7.out.b6.lt
      have fz : ∀ j, W7.frozen? ⟨w.heap.size + 1, j, none⟩ = false := fun j => T7.out.b6.frozen j
      have q0 := (Q7.out.cell 0).trans rfl
      have q1 := (Q7.out.cell 1).trans rfl
      have q2 := (Q7.out.cell 2).trans rfl
      have lq := Q7.out.lt
      have fq : ∀ j, W7.frozen? ⟨g, j, none⟩ = false := fun j => Q7.out.frozen j
      simp only [List.getElem?_toArray, List.getElem?_cons_succ, List.getElem?_cons_zero] at k0 k1 k2 k3 o0 o1 o2 o3 o4 o5 o6 o7 o8 o9 o10 zc0 zc1 zc2 q0 q1 q2
      go_wp2_with fail
      obtain ⟨W', hW'⟩ : ∃ W', W' = (((W7.setCell ⟨w.heap.size + 1, 0, none⟩ (.int .u64 0)).setCell ⟨w.heap.size + 1, 1, none⟩ (.int .i64 0)).setCell ⟨w.heap.size + 1, 2, none⟩ (.int .u64 0)) := ⟨_, rfl⟩
      have B2 : Blk W' (w.heap.size + 1) 55 #[.int .u64 0, .int .i64 0, .int .u64 0] := by rw [hW']; exact ((T7.out.b6.set_ 0 _).set_ 1 _).set_ 2 _
      have y0 := (B2.cell 0).trans rfl; have y1 := (B2.cell 1).trans rfl; have y2 := (B2.cell 2).trans rfl
      simp only [List.getElem?_toArray, List.getElem?_cons_succ, List.getElem?_cons_zero] at y0 y1 y2
      rw [← hW']
      refine bodyPost_ret (v := .tuple #[.agg #[.int .u64 0, .int .i64 0, .int .u64 0], .int .i64 z2]) (by simp [results, Try.results22, go_sem, y0, y1, y2]) rfl ⟨by rw [RS.out]; rfl, by rw [hW']; exact (((T7.out.bl.setCell (by simp) _).setCell (by simp) _).setCell (by simp) _)⟩
end Go.Proofs.Ytlenjpgkmikgpaa
