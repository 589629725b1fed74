import Derived.Test.YtlenjpgkmikgpaaR2
import Derived.Deep.RegionHeld3
namespace Go.Proofs.Ytlenjpgkmikgpaa
open Go.RowKit Go.Shelf Go.Hos
set_option linter.unusedVariables false
/-! one relocation's patch -/
def patZ : PatD := ⟨0, 0, 0⟩
/-- where it is written -/
def addrP (O : Nat → ObjD) (i : Nat) (r : RelD) : Int := IntKind.u64.wrap (((O i).base : Int) + (r.off : Int))
/-- what is written, of a symbol's value -/
def sumP (s add : Int) : Int := IntKind.u64.wrap (s + IntKind.u64.wrap add)
def nearP (s add pa : Int) : Int := IntKind.i64.wrap (IntKind.u64.wrap (sumP s add - pa))
/-- may it not be? -/
def badP (O : Nat → ObjD) (i : Nat) (r : RelD) : Bool := decide (szR r.ty = 0) || !lyB (O i).lay r.off (szR r.ty) || decide (r.sym < 0) || decide (((O i).sM : Int) < r.sym)
/-- the value, or none -/
def valP (O : Nat → ObjD) (i : Nat) (r : RelD) (s : Int) : Option Int :=
  if r.ty = 1 then some (sumP s r.add)
  else if r.ty = 2 then (if nearP s r.add (addrP O i r) = IntKind.i64.wrap (IntKind.i32.wrap (nearP s r.add (addrP O i r))) then some (IntKind.u64.wrap (IntKind.u32.wrap (nearP s r.add (addrP O i r)))) else none)
  else if r.ty = 8 then some (sumP (O i).base r.add) else some s
noncomputable def oneP (O : Nat → ObjD) (m i : Nat) (r : RelD) : PatD × Int :=
  if badP O i r = true then (patZ, 22) else if (symP O m i r).2 ≠ 0 then (patZ, (symP O m i r).2) else
    match valP O i r (symP O m i r).1 with
    | some v => (⟨addrP O i r, szR r.ty, v⟩, 0)
    | none => (patZ, 22)
structure ON (w : World) (rc oc pc : Array Value) (W : World) : Prop where
  bl : Below w.heap.size w W
  b5 : Blk W w.heap.size 53 rc
  b6 : Blk W (w.heap.size + 1) 55 #[.int .u64 0, .int .i64 0, .int .u64 0]
  b8 : Blk W (w.heap.size + 2) 50 oc
  b9 : Blk W (w.heap.size + 3) 55 pc
theorem ON.next {w W W' : World} {rc oc pc : Array Value} (h : ON w rc oc pc W) (hb : Below W.heap.size W W') : ON w rc oc pc W' :=
  ⟨h.bl.trans (hb.mono h.bl.size), h.b5.below hb h.b5.lt, h.b6.below hb h.b6.lt, h.b8.below hb h.b8.lt, h.b9.below hb h.b9.lt⟩
set_option maxRecDepth 100000 in
set_option maxHeartbeats 8000000 in
theorem one_any (A : Option Addr) (m c i : Nat) (O : Nat → ObjD) (r : RelD) (w : World) (hR : ObjR w w.heap.size A m O) (hf : ∀ i k, ((O i).sg k).fits) (hi : i < m) (hoff : r.off < M) (hs1 : -9223372036854775808 ≤ r.sym) (hs2 : r.sym ≤ 9223372036854775807) :
    Calls Try.prog 20 #[.slice A m c, .int .i64 i, .agg r.cs] w fun e W' => e = .returned (.tuple #[.agg (oneP O m i r).1.cs, .int .i64 (oneP O m i r).2]) ∧ Below w.heap.size w W' := by
  have hmm : maxLen = 9223372036854775807 := by simp [maxLen]
  obtain ⟨ad_, rfl, had, c0, c1, c2, c3, c4, c5, c6, c7, c8, c9, c10⟩ := hR.lay.cells hi
  have hsg := hR.sg i hi
  have H := Lib.hid hR
  obtain ⟨n, hn⟩ : ∃ n, n = szR r.ty := ⟨_, rfl⟩
  have hn8 : n ≤ 8 := by rw [hn]; unfold szR; repeat (first | omega | split)
  obtain ⟨lb, hlb⟩ : ∃ b, b = lyB (O i).lay r.off n := ⟨_, rfl⟩
  have SZ : Hid (∀ W : World, Calls Try.prog 26 #[.int .u32 r.ty] W fun e w' => e = .returned (.int .i64 n) ∧ W = w') := Lib.hid fun W => by rw [hn]; exact size_any r.ty W
  have LY : Hid (∀ W : World, Below w.heap.size w W → Calls Try.prog 27 #[.agg (O i).lay.cs, .int .u64 r.off, .int .i64 n] W fun e W' => e = .returned (.bool lb) ∧ Below W.heap.size W W') := Lib.hid fun W h => by
    rw [hlb]; exact lies_any (O i).lay r.off n W ((hsg.1.below h).more h.size) (hf i) hsg.2 hoff hn8
  obtain ⟨z, hz⟩ : ∃ z, z = symP O m i r := ⟨_, rfl⟩
  have SY : Hid (0 ≤ r.sym → ∀ W : World, Below w.heap.size w W → Calls Try.prog 28 #[.slice (some ad_) m c, .int .i64 i, .agg r.cs] W fun e W' => e = .returned (.tuple #[.int .u64 z.1, .int .i64 z.2]) ∧ Below W.heap.size W W') := Lib.hid fun h0 W h => by
    rw [hz]; exact symbol_any _ m c i O r W ((H.out.below h).more h.size) h0 hs2
  obtain ⟨pa, hpa⟩ : ∃ x, x = addrP O i r := ⟨_, rfl⟩
  have RES : Hid (oneP O m i r = if decide (n = 0) || !lb || decide (r.sym < 0) || decide (((O i).sM : Int) < r.sym) then (patZ, 22) else if z.2 ≠ 0 then (patZ, z.2) else match valP O i r z.1 with | some v => (⟨pa, n, v⟩, 0) | none => (patZ, 22)) := Lib.hid (by
    unfold oneP badP; rw [← hn, ← hlb, ← hz, ← hpa])
  have VAL : Hid (∀ s, valP O i r s = if r.ty = 1 then some (sumP s r.add) else if r.ty = 2 then (if nearP s r.add pa = IntKind.i64.wrap (IntKind.i32.wrap (nearP s r.add pa)) then some (IntKind.u64.wrap (IntKind.u32.wrap (nearP s r.add pa))) else none) else if r.ty = 8 then some (sumP (O i).base r.add) else some s) := Lib.hid fun s => by unfold valP; rw [← hpa]
  have WPA : Hid (IntKind.u64.wrap (((O i).base : Int) + (r.off : Int)) = pa) := Lib.hid (by rw [hpa]; rfl)
  obtain ⟨res, hres⟩ : ∃ x, x = oneP O m i r := ⟨_, rfl⟩
  rw [← hres] at RES ⊢
  obtain ⟨o, ho⟩ : ∃ o, o = O i := ⟨_, rfl⟩
  rw [← ho] at LY RES VAL WPA
  have d0 : w.cell? (ad_.add (i * 11)) = some (.int .i64 o.ino) := by rw [ho]; exact c0
  have d1 : w.cell? ⟨(ad_.add (i * 11)).block, (ad_.add (i * 11)).off + 1, none⟩ = some (.int .u64 o.base) := by rw [ho]; exact c1
  have d2 : w.cell? ⟨(ad_.add (i * 11)).block, (ad_.add (i * 11)).off + 2, none⟩ = some (.int .u16 o.ty) := by rw [ho]; exact c2
  have d3 : w.cell? ⟨(ad_.add (i * 11)).block, (ad_.add (i * 11)).off + 3, none⟩ = some (.int .u64 o.en) := by rw [ho]; exact c3
  have d4 : w.cell? ⟨(ad_.add (i * 11)).block, (ad_.add (i * 11)).off + 4, none⟩ = some (.int .u64 o.ph) := by rw [ho]; exact c4
  have d5 : w.cell? ⟨(ad_.add (i * 11)).block, (ad_.add (i * 11)).off + 5, none⟩ = some (.slice o.gA o.gM o.gQ) := by rw [ho]; exact c5
  have d6 : w.cell? ⟨(ad_.add (i * 11)).block, (ad_.add (i * 11)).off + 6, none⟩ = some (.slice o.nA o.nM o.nQ) := by rw [ho]; exact c6
  have d7 : w.cell? ⟨(ad_.add (i * 11)).block, (ad_.add (i * 11)).off + 7, none⟩ = some (.string o.so) := by rw [ho]; exact c7
  have d8 : w.cell? ⟨(ad_.add (i * 11)).block, (ad_.add (i * 11)).off + 8, none⟩ = some (.string o.rn) := by rw [ho]; exact c8
  have d9 : w.cell? ⟨(ad_.add (i * 11)).block, (ad_.add (i * 11)).off + 9, none⟩ = some (.slice o.sA o.sM o.sQ) := by rw [ho]; exact c9
  have d10 : w.cell? ⟨(ad_.add (i * 11)).block, (ad_.add (i * 11)).off + 10, none⟩ = some (.slice o.rA o.rM o.rQ) := by rw [ho]; exact c10
  have lad := World.block_lt_of_cell? _ _ d0
  obtain ⟨off, ty, sy, ad⟩ := r
  rw [show (RelD.mk off ty sy ad).cs = #[.int .u64 off, .int .u32 ty, .int .i64 sy, .int .i64 ad] from rfl] at SY ⊢
  dsimp only at SZ LY RES VAL WPA hs1 hs2 SY
  rw [o.lay_cs] at LY
  obtain ⟨ino, base, oty, en, ph, gA, gM, gQ, nA, nM, nQ, so, rn, sA, sM, sQ, rA, rM, rQ, sg, sy_, rl⟩ := o
  rw [show (ObjD.mk ino base oty en ph gA gM gQ nA nM nQ so rn sA sM sQ rA rM rQ sg sy_ rl).cs = #[.int .i64 ino, .int .u64 base, .int .u16 oty, .int .u64 en, .int .u64 ph, .slice gA gM gQ, .slice nA nM nQ, .string so, .string rn, .slice sA sM sQ, .slice rA rM rQ] from rfl] at LY
  dsimp only at d0 d1 d2 d3 d4 d5 d6 d7 d8 d9 d10 RES VAL WPA
  have i1 : (i : Int) < (m : Int) := by omega
  have wpa := WPA.out
  obtain ⟨W3, hW3⟩ : ∃ W, W = ((w.alloc (.cells #[.int .u64 off, .int .u32 ty, .int .i64 sy, .int .i64 ad] 53)).alloc (.cells #[.int .u64 0, .int .i64 0, .int .u64 0] 55)).alloc (.cells #[.int .i64 ino, .int .u64 base, .int .u16 oty, .int .u64 en, .int .u64 ph, .slice gA gM gQ, .slice nA nM nQ, .string so, .string rn, .slice sA sM sQ, .slice rA rM rQ] 50) := ⟨_, rfl⟩
  have B3 : Hid (Below w.heap.size w W3) := by rw [hW3]; exact Lib.hid ((((Below.refl _ _).alloc (Nat.le_refl _) _).alloc (by simp) _).alloc (by simp; omega) _)
  have K5 : Hid (Blk W3 w.heap.size 53 #[.int .u64 off, .int .u32 ty, .int .i64 sy, .int .i64 ad]) := by rw [hW3]; exact Lib.hid (((Blk.new _ _ _).alloc _).alloc _)
  have K6 : Hid (Blk W3 (w.heap.size + 1) 55 #[.int .u64 0, .int .i64 0, .int .u64 0]) := by rw [hW3]; exact Lib.hid ((blk_at _ _ (by simp)).alloc _)
  have K8 : Hid (Blk W3 (w.heap.size + 2) 50 #[.int .i64 ino, .int .u64 base, .int .u16 oty, .int .u64 en, .int .u64 ph, .slice gA gM gQ, .slice nA nM nQ, .string so, .string rn, .slice sA sM sQ, .slice rA rM rQ]) := by rw [hW3]; exact Lib.hid (blk_at _ _ (by simp))
  have S3 : W3.heap.size = w.heap.size + 3 := by rw [hW3]; simp
  have HW3 := Lib.hid hW3
  have HS3 := Lib.hid S3
  clear hR hf hoff hsg hn hlb hz hpa hres ho c0 c1 c2 c3 c4 c5 c6 c7 c8 c9 c10 hW3 WPA S3 hi
  go_enter Try.func20, Try.ntmps20
  go_upto_region 2 with fail
  rw [← HW3.out]
  clear d0 d1 d2 d3 d4 d5 d6 d7 d8 d9 d10 had lad
  have K5d : Hid (Blk W3.drew w.heap.size 53 #[.int .u64 off, .int .u32 ty, .int .i64 sy, .int .i64 ad]) := Lib.hid K5.out
  have K8d : Hid (Blk W3.drew (w.heap.size + 2) 50 #[.int .i64 ino, .int .u64 base, .int .u16 oty, .int .u64 en, .int .u64 ph, .slice gA gM gQ, .slice nA nM nQ, .string so, .string rn, .slice sA sM sQ, .slice rA rM rQ]) := Lib.hid K8.out
  have KS := Lib.hid (show ∀ W : World, Blk W w.heap.size 53 #[.int .u64 off, .int .u32 ty, .int .i64 sy, .int .i64 ad] → Blk W (w.heap.size + 2) 50 #[.int .i64 ino, .int .u64 base, .int .u16 oty, .int .u64 en, .int .u64 ph, .slice gA gM gQ, .slice nA nM nQ, .string so, .string rn, .slice sA sM sQ, .slice rA rM rQ] → W.cell? ⟨w.heap.size, 0, none⟩ = some (.int .u64 off) ∧ W.cell? ⟨w.heap.size, 1, none⟩ = some (.int .u32 ty) ∧ W.cell? ⟨w.heap.size + 2, 1, none⟩ = some (.int .u64 base) from fun W h h' => ⟨(h.cell 0).trans rfl, (h.cell 1).trans rfl, (h'.cell 1).trans rfl⟩)
  go_cut [9] from 17 to 25 (fun v9 wx => v9 = .pointer (some ⟨w.heap.size + 3, 0, none⟩) ∧ Hid (ON w #[.int .u64 off, .int .u32 ty, .int .i64 sy, .int .i64 ad] #[.int .i64 ino, .int .u64 base, .int .u16 oty, .int .u64 en, .int .u64 ph, .slice gA gM gQ, .slice nA nM nQ, .string so, .string rn, .slice sA sM sQ, .slice rA rM rQ] #[.int .u64 pa, .int .i64 n, .int .u64 0] wx))
  case first =>
    go_region_held3 (fun W => W.cell? ⟨w.heap.size, 0, none⟩ = some (.int .u64 off) ∧ W.cell? ⟨w.heap.size, 1, none⟩ = some (.int .u32 ty) ∧ W.cell? ⟨w.heap.size + 2, 1, none⟩ = some (.int .u64 base)) (first | exact KS.out _ K5d.out K8d.out | exact KS.out _ (K5d.out.alloc _) (K8d.out.alloc _))
      (first
        | (go_at_call 26; refine (SZ.out _).mono ?_; rintro e w' ⟨rfl, rfl⟩))
    all_goals (
      go_wp2_with fail
      go_meet
      exact ⟨by rw [HS3.out], Lib.hid ⟨(B3.out.alloc B3.out.size _).drew, (K5.out.alloc _).drew, (K6.out.alloc _).drew, (K8.out.alloc _).drew, (blk_at _ _ HS3.out).drew⟩⟩)
  case rest =>
  obtain ⟨rfl, T4⟩ := hcut
  clear K5 K6 K8 K5d K8d KS HW3 B3 SZ HS3
  generalize wc = W4 at *
  have k0 := (T4.out.b5.cell 0).trans rfl
  have k1 := (T4.out.b5.cell 1).trans rfl
  have k2 := (T4.out.b5.cell 2).trans rfl
  have k3 := (T4.out.b5.cell 3).trans rfl
  have o0 := (T4.out.b8.cell 0).trans rfl
  have o1 := (T4.out.b8.cell 1).trans rfl
  have o2 := (T4.out.b8.cell 2).trans rfl
  have o3 := (T4.out.b8.cell 3).trans rfl
  have o4 := (T4.out.b8.cell 4).trans rfl
  have o5 := (T4.out.b8.cell 5).trans rfl
  have o6 := (T4.out.b8.cell 6).trans rfl
  have o7 := (T4.out.b8.cell 7).trans rfl
  have o8 := (T4.out.b8.cell 8).trans rfl
  have o9 := (T4.out.b8.cell 9).trans rfl
  have o10 := (T4.out.b8.cell 10).trans rfl
  have q0 := (T4.out.b9.cell 0).trans rfl
  have q1 := (T4.out.b9.cell 1).trans rfl
  have q2 := (T4.out.b9.cell 2).trans rfl
  have zc0 := (T4.out.b6.cell 0).trans rfl
  have zc1 := (T4.out.b6.cell 1).trans rfl
  have zc2 := (T4.out.b6.cell 2).trans rfl
  simp only [List.getElem?_toArray, List.getElem?_cons_succ, List.getElem?_cons_zero] at k0 k1 k2 k3 o0 o1 o2 o3 o4 o5 o6 o7 o8 o9 o10 q0 q1 q2 zc0 zc1 zc2
  have lk := T4.out.b5.lt; have lo := T4.out.b8.lt; have lq := T4.out.b9.lt; have lz := T4.out.b6.lt
  have fz : ∀ j, W4.frozen? ⟨w.heap.size + 1, j, none⟩ = false := fun j => T4.out.b6.frozen j
  have fq : ∀ j, W4.frozen? ⟨w.heap.size + 3, j, none⟩ = false := fun j => T4.out.b9.frozen j
  by_cases g0 : n = 0
  · have t0 : ((n : Int) == 0) = true := by simp; omega
    have RS := Lib.hid (show res = (patZ, 22) by rw [RES.out, if_pos (by simp [g0])])
    clear g0 RES VAL
    go_wp2_with fail
    obtain ⟨W', hW'⟩ : ∃ W', W' = (((W4.setCell ⟨w.heap.size + 1, 0, none⟩ (.int .u64 0)).setCell ⟨w.heap.size + 1, 1, none⟩ (.int .i64 0)).setCell ⟨w.heap.size + 1, 2, none⟩ (.int .u64 0)) := ⟨_, rfl⟩
    have B2 : Blk W' (w.heap.size + 1) 55 #[.int .u64 0, .int .i64 0, .int .u64 0] := by rw [hW']; exact ((T4.out.b6.set_ 0 _).set_ 1 _).set_ 2 _
    have y0 := (B2.cell 0).trans rfl; have y1 := (B2.cell 1).trans rfl; have y2 := (B2.cell 2).trans rfl
    simp only [List.getElem?_toArray, List.getElem?_cons_succ, List.getElem?_cons_zero] at y0 y1 y2
    rw [← hW']
    refine bodyPost_ret (v := .tuple #[.agg #[.int .u64 0, .int .i64 0, .int .u64 0], .int .i64 22]) (by simp [results, Try.results20, go_sem, y0, y1, y2]) rfl ⟨by rw [RS.out]; rfl, by rw [hW']; exact (((T4.out.bl.setCell (by simp) _).setCell (by simp) _).setCell (by simp) _)⟩
  have t0 : ((n : Int) == 0) = false := by simp; omega
  have G0 := Lib.hid g0
  clear g0
  go_wp2_with fail
  refine (LY.out W4 T4.out.bl).mono ?_
  rintro e W5 ⟨rfl, b5⟩
  have T5 := Lib.hid (T4.out.next b5)
  clear k0 k1 k2 k3 o0 o1 o2 o3 o4 o5 o6 o7 o8 o9 o10 q0 q1 q2 zc0 zc1 zc2 lk lo lq lz fz fq
  clear b5 T4
  cases lb with
  | false =>
    have k0 := (T5.out.b5.cell 0).trans rfl
    have k1 := (T5.out.b5.cell 1).trans rfl
    have k2 := (T5.out.b5.cell 2).trans rfl
    have k3 := (T5.out.b5.cell 3).trans rfl
    have o0 := (T5.out.b8.cell 0).trans rfl
    have o1 := (T5.out.b8.cell 1).trans rfl
    have o2 := (T5.out.b8.cell 2).trans rfl
    have o3 := (T5.out.b8.cell 3).trans rfl
    have o4 := (T5.out.b8.cell 4).trans rfl
    have o5 := (T5.out.b8.cell 5).trans rfl
    have o6 := (T5.out.b8.cell 6).trans rfl
    have o7 := (T5.out.b8.cell 7).trans rfl
    have o8 := (T5.out.b8.cell 8).trans rfl
    have o9 := (T5.out.b8.cell 9).trans rfl
    have o10 := (T5.out.b8.cell 10).trans rfl
    have q0 := (T5.out.b9.cell 0).trans rfl
    have q1 := (T5.out.b9.cell 1).trans rfl
    have q2 := (T5.out.b9.cell 2).trans rfl
    have zc0 := (T5.out.b6.cell 0).trans rfl
    have zc1 := (T5.out.b6.cell 1).trans rfl
    have zc2 := (T5.out.b6.cell 2).trans rfl
    simp only [List.getElem?_toArray, List.getElem?_cons_succ, List.getElem?_cons_zero] at k0 k1 k2 k3 o0 o1 o2 o3 o4 o5 o6 o7 o8 o9 o10 q0 q1 q2 zc0 zc1 zc2
    have lk := T5.out.b5.lt; have lo := T5.out.b8.lt; have lq := T5.out.b9.lt; have lz := T5.out.b6.lt
    have fz : ∀ j, W5.frozen? ⟨w.heap.size + 1, j, none⟩ = false := fun j => T5.out.b6.frozen j
    have fq : ∀ j, W5.frozen? ⟨w.heap.size + 3, j, none⟩ = false := fun j => T5.out.b9.frozen j
    have RS := Lib.hid (show res = (patZ, 22) by rw [RES.out, if_pos (by simp)])
    clear RES VAL
    go_wp2_with fail
    obtain ⟨W', hW'⟩ : ∃ W', W' = (((W5.setCell ⟨w.heap.size + 1, 0, none⟩ (.int .u64 0)).setCell ⟨w.heap.size + 1, 1, none⟩ (.int .i64 0)).setCell ⟨w.heap.size + 1, 2, none⟩ (.int .u64 0)) := ⟨_, rfl⟩
    have B2 : Blk W' (w.heap.size + 1) 55 #[.int .u64 0, .int .i64 0, .int .u64 0] := by rw [hW']; exact ((T5.out.b6.set_ 0 _).set_ 1 _).set_ 2 _
    have y0 := (B2.cell 0).trans rfl; have y1 := (B2.cell 1).trans rfl; have y2 := (B2.cell 2).trans rfl
    simp only [List.getElem?_toArray, List.getElem?_cons_succ, List.getElem?_cons_zero] at y0 y1 y2
    rw [← hW']
    refine bodyPost_ret (v := .tuple #[.agg #[.int .u64 0, .int .i64 0, .int .u64 0], .int .i64 22]) (by simp [results, Try.results20, go_sem, y0, y1, y2]) rfl ⟨by rw [RS.out]; rfl, by rw [hW']; exact (((T5.out.bl.setCell (by simp) _).setCell (by simp) _).setCell (by simp) _)⟩
  | true =>
    by_cases g1 : sy < 0
    · have t1 : decide (sy < 0) = true := by simp; omega
      have RS := Lib.hid (show res = (patZ, 22) by rw [RES.out, if_pos (by simp [g1])])
      clear g1 RES VAL
      have k0 := (T5.out.b5.cell 0).trans rfl
      have k1 := (T5.out.b5.cell 1).trans rfl
      have k2 := (T5.out.b5.cell 2).trans rfl
      have k3 := (T5.out.b5.cell 3).trans rfl
      have o0 := (T5.out.b8.cell 0).trans rfl
      have o1 := (T5.out.b8.cell 1).trans rfl
      have o2 := (T5.out.b8.cell 2).trans rfl
      have o3 := (T5.out.b8.cell 3).trans rfl
      have o4 := (T5.out.b8.cell 4).trans rfl
      have o5 := (T5.out.b8.cell 5).trans rfl
      have o6 := (T5.out.b8.cell 6).trans rfl
      have o7 := (T5.out.b8.cell 7).trans rfl
      have o8 := (T5.out.b8.cell 8).trans rfl
      have o9 := (T5.out.b8.cell 9).trans rfl
      have o10 := (T5.out.b8.cell 10).trans rfl
      have q0 := (T5.out.b9.cell 0).trans rfl
      have q1 := (T5.out.b9.cell 1).trans rfl
      have q2 := (T5.out.b9.cell 2).trans rfl
      have zc0 := (T5.out.b6.cell 0).trans rfl
      have zc1 := (T5.out.b6.cell 1).trans rfl
      have zc2 := (T5.out.b6.cell 2).trans rfl
      simp only [List.getElem?_toArray, List.getElem?_cons_succ, List.getElem?_cons_zero] at k0 k1 k2 k3 o0 o1 o2 o3 o4 o5 o6 o7 o8 o9 o10 q0 q1 q2 zc0 zc1 zc2
      have lk := T5.out.b5.lt; have lo := T5.out.b8.lt; have lq := T5.out.b9.lt; have lz := T5.out.b6.lt
      have fz : ∀ j, W5.frozen? ⟨w.heap.size + 1, j, none⟩ = false := fun j => T5.out.b6.frozen j
      have fq : ∀ j, W5.frozen? ⟨w.heap.size + 3, j, none⟩ = false := fun j => T5.out.b9.frozen j
      go_wp2_with fail
      obtain ⟨W', hW'⟩ : ∃ W', W' = (((W5.setCell ⟨w.heap.size + 1, 0, none⟩ (.int .u64 0)).setCell ⟨w.heap.size + 1, 1, none⟩ (.int .i64 0)).setCell ⟨w.heap.size + 1, 2, none⟩ (.int .u64 0)) := ⟨_, rfl⟩
      have B2 : Blk W' (w.heap.size + 1) 55 #[.int .u64 0, .int .i64 0, .int .u64 0] := by rw [hW']; exact ((T5.out.b6.set_ 0 _).set_ 1 _).set_ 2 _
      have y0 := (B2.cell 0).trans rfl; have y1 := (B2.cell 1).trans rfl; have y2 := (B2.cell 2).trans rfl
      simp only [List.getElem?_toArray, List.getElem?_cons_succ, List.getElem?_cons_zero] at y0 y1 y2
      rw [← hW']
      refine bodyPost_ret (v := .tuple #[.agg #[.int .u64 0, .int .i64 0, .int .u64 0], .int .i64 22]) (by simp [results, Try.results20, go_sem, y0, y1, y2]) rfl ⟨by rw [RS.out]; rfl, by rw [hW']; exact (((T5.out.bl.setCell (by simp) _).setCell (by simp) _).setCell (by simp) _)⟩
    have t1 : decide (sy < 0) = false := by simp; omega
    by_cases g2 : (sM : Int) < sy
    · have t2 : decide ((sM : Int) < sy) = true := by simp; omega
      have RS := Lib.hid (show res = (patZ, 22) by rw [RES.out, if_pos (by simp [g2])])
      clear g1 g2 RES VAL
      have k0 := (T5.out.b5.cell 0).trans rfl
      have k1 := (T5.out.b5.cell 1).trans rfl
      have k2 := (T5.out.b5.cell 2).trans rfl
      have k3 := (T5.out.b5.cell 3).trans rfl
      have o0 := (T5.out.b8.cell 0).trans rfl
      have o1 := (T5.out.b8.cell 1).trans rfl
      have o2 := (T5.out.b8.cell 2).trans rfl
      have o3 := (T5.out.b8.cell 3).trans rfl
      have o4 := (T5.out.b8.cell 4).trans rfl
      have o5 := (T5.out.b8.cell 5).trans rfl
      have o6 := (T5.out.b8.cell 6).trans rfl
      have o7 := (T5.out.b8.cell 7).trans rfl
      have o8 := (T5.out.b8.cell 8).trans rfl
      have o9 := (T5.out.b8.cell 9).trans rfl
      have o10 := (T5.out.b8.cell 10).trans rfl
      have q0 := (T5.out.b9.cell 0).trans rfl
      have q1 := (T5.out.b9.cell 1).trans rfl
      have q2 := (T5.out.b9.cell 2).trans rfl
      have zc0 := (T5.out.b6.cell 0).trans rfl
      have zc1 := (T5.out.b6.cell 1).trans rfl
      have zc2 := (T5.out.b6.cell 2).trans rfl
      simp only [List.getElem?_toArray, List.getElem?_cons_succ, List.getElem?_cons_zero] at k0 k1 k2 k3 o0 o1 o2 o3 o4 o5 o6 o7 o8 o9 o10 q0 q1 q2 zc0 zc1 zc2
      have lk := T5.out.b5.lt; have lo := T5.out.b8.lt; have lq := T5.out.b9.lt; have lz := T5.out.b6.lt
      have fz : ∀ j, W5.frozen? ⟨w.heap.size + 1, j, none⟩ = false := fun j => T5.out.b6.frozen j
      have fq : ∀ j, W5.frozen? ⟨w.heap.size + 3, j, none⟩ = false := fun j => T5.out.b9.frozen j
      go_wp2_with fail
      obtain ⟨W', hW'⟩ : ∃ W', W' = (((W5.setCell ⟨w.heap.size + 1, 0, none⟩ (.int .u64 0)).setCell ⟨w.heap.size + 1, 1, none⟩ (.int .i64 0)).setCell ⟨w.heap.size + 1, 2, none⟩ (.int .u64 0)) := ⟨_, rfl⟩
      have B2 : Blk W' (w.heap.size + 1) 55 #[.int .u64 0, .int .i64 0, .int .u64 0] := by rw [hW']; exact ((T5.out.b6.set_ 0 _).set_ 1 _).set_ 2 _
      have y0 := (B2.cell 0).trans rfl; have y1 := (B2.cell 1).trans rfl; have y2 := (B2.cell 2).trans rfl
      simp only [List.getElem?_toArray, List.getElem?_cons_succ, List.getElem?_cons_zero] at y0 y1 y2
      rw [← hW']
      refine bodyPost_ret (v := .tuple #[.agg #[.int .u64 0, .int .i64 0, .int .u64 0], .int .i64 22]) (by simp [results, Try.results20, go_sem, y0, y1, y2]) rfl ⟨by rw [RS.out]; rfl, by rw [hW']; exact (((T5.out.bl.setCell (by simp) _).setCell (by simp) _).setCell (by simp) _)⟩
    have t2 : decide ((sM : Int) < sy) = false := by simp; omega
    have RE2 := Lib.hid (show res = if z.2 ≠ 0 then (patZ, z.2) else match valP O i ⟨off, ty, sy, ad⟩ z.1 with | some v => (⟨pa, n, v⟩, 0) | none => (patZ, 22) by rw [RES.out, if_neg (by have := G0.out; simp; omega)])
    have SYC := Lib.hid (SY.out (by omega))
    clear g1 g2 RES SY G0
    have k0 := (T5.out.b5.cell 0).trans rfl
    have k1 := (T5.out.b5.cell 1).trans rfl
    have k2 := (T5.out.b5.cell 2).trans rfl
    have k3 := (T5.out.b5.cell 3).trans rfl
    have o0 := (T5.out.b8.cell 0).trans rfl
    have o1 := (T5.out.b8.cell 1).trans rfl
    have o2 := (T5.out.b8.cell 2).trans rfl
    have o3 := (T5.out.b8.cell 3).trans rfl
    have o4 := (T5.out.b8.cell 4).trans rfl
    have o5 := (T5.out.b8.cell 5).trans rfl
    have o6 := (T5.out.b8.cell 6).trans rfl
    have o7 := (T5.out.b8.cell 7).trans rfl
    have o8 := (T5.out.b8.cell 8).trans rfl
    have o9 := (T5.out.b8.cell 9).trans rfl
    have o10 := (T5.out.b8.cell 10).trans rfl
    have q0 := (T5.out.b9.cell 0).trans rfl
    have q1 := (T5.out.b9.cell 1).trans rfl
    have q2 := (T5.out.b9.cell 2).trans rfl
    have zc0 := (T5.out.b6.cell 0).trans rfl
    have zc1 := (T5.out.b6.cell 1).trans rfl
    have zc2 := (T5.out.b6.cell 2).trans rfl
    simp only [List.getElem?_toArray, List.getElem?_cons_succ, List.getElem?_cons_zero] at k0 k1 k2 k3 o0 o1 o2 o3 o4 o5 o6 o7 o8 o9 o10 q0 q1 q2 zc0 zc1 zc2
    have lk := T5.out.b5.lt; have lo := T5.out.b8.lt; have lq := T5.out.b9.lt; have lz := T5.out.b6.lt
    have fz : ∀ j, W5.frozen? ⟨w.heap.size + 1, j, none⟩ = false := fun j => T5.out.b6.frozen j
    have fq : ∀ j, W5.frozen? ⟨w.heap.size + 3, j, none⟩ = false := fun j => T5.out.b9.frozen j
    go_wp2_with fail
    refine (SYC.out W5 T5.out.bl).mono ?_
    rintro e W6 ⟨rfl, b6⟩
    have T6 := Lib.hid (T5.out.next b6)
    clear k0 k1 k2 k3 o0 o1 o2 o3 o4 o5 o6 o7 o8 o9 o10 q0 q1 q2 zc0 zc1 zc2 lk lo lq lz fz fq
    clear b6 T5 t0 t1 t2
    obtain ⟨z1, z2⟩ := z
    dsimp only at RE2 ⊢
    by_cases g3 : z2 = 0
    · subst g3
      have RE3 := Lib.hid (show res = match valP O i ⟨off, ty, sy, ad⟩ z1 with | some v => (⟨pa, n, v⟩, 0) | none => (patZ, 22) by rw [RE2.out, if_neg (by simp)])
      rw [VAL.out] at RE3
      clear RE2 VAL
      obtain ⟨v1, hv1⟩ : ∃ x, x = IntKind.u64.wrap ad := ⟨_, rfl⟩
      have u1 : IntKind.u64.wrap ad = v1 := hv1.symm
      by_cases h1 : ty = 1
      · have f1 : ((ty : Int) == 1) = true := by simp; omega
        obtain ⟨v, hv⟩ : ∃ x, x = sumP z1 ad := ⟨_, rfl⟩
        have u2 : IntKind.u64.wrap (z1 + v1) = v := by rw [hv, hv1]; rfl
        have RS := Lib.hid (show res = (⟨pa, n, v⟩, 0) by rw [RE3.out, if_pos h1, hv])
        clear h1 hv hv1 RE3
        obtain ⟨W7, hW7⟩ : ∃ W, W = W6.setCell ⟨w.heap.size + 3, 2, none⟩ (.int .u64 v) := ⟨_, rfl⟩
        have T7 : Hid (ON w #[.int .u64 off, .int .u32 ty, .int .i64 sy, .int .i64 ad] #[.int .i64 ino, .int .u64 base, .int .u16 oty, .int .u64 en, .int .u64 ph, .slice gA gM gQ, .slice nA nM nQ, .string so, .string rn, .slice sA sM sQ, .slice rA rM rQ] #[.int .u64 pa, .int .i64 n, .int .u64 v] W7) := by rw [hW7]; exact Lib.hid ⟨T6.out.bl.setCell (by simp) _, T6.out.b5.far (by simp) _, T6.out.b6.far (by simp) _, T6.out.b8.far (by simp) _, T6.out.b9.set_ 2 _⟩
        have HW7 := Lib.hid hW7
        clear hW7
        have k0 := (T6.out.b5.cell 0).trans rfl
        have k1 := (T6.out.b5.cell 1).trans rfl
        have k2 := (T6.out.b5.cell 2).trans rfl
        have k3 := (T6.out.b5.cell 3).trans rfl
        have o0 := (T6.out.b8.cell 0).trans rfl
        have o1 := (T6.out.b8.cell 1).trans rfl
        have o2 := (T6.out.b8.cell 2).trans rfl
        have o3 := (T6.out.b8.cell 3).trans rfl
        have o4 := (T6.out.b8.cell 4).trans rfl
        have o5 := (T6.out.b8.cell 5).trans rfl
        have o6 := (T6.out.b8.cell 6).trans rfl
        have o7 := (T6.out.b8.cell 7).trans rfl
        have o8 := (T6.out.b8.cell 8).trans rfl
        have o9 := (T6.out.b8.cell 9).trans rfl
        have o10 := (T6.out.b8.cell 10).trans rfl
        have q0 := (T6.out.b9.cell 0).trans rfl
        have q1 := (T6.out.b9.cell 1).trans rfl
        have q2 := (T6.out.b9.cell 2).trans rfl
        have zc0 := (T6.out.b6.cell 0).trans rfl
        have zc1 := (T6.out.b6.cell 1).trans rfl
        have zc2 := (T6.out.b6.cell 2).trans rfl
        simp only [List.getElem?_toArray, List.getElem?_cons_succ, List.getElem?_cons_zero] at k0 k1 k2 k3 o0 o1 o2 o3 o4 o5 o6 o7 o8 o9 o10 q0 q1 q2 zc0 zc1 zc2
        have lk := T6.out.b5.lt; have lo := T6.out.b8.lt; have lq := T6.out.b9.lt; have lz := T6.out.b6.lt
        have fz : ∀ j, W6.frozen? ⟨w.heap.size + 1, j, none⟩ = false := fun j => T6.out.b6.frozen j
        have fq : ∀ j, W6.frozen? ⟨w.heap.size + 3, j, none⟩ = false := fun j => T6.out.b9.frozen j
        go_upto_region 19 with fail
        rw [← HW7.out]
        clear k0 k1 k2 k3 o0 o1 o2 o3 o4 o5 o6 o7 o8 o9 o10 q0 q1 q2 zc0 zc1 zc2 lk lo lq lz fz fq
        have k0 := (T7.out.b5.cell 0).trans rfl
        have k1 := (T7.out.b5.cell 1).trans rfl
        have k2 := (T7.out.b5.cell 2).trans rfl
        have k3 := (T7.out.b5.cell 3).trans rfl
        have o0 := (T7.out.b8.cell 0).trans rfl
        have o1 := (T7.out.b8.cell 1).trans rfl
        have o2 := (T7.out.b8.cell 2).trans rfl
        have o3 := (T7.out.b8.cell 3).trans rfl
        have o4 := (T7.out.b8.cell 4).trans rfl
        have o5 := (T7.out.b8.cell 5).trans rfl
        have o6 := (T7.out.b8.cell 6).trans rfl
        have o7 := (T7.out.b8.cell 7).trans rfl
        have o8 := (T7.out.b8.cell 8).trans rfl
        have o9 := (T7.out.b8.cell 9).trans rfl
        have o10 := (T7.out.b8.cell 10).trans rfl
        have q0 := (T7.out.b9.cell 0).trans rfl
        have q1 := (T7.out.b9.cell 1).trans rfl
        have q2 := (T7.out.b9.cell 2).trans rfl
        have zc0 := (T7.out.b6.cell 0).trans rfl
        have zc1 := (T7.out.b6.cell 1).trans rfl
        have zc2 := (T7.out.b6.cell 2).trans rfl
        simp only [List.getElem?_toArray, List.getElem?_cons_succ, List.getElem?_cons_zero] at k0 k1 k2 k3 o0 o1 o2 o3 o4 o5 o6 o7 o8 o9 o10 q0 q1 q2 zc0 zc1 zc2
        have lk := T7.out.b5.lt; have lo := T7.out.b8.lt; have lq := T7.out.b9.lt; have lz := T7.out.b6.lt
        have fz : ∀ j, W7.frozen? ⟨w.heap.size + 1, j, none⟩ = false := fun j => T7.out.b6.frozen j
        have fq : ∀ j, W7.frozen? ⟨w.heap.size + 3, j, none⟩ = false := fun j => T7.out.b9.frozen j
        go_wp2_with fail
        obtain ⟨W', hW'⟩ : ∃ W', W' = (((W7.setCell ⟨w.heap.size + 1, 0, none⟩ (.int .u64 pa)).setCell ⟨w.heap.size + 1, 1, none⟩ (.int .i64 n)).setCell ⟨w.heap.size + 1, 2, none⟩ (.int .u64 v)) := ⟨_, rfl⟩
        have B2 : Blk W' (w.heap.size + 1) 55 #[.int .u64 pa, .int .i64 n, .int .u64 v] := by rw [hW']; exact ((T7.out.b6.set_ 0 _).set_ 1 _).set_ 2 _
        have y0 := (B2.cell 0).trans rfl; have y1 := (B2.cell 1).trans rfl; have y2 := (B2.cell 2).trans rfl
        simp only [List.getElem?_toArray, List.getElem?_cons_succ, List.getElem?_cons_zero] at y0 y1 y2
        rw [← hW']
        refine bodyPost_ret (v := .tuple #[.agg #[.int .u64 pa, .int .i64 n, .int .u64 v], .int .i64 0]) (by simp [results, Try.results20, go_sem, y0, y1, y2]) rfl ⟨by rw [RS.out]; rfl, by rw [hW']; exact (((T7.out.bl.setCell (by simp) _).setCell (by simp) _).setCell (by simp) _)⟩
      have f1 : ((ty : Int) == 1) = false := by simp; omega
      by_cases h2 : ty = 2
      · have f2 : ((ty : Int) == 2) = true := by simp; omega
        obtain ⟨v, hv⟩ : ∃ x, x = sumP z1 ad := ⟨_, rfl⟩
        have u2 : IntKind.u64.wrap (z1 + v1) = v := by rw [hv, hv1]; rfl
        obtain ⟨v3, hv3⟩ : ∃ x, x = IntKind.u64.wrap (v - pa) := ⟨_, rfl⟩
        have u3 : IntKind.u64.wrap (v - pa) = v3 := hv3.symm
        obtain ⟨x, hx⟩ : ∃ x, x = nearP z1 ad pa := ⟨_, rfl⟩
        have u4 : IntKind.i64.wrap v3 = x := by rw [hx, hv3, hv]; rfl
        obtain ⟨x1, hx1⟩ : ∃ y, y = IntKind.i32.wrap x := ⟨_, rfl⟩
        have u5 : IntKind.i32.wrap x = x1 := hx1.symm
        obtain ⟨x2, hx2⟩ : ∃ y, y = IntKind.i64.wrap x1 := ⟨_, rfl⟩
        have u6 : IntKind.i64.wrap x1 = x2 := hx2.symm
        obtain ⟨x3, hx3⟩ : ∃ y, y = IntKind.u32.wrap x := ⟨_, rfl⟩
        have u7 : IntKind.u32.wrap x = x3 := hx3.symm
        obtain ⟨x4, hx4⟩ : ∃ y, y = IntKind.u64.wrap x3 := ⟨_, rfl⟩
        have u8 : IntKind.u64.wrap x3 = x4 := hx4.symm
        by_cases hb : x = x2
        · have t9 : (x != x2) = false := by simp [hb]
          have RS := Lib.hid (show res = (⟨pa, n, x4⟩, 0) by rw [RE3.out, if_neg h1, if_pos h2, ← hx, ← hx1, ← hx2, if_pos hb, ← hx3, ← hx4])
          clear h1 h2 hv hv1 hv3 hx hx1 hx2 hx3 hx4 hb RE3
          obtain ⟨W7, hW7⟩ : ∃ W, W = W6.setCell ⟨w.heap.size + 3, 2, none⟩ (.int .u64 x4) := ⟨_, rfl⟩
          have T7 : Hid (ON w #[.int .u64 off, .int .u32 ty, .int .i64 sy, .int .i64 ad] #[.int .i64 ino, .int .u64 base, .int .u16 oty, .int .u64 en, .int .u64 ph, .slice gA gM gQ, .slice nA nM nQ, .string so, .string rn, .slice sA sM sQ, .slice rA rM rQ] #[.int .u64 pa, .int .i64 n, .int .u64 x4] W7) := by rw [hW7]; exact Lib.hid ⟨T6.out.bl.setCell (by simp) _, T6.out.b5.far (by simp) _, T6.out.b6.far (by simp) _, T6.out.b8.far (by simp) _, T6.out.b9.set_ 2 _⟩
          have HW7 := Lib.hid hW7
          clear hW7
          have k0 := (T6.out.b5.cell 0).trans rfl
          have k1 := (T6.out.b5.cell 1).trans rfl
          have k2 := (T6.out.b5.cell 2).trans rfl
          have k3 := (T6.out.b5.cell 3).trans rfl
          have o0 := (T6.out.b8.cell 0).trans rfl
          have o1 := (T6.out.b8.cell 1).trans rfl
          have o2 := (T6.out.b8.cell 2).trans rfl
          have o3 := (T6.out.b8.cell 3).trans rfl
          have o4 := (T6.out.b8.cell 4).trans rfl
          have o5 := (T6.out.b8.cell 5).trans rfl
          have o6 := (T6.out.b8.cell 6).trans rfl
          have o7 := (T6.out.b8.cell 7).trans rfl
          have o8 := (T6.out.b8.cell 8).trans rfl
          have o9 := (T6.out.b8.cell 9).trans rfl
          have o10 := (T6.out.b8.cell 10).trans rfl
          have q0 := (T6.out.b9.cell 0).trans rfl
          have q1 := (T6.out.b9.cell 1).trans rfl
          have q2 := (T6.out.b9.cell 2).trans rfl
          have zc0 := (T6.out.b6.cell 0).trans rfl
          have zc1 := (T6.out.b6.cell 1).trans rfl
          have zc2 := (T6.out.b6.cell 2).trans rfl
          simp only [List.getElem?_toArray, List.getElem?_cons_succ, List.getElem?_cons_zero] at k0 k1 k2 k3 o0 o1 o2 o3 o4 o5 o6 o7 o8 o9 o10 q0 q1 q2 zc0 zc1 zc2
          have lk := T6.out.b5.lt; have lo := T6.out.b8.lt; have lq := T6.out.b9.lt; have lz := T6.out.b6.lt
          have fz : ∀ j, W6.frozen? ⟨w.heap.size + 1, j, none⟩ = false := fun j => T6.out.b6.frozen j
          have fq : ∀ j, W6.frozen? ⟨w.heap.size + 3, j, none⟩ = false := fun j => T6.out.b9.frozen j
          go_upto_region 19 with fail
          rw [← HW7.out]
          clear k0 k1 k2 k3 o0 o1 o2 o3 o4 o5 o6 o7 o8 o9 o10 q0 q1 q2 zc0 zc1 zc2 lk lo lq lz fz fq
          have k0 := (T7.out.b5.cell 0).trans rfl
          have k1 := (T7.out.b5.cell 1).trans rfl
          have k2 := (T7.out.b5.cell 2).trans rfl
          have k3 := (T7.out.b5.cell 3).trans rfl
          have o0 := (T7.out.b8.cell 0).trans rfl
          have o1 := (T7.out.b8.cell 1).trans rfl
          have o2 := (T7.out.b8.cell 2).trans rfl
          have o3 := (T7.out.b8.cell 3).trans rfl
          have o4 := (T7.out.b8.cell 4).trans rfl
          have o5 := (T7.out.b8.cell 5).trans rfl
          have o6 := (T7.out.b8.cell 6).trans rfl
          have o7 := (T7.out.b8.cell 7).trans rfl
          have o8 := (T7.out.b8.cell 8).trans rfl
          have o9 := (T7.out.b8.cell 9).trans rfl
          have o10 := (T7.out.b8.cell 10).trans rfl
          have q0 := (T7.out.b9.cell 0).trans rfl
          have q1 := (T7.out.b9.cell 1).trans rfl
          have q2 := (T7.out.b9.cell 2).trans rfl
          have zc0 := (T7.out.b6.cell 0).trans rfl
          have zc1 := (T7.out.b6.cell 1).trans rfl
          have zc2 := (T7.out.b6.cell 2).trans rfl
          simp only [List.getElem?_toArray, List.getElem?_cons_succ, List.getElem?_cons_zero] at k0 k1 k2 k3 o0 o1 o2 o3 o4 o5 o6 o7 o8 o9 o10 q0 q1 q2 zc0 zc1 zc2
          have lk := T7.out.b5.lt; have lo := T7.out.b8.lt; have lq := T7.out.b9.lt; have lz := T7.out.b6.lt
          have fz : ∀ j, W7.frozen? ⟨w.heap.size + 1, j, none⟩ = false := fun j => T7.out.b6.frozen j
          have fq : ∀ j, W7.frozen? ⟨w.heap.size + 3, j, none⟩ = false := fun j => T7.out.b9.frozen j
          go_wp2_with fail
          obtain ⟨W', hW'⟩ : ∃ W', W' = (((W7.setCell ⟨w.heap.size + 1, 0, none⟩ (.int .u64 pa)).setCell ⟨w.heap.size + 1, 1, none⟩ (.int .i64 n)).setCell ⟨w.heap.size + 1, 2, none⟩ (.int .u64 x4)) := ⟨_, rfl⟩
          have B2 : Blk W' (w.heap.size + 1) 55 #[.int .u64 pa, .int .i64 n, .int .u64 x4] := by rw [hW']; exact ((T7.out.b6.set_ 0 _).set_ 1 _).set_ 2 _
          have y0 := (B2.cell 0).trans rfl; have y1 := (B2.cell 1).trans rfl; have y2 := (B2.cell 2).trans rfl
          simp only [List.getElem?_toArray, List.getElem?_cons_succ, List.getElem?_cons_zero] at y0 y1 y2
          rw [← hW']
          refine bodyPost_ret (v := .tuple #[.agg #[.int .u64 pa, .int .i64 n, .int .u64 x4], .int .i64 0]) (by simp [results, Try.results20, go_sem, y0, y1, y2]) rfl ⟨by rw [RS.out]; rfl, by rw [hW']; exact (((T7.out.bl.setCell (by simp) _).setCell (by simp) _).setCell (by simp) _)⟩
        · have t9 : (x != x2) = true := by simp [hb]
          have RS := Lib.hid (show res = (patZ, 22) by rw [RE3.out, if_neg h1, if_pos h2, ← hx, ← hx1, ← hx2, if_neg hb])
          clear h1 h2 hv hv1 hv3 hx hx1 hx2 hx3 hx4 hb RE3
          have k0 := (T6.out.b5.cell 0).trans rfl
          have k1 := (T6.out.b5.cell 1).trans rfl
          have k2 := (T6.out.b5.cell 2).trans rfl
          have k3 := (T6.out.b5.cell 3).trans rfl
          have o0 := (T6.out.b8.cell 0).trans rfl
          have o1 := (T6.out.b8.cell 1).trans rfl
          have o2 := (T6.out.b8.cell 2).trans rfl
          have o3 := (T6.out.b8.cell 3).trans rfl
          have o4 := (T6.out.b8.cell 4).trans rfl
          have o5 := (T6.out.b8.cell 5).trans rfl
          have o6 := (T6.out.b8.cell 6).trans rfl
          have o7 := (T6.out.b8.cell 7).trans rfl
          have o8 := (T6.out.b8.cell 8).trans rfl
          have o9 := (T6.out.b8.cell 9).trans rfl
          have o10 := (T6.out.b8.cell 10).trans rfl
          have q0 := (T6.out.b9.cell 0).trans rfl
          have q1 := (T6.out.b9.cell 1).trans rfl
          have q2 := (T6.out.b9.cell 2).trans rfl
          have zc0 := (T6.out.b6.cell 0).trans rfl
          have zc1 := (T6.out.b6.cell 1).trans rfl
          have zc2 := (T6.out.b6.cell 2).trans rfl
          simp only [List.getElem?_toArray, List.getElem?_cons_succ, List.getElem?_cons_zero] at k0 k1 k2 k3 o0 o1 o2 o3 o4 o5 o6 o7 o8 o9 o10 q0 q1 q2 zc0 zc1 zc2
          have lk := T6.out.b5.lt; have lo := T6.out.b8.lt; have lq := T6.out.b9.lt; have lz := T6.out.b6.lt
          have fz : ∀ j, W6.frozen? ⟨w.heap.size + 1, j, none⟩ = false := fun j => T6.out.b6.frozen j
          have fq : ∀ j, W6.frozen? ⟨w.heap.size + 3, j, none⟩ = false := fun j => T6.out.b9.frozen j
          go_wp2_with fail
          obtain ⟨W', hW'⟩ : ∃ W', W' = (((W6.setCell ⟨w.heap.size + 1, 0, none⟩ (.int .u64 0)).setCell ⟨w.heap.size + 1, 1, none⟩ (.int .i64 0)).setCell ⟨w.heap.size + 1, 2, none⟩ (.int .u64 0)) := ⟨_, rfl⟩
          have B2 : Blk W' (w.heap.size + 1) 55 #[.int .u64 0, .int .i64 0, .int .u64 0] := by rw [hW']; exact ((T6.out.b6.set_ 0 _).set_ 1 _).set_ 2 _
          have y0 := (B2.cell 0).trans rfl; have y1 := (B2.cell 1).trans rfl; have y2 := (B2.cell 2).trans rfl
          simp only [List.getElem?_toArray, List.getElem?_cons_succ, List.getElem?_cons_zero] at y0 y1 y2
          rw [← hW']
          refine bodyPost_ret (v := .tuple #[.agg #[.int .u64 0, .int .i64 0, .int .u64 0], .int .i64 22]) (by simp [results, Try.results20, go_sem, y0, y1, y2]) rfl ⟨by rw [RS.out]; rfl, by rw [hW']; exact (((T6.out.bl.setCell (by simp) _).setCell (by simp) _).setCell (by simp) _)⟩
      have f2 : ((ty : Int) == 2) = false := by simp; omega
      by_cases h8 : ty = 8
      · have f8 : ((ty : Int) == 8) = true := by simp; omega
        obtain ⟨v, hv⟩ : ∃ x, x = sumP (base : Int) ad := ⟨_, rfl⟩
        have u2 : IntKind.u64.wrap ((base : Int) + v1) = v := by rw [hv, hv1]; rfl
        have RS := Lib.hid (show res = (⟨pa, n, v⟩, 0) by rw [RE3.out, if_neg h1, if_neg h2, if_pos h8, hv])
        clear h1 h2 h8 hv hv1 RE3
        obtain ⟨W7, hW7⟩ : ∃ W, W = W6.setCell ⟨w.heap.size + 3, 2, none⟩ (.int .u64 v) := ⟨_, rfl⟩
        have T7 : Hid (ON w #[.int .u64 off, .int .u32 ty, .int .i64 sy, .int .i64 ad] #[.int .i64 ino, .int .u64 base, .int .u16 oty, .int .u64 en, .int .u64 ph, .slice gA gM gQ, .slice nA nM nQ, .string so, .string rn, .slice sA sM sQ, .slice rA rM rQ] #[.int .u64 pa, .int .i64 n, .int .u64 v] W7) := by rw [hW7]; exact Lib.hid ⟨T6.out.bl.setCell (by simp) _, T6.out.b5.far (by simp) _, T6.out.b6.far (by simp) _, T6.out.b8.far (by simp) _, T6.out.b9.set_ 2 _⟩
        have HW7 := Lib.hid hW7
        clear hW7
        have k0 := (T6.out.b5.cell 0).trans rfl
        have k1 := (T6.out.b5.cell 1).trans rfl
        have k2 := (T6.out.b5.cell 2).trans rfl
        have k3 := (T6.out.b5.cell 3).trans rfl
        have o0 := (T6.out.b8.cell 0).trans rfl
        have o1 := (T6.out.b8.cell 1).trans rfl
        have o2 := (T6.out.b8.cell 2).trans rfl
        have o3 := (T6.out.b8.cell 3).trans rfl
        have o4 := (T6.out.b8.cell 4).trans rfl
        have o5 := (T6.out.b8.cell 5).trans rfl
        have o6 := (T6.out.b8.cell 6).trans rfl
        have o7 := (T6.out.b8.cell 7).trans rfl
        have o8 := (T6.out.b8.cell 8).trans rfl
        have o9 := (T6.out.b8.cell 9).trans rfl
        have o10 := (T6.out.b8.cell 10).trans rfl
        have q0 := (T6.out.b9.cell 0).trans rfl
        have q1 := (T6.out.b9.cell 1).trans rfl
        have q2 := (T6.out.b9.cell 2).trans rfl
        have zc0 := (T6.out.b6.cell 0).trans rfl
        have zc1 := (T6.out.b6.cell 1).trans rfl
        have zc2 := (T6.out.b6.cell 2).trans rfl
        simp only [List.getElem?_toArray, List.getElem?_cons_succ, List.getElem?_cons_zero] at k0 k1 k2 k3 o0 o1 o2 o3 o4 o5 o6 o7 o8 o9 o10 q0 q1 q2 zc0 zc1 zc2
        have lk := T6.out.b5.lt; have lo := T6.out.b8.lt; have lq := T6.out.b9.lt; have lz := T6.out.b6.lt
        have fz : ∀ j, W6.frozen? ⟨w.heap.size + 1, j, none⟩ = false := fun j => T6.out.b6.frozen j
        have fq : ∀ j, W6.frozen? ⟨w.heap.size + 3, j, none⟩ = false := fun j => T6.out.b9.frozen j
        go_upto_region 19 with fail
        rw [← HW7.out]
        clear k0 k1 k2 k3 o0 o1 o2 o3 o4 o5 o6 o7 o8 o9 o10 q0 q1 q2 zc0 zc1 zc2 lk lo lq lz fz fq
        have k0 := (T7.out.b5.cell 0).trans rfl
        have k1 := (T7.out.b5.cell 1).trans rfl
        have k2 := (T7.out.b5.cell 2).trans rfl
        have k3 := (T7.out.b5.cell 3).trans rfl
        have o0 := (T7.out.b8.cell 0).trans rfl
        have o1 := (T7.out.b8.cell 1).trans rfl
        have o2 := (T7.out.b8.cell 2).trans rfl
        have o3 := (T7.out.b8.cell 3).trans rfl
        have o4 := (T7.out.b8.cell 4).trans rfl
        have o5 := (T7.out.b8.cell 5).trans rfl
        have o6 := (T7.out.b8.cell 6).trans rfl
        have o7 := (T7.out.b8.cell 7).trans rfl
        have o8 := (T7.out.b8.cell 8).trans rfl
        have o9 := (T7.out.b8.cell 9).trans rfl
        have o10 := (T7.out.b8.cell 10).trans rfl
        have q0 := (T7.out.b9.cell 0).trans rfl
        have q1 := (T7.out.b9.cell 1).trans rfl
        have q2 := (T7.out.b9.cell 2).trans rfl
        have zc0 := (T7.out.b6.cell 0).trans rfl
        have zc1 := (T7.out.b6.cell 1).trans rfl
        have zc2 := (T7.out.b6.cell 2).trans rfl
        simp only [List.getElem?_toArray, List.getElem?_cons_succ, List.getElem?_cons_zero] at k0 k1 k2 k3 o0 o1 o2 o3 o4 o5 o6 o7 o8 o9 o10 q0 q1 q2 zc0 zc1 zc2
        have lk := T7.out.b5.lt; have lo := T7.out.b8.lt; have lq := T7.out.b9.lt; have lz := T7.out.b6.lt
        have fz : ∀ j, W7.frozen? ⟨w.heap.size + 1, j, none⟩ = false := fun j => T7.out.b6.frozen j
        have fq : ∀ j, W7.frozen? ⟨w.heap.size + 3, j, none⟩ = false := fun j => T7.out.b9.frozen j
        go_wp2_with fail
        obtain ⟨W', hW'⟩ : ∃ W', W' = (((W7.setCell ⟨w.heap.size + 1, 0, none⟩ (.int .u64 pa)).setCell ⟨w.heap.size + 1, 1, none⟩ (.int .i64 n)).setCell ⟨w.heap.size + 1, 2, none⟩ (.int .u64 v)) := ⟨_, rfl⟩
        have B2 : Blk W' (w.heap.size + 1) 55 #[.int .u64 pa, .int .i64 n, .int .u64 v] := by rw [hW']; exact ((T7.out.b6.set_ 0 _).set_ 1 _).set_ 2 _
        have y0 := (B2.cell 0).trans rfl; have y1 := (B2.cell 1).trans rfl; have y2 := (B2.cell 2).trans rfl
        simp only [List.getElem?_toArray, List.getElem?_cons_succ, List.getElem?_cons_zero] at y0 y1 y2
        rw [← hW']
        refine bodyPost_ret (v := .tuple #[.agg #[.int .u64 pa, .int .i64 n, .int .u64 v], .int .i64 0]) (by simp [results, Try.results20, go_sem, y0, y1, y2]) rfl ⟨by rw [RS.out]; rfl, by rw [hW']; exact (((T7.out.bl.setCell (by simp) _).setCell (by simp) _).setCell (by simp) _)⟩
      have f8 : ((ty : Int) == 8) = false := by simp; omega
      have RS := Lib.hid (show res = (⟨pa, n, z1⟩, 0) by rw [RE3.out, if_neg h1, if_neg h2, if_neg h8])
      clear h1 h2 h8 hv1 RE3
      obtain ⟨W7, hW7⟩ : ∃ W, W = W6.setCell ⟨w.heap.size + 3, 2, none⟩ (.int .u64 z1) := ⟨_, rfl⟩
      have T7 : Hid (ON w #[.int .u64 off, .int .u32 ty, .int .i64 sy, .int .i64 ad] #[.int .i64 ino, .int .u64 base, .int .u16 oty, .int .u64 en, .int .u64 ph, .slice gA gM gQ, .slice nA nM nQ, .string so, .string rn, .slice sA sM sQ, .slice rA rM rQ] #[.int .u64 pa, .int .i64 n, .int .u64 z1] W7) := by rw [hW7]; exact Lib.hid ⟨T6.out.bl.setCell (by simp) _, T6.out.b5.far (by simp) _, T6.out.b6.far (by simp) _, T6.out.b8.far (by simp) _, T6.out.b9.set_ 2 _⟩
      have HW7 := Lib.hid hW7
      clear hW7
      have k0 := (T6.out.b5.cell 0).trans rfl
      have k1 := (T6.out.b5.cell 1).trans rfl
      have k2 := (T6.out.b5.cell 2).trans rfl
      have k3 := (T6.out.b5.cell 3).trans rfl
      have o0 := (T6.out.b8.cell 0).trans rfl
      have o1 := (T6.out.b8.cell 1).trans rfl
      have o2 := (T6.out.b8.cell 2).trans rfl
      have o3 := (T6.out.b8.cell 3).trans rfl
      have o4 := (T6.out.b8.cell 4).trans rfl
      have o5 := (T6.out.b8.cell 5).trans rfl
      have o6 := (T6.out.b8.cell 6).trans rfl
      have o7 := (T6.out.b8.cell 7).trans rfl
      have o8 := (T6.out.b8.cell 8).trans rfl
      have o9 := (T6.out.b8.cell 9).trans rfl
      have o10 := (T6.out.b8.cell 10).trans rfl
      have q0 := (T6.out.b9.cell 0).trans rfl
      have q1 := (T6.out.b9.cell 1).trans rfl
      have q2 := (T6.out.b9.cell 2).trans rfl
      have zc0 := (T6.out.b6.cell 0).trans rfl
      have zc1 := (T6.out.b6.cell 1).trans rfl
      have zc2 := (T6.out.b6.cell 2).trans rfl
      simp only [List.getElem?_toArray, List.getElem?_cons_succ, List.getElem?_cons_zero] at k0 k1 k2 k3 o0 o1 o2 o3 o4 o5 o6 o7 o8 o9 o10 q0 q1 q2 zc0 zc1 zc2
      have lk := T6.out.b5.lt; have lo := T6.out.b8.lt; have lq := T6.out.b9.lt; have lz := T6.out.b6.lt
      have fz : ∀ j, W6.frozen? ⟨w.heap.size + 1, j, none⟩ = false := fun j => T6.out.b6.frozen j
      have fq : ∀ j, W6.frozen? ⟨w.heap.size + 3, j, none⟩ = false := fun j => T6.out.b9.frozen j
      go_upto_region 19 with fail
      rw [← HW7.out]
      clear k0 k1 k2 k3 o0 o1 o2 o3 o4 o5 o6 o7 o8 o9 o10 q0 q1 q2 zc0 zc1 zc2 lk lo lq lz fz fq
      have k0 := (T7.out.b5.cell 0).trans rfl
      have k1 := (T7.out.b5.cell 1).trans rfl
      have k2 := (T7.out.b5.cell 2).trans rfl
      have k3 := (T7.out.b5.cell 3).trans rfl
      have o0 := (T7.out.b8.cell 0).trans rfl
      have o1 := (T7.out.b8.cell 1).trans rfl
      have o2 := (T7.out.b8.cell 2).trans rfl
      have o3 := (T7.out.b8.cell 3).trans rfl
      have o4 := (T7.out.b8.cell 4).trans rfl
      have o5 := (T7.out.b8.cell 5).trans rfl
      have o6 := (T7.out.b8.cell 6).trans rfl
      have o7 := (T7.out.b8.cell 7).trans rfl
      have o8 := (T7.out.b8.cell 8).trans rfl
      have o9 := (T7.out.b8.cell 9).trans rfl
      have o10 := (T7.out.b8.cell 10).trans rfl
      have q0 := (T7.out.b9.cell 0).trans rfl
      have q1 := (T7.out.b9.cell 1).trans rfl
      have q2 := (T7.out.b9.cell 2).trans rfl
      have zc0 := (T7.out.b6.cell 0).trans rfl
      have zc1 := (T7.out.b6.cell 1).trans rfl
      have zc2 := (T7.out.b6.cell 2).trans rfl
      simp only [List.getElem?_toArray, List.getElem?_cons_succ, List.getElem?_cons_zero] at k0 k1 k2 k3 o0 o1 o2 o3 o4 o5 o6 o7 o8 o9 o10 q0 q1 q2 zc0 zc1 zc2
      have lk := T7.out.b5.lt; have lo := T7.out.b8.lt; have lq := T7.out.b9.lt; have lz := T7.out.b6.lt
      have fz : ∀ j, W7.frozen? ⟨w.heap.size + 1, j, none⟩ = false := fun j => T7.out.b6.frozen j
      have fq : ∀ j, W7.frozen? ⟨w.heap.size + 3, j, none⟩ = false := fun j => T7.out.b9.frozen j
      go_wp2_with fail
      obtain ⟨W', hW'⟩ : ∃ W', W' = (((W7.setCell ⟨w.heap.size + 1, 0, none⟩ (.int .u64 pa)).setCell ⟨w.heap.size + 1, 1, none⟩ (.int .i64 n)).setCell ⟨w.heap.size + 1, 2, none⟩ (.int .u64 z1)) := ⟨_, rfl⟩
      have B2 : Blk W' (w.heap.size + 1) 55 #[.int .u64 pa, .int .i64 n, .int .u64 z1] := by rw [hW']; exact ((T7.out.b6.set_ 0 _).set_ 1 _).set_ 2 _
      have y0 := (B2.cell 0).trans rfl; have y1 := (B2.cell 1).trans rfl; have y2 := (B2.cell 2).trans rfl
      simp only [List.getElem?_toArray, List.getElem?_cons_succ, List.getElem?_cons_zero] at y0 y1 y2
      rw [← hW']
      refine bodyPost_ret (v := .tuple #[.agg #[.int .u64 pa, .int .i64 n, .int .u64 z1], .int .i64 0]) (by simp [results, Try.results20, go_sem, y0, y1, y2]) rfl ⟨by rw [RS.out]; rfl, by rw [hW']; exact (((T7.out.bl.setCell (by simp) _).setCell (by simp) _).setCell (by simp) _)⟩
    · have t3 : (z2 != 0) = true := by simp [g3]
      have RS := Lib.hid (show res = (patZ, z2) by rw [RE2.out, if_pos g3])
      clear g3 RE2 VAL
      have k0 := (T6.out.b5.cell 0).trans rfl
      have k1 := (T6.out.b5.cell 1).trans rfl
      have k2 := (T6.out.b5.cell 2).trans rfl
      have k3 := (T6.out.b5.cell 3).trans rfl
      have o0 := (T6.out.b8.cell 0).trans rfl
      have o1 := (T6.out.b8.cell 1).trans rfl
      have o2 := (T6.out.b8.cell 2).trans rfl
      have o3 := (T6.out.b8.cell 3).trans rfl
      have o4 := (T6.out.b8.cell 4).trans rfl
      have o5 := (T6.out.b8.cell 5).trans rfl
      have o6 := (T6.out.b8.cell 6).trans rfl
      have o7 := (T6.out.b8.cell 7).trans rfl
      have o8 := (T6.out.b8.cell 8).trans rfl
      have o9 := (T6.out.b8.cell 9).trans rfl
      have o10 := (T6.out.b8.cell 10).trans rfl
      have q0 := (T6.out.b9.cell 0).trans rfl
      have q1 := (T6.out.b9.cell 1).trans rfl
      have q2 := (T6.out.b9.cell 2).trans rfl
      have zc0 := (T6.out.b6.cell 0).trans rfl
      have zc1 := (T6.out.b6.cell 1).trans rfl
      have zc2 := (T6.out.b6.cell 2).trans rfl
      simp only [List.getElem?_toArray, List.getElem?_cons_succ, List.getElem?_cons_zero] at k0 k1 k2 k3 o0 o1 o2 o3 o4 o5 o6 o7 o8 o9 o10 q0 q1 q2 zc0 zc1 zc2
      have lk := T6.out.b5.lt; have lo := T6.out.b8.lt; have lq := T6.out.b9.lt; have lz := T6.out.b6.lt
      have fz : ∀ j, W6.frozen? ⟨w.heap.size + 1, j, none⟩ = false := fun j => T6.out.b6.frozen j
      have fq : ∀ j, W6.frozen? ⟨w.heap.size + 3, j, none⟩ = false := fun j => T6.out.b9.frozen j
      go_wp2_with fail
      obtain ⟨W', hW'⟩ : ∃ W', W' = (((W6.setCell ⟨w.heap.size + 1, 0, none⟩ (.int .u64 0)).setCell ⟨w.heap.size + 1, 1, none⟩ (.int .i64 0)).setCell ⟨w.heap.size + 1, 2, none⟩ (.int .u64 0)) := ⟨_, rfl⟩
      have B2 : Blk W' (w.heap.size + 1) 55 #[.int .u64 0, .int .i64 0, .int .u64 0] := by rw [hW']; exact ((T6.out.b6.set_ 0 _).set_ 1 _).set_ 2 _
      have y0 := (B2.cell 0).trans rfl; have y1 := (B2.cell 1).trans rfl; have y2 := (B2.cell 2).trans rfl
      simp only [List.getElem?_toArray, List.getElem?_cons_succ, List.getElem?_cons_zero] at y0 y1 y2
      rw [← hW']
      refine bodyPost_ret (v := .tuple #[.agg #[.int .u64 0, .int .i64 0, .int .u64 0], .int .i64 z2]) (by simp [results, Try.results20, go_sem, y0, y1, y2]) rfl ⟨by rw [RS.out]; rfl, by rw [hW']; exact (((T6.out.bl.setCell (by simp) _).setCell (by simp) _).setCell (by simp) _)⟩
end Go.Proofs.Ytlenjpgkmikgpaa
