import Derived.Test.YtlenjpgkmikgpaaLZ8
import Derived.Test.YtlenjpgkmikgpaaSY4
import Derived.Test.YtlenjpgkmikgpaaWWa
namespace Go.Proofs.Ytlenjpgkmikgpaa
open Go.RowKit Go.Shelf Go.Hos
set_option linter.unusedVariables false
/-! relocations and patches as data -/
structure RelD where
  off : Nat
  ty : Nat
  sym : Int
  add : Int
def RelD.cs (r : RelD) : Array Value := #[.int .u64 r.off, .int .u32 r.ty, .int .i64 r.sym, .int .i64 r.add]
structure PatD where
  at_ : Int
  size : Int
  v : Int
def PatD.cs (q : PatD) : Array Value := #[.int .u64 q.at_, .int .i64 q.size, .int .u64 q.v]
abbrev M : Nat := Lay.M
/-- an object with segments, symbols and relocations -/
structure ObjD where
  ino : Int
  base : Nat
  ty : Nat
  en : Int
  ph : Int
  gA : Option Addr
  gM : Nat
  gQ : Nat
  nA : Option Addr
  nM : Nat
  nQ : Nat
  so : ByteArray
  rn : ByteArray
  sA : Option Addr
  sM : Nat
  sQ : Nat
  rA : Option Addr
  rM : Nat
  rQ : Nat
  sg : Nat → Lay.SegD
  sy : Nat → Sym.SymD
  rl : Nat → RelD
def ObjD.cs (o : ObjD) : Array Value := #[.int .i64 o.ino, .int .u64 o.base, .int .u16 o.ty, .int .u64 o.en, .int .u64 o.ph, .slice o.gA o.gM o.gQ, .slice o.nA o.nM o.nQ, .string o.so, .string o.rn, .slice o.sA o.sM o.sQ, .slice o.rA o.rM o.rQ]
/-- as layout's texts have it, as symbols' texts have it -/
def ObjD.lay (o : ObjD) : Lay.ObjD := ⟨o.ino, o.base, o.ty, o.en, o.ph, o.gA, o.gM, o.gQ, o.nA, o.nM, o.nQ, o.so, o.rn, o.sA, o.sM, o.sQ, o.rA, o.rM, o.rQ, o.sg⟩
def ObjD.syms (o : ObjD) : Sym.ObjD := ⟨o.ino, o.base, o.ty, o.en, o.ph, o.gA, o.gM, o.gQ, o.nA, o.nM, o.nQ, o.so, o.rn, o.sA, o.sM, o.sQ, o.rA, o.rM, o.rQ, o.sy⟩
theorem ObjD.lay_cs (o : ObjD) : o.lay.cs = o.cs := rfl
theorem ObjD.syms_cs (o : ObjD) : o.syms.cs = o.cs := rfl
structure ObjR (W : World) (B : Nat) (A : Option Addr) (n : Nat) (O : Nat → ObjD) : Prop where
  os : Lay.StR W B 11 A n (fun i => (O i).cs)
  sg : ∀ i, i < n → Lay.StR W B 6 (O i).gA (O i).gM (Lay.segC (O i).sg) ∧ (O i).gM ≤ maxLen
  sy : ∀ i, i < n → Lay.StR W B 5 (O i).sA (O i).sM (fun k => ((O i).sy k).cs) ∧ (O i).sM ≤ maxLen
  rl : ∀ i, i < n → Lay.StR W B 4 (O i).rA (O i).rM (fun k => ((O i).rl k).cs) ∧ (O i).rM ≤ maxLen
  len : n ≤ maxLen
theorem ObjR.below {W W' : World} {B : Nat} {A : Option Addr} {n : Nat} {O : Nat → ObjD} (h : ObjR W B A n O) (hb : Below B W W') : ObjR W' B A n O :=
  ⟨h.os.below hb, fun i hi => ⟨(h.sg i hi).1.below hb, (h.sg i hi).2⟩, fun i hi => ⟨(h.sy i hi).1.below hb, (h.sy i hi).2⟩, fun i hi => ⟨(h.rl i hi).1.below hb, (h.rl i hi).2⟩, h.len⟩
theorem ObjR.more {W : World} {B B' : Nat} {A : Option Addr} {n : Nat} {O : Nat → ObjD} (h : ObjR W B A n O) (hB : B ≤ B') : ObjR W B' A n O :=
  ⟨h.os.more hB, fun i hi => ⟨(h.sg i hi).1.more hB, (h.sg i hi).2⟩, fun i hi => ⟨(h.sy i hi).1.more hB, (h.sy i hi).2⟩, fun i hi => ⟨(h.rl i hi).1.more hB, (h.rl i hi).2⟩, h.len⟩
theorem ObjR.lay {W : World} {B : Nat} {A : Option Addr} {n : Nat} {O : Nat → ObjD} (h : ObjR W B A n O) : Lay.ObjR W B A n (fun i => (O i).lay) := ⟨h.os, h.sg, h.len⟩
theorem ObjR.syms {W : World} {B : Nat} {A : Option Addr} {n : Nat} {O : Nat → ObjD} (h : ObjR W B A n O) : Sym.ObjR W B A n (fun i => (O i).syms) := ⟨h.os, h.sy, h.len⟩
theorem rel_cells {W : World} {B : Nat} {A : Option Addr} {n : Nat} {S : Nat → RelD} (h : Lay.StR W B 4 A n (fun k => (S k).cs)) {k : Nat} (hk : k < n) : ∃ ad, A = some ad ∧ ad.block < B ∧
    W.cell? (ad.add (k * 4)) = some (.int .u64 (S k).off) ∧ W.cell? ⟨(ad.add (k * 4)).block, (ad.add (k * 4)).off + 1, none⟩ = some (.int .u32 (S k).ty) ∧ W.cell? ⟨(ad.add (k * 4)).block, (ad.add (k * 4)).off + 2, none⟩ = some (.int .i64 (S k).sym) ∧
    W.cell? ⟨(ad.add (k * 4)).block, (ad.add (k * 4)).off + 3, none⟩ = some (.int .i64 (S k).add) := by
  obtain ⟨ad, rfl, hb, hc⟩ := h (by omega)
  have hc := hc k hk
  refine ⟨ad, rfl, hb, hc 0 _ rfl, ?_, ?_, ?_⟩
  all_goals rw [← Lay.add_field]
  · exact hc 1 _ rfl
  · exact hc 2 _ rfl
  · exact hc 3 _ rfl
/-- how many bytes a type writes -/
def szR (t : Nat) : Nat := if t = 2 then 4 else if t = 1 then 8 else if t = 6 then 8 else if t = 7 then 8 else if t = 8 then 8 else 0
set_option maxRecDepth 20000 in
set_option maxHeartbeats 800000 in
theorem size_any (t : Nat) (w : World) : Calls Try.prog 26 #[.int .u32 t] w fun e w' => e = .returned (.int .i64 (szR t)) ∧ w = w' := by
  by_cases h2 : t = 2
  · have f2 : ((t : Int) == 2) = true := by simp; omega
    have E : Hid (szR t = 4) := Lib.hid (by rw [h2]; rfl)
    clear h2
    rw [E.out]
    go_enter Try.func26, Try.ntmps26
    go_wp2_with fail
    go_ret
    exact ⟨rfl, rfl⟩
  by_cases h1 : t = 1
  · have f2 : ((t : Int) == 2) = false := by simp; omega
    have f1 : ((t : Int) == 1) = true := by simp; omega
    have E : Hid (szR t = 8) := Lib.hid (by rw [h1]; rfl)
    clear h2 h1
    rw [E.out]
    go_enter Try.func26, Try.ntmps26
    go_wp2_with fail
    go_ret
    exact ⟨rfl, rfl⟩
  by_cases h6 : t = 6
  · have f2 : ((t : Int) == 2) = false := by simp; omega
    have f1 : ((t : Int) == 1) = false := by simp; omega
    have f6 : ((t : Int) == 6) = true := by simp; omega
    have E : Hid (szR t = 8) := Lib.hid (by rw [h6]; rfl)
    clear h2 h1 h6
    rw [E.out]
    go_enter Try.func26, Try.ntmps26
    go_wp2_with fail
    go_ret
    exact ⟨rfl, rfl⟩
  by_cases h7 : t = 7
  · have f2 : ((t : Int) == 2) = false := by simp; omega
    have f1 : ((t : Int) == 1) = false := by simp; omega
    have f6 : ((t : Int) == 6) = false := by simp; omega
    have f7 : ((t : Int) == 7) = true := by simp; omega
    have E : Hid (szR t = 8) := Lib.hid (by rw [h7]; rfl)
    clear h2 h1 h6 h7
    rw [E.out]
    go_enter Try.func26, Try.ntmps26
    go_wp2_with fail
    go_ret
    exact ⟨rfl, rfl⟩
  by_cases h8 : t = 8
  · have f2 : ((t : Int) == 2) = false := by simp; omega
    have f1 : ((t : Int) == 1) = false := by simp; omega
    have f6 : ((t : Int) == 6) = false := by simp; omega
    have f7 : ((t : Int) == 7) = false := by simp; omega
    have f8 : ((t : Int) == 8) = true := by simp; omega
    have E : Hid (szR t = 8) := Lib.hid (by rw [h8]; rfl)
    clear h2 h1 h6 h7 h8
    rw [E.out]
    go_enter Try.func26, Try.ntmps26
    go_wp2_with fail
    go_ret
    exact ⟨rfl, rfl⟩
  have f2 : ((t : Int) == 2) = false := by simp; omega
  have f1 : ((t : Int) == 1) = false := by simp; omega
  have f6 : ((t : Int) == 6) = false := by simp; omega
  have f7 : ((t : Int) == 7) = false := by simp; omega
  have f8 : ((t : Int) == 8) = false := by simp; omega
  have E : Hid (szR t = 0) := Lib.hid (by unfold szR; rw [if_neg h2, if_neg h1, if_neg h6, if_neg h7, if_neg h8])
  clear h2 h1 h6 h7 h8
  rw [E.out]
  go_enter Try.func26, Try.ntmps26
  go_wp2_with fail
  go_ret
  exact ⟨rfl, rfl⟩
set_option maxRecDepth 20000 in
set_option maxHeartbeats 800000 in
theorem rsize_any (t : Nat) (w : World) : Calls Try.prog 16 #[.int .u32 t] w fun e w' => e = .returned (.int .i64 (szR t)) ∧ w = w' := by
  by_cases h1 : t = 1
  · have f1 : ((t : Int) == 1) = true := by simp; omega
    have E : Hid (szR t = 8) := Lib.hid (by rw [h1]; rfl)
    clear h1
    rw [E.out]
    go_enter Try.func16, Try.ntmps16
    go_wp2_with fail
    go_ret
    exact ⟨rfl, rfl⟩
  by_cases h6 : t = 6
  · have f1 : ((t : Int) == 1) = false := by simp; omega
    have f6 : ((t : Int) == 6) = true := by simp; omega
    have E : Hid (szR t = 8) := Lib.hid (by rw [h6]; rfl)
    clear h1 h6
    rw [E.out]
    go_enter Try.func16, Try.ntmps16
    go_wp2_with fail
    go_ret
    exact ⟨rfl, rfl⟩
  by_cases h7 : t = 7
  · have f1 : ((t : Int) == 1) = false := by simp; omega
    have f6 : ((t : Int) == 6) = false := by simp; omega
    have f7 : ((t : Int) == 7) = true := by simp; omega
    have E : Hid (szR t = 8) := Lib.hid (by rw [h7]; rfl)
    clear h1 h6 h7
    rw [E.out]
    go_enter Try.func16, Try.ntmps16
    go_wp2_with fail
    go_ret
    exact ⟨rfl, rfl⟩
  by_cases h8 : t = 8
  · have f1 : ((t : Int) == 1) = false := by simp; omega
    have f6 : ((t : Int) == 6) = false := by simp; omega
    have f7 : ((t : Int) == 7) = false := by simp; omega
    have f8 : ((t : Int) == 8) = true := by simp; omega
    have E : Hid (szR t = 8) := Lib.hid (by rw [h8]; rfl)
    clear h1 h6 h7 h8
    rw [E.out]
    go_enter Try.func16, Try.ntmps16
    go_wp2_with fail
    go_ret
    exact ⟨rfl, rfl⟩
  by_cases h2 : t = 2
  · have f1 : ((t : Int) == 1) = false := by simp; omega
    have f6 : ((t : Int) == 6) = false := by simp; omega
    have f7 : ((t : Int) == 7) = false := by simp; omega
    have f8 : ((t : Int) == 8) = false := by simp; omega
    have f2 : ((t : Int) == 2) = true := by simp; omega
    have E : Hid (szR t = 4) := Lib.hid (by rw [h2]; rfl)
    clear h1 h6 h7 h8 h2
    rw [E.out]
    go_enter Try.func16, Try.ntmps16
    go_wp2_with fail
    go_ret
    exact ⟨rfl, rfl⟩
  have f1 : ((t : Int) == 1) = false := by simp; omega
  have f6 : ((t : Int) == 6) = false := by simp; omega
  have f7 : ((t : Int) == 7) = false := by simp; omega
  have f8 : ((t : Int) == 8) = false := by simp; omega
  have f2 : ((t : Int) == 2) = false := by simp; omega
  have E : Hid (szR t = 0) := Lib.hid (by unfold szR; rw [if_neg h2, if_neg h1, if_neg h6, if_neg h7, if_neg h8])
  clear h1 h6 h7 h8 h2
  rw [E.out]
  go_enter Try.func16, Try.ntmps16
  go_wp2_with fail
  go_ret
  exact ⟨rfl, rfl⟩
/-- may a load be written? -/
def canW (fl : Nat) : Bool := bits .and .u8 (fl : Int) 2 != 0
/-- do so many bytes lie in a load? -/
def liS (off n : Nat) (s : Lay.SegD) : Bool := canW s.fl && decide (s.addr ≤ off) && decide (off - s.addr + n ≤ s.msz)
def lyB (o : Lay.ObjD) (off n : Nat) : Bool := (Lay.lds o.sg o.gM).any (liS off n)
theorem lds_any_mono {S : Nat → Lay.SegD} {f : Lay.SegD → Bool} {i : Nat} : ∀ d, (Lay.lds S i).any f = true → (Lay.lds S (i + d)).any f = true
  | 0, h => h
  | d + 1, h => by
    show (Lay.lds S (i + d) ++ _).any f = true
    rw [List.any_append, lds_any_mono d h, Bool.true_or]
set_option maxRecDepth 20000 in
set_option maxHeartbeats 3200000 in
theorem lies_any (o : Lay.ObjD) (off n : Nat) (w : World) (hS : Lay.StR w w.heap.size 6 o.gA o.gM (Lay.segC o.sg)) (hf : ∀ k, (o.sg k).fits) (hm : o.gM ≤ maxLen) (ho : off < M) (hn : n ≤ 8) :
    Calls Try.prog 27 #[.agg o.cs, .int .u64 off, .int .i64 n] w fun e W' => e = .returned (.bool (lyB o off n)) ∧ Below w.heap.size w W' := by
  have hmm : maxLen = 9223372036854775807 := by simp [maxLen]
  obtain ⟨R, hR⟩ : ∃ b, b = lyB o off n := ⟨_, rfl⟩
  rw [← hR]
  have HR := Lib.hid (show R = (Lay.lds o.sg o.gM).any (liS off n) from hR)
  obtain ⟨ino, base, ty, en, ph, gA, gM, gQ, nA, nM, nQ, so, rn, sA, sM, sQ, rA, rM, rQ, sg⟩ := o
  dsimp only at hS hf hm HR
  rw [show (Lay.ObjD.mk ino base ty en ph gA gM gQ nA nM nQ so rn sA sM sQ rA rM rQ sg).cs = #[.int .i64 ino, .int .u64 base, .int .u16 ty, .int .u64 en, .int .u64 ph, .slice gA gM gQ, .slice nA nM nQ, .string so, .string rn, .slice sA sM sQ, .slice rA rM rQ] from rfl]
  have HS := Lib.hid hS; have HF := Lib.hid hf; have HO := Lib.hid ho
  obtain ⟨w0, hw0⟩ : ∃ x, x = w.alloc (.cells #[.int .i64 ino, .int .u64 base, .int .u16 ty, .int .u64 en, .int .u64 ph, .slice gA gM gQ, .slice nA nM nQ, .string so, .string rn, .slice sA sM sQ, .slice rA rM rQ] 50) := ⟨_, rfl⟩
  have B0 : Hid (Below w.heap.size w w0) := by rw [hw0]; exact Lib.hid ((Below.refl _ _).alloc (Nat.le_refl _) _)
  have K0 : Hid (Blk w0 w.heap.size 50 #[.int .i64 ino, .int .u64 base, .int .u16 ty, .int .u64 en, .int .u64 ph, .slice gA gM gQ, .slice nA nM nQ, .string so, .string rn, .slice sA sM sQ, .slice rA rM rQ]) := by rw [hw0]; exact Lib.hid (Blk.new _ _ _)
  have HW0 := Lib.hid hw0
  have wn : IntKind.u64.wrap (n : Int) = (n : Int) := Lay.wrap_small (by unfold Lay.M; omega)
  clear hS hf hR hw0 ho
  go_enter Try.func27, Try.ntmps27
  go_upto_region 1 with fail
  rw [← HW0.out]
  have k5 := (K0.out.cell 5).trans rfl
  simp only [List.getElem?_toArray, List.getElem?_cons_succ, List.getElem?_cons_zero] at k5
  have lk := K0.out.lt
  go_wp2_with fail
  clear k5 lk K0 HW0
  go_loopw [13] (fun v13 wr => ∃ i : Nat, i ≤ gM ∧ v13 = .int .i64 i ∧ Hid (Below w.heap.size w wr ∧ (Lay.lds sg i).any (liS off n) = false)) (fun v13 _ => gM - (intOf v13).toNat)
  case atStart => exact ⟨0, Nat.zero_le _, rfl, Lib.hid ⟨B0.out, rfl⟩⟩
  case round =>
    clear B0
    obtain ⟨i, hi, rfl, hb⟩ := hrel
    by_cases him : i < gM
    · have e1 : decide ((i : Int) < (gM : Int)) = true := by simp; omega
      have e2 : (i : Int) < (gM : Int) := by omega
      obtain ⟨ad, rfl, had, d0, d1, d2, d3, d4, d5⟩ := Lay.seg_cells (HS.out.below hb.out.1) him
      have EL : Hid ((Lay.lds sg (i + 1)).any (liS off n) = ((Lay.lds sg i).any (liS off n) || (if (sg i).kd = 1 then liS off n (sg i) else false))) := Lib.hid (by
        show (Lay.lds sg i ++ _).any _ = _
        rw [List.any_append]
        split <;> simp)
      have MONO : Hid ((Lay.lds sg (i + 1)).any (liS off n) = true → R = true) := Lib.hid fun h => by
        rw [HR.out]
        have := lds_any_mono (gM - (i + 1)) h
        rwa [show i + 1 + (gM - (i + 1)) = gM by omega] at this
      have FT := HF.out i
      obtain ⟨s, hs⟩ : ∃ s, s = sg i := ⟨_, rfl⟩
      rw [← hs] at d0 d1 d2 d3 d4 d5 EL FT
      obtain ⟨kd, fl, so2, addr, fsz, msz⟩ := s
      dsimp only at d0 d1 d2 d3 d4 d5 EL
      have fA := FT.2.1; have fM := FT.2.2.2
      dsimp only at fA fM
      have lad := World.block_lt_of_cell? _ _ d0
      have BA : Hid (Below w.heap.size w (wr.alloc (.cells #[.int .u32 kd, .int .u8 fl, .int .u64 so2, .int .u64 addr, .int .u64 fsz, .int .u64 msz] 67))) := Lib.hid (hb.out.1.alloc hb.out.1.size _)
      have HN := Lib.hid hb.out.2
      clear hs FT hb
      by_cases hk : kd = 1
      · have t1 : ((kd : Int) != 1) = false := by simp; omega
        obtain ⟨fw, hfw⟩ : ∃ x, x = bits .and .u8 (fl : Int) 2 := ⟨_, rfl⟩
        have w1 : bits .and .u8 (fl : Int) 2 = fw := hfw.symm
        by_cases hc : fw = 0
        · have t2 : (fw == 0) = true := by simp [hc]
          have NX : Hid ((Lay.lds sg (i + 1)).any (liS off n) = false) := Lib.hid (by rw [EL.out, HN.out, if_pos hk]; show (canW fl && _ && _) = false; unfold canW; rw [← hfw, hc]; rfl)
          clear hk hc hfw EL MONO
          go_wp2_with fail
          go_roundw
          case rel => exact ⟨i + 1, by omega, by go_num, Lib.hid ⟨BA.out, NX.out⟩⟩
          case measure => simp [intOf]; omega
        · have t2 : (fw == 0) = false := by simp [hc]
          have cw : canW fl = true := by unfold canW; rw [← hfw]; simp [hc]
          by_cases ha : off < addr
          · have t3 : decide ((off : Int) < (addr : Int)) = true := by simp; omega
            have t3n : decide (off < addr) = true := by simp; omega
            have NX : Hid ((Lay.lds sg (i + 1)).any (liS off n) = false) := Lib.hid (by rw [EL.out, HN.out, if_pos hk]; unfold liS; dsimp only; rw [cw, decide_eq_false (by omega)]; rfl)
            clear hk hc hfw ha EL MONO cw
            go_wp2_with fail
            go_roundw
            case rel => exact ⟨i + 1, by omega, by go_num, Lib.hid ⟨BA.out, NX.out⟩⟩
            case measure => simp [intOf]; omega
          · have t3 : decide ((off : Int) < (addr : Int)) = false := by simp; omega
            have t3n : decide (off < addr) = false := by simp; omega
            obtain ⟨x, hx⟩ : ∃ x, x = off - addr := ⟨_, rfl⟩
            have w2 : IntKind.u64.wrap ((off : Int) - (addr : Int)) = (x : Int) := by rw [show (off : Int) - (addr : Int) = ((off - addr : Nat) : Int) by omega, ← hx]; exact Lay.wrap_small (by have := HO.out; unfold M at this; omega)
            have IN : Hid (∀ W : World, Calls Try.prog 38 #[.int .u64 x, .int .u64 n, .int .u64 msz] W fun e w' => e = .returned (.bool (decide (x + n ≤ msz))) ∧ W = w') := Lib.hid fun W => Lay.inside_any x n msz W (by have := HO.out; unfold M at this; omega) (by unfold Lay.M; omega) fM
            obtain ⟨rb, hrb⟩ : ∃ b, b = decide (x + n ≤ msz) := ⟨_, rfl⟩
            rw [← hrb] at IN
            have NX : Hid ((Lay.lds sg (i + 1)).any (liS off n) = rb) := Lib.hid (by rw [EL.out, HN.out, if_pos hk]; unfold liS; dsimp only; rw [cw, decide_eq_true (show addr ≤ off by omega), hrb, hx]; rfl)
            clear hk hc hfw ha EL cw hx hrb
            go_wp2_with fail
            refine (IN.out _).mono ?_
            rintro e w' ⟨rfl, rfl⟩
            cases rb with
            | true =>
              have HRT := Lib.hid (MONO.out NX.out)
              clear MONO
              go_wp2_with fail
              go_ret
              exact ⟨by rw [HRT.out]; rfl, BA.out⟩
            | false =>
              clear MONO
              go_wp2_with fail
              go_roundw
              case rel => exact ⟨i + 1, by omega, by go_num, Lib.hid ⟨BA.out, NX.out⟩⟩
              case measure => simp [intOf]; omega
      · have t1 : ((kd : Int) != 1) = true := by simp; omega
        have NX : Hid ((Lay.lds sg (i + 1)).any (liS off n) = false) := Lib.hid (by rw [EL.out, HN.out, if_neg hk]; rfl)
        clear hk EL MONO
        go_wp2_with fail
        go_roundw
        case rel => exact ⟨i + 1, by omega, by go_num, Lib.hid ⟨BA.out, NX.out⟩⟩
        case measure => simp [intOf]; omega
    · obtain rfl : i = gM := by omega
      have e1 : decide ((i : Int) < (i : Int)) = false := by simp
      have HRF := Lib.hid (show R = false by rw [HR.out]; exact hb.out.2)
      go_wp2_with fail
      go_ret
      exact ⟨by rw [HRF.out]; rfl, hb.out.1⟩
end Go.Proofs.Ytlenjpgkmikgpaa
