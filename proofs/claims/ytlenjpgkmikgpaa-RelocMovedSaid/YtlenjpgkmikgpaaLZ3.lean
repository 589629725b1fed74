import Derived.Test.YtlenjpgkmikgpaaLZ2
import Derived.RangeFuncNested
import Derived.RangeFuncBound
import Derived.RangeFuncCalls
import Derived.RangeFuncLeaves
import Derived.Shelf.Abstract
import Derived.OwnWalkIn
import Derived.TacticsInMore
import Derived.LoopNIn
import Derived.LoopIn
import Derived.RangeFuncBox
namespace Go.Proofs.Ytlenjpgkmikgpaa.Lay
open Go.RowKit Go.Shelf Go.Hos
set_option linter.unusedVariables false
/-- a segment -/
structure SegD where
  kd : Nat
  fl : Nat
  off : Nat
  addr : Nat
  fsz : Nat
  msz : Nat
def SegD.cs (s : SegD) : Array Value := #[.int .u32 s.kd, .int .u8 s.fl, .int .u64 s.off, .int .u64 s.addr, .int .u64 s.fsz, .int .u64 s.msz]
/-- an object -/
structure ObjD where
  ino : Int
  base : Nat
  ty : Nat
  en : Int
  ph : Int
  gA : Option Addr
  gM : Nat
  gQ : Nat
  nA : Option Addr
  nM : Nat
  nQ : Nat
  so : ByteArray
  rn : ByteArray
  sA : Option Addr
  sM : Nat
  sQ : Nat
  rA : Option Addr
  rM : Nat
  rQ : Nat
  sg : Nat → SegD
def ObjD.cs (o : ObjD) : Array Value := #[.int .i64 o.ino, .int .u64 o.base, .int .u16 o.ty, .int .u64 o.en, .int .u64 o.ph, .slice o.gA o.gM o.gQ, .slice o.nA o.nM o.nQ, .string o.so, .string o.rn, .slice o.sA o.sM o.sQ, .slice o.rA o.rM o.rQ]
def segC (S : Nat → SegD) : Nat → Array Value := fun k => (S k).cs
/-- rows of structs that read: cell i * size + j -/
def StR (W : World) (B size : Nat) (A : Option Addr) (n : Nat) (O : Nat → Array Value) : Prop := 0 < n → ∃ ad, A = some ad ∧ ad.block < B ∧ ∀ i, i < n → ∀ j v, (O i)[j]? = some v → W.cell? (ad.add (i * size + j)) = some v
theorem StR.keep {W W' : World} {B size : Nat} {A : Option Addr} {n : Nat} {O : Nat → Array Value} (h : StR W B size A n O) (hk : ∀ p : Addr, p.block < B → W'.cell? p = W.cell? p) : StR W' B size A n O := fun hn => by
  obtain ⟨ad, e, hb, hc⟩ := h hn
  exact ⟨ad, e, hb, fun i hi j v hv => by rw [hk _ (by rw [block_of_add]; exact hb)]; exact hc i hi j v hv⟩
theorem StR.below {W W' : World} {B size : Nat} {A : Option Addr} {n : Nat} {O : Nat → Array Value} (h : StR W B size A n O) (hb : Below B W W') : StR W' B size A n O := h.keep fun _ hp => hb.cell hp
theorem StR.more {W : World} {B B' size : Nat} {A : Option Addr} {n : Nat} {O : Nat → Array Value} (h : StR W B size A n O) (hB : B ≤ B') : StR W B' size A n O := fun hn => by
  obtain ⟨ad, e, hb, hc⟩ := h hn
  exact ⟨ad, e, by omega, hc⟩
theorem add_field (a : Addr) (n k : Nat) : a.add (n + (k + 1)) = ⟨(a.add n).block, (a.add n).off + (k + 1), none⟩ := by
  unfold Addr.add
  rw [if_neg (by omega)]
  by_cases h : n = 0
  · simp [h]
  · simp [h, Nat.add_assoc]
theorem seg_cells {W : World} {B : Nat} {A : Option Addr} {n : Nat} {S : Nat → SegD} (h : StR W B 6 A n (segC S)) {k : Nat} (hk : k < n) : ∃ ad, A = some ad ∧ ad.block < B ∧
    W.cell? (ad.add (k * 6)) = some (.int .u32 (S k).kd) ∧ W.cell? ⟨(ad.add (k * 6)).block, (ad.add (k * 6)).off + 1, none⟩ = some (.int .u8 (S k).fl) ∧ W.cell? ⟨(ad.add (k * 6)).block, (ad.add (k * 6)).off + 2, none⟩ = some (.int .u64 (S k).off) ∧
    W.cell? ⟨(ad.add (k * 6)).block, (ad.add (k * 6)).off + 3, none⟩ = some (.int .u64 (S k).addr) ∧ W.cell? ⟨(ad.add (k * 6)).block, (ad.add (k * 6)).off + 4, none⟩ = some (.int .u64 (S k).fsz) ∧ W.cell? ⟨(ad.add (k * 6)).block, (ad.add (k * 6)).off + 5, none⟩ = some (.int .u64 (S k).msz) := by
  obtain ⟨ad, rfl, hb, hc⟩ := h (by omega)
  have hc := hc k hk
  refine ⟨ad, rfl, hb, hc 0 _ rfl, ?_, ?_, ?_, ?_, ?_⟩
  all_goals rw [← add_field]
  · exact hc 1 _ rfl
  · exact hc 2 _ rfl
  · exact hc 3 _ rfl
  · exact hc 4 _ rfl
  · exact hc 5 _ rfl
/-- the loads among the first n segments -/
def lds (S : Nat → SegD) : Nat → List SegD
  | 0 => []
  | n + 1 => lds S n ++ if (S n).kd = 1 then [S n] else []
def flatS : List SegD → List Value
  | [] => []
  | s :: r => s.cs.toList ++ flatS r
theorem flatS_append : ∀ a b : List SegD, flatS (a ++ b) = flatS a ++ flatS b
  | [], b => rfl
  | s :: r, b => by show _ ++ flatS (r ++ b) = _; rw [flatS_append r b, ← List.append_assoc]; rfl
theorem info56 : (Try.prog.info? 67).map (fun i => (i.zero, i.size, i.bytes)) = some (some (.agg #[.int .u32 0, .int .u8 0, .int .u64 0, .int .u64 0, .int .u64 0, .int .u64 0]), 6, 40) := by kernel_rfl
structure LS (w : World) (o : ObjD) (l : List SegD) (v : Value) (W : World) : Prop where
  bl : Below w.heap.size w W
  bo : Blk W w.heap.size 50 o.cs
  ow : W.ownsRow (w.heap.size + 1) 67 6 v l.length (flatS l)
theorem LS.push {w W W' : World} {o : ObjD} {l : List SegD} {v v' : Value} {s : SegD} {b : Obj} (h : LS w o l v W) (hown : W'.ownsRow (w.heap.size + 1) 67 6 v' (l.length + 1) (flatS l ++ s.cs.toList)) (hg : (W.alloc b).grownBy W' v.ownBlock) : LS w o (l ++ [s]) v' W' := by
  have ho := h.ow.alloc b
  refine ⟨(h.bl.alloc h.bl.size b).trans (below_own hg (by have := h.bl.size; simp; omega) fun k hk => by have := (ho.lt k hk).1; omega), (h.bo.alloc b).grown hg fun e => by have := (ho.lt _ e.symm).1; omega, ?_⟩
  rw [List.length_append, flatS_append]
  simpa [flatS] using hown
set_option maxRecDepth 20000 in
set_option maxHeartbeats 1600000 in
theorem rloads_any (o : ObjD) (w : World) (hS : StR w w.heap.size 6 o.gA o.gM (segC o.sg)) (hn : o.gM ≤ 40) :
    Calls Try.prog 24 #[.agg o.cs] w fun e W' => ∃ A' c', e = .returned (.slice A' (lds o.sg o.gM).length c') ∧ W'.ownsRow w.heap.size 67 6 (.slice A' (lds o.sg o.gM).length c') (lds o.sg o.gM).length (flatS (lds o.sg o.gM)) ∧ Below w.heap.size w W' := by
  have hmm : maxLen = 9223372036854775807 := by simp [maxLen]
  obtain ⟨i0, hi0, hz0, hz1, hz2⟩ := info_parts info56
  obtain ⟨ino, base, ty, en, ph, gA, gM, gQ, nA, nM, nQ, so, rn, sA, sM, sQ, rA, rM, rQ, sg⟩ := o
  dsimp only at hS hn ⊢
  have HS := Lib.hid hS
  rw [show (ObjD.mk ino base ty en ph gA gM gQ nA nM nQ so rn sA sM sQ rA rM rQ sg).cs = #[.int .i64 ino, .int .u64 base, .int .u16 ty, .int .u64 en, .int .u64 ph, .slice gA gM gQ, .slice nA nM nQ, .string so, .string rn, .slice sA sM sQ, .slice rA rM rQ] from rfl]
  have C0 : Hid (LS w ⟨ino, base, ty, en, ph, gA, gM, gQ, nA, nM, nQ, so, rn, sA, sM, sQ, rA, rM, rQ, sg⟩ [] (.slice none 0 0) (w.alloc (.cells #[.int .i64 ino, .int .u64 base, .int .u16 ty, .int .u64 en, .int .u64 ph, .slice gA gM gQ, .slice nA nM nQ, .string so, .string rn, .slice sA sM sQ, .slice rA rM rQ] 50))) :=
    Lib.hid ⟨(Below.refl _ _).alloc (Nat.le_refl _) _, Blk.new _ _ _, World.ownsRow_nil _ _ _ _⟩
  clear hS
  go_enter Try.func24, Try.ntmps24
  go_wp2_with fail
  generalize w.alloc (.cells #[.int .i64 ino, .int .u64 base, .int .u16 ty, .int .u64 en, .int .u64 ph, .slice gA gM gQ, .slice nA nM nQ, .string so, .string rn, .slice sA sM sQ, .slice rA rM rQ] 50) = W0 at C0 ⊢
  go_loopw [3, 4] (fun v3 v4 wr => ∃ (i k q : Nat) (Ao : Option Addr), i ≤ gM ∧ v3 = .slice Ao k q ∧ v4 = .int .i64 i ∧ Hid (k = (lds sg i).length ∧ k ≤ i) ∧ Hid (LS w ⟨ino, base, ty, en, ph, gA, gM, gQ, nA, nM, nQ, so, rn, sA, sM, sQ, rA, rM, rQ, sg⟩ (lds sg i) (.slice Ao k q) wr)) (fun _ v4 _ => gM - (intOf v4).toNat)
  case atStart => exact ⟨0, 0, 0, none, Nat.zero_le _, rfl, rfl, Lib.hid ⟨rfl, Nat.le_refl _⟩, C0⟩
  case round =>
    clear C0
    obtain ⟨i, k, q, Ao, hi, rfl, rfl, hk, ls⟩ := hrel
    have b5 : wr.cell? ⟨w.heap.size, 5, none⟩ = some (.slice gA gM gQ) := (ls.out.bo.cell 5).trans rfl
    have lb := ls.out.bo.lt
    by_cases him : i < gM
    · have e1 : decide ((i : Int) < (gM : Int)) = true := by simp; omega
      have e2 : (i : Int) < (gM : Int) := by omega
      obtain ⟨ad, rfl, had, d0, d1, d2, d3, d4, d5⟩ := seg_cells (HS.out.below ls.out.bl) him
      obtain ⟨s, hs⟩ : ∃ s, s = sg i := ⟨_, rfl⟩
      rw [← hs] at d0 d1 d2 d3 d4 d5
      have HSG := Lib.hid hs
      obtain ⟨kd, fl, off, addr, fsz, msz⟩ := s
      dsimp only at d0 d1 d2 d3 d4 d5
      have l2 := World.block_lt_of_cell? _ _ d0
      clear hs
      by_cases hkd : kd = 1
      · subst hkd
        have HK := hk.out
        obtain ⟨xs, hxs⟩ : ∃ x, x = flatS (lds sg i) := ⟨_, rfl⟩
        have OW := ls.out.ow
        rw [← hxs, ← HK.1] at OW
        have HOW := Lib.hid OW
        have HXS := Lib.hid hxs
        have hki : k ≤ 40 := by omega
        have EL : Hid (lds sg (i + 1) = lds sg i ++ [⟨1, fl, off, addr, fsz, msz⟩]) := Lib.hid (by rw [lds, ← HSG.out]; rfl)
        clear OW hxs HK
        go_wp2_with (at_builtin
                     refine wpList_append_any _ rfl (.tmp 21) (.tmp 28) _ rfl (w.heap.size + 1) 67 i0 _ 6 40 Try.underlying46 hi0 hz0 hz1 hz2 rfl (by omega) (.slice Ao k q) k xs rfl (HOW.out.alloc _) (wr.heap.size + 1) (some ⟨wr.heap.size, 0, none⟩) 1 1 [.int .u32 1, .int .u8 fl, .int .u64 off, .int .u64 addr, .int .u64 fsz, .int .u64 msz] rfl (reads_new wr 67 6 1 [.int .u32 1, .int .u8 fl, .int .u64 off, .int .u64 addr, .int .u64 fsz, .int .u64 msz] rfl rfl) (by simp [Value.oneCell']) (by simp only [maxLen]; omega) (by omega) (by simp; omega) ?_
                     intro v1 w3 hown1 hg1 hat1
                     have LN := Lib.hid (LS.push (s := ⟨1, fl, off, addr, fsz, msz⟩) ls.out (by rw [← HXS.out, ← hk.out.1]; exact hown1) hg1)
                     obtain ⟨A3, k3, rfl⟩ := ownsRow_val hown1
                     rw [← EL.out] at LN
                     clear hown1 hg1 hat1)
        go_wp2_with fail
        go_roundw
        case rel => exact ⟨i + 1, k + 1, k3, A3, by omega, rfl, by go_num, Lib.hid ⟨by rw [EL.out, List.length_append, ← hk.out.1]; rfl, by have := hk.out.2; omega⟩, LN⟩
        case measure => simp [intOf]; omega
      · have f1 : ((kd : Int) == 1) = false := by simp; omega
        have EL : Hid (lds sg (i + 1) = lds sg i) := Lib.hid (by rw [lds, ← HSG.out]; simp [hkd])
        clear hkd
        go_wp2_with fail
        go_roundw
        case rel => exact ⟨i + 1, k, q, Ao, by omega, rfl, by go_num, Lib.hid ⟨by rw [EL.out]; exact hk.out.1, by have := hk.out.2; omega⟩, by rw [EL.out]; exact ls⟩
        case measure => simp [intOf]; omega
    · obtain rfl : i = gM := by omega
      have d1 : decide ((i : Int) < (i : Int)) = false := by simp
      go_wp2_with fail
      go_ret
      have h := ls.out.ow
      rw [hk.out.1] at h ⊢
      exact ⟨_, _, rfl, owns_base h (by omega), ls.out.bl⟩
end Go.Proofs.Ytlenjpgkmikgpaa.Lay
