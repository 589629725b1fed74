import Derived.Test.YtlenjpgkmikgpaaMem
import Derived.Test.YtlenjpgkmikgpaaProg
import Derived.RangeFuncNested
import Derived.RangeFuncBound
import Derived.RangeFuncCalls
import Derived.RangeFuncLeaves
import Derived.Shelf.Abstract
import Derived.WalkKit
import Derived.OwnWalkIn
import Derived.TacticsInMore
import Derived.LoopNIn
import Derived.LoopIn
import Derived.RangeFuncBox
namespace Go.Proofs.Ytlenjpgkmikgpaa.Sym
open Go.RowKit Go.Shelf Go.Hos
set_option linter.unusedVariables false
attribute [local go_sem] Oper.semAt_some
/-- a symbol -/
structure SymD where
  nm : ByteArray
  v : Int
  sz : Int
  bd : Int
  df : Bool
def SymD.cs (s : SymD) : Array Value := #[.string s.nm, .int .u64 s.v, .int .u64 s.sz, .int .u8 s.bd, .bool s.df]
/-- an object -/
structure ObjD where
  ino : Int
  base : Int
  ty : Int
  en : Int
  ph : Int
  gA : Option Addr
  gM : Nat
  gQ : Nat
  nA : Option Addr
  nM : Nat
  nQ : Nat
  so : ByteArray
  rn : ByteArray
  sA : Option Addr
  sM : Nat
  sQ : Nat
  rA : Option Addr
  rM : Nat
  rQ : Nat
  sy : Nat → SymD
def ObjD.cs (o : ObjD) : Array Value := #[.int .i64 o.ino, .int .u64 o.base, .int .u16 o.ty, .int .u64 o.en, .int .u64 o.ph, .slice o.gA o.gM o.gQ, .slice o.nA o.nM o.nQ, .string o.so, .string o.rn, .slice o.sA o.sM o.sQ, .slice o.rA o.rM o.rQ]
/-- rows of structs that read: cell i * size + j -/
def StR (W : World) (B size : Nat) (A : Option Addr) (n : Nat) (O : Nat → Array Value) : Prop := 0 < n → ∃ ad, A = some ad ∧ ad.block < B ∧ ∀ i, i < n → ∀ j v, (O i)[j]? = some v → W.cell? (ad.add (i * size + j)) = some v
theorem StR.keep {W W' : World} {B size : Nat} {A : Option Addr} {n : Nat} {O : Nat → Array Value} (h : StR W B size A n O) (hk : ∀ p : Addr, p.block < B → W'.cell? p = W.cell? p) : StR W' B size A n O := fun hn => by
  obtain ⟨ad, e, hb, hc⟩ := h hn
  exact ⟨ad, e, hb, fun i hi j v hv => by rw [hk _ (by rw [block_of_add]; exact hb)]; exact hc i hi j v hv⟩
theorem StR.below {W W' : World} {B size : Nat} {A : Option Addr} {n : Nat} {O : Nat → Array Value} (h : StR W B size A n O) (hb : Below B W W') : StR W' B size A n O := h.keep fun _ hp => hb.cell hp
theorem StR.more {W : World} {B B' size : Nat} {A : Option Addr} {n : Nat} {O : Nat → Array Value} (h : StR W B size A n O) (hB : B ≤ B') : StR W B' size A n O := fun hn => by
  obtain ⟨ad, e, hb, hc⟩ := h hn
  exact ⟨ad, e, by omega, hc⟩
/-- objects that read, and their symbols -/
structure ObjR (W : World) (B : Nat) (A : Option Addr) (n : Nat) (O : Nat → ObjD) : Prop where
  os : StR W B 11 A n (fun i => (O i).cs)
  sy : ∀ i, i < n → StR W B 5 (O i).sA (O i).sM (fun k => ((O i).sy k).cs) ∧ (O i).sM ≤ maxLen
  len : n ≤ maxLen
theorem ObjR.below {W W' : World} {B : Nat} {A : Option Addr} {n : Nat} {O : Nat → ObjD} (h : ObjR W B A n O) (hb : Below B W W') : ObjR W' B A n O :=
  ⟨h.os.below hb, fun i hi => ⟨(h.sy i hi).1.below hb, (h.sy i hi).2⟩, h.len⟩
theorem ObjR.more {W : World} {B B' : Nat} {A : Option Addr} {n : Nat} {O : Nat → ObjD} (h : ObjR W B A n O) (hB : B ≤ B') : ObjR W B' A n O :=
  ⟨h.os.more hB, fun i hi => ⟨(h.sy i hi).1.more hB, (h.sy i hi).2⟩, h.len⟩
theorem add_field (a : Addr) (n k : Nat) : a.add (n + (k + 1)) = ⟨(a.add n).block, (a.add n).off + (k + 1), none⟩ := by
  unfold Addr.add
  rw [if_neg (by omega)]
  by_cases h : n = 0
  · simp [h]
  · simp [h, Nat.add_assoc]
/-- the cells of an object -/
theorem ObjR.cells {W : World} {B : Nat} {A : Option Addr} {n : Nat} {O : Nat → ObjD} (h : ObjR W B A n O) {i : Nat} (hi : i < n) : ∃ ad, A = some ad ∧ ad.block < B ∧
    W.cell? (ad.add (i * 11)) = some (.int .i64 (O i).ino) ∧ W.cell? ⟨(ad.add (i * 11)).block, (ad.add (i * 11)).off + 1, none⟩ = some (.int .u64 (O i).base) ∧ W.cell? ⟨(ad.add (i * 11)).block, (ad.add (i * 11)).off + 2, none⟩ = some (.int .u16 (O i).ty) ∧
    W.cell? ⟨(ad.add (i * 11)).block, (ad.add (i * 11)).off + 3, none⟩ = some (.int .u64 (O i).en) ∧ W.cell? ⟨(ad.add (i * 11)).block, (ad.add (i * 11)).off + 4, none⟩ = some (.int .u64 (O i).ph) ∧
    W.cell? ⟨(ad.add (i * 11)).block, (ad.add (i * 11)).off + 5, none⟩ = some (.slice (O i).gA (O i).gM (O i).gQ) ∧ W.cell? ⟨(ad.add (i * 11)).block, (ad.add (i * 11)).off + 6, none⟩ = some (.slice (O i).nA (O i).nM (O i).nQ) ∧
    W.cell? ⟨(ad.add (i * 11)).block, (ad.add (i * 11)).off + 7, none⟩ = some (.string (O i).so) ∧ W.cell? ⟨(ad.add (i * 11)).block, (ad.add (i * 11)).off + 8, none⟩ = some (.string (O i).rn) ∧
    W.cell? ⟨(ad.add (i * 11)).block, (ad.add (i * 11)).off + 9, none⟩ = some (.slice (O i).sA (O i).sM (O i).sQ) ∧ W.cell? ⟨(ad.add (i * 11)).block, (ad.add (i * 11)).off + 10, none⟩ = some (.slice (O i).rA (O i).rM (O i).rQ) := by
  obtain ⟨ad, rfl, hb, hc⟩ := h.os (by omega)
  have hc := hc i hi
  refine ⟨ad, rfl, hb, hc 0 _ rfl, ?_, ?_, ?_, ?_, ?_, ?_, ?_, ?_, ?_, ?_⟩
  all_goals rw [← add_field]
  · exact hc 1 _ rfl
  · exact hc 2 _ rfl
  · exact hc 3 _ rfl
  · exact hc 4 _ rfl
  · exact hc 5 _ rfl
  · exact hc 6 _ rfl
  · exact hc 7 _ rfl
  · exact hc 8 _ rfl
  · exact hc 9 _ rfl
  · exact hc 10 _ rfl
theorem sym_cells {W : World} {B : Nat} {A : Option Addr} {n : Nat} {S : Nat → SymD} (h : StR W B 5 A n (fun k => (S k).cs)) {k : Nat} (hk : k < n) : ∃ ad, A = some ad ∧ ad.block < B ∧
    W.cell? (ad.add (k * 5)) = some (.string (S k).nm) ∧ W.cell? ⟨(ad.add (k * 5)).block, (ad.add (k * 5)).off + 1, none⟩ = some (.int .u64 (S k).v) ∧ W.cell? ⟨(ad.add (k * 5)).block, (ad.add (k * 5)).off + 2, none⟩ = some (.int .u64 (S k).sz) ∧
    W.cell? ⟨(ad.add (k * 5)).block, (ad.add (k * 5)).off + 3, none⟩ = some (.int .u8 (S k).bd) ∧ W.cell? ⟨(ad.add (k * 5)).block, (ad.add (k * 5)).off + 4, none⟩ = some (.bool (S k).df) := by
  obtain ⟨ad, rfl, hb, hc⟩ := h (by omega)
  have hc := hc k hk
  refine ⟨ad, rfl, hb, hc 0 _ rfl, ?_, ?_, ?_, ?_⟩
  all_goals rw [← add_field]
  · exact hc 1 _ rfl
  · exact hc 2 _ rfl
  · exact hc 3 _ rfl
  · exact hc 4 _ rfl
/-- is it a definition? -/
def dfB (s : SymD) : Bool := s.df && s.bd != 0
/-- the definitions of object i's first m symbols -/
def dfI (O : Nat → ObjD) (i : Nat) : Nat → List (Nat × Nat)
  | 0 => []
  | m + 1 => dfI O i m ++ if dfB ((O i).sy m) then [(i, m)] else []
/-- the definitions of the first n objects -/
def dfO (O : Nat → ObjD) : Nat → List (Nat × Nat)
  | 0 => []
  | n + 1 => dfO O n ++ dfI O n (O n).sM
def encD (O : Nat → ObjD) (x : Nat × Nat) : Array Value := #[.agg #[.int .i64 (x.1 : Int), .int .i64 (x.2 : Int)], .agg ((O x.1).sy x.2).cs]
theorem dfI_pre (O : Nat → ObjD) (i : Nat) : ∀ m k, k ≤ m → dfI O i k <+: dfI O i m
  | 0, k, h => by
    have e : k = 0 := by omega
    rw [e]; exact List.prefix_refl _
  | m + 1, k, h => by
    by_cases e : k = m + 1
    · subst e; exact List.prefix_refl _
    · exact (dfI_pre O i m k (by omega)).trans (List.prefix_append _ _)
theorem dfO_pre (O : Nat → ObjD) : ∀ n i, i ≤ n → dfO O i <+: dfO O n
  | 0, i, h => by
    have e : i = 0 := by omega
    rw [e]; exact List.prefix_refl _
  | n + 1, i, h => by
    by_cases e : i = n + 1
    · subst e; exact List.prefix_refl _
    · exact (dfO_pre O n i (by omega)).trans (List.prefix_append _ _)
theorem df_pre (O : Nat → ObjD) {n i k : Nat} (hi : i < n) (hk : k ≤ (O i).sM) : dfO O i ++ dfI O i k <+: dfO O n := by
  refine List.IsPrefix.trans ?_ (dfO_pre O n (i + 1) (by omega))
  show _ <+: dfO O i ++ dfI O i (O i).sM
  exact (List.prefix_append_right_inj _).2 (dfI_pre O i _ k hk)
theorem dfI_yes {O : Nat → ObjD} {i k : Nat} (h : dfB ((O i).sy k) = true) : dfI O i (k + 1) = dfI O i k ++ [(i, k)] := by rw [dfI, if_pos h]
theorem dfI_no {O : Nat → ObjD} {i k : Nat} (h : dfB ((O i).sy k) = false) : dfI O i (k + 1) = dfI O i k := by rw [dfI, h]; simp
theorem pre_len {α : Type} {a b : List α} {x : α} (h : a ++ [x] <+: b) : a.length < b.length := by have := h.length_le; simp at this; omega

set_option maxRecDepth 100000 in
set_option maxHeartbeats 4000000 in
/-- the iterator -/
theorem defs1_in (F : Fence) (n : Nat) (h26 : F.fn 54) (hro : F.round = none) (hn : 1 ≤ n) (l Bs n₀ m c : Nat) (A : Option Addr) (O : Nat → ObjD) (J Jx : List (Nat × Nat) → World → Prop)
    (W : World) (hJ : AbidesFrom W.heap.size J) (hY : ∀ pre x W1, J pre W1 → pre.length < (dfO O m).length → YieldAt F (n - 1) Try.prog l (encD O x) W1 fun e W' =>
      (e = .returned (.bool true) ∧ J (pre ++ [x]) W' ∧ Below n₀ W1 W') ∨ (e = .returned (.bool false) ∧ Jx (pre ++ [x]) W'))
    (hBs : W.cell? ⟨Bs, 0, none⟩ = some (.slice A m c)) (hR : ObjR W n₀ A m O) (hn₀ : n₀ ≤ W.heap.size) (h0 : J [] W) :
    CallsIn F n Try.prog 54 #[.func (.yield l) #[] #[], .pointer (some ⟨Bs, 0, none⟩)] W fun e W' => (∃ v, e = .returned v) ∧
      ((∃ ys, ys = dfO O m ∧ J ys W') ∨ (∃ pre, pre <+: dfO O m ∧ Jx pre W')) := by
  have H := Lib.hid hR
  have hml := hR.len
  have hmm : maxLen = 9223372036854775807 := by simp [maxLen]
  have HY := Lib.hid hY
  have HJ := Lib.hid hJ
  clear hR hY hJ
  refine callsIn_of_wp Try.func54 rfl h26 ?_ hro
  simp only [Try.ntmps54, List.size_toArray, List.length_cons, List.length_nil, Nat.reduceAdd, Nat.reduceSub, Array.replicate_succ, Array.replicate_zero, List.push_toArray, List.append_toArray, List.nil_append, List.cons_append]
  gi_wp2
  gi_loopw [9] (fun v9 wr => ∃ i : Nat, i ≤ m ∧ v9 = .int .i64 i ∧ Hid (J (dfO O i) wr) ∧ Hid (Below n₀ W wr)) (fun v9 _ => m - (intOf v9).toNat)
  case atStart => exact ⟨0, Nat.zero_le _, rfl, h0, Below.refl _ _⟩
  case round =>
    obtain ⟨i, hi, rfl, hj, hb⟩ := hrel
    by_cases him : i < m
    · obtain ⟨ad, rfl, had, c0, c1, c2, c3, c4, c5, c6, c7, c8, c9, c10⟩ := (H.out.below hb.out).cells him
      obtain ⟨hsy0, hsl⟩ := H.out.sy i him
      obtain ⟨o, ho⟩ : ∃ o, o = O i := ⟨_, rfl⟩
      rw [← ho] at c0 c1 c2 c3 c4 c5 c6 c7 c8 c9 c10 hsl
      obtain ⟨ino, base, ty, en, ph, gA, gM, gQ, nA, nM, nQ, so, rn, sA, sM, sQ, rA, rM, rQ, sy⟩ := o
      dsimp only at c0 c1 c2 c3 c4 c5 c6 c7 c8 c9 c10 hsl
      have hsy := Lib.hid hsy0
      have HO := Lib.hid ho
      clear hsy0 ho
      have hb1 : Hid (Below n₀ W (wr.alloc (.cells #[.int .i64 ino, .int .u64 base, .int .u16 ty, .int .u64 en, .int .u64 ph, .slice gA gM gQ, .slice nA nM nQ, .string so, .string rn, .slice sA sM sQ, .slice rA rM rQ] 50))) := Lib.hid (hb.out.alloc (by have := hb.out.size; omega) _)
      have hj1 : Hid (J (dfO O i ++ dfI O i 0) (wr.alloc (.cells #[.int .i64 ino, .int .u64 base, .int .u16 ty, .int .u64 en, .int .u64 ph, .slice gA gM gQ, .slice nA nM nQ, .string so, .string rn, .slice sA sM sQ, .slice rA rM rQ] 50))) := by
        have := HJ.out _ _ _ none hj.out (World.grownBy_alloc wr (.cells #[.int .i64 ino, .int .u64 base, .int .u16 ty, .int .u64 en, .int .u64 ph, .slice gA gM gQ, .slice nA nM nQ, .string so, .string rn, .slice sA sM sQ, .slice rA rM rQ] 50) none) (fun r e => by cases e)
        exact Lib.hid (by simpa [dfI] using this)
      have hsl' : sM ≤ 9223372036854775807 := by omega
      gi_wp2
      generalize wr.alloc (.cells #[.int .i64 ino, .int .u64 base, .int .u16 ty, .int .u64 en, .int .u64 ph, .slice gA gM gQ, .slice nA nM nQ, .string so, .string rn, .slice sA sM sQ, .slice rA rM rQ] 50) = w1 at *
      clear c0 c1 c2 c3 c4 c5 c6 c7 c8 c9 c10
      gi_loopw [18] (fun v18 wr => ∃ k : Nat, k ≤ sM ∧ v18 = .int .i64 k ∧ Hid (J (dfO O i ++ dfI O i k) wr) ∧ Hid (Below n₀ W wr)) (fun v18 _ => sM - (intOf v18).toNat)
      case atStart => exact ⟨0, Nat.zero_le _, rfl, hj1, hb1⟩
      case round =>
        obtain ⟨k, hk, rfl, hj2, hb2⟩ := hrel
        have hsM : Hid ((O i).sM = sM ∧ (O i).sy = sy) := by rw [← HO.out]; exact ⟨rfl, rfl⟩
        by_cases hks : k < sM
        · have hsy2 : StR wr n₀ 5 sA sM (fun k => (sy k).cs) := by
            have := hsy.out.below hb2.out
            rw [← HO.out] at this
            exact this
          obtain ⟨ads, rfl, has, d0, d1, d2, d3, d4⟩ := sym_cells hsy2 hks
          have HD := Lib.hid (rfl : (sy k) = (sy k))
          obtain ⟨s, hs⟩ : ∃ s, s = sy k := ⟨_, rfl⟩
          have hdf : Hid ((O i).sy k = s) := by rw [hsM.out.2, hs]; exact rfl
          rw [← hs] at d0 d1 d2 d3 d4
          obtain ⟨nm, v, sz, bd, df⟩ := s
          dsimp only at d0 d1 d2 d3 d4
          have ha : Below n₀ wr (wr.alloc (.cells #[.string nm, .int .u64 v, .int .u64 sz, .int .u8 bd, .bool df] 61)) := (Below.refl _ _).alloc (by have := hb2.out.size; omega) _
          have hj3 : Hid (J (dfO O i ++ dfI O i k) (wr.alloc (.cells #[.string nm, .int .u64 v, .int .u64 sz, .int .u8 bd, .bool df] 61))) := HJ.out _ _ _ none hj2.out (World.grownBy_alloc wr _ none) (fun r e => by cases e)
          have hb3 : Hid (Below n₀ W (wr.alloc (.cells #[.string nm, .int .u64 v, .int .u64 sz, .int .u8 bd, .bool df] 61))) := Lib.hid (hb2.out.trans ha)
          clear hs ha hsy2
          by_cases hd : df = true ∧ bd ≠ 0
          · obtain ⟨rfl, hbd⟩ := hd
            have e1 : (bd != 0) = true := by simpa using hbd
            have hyes : Hid (dfI O i (k + 1) = dfI O i k ++ [(i, k)]) := by
              refine Lib.hid (dfI_yes ?_)
              rw [hdf.out]; simp [dfB, hbd]
            have hpre : (dfO O i ++ dfI O i (k + 1)) <+: dfO O m := df_pre O him (by rw [hsM.out.1]; omega)
            rw [hyes.out, ← List.append_assoc] at hpre
            obtain ⟨fn, tmps, assign, body, hy, hR⟩ := HY.out _ (i, k) _ hj3.out (pre_len hpre)
            have HP := Lib.hid hpre
            have hy2 := hy
            unfold encD at hy2
            dsimp only at hy2
            rw [hdf.out] at hy2
            unfold SymD.cs at hy2
            dsimp only at hy2
            clear hy hpre hbd
            gi_wp2
            refine hR.mono ?_
            rintro e W3 (⟨rfl, hJ3, hk3⟩ | ⟨rfl, hJx3⟩)
            · have hj4 : Hid (J (dfO O i ++ dfI O i (k + 1)) W3) := Lib.hid (by rw [hyes.out, ← List.append_assoc]; exact hJ3)
              have hb4 : Hid (Below n₀ W W3) := Lib.hid (hb3.out.trans hk3)
              clear hJ3 hk3 hR hy2 d0 d1 d2 d3 d4
              gi_wp2
              go_roundw
              case rel => exact ⟨k + 1, by omega, by go_num, hj4, hb4⟩
              case measure => simp [intOf]; omega
            · have hj4 := Lib.hid hJx3
              clear hJx3 hR hy2 d0 d1 d2 d3 d4
              gi_wp2
              refine bodyPost_ret (results_none rfl _ _ _) rfl ?_
              exact ⟨⟨_, rfl⟩, .inr ⟨_, HP.out, hj4.out⟩⟩
          · have hno : Hid (dfI O i (k + 1) = dfI O i k) := by
              refine Lib.hid (dfI_no ?_)
              rw [hdf.out]
              cases df
              · simp [dfB]
              · have : bd = 0 := by
                  by_cases e : bd = 0
                  · exact e
                  · exact absurd ⟨rfl, e⟩ hd
                simp [dfB, this]
            rw [← hno.out] at hj3
            by_cases hdf1 : df = true
            · subst hdf1
              have hb0 : bd = 0 := by
                by_cases e : bd = 0
                · exact e
                · exact absurd ⟨rfl, e⟩ hd
              subst hb0
              clear hd hno hdf
              gi_wp2
              refine ⟨fun _ h => (by cases h), ?_⟩
              gi_wp2
              go_roundw
              case rel => exact ⟨k + 1, by omega, by go_num, hj3, hb3⟩
              case measure => simp [intOf]; omega
            · obtain rfl : df = false := by simpa using hdf1
              clear hd hno hdf hdf1
              gi_wp2
              refine ⟨fun _ h => (by cases h), ?_⟩
              gi_wp2
              go_roundw
              case rel => exact ⟨k + 1, by omega, by go_num, hj3, hb3⟩
              case measure => simp [intOf]; omega
        · have hkk : k = sM := by omega
          have hj4 : Hid (J (dfO O (i + 1)) wr) := by
            have := hj2.out
            rw [hkk, ← hsM.out.1] at this
            exact this
          clear hkk
          gi_wp2
          go_roundw
          case rel => exact ⟨i + 1, by omega, by go_num, hj4, hb2⟩
          case measure => simp [intOf]; omega
    · have him2 : i = m := by omega
      have hj4 : Hid (J (dfO O m) wr) := by rw [← him2]; exact hj
      clear him2 hj
      gi_wp2
      go_end0
      exact ⟨⟨_, rfl⟩, .inl ⟨_, rfl, hj4.out⟩⟩
end Go.Proofs.Ytlenjpgkmikgpaa.Sym
