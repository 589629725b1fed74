import Derived.Test.YtlenjpgkmikgpaaR1
import Derived.Test.YtlenjpgkmikgpaaLZ11
namespace Go.Proofs.Ytlenjpgkmikgpaa
open Go.RowKit Go.Shelf Go.Hos
set_option linter.unusedVariables false
/-! the document's Lies -/
theorem any_take {l : List Lay.SegD} {f : Lay.SegD → Bool} {i : Nat} (h : i < l.length) : (l.take (i + 1)).any f = ((l.take i).any f || f (Lay.fnS l i)) := by
  rw [Lay.take_fnS h, List.any_append]; simp
theorem any_take_mono {l : List Lay.SegD} {f : Lay.SegD → Bool} {i : Nat} (h : (l.take i).any f = true) : l.any f = true := by
  obtain ⟨x, hx, hf⟩ := List.any_eq_true.1 h
  exact List.any_eq_true.2 ⟨x, List.mem_of_mem_take hx, hf⟩
set_option maxRecDepth 20000 in
set_option maxHeartbeats 3200000 in
theorem rlies_any (o : Lay.ObjD) (off n : Nat) (w : World) (hS : Lay.StR w w.heap.size 6 o.gA o.gM (Lay.segC o.sg)) (hf : ∀ k, (o.sg k).fits) (hm : o.gM ≤ 40) (ho : off < M) (hn : n ≤ 8) :
    Calls Try.prog 17 #[.agg o.cs, .int .u64 off, .int .i64 n] w fun e W' => e = .returned (.bool (lyB o off n)) ∧ Below w.heap.size w W' := by
  have hmm : maxLen = 9223372036854775807 := by simp [maxLen]
  obtain ⟨R, hR⟩ : ∃ b, b = lyB o off n := ⟨_, rfl⟩
  rw [← hR]
  have HF := Lib.hid hf; have HO := Lib.hid ho; have HS := Lib.hid hS
  obtain ⟨l, hl⟩ : ∃ x, x = Lay.lds o.sg o.gM := ⟨_, rfl⟩
  obtain ⟨L, hL⟩ : ∃ x, x = l.length := ⟨_, rfl⟩
  have hL40 : L ≤ 40 := by rw [hL, hl]; have := Lay.lds_len o.sg o.gM; omega
  have HR := Lib.hid (show R = l.any (liS off n) by rw [hR, hl]; rfl)
  have FS : Hid (∀ i, i < L → (Lay.fnS l i).addr < M ∧ (Lay.fnS l i).msz < M) := Lib.hid fun i hi => by
    have := Lay.fnS_fits (i := i) hf (by rw [← hl, ← hL]; exact hi)
    rw [← hl] at this
    exact ⟨this.2.1, this.2.2.2⟩
  have LT : Hid (∀ W : World, Lay.StR W W.heap.size 6 o.gA o.gM (Lay.segC o.sg) → Calls Try.prog 24 #[.agg o.cs] W fun e W' => ∃ A' c', e = .returned (.slice A' L c') ∧ Hid (Lay.StR W' W'.heap.size 6 A' L (Lay.segC (Lay.fnS l))) ∧ Below W.heap.size W W') := Lib.hid fun W h => by
    refine (Lay.rloads_any o W h hm).mono ?_
    rintro e W' ⟨A', c', rfl, ow, b⟩
    rw [hL, hl]
    exact ⟨A', c', rfl, Lib.hid (Lay.row_fnS ow), b⟩
  obtain ⟨O0, hO0⟩ : ∃ x, x = o := ⟨_, rfl⟩
  rw [← hO0] at HS LT
  have hcs : O0.cs = o.cs := by rw [hO0]
  rw [← hcs]
  obtain ⟨ino, base, ty, en, ph, gA, gM, gQ, nA, nM, nQ, so, rn, sA, sM, sQ, rA, rM, rQ, sg⟩ := o
  rw [show (Lay.ObjD.mk ino base ty en ph gA gM gQ nA nM nQ so rn sA sM sQ rA rM rQ sg).cs = #[.int .i64 ino, .int .u64 base, .int .u16 ty, .int .u64 en, .int .u64 ph, .slice gA gM gQ, .slice nA nM nQ, .string so, .string rn, .slice sA sM sQ, .slice rA rM rQ] from rfl] at hcs
  have HCS := Lib.hid hcs
  obtain ⟨w0, hw0⟩ : ∃ x, x = w.alloc (.cells #[.int .i64 ino, .int .u64 base, .int .u16 ty, .int .u64 en, .int .u64 ph, .slice gA gM gQ, .slice nA nM nQ, .string so, .string rn, .slice sA sM sQ, .slice rA rM rQ] 50) := ⟨_, rfl⟩
  have B0 : Hid (Below w.heap.size w w0) := by rw [hw0]; exact Lib.hid ((Below.refl _ _).alloc (Nat.le_refl _) _)
  have HW0 := Lib.hid hw0
  have wn : IntKind.u64.wrap (n : Int) = (n : Int) := Lay.wrap_small (by unfold Lay.M; omega)
  rw [hcs]
  clear hS hf hR hw0 ho hO0 hcs hl hm
  have HLL := Lib.hid hL
  clear hL
  go_enter Try.func17, Try.ntmps17
  go_wp2_with fail
  rw [← HW0.out, ← HCS.out]
  refine (LT.out w0 ((HS.out.below B0.out).more B0.out.size)).mono ?_
  rintro e w1 ⟨A', c', rfl, R1, b1⟩
  have B1 := Lib.hid (B0.out.trans (b1.mono B0.out.size))
  clear b1 B0 HW0
  go_wp2_with fail
  go_loopw [8] (fun v8 wr => ∃ i : Nat, i ≤ L ∧ v8 = .int .i64 i ∧ Hid (Below w1.heap.size w1 wr ∧ (l.take i).any (liS off n) = false)) (fun v8 _ => L - (intOf v8).toNat)
  case atStart => exact ⟨0, Nat.zero_le _, rfl, Lib.hid ⟨Below.refl _ _, by simp⟩⟩
  case round =>
    obtain ⟨i, hi, rfl, hb⟩ := hrel
    have BW := Lib.hid (B1.out.trans (hb.out.1.mono B1.out.size))
    by_cases him : i < L
    · have e1 : decide ((i : Int) < (L : Int)) = true := by simp; omega
      have e2 : (i : Int) < (L : Int) := by omega
      obtain ⟨ad, rfl, had, d0, d1, d2, d3, d4, d5⟩ := Lay.seg_cells (R1.out.below hb.out.1) him
      have EL : Hid ((l.take (i + 1)).any (liS off n) = liS off n (Lay.fnS l i)) := Lib.hid (by rw [any_take (by rw [← HLL.out]; exact him), hb.out.2, Bool.false_or])
      have FT := FS.out i him
      obtain ⟨s, hs⟩ : ∃ s, s = Lay.fnS l i := ⟨_, rfl⟩
      rw [← hs] at d0 d1 d2 d3 d4 d5 EL FT
      obtain ⟨kd, fl, so2, addr, fsz, msz⟩ := s
      dsimp only at d0 d1 d2 d3 d4 d5 FT
      have fA := FT.1; have fM := FT.2
      have lad := World.block_lt_of_cell? _ _ d0
      have BA : Hid (Below w1.heap.size w1 (wr.alloc (.cells #[.int .u32 kd, .int .u8 fl, .int .u64 so2, .int .u64 addr, .int .u64 fsz, .int .u64 msz] 67))) := Lib.hid (hb.out.1.alloc hb.out.1.size _)
      have BA2 : Hid (Below w.heap.size w (wr.alloc (.cells #[.int .u32 kd, .int .u8 fl, .int .u64 so2, .int .u64 addr, .int .u64 fsz, .int .u64 msz] 67))) := Lib.hid (BW.out.alloc BW.out.size _)
      clear hs FT hb BW
      obtain ⟨fw, hfw⟩ : ∃ x, x = bits .and .u8 (fl : Int) 2 := ⟨_, rfl⟩
      have w1' : bits .and .u8 (fl : Int) 2 = fw := hfw.symm
      by_cases hc : fw = 0
      · have t2 : (fw != 0) = false := by simp [hc]
        have NX : Hid ((l.take (i + 1)).any (liS off n) = false) := Lib.hid (by rw [EL.out]; show (canW fl && _ && _) = false; unfold canW; rw [← hfw, hc]; rfl)
        clear hc hfw EL fA fM
        go_wp2_with fail
        go_roundw
        case rel => exact ⟨i + 1, by omega, by go_num, Lib.hid ⟨BA.out, NX.out⟩⟩
        case measure => simp [intOf]; omega
      · have t2 : (fw != 0) = true := by simp [hc]
        have cw : canW fl = true := by unfold canW; rw [← hfw]; simp [hc]
        by_cases ha : addr ≤ off
        · have t3 : decide ((addr : Int) ≤ (off : Int)) = true := by simp; omega
          have t3n : decide (addr ≤ off) = true := by simp; omega
          obtain ⟨x, hx⟩ : ∃ x, x = off - addr := ⟨_, rfl⟩
          have w2 : IntKind.u64.wrap ((off : Int) - (addr : Int)) = (x : Int) := by rw [show (off : Int) - (addr : Int) = ((off - addr : Nat) : Int) by omega, ← hx]; exact Lay.wrap_small (by have := HO.out; unfold M at this; omega)
          by_cases hxm : x ≤ msz
          · have t4 : decide ((x : Int) ≤ (msz : Int)) = true := by simp; omega
            have t4n : decide (x ≤ msz) = true := by simp; omega
            obtain ⟨y, hy⟩ : ∃ y, y = msz - x := ⟨_, rfl⟩
            have w3 : IntKind.u64.wrap ((msz : Int) - (x : Int)) = (y : Int) := by rw [show (msz : Int) - (x : Int) = ((msz - x : Nat) : Int) by omega, ← hy]; exact Lay.wrap_small (by unfold M at fM; omega)
            by_cases hny : n ≤ y
            · have t5 : decide ((n : Int) ≤ (y : Int)) = true := by simp; omega
              have t5n : decide (n ≤ y) = true := by simp; omega
              have HRT : Hid (R = true) := Lib.hid (by
                rw [HR.out]
                refine any_take_mono (i := i + 1) ?_
                rw [EL.out]
                unfold liS; dsimp only
                rw [cw, decide_eq_true ha, decide_eq_true (by omega)]; rfl)
              clear hc hfw ha EL cw hx hxm hy hny fA fM
              go_wp2_with fail
              go_ret
              exact ⟨by rw [HRT.out]; rfl, BA2.out⟩
            · have t5 : decide ((n : Int) ≤ (y : Int)) = false := by simp; omega
              have t5n : decide (n ≤ y) = false := by simp; omega
              have NX : Hid ((l.take (i + 1)).any (liS off n) = false) := Lib.hid (by rw [EL.out]; unfold liS; dsimp only; rw [decide_eq_false (show ¬ off - addr + n ≤ msz by omega), Bool.and_false])
              clear hc hfw ha EL cw hx hxm hy hny fA fM
              go_wp2_with fail
              go_roundw
              case rel => exact ⟨i + 1, by omega, by go_num, Lib.hid ⟨BA.out, NX.out⟩⟩
              case measure => simp [intOf]; omega
          · have t4 : decide ((x : Int) ≤ (msz : Int)) = false := by simp; omega
            have t4n : decide (x ≤ msz) = false := by simp; omega
            have NX : Hid ((l.take (i + 1)).any (liS off n) = false) := Lib.hid (by rw [EL.out]; unfold liS; dsimp only; rw [decide_eq_false (show ¬ off - addr + n ≤ msz by omega), Bool.and_false])
            clear hc hfw ha EL cw hx hxm fA fM
            go_wp2_with fail
            go_roundw
            case rel => exact ⟨i + 1, by omega, by go_num, Lib.hid ⟨BA.out, NX.out⟩⟩
            case measure => simp [intOf]; omega
        · have t3 : decide ((addr : Int) ≤ (off : Int)) = false := by simp; omega
          have t3n : decide (addr ≤ off) = false := by simp; omega
          have NX : Hid ((l.take (i + 1)).any (liS off n) = false) := Lib.hid (by rw [EL.out]; unfold liS; dsimp only; rw [decide_eq_false ha, Bool.and_false, Bool.false_and])
          clear hc hfw ha EL cw fA fM
          go_wp2_with fail
          go_roundw
          case rel => exact ⟨i + 1, by omega, by go_num, Lib.hid ⟨BA.out, NX.out⟩⟩
          case measure => simp [intOf]; omega
    · obtain rfl : i = L := by omega
      have e1 : decide ((i : Int) < (i : Int)) = false := by simp
      have HRF := Lib.hid (show R = false by rw [HR.out]; have := hb.out.2; rwa [HLL.out, List.take_length] at this)
      go_wp2_with fail
      go_ret
      exact ⟨by rw [HRF.out]; rfl, BW.out⟩
/-- what a relocation's symbol comes to -/
noncomputable def symP (O : Nat → ObjD) (m i : Nat) (r : RelD) : Int × Int := if r.sym = 0 ∨ r.ty = 8 then (0, 0) else Sym.ofP (fun i => (O i).syms) m i (r.sym - 1)
set_option maxRecDepth 20000 in
set_option maxHeartbeats 1600000 in
theorem symbol_any (A : Option Addr) (m c i : Nat) (O : Nat → ObjD) (r : RelD) (w : World) (hR : ObjR w w.heap.size A m O) (h0 : 0 ≤ r.sym) (h1 : r.sym ≤ 9223372036854775807) :
    Calls Try.prog 28 #[.slice A m c, .int .i64 i, .agg r.cs] w fun e W' => e = .returned (.tuple #[.int .u64 (symP O m i r).1, .int .i64 (symP O m i r).2]) ∧ Below w.heap.size w W' := by
  obtain ⟨off, ty, sy, ad⟩ := r
  dsimp only at h0 h1
  have H := Lib.hid hR
  clear hR
  rw [show (RelD.mk off ty sy ad).cs = #[.int .u64 off, .int .u32 ty, .int .i64 sy, .int .i64 ad] from rfl]
  by_cases hs : sy = 0
  · have t1 : (sy == 0) = true := by simp [hs]
    have E := Lib.hid (show symP O m i ⟨off, ty, sy, ad⟩ = (0, 0) by unfold symP; rw [if_pos (.inl hs)])
    rw [E.out]
    clear hs h0 h1
    go_enter Try.func28, Try.ntmps28
    go_wp2_with fail
    go_ret2
    exact ⟨rfl, (Below.refl _ _).alloc (Nat.le_refl _) _⟩
  · have t1 : (sy == 0) = false := by simp [hs]
    by_cases ht : ty = 8
    · have t2 : ((ty : Int) == 8) = true := by simp; omega
      have E := Lib.hid (show symP O m i ⟨off, ty, sy, ad⟩ = (0, 0) by unfold symP; rw [if_pos (.inr ht)])
      rw [E.out]
      clear hs ht h0 h1
      go_enter Try.func28, Try.ntmps28
      go_wp2_with fail
      go_ret2
      exact ⟨rfl, (Below.refl _ _).alloc (Nat.le_refl _) _⟩
    · have t2 : ((ty : Int) == 8) = false := by simp; omega
      have E := Lib.hid (show symP O m i ⟨off, ty, sy, ad⟩ = Sym.ofP (fun i => (O i).syms) m i (sy - 1) by unfold symP; rw [if_neg (by rintro (h | h) <;> contradiction)])
      obtain ⟨k, hk⟩ : ∃ k, k = sy - 1 := ⟨_, rfl⟩
      have w1 : IntKind.i64.wrap (sy - 1) = k := by rw [hk]; exact IntWalk.i64_in _ (by omega)
      rw [← hk] at E
      have OFC : Hid (∀ W : World, Below w.heap.size w W → Calls Try.prog 39 #[.slice A m c, .int .i64 i, .int .i64 k] W fun e W' => e = .returned (.tuple #[.int .u64 (symP O m i ⟨off, ty, sy, ad⟩).1, .int .i64 (symP O m i ⟨off, ty, sy, ad⟩).2]) ∧ Below w.heap.size w W') := Lib.hid fun W h => by
        rw [E.out]
        exact (Sym.of_any A m c (fun i => (O i).syms) i k w.heap.size W (H.out.below h).syms h.size).mono fun e W' he => ⟨he.1, h.trans (he.2.mono h.size)⟩
      clear hs ht h0 h1 hk E
      generalize symP O m i ⟨off, ty, sy, ad⟩ = z at OFC ⊢
      obtain ⟨z1, z2⟩ := z
      dsimp only at OFC ⊢
      go_enter Try.func28, Try.ntmps28
      go_wp2_with fail
      refine (OFC.out _ ((Below.refl _ _).alloc (Nat.le_refl _) _)).mono ?_
      rintro e w1 ⟨rfl, b1⟩
      have B1 := Lib.hid b1
      clear b1
      go_wp2_with fail
      go_ret2
      exact ⟨rfl, B1.out⟩
end Go.Proofs.Ytlenjpgkmikgpaa
