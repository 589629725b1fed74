import Derived.Test.YtlenjpgkmikgpaaR4
import Derived.Test.YtlenjpgkmikgpaaLZ9
import Derived.Test.YtlenjpgkmikgpaaLZ12
namespace Go.Proofs.Ytlenjpgkmikgpaa
open Go.RowKit Go.Shelf Go.Hos
set_option linter.unusedVariables false
/-! may the objects be looked at? -/
def okR (o : ObjD) : Bool := Lay.rightB o.lay && decide (o.rM ≤ 64) && decide (o.sM ≤ 64)
def okAll (O : Nat → ObjD) : Nat → Bool
  | 0 => true
  | n + 1 => okAll O n && okR (O n)
theorem okAll_no {O : Nat → ObjD} : ∀ {n i : Nat}, i < n → okR (O i) = false → okAll O n = false
  | n + 1, i, h, hc => by
    unfold okAll
    by_cases e : i = n
    · subst e; rw [hc, Bool.and_false]
    · rw [okAll_no (n := n) (by omega) hc, Bool.false_and]
theorem okAll_at {O : Nat → ObjD} : ∀ {n i : Nat}, okAll O n = true → i < n → okR (O i) = true := fun {n i} h hi => by
  cases hc : okR (O i) with
  | true => rfl
  | false => rw [okAll_no hi hc] at h; cases h
set_option maxRecDepth 20000 in
set_option maxHeartbeats 3200000 in
theorem right_any (A : Option Addr) (m c : Nat) (O : Nat → ObjD) (w : World) (hR : ObjR w w.heap.size A m O) (hf : ∀ i k, ((O i).sg k).fits) :
    Calls Try.prog 19 #[.slice A m c] w fun e W' => e = .returned (.bool (okAll O m && decide (m ≤ 9))) ∧ Below w.heap.size w W' := by
  have hmm : maxLen = 9223372036854775807 := by simp [maxLen]
  have H := Lib.hid hR; have HF := Lib.hid hf
  have hm := hR.len
  clear hR hf
  go_enter Try.func19, Try.ntmps19
  go_wp2_with fail
  go_loopw [7] (fun v7 wr => ∃ i : Nat, i ≤ m ∧ v7 = .int .i64 i ∧ Hid (Below w.heap.size w wr ∧ okAll O i = true)) (fun v7 _ => m - (intOf v7).toNat)
  case atStart => exact ⟨0, Nat.zero_le _, rfl, Lib.hid ⟨Below.refl _ _, rfl⟩⟩
  case round =>
    obtain ⟨i, hi, rfl, hb⟩ := hrel
    by_cases him : i < m
    · have e1 : decide ((i : Int) < (m : Int)) = true := by simp; omega
      have e2 : (i : Int) < (m : Int) := by omega
      have HI := Lib.hid ((H.out.below hb.out.1).more hb.out.1.size)
      obtain ⟨ad, rfl, had, c0, c1, c2, c3, c4, c5, c6, c7, c8, c9, c10⟩ := HI.out.lay.cells him
      obtain ⟨W1, hW1⟩ : ∃ W, W = wr.alloc (.cells #[.int .i64 (O i).ino, .int .u64 (O i).base, .int .u16 (O i).ty, .int .u64 (O i).en, .int .u64 (O i).ph, .slice (O i).gA (O i).gM (O i).gQ, .slice (O i).nA (O i).nM (O i).nQ, .string (O i).so, .string (O i).rn, .slice (O i).sA (O i).sM (O i).sQ, .slice (O i).rA (O i).rM (O i).rQ] 50) := ⟨_, rfl⟩
      have B1 : Hid (Below wr.heap.size wr W1) := by rw [hW1]; exact Lib.hid ((Below.refl _ _).alloc (Nat.le_refl _) _)
      have K1 : Hid (Blk W1 wr.heap.size 50 #[.int .i64 (O i).ino, .int .u64 (O i).base, .int .u16 (O i).ty, .int .u64 (O i).en, .int .u64 (O i).ph, .slice (O i).gA (O i).gM (O i).gQ, .slice (O i).nA (O i).nM (O i).nQ, .string (O i).so, .string (O i).rn, .slice (O i).sA (O i).sM (O i).sQ, .slice (O i).rA (O i).rM (O i).rQ]) := by rw [hW1]; exact Lib.hid (Blk.new _ _ _)
      obtain ⟨rb, hrb⟩ : ∃ b, b = Lay.rightB (O i).lay := ⟨_, rfl⟩
      have RC : Hid (Calls Try.prog 25 #[.agg #[.int .i64 (O i).ino, .int .u64 (O i).base, .int .u16 (O i).ty, .int .u64 (O i).en, .int .u64 (O i).ph, .slice (O i).gA (O i).gM (O i).gQ, .slice (O i).nA (O i).nM (O i).nQ, .string (O i).so, .string (O i).rn, .slice (O i).sA (O i).sM (O i).sQ, .slice (O i).rA (O i).rM (O i).rQ]] W1 fun e W' => e = .returned (.bool rb) ∧ Below W1.heap.size W1 W') := Lib.hid (by
        have := Lay.right_any (O i).lay W1 (((HI.out.sg i him).1.below B1.out).more B1.out.size) (HF.out i)
        rw [← hrb] at this
        exact this)
      have OKI := Lib.hid (show okR (O i) = (rb && decide ((O i).rM ≤ 64) && decide ((O i).sM ≤ 64)) by unfold okR; rw [hrb])
      have HW1 := Lib.hid hW1
      have lad := World.block_lt_of_cell? _ _ c0
      have NO := Lib.hid (show okR (O i) = false → (okAll O m && decide (m ≤ 9)) = false from fun h => by rw [okAll_no him h]; rfl)
      have YES := Lib.hid (show okR (O i) = true → okAll O (i + 1) = true from fun h => by rw [okAll, hb.out.2, h]; rfl)
      have BW := Lib.hid (hb.out.1.trans (B1.out.mono hb.out.1.size))
      dsimp only [ObjD.lay] at c0 c1 c2 c3 c4 c5 c6 c7 c8 c9 c10
      clear hW1 hrb hb HI
      generalize (O i).ino = o0 at *
      generalize (O i).base = o1 at *
      generalize (O i).ty = o2 at *
      generalize (O i).en = o3 at *
      generalize (O i).ph = o4 at *
      generalize (O i).gA = o5 at *
      generalize (O i).gM = o6 at *
      generalize (O i).gQ = o7 at *
      generalize (O i).nA = o8 at *
      generalize (O i).nM = o9 at *
      generalize (O i).nQ = o10 at *
      generalize (O i).so = o11 at *
      generalize (O i).rn = o12 at *
      generalize (O i).sA = o13 at *
      generalize (O i).sM = o14 at *
      generalize (O i).sQ = o15 at *
      generalize (O i).rA = o16 at *
      generalize (O i).rM = o17 at *
      generalize (O i).rQ = o18 at *
      go_upto_region 4 with fail
      rw [← HW1.out]
      clear c0 c1 c2 c3 c4 c5 c6 c7 c8 c9 c10 lad had HW1
      have k0 := (K1.out.cell 0).trans rfl
      have k1 := (K1.out.cell 1).trans rfl
      have k2 := (K1.out.cell 2).trans rfl
      have k3 := (K1.out.cell 3).trans rfl
      have k4 := (K1.out.cell 4).trans rfl
      have k5 := (K1.out.cell 5).trans rfl
      have k6 := (K1.out.cell 6).trans rfl
      have k7 := (K1.out.cell 7).trans rfl
      have k8 := (K1.out.cell 8).trans rfl
      have k9 := (K1.out.cell 9).trans rfl
      have k10 := (K1.out.cell 10).trans rfl
      simp only [List.getElem?_toArray, List.getElem?_cons_succ, List.getElem?_cons_zero] at k0 k1 k2 k3 k4 k5 k6 k7 k8 k9 k10
      have lk := K1.out.lt
      go_wp2_with fail
      refine RC.out.mono ?_
      rintro e w2 ⟨rfl, b2⟩
      have B2 := Lib.hid (BW.out.trans (b2.mono BW.out.size))
      have K2 := Lib.hid (K1.out.below b2 K1.out.lt)
      clear k0 k1 k2 k3 k4 k5 k6 k7 k8 k9 k10 lk b2 K1 B1 BW RC
      have k9 := (K2.out.cell 9).trans rfl
      have k10 := (K2.out.cell 10).trans rfl
      simp only [List.getElem?_toArray, List.getElem?_cons_succ, List.getElem?_cons_zero] at k9 k10
      have lk := K2.out.lt
      cases rb with
      | false =>
        have NX := Lib.hid (NO.out (by rw [OKI.out]; rfl))
        clear NO YES OKI
        go_wp2_with fail
        go_ret
        exact ⟨by rw [NX.out]; rfl, B2.out⟩
      | true =>
        by_cases h1 : o17 ≤ 64
        · have t1 : decide ((64 : Int) < (o17 : Int)) = false := by simp; omega
          have t1n : decide (64 < o17) = false := by simp; omega
          by_cases h2 : o14 ≤ 64
          · have t2 : decide ((64 : Int) < (o14 : Int)) = false := by simp; omega
            have t2n : decide (64 < o14) = false := by simp; omega
            have NX := Lib.hid (YES.out (by rw [OKI.out]; simp [h1, h2]))
            clear NO YES OKI h1 h2
            go_wp2_with fail
            go_roundw
            case rel => exact ⟨i + 1, by omega, by go_num, Lib.hid ⟨B2.out, NX.out⟩⟩
            case measure => simp [intOf]; omega
          · have t2 : decide ((64 : Int) < (o14 : Int)) = true := by simp; omega
            have t2n : decide (64 < o14) = true := by simp; omega
            have NX := Lib.hid (NO.out (by rw [OKI.out]; simp [h2]))
            clear NO YES OKI h1 h2
            go_wp2_with fail
            go_ret
            exact ⟨by rw [NX.out]; rfl, B2.out⟩
        · have t1 : decide ((64 : Int) < (o17 : Int)) = true := by simp; omega
          have t1n : decide (64 < o17) = true := by simp; omega
          have NX := Lib.hid (NO.out (by rw [OKI.out]; simp [h1]))
          clear NO YES OKI h1
          go_wp2_with fail
          go_ret
          exact ⟨by rw [NX.out]; rfl, B2.out⟩
    · obtain rfl : i = m := by omega
      have e1 : decide ((i : Int) < (i : Int)) = false := by simp
      obtain ⟨rb, hrb⟩ : ∃ b, b = decide (i ≤ 9) := ⟨_, rfl⟩
      have t1 : decide ((i : Int) ≤ 9) = rb := by rw [hrb]; simp; omega
      have NX := Lib.hid (show (okAll O i && decide (i ≤ 9)) = rb by rw [hb.out.2, hrb]; rfl)
      have BW := Lib.hid hb.out.1
      clear hb hrb
      go_wp2_with fail
      go_ret
      exact ⟨by rw [NX.out]; rfl, BW.out⟩
end Go.Proofs.Ytlenjpgkmikgpaa
