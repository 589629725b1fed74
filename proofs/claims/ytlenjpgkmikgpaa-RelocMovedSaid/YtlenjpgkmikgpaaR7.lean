import Derived.Test.YtlenjpgkmikgpaaR6
namespace Go.Proofs.Ytlenjpgkmikgpaa
open Go.RowKit Go.Shelf Go.Hos
set_option linter.unusedVariables false
/-! Patches, of the program: its walk -/
set_option maxRecDepth 100000 in
set_option maxHeartbeats 8000000 in
theorem patches_any (A : Option Addr) (m c : Nat) (O : Nat → ObjD) (w : World) (hR : ObjR w w.heap.size A m O) (hf : ∀ i k, ((O i).sg k).fits) (hr : fitsR O) :
    Calls Try.prog 10 #[.slice A m c] w (PaP w O m) := by
  have hmm : maxLen = 9223372036854775807 := by simp [maxLen]
  have H := Lib.hid hR; have HF := Lib.hid hf; have HFR := Lib.hid hr
  have RC := Lib.hid (right_any A m c O w hR hf)
  obtain ⟨rb, hrb⟩ : ∃ b, b = (okAll O m && decide (m ≤ 9)) := ⟨_, rfl⟩
  rw [← hrb] at RC
  have HRB := Lib.hid hrb
  clear hR hf hr hrb
  go_enter Try.func10, Try.ntmps10
  go_wp2_with fail
  go_step3
  go_wp2_with fail
  refine RC.out.mono ?_
  rintro e w1 ⟨rfl, b1⟩
  have B1 := Lib.hid b1
  clear b1 RC
  cases rb with
  | false =>
    have E := Lib.hid (show patE O m = 1 by unfold patE; rw [← HRB.out]; rfl)
    go_wp2_with fail
    rw [Exit.noGoto_ret]
    go_ret2
    exact ⟨B1.out, none, 0, 0, by rw [E.out]; rfl, fun _ => rfl, fun h => by rw [E.out] at h; cases h⟩
  | true =>
    have hm9 : m ≤ 9 := by have := HRB.out.symm; simp only [Bool.and_eq_true, decide_eq_true_eq] at this; exact this.2
    have OKA := Lib.hid (show okAll O m = true by have := HRB.out.symm; simp only [Bool.and_eq_true, decide_eq_true_eq] at this; exact this.1)
    obtain ⟨i0, hi0, hz0, hz1, hz2⟩ := info_parts info55
    go_wp2_with fail
    go_step3
    go_wp2_with fail
    go_loopw [4, 5, 17] (fun v4 v5 v17 wr => ∃ (i n q : Nat) (Ao : Option Addr), i ≤ m ∧ v17 = .int .i64 i ∧ v5 = .int .i64 0 ∧ v4 = .slice Ao n q ∧ Hid (n = (ptO O m i).length ∧ n ≤ i * 64 ∧ erO O m i = 0 ∧ PS w (ptO O m i) (.slice Ao n q) wr)) (fun _ _ v17 _ => m - (intOf v17).toNat)
    case atStart => exact ⟨0, 0, 0, none, Nat.zero_le _, rfl, rfl, rfl, Lib.hid ⟨rfl, Nat.le_refl _, rfl, B1.out, World.ownsRow_nil _ _ _ _⟩⟩
    case round =>
      clear B1
      obtain ⟨i, n, q, Ao, hi, rfl, rfl, rfl, hb⟩ := hrel
      by_cases him : i < m
      · have e1 : decide ((i : Int) < (m : Int)) = true := by simp; omega
        have e2 : (i : Int) < (m : Int) := by omega
        have bl := hb.out.2.2.2.bl
        have HI := Lib.hid ((H.out.below bl).more bl.size)
        obtain ⟨ad, rfl, had, c0, c1, c2, c3, c4, c5, c6, c7, c8, c9, c10⟩ := HI.out.lay.cells him
        dsimp only [ObjD.lay] at c0 c1 c2 c3 c4 c5 c6 c7 c8 c9 c10
        obtain ⟨W1, hW1⟩ : ∃ W, W = wr.alloc (.cells #[.int .i64 (O i).ino, .int .u64 (O i).base, .int .u16 (O i).ty, .int .u64 (O i).en, .int .u64 (O i).ph, .slice (O i).gA (O i).gM (O i).gQ, .slice (O i).nA (O i).nM (O i).nQ, .string (O i).so, .string (O i).rn, .slice (O i).sA (O i).sM (O i).sQ, .slice (O i).rA (O i).rM (O i).rQ] 50) := ⟨_, rfl⟩
        have B1 : Hid (Below wr.heap.size wr W1) := by rw [hW1]; exact Lib.hid ((Below.refl _ _).alloc (Nat.le_refl _) _)
        have K1 : Hid (Blk W1 wr.heap.size 50 #[.int .i64 (O i).ino, .int .u64 (O i).base, .int .u16 (O i).ty, .int .u64 (O i).en, .int .u64 (O i).ph, .slice (O i).gA (O i).gM (O i).gQ, .slice (O i).nA (O i).nM (O i).nQ, .string (O i).so, .string (O i).rn, .slice (O i).sA (O i).sM (O i).sQ, .slice (O i).rA (O i).rM (O i).rQ]) := by rw [hW1]; exact Lib.hid (Blk.new _ _ _)
        have HW1 := Lib.hid hW1
        have OK64 : Hid ((O i).rM ≤ 64) := Lib.hid (by have := okAll_at OKA.out him; unfold okR at this; simp only [Bool.and_eq_true, decide_eq_true_eq] at this; exact this.1.2)
        have PS1 := Lib.hid (hb.out.2.2.2.next B1.out)
        have RL : Hid (∀ W : World, Below w.heap.size w W → Lay.StR W w.heap.size 4 (O i).rA (O i).rM (fun k => ((O i).rl k).cs)) := Lib.hid fun W h => ((H.out.rl i him).1.below h)
        have ONE : Hid (∀ k, ∀ W : World, Below w.heap.size w W → Calls Try.prog 20 #[.slice (some ad) m c, .int .i64 i, .agg ((O i).rl k).cs] W fun e W' => e = .returned (.tuple #[.agg (oneP O m i ((O i).rl k)).1.cs, .int .i64 (eP O m i k)]) ∧ Below W.heap.size W W') := Lib.hid fun k W h =>
          one_any _ m c i O ((O i).rl k) W ((H.out.below h).more h.size) HF.out him (HFR.out i k).1 (HFR.out i k).2.1 (HFR.out i k).2.2
        have lad := World.block_lt_of_cell? _ _ c0
        obtain ⟨rM, hrM⟩ : ∃ x, x = (O i).rM := ⟨_, rfl⟩
        rw [← hrM] at c10 K1 HW1 OK64 RL
        have HRM := Lib.hid hrM
        have h64 := OK64.out
        have hn64 := hb.out.2.1
        clear hW1 bl HI hrM OK64
        generalize (O i).ino = o0 at *
        generalize (O i).base = o1 at *
        generalize (O i).ty = o2 at *
        generalize (O i).en = o3 at *
        generalize (O i).ph = o4 at *
        generalize (O i).gA = o5 at *
        generalize (O i).gM = o6 at *
        generalize (O i).gQ = o7 at *
        generalize (O i).nA = o8 at *
        generalize (O i).nM = o9 at *
        generalize (O i).nQ = o10 at *
        generalize (O i).so = o11 at *
        generalize (O i).rn = o12 at *
        generalize (O i).sA = o13 at *
        generalize (O i).sM = o14 at *
        generalize (O i).sQ = o15 at *
        generalize (O i).rA = rA at *
        generalize (O i).rQ = rQ at *
        go_upto_region 8 with fail
        rw [← HW1.out]
        clear c0 c1 c2 c3 c4 c5 c6 c7 c8 c9 c10 lad had HW1
        have k10 := (K1.out.cell 10).trans rfl
        simp only [List.getElem?_toArray, List.getElem?_cons_succ, List.getElem?_cons_zero] at k10
        have lk := K1.out.lt
        go_wp2_with fail
        clear k10 lk K1 B1
        go_loopw [4, 5, 26] (fun v4 v5 v26 wx => ∃ (k n' q' : Nat) (Ax : Option Addr), k ≤ rM ∧ v26 = .int .i64 k ∧ v5 = .int .i64 0 ∧ v4 = .slice Ax n' q' ∧ Hid (n' = (ptO O m i ++ ptI O m i k).length ∧ n' = n + k ∧ erI O m i k = 0 ∧ PS w (ptO O m i ++ ptI O m i k) (.slice Ax n' q') wx)) (fun _ _ v26 _ => rM - (intOf v26).toNat)
        case atStart => exact ⟨0, n, q, Ao, Nat.zero_le _, rfl, rfl, rfl, Lib.hid ⟨by rw [ptI, List.append_nil]; exact hb.out.1, rfl, rfl, by rw [ptI, List.append_nil]; exact PS1.out⟩⟩
        case round =>
          clear PS1
          obtain ⟨k, n', q', Ax, hk, rfl, rfl, rfl, hs⟩ := hrel
          by_cases hkm : k < rM
          · have f1 : decide ((k : Int) < (rM : Int)) = true := by simp; omega
            have f2 : (k : Int) < (rM : Int) := by omega
            obtain ⟨adr, rfl, hadr, d0, d1, d2, d3⟩ := rel_cells (RL.out wr hs.out.2.2.2.bl) hkm
            obtain ⟨r, hrr⟩ : ∃ r, r = (O i).rl k := ⟨_, rfl⟩
            have ONK := Lib.hid (ONE.out k)
            have EK := Lib.hid (show eP O m i k = (oneP O m i ((O i).rl k)).2 from rfl)
            have PTK := Lib.hid (show ptI O m i (k + 1) = ptI O m i k ++ [(oneP O m i ((O i).rl k)).1] from rfl)
            rw [← hrr] at d0 d1 d2 d3 ONK PTK
            obtain ⟨p, hp⟩ : ∃ p, p = (oneP O m i r).1 := ⟨_, rfl⟩
            obtain ⟨E, hE⟩ : ∃ E, E = eP O m i k := ⟨_, rfl⟩
            rw [← hp, ← hE] at ONK
            rw [← hp] at PTK
            have HE := Lib.hid hE
            obtain ⟨pa, ps, pv⟩ := p
            obtain ⟨off, ty, sy, ad2⟩ := r
            rw [show (RelD.mk off ty sy ad2).cs = #[.int .u64 off, .int .u32 ty, .int .i64 sy, .int .i64 ad2] from rfl, show (PatD.mk pa ps pv).cs = #[.int .u64 pa, .int .i64 ps, .int .u64 pv] from rfl] at ONK
            dsimp only at d0 d1 d2 d3
            obtain ⟨W2, hW2⟩ : ∃ W, W = wr.alloc (.cells #[.int .u64 off, .int .u32 ty, .int .i64 sy, .int .i64 ad2] 53) := ⟨_, rfl⟩
            have B2 : Hid (Below wr.heap.size wr W2) := by rw [hW2]; exact Lib.hid ((Below.refl _ _).alloc (Nat.le_refl _) _)
            have K2 : Hid (Blk W2 wr.heap.size 53 #[.int .u64 off, .int .u32 ty, .int .i64 sy, .int .i64 ad2]) := by rw [hW2]; exact Lib.hid (Blk.new _ _ _)
            have HW2 := Lib.hid hW2
            have PS2 := Lib.hid (hs.out.2.2.2.next B2.out)
            have lad := World.block_lt_of_cell? _ _ d0
            clear hrr hp hE hW2
            go_upto_region 11 with fail
            rw [← HW2.out]
            clear d0 d1 d2 d3 lad hadr HW2
            have k0 := (K2.out.cell 0).trans rfl
            have k1 := (K2.out.cell 1).trans rfl
            have k2 := (K2.out.cell 2).trans rfl
            have k3 := (K2.out.cell 3).trans rfl
            simp only [List.getElem?_toArray, List.getElem?_cons_succ, List.getElem?_cons_zero] at k0 k1 k2 k3
            have lk := K2.out.lt
            go_wp2_with fail
            refine (ONK.out W2 PS2.out.bl).mono ?_
            rintro e W3 ⟨rfl, b3⟩
            obtain ⟨W4, hW4⟩ : ∃ W, W = W3.alloc (.cells #[.int .u64 pa, .int .i64 ps, .int .u64 pv] 55) := ⟨_, rfl⟩
            have PS4 : Hid (PS w (ptO O m i ++ ptI O m i k) (.slice Ax n' q') W4) := by rw [hW4]; exact Lib.hid ((PS2.out.next b3).next ((Below.refl _ _).alloc (Nat.le_refl _) _))
            have K4 : Hid (Blk W4 W3.heap.size 55 #[.int .u64 pa, .int .i64 ps, .int .u64 pv]) := by rw [hW4]; exact Lib.hid (Blk.new _ _ _)
            have HW4 := Lib.hid hW4
            clear k0 k1 k2 k3 lk K2 B2 PS2 b3 hW4
            go_upto_region 12 with fail
            rw [← HW4.out]
            by_cases hE0 : E = 0
            · have t1 : (E != 0) = false := by simp [hE0]
              have EI := Lib.hid (show erI O m i (k + 1) = 0 by rw [erI, if_pos hs.out.2.2.1, ← HE.out, hE0])
              have j0 := (K4.out.cell 0).trans rfl
              have j1 := (K4.out.cell 1).trans rfl
              have j2 := (K4.out.cell 2).trans rfl
              simp only [List.getElem?_toArray, List.getElem?_cons_succ, List.getElem?_cons_zero] at j0 j1 j2
              have lj := K4.out.lt
              have HN := hs.out.1
              obtain ⟨xs, hxs⟩ : ∃ x, x = flatP (ptO O m i ++ ptI O m i k) := ⟨_, rfl⟩
              have OW := PS4.out.ow
              rw [← hxs, ← HN] at OW
              have HOW := Lib.hid OW
              have HXS := Lib.hid hxs
              have hz4 := PS4.out.bl.size
              have HHN := Lib.hid HN
              have hnb : n' ≤ 640 := by have hnk := hs.out.2.1; have : i * 64 ≤ 9 * 64 := Nat.mul_le_mul_right _ (by omega); omega
              clear OW hxs HN hE0
              go_wp2_with (at_builtin; refine wpList_append_any _ rfl (.tmp 40) (.tmp 42) _ rfl w.heap.size 55 i0 _ 3 24 Try.underlying26 hi0 hz0 hz1 hz2 rfl (by omega) (.slice Ax n' q') n' xs rfl (HOW.out.alloc _) (W4.heap.size + 1) (some ⟨W4.heap.size, 0, none⟩) 1 1 [.int .u64 pa, .int .i64 ps, .int .u64 pv] rfl (reads_new W4 55 3 1 [.int .u64 pa, .int .i64 ps, .int .u64 pv] (by simp) rfl) (by simp [Value.oneCell']) (by simp only [maxLen]; omega) (by omega) (by simp; omega) ?_; intro v4 w5 hown1 hg1 hat1; have BN := Lib.hid ((PS4.out.bl.alloc hz4 _).trans (below_own hg1 (by simp; omega) fun kk hkk => (HOW.out.lt kk hkk).1)); have OWN := Lib.hid hown1; obtain ⟨A5, q5, rfl⟩ := ownsRow_val hown1; clear hown1 hg1 hat1)
              go_roundw
              case rel => exact ⟨k + 1, n' + 1, q5, A5, by omega, by go_num, rfl, rfl, Lib.hid ⟨by rw [PTK.out, ← List.append_assoc, List.length_append, ← HHN.out]; rfl, by have := hs.out.2.1; omega, EI.out, BN.out, by rw [PTK.out, ← List.append_assoc, flatP_snoc, ← HXS.out, List.length_append, ← HHN.out]; exact OWN.out⟩⟩
              case measure => simp [intOf]; omega
            · have t1 : (E != 0) = true := by simp [hE0]
              have PE := Lib.hid (patE_at HRB.out.symm him (by rw [← HRM.out]; exact hkm) hb.out.2.2.1 hs.out.2.2.1 HE.out.symm hE0)
              have HE0 := Lib.hid hE0
              clear hE0
              go_wp2_with fail
              go_ret2
              exact ⟨PS4.out.bl, none, 0, 0, by rw [PE.out]; rfl, fun _ => rfl, fun h => absurd (by rw [PE.out] at h; exact h) HE0.out⟩
          · obtain rfl : k = rM := by omega
            have f1 : decide ((k : Int) < (k : Int)) = false := by simp
            have PT := Lib.hid (show ptO O m (i + 1) = ptO O m i ++ ptI O m i k by rw [ptO, ← HRM.out])
            have ER := Lib.hid (show erO O m (i + 1) = 0 by rw [erO, if_pos hb.out.2.2.1, ← HRM.out]; exact hs.out.2.2.1)
            go_wp2_with fail
            go_roundw
            case rel => exact ⟨i + 1, n', q', Ax, by omega, by go_num, rfl, rfl, Lib.hid ⟨by rw [PT.out]; exact hs.out.1, by have := hs.out.2.1; have := hb.out.2.1; rw [Nat.succ_mul]; omega, ER.out, by rw [PT.out]; exact hs.out.2.2.2⟩⟩
            case measure => simp [intOf]; omega
      · obtain rfl : i = m := by omega
        have e1 : decide ((i : Int) < (i : Int)) = false := by simp
        have PE := Lib.hid (show patE O i = 0 by unfold patE; rw [← HRB.out]; exact hb.out.2.2.1)
        go_wp2_with fail
        go_ret2
        exact ⟨hb.out.2.2.2.bl, Ao, n, q, by rw [PE.out]; rfl, fun h => absurd PE.out h, fun _ => ⟨hb.out.1, by rw [hb.out.1]; have := hb.out.2.2.2.ow; rwa [hb.out.1] at this⟩⟩
end Go.Proofs.Ytlenjpgkmikgpaa
