import Derived.Test.YtlenjpgkmikgpaaR19
namespace Go.Proofs.Ytlenjpgkmikgpaa
open Go.RowKit Go.Shelf Go.Hos
set_option linter.unusedVariables false
/-! the walk of twins -/
set_option maxRecDepth 20000 in
set_option maxHeartbeats 3200000 in
theorem twins_any (A : Option Addr) (m c : Nat) (O : Nat → ObjD) (w : World) (hR : ObjR w w.heap.size A m O) (hm3 : m ≤ 20) (hz : ∀ i, (O i).room) :
    Calls Try.prog 9 #[.slice A m c] w fun e W' => ∃ A' c' O', e = .returned (.slice A' m c') ∧ TWS w O O' m (.slice A' m c') W' := by
  have hmm : maxLen = 9223372036854775807 := by simp [maxLen]
  have H := Lib.hid hR; have HZ := Lib.hid hz
  obtain ⟨i0, hi0, hz0, hz1, hz2⟩ := info_parts info50
  obtain ⟨ig, hig, gz0, gz1, gz2⟩ := info_parts info67
  obtain ⟨iy, hiy, yz0, yz1, yz2⟩ := info_parts info61
  obtain ⟨ir, hir, rz0, rz1, rz2⟩ := info_parts info53
  clear hR hz
  go_enter Try.func9, Try.ntmps9
  go_wp2_with fail
  go_loopw [3, 4] (fun v3 v4 wr => ∃ (i q : Nat) (Ao : Option Addr) (O' : Nat → ObjD), i ≤ m ∧ v3 = .slice Ao i q ∧ v4 = .int .i64 i ∧ Hid (TWS w O O' i (.slice Ao i q) wr)) (fun _ v4 _ => m - (intOf v4).toNat)
  case atStart => exact ⟨0, 0, none, O, Nat.zero_le _, rfl, rfl, Lib.hid ⟨World.ownsRow_nil _ _ _ _, Below.refl _ _, fun j => SameD.refl _, fun j hj => by omega⟩⟩
  case round =>
    obtain ⟨i, q, Ao, O', hi, rfl, rfl, tws⟩ := hrel
    by_cases him : i < m
    · have e1 : decide ((i : Int) < (m : Int)) = true := by simp; omega
      have e2 : (i : Int) < (m : Int) := by omega
      have HI := Lib.hid (H.out.below tws.out.bl)
      obtain ⟨ad, rfl, had, c0, c1, c2, c3, c4, c5, c6, c7, c8, c9, c10⟩ := HI.out.lay.cells him
      dsimp only [ObjD.lay] at c0 c1 c2 c3 c4 c5 c6 c7 c8 c9 c10
      have GR := Lib.hid (readsG (F := segF (O i)) (HI.out.sg i him).1 (fun _ => rfl) (by omega))
      have SR := Lib.hid (readsG (F := symF (O i)) (HI.out.sy i him).1 (fun _ => rfl) (by omega))
      have RR := Lib.hid (readsG (F := relF (O i)) (HI.out.rl i him).1 (fun _ => rfl) (by omega))
      have GO := Lib.hid (segF_one (O i) (O i).gM)
      have SO := Lib.hid (symF_one (O i) (O i).sM)
      have RO := Lib.hid (relF_one (O i) (O i).rM)
      have rg := (HZ.out i).g; have rs := (HZ.out i).s; have rr := (HZ.out i).r
      obtain ⟨xg, hxg⟩ : ∃ x, x = flatG (segF (O i)) (O i).gM := ⟨_, rfl⟩
      obtain ⟨xs, hxs⟩ : ∃ x, x = flatG (symF (O i)) (O i).sM := ⟨_, rfl⟩
      obtain ⟨xr, hxr⟩ : ∃ x, x = flatG (relF (O i)) (O i).rM := ⟨_, rfl⟩
      rw [← hxg] at GR GO
      rw [← hxs] at SR SO
      rw [← hxr] at RR RO
      have HXG := Lib.hid hxg; have HXS := Lib.hid hxs; have HXR := Lib.hid hxr
      obtain ⟨W1, hW1⟩ : ∃ W, W = wr.alloc (.cells #[.int .i64 (O i).ino, .int .u64 (O i).base, .int .u16 (O i).ty, .int .u64 (O i).en, .int .u64 (O i).ph, .slice (O i).gA (O i).gM (O i).gQ, .slice (O i).nA (O i).nM (O i).nQ, .string (O i).so, .string (O i).rn, .slice (O i).sA (O i).sM (O i).sQ, .slice (O i).rA (O i).rM (O i).rQ] 50) := ⟨_, rfl⟩
      have T1 : Hid (TB wr #[.int .i64 (O i).ino, .int .u64 (O i).base, .int .u16 (O i).ty, .int .u64 (O i).en, .int .u64 (O i).ph, .slice (O i).gA (O i).gM (O i).gQ, .slice (O i).nA (O i).nM (O i).nQ, .string (O i).so, .string (O i).rn, .slice (O i).sA (O i).sM (O i).sQ, .slice (O i).rA (O i).rM (O i).rQ] W1) := by rw [hW1]; exact Lib.hid ⟨(Below.refl _ _).alloc (Nat.le_refl _) _, Blk.new _ _ _⟩
      have PU : Hid (∀ gA gQ sA sQ rA rQ (W W' : World) v', TB wr #[.int .i64 (O i).ino, .int .u64 (O i).base, .int .u16 (O i).ty, .int .u64 (O i).en, .int .u64 (O i).ph, .slice gA (O i).gM gQ, .slice (O i).nA (O i).nM (O i).nQ, .string (O i).so, .string (O i).rn, .slice sA (O i).sM sQ, .slice rA (O i).rM rQ] W →
          W.ownsRow (wr.heap.size + 1) 67 6 (.slice gA (O i).gM gQ) (O i).gM xg → W.ownsRow (wr.heap.size + 1) 61 5 (.slice sA (O i).sM sQ) (O i).sM xs → W.ownsRow (wr.heap.size + 1) 53 4 (.slice rA (O i).rM rQ) (O i).rM xr →
          W'.ownsRow w.heap.size 50 11 v' (i + 1) (flatG (objF O') i ++ [.int .i64 (O i).ino, .int .u64 (O i).base, .int .u16 (O i).ty, .int .u64 (O i).en, .int .u64 (O i).ph, .slice gA (O i).gM gQ, .slice (O i).nA (O i).nM (O i).nQ, .string (O i).so, .string (O i).rn, .slice sA (O i).sM sQ, .slice rA (O i).rM rQ]) → ∀ o, (W.alloc o).grownBy W' (Value.slice Ao i q).ownBlock →
          ∃ O'', TWS w O O'' (i + 1) v' W') := Lib.hid fun gA gQ sA sQ rA rQ W W' v' ht h1 h2 h3 ho x hg => by
        have hzw := tws.out.bl.size
        rw [hxg] at h1; rw [hxs] at h2; rw [hxr] at h3
        exact ⟨_, TWS.push (o := { O i with gA := gA, gQ := gQ, sA := sA, sQ := sQ, rA := rA, rQ := rQ }) ((tws.out.next ht.bl).next ((Below.refl _ _).alloc (Nat.le_refl _) x)) ho hg (((RowsT.mk h1 h2 h3 : RowsT W (wr.heap.size + 1) { O i with gA := gA, gQ := gQ, sA := sA, sQ := sQ, rA := rA, rQ := rQ }).next ((Below.refl _ _).alloc (Nat.le_refl _) x)).base (by omega)) ⟨gA, gQ, sA, sQ, rA, rQ, rfl⟩⟩
      have HW1 := Lib.hid hW1
      have OWA := Lib.hid (fun (W : World) (hb : Below wr.heap.size wr W) => (tws.out.next hb).ow)
      have hzw := tws.out.bl.size
      have lad := World.block_lt_of_cell? _ _ c0
      obtain ⟨xo, hxo⟩ : ∃ x, x = flatG (objF O') i := ⟨_, rfl⟩
      rw [← hxo] at OWA PU
      clear hxg hxs hxr hW1 tws HI hxo
      generalize (O i).ino = o0 at *
      generalize (O i).base = o1 at *
      generalize (O i).ty = o2 at *
      generalize (O i).en = o3 at *
      generalize (O i).ph = o4 at *
      generalize (O i).gA = o5 at *
      generalize (O i).gM = o6 at *
      generalize (O i).gQ = o7 at *
      generalize (O i).nA = o8 at *
      generalize (O i).nM = o9 at *
      generalize (O i).nQ = o10 at *
      generalize (O i).so = o11 at *
      generalize (O i).rn = o12 at *
      generalize (O i).sA = o13 at *
      generalize (O i).sM = o14 at *
      generalize (O i).sQ = o15 at *
      generalize (O i).rA = o16 at *
      generalize (O i).rM = o17 at *
      generalize (O i).rQ = o18 at *
      go_upto_region 6 with fail
      rw [← HW1.out]
      clear c0 c1 c2 c3 c4 c5 c6 c7 c8 c9 c10 lad had HW1
      have k5 := (T1.out.bx.cell 5).trans rfl
      simp only [List.getElem?_toArray, List.getElem?_cons_succ, List.getElem?_cons_zero] at k5
      have kf : ∀ j, W1.frozen? ⟨wr.heap.size, j, none⟩ = false := fun j => T1.out.bx.frozen j
      have lk := T1.out.bx.lt
      have LK := Lib.hid lk
      go_cut [] from 16 to 22 (fun wx => ∃ A1 q1, Hid (TB wr #[.int .i64 o0, .int .u64 o1, .int .u16 o2, .int .u64 o3, .int .u64 o4, .slice A1 o6 q1, .slice o8 o9 o10, .string o11, .string o12, .slice o13 o14 o15, .slice o16 o17 o18] wx ∧ wx.ownsRow (wr.heap.size + 1) 67 6 (.slice A1 o6 q1) o6 xg))
      case first =>
        go_wp2_with (at_builtin; refine wpList_append_any _ rfl (.tmp 16) (.tmp 19) _ rfl (wr.heap.size + 1) 67 ig _ 6 40 Try.underlying46 hig gz0 gz1 gz2 rfl (by omega) (.slice (some ⟨W1.heap.size, 0, none⟩) 0 0) 0 [] rfl (owns_empty W1 67 6 LK.out) wr.heap.size o5 o6 o7 xg rfl ((GR.out.more hzw).below (T1.out.bl.alloc T1.out.bl.size _)) GO.out (by simp only [maxLen]; omega) (by omega) (by simp; omega) ?_; intro v1 w2 hown1 hg1 hat1; rw [Nat.zero_add, List.nil_append] at hown1; have HG := Lib.hid hg1; have OWN := Lib.hid hown1; obtain ⟨An, qn, rfl⟩ := ownsRow_val hown1; have kb := T1.out.mid hg1; have f1 : ∀ j, w2.frozen? ⟨wr.heap.size, j, none⟩ = false := fun j => kb.frozen j; have l1 := kb.lt; have a5 := (kb.cell 5).trans rfl; simp only [List.getElem?_toArray, List.getElem?_cons_succ, List.getElem?_cons_zero] at a5; clear kb hown1 hg1 hat1)
        go_meet
        exact ⟨An, qn, Lib.hid ⟨T1.out.step (j := 5) (v := .slice An o6 qn) HG.out, owns_set OWN.out (Nat.lt_succ_self _) _⟩⟩
      case rest =>
      obtain ⟨A1, q1, hc1⟩ := hcut
      generalize wc = W2 at *
      have T2 := Lib.hid hc1.out.1
      have G2 := Lib.hid hc1.out.2
      clear hc1 k5 kf lk LK T1 GR GO
      have k9 := (T2.out.bx.cell 9).trans rfl
      simp only [List.getElem?_toArray, List.getElem?_cons_succ, List.getElem?_cons_zero] at k9
      have kf : ∀ j, W2.frozen? ⟨wr.heap.size, j, none⟩ = false := fun j => T2.out.bx.frozen j
      have lk := T2.out.bx.lt
      have LK := Lib.hid lk
      go_upto_region 7 with fail
      go_cut [] from 23 to 29 (fun wx => ∃ A2 q2, Hid (TB wr #[.int .i64 o0, .int .u64 o1, .int .u16 o2, .int .u64 o3, .int .u64 o4, .slice A1 o6 q1, .slice o8 o9 o10, .string o11, .string o12, .slice A2 o14 q2, .slice o16 o17 o18] wx ∧ wx.ownsRow (wr.heap.size + 1) 67 6 (.slice A1 o6 q1) o6 xg ∧ wx.ownsRow (wr.heap.size + 1) 61 5 (.slice A2 o14 q2) o14 xs))
      case first =>
        go_wp2_with (at_builtin; refine wpList_append_any _ rfl (.tmp 23) (.tmp 26) _ rfl (wr.heap.size + 1) 61 iy _ 5 40 Try.underlying41 hiy yz0 yz1 yz2 rfl (by omega) (.slice (some ⟨W2.heap.size, 0, none⟩) 0 0) 0 [] rfl (owns_empty W2 61 5 LK.out) wr.heap.size o13 o14 o15 xs rfl ((SR.out.more hzw).below (T2.out.bl.alloc T2.out.bl.size _)) SO.out (by simp only [maxLen]; omega) (by omega) (by simp; omega) ?_; intro v1 w2 hown1 hg1 hat1; rw [Nat.zero_add, List.nil_append] at hown1; have HG := Lib.hid hg1; have OWN := Lib.hid hown1; obtain ⟨An, qn, rfl⟩ := ownsRow_val hown1; have kb := T2.out.mid hg1; have f1 : ∀ j, w2.frozen? ⟨wr.heap.size, j, none⟩ = false := fun j => kb.frozen j; have l1 := kb.lt; have a5 := (kb.cell 9).trans rfl; simp only [List.getElem?_toArray, List.getElem?_cons_succ, List.getElem?_cons_zero] at a5; clear kb hown1 hg1 hat1)
        go_meet
        exact ⟨An, qn, Lib.hid ⟨T2.out.step (j := 9) (v := .slice An o14 qn) HG.out, row_step G2.out HG.out (by decide), owns_set OWN.out (Nat.lt_succ_self _) _⟩⟩
      case rest =>
      obtain ⟨A2, q2, hc1⟩ := hcut
      generalize wc = W3 at *
      have T3 := Lib.hid hc1.out.1
      have G3 := Lib.hid hc1.out.2.1
      have S3 := Lib.hid hc1.out.2.2
      clear hc1 k9 kf lk LK T2 G2 SR SO
      have k10 := (T3.out.bx.cell 10).trans rfl
      simp only [List.getElem?_toArray, List.getElem?_cons_succ, List.getElem?_cons_zero] at k10
      have kf : ∀ j, W3.frozen? ⟨wr.heap.size, j, none⟩ = false := fun j => T3.out.bx.frozen j
      have lk := T3.out.bx.lt
      have LK := Lib.hid lk
      go_upto_region 8 with fail
      go_cut [] from 30 to 36 (fun wx => ∃ A3 q3, Hid (TB wr #[.int .i64 o0, .int .u64 o1, .int .u16 o2, .int .u64 o3, .int .u64 o4, .slice A1 o6 q1, .slice o8 o9 o10, .string o11, .string o12, .slice A2 o14 q2, .slice A3 o17 q3] wx ∧ wx.ownsRow (wr.heap.size + 1) 67 6 (.slice A1 o6 q1) o6 xg ∧ wx.ownsRow (wr.heap.size + 1) 61 5 (.slice A2 o14 q2) o14 xs ∧ wx.ownsRow (wr.heap.size + 1) 53 4 (.slice A3 o17 q3) o17 xr))
      case first =>
        go_wp2_with (at_builtin; refine wpList_append_any _ rfl (.tmp 30) (.tmp 33) _ rfl (wr.heap.size + 1) 53 ir _ 4 32 Try.underlying42 hir rz0 rz1 rz2 rfl (by omega) (.slice (some ⟨W3.heap.size, 0, none⟩) 0 0) 0 [] rfl (owns_empty W3 53 4 LK.out) wr.heap.size o16 o17 o18 xr rfl ((RR.out.more hzw).below (T3.out.bl.alloc T3.out.bl.size _)) RO.out (by simp only [maxLen]; omega) (by omega) (by simp; omega) ?_; intro v1 w2 hown1 hg1 hat1; rw [Nat.zero_add, List.nil_append] at hown1; have HG := Lib.hid hg1; have OWN := Lib.hid hown1; obtain ⟨An, qn, rfl⟩ := ownsRow_val hown1; have kb := T3.out.mid hg1; have f1 : ∀ j, w2.frozen? ⟨wr.heap.size, j, none⟩ = false := fun j => kb.frozen j; have l1 := kb.lt; have a5 := (kb.cell 10).trans rfl; simp only [List.getElem?_toArray, List.getElem?_cons_succ, List.getElem?_cons_zero] at a5; clear kb hown1 hg1 hat1)
        go_meet
        exact ⟨An, qn, Lib.hid ⟨T3.out.step (j := 10) (v := .slice An o17 qn) HG.out, row_step G3.out HG.out (by decide), row_step S3.out HG.out (by decide), owns_set OWN.out (Nat.lt_succ_self _) _⟩⟩
      case rest =>
      obtain ⟨A3, q3, hc1⟩ := hcut
      generalize wc = W4 at *
      have T4 := Lib.hid hc1.out.1
      have PU4 := Lib.hid (fun W' v' => PU.out A1 q1 A2 q2 A3 q3 W4 W' v' hc1.out.1 hc1.out.2.1 hc1.out.2.2.1 hc1.out.2.2.2)
      have OW4 := Lib.hid (OWA.out W4 hc1.out.1.bl)
      clear hc1 k10 kf lk LK T3 G3 S3 RR RO PU OWA
      have k0 := (T4.out.bx.cell 0).trans rfl
      have k1 := (T4.out.bx.cell 1).trans rfl
      have k2 := (T4.out.bx.cell 2).trans rfl
      have k3 := (T4.out.bx.cell 3).trans rfl
      have k4 := (T4.out.bx.cell 4).trans rfl
      have k5 := (T4.out.bx.cell 5).trans rfl
      have k6 := (T4.out.bx.cell 6).trans rfl
      have k7 := (T4.out.bx.cell 7).trans rfl
      have k8 := (T4.out.bx.cell 8).trans rfl
      have k9 := (T4.out.bx.cell 9).trans rfl
      have k10 := (T4.out.bx.cell 10).trans rfl
      simp only [List.getElem?_toArray, List.getElem?_cons_succ, List.getElem?_cons_zero] at k0 k1 k2 k3 k4 k5 k6 k7 k8 k9 k10
      have lk := T4.out.bx.lt
      have hz4 := T4.out.bl.size
      go_wp2_with (at_builtin
                   refine wpList_append_any _ rfl (.tmp 37) (.tmp 39) _ rfl w.heap.size 50 i0 _ 11 168 Try.underlying22 hi0 hz0 hz1 hz2 rfl (by omega) (.slice Ao i q) i xo rfl (OW4.out.alloc _) (W4.heap.size + 1) (some ⟨W4.heap.size, 0, none⟩) 1 1 [.int .i64 o0, .int .u64 o1, .int .u16 o2, .int .u64 o3, .int .u64 o4, .slice A1 o6 q1, .slice o8 o9 o10, .string o11, .string o12, .slice A2 o14 q2, .slice A3 o17 q3] rfl (reads_new W4 50 11 1 [.int .i64 o0, .int .u64 o1, .int .u16 o2, .int .u64 o3, .int .u64 o4, .slice A1 o6 q1, .slice o8 o9 o10, .string o11, .string o12, .slice A2 o14 q2, .slice A3 o17 q3] (by simp) rfl) (by simp [Value.oneCell']) (by simp only [maxLen]; omega) (by omega) (by simp; omega) ?_
                   intro v4 w5 hown4 hg4 hat4
                   have NW := PU4.out _ _ hown4 _ hg4
                   obtain ⟨A4, q4, rfl⟩ := ownsRow_val hown4
                   clear hown4 hg4 hat4)
      obtain ⟨O2, tw⟩ := NW
      go_roundw
      case rel => exact ⟨i + 1, q4, A4, O2, by omega, rfl, by go_num, Lib.hid tw⟩
      case measure => simp [intOf]; omega
    · obtain rfl : i = m := by omega
      have d1 : decide ((i : Int) < (i : Int)) = false := by simp
      go_wp2_with fail
      go_ret
      exact ⟨_, _, _, rfl, tws.out⟩
end Go.Proofs.Ytlenjpgkmikgpaa
