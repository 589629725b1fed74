import Derived.Test.YtlenjpgkmikgpaaR10
import Derived.Lib.SlBuf
import Derived.Deep.OwnRows
namespace Go.Proofs.Ytlenjpgkmikgpaa
open Go.RowKit Go.Shelf Go.Hos
set_option linter.unusedVariables false
/-! Writes, of the program -/
theorem reads_made {W : World} {g k : Nat} (h : Blk W g 5 (madeCells #[.int .u8 0] k)) : Reads W W.heap.size 1 (some ⟨g, 0, none⟩) k (Wrd.B8 (List.replicate k 0)) := by
  have hl : (Wrd.B8 (List.replicate k 0)) = List.replicate k (.int .u8 0) := by unfold Wrd.B8; rw [List.map_replicate]; rfl
  refine ⟨by rw [hl]; simp, fun hn => ⟨_, rfl, h.lt, fun j u hu => ?_⟩⟩
  rw [hl, List.getElem?_replicate] at hu
  split at hu
  · rename_i hj
    rw [Addr.add_mid, Nat.zero_add, h.cell, ← Array.getElem?_toList, toList_madeCells_one, List.getElem?_replicate, if_pos hj]
    exact hu
  · cases hu
/-- what Writes answers -/
structure WrP (w : World) (P : Nat → PatD) (V : Nat → Nat) (n : Nat) (e : Ending) (W' : World) : Prop where
  bl : Below w.heap.size w W'
  re : ∃ A k c, e = .returned (.tuple #[.slice A k c, .int .i64 (if okW P n then 0 else 1)]) ∧ (okW P n = false → k = 0) ∧ (okW P n = true → k = n ∧ ∃ ds, WS w P V n ds (.slice A k c) W')
theorem WrP.no {w W' : World} {P : Nat → PatD} {V : Nat → Nat} {n : Nat} (hb : Below w.heap.size w W') (h : okW P n = false) : WrP w P V n (.returned (.tuple #[.slice none 0 0, .int .i64 1])) W' :=
  ⟨hb, none, 0, 0, by rw [h]; rfl, fun _ => rfl, fun e => by rw [h] at e; cases e⟩
set_option maxRecDepth 100000 in
set_option maxHeartbeats 8000000 in
theorem writes_any (A : Option Addr) (n c : Nat) (P : Nat → PatD) (V : Nat → Nat) (w : World) (h : Lay.StR w w.heap.size 3 A n (fun k => (P k).cs)) (hn : n ≤ 500) (hV : ∀ i, (P i).v = (V i : Int) ∧ V i < M) :
    Calls Try.prog 14 #[.slice A n c] w (WrP w P V n) := by
  have hmm : maxLen = 9223372036854775807 := by simp [maxLen]
  have H := Lib.hid h; have HV := Lib.hid hV
  obtain ⟨i0, hi0, hz0, hz1, hz2⟩ := info_parts info38
  clear h hV
  go_enter Try.func14, Try.ntmps14
  go_wp2_with fail
  go_loopw [4, 11] (fun v4 v11 wr => ∃ (i q : Nat) (Ao : Option Addr), i ≤ n ∧ v11 = .int .i64 i ∧ v4 = .slice Ao i q ∧ Hid (okW P i = true ∧ ∃ ds, WS w P V i ds (.slice Ao i q) wr)) (fun _ v11 _ => n - (intOf v11).toNat)
  case atStart => exact ⟨0, 0, none, Nat.zero_le _, rfl, rfl, Lib.hid ⟨rfl, [], Below.refl _ _, World.ownsRow_nil _ _ _ _, rfl, fun i d hd => by simp at hd⟩⟩
  case round =>
    obtain ⟨i, q, Ao, hi, rfl, rfl, hb⟩ := hrel
    obtain ⟨hok, ds, ws⟩ := hb.out
    have HOK := Lib.hid hok
    have WSR := Lib.hid ws
    clear hb hok
    by_cases hin : i < n
    · have e1 : decide ((i : Int) < (n : Int)) = true := by simp; omega
      have e2 : (i : Int) < (n : Int) := by omega
      obtain ⟨ad, rfl, had, d0, d1, d2⟩ := pat_cells (H.out.below ws.bl) hin
      have hv := HV.out i
      rw [hv.1] at d2
      have NOk := Lib.hid (show Wrd.szB (P i).size = false → okW P n = false from fun h => okW_no hin h)
      have YES := Lib.hid (show Wrd.szB (P i).size = true → okW P (i + 1) = true from fun h => by rw [okW, HOK.out, h]; rfl)
      obtain ⟨x, hx⟩ : ∃ x, x = V i := ⟨_, rfl⟩
      obtain ⟨a, ha⟩ : ∃ a, a = (P i).at_ := ⟨_, rfl⟩
      obtain ⟨s, hs⟩ : ∃ s, s = (P i).size := ⟨_, rfl⟩
      rw [← hx] at d2 hv
      rw [← ha] at d0
      rw [← hs] at d1 NOk YES
      have HX := Lib.hid hx; have HA := Lib.hid ha; have HSZ := Lib.hid hs
      have HXM := Lib.hid hv.2
      obtain ⟨W1, hW1⟩ : ∃ W, W = wr.alloc (.cells #[.int .u64 a, .int .i64 s, .int .u64 x] 55) := ⟨_, rfl⟩
      have WS1 : Hid (WS w P V i ds (.slice Ao i q) W1) := by rw [hW1]; exact Lib.hid (ws.next ((Below.refl _ _).alloc (Nat.le_refl _) _))
      have K1 : Hid (Blk W1 wr.heap.size 55 #[.int .u64 a, .int .i64 s, .int .u64 x]) := by rw [hW1]; exact Lib.hid (Blk.new _ _ _)
      have HW1 := Lib.hid hW1
      have lad := World.block_lt_of_cell? _ _ d0
      clear hx ha hs hv hW1 ws
      go_upto_region 5 with fail
      rw [← HW1.out]
      clear d0 d1 d2 had lad HW1
      have k0 := (K1.out.cell 0).trans rfl
      have k1 := (K1.out.cell 1).trans rfl
      have k2 := (K1.out.cell 2).trans rfl
      simp only [List.getElem?_toArray, List.getElem?_cons_succ, List.getElem?_cons_zero] at k0 k1 k2
      have lk := K1.out.lt
      by_cases h1 : s < 1
      · have t1 : decide (s < 1) = true := by simp; omega
        have NX := Lib.hid (NOk.out (by unfold Wrd.szB; rw [decide_eq_false (by omega)]))
        clear h1 NOk YES
        go_wp2_with fail
        go_ret2
        exact WrP.no WS1.out.bl NX.out
      · have t1 : decide (s < 1) = false := by simp; omega
        by_cases h8 : 8 < s
        · have t2 : decide ((8 : Int) < s) = true := by simp; omega
          have NX := Lib.hid (NOk.out (by unfold Wrd.szB; rw [decide_eq_false (by omega)]))
          clear h1 h8 NOk YES
          go_wp2_with fail
          go_ret2
          exact WrP.no WS1.out.bl NX.out
        · have t2 : decide ((8 : Int) < s) = false := by simp; omega
          obtain ⟨k, rfl⟩ : ∃ k : Nat, s = (k : Int) := ⟨s.toNat, by omega⟩
          have hk1 : 1 ≤ k := by omega
          have hk8 : k ≤ 8 := by omega
          clear h1 h8
          have hmk := run_make_row' (P := Try.prog) 36 5 _ _ Try.underlying36 Wrd.info5 rfl .i64 .i64 k (by omega) (by omega)
          have SETC : Hid (∀ W : World, Blk W W1.heap.size 5 (madeCells #[.int .u8 0] k) → Calls Try.prog 23 #[.slice (some ⟨W1.heap.size, 0, none⟩) k k, .int .u64 0, .int .i64 (k : Int), .int .u64 x] W fun e W' => ∃ A' c', e = .returned (.tuple #[.slice A' (Wrd.stv (List.replicate k 0) 0 k x).length c', .int .i64 (Wrd.plc k 0 k)]) ∧
              W'.ownsRow W.heap.size 5 1 (.slice A' (Wrd.stv (List.replicate k 0) 0 k x).length c') (Wrd.stv (List.replicate k 0) 0 k x).length (Wrd.B8 (Wrd.stv (List.replicate k 0) 0 k x)) ∧ Below W.heap.size W W') := Lib.hid fun W hb =>
            Wrd.set_any (some ⟨W1.heap.size, 0, none⟩) k k 0 x W.heap.size k (List.replicate k 0) W (reads_made hb) (Nat.le_refl _) (by omega) (by unfold Wrd.M; omega) HXM.out
          obtain ⟨sl, hsl⟩ : ∃ y, y = (Wrd.stv (List.replicate k 0) 0 k x).length := ⟨_, rfl⟩
          obtain ⟨E, hE⟩ : ∃ y, y = Wrd.plc k 0 k := ⟨_, rfl⟩
          rw [← hsl, ← hE] at SETC
          have HSL := Lib.hid hsl; have HE := Lib.hid hE
          have MK := Lib.hid (Blk.new W1.drew 5 (madeCells #[.int .u8 0] k))
          have K1d : Hid (Blk W1.drew wr.heap.size 55 #[.int .u64 a, .int .i64 k, .int .u64 x]) := Lib.hid K1.out
          have KS := Lib.hid (show ∀ W : World, Blk W wr.heap.size 55 #[.int .u64 a, .int .i64 k, .int .u64 x] → W.cell? ⟨wr.heap.size, 1, none⟩ = some (.int .i64 k) ∧ W.cell? ⟨wr.heap.size, 2, none⟩ = some (.int .u64 x) from fun W h => ⟨(h.cell 1).trans rfl, (h.cell 2).trans rfl⟩)
          clear hsl hE
          go_upto_region 7 with fail
          clear k0 k1 k2 lk t1 t2
          go_cut [7, 8] from 23 to 33 (fun v7 v8 wx => ∃ (A' : Option Addr) (c' : Nat), v7 = .slice A' sl c' ∧ v8 = .int .i64 E ∧ Hid (wx.ownsRow (W1.heap.size + 1) 5 1 (.slice A' sl c') sl (Wrd.B8 (Wrd.stv (List.replicate k 0) 0 k x)) ∧ Below W1.heap.size W1 wx))
          case first =>
            go_region_held3 (fun W => W.cell? ⟨wr.heap.size, 1, none⟩ = some (.int .i64 k) ∧ W.cell? ⟨wr.heap.size, 2, none⟩ = some (.int .u64 x)) (first | exact KS.out _ K1d.out | exact KS.out _ (K1d.out.alloc _) | exact KS.out _ hkk)
              (first
                | (go_at_call 23; refine (SETC.out _ MK.out).mono ?_; rintro e w' ⟨A', c', rfl, hown, hbel⟩; have hkk := (K1d.out.alloc (.cells (madeCells #[.int .u8 0] k) 5)).below hbel (K1d.out.alloc (.cells (madeCells #[.int .u8 0] k) 5)).lt))
            all_goals (
              have HO := Lib.hid hown
              have HB := Lib.hid hbel
              clear hown hbel hkk
              go_wp2_with fail
              go_meet
              exact ⟨A', c', rfl, rfl, Lib.hid ⟨by have := HO.out; simpa using this, ((Below.refl W1.heap.size W1).drew.alloc (Nat.le_refl _) _).trans (HB.out.mono (by simp))⟩⟩)
          case rest =>
          obtain ⟨A', c', rfl, rfl, hc⟩ := hcut
          have WS2 := Lib.hid (WS1.out.next hc.out.2)
          have K2 := Lib.hid (K1.out.below hc.out.2 K1.out.lt)
          have OW := Lib.hid hc.out.1
          have SZ1 := Lib.hid (Nat.le_trans WS1.out.bl.size (Nat.le_succ W1.heap.size))
          clear hc WS1 K1 K1d MK KS SETC hmk
          generalize wc = W2 at *
          have q0 := (K2.out.cell 0).trans rfl
          simp only [List.getElem?_toArray, List.getElem?_cons_zero] at q0
          have lq := K2.out.lt
          by_cases hz : Wrd.szB (k : Int) = true
          · obtain ⟨sb, pb⟩ := stv_by x hz
            have hE0 : E = 0 := by rw [HE.out, pb]
            have hslk : sl = k := by rw [HSL.out, sb, byL_len]
            have OW2 := OW.out
            rw [sb] at OW2
            subst hE0 hslk
            obtain ⟨g, cap, hva, _, _⟩ := OW2.form (by omega)
            obtain ⟨rfl, rfl⟩ : A' = some ⟨g, 0, none⟩ ∧ c' = cap := by injection hva with h1 h2 h3; exact ⟨h1, h3⟩
            have OD := Lib.hid (show W2.ownsRow w.heap.size 5 1 (.slice (some ⟨g, 0, none⟩) sl c') sl (Wrd.B8 (byL x sl)) from owns_base OW2 SZ1.out)
            have YK := Lib.hid (YES.out hz)
            have OWR := Lib.hid WS2.out.ow
            have HLN := Lib.hid WS2.out.len
            have hds : ds.length = i := WS2.out.len
            rw [hds] at OWR
            have hz2s := WS2.out.bl.size
            obtain ⟨xs, hxs⟩ : ∃ y, y = flatW ds := ⟨_, rfl⟩
            rw [← hxs] at OWR
            have HXS := Lib.hid hxs
            have HDS := Lib.hid hds
            clear hz sb pb OW OW2 hva YES NOk hxs hds HSL HE
            go_wp2_with (at_builtin; refine wpList_append_any _ rfl (.tmp 36) (.tmp 41) _ rfl w.heap.size 38 i0 _ 2 32 Try.underlying32 hi0 hz0 hz1 hz2 rfl (by omega) (.slice Ao i q) i xs rfl (OWR.out.alloc _) (W2.heap.size + 1) (some ⟨W2.heap.size, 0, none⟩) 1 1 [.int .u64 a, .slice (some ⟨g, 0, none⟩) sl c'] rfl (reads_new W2 38 2 1 [.int .u64 a, .slice (some ⟨g, 0, none⟩) sl c'] (by simp) rfl) (by simp [Value.oneCell']) (by simp only [maxLen]; omega) (by omega) (by simp; omega) ?_; intro v4 w5 hown1 hg1 hat1; have NW := Lib.hid (WS.push (d := ⟨a, g, sl, c'⟩) WS2.out HA.out HSZ.out (by rw [← HX.out]; exact OD.out) (by rw [HDS.out, ← HXS.out]; exact hown1) hg1); obtain ⟨A5, q5, rfl⟩ := ownsRow_val hown1; clear hown1 hg1 hat1)
            go_roundw
            case rel => exact ⟨i + 1, q5, A5, by omega, by go_num, rfl, Lib.hid ⟨YK.out, _, NW.out⟩⟩
            case measure => simp [intOf]; omega
          · have hz' : Wrd.szB (k : Int) = false := by simpa using hz
            have hE1 : E = 1 := by rw [HE.out, Wrd.plc_arg hz']
            subst hE1
            have NX := Lib.hid (NOk.out hz')
            clear hz hz' NOk YES HSL
            go_wp2_with fail
            go_ret2
            exact WrP.no WS2.out.bl NX.out
    · obtain rfl : i = n := by omega
      have e1 : decide ((i : Int) < (i : Int)) = false := by simp
      go_wp2_with fail
      go_ret2
      exact ⟨WSR.out.bl, Ao, i, q, by rw [HOK.out]; rfl, fun h => (by rw [HOK.out] at h; cases h), fun _ => ⟨rfl, ds, WSR.out⟩⟩
end Go.Proofs.Ytlenjpgkmikgpaa
