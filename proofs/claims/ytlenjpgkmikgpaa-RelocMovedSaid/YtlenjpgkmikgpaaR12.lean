import Derived.Test.YtlenjpgkmikgpaaR11
namespace Go.Proofs.Ytlenjpgkmikgpaa
open Go.RowKit Go.Shelf Go.Hos
set_option linter.unusedVariables false
/-! Writes, of the document -/
theorem okW_up {P : Nat → PatD} {i : Nat} (h : okW P i = true) (hz : Wrd.szB (P i).size = true) : okW P (i + 1) = true := by rw [okW, h, hz]; rfl
theorem okW_at {P : Nat → PatD} {n i : Nat} (h : i < n) (hk : okW P n = true) : Wrd.szB (P i).size = true := by
  cases hz : Wrd.szB (P i).size with
  | true => rfl
  | false => rw [okW_no h hz] at hk; cases hk
set_option maxRecDepth 100000 in
set_option maxHeartbeats 8000000 in
theorem rwrites_any (A : Option Addr) (n c : Nat) (P : Nat → PatD) (V : Nat → Nat) (w : World) (h : Lay.StR w w.heap.size 3 A n (fun k => (P k).cs)) (hn : n ≤ 500) (hV : ∀ i, (P i).v = (V i : Int) ∧ V i < M) :
    Calls Try.prog 15 #[.slice A n c] w (WrP w P V n) := by
  have hmm : maxLen = 9223372036854775807 := by simp [maxLen]
  have H := Lib.hid h; have HV := Lib.hid hV
  obtain ⟨i0, hi0, hz0, hz1, hz2⟩ := info_parts info38
  obtain ⟨j0, hj0, jz0, jz1, jz2⟩ := info_parts Wrd.info5
  clear h hV
  go_enter Try.func15, Try.ntmps15
  go_wp2_with fail
  go_loopw [4] (fun v4 wr => ∃ (i : Nat), i ≤ n ∧ v4 = .int .i64 i ∧ Hid (okW P i = true ∧ Below w.heap.size w wr)) (fun v4 _ => n - (intOf v4).toNat)
  case atStart => exact ⟨0, Nat.zero_le _, rfl, Lib.hid ⟨rfl, Below.refl _ _⟩⟩
  case round =>
    obtain ⟨i, hi, rfl, hb⟩ := hrel
    by_cases hin : i < n
    · have e1 : decide ((i : Int) < (n : Int)) = true := by simp; omega
      have e2 : (i : Int) < (n : Int) := by omega
      obtain ⟨ad, rfl, had, d0, d1, d2⟩ := pat_cells (H.out.below hb.out.2) hin
      have NOk := Lib.hid (show Wrd.szB (P i).size = false → okW P n = false from fun h => okW_no hin h)
      have YES := Lib.hid (show Wrd.szB (P i).size = true → okW P (i + 1) = true from fun h => okW_up hb.out.1 h)
      have BW := Lib.hid hb.out.2
      obtain ⟨s, hs⟩ : ∃ s, s = (P i).size := ⟨_, rfl⟩
      rw [← hs] at d1 NOk YES
      have lad := World.block_lt_of_cell? _ _ d0
      clear hs hb d0 d2
      by_cases h1 : s = 1
      · subst h1
        have YX := Lib.hid (YES.out rfl)
        clear NOk YES
        go_wp2_with fail
        go_roundw
        case rel => exact ⟨i + 1, by omega, by go_num, Lib.hid ⟨YX.out, BW.out⟩⟩
        case measure => simp [intOf]; omega
      by_cases h2 : s = 2
      · subst h2
        have YX := Lib.hid (YES.out rfl)
        clear NOk YES
        go_wp2_with fail
        go_roundw
        case rel => exact ⟨i + 1, by omega, by go_num, Lib.hid ⟨YX.out, BW.out⟩⟩
        case measure => simp [intOf]; omega
      by_cases h4 : s = 4
      · subst h4
        have YX := Lib.hid (YES.out rfl)
        clear NOk YES
        go_wp2_with fail
        go_roundw
        case rel => exact ⟨i + 1, by omega, by go_num, Lib.hid ⟨YX.out, BW.out⟩⟩
        case measure => simp [intOf]; omega
      by_cases h8 : s = 8
      · subst h8
        have YX := Lib.hid (YES.out rfl)
        clear NOk YES
        go_wp2_with fail
        go_roundw
        case rel => exact ⟨i + 1, by omega, by go_num, Lib.hid ⟨YX.out, BW.out⟩⟩
        case measure => simp [intOf]; omega
      · have NX := Lib.hid (NOk.out (by unfold Wrd.szB; simp; omega))
        have t1 : (s != 1) = true := by simp [h1]
        have t2 : (s != 2) = true := by simp [h2]
        have t4 : (s != 4) = true := by simp [h4]
        have t8 : (s != 8) = true := by simp [h8]
        clear NOk YES
        go_wp2_with fail
        go_ret2
        exact WrP.no BW.out NX.out
    · obtain rfl : n = i := by omega
      have e1 : decide ((n : Int) < (n : Int)) = false := by simp
      have OKN := Lib.hid hb.out.1
      have B1 := Lib.hid hb.out.2
      clear hb hi hin
      go_wp2_with fail
      clear e1
      go_loopw [5, 6] (fun v5 v6 wr => ∃ (i q : Nat) (Ao : Option Addr), i ≤ n ∧ v6 = .int .i64 i ∧ v5 = .slice Ao i q ∧ Hid (∃ ds, WS w P V i ds (.slice Ao i q) wr)) (fun _ v6 _ => n - (intOf v6).toNat)
      case atStart => exact ⟨0, 0, none, Nat.zero_le _, rfl, rfl, Lib.hid ⟨[], B1.out, World.ownsRow_nil _ _ _ _, rfl, fun i d hd => by simp at hd⟩⟩
      case round =>
        clear B1
        obtain ⟨i, q, Ao, hi, rfl, rfl, hb⟩ := hrel
        obtain ⟨ds, ws⟩ := hb.out
        have WSR := Lib.hid ws
        clear hb
        by_cases hin : i < n
        · have e1 : decide ((i : Int) < (n : Int)) = true := by simp; omega
          have e2 : (i : Int) < (n : Int) := by omega
          obtain ⟨ad, rfl, had, d0, d1, d2⟩ := pat_cells (H.out.below ws.bl) hin
          have hv := HV.out i
          rw [hv.1] at d2
          obtain ⟨x, hx⟩ : ∃ x, x = V i := ⟨_, rfl⟩
          obtain ⟨a, ha⟩ : ∃ a, a = (P i).at_ := ⟨_, rfl⟩
          obtain ⟨k, hk, hk1, hk8⟩ : ∃ k : Nat, (k : Int) = (P i).size ∧ 1 ≤ k ∧ k ≤ 8 := by
            have := okW_at hin OKN.out
            unfold Wrd.szB at this
            have := of_decide_eq_true this
            exact ⟨(P i).size.toNat, by omega, by omega, by omega⟩
          rw [← hx] at d2 hv
          rw [← ha] at d0
          rw [← hk] at d1
          have HX := Lib.hid hx; have HA := Lib.hid ha; have HSZ := Lib.hid hk
          have HXM := Lib.hid hv.2
          have lad := World.block_lt_of_cell? _ _ d0
          have CE : Hid (∀ W : World, Below wr.heap.size wr W → W.cell? (ad.add (i * 3)) = some (.int .u64 a) ∧ W.cell? ⟨(ad.add (i * 3)).block, (ad.add (i * 3)).off + 1, none⟩ = some (.int .i64 k) ∧ W.cell? ⟨(ad.add (i * 3)).block, (ad.add (i * 3)).off + 2, none⟩ = some (.int .u64 x)) :=
            Lib.hid fun W h => ⟨by rw [h.cell (by exact lad)]; exact d0, by rw [h.cell (by exact lad)]; exact d1, by rw [h.cell (by exact lad)]; exact d2⟩
          clear hx ha hk hv ws d0 d1 d2 lad had
          generalize wr = W0 at *
          go_wp2_with fail
          go_loopw [7, 8] (fun v7 v8 wr => ∃ (j q' : Nat) (A' : Option Addr), j ≤ k ∧ v8 = .int .i64 j ∧ v7 = .slice A' j q' ∧ Hid (wr.ownsRow W0.heap.size 5 1 (.slice A' j q') j (Wrd.B8 (byL x j)) ∧ Below W0.heap.size W0 wr)) (fun _ v8 _ => k - (intOf v8).toNat)
          case atStart => exact ⟨0, 0, none, Nat.zero_le _, rfl, rfl, Lib.hid ⟨World.ownsRow_nil _ _ _ _, Below.refl _ _⟩⟩
          case round =>
            obtain ⟨j, q', A', hj, rfl, rfl, hb⟩ := hrel
            obtain ⟨c0, c1, c2⟩ := CE.out wr hb.out.2
            have lc := World.block_lt_of_cell? _ _ c0
            by_cases hjk : j < k
            · have f1 : decide ((j : Int) < (k : Int)) = true := by simp; omega
              have f2 : (j : Int) < (k : Int) := by omega
              have w3 := Wrd.shr_byte x j
              obtain ⟨Z, hZ⟩ : ∃ Z, Z = x / 256 ^ j % 256 := ⟨_, rfl⟩
              rw [← hZ] at w3
              have NEX := Lib.hid (show byL x (j + 1) = byL x j ++ [Z] by rw [byL, ← hZ])
              have OB := Lib.hid hb.out.1
              have BB := Lib.hid hb.out.2
              have SZB := BB.out.size
              obtain ⟨xs, hxs⟩ : ∃ y, y = Wrd.B8 (byL x j) := ⟨_, rfl⟩
              rw [← hxs] at OB
              have HXS := Lib.hid hxs
              clear hb hZ hxs c0
              go_wp2_with (at_builtin; refine wpList_append_any _ rfl (.tmp 60) (.tmp 70) _ rfl W0.heap.size 5 j0 _ 1 1 Try.underlying36 hj0 jz0 jz1 jz2 rfl (by omega) (.slice A' j q') j xs rfl (OB.out.alloc _) (wr.heap.size + 1) (some ⟨wr.heap.size, 0, none⟩) 1 1 [.int .u8 Z] rfl (reads_new wr 5 1 1 [.int .u8 Z] (by simp) rfl) (by simp [Value.oneCell']) (by simp only [maxLen]; omega) (by omega) (by simp; omega) ?_; intro v4 w5 hown1 hg1 hat1; have NW := Lib.hid (show w5.ownsRow W0.heap.size 5 1 v4 (j + 1) (Wrd.B8 (byL x (j + 1))) from by rw [NEX.out, Wrd.B8, List.map_append]; rw [HXS.out] at hown1; exact hown1); have NB := Lib.hid ((BB.out.alloc BB.out.size _).trans (below_own hg1 (by have := BB.out.size; simp; omega) fun k hk => (OB.out.lt k hk).1)); obtain ⟨A5, q5, rfl⟩ := ownsRow_val hown1; clear hown1 hg1 hat1)
              go_roundw
              case rel => exact ⟨j + 1, q5, A5, by omega, by go_num, rfl, Lib.hid ⟨NW.out, NB.out⟩⟩
              case measure => simp [intOf]; omega
            · obtain rfl : k = j := by omega
              have f1 : decide ((k : Int) < (k : Int)) = false := by simp
              have f2 : ¬ ((k : Int) < (k : Int)) := by omega
              have OB := Lib.hid hb.out.1
              have BB := Lib.hid hb.out.2
              clear hb hj hjk
              obtain ⟨g, cap, hva, _, _⟩ := OB.out.form (by omega)
              obtain ⟨rfl, rfl⟩ : A' = some ⟨g, 0, none⟩ ∧ q' = cap := by injection hva with h1 h2 h3; exact ⟨h1, h3⟩
              have OD := Lib.hid (show wr.ownsRow w.heap.size 5 1 (.slice (some ⟨g, 0, none⟩) k q') k (Wrd.B8 (byL x k)) from owns_base OB.out WSR.out.bl.size)
              have WS2 := Lib.hid (WSR.out.next BB.out)
              have OWR := Lib.hid WS2.out.ow
              have HLN := Lib.hid WS2.out.len
              have hds : ds.length = i := WS2.out.len
              rw [hds] at OWR
              have hz2s := WS2.out.bl.size
              obtain ⟨xs, hxs⟩ : ∃ y, y = flatW ds := ⟨_, rfl⟩
              rw [← hxs] at OWR
              have HXS := Lib.hid hxs
              have HDS := Lib.hid hds
              clear hva hxs hds c2
              go_wp2_with (at_builtin; refine wpList_append_any _ rfl (.tmp 72) (.tmp 80) _ rfl w.heap.size 38 i0 _ 2 32 Try.underlying32 hi0 hz0 hz1 hz2 rfl (by omega) (.slice Ao i q) i xs rfl (OWR.out.alloc _) (wr.heap.size + 1) (some ⟨wr.heap.size, 0, none⟩) 1 1 [.int .u64 a, .slice (some ⟨g, 0, none⟩) k q'] rfl (reads_new wr 38 2 1 [.int .u64 a, .slice (some ⟨g, 0, none⟩) k q'] (by simp) rfl) (by simp [Value.oneCell']) (by simp only [maxLen]; omega) (by omega) (by simp; omega) ?_; intro v4 w5 hown1 hg1 hat1; have NW := Lib.hid (WS.push (d := ⟨a, g, k, q'⟩) WS2.out HA.out HSZ.out (by rw [← HX.out]; exact OD.out) (by rw [HDS.out, ← HXS.out]; exact hown1) hg1); obtain ⟨A5, q5, rfl⟩ := ownsRow_val hown1; clear hown1 hg1 hat1)
              go_roundw
              case rel => exact ⟨i + 1, q5, A5, by omega, by go_num, rfl, Lib.hid ⟨_, NW.out⟩⟩
              case measure => simp [intOf]; omega
        · obtain rfl : n = i := by omega
          have e1 : decide ((n : Int) < (n : Int)) = false := by simp
          go_wp2_with fail
          go_ret2
          exact ⟨WSR.out.bl, Ao, n, q, by rw [OKN.out]; rfl, fun h => (by rw [OKN.out] at h; cases h), fun _ => ⟨rfl, ds, WSR.out⟩⟩
end Go.Proofs.Ytlenjpgkmikgpaa
