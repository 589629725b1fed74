import Derived.Test.YticnmgdflkipeaaZ20
import Derived.Test.YticnmgdflkipeaaZ14
import Derived.Test.YticnmgdflkipeaaZ12
namespace Go.Proofs.Yticnmgdflkipeaa
open Go.RowKit Go.Shelf Go.Hos Go.Sort
set_option linter.unusedVariables false
/-! the document's Bases -/
structure RBas (w : World) (O : Nat → ObjD) (k : Nat) (v : Value) (W : World) : Prop where
  bl : Below w.heap.size w W
  ow : W.ownsRow w.heap.size 33 11 v k (flatG (objC (placed O)) k)
theorem RBas.next {w W W' : World} {O : Nat → ObjD} {k : Nat} {v : Value} (h : RBas w O k v W) (hb : Below W.heap.size W W') : RBas w O k v W' := ⟨h.bl.trans (hb.mono h.bl.size), owns_below h.ow hb⟩
theorem RBas.push {w W W' : World} {O : Nat → ObjD} {k : Nat} {v v' : Value} {cs : Array Value} (h : RBas w O k v W) (hp : (placed O k).cs = cs) (ho : W'.ownsRow w.heap.size 33 11 v' (k + 1) (flatG (objC (placed O)) k ++ cs.toList)) (hg : W.grownBy W' v.ownBlock) : RBas w O (k + 1) v' W' :=
  ⟨h.bl.trans (below_own hg h.bl.size fun j hj => (h.ow.lt j hj).1), by subst hp; exact ho⟩
set_option maxRecDepth 100000 in
set_option maxHeartbeats 8000000 in
theorem rbases_any (A : Option Addr) (m c : Nat) (O : Nat → ObjD) (w : World) (hR : ObjR w w.heap.size A m O) (hF : fitsO O) : Calls Try.prog 16 #[.slice A m c] w (BaP w O m) := by
  have hm := hR.len
  have hmm : maxLen = 9223372036854775807 := by simp [maxLen]
  have H := Lib.hid hR; have HF := Lib.hid hF
  clear hR hF
  by_cases h0 : m = 0
  · have g1 : ((m : Int) == 0) = true := by simp; omega
    have RES := Lib.hid (basesE_arg (O := O) (m := m) (.inl h0))
    clear h0
    go_enter Try.func16, Try.ntmps16
    go_wp2_with fail
    go_ret2
    exact BaP.arg (Below.refl _ _) RES.out
  have g1 : ((m : Int) == 0) = false := by simp; omega
  by_cases h8 : 8 < m
  · have g2 : decide ((8 : Int) < (m : Int)) = true := by simp; omega
    have RES := Lib.hid (basesE_arg (O := O) (m := m) (.inr (.inl h8)))
    clear h0
    go_enter Try.func16, Try.ntmps16
    go_wp2_with fail
    go_ret2
    exact BaP.arg (Below.refl _ _) RES.out
  have g2 : decide ((8 : Int) < (m : Int)) = false := by simp; omega
  have h0m : 0 < m := by omega
  have hm8 : m ≤ 8 := by omega
  clear h8 h0
  go_enter Try.func16, Try.ntmps16
  go_wp2_with fail
  go_loopw [4] (fun v4 wr => ∃ i : Nat, i ≤ m ∧ v4 = .int .i64 i ∧ Hid (Below w.heap.size w wr) ∧ Hid (okObjs O i)) (fun v4 _ => m - (intOf v4).toNat)
  case atStart => exact ⟨0, Nat.zero_le _, rfl, Lib.hid (Below.refl _ _), Lib.hid fun i hi => absurd hi (by omega)⟩
  case round =>
    obtain ⟨i, hi, rfl, bl, ok⟩ := hrel
    by_cases him : i < m
    · have e1 : decide ((i : Int) < (m : Int)) = true := by simp; omega
      have e2 : (i : Int) < (m : Int) := by omega
      obtain ⟨ad, rfl, had, c0, c1, c2, c3, c4, c5, c6, c7, c8, c9, c10⟩ := (H.out.below bl.out).cells him
      have hsy := ((H.out.below bl.out).sy i him).1
      have RC := rright_any (O i) wr (hsy.more bl.out.size) (HF.out i)
      obtain ⟨rb, hrb⟩ : ∃ b, b = rightB (O i) := ⟨_, rfl⟩
      obtain ⟨tt, htt⟩ : ∃ t, t = (O i).ty := ⟨_, rfl⟩
      rw [← hrb] at RC
      have HRB := Lib.hid hrb; have HTT := Lib.hid htt
      have lad := World.block_lt_of_cell? _ _ c1
      have ecs : (O i).cs = #[.int .i64 (O i).ino, .int .u64 (O i).base, .int .u16 (O i).ty, .int .u64 (O i).en, .int .u64 (O i).ph, .slice (O i).gA (O i).gM (O i).gQ, .slice (O i).nA (O i).nM (O i).nQ, .string (O i).so, .string (O i).rn, .slice (O i).sA (O i).sM (O i).sQ, .slice (O i).rA (O i).rM (O i).rQ] := rfl
      rw [ecs] at RC
      rw [← htt] at RC c2
      have HRC := Lib.hid RC
      clear hsy RC hrb htt ecs
      generalize (O i).ino = o0 at *
      generalize (O i).base = o1 at *
      generalize (O i).en = o3 at *
      generalize (O i).ph = o4 at *
      generalize (O i).gA = o5 at *
      generalize (O i).gM = o6 at *
      generalize (O i).gQ = o7 at *
      generalize (O i).nA = o8 at *
      generalize (O i).nM = o9 at *
      generalize (O i).nQ = o10 at *
      generalize (O i).so = o11 at *
      generalize (O i).rn = o12 at *
      generalize (O i).sA = o13 at *
      generalize (O i).sM = o14 at *
      generalize (O i).sQ = o15 at *
      generalize (O i).rA = o16 at *
      generalize (O i).rM = o17 at *
      generalize (O i).rQ = o18 at *
      cases rb with
      | false =>
        have RES := Lib.hid (basesE_arg (O := O) (m := m) (.inr (.inr fun h => by have := (h i him).1; rw [← HRB.out] at this; cases this)))
        go_wp2_with fail
        refine HRC.out.mono ?_
        rintro e w3 ⟨rfl, bl3⟩
        have B3 : Hid (Below w.heap.size w w3) := Lib.hid (bl.out.trans (bl3.mono bl.out.size))
        clear bl3
        go_wp2_with fail
        go_ret2
        exact BaP.arg B3.out RES.out
      | true =>
        by_cases hi0 : i = 0
        · have f1 : decide ((0 : Int) < (i : Int)) = false := by simp; omega
          have f1n : decide (0 < i) = false := by simp; omega
          have OK2 : Hid (okObjs O (i + 1)) := Lib.hid fun j hj => by
            by_cases e : j = i
            · subst e; exact ⟨HRB.out.symm, .inl hi0⟩
            · exact ok.out j (by omega)
          clear hi0
          go_wp2_with fail
          refine HRC.out.mono ?_
          rintro e w3 ⟨rfl, bl3⟩
          have B3 : Hid (Below w.heap.size w w3) := Lib.hid (bl.out.trans (bl3.mono bl.out.size))
          clear bl3
          go_wp2_with fail
          go_roundw
          case rel => exact ⟨i + 1, by omega, by go_num, B3, OK2⟩
          case measure => simp [intOf]; omega
        · have f1 : decide ((0 : Int) < (i : Int)) = true := by simp; omega
          have f1n : decide (0 < i) = true := by simp; omega
          have f1p : 0 < i := by omega
          by_cases ht : tt = 3
          · have f2 : ((tt : Int) != 3) = false := by simp; omega
            have f3 : ((tt : Int) == 3) = true := by simp; omega
            have OK2 : Hid (okObjs O (i + 1)) := Lib.hid fun j hj => by
              by_cases e : j = i
              · subst e; exact ⟨HRB.out.symm, .inr (by rw [← HTT.out]; exact ht)⟩
              · exact ok.out j (by omega)
            clear hi0 ht
            go_wp2_with fail
            refine HRC.out.mono ?_
            rintro e w3 ⟨rfl, bl3⟩
            have B3 : Hid (Below w.heap.size w w3) := Lib.hid (bl.out.trans (bl3.mono bl.out.size))
            have k2 : w3.cell? ⟨(ad.add (i * 11)).block, (ad.add (i * 11)).off + 2, none⟩ = some (.int .u16 tt) := by rw [bl3.cell (by omega)]; exact c2
            have lk := World.block_lt_of_cell? _ _ k2
            clear bl3
            go_wp2_with fail
            go_roundw
            case rel => exact ⟨i + 1, by omega, by go_num, B3, OK2⟩
            case measure => simp [intOf]; omega
          · have f2 : ((tt : Int) != 3) = true := by simp; omega
            have f3 : ((tt : Int) == 3) = false := by simp; omega
            have RES := Lib.hid (basesE_arg (O := O) (m := m) (.inr (.inr fun h => by
              rcases (h i him).2 with h | h
              · exact hi0 h
              · exact ht (by rw [HTT.out]; exact h))))
            clear hi0 ht
            go_wp2_with fail
            refine HRC.out.mono ?_
            rintro e w3 ⟨rfl, bl3⟩
            have B3 : Hid (Below w.heap.size w w3) := Lib.hid (bl.out.trans (bl3.mono bl.out.size))
            have k2 : w3.cell? ⟨(ad.add (i * 11)).block, (ad.add (i * 11)).off + 2, none⟩ = some (.int .u16 tt) := by rw [bl3.cell (by omega)]; exact c2
            have lk := World.block_lt_of_cell? _ _ k2
            clear bl3
            go_wp2_with fail
            go_ret2
            exact BaP.arg B3.out RES.out
    · obtain rfl : m = i := by omega
      have d1 : decide ((m : Int) < (m : Int)) = false := by simp
      have OKM := Lib.hid ok.out
      have BL0 := bl
      clear ok bl
      obtain ⟨j0, hj0, hy0, hy1, hy2⟩ := info_parts info33
      go_wp2_with fail
      go_loopw [5, 6, 7] (fun v5 v6 v7 wr => ∃ (k q : Nat) (Ao : Option Addr), k ≤ m ∧ v5 = .slice Ao k q ∧ v6 = .int .u64 ((nxB O k : Nat) : Int) ∧ v7 = .int .i64 k ∧ Hid (RBas w O k (.slice Ao k q) wr)) (fun _ _ v7 _ => m - (intOf v7).toNat)
      case atStart => exact ⟨0, 0, none, Nat.zero_le _, rfl, rfl, rfl, Lib.hid ⟨BL0.out, World.ownsRow_nil _ _ _ _⟩⟩
      case round =>
        clear BL0
        obtain ⟨k, q, Ao, hk, rfl, rfl, rfl, br⟩ := hrel
        by_cases hkm : k < m
        · have e1 : decide ((k : Int) < (m : Int)) = true := by simp; omega
          have e2 : (k : Int) < (m : Int) := by omega
          obtain ⟨ad, rfl, had, c0, c1, c2, c3, c4, c5, c6, c7, c8, c9, c10⟩ := (H.out.below br.out.bl).cells hkm
          have hsy := ((H.out.below br.out.bl).sy k hkm)
          have lad := World.block_lt_of_cell? _ _ c1
          obtain ⟨hrk, h3k⟩ := OKM.out k hkm
          have sa := spanA_lt hrk
          have sz := spanZ_le hrk
          have nxb := nxB_bound OKM.out k hk
          obtain ⟨aa, haa⟩ : ∃ x, x = spanA (O k) := ⟨_, rfl⟩
          obtain ⟨zz, hzz⟩ : ∃ x, x = spanZ (O k) := ⟨_, rfl⟩
          obtain ⟨nx, hnx⟩ : ∃ x, x = nxB O k := ⟨_, rfl⟩
          obtain ⟨nb, hnb⟩ : ∃ x, x = nbB O k := ⟨_, rfl⟩
          obtain ⟨nx2, hnx2⟩ : ∃ x, x = nxB O (k + 1) := ⟨_, rfl⟩
          obtain ⟨tt, htt⟩ : ∃ t, t = (O k).ty := ⟨_, rfl⟩
          have hnx2' : nx2 = if k = 0 then nx else nx - aa + zz + 4096 := by
            rw [hnx2, hnx, haa, hzz]; show (if k = 0 then _ else _) = _
            by_cases e : k = 0
            · subst e; rw [if_pos rfl, if_pos rfl]; rfl
            · rw [if_neg e, if_neg e]
          have hnb' : nb = if k = 0 then (if tt = 2 then 0 else 93824992231424 - aa) else nx - aa := by rw [hnb, htt, hnx, haa]; rfl
          obtain ⟨W1, hW1⟩ : ∃ W, W = wr.alloc (.cells (O k).cs 33) := ⟨_, rfl⟩
          have B1 : Hid (Below wr.heap.size wr W1) := by rw [hW1]; exact Lib.hid ((Below.refl _ _).alloc (Nat.le_refl _) _)
          have K1 : Hid (Blk W1 wr.heap.size 33 (O k).cs) := by rw [hW1]; exact Lib.hid (Blk.new _ _ _)
          have SC := span_any (O k) W1 (((hsy.1.more br.out.bl.size).below B1.out).more B1.out.size) (HF.out k) hrk
          have ecs : (O k).cs = #[.int .i64 (O k).ino, .int .u64 (O k).base, .int .u16 tt, .int .u64 (O k).en, .int .u64 (O k).ph, .slice (O k).gA (O k).gM (O k).gQ, .slice (O k).nA (O k).nM (O k).nQ, .string (O k).so, .string (O k).rn, .slice (O k).sA (O k).sM (O k).sQ, .slice (O k).rA (O k).rM (O k).rQ] := by rw [htt]; rfl
          rw [ecs, ← haa, ← hzz] at SC
          rw [ecs] at hW1 K1
          have HPL : Hid ((placed O k).cs = #[.int .i64 (O k).ino, .int .u64 nb, .int .u16 tt, .int .u64 (O k).en, .int .u64 (O k).ph, .slice (O k).gA (O k).gM (O k).gQ, .slice (O k).nA (O k).nM (O k).nQ, .string (O k).so, .string (O k).rn, .slice (O k).sA (O k).sM (O k).sQ, .slice (O k).rA (O k).rM (O k).rQ]) := Lib.hid (by rw [htt, hnb]; rfl)
          have h3t : k = 0 ∨ tt = 3 := by rw [htt]; exact h3k
          have sz3 : tt = 3 → zz ≤ 4294967296 := fun e => by rw [hzz]; exact spanZ_le3 hrk (by rw [← htt]; exact e)
          have t23 : tt = 2 ∨ tt = 3 := by rw [htt]; exact (right_parts hrk).2.2.1
          rw [← haa, ← hzz] at sa
          rw [← hzz] at sz
          rw [← hnx] at nxb
          rw [← hnx]
          rw [← htt] at c2
          have HNX2 := Lib.hid hnx2; have HNB := Lib.hid hnb; have HTT := Lib.hid htt; have HSC := Lib.hid SC; have HW1 := Lib.hid hW1
          clear hsy SC hrk h3k haa hzz hnx hnb hnx2 htt ecs hW1
          by_cases hk0 : k = 0
          · have f1 : ((k : Int) == 0) = true := by simp; omega
            rw [if_pos hk0] at hnx2' hnb'
            have NXE : Hid (nx = nx2) := Lib.hid hnx2'.symm
            clear hnx2'
            by_cases ht : tt = 2
            · have f2 : ((tt : Int) == 2) = true := by simp; omega
              rw [if_pos ht] at hnb'
              have NB0 := Lib.hid hnb'
              clear ht hnb' hk0 h3t sz3 t23 sa sz nxb
              generalize (O k).ino = o0 at *
              generalize (O k).en = o3 at *
              generalize (O k).ph = o4 at *
              generalize (O k).gA = o5 at *
              generalize (O k).gM = o6 at *
              generalize (O k).gQ = o7 at *
              generalize (O k).nA = o8 at *
              generalize (O k).nM = o9 at *
              generalize (O k).nQ = o10 at *
              generalize (O k).so = o11 at *
              generalize (O k).rn = o12 at *
              generalize (O k).sA = o13 at *
              generalize (O k).sM = o14 at *
              generalize (O k).sQ = o15 at *
              generalize (O k).rA = o16 at *
              generalize (O k).rM = o17 at *
              generalize (O k).rQ = o18 at *
              generalize (O k).base = o1 at *
              go_upto_region 14 with fail
              rw [← HW1.out]
              have i0' := (K1.out.cell 0).trans rfl
              have i1 := (K1.out.cell 1).trans rfl
              have i2 := (K1.out.cell 2).trans rfl
              have i3 := (K1.out.cell 3).trans rfl
              have i4 := (K1.out.cell 4).trans rfl
              have i5 := (K1.out.cell 5).trans rfl
              have i6 := (K1.out.cell 6).trans rfl
              have i7 := (K1.out.cell 7).trans rfl
              have i8 := (K1.out.cell 8).trans rfl
              have i9 := (K1.out.cell 9).trans rfl
              have i10 := (K1.out.cell 10).trans rfl
              simp only [List.getElem?_toArray, List.getElem?_cons_succ, List.getElem?_cons_zero] at i0' i1 i2 i3 i4 i5 i6 i7 i8 i9 i10
              have lw1 := K1.out.lt
              clear c0 c1 c2 c3 c4 c5 c6 c7 c8 c9 c10 lad
              go_wp2_with fail
              refine HSC.out.mono ?_
              rintro e w3 ⟨rfl, bl3⟩
              have B3 : Hid (Below wr.heap.size wr w3) := Lib.hid (B1.out.trans (bl3.mono B1.out.size))
              have K3 := Lib.hid (K1.out.below bl3 K1.out.lt)
              have k2 : w3.cell? ⟨wr.heap.size, 2, none⟩ = some (.int .u16 tt) := (K3.out.cell 2).trans rfl
              have k1 : w3.cell? ⟨wr.heap.size, 1, none⟩ = some (.int .u64 o1) := (K3.out.cell 1).trans rfl
              have fr : ∀ j, w3.frozen? ⟨wr.heap.size, j, none⟩ = false := fun j => K3.out.frozen j
              have lk := K3.out.lt
              clear bl3 i0' i1 i2 i3 i4 i5 i6 i7 i8 i9 i10 lw1
              go_upto_region 21 with fail
              rw [show (.int .u64 0 : Value) = .int .u64 ((nb : Nat) : Int) from by rw [NB0.out]; rfl]
              obtain ⟨W4, hW4⟩ : ∃ W, W = w3.setCell ⟨wr.heap.size, 1, none⟩ (.int .u64 nb) := ⟨_, rfl⟩
              have K4 : Blk W4 wr.heap.size 33 #[.int .i64 o0, .int .u64 nb, .int .u16 tt, .int .u64 o3, .int .u64 o4, .slice o5 o6 o7, .slice o8 o9 o10, .string o11, .string o12, .slice o13 o14 o15, .slice o16 o17 o18] := by rw [hW4]; exact K3.out.set_ 1 _
              have B4 : Hid (Below wr.heap.size wr W4) := by rw [hW4]; exact Lib.hid (B3.out.setCell (by simp) _)
              rw [← hW4]
              have y0 := (K4.cell 0).trans rfl
              have y1 := (K4.cell 1).trans rfl
              have y2 := (K4.cell 2).trans rfl
              have y3 := (K4.cell 3).trans rfl
              have y4 := (K4.cell 4).trans rfl
              have y5 := (K4.cell 5).trans rfl
              have y6 := (K4.cell 6).trans rfl
              have y7 := (K4.cell 7).trans rfl
              have y8 := (K4.cell 8).trans rfl
              have y9 := (K4.cell 9).trans rfl
              have y10 := (K4.cell 10).trans rfl
              simp only [List.getElem?_toArray, List.getElem?_cons_succ, List.getElem?_cons_zero] at y0 y1 y2 y3 y4 y5 y6 y7 y8 y9 y10
              have lw4 := K4.lt
              have CP3 : Hid (RBas w O k (.slice Ao k q) (W4.alloc (.cells #[.int .i64 o0, .int .u64 nb, .int .u16 tt, .int .u64 o3, .int .u64 o4, .slice o5 o6 o7, .slice o8 o9 o10, .string o11, .string o12, .slice o13 o14 o15, .slice o16 o17 o18] 33))) := Lib.hid (br.out.next (B4.out.alloc B4.out.size _))
              obtain ⟨xs, hxs⟩ : ∃ x, x = flatG (objC (placed O)) k := ⟨_, rfl⟩
              have OW := CP3.out.ow
              rw [← hxs] at OW
              have HOW := Lib.hid OW
              have HXS := Lib.hid hxs
              have hz8 := CP3.out.bl.size
              clear OW hxs k1 k2 fr lk hW4
              go_wp2_with (at_builtin
                           refine wpList_append_any _ rfl (.tmp 92) (.tmp 94) _ rfl w.heap.size 33 j0 _ 11 168 Try.underlying35 hj0 hy0 hy1 hy2 rfl (by omega) (.slice Ao k q) k xs rfl HOW.out (W4.heap.size + 1) (some ⟨W4.heap.size, 0, none⟩) 1 1 [.int .i64 o0, .int .u64 nb, .int .u16 tt, .int .u64 o3, .int .u64 o4, .slice o5 o6 o7, .slice o8 o9 o10, .string o11, .string o12, .slice o13 o14 o15, .slice o16 o17 o18] rfl (reads_new W4 33 11 1 [.int .i64 o0, .int .u64 nb, .int .u16 tt, .int .u64 o3, .int .u64 o4, .slice o5 o6 o7, .slice o8 o9 o10, .string o11, .string o12, .slice o13 o14 o15, .slice o16 o17 o18] (by simp) rfl) (by simp [Value.oneCell']) (by simp only [maxLen]; omega) (by omega) hz8 ?_
                           intro v4 w4 hown4 hg4 hat4
                           rw [HXS.out] at hown4
                           have CP4 : Hid (RBas w O (k + 1) v4 w4) := Lib.hid (RBas.push CP3.out HPL.out hown4 hg4)
                           obtain ⟨A4, q4, rfl⟩ := ownsRow_val hown4
                           clear hown4 hg4 hat4)
              go_roundw
              case rel => exact ⟨k + 1, q4, A4, by omega, rfl, by rw [← HNX2.out, ← NXE.out], by go_num, CP4⟩
              case measure => simp [intOf]; omega
            · have f2 : ((tt : Int) == 2) = false := by simp; omega
              have zz3 := sz3 (by omega)
              have w1 : IntKind.u64.wrap ((93824992231424 : Int) - (aa : Int)) = (nb : Int) := by
                rw [if_neg ht] at hnb'
                rw [show (93824992231424 : Int) - (aa : Int) = (nb : Int) by omega]; exact wrap_small (by unfold M; omega)
              clear ht hnb' hk0 h3t sz3 t23 sa sz nxb zz3
              generalize (O k).ino = o0 at *
              generalize (O k).en = o3 at *
              generalize (O k).ph = o4 at *
              generalize (O k).gA = o5 at *
              generalize (O k).gM = o6 at *
              generalize (O k).gQ = o7 at *
              generalize (O k).nA = o8 at *
              generalize (O k).nM = o9 at *
              generalize (O k).nQ = o10 at *
              generalize (O k).so = o11 at *
              generalize (O k).rn = o12 at *
              generalize (O k).sA = o13 at *
              generalize (O k).sM = o14 at *
              generalize (O k).sQ = o15 at *
              generalize (O k).rA = o16 at *
              generalize (O k).rM = o17 at *
              generalize (O k).rQ = o18 at *
              generalize (O k).base = o1 at *
              go_upto_region 14 with fail
              rw [← HW1.out]
              have i0' := (K1.out.cell 0).trans rfl
              have i1 := (K1.out.cell 1).trans rfl
              have i2 := (K1.out.cell 2).trans rfl
              have i3 := (K1.out.cell 3).trans rfl
              have i4 := (K1.out.cell 4).trans rfl
              have i5 := (K1.out.cell 5).trans rfl
              have i6 := (K1.out.cell 6).trans rfl
              have i7 := (K1.out.cell 7).trans rfl
              have i8 := (K1.out.cell 8).trans rfl
              have i9 := (K1.out.cell 9).trans rfl
              have i10 := (K1.out.cell 10).trans rfl
              simp only [List.getElem?_toArray, List.getElem?_cons_succ, List.getElem?_cons_zero] at i0' i1 i2 i3 i4 i5 i6 i7 i8 i9 i10
              have lw1 := K1.out.lt
              clear c0 c1 c2 c3 c4 c5 c6 c7 c8 c9 c10 lad
              go_wp2_with fail
              refine HSC.out.mono ?_
              rintro e w3 ⟨rfl, bl3⟩
              have B3 : Hid (Below wr.heap.size wr w3) := Lib.hid (B1.out.trans (bl3.mono B1.out.size))
              have K3 := Lib.hid (K1.out.below bl3 K1.out.lt)
              have k2 : w3.cell? ⟨wr.heap.size, 2, none⟩ = some (.int .u16 tt) := (K3.out.cell 2).trans rfl
              have k1 : w3.cell? ⟨wr.heap.size, 1, none⟩ = some (.int .u64 o1) := (K3.out.cell 1).trans rfl
              have fr : ∀ j, w3.frozen? ⟨wr.heap.size, j, none⟩ = false := fun j => K3.out.frozen j
              have lk := K3.out.lt
              clear bl3 i0' i1 i2 i3 i4 i5 i6 i7 i8 i9 i10 lw1
              go_upto_region 21 with fail
              obtain ⟨W4, hW4⟩ : ∃ W, W = w3.setCell ⟨wr.heap.size, 1, none⟩ (.int .u64 nb) := ⟨_, rfl⟩
              have K4 : Blk W4 wr.heap.size 33 #[.int .i64 o0, .int .u64 nb, .int .u16 tt, .int .u64 o3, .int .u64 o4, .slice o5 o6 o7, .slice o8 o9 o10, .string o11, .string o12, .slice o13 o14 o15, .slice o16 o17 o18] := by rw [hW4]; exact K3.out.set_ 1 _
              have B4 : Hid (Below wr.heap.size wr W4) := by rw [hW4]; exact Lib.hid (B3.out.setCell (by simp) _)
              rw [← hW4]
              have y0 := (K4.cell 0).trans rfl
              have y1 := (K4.cell 1).trans rfl
              have y2 := (K4.cell 2).trans rfl
              have y3 := (K4.cell 3).trans rfl
              have y4 := (K4.cell 4).trans rfl
              have y5 := (K4.cell 5).trans rfl
              have y6 := (K4.cell 6).trans rfl
              have y7 := (K4.cell 7).trans rfl
              have y8 := (K4.cell 8).trans rfl
              have y9 := (K4.cell 9).trans rfl
              have y10 := (K4.cell 10).trans rfl
              simp only [List.getElem?_toArray, List.getElem?_cons_succ, List.getElem?_cons_zero] at y0 y1 y2 y3 y4 y5 y6 y7 y8 y9 y10
              have lw4 := K4.lt
              have CP3 : Hid (RBas w O k (.slice Ao k q) (W4.alloc (.cells #[.int .i64 o0, .int .u64 nb, .int .u16 tt, .int .u64 o3, .int .u64 o4, .slice o5 o6 o7, .slice o8 o9 o10, .string o11, .string o12, .slice o13 o14 o15, .slice o16 o17 o18] 33))) := Lib.hid (br.out.next (B4.out.alloc B4.out.size _))
              obtain ⟨xs, hxs⟩ : ∃ x, x = flatG (objC (placed O)) k := ⟨_, rfl⟩
              have OW := CP3.out.ow
              rw [← hxs] at OW
              have HOW := Lib.hid OW
              have HXS := Lib.hid hxs
              have hz8 := CP3.out.bl.size
              clear OW hxs k1 k2 fr lk hW4
              go_wp2_with (at_builtin
                           refine wpList_append_any _ rfl (.tmp 92) (.tmp 94) _ rfl w.heap.size 33 j0 _ 11 168 Try.underlying35 hj0 hy0 hy1 hy2 rfl (by omega) (.slice Ao k q) k xs rfl HOW.out (W4.heap.size + 1) (some ⟨W4.heap.size, 0, none⟩) 1 1 [.int .i64 o0, .int .u64 nb, .int .u16 tt, .int .u64 o3, .int .u64 o4, .slice o5 o6 o7, .slice o8 o9 o10, .string o11, .string o12, .slice o13 o14 o15, .slice o16 o17 o18] rfl (reads_new W4 33 11 1 [.int .i64 o0, .int .u64 nb, .int .u16 tt, .int .u64 o3, .int .u64 o4, .slice o5 o6 o7, .slice o8 o9 o10, .string o11, .string o12, .slice o13 o14 o15, .slice o16 o17 o18] (by simp) rfl) (by simp [Value.oneCell']) (by simp only [maxLen]; omega) (by omega) hz8 ?_
                           intro v4 w4 hown4 hg4 hat4
                           rw [HXS.out] at hown4
                           have CP4 : Hid (RBas w O (k + 1) v4 w4) := Lib.hid (RBas.push CP3.out HPL.out hown4 hg4)
                           obtain ⟨A4, q4, rfl⟩ := ownsRow_val hown4
                           clear hown4 hg4 hat4)
              go_roundw
              case rel => exact ⟨k + 1, q4, A4, by omega, rfl, by rw [← HNX2.out, ← NXE.out], by go_num, CP4⟩
              case measure => simp [intOf]; omega
          · have f1 : ((k : Int) == 0) = false := by simp; omega
            rw [if_neg hk0] at hnx2' hnb'
            have zz3 := sz3 (by omega)
            have w1 : IntKind.u64.wrap ((nx : Int) - (aa : Int)) = (nb : Int) := by
              rw [show (nx : Int) - (aa : Int) = (nb : Int) by omega]; exact wrap_small (by unfold M; omega)
            obtain ⟨s1, hs1⟩ : ∃ s, s = nb + zz := ⟨_, rfl⟩
            have w2' : IntKind.u64.wrap ((nb : Int) + (zz : Int)) = (s1 : Int) := by
              rw [show (nb : Int) + (zz : Int) = (s1 : Int) by omega]; exact wrap_small (by unfold M; omega)
            have w3' : IntKind.u64.wrap ((s1 : Int) + 4096) = (nx2 : Int) := by
              rw [show (s1 : Int) + 4096 = (nx2 : Int) by omega]; exact wrap_small (by unfold M; omega)
            clear hnb' hnx2' hk0 h3t sz3 t23 sa sz nxb zz3 hs1
            generalize (O k).ino = o0 at *
            generalize (O k).en = o3 at *
            generalize (O k).ph = o4 at *
            generalize (O k).gA = o5 at *
            generalize (O k).gM = o6 at *
            generalize (O k).gQ = o7 at *
            generalize (O k).nA = o8 at *
            generalize (O k).nM = o9 at *
            generalize (O k).nQ = o10 at *
            generalize (O k).so = o11 at *
            generalize (O k).rn = o12 at *
            generalize (O k).sA = o13 at *
            generalize (O k).sM = o14 at *
            generalize (O k).sQ = o15 at *
            generalize (O k).rA = o16 at *
            generalize (O k).rM = o17 at *
            generalize (O k).rQ = o18 at *
            generalize (O k).base = o1 at *
            go_upto_region 14 with fail
            rw [← HW1.out]
            have i0' := (K1.out.cell 0).trans rfl
            have i1 := (K1.out.cell 1).trans rfl
            have i2 := (K1.out.cell 2).trans rfl
            have i3 := (K1.out.cell 3).trans rfl
            have i4 := (K1.out.cell 4).trans rfl
            have i5 := (K1.out.cell 5).trans rfl
            have i6 := (K1.out.cell 6).trans rfl
            have i7 := (K1.out.cell 7).trans rfl
            have i8 := (K1.out.cell 8).trans rfl
            have i9 := (K1.out.cell 9).trans rfl
            have i10 := (K1.out.cell 10).trans rfl
            simp only [List.getElem?_toArray, List.getElem?_cons_succ, List.getElem?_cons_zero] at i0' i1 i2 i3 i4 i5 i6 i7 i8 i9 i10
            have lw1 := K1.out.lt
            clear c0 c1 c2 c3 c4 c5 c6 c7 c8 c9 c10 lad
            go_wp2_with fail
            refine HSC.out.mono ?_
            rintro e w3 ⟨rfl, bl3⟩
            have B3 : Hid (Below wr.heap.size wr w3) := Lib.hid (B1.out.trans (bl3.mono B1.out.size))
            have K3 := Lib.hid (K1.out.below bl3 K1.out.lt)
            have k2 : w3.cell? ⟨wr.heap.size, 2, none⟩ = some (.int .u16 tt) := (K3.out.cell 2).trans rfl
            have k1 : w3.cell? ⟨wr.heap.size, 1, none⟩ = some (.int .u64 o1) := (K3.out.cell 1).trans rfl
            have fr : ∀ j, w3.frozen? ⟨wr.heap.size, j, none⟩ = false := fun j => K3.out.frozen j
            have lk := K3.out.lt
            clear bl3 i0' i1 i2 i3 i4 i5 i6 i7 i8 i9 i10 lw1
            go_upto_region 21 with fail
            obtain ⟨W4, hW4⟩ : ∃ W, W = w3.setCell ⟨wr.heap.size, 1, none⟩ (.int .u64 nb) := ⟨_, rfl⟩
            have K4 : Blk W4 wr.heap.size 33 #[.int .i64 o0, .int .u64 nb, .int .u16 tt, .int .u64 o3, .int .u64 o4, .slice o5 o6 o7, .slice o8 o9 o10, .string o11, .string o12, .slice o13 o14 o15, .slice o16 o17 o18] := by rw [hW4]; exact K3.out.set_ 1 _
            have B4 : Hid (Below wr.heap.size wr W4) := by rw [hW4]; exact Lib.hid (B3.out.setCell (by simp) _)
            rw [← hW4]
            have y0 := (K4.cell 0).trans rfl
            have y1 := (K4.cell 1).trans rfl
            have y2 := (K4.cell 2).trans rfl
            have y3 := (K4.cell 3).trans rfl
            have y4 := (K4.cell 4).trans rfl
            have y5 := (K4.cell 5).trans rfl
            have y6 := (K4.cell 6).trans rfl
            have y7 := (K4.cell 7).trans rfl
            have y8 := (K4.cell 8).trans rfl
            have y9 := (K4.cell 9).trans rfl
            have y10 := (K4.cell 10).trans rfl
            simp only [List.getElem?_toArray, List.getElem?_cons_succ, List.getElem?_cons_zero] at y0 y1 y2 y3 y4 y5 y6 y7 y8 y9 y10
            have lw4 := K4.lt
            have CP3 : Hid (RBas w O k (.slice Ao k q) (W4.alloc (.cells #[.int .i64 o0, .int .u64 nb, .int .u16 tt, .int .u64 o3, .int .u64 o4, .slice o5 o6 o7, .slice o8 o9 o10, .string o11, .string o12, .slice o13 o14 o15, .slice o16 o17 o18] 33))) := Lib.hid (br.out.next (B4.out.alloc B4.out.size _))
            obtain ⟨xs, hxs⟩ : ∃ x, x = flatG (objC (placed O)) k := ⟨_, rfl⟩
            have OW := CP3.out.ow
            rw [← hxs] at OW
            have HOW := Lib.hid OW
            have HXS := Lib.hid hxs
            have hz8 := CP3.out.bl.size
            clear OW hxs k1 k2 fr lk hW4
            go_wp2_with (at_builtin
                         refine wpList_append_any _ rfl (.tmp 92) (.tmp 94) _ rfl w.heap.size 33 j0 _ 11 168 Try.underlying35 hj0 hy0 hy1 hy2 rfl (by omega) (.slice Ao k q) k xs rfl HOW.out (W4.heap.size + 1) (some ⟨W4.heap.size, 0, none⟩) 1 1 [.int .i64 o0, .int .u64 nb, .int .u16 tt, .int .u64 o3, .int .u64 o4, .slice o5 o6 o7, .slice o8 o9 o10, .string o11, .string o12, .slice o13 o14 o15, .slice o16 o17 o18] rfl (reads_new W4 33 11 1 [.int .i64 o0, .int .u64 nb, .int .u16 tt, .int .u64 o3, .int .u64 o4, .slice o5 o6 o7, .slice o8 o9 o10, .string o11, .string o12, .slice o13 o14 o15, .slice o16 o17 o18] (by simp) rfl) (by simp [Value.oneCell']) (by simp only [maxLen]; omega) (by omega) hz8 ?_
                         intro v4 w4 hown4 hg4 hat4
                         rw [HXS.out] at hown4
                         have CP4 : Hid (RBas w O (k + 1) v4 w4) := Lib.hid (RBas.push CP3.out HPL.out hown4 hg4)
                         obtain ⟨A4, q4, rfl⟩ := ownsRow_val hown4
                         clear hown4 hg4 hat4)
            go_roundw
            case rel => exact ⟨k + 1, q4, A4, by omega, rfl, by rw [← HNX2.out], by go_num, CP4⟩
            case measure => simp [intOf]; omega
        · obtain rfl : m = k := by omega
          have d2 : decide ((m : Int) < (m : Int)) = false := by simp
          have BRM : Hid (RBas w O m (.slice Ao m q) wr) := br
          have HLI : Hid (∀ i, i < m → Lie (placed O i)) := Lib.hid fun i hi => placed_lie OKM.out HF.out hm8 hi
          clear br
          go_wp2_with fail
          go_loopw [11] (fun v11 wr => ∃ k : Nat, k ≤ m ∧ v11 = .int .i64 k ∧ Hid (RBas w O m (.slice Ao m q) wr) ∧ Hid (clearAll O k = true)) (fun v11 _ => m - (intOf v11).toNat)
          case atStart => exact ⟨0, Nat.zero_le _, rfl, BRM, Lib.hid rfl⟩
          case round =>
            clear BRM
            obtain ⟨k, hk, rfl, br, ca⟩ := hrel
            by_cases hkm : k < m
            · have e1 : decide ((k : Int) < (m : Int)) = true := by simp; omega
              have e2 : (k : Int) < (m : Int) := by omega
              obtain ⟨ad3, rfl, had3, c0, c1, c2, c3, c4, c5, c6, c7, c8, c9, c10⟩ := obj_cells (StR.of_ownG br.out.ow (fun _ => rfl)) hkm
              have hsy := ((H.out.below br.out.bl).sy k hkm)
              have hl := HLI.out k hkm
              have RL := rlies_yes (placed O k) wr (hsy.1.more br.out.bl.size) hl.f hl.r hl.b hl.l
              have ecs : (placed O k).cs = #[.int .i64 (placed O k).ino, .int .u64 (placed O k).base, .int .u16 (placed O k).ty, .int .u64 (placed O k).en, .int .u64 (placed O k).ph, .slice (placed O k).gA (placed O k).gM (placed O k).gQ, .slice (placed O k).nA (placed O k).nM (placed O k).nQ, .string (placed O k).so, .string (placed O k).rn, .slice (placed O k).sA (placed O k).sM (placed O k).sQ, .slice (placed O k).rA (placed O k).rM (placed O k).rQ] := rfl
              obtain ⟨x, hx⟩ : ∃ x, x = (placed O k).base + spanA (placed O k) := ⟨_, rfl⟩
              obtain ⟨y, hy⟩ : ∃ y, y = (placed O k).base + spanZ (placed O k) := ⟨_, rfl⟩
              rw [ecs, ← hx, ← hy] at RL
              have HX := Lib.hid hx; have HY := Lib.hid hy
              have HRL := Lib.hid RL
              clear ecs hx hy
              have lad := World.block_lt_of_cell? _ _ c1
              clear RL hl hsy
              go_wp2_with fail
              refine HRL.out.mono ?_
              rintro e w3 ⟨rfl, bl3⟩
              have BR3 := Lib.hid (br.out.next bl3)
              clear bl3
              go_wp2_with fail
              refine (stacked_any x y w3).mono ?_
              rintro e w4 ⟨rfl, rfl⟩
              obtain ⟨b1, hb1⟩ : ∃ b, b = meetB x y 140737488334848 140737488351232 := ⟨_, rfl⟩
              rw [← hb1]
              have HB1 := Lib.hid hb1
              have CPE : Hid (clearP O k = (!b1 && !anyM (placed O) x y k)) := Lib.hid (by rw [hb1, HX.out, HY.out]; rfl)
              clear hb1 c0 c1 c2 c3 c4 c5 c6 c7 c8 c9 c10 lad
              cases b1 with
              | true =>
                have RES : Hid (basesE O m = 13) := Lib.hid (by rw [basesE_ok h0m hm8 OKM.out, clearAll_no hkm (by rw [CPE.out]; rfl)]; rfl)
                go_wp2_with fail
                go_ret2
                exact BaP.exec BR3.out.bl RES.out
              | false =>
                go_wp2_with fail
                go_loopw [15] (fun v15 wr => ∃ j : Nat, j ≤ k ∧ v15 = .int .i64 j ∧ Hid (RBas w O m (.slice (some ad3) m q) wr) ∧ Hid (anyM (placed O) x y j = false)) (fun v15 _ => k - (intOf v15).toNat)
                case atStart => exact ⟨0, Nat.zero_le _, rfl, BR3, Lib.hid rfl⟩
                case round =>
                  clear BR3
                  obtain ⟨j, hj, rfl, br4, an⟩ := hrel
                  by_cases hjk : j < k
                  · have e3 : decide ((j : Int) < (k : Int)) = true := by simp; omega
                    have e4 : (j : Int) < (m : Int) := by omega
                    have hjm : j < m := by omega
                    obtain ⟨ad4, ead4, had4, c0, c1, c2, c3, c4, c5, c6, c7, c8, c9, c10⟩ := obj_cells (StR.of_ownG br4.out.ow (fun _ => rfl)) hjm
                    injection ead4 with ead4
                    subst ead4
                    have hsy := ((H.out.below br4.out.bl).sy j hjm)
                    have hl := HLI.out j hjm
                    have RL := rlies_yes (placed O j) _ (hsy.1.more br4.out.bl.size) hl.f hl.r hl.b hl.l
                    have ecs : (placed O j).cs = #[.int .i64 (placed O j).ino, .int .u64 (placed O j).base, .int .u16 (placed O j).ty, .int .u64 (placed O j).en, .int .u64 (placed O j).ph, .slice (placed O j).gA (placed O j).gM (placed O j).gQ, .slice (placed O j).nA (placed O j).nM (placed O j).nQ, .string (placed O j).so, .string (placed O j).rn, .slice (placed O j).sA (placed O j).sM (placed O j).sQ, .slice (placed O j).rA (placed O j).rM (placed O j).rQ] := rfl
                    obtain ⟨x2, hx2⟩ : ∃ x, x = (placed O j).base + spanA (placed O j) := ⟨_, rfl⟩
                    obtain ⟨y2, hy2⟩ : ∃ y, y = (placed O j).base + spanZ (placed O j) := ⟨_, rfl⟩
                    rw [ecs, ← hx2, ← hy2] at RL
                    have HRL2 := Lib.hid RL
                    obtain ⟨b2, hb2⟩ : ∃ b, b = meetB x y x2 y2 := ⟨_, rfl⟩
                    have MO : Hid (meetO (placed O) x y j = b2) := Lib.hid (by rw [hb2, hx2, hy2]; rfl)
                    have HB2 := Lib.hid hb2
                    have lad := World.block_lt_of_cell? _ _ c1
                    clear RL hl hsy ecs hx2 hy2 hb2
                    go_wp2_with fail
                    refine HRL2.out.mono ?_
                    rintro e w5 ⟨rfl, bl5⟩
                    have BR5 := Lib.hid (br4.out.next bl5)
                    clear bl5
                    go_wp2_with fail
                    refine (meet_any x y x2 y2 w5).mono ?_
                    rintro e w6 ⟨rfl, rfl⟩
                    rw [← HB2.out]
                    clear c0 c1 c2 c3 c4 c5 c6 c7 c8 c9 c10 lad
                    cases b2 with
                    | true =>
                      have RES : Hid (basesE O m = 13) := Lib.hid (by rw [basesE_ok h0m hm8 OKM.out, clearAll_no hkm (by rw [CPE.out, anyM_at _ _ _ hjk MO.out]; rfl)]; rfl)
                      go_wp2_with fail
                      go_ret2
                      exact BaP.exec BR5.out.bl RES.out
                    | false =>
                      have AN2 : Hid (anyM (placed O) x y (j + 1) = false) := Lib.hid (by unfold anyM; rw [an.out, MO.out]; rfl)
                      go_wp2_with fail
                      go_roundw
                      case rel => exact ⟨j + 1, by omega, by go_num, BR5, AN2⟩
                      case measure => simp [intOf]; omega
                  · obtain rfl : k = j := by omega
                    have d3 : decide ((k : Int) < (k : Int)) = false := by simp
                    have CA2 : Hid (clearAll O (k + 1) = true) := Lib.hid (by unfold clearAll; rw [ca.out, CPE.out, an.out]; rfl)
                    go_wp2_with fail
                    go_roundw
                    case rel => exact ⟨k + 1, by omega, by go_num, br4, CA2⟩
                    case measure => simp [intOf]; omega
            · obtain rfl : m = k := by omega
              have RES : Hid (basesE O m = 0) := Lib.hid (by rw [basesE_ok h0m hm8 OKM.out, ca.out]; rfl)
              go_wp2_with fail
              go_ret2
              exact BaP.ok br.out.bl RES.out br.out.ow
end Go.Proofs.Yticnmgdflkipeaa
