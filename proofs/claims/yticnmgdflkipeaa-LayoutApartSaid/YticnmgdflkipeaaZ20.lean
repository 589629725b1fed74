import Derived.Test.YticnmgdflkipeaaZ19
import Derived.Test.YticnmgdflkipeaaZ9
import Derived.Lib.QuietBelow
namespace Go.Proofs.Yticnmgdflkipeaa
open Go.RowKit Go.Shelf Go.Hos Go.Sort
set_option linter.unusedVariables false
/-! the program's Bases -/
theorem BaP.arg {w W' : World} {O : Nat → ObjD} {m : Nat} (hb : Below w.heap.size w W') (h : basesE O m = 1) : BaP w O m (.returned (.tuple #[.slice none 0 0, .int .i64 1])) W' :=
  ⟨hb, none, 0, 0, by rw [h], fun _ => ⟨rfl, rfl, rfl⟩, fun e => by rw [h] at e; cases e⟩
theorem BaP.exec {w W' : World} {O : Nat → ObjD} {m : Nat} (hb : Below w.heap.size w W') (h : basesE O m = 13) : BaP w O m (.returned (.tuple #[.slice none 0 0, .int .i64 13])) W' :=
  ⟨hb, none, 0, 0, by rw [h], fun _ => ⟨rfl, rfl, rfl⟩, fun e => by rw [h] at e; cases e⟩
theorem BaP.ok {w W' : World} {O : Nat → ObjD} {m c : Nat} {A : Option Addr} (hb : Below w.heap.size w W') (h : basesE O m = 0) (ho : W'.ownsRow w.heap.size 33 11 (.slice A m c) m (flatG (objC (placed O)) m)) : BaP w O m (.returned (.tuple #[.slice A m c, .int .i64 0])) W' :=
  ⟨hb, A, c, m, by rw [h], fun e => absurd h e, fun _ => ⟨rfl, ho⟩⟩
/-- the objects' own row behind k rounds -/
structure BRow (w : World) (O : Nat → ObjD) (m k : Nat) (ad : Addr) (c : Nat) (W : World) : Prop where
  bl : Below w.heap.size w W
  af : ∃ g, ad = ⟨g, 0, none⟩
  ow : W.ownsRow w.heap.size 33 11 (.slice (some ad) m c) m (flatG (objC (partO O k)) m)
theorem BRow.next {w W W' : World} {O : Nat → ObjD} {m k c : Nat} {ad : Addr} (h : BRow w O m k ad c W) (hb : Below W.heap.size W W') : BRow w O m k ad c W' := ⟨h.bl.trans (hb.mono h.bl.size), h.af, owns_below h.ow hb⟩
theorem BRow.drewN {w W : World} {O : Nat → ObjD} {m k c : Nat} {ad : Addr} (h : BRow w O m k ad c W) (n : Nat) : BRow w O m k ad c (W.drewN n) := ⟨below_drewN h.bl n, h.af, owns_drewN h.ow n⟩
theorem BRow.str {w W : World} {O : Nat → ObjD} {m k c : Nat} {ad : Addr} (h : BRow w O m k ad c W) : StR W W.heap.size 11 (some ad) m (objC (partO O k)) := StR.of_ownG h.ow (fun _ => rfl)
theorem BRow.stored {w W : World} {O : Nat → ObjD} {m k c : Nat} {ad : Addr} (h : BRow w O m k ad c W) (hk : k < m) (p : Addr) (hp : p = ⟨(ad.add (k * 11)).block, (ad.add (k * 11)).off + 1, none⟩) : BRow w O m (k + 1) ad c (W.setCell p (.int .u64 ((nbB O k : Nat) : Int))) := by
  obtain ⟨g, rfl⟩ := h.af
  have hg := h.ow.lt g rfl
  have e : p = ⟨g, k * 11 + 1, none⟩ := by rw [hp, Addr.add_mid, Nat.zero_add]
  subst e
  refine ⟨h.bl.setCell hg.1 _, ⟨g, rfl⟩, ?_⟩
  have := (h.ow.stored (k * 11 + 1) (.int .u64 ((nbB O k : Nat) : Int))).1
  rwa [flat_part O hk] at this
theorem BRow.froz {w W : World} {O : Nat → ObjD} {m k c : Nat} {ad : Addr} (h : BRow w O m k ad c W) (j : Nat) : W.frozen? ⟨(ad.add (k * 11)).block, (ad.add (k * 11)).off + j, none⟩ = false := by
  obtain ⟨g, rfl⟩ := h.af
  rw [Addr.add_mid]
  exact h.ow.frozenAt _
theorem obj_cells {W : World} {B n : Nat} {A : Option Addr} {O : Nat → ObjD} (h : StR W B 11 A n (objC O)) {i : Nat} (hi : i < n) : ∃ ad, A = some ad ∧ ad.block < B ∧
    W.cell? (ad.add (i * 11)) = some (.int .i64 (O i).ino) ∧ W.cell? ⟨(ad.add (i * 11)).block, (ad.add (i * 11)).off + 1, none⟩ = some (.int .u64 (O i).base) ∧ W.cell? ⟨(ad.add (i * 11)).block, (ad.add (i * 11)).off + 2, none⟩ = some (.int .u16 (O i).ty) ∧
    W.cell? ⟨(ad.add (i * 11)).block, (ad.add (i * 11)).off + 3, none⟩ = some (.int .u64 (O i).en) ∧ W.cell? ⟨(ad.add (i * 11)).block, (ad.add (i * 11)).off + 4, none⟩ = some (.int .u64 (O i).ph) ∧
    W.cell? ⟨(ad.add (i * 11)).block, (ad.add (i * 11)).off + 5, none⟩ = some (.slice (O i).gA (O i).gM (O i).gQ) ∧ W.cell? ⟨(ad.add (i * 11)).block, (ad.add (i * 11)).off + 6, none⟩ = some (.slice (O i).nA (O i).nM (O i).nQ) ∧
    W.cell? ⟨(ad.add (i * 11)).block, (ad.add (i * 11)).off + 7, none⟩ = some (.string (O i).so) ∧ W.cell? ⟨(ad.add (i * 11)).block, (ad.add (i * 11)).off + 8, none⟩ = some (.string (O i).rn) ∧
    W.cell? ⟨(ad.add (i * 11)).block, (ad.add (i * 11)).off + 9, none⟩ = some (.slice (O i).sA (O i).sM (O i).sQ) ∧ W.cell? ⟨(ad.add (i * 11)).block, (ad.add (i * 11)).off + 10, none⟩ = some (.slice (O i).rA (O i).rM (O i).rQ) := by
  obtain ⟨ad, rfl, hb, hc⟩ := h (by omega)
  have hc := hc i hi
  refine ⟨ad, rfl, hb, hc 0 _ rfl, ?_, ?_, ?_, ?_, ?_, ?_, ?_, ?_, ?_, ?_⟩
  all_goals rw [← add_field]
  · exact hc 1 _ rfl
  · exact hc 2 _ rfl
  · exact hc 3 _ rfl
  · exact hc 4 _ rfl
  · exact hc 5 _ rfl
  · exact hc 6 _ rfl
  · exact hc 7 _ rfl
  · exact hc 8 _ rfl
  · exact hc 9 _ rfl
  · exact hc 10 _ rfl
set_option maxRecDepth 100000 in
set_option maxHeartbeats 8000000 in
theorem bases_any (A : Option Addr) (m c : Nat) (O : Nat → ObjD) (w : World) (hR : ObjR w w.heap.size A m O) (hF : fitsO O) : Calls Try.prog 15 #[.slice A m c] w (BaP w O m) := by
  have hm := hR.len
  have hmm : maxLen = 9223372036854775807 := by simp [maxLen]
  have H := Lib.hid hR; have HF := Lib.hid hF
  clear hR hF
  by_cases h0 : m = 0
  · have g1 : ((m : Int) == 0) = true := by simp; omega
    have RES := Lib.hid (basesE_arg (O := O) (m := m) (.inl h0))
    clear h0
    go_enter Try.func15, Try.ntmps15
    go_wp2_with fail
    go_ret2
    exact BaP.arg (Below.refl _ _) RES.out
  have g1 : ((m : Int) == 0) = false := by simp; omega
  by_cases h8 : 8 < m
  · have g2 : decide ((8 : Int) < (m : Int)) = true := by simp; omega
    have RES := Lib.hid (basesE_arg (O := O) (m := m) (.inr (.inl h8)))
    clear h0
    go_enter Try.func15, Try.ntmps15
    go_wp2_with fail
    go_ret2
    exact BaP.arg (Below.refl _ _) RES.out
  have g2 : decide ((8 : Int) < (m : Int)) = false := by simp; omega
  have h0m : 0 < m := by omega
  have hm8 : m ≤ 8 := by omega
  clear h8 h0
  go_enter Try.func15, Try.ntmps15
  go_wp2_with fail
  go_loopw [23] (fun v23 wr => ∃ i : Nat, i ≤ m ∧ v23 = .int .i64 i ∧ Hid (Below w.heap.size w wr) ∧ Hid (okObjs O i)) (fun v23 _ => m - (intOf v23).toNat)
  case atStart => exact ⟨0, Nat.zero_le _, rfl, Lib.hid (Below.refl _ _), Lib.hid fun i hi => absurd hi (by omega)⟩
  case round =>
    obtain ⟨i, hi, rfl, bl, ok⟩ := hrel
    by_cases him : i < m
    · have e1 : decide ((i : Int) < (m : Int)) = true := by simp; omega
      have e2 : (i : Int) < (m : Int) := by omega
      obtain ⟨ad, rfl, had, c0, c1, c2, c3, c4, c5, c6, c7, c8, c9, c10⟩ := (H.out.below bl.out).cells him
      have hsy := ((H.out.below bl.out).sy i him).1
      obtain ⟨W1, hW1⟩ : ∃ W, W = wr.alloc (.cells (O i).cs 33) := ⟨_, rfl⟩
      have B1 : Hid (Below wr.heap.size wr W1) := by rw [hW1]; exact Lib.hid ((Below.refl _ _).alloc (Nat.le_refl _) _)
      have K1 : Hid (Blk W1 wr.heap.size 33 (O i).cs) := by rw [hW1]; exact Lib.hid (Blk.new _ _ _)
      have RC := right_any (O i) W1 (((hsy.more bl.out.size).below B1.out).more B1.out.size) (HF.out i)
      obtain ⟨rb, hrb⟩ : ∃ b, b = rightB (O i) := ⟨_, rfl⟩
      obtain ⟨tt, htt⟩ : ∃ t, t = (O i).ty := ⟨_, rfl⟩
      rw [← hrb] at RC
      have HRB := Lib.hid hrb; have HTT := Lib.hid htt
      have lad := World.block_lt_of_cell? _ _ c1
      have ecs : (O i).cs = #[.int .i64 (O i).ino, .int .u64 (O i).base, .int .u16 (O i).ty, .int .u64 (O i).en, .int .u64 (O i).ph, .slice (O i).gA (O i).gM (O i).gQ, .slice (O i).nA (O i).nM (O i).nQ, .string (O i).so, .string (O i).rn, .slice (O i).sA (O i).sM (O i).sQ, .slice (O i).rA (O i).rM (O i).rQ] := rfl
      rw [ecs] at RC hW1 K1
      rw [← htt] at RC hW1 K1 c2
      have HRC := Lib.hid RC; have HW1 := Lib.hid hW1
      clear hsy RC hrb htt ecs hW1
      generalize (O i).ino = o0 at *
      generalize (O i).base = o1 at *
      generalize (O i).en = o3 at *
      generalize (O i).ph = o4 at *
      generalize (O i).gA = o5 at *
      generalize (O i).gM = o6 at *
      generalize (O i).gQ = o7 at *
      generalize (O i).nA = o8 at *
      generalize (O i).nM = o9 at *
      generalize (O i).nQ = o10 at *
      generalize (O i).so = o11 at *
      generalize (O i).rn = o12 at *
      generalize (O i).sA = o13 at *
      generalize (O i).sM = o14 at *
      generalize (O i).sQ = o15 at *
      generalize (O i).rA = o16 at *
      generalize (O i).rM = o17 at *
      generalize (O i).rQ = o18 at *
      cases rb with
      | false =>
        have RES := Lib.hid (basesE_arg (O := O) (m := m) (.inr (.inr fun h => by have := (h i him).1; rw [← HRB.out] at this; cases this)))
        go_wp2_with fail
        rw [← HW1.out]
        refine HRC.out.mono ?_
        rintro e w3 ⟨rfl, bl3⟩
        have B3 : Hid (Below w.heap.size w w3) := Lib.hid (bl.out.trans ((B1.out.trans (bl3.mono B1.out.size)).mono bl.out.size))
        clear bl3
        go_wp2_with fail
        go_ret2
        exact BaP.arg B3.out RES.out
      | true =>
        by_cases hi0 : i = 0
        · have f1 : decide ((0 : Int) < (i : Int)) = false := by simp; omega
          have f1n : decide (0 < i) = false := by simp; omega
          have OK2 : Hid (okObjs O (i + 1)) := Lib.hid fun j hj => by
            by_cases e : j = i
            · subst e; exact ⟨HRB.out.symm, .inl hi0⟩
            · exact ok.out j (by omega)
          clear hi0
          go_wp2_with fail
          rw [← HW1.out]
          refine HRC.out.mono ?_
          rintro e w3 ⟨rfl, bl3⟩
          have B3 : Hid (Below w.heap.size w w3) := Lib.hid (bl.out.trans ((B1.out.trans (bl3.mono B1.out.size)).mono bl.out.size))
          clear bl3
          go_wp2_with fail
          go_roundw
          case rel => exact ⟨i + 1, by omega, by go_num, B3, OK2⟩
          case measure => simp [intOf]; omega
        · have f1 : decide ((0 : Int) < (i : Int)) = true := by simp; omega
          have f1n : decide (0 < i) = true := by simp; omega
          have f1p : 0 < i := by omega
          by_cases ht : tt = 3
          · have f2 : ((tt : Int) != 3) = false := by simp; omega
            have f3 : ((tt : Int) == 3) = true := by simp; omega
            have OK2 : Hid (okObjs O (i + 1)) := Lib.hid fun j hj => by
              by_cases e : j = i
              · subst e; exact ⟨HRB.out.symm, .inr (by rw [← HTT.out]; exact ht)⟩
              · exact ok.out j (by omega)
            clear hi0 ht
            go_wp2_with fail
            rw [← HW1.out]
            refine HRC.out.mono ?_
            rintro e w3 ⟨rfl, bl3⟩
            have B3 : Hid (Below w.heap.size w w3) := Lib.hid (bl.out.trans ((B1.out.trans (bl3.mono B1.out.size)).mono bl.out.size))
            have K3 := Lib.hid (K1.out.below bl3 K1.out.lt)
            have k2 : w3.cell? ⟨wr.heap.size, 2, none⟩ = some (.int .u16 tt) := (K3.out.cell 2).trans rfl
            have lk := K3.out.lt
            clear bl3
            go_wp2_with fail
            go_roundw
            case rel => exact ⟨i + 1, by omega, by go_num, B3, OK2⟩
            case measure => simp [intOf]; omega
          · have f2 : ((tt : Int) != 3) = true := by simp; omega
            have f3 : ((tt : Int) == 3) = false := by simp; omega
            have RES := Lib.hid (basesE_arg (O := O) (m := m) (.inr (.inr fun h => by
              rcases (h i him).2 with h | h
              · exact hi0 h
              · exact ht (by rw [HTT.out]; exact h))))
            clear hi0 ht
            go_wp2_with fail
            rw [← HW1.out]
            refine HRC.out.mono ?_
            rintro e w3 ⟨rfl, bl3⟩
            have B3 : Hid (Below w.heap.size w w3) := Lib.hid (bl.out.trans ((B1.out.trans (bl3.mono B1.out.size)).mono bl.out.size))
            have K3 := Lib.hid (K1.out.below bl3 K1.out.lt)
            have k2 : w3.cell? ⟨wr.heap.size, 2, none⟩ = some (.int .u16 tt) := (K3.out.cell 2).trans rfl
            have lk := K3.out.lt
            clear bl3
            go_wp2_with fail
            go_ret2
            exact BaP.arg B3.out RES.out
    -- TAIL
    · obtain rfl : m = i := by omega
      have d1 : decide ((m : Int) < (m : Int)) = false := by simp
      have OKM := Lib.hid ok.out
      clear ok
      go_wp2_with fail
      refine (clone_any A m c O wr ((H.out.below bl.out).os.more bl.out.size) h0m (by omega)).mono ?_
      rintro e w2 ⟨A2, c2, rfl, ow, bl2⟩
      obtain ⟨g2, cap2, hv2, _, _⟩ := ow.form h0m
      obtain ⟨ad2, had2⟩ : ∃ a : Addr, a = ⟨g2, 0, none⟩ := ⟨_, rfl⟩
      have hA2 : A2 = some ad2 := by injection hv2 with h1; rw [h1, had2]
      subst hA2
      have BR0 : Hid (BRow w O m 0 ad2 c2 w2) := Lib.hid ⟨bl.out.trans (bl2.mono bl.out.size), ⟨g2, had2⟩, by rw [partO_zero]; exact owns_base ow bl.out.size⟩
      clear hv2 had2 ow bl2 bl
      go_wp2_with fail
      go_loopw [7, 46] (fun v7 v46 wr => ∃ k : Nat, k ≤ m ∧ v7 = .int .u64 ((nxB O k : Nat) : Int) ∧ v46 = .int .i64 k ∧ Hid (BRow w O m k ad2 c2 wr)) (fun _ v46 _ => m - (intOf v46).toNat)
      case atStart => exact ⟨0, Nat.zero_le _, rfl, rfl, BR0⟩
      case round =>
        clear BR0
        obtain ⟨k, hk, rfl, rfl, br⟩ := hrel
        by_cases hkm : k < m
        · have e1 : decide ((k : Int) < (m : Int)) = true := by simp; omega
          have e2 : (k : Int) < (m : Int) := by omega
          have hpk : partO O k k = O k := if_neg (by omega)
          obtain ⟨ad', ead, had, c0, c1, c2', c3, c4, c5, c6, c7, c8, c9, c10⟩ := obj_cells br.out.str hkm
          injection ead with ead
          subst ead
          rw [hpk] at c0 c1 c2' c3 c4 c5 c6 c7 c8 c9 c10
          have hsy := ((H.out.below br.out.bl).sy k hkm)
          have EC := extent_any (O k) wr (hsy.1.more br.out.bl.size) (HF.out k) hsy.2
          obtain ⟨hrk, h3k⟩ := OKM.out k hkm
          have sa := spanA_lt hrk
          have sz := spanZ_le hrk
          have nxb := nxB_bound OKM.out k hk
          obtain ⟨aa, haa⟩ : ∃ x, x = spanA (O k) := ⟨_, rfl⟩
          obtain ⟨zz, hzz⟩ : ∃ x, x = spanZ (O k) := ⟨_, rfl⟩
          obtain ⟨nx, hnx⟩ : ∃ x, x = nxB O k := ⟨_, rfl⟩
          obtain ⟨nb, hnb⟩ : ∃ x, x = nbB O k := ⟨_, rfl⟩
          obtain ⟨nx2, hnx2⟩ : ∃ x, x = nxB O (k + 1) := ⟨_, rfl⟩
          obtain ⟨tt, htt⟩ : ∃ t, t = (O k).ty := ⟨_, rfl⟩
          have hnx2' : nx2 = if k = 0 then nx else nx - aa + zz + 4096 := by
            rw [hnx2, hnx, haa, hzz]; show (if k = 0 then _ else _) = _
            by_cases e : k = 0
            · subst e; rw [if_pos rfl, if_pos rfl]; rfl
            · rw [if_neg e, if_neg e]
          have hnb' : nb = if k = 0 then (if tt = 2 then 0 else 93824992231424 - aa) else nx - aa := by rw [hnb, htt, hnx, haa]; rfl
          have EC' : Calls Try.prog 32 #[.agg #[.int .i64 (O k).ino, .int .u64 (O k).base, .int .u16 tt, .int .u64 (O k).en, .int .u64 (O k).ph, .slice (O k).gA (O k).gM (O k).gQ, .slice (O k).nA (O k).nM (O k).nQ, .string (O k).so, .string (O k).rn, .slice (O k).sA (O k).sM (O k).sQ, .slice (O k).rA (O k).rM (O k).rQ]] wr fun e W' => e = .returned (.agg #[.int .u64 aa, .int .u64 zz]) ∧ Below wr.heap.size wr W' := by rw [haa, hzz, htt]; exact EC
          have h3t : k = 0 ∨ tt = 3 := by rw [htt]; exact h3k
          have sz3 : tt = 3 → zz ≤ 4294967296 := fun e => by rw [hzz]; exact spanZ_le3 hrk (by rw [← htt]; exact e)
          have t23 : tt = 2 ∨ tt = 3 := by rw [htt]; exact (right_parts hrk).2.2.1
          rw [← haa, ← hzz] at sa
          rw [← hzz] at sz
          rw [← hnx] at nxb
          rw [← hnx]
          rw [← htt] at c2'
          have HNX2 := Lib.hid hnx2; have HNB := Lib.hid hnb; have HTT := Lib.hid htt; have HEC := Lib.hid EC'
          have HPK := Lib.hid hpk
          have lad := World.block_lt_of_cell? _ _ c1
          have NXM : Hid (nx < M ∧ aa < M ∧ zz < M) := Lib.hid (by unfold M; refine ⟨?_, ?_, ?_⟩ <;> omega)
          clear hsy EC hrk h3k haa hzz hnx hnb hnx2 htt EC'
          by_cases hk0 : k = 0
          · have f1 : decide ((0 : Int) < (k : Int)) = false := by simp; omega
            have f1n : decide (0 < k) = false := by simp; omega
            rw [if_pos hk0] at hnx2' hnb'
            have NXE : Hid (nx = nx2) := Lib.hid hnx2'.symm
            clear hnx2'
            by_cases ht : tt = 2
            · have f2 : ((tt : Int) == 2) = true := by simp; omega
              rw [if_pos ht] at hnb'
              have NB0 := Lib.hid hnb'
              clear ht hnb' hk0 h3t sz3 t23 sa sz nxb
              generalize (O k).ino = o0 at *
              generalize (O k).en = o3 at *
              generalize (O k).ph = o4 at *
              generalize (O k).gA = o5 at *
              generalize (O k).gM = o6 at *
              generalize (O k).gQ = o7 at *
              generalize (O k).nA = o8 at *
              generalize (O k).nM = o9 at *
              generalize (O k).nQ = o10 at *
              generalize (O k).so = o11 at *
              generalize (O k).rn = o12 at *
              generalize (O k).sA = o13 at *
              generalize (O k).sM = o14 at *
              generalize (O k).sQ = o15 at *
              generalize (O k).rA = o16 at *
              generalize (O k).rM = o17 at *
              generalize (O k).rQ = o18 at *
              go_wp2_with fail
              refine HEC.out.mono ?_
              rintro e w3 ⟨rfl, bl3⟩
              have BR3 := Lib.hid (br.out.next bl3)
              clear bl3 c0 c1 c2' c3 c4 c5 c6 c7 c8 c9 c10 lad
              obtain ⟨ad', ead, _, k0, k1, k2, _⟩ := obj_cells BR3.out.str hkm
              injection ead with ead
              subst ead
              rw [hpk] at k1 k2
              rw [← HTT.out] at k2
              have fr := BR3.out.froz 1
              obtain ⟨vb, hvb⟩ : ∃ v, v = (O k).base := ⟨_, rfl⟩
              rw [← hvb] at k1
              have lad := World.block_lt_of_cell? _ _ k1
              clear k0 hvb
              go_wp2_with fail
              have BR4 : Hid (BRow w O m (k + 1) ad2 c2 ((w3.setCell ⟨(ad2.add (k * 11)).block, (ad2.add (k * 11)).off + 1, none⟩ (.int .u64 0)).alloc (.cells #[.int .u64 aa, .int .u64 zz] 71))) := Lib.hid (by
                have h := (BR3.out.stored hkm _ rfl)
                rw [← HNB.out, NB0.out] at h
                exact h.next ((Below.refl _ _).alloc (Nat.le_refl _) _))
              go_roundw
              case rel => exact ⟨k + 1, by omega, by rw [← HNX2.out, ← NXE.out], by go_num, BR4⟩
              case measure => simp [intOf]; omega
            · have f2 : ((tt : Int) == 2) = false := by simp; omega
              have zz3 := sz3 (by omega)
              have w1 : IntKind.u64.wrap ((93824992231424 : Int) - (aa : Int)) = (nb : Int) := by
                rw [if_neg ht] at hnb'
                rw [show (93824992231424 : Int) - (aa : Int) = (nb : Int) by omega]; exact wrap_small (by unfold M; omega)
              clear ht hnb' hk0 h3t sz3 t23 sa sz nxb zz3
              generalize (O k).ino = o0 at *
              generalize (O k).en = o3 at *
              generalize (O k).ph = o4 at *
              generalize (O k).gA = o5 at *
              generalize (O k).gM = o6 at *
              generalize (O k).gQ = o7 at *
              generalize (O k).nA = o8 at *
              generalize (O k).nM = o9 at *
              generalize (O k).nQ = o10 at *
              generalize (O k).so = o11 at *
              generalize (O k).rn = o12 at *
              generalize (O k).sA = o13 at *
              generalize (O k).sM = o14 at *
              generalize (O k).sQ = o15 at *
              generalize (O k).rA = o16 at *
              generalize (O k).rM = o17 at *
              generalize (O k).rQ = o18 at *
              go_wp2_with fail
              refine HEC.out.mono ?_
              rintro e w3 ⟨rfl, bl3⟩
              have BR3 := Lib.hid (br.out.next bl3)
              clear bl3 c0 c1 c2' c3 c4 c5 c6 c7 c8 c9 c10 lad
              obtain ⟨ad', ead, _, k0, k1, k2, _⟩ := obj_cells BR3.out.str hkm
              injection ead with ead
              subst ead
              rw [hpk] at k1 k2
              rw [← HTT.out] at k2
              have fr := BR3.out.froz 1
              obtain ⟨vb, hvb⟩ : ∃ v, v = (O k).base := ⟨_, rfl⟩
              rw [← hvb] at k1
              have lad := World.block_lt_of_cell? _ _ k1
              clear k0 hvb
              go_wp2_with fail
              have BR4 : Hid (BRow w O m (k + 1) ad2 c2 ((w3.setCell ⟨(ad2.add (k * 11)).block, (ad2.add (k * 11)).off + 1, none⟩ (.int .u64 nb)).alloc (.cells #[.int .u64 aa, .int .u64 zz] 71))) := Lib.hid (by
                have h := (BR3.out.stored hkm _ rfl)
                rw [← HNB.out] at h
                exact h.next ((Below.refl _ _).alloc (Nat.le_refl _) _))
              go_roundw
              case rel => exact ⟨k + 1, by omega, by rw [← HNX2.out, ← NXE.out], by go_num, BR4⟩
              case measure => simp [intOf]; omega
          · have f1 : decide ((0 : Int) < (k : Int)) = true := by simp; omega
            have f1n : decide (0 < k) = true := by simp; omega
            have f1p : 0 < k := by omega
            rw [if_neg hk0] at hnx2' hnb'
            have zz3 := sz3 (by omega)
            have w1 : IntKind.u64.wrap ((nx : Int) - (aa : Int)) = (nb : Int) := by
              rw [show (nx : Int) - (aa : Int) = (nb : Int) by omega]; exact wrap_small (by unfold M; omega)
            obtain ⟨s1, hs1⟩ : ∃ s, s = nb + zz := ⟨_, rfl⟩
            have w2' : IntKind.u64.wrap ((nb : Int) + (zz : Int)) = (s1 : Int) := by
              rw [show (nb : Int) + (zz : Int) = (s1 : Int) by omega]; exact wrap_small (by unfold M; omega)
            have w3' : IntKind.u64.wrap ((s1 : Int) + 4096) = (nx2 : Int) := by
              rw [show (s1 : Int) + 4096 = (nx2 : Int) by omega]; exact wrap_small (by unfold M; omega)
            clear hnb' hnx2' hk0 h3t sz3 t23 sa sz nxb zz3 hs1
            generalize (O k).ino = o0 at *
            generalize (O k).en = o3 at *
            generalize (O k).ph = o4 at *
            generalize (O k).gA = o5 at *
            generalize (O k).gM = o6 at *
            generalize (O k).gQ = o7 at *
            generalize (O k).nA = o8 at *
            generalize (O k).nM = o9 at *
            generalize (O k).nQ = o10 at *
            generalize (O k).so = o11 at *
            generalize (O k).rn = o12 at *
            generalize (O k).sA = o13 at *
            generalize (O k).sM = o14 at *
            generalize (O k).sQ = o15 at *
            generalize (O k).rA = o16 at *
            generalize (O k).rM = o17 at *
            generalize (O k).rQ = o18 at *
            go_wp2_with fail
            refine HEC.out.mono ?_
            rintro e w3 ⟨rfl, bl3⟩
            have BR3 := Lib.hid (br.out.next bl3)
            clear bl3 c0 c1 c2' c3 c4 c5 c6 c7 c8 c9 c10 lad
            obtain ⟨ad', ead, _, k0, k1, k2, _⟩ := obj_cells BR3.out.str hkm
            injection ead with ead
            subst ead
            rw [hpk] at k1 k2
            rw [← HTT.out] at k2
            have fr := BR3.out.froz 1
            obtain ⟨vb, hvb⟩ : ∃ v, v = (O k).base := ⟨_, rfl⟩
            rw [← hvb] at k1
            have lad := World.block_lt_of_cell? _ _ k1
            clear k0 hvb
            go_wp2_with fail
            obtain ⟨W4, hW4⟩ : ∃ W, W = ((w3.setCell ⟨(ad2.add (k * 11)).block, (ad2.add (k * 11)).off + 1, none⟩ (.int .u64 nb)).alloc (.cells #[.int .u64 aa, .int .u64 zz] 71)) := ⟨_, rfl⟩
            have BR4 : Hid (BRow w O m (k + 1) ad2 c2 W4) := Lib.hid (by
              have h := (BR3.out.stored hkm _ rfl)
              rw [← HNB.out] at h
              rw [hW4]
              exact h.next ((Below.refl _ _).alloc (Nat.le_refl _) _))
            obtain ⟨xb, hxb⟩ : ∃ x, x = w3.heap.size := ⟨_, rfl⟩
            have q1 : W4.cell? ⟨xb, 1, none⟩ = some (.int .u64 zz) := by rw [hW4, hxb]; exact ((blk_at _ _ (by simp)).cell 1).trans rfl
            have q2 : W4.cell? ⟨(ad2.add (k * 11)).block, (ad2.add (k * 11)).off + 1, none⟩ = some (.int .u64 nb) := by
              obtain ⟨ad', ead, _, _, k1', _⟩ := obj_cells BR4.out.str hkm
              injection ead with ead
              subst ead
              have hp2 : (partO O (k + 1) k).base = nbB O k := by unfold partO; rw [if_pos (by omega)]; rfl
              rw [hp2, ← HNB.out] at k1'
              exact k1'
            have l4 : xb < W4.heap.size := by rw [hW4, hxb]; simp
            have l5 : (ad2.add (k * 11)).block < W4.heap.size := by rw [hW4]; simp; omega
            rw [← hW4]
            try rw [← hxb]
            clear hW4 hxb k1 k2 fr lad
            go_quiet (fail)
            go_wp2_with fail
            go_roundw
            case rel => exact ⟨k + 1, by omega, by rw [← HNX2.out], by go_num, Lib.hid (BR4.out.drewN _)⟩
            case measure => simp [intOf]; omega
        · obtain rfl : m = k := by omega
          have d1 : decide ((m : Int) < (m : Int)) = false := by simp
          have BRM : Hid (BRow w O m m ad2 c2 wr) := br
          have hcap : m ≤ c2 ∧ c2 ≤ maxLen := by
            rcases br.out.ow.2 with ⟨h', _⟩ | ⟨g', cap', cur, h', _, _, hnc, hcm, _⟩
            · simp at h'
            · injection h' with _ _ h3
              subst h3
              exact ⟨hnc, hcm⟩
          have hpl : Hid (∀ i, i < m → partO O m i = placed O i) := Lib.hid fun i hi => if_pos hi
          have HLI : Hid (∀ i, i < m → Lie (placed O i)) := Lib.hid fun i hi => placed_lie OKM.out HF.out hm8 hi
          clear br
          go_wp2_with fail
          go_loopw [93] (fun v93 wr => ∃ k : Nat, k ≤ m ∧ v93 = .int .i64 k ∧ Hid (BRow w O m m ad2 c2 wr) ∧ Hid (clearAll O k = true)) (fun v93 _ => m - (intOf v93).toNat)
          case atStart => exact ⟨0, Nat.zero_le _, rfl, BRM, Lib.hid rfl⟩
          case round =>
            clear BRM
            obtain ⟨k, hk, rfl, br, ca⟩ := hrel
            by_cases hkm : k < m
            · have e1 : decide ((k : Int) < (m : Int)) = true := by simp; omega
              have e2 : (k : Int) < (m : Int) := by omega
              obtain ⟨ad', ead, had, c0, c1, c2', c3, c4, c5, c6, c7, c8, c9, c10⟩ := obj_cells br.out.str hkm
              injection ead with ead
              subst ead
              rw [hpl.out k hkm] at c0 c1 c2' c3 c4 c5 c6 c7 c8 c9 c10
              have hsy := ((H.out.below br.out.bl).sy k hkm)
              have OR : ObjR wr wr.heap.size (some ad2) k (placed O) := ⟨fun hn => by
                obtain ⟨a, e, hb, hc⟩ := br.out.str (by omega)
                refine ⟨a, e, hb, fun i hi j v hv => hc i (by omega) j v ?_⟩
                show (partO O m i).cs[j]? = _
                rw [hpl.out i (by omega)]; exact hv, fun i hi => ⟨((H.out.below br.out.bl).sy i (by omega)).1.more br.out.bl.size, ((H.out.below br.out.bl).sy i (by omega)).2⟩, by omega⟩
              obtain ⟨W1, hW1⟩ : ∃ W, W = wr.alloc (.cells (placed O k).cs 33) := ⟨_, rfl⟩
              have B1 : Hid (Below wr.heap.size wr W1) := by rw [hW1]; exact Lib.hid ((Below.refl _ _).alloc (Nat.le_refl _) _)
              have K1 : Hid (Blk W1 wr.heap.size 33 (placed O k).cs) := by rw [hW1]; exact Lib.hid (Blk.new _ _ _)
              have CC : ∀ d os, Calls Try.prog 33 #[.agg (placed O k).cs, .slice (some ad2) k c2] (grow (redrawn W1 d) os) fun e w' => e = .returned (.bool (clearP O k)) ∧ ∃ p : Regrown, w' = grow (redrawn W1 p.d) p.os := fun d os => by
                have b := B1.out.trans ((below_regrown W1 d os).mono B1.out.size)
                exact Calls.regrown_of (clear_any (placed O k) (some ad2) k c2 (placed O) _ (((hsy.1.more br.out.bl.size).below b).more b.size) (HLI.out k hkm) ((OR.below b).more b.size) fun i hi => HLI.out i (by omega))
              obtain ⟨cb, hcb⟩ : ∃ b, b = clearP O k := ⟨_, rfl⟩
              rw [← hcb] at CC
              have HCB := Lib.hid hcb
              have ecs : (placed O k).cs = #[.int .i64 (placed O k).ino, .int .u64 (placed O k).base, .int .u16 (placed O k).ty, .int .u64 (placed O k).en, .int .u64 (placed O k).ph, .slice (placed O k).gA (placed O k).gM (placed O k).gQ, .slice (placed O k).nA (placed O k).nM (placed O k).nQ, .string (placed O k).so, .string (placed O k).rn, .slice (placed O k).sA (placed O k).sM (placed O k).sQ, .slice (placed O k).rA (placed O k).rM (placed O k).rQ] := rfl
              rw [ecs] at CC hW1 K1
              have HCC := Lib.hid CC; have HW1 := Lib.hid hW1
              have lad := World.block_lt_of_cell? _ _ c1
              have k1 : (k : Int) ≤ (c2 : Int) := by omega
              have k2 : decide ((k : Int) ≤ (c2 : Int)) = true := by simp; omega
              have k3 : k ≤ c2 := by omega
              have k4 : (0 : Int) ≤ (k : Int) := by omega
              clear hsy CC hcb ecs hW1 OR
              generalize (placed O k).ino = o0 at *
              generalize (placed O k).base = o1 at *
              generalize (placed O k).ty = o2 at *
              generalize (placed O k).en = o3 at *
              generalize (placed O k).ph = o4 at *
              generalize (placed O k).gA = o5 at *
              generalize (placed O k).gM = o6 at *
              generalize (placed O k).gQ = o7 at *
              generalize (placed O k).nA = o8 at *
              generalize (placed O k).nM = o9 at *
              generalize (placed O k).nQ = o10 at *
              generalize (placed O k).so = o11 at *
              generalize (placed O k).rn = o12 at *
              generalize (placed O k).sA = o13 at *
              generalize (placed O k).sM = o14 at *
              generalize (placed O k).sQ = o15 at *
              generalize (placed O k).rA = o16 at *
              generalize (placed O k).rM = o17 at *
              generalize (placed O k).rQ = o18 at *
              go_wp2_with fail
              rw [← HW1.out]
              have r0 := fun (d : Nat) (os : Array Obj) => cell_regrown (K1.out.cell 0 |>.trans rfl) d os
              have r1 := fun (d : Nat) (os : Array Obj) => cell_regrown (K1.out.cell 1 |>.trans rfl) d os
              have r2 := fun (d : Nat) (os : Array Obj) => cell_regrown (K1.out.cell 2 |>.trans rfl) d os
              have r3 := fun (d : Nat) (os : Array Obj) => cell_regrown (K1.out.cell 3 |>.trans rfl) d os
              have r4 := fun (d : Nat) (os : Array Obj) => cell_regrown (K1.out.cell 4 |>.trans rfl) d os
              have r5 := fun (d : Nat) (os : Array Obj) => cell_regrown (K1.out.cell 5 |>.trans rfl) d os
              have r6 := fun (d : Nat) (os : Array Obj) => cell_regrown (K1.out.cell 6 |>.trans rfl) d os
              have r7 := fun (d : Nat) (os : Array Obj) => cell_regrown (K1.out.cell 7 |>.trans rfl) d os
              have r8 := fun (d : Nat) (os : Array Obj) => cell_regrown (K1.out.cell 8 |>.trans rfl) d os
              have r9 := fun (d : Nat) (os : Array Obj) => cell_regrown (K1.out.cell 9 |>.trans rfl) d os
              have r10 := fun (d : Nat) (os : Array Obj) => cell_regrown (K1.out.cell 10 |>.trans rfl) d os
              refine wp_region_quiet_below (by kernel_rfl) (by kernel_rfl) ?_
              repeat (quiet_step (first | (go_at_call 33; exact HCC.out _ _)))
              refine wpQuiet_nil ?_
              intro _ hw'
              obtain ⟨⟨dq, osq⟩, hw''⟩ := hw'
              subst hw''
              have BG : Hid (BRow w O m m ad2 c2 (grow (redrawn W1 dq) osq)) := Lib.hid (br.out.next (B1.out.trans ((below_regrown W1 dq osq).mono B1.out.size)))
              cases cb with
              | false =>
                have RES : Hid (basesE O m = 13) := Lib.hid (by rw [basesE_ok h0m hm8 OKM.out, clearAll_no hkm HCB.out.symm]; rfl)
                go_wp2_with fail
                go_ret2
                exact BaP.exec BG.out.bl RES.out
              | true =>
                have CA2 : Hid (clearAll O (k + 1) = true) := Lib.hid (by unfold clearAll; rw [ca.out, ← HCB.out]; rfl)
                go_wp2_with fail
                go_roundw
                case rel => exact ⟨k + 1, by omega, by go_num, BG, CA2⟩
                case measure => simp [intOf]; omega
            · obtain rfl : m = k := by omega
              have d1 : decide ((m : Int) < (m : Int)) = false := by simp
              have RES : Hid (basesE O m = 0) := Lib.hid (by rw [basesE_ok h0m hm8 OKM.out, ca.out]; rfl)
              have OWN : Hid (wr.ownsRow w.heap.size 33 11 (.slice (some ad2) m c2) m (flatG (objC (placed O)) m)) := Lib.hid (by
                have h := br.out.ow
                rwa [flatG_congr (G := objC (placed O)) m fun i hi => by show (partO O m i).cs = _; rw [hpl.out i hi]; rfl] at h)
              go_wp2_with fail
              go_ret2
              exact BaP.ok br.out.bl RES.out OWN.out
end Go.Proofs.Yticnmgdflkipeaa
