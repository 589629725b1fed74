import Derived.Test.YtlenjpgkmikgpaaSY16
namespace Go.Proofs.Ytlenjpgkmikgpaa.Sym
open Go.RowKit Go.Shelf Go.Hos
set_option linter.unusedVariables false
set_option maxRecDepth 20000 in
set_option maxHeartbeats 1600000 in
theorem ref_any (A : Option Addr) (m c : Nat) (O : Nat → ObjD) (i k : Int) (B : Nat) (w : World) (hR : ObjR w B A m O) (hB : B ≤ w.heap.size) :
    Calls Try.prog 31 #[.slice A m c, .int .i64 i, .int .i64 k] w fun e W' => e = .returned (.tuple #[.int .u64 (ofP O m i k).1, .int .i64 (ofP O m i k).2]) ∧ Below w.heap.size w W' := by
  have hm := hR.len
  have hmm : maxLen = 9223372036854775807 := by simp [maxLen]
  have H := Lib.hid hR
  obtain ⟨s, hs⟩ : ∃ s, s = symV O m i k := ⟨_, rfl⟩
  cases ht : thB O m i k
  · have HT := Lib.hid ht
    have E : Hid (ofP O m i k = (0, 1)) := Lib.hid (by unfold ofP; rw [ht, if_neg (by simp)])
    rw [E.out]
    clear ht hs hR
    go_enter Try.func31, Try.ntmps31
    go_wp2_with fail
    refine (there_any A m c O i k B _ H.out).mono ?_
    rw [HT.out]
    rintro e w1 ⟨rfl, rfl⟩
    go_wp2_with fail
    go_ret2
    exact ⟨rfl, Below.refl _ _⟩
  · have HT := Lib.hid ht
    obtain ⟨a, b, rfl, rfl, ha, hb⟩ := thB_yes ht
    have hsv : symV O m a b = (O a).sy b := by rw [symV, ht, if_pos rfl, Int.toNat_natCast, Int.toNat_natCast]
    obtain ⟨ad, rfl, had, _, c1, _, _, _, _, _, _, _, c9, _⟩ := hR.cells ha
    obtain ⟨hsy, hsl⟩ := hR.sy a ha
    obtain ⟨ads, hs1, hs2, d0, d1, d2, d3, d4⟩ := sym_cells hsy hb
    obtain ⟨l, hl⟩ : ∃ l, l = (O a).sM := ⟨_, rfl⟩
    obtain ⟨x0, hx0⟩ : ∃ l, l = (O a).sA := ⟨_, rfl⟩
    obtain ⟨x1, hx1⟩ : ∃ l, l = (O a).sQ := ⟨_, rfl⟩
    rw [← hl, ← hx0, ← hx1] at c9
    rw [← hl] at hb hsl
    rw [← hx0] at hs1
    rw [← hsv, ← hs] at d0 d1 d2 d3 d4
    obtain ⟨nm, v, sz, bd, df⟩ := s
    dsimp only at d0 d1 d2 d3 d4
    subst hs1
    have e0 : (a : Int) < (m : Int) := by omega
    have e2 : (b : Int) < (l : Int) := by omega
    have l1 := World.block_lt_of_cell? _ _ c9
    have l2 := World.block_lt_of_cell? _ _ d0
    clear hR hsy hl hx0 hx1 hsv c1
    by_cases hloc : df = true ∧ bd = 0
    · obtain ⟨rfl, rfl⟩ := hloc
      have E : Hid (ofP O m a b = (vlV O m a b, 0)) := Lib.hid (by unfold ofP; rw [ht, if_pos rfl, ← hs, if_pos (by simp)])
      rw [E.out]
      have BL : Hid (Below w.heap.size w (w.alloc (.cells #[.string nm, .int .u64 v, .int .u64 sz, .int .u8 0, .bool true] 61))) := Lib.hid ((Below.refl _ _).alloc (Nat.le_refl _) _)
      clear ht hs
      go_enter Try.func31, Try.ntmps31
      go_wp2_with fail
      refine (there_any _ m c O a b B _ H.out).mono ?_
      rw [HT.out]
      rintro e w1 ⟨rfl, rfl⟩
      go_wp2_with fail
      refine (value18_any _ m c O a b B _ (H.out.below (BL.out.mono hB))).mono ?_
      rintro e w2 ⟨rfl, bl2⟩
      have BL2 := Lib.hid (BL.out.trans (bl2.mono BL.out.size))
      clear bl2
      go_wp2_with fail
      go_ret2
      exact ⟨rfl, BL2.out⟩
    · have hnl : (df && bd == 0) = false := by
        cases df
        · rfl
        · have : ¬ bd = 0 := fun e => hloc ⟨rfl, e⟩
          simpa using this
      have HNL := Lib.hid hnl
      have hd : (bd = 0 ∧ df = false) ∨ (bd == 0) = false := by
        by_cases e : bd = 0
        · refine .inl ⟨e, ?_⟩
          cases df
          · rfl
          · exact absurd ⟨rfl, e⟩ hloc
        · exact .inr (by simpa using e)
      have BL : Hid (Below w.heap.size w (w.alloc (.cells #[.string nm, .int .u64 v, .int .u64 sz, .int .u8 bd, .bool df] 61))) := Lib.hid ((Below.refl _ _).alloc (Nat.le_refl _) _)
      clear hloc hnl
      cases hlk : lkO O m nm with
      | some x =>
        have E : Hid (ofP O m a b = (vlV O m x.1 x.2, 0)) := Lib.hid (by unfold ofP; rw [ht, if_pos rfl, ← hs]; dsimp only; rw [HNL.out, if_neg (by simp), hlk])
        have HLK := Lib.hid hlk
        obtain ⟨x1', x2'⟩ := x
        dsimp only at E
        rw [E.out]
        clear ht hs hlk
        rcases hd with ⟨rfl, rfl⟩ | hbd
        all_goals
          go_enter Try.func31, Try.ntmps31
          go_wp2_with fail
          refine (there_any _ m c O a b B _ H.out).mono ?_
          rw [HT.out]
          rintro e w1 ⟨rfl, rfl⟩
          go_wp2_with fail
          refine (lookup18_any _ m c O nm _ ((H.out.below (BL.out.mono hB)).more (by have := BL.out.size; omega))).mono ?_
          rw [HLK.out, show lkV (some (x1', x2')) = .tuple #[.int .i64 (x1' : Int), .int .i64 (x2' : Int), .bool true] from rfl]
          rintro e w2 ⟨rfl, bl2⟩
          have BL2 := Lib.hid (BL.out.trans (bl2.mono BL.out.size))
          clear bl2
          go_wp2_with fail
          refine (value18_any _ m c O x1' x2' B _ (H.out.below (BL2.out.mono hB))).mono ?_
          rintro e w3 ⟨rfl, bl3⟩
          have BL3 := Lib.hid (BL2.out.trans (bl3.mono BL2.out.size))
          clear bl3
          go_wp2_with fail
          go_ret2
          exact ⟨rfl, BL3.out⟩
      | none =>
        have HLK := Lib.hid hlk
        have hb2 : (bd = 0 ∧ df = false ∧ Hid (ofP O m a b = (0, 21))) ∨ ((bd == 0) = false ∧ bd = 2 ∧ Hid (ofP O m a b = (0, 0))) ∨ ((bd == 0) = false ∧ (bd == 2) = false ∧ Hid (ofP O m a b = (0, 21))) := by
          rcases hd with ⟨rfl, rfl⟩ | hd
          · exact .inl ⟨rfl, rfl, Lib.hid (by unfold ofP; rw [ht, if_pos rfl, ← hs]; dsimp only; rw [HNL.out, if_neg (by simp), hlk]; rfl)⟩
          · by_cases hb2 : bd = 2
            · exact .inr (.inl ⟨hd, hb2, Lib.hid (by unfold ofP; rw [ht, if_pos rfl, ← hs]; dsimp only; rw [HNL.out, if_neg (by simp), hlk, hb2]; rfl)⟩)
            · have e2 : (bd == 2) = false := by simpa using hb2
              exact .inr (.inr ⟨hd, e2, Lib.hid (by unfold ofP; rw [ht, if_pos rfl, ← hs]; dsimp only; rw [HNL.out, if_neg (by simp), hlk]; dsimp only; rw [e2]; rfl)⟩)
        clear ht hs hlk hd
        rcases hb2 with ⟨rfl, rfl, E⟩ | ⟨hbd, rfl, E⟩ | ⟨hbd, hb2, E⟩
        all_goals
          rw [E.out]
          go_enter Try.func31, Try.ntmps31
          go_wp2_with fail
          refine (there_any _ m c O a b B _ H.out).mono ?_
          rw [HT.out]
          rintro e w1 ⟨rfl, rfl⟩
          go_wp2_with fail
          refine (lookup18_any _ m c O nm _ ((H.out.below (BL.out.mono hB)).more (by have := BL.out.size; omega))).mono ?_
          rw [HLK.out, show lkV none = .tuple #[.int .i64 0, .int .i64 0, .bool false] from rfl]
          rintro e w2 ⟨rfl, bl2⟩
          have BL2 := Lib.hid (BL.out.trans (bl2.mono BL.out.size))
          have c2 := (bl2.cell (p := ⟨w.heap.size, 3, none⟩) (by simp)).trans ((Blk.new w 61 _).cell 3)
          simp only [List.getElem?_toArray, List.getElem?_cons_succ, List.getElem?_cons_zero] at c2
          clear bl2
          go_wp2_with fail
          go_ret2
          exact ⟨rfl, BL2.out⟩
end Go.Proofs.Ytlenjpgkmikgpaa.Sym
