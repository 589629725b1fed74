import Derived.Test.YtlenjpgkmikgpaaSY3
namespace Go.Proofs.Ytlenjpgkmikgpaa.Sym
open Go.RowKit Go.Shelf Go.Hos
set_option linter.unusedVariables false
/-- what a reference comes to -/
def ofP (O : Nat → ObjD) (m : Nat) (i k : Int) : Int × Int :=
  if thB O m i k then
    if (symV O m i k).df && (symV O m i k).bd == 0 then (vlV O m i k, 0) else
      match lkO O m (symV O m i k).nm with
      | some x => (vlV O m x.1 x.2, 0)
      | none => if (symV O m i k).bd == 2 then (0, 0) else (0, 21)
  else (0, 1)
theorem ObjR.next {W W' : World} {B : Nat} {A : Option Addr} {n : Nat} {O : Nat → ObjD} (h : ObjR W B A n O) (hb : Below W.heap.size W W') (hB : B ≤ W.heap.size) : ObjR W' W'.heap.size A n O :=
  (h.below (hb.mono hB)).more (by have := hb.size; omega)
set_option maxRecDepth 20000 in
set_option maxHeartbeats 1600000 in
theorem of_any (A : Option Addr) (m c : Nat) (O : Nat → ObjD) (i k : Int) (B : Nat) (w : World) (hR : ObjR w B A m O) (hB : B ≤ w.heap.size) :
    Calls Try.prog 39 #[.slice A m c, .int .i64 i, .int .i64 k] w fun e W' => e = .returned (.tuple #[.int .u64 (ofP O m i k).1, .int .i64 (ofP O m i k).2]) ∧ Below w.heap.size w W' := by
  have hm := hR.len
  have hmm : maxLen = 9223372036854775807 := by simp [maxLen]
  have H := Lib.hid hR
  obtain ⟨s, hs⟩ : ∃ s, s = symV O m i k := ⟨_, rfl⟩
  have HS := Lib.hid hs
  obtain ⟨nm, v, sz, bd, df⟩ := s
  clear hR
  cases ht : thB O m i k
  · have HT := Lib.hid ht
    have E : Hid (ofP O m i k = (0, 1)) := Lib.hid (by unfold ofP; rw [ht, if_neg (by simp)])
    rw [E.out]
    clear ht hs
    go_enter Try.func39, Try.ntmps39
    go_wp2_with fail
    refine (symbol_any A m c O i k B _ H.out hB).mono ?_
    rw [← HS.out, HT.out, show (SymD.mk nm v sz bd df).cs = #[.string nm, .int .u64 v, .int .u64 sz, .int .u8 bd, .bool df] from rfl]
    rintro e w1 ⟨rfl, bl1⟩
    have BL := Lib.hid bl1
    clear bl1
    go_wp2_with fail
    go_ret2
    exact ⟨rfl, BL.out.alloc BL.out.size _⟩
  · have HT := Lib.hid ht
    by_cases hloc : df = true ∧ bd = 0
    · obtain ⟨rfl, rfl⟩ := hloc
      have E : Hid (ofP O m i k = (vlV O m i k, 0)) := Lib.hid (by unfold ofP; rw [ht, if_pos rfl, ← hs, if_pos (by simp)])
      rw [E.out]
      clear ht hs
      go_enter Try.func39, Try.ntmps39
      go_wp2_with fail
      refine (symbol_any A m c O i k B _ H.out hB).mono ?_
      rw [← HS.out, HT.out, show (SymD.mk nm v sz 0 true).cs = #[.string nm, .int .u64 v, .int .u64 sz, .int .u8 0, .bool true] from rfl]
      rintro e w1 ⟨rfl, bl1⟩
      have BL : Hid (Below w.heap.size w (w1.alloc (.cells #[.string nm, .int .u64 v, .int .u64 sz, .int .u8 0, .bool true] 61))) := bl1.alloc bl1.size _
      clear bl1
      go_wp2_with fail
      refine (value_any A m c O i k B _ (H.out.below (BL.out.mono hB)) (by have := BL.out.size; omega)).mono ?_
      rintro e w2 ⟨rfl, bl2⟩
      have BL2 := Lib.hid (BL.out.trans (bl2.mono BL.out.size))
      clear bl2
      go_wp2_with fail
      go_ret2
      exact ⟨rfl, BL2.out⟩
    · have hnl : (df && bd == 0) = false := by
        cases df
        · rfl
        · have : ¬ bd = 0 := fun e => hloc ⟨rfl, e⟩
          simpa using this
      have HNL := Lib.hid hnl
      have hd : df = false ∨ (df = true ∧ (bd == 0) = false) := by
        cases df
        · exact .inl rfl
        · exact .inr ⟨rfl, by simpa using hnl⟩
      clear hloc hnl
      cases hlk : lkO O m nm with
      | some x =>
        have E : Hid (ofP O m i k = (vlV O m x.1 x.2, 0)) := Lib.hid (by unfold ofP; rw [ht, if_pos rfl, ← hs]; dsimp only; rw [HNL.out, if_neg (by simp), hlk])
        have HLK := Lib.hid hlk
        obtain ⟨x1, x2⟩ := x
        dsimp only at E
        rw [E.out]
        clear ht hs hlk
        rcases hd with rfl | ⟨rfl, hbd⟩
        all_goals
          go_enter Try.func39, Try.ntmps39
          go_wp2_with fail
          refine (symbol_any A m c O i k B _ H.out hB).mono ?_
          rw [← HS.out, HT.out, show ∀ df, (SymD.mk nm v sz bd df).cs = #[.string nm, .int .u64 v, .int .u64 sz, .int .u8 bd, .bool df] from fun _ => rfl]
          rintro e w1 ⟨rfl, bl1⟩
          have BL : Hid (Below w.heap.size w (w1.alloc (.cells #[.string nm, .int .u64 v, .int .u64 sz, .int .u8 bd, .bool false] 61))) := bl1.alloc bl1.size _
          have BL' : Hid (Below w.heap.size w (w1.alloc (.cells #[.string nm, .int .u64 v, .int .u64 sz, .int .u8 bd, .bool true] 61))) := bl1.alloc bl1.size _
          clear bl1
          go_wp2_with fail
          first
            | refine (lookup_any A m c O nm _ ((H.out.below (BL.out.mono hB)).more (by have := BL.out.size; omega))).mono ?_
              rw [HLK.out, show lkV (some (x1, x2)) = .tuple #[.int .i64 (x1 : Int), .int .i64 (x2 : Int), .bool true] from rfl]
              rintro e w2 ⟨rfl, bl2⟩
              have BL2 := Lib.hid (BL.out.trans (bl2.mono BL.out.size))
              clear bl2
            | refine (lookup_any A m c O nm _ ((H.out.below (BL'.out.mono hB)).more (by have := BL'.out.size; omega))).mono ?_
              rw [HLK.out, show lkV (some (x1, x2)) = .tuple #[.int .i64 (x1 : Int), .int .i64 (x2 : Int), .bool true] from rfl]
              rintro e w2 ⟨rfl, bl2⟩
              have BL2 := Lib.hid (BL'.out.trans (bl2.mono BL'.out.size))
              clear bl2
          go_wp2_with fail
          refine (value_any A m c O x1 x2 B _ (H.out.below (BL2.out.mono hB)) (by have := BL2.out.size; omega)).mono ?_
          rintro e w3 ⟨rfl, bl3⟩
          have BL3 := Lib.hid (BL2.out.trans (bl3.mono BL2.out.size))
          clear bl3
          go_wp2_with fail
          go_ret2
          exact ⟨rfl, BL3.out⟩
      | none =>
        have HLK := Lib.hid hlk
        by_cases hb2 : bd = 2
        · subst hb2
          have E : Hid (ofP O m i k = (0, 0)) := Lib.hid (by unfold ofP; rw [ht, if_pos rfl, ← hs]; dsimp only; rw [HNL.out, if_neg (by simp), hlk]; rfl)
          rw [E.out]
          clear ht hs hlk
          rcases hd with rfl | ⟨rfl, hbd⟩
          all_goals
            go_enter Try.func39, Try.ntmps39
            go_wp2_with fail
            refine (symbol_any A m c O i k B _ H.out hB).mono ?_
            rw [← HS.out, HT.out, show ∀ df, (SymD.mk nm v sz 2 df).cs = #[.string nm, .int .u64 v, .int .u64 sz, .int .u8 2, .bool df] from fun _ => rfl]
            rintro e w1 ⟨rfl, bl1⟩
            have BL : Hid (Below w.heap.size w (w1.alloc (.cells #[.string nm, .int .u64 v, .int .u64 sz, .int .u8 2, .bool false] 61))) := bl1.alloc bl1.size _
            have BL' : Hid (Below w.heap.size w (w1.alloc (.cells #[.string nm, .int .u64 v, .int .u64 sz, .int .u8 2, .bool true] 61))) := bl1.alloc bl1.size _
            clear bl1
            go_wp2_with fail
            first
              | refine (lookup_any A m c O nm _ ((H.out.below (BL.out.mono hB)).more (by have := BL.out.size; omega))).mono ?_
                rw [HLK.out, show lkV none = .tuple #[.int .i64 0, .int .i64 0, .bool false] from rfl]
                rintro e w2 ⟨rfl, bl2⟩
                have BL2 := Lib.hid (BL.out.trans (bl2.mono BL.out.size))
                have c2 : w2.cell? ⟨w1.heap.size, 3, none⟩ = some (.int .u8 2) := (bl2.cell (p := ⟨w1.heap.size, 3, none⟩) (by simp)).trans ((Blk.new w1 61 _).cell 3)
                clear bl2
              | refine (lookup_any A m c O nm _ ((H.out.below (BL'.out.mono hB)).more (by have := BL'.out.size; omega))).mono ?_
                rw [HLK.out, show lkV none = .tuple #[.int .i64 0, .int .i64 0, .bool false] from rfl]
                rintro e w2 ⟨rfl, bl2⟩
                have BL2 := Lib.hid (BL'.out.trans (bl2.mono BL'.out.size))
                have c2 : w2.cell? ⟨w1.heap.size, 3, none⟩ = some (.int .u8 2) := (bl2.cell (p := ⟨w1.heap.size, 3, none⟩) (by simp)).trans ((Blk.new w1 61 _).cell 3)
                clear bl2
            go_wp2_with fail
            go_ret2
            exact ⟨rfl, BL2.out⟩
        · have e2 : (bd == 2) = false := by simpa using hb2
          have E : Hid (ofP O m i k = (0, 21)) := Lib.hid (by unfold ofP; rw [ht, if_pos rfl, ← hs]; dsimp only; rw [HNL.out, if_neg (by simp), hlk]; dsimp only; rw [e2]; rfl)
          rw [E.out]
          clear ht hs hlk hb2
          rcases hd with rfl | ⟨rfl, hbd⟩
          all_goals
            go_enter Try.func39, Try.ntmps39
            go_wp2_with fail
            refine (symbol_any A m c O i k B _ H.out hB).mono ?_
            rw [← HS.out, HT.out, show ∀ df, (SymD.mk nm v sz bd df).cs = #[.string nm, .int .u64 v, .int .u64 sz, .int .u8 bd, .bool df] from fun _ => rfl]
            rintro e w1 ⟨rfl, bl1⟩
            have BL : Hid (Below w.heap.size w (w1.alloc (.cells #[.string nm, .int .u64 v, .int .u64 sz, .int .u8 bd, .bool false] 61))) := bl1.alloc bl1.size _
            have BL' : Hid (Below w.heap.size w (w1.alloc (.cells #[.string nm, .int .u64 v, .int .u64 sz, .int .u8 bd, .bool true] 61))) := bl1.alloc bl1.size _
            clear bl1
            go_wp2_with fail
            first
              | refine (lookup_any A m c O nm _ ((H.out.below (BL.out.mono hB)).more (by have := BL.out.size; omega))).mono ?_
                rw [HLK.out, show lkV none = .tuple #[.int .i64 0, .int .i64 0, .bool false] from rfl]
                rintro e w2 ⟨rfl, bl2⟩
                have BL2 := Lib.hid (BL.out.trans (bl2.mono BL.out.size))
                have c2 : w2.cell? ⟨w1.heap.size, 3, none⟩ = some (.int .u8 bd) := (bl2.cell (p := ⟨w1.heap.size, 3, none⟩) (by simp)).trans ((Blk.new w1 61 _).cell 3)
                clear bl2
              | refine (lookup_any A m c O nm _ ((H.out.below (BL'.out.mono hB)).more (by have := BL'.out.size; omega))).mono ?_
                rw [HLK.out, show lkV none = .tuple #[.int .i64 0, .int .i64 0, .bool false] from rfl]
                rintro e w2 ⟨rfl, bl2⟩
                have BL2 := Lib.hid (BL'.out.trans (bl2.mono BL'.out.size))
                have c2 : w2.cell? ⟨w1.heap.size, 3, none⟩ = some (.int .u8 bd) := (bl2.cell (p := ⟨w1.heap.size, 3, none⟩) (by simp)).trans ((Blk.new w1 61 _).cell 3)
                clear bl2
            go_wp2_with fail
            go_ret2
            exact ⟨rfl, BL2.out⟩
end Go.Proofs.Ytlenjpgkmikgpaa.Sym
