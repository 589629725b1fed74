import Derived.Test.YtlenjpgkmikgpaaSY15
namespace Go.Proofs.Ytlenjpgkmikgpaa.Sym
open Go.RowKit Go.Shelf Go.Hos
set_option linter.unusedVariables false
theorem lk_here {O : Nat → ObjD} {m i k : Nat} {nm : ByteArray} (hi : i < m) (hk : k < (O i).sM) (hno : (dfO O i ++ dfI O i k).find? (nmB O nm) = none) (hd : dfB ((O i).sy k) = true) (hn : ((O i).sy k).nm = nm) : lkO O m nm = some (i, k) := by
  obtain ⟨r, hr⟩ := df_pre O hi (show k + 1 ≤ (O i).sM by omega)
  rw [dfI_yes hd, ← List.append_assoc] at hr
  unfold lkO
  rw [← hr, List.append_assoc, List.find?_append, hno]
  simp [nmB, symA, hn]
theorem lk_step {O : Nat → ObjD} {i k : Nat} {nm : ByteArray} (hno : (dfO O i ++ dfI O i k).find? (nmB O nm) = none) (h : dfB ((O i).sy k) = false ∨ ¬ ((O i).sy k).nm = nm) : (dfO O i ++ dfI O i (k + 1)).find? (nmB O nm) = none := by
  cases hd : dfB ((O i).sy k)
  · rw [dfI_no hd]; exact hno
  · have h2 : ¬ ((O i).sy k).nm = nm := h.resolve_left (by rw [hd]; simp)
    rw [dfI_yes hd, ← List.append_assoc, List.find?_append, hno]
    simp [nmB, symA, h2]
set_option maxRecDepth 20000 in
set_option maxHeartbeats 1600000 in
theorem lookup18_any (A : Option Addr) (m c : Nat) (O : Nat → ObjD) (nm : ByteArray) (w : World) (hR : ObjR w w.heap.size A m O) :
    Calls Try.prog 42 #[.slice A m c, .string nm] w fun e W' => e = .returned (lkV (lkO O m nm)) ∧ Below w.heap.size w W' := by
  have hm := hR.len
  have hmm : maxLen = 9223372036854775807 := by simp [maxLen]
  have H := Lib.hid hR
  clear hR
  go_enter Try.func42, Try.ntmps42
  go_wp2_with fail
  go_loopw [7] (fun v7 wr => ∃ i : Nat, i ≤ m ∧ v7 = .int .i64 i ∧ Hid ((dfO O i).find? (nmB O nm) = none) ∧ Hid (Below w.heap.size w wr)) (fun v7 _ => m - (intOf v7).toNat)
  case atStart => exact ⟨0, Nat.zero_le _, rfl, Lib.hid rfl, Lib.hid (Below.refl _ _)⟩
  case round =>
    obtain ⟨i, hi, rfl, hno, bl⟩ := hrel
    by_cases him : i < m
    · have e1 : decide ((i : Int) < (m : Int)) = true := by simp; omega
      obtain ⟨l, hl⟩ : ∃ l, l = (O i).sM := ⟨_, rfl⟩
      obtain ⟨x0, hx0⟩ : ∃ l, l = (O i).sA := ⟨_, rfl⟩
      obtain ⟨x1, hx1⟩ : ∃ l, l = (O i).sQ := ⟨_, rfl⟩
      obtain ⟨ad, hA⟩ : ∃ ad, A = some ad := by obtain ⟨ad, h, _⟩ := H.out.cells him; exact ⟨ad, h⟩
      subst hA
      have HL := Lib.hid hl; have HX0 := Lib.hid hx0; have HX1 := Lib.hid hx1
      have hsl : l ≤ maxLen := by rw [hl]; exact (H.out.sy i him).2
      clear hl hx0 hx1
      go_wp2_with fail
      go_loopw [8] (fun v8 wr => ∃ k : Nat, k ≤ l ∧ v8 = .int .i64 k ∧ Hid ((dfO O i ++ dfI O i k).find? (nmB O nm) = none) ∧ Hid (Below w.heap.size w wr)) (fun v8 _ => l - (intOf v8).toNat)
      case atStart => exact ⟨0, Nat.zero_le _, rfl, Lib.hid (by simpa [dfI] using hno.out), bl⟩
      case round =>
        clear hno bl
        obtain ⟨k, hk, rfl, hno, bl⟩ := hrel
        obtain ⟨_, hA, had, _, _, _, _, _, _, _, _, _, c9, _⟩ := (H.out.below bl.out).cells him
        obtain rfl := Option.some.inj hA
        rw [← HL.out, ← HX0.out, ← HX1.out] at c9
        have l1 := World.block_lt_of_cell? _ _ c9
        have f4 : (i : Int) < (m : Int) := by omega
        by_cases hkl : k < l
        · have f1 : decide ((k : Int) < (l : Int)) = true := by simp; omega
          have f5 : (k : Int) < (l : Int) := by omega
          have hsy := ((H.out.below bl.out).sy i him).1
          rw [← HL.out, ← HX0.out] at hsy
          obtain ⟨ads, hads, has, d0, d1, d2, d3, d4⟩ := sym_cells hsy hkl
          obtain ⟨s, hs⟩ : ∃ s, s = (O i).sy k := ⟨_, rfl⟩
          rw [← hs] at d0 d1 d2 d3 d4
          have HSY := Lib.hid hs
          obtain ⟨nm2, v, sz, bd, df⟩ := s
          dsimp only at d0 d1 d2 d3 d4
          have l2 := World.block_lt_of_cell? _ _ d0
          subst hads
          clear hsy hs
          go_wp2_with fail
          refine (defines_any ⟨nm2, v, sz, bd, df⟩ _).mono ?_
          obtain ⟨db, hdb⟩ : ∃ b, b = dfB ⟨nm2, v, sz, bd, df⟩ := ⟨_, rfl⟩
          rw [← hdb]
          rintro e w1 ⟨rfl, bl1⟩
          have keep : ∀ b j v, b < wr.heap.size → wr.cell? ⟨b, j, none⟩ = some v → w1.cell? ⟨b, j, none⟩ = some v := fun b j v h1 h2 => (bl1.cell (p := ⟨b, j, none⟩) h1).trans h2
          have c92 := keep _ _ _ l1 c9
          have d02 : w1.cell? (ads.add (k * 5)) = some (.string nm2) := (bl1.cell (p := ads.add (k * 5)) l2).trans d0
          have l12 := World.block_lt_of_cell? _ _ c92
          have l22 := World.block_lt_of_cell? _ _ d02
          have BL1 := Lib.hid (bl.out.trans (bl1.mono bl.out.size))
          have HDB := Lib.hid hdb
          clear keep bl1 c9 d0 d1 d2 d3 d4 l1 l2 hdb
          have hcase : db = false ∨ (db = true ∧ ¬ nm2 = nm) ∨ (db = true ∧ nm2 = nm) := by
            cases db
            · exact .inl rfl
            · by_cases h : nm2 = nm
              · exact .inr (.inr ⟨rfl, h⟩)
              · exact .inr (.inl ⟨rfl, h⟩)
          rcases hcase with rfl | ⟨rfl, hne⟩ | ⟨rfl, rfl⟩
          · have NX : Hid ((dfO O i ++ dfI O i (k + 1)).find? (nmB O nm) = none) := Lib.hid (lk_step hno.out (.inl (by rw [← HSY.out]; exact HDB.out.symm)))
            clear hno
            go_wp2_with fail
            go_roundw
            case rel => exact ⟨k + 1, by omega, by go_num, NX, BL1⟩
            case measure => simp [intOf]; omega
          · have NX : Hid ((dfO O i ++ dfI O i (k + 1)).find? (nmB O nm) = none) := Lib.hid (lk_step hno.out (.inr (by rw [← HSY.out]; exact hne)))
            have f2 := bytes_ne hne
            clear hno hne
            go_wp2_with fail
            go_roundw
            case rel => exact ⟨k + 1, by omega, by go_num, NX, BL1⟩
            case measure => simp [intOf]; omega
          · have E : Hid (lkO O m nm2 = some (i, k)) := Lib.hid (lk_here him (by rw [← HL.out]; exact hkl) hno.out (by rw [← HSY.out]; exact HDB.out.symm) (by rw [← HSY.out]))
            have f2 : (nm2.toList == nm2.toList) = true := by simp
            clear hno
            go_wp2_with fail
            rw [E.out]
            exact bodyPost_ret (v := .tuple #[.int .i64 (i : Int), .int .i64 (k : Int), .bool true]) (by simp [results, Try.results42, go_sem]) rfl ⟨rfl, BL1.out⟩
        · have f1 : decide ((k : Int) < (l : Int)) = false := by simp; omega
          obtain rfl : k = l := by omega
          have NX : Hid ((dfO O (i + 1)).find? (nmB O nm) = none) := Lib.hid (by have := hno.out; rw [HL.out] at this; exact this)
          clear hno
          go_wp2_with fail
          go_roundw
          case rel => exact ⟨i + 1, by omega, by go_num, NX, bl⟩
          case measure => simp [intOf]; omega
    · obtain rfl : i = m := by omega
      have d1 : decide ((i : Int) < (i : Int)) = false := by simp
      have E : Hid (lkO O i nm = none) := Lib.hid hno.out
      clear hno
      go_wp2_with fail
      rw [E.out]
      exact bodyPost_ret (v := .tuple #[.int .i64 0, .int .i64 0, .bool false]) (by simp [results, Try.results42, go_sem]) rfl ⟨rfl, bl.out⟩
end Go.Proofs.Ytlenjpgkmikgpaa.Sym
