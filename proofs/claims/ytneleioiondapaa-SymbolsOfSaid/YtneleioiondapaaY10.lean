import Derived.Test.YtneleioiondapaaY7
namespace Go.Proofs.Ytneleioiondapaa
open Go.RowKit Go.Shelf Go.Hos
set_option linter.unusedVariables false
theorem hasN_iff {l : List ByteArray} {s : ByteArray} : hasN l s = true ↔ s ∈ l := by
  unfold hasN
  rw [List.any_eq_true]
  exact ⟨fun ⟨a, ha, e⟩ => by rw [← of_decide_eq_true e]; exact ha, fun h => ⟨s, h, by simp⟩⟩
theorem mem_fold (O : Nat → ObjD) (s : ByteArray) : ∀ (l : List (Nat × Nat)) (acc : List ByteArray), s ∈ l.foldl (addN O) acc ↔ s ∈ acc ∨ ∃ x ∈ l, (symA O x).nm = s
  | [], acc => by simp
  | x :: r, acc => by
    rw [List.foldl_cons, mem_fold O s r]
    have h : s ∈ addN O acc x ↔ s ∈ acc ∨ (symA O x).nm = s := by
      unfold addN
      cases hh : hasN acc (symA O x).nm
      · rw [if_neg (by simp), List.mem_append, List.mem_singleton]
        exact ⟨fun h => h.imp id Eq.symm, fun h => h.imp id Eq.symm⟩
      · rw [if_pos rfl]
        exact ⟨.inl, fun h => h.elim id fun e => by rw [← e]; exact hasN_iff.1 hh⟩
    rw [h]
    constructor
    · rintro ((h | h) | ⟨y, hy, e⟩)
      · exact .inl h
      · exact .inr ⟨x, List.mem_cons_self, h⟩
      · exact .inr ⟨y, List.mem_cons_of_mem _ hy, e⟩
    · rintro (h | ⟨y, hy, e⟩)
      · exact .inl (.inl h)
      · rcases List.mem_cons.1 hy with rfl | hy
        · exact .inl (.inr e)
        · exact .inr ⟨y, hy, e⟩
theorem mem_allN {O : Nat → ObjD} {l : List (Nat × Nat)} {s : ByteArray} : s ∈ allN O l ↔ ∃ x ∈ l, (symA O x).nm = s := by
  unfold allN; rw [mem_fold]; simp
theorem nodup_fold (O : Nat → ObjD) : ∀ (l : List (Nat × Nat)) (acc : List ByteArray), acc.Nodup → (l.foldl (addN O) acc).Nodup
  | [], acc, h => h
  | x :: r, acc, h => nodup_fold O r _ (by
    unfold addN
    cases hh : hasN acc (symA O x).nm
    · rw [if_neg (by simp), List.nodup_append]
      refine ⟨h, by simp, fun a ha b hb e => ?_⟩
      obtain rfl := List.mem_singleton.1 hb
      rw [e] at ha
      rw [hasN_iff.2 ha] at hh; cases hh
    · rw [if_pos rfl]; exact h)
theorem nodup_allN (O : Nat → ObjD) (l : List (Nat × Nat)) : (allN O l).Nodup := nodup_fold O l [] List.nodup_nil
theorem mem_dfI {O : Nat → ObjD} {i : Nat} : ∀ {m : Nat} {x : Nat × Nat}, x ∈ dfI O i m → x.1 = i ∧ x.2 < m ∧ dfB ((O i).sy x.2) = true
  | m + 1, x, h => by
    unfold dfI at h
    rcases List.mem_append.1 h with h | h
    · obtain ⟨h1, h2, h3⟩ := mem_dfI h; exact ⟨h1, by omega, h3⟩
    · split at h
      · rename_i hd
        obtain rfl := List.mem_singleton.1 h
        exact ⟨rfl, by show m < m + 1; omega, hd⟩
      · cases h
theorem mem_dfO {O : Nat → ObjD} : ∀ {n : Nat} {x : Nat × Nat}, x ∈ dfO O n → x.1 < n ∧ x.2 < (O x.1).sM ∧ dfB (symA O x) = true
  | n + 1, x, h => by
    unfold dfO at h
    rcases List.mem_append.1 h with h | h
    · obtain ⟨h1, h2, h3⟩ := mem_dfO h; exact ⟨by omega, h2, h3⟩
    · obtain ⟨h1, h2, h3⟩ := mem_dfI h
      rw [← h1] at h2 h3
      exact ⟨by omega, h2, h3⟩
theorem lkO_some {O : Nat → ObjD} {m : Nat} {nm : ByteArray} {x : Nat × Nat} (h : lkO O m nm = some x) : x.1 < m ∧ x.2 < (O x.1).sM ∧ dfB (symA O x) = true ∧ (symA O x).nm = nm := by
  have h1 := mem_dfO (List.mem_of_find?_eq_some h)
  have h2 := List.find?_some h
  exact ⟨h1.1, h1.2.1, h1.2.2, of_decide_eq_true h2⟩
theorem lkO_iff {O : Nat → ObjD} {m : Nat} {nm : ByteArray} : (lkO O m nm).isSome = hasN (allN O (dfO O m)) nm := by
  rw [Bool.eq_iff_iff, hasN_iff, mem_allN]
  unfold lkO
  rw [List.find?_isSome]
  exact ⟨fun ⟨x, hx, e⟩ => ⟨x, hx, of_decide_eq_true e⟩, fun ⟨x, hx, e⟩ => ⟨x, hx, decide_eq_true e⟩⟩
/-- the names told -/
structure SA (w : World) (NS : List ByteArray) (v : Value) (W : World) : Prop where
  rn : W.ownsRow w.heap.size 9 1 v NS.length (NS.map Value.string)
  bl : Below w.heap.size w W
theorem SA.next {w W W' : World} {NS : List ByteArray} {v : Value} (h : SA w NS v W) (hb : Below W.heap.size W W') : SA w NS v W' := by
  refine ⟨?_, h.bl.trans (hb.mono h.bl.size)⟩
  exact h.rn.kept (row := none) ⟨hb.os, hb.tape, hb.output, hb.size, fun k hk _ => hb.block k hk⟩ (by
    rcases h.rn.2 with ⟨e, _⟩ | ⟨g, cap, cur, e, _⟩
    · left; rw [e]; rfl
    · right; rw [e]; simp [Value.ownBlock])
set_option maxRecDepth 200000 in
set_option maxHeartbeats 8000000 in
theorem alls_any (A : Option Addr) (m c : Nat) (O : Nat → ObjD) (nm : ByteArray) (w : World) (hR : ObjR w w.heap.size A m O) (hNm : ∀ x, (symA O x).nm.size ≤ maxLen) (hz : nm.size ≤ maxLen) :
    Calls Try.prog 4 #[.slice A m c, .string nm] w fun e W' => e = .returned (.bool true) ∧ Below w.heap.size w W' := by
  have hm := hR.len
  have hmm : maxLen = 9223372036854775807 := by simp [maxLen]
  have H := Lib.hid hR
  have HNM := Lib.hid hNm
  have hz' : nm.size ≤ 9223372036854775807 := by omega
  clear hR hNm
  go_enter Try.func4, Try.ntmps4
  go_wp2_with fail
  refine (large_any A m c O _ w H.out HNM.out).mono ?_
  rintro e w' ⟨b, rfl, hb, rfl⟩
  have hcase : b = true ∨ (b = false ∧ (65536 : Int) < (nm.size : Int)) ∨ (b = false ∧ (nm.size : Int) ≤ 65536) := by
    cases b
    · by_cases h : (65536 : Int) < (nm.size : Int)
      · exact .inr (.inl ⟨rfl, h⟩)
      · exact .inr (.inr ⟨rfl, by omega⟩)
    · exact .inl rfl
  rcases hcase with rfl | ⟨rfl, hsz⟩ | ⟨rfl, hsz⟩
  · clear hb
    go_wp2_with fail
    refine (works_any _).mono ?_
    rintro e w3 ⟨rfl, hb⟩
    have G3 := Lib.hid hb
    clear hb
    go_wp2_with fail
    go_ret
    exact ⟨rfl, G3.out⟩
  · clear hb
    go_wp2_with fail
    refine (works_any _).mono ?_
    rintro e w3 ⟨rfl, hb⟩
    have G3 := Lib.hid hb
    clear hb
    go_wp2_with fail
    go_ret
    exact ⟨rfl, G3.out⟩
  · have hlg := hb.out rfl
    have HLG := Lib.hid hlg
    have hm3 : m ≤ 300 := by omega
    have hszd : decide ((65536 : Int) < (nm.size : Int)) = false := by simp; omega
    have hszd' : ¬ (65536 : Int) < (nm.size : Int) := by omega
    clear hb hlg
    go_wp2_with fail
    refine (all_any A m c O w H.out HNM.out (by have := dfO_len O m; have := HLG.out; omega)).mono ?_
    obtain ⟨NS, hNS⟩ : ∃ NS, NS = allN O (dfO O m) := ⟨_, rfl⟩
    rw [← hNS]
    rintro e w1 ⟨v, rfl, hown, bl1⟩
    have HNS := Lib.hid hNS
    obtain ⟨L, hL⟩ : ∃ L, L = NS.length := ⟨_, rfl⟩
    have hL3 : L ≤ 300 := by rw [hL, hNS]; have := allN_le O (dfO O m); have := dfO_len O m; have := HLG.out; omega
    have HLL := Lib.hid hL
    obtain ⟨AN, cN, rfl⟩ := ownsRow_val hown
    have S0 : Hid (SA w NS (.slice AN NS.length cN) w1) := ⟨hown, bl1⟩
    rw [← hL] at S0 ⊢
    clear hown bl1 hNS hL
    go_wp2_with fail
    go_loopw [6, 7] (fun v6 v7 wr => ∃ i : Nat, i ≤ L ∧ v7 = .int .i64 i ∧ (∃ t : Bool, v6 = .bool t ∧ Hid (t = hasN (NS.take i) nm)) ∧ Hid (SA w NS (.slice AN L cN) wr)) (fun _ v7 _ => L - (intOf v7).toNat)
    case atStart => exact ⟨0, Nat.zero_le _, rfl, ⟨false, rfl, Lib.hid (by simp [hasN])⟩, S0⟩
    case round =>
      obtain ⟨i, hi, rfl, ⟨t, rfl, ht⟩, sa⟩ := hrel
      by_cases hiL : i < L
      · have e1 : decide ((i : Int) < (L : Int)) = true := by simp; omega
        have hiN : i < NS.length := by have := HLL.out; omega
        obtain ⟨a, ha⟩ : ∃ a, a = NS[i]'hiN := ⟨_, rfl⟩
        have hlk : ∃ x, lkO O m a = some x := by
          have : (lkO O m a).isSome = true := by rw [lkO_iff, hasN_iff, ← HNS.out, ha]; exact List.getElem_mem hiN
          exact Option.isSome_iff_exists.1 this
        obtain ⟨⟨o, s⟩, hlk⟩ := hlk
        obtain ⟨ho, hs, hdf, hnm⟩ := lkO_some hlk
        dsimp only at ho hs
        have HLK := Lib.hid hlk
        have rn := sa.out.rn
        rw [← HLL.out] at rn
        obtain ⟨L', hL'⟩ : ∃ L', L' + 1 = L := ⟨L - 1, by omega⟩
        obtain ⟨gN, cN2, hAN, _, hgN, _⟩ := owns_succ (k := L') (by rw [hL']; exact rn)
        rw [hL'] at hAN
        have hAN1 : AN = some ⟨gN, 0, none⟩ := (Value.slice.inj hAN).1
        clear hAN
        subst hAN1
        have hca : wr.cell? ⟨gN, i, none⟩ = some (.string a) := by rw [rn.cellAt i (by omega), ha]; simp [hiN]
        have hall : Hid (∀ k b, k < L → wr.cell? ⟨gN, k, none⟩ = some (.string b) → True) := Lib.hid (fun _ _ _ _ => trivial)
        obtain ⟨ad, rfl, had, _, _, _, _, _, _, _, _, _, c9, _⟩ := (H.out.below sa.out.bl).cells ho
        have hsl := (H.out.sy o ho).2
        have hsy := ((H.out.below sa.out.bl).sy o ho).1
        obtain ⟨l, hl⟩ : ∃ l, l = (O o).sM := ⟨_, rfl⟩
        obtain ⟨x0, hx0⟩ : ∃ l, l = (O o).sA := ⟨_, rfl⟩
        obtain ⟨x1, hx1⟩ : ∃ l, l = (O o).sQ := ⟨_, rfl⟩
        rw [← hl, ← hx0, ← hx1] at c9
        rw [← hl] at hsl hs
        rw [← hl, ← hx0] at hsy
        obtain ⟨ads, hads, has, g0, g1, g2, g3, g4⟩ := sym_cells hsy hs
        have hdf2 : dfB ((O o).sy s) = true := hdf
        have hnm2 : ((O o).sy s).nm = a := hnm
        obtain ⟨sd, hsd⟩ : ∃ x, x = (O o).sy s := ⟨_, rfl⟩
        rw [← hsd] at g0 g1 g2 g3 g4 hdf2 hnm2
        obtain ⟨nm2, v2, sz2, bd2, df2⟩ := sd
        dsimp only at g0 g1 g2 g3 g4 hnm2
        obtain ⟨h5, h6⟩ : df2 = true ∧ bd2 ≠ 0 := by simpa [dfB] using hdf2
        subst h5
        subst hads
        have f1 : (bd2 == 0) = false := by simpa using h6
        have f2 : (nm2.toList != a.toList) = false := by rw [hnm2]; simp
        have f2' : (nm2.toList == a.toList) = true := by rw [hnm2]; simp
        have f3 : ¬ (o : Int) < 0 := by omega
        have f4 : ¬ (m : Int) ≤ (o : Int) := by omega
        have f4' : ¬ m ≤ o := by omega
        have f5 : ¬ (s : Int) < 0 := by omega
        have f6 : ¬ (l : Int) ≤ (s : Int) := by omega
        have f6' : ¬ l ≤ s := by omega
        have hL1 : i < L := hiL
        have HA := Lib.hid ha
        have lca := World.block_lt_of_cell? _ _ hca
        have lc9 := World.block_lt_of_cell? _ _ c9
        have lg0 := World.block_lt_of_cell? _ _ g0
        clear hlk hdf hnm hdf2 hnm2 hsd hsy hl hx0 hx1 ha rn hall h6
        go_wp2_with fail
        refine (lookup_any _ m c O a _ ((H.out.below sa.out.bl).more (by have := sa.out.bl.size; omega))).mono ?_
        rw [HLK.out, show lkV (some (o, s)) = .tuple #[.int .i64 (o : Int), .int .i64 (s : Int), .bool true] from rfl]
        rintro e w2 ⟨rfl, bl2⟩
        have sa2 := Lib.hid (sa.out.next bl2)
        have keep : ∀ b j v, b < wr.heap.size → wr.cell? ⟨b, j, none⟩ = some v → w2.cell? ⟨b, j, none⟩ = some v := fun b j v h1 h2 => (bl2.cell (p := ⟨b, j, none⟩) h1).trans h2
        have hca2 := keep _ _ _ lca hca
        have c92 := keep _ _ _ lc9 c9
        have g02 : w2.cell? (ads.add (s * 5)) = some (.string nm2) := (bl2.cell (p := ads.add (s * 5)) lg0).trans g0
        have g12 := keep _ _ _ lg0 g1
        have g22 := keep _ _ _ lg0 g2
        have g32 := keep _ _ _ lg0 g3
        have g42 := keep _ _ _ lg0 g4
        have lca2 := World.block_lt_of_cell? _ _ hca2
        clear keep hca c9 g0 g1 g2 g3 g4 lca lc9 lg0 bl2
        have sa3 : Hid (SA w NS (.slice (some ⟨gN, 0, none⟩) L cN) (w2.alloc (.cells #[.string nm2, .int .u64 v2, .int .u64 sz2, .int .u8 bd2, .bool true] 46))) := Lib.hid (sa2.out.next ((Below.refl _ _).alloc (Nat.le_refl _) _))
        go_wp2_with fail
        go_quiet (fail)
        go_wp2_with fail
        generalize hW3 : (w2.alloc (.cells #[.string nm2, .int .u64 v2, .int .u64 sz2, .int .u8 bd2, .bool true] 46)).drewN nq = W3
        have sa4 : Hid (SA w NS (.slice (some ⟨gN, 0, none⟩) L cN) W3) := by rw [← hW3]; exact Lib.hid (sa3.out.next (below_drewN (Below.refl _ _) _))
        clear hW3 sa3 sa2 hca2 c92 g02 g12 g22 g32 g42 lca2
        have hcell : ∀ k, (hk : k < NS.length) → W3.cell? ⟨gN, k, none⟩ = some (.string (NS[k]'hk)) := fun k hk => by
          have r := sa4.out.rn
          rw [← HLL.out] at r
          rw [r.cellAt k (by have := HLL.out; omega)]; simp [hk]
        have HCL := Lib.hid hcell
        have hci : W3.cell? ⟨gN, i, none⟩ = some (.string a) := by rw [HA.out]; exact hcell i hiN
        clear hcell
        go_loopw [12] (fun v12 wr => ∃ k q : Nat, k ≤ i ∧ v12 = .int .i64 k ∧ wr = W3.drewN q) (fun v12 _ => i - (intOf v12).toNat)
        case atStart => exact ⟨0, 0, Nat.zero_le _, rfl, rfl⟩
        case round =>
          obtain ⟨k, q, hk, rfl, rfl⟩ := hrel
          by_cases hki : k < i
          · have r1 : decide ((k : Int) < (i : Int)) = true := by simp; omega
            have hkN : k < NS.length := by omega
            obtain ⟨b, hb⟩ : ∃ b, b = NS[k]'hkN := ⟨_, rfl⟩
            have hck : W3.cell? ⟨gN, k, none⟩ = some (.string b) := by rw [hb]; exact HCL.out k hkN
            have hne : (b.toList == a.toList) = false := bytes_ne (by
              rw [hb, HA.out]
              intro e
              have hnd : NS.Nodup := by rw [HNS.out]; exact nodup_allN _ _
              exact (List.pairwise_iff_getElem.1 hnd) k i hkN hiN hki e)
            have r2 : (k : Int) < (L : Int) := by omega
            have r3 : (i : Int) < (L : Int) := by omega
            have r2' : k < L := by omega
            clear hb
            go_wp2_with fail
            go_quiet (fail)
            go_wp2_with fail
            go_roundw
            case rel => exact ⟨k + 1, _, by omega, by go_num, rfl⟩
            case measure => simp [intOf]; omega
          · have r1 : decide ((k : Int) < (i : Int)) = false := by simp; omega
            have sa5 : Hid (SA w NS (.slice (some ⟨gN, 0, none⟩) L cN) (W3.drewN q)) := Lib.hid (sa4.out.next (below_drewN (Below.refl _ _) _))
            have hstep : Hid (hasN (NS.take (i + 1)) nm = (t || decide (a = nm))) := by
              refine Lib.hid ?_
              rw [List.take_succ_eq_append_getElem hiN, ht.out, HA.out]
              unfold hasN
              rw [List.any_append]
              simp only [List.any_cons, List.any_nil, Bool.or_false]
            cases t
            · by_cases han : a = nm
              · have r4 : (a.toList == nm.toList) = true := by rw [han]; simp
                have hst2 : Hid (true = hasN (NS.take (i + 1)) nm) := Lib.hid (by rw [hstep.out, han]; simp)
                clear han
                go_wp2_with fail
                go_roundw
                case rel => exact ⟨i + 1, by omega, by go_num, ⟨true, rfl, hst2⟩, sa5⟩
                case measure => simp [intOf]; omega
              · have r4 : (a.toList == nm.toList) = false := bytes_ne han
                have hst2 : Hid (false = hasN (NS.take (i + 1)) nm) := Lib.hid (by rw [hstep.out, decide_eq_false han]; rfl)
                clear han
                go_wp2_with fail
                go_roundw
                case rel => exact ⟨i + 1, by omega, by go_num, ⟨false, rfl, hst2⟩, sa5⟩
                case measure => simp [intOf]; omega
            · have hst2 : Hid (true = hasN (NS.take (i + 1)) nm) := Lib.hid (by rw [hstep.out]; rfl)
              go_wp2_with fail
              go_roundw
              case rel => exact ⟨i + 1, by omega, by go_num, ⟨true, rfl, hst2⟩, sa5⟩
              case measure => simp [intOf]; omega
      · have e1 : decide ((i : Int) < (L : Int)) = false := by simp; omega
        have hend : Hid ((lkO O m nm).isSome = t) := by
          refine Lib.hid ?_
          rw [lkO_iff, ← HNS.out, ht.out, List.take_of_length_le (by have := HLL.out; omega)]
        go_wp2_with fail
        refine (lookup_any _ m c O nm _ ((H.out.below sa.out.bl).more (by have := sa.out.bl.size; omega))).mono ?_
        rcases hlk : lkO O m nm with _ | ⟨o, s⟩
        · have ht2 : t = false := by rw [← hend.out, hlk]; rfl
          subst ht2
          rw [show lkV none = .tuple #[.int .i64 0, .int .i64 0, .bool false] from rfl]
          rintro e w2 ⟨rfl, bl2⟩
          have BL2 := Lib.hid (sa.out.bl.trans (bl2.mono sa.out.bl.size))
          clear bl2 hlk
          go_wp2_with fail
          refine (works_any _).mono ?_
          rintro e w3 ⟨rfl, hb⟩
          have G3 := Lib.hid (BL2.out.trans (hb.mono BL2.out.size))
          clear hb
          go_wp2_with fail
          go_ret
          exact ⟨rfl, G3.out⟩
        · have ht2 : t = true := by rw [← hend.out, hlk]; rfl
          subst ht2
          rw [show lkV (some (o, s)) = .tuple #[.int .i64 (o : Int), .int .i64 (s : Int), .bool true] from rfl]
          rintro e w2 ⟨rfl, bl2⟩
          have BL2 := Lib.hid (sa.out.bl.trans (bl2.mono sa.out.bl.size))
          clear bl2 hlk
          go_wp2_with fail
          refine (works_any _).mono ?_
          rintro e w3 ⟨rfl, hb⟩
          have G3 := Lib.hid (BL2.out.trans (hb.mono BL2.out.size))
          clear hb
          go_wp2_with fail
          go_ret
          exact ⟨rfl, G3.out⟩
end Go.Proofs.Ytneleioiondapaa
