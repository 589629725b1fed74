import Derived.Test.YtaeccpoljenjmaaW6
namespace Go.Proofs.Ytaeccpoljenjmaa
open Go.RowKit Go.Hos
set_option linter.unusedVariables false

set_option maxHeartbeats 800000 in
theorem rmove_any (gx ga ca : Nat) (f p : Int) (T : Nat → Sl) (w : World) (h : RT w gx ga ca T) :
    Calls Try.prog 28 #[.pointer (some ⟨gx, 0, none⟩), .int .i64 f, .int .i64 p] w fun e w' => e = .returned (.int .i64 (moveE T f p)) ∧ RT w' gx ga ca (moveT T f p) ∧ w.grownBy w' (some ga) := by
  have H := Lib.hid h
  cases hf : okf T f
  · rw [moveT_no hf, moveE_no hf]
    have HF := Lib.hid (closeE_no hf)
    clear h hf
    go_enter Try.func28, Try.ntmps28
    go_wp2_with fail
    refine (rat_any gx ga ca f T _ H.out).mono ?_
    rw [HF.out]
    rintro e w1 ⟨rfl, hb⟩
    have H1 : Hid (RT w1 gx ga ca T) := H.out.next hb
    have G1 := Lib.hid (grown_of_below hb (some ga))
    clear hb
    rw [Sl.cs]
    go_wp2_with fail
    go_ret
    exact ⟨rfl, H1.out.next ((Below.refl _ _).alloc (Nat.le_refl _) _), G1.out.trans (grown_alloc _ _ _)⟩
  · obtain ⟨k, rfl, hk, hu⟩ := okf_yes hf
    have HF := Lib.hid (closeE_yes hf)
    clear h hu
    by_cases hp : p < 0 ∨ 65536 < p
    · rw [moveE_bad hf hp, moveT_bad hf hp]
      clear hf
      rcases hp with hp | hp
      · go_enter Try.func28, Try.ntmps28
        go_wp2_with fail
        refine (rat_any gx ga ca k T _ H.out).mono ?_
        rw [HF.out]
        rintro e w1 ⟨rfl, hb⟩
        have H1 : Hid (RT w1 gx ga ca T) := H.out.next hb
        have G1 := Lib.hid (grown_of_below hb (some ga))
        clear hb
        rw [Sl.cs]
        go_wp2_with fail
        go_ret
        exact ⟨rfl, H1.out.next ((Below.refl _ _).alloc (Nat.le_refl _) _), G1.out.trans (grown_alloc _ _ _)⟩
      · have hp0 : ¬ p < 0 := by omega
        go_enter Try.func28, Try.ntmps28
        go_wp2_with fail
        refine (rat_any gx ga ca k T _ H.out).mono ?_
        rw [HF.out]
        rintro e w1 ⟨rfl, hb⟩
        have H1 : Hid (RT w1 gx ga ca T) := H.out.next hb
        have G1 := Lib.hid (grown_of_below hb (some ga))
        clear hb
        rw [Sl.cs]
        go_wp2_with fail
        go_ret
        exact ⟨rfl, H1.out.next ((Below.refl _ _).alloc (Nat.le_refl _) _), G1.out.trans (grown_alloc _ _ _)⟩
    · rw [moveE_ok hf hp, moveT_ok hf hp]
      have hp0 : ¬ p < 0 := by omega
      have hp1 : ¬ 65536 < p := by omega
      clear hf hp
      go_enter Try.func28, Try.ntmps28
      go_wp2_with fail
      refine (rat_any gx ga ca k T _ H.out).mono ?_
      rw [HF.out]
      rintro e w1 ⟨rfl, hb⟩
      have H1 : Hid (RT w1 gx ga ca T) := H.out.next hb
      have G1 := Lib.hid (grown_of_below hb (some ga))
      obtain ⟨c1, c2, c3, c4⟩ := H1.out.sb.cells hk
      have hx := H1.out.get
      have lx := H1.out.hd.lt
      have la := H1.out.sb.lt
      have f3 := H1.out.sb.free (k * 4 + 2)
      clear hb c1 c2 c4
      rw [Sl.cs]
      go_wp2_with fail
      go_ret
      exact ⟨rfl, (H1.out.storeP hk p).next ((Below.refl _ _).alloc (Nat.le_refl _) _), (G1.out.trans (grown_set _ _ _ _)).trans (grown_alloc _ _ _)⟩

set_option maxHeartbeats 800000 in
theorem ropen_any (gx ga ca : Nat) (ino : Int) (cx : Bool) (T : Nat → Sl) (w : World) (h : RT w gx ga ca T) :
    Calls Try.prog 25 #[.pointer (some ⟨gx, 0, none⟩), .int .i64 ino, .bool cx] w fun e w' => e = .returned (.tuple #[.int .i64 (openN T ino), .int .i64 (openE T ino)]) ∧ RT w' gx ga ca (openT T ino cx) ∧ w.grownBy w' (some ga) := by
  have H := Lib.hid h
  by_cases hi : ino < 0
  · rw [openN, openE, openT, if_pos hi, if_pos hi, if_pos hi]
    clear h
    go_enter Try.func25, Try.ntmps25
    go_wp2_with fail
    go_ret2
    exact ⟨rfl, H.out, World.grownBy.refl _ _⟩
  · have hx := h.get
    have E : Hid (∀ k, ff T = k → k < 16 → openN T ino = k ∧ openE T ino = 0 ∧ openT T ino cx = upd T k ⟨true, ino, 0, cx⟩) := fun k hk hk16 => by
      unfold openN openE openT; rw [if_neg hi, if_neg hi, if_neg hi, if_pos (by omega), if_pos (by omega), if_pos (by omega), hk]; exact ⟨rfl, rfl, rfl⟩
    have E' : Hid (ff T = 16 → openN T ino = 0 ∧ openE T ino = 15 ∧ openT T ino cx = T) := fun hk => by
      unfold openN openE openT; rw [if_neg hi, if_neg hi, if_neg hi, if_neg (by omega), if_neg (by omega), if_neg (by omega)]; exact ⟨rfl, rfl, rfl⟩
    clear h
    go_enter Try.func25, Try.ntmps25
    go_wp2_with fail
    go_loop [8] (fun v => ∃ j : Nat, j ≤ 16 ∧ v = .int .i64 j ∧ Hid (∀ j', j' < j → (T j').u = true)) (fun v => 16 - (intOf v).toNat)
    case atStart => exact ⟨0, by omega, rfl, fun j hj => absurd hj (by omega)⟩
    case round =>
      obtain ⟨j, hj, rfl, hall⟩ := hrel
      by_cases hj3 : j < 16
      · obtain ⟨c1, c2, c3, c4⟩ := H.out.sb.cells hj3
        cases hu : (T j).u
        · have hff : ff T = j := ff_eq hj hall.out (fun _ => hu)
          have EE := Lib.hid (E.out j hff hj3)
          rw [hu] at c1
          have f1 := H.out.sb.free (j * 4); have f2 := H.out.sb.free (j * 4 + 1); have f3 := H.out.sb.free (j * 4 + 2); have f4 := H.out.sb.free (j * 4 + 3)
          clear hu hff
          go_wp2_with fail
          go_ret2
          refine ⟨by rw [EE.out.1, EE.out.2.1]; rfl, ?_, grown_set4 _ _ _ _ _ _ _ _ _ _⟩
          rw [EE.out.2.2]
          exact H.out.store hj3 ⟨true, ino, 0, cx⟩
        · rw [hu] at c1
          have hall' : Hid (∀ j', j' < j + 1 → (T j').u = true) := fun j' hj' => by
            by_cases e : j' = j
            · subst e; exact hu
            · exact hall.out j' (by omega)
          clear hu
          go_wp2_with fail
          go_round
          case rel => exact ⟨j + 1, by omega, by go_num, hall'⟩
          case measure => simp [intOf]; omega
      · obtain rfl : j = 16 := by omega
        have EE := Lib.hid (E'.out (ff_eq hj hall.out (fun h => absurd h (by omega))))
        rw [show ((16 : Nat) : Int) = 16 from rfl]
        clear hj3
        go_wp2_with fail
        go_ret2
        exact ⟨by rw [EE.out.1, EE.out.2.1]; rfl, by rw [EE.out.2.2]; exact H.out, World.grownBy.refl _ _⟩

set_option maxHeartbeats 800000 in
theorem rsweep_any (gx ga ca : Nat) (T : Nat → Sl) (w : World) (h : RT w gx ga ca T) :
    Calls Try.prog 29 #[.pointer (some ⟨gx, 0, none⟩)] w fun e w' => e = .returned (.tuple #[]) ∧ RT w' gx ga ca (sweepT T 16) ∧ w.grownBy w' (some ga) := by
  have s0 : Hid (RT w gx ga ca (sweepT T 0)) := by rw [sweepT_zero]; exact h
  clear h
  go_enter Try.func29, Try.ntmps29
  go_wp2_with fail
  go_loopw [2] (fun i wr => ∃ k : Nat, k ≤ 16 ∧ i = .int .i64 k ∧ Hid (RT wr gx ga ca (sweepT T k)) ∧ Hid (w.grownBy wr (some ga))) (fun i _ => 16 - (intOf i).toNat)
  case atStart => exact ⟨0, by omega, rfl, s0, World.grownBy.refl _ _⟩
  case round =>
    obtain ⟨k, hk, rfl, sk, gk⟩ := hrel
    have hx := sk.out.get
    by_cases hk3 : k < 16
    · have e0 : sweepT T k k = T k := by unfold sweepT; rw [if_neg (by omega)]
      obtain ⟨c1, c2, c3, c4⟩ := sk.out.sb.cells hk3
      have f1 := sk.out.sb.free (k * 4); have f2 := sk.out.sb.free (k * 4 + 1); have f3 := sk.out.sb.free (k * 4 + 2); have f4 := sk.out.sb.free (k * 4 + 3)
      rw [e0] at c1 c2 c3 c4
      clear e0
      cases hx : (T k).x
      · have s1 : Hid (RT wr gx ga ca (sweepT T (k + 1))) := by rw [sweepT_no T hx]; exact sk.out
        rw [hx] at c4
        clear hx
        go_wp2_with fail
        go_roundw
        case rel => exact ⟨k + 1, by omega, by go_num, s1, gk⟩
        case measure => simp [intOf]; omega
      · have s1 := Lib.hid (sk.out.store hk3 nosl)
        have g1 := Lib.hid (gk.out.trans (grown_set4 wr ga (k * 4) (k * 4 + 1) (k * 4 + 2) (k * 4 + 3) (.bool false) (.int .i64 0) (.int .i64 0) (.bool false)))
        have HX := Lib.hid hx
        rw [hx] at c4
        clear hx
        go_wp2_with fail
        go_roundw
        case rel => exact ⟨k + 1, by omega, by go_num, by rw [sweepT_yes T HX.out]; exact s1, g1⟩
        case measure => simp [intOf]; omega
    · obtain rfl : k = 16 := by omega
      rw [show ((16 : Nat) : Int) = 16 from rfl]
      go_wp2_with fail
      go_end0
      exact ⟨rfl, sk.out, gk.out⟩

set_option maxHeartbeats 800000 in
theorem rlist_any (gx ga ca : Nat) (T : Nat → Sl) (w : World) (h : RT w gx ga ca T) :
    Calls Try.prog 24 #[.pointer (some ⟨gx, 0, none⟩)] w fun e w' => ∃ g' c', e = .returned (.slice (some ⟨g', 0, none⟩) 16 c') ∧ w.heap.size ≤ g' ∧ SB w' g' 33 c' T ∧ Below w.heap.size w w' := by
  obtain ⟨i0, hi0, hz0, hz1, hz2⟩ := info_parts info33
  obtain ⟨news, hr, hd, ho⟩ := h.sb.reads
  have HR := Lib.hid hr; have HD := Lib.hid hd; have HO := Lib.hid ho
  have hx := h.get
  have hgl := h.sb.lt
  clear h hr hd ho
  go_enter Try.func24, Try.ntmps24
  go_wp2_with (at_builtin
               refine wpList_append_any _ rfl (.tmp 6) (.tmp 10) _ rfl w.heap.size 33 i0 _ 4 32 Try.underlying45 hi0 hz0 hz1 hz2 rfl (by omega) (.slice none 0 0) 0 [] rfl
                 (World.ownsRow_nil _ _ _ _) (ga + 1) _ 16 ca _ rfl HR.out HO.out (by simp only [maxLen]; omega) (by omega) (Nat.le_refl _) ?_
               intro v1 w1 hown1 hg1 hat1)
  obtain ⟨g', c', rfl, hg', hs'⟩ := SB.of_own (news := news) (by simpa using hown1) HD.out
  go_ret
  exact ⟨g', c', rfl, hg', hs', (Below.refl _ _).grown hg1 (Nat.le_refl _) (fun k hk => by simp [Value.ownBlock] at hk)⟩
set_option maxHeartbeats 800000 in
theorem rfork_any (gx ga ca : Nat) (T : Nat → Sl) (w : World) (h : RT w gx ga ca T) :
    Calls Try.prog 14 #[.pointer (some ⟨gx, 0, none⟩)] w fun e w' => ∃ gx' ga' ca', e = .returned (.pointer (some ⟨gx', 0, none⟩)) ∧ w.heap.size ≤ gx' ∧ w.heap.size ≤ ga' ∧ RT w' gx' ga' ca' T ∧ Below w.heap.size w w' := by
  have H := Lib.hid h
  clear h
  go_enter Try.func14, Try.ntmps14
  go_wp2_with fail
  refine (rlist_any gx ga ca T _ H.out).mono ?_
  rintro e w1 ⟨g', c', rfl, hg, hs, hb⟩
  have HS : Hid (w.heap.size ≤ g' ∧ SB w1 g' 33 c' T ∧ Below w.heap.size w w1) := ⟨hg, hs, hb⟩
  clear hg hs hb
  go_wp2_with fail
  go_ret
  obtain ⟨q1, q2, q3⟩ := HS.out
  exact ⟨_, g', c', rfl, q3.size, q1, ⟨Blk.new _ _ _, q2.next ((Below.refl _ _).alloc (Nat.le_refl _) _)⟩, q3.alloc q3.size _⟩
def z64 : Array Value := #[.bool false, .int .i64 0, .int .i64 0, .bool false, .bool false, .int .i64 0, .int .i64 0, .bool false, .bool false, .int .i64 0, .int .i64 0, .bool false, .bool false, .int .i64 0, .int .i64 0, .bool false, .bool false, .int .i64 0, .int .i64 0, .bool false, .bool false, .int .i64 0, .int .i64 0, .bool false, .bool false, .int .i64 0, .int .i64 0, .bool false, .bool false, .int .i64 0, .int .i64 0, .bool false, .bool false, .int .i64 0, .int .i64 0, .bool false, .bool false, .int .i64 0, .int .i64 0, .bool false, .bool false, .int .i64 0, .int .i64 0, .bool false, .bool false, .int .i64 0, .int .i64 0, .bool false, .bool false, .int .i64 0, .int .i64 0, .bool false, .bool false, .int .i64 0, .int .i64 0, .bool false, .bool false, .int .i64 0, .int .i64 0, .bool false, .bool false, .int .i64 0, .int .i64 0, .bool false]
set_option maxRecDepth 20000 in
set_option maxHeartbeats 800000 in
theorem rnew_any (w : World) : Calls Try.prog 12 #[] w fun e w' => ∃ gx ga ca, e = .returned (.pointer (some ⟨gx, 0, none⟩)) ∧ w.heap.size ≤ gx ∧ w.heap.size ≤ ga ∧ RT w' gx ga ca emptyT ∧ Below w.heap.size w w' := by
  have hmk : ∀ w, Sem.run Try.prog (Instr.makeSlice 45 (.int .i64 16) (.int .i64 16)) w = .ok (.slice (some ⟨w.heap.size, 0, none⟩) 16 16) (w.alloc (.cells z64 33)) := fun w => by kernel_rfl
  go_enter Try.func12, Try.ntmps12
  go_wp2_with fail
  go_ret
  exact ⟨_, _, _, rfl, by simp, Nat.le_refl _, ⟨blk_at _ _ (by simp), ⟨⟨z64, (Blk.new _ _ _).alloc _, rfl, rd_zero⟩, Nat.le_refl _⟩⟩, ((Below.refl _ _).alloc (Nat.le_refl _) _).alloc (by simp) _⟩
end Go.Proofs.Ytaeccpoljenjmaa
