import Derived.Test.YtaeccpoljenjmaaW1
namespace Go.Proofs.Ytaeccpoljenjmaa
open Go.RowKit Go.Hos
set_option linter.unusedVariables false

/-! the program's table: Open, Sweep, List -/
set_option maxHeartbeats 800000 in
theorem free_any (s : Sl) (w : World) : Calls Try.prog 23 #[.agg s.cs] w fun e w' => e = .returned (.bool (!s.u)) ∧ Below w.heap.size w w' := by
  rw [Sl.cs]
  go_enter Try.func23, Try.ntmps23
  go_wp2_with fail
  go_ret
  exact ⟨rfl, (Below.refl _ _).alloc (Nat.le_refl _) _⟩

def ffI (T : Nat → Sl) : Int := if ff T < 16 then (ff T : Int) else -1
set_option maxHeartbeats 800000 in
theorem index_any (g : Nat) (T : Nat → Sl) (w : World) (h : SB w g 50 16 T) :
    Calls Try.prog 22 #[.slice (some ⟨g, 0, none⟩) 16 16, .func (.func 23) #[] #[]] w fun e w' => e = .returned (.int .i64 (ffI T)) ∧ Below w.heap.size w w' := by
  have H := Lib.hid h
  have hgl := h.lt
  clear h
  go_enter Try.func22, Try.ntmps22
  go_wp2_with fail
  go_loopw [8] (fun i wr => ∃ k : Nat, k ≤ 16 ∧ i = .int .i64 k ∧ Hid (∀ j, j < k → (T j).u = true) ∧ Hid (Below w.heap.size w wr)) (fun i _ => 16 - (intOf i).toNat)
  case atStart => exact ⟨0, by omega, rfl, fun j hj => absurd hj (by omega), Below.refl _ _⟩
  case round =>
    obtain ⟨k, hk, rfl, hall, hb⟩ := hrel
    by_cases hk3 : k < 16
    · obtain ⟨c1, c2, c3, c4⟩ := (H.out.below hb.out hgl).cells hk3
      go_wp2_with fail
      refine (free_any (T k) _).mono ?_
      rintro e w1 ⟨rfl, hb1⟩
      have B1 : Hid (Below w.heap.size w w1) := hb.out.trans (hb1.mono hb.out.size)
      cases hu : (T k).u
      · have e : Hid (ffI T = k) := by
          have : ff T = k := ff_eq (by omega) hall.out (fun _ => hu)
          show ffI T = k
          simp [ffI, this, hk3]
        clear hu hb1
        go_wp2_with fail
        go_ret
        exact ⟨by rw [e.out]; rfl, B1.out⟩
      · have hall' : Hid (∀ j, j < k + 1 → (T j).u = true) := fun j hj => by
          by_cases e : j = k
          · subst e; exact hu
          · exact hall.out j (by omega)
        clear hu hb1 c1 c2 c3 c4
        go_wp2_with fail
        go_roundw
        case rel => exact ⟨k + 1, by omega, by go_num, hall', B1⟩
        case measure => simp [intOf]; omega
    · obtain rfl : k = 16 := by omega
      have e : Hid (ffI T = -1) := by
        have : ff T = 16 := ff_eq (by omega) hall.out (fun h => absurd h (by omega))
        show ffI T = -1
        simp [ffI, this]
      rw [show ((16 : Nat) : Int) = 16 from rfl]
      go_wp2_with fail
      go_ret
      exact ⟨by rw [e.out]; rfl, hb.out⟩

set_option maxHeartbeats 800000 in
theorem open_any (g : Nat) (T : Nat → Sl) (ino : Int) (cx : Bool) (w : World) (h : SB w g 50 16 T) :
    Calls Try.prog 9 #[.pointer (some ⟨g, 0, none⟩), .int .i64 ino, .bool cx] w fun e w' => e = .returned (.tuple #[.int .i64 (openN T ino), .int .i64 (openE T ino)]) ∧ SB w' g 50 16 (openT T ino cx) ∧ w.grownBy w' (some g) := by
  have H := Lib.hid h
  clear h
  by_cases hi : ino < 0
  · rw [openN, openE, openT, if_pos hi, if_pos hi, if_pos hi]
    go_enter Try.func9, Try.ntmps9
    go_wp2_with fail
    go_ret2
    exact ⟨rfl, H.out, World.grownBy.refl _ _⟩
  · obtain ⟨v, hv⟩ : ∃ v, v = ffI T := ⟨_, rfl⟩
    by_cases hf : ff T < 16
    · obtain ⟨k, hk⟩ : ∃ k, k = ff T := ⟨_, rfl⟩
      have hk16 : k < 16 := by omega
      have hvk : v = (k : Int) := by rw [hv, ffI, if_pos hf, hk]
      rw [openN, openE, openT, if_neg hi, if_neg hi, if_neg hi, if_pos hf, if_pos hf, if_pos hf, ← hk]
      subst hvk
      have HV := Lib.hid hv
      clear hv hf hk
      go_enter Try.func9, Try.ntmps9
      go_wp2_with fail
      refine (index_any g T _ H.out).mono ?_
      rw [← HV.out]
      rintro e w1 ⟨rfl, hb1⟩
      have H1 : Hid (SB w1 g 50 16 T) := H.out.next hb1
      have G1 := Lib.hid (grown_of_below hb1 (some g))
      obtain ⟨c1, c2, c3, c4⟩ := H1.out.cells hk16
      have f1 := H1.out.free (k * 4); have f2 := H1.out.free (k * 4 + 1); have f3 := H1.out.free (k * 4 + 2); have f4 := H1.out.free (k * 4 + 3)
      clear hb1
      go_wp2_with fail
      go_ret2
      exact ⟨rfl, H1.out.store hk16 ⟨true, ino, 0, cx⟩, G1.out.trans (grown_set4 _ _ _ _ _ _ _ _ _ _)⟩
    · have hvk : v = -1 := by rw [hv, ffI, if_neg hf]
      rw [openN, openE, openT, if_neg hi, if_neg hi, if_neg hi, if_neg hf, if_neg hf, if_neg hf]
      subst hvk
      have HV := Lib.hid hv
      clear hv hf
      go_enter Try.func9, Try.ntmps9
      go_wp2_with fail
      refine (index_any g T _ H.out).mono ?_
      rw [← HV.out]
      rintro e w1 ⟨rfl, hb1⟩
      have H1 : Hid (SB w1 g 50 16 T) := H.out.next hb1
      have G1 := Lib.hid (grown_of_below hb1 (some g))
      clear hb1
      go_wp2_with fail
      go_ret2
      exact ⟨rfl, H1.out, G1.out⟩
set_option maxHeartbeats 800000 in
theorem open_nil (ino : Int) (cx : Bool) (w : World) : Calls Try.prog 9 #[.pointer none, .int .i64 ino, .bool cx] w fun e w' => e = .returned (.tuple #[.int .i64 0, .int .i64 2]) ∧ w = w' := by
  go_enter Try.func9, Try.ntmps9
  go_wp2_with fail
  go_ret2
  exact ⟨rfl, rfl⟩

theorem size33 : (Try.prog.info? 33).map (·.size) = some 4 := by kernel_rfl
theorem extract_slot {cs : Array Value} {T : Nat → Sl} (hr : RD cs T) {k : Nat} (hk : k < 16) (hs : 64 ≤ cs.size) : cs.extract (k * 4) (k * 4 + 4) = #[.bool (T k).u, .int .i64 (T k).i, .int .i64 (T k).p, .bool (T k).x] := by
  obtain ⟨h1, h2, h3, h4⟩ := hr k hk
  apply Array.ext_getElem?
  intro i
  rw [Array.getElem?_extract]
  rcases i with _ | _ | _ | _ | i
  · rw [if_pos (by omega)]; exact h1
  · rw [if_pos (by omega)]; exact h2
  · rw [if_pos (by omega)]; exact h3
  · rw [if_pos (by omega)]; exact h4
  · rw [if_neg (by omega)]; rfl
theorem run_index48 {cs : Array Value} {T : Nat → Sl} (hr : RD cs T) {k : Nat} (hk : k < 16) (hs : 64 ≤ cs.size) (w : World) :
    Sem.run Try.prog (Instr.index 48 (.agg cs) (.int .i64 k)) w = .ok (.agg #[.bool (T k).u, .int .i64 (T k).i, .int .i64 (T k).p, .bool (T k).x]) w := by
  have hi := size33
  cases hq : Try.prog.info? 33 with
  | none => simp [hq] at hi
  | some i =>
    have hsz : i.size = 4 := by simpa [hq] using hi
    simp [Instr.index, asIntOf, run_underlying Try.underlying48, run_underlying Try.underlying33, part, isAgg, sizeOf, typeInfo, hq, hsz, extract_slot hr hk hs]
    intro h; omega

set_option maxHeartbeats 800000 in
theorem sweep_nil (w : World) : Calls Try.prog 19 #[.pointer none] w fun e w' => e = .returned (.tuple #[]) ∧ w = w' := by
  go_enter Try.func19, Try.ntmps19
  go_wp2_with fail
  exact bodyPost_ret (v := .tuple #[]) (by simp [results, Try.results19, go_sem]) rfl ⟨rfl, rfl⟩
set_option maxRecDepth 20000 in
set_option maxHeartbeats 1600000 in
theorem sweep_any (g : Nat) (T : Nat → Sl) (w : World) (h : SB w g 50 16 T) :
    Calls Try.prog 19 #[.pointer (some ⟨g, 0, none⟩)] w fun e w' => e = .returned (.tuple #[]) ∧ SB w' g 50 16 (sweepT T 16) ∧ w.grownBy w' (some g) := by
  obtain ⟨cs, hb, hs, hr⟩ := h.ex
  have HB : Hid (Blk w g 50 cs) := hb
  have hi : Hid ((Try.prog.info? 48).map (·.size) = some cs.size) := by rw [size50, hs]; rfl
  have HS : Hid (cs.size = 64) := hs
  have HR := Lib.hid hr
  have s0 : Hid (SB w g 50 16 (sweepT T 0)) := by rw [sweepT_zero]; exact h
  clear h hb hs hr
  go_enter Try.func19, Try.ntmps19
  go_wp2_with (refine wpList_load_row rfl 48 _ rfl g rfl 50 cs (0, 0) _ HB.out Try.underlying48 rfl hi.out ?_)
  go_loopw [10] (fun i wr => ∃ k : Nat, k ≤ 16 ∧ i = .int .i64 k ∧ Hid (SB wr g 50 16 (sweepT T k)) ∧ Hid (w.grownBy wr (some g))) (fun i _ => 16 - (intOf i).toNat)
  case atStart => exact ⟨0, by omega, rfl, s0, World.grownBy.refl _ _⟩
  case round =>
    obtain ⟨k, hk, rfl, sk, gk⟩ := hrel
    by_cases hk3 : k < 16
    · have hix := run_index48 HR.out hk3 (by have := HS.out; omega)
      have hgl := sk.out.lt
      obtain ⟨c1, c2, c3, c4⟩ := sk.out.cells hk3
      have f1 := sk.out.free (k * 4); have f2 := sk.out.free (k * 4 + 1); have f3 := sk.out.free (k * 4 + 2); have f4 := sk.out.free (k * 4 + 3)
      cases hx : (T k).x
      · have s1 : Hid (SB (wr.alloc (.cells #[.bool (T k).u, .int .i64 (T k).i, .int .i64 (T k).p, .bool false] 33)) g 50 16 (sweepT T (k + 1))) := by rw [sweepT_no T hx]; exact sk.out.next ((Below.refl _ _).alloc (Nat.le_refl _) _)
        have g1 : Hid (w.grownBy (wr.alloc (.cells #[.bool (T k).u, .int .i64 (T k).i, .int .i64 (T k).p, .bool false] 33)) (some g)) := gk.out.trans (grown_alloc _ _ _)
        go_wp2_with fail
        go_roundw
        case rel => exact ⟨k + 1, by omega, by go_num, s1, g1⟩
        case measure => simp [intOf]; omega
      · have s1 := Lib.hid ((sk.out.store hk3 nosl).next ((Below.refl _ _).alloc (Nat.le_refl _) (.cells #[.bool (T k).u, .int .i64 (T k).i, .int .i64 (T k).p, .bool true] 33)))
        have g1 := Lib.hid ((gk.out.trans (grown_set4 _ g (k * 4) (k * 4 + 1) (k * 4 + 2) (k * 4 + 3) (.bool false) (.int .i64 0) (.int .i64 0) (.bool false))).trans (grown_alloc _ (.cells #[.bool (T k).u, .int .i64 (T k).i, .int .i64 (T k).p, .bool true] 33) _))
        have HX := Lib.hid hx
        go_wp2_with fail
        go_roundw
        case rel => exact ⟨k + 1, by omega, by go_num, by rw [sweepT_yes T HX.out]; exact s1, g1⟩
        case measure => simp [intOf]; omega
    · obtain rfl : k = 16 := by omega
      rw [show ((16 : Nat) : Int) = 16 from rfl]
      go_wp2_with fail
      go_end0
      exact ⟨rfl, sk.out, gk.out⟩
end Go.Proofs.Ytaeccpoljenjmaa
