import Derived.Test.YtaeccpoljenjmaaS1
import Derived.Test.YtaeccpoljenjmaaProg
import Derived.WalkKit
import Derived.IntWalk
import Derived.Outline
namespace Go.Proofs.Ytaeccpoljenjmaa
open Go.RowKit Go.Hos
set_option linter.unusedVariables false

/-! the program's table: slot, Close, At, Move -/
set_option maxHeartbeats 800000 in
theorem slot_ok (g k : Nat) (T : Nat → Sl) (w : World) (h : SB w g 50 16 T) (hk : k < 16) (hu : (T k).u = true) :
    Calls Try.prog 21 #[.pointer (some ⟨g, 0, none⟩), .int .i64 k] w fun e w' => e = .returned (.tuple #[.pointer (some ⟨g, k * 4, none⟩), .int .i64 0]) ∧ w = w' := by
  obtain ⟨hc, _⟩ := h.cells hk
  rw [hu] at hc
  clear h hu
  go_enter Try.func21, Try.ntmps21
  go_wp2_with fail
  go_ret2
  exact ⟨rfl, rfl⟩
set_option maxHeartbeats 800000 in
theorem slot_no (g : Nat) (f : Int) (T : Nat → Sl) (w : World) (h : SB w g 50 16 T) (hf : okf T f = false) :
    Calls Try.prog 21 #[.pointer (some ⟨g, 0, none⟩), .int .i64 f] w fun e w' => e = .returned (.tuple #[.pointer none, .int .i64 14]) ∧ w = w' := by
  rcases okf_no hf with h0 | h1 | ⟨k, rfl, hk, hu⟩
  · clear h hf
    go_enter Try.func21, Try.ntmps21
    go_wp2_with fail
    go_ret2
    exact ⟨rfl, rfl⟩
  · have h0 : ¬ f < 0 := by omega
    clear h hf
    go_enter Try.func21, Try.ntmps21
    go_wp2_with fail
    go_ret2
    exact ⟨rfl, rfl⟩
  · obtain ⟨hc, _⟩ := h.cells hk
    rw [hu] at hc
    clear h hu hf
    go_enter Try.func21, Try.ntmps21
    go_wp2_with fail
    go_ret2
    exact ⟨rfl, rfl⟩
set_option maxHeartbeats 800000 in
theorem slot_nil (f : Int) (w : World) : Calls Try.prog 21 #[.pointer none, .int .i64 f] w fun e w' => e = .returned (.tuple #[.pointer none, .int .i64 2]) ∧ w = w' := by
  go_enter Try.func21, Try.ntmps21
  go_wp2_with fail
  go_ret2
  exact ⟨rfl, rfl⟩

set_option maxHeartbeats 800000 in
theorem close_any (g : Nat) (f : Int) (T : Nat → Sl) (w : World) (h : SB w g 50 16 T) :
    Calls Try.prog 8 #[.pointer (some ⟨g, 0, none⟩), .int .i64 f] w fun e w' => e = .returned (.int .i64 (closeE T f)) ∧ SB w' g 50 16 (closeT T f) ∧ w.grownBy w' (some g) := by
  cases hf : okf T f
  · rw [closeE_no hf, closeT_no hf]
    have H := Lib.hid h; have HF := Lib.hid hf
    clear h hf
    go_enter Try.func8, Try.ntmps8
    go_wp2_with fail
    refine (slot_no g f T _ H.out HF.out).mono ?_
    rintro e w' ⟨rfl, rfl⟩
    go_wp2_with fail
    go_ret
    exact ⟨rfl, H.out, World.grownBy.refl _ _⟩
  · obtain ⟨k, rfl, hk, hu⟩ := okf_yes hf
    rw [closeE_yes hf, closeT_yes hf]
    have H := Lib.hid h; have HF := Lib.hid hu
    obtain ⟨c1, c2, c3, c4⟩ := h.cells hk
    have f1 := h.free (k * 4); have f2 := h.free (k * 4 + 1); have f3 := h.free (k * 4 + 2); have f4 := h.free (k * 4 + 3)
    clear h hf hu
    go_enter Try.func8, Try.ntmps8
    go_wp2_with fail
    refine (slot_ok g k T _ H.out hk HF.out).mono ?_
    rintro e w' ⟨rfl, rfl⟩
    go_wp2_with fail
    go_ret
    exact ⟨rfl, H.out.store hk nosl, grown_set4 _ _ _ _ _ _ _ _ _ _⟩
set_option maxHeartbeats 800000 in
theorem close_nil (f : Int) (w : World) : Calls Try.prog 8 #[.pointer none, .int .i64 f] w fun e w' => e = .returned (.int .i64 2) ∧ w = w' := by
  go_enter Try.func8, Try.ntmps8
  go_wp2_with fail
  refine (slot_nil f _).mono ?_
  rintro e w' ⟨rfl, rfl⟩
  go_wp2_with fail
  go_ret
  exact ⟨rfl, rfl⟩

set_option maxHeartbeats 800000 in
theorem at_any (g : Nat) (f : Int) (T : Nat → Sl) (w : World) (h : SB w g 50 16 T) :
    Calls Try.prog 10 #[.pointer (some ⟨g, 0, none⟩), .int .i64 f] w fun e w' => e = .returned (.tuple #[.agg (atV T f).cs, .int .i64 (closeE T f)]) ∧ Below w.heap.size w w' := by
  cases hf : okf T f
  · rw [closeE_no hf, atV_no hf]
    have H := Lib.hid (h.next ((Below.refl _ _).alloc (Nat.le_refl _) (.cells #[.bool false, .int .i64 0, .int .i64 0, .bool false] 33))); have HF := Lib.hid hf
    clear h hf
    go_enter Try.func10, Try.ntmps10
    go_wp2_with fail
    refine (slot_no g f T _ H.out HF.out).mono ?_
    rintro e w' ⟨rfl, rfl⟩
    go_wp2_with fail
    exact bodyPost_ret (v := .tuple #[.agg nosl.cs, .int .i64 14]) (by simp [results, Try.results10, go_sem]; rfl) rfl ⟨rfl, (Below.refl _ _).alloc (Nat.le_refl _) _⟩
  · obtain ⟨k, rfl, hk, hu⟩ := okf_yes hf
    rw [closeE_yes hf, atV_yes hf]
    have H := Lib.hid (h.next ((Below.refl _ _).alloc (Nat.le_refl _) (.cells #[.bool false, .int .i64 0, .int .i64 0, .bool false] 33))); have HF := Lib.hid hu
    obtain ⟨c1, c2, c3, c4⟩ := H.out.cells hk
    have hgl := h.lt
    clear h hf hu
    go_enter Try.func10, Try.ntmps10
    go_wp2_with fail
    refine (slot_ok g k T _ H.out hk HF.out).mono ?_
    rintro e w' ⟨rfl, rfl⟩
    go_wp2_with fail
    exact bodyPost_ret (v := .tuple #[.agg (T k).cs, .int .i64 0]) (by simp [results, Try.results10, go_sem]; rfl) rfl ⟨rfl, (Below.refl _ _).alloc (Nat.le_refl _) _⟩
set_option maxHeartbeats 800000 in
theorem at_nil (f : Int) (w : World) : Calls Try.prog 10 #[.pointer none, .int .i64 f] w fun e w' => e = .returned (.tuple #[.agg nosl.cs, .int .i64 2]) ∧ Below w.heap.size w w' := by
  go_enter Try.func10, Try.ntmps10
  go_wp2_with fail
  refine (slot_nil f _).mono ?_
  rintro e w' ⟨rfl, rfl⟩
  go_wp2_with fail
  exact bodyPost_ret (v := .tuple #[.agg nosl.cs, .int .i64 2]) (by simp [results, Try.results10, go_sem]; rfl) rfl ⟨rfl, (Below.refl _ _).alloc (Nat.le_refl _) _⟩

set_option maxHeartbeats 800000 in
theorem move_any (g : Nat) (f p : Int) (T : Nat → Sl) (w : World) (h : SB w g 50 16 T) :
    Calls Try.prog 17 #[.pointer (some ⟨g, 0, none⟩), .int .i64 f, .int .i64 p] w fun e w' => e = .returned (.int .i64 (moveE T f p)) ∧ SB w' g 50 16 (moveT T f p) ∧ w.grownBy w' (some g) := by
  cases hf : okf T f
  · rw [moveE_no hf, moveT_no hf]
    have H := Lib.hid h; have HF := Lib.hid hf
    clear h hf
    go_enter Try.func17, Try.ntmps17
    go_wp2_with fail
    refine (slot_no g f T _ H.out HF.out).mono ?_
    rintro e w' ⟨rfl, rfl⟩
    go_wp2_with fail
    go_ret
    exact ⟨rfl, H.out, World.grownBy.refl _ _⟩
  · obtain ⟨k, rfl, hk, hu⟩ := okf_yes hf
    have H := Lib.hid h; have HF := Lib.hid hu
    obtain ⟨c1, c2, c3, c4⟩ := h.cells hk
    have f3 := h.free (k * 4 + 2)
    clear h hu c1 c2 c4
    by_cases hp : p < 0 ∨ 65536 < p
    · rw [moveE_bad hf hp, moveT_bad hf hp]
      clear hf
      rcases hp with hp | hp
      · go_enter Try.func17, Try.ntmps17
        go_wp2_with fail
        refine (slot_ok g k T _ H.out hk HF.out).mono ?_
        rintro e w' ⟨rfl, rfl⟩
        go_wp2_with fail
        go_ret
        exact ⟨rfl, H.out, World.grownBy.refl _ _⟩
      · have hp0 : ¬ p < 0 := by omega
        go_enter Try.func17, Try.ntmps17
        go_wp2_with fail
        refine (slot_ok g k T _ H.out hk HF.out).mono ?_
        rintro e w' ⟨rfl, rfl⟩
        go_wp2_with fail
        go_ret
        exact ⟨rfl, H.out, World.grownBy.refl _ _⟩
    · rw [moveE_ok hf hp, moveT_ok hf hp]
      have hp0 : ¬ p < 0 := by omega
      have hp1 : ¬ 65536 < p := by omega
      clear hf hp
      go_enter Try.func17, Try.ntmps17
      go_wp2_with fail
      refine (slot_ok g k T _ H.out hk HF.out).mono ?_
      rintro e w' ⟨rfl, rfl⟩
      go_wp2_with fail
      go_ret
      exact ⟨rfl, H.out.storeP hk p, grown_set _ _ _ _⟩
set_option maxHeartbeats 800000 in
theorem move_nil (f p : Int) (w : World) : Calls Try.prog 17 #[.pointer none, .int .i64 f, .int .i64 p] w fun e w' => e = .returned (.int .i64 2) ∧ w = w' := by
  go_enter Try.func17, Try.ntmps17
  go_wp2_with fail
  refine (slot_nil f _).mono ?_
  rintro e w' ⟨rfl, rfl⟩
  go_wp2_with fail
  go_ret
  exact ⟨rfl, rfl⟩

/-! New, Fork -/
def emptyT : Nat → Sl := fun _ => nosl
theorem rd_zero : RD #[.bool false, .int .i64 0, .int .i64 0, .bool false, .bool false, .int .i64 0, .int .i64 0, .bool false, .bool false, .int .i64 0, .int .i64 0, .bool false, .bool false, .int .i64 0, .int .i64 0, .bool false,
  .bool false, .int .i64 0, .int .i64 0, .bool false, .bool false, .int .i64 0, .int .i64 0, .bool false, .bool false, .int .i64 0, .int .i64 0, .bool false, .bool false, .int .i64 0, .int .i64 0, .bool false,
  .bool false, .int .i64 0, .int .i64 0, .bool false, .bool false, .int .i64 0, .int .i64 0, .bool false, .bool false, .int .i64 0, .int .i64 0, .bool false, .bool false, .int .i64 0, .int .i64 0, .bool false,
  .bool false, .int .i64 0, .int .i64 0, .bool false, .bool false, .int .i64 0, .int .i64 0, .bool false, .bool false, .int .i64 0, .int .i64 0, .bool false, .bool false, .int .i64 0, .int .i64 0, .bool false] emptyT := by
  intro k hk
  rcases k with _ | _ | _ | _ | _ | _ | _ | _ | _ | _ | _ | _ | _ | _ | _ | _ | k <;> first | exact ⟨rfl, rfl, rfl, rfl⟩ | omega
set_option maxHeartbeats 800000 in
theorem new_any (w : World) : Calls Try.prog 7 #[] w fun e w' => ∃ g, e = .returned (.pointer (some ⟨g, 0, none⟩)) ∧ w.heap.size ≤ g ∧ SB w' g 50 16 emptyT ∧ Below w.heap.size w w' := by
  go_enter Try.func7, Try.ntmps7
  go_wp2_with fail
  go_ret
  exact ⟨_, rfl, Nat.le_refl _, ⟨⟨_, Blk.new _ _ _, rfl, rd_zero⟩, Nat.le_refl _⟩, (Below.refl _ _).alloc (Nat.le_refl _) _⟩
theorem size50 : (Try.prog.info? 48).map (·.size) = some 64 := by kernel_rfl
theorem foldl_zip_get : ∀ (l : List Value) (n : Nat) (z : Array Value) (i : Nat), n + l.length ≤ z.size →
    ((l.zipIdx n).foldl (fun a x => a.setIfInBounds x.2 x.1) z)[i]? = if n ≤ i ∧ i < n + l.length then l[i - n]? else z[i]?
  | [], n, z, i, h => by
    rw [if_neg (by simp only [List.length_nil]; omega)]; rfl
  | v :: l, n, z, i, h => by
    simp only [List.length_cons] at h
    rw [List.zipIdx_cons, List.foldl_cons, foldl_zip_get l (n + 1) _ i (by simp only [Array.size_setIfInBounds]; omega)]
    simp only [List.length_cons, Array.getElem?_setIfInBounds]
    by_cases e : i = n
    · subst e
      rw [if_neg (by omega), if_pos rfl, if_pos (by omega), if_pos (by omega), Nat.sub_self]; rfl
    · rw [if_neg (by omega : ¬ n = i)]
      by_cases h1 : n + 1 ≤ i ∧ i < n + 1 + l.length
      · rw [if_pos h1, if_pos (by omega), show i - n = (i - (n + 1)) + 1 by omega, List.getElem?_cons_succ]
      · rw [if_neg h1, if_neg (by omega)]
theorem foldl_zip (z cs : Array Value) {n : Nat} (h : z.size = n) (h' : cs.size = n) : Array.foldl (fun a x => a.setIfInBounds x.2 x.1) z (cs.zipIdx 0) 0 n = cs := by
  have e : n = (cs.zipIdx 0).size := by simp [h']
  conv => lhs; arg 5; rw [e]
  rw [← Array.foldl_toList, Array.toList_zipIdx]
  apply Array.ext_getElem?
  intro i
  rw [foldl_zip_get _ _ _ _ (by simp; omega)]
  by_cases hi : i < n
  · rw [if_pos (by simp; omega)]; simp
  · rw [if_neg (by simp; omega), Array.getElem?_eq_none (by omega), Array.getElem?_eq_none (by omega)]
set_option maxRecDepth 20000 in
set_option maxHeartbeats 800000 in
theorem fork_any (g : Nat) (T : Nat → Sl) (w : World) (h : SB w g 50 16 T) :
    Calls Try.prog 13 #[.pointer (some ⟨g, 0, none⟩)] w fun e w' => ∃ g', e = .returned (.pointer (some ⟨g', 0, none⟩)) ∧ w.heap.size ≤ g' ∧ SB w' g' 50 16 T ∧ Below w.heap.size w w' := by
  obtain ⟨cs, hb, hs, hr⟩ := h.ex
  have HB : Hid (Blk w g 50 cs) := hb
  have HS := Lib.hid hs
  have hi : Hid ((Try.prog.info? 48).map (·.size) = some cs.size) := by rw [size50, hs]; rfl
  have hs2 : cs.size = 64 := hs
  have HR := Lib.hid hr
  clear h hb hs hr
  go_enter Try.func13, Try.ntmps13
  go_wp2_with (refine wpList_load_row rfl 48 _ rfl g rfl 50 cs (0, 0) _ HB.out Try.underlying48 rfl hi.out ?_)
  rw [foldl_zip (n := 64) _ cs (by rfl) hs2]
  go_ret
  exact ⟨_, rfl, Nat.le_refl _, ⟨⟨cs, Blk.new _ _ _, HS.out, HR.out⟩, Nat.le_refl _⟩, (Below.refl _ _).alloc (Nat.le_refl _) _⟩
set_option maxHeartbeats 800000 in
theorem fork_nil (w : World) : Calls Try.prog 13 #[.pointer none] w fun e w' => e = .returned (.pointer none) ∧ w = w' := by
  go_enter Try.func13, Try.ntmps13
  go_wp2_with fail
  go_ret
  exact ⟨rfl, rfl⟩
end Go.Proofs.Ytaeccpoljenjmaa
