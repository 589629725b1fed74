import Derived.Test.YtaeccpoljenjmaaW2
import Derived.ProofKit
import Derived.WalkSpells
namespace Go.Hos
open Go.RowKit
theorem SB.reads {W : World} {g m : Nat} {t : TypeId} {T : Nat → Sl} (h : SB W g t m T) : ∃ news : List Value, Reads W (g + 1) 4 (some ⟨g, 0, none⟩) 16 news ∧ RD news.toArray T ∧ ∀ u ∈ news, u.oneCell' = true := by
  obtain ⟨cs, hb, hs, hr⟩ := h.ex
  have hm := h.le
  have hg : ∀ i, i < 64 → (cs.toList.take 64)[i]? = cs[i]? := fun i hi => by
    rw [List.getElem?_take_of_lt hi]; simp
  refine ⟨cs.toList.take 64, ⟨by simp; omega, fun _ => ⟨_, rfl, by simp, fun j u hu => ?_⟩⟩, fun k hk => ?_, fun u hu => ?_⟩
  · have hadd : (⟨g, 0, none⟩ : Addr).add j = ⟨g, j, none⟩ := by unfold Addr.add; split <;> simp_all
    rw [hadd, hb.cell]
    have hj : j < 64 := by
      have := (List.getElem?_eq_some_iff.1 hu).1
      simp at this; omega
    rw [← hg j hj]; exact hu
  · obtain ⟨h1, h2, h3, h4⟩ := hr k hk
    simp only [List.getElem?_toArray]
    rw [hg _ (by omega), hg _ (by omega), hg _ (by omega), hg _ (by omega)]
    exact ⟨h1, h2, h3, h4⟩
  · obtain ⟨i, hi, rfl⟩ := List.getElem_of_mem hu
    have hi64 : i < 64 := by simp at hi; omega
    have e : (cs.toList.take 64)[i]? = some ((cs.toList.take 64)[i]) := List.getElem?_eq_getElem hi
    rw [hg i hi64] at e
    obtain ⟨h1, h2, h3, h4⟩ := hr (i / 4) (by omega)
    have hd : i = i / 4 * 4 ∨ i = i / 4 * 4 + 1 ∨ i = i / 4 * 4 + 2 ∨ i = i / 4 * 4 + 3 := by omega
    rcases hd with hd | hd | hd | hd
    · rw [← hd, e] at h1; injection h1 with h1; rw [h1]; rfl
    · rw [← hd, e] at h2; injection h2 with h2; rw [h2]; rfl
    · rw [← hd, e] at h3; injection h3 with h3; rw [h3]; rfl
    · rw [← hd, e] at h4; injection h4 with h4; rw [h4]; rfl
theorem SB.of_own {W : World} {base : Nat} {t : TypeId} {v : Value} {news : List Value} {T : Nat → Sl} (h : W.ownsRow base t 4 v 16 news) (hr : RD news.toArray T) : ∃ g c, v = .slice (some ⟨g, 0, none⟩) 16 c ∧ base ≤ g ∧ SB W g t c T := by
  rcases h.2 with ⟨_, h0⟩ | ⟨g, cap, cur, rfl, hb, hg, hn, hm, hs, ht⟩
  · omega
  · refine ⟨g, cap, rfl, hb, ⟨cur, hg, hs, fun k hk => ?_⟩, hn⟩
    obtain ⟨h1, h2, h3, h4⟩ := hr k hk
    simp only [List.getElem?_toArray, ← ht] at h1 h2 h3 h4
    rw [List.getElem?_take_of_lt (by omega)] at h1 h2 h3 h4
    simp only [Array.getElem?_toList] at h1 h2 h3 h4
    exact ⟨h1, h2, h3, h4⟩
end Go.Hos
namespace Go.Proofs.Ytaeccpoljenjmaa
open Go.RowKit Go.Hos
set_option linter.unusedVariables false

theorem info33 : (Try.prog.info? 33).map (fun i => (i.zero, i.size, i.bytes)) = some (some (.agg #[.bool false, .int .i64 0, .int .i64 0, .bool false]), 4, 32) := by kernel_rfl
set_option maxHeartbeats 800000 in
theorem clone_any (g m c : Nat) (t : TypeId) (T : Nat → Sl) (w : World) (h : SB w g t m T) :
    Calls Try.prog 30 #[.slice (some ⟨g, 0, none⟩) 16 c] w fun e w' => ∃ g' c', e = .returned (.slice (some ⟨g', 0, none⟩) 16 c') ∧ w.heap.size ≤ g' ∧ SB w' g' 33 c' T ∧ Below w.heap.size w w' := by
  obtain ⟨i0, hi0, hz0, hz1, hz2⟩ := info_parts info33
  obtain ⟨news, hr, hd, ho⟩ := h.reads
  have HR := Lib.hid hr; have HD := Lib.hid hd; have HO := Lib.hid ho
  have hgl := h.lt
  have he : ∀ w, (binOp .eql 45 (.slice (some ⟨g, 0, none⟩) 16 c) (.slice none 0 0)).run Try.prog w = .ok (.bool false) w := fun w => Lib.run_eql_slice_nil (P := Try.prog) w 45 33 _ 16 c 0 0 Try.underlying45
  clear h hr hd ho
  go_enter Try.func30, Try.ntmps30
  go_wp2_with (at_builtin
               refine wpList_append_any _ rfl (.tmp 5) (.tmp 6) _ rfl w.heap.size 33 i0 _ 4 32 Try.underlying45 hi0 hz0 hz1 hz2 rfl (by omega) (.slice (some ⟨w.heap.size, 0, none⟩) 0 0) 0 [] rfl
                 ?c1 (g + 1) _ 16 c _ rfl (HR.out.alloc (by omega) _) HO.out (by simp only [maxLen]; omega) (by omega) (by simp) ?_
               rotate_left
               intro v1 w1 hown1 hg1 hat1)
  · obtain ⟨g', c', rfl, hg', hs'⟩ := SB.of_own (news := news) (by simpa using hown1) HD.out
    go_ret
    refine ⟨g', c', rfl, hg', hs', ((Below.refl _ _).alloc (Nat.le_refl _) _).grown hg1 (by simp) (fun k hk => ?_)⟩
    simp [Value.ownBlock] at hk; omega
  · exact owns_empty _ _ _ (Nat.le_refl _)
set_option maxHeartbeats 800000 in
theorem list_any (g : Nat) (T : Nat → Sl) (w : World) (h : SB w g 50 16 T) :
    Calls Try.prog 18 #[.pointer (some ⟨g, 0, none⟩)] w fun e w' => ∃ g' c', e = .returned (.slice (some ⟨g', 0, none⟩) 16 c') ∧ w.heap.size ≤ g' ∧ SB w' g' 33 c' T ∧ Below w.heap.size w w' := by
  have H := Lib.hid h
  clear h
  go_enter Try.func18, Try.ntmps18
  go_wp2_with fail
  refine (clone_any g 16 16 50 T _ H.out).mono ?_
  rintro e w1 ⟨g', c', rfl, hg, hs, hb⟩
  have HS : Hid (w.heap.size ≤ g' ∧ SB w1 g' 33 c' T ∧ Below w.heap.size w w1) := ⟨hg, hs, hb⟩
  clear hg hs hb
  go_wp2_with fail
  go_ret
  exact ⟨g', c', rfl, HS.out⟩
set_option maxHeartbeats 800000 in
theorem list_nil (w : World) : Calls Try.prog 18 #[.pointer none] w fun e w' => e = .returned (.slice none 0 0) ∧ w = w' := by
  go_enter Try.func18, Try.ntmps18
  go_wp2_with fail
  go_ret
  exact ⟨rfl, rfl⟩
end Go.Proofs.Ytaeccpoljenjmaa
