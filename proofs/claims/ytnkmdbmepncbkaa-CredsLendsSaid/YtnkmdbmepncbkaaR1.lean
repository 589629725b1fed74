import Derived.Test.YtnkmdbmepncbkaaA3
import Derived.Test.YtnkmdbmepncbkaaMem2
namespace Go.Proofs.Ytnkmdbmepncbkaa
open Go.RowKit Go.Hos Go.Sort

set_option maxHeartbeats 2000000 in
theorem roomy_any (uid euid suid gid : Int) (A : Option Addr) (n c : Nat) (gs : List Int) (B : Nat) (w : World) (h : Reads w B 1 A n (gs.map (Value.int .u32))) (hB : B ≤ w.heap.size) (hn : n ≤ 65536) :
    Calls Try.prog 10 #[.agg #[.int .u32 uid, .int .u32 euid, .int .u32 suid, .int .u32 gid, .slice A n c]] w
      fun e w' => ∃ g cap, e = .returned (.agg #[.int .u32 uid, .int .u32 euid, .int .u32 suid, .int .u32 gid, .slice (some ⟨g, 0, none⟩) n cap]) ∧ n + 1 ≤ cap ∧
        w'.ownsRow w.heap.size 22 1 (.slice (some ⟨g, 0, none⟩) (n + 1) cap) (n + 1) (gs.map (Value.int .u32) ++ [.int .u32 77]) ∧ Below w.heap.size w w' := by
  obtain ⟨i0, hi0, hz0, hz1, hz2⟩ := info_parts info22
  have H := Lib.hid h
  clear h
  go_enter Try.func10, Try.ntmps10
  go_wp2_with fail
  refine (copy_any _ _ _ _ _ _ _ gs B _ ((H.out.alloc hB _).alloc (by simp; omega) _) (by simp; omega) hn).mono ?_
  rintro e w1 ⟨v, rfl, hown, hb1⟩
  have hlow : Hid (Below w.heap.size w w1) := ((Below.refl _ _).alloc (Nat.le_refl _) _).alloc (by simp) _ |>.trans (hb1.mono (by simp; omega))
  have k0 : Blk w1 w.heap.size 25 #[.int .u32 uid, .int .u32 euid, .int .u32 suid, .int .u32 gid, .slice A n c] := ((Blk.new _ _ _).alloc _).below hb1 (by simp; omega)
  have k1 : Blk w1 (w.heap.size + 1) 25 #[.int .u32 0, .int .u32 0, .int .u32 0, .int .u32 0, .slice none 0 0] := (blk_at _ _ (by simp)).below hb1 (by simp)
  have hown' : Hid (w1.ownsRow (w.heap.size + 1 + 1) 22 1 v n (gs.map (Value.int .u32))) := by simp at hown; exact hown
  obtain ⟨A1, c1, rfl⟩ := ownsRow_val hown
  have hob : Hid (∀ k, (Value.slice A1 n c1).ownBlock = some k → w.heap.size + 1 + 1 ≤ k ∧ k < w1.heap.size) := hown'.out.lt
  have K0 : Hid (Blk w1 w.heap.size 25 #[.int .u32 uid, .int .u32 euid, .int .u32 suid, .int .u32 gid, .slice A n c]) := k0
  have K1 : Hid (Blk w1 (w.heap.size + 1) 25 #[.int .u32 0, .int .u32 0, .int .u32 0, .int .u32 0, .slice none 0 0]) := k1
  have kc0 := k0.cell
  have kc1 := k1.cell
  have z0 := k0.lt
  have z1 := k1.lt
  clear hown hb1 k0 k1
  have L0 : Hid (Blk ((w1.alloc (.cells #[.int .u32 uid, .int .u32 euid, .int .u32 suid, .int .u32 gid, .slice A1 n c1] 25)).alloc (.cells #[.int .u32 77] 22)) w.heap.size 25 #[.int .u32 uid, .int .u32 euid, .int .u32 suid, .int .u32 gid, .slice A n c]) := (K0.out.alloc _).alloc _
  have L1 : Hid (Blk ((w1.alloc (.cells #[.int .u32 uid, .int .u32 euid, .int .u32 suid, .int .u32 gid, .slice A1 n c1] 25)).alloc (.cells #[.int .u32 77] 22)) (w.heap.size + 1) 25 #[.int .u32 0, .int .u32 0, .int .u32 0, .int .u32 0, .slice none 0 0]) := (K1.out.alloc _).alloc _
  have L2 : Hid (Blk ((w1.alloc (.cells #[.int .u32 uid, .int .u32 euid, .int .u32 suid, .int .u32 gid, .slice A1 n c1] 25)).alloc (.cells #[.int .u32 77] 22)) w1.heap.size 25 #[.int .u32 uid, .int .u32 euid, .int .u32 suid, .int .u32 gid, .slice A1 n c1]) := (Blk.new _ _ _).alloc _
  have hlow1 : Hid (Below w.heap.size w ((w1.alloc (.cells #[.int .u32 uid, .int .u32 euid, .int .u32 suid, .int .u32 gid, .slice A1 n c1] 25)).alloc (.cells #[.int .u32 77] 22))) := (hlow.out.alloc hlow.out.size _).alloc (by have := hlow.out.size; simp; omega) _
  go_wp2_with (at_builtin
               refine wpList_append_any _ rfl (.tmp 7) (.tmp 8) _ rfl (w.heap.size + 1 + 1) 22 i0 _ 1 4 Try.underlying23 hi0 hz0 hz1 hz2 rfl (by omega) (.slice A1 n c1) n _ rfl
                 ((hown'.out.alloc _).alloc _) (w1.heap.size + 1 + 1) (some ⟨w1.heap.size + 1, 0, none⟩) 1 1 [.int .u32 77] rfl (reads_new (g := w1.heap.size + 1) _ _ 1 1 [.int .u32 77] (by simp) rfl) (by simp [Value.oneCell']) (by simp only [maxLen]; omega) (by omega) (by simp; omega) ?_
               intro v2 w2 hown2 hg2 _
               obtain ⟨g, cap, rfl, hgb, hgl, hcap⟩ := owns_succ hown2
               have m0 : Blk w2 w.heap.size 25 #[.int .u32 uid, .int .u32 euid, .int .u32 suid, .int .u32 gid, .slice A n c] := L0.out.grown hg2 (fun e => by have := (hob.out _ e.symm).1; omega)
               have m1 : Blk w2 (w.heap.size + 1) 25 #[.int .u32 0, .int .u32 0, .int .u32 0, .int .u32 0, .slice none 0 0] := L1.out.grown hg2 (fun e => by have := (hob.out _ e.symm).1; omega)
               have m2 : Blk w2 w1.heap.size 25 #[.int .u32 uid, .int .u32 euid, .int .u32 suid, .int .u32 gid, .slice A1 n c1] := L2.out.grown hg2 (fun e => by have := (hob.out _ e.symm).2; omega)
               have kd0 := m0.cell
               have kd1 := m1.cell
               have kd2 := m2.cell
               have kf1 := m1.frozen
               have kf2 := m2.frozen
               have y0 := m0.lt
               have y2 := m2.lt
               have gne : Hid (g ≠ w1.heap.size) := by
                 rintro rfl
                 rcases hown2.2 with ⟨e, _⟩ | ⟨g', cap', cur, e, _, hh, _⟩
                 · cases e
                 · injection e with e1 e2 e3
                   injection e1 with e1
                   injection e1 with e1
                   subst e1
                   exact Blk.ne_ (t := 22) hh m2 (by decide) rfl
               have hlow2 : Hid (Below w.heap.size w w2) := hlow1.out.grown hg2 (by have := hlow1.out.size; exact this) (fun k hk => by have := (hob.out _ hk).1; omega)
               have O2 := Lib.hid hown2
               have HC := Lib.hid hcap
               have hc1 : n ≤ cap := by omega
               clear hown2 hg2 m0 m1 m2 kc0 kc1 hcap)
  refine bodyPost_ret (v := .agg #[.int .u32 uid, .int .u32 euid, .int .u32 suid, .int .u32 gid, .slice (some ⟨g, 0, none⟩) n cap]) (by simp [results, Try.results10, go_sem, kd1]) rfl ⟨g, cap, rfl, ?_, ?_, ?_⟩
  · exact HC.out
  · refine owns_base (base := w.heap.size + 1 + 1) ?_ (by omega)
    have gl : w.heap.size + 1 ≠ g := by omega
    iterate 5 (refine owns_far ?_ (fun e => gl e.symm) _)
    iterate 2 (refine owns_far ?_ gne.out _)
    exact O2.out
  · iterate 5 (refine Below.setCell ?_ (by simp) _)
    iterate 2 (refine Below.setCell ?_ (by simp; omega) _)
    exact hlow2.out

set_option maxHeartbeats 2000000 in
theorem kept_any (uid euid suid gid uid' euid' suid' gid' : Int) (g : Nat) (A' : Option Addr) (n cap n' c' : Nat) (gs hs : List Int) (B B' : Nat) (w : World)
    (h : Reads w B 1 (some ⟨g, 0, none⟩) (n + 1) (gs.map (Value.int .u32) ++ [.int .u32 77])) (hcap : n + 1 ≤ cap) (h' : Reads w B' 1 A' n' (hs.map (Value.int .u32)))
    (hB : B ≤ w.heap.size) (hB' : B' ≤ w.heap.size) (hn : n ≤ 65536) (hn' : n' ≤ 65536) (he : sameB uid euid suid gid uid' euid' suid' gid' gs hs = true) :
    Calls Try.prog 16 #[.agg #[.int .u32 uid, .int .u32 euid, .int .u32 suid, .int .u32 gid, .slice (some ⟨g, 0, none⟩) n cap], .agg #[.int .u32 uid', .int .u32 euid', .int .u32 suid', .int .u32 gid', .slice A' n' c']] w
      fun e w' => e = .returned (.bool true) ∧ Below w.heap.size w w' := by
  have H0 : Hid (Reads w B 1 (some ⟨g, 0, none⟩) n (gs.map (Value.int .u32))) := by
    have hl := h.1
    simp at hl
    refine ⟨by simp; omega, fun hp => ?_⟩
    obtain ⟨ad, e, hb, hc⟩ := h.2 (by omega)
    refine ⟨ad, e, hb, fun j u hu => hc j u ?_⟩
    rw [List.getElem?_append_left (by have := (List.getElem?_eq_some_iff.1 hu).1; exact this)]; exact hu
  have H1 : Hid (w.cell? ⟨g, n, none⟩ = some (.int .u32 77) ∧ g < B) := by
    obtain ⟨ad, e, hb, hc⟩ := h.2 (by omega)
    injection e with e
    subst e
    have hl := h.1
    simp at hl
    have := hc n (.int .u32 77) (by rw [List.getElem?_append_right (by simp; omega)]; simp [show n - gs.length = 0 by omega])
    have hadd : (⟨g, 0, none⟩ : Addr).add n = ⟨g, n, none⟩ := by unfold Addr.add; split <;> simp_all
    rw [hadd] at this
    exact ⟨this, hb⟩
  have H' := Lib.hid h'
  have HE := Lib.hid he
  clear h h' he
  go_enter Try.func16, Try.ntmps16
  go_wp2_with fail
  refine (rsame_any _ _ _ _ _ _ _ _ _ _ _ _ _ _ gs hs B B' _ ((H0.out.alloc hB _).alloc (by simp; omega) _) ((H'.out.alloc hB' _).alloc (by simp; omega) _) (by simp; omega) (by simp; omega) (by omega) (by omega)).mono ?_
  rintro e w1 ⟨rfl, hb1⟩
  rw [HE.out]
  have hlow : Hid (Below w.heap.size w w1) := ((Below.refl _ _).alloc (Nat.le_refl _) _).alloc (by simp) _ |>.trans (hb1.mono (by simp; omega))
  have k0 : Blk w1 w.heap.size 25 #[.int .u32 uid, .int .u32 euid, .int .u32 suid, .int .u32 gid, .slice (some ⟨g, 0, none⟩) n cap] := ((Blk.new _ _ _).alloc _).below hb1 (by simp; omega)
  have kc0 := k0.cell
  have hcell : w1.cell? ⟨g, n, none⟩ = some (.int .u32 77) := (hlow.out.cell (p := ⟨g, n, none⟩) (by have := H1.out.2; simp; omega)).trans H1.out.1
  clear k0 hb1
  go_wp2
  go_ret
  exact ⟨rfl, hlow.out⟩
end Go.Proofs.Ytnkmdbmepncbkaa
