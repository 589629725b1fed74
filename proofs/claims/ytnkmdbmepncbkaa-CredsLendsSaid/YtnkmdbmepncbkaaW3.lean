import Derived.Test.YtnkmdbmepncbkaaW2
import Derived.Lib.QuietBelow
namespace Go.Proofs.Ytnkmdbmepncbkaa
open Go.RowKit Go.Hos Go.Sort

theorem info22 : (Try.prog.info? 22).map (fun i => (i.zero, i.size, i.bytes)) = some (some (.int .u32 0), 1, 4) := by kernel_rfl
theorem u32_one (gs : List Int) : ∀ u ∈ gs.map (Value.int .u32), u.oneCell' = true := by
  intro u hu; obtain ⟨x, _, rfl⟩ := List.mem_map.1 hu; rfl

set_option maxHeartbeats 400000 in
theorem large_any (uid euid suid gid : Int) (A : Option Addr) (n c : Nat) (w : World) :
    Calls Try.prog 8 #[.agg #[.int .u32 uid, .int .u32 euid, .int .u32 suid, .int .u32 gid, .slice A n c]] w
      fun e w' => e = .returned (.bool (decide ((65536 : Int) < n))) ∧ Below w.heap.size w w' := by
  go_enter Try.func8, Try.ntmps8
  go_wp2
  go_ret
  exact ⟨rfl, (Below.refl _ _).alloc (Nat.le_refl _) _⟩

def chk (n : Nat) : Int := if 8 < n then 15 else 0
set_option maxHeartbeats 400000 in
theorem check_any (uid euid suid gid : Int) (A : Option Addr) (n c : Nat) (w : World) :
    Calls Try.prog 19 #[.agg #[.int .u32 uid, .int .u32 euid, .int .u32 suid, .int .u32 gid, .slice A n c]] w
      fun e w' => e = .returned (.int .i64 (chk n)) ∧ Below w.heap.size w w' := by
  go_enter Try.func19, Try.ntmps19
  go_wp2
  · go_ret
    exact ⟨by unfold chk; rw [if_pos (by omega)]; rfl, (Below.refl _ _).alloc (Nat.le_refl _) _⟩
  · go_ret
    exact ⟨by unfold chk; rw [if_neg (by omega)]; rfl, (Below.refl _ _).alloc (Nat.le_refl _) _⟩
set_option maxHeartbeats 400000 in
theorem rcheck_any (uid euid suid gid : Int) (A : Option Addr) (n c : Nat) (w : World) :
    Calls Try.prog 20 #[.agg #[.int .u32 uid, .int .u32 euid, .int .u32 suid, .int .u32 gid, .slice A n c]] w
      fun e w' => e = .returned (.int .i64 (chk n)) ∧ Below w.heap.size w w' := by
  go_enter Try.func20, Try.ntmps20
  go_wp2
  · go_ret
    exact ⟨by unfold chk; rw [if_pos (by omega)]; rfl, (Below.refl _ _).alloc (Nat.le_refl _) _⟩
  · go_ret
    exact ⟨by unfold chk; rw [if_neg (by omega)]; rfl, (Below.refl _ _).alloc (Nat.le_refl _) _⟩

set_option maxHeartbeats 400000 in
theorem clone_any (A : Option Addr) (n c : Nat) (gs : List Int) (B : Nat) (w : World) (h : Reads w B 1 A n (gs.map (Value.int .u32))) (hB : B ≤ w.heap.size) (hn : n ≤ 65536) :
    Calls Try.prog 23 #[.slice A n c] w fun e w' => ∃ v, e = .returned v ∧ w'.ownsRow w.heap.size 22 1 v n (gs.map (Value.int .u32)) ∧ Below w.heap.size w w' := by
  obtain ⟨i0, hi0, hz0, hz1, hz2⟩ := info_parts info22
  have he := fun w => Lib.run_eql_slice_nil (P := Try.prog) w 23 22 A n c 0 0 Try.underlying23
  cases A with
  | none =>
    have h0 : n = 0 := by
      rcases Nat.eq_zero_or_pos n with h0 | h0
      · exact h0
      · obtain ⟨ad, h, _⟩ := h.2 h0; cases h
    subst h0
    have hg : gs = [] := by have := h.1; simp at this; exact this
    subst hg
    clear h
    go_enter Try.func23, Try.ntmps23
    go_wp2
    go_ret
    exact ⟨_, rfl, World.ownsRow_nil _ _ _ _, Below.refl _ _⟩
  | some ad =>
    have H := Lib.hid h
    clear h
    go_enter Try.func23, Try.ntmps23
    go_wp2_with (at_builtin
                 refine wpList_append_any _ rfl (.tmp 5) (.tmp 6) _ rfl w.heap.size 22 i0 _ 1 4 Try.underlying23 hi0 hz0 hz1 hz2 rfl (by omega) (.slice (some ⟨w.heap.size, 0, none⟩) 0 0) 0 [] rfl
                   ?c1 B _ n c _ rfl (H.out.alloc hB _) (u32_one gs) (by simp only [maxLen]; omega) (by omega) (by simp) ?_
                 rotate_left
                 intro v1 w1 hown1 hg1 hat1)
    · go_ret
      refine ⟨v1, rfl, by simpa using hown1, ((Below.refl _ _).alloc (Nat.le_refl _) _).grown hg1 (by simp) (fun k hk => ?_)⟩
      simp [Value.ownBlock] at hk; omega
    · exact owns_empty _ _ _ (Nat.le_refl _)

set_option maxHeartbeats 400000 in
theorem copy_any (uid euid suid gid : Int) (A : Option Addr) (n c : Nat) (gs : List Int) (B : Nat) (w : World) (h : Reads w B 1 A n (gs.map (Value.int .u32))) (hB : B ≤ w.heap.size) (hn : n ≤ 65536) :
    Calls Try.prog 15 #[.agg #[.int .u32 uid, .int .u32 euid, .int .u32 suid, .int .u32 gid, .slice A n c]] w
      fun e w' => ∃ v, e = .returned (.agg #[.int .u32 uid, .int .u32 euid, .int .u32 suid, .int .u32 gid, v]) ∧ w'.ownsRow w.heap.size 22 1 v n (gs.map (Value.int .u32)) ∧ Below w.heap.size w w' := by
  obtain ⟨i0, hi0, hz0, hz1, hz2⟩ := info_parts info22
  have H := Lib.hid h
  clear h
  go_enter Try.func15, Try.ntmps15
  go_wp2_with (at_builtin
               refine wpList_append_any _ rfl (.tmp 4) (.tmp 6) _ rfl (w.heap.size + 2) 22 i0 _ 1 4 Try.underlying23 hi0 hz0 hz1 hz2 rfl (by omega) (.slice none 0 0) 0 [] rfl
                 ⟨by simp, .inl ⟨rfl, rfl⟩⟩ B A n c _ rfl ((H.out.alloc hB _).alloc (by simp only [World.size_alloc]; omega) _) (u32_one gs) (by simp only [maxLen]; omega) (by omega) (by simp) ?_
               intro v1 w1 hown1 hg1 _
               have hb1 := below_own hg1 (Nat.le_refl _) (by simp [Value.ownBlock])
               obtain ⟨hc, hf⟩ := bcell hb1
               have kb : Blk w1 w.heap.size 25 #[.int .u32 uid, .int .u32 euid, .int .u32 suid, .int .u32 gid, .slice A n c] := ((Blk.new w _ _).alloc _).below hb1 (by simp; omega)
               have kc := kb.cell
               have kb2 : Blk w1 (w.heap.size + 1) 25 #[.int .u32 0, .int .u32 0, .int .u32 0, .int .u32 0, .slice none 0 0] := by have := (Blk.new (w.alloc (.cells #[.int .u32 uid, .int .u32 euid, .int .u32 suid, .int .u32 gid, .slice A n c] 25)) 25 #[.int .u32 0, .int .u32 0, .int .u32 0, .int .u32 0, .slice none 0 0]).below hb1 (by simp); simpa using this
               have kc2 := kb2.cell
               have z1 : w.heap.size + 1 < w1.heap.size := by have := hb1.size; simp at this; omega
               obtain ⟨A1, c1, rfl⟩ := ownsRow_val hown1
               have H1 := Lib.hid hown1
               have Hb := Lib.hid hb1
               clear hown1 hb1 hg1 hc kb kb2)
  refine bodyPost_ret (v := .agg #[.int .u32 uid, .int .u32 euid, .int .u32 suid, .int .u32 gid, .slice A1 n c1]) (by simp [results, Try.results15, go_sem, kc2]) rfl ⟨_, rfl, ?_, ?_⟩
  · have h := owns_base H1.out (base' := w.heap.size + 2) (Nat.le_refl _)
    simp only [Nat.zero_add, List.nil_append] at h
    refine owns_base (base := w.heap.size + 2) ?_ (by omega)
    repeat (first | (with_reducible exact h) | refine ownsRow_setCell_below ?_ (by simp) _)
  · have h := (((Below.refl w.heap.size w).alloc (Nat.le_refl _) _).alloc (by simp) _).trans (Hb.out.mono (by simp; omega))
    repeat (first | (with_reducible exact h) | refine Below.setCell ?_ (by simp) _)
end Go.Proofs.Ytnkmdbmepncbkaa
