import Derived.Test.YtnkmdbmepncbkaaW4
namespace Go.Proofs.Ytnkmdbmepncbkaa
open Go.RowKit Go.Hos Go.Sort

set_option maxHeartbeats 400000 in
theorem same_yes (uid euid suid gid : Int) (A A' : Option Addr) (n c n' c' : Nat) (gs hs : List Int) (B B' : Nat) (w : World) (h : Reads w B 1 A n (gs.map (Value.int .u32))) (h' : Reads w B' 1 A' n' (hs.map (Value.int .u32)))
    (hB : B ≤ w.heap.size) (hB' : B' ≤ w.heap.size) (hn : n ≤ 9223372036854775807) (hn' : n' ≤ 9223372036854775807) :
    Calls Try.prog 14 #[.agg #[.int .u32 uid, .int .u32 euid, .int .u32 suid, .int .u32 gid, .slice A n c], .agg #[.int .u32 uid, .int .u32 euid, .int .u32 suid, .int .u32 gid, .slice A' n' c']] w
      fun e w' => e = .returned (.bool (decide (gs = hs))) ∧ Below w.heap.size w w' := by
  have H := Lib.hid h
  have H' := Lib.hid h'
  clear h h'
  go_enter Try.func14, Try.ntmps14
  go_wp2
  obtain ⟨W, hW⟩ : ∃ W, W = (w.alloc (Obj.cells #[.int .u32 uid, .int .u32 euid, .int .u32 suid, .int .u32 gid, .slice A n c] 25)).alloc (Obj.cells #[.int .u32 uid, .int .u32 euid, .int .u32 suid, .int .u32 gid, .slice A' n' c'] 25) := ⟨_, rfl⟩
  rw [← hW]
  have hb : Below w.heap.size w W := by subst hW; exact ((Below.refl _ _).alloc (Nat.le_refl _) _).alloc (by simp) _
  have b1 : Blk W w.heap.size 25 #[.int .u32 uid, .int .u32 euid, .int .u32 suid, .int .u32 gid, .slice A n c] := by subst hW; exact (Blk.new _ _ _).alloc _
  have b2 : Blk W (w.heap.size + 1) 25 #[.int .u32 uid, .int .u32 euid, .int .u32 suid, .int .u32 gid, .slice A' n' c'] := by subst hW; have := Blk.new (w.alloc (Obj.cells #[.int .u32 uid, .int .u32 euid, .int .u32 suid, .int .u32 gid, .slice A n c] 25)) 25 #[.int .u32 uid, .int .u32 euid, .int .u32 suid, .int .u32 gid, .slice A' n' c']; simpa using this
  have HH : Hid (Reads W B 1 A n (gs.map (Value.int .u32))) := H.out.keep fun p hp => hb.cell (by omega)
  have HH' : Hid (Reads W B' 1 A' n' (hs.map (Value.int .u32))) := H'.out.keep fun p hp => hb.cell (by omega)
  have hs1 : Hid (B ≤ W.heap.size ∧ B' ≤ W.heap.size) := ⟨by have := hb.size; omega, by have := hb.size; omega⟩
  have HB := Lib.hid hb
  clear hW H H' hb
  have c1 := fun i (d : Nat) (os : Array Obj) => ((below_regrown W d os).cell (p := ⟨w.heap.size, i, none⟩) b1.lt).trans (b1.cell i)
  have c2 := fun i (d : Nat) (os : Array Obj) => ((below_regrown W d os).cell (p := ⟨w.heap.size + 1, i, none⟩) b2.lt).trans (b2.cell i)
  clear b1 b2
  refine wp_region_quiet_below (by kernel_rfl) (by kernel_rfl) ?_
  repeat (quiet_step (first | (go_at_call 24; exact Calls.regrown_of (plain_any _ _ _ _ _ _ _ _)) | (go_at_call 25; exact Calls.regrown_of (equal_any _ _ _ _ _ _ gs hs _ _ _ (HH.out.below ((below_regrown _ _ _).mono hs1.out.1)) (HH'.out.below ((below_regrown _ _ _).mono hs1.out.2)) hn hn'))))
  refine wpQuiet_nil ?_
  intro _ hw'
  obtain ⟨⟨dq, osq⟩, hw''⟩ := hw'
  subst hw''
  go_wp2
  go_ret
  exact ⟨rfl, HB.out.trans ((below_regrown _ _ _).mono HB.out.size)⟩

theorem ne_cases {a b c d a' b' c' d' : Int} (h : ¬ (a = a' ∧ b = b' ∧ c = c' ∧ d = d')) :
    (a == a') = false ∨ ((a == a') = true ∧ (b == b') = false) ∨ ((a == a') = true ∧ (b == b') = true ∧ (c == c') = false) ∨ ((a == a') = true ∧ (b == b') = true ∧ (c == c') = true ∧ (d == d') = false) := by
  simp only [beq_eq_false_iff_ne, beq_iff_eq]
  omega

set_option maxHeartbeats 400000 in
theorem same_no (uid euid suid gid uid' euid' suid' gid' : Int) (A A' : Option Addr) (n c n' c' : Nat) (w : World) (hne : ¬ (uid = uid' ∧ euid = euid' ∧ suid = suid' ∧ gid = gid')) :
    Calls Try.prog 14 #[.agg #[.int .u32 uid, .int .u32 euid, .int .u32 suid, .int .u32 gid, .slice A n c], .agg #[.int .u32 uid', .int .u32 euid', .int .u32 suid', .int .u32 gid', .slice A' n' c']] w
      fun e w' => e = .returned (.bool false) ∧ Below w.heap.size w w' := by
  have hcs := ne_cases hne
  clear hne
  rcases hcs with hne | ⟨e1, hne⟩ | ⟨e1, e2, hne⟩ | ⟨e1, e2, e3, hne⟩
  all_goals
    go_enter Try.func14, Try.ntmps14
    go_wp2
    obtain ⟨W, hW⟩ : ∃ W, W = (w.alloc (Obj.cells #[.int .u32 uid, .int .u32 euid, .int .u32 suid, .int .u32 gid, .slice A n c] 25)).alloc (Obj.cells #[.int .u32 uid', .int .u32 euid', .int .u32 suid', .int .u32 gid', .slice A' n' c'] 25) := ⟨_, rfl⟩
    rw [← hW]
    have hb : Below w.heap.size w W := by subst hW; exact ((Below.refl _ _).alloc (Nat.le_refl _) _).alloc (by simp) _
    have b1 : Blk W w.heap.size 25 #[.int .u32 uid, .int .u32 euid, .int .u32 suid, .int .u32 gid, .slice A n c] := by subst hW; exact (Blk.new _ _ _).alloc _
    have b2 : Blk W (w.heap.size + 1) 25 #[.int .u32 uid', .int .u32 euid', .int .u32 suid', .int .u32 gid', .slice A' n' c'] := by subst hW; have := Blk.new (w.alloc (Obj.cells #[.int .u32 uid, .int .u32 euid, .int .u32 suid, .int .u32 gid, .slice A n c] 25)) 25 #[.int .u32 uid', .int .u32 euid', .int .u32 suid', .int .u32 gid', .slice A' n' c']; simpa using this
    have HB := Lib.hid hb
    clear hW hb
    have c1 := fun i (d : Nat) (os : Array Obj) => ((below_regrown W d os).cell (p := ⟨w.heap.size, i, none⟩) b1.lt).trans (b1.cell i)
    have c2 := fun i (d : Nat) (os : Array Obj) => ((below_regrown W d os).cell (p := ⟨w.heap.size + 1, i, none⟩) b2.lt).trans (b2.cell i)
    clear b1 b2
    refine wp_region_quiet_below (by kernel_rfl) (by kernel_rfl) ?_
    repeat (quiet_step ((go_at_call 24; exact Calls.regrown_of (plain_any _ _ _ _ _ _ _ _))))
    refine wpQuiet_nil ?_
    intro _ hw'
    obtain ⟨⟨dq, osq⟩, hw''⟩ := hw'
    subst hw''
    go_wp2
    go_ret
    exact ⟨rfl, HB.out.trans ((below_regrown _ _ _).mono HB.out.size)⟩
end Go.Proofs.Ytnkmdbmepncbkaa
