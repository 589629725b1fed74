import Derived.Test.YtnkmdbmepncbkaaW5
namespace Go.Proofs.Ytnkmdbmepncbkaa
open Go.RowKit Go.Hos Go.Sort

def sameB (a b c d a' b' c' d' : Int) (gs hs : List Int) : Bool := decide ((a = a' ∧ b = b' ∧ c = c' ∧ d = d') ∧ gs = hs)

theorem same_any (uid euid suid gid uid' euid' suid' gid' : Int) (A A' : Option Addr) (n c n' c' : Nat) (gs hs : List Int) (B B' : Nat) (w : World) (h : Reads w B 1 A n (gs.map (Value.int .u32))) (h' : Reads w B' 1 A' n' (hs.map (Value.int .u32)))
    (hB : B ≤ w.heap.size) (hB' : B' ≤ w.heap.size) (hn : n ≤ 9223372036854775807) (hn' : n' ≤ 9223372036854775807) :
    Calls Try.prog 14 #[.agg #[.int .u32 uid, .int .u32 euid, .int .u32 suid, .int .u32 gid, .slice A n c], .agg #[.int .u32 uid', .int .u32 euid', .int .u32 suid', .int .u32 gid', .slice A' n' c']] w
      fun e w' => e = .returned (.bool (sameB uid euid suid gid uid' euid' suid' gid' gs hs)) ∧ Below w.heap.size w w' := by
  by_cases he : uid = uid' ∧ euid = euid' ∧ suid = suid' ∧ gid = gid'
  · obtain ⟨rfl, rfl, rfl, rfl⟩ := he
    refine (same_yes uid euid suid gid A A' n c n' c' gs hs B B' w h h' hB hB' hn hn').mono ?_
    rintro e w' ⟨rfl, hb⟩
    exact ⟨by simp [sameB], hb⟩
  · refine (same_no uid euid suid gid uid' euid' suid' gid' A A' n c n' c' w he).mono ?_
    rintro e w' ⟨rfl, hb⟩
    exact ⟨by rw [sameB, decide_eq_false (fun h => he h.1)], hb⟩

set_option maxHeartbeats 1000000 in
theorem rsame_no (uid euid suid gid uid' euid' suid' gid' : Int) (A A' : Option Addr) (n c n' c' : Nat) (gs hs : List Int) (w : World) (hne : ¬ (uid = uid' ∧ euid = euid' ∧ suid = suid' ∧ gid = gid')) :
    Calls Try.prog 13 #[.agg #[.int .u32 uid, .int .u32 euid, .int .u32 suid, .int .u32 gid, .slice A n c], .agg #[.int .u32 uid', .int .u32 euid', .int .u32 suid', .int .u32 gid', .slice A' n' c']] w
      fun e w' => e = .returned (.bool (sameB uid euid suid gid uid' euid' suid' gid' gs hs)) ∧ Below w.heap.size w w' := by
  have hs0 : Hid (sameB uid euid suid gid uid' euid' suid' gid' gs hs = false) := by unfold sameB; exact decide_eq_false (fun h => hne h.1)
  have hcs : (uid != uid') = true ∨ ((uid != uid') = false ∧ (euid != euid') = true) ∨ ((uid != uid') = false ∧ (euid != euid') = false ∧ (suid != suid') = true) ∨ ((uid != uid') = false ∧ (euid != euid') = false ∧ (suid != suid') = false ∧ (gid != gid') = true) := by
    simp only [bne_iff_ne, bne_eq_false_iff_eq]
    omega
  clear hne
  rcases hcs with hne | ⟨e1, hne⟩ | ⟨e1, e2, hne⟩ | ⟨e1, e2, e3, hne⟩
  all_goals
    go_enter Try.func13, Try.ntmps13
    go_wp2
    go_ret
    exact ⟨by rw [hs0.out]; rfl, ((Below.refl _ _).alloc (Nat.le_refl _) _).alloc (by simp) _⟩

set_option maxHeartbeats 1000000 in
theorem rsame_yes (uid euid suid gid : Int) (A A' : Option Addr) (n c n' c' : Nat) (gs hs : List Int) (B B' : Nat) (w : World) (h : Reads w B 1 A n (gs.map (Value.int .u32))) (h' : Reads w B' 1 A' n' (hs.map (Value.int .u32)))
    (hB : B ≤ w.heap.size) (hB' : B' ≤ w.heap.size) (hn : n ≤ 9223372036854775807) (hn' : n' ≤ 9223372036854775807) :
    Calls Try.prog 13 #[.agg #[.int .u32 uid, .int .u32 euid, .int .u32 suid, .int .u32 gid, .slice A n c], .agg #[.int .u32 uid, .int .u32 euid, .int .u32 suid, .int .u32 gid, .slice A' n' c']] w
      fun e w' => e = .returned (.bool (decide (gs = hs))) ∧ Below w.heap.size w w' := by
  have HL : Hid (gs.length = n) := by have := h.1; simp at this; exact this
  have HL' : Hid (hs.length = n') := by have := h'.1; simp at this; exact this
  have H := Lib.hid h
  have H' := Lib.hid h'
  clear h h'
  have e1 : (uid != uid) = false := by simp
  have e2 : (euid != euid) = false := by simp
  have e3 : (suid != suid) = false := by simp
  have e4 : (gid != gid) = false := by simp
  by_cases e : n = n'
  · subst e
    have hq : ((n : Int) != n) = false := by simp
    go_enter Try.func13, Try.ntmps13
    go_wp2
    obtain ⟨W, hW⟩ : ∃ W, W = (w.alloc (Obj.cells #[.int .u32 uid, .int .u32 euid, .int .u32 suid, .int .u32 gid, .slice A n c] 25)).alloc (Obj.cells #[.int .u32 uid, .int .u32 euid, .int .u32 suid, .int .u32 gid, .slice A' n c'] 25) := ⟨_, rfl⟩
    rw [← hW]
    have hb : Below w.heap.size w W := by subst hW; exact ((Below.refl _ _).alloc (Nat.le_refl _) _).alloc (by simp) _
    have c1 : W.cell? ⟨w.heap.size, 4, none⟩ = some (.slice A n c) := by subst hW; simp
    have c2 : W.cell? ⟨w.heap.size + 1, 4, none⟩ = some (.slice A' n c') := by subst hW; simp
    have HH : Hid (Reads W B 1 A n (gs.map (Value.int .u32))) := H.out.keep fun p hp => hb.cell (by omega)
    have HH' : Hid (Reads W B' 1 A' n (hs.map (Value.int .u32))) := H'.out.keep fun p hp => hb.cell (by omega)
    have HB := Lib.hid hb
    clear hW H H' hb
    go_loopw [5] (fun i wr => ∃ k m : Nat, k ≤ n ∧ i = .int .i64 k ∧ wr = W.drewN m ∧ Hid (∀ j, j < k → gs.getD j 0 = hs.getD j 0)) (fun i _ => n - (intOf i).toNat)
    case atStart => exact ⟨0, 0, Nat.zero_le _, rfl, rfl, fun j hj => absurd hj (by omega)⟩
    case round =>
      obtain ⟨k, m, hk, rfl, rfl, hno⟩ := hrel
      by_cases hlt : k < n
      · obtain ⟨ad, x, rfl, hb, hc, hx⟩ := u32_get HH.out hlt
        obtain ⟨ad', x', rfl, hb', hc', hx'⟩ := u32_get HH'.out hlt
        go_wp2
        go_quiet (fail)
        go_wp2
        · have hv : (x != x') = true := by assumption
          go_ret
          have : ¬ gs = hs := by
            intro e; subst e
            have e2 := hx.out.symm.trans hx'.out
            subst e2; simp at hv
          exact ⟨by rw [decide_eq_false this]; rfl, below_drewN (below_drewN HB.out _) _⟩
        · have hv : (x != x') = false := by assumption
          go_roundw
          case rel =>
            refine ⟨k + 1, _, by omega, by go_num, rfl, fun j hj => ?_⟩
            by_cases e : j = k
            · subst e; rw [hx.out, hx'.out]; simpa using hv
            · exact hno j (by omega)
          case measure => simp [intOf]; omega
      · go_wp2
        go_ret
        have : gs = hs := list_eq_of gs hs (by have := HL.out; have := HL'.out; omega) (fun j hj => hno j (by have := HL.out; omega))
        exact ⟨by rw [decide_eq_true this]; rfl, below_drewN HB.out _⟩
  · have hq : ((n : Int) != n') = true := by simp; omega
    go_enter Try.func13, Try.ntmps13
    go_wp2
    go_ret
    have : ¬ gs = hs := by intro e2; subst e2; have := HL.out; have := HL'.out; omega
    exact ⟨by rw [decide_eq_false this]; rfl, ((Below.refl _ _).alloc (Nat.le_refl _) _).alloc (by simp) _⟩

theorem rsame_any (uid euid suid gid uid' euid' suid' gid' : Int) (A A' : Option Addr) (n c n' c' : Nat) (gs hs : List Int) (B B' : Nat) (w : World) (h : Reads w B 1 A n (gs.map (Value.int .u32))) (h' : Reads w B' 1 A' n' (hs.map (Value.int .u32)))
    (hB : B ≤ w.heap.size) (hB' : B' ≤ w.heap.size) (hn : n ≤ 9223372036854775807) (hn' : n' ≤ 9223372036854775807) :
    Calls Try.prog 13 #[.agg #[.int .u32 uid, .int .u32 euid, .int .u32 suid, .int .u32 gid, .slice A n c], .agg #[.int .u32 uid', .int .u32 euid', .int .u32 suid', .int .u32 gid', .slice A' n' c']] w
      fun e w' => e = .returned (.bool (sameB uid euid suid gid uid' euid' suid' gid' gs hs)) ∧ Below w.heap.size w w' := by
  by_cases he : uid = uid' ∧ euid = euid' ∧ suid = suid' ∧ gid = gid'
  · obtain ⟨rfl, rfl, rfl, rfl⟩ := he
    refine (rsame_yes uid euid suid gid A A' n c n' c' gs hs B B' w h h' hB hB' hn hn').mono ?_
    rintro e w' ⟨rfl, hb⟩
    exact ⟨by simp [sameB], hb⟩
  · exact rsame_no uid euid suid gid uid' euid' suid' gid' A A' n c n' c' gs hs w he
end Go.Proofs.Ytnkmdbmepncbkaa
