import Derived.Test.YtnkmdbmepncbkaaW3
namespace Go.Proofs.Ytnkmdbmepncbkaa
open Go.RowKit Go.Hos Go.Sort

theorem list_eq_of (gs hs : List Int) (hl : gs.length = hs.length) (h : ∀ j, j < gs.length → gs.getD j 0 = hs.getD j 0) : gs = hs := by
  apply List.ext_getElem hl
  intro j h1 h2
  have := h j h1
  simpa [List.getD_eq_getElem?_getD, List.getElem?_eq_getElem h1, List.getElem?_eq_getElem h2] using this

set_option maxHeartbeats 400000 in
theorem equal_any (A A' : Option Addr) (n c n' c' : Nat) (gs hs : List Int) (B B' : Nat) (w : World) (h : Reads w B 1 A n (gs.map (Value.int .u32))) (h' : Reads w B' 1 A' n' (hs.map (Value.int .u32)))
    (hn : n ≤ 9223372036854775807) (hn' : n' ≤ 9223372036854775807) :
    Calls Try.prog 25 #[.slice A n c, .slice A' n' c'] w fun e w' => e = .returned (.bool (decide (gs = hs))) ∧ Below w.heap.size w w' := by
  have HL : Hid (gs.length = n) := by have := h.1; simp at this; exact this
  have HL' : Hid (hs.length = n') := by have := h'.1; simp at this; exact this
  have H := Lib.hid h
  have H' := Lib.hid h'
  clear h h'
  by_cases e : n = n'
  · subst e
    have hq : ((n : Int) != n) = false := by simp
    go_enter Try.func25, Try.ntmps25
    go_wp2
    go_loopw [13] (fun i wr => ∃ k m : Nat, k ≤ n ∧ i = .int .i64 k ∧ wr = w.drewN m ∧ Hid (∀ j, j < k → gs.getD j 0 = hs.getD j 0)) (fun i _ => n - (intOf i).toNat)
    case atStart => exact ⟨0, 0, Nat.zero_le _, rfl, rfl, fun j hj => absurd hj (by omega)⟩
    case round =>
      obtain ⟨k, m, hk, rfl, rfl, hno⟩ := hrel
      by_cases hlt : k < n
      · obtain ⟨ad, x, rfl, hb, hc, hx⟩ := u32_get H.out hlt
        obtain ⟨ad', x', rfl, hb', hc', hx'⟩ := u32_get H'.out hlt
        go_wp2
        go_quiet (fail)
        go_wp2
        · have hv : (x != x') = true := by assumption
          go_ret
          have : ¬ gs = hs := by
            intro e; subst e
            have e2 := hx.out.symm.trans hx'.out
            subst e2; simp at hv
          exact ⟨by rw [decide_eq_false this]; rfl, below_drewN (below_drewN (Below.refl _ _) _) _⟩
        · have hv : (x != x') = false := by assumption
          go_roundw
          case rel =>
            refine ⟨k + 1, _, by omega, by go_num, rfl, fun j hj => ?_⟩
            by_cases e : j = k
            · subst e; rw [hx.out, hx'.out]; simpa using hv
            · exact hno j (by omega)
          case measure => simp [intOf]; omega
      · go_wp2
        go_ret
        have : gs = hs := list_eq_of gs hs (by have := HL.out; have := HL'.out; omega) (fun j hj => hno j (by have := HL.out; omega))
        exact ⟨by rw [decide_eq_true this]; rfl, below_drewN (Below.refl _ _) _⟩
  · have hq : ((n : Int) != n') = true := by simp; omega
    go_enter Try.func25, Try.ntmps25
    go_wp2
    go_ret
    have : ¬ gs = hs := by intro e2; subst e2; have := HL.out; have := HL'.out; omega
    exact ⟨by rw [decide_eq_false this]; rfl, Below.refl _ _⟩

set_option maxHeartbeats 400000 in
theorem plain_any (uid euid suid gid : Int) (A : Option Addr) (n c : Nat) (w : World) :
    Calls Try.prog 24 #[.agg #[.int .u32 uid, .int .u32 euid, .int .u32 suid, .int .u32 gid, .slice A n c]] w
      fun e w' => e = .returned (.agg #[.int .u32 uid, .int .u32 euid, .int .u32 suid, .int .u32 gid]) ∧ Below w.heap.size w w' := by
  go_enter Try.func24, Try.ntmps24
  go_wp2
  refine bodyPost_ret (v := .agg #[.int .u32 uid, .int .u32 euid, .int .u32 suid, .int .u32 gid]) (by simp [results, Try.results24, go_sem]) rfl ⟨rfl, ?_⟩
  have h := (((Below.refl w.heap.size w).alloc (Nat.le_refl _) (.cells #[.int .u32 uid, .int .u32 euid, .int .u32 suid, .int .u32 gid, .slice A n c] 25)).alloc (by simp) (.cells #[.int .u32 uid, .int .u32 euid, .int .u32 suid, .int .u32 gid] 44))
  exact h
end Go.Proofs.Ytnkmdbmepncbkaa
