import Derived.Test.YtlenjpgkmikgpaaSY4
import Derived.Test.YtlenjpgkmikgpaaSY4
namespace Go.Proofs.Ytlenjpgkmikgpaa.Sym
open Go.RowKit Go.Shelf Go.Hos
set_option linter.unusedVariables false
/-! the second writing of hostel/symbols: hostelref18 -/
set_option maxRecDepth 20000 in
set_option maxHeartbeats 800000 in
theorem defines_any (s : SymD) (w : World) : Calls Try.prog 50 #[.agg s.cs] w fun e W' => e = .returned (.bool (dfB s)) ∧ Below w.heap.size w W' := by
  obtain ⟨nm, v, sz, bd, df⟩ := s
  rw [show (SymD.mk nm v sz bd df).cs = #[.string nm, .int .u64 v, .int .u64 sz, .int .u8 bd, .bool df] from rfl]
  cases df
  · rw [show dfB ⟨nm, v, sz, bd, false⟩ = false from rfl]
    go_enter Try.func50, Try.ntmps50
    go_wp2_with fail
    go_ret
    exact ⟨rfl, (Below.refl _ _).alloc (Nat.le_refl _) _⟩
  · by_cases h : bd = 0
    · subst h
      rw [show dfB ⟨nm, v, sz, 0, true⟩ = false from rfl]
      go_enter Try.func50, Try.ntmps50
      go_wp2_with fail
      go_ret
      exact ⟨rfl, (Below.refl _ _).alloc (Nat.le_refl _) _⟩
    · have h2 : (bd != 0) = true := by simpa using h
      have h3 : (bd == 0) = false := by simpa using h
      rw [show dfB ⟨nm, v, sz, bd, true⟩ = true from by unfold dfB; dsimp only; rw [h2]; rfl]
      go_enter Try.func50, Try.ntmps50
      go_wp2_with fail
      go_ret
      exact ⟨rfl, (Below.refl _ _).alloc (Nat.le_refl _) _⟩
set_option maxRecDepth 20000 in
set_option maxHeartbeats 800000 in
theorem there_any (A : Option Addr) (m c : Nat) (O : Nat → ObjD) (i k : Int) (B : Nat) (w : World) (hR : ObjR w B A m O) :
    Calls Try.prog 40 #[.slice A m c, .int .i64 i, .int .i64 k] w fun e W' => e = .returned (.bool (thB O m i k)) ∧ w = W' := by
  have hm := hR.len
  have hmm : maxLen = 9223372036854775807 := by simp [maxLen]
  by_cases h0 : i < 0
  · have e0 : decide (0 ≤ i) = false := by simp; omega
    have e0' : ¬ (0 : Int) ≤ i := by omega
    rw [show thB O m i k = false from by unfold thB; rw [e0]; rfl]
    clear hR
    go_enter Try.func40, Try.ntmps40
    go_wp2_with fail
    go_ret
    exact ⟨rfl, rfl⟩
  · obtain ⟨a, rfl⟩ := Int.eq_ofNat_of_zero_le (show 0 ≤ i by omega)
    have e0 : (0 : Int) ≤ (a : Int) := by omega
    by_cases h1 : a < m
    · have e1 : (a : Int) < (m : Int) := by omega
      by_cases h2 : k < 0
      · have e2 : decide (0 ≤ k) = false := by simp; omega
        have e2' : ¬ (0 : Int) ≤ k := by omega
        rw [show thB O m a k = false from by unfold thB; rw [e2]; simp]
        clear hR
        go_enter Try.func40, Try.ntmps40
        go_wp2_with fail
        go_ret
        exact ⟨rfl, rfl⟩
      · obtain ⟨b, rfl⟩ := Int.eq_ofNat_of_zero_le (show 0 ≤ k by omega)
        have e2 : (0 : Int) ≤ (b : Int) := by omega
        obtain ⟨ad, rfl, had, _, _, _, _, _, _, _, _, _, c9, _⟩ := hR.cells h1
        have hsl := (hR.sy a h1).2
        obtain ⟨t, ht⟩ : ∃ t, t = thB O m a b := ⟨_, rfl⟩
        rw [← ht]
        obtain ⟨l, hl⟩ : ∃ l, l = (O a).sM := ⟨_, rfl⟩
        obtain ⟨x0, hx0⟩ : ∃ l, l = (O a).sA := ⟨_, rfl⟩
        obtain ⟨x1, hx1⟩ : ∃ l, l = (O a).sQ := ⟨_, rfl⟩
        have ht2 : t = decide (b < l) := by rw [ht, hl]; unfold thB; simp [h1]
        rw [← hl, ← hx0, ← hx1] at c9
        rw [← hl] at hsl
        have l1 := World.block_lt_of_cell? _ _ c9
        have HT := Lib.hid ht2
        clear hR hl hx0 hx1 ht ht2
        go_enter Try.func40, Try.ntmps40
        go_wp2_with fail
        go_ret
        exact ⟨by rw [HT.out]; rfl, rfl⟩
    · have e1 : decide ((a : Int) < (m : Int)) = false := by simp; omega
      have e1' : ¬ (a : Int) < (m : Int) := by omega
      rw [show thB O m a k = false from by unfold thB; rw [e1]; simp]
      clear hR
      go_enter Try.func40, Try.ntmps40
      go_wp2_with fail
      go_ret
      exact ⟨rfl, rfl⟩
set_option maxRecDepth 20000 in
set_option maxHeartbeats 800000 in
theorem value18_any (A : Option Addr) (m c : Nat) (O : Nat → ObjD) (i k : Int) (B : Nat) (w : World) (hR : ObjR w B A m O) :
    Calls Try.prog 41 #[.slice A m c, .int .i64 i, .int .i64 k] w fun e W' => e = .returned (.int .u64 (vlV O m i k)) ∧ Below w.heap.size w W' := by
  have hm := hR.len
  have hmm : maxLen = 9223372036854775807 := by simp [maxLen]
  have H := Lib.hid hR
  cases ht : thB O m i k
  · rw [vlV, ht, if_neg (by simp)]
    have HT := Lib.hid ht
    clear hR ht
    go_enter Try.func41, Try.ntmps41
    go_wp2_with fail
    refine (there_any A m c O i k B _ H.out).mono ?_
    rw [HT.out]
    rintro e w1 ⟨rfl, rfl⟩
    go_wp2_with fail
    go_ret
    exact ⟨rfl, Below.refl _ _⟩
  · rw [vlV, ht, if_pos rfl]
    have HT := Lib.hid ht
    obtain ⟨a, b, rfl, rfl, ha, hb⟩ := thB_yes ht
    rw [Int.toNat_natCast, Int.toNat_natCast]
    obtain ⟨ad, rfl, had, _, c1, _, _, _, _, _, _, _, c9, _⟩ := hR.cells ha
    obtain ⟨hsy, hsl⟩ := hR.sy a ha
    obtain ⟨ads, hs1, hs2, d0, d1, d2, d3, d4⟩ := sym_cells hsy hb
    obtain ⟨l, hl⟩ : ∃ l, l = (O a).sM := ⟨_, rfl⟩
    obtain ⟨x0, hx0⟩ : ∃ l, l = (O a).sA := ⟨_, rfl⟩
    obtain ⟨x1, hx1⟩ : ∃ l, l = (O a).sQ := ⟨_, rfl⟩
    rw [← hl, ← hx0, ← hx1] at c9
    rw [← hl] at hb hsl
    rw [← hx0] at hs1
    obtain ⟨s, hs⟩ : ∃ s, s = (O a).sy b := ⟨_, rfl⟩
    rw [← hs] at d0 d1 d2 d3 d4 ⊢
    obtain ⟨bs, hbs⟩ : ∃ x, x = (O a).base := ⟨_, rfl⟩
    rw [← hbs] at c1 ⊢
    obtain ⟨nm2, v, sz, bd, df⟩ := s
    dsimp only at d0 d1 d2 d3 d4 ⊢
    subst hs1
    have e0 : (a : Int) < (m : Int) := by omega
    have e2 : (b : Int) < (l : Int) := by omega
    have l1 := World.block_lt_of_cell? _ _ c1
    have l2 := World.block_lt_of_cell? _ _ d0
    clear hR ht hsy hl hx0 hx1 hs hbs
    go_enter Try.func41, Try.ntmps41
    go_wp2_with fail
    refine (there_any _ m c O a b B _ H.out).mono ?_
    rw [HT.out]
    rintro e w1 ⟨rfl, rfl⟩
    go_wp2_with fail
    go_quiet (fail)
    go_wp2_with fail
    go_ret
    exact ⟨rfl, below_drewN (Below.refl _ _) _⟩
end Go.Proofs.Ytlenjpgkmikgpaa.Sym
