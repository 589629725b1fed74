import Derived.Test.YtlenjpgkmikgpaaSY2
import Derived.BigQuiet
import Derived.Deep.QuietTactic
namespace Go.Proofs.Ytlenjpgkmikgpaa.Sym
open Go.RowKit Go.Shelf Go.Hos
set_option linter.unusedVariables false
/-- is there such a symbol? -/
def thB (O : Nat → ObjD) (m : Nat) (i k : Int) : Bool := decide (0 ≤ i) && decide (i < m) && decide (0 ≤ k) && decide (k < (O i.toNat).sM)
theorem thB_yes {O : Nat → ObjD} {m : Nat} {i k : Int} (h : thB O m i k = true) : ∃ a b : Nat, i = a ∧ k = b ∧ a < m ∧ b < (O a).sM := by
  simp only [thB, Bool.and_eq_true, decide_eq_true_eq] at h
  obtain ⟨a, rfl⟩ := Int.eq_ofNat_of_zero_le h.1.1.1
  obtain ⟨b, rfl⟩ := Int.eq_ofNat_of_zero_le h.1.2
  exact ⟨a, b, rfl, rfl, by omega, by have := h.2; simp at this; omega⟩
theorem thB_of {O : Nat → ObjD} {m a b : Nat} (h : a < m) (h2 : b < (O a).sM) : thB O m a b = true := by simp [thB, h, h2]
def symZ : SymD := ⟨⟨#[]⟩, 0, 0, 0, false⟩
def symV (O : Nat → ObjD) (m : Nat) (i k : Int) : SymD := if thB O m i k then (O i.toNat).sy k.toNat else symZ
set_option maxRecDepth 20000 in
set_option maxHeartbeats 800000 in
theorem symbol_any (A : Option Addr) (m c : Nat) (O : Nat → ObjD) (i k : Int) (B : Nat) (w : World) (hR : ObjR w B A m O) (hB : B ≤ w.heap.size) :
    Calls Try.prog 47 #[.slice A m c, .int .i64 i, .int .i64 k] w fun e W' => e = .returned (.tuple #[.agg (symV O m i k).cs, .bool (thB O m i k)]) ∧ Below w.heap.size w W' := by
  have hm := hR.len
  have hmm : maxLen = 9223372036854775807 := by simp [maxLen]
  cases ht : thB O m i k
  · rw [symV, ht, if_neg (by simp), show symZ.cs = #[.string ⟨#[]⟩, .int .u64 0, .int .u64 0, .int .u8 0, .bool false] from rfl]
    by_cases h0 : i < 0
    · clear hR ht
      go_enter Try.func47, Try.ntmps47
      go_wp2_with fail
      exact bodyPost_ret (v := .tuple #[.agg #[.string ⟨#[]⟩, .int .u64 0, .int .u64 0, .int .u8 0, .bool false], .bool false]) (by simp [results, Try.results47, go_sem]) rfl ⟨rfl, (Below.refl _ _).alloc (Nat.le_refl _) _⟩
    · obtain ⟨a, rfl⟩ := Int.eq_ofNat_of_zero_le (show 0 ≤ i by omega)
      by_cases h1 : a < m
      · have e1 : ¬ (m : Int) ≤ (a : Int) := by omega
        have e1' : ¬ m ≤ a := by omega
        by_cases h2 : k < 0
        · clear hR ht
          go_enter Try.func47, Try.ntmps47
          go_wp2_with fail
          exact bodyPost_ret (v := .tuple #[.agg #[.string ⟨#[]⟩, .int .u64 0, .int .u64 0, .int .u8 0, .bool false], .bool false]) (by simp [results, Try.results47, go_sem]) rfl ⟨rfl, (Below.refl _ _).alloc (Nat.le_refl _) _⟩
        · obtain ⟨b, rfl⟩ := Int.eq_ofNat_of_zero_le (show 0 ≤ k by omega)
          obtain ⟨ad, rfl, had, _, _, _, _, _, _, _, _, _, c9, _⟩ := hR.cells h1
          have hsl := (hR.sy a h1).2
          have hge : (O a).sM ≤ b := by
            by_cases e : b < (O a).sM
            · rw [thB_of h1 e] at ht; cases ht
            · omega
          obtain ⟨l, hl⟩ : ∃ l, l = (O a).sM := ⟨_, rfl⟩
          obtain ⟨x0, hx0⟩ : ∃ l, l = (O a).sA := ⟨_, rfl⟩
          obtain ⟨x1, hx1⟩ : ∃ l, l = (O a).sQ := ⟨_, rfl⟩
          rw [← hl, ← hx0, ← hx1] at c9
          rw [← hl] at hge hsl
          have e2 : (l : Int) ≤ (b : Int) := by omega
          have lad := World.block_lt_of_cell? _ _ c9
          clear hR ht hl hx0 hx1
          go_enter Try.func47, Try.ntmps47
          go_wp2_with fail
          exact bodyPost_ret (v := .tuple #[.agg #[.string ⟨#[]⟩, .int .u64 0, .int .u64 0, .int .u8 0, .bool false], .bool false]) (by simp [results, Try.results47, go_sem]) rfl ⟨rfl, (Below.refl _ _).alloc (Nat.le_refl _) _⟩
      · have e1 : (m : Int) ≤ (a : Int) := by omega
        have e1' : m ≤ a := by omega
        clear hR ht
        go_enter Try.func47, Try.ntmps47
        go_wp2_with fail
        exact bodyPost_ret (v := .tuple #[.agg #[.string ⟨#[]⟩, .int .u64 0, .int .u64 0, .int .u8 0, .bool false], .bool false]) (by simp [results, Try.results47, go_sem]) rfl ⟨rfl, (Below.refl _ _).alloc (Nat.le_refl _) _⟩
  · obtain ⟨a, b, rfl, rfl, ha, hb⟩ := thB_yes ht
    rw [symV, ht, if_pos rfl, Int.toNat_natCast, Int.toNat_natCast]
    obtain ⟨ad, rfl, had, _, _, _, _, _, _, _, _, _, c9, _⟩ := hR.cells ha
    obtain ⟨hsy, hsl⟩ := hR.sy a ha
    obtain ⟨ads, hs1, hs2, d0, d1, d2, d3, d4⟩ := sym_cells hsy hb
    obtain ⟨l, hl⟩ : ∃ l, l = (O a).sM := ⟨_, rfl⟩
    obtain ⟨x0, hx0⟩ : ∃ l, l = (O a).sA := ⟨_, rfl⟩
    obtain ⟨x1, hx1⟩ : ∃ l, l = (O a).sQ := ⟨_, rfl⟩
    rw [← hl, ← hx0, ← hx1] at c9
    rw [← hl] at hb hsl
    rw [← hx0] at hs1
    obtain ⟨s, hs⟩ : ∃ s, s = (O a).sy b := ⟨_, rfl⟩
    rw [← hs] at d0 d1 d2 d3 d4 ⊢
    obtain ⟨nm2, v, sz, bd, df⟩ := s
    dsimp only at d0 d1 d2 d3 d4
    rw [show (SymD.mk nm2 v sz bd df).cs = #[.string nm2, .int .u64 v, .int .u64 sz, .int .u8 bd, .bool df] from rfl]
    subst hs1
    have e0 : ¬ (a : Int) < 0 := by omega
    have e1 : ¬ (m : Int) ≤ (a : Int) := by omega
    have e2 : ¬ (b : Int) < 0 := by omega
    have e3 : ¬ (l : Int) ≤ (b : Int) := by omega
    have e1' : ¬ m ≤ a := by omega
    have e3' : ¬ l ≤ b := by omega
    have l1 := World.block_lt_of_cell? _ _ c9
    have l2 := World.block_lt_of_cell? _ _ d0
    clear hR ht hsy hl hx0 hx1 hs
    go_enter Try.func47, Try.ntmps47
    go_wp2_with fail
    exact bodyPost_ret (v := .tuple #[.agg #[.string nm2, .int .u64 v, .int .u64 sz, .int .u8 bd, .bool df], .bool true]) (by simp [results, Try.results47, go_sem]) rfl ⟨rfl, (Below.refl _ _).alloc (Nat.le_refl _) _⟩
def vlV (O : Nat → ObjD) (m : Nat) (i k : Int) : Int := if thB O m i k then IntKind.u64.wrap ((O i.toNat).base + ((O i.toNat).sy k.toNat).v) else 0
set_option maxRecDepth 20000 in
set_option maxHeartbeats 800000 in
theorem value_any (A : Option Addr) (m c : Nat) (O : Nat → ObjD) (i k : Int) (B : Nat) (w : World) (hR : ObjR w B A m O) (hB : B ≤ w.heap.size) :
    Calls Try.prog 48 #[.slice A m c, .int .i64 i, .int .i64 k] w fun e W' => e = .returned (.int .u64 (vlV O m i k)) ∧ Below w.heap.size w W' := by
  have hm := hR.len
  have hmm : maxLen = 9223372036854775807 := by simp [maxLen]
  have H := Lib.hid hR
  cases ht : thB O m i k
  · have hv : Hid (symV O m i k = symZ) := Lib.hid (by rw [symV, ht, if_neg (by simp)])
    rw [vlV, ht, if_neg (by simp)]
    have HT := Lib.hid ht
    clear hR ht
    go_enter Try.func48, Try.ntmps48
    go_wp2_with fail
    refine (symbol_any A m c O i k B _ H.out hB).mono ?_
    rw [hv.out, HT.out, show symZ.cs = #[.string ⟨#[]⟩, .int .u64 0, .int .u64 0, .int .u8 0, .bool false] from rfl]
    rintro e w1 ⟨rfl, bl1⟩
    have BL := Lib.hid bl1
    clear bl1
    go_wp2_with fail
    go_ret
    exact ⟨rfl, BL.out.alloc BL.out.size _⟩
  · have hv : Hid (symV O m i k = (O i.toNat).sy k.toNat) := Lib.hid (by rw [symV, ht, if_pos rfl])
    rw [vlV, ht, if_pos rfl]
    have HT := Lib.hid ht
    obtain ⟨a, b, rfl, rfl, ha, hb⟩ := thB_yes ht
    rw [Int.toNat_natCast, Int.toNat_natCast] at hv ⊢
    obtain ⟨s, hs⟩ : ∃ s, s = (O a).sy b := ⟨_, rfl⟩
    rw [← hs] at hv ⊢
    obtain ⟨nm2, v, sz, bd, df⟩ := s
    dsimp only
    obtain ⟨bs, hbs⟩ : ∃ x, x = (O a).base := ⟨_, rfl⟩
    have HBS := Lib.hid hbs
    rw [← hbs]
    have e1 : (a : Int) < (m : Int) := by omega
    have e2 : (0 : Int) ≤ (a : Int) := by omega
    clear hR ht hs hbs
    go_enter Try.func48, Try.ntmps48
    go_wp2_with fail
    refine (symbol_any A m c O a b B _ H.out hB).mono ?_
    rw [hv.out, HT.out, show (SymD.mk nm2 v sz bd df).cs = #[.string nm2, .int .u64 v, .int .u64 sz, .int .u8 bd, .bool df] from rfl]
    rintro e w1 ⟨rfl, bl1⟩
    obtain ⟨ad, hA, had, _, c1, _⟩ := (H.out.below (bl1.mono hB)).cells ha
    rw [← HBS.out] at c1
    subst hA
    have l1 := World.block_lt_of_cell? _ _ c1
    have BL := Lib.hid bl1
    clear bl1
    go_wp2_with fail
    go_quiet (fail)
    go_wp2_with fail
    go_ret
    exact ⟨rfl, below_drewN (BL.out.alloc BL.out.size _) _⟩
end Go.Proofs.Ytlenjpgkmikgpaa.Sym
