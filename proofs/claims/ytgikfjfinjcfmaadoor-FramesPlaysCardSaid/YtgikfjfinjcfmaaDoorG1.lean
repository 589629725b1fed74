import Derived.Test.YtgikfjfinjcfmaaDoorF9
namespace Go.Proofs.YtgikfjfinjcfmaaDoor
open Go.RowKit Go.Hos
set_option linter.unusedVariables false
/-- a call, as it lies in memory -/
structure OpD where
  k : Int
  x : Int
  y : Int
  z : Int
  A : Option Addr
  m : Nat
  q : Nat
  bs : List Nat
/-- a slice of calls that reads -/
def OpR (W : World) (B : Nat) (A : Option Addr) (n : Nat) (O : Nat → OpD) : Prop :=
  ∀ i, i < n → ∃ ad, A = some ad ∧ ad.block < B ∧ W.cell? (ad.add (i * 5)) = some (.int .i64 (O i).k) ∧ W.cell? (ad.add (i * 5 + 1)) = some (.int .i64 (O i).x) ∧ W.cell? (ad.add (i * 5 + 2)) = some (.int .i64 (O i).y) ∧
    W.cell? (ad.add (i * 5 + 3)) = some (.int .i64 (O i).z) ∧ W.cell? (ad.add (i * 5 + 4)) = some (.slice (O i).A (O i).m (O i).q) ∧ Reads W B 1 (O i).A (O i).m (u8s (O i).bs) ∧ (O i).m ≤ maxLen
theorem OpR.below {W W' : World} {B : Nat} {A : Option Addr} {n : Nat} {O : Nat → OpD} (h : OpR W B A n O) (hb : Below B W W') : OpR W' B A n O := fun i hi => by
  obtain ⟨ad, e, hl, c0, c1, c2, c3, c4, hr, hm⟩ := h i hi
  have hc : ∀ j, W'.cell? (ad.add j) = W.cell? (ad.add j) := fun j => hb.cell (by rw [block_of_add]; exact hl)
  exact ⟨ad, e, hl, by rw [hc]; exact c0, by rw [hc]; exact c1, by rw [hc]; exact c2, by rw [hc]; exact c3, by rw [hc]; exact c4, hr.below hb, hm⟩

theorem add_field (a : Addr) (n k : Nat) : a.add (n + (k + 1)) = ⟨(a.add n).block, (a.add n).off + (k + 1), none⟩ := by
  unfold Addr.add
  rw [if_neg (by omega)]
  by_cases h : n = 0
  · simp [h]
  · simp [h, Nat.add_assoc]
theorem right_any (x : Int) (w : World) : Calls Tryd.prog 13 #[.int .i64 x] w fun e w' => e = .returned (.bool (decide (1 ≤ x) && decide (x ≤ 1024))) ∧ w = w' := by
  by_cases h1 : 1 ≤ x
  · by_cases h2 : x ≤ 1024
    · go_enter Tryd.func13, Tryd.ntmps13
      go_wp2_with fail
      go_ret
      exact ⟨by simp [h1, h2], rfl⟩
    · go_enter Tryd.func13, Tryd.ntmps13
      go_wp2_with fail
      go_ret
      exact ⟨by simp [h2], rfl⟩
  · go_enter Tryd.func13, Tryd.ntmps13
    go_wp2_with fail
    go_ret
    exact ⟨by simp; omega, rfl⟩
def bigB (O : Nat → OpD) (n : Nat) : Bool := decide (300 < n) || (List.range n).any fun i => decide (16384 < (O i).m)
set_option maxHeartbeats 800000 in
theorem vast_any {B n q : Nat} {A : Option Addr} {O : Nat → OpD} (w : World) (h : OpR w B A n O) (hn : n ≤ maxLen) :
    Calls Tryd.prog 14 #[.slice A n q] w fun e w' => e = .returned (.bool (bigB O n)) ∧ w = w' := by
  have H := Lib.hid h
  have hml : maxLen = 9223372036854775807 := by simp [maxLen]
  by_cases h3 : 300 < n
  · have h3' : (300 : Int) < (n : Int) := by omega
    have E : Hid (bigB O n = true) := Lib.hid (by simp [bigB, h3])
    clear h hn h3
    go_enter Tryd.func14, Tryd.ntmps14
    go_wp2_with fail
    go_ret
    exact ⟨by rw [E.out]; rfl, rfl⟩
  · have h3' : ¬ (300 : Int) < (n : Int) := by omega
    clear h
    go_enter Tryd.func14, Tryd.ntmps14
    go_wp2_with fail
    go_loop [3] (fun v => ∃ i : Nat, i ≤ n ∧ v = .int .i64 i ∧ Hid (∀ j, j < i → (O j).m ≤ 16384)) (fun v => n - (intOf v).toNat)
    case atStart => exact ⟨0, by omega, rfl, fun j hj => absurd hj (by omega)⟩
    case round =>
      obtain ⟨i, hi, rfl, hall⟩ := hrel
      by_cases hin : i < n
      · have e1 : decide ((i : Int) < (n : Int)) = true := by simp; omega
        obtain ⟨ad, hA, hl, c0, c1, c2, c3, c4, hr, hm⟩ := H.out i hin
        obtain ⟨m, hmm⟩ : ∃ m, m = (O i).m := ⟨_, rfl⟩
        obtain ⟨x0, hx0⟩ : ∃ x, x = (O i).A := ⟨_, rfl⟩
        obtain ⟨x1, hx1⟩ : ∃ x, x = (O i).q := ⟨_, rfl⟩
        subst hA
        rw [← hmm, ← hx0, ← hx1, add_field ad (i * 5) 3] at c4
        by_cases hb : 16384 < m
        · have hb' : (16384 : Int) < (m : Int) := by omega
          have E : Hid (bigB O n = true) := by
            show bigB O n = true
            simp only [bigB, Bool.or_eq_true, List.any_eq_true]
            exact .inr ⟨i, by simpa using hin, by rw [← hmm]; simpa using hb⟩
          clear hr hm hmm hx0 hx1 hb
          go_wp2_with fail
          go_ret
          exact ⟨by rw [E.out]; rfl, rfl⟩
        · have hb' : ¬ (16384 : Int) < (m : Int) := by omega
          have hall' : Hid (∀ j, j < i + 1 → (O j).m ≤ 16384) := fun j hj => by
            by_cases e : j = i
            · subst e; omega
            · exact hall.out j (by omega)
          clear hr hm hmm hx0 hx1 hb
          go_wp2_with fail
          go_round
          case rel => exact ⟨i + 1, by omega, by go_num, hall'⟩
          case measure => simp [intOf]; omega
      · obtain rfl : i = n := by omega
        have E : Hid (bigB O i = false) := by
          show bigB O i = false
          simp only [bigB, Bool.or_eq_false_iff, List.any_eq_false]
          exact ⟨by simpa using h3, fun j hj => by have := hall.out j (by simpa using hj); simpa using this⟩
        go_wp2_with fail
        go_ret
        exact ⟨by rw [E.out]; rfl, rfl⟩
theorem info5' : (Tryd.prog.info? 5).map (fun i => (i.zero, i.size, i.bytes)) = some (some (.int .u8 0), 1, 1) := by kernel_rfl
set_option maxHeartbeats 800000 in
theorem twin_any {B m q : Nat} {A : Option Addr} {bs : List Nat} (w : World) (hr : Reads w B 1 A m (u8s bs)) (hm : m ≤ 16384) (hB : B ≤ w.heap.size) :
    Calls Tryd.prog 33 #[.slice A m q] w fun e w' => ∃ A' q', e = .returned (.slice A' m q') ∧ Reads w' w'.heap.size 1 A' m (u8s bs) ∧ Below w.heap.size w w' := by
  have HR := Lib.hid hr
  obtain ⟨i0, hi0, hz0, hz1, hz2⟩ := info_parts info5'
  clear hr
  go_enter Tryd.func33, Tryd.ntmps33
  go_wp2_with (at_builtin
               refine wpList_append_any _ rfl (.tmp 3) (.tmp 4) _ rfl w.heap.size 5 i0 _ 1 1 Tryd.underlying42 hi0 hz0 hz1 hz2 rfl (by omega) (.slice (some ⟨w.heap.size, 0, none⟩) 0 0) 0 [] rfl
                 (owns_empty w 5 1 (Nat.le_refl _)) B A m q (u8s bs) rfl (HR.out.alloc hB _) (u8s_one bs) (by simp only [maxLen]; omega) (by omega) (by simp) ?_
               intro v1 w1 hown hg hat
               simp only [Nat.zero_add, List.nil_append] at hown
               obtain ⟨A1, c1, rfl⟩ := ownsRow_val hown
               have R1 : Hid (Reads w1 w1.heap.size 1 A1 m (u8s bs) ∧ Below w.heap.size w w1) := by
                 refine ⟨Reads.of_own hown, ?_⟩
                 refine ((Below.refl _ _).alloc (Nat.le_refl _) _).trans (below_own hg (by simp) ?_)
                 intro k hk
                 have : w.heap.size = k := by simpa [Value.ownBlock] using hk
                 omega
               clear hown hg hat)
  go_ret
  exact ⟨A1, c1, rfl, R1.out.1, R1.out.2⟩
end Go.Proofs.YtgikfjfinjcfmaaDoor
