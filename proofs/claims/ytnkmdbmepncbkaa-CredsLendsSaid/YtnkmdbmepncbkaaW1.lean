import Derived.Test.YtnkmdbmepncbkaaMem
import Derived.Test.YtnkmdbmepncbkaaRows
import Derived.WalkKit
import Derived.WalkSpells
import Derived.WalkLawsBesides
namespace Go.Proofs.Ytnkmdbmepncbkaa
open Go.RowKit Go.Hos

/-- the place of a number in a list, -1 where it is not there -/
def idx (gs : List Int) (v : Int) : Int := match gs.idxOf? v with | some k => (k : Int) | none => -1

theorem u32_get {w : World} {B n : Nat} {A : Option Addr} {gs : List Int} (h : Reads w B 1 A n (gs.map (Value.int .u32))) {k : Nat} (hk : k < n) :
    ∃ ad x, A = some ad ∧ ad.block < B ∧ w.cell? (ad.add k) = some (.int .u32 x) ∧ Hid (gs.getD k 0 = x) := by
  obtain ⟨ad, u, e, hb, hx, hc⟩ := h.at_ hk
  have hl : k < gs.length := by have := h.1; simp at this; omega
  refine ⟨ad, gs[k], e, hb, ?_, ?_⟩
  · rw [hc]
    rw [List.getElem?_map, List.getElem?_eq_getElem hl] at hx
    simp at hx
    rw [← hx]
  · show gs.getD k 0 = gs[k]
    rw [List.getD_eq_getElem?_getD, List.getElem?_eq_getElem hl]; rfl

theorem idx_hit (gs : List Int) (v : Int) (k : Nat) (hk : k < gs.length) (hno : ∀ j, j < k → gs.getD j 0 ≠ v) (hv : gs.getD k 0 = v) : idx gs v = k := by
  unfold idx
  have : gs.idxOf? v = some k := by
    rw [List.idxOf?, List.findIdx?_eq_some_iff_getElem]
    refine ⟨hk, ?_, ?_⟩
    · rw [List.getD_eq_getElem?_getD, List.getElem?_eq_getElem hk] at hv; simpa using hv
    · intro j hj
      have := hno j hj
      rw [List.getD_eq_getElem?_getD, List.getElem?_eq_getElem (by omega)] at this; simpa using this
  rw [this]
theorem idx_miss (gs : List Int) (v : Int) (hno : ∀ j, j < gs.length → gs.getD j 0 ≠ v) : idx gs v = -1 := by
  unfold idx
  have : gs.idxOf? v = none := by
    rw [List.idxOf?, List.findIdx?_eq_none_iff]
    intro x hx
    obtain ⟨j, hj, rfl⟩ := List.getElem_of_mem hx
    have := hno j hj
    rw [List.getD_eq_getElem?_getD, List.getElem?_eq_getElem (by omega)] at this; simpa using this
  rw [this]

set_option maxHeartbeats 400000 in
theorem index_any (A : Option Addr) (n c : Nat) (gs : List Int) (v : Int) (B : Nat) (w : World) (h : Reads w B 1 A n (gs.map (Value.int .u32))) (hn : n ≤ 9223372036854775807) :
    Calls Try.prog 27 #[.slice A n c, .int .u32 v] w fun e w' => e = .returned (.int .i64 (idx gs v)) ∧ w = w' := by
  have hlen : gs.length = n := by have := h.1; simpa using this
  go_enter Try.func27, Try.ntmps27
  go_wp2
  have H := Lib.hid h
  have HL := Lib.hid hlen
  clear h hlen
  go_loop [8] (fun i => ∃ k : Nat, k ≤ n ∧ i = .int .i64 k ∧ Hid (∀ j, j < k → gs.getD j 0 ≠ v)) (fun i => n - (intOf i).toNat)
  case atStart => exact ⟨0, Nat.zero_le _, rfl, fun j hj => absurd hj (by omega)⟩
  case round =>
    obtain ⟨k, hk, rfl, hno⟩ := hrel
    by_cases hlt : k < n
    · obtain ⟨ad, x, rfl, hb, hc, hx⟩ := u32_get H.out hlt
      go_wp2
      · have hv : (v == x) = true := by assumption
        go_ret
        exact ⟨by rw [idx_hit gs v k (by have := HL.out; omega) hno (by rw [hx.out]; simpa using (beq_iff_eq.1 hv).symm)]; rfl, rfl⟩
      · have hv : (v == x) = false := by assumption
        go_round
        case rel =>
          refine ⟨k + 1, by omega, by go_num, fun j hj => ?_⟩
          by_cases e : j = k
          · subst e; rw [hx.out]; intro e; subst e; simp at hv
          · exact hno j (by omega)
        case measure => simp [intOf]; omega
    · go_wp2
      go_ret
      exact ⟨by rw [idx_miss gs v (fun j hj => hno j (by have := HL.out; omega))]; rfl, rfl⟩

theorem idx_mem (gs : List Int) (v : Int) : decide (0 ≤ idx gs v) = decide (v ∈ gs) := by
  unfold idx
  cases h : gs.idxOf? v with
  | none => simp [List.idxOf?_eq_none_iff] at h; simp [h]
  | some k =>
    have : v ∈ gs := by
      apply Classical.byContradiction; intro hn
      have := (List.idxOf?_eq_none_iff (l := gs) (a := v)).2 hn
      rw [this] at h; cases h
    simp [this]
theorem contains_any (A : Option Addr) (n c : Nat) (gs : List Int) (v : Int) (B : Nat) (w : World) (h : Reads w B 1 A n (gs.map (Value.int .u32))) (hn : n ≤ 9223372036854775807) :
    Calls Try.prog 26 #[.slice A n c, .int .u32 v] w fun e w' => e = .returned (.bool (decide (v ∈ gs))) ∧ w = w' := by
  have H := Lib.hid h
  clear h
  go_enter Try.func26, Try.ntmps26
  go_wp2_with (go_at_call 27; refine (index_any _ _ _ gs _ B _ H.out hn).mono ?_; rintro e w' ⟨rfl, rfl⟩)
  go_ret
  exact ⟨by rw [← idx_mem]; rfl, rfl⟩
end Go.Proofs.Ytnkmdbmepncbkaa
