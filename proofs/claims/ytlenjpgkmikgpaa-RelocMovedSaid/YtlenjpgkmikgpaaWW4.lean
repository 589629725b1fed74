import Derived.Test.YtlenjpgkmikgpaaWW1
namespace Go.Proofs.Ytlenjpgkmikgpaa.Wrd
open Go.RowKit Go.Hos
set_option linter.unusedVariables false

/-- the place of a number in a list, -1 where it is not there -/
def idx (gs : List Int) (v : Int) : Int := match gs.idxOf? v with | some k => (k : Int) | none => -1

theorem i64_get {w : World} {B n : Nat} {A : Option Addr} {gs : List Int} (h : Reads w B 1 A n (gs.map (Value.int .i64))) {k : Nat} (hk : k < n) :
    ∃ ad x, A = some ad ∧ ad.block < B ∧ w.cell? (ad.add k) = some (.int .i64 x) ∧ Hid (gs.getD k 0 = x) := by
  obtain ⟨ad, u, e, hb, hx, hc⟩ := h.at_ hk
  have hl : k < gs.length := by have := h.1; simp at this; omega
  refine ⟨ad, gs[k], e, hb, ?_, ?_⟩
  · rw [hc]
    rw [List.getElem?_map, List.getElem?_eq_getElem hl] at hx
    simp at hx
    rw [← hx]
  · show gs.getD k 0 = gs[k]
    rw [List.getD_eq_getElem?_getD, List.getElem?_eq_getElem hl]; rfl

theorem idx_hit (gs : List Int) (v : Int) (k : Nat) (hk : k < gs.length) (hno : ∀ j, j < k → gs.getD j 0 ≠ v) (hv : gs.getD k 0 = v) : idx gs v = k := by
  unfold idx
  have : gs.idxOf? v = some k := by
    rw [List.idxOf?, List.findIdx?_eq_some_iff_getElem]
    refine ⟨hk, ?_, ?_⟩
    · rw [List.getD_eq_getElem?_getD, List.getElem?_eq_getElem hk] at hv; simpa using hv
    · intro j hj
      have := hno j hj
      rw [List.getD_eq_getElem?_getD, List.getElem?_eq_getElem (by omega)] at this; simpa using this
  rw [this]
theorem idx_miss (gs : List Int) (v : Int) (hno : ∀ j, j < gs.length → gs.getD j 0 ≠ v) : idx gs v = -1 := by
  unfold idx
  have : gs.idxOf? v = none := by
    rw [List.idxOf?, List.findIdx?_eq_none_iff]
    intro x hx
    obtain ⟨j, hj, rfl⟩ := List.getElem_of_mem hx
    have := hno j hj
    rw [List.getD_eq_getElem?_getD, List.getElem?_eq_getElem (by omega)] at this; simpa using this
  rw [this]

set_option maxHeartbeats 400000 in
theorem index_any (A : Option Addr) (n c : Nat) (gs : List Int) (v : Int) (B : Nat) (w : World) (h : Reads w B 1 A n (gs.map (Value.int .i64))) (hn : n ≤ 9223372036854775807) :
    Calls Try.prog 53 #[.slice A n c, .int .i64 v] w fun e w' => e = .returned (.int .i64 (idx gs v)) ∧ w = w' := by
  have hlen : gs.length = n := by have := h.1; simpa using this
  go_enter Try.func53, Try.ntmps53
  go_wp2
  have H := Lib.hid h
  have HL := Lib.hid hlen
  clear h hlen
  go_loop [8] (fun i => ∃ k : Nat, k ≤ n ∧ i = .int .i64 k ∧ Hid (∀ j, j < k → gs.getD j 0 ≠ v)) (fun i => n - (intOf i).toNat)
  case atStart => exact ⟨0, Nat.zero_le _, rfl, fun j hj => absurd hj (by omega)⟩
  case round =>
    obtain ⟨k, hk, rfl, hno⟩ := hrel
    by_cases hlt : k < n
    · obtain ⟨ad, x, rfl, hb, hc, hx⟩ := i64_get H.out hlt
      go_wp2
      · have hv : (v == x) = true := by assumption
        go_ret
        exact ⟨by rw [idx_hit gs v k (by have := HL.out; omega) hno (by rw [hx.out]; simpa using (beq_iff_eq.1 hv).symm)]; rfl, rfl⟩
      · have hv : (v == x) = false := by assumption
        go_round
        case rel =>
          refine ⟨k + 1, by omega, by go_num, fun j hj => ?_⟩
          by_cases e : j = k
          · subst e; rw [hx.out]; intro e; subst e; simp at hv
          · exact hno j (by omega)
        case measure => simp [intOf]; omega
    · go_wp2
      go_ret
      exact ⟨by rw [idx_miss gs v (fun j hj => hno j (by have := HL.out; omega))]; rfl, rfl⟩

theorem idx_mem (gs : List Int) (v : Int) : decide (0 ≤ idx gs v) = decide (v ∈ gs) := by
  unfold idx
  cases h : gs.idxOf? v with
  | none => simp [List.idxOf?_eq_none_iff] at h; simp [h]
  | some k =>
    have : v ∈ gs := by
      apply Classical.byContradiction; intro hn
      have := (List.idxOf?_eq_none_iff (l := gs) (a := v)).2 hn
      rw [this] at h; cases h
    simp [this]
theorem contains_any (A : Option Addr) (n c : Nat) (gs : List Int) (v : Int) (B : Nat) (w : World) (h : Reads w B 1 A n (gs.map (Value.int .i64))) (hn : n ≤ 9223372036854775807) :
    Calls Try.prog 51 #[.slice A n c, .int .i64 v] w fun e w' => e = .returned (.bool (decide (v ∈ gs))) ∧ w = w' := by
  have H := Lib.hid h
  clear h
  go_enter Try.func51, Try.ntmps51
  go_wp2_with (go_at_call 53; refine (index_any _ _ _ gs _ B _ H.out hn).mono ?_; rintro e w' ⟨rfl, rfl⟩)
  go_ret
  exact ⟨by rw [← idx_mem]; rfl, rfl⟩

/-- may a number have so many bytes? -/
def szB (n : Int) : Bool := decide (n = 1 ∨ n = 2 ∨ n = 4 ∨ n = 8)
set_option maxHeartbeats 400000 in
theorem sized_any (n : Int) (w : World) : Calls Try.prog 43 #[.int .i64 n] w fun e w' => e = .returned (.bool (szB n)) ∧ Below w.heap.size w w' := by
  go_enter Try.func43, Try.ntmps43
  go_wp2_with fail
  have hr : Reads (w.alloc (.cells #[.int .i64 1, .int .i64 2, .int .i64 4, .int .i64 8] 91)) (w.heap.size + 1) 1 (some ⟨w.heap.size, 0, none⟩) 4 (([1, 2, 4, 8] : List Int).map (Value.int .i64)) := reads_new w 91 1 4 _ rfl rfl
  refine (contains_any _ _ _ [1, 2, 4, 8] n (w.heap.size + 1) _ hr (by omega)).mono ?_
  rintro e w' ⟨rfl, rfl⟩
  have e : decide (n ∈ ([1, 2, 4, 8] : List Int)) = szB n := by unfold szB; congr 1; simp
  rw [e]
  go_wp2
  go_ret
  exact ⟨rfl, (Below.refl _ _).alloc (Nat.le_refl _) _⟩

/-- may a number of a size stand there? the error -/
def plc (len at_ : Nat) (n : Int) : Int := if szB n then (if at_ + n.toNat ≤ len then 0 else 24) else 1
theorem plc_yes {len at_ : Nat} {n : Int} (h : szB n = true) (h2 : at_ + n.toNat ≤ len) : plc len at_ n = 0 := by simp [plc, h, h2]
theorem plc_short {len at_ : Nat} {n : Int} (h : szB n = true) (h2 : ¬ at_ + n.toNat ≤ len) : plc len at_ n = 24 := by simp [plc, h, h2]
theorem plc_arg {len at_ : Nat} {n : Int} (h : szB n = false) : plc len at_ n = 1 := by simp [plc, h]

set_option maxHeartbeats 400000 in
theorem check_any (A : Option Addr) (len c at_ : Nat) (n : Int) (w : World) (hl : len ≤ 9223372036854775807) (ha : at_ < M) :
    Calls Try.prog 32 #[.slice A len c, .int .u64 at_, .int .i64 n] w fun e w' => e = .returned (.int .i64 (plc len at_ n)) ∧ Below w.heap.size w w' := by
  cases hz : szB n
  · rw [plc_arg hz]
    go_enter Try.func32, Try.ntmps32
    go_wp2_with fail
    refine (sized_any n _).mono ?_
    rintro e w1 ⟨rfl, hb1⟩
    rw [hz]
    have HB := Lib.hid hb1
    clear hb1
    go_wp2_with fail
    go_ret
    exact ⟨rfl, HB.out⟩
  · have hn : 1 ≤ n ∧ n ≤ 8 := by have := of_decide_eq_true hz; omega
    obtain ⟨k, rfl⟩ := Int.eq_ofNat_of_zero_le (show 0 ≤ n by omega)
    have w1 : IntKind.u64.wrap (k : Int) = (k : Int) := by rw [IntKind.wrap_u64]; omega
    have w2 : IntKind.u64.wrap (len : Int) = (len : Int) := by rw [IntKind.wrap_u64]; omega
    have lM : len < M := by unfold M; omega
    have nM : k < M := by unfold M; omega
    have hz' := Lib.hid hz
    clear hn hz
    by_cases h2 : at_ + k ≤ len
    · rw [plc_yes hz'.out (by simpa using h2)]
      have H2 := Lib.hid h2
      clear h2
      go_enter Try.func32, Try.ntmps32
      go_wp2_with fail
      refine (sized_any k _).mono ?_
      rintro e w1 ⟨rfl, hb1⟩
      rw [hz'.out]
      have HB := Lib.hid hb1
      clear hb1
      go_wp2_with fail
      refine (inside_any at_ k len _ ha nM lM).mono ?_
      rintro e w2 ⟨rfl, rfl⟩
      rw [decide_eq_true H2.out]
      go_wp2
      go_ret
      exact ⟨rfl, HB.out⟩
    · rw [plc_short hz'.out (by simpa using h2)]
      have H2 := Lib.hid h2
      clear h2
      go_enter Try.func32, Try.ntmps32
      go_wp2_with fail
      refine (sized_any k _).mono ?_
      rintro e w1 ⟨rfl, hb1⟩
      rw [hz'.out]
      have HB := Lib.hid hb1
      clear hb1
      go_wp2_with fail
      refine (inside_any at_ k len _ ha nM lM).mono ?_
      rintro e w2 ⟨rfl, rfl⟩
      rw [decide_eq_false H2.out]
      go_wp2
      go_ret
      exact ⟨rfl, HB.out⟩

end Go.Proofs.Ytlenjpgkmikgpaa.Wrd
