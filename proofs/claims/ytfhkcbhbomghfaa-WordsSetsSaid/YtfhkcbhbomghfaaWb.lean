import Derived.Test.YtfhkcbhbomghfaaWa
namespace Go.Proofs.Ytfhkcbhbomghfaa
open Go.RowKit Go.Hos
set_option linter.unusedVariables false

/-- what Roomy lays behind -/
def sp : List Nat := [99, 98, 97, 96, 95, 94, 93]
theorem sp_get {i : Nat} (hi : i < 7) : sp.getD i 0 = 99 - i := by
  rcases i with _ | _ | _ | _ | _ | _ | _ | i <;> first | rfl | omega

theorem fill_up (xs : List Nat) (k x : Nat) (hk : k < xs.length) (hx : xs.getD k 0 = x) : (xs.take k ++ List.replicate (xs.length - k) 0).set k x = xs.take (k + 1) ++ List.replicate (xs.length - (k + 1)) 0 := by
  apply List.ext_getElem
  · simp; omega
  · intro i h1 h2
    rw [List.getElem_set]
    by_cases e : k = i
    · subst e
      rw [if_pos rfl, List.getElem_append_left (by simp; omega)]
      simp [← hx, List.getD_eq_getElem?_getD, List.getElem?_eq_getElem hk]
    · rw [if_neg e]
      by_cases l : i < k
      · rw [List.getElem_append_left (by simp; omega), List.getElem_append_left (by simp; omega)]; simp
      · rw [List.getElem_append_right (by simp; omega), List.getElem_append_right (by simp; omega)]
        simp

set_option maxHeartbeats 800000 in
theorem roomy_any (A : Option Addr) (n c : Nat) (bs : List Nat) (B : Nat) (w : World) (h : Reads w B 1 A n (B8 bs)) (hB : B ≤ w.heap.size) (hn : n ≤ 70368744177664) :
    Calls Try.prog 10 #[.slice A n c] w fun e w' => ∃ g, e = .returned (.slice (some ⟨g, 0, none⟩) n (n + 7 : Nat)) ∧ w.heap.size ≤ g ∧ OB w w.heap.size g (n + 7) (bs ++ sp) w' := by
  have HL := b8_len h
  obtain ⟨n7, h7⟩ : ∃ n7, n7 = n + 7 := ⟨_, rfl⟩
  have h7i : (n : Int) + 7 = (n7 : Int) := by omega
  have hmk := run_make_row' (P := Try.prog) 22 5 _ _ Try.underlying22 info5 rfl .i64 .i64 n7 (by omega) (by omega)
  obtain ⟨xs, hxs⟩ : ∃ xs, xs = bs ++ sp := ⟨_, rfl⟩
  have hxl : xs.length = n7 := by subst hxs; simp [sp]; omega
  have H := Lib.hid h
  have HLL := Lib.hid HL
  have o0 : Hid (OB w w.heap.size w.heap.size n7 (xs.take 0 ++ List.replicate (xs.length - 0) 0) (w.alloc (.cells (madeCells #[.int .u8 0] n7) 5))) := by
    refine ⟨?_, (Below.refl _ _).alloc (Nat.le_refl _) _⟩
    have h1 := World.ownsRow_lit (base := w.heap.size) (e := 5) (size := 1) w (madeCells #[Value.int .u8 0] n7) n7 (Nat.le_refl _) (by simp only [maxLen]; omega) (by rw [← Array.length_toList, toList_madeCells_one]; simp)
    rw [toList_madeCells_one] at h1
    have e : B8 (xs.take 0 ++ List.replicate (xs.length - 0) 0) = List.replicate n7 (Value.int .u8 0) := by rw [hxl]; simp [B8]
    rw [e]; exact h1
  rw [← h7, ← hxs]
  have HX := Lib.hid hxs
  have HXL := Lib.hid hxl
  clear h HL hxs hxl
  have hsl : n ≤ n7 := by omega
  have H7 := Lib.hid h7
  have hn7 : n7 ≤ 70368744177671 := by omega
  clear h7
  go_enter Try.func10, Try.ntmps10
  go_wp2_with fail
  generalize w.alloc (.cells (madeCells #[Value.int .u8 0] n7) 5) = W0 at *
  go_loopw [5] (fun i wr => ∃ k : Nat, k ≤ n7 ∧ i = .int .i64 k ∧ Hid (OB w w.heap.size w.heap.size n7 (xs.take k ++ List.replicate (xs.length - k) 0) wr)) (fun i _ => n7 - (intOf i).toNat)
  case atStart => exact ⟨0, Nat.zero_le _, rfl, o0⟩
  case round =>
    obtain ⟨k, hk, rfl, ho⟩ := hrel
    have hkM : k ≤ 70368744177671 := by omega
    by_cases h1 : k < n7
    · have hd : ∃ y, wr.cell? ⟨w.heap.size, k, none⟩ = some y := by
        have h1 := ho.out.own.cellAt k (by omega)
        have h2 := ho.out.own.1
        rw [List.getElem?_eq_getElem (by omega)] at h1
        exact ⟨_, h1⟩
      obtain ⟨y, hy⟩ := hd
      have hf : wr.frozen? ⟨w.heap.size, k, none⟩ = false := ho.out.own.frozenAt k
      by_cases h2 : k < n
      · obtain ⟨ad, x, rfl, hbl, hc0, hx⟩ := b8_get H.out (k := k) (by omega)
        have hc : wr.cell? (ad.add k) = some (.int .u8 (x : Int)) := (ho.out.low.cell (p := ad.add k) (by rw [block_of_add]; omega)).trans hc0
        go_wp2_with fail
        go_roundw
        case rel => exact ⟨k + 1, by omega, by go_num, by have h1 := ho.out.store (Nat.le_refl _) k x; rw [fill_up xs k x (by have := HXL.out; omega) (by rw [HX.out, List.getD_eq_getElem?_getD, List.getElem?_append_left (by have := HLL.out; omega), ← List.getD_eq_getElem?_getD]; exact hx.out.1)] at h1; exact h1⟩
        case measure => simp [intOf]; omega
      · obtain ⟨i, hi⟩ : ∃ i, k = n + i := ⟨k - n, by omega⟩
        have hi7 : i < 7 := by have := H7.out; omega
        have hcv : IntKind.u8.wrap (99 - ((k : Int) - (n : Int))) = ((99 - i : Nat) : Int) := by
          rw [IntKind.wrap_u8]; omega
        obtain ⟨z, hz⟩ : ∃ z, z = 99 - i := ⟨_, rfl⟩
        rw [← hz] at hcv
        have HZ := Lib.hid hz
        have HI := Lib.hid hi
        clear hz hi
        go_wp2_with fail
        go_roundw
        case rel => exact ⟨k + 1, by omega, by go_num, by have h1 := ho.out.store (Nat.le_refl _) k z; rw [fill_up xs k z (by have := HXL.out; omega) (by rw [HX.out, List.getD_eq_getElem?_getD, List.getElem?_append_right (by have := HLL.out; have := HI.out; omega), show k - bs.length = i by have := HLL.out; have := HI.out; omega, ← List.getD_eq_getElem?_getD, HZ.out]; exact sp_get hi7)] at h1; exact h1⟩
        case measure => simp [intOf]; omega
    · have e : k = n7 := by omega
      subst e
      go_wp2_with fail
      go_ret
      exact ⟨_, rfl, Nat.le_refl _, by have h1 := ho.out; rw [List.take_of_length_le (by have := HXL.out; omega), show xs.length - k = 0 by have := HXL.out; omega] at h1; simpa using h1⟩
end Go.Proofs.Ytfhkcbhbomghfaa
