import Derived.Test.YtfhkcbhbomghfaaW9
namespace Go.Proofs.Ytfhkcbhbomghfaa
open Go.RowKit Go.Hos
set_option linter.unusedVariables false

/-- Set's answer -/
def stv (bs : List Nat) (at_ : Nat) (n : Int) (x : Nat) : List Nat := if plc bs.length at_ n = 0 then setv bs at_ x n.toNat else []
theorem stv_yes {bs : List Nat} {at_ : Nat} {n : Int} {x : Nat} (h : plc bs.length at_ n = 0) : stv bs at_ n x = setv bs at_ x n.toNat := by rw [stv, if_pos h]
theorem stv_no {bs : List Nat} {at_ : Nat} {n : Int} {x : Nat} (h : plc bs.length at_ n ≠ 0) : stv bs at_ n x = [] := by rw [stv, if_neg h]

set_option maxHeartbeats 800000 in
theorem set_any (A : Option Addr) (len c at_ x B : Nat) (n : Int) (bs : List Nat) (w : World) (h : Reads w B 1 A len (B8 bs)) (hB : B ≤ w.heap.size) (hl : len ≤ 140737488355328) (ha : at_ < M) (hx : x < M) :
    Calls Try.prog 14 #[.slice A len c, .int .u64 at_, .int .i64 n, .int .u64 x] w fun e w' => ∃ A' c', e = .returned (.tuple #[.slice A' (stv bs at_ n x).length c', .int .i64 (plc len at_ n)]) ∧
      w'.ownsRow w.heap.size 5 1 (.slice A' (stv bs at_ n x).length c') (stv bs at_ n x).length (B8 (stv bs at_ n x)) ∧ Below w.heap.size w w' := by
  have hL := b8_len h
  rcases plc_cases len at_ n with ⟨hz, hin, hp⟩ | hp
  · have hn : 1 ≤ n := by have := of_decide_eq_true hz; omega
    obtain ⟨k, rfl⟩ := Int.eq_ofNat_of_zero_le (show 0 ≤ n by omega)
    have e : stv bs at_ k x = setv bs at_ x k := stv_yes (by rw [hL]; exact hp)
    rw [hp, e]
    refine (set_ok A len c at_ k x B bs w h hB hl hz (by simpa using hin) hx).mono ?_
    rintro e w' ⟨v, rfl, ho, hb⟩
    obtain ⟨A', c', rfl⟩ := ownsRow_val ho
    rw [setv_len, hL]
    exact ⟨A', c', rfl, ho, hb⟩
  · have hp0 : plc len at_ n ≠ 0 := by rcases hp with ⟨h, _⟩ | ⟨h, _⟩ <;> omega
    rw [stv_no (by rw [hL]; exact hp0)]
    obtain ⟨q, hq⟩ : ∃ q, q = plc len at_ n := ⟨_, rfl⟩
    rw [← hq] at hp0 ⊢
    have hne : (q != 0) = true := by simpa using hp0
    have HQ := Lib.hid hq
    clear hq hp hp0 h hL
    go_enter Try.func14, Try.ntmps14
    go_wp2_with fail
    refine (check_any A len c at_ n _ (by omega) ha).mono ?_
    rintro e w1 ⟨rfl, hb1⟩
    rw [← HQ.out]
    have HB := Lib.hid hb1
    clear hb1
    go_wp2_with fail
    go_ret2
    exact ⟨none, 0, rfl, World.ownsRow_nil _ _ _ _, HB.out⟩
set_option maxHeartbeats 800000 in
theorem rset_any (A : Option Addr) (len c at_ x B : Nat) (n : Int) (bs : List Nat) (w : World) (h : Reads w B 1 A len (B8 bs)) (hB : B ≤ w.heap.size) (hl : len ≤ 140737488355328) (ha : at_ < M) (hx : x < M) :
    Calls Try.prog 15 #[.slice A len c, .int .u64 at_, .int .i64 n, .int .u64 x] w fun e w' => ∃ A' c', e = .returned (.tuple #[.slice A' (stv bs at_ n x).length c', .int .i64 (plc len at_ n)]) ∧
      w'.ownsRow w.heap.size 5 1 (.slice A' (stv bs at_ n x).length c') (stv bs at_ n x).length (B8 (stv bs at_ n x)) ∧ Below w.heap.size w w' := by
  have hL := b8_len h
  rcases plc_cases len at_ n with ⟨hz, hin, hp⟩ | hp
  · have hn : 1 ≤ n := by have := of_decide_eq_true hz; omega
    obtain ⟨k, rfl⟩ := Int.eq_ofNat_of_zero_le (show 0 ≤ n by omega)
    have e : stv bs at_ k x = setv bs at_ x k := stv_yes (by rw [hL]; exact hp)
    rw [hp, e]
    refine (rset_ok A len c at_ k x B bs w h hB hl hz (by simpa using hin) hx).mono ?_
    rintro e w' ⟨v, rfl, ho, hb⟩
    obtain ⟨A', c', rfl⟩ := ownsRow_val ho
    rw [setv_len, hL]
    exact ⟨A', c', rfl, ho, hb⟩
  · have hp0 : plc len at_ n ≠ 0 := by rcases hp with ⟨h, _⟩ | ⟨h, _⟩ <;> omega
    rw [stv_no (by rw [hL]; exact hp0)]
    obtain ⟨q, hq⟩ : ∃ q, q = plc len at_ n := ⟨_, rfl⟩
    rw [← hq] at hp0 ⊢
    have hne : (q != 0) = true := by simpa using hp0
    have HQ := Lib.hid hq
    clear hq hp hp0 h hL
    go_enter Try.func15, Try.ntmps15
    go_wp2_with fail
    refine (place_any A len c at_ n _ (by omega) ha).mono ?_
    rintro e w1 ⟨rfl, rfl⟩
    rw [← HQ.out]
    go_wp2_with fail
    go_ret2
    exact ⟨none, 0, rfl, World.ownsRow_nil _ _ _ _, Below.refl _ _⟩

set_option maxHeartbeats 2000000 in
theorem works_any (w : World) : Calls Try.prog 9 #[] w fun e w' => e = .returned (.bool true) ∧ Below w.heap.size w w' := by
  go_enter Try.func9, Try.ntmps9
  go_wp2_with fail
  have hr : Reads (w.alloc (.cells #[.int .u8 1, .int .u8 2, .int .u8 3] 5)) (w.heap.size + 1) 1 (some ⟨w.heap.size, 0, none⟩) 3 (B8 [1, 2, 3]) := reads_new w 5 1 3 _ rfl rfl
  refine (set_any _ 3 3 1 66051 (w.heap.size + 1) 2 [1, 2, 3] _ hr (by simp) (by omega) (by unfold M; omega) (by unfold M; omega)).mono ?_
  rintro e w1 ⟨A', c', rfl, ho, hb1⟩
  have e1 : stv [1, 2, 3] 1 2 66051 = [1, 3, 2] := by decide
  have e2 : plc 3 1 2 = 0 := by decide
  rw [e1] at ho ⊢
  rw [e2]
  have HB : Hid (Below w.heap.size w w1) := ((Below.refl _ _).alloc (Nat.le_refl _) _).trans (hb1.mono (by simp))
  have H1 : Hid (Reads w1 w1.heap.size 1 A' 3 (B8 [1, 3, 2])) := Reads.of_own ho
  have OV1 : Hid (OV w w.heap.size A' 3 c' [1, 3, 2] w1) := ⟨owns_base ho (by simp), HB.out⟩
  clear ho hb1 e1 e2
  obtain ⟨g, rfl, hg, hc⟩ := OV1.out.at_ (by omega)
  go_wp2_with fail
  refine (get_any _ 3 c' 0 w1.heap.size 2 [1, 3, 2] _ H1.out (Nat.le_refl _) (by decide) (by omega) (by unfold M; omega)).mono ?_
  rintro e w2 ⟨rfl, hb2⟩
  rw [show gtv [1, 3, 2] 0 2 = 769 by decide, show plc 3 0 2 = 0 by decide]
  have HB2 : Hid (Below w.heap.size w w2) := HB.out.trans (hb2.mono HB.out.size)
  have c0 : w2.cell? ⟨g, 0, none⟩ = some (.int .u8 1) := (hb2.cell (p := ⟨g, 0, none⟩) (by have := (OV1.out.own.lt g rfl).2; exact this)).trans (OV1.out.own.cellAt 0 (by omega))
  have c1 : w2.cell? ⟨g, 1, none⟩ = some (.int .u8 3) := (hb2.cell (p := ⟨g, 1, none⟩) (by have := (OV1.out.own.lt g rfl).2; exact this)).trans (OV1.out.own.cellAt 1 (by omega))
  have c2 : w2.cell? ⟨g, 2, none⟩ = some (.int .u8 2) := (hb2.cell (p := ⟨g, 2, none⟩) (by have := (OV1.out.own.lt g rfl).2; exact this)).trans (OV1.out.own.cellAt 2 (by omega))
  have hcv : (convert 22 9 (.slice (some ⟨g, 0, none⟩) 3 c')).run Try.prog w2 = .ok (.string ⟨#[1, 3, 2]⟩) w2 := by
    rw [run_convert_bytes_arg w2 22 5 Try.underlying22 Try.underlying5 g 0 3 c' [1, 3, 2] rfl (fun i hi => by
      have hi : i = 0 ∨ i = 1 ∨ i = 2 := by omega
      rcases hi with rfl | rfl | rfl
      · exact c0
      · exact c1
      · exact c2) 9 Try.underlying9]
    rfl
  clear c0 c1 c2
  clear hb2
  go_wp2_with fail
  refine (up_any 1 _ (by unfold M; omega)).mono ?_
  rintro e w3 ⟨rfl, rfl⟩
  rw [show upv 1 = 4096 by decide, show decide (1 + 4095 < M) = true by decide]
  go_wp2_with fail
  go_ret
  exact ⟨rfl, HB2.out⟩
end Go.Proofs.Ytfhkcbhbomghfaa
