import Derived.Test.YtfhkcbhbomghfaaW6
import Derived.Deep.OwnRows
namespace Go.Proofs.Ytfhkcbhbomghfaa
open Go.RowKit Go.Hos
set_option linter.unusedVariables false

theorem info5 : (Try.prog.info? 5).map (fun i => (i.zero, i.size, i.bytes)) = some (some (.int .u8 0), 1, 1) := by kernel_rfl

set_option maxHeartbeats 400000 in
theorem clone_any (A : Option Addr) (n c : Nat) (bs : List Nat) (B : Nat) (w : World) (h : Reads w B 1 A n (B8 bs)) (hB : B ≤ w.heap.size) (hn : n ≤ 140737488355328) :
    Calls Try.prog 31 #[.slice A n c] w fun e w' => ∃ v, e = .returned v ∧ w'.ownsRow w.heap.size 5 1 v n (B8 bs) ∧ Below w.heap.size w w' := by
  obtain ⟨i0, hi0, hz0, hz1, hz2⟩ := info_parts info5
  have he := fun w => Lib.run_eql_slice_nil (P := Try.prog) w 22 5 A n c 0 0 Try.underlying22
  cases A with
  | none =>
    have h0 : n = 0 := by
      rcases Nat.eq_zero_or_pos n with h0 | h0
      · exact h0
      · obtain ⟨ad, h, _⟩ := h.2 h0; cases h
    subst h0
    have hg : bs = [] := by have := b8_len h; exact List.eq_nil_of_length_eq_zero this
    subst hg
    clear h
    go_enter Try.func31, Try.ntmps31
    go_wp2
    go_ret
    exact ⟨_, rfl, World.ownsRow_nil _ _ _ _, Below.refl _ _⟩
  | some ad =>
    have H := Lib.hid h
    clear h
    go_enter Try.func31, Try.ntmps31
    go_wp2_with (at_builtin
                 refine wpList_append_any _ rfl (.tmp 5) (.tmp 6) _ rfl w.heap.size 5 i0 _ 1 1 Try.underlying22 hi0 hz0 hz1 hz2 rfl (by omega) (.slice (some ⟨w.heap.size, 0, none⟩) 0 0) 0 [] rfl
                   ?c1 B _ n c _ rfl (H.out.alloc hB _) (b8_one bs) (by simp only [maxLen]; omega) (by omega) (by simp) ?_
                 rotate_left
                 intro v1 w1 hown1 hg1 hat1)
    · go_ret
      refine ⟨v1, rfl, by simpa using hown1, ((Below.refl _ _).alloc (Nat.le_refl _) _).grown hg1 (by simp) (fun k hk => ?_)⟩
      simp [Value.ownBlock] at hk; omega
    · exact owns_empty _ _ _ (Nat.le_refl _)

theorem fill_step (bs : List Nat) (j x : Nat) (hj : j < bs.length) (hx : bs.getD j 0 = x) : (List.replicate (j + 1) 0 ++ bs.drop (j + 1)).set j x = List.replicate j 0 ++ bs.drop j := by
  apply List.ext_getElem
  · simp; omega
  · intro i h1 h2
    rw [List.getElem_set]
    by_cases e : j = i
    · subst e
      rw [if_pos rfl, List.getElem_append_right (by simp)]
      simp [← hx, List.getD_eq_getElem?_getD, List.getElem?_eq_getElem hj]
    · rw [if_neg e]
      by_cases l : i < j
      · rw [List.getElem_append_left (by simp; omega), List.getElem_append_left (by simp; omega)]; simp
      · rw [List.getElem_append_right (by simp; omega), List.getElem_append_right (by simp; omega)]
        simp only [List.length_replicate, List.getElem_drop]
        congr 1; omega
theorem b8_set (bs : List Nat) (j x : Nat) : B8 (bs.set j x) = (B8 bs).set j (.int .u8 (x : Int)) := by
  unfold B8; rw [List.map_set]
theorem owns_len {w : World} {base e n : Nat} {v : Value} {bs : List Nat} (h : w.ownsRow base e 1 v n (B8 bs)) : bs.length = n := by
  have := h.1; simp [B8] at this; exact this

/-- a slice of bytes of the call's own, from its block's head -/
structure OB (w : World) (B g n : Nat) (bs : List Nat) (W : World) : Prop where
  own : W.ownsRow B 5 1 (.slice (some ⟨g, 0, none⟩) n n) n (B8 bs)
  low : Below B w W
theorem OB.store {w W : World} {B g n : Nat} {bs : List Nat} (h : OB w B g n bs W) (hg : B ≤ g) (j x : Nat) : OB w B g n (bs.set j x) (W.setCell ⟨g, j, none⟩ (.int .u8 (x : Int))) :=
  ⟨by rw [b8_set]; exact (h.own.stored j _).1, h.low.setCell hg _⟩

set_option maxHeartbeats 800000 in
theorem copy_any (A : Option Addr) (n c : Nat) (bs : List Nat) (B : Nat) (w : World) (h : Reads w B 1 A n (B8 bs)) (hB : B ≤ w.heap.size) (hn : n ≤ 140737488355328) :
    Calls Try.prog 22 #[.slice A n c] w fun e w' => ∃ v, e = .returned v ∧ w'.ownsRow w.heap.size 5 1 v n (B8 bs) ∧ Below w.heap.size w w' := by
  have HL := b8_len h
  by_cases h0 : n = 0
  · subst h0
    have hg : bs = [] := List.eq_nil_of_length_eq_zero HL
    subst hg
    clear h
    go_enter Try.func22, Try.ntmps22
    go_wp2
    go_ret
    exact ⟨_, rfl, World.ownsRow_nil _ _ _ _, Below.refl _ _⟩
  · have hmk := run_make_row' (P := Try.prog) 22 5 _ _ Try.underlying22 info5 rfl .i64 .i64 n (by omega) (by omega)
    have hne : ((n : Int) == 0) = false := by simp; omega
    have H := Lib.hid h
    have HLL := Lib.hid HL
    have o0 : Hid (OB w w.heap.size w.heap.size n (List.replicate n 0 ++ bs.drop n) (w.alloc (.cells (madeCells #[.int .u8 0] n) 5))) := by
      refine ⟨?_, (Below.refl _ _).alloc (Nat.le_refl _) _⟩
      have h1 := World.ownsRow_lit (base := w.heap.size) (e := 5) (size := 1) w (madeCells #[Value.int .u8 0] n) n (Nat.le_refl _) (by simp only [maxLen]; omega) (by rw [← Array.length_toList, toList_madeCells_one]; simp)
      rw [toList_madeCells_one] at h1
      have e : B8 (List.replicate n 0 ++ bs.drop n) = List.replicate n (Value.int .u8 0) := by rw [List.drop_eq_nil_of_le (by omega)]; simp [B8]
      rw [e]; exact h1
    clear h HL
    have h1n : 1 ≤ n := by omega
    clear h0
    go_enter Try.func22, Try.ntmps22
    go_wp2_with fail
    generalize w.alloc (.cells (madeCells #[Value.int .u8 0] n) 5) = W0 at *
    go_loopw [4] (fun i wr => ∃ j : Nat, j ≤ n ∧ i = .int .i64 ((j : Int) - 1) ∧ Hid (OB w w.heap.size w.heap.size n (List.replicate j 0 ++ bs.drop j) wr)) (fun i _ => (intOf i + 1).toNat)
    case atStart => exact ⟨n, by omega, rfl, o0⟩
    case round =>
      obtain ⟨j, hj, rfl, ho⟩ := hrel
      rcases j with _ | j
      · go_wp2_with fail
        go_ret
        exact ⟨_, rfl, by simpa using ho.out.own, ho.out.low⟩
      · rw [show ((j + 1 : Nat) : Int) - 1 = (j : Int) by omega]
        obtain ⟨ad, x, rfl, hbl, hc0, hx⟩ := b8_get H.out (k := j) (by omega)
        have hc : wr.cell? (ad.add j) = some (.int .u8 (x : Int)) := (ho.out.low.cell (p := ad.add j) (by rw [block_of_add]; omega)).trans hc0
        have hd : ∃ y, wr.cell? ⟨w.heap.size, j, none⟩ = some y := by
          have h1 := ho.out.own.cellAt j (by omega)
          have h2 := ho.out.own.1
          rw [List.getElem?_eq_getElem (by omega)] at h1
          exact ⟨_, h1⟩
        obtain ⟨y, hy⟩ := hd
        have hf : wr.frozen? ⟨w.heap.size, j, none⟩ = false := ho.out.own.frozenAt j
        go_wp2_with fail
        go_roundw
        case rel => exact ⟨j, by omega, by go_num, by have h1 := ho.out.store (Nat.le_refl _) j x; rw [fill_step bs j x (by have := HLL.out; omega) hx.out.1] at h1; exact h1⟩
        case measure => simp [intOf]
end Go.Proofs.Ytfhkcbhbomghfaa
