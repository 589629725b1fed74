import Derived.Test.YtgikfjfinjcfmaaDoorH3
namespace Go.Proofs.YtgikfjfinjcfmaaDoor
open Go.RowKit Go.Hos
set_option linter.unusedVariables false
def ldF (D : Nat → Nat → Nat) (k o j i : Nat) : Nat := if i < j then D k (o + i) else 0
theorem ldF_step (D : Nat → Nat → Nat) (k o j : Nat) : upd (ldF D k o j) j (D k (o + j)) = ldF D k o (j + 1) := by
  funext i
  unfold upd ldF
  by_cases e : i = j
  · subst e; rw [if_pos rfl, if_pos (by omega)]
  · rw [if_neg e]
    by_cases h : i < j
    · rw [if_pos h, if_pos (by omega)]
    · rw [if_neg h, if_neg (by omega)]
/-- what was loaded so far -/
structure LS (w : World) (m g : Nat) (F : Nat → Nat) (W : World) : Prop where
  rw : Row W g 5 m (fun i => .int .u8 (F i))
  bl : Below w.heap.size w W
theorem LS.set {w W : World} {m g : Nat} {F : Nat → Nat} (h : LS w m g F W) (hg : w.heap.size ≤ g) (j x : Nat) : LS w m g (upd F j x) (W.setCell ⟨g, j, none⟩ (.int .u8 (x : Int))) := by
  refine ⟨?_, h.bl.setCell hg _⟩
  have := h.rw.set_ j (.int .u8 (x : Int))
  rw [upd_comp (fun x : Nat => Value.int .u8 (x : Int))] at this
  exact this
theorem u8s_bsF_at {l s : Nat} {F : Nat → Nat} (h : s < l) : (u8s (bsF l F))[s]? = some (.int .u8 (F s)) := by simp [u8s, bsF, h]
set_option maxRecDepth 20000 in
set_option maxHeartbeats 1600000 in
theorem rload_yes {B : Nat} {q c b n k o m : Nat} {C : Nat → Nat} {D : Nat → Nat → Nat} {V : Nat → Value} {L : Nat → Nat} (w : World) (h : RP B w q c b n C D V L) (hk : k < n) (hc : 0 < C k) (hom : o + m ≤ 4096) :
    Calls Tryd.prog 39 #[.pointer (some ⟨q, 0, none⟩), .int .i64 k, .int .i64 o, .int .i64 m] w fun e w' => e = .returned (.tuple #[.slice (some ⟨w.heap.size, 0, none⟩) m m, .int .i64 0]) ∧
      Row w' w.heap.size 5 m (fun i => .int .u8 (D k (o + i))) ∧ Below w.heap.size w w' := by
  have hn := h.nn
  have H := Lib.hid h
  have HX : Hid (tkB C n k = true) := tkB_of hk hc
  have HC := Lib.hid hc
  have hmk := run_make_row' (P := Tryd.prog) 42 5 _ _ Tryd.underlying42 info5' rfl .i64 .i64 m (by omega) (by omega)
  obtain ⟨_, kq⟩ := h.head
  have lq := h.hd.lt
  have lb := h.bb.lt
  have b1 : (0 : Int) ≤ (k : Int) := by omega
  have b2 : (k : Int) < (n : Int) := by omega
  have b3 : ¬ (o : Int) < 0 := by omega
  have b4 : ¬ (4096 : Int) < (o : Int) := by omega
  have b5 : ¬ (4096 : Int) - (o : Int) < (m : Int) := by omega
  have b6 : ¬ (m : Int) < 0 := by omega
  have L0 : Hid (LS w m w.heap.size (ldF D k o 0) (w.alloc (.cells (madeCells #[.int .u8 0] m) 5))) := by
    refine ⟨(row_made 5 m _ rfl).congr fun i _ => ?_, (Below.refl _ _).alloc (Nat.le_refl _) _⟩
    unfold ldF; rw [if_neg (by omega)]; rfl
  have ho := h.ow k hk hc
  have hz := Lib.hid (h.sz k hk hc)
  obtain ⟨l, hl⟩ : ∃ l, l = L k := ⟨_, rfl⟩
  rw [← hl] at ho hz
  obtain ⟨A, qq, hV⟩ := ownsRow_val ho
  rw [hV] at ho
  have HO := Lib.hid ho
  have HV := Lib.hid hV
  have hcv : w.cell? ⟨b, k, none⟩ = some (.slice A l qq) := by rw [← hV]; exact h.bb.get hk
  have hl4 : l ≤ 4096 := hz.out.1
  clear h hc hl ho hV
  go_enter Tryd.func39, Tryd.ntmps39
  go_wp2_with fail
  refine (rtaken_any k _ H.out).mono ?_
  rw [HX.out]
  rintro e w' ⟨rfl, rfl⟩
  go_wp2_with fail
  go_loopw [11] (fun v11 wr => ∃ j : Nat, j ≤ m ∧ v11 = .int .i64 j ∧ Hid (LS w m w.heap.size (ldF D k o j) wr)) (fun v11 _ => m - (intOf v11).toNat)
  case atStart => exact ⟨0, by omega, rfl, L0⟩
  case round =>
    obtain ⟨j, hj, rfl, ls⟩ := hrel
    have kq2 : wr.cell? ⟨q, 1, none⟩ = some (.slice (some ⟨b, 0, none⟩) n n) := (ls.out.bl.cell (p := ⟨q, 1, none⟩) lq).trans kq
    have kb2 : wr.cell? ⟨b, k, none⟩ = some (.slice A l qq) := (ls.out.bl.cell (p := ⟨b, k, none⟩) lb).trans hcv
    obtain ⟨s, hs⟩ : ∃ s, s = o + j := ⟨_, rfl⟩
    have hsi : (o : Int) + (j : Int) = (s : Int) := by omega
    have hsw : IntKind.i64.wrap (s : Int) = (s : Int) := IntWalk.i64_in _ (by omega)
    have HS := Lib.hid hs
    clear hs
    by_cases hjm : j < m
    · have d1 : decide ((j : Int) < (m : Int)) = true := by simp; omega
      by_cases hsl : s < l
      · have d2 : decide ((s : Int) < (l : Int)) = true := by simp; omega
        have hown : wr.ownsRow B 5 1 (.slice A l qq) l (u8s (bsF l (D k))) := owns_keep HO.out fun g cs hb => hb.below ls.out.bl hb.lt
        rcases l with _ | l
        · omega
        obtain ⟨gb, cap, hA, _, hgb, hcp⟩ := owns_succ hown
        obtain ⟨rfl, _, rfl⟩ := Value.slice.inj hA
        have cs := hown.cellAt s (by omega)
        rw [u8s_bsF_at hsl] at cs
        obtain ⟨x, hx⟩ : ∃ x, x = D k s := ⟨_, rfl⟩
        rw [← hx] at cs
        obtain ⟨y, hy⟩ : ∃ y, wr.cell? ⟨w.heap.size, j, none⟩ = some y := ⟨_, ls.out.rw.get hjm⟩
        have hf := ls.out.rw.free j
        have ls2 : Hid (LS w m w.heap.size (ldF D k o (j + 1)) (wr.setCell ⟨w.heap.size, j, none⟩ (.int .u8 (x : Int)))) := by
          have := ls.out.set (Nat.le_refl _) j x
          rw [hx, HS.out, ldF_step, ← HS.out, ← hx] at this
          exact this
        clear hx hown hA
        obtain ⟨l1, hl1⟩ : ∃ l1, l1 = l + 1 := ⟨_, rfl⟩
        rw [← hl1] at kb2 d2 hsl hcp hl4
        clear hl1 hcv HO
        go_wp2_with fail
        go_roundw
        case rel => exact ⟨j + 1, by omega, by go_num, ls2⟩
        case measure => simp [intOf]; omega
      · have d2 : decide ((s : Int) < (l : Int)) = false := by simp; omega
        have FIN : Hid (Row wr w.heap.size 5 m (fun i => .int .u8 (D k (o + i))) ∧ Below w.heap.size w wr) := by
          refine ⟨ls.out.rw.congr fun i hi => ?_, ls.out.bl⟩
          unfold ldF
          by_cases hij : i < j
          · rw [if_pos hij]
          · rw [if_neg hij, hz.out.2 (o + i) (by have := HS.out; omega) (by omega)]
        go_wp2_with fail
        go_ret2
        exact ⟨rfl, FIN.out.1, FIN.out.2⟩
    · have d1 : decide ((j : Int) < (m : Int)) = false := by simp; omega
      have FIN : Hid (Row wr w.heap.size 5 m (fun i => .int .u8 (D k (o + i))) ∧ Below w.heap.size w wr) := by
        refine ⟨ls.out.rw.congr fun i hi => ?_, ls.out.bl⟩
        unfold ldF
        rw [if_pos (by omega)]
      go_wp2_with fail
      go_ret2
      exact ⟨rfl, FIN.out.1, FIN.out.2⟩
set_option maxRecDepth 20000 in
set_option maxHeartbeats 1600000 in
theorem rload_no {B : Nat} {q c b n : Nat} {C : Nat → Nat} {D : Nat → Nat → Nat} {V : Nat → Value} {L : Nat → Nat} (x y z : Int) (w : World) (h : RP B w q c b n C D V L) (hl : ldB C n x y z = false) :
    Calls Tryd.prog 39 #[.pointer (some ⟨q, 0, none⟩), .int .i64 x, .int .i64 y, .int .i64 z] w fun e w' => e = .returned (.tuple #[.slice none 0 0, .int .i64 1]) ∧ w = w' := by
  have hn := h.nn
  have H := Lib.hid h
  cases hx : tkB C n x
  · have HX := Lib.hid hx
    clear h hx hl
    go_enter Tryd.func39, Tryd.ntmps39
    go_wp2_with fail
    refine (rtaken_any x _ H.out).mono ?_
    rw [HX.out]
    rintro e w' ⟨rfl, rfl⟩
    go_wp2_with fail
    go_ret2
    exact ⟨rfl, rfl⟩
  · have HX := Lib.hid hx
    by_cases hy : 0 ≤ y
    · by_cases hz : 0 ≤ z
      · have hs : ¬ y + z ≤ 4096 := by intro hs; simp [ldB, hx, hy, hz, hs] at hl
        have b1 : ¬ y < 0 := by omega
        have b2 : ¬ z < 0 := by omega
        by_cases h4 : 4096 < y
        · clear h hx hl hs
          go_enter Tryd.func39, Tryd.ntmps39
          go_wp2_with fail
          refine (rtaken_any x _ H.out).mono ?_
          rw [HX.out]
          rintro e w' ⟨rfl, rfl⟩
          go_wp2_with fail
          go_ret2
          exact ⟨rfl, rfl⟩
        · have b3 : 4096 - y < z := by omega
          clear h hx hl hs
          go_enter Tryd.func39, Tryd.ntmps39
          go_wp2_with fail
          refine (rtaken_any x _ H.out).mono ?_
          rw [HX.out]
          rintro e w' ⟨rfl, rfl⟩
          go_wp2_with fail
          go_ret2
          exact ⟨rfl, rfl⟩
      · have b1 : ¬ y < 0 := by omega
        have b2 : z < 0 := by omega
        clear h hx hl hz hy
        go_enter Tryd.func39, Tryd.ntmps39
        go_wp2_with fail
        refine (rtaken_any x _ H.out).mono ?_
        rw [HX.out]
        rintro e w' ⟨rfl, rfl⟩
        go_wp2_with fail
        go_ret2
        exact ⟨rfl, rfl⟩
    · have b1 : y < 0 := by omega
      clear h hx hl hy
      go_enter Tryd.func39, Tryd.ntmps39
      go_wp2_with fail
      refine (rtaken_any x _ H.out).mono ?_
      rw [HX.out]
      rintro e w' ⟨rfl, rfl⟩
      go_wp2_with fail
      go_ret2
      exact ⟨rfl, rfl⟩
theorem rload_any {B : Nat} {q c b n : Nat} {C : Nat → Nat} {D : Nat → Nat → Nat} {V : Nat → Value} {L : Nat → Nat} (x y z : Int) (w : World) (h : RP B w q c b n C D V L) :
    Calls Tryd.prog 39 #[.pointer (some ⟨q, 0, none⟩), .int .i64 x, .int .i64 y, .int .i64 z] w fun e w' => ∃ A, e = .returned (.tuple #[.slice A (ldL C n x y z) (ldL C n x y z), .int .i64 (ldE C n x y z)]) ∧
      LdV w' w.heap.size A (ldL C n x y z) (fun i => D x.toNat (y.toNat + i)) ∧ Below w.heap.size w w' := by
  cases hl : ldB C n x y z
  · rw [ldL, ldE, hl]
    refine (rload_no x y z w h hl).mono ?_
    rintro e w' ⟨rfl, rfl⟩
    exact ⟨none, rfl, .inl ⟨rfl, rfl⟩, Below.refl _ _⟩
  · rw [ldL, ldE, hl, if_pos rfl, if_pos rfl]
    simp only [ldB, Bool.and_eq_true, decide_eq_true_eq] at hl
    obtain ⟨⟨⟨hx, hy⟩, hz⟩, hs⟩ := hl
    obtain ⟨k, rfl, hk, hc⟩ := tkB_yes hx
    obtain ⟨o, rfl⟩ := Int.eq_ofNat_of_zero_le hy
    obtain ⟨m, rfl⟩ := Int.eq_ofNat_of_zero_le hz
    rw [Int.toNat_natCast, Int.toNat_natCast, Int.toNat_natCast]
    refine (rload_yes w h hk hc (o := o) (m := m) (by omega)).mono ?_
    rintro e w' ⟨rfl, hr, hb⟩
    exact ⟨_, rfl, .inr ⟨_, rfl, Nat.le_refl _, hr⟩, hb⟩
end Go.Proofs.YtgikfjfinjcfmaaDoor
