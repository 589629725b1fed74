import Derived.Test.YtgikfjfinjcfmaaDoorG1
namespace Go.Proofs.YtgikfjfinjcfmaaDoor
open Go.RowKit Go.Hos
set_option linter.unusedVariables false
def ldB (C : Nat → Nat) (n : Nat) (x y z : Int) : Bool := tkB C n x && decide (0 ≤ y) && decide (0 ≤ z) && decide (y + z ≤ 4096)
set_option maxRecDepth 20000 in
set_option maxHeartbeats 1600000 in
theorem load_zero {B p c b f n k o : Nat} {C Fb : Nat → Nat} {D : Nat → Nat → Nat} (w : World) (h : PM B w p c b f n C Fb D) (hk : k < n) (hc : 0 < C k) (hom : o ≤ 4096) :
    Calls Tryd.prog 24 #[.pointer (some ⟨p, 0, none⟩), .int .i64 k, .int .i64 o, .int .i64 0] w fun e w' => e = .returned (.tuple #[.slice (some ⟨w.heap.size, 0, none⟩) 0 0, .int .i64 0]) ∧
      Row w' w.heap.size 5 0 (fun i => .int .u8 (D k (o + i))) ∧ Below w.heap.size w w' := by
  have hn := h.nn
  have H := Lib.hid h
  have HX : Hid (tkB C n k = true) := tkB_of hk hc
  obtain ⟨P, hP, hP2⟩ := h.bb
  have qb : w.cell? ⟨b, k, none⟩ = some (.pointer (some ⟨Fb k, 0, none⟩)) := by rw [hP.get hk, hP2 k hk hc]
  obtain ⟨g, hg⟩ : ∃ g, g = Fb k := ⟨_, rfl⟩
  rw [← hg] at qb
  have q1 := h.head.2.1
  have lp := h.hd.lt
  have lb := hP.lt
  have b1 : (0 : Int) ≤ (k : Int) := by omega
  have b2 : (k : Int) < (n : Int) := by omega
  have b3 : ¬ (o : Int) < 0 := by omega
  have b4 : ¬ (4096 : Int) < (o : Int) := by omega
  have b5 : ¬ (4096 : Int) - (o : Int) < 0 := by omega
  have FIN : Hid (Row (w.alloc (.cells #[] 5)) w.heap.size 5 0 (fun i => .int .u8 (D k (o + i))) ∧ Below w.heap.size w (w.alloc (.cells #[] 5))) :=
    ⟨⟨#[], Blk.new _ _ _, rfl, fun i hi => absurd hi (by omega)⟩, (Below.refl _ _).alloc (Nat.le_refl _) _⟩
  have HG := Lib.hid hg
  have hmk : ∀ w : World, (Instr.makeSlice 42 (.int .i64 0) (.int .i64 0)).run Tryd.prog w = .ok (.slice (some ⟨w.heap.size, 0, none⟩) 0 0) (w.alloc (.cells #[] 5)) := fun _ => by kernel_rfl
  have hcp := run_copy_zero (w := w.alloc (.cells #[] 5)) (bs := []) (B' := 0) (L := 0) (cap := 0) (m := 0) (q := 0) (d := some ⟨w.heap.size, 0, none⟩) (A := some ⟨g, o, none⟩) 3 rfl
  have hcp2 := run_copy_zero (w := w.alloc (.cells #[] 5)) (bs := []) (B' := 0) (L := 0) (cap := 0) (m := 0) (q := 0) (d := some ⟨w.heap.size, 0, none⟩) (A := some ⟨g, 0, none⟩) 3 rfl
  clear h hc hP hP2 hg
  go_enter Tryd.func24, Tryd.ntmps24
  go_wp2_with fail
  refine (taken_any k _ H.out).mono ?_
  rw [HX.out]
  rintro e w' ⟨rfl, rfl⟩
  go_wp2_with fail
  all_goals
    go_ret2
    exact ⟨rfl, FIN.out.1, FIN.out.2⟩
set_option maxRecDepth 20000 in
set_option maxHeartbeats 1600000 in
theorem load_pos {B p c b f n k o m : Nat} {C Fb : Nat → Nat} {D : Nat → Nat → Nat} (w : World) (h : PM B w p c b f n C Fb D) (hk : k < n) (hc : 0 < C k) (hom : o + m ≤ 4096) (hm0 : 0 < m) :
    Calls Tryd.prog 24 #[.pointer (some ⟨p, 0, none⟩), .int .i64 k, .int .i64 o, .int .i64 m] w fun e w' => e = .returned (.tuple #[.slice (some ⟨w.heap.size, 0, none⟩) m m, .int .i64 0]) ∧
      Row w' w.heap.size 5 m (fun i => .int .u8 (D k (o + i))) ∧ Below w.heap.size w w' := by
  have hn := h.nn
  have H := Lib.hid h
  have HX : Hid (tkB C n k = true) := tkB_of hk hc
  have hmk := run_make_row' (P := Tryd.prog) 42 5 _ _ Tryd.underlying42 info5' rfl .i64 .i64 m (by omega) (by omega)
  obtain ⟨P, hP, hP2⟩ := h.bb
  have qb : w.cell? ⟨b, k, none⟩ = some (.pointer (some ⟨Fb k, 0, none⟩)) := by rw [hP.get hk, hP2 k hk hc]
  obtain ⟨g, hg⟩ : ∃ g, g = Fb k := ⟨_, rfl⟩
  rw [← hg] at qb
  have q1 := h.head.2.1
  have lp := h.hd.lt
  have lb := hP.lt
  have b1 : (0 : Int) ≤ (k : Int) := by omega
  have b2 : (k : Int) < (n : Int) := by omega
  have b3 : ¬ (o : Int) < 0 := by omega
  have b4 : ¬ (4096 : Int) < (o : Int) := by omega
  have b5 : ¬ (4096 : Int) - (o : Int) < (m : Int) := by omega
  have b6 : ¬ (m : Int) < 0 := by omega
  obtain ⟨s, hs⟩ : ∃ s, s = o + m := ⟨_, rfl⟩
  have hsi : (o : Int) + (m : Int) = (s : Int) := by omega
  have hsw : IntKind.i64.wrap (s : Int) = (s : Int) := IntWalk.i64_in _ (by omega)
  have hs4 : s ≤ 4096 := by omega
  have hos : o < s := by omega
  have c0 : ¬ s = o := by omega
  have c1 : (o : Int) ≤ (s : Int) := by omega
  have c2 : (s : Int) ≤ 4096 := by omega
  have c3 : (0 : Int) ≤ (s : Int) := by omega
  have c4 : s - o = m := by omega
  have hfr := h.fr k hk hc
  rw [← hg] at hfr
  have R0 : Hid (Reads (w.alloc (.cells (madeCells #[.int .u8 0] m) 5)) (w.heap.size + 1) 1 (some ⟨g, o, none⟩) m (u8s ((List.range m).map fun j => D k (o + j)))) := by
    refine ⟨by simp [u8s], fun hm => ⟨_, rfl, by have := hfr.lt; show g < _; omega, fun j u hu => ?_⟩⟩
    rw [Addr.add_mid]
    exact (row_al hfr _).range o m hom j u hu
  have RW : Hid (Row (w.alloc (.cells (madeCells #[.int .u8 0] m) 5)) w.heap.size 5 m (fun _ => .int .u8 ((0 : Nat) : Int))) := row_made 5 m _ rfl
  have TH := Lib.hid (RW.out.there 0 m (by omega))
  have FIN : Hid (Row ((w.alloc (.cells (madeCells #[.int .u8 0] m) 5)).setCells w.heap.size 0 (u8s ((List.range m).map fun j => D k (o + j)))) w.heap.size 5 m (fun i => .int .u8 (D k (o + i))) ∧ Below w.heap.size w ((w.alloc (.cells (madeCells #[.int .u8 0] m) 5)).setCells w.heap.size 0 (u8s ((List.range m).map fun j => D k (o + j))))) := by
    refine ⟨(Row.sets _ 0 _ (fun _ => 0) RW.out).congr fun i hi => ?_, Below.sets (Nat.le_refl _) _ _ _ ((Below.refl _ _).alloc (Nat.le_refl _) _)⟩
    unfold ov
    rw [if_pos (by simp; omega)]
    simp [hi]
  clear hfr
  have hcp := run_copy_reads (o := 0) (g := w.heap.size) (L := m) (cap := m) (q := m) 3 R0.out (Nat.le_refl _) TH.out
  obtain ⟨W2, hW2⟩ : ∃ W2, W2 = (w.alloc (.cells (madeCells #[.int .u8 0] m) 5)).setCells w.heap.size 0 (u8s ((List.range m).map fun j => D k (o + j))) := ⟨_, rfl⟩
  rw [← hW2] at hcp FIN
  clear hW2
  have HS := Lib.hid hs
  have HG := Lib.hid hg
  clear h hc hP hP2 hg hs
  go_enter Tryd.func24, Tryd.ntmps24
  go_wp2_with fail
  refine (taken_any k _ H.out).mono ?_
  rw [HX.out]
  rintro e w' ⟨rfl, rfl⟩
  go_wp2_with fail
  all_goals
    go_ret2
    exact ⟨rfl, FIN.out.1, FIN.out.2⟩
end Go.Proofs.YtgikfjfinjcfmaaDoor
