import Derived.Test.YtlenjpgkmikgpaaR14
namespace Go.Proofs.Ytlenjpgkmikgpaa
open Go.RowKit Go.Shelf Go.Hos
set_option linter.unusedVariables false
/-! the chapter's examples come out -/
theorem exA_fitsR (b : Nat) : fitsR (exO b exA) := fun i k => by
  show exA.off < M ∧ -9223372036854775808 ≤ exA.sym ∧ exA.sym ≤ 9223372036854775807
  unfold exA M Lay.M; exact ⟨by decide, by decide, by decide⟩
theorem exB_fitsR (b : Nat) : fitsR (exO b exB) := fun i k => by
  show exB.off < M ∧ -9223372036854775808 ≤ exB.sym ∧ exB.sym ≤ 9223372036854775807
  unfold exB M Lay.M; exact ⟨by decide, by decide, by decide⟩
theorem exA_call (w : World) : Calls Try.prog 18 #[.agg #[.int .u64 8, .int .u32 1, .int .i64 1, .int .i64 2]] w fun e W' => ∃ b, e = .returned (.slice (some ⟨b + 3, 0, none⟩) 1 1) ∧ ObjR W' W'.heap.size (some ⟨b + 3, 0, none⟩) 1 (exO b exA) ∧ Below w.heap.size w W' := ex_any 8 1 1 2 w
theorem exB_call (w : World) : Calls Try.prog 18 #[.agg #[.int .u64 249, .int .u32 6, .int .i64 1, .int .i64 0]] w fun e W' => ∃ b, e = .returned (.slice (some ⟨b + 3, 0, none⟩) 1 1) ∧ ObjR W' W'.heap.size (some ⟨b + 3, 0, none⟩) 1 (exO b exB) ∧ Below w.heap.size w W' := ex_any 249 6 1 0 w
def exP : PatD := ⟨5, 2, 66051⟩
theorem exA_pats (g : Nat) (w : World) (h : ObjR w w.heap.size (some ⟨g + 3, 0, none⟩) 1 (exO g exA)) : Calls Try.prog 10 #[.slice (some ⟨g + 3, 0, none⟩) 1 1] w fun e W' => ∃ ga c, e = .returned (.tuple #[.slice (some ⟨ga, 0, none⟩) 1 c, .int .i64 0]) ∧
    (W'.cell? ⟨ga, 0, none⟩ = some (.int .u64 4104) ∧ W'.cell? ⟨ga, 1, none⟩ = some (.int .i64 8) ∧ W'.cell? ⟨ga, 2, none⟩ = some (.int .u64 4130)) ∧ Below w.heap.size w W' := by
  refine (patches_any _ 1 1 (exO g exA) w h (exO_fits _ _) (exA_fitsR _)).mono ?_
  rintro e W' ⟨bl, A, n, c, he, _, hok⟩
  obtain ⟨hn, ow⟩ := hok (exA_er g)
  rw [exA_pt] at hn ow
  rw [exA_er] at he
  obtain rfl : n = 1 := hn
  obtain ⟨ga, cap, hva, _, _⟩ := ow.form (by omega)
  obtain ⟨rfl, rfl⟩ : A = some ⟨ga, 0, none⟩ ∧ c = cap := by injection hva with h1 h2 h3; exact ⟨h1, h3⟩
  exact ⟨ga, c, he, ⟨(ow.cellAt 0 (by omega)).trans rfl, (ow.cellAt 1 (by omega)).trans rfl, (ow.cellAt 2 (by omega)).trans rfl⟩, bl⟩
theorem exB_pats (g : Nat) (w : World) (h : ObjR w w.heap.size (some ⟨g + 3, 0, none⟩) 1 (exO g exB)) : Calls Try.prog 10 #[.slice (some ⟨g + 3, 0, none⟩) 1 1] w fun e W' => ∃ A c, e = .returned (.tuple #[.slice A 0 c, .int .i64 22]) ∧ Below w.heap.size w W' := by
  refine (patches_any _ 1 1 (exO g exB) w h (exO_fits _ _) (exB_fitsR _)).mono ?_
  rintro e W' ⟨bl, A, n, c, he, hno, _⟩
  rw [exB_er] at he hno
  obtain rfl := hno (by decide)
  exact ⟨A, c, he, bl⟩
theorem ex_writes (g : Nat) (w : World) (h : Blk w g 55 exP.cs) : Calls Try.prog 14 #[.slice (some ⟨g, 0, none⟩) 1 1] w fun e W' => ∃ ga c gb cb, e = .returned (.tuple #[.slice (some ⟨ga, 0, none⟩) 1 c, .int .i64 0]) ∧
    (W'.cell? ⟨ga, 0, none⟩ = some (.int .u64 5) ∧ W'.cell? ⟨ga, 1, none⟩ = some (.slice (some ⟨gb, 0, none⟩) 2 cb) ∧ W'.cell? ⟨gb, 0, none⟩ = some (.int .u8 3) ∧ W'.cell? ⟨gb, 1, none⟩ = some (.int .u8 2)) ∧ Below w.heap.size w W' := by
  refine (writes_any _ 1 1 (fun _ => exP) (fun _ => 66051) w (str_one h h.lt) (by omega) (fun i => ⟨rfl, by unfold M Lay.M; decide⟩)).mono ?_
  rintro e W' ⟨bl, A, n, c, he, _, hok⟩
  have hk : okW (fun _ => exP) 1 = true := by kernel_rfl
  obtain ⟨hn, ds, ws⟩ := hok hk
  rw [hk] at he
  subst hn
  obtain ⟨d, rfl⟩ : ∃ d, ds = [d] := List.length_eq_one_iff.1 ws.len
  obtain ⟨hd1, hd2, hd3⟩ := ws.at_ 0 d rfl
  obtain ⟨dat, gb, dl, cb⟩ := d
  dsimp only at hd1 hd2 hd3
  obtain rfl : dat = 5 := hd1
  obtain rfl : dl = 2 := by have : ((dl : Nat) : Int) = 2 := hd2; omega
  obtain ⟨ga, cap, hva, _, _⟩ := ws.ow.form (by show 0 < 1; omega)
  obtain ⟨rfl, rfl⟩ : A = some ⟨ga, 0, none⟩ ∧ c = cap := by injection hva with h1 h2 h3; exact ⟨h1, h3⟩
  exact ⟨ga, c, gb, cb, he, ⟨(ws.ow.cellAt 0 (by show 0 < 1 * 2; omega)).trans rfl, (ws.ow.cellAt 1 (by show 1 < 1 * 2; omega)).trans rfl, (hd3.cellAt 0 (by omega)).trans (by kernel_rfl), (hd3.cellAt 1 (by omega)).trans (by kernel_rfl)⟩, bl⟩
set_option maxRecDepth 100000 in
set_option maxHeartbeats 1600000 in
theorem works_any (w : World) : Calls Try.prog 8 #[] w fun e w' => e = .returned (.bool true) ∧ Below w.heap.size w w' := by
  go_enter Try.func8, Try.ntmps8
  go_wp2_with fail
  refine (exA_call _).mono ?_
  rintro e w1 ⟨g1, rfl, k1, b1⟩
  have K1 := Lib.hid k1; have B1 := Lib.hid b1
  clear k1 b1
  go_wp2_with fail
  refine (exA_pats _ _ K1.out).mono ?_
  rintro e w2 ⟨ga, c, rfl, ⟨p0, p1, p2⟩, b2⟩
  have B2 := Lib.hid (B1.out.trans (b2.mono B1.out.size))
  clear b2 B1 K1
  have PC := Lib.hid (show ∀ W, Below w2.heap.size w2 W → W.cell? ⟨ga, 0, none⟩ = some (.int .u64 4104) ∧ W.cell? ⟨ga, 1, none⟩ = some (.int .i64 8) ∧ W.cell? ⟨ga, 2, none⟩ = some (.int .u64 4130) from fun W h => by
    have := World.block_lt_of_cell? _ _ p0
    exact ⟨(h.cell this).trans p0, (h.cell (p := ⟨ga, 1, none⟩) this).trans p1, (h.cell (p := ⟨ga, 2, none⟩) this).trans p2⟩)
  clear p0 p1 p2
  go_wp2_with fail
  refine (exB_call _).mono ?_
  rintro e w3 ⟨g3, rfl, k3, b3⟩
  have K3 := Lib.hid k3; have B3 := Lib.hid (B2.out.trans (b3.mono B2.out.size)); have Q3 := Lib.hid b3
  clear k3 b3 B2
  go_wp2_with fail
  refine (exB_pats _ _ K3.out).mono ?_
  rintro e w4 ⟨A4, c4, rfl, b4⟩
  have B4 := Lib.hid (B3.out.trans (b4.mono B3.out.size)); have Q4 := Lib.hid (Q3.out.trans (b4.mono Q3.out.size))
  clear b4 B3 Q3 K3
  go_wp2_with fail
  refine (ex_writes _ _ (Blk.new _ _ _)).mono ?_
  rintro e w5 ⟨gw, cw, gb, cb, rfl, ⟨q0, q1, q2, q3⟩, b5⟩
  have X5 := Lib.hid ((Below.refl w4.heap.size w4).alloc (Nat.le_refl _) (.cells exP.cs 55))
  have B5 := Lib.hid ((B4.out.trans (X5.out.mono B4.out.size)).trans (b5.mono (by have := B4.out.size; simp; omega)))
  have Q5 := Lib.hid ((Q4.out.trans (X5.out.mono Q4.out.size)).trans (b5.mono (by have := Q4.out.size; simp; omega)))
  clear b5 B4 Q4 X5
  obtain ⟨p0, p1, p2⟩ := PC.out _ Q5.out
  clear PC Q5
  go_wp2_with fail
  go_ret
  exact ⟨rfl, B5.out⟩
end Go.Proofs.Ytlenjpgkmikgpaa
