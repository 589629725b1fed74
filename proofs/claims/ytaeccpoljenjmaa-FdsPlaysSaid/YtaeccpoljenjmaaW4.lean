import Derived.Test.YtaeccpoljenjmaaW3
import Derived.Laws.StructEq
namespace Go.Proofs.Ytaeccpoljenjmaa
open Go.RowKit Go.Hos
set_option linter.unusedVariables false

theorem run_equal33 (a b : Sl) (w : World) : (Op.equalIn 10000 33 (.agg #[.bool a.u, .int .i64 a.i, .int .i64 a.p, .bool a.x]) (.agg #[.bool b.u, .int .i64 b.i, .int .i64 b.p, .bool b.x])).run Try.prog w = .ok (decide (a = b)) w := by
  have hf : Try.prog.underlying 33 = some (.struct (Try.prog.fieldsOf 33)) := by kernel_rfl
  rw [run_equalIn_agg w 9999 33 _ _ hf (by kernel_rfl)]
  have hfl : Try.prog.fieldsOf 33 = #[{ name := "Used", type := 4, offset := 0, embedded := false, tag := "", pkgPath := "", byteOffset := 0 },
          { name := "Ino", type := 3, offset := 1, embedded := false, tag := "", pkgPath := "", byteOffset := 8 },
          { name := "Pos", type := 3, offset := 2, embedded := false, tag := "", pkgPath := "", byteOffset := 16 },
          { name := "Cloexec", type := 4, offset := 3, embedded := false, tag := "", pkgPath := "", byteOffset := 24 }] := by simp [Program.fieldsOf, Try.underlying33]
  have pb : ∀ (cs : Array Value) (i : Nat) (v : Value) (w : World), cs[i]? = some v → (part 4 cs i).run Try.prog w = .ok v w := fun cs i v w h => by
    simp [part, isAgg, run_underlying Try.underlying4, h]
  have pi : ∀ (cs : Array Value) (i : Nat) (v : Value) (w : World), cs[i]? = some v → (part 3 cs i).run Try.prog w = .ok v w := fun cs i v w h => by
    simp [part, isAgg, run_underlying Try.underlying3, h]
  have qb : ∀ (x y : Bool) (w : World), (Op.equalIn 9999 4 (.bool x) (.bool y)).run Try.prog w = .ok (x == y) w := fun x y w => run_equalIn_bool w 9998 4 x y Try.underlying4
  have qi : ∀ (x y : Int) (w : World), (Op.equalIn 9999 3 (.int .i64 x) (.int .i64 y)).run Try.prog w = .ok (x == y) w := fun x y w => run_equalIn_int w 9998 3 .i64 .i64 x y Try.underlying3
  rw [hfl]
  obtain ⟨a1, a2, a3, a4⟩ := a
  obtain ⟨b1, b2, b3, b4⟩ := b
  simp only [Op.eqFields]
  simp [pb, pi, qb, qi]
  by_cases h1 : a1 = b1 <;> by_cases h2 : a2 = b2 <;> by_cases h3 : a3 = b3 <;> by_cases h4 : a4 = b4 <;> simp [h1, h2, h3, h4]
theorem run_eql33 (a b : Sl) (w : World) : (binOp .eql 33 (.agg #[.bool a.u, .int .i64 a.i, .int .i64 a.p, .bool a.x]) (.agg #[.bool b.u, .int .i64 b.i, .int .i64 b.p, .bool b.x])).run Try.prog w = .ok (.bool (decide (a = b))) w := by
  rw [run_eql_struct, run_equal33]; rfl
theorem run_neq33 (a b : Sl) (w : World) : (binOp .neq 33 (.agg #[.bool a.u, .int .i64 a.i, .int .i64 a.p, .bool a.x]) (.agg #[.bool b.u, .int .i64 b.i, .int .i64 b.p, .bool b.x])).run Try.prog w = .ok (.bool (!decide (a = b))) w := by
  rw [run_neq_struct, run_equal33]; rfl

set_option maxRecDepth 20000 in
set_option maxHeartbeats 1600000 in
theorem works_any (w : World) : Calls Try.prog 11 #[] w fun e w' => e = .returned (.bool true) ∧ Below w.heap.size w w' := by
  go_enter Try.func11, Try.ntmps11
  go_wp2_with fail
  refine (new_any _).mono ?_
  rintro e w1 ⟨g, rfl, hg, hs, hb⟩
  have S1 : Hid (SB w1 g 50 16 emptyT) := hs
  have G1 : Hid (Below w.heap.size w w1) := hb
  have hgl := hs.lt
  clear hs hb
  go_wp2_with fail
  refine (open_any g emptyT 3 false _ S1.out).mono ?_
  rintro e w2 ⟨rfl, hs, hb⟩
  have e1 : openN emptyT 3 = 0 := by decide
  have e2 : openE emptyT 3 = 0 := by decide
  rw [e1, e2]
  have S2 : Hid (SB w2 g 50 16 (openT emptyT 3 false)) := hs
  have G2 : Hid (Below w.heap.size w w2) := G1.out.trans (below_of_grown hb hg G1.out.size)
  clear hs hb e1 e2
  go_wp2_with fail
  refine (open_any g _ 4 true _ S2.out).mono ?_
  rintro e w3 ⟨rfl, hs, hb⟩
  have e1 : openN (openT emptyT 3 false) 4 = 1 := by decide
  have e2 : openE (openT emptyT 3 false) 4 = 0 := by decide
  rw [e1, e2]
  have S3 : Hid (SB w3 g 50 16 (openT (openT emptyT 3 false) 4 true)) := hs
  have G3 : Hid (Below w.heap.size w w3) := G2.out.trans (below_of_grown hb hg G2.out.size)
  clear hs hb e1 e2
  go_wp2_with fail
  refine (sweep_any g _ _ S3.out).mono ?_
  rintro e w4 ⟨rfl, hs, hb⟩
  obtain ⟨T, hT⟩ : ∃ T, T = sweepT (openT (openT emptyT 3 false) 4 true) 16 := ⟨_, rfl⟩
  rw [← hT] at hs
  have HT := Lib.hid hT
  have S4 : Hid (SB w4 g 50 16 T) := hs
  have G4 : Hid (Below w.heap.size w w4) := G3.out.trans (below_of_grown hb hg G3.out.size)
  clear hs hb hT
  go_wp2_with fail
  refine (at_any g 0 T _ S4.out).mono ?_
  rintro e w5 ⟨rfl, hb⟩
  have e1 : atV T 0 = ⟨true, 3, 0, false⟩ := by rw [HT.out]; decide
  have e2 : closeE T 0 = 0 := by rw [HT.out]; decide
  rw [e1, e2, Sl.cs]
  have S5 : Hid (SB w5 g 50 16 T) := S4.out.next hb
  have G5 : Hid (Below w.heap.size w w5) := G4.out.trans (hb.mono G4.out.size)
  clear hb e1 e2
  go_wp2_with fail
  refine (at_any g 1 T _ (S5.out.next ((Below.refl _ _).alloc (Nat.le_refl _) _))).mono ?_
  rintro e w6 ⟨rfl, hb⟩
  have e1 : atV T 1 = nosl := by rw [HT.out]; decide
  have e2 : closeE T 1 = 14 := by rw [HT.out]; decide
  rw [e1, e2, Sl.cs, nosl]
  have S6 : Hid (SB w6 g 50 16 T) := (S5.out.next ((Below.refl _ _).alloc (Nat.le_refl _) _)).next hb
  have G6 : Hid (Below w.heap.size w w6) := (G5.out.alloc G5.out.size _).trans (hb.mono (by have := G5.out.size; simp; omega))
  have kc := (((Blk.new w5 33 #[.bool true, .int .i64 3, .int .i64 0, .bool false])).below hb (by simp)).cell
  have hz : w5.heap.size < w6.heap.size := by have := hb.size; simp at this; omega
  clear hb e1 e2
  go_wp2_with fail
  refine (list_any g T _ (S6.out.next ((Below.refl _ _).alloc (Nat.le_refl _) _))).mono ?_
  rintro e w7 ⟨g', c', rfl, _, _, hb⟩
  have G7 : Hid (Below w.heap.size w w7) := (G6.out.alloc G6.out.size _).trans (hb.mono (by have := G6.out.size; simp; omega))
  clear hb
  go_wp2_with fail
  go_ret
  exact ⟨rfl, G7.out⟩
end Go.Proofs.Ytaeccpoljenjmaa
