import Derived.Test.YtaeccpoljenjmaaW4
namespace Go.Proofs.Ytaeccpoljenjmaa
open Go.RowKit Go.Hos
set_option linter.unusedVariables false

set_option maxHeartbeats 1600000 in
theorem nil_any (d t f i p : Int) (x : Bool) (w : World) :
    Calls Try.prog 6 #[.agg #[.int .i64 d, .int .i64 t, .int .i64 f, .int .i64 i, .int .i64 p, .bool x]] w fun e w' => e = .returned (.bool true) ∧ Below w.heap.size w w' := by
  go_enter Try.func6, Try.ntmps6
  go_wp2_with fail
  refine (open_nil i x _).mono ?_
  rintro e w1 ⟨rfl, rfl⟩
  go_wp2_with fail
  refine (at_nil f _).mono ?_
  rintro e w1 ⟨rfl, hb⟩
  rw [Sl.cs, nosl]
  have G1 : Hid (Below w.heap.size w w1) := ((Below.refl _ _).alloc (Nat.le_refl _) _).trans (hb.mono (by simp))
  have kc := ((Blk.new w 27 #[.int .i64 d, .int .i64 t, .int .i64 f, .int .i64 i, .int .i64 p, .bool x]).below hb (by simp)).cell
  have hz : w.heap.size < w1.heap.size := by have := hb.size; simp at this; omega
  clear hb
  go_wp2_with fail
  refine (sweep_nil _).mono ?_
  rintro e w2 ⟨rfl, rfl⟩
  go_wp2_with fail
  refine (close_nil f _).mono ?_
  rintro e w2 ⟨rfl, rfl⟩
  go_wp2_with fail
  refine (move_nil f p _).mono ?_
  rintro e w2 ⟨rfl, rfl⟩
  go_wp2_with fail
  refine (fork_nil _).mono ?_
  rintro e w2 ⟨rfl, rfl⟩
  go_wp2_with fail
  refine (list_nil _).mono ?_
  rintro e w2 ⟨rfl, rfl⟩
  go_wp2_with fail
  refine (works_any _).mono ?_
  rintro e w3 ⟨rfl, hb⟩
  have G3 : Hid (Below w.heap.size w w3) := (G1.out.alloc G1.out.size _).trans (hb.mono (by have := G1.out.size; simp; omega))
  clear hb
  go_wp2_with fail
  go_ret
  exact ⟨rfl, G3.out⟩
end Go.Proofs.Ytaeccpoljenjmaa
