import Derived.Test.YtgikfjfinjcfmaaDoorF5
namespace Go.Proofs.YtgikfjfinjcfmaaDoor
open Go.RowKit Go.Hos
set_option linter.unusedVariables false

set_option maxHeartbeats 800000 in
theorem new_bad (n : Int) (w : World) (h : n < 1 ∨ 1024 < n) :
    Calls Tryd.prog 28 #[.int .i64 n] w fun e w' => e = .returned (.tuple #[.pointer none, .int .i64 1]) ∧ w = w' := by
  rcases h with h | h
  · go_enter Tryd.func28, Tryd.ntmps28
    go_wp2_with fail
    go_ret2
    exact ⟨rfl, rfl⟩
  · have h0 : ¬ n < 1 := by omega
    go_enter Tryd.func28, Tryd.ntmps28
    go_wp2_with fail
    go_ret2
    exact ⟨rfl, rfl⟩

set_option maxRecDepth 20000 in
set_option maxHeartbeats 1600000 in
theorem works_any (w : World) (ht : TB w) (h0 : 0 < w.heap.size) : Calls Tryd.prog 11 #[] w fun e w' => e = .returned (.bool true) ∧ Below w.heap.size w w' := by
  have HT := Lib.hid ht
  clear ht
  go_enter Tryd.func11, Tryd.ntmps11
  go_wp2_with fail
  refine (new_ok 2 _ (by omega) (by omega)).mono ?_
  rintro e w1 ⟨p, c, b, f, rfl, hp, hb⟩
  have P1 : Hid (PM w.heap.size w1 p c b f 2 (fun _ => 0) (fun _ => 0) (fun _ _ => 0)) := hp
  have B1 : Hid (Below w.heap.size w w1) := hb
  clear hp hb
  go_wp2_with fail
  refine (take_any _ P1.out B1.out.size (HT.out.below B1.out h0)).mono ?_
  rintro e w2 ⟨rfl, ⟨Fb, hp⟩, _, hb⟩
  have e1 : takeN (fun _ => 0) 2 = 0 := by decide
  have e2 : takeE (fun _ => 0) 2 = 0 := by decide
  rw [e1, e2]
  have P2 : Hid (PM w.heap.size w2 p c b f 2 (takeC (fun _ => 0) 2) Fb (takeD (fun _ => 0) 2 (fun _ _ => 0))) := hp
  have B2 : Hid (Below w.heap.size w w2) := B1.out.trans hb
  clear hp hb e1 e2
  go_wp2_with fail
  refine (count_any 0 _ P2.out).mono ?_
  rw [show cnt (takeC (fun _ => 0) 2) 2 0 = 1 by decide]
  rintro e w3 ⟨rfl, rfl⟩
  go_wp2_with fail
  refine (free_any _ P2.out).mono ?_
  rw [show frees (takeC (fun _ => 0) 2) 2 = 1 by decide]
  rintro e w3 ⟨rfl, rfl⟩
  go_wp2_with fail
  refine (size_any _ P2.out).mono ?_
  rintro e w3 ⟨rfl, rfl⟩
  go_wp2_with fail
  go_ret
  exact ⟨rfl, B2.out⟩

set_option maxRecDepth 20000 in
set_option maxHeartbeats 1600000 in
theorem nil_any (d x y z : Int) (A : Option Addr) (m q : Nat) (w : World) (ht : TB w) (h0 : 0 < w.heap.size) :
    Calls Tryd.prog 7 #[.agg #[.int .i64 d, .int .i64 x, .int .i64 y, .int .i64 z, .slice A m q]] w fun e w' => e = .returned (.bool true) ∧ Below w.heap.size w w' := by
  have HT : Hid (TB (w.alloc (.cells #[.int .i64 d, .int .i64 x, .int .i64 y, .int .i64 z, .slice A m q] 44))) := ht.below ((Below.refl _ _).alloc (Nat.le_refl _) _) h0
  clear ht
  go_enter Tryd.func7, Tryd.ntmps7
  go_wp2_with fail
  refine (take_nil _).mono ?_
  rintro e w2 ⟨rfl, rfl⟩
  go_wp2_with fail
  refine (up_nil x _).mono ?_
  rintro e w2 ⟨rfl, rfl⟩
  go_wp2_with fail
  refine (down_nil x _).mono ?_
  rintro e w2 ⟨rfl, rfl⟩
  go_wp2_with fail
  refine (load_nil x y z _).mono ?_
  rintro e w2 ⟨rfl, rfl⟩
  go_wp2_with fail
  refine (store_nil x y A m q _).mono ?_
  rintro e w2 ⟨rfl, rfl⟩
  go_wp2_with fail
  refine (copy_nil x _).mono ?_
  rintro e w2 ⟨rfl, rfl⟩
  go_wp2_with fail
  refine (count_nil x _).mono ?_
  rintro e w2 ⟨rfl, rfl⟩
  go_wp2_with fail
  refine (free_nil _).mono ?_
  rintro e w2 ⟨rfl, rfl⟩
  go_wp2_with fail
  refine (size_nil _).mono ?_
  rintro e w2 ⟨rfl, rfl⟩
  go_wp2_with fail
  refine (works_any _ HT.out (by simp)).mono ?_
  rintro e w3 ⟨rfl, hb⟩
  have G3 : Hid (Below w.heap.size w w3) := ((Below.refl _ _).alloc (Nat.le_refl _) _).trans (hb.mono (by simp))
  clear hb
  go_wp2_with fail
  go_ret
  exact ⟨rfl, G3.out⟩
end Go.Proofs.YtgikfjfinjcfmaaDoor
