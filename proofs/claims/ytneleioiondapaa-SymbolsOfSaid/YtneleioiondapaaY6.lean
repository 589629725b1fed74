import Derived.Test.YtneleioiondapaaY5
import Derived.Deep.MidRow
namespace Go.Proofs.Ytneleioiondapaa
open Go.RowKit Go.Shelf Go.Hos
set_option linter.unusedVariables false
theorem StR.two {W : World} {B g size : Nat} {t : TypeId} {c0 c1 : Array Value} {O : Nat → Array Value} (hb : Blk W g t (c0 ++ c1)) (hg : g < B) (h0 : c0.size = size) (e0 : O 0 = c0) (e1 : O 1 = c1) : StR W B size (some ⟨g, 0, none⟩) 2 O := fun _ => by
  refine ⟨_, rfl, hg, fun i hi j v hv => ?_⟩
  rw [Addr.add_mid, Nat.zero_add, Blk.cell hb]
  have : i = 0 ∨ i = 1 := by omega
  rcases this with rfl | rfl
  · rw [e0] at hv
    have hj : j < c0.size := (Array.getElem?_eq_some_iff.1 hv).1
    rw [Nat.zero_mul, Nat.zero_add, Array.getElem?_append_left hj]; exact hv
  · rw [e1] at hv
    rw [Nat.one_mul, Array.getElem?_append_right (by omega), show size + j - c0.size = j by omega]; exact hv
def oA (g : Nat) : ObjD := { ino := 0, base := 100, ty := 0, en := 0, ph := 0, gA := none, gM := 0, gQ := 0, nA := none, nM := 0, nQ := 0, so := ⟨#[]⟩, rn := ⟨#[]⟩, sA := some ⟨g, 0, none⟩, sM := 2, sQ := 2, rA := none, rM := 0, rQ := 0, sy := fun k => if k = 0 then ⟨⟨#[102]⟩, 1, 0, 1, true⟩ else ⟨⟨#[103]⟩, 0, 0, 1, false⟩ }
def oB (g : Nat) : ObjD := { ino := 0, base := 200, ty := 0, en := 0, ph := 0, gA := none, gM := 0, gQ := 0, nA := none, nM := 0, nQ := 0, so := ⟨#[]⟩, rn := ⟨#[]⟩, sA := some ⟨g, 0, none⟩, sM := 2, sQ := 2, rA := none, rM := 0, rQ := 0, sy := fun k => if k = 0 then ⟨⟨#[103]⟩, 6, 0, 2, true⟩ else ⟨⟨#[120]⟩, 0, 0, 1, false⟩ }
def oW (g : Nat) : Nat → ObjD := fun i => if i = 0 then oA g else oB (g + 2)
theorem w_lk (g : Nat) : lkO (oW g) 2 ⟨#[103]⟩ = some (1, 0) := by rfl
theorem w_of1 (g : Nat) : ofP (oW g) 2 0 1 = (206, 0) := by rfl
theorem w_of2 (g : Nat) : ofP (oW g) 2 1 1 = (0, 21) := by rfl
theorem w_all (g : Nat) : (allN (oW g) (dfO (oW g) 2)).length = 2 := by rfl
theorem w_len (g : Nat) : (dfO (oW g) 2).length = 2 := by rfl
def cA (g : Nat) : Array Value := #[.int .i64 0, .int .u64 100, .int .u16 0, .int .u64 0, .int .u64 0, .slice none 0 0, .slice none 0 0, .string ⟨#[]⟩, .string ⟨#[]⟩, .slice (some ⟨g, 0, none⟩) 2 2, .slice none 0 0]
def cB (g : Nat) : Array Value := #[.int .i64 0, .int .u64 200, .int .u16 0, .int .u64 0, .int .u64 0, .slice none 0 0, .slice none 0 0, .string ⟨#[]⟩, .string ⟨#[]⟩, .slice (some ⟨g, 0, none⟩) 2 2, .slice none 0 0]
def sA1 : Array Value := #[.string ⟨#[102]⟩, .int .u64 1, .int .u64 0, .int .u8 1, .bool true]
def sA2 : Array Value := #[.string ⟨#[103]⟩, .int .u64 0, .int .u64 0, .int .u8 1, .bool false]
def sB1 : Array Value := #[.string ⟨#[103]⟩, .int .u64 6, .int .u64 0, .int .u8 2, .bool true]
def sB2 : Array Value := #[.string ⟨#[120]⟩, .int .u64 0, .int .u64 0, .int .u8 1, .bool false]
def wW (w : World) : World := ((((w.alloc (.cells (sA1 ++ sA2) 46)).alloc (.cells (cA w.heap.size) 38)).alloc (.cells (sB1 ++ sB2) 46)).alloc (.cells (cB (w.heap.size + 1 + 1)) 38)).alloc (.cells (cA w.heap.size ++ cB (w.heap.size + 1 + 1)) 38)
theorem wW_ok (w : World) : ObjR (wW w) (wW w).heap.size (some ⟨w.heap.size + 1 + 1 + 1 + 1, 0, none⟩) 2 (oW w.heap.size) ∧ Below w.heap.size w (wW w) := by
  have hsz : (wW w).heap.size = w.heap.size + 5 := by simp [wW]
  refine ⟨⟨?_, ?_, by simp [maxLen]⟩, ?_⟩
  · refine StR.two (c0 := cA w.heap.size) (c1 := cB (w.heap.size + 1 + 1)) (t := 38) (blk_at _ _ (by simp)) (by rw [hsz]; omega) rfl rfl rfl
  · intro i hi
    have : i = 0 ∨ i = 1 := by omega
    rcases this with rfl | rfl
    · refine ⟨?_, by show 2 ≤ maxLen; simp [maxLen]⟩
      exact StR.two (c0 := sA1) (c1 := sA2) (t := 46) (((((Blk.new w 46 (sA1 ++ sA2)).alloc _).alloc _).alloc _).alloc _) (by rw [hsz]; omega) rfl rfl rfl
    · refine ⟨?_, by show 2 ≤ maxLen; simp [maxLen]⟩
      have h1 : Blk (wW w) (w.heap.size + 1 + 1) 46 (sB1 ++ sB2) := (((blk_at (w := (w.alloc (.cells (sA1 ++ sA2) 46)).alloc (.cells (cA w.heap.size) 38)) 46 (sB1 ++ sB2) (by simp)).alloc _).alloc _)
      exact StR.two (c0 := sB1) (c1 := sB2) (t := 46) h1 (by rw [hsz]; omega) rfl rfl rfl
  · exact (((((Below.refl _ w).alloc (Nat.le_refl _) _).alloc (by simp) _).alloc (by simp; omega) _).alloc (by simp; omega) _).alloc (by simp; omega) _
theorem nm_small (g : Nat) : ∀ x, (symA (oW g) x).nm.size ≤ maxLen := by
  rintro ⟨i, k⟩
  have : (symA (oW g) (i, k)).nm.size = 1 := by
    unfold symA oW
    dsimp only
    split
    · unfold oA; dsimp only; split <;> rfl
    · unfold oB; dsimp only; split <;> rfl
  rw [this]; simp [maxLen]
set_option maxRecDepth 20000 in
set_option maxHeartbeats 1600000 in
theorem works_any (w : World) : Calls Try.prog 8 #[] w fun e w' => e = .returned (.bool true) ∧ Below w.heap.size w w' := by
  obtain ⟨hR, hb0⟩ := wW_ok w
  obtain ⟨W1, hW1⟩ : ∃ W1, W1 = wW w := ⟨_, rfl⟩
  have HW := Lib.hid hW1
  rw [← hW1] at hR hb0
  have H := Lib.hid hR
  have HB := Lib.hid hb0
  clear hR hb0 hW1
  go_enter Try.func8, Try.ntmps8
  go_wp2_with fail
  change Calls _ _ _ (wW w) _
  rw [← HW.out]
  refine (lookup_any _ 2 2 (oW w.heap.size) ⟨#[103]⟩ _ H.out).mono ?_
  rw [w_lk, show lkV (some (1, 0)) = .tuple #[.int .i64 1, .int .i64 0, .bool true] from rfl]
  rintro e w2 ⟨rfl, b2⟩
  have H2 := Lib.hid (H.out.next b2 (Nat.le_refl _))
  have HB2 := Lib.hid (HB.out.trans (b2.mono HB.out.size))
  clear b2
  go_wp2_with fail
  refine (of_any _ 2 2 (oW w.heap.size) 0 1 _ _ H2.out (Nat.le_refl _)).mono ?_
  rw [w_of1]
  rintro e w3 ⟨rfl, b3⟩
  have H3 := Lib.hid (H2.out.next b3 (Nat.le_refl _))
  have HB3 := Lib.hid (HB2.out.trans (b3.mono HB2.out.size))
  clear b3
  go_wp2_with fail
  refine (of_any _ 2 2 (oW w.heap.size) 1 1 _ _ H3.out (Nat.le_refl _)).mono ?_
  rw [w_of2]
  rintro e w4 ⟨rfl, b4⟩
  have H4 := Lib.hid (H3.out.next b4 (Nat.le_refl _))
  have HB4 := Lib.hid (HB3.out.trans (b4.mono HB3.out.size))
  clear b4
  go_wp2_with fail
  refine (all_any _ 2 2 (oW w.heap.size) _ H4.out (nm_small _) (by rw [w_len]; omega)).mono ?_
  rw [w_all]
  rintro e w5 ⟨v, rfl, ho, b5⟩
  obtain ⟨A5, c5, rfl⟩ := ownsRow_val ho
  have HB5 := Lib.hid (HB4.out.trans (b5.mono HB4.out.size))
  clear b5 ho
  go_wp2_with fail
  go_ret
  exact ⟨rfl, HB5.out⟩
end Go.Proofs.Ytneleioiondapaa
