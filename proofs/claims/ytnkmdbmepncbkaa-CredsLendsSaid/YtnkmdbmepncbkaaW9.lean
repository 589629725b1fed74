import Derived.Test.YtnkmdbmepncbkaaW8
namespace Go.Proofs.Ytnkmdbmepncbkaa
open Go.RowKit Go.Hos Go.Sort

theorem reads_zero (w : World) (B : Nat) (A : Option Addr) : Reads w B 1 A 0 (([] : List Int).map (Value.int .u32)) := ⟨by simp, fun h => absurd h (by omega)⟩

/-- what the anchor's walk keeps: the node, the credentials, what was lent -/
structure St (w : World) (g : Nat) (A : Option Addr) (c : Nat) (W : World) : Prop where
  bm : Blk W w.heap.size 28 #[.int .u8 1, .int .u16 2536, .int .u32 7, .int .u32 8, .int .i64 0]
  bc : Blk W (w.heap.size + 1) 25 #[.int .u32 1, .int .u32 1, .int .u32 1, .int .u32 1, .slice none 0 0]
  bl : Blk W g 25 #[.int .u32 1, .int .u32 7, .int .u32 7, .int .u32 1, .slice A 0 c]
  low : Below w.heap.size w W
theorem St.next {w W W' : World} {g : Nat} {A : Option Addr} {c : Nat} (h : St w g A c W) (hb : Below W.heap.size W W') : St w g A c W' :=
  ⟨h.bm.below hb h.bm.lt, h.bc.below hb h.bc.lt, h.bl.below hb h.bl.lt, h.low.trans (hb.mono h.low.size)⟩

set_option maxHeartbeats 2000000 in
theorem works_any (w : World) : Calls Try.prog 9 #[] w fun e w' => e = .returned (.bool true) ∧ Below w.heap.size w w' := by
  go_enter Try.func9, Try.ntmps9
  go_wp2_with fail
  refine (lend_any 1 1 1 1 none 0 0 [] 1 7 8 0 2536 0 _ Reads.none_ (Nat.zero_le _) (by omega) (by omega)).mono ?_
  rintro e w1 ⟨v, rfl, hown, hb1⟩
  have e1 : lentE 1 2536 7 1 = 7 := by decide
  rw [e1]
  have hlow : Below w.heap.size w w1 := ((Below.refl _ _).alloc (Nat.le_refl _) _).alloc (by simp) _ |>.trans (hb1.mono (by simp; omega))
  have k0 : Blk w1 w.heap.size 28 #[.int .u8 1, .int .u16 2536, .int .u32 7, .int .u32 8, .int .i64 0] := ((Blk.new _ _ _).alloc _).below hb1 (by simp; omega)
  have k1 : Blk w1 (w.heap.size + 1) 25 #[.int .u32 1, .int .u32 1, .int .u32 1, .int .u32 1, .slice none 0 0] := (blk_at _ _ (by simp)).below hb1 (by simp)
  obtain ⟨A, c, rfl⟩ := ownsRow_val hown
  have st0 : Hid (St w w1.heap.size A c (w1.alloc (.cells #[.int .u32 1, .int .u32 7, .int .u32 7, .int .u32 1, .slice A 0 c] 25))) :=
    ⟨k0.alloc _, k1.alloc _, Blk.new _ _ _, hlow.alloc hlow.size _⟩
  have kc0 := k0.cell
  have kc1 := k1.cell
  have z0 := k0.lt
  have z1 := k1.lt
  obtain ⟨g, hg⟩ : ∃ g, g = w1.heap.size := ⟨_, rfl⟩
  have HG := Lib.hid hg
  clear hb1 hown k0 k1 hlow e1 hg
  go_wp2_with fail
  rw [← HG.out] at st0
  refine (may_any 1 7 7 1 A 0 c [] 1 7 8 0 2536 7 0 _ (reads_zero _ _ _) (Nat.zero_le _) (by omega) (by omega) (by omega)).mono ?_
  rintro e w2 ⟨rfl, hb2⟩
  rw [show mayB ((7 : Int) == 0) ((1 : Int) == 2) (bts (cls 7 1 [] 7 8) 2536) (anyX 2536) 7 = true by decide]
  rw [← HG.out]
  have st := st0.out.next hb2
  have kc0 := st.bm.cell
  have kc1 := st.bc.cell
  have kc2 := st.bl.cell
  have st1 : Hid (St w g A c w2) := st
  clear st hb2
  go_wp2_with fail
  refine (may_any 1 1 1 1 none 0 0 [] 1 7 8 0 2536 4 0 _ (reads_zero _ _ _) (Nat.zero_le _) (by omega) (by omega) (by omega)).mono ?_
  rintro e w3 ⟨rfl, hb2⟩
  rw [show mayB ((1 : Int) == 0) ((1 : Int) == 2) (bts (cls 1 1 [] 7 8) 2536) (anyX 2536) 4 = false by decide]
  clear kc0 kc1 kc2
  have st := st1.out.next hb2
  have kc0 := st.bm.cell
  have kc1 := st.bc.cell
  have kc2 := st.bl.cell
  have st2 : Hid (St w g A c w3) := st
  clear st hb2
  go_wp2_with fail
  refine (class_any 1 1 1 1 none 0 0 [] 1 2536 7 8 0 0 _ (reads_zero _ _ _) (Nat.zero_le _) (by omega)).mono ?_
  rintro e w4 ⟨rfl, hb2⟩
  rw [show cls 1 1 [] 7 8 = 2 by decide]
  clear kc0 kc1 kc2
  have st := st2.out.next hb2
  have kc0 := st.bm.cell
  have kc1 := st.bc.cell
  have kc2 := st.bl.cell
  have st3 : Hid (St w g A c w4) := st
  clear st hb2
  go_wp2_with fail
  refine (same_any 1 1 1 1 1 1 1 1 none none 0 0 0 0 [] [] 0 0 _ (reads_zero _ _ _) (reads_zero _ _ _) (Nat.zero_le _) (Nat.zero_le _) (by omega) (by omega)).mono ?_
  rintro e w5 ⟨rfl, hb2⟩
  rw [show sameB 1 1 1 1 1 1 1 1 [] [] = true by decide]
  clear kc0 kc1 kc2
  have st := st3.out.next hb2
  have kc0 := st.bm.cell
  have kc1 := st.bc.cell
  have kc2 := st.bl.cell
  have st4 : Hid (St w g A c w5) := st
  clear st hb2
  go_wp2_with fail
  refine (same_any 1 1 1 1 1 7 7 1 none A 0 0 0 c [] [] 0 0 _ (reads_zero _ _ _) (reads_zero _ _ _) (Nat.zero_le _) (Nat.zero_le _) (by omega) (by omega)).mono ?_
  rintro e w6 ⟨rfl, hb2⟩
  rw [show sameB 1 1 1 1 1 7 7 1 [] [] = false by decide]
  clear kc0 kc1 kc2
  have st := st4.out.next hb2
  have kc0 := st.bm.cell
  have kc1 := st.bc.cell
  have kc2 := st.bl.cell
  have st5 : Hid (St w g A c w6) := st
  clear st hb2
  go_wp2
  go_ret
  exact ⟨rfl, st5.out.low⟩
end Go.Proofs.Ytnkmdbmepncbkaa
