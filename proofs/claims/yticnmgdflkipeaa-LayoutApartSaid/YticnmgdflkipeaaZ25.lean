import Derived.Test.YticnmgdflkipeaaZ24
namespace Go.Proofs.Yticnmgdflkipeaa
open Go.RowKit Go.Shelf Go.Hos
set_option linter.unusedVariables false
/-! the chapter's example -/
def seg1 : SegD := ⟨1, 6, 564, 4660, 256, 8192⟩
def oneD (g t : Nat) : ObjD := { ino := 3, base := 0, ty := t, en := 0, ph := 0, gA := some ⟨g, 0, none⟩, gM := 1, gQ := 1, nA := none, nM := 0, nQ := 0, so := ⟨#[]⟩, rn := ⟨#[]⟩, sA := none, sM := 0, sQ := 0, rA := none, rM := 0, rQ := 0, sg := fun _ => seg1 }
theorem seg1_fits : seg1.fits := by unfold SegD.fits seg1 M; exact ⟨by decide, by decide, by decide, by decide⟩
theorem one_seg {W : World} {B g t : Nat} (h : Blk W g 56 seg1.cs) (hg : g < B) : StR W B 6 (oneD g t).gA (oneD g t).gM (segC (oneD g t).sg) := fun _ => by
  refine ⟨⟨g, 0, none⟩, rfl, hg, fun i hi j v hv => ?_⟩
  have : i = 0 := by have : i < 1 := hi; omega
  subst this
  rw [Addr.add_mid, Nat.zero_add, h.cell, Nat.zero_mul, Nat.zero_add]
  exact hv
set_option maxRecDepth 20000 in
set_option maxHeartbeats 1600000 in
theorem one_any (t : Nat) (w : World) : Calls Try.prog 23 #[.int .u16 t] w fun e W' => ∃ g, e = .returned (.agg (oneD g t).cs) ∧ w.heap.size ≤ g ∧ Blk W' g 56 seg1.cs ∧ Below w.heap.size w W' := by
  go_enter Try.func23, Try.ntmps23
  go_wp2_with fail
  obtain ⟨W', hW'⟩ : ∃ W', W' = (w.alloc (.cells (oneD (w.heap.size + 1) t).cs 33)).alloc (.cells #[.int .u32 1, .int .u8 6, .int .u64 564, .int .u64 4660, .int .u64 256, .int .u64 8192] 56) := ⟨_, rfl⟩
  have B2 : Blk W' w.heap.size 33 (oneD (w.heap.size + 1) t).cs := by rw [hW']; exact (Blk.new _ _ _).alloc _
  have B3 : Blk W' (w.heap.size + 1) 56 seg1.cs := by rw [hW']; exact blk_at _ _ (by simp)
  have y0 := (B2.cell 0).trans rfl; have y1 := (B2.cell 1).trans rfl; have y2 := (B2.cell 2).trans rfl; have y3 := (B2.cell 3).trans rfl; have y4 := (B2.cell 4).trans rfl; have y5 := (B2.cell 5).trans rfl
  have y6 := (B2.cell 6).trans rfl; have y7 := (B2.cell 7).trans rfl; have y8 := (B2.cell 8).trans rfl; have y9 := (B2.cell 9).trans rfl; have y10 := (B2.cell 10).trans rfl
  simp only [oneD, ObjD.cs, List.getElem?_toArray, List.getElem?_cons_succ, List.getElem?_cons_zero] at y0 y1 y2 y3 y4 y5 y6 y7 y8 y9 y10
  change bodyPost _ _ _ _ _ ((w.alloc (.cells (oneD (w.heap.size + 1) t).cs 33)).alloc (.cells #[.int .u32 1, .int .u8 6, .int .u64 564, .int .u64 4660, .int .u64 256, .int .u64 8192] 56))
  rw [← hW']
  refine bodyPost_ret (v := .agg (oneD (w.heap.size + 1) t).cs) ?_ rfl ⟨w.heap.size + 1, rfl, by omega, B3, by rw [hW']; exact ((Below.refl _ _).alloc (Nat.le_refl _) _).alloc (by simp) _⟩
  simp [results, Try.results23, go_sem, y0, y1, y2, y3, y4, y5, y6, y7, y8, y9, y10, oneD, ObjD.cs]
theorem w_right (g t : Nat) (h : t = 2 ∨ t = 3) : rightB (oneD g t) = true := by rcases h with rfl | rfl <;> kernel_rfl
def wO (g1 g2 : Nat) (i : Nat) : ObjD := if i = 0 then oneD g1 3 else oneD g2 3
theorem wO_right (g1 g2 i : Nat) : rightB (wO g1 g2 i) = true := by unfold wO; split <;> kernel_rfl
theorem wO_ty (g1 g2 i : Nat) : (wO g1 g2 i).ty = 3 := by unfold wO; split <;> kernel_rfl
theorem w_bases (g1 g2 : Nat) : basesE (wO g1 g2) 2 = 0 := by
  rw [basesE_ok (by omega) (by omega) fun i hi => ⟨wO_right _ _ _, .inr (wO_ty _ _ _)⟩]
  kernel_rfl
theorem w_A (g1 g2 i : Nat) : spanA (wO g1 g2 i) = 4096 := by unfold wO; split <;> kernel_rfl
theorem w_b0 (g1 g2 : Nat) : (placed (wO g1 g2) 0).base = 93824992227328 := by
  show nbB (wO g1 g2) 0 = _
  unfold nbB
  rw [if_pos rfl, wO_ty, w_A, if_neg (by decide)]
theorem w_b1 (g1 g2 : Nat) : (placed (wO g1 g2) 1).base = 139637976723456 := by
  show nbB (wO g1 g2) 1 = _
  unfold nbB nxB
  rw [if_neg (by decide), if_pos rfl, w_A]
theorem w_dn : dn (0 + 4660) = 4096 := by decide +kernel
theorem w_dn2 : dn 564 = 0 := by decide +kernel
theorem w_u1 : upv (0 + 4660 + 256) = 8192 := by decide +kernel
theorem w_u2 : upv (0 + 4660 + 8192) = 16384 := by decide +kernel
theorem w_lds (g : Nat) : lds (oneD g 2).sg (oneD g 2).gM = [seg1] := rfl
theorem w_pc (g : Nat) : pcL (oneD g 2).base (oneD g 2).ino (lds (oneD g 2).sg (oneD g 2).gM) = [⟨4096, 8192, 6, 3, 0⟩, ⟨8192, 16384, 6, -1, 0⟩] := by
  rw [w_lds]
  show pcS 0 3 seg1 ++ [] = _
  unfold pcS seg1
  dsimp only
  rw [w_dn, w_u1, w_u2, w_dn2, if_pos (by decide), if_pos (by decide)]
  rfl
theorem w_wr (g : Nat) : wrL (oneD g 2).base (lds (oneD g 2).sg (oneD g 2).gM) = [(4916, 3276)] := by
  rw [w_lds]
  rw [show wrL (oneD g 2).base [seg1] = wrS 0 seg1 by simp [wrL, oneD]]
  unfold wrS seg1
  dsimp only
  rw [w_u1, if_pos (by decide)]
theorem one3 (w : World) : Calls Try.prog 23 #[.int .u16 3] w fun e W' => ∃ g, e = .returned (.agg (oneD g 3).cs) ∧ w.heap.size ≤ g ∧ Blk W' g 56 seg1.cs ∧ Below w.heap.size w W' := by
  have h := one_any 3 w
  rw [show ((3 : Nat) : Int) = 3 from rfl] at h
  exact h
theorem one2 (w : World) : Calls Try.prog 23 #[.int .u16 2] w fun e W' => ∃ g, e = .returned (.agg (oneD g 2).cs) ∧ w.heap.size ≤ g ∧ Blk W' g 56 seg1.cs ∧ Below w.heap.size w W' := by
  have h := one_any 2 w
  rw [show ((2 : Nat) : Int) = 2 from rfl] at h
  exact h
theorem w_ok (g : Nat) : (rightB (oneD g 2) && (oneD g 2).base % 4096 == 0 && liesB (oneD g 2)) = true := by kernel_rfl
set_option maxRecDepth 100000 in
set_option maxHeartbeats 800000 in
theorem works_any (w : World) : Calls Try.prog 10 #[] w fun e w' => e = .returned (.bool true) ∧ Below w.heap.size w w' := by
  go_enter Try.func10, Try.ntmps10
  go_wp2_with fail
  refine (one3 _).mono ?_
  rintro e w1 ⟨g1, rfl, h1, k1, b1⟩
  have K1 := Lib.hid k1; have B1 := Lib.hid b1
  clear k1 b1
  go_wp2_with fail
  refine (one3 _).mono ?_
  rintro e w2 ⟨g2, rfl, h2, k2, b2⟩
  have K2 := Lib.hid k2; have K1' := Lib.hid (K1.out.below b2 K1.out.lt); have B2 := Lib.hid (B1.out.trans (b2.mono B1.out.size))
  clear k2 b2 K1 B1
  have c1 : (oneD g1 3).cs = #[.int .i64 3, .int .u64 0, .int .u16 3, .int .u64 0, .int .u64 0, .slice (some ⟨g1, 0, none⟩) 1 1, .slice none 0 0, .string ⟨#[]⟩, .string ⟨#[]⟩, .slice none 0 0, .slice none 0 0] := rfl
  have c2 : (oneD g2 3).cs = #[.int .i64 3, .int .u64 0, .int .u16 3, .int .u64 0, .int .u64 0, .slice (some ⟨g2, 0, none⟩) 1 1, .slice none 0 0, .string ⟨#[]⟩, .string ⟨#[]⟩, .slice none 0 0, .slice none 0 0] := rfl
  have C1 := Lib.hid c1; have C2 := Lib.hid c2
  rw [c1, c2]
  clear c1 c2
  obtain ⟨W3, hW3⟩ : ∃ W, W = w2.alloc (.cells (#[.int .i64 3, .int .u64 0, .int .u16 3, .int .u64 0, .int .u64 0, .slice (some ⟨g1, 0, none⟩) 1 1, .slice none 0 0, .string ⟨#[]⟩, .string ⟨#[]⟩, .slice none 0 0, .slice none 0 0] ++ #[.int .i64 3, .int .u64 0, .int .u16 3, .int .u64 0, .int .u64 0, .slice (some ⟨g2, 0, none⟩) 1 1, .slice none 0 0, .string ⟨#[]⟩, .string ⟨#[]⟩, .slice none 0 0, .slice none 0 0]) 33) := ⟨_, rfl⟩
  have R3 : Hid (ObjR W3 W3.heap.size (some ⟨w2.heap.size, 0, none⟩) 2 (wO g1 g2)) := Lib.hid (by
    have kb : Blk W3 w2.heap.size 33 ((oneD g1 3).cs ++ (oneD g2 3).cs) := by rw [hW3]; exact Blk.new _ _ _
    have k1 : Blk W3 g1 56 seg1.cs := by rw [hW3]; exact K1'.out.alloc _
    have k2 : Blk W3 g2 56 seg1.cs := by rw [hW3]; exact K2.out.alloc _
    refine ⟨fun _ => ⟨_, rfl, kb.lt, fun i hi j v hv => ?_⟩, fun i hi => ?_, by simp [maxLen]⟩
    · rw [Addr.add_mid, Nat.zero_add, Blk.cell kb]
      have : i = 0 ∨ i = 1 := by omega
      rcases this with rfl | rfl
      · have hj : j < (oneD g1 3).cs.size := (Array.getElem?_eq_some_iff.1 hv).1
        rw [Nat.zero_mul, Nat.zero_add, Array.getElem?_append_left hj]; exact hv
      · rw [Nat.one_mul, Array.getElem?_append_right (by show 11 ≤ _; omega), show 11 + j - (oneD g1 3).cs.size = j from by show 11 + j - 11 = j; omega]; exact hv
    · have : i = 0 ∨ i = 1 := by omega
      rcases this with rfl | rfl
      · exact ⟨one_seg k1 k1.lt, by show 1 ≤ maxLen; simp [maxLen]⟩
      · exact ⟨one_seg k2 k2.lt, by show 1 ≤ maxLen; simp [maxLen]⟩)
  have B3 : Hid (Below w.heap.size w W3) := Lib.hid (by rw [hW3]; exact B2.out.alloc B2.out.size _)
  have F3 : Hid (fitsO (wO g1 g2)) := Lib.hid fun i k => by unfold wO; split <;> exact seg1_fits
  have HW3 := Lib.hid hW3
  clear hW3
  go_wp2_with fail
  change Calls _ _ _ (w2.alloc (.cells (#[.int .i64 3, .int .u64 0, .int .u16 3, .int .u64 0, .int .u64 0, .slice (some ⟨g1, 0, none⟩) 1 1, .slice none 0 0, .string ⟨#[]⟩, .string ⟨#[]⟩, .slice none 0 0, .slice none 0 0] ++ #[.int .i64 3, .int .u64 0, .int .u16 3, .int .u64 0, .int .u64 0, .slice (some ⟨g2, 0, none⟩) 1 1, .slice none 0 0, .string ⟨#[]⟩, .string ⟨#[]⟩, .slice none 0 0, .slice none 0 0]) 33)) _
  rw [← HW3.out]
  refine (bases_any _ 2 2 (wO g1 g2) W3 R3.out F3.out).mono ?_
  rintro e w4 ⟨b4, A4, c4, n4, rfl, _, hok⟩
  obtain ⟨rfl, ow4⟩ := hok (w_bases g1 g2)
  rw [w_bases]
  obtain ⟨ga, capa, hva, _, _⟩ := ow4.form (by omega)
  obtain rfl : A4 = some ⟨ga, 0, none⟩ := by injection hva
  have O4 := Lib.hid ow4
  have B4 := Lib.hid (B3.out.trans (b4.mono B3.out.size))
  clear b4 ow4 hok hva K1' K2 C1 C2 HW3 R3 F3
  go_wp2_with fail
  refine (one2 _).mono ?_
  rintro e w5 ⟨g5, rfl, h5, k5, b5⟩
  have K5 := Lib.hid k5; have O5 := Lib.hid (owns_below O4.out b5); have B5 := Lib.hid (B4.out.trans (b5.mono B4.out.size))
  have Z5 := Lib.hid b5.size
  clear k5 b5 O4
  go_wp2_with fail
  refine (pieces_any (oneD g5 2) _ (one_seg K5.out K5.out.lt) (fun _ => seg1_fits) (by show 0 < M; unfold M; omega)).mono ?_
  rintro e w6 ⟨b6, Ap, np, cp, Aw, nw, cw, he, _, hok⟩
  rw [w_ok] at he
  subst he
  obtain ⟨ws, hws, hnp, hnw, owp, oww, hwb⟩ := hok (w_ok g5)
  rw [w_pc] at hnp owp
  rw [w_wr] at hws
  have O6 := owns_below O5.out b6
  have B6 := Lib.hid (B5.out.trans (b6.mono B5.out.size))
  obtain rfl : np = 2 := hnp
  obtain ⟨d, rfl⟩ : ∃ d, ws = [d] := List.length_eq_one_iff.1 (by have := congrArg List.length hws; simpa using this)
  obtain ⟨dat, dlen, dblk⟩ := d
  have hk : (dat, dlen) = (4916, 3276) := by simpa [WriteD.key] using hws
  obtain ⟨rfl, rfl⟩ : dat = 4916 ∧ dlen = 3276 := by injection hk with a b; exact ⟨a, b⟩
  obtain rfl : nw = 1 := hnw
  obtain ⟨gp, capp, hvp, _, _⟩ := owp.form (by omega)
  obtain rfl : Ap = some ⟨gp, 0, none⟩ := by injection hvp
  obtain ⟨gw, capw, hvw, _, _⟩ := oww.form (by omega)
  obtain rfl : Aw = some ⟨gw, 0, none⟩ := by injection hvw
  have a1 : w6.cell? ⟨ga, 1, none⟩ = some (.int .u64 93824992227328) := (O6.cellAt 1 (by omega)).trans (by
    rw [show (93824992227328 : Int) = (((placed (wO g1 g2) 0).base : Nat) : Int) by rw [w_b0]; rfl]; rfl)
  have a2 : w6.cell? ⟨ga, 12, none⟩ = some (.int .u64 139637976723456) := (O6.cellAt 12 (by omega)).trans (by
    rw [show (139637976723456 : Int) = (((placed (wO g1 g2) 1).base : Nat) : Int) by rw [w_b1]; rfl]; rfl)
  have p1 : w6.cell? ⟨gp, 1, none⟩ = some (.int .u64 8192) := (owp.cellAt 1 (by omega)).trans rfl
  have p2 : w6.cell? ⟨gp, 6, none⟩ = some (.int .u64 16384) := (owp.cellAt 6 (by omega)).trans rfl
  have x1 : w6.cell? ⟨gw, 0, none⟩ = some (.int .u64 4916) := (oww.cellAt 0 (by omega)).trans rfl
  have x2 : w6.cell? ⟨gw, 1, none⟩ = some (.slice (some ⟨dblk, 0, none⟩) 3276 3276) := (oww.cellAt 1 (by omega)).trans rfl
  clear O6 owp oww hwb hws hk hvp hvw hok b6 O5 B5 Z5 K5
  go_wp2_with fail
  refine (one2 _).mono ?_
  rintro e w7 ⟨g7, rfl, h7, k7, b7⟩
  have K7 := Lib.hid k7; have B7 := Lib.hid (B6.out.trans (b7.mono B6.out.size))
  clear k7 b7 a1 a2 p1 p2 x1 x2
  go_wp2_with fail
  refine (right_any (oneD g7 2) _ (one_seg K7.out K7.out.lt) (fun _ => seg1_fits)).mono ?_
  rw [w_right g7 2 (.inl rfl)]
  rintro e w8 ⟨rfl, b8⟩
  have B8 := Lib.hid (B7.out.trans (b8.mono B7.out.size))
  clear b8
  go_wp2_with fail
  go_ret
  exact ⟨rfl, B8.out⟩
end Go.Proofs.Yticnmgdflkipeaa
