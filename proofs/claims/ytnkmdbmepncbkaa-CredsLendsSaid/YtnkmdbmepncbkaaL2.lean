import Derived.Test.YtnkmdbmepncbkaaL1
import Derived.Deep.RegionWith
namespace Go.Proofs.Ytnkmdbmepncbkaa
open Go.RowKit Go.Hos Go.Sort

/-- the three arguments in their boxes -/
structure B3 (w : World) (C M D : Array Value) (W : World) : Prop where
  bc : Blk W w.heap.size 25 C
  bm : Blk W (w.heap.size + 1) 28 M
  bo : Blk W (w.heap.size + 1 + 1) 25 D
  low : Below w.heap.size w W
theorem B3.next {w W W' : World} {C M D : Array Value} (h : B3 w C M D W) (hb : Below W.heap.size W W') : B3 w C M D W' :=
  ⟨h.bc.below hb h.bc.lt, h.bm.below hb h.bm.lt, h.bo.below hb h.bo.lt, h.low.trans (hb.mono h.low.size)⟩
theorem B3.alloc {w W : World} {C M D : Array Value} (h : B3 w C M D W) (o : Obj) : B3 w C M D (W.alloc o) := h.next ((Below.refl _ _).alloc (Nat.le_refl _) _)
theorem B3.start (w : World) (C M D : Array Value) : B3 w C M D (((w.alloc (.cells C 25)).alloc (.cells M 28)).alloc (.cells D 25)) :=
  ⟨((Blk.new _ _ _).alloc _).alloc _, (blk_at _ _ (by simp)).alloc _, blk_at _ _ (by simp), (((Below.refl _ _).alloc (Nat.le_refl _) _).alloc (by simp) _).alloc (by simp; omega) _⟩

/-- what the last loop keeps -/
structure LQ (w : World) (uid euid suid gid E : Int) (A : Option Addr) (n c g cap h cap10 base8 g7 g8 : Nat) (gs : List Int) (xs : List Int) (W : World) : Prop where
  bc : Blk W w.heap.size 25 #[.int .u32 uid, .int .u32 euid, .int .u32 suid, .int .u32 gid, .slice A n c]
  bi : Blk W g7 25 #[.int .u32 uid, .int .u32 euid, .int .u32 suid, .int .u32 gid, .slice (some ⟨g, 0, none⟩) n cap]
  ba : Blk W g8 25 #[.int .u32 uid, .int .u32 E, .int .u32 E, .int .u32 gid, .slice (some ⟨h, 0, none⟩) (n + 1) cap10]
  low : Below w.heap.size w W
  oi : W.ownsRow w.heap.size 22 1 (.slice (some ⟨g, 0, none⟩) (n + 1) cap) (n + 1) (gs.map (Value.int .u32) ++ [.int .u32 77])
  oa : W.ownsRow base8 22 1 (.slice (some ⟨h, 0, none⟩) (n + 1) cap10) (n + 1) (xs.map (Value.int .u32))
  ne : h ≠ w.heap.size ∧ h ≠ g7 ∧ h ≠ g8 ∧ h ≠ g ∧ w.heap.size ≤ h
section
variable {w : World} {uid euid suid gid E : Int} {A : Option Addr} {n c g cap h cap10 base8 g7 g8 : Nat} {gs xs : List Int} {W W' : World}
theorem LQ.next (q : LQ w uid euid suid gid E A n c g cap h cap10 base8 g7 g8 gs xs W) (hb : Below W.heap.size W W') : LQ w uid euid suid gid E A n c g cap h cap10 base8 g7 g8 gs xs W' :=
  ⟨q.bc.below hb q.bc.lt, q.bi.below hb q.bi.lt, q.ba.below hb q.ba.lt, q.low.trans (hb.mono q.low.size), owns_below q.oi hb, owns_below q.oa hb, q.ne⟩
theorem LQ.store (q : LQ w uid euid suid gid E A n c g cap h cap10 base8 g7 g8 gs xs W) (k : Nat) (y : Int) :
    LQ w uid euid suid gid E A n c g cap h cap10 base8 g7 g8 gs (xs.set k y) (W.setCell ⟨h, k, none⟩ (.int .u32 y)) := by
  obtain ⟨n1, n2, n3, n4, n5⟩ := q.ne
  refine ⟨q.bc.far n1.symm _, q.bi.far n2.symm _, q.ba.far n3.symm _, q.low.setCell n5 _, owns_far q.oi n4.symm _, ?_, q.ne⟩
  have := q.oa.stored k (.int .u32 y)
  rw [List.map_set]
  exact this.1
theorem LQ.cell (q : LQ w uid euid suid gid E A n c g cap h cap10 base8 g7 g8 gs xs W) {k : Nat} (hk : k < n + 1) : ∃ x : Int, W.cell? ⟨h, k, none⟩ = some (.int .u32 x) := by
  have h1 := q.oa.cellAt k (by omega)
  have hl := q.oa.1
  simp at hl
  rw [List.getElem?_map, List.getElem?_eq_getElem (by omega)] at h1
  exact ⟨_, h1⟩
end

set_option maxHeartbeats 4000000 in
theorem lends_any (uid euid suid gid uid2 euid2 suid2 gid2 : Int) (A A2 : Option Addr) (n c n2 c2 : Nat) (gs hs : List Int) (kd mu mg sz : Int) (m : Nat) (w : World)
    (h : Reads w w.heap.size 1 A n (gs.map (Value.int .u32))) (h2 : Reads w w.heap.size 1 A2 n2 (hs.map (Value.int .u32))) (hm1 : m ≤ 65535) (hn : n ≤ 65536) (hn2 : n2 ≤ 65536) :
    Calls Try.prog 3 #[.agg #[.int .u32 uid, .int .u32 euid, .int .u32 suid, .int .u32 gid, .slice A n c], .agg #[.int .u8 kd, .int .u16 m, .int .u32 mu, .int .u32 mg, .int .i64 sz], .agg #[.int .u32 uid2, .int .u32 euid2, .int .u32 suid2, .int .u32 gid2, .slice A2 n2 c2]] w
      fun e w' => e = .returned (.bool true) ∧ Below w.heap.size w w' := by
  have H := Lib.hid h
  have H2 := Lib.hid h2
  clear h h2
  have hq : decide ((65536 : Int) < n) = false := by simp; omega
  have hq2 : decide ((65536 : Int) < n2) = false := by simp; omega
  go_enter Try.func3, Try.ntmps3
  go_wp2_with fail
  have st := B3.start w #[.int .u32 uid, .int .u32 euid, .int .u32 suid, .int .u32 gid, .slice A n c] #[.int .u8 kd, .int .u16 m, .int .u32 mu, .int .u32 mg, .int .i64 sz] #[.int .u32 uid2, .int .u32 euid2, .int .u32 suid2, .int .u32 gid2, .slice A2 n2 c2]
  refine (large_any _ _ _ _ _ _ _ _).mono ?_
  rintro e w0 ⟨rfl, hb0⟩
  have st0 : Hid (B3 w #[.int .u32 uid, .int .u32 euid, .int .u32 suid, .int .u32 gid, .slice A n c] #[.int .u8 kd, .int .u16 m, .int .u32 mu, .int .u32 mg, .int .i64 sz] #[.int .u32 uid2, .int .u32 euid2, .int .u32 suid2, .int .u32 gid2, .slice A2 n2 c2] w0) := st.next hb0
  have kc := st0.out.bc.cell
  have km := st0.out.bm.cell
  have ko := st0.out.bo.cell
  clear st hb0
  go_wp2_with fail
  refine (large_any _ _ _ _ _ _ _ _).mono ?_
  rintro e w1 ⟨rfl, hb1⟩
  have st1 : Hid (B3 w #[.int .u32 uid, .int .u32 euid, .int .u32 suid, .int .u32 gid, .slice A n c] #[.int .u8 kd, .int .u16 m, .int .u32 mu, .int .u32 mg, .int .i64 sz] #[.int .u32 uid2, .int .u32 euid2, .int .u32 suid2, .int .u32 gid2, .slice A2 n2 c2] w1) := st0.out.next hb1
  clear kc km ko hb1 st0
  have kc := st1.out.bc.cell
  have km := st1.out.bm.cell
  have ko := st1.out.bo.cell
  go_wp2_with fail
  refine (roomy_any _ _ _ _ _ _ _ gs w.heap.size _ (H.out.below st1.out.low) st1.out.low.size hn).mono ?_
  rintro e w2 ⟨g, cap, rfl, hcap, hown, hb2⟩
  have st2 : Hid (B3 w #[.int .u32 uid, .int .u32 euid, .int .u32 suid, .int .u32 gid, .slice A n c] #[.int .u8 kd, .int .u16 m, .int .u32 mu, .int .u32 mg, .int .i64 sz] #[.int .u32 uid2, .int .u32 euid2, .int .u32 suid2, .int .u32 gid2, .slice A2 n2 c2] w2) := st1.out.next hb2
  have O2 : Hid (w2.ownsRow w.heap.size 22 1 (.slice (some ⟨g, 0, none⟩) (n + 1) cap) (n + 1) (gs.map (Value.int .u32) ++ [.int .u32 77])) := owns_base hown st1.out.low.size
  have HC := Lib.hid hcap
  clear kc km ko hb2 hown hcap st1
  have kc := st2.out.bc.cell
  have km := st2.out.bm.cell
  have ko := st2.out.bo.cell
  have zc := st2.out.bc.lt
  have zm := st2.out.bm.lt
  have zo := st2.out.bo.lt
  obtain ⟨g7, hg7⟩ : ∃ g7, g7 = w2.heap.size := ⟨_, rfl⟩
  have i2 : Hid (Blk (w2.alloc (.cells #[.int .u32 uid, .int .u32 euid, .int .u32 suid, .int .u32 gid, .slice (some ⟨g, 0, none⟩) n cap] 25)) g7 25 #[.int .u32 uid, .int .u32 euid, .int .u32 suid, .int .u32 gid, .slice (some ⟨g, 0, none⟩) n cap]) := blk_at _ _ hg7.symm
  have HG7 := Lib.hid hg7
  clear hg7
  go_wp2_with fail
  have rin := (reads_front (Reads.of_own O2.out)).alloc (Nat.le_refl _) (.cells #[.int .u32 uid, .int .u32 euid, .int .u32 suid, .int .u32 gid, .slice (some ⟨g, 0, none⟩) n cap] 25)
  refine (lend_any _ _ _ _ _ _ _ gs _ _ _ _ _ w2.heap.size _ rin (by simp) hn hm1).mono ?_
  rintro e w3 ⟨v, rfl, hown, hb3⟩
  obtain ⟨E, hE⟩ : ∃ E, E = lentE kd m mu euid := ⟨_, rfl⟩
  have HE := Lib.hid hE
  rw [← hE]
  clear hE
  obtain ⟨A8, c8, rfl⟩ := ownsRow_val hown
  have st3 : Hid (B3 w #[.int .u32 uid, .int .u32 euid, .int .u32 suid, .int .u32 gid, .slice A n c] #[.int .u8 kd, .int .u16 m, .int .u32 mu, .int .u32 mg, .int .i64 sz] #[.int .u32 uid2, .int .u32 euid2, .int .u32 suid2, .int .u32 gid2, .slice A2 n2 c2] w3) := (st2.out.alloc _).next hb3
  have O3 : Hid (w3.ownsRow w.heap.size 22 1 (.slice (some ⟨g, 0, none⟩) (n + 1) cap) (n + 1) (gs.map (Value.int .u32) ++ [.int .u32 77])) := owns_below (O2.out.alloc _) hb3
  have i3 : Hid (Blk w3 g7 25 #[.int .u32 uid, .int .u32 euid, .int .u32 suid, .int .u32 gid, .slice (some ⟨g, 0, none⟩) n cap]) := i2.out.below hb3 i2.out.lt
  obtain ⟨base8, hb8⟩ : ∃ base8, base8 = w2.heap.size + 1 := ⟨_, rfl⟩
  have A3 : Hid (w3.ownsRow base8 22 1 (.slice A8 n c8) n (gs.map (Value.int .u32))) := owns_base hown (by simp; omega)
  have HB8 : Hid (g7 < base8 ∧ g < base8 ∧ base8 ≤ w3.heap.size) := by
    refine ⟨?_, ?_, ?_⟩
    · rw [hb8, HG7.out]; omega
    · obtain ⟨_, _, e, _, hl, _⟩ := owns_succ O2.out
      injection e with e1 e2 e3
      injection e1 with e1
      injection e1 with e1
      subst e1; omega
    · have := hb3.size; simp at this; omega
  clear kc km ko hb3 hown hb8 zc zm zo rin
  have kc := st3.out.bc.cell
  have km := st3.out.bm.cell
  have ko := st3.out.bo.cell
  have zc := st3.out.bc.lt
  have zm := st3.out.bm.lt
  have zo := st3.out.bo.lt
  rw [← HG7.out]
  obtain ⟨g8, hg8⟩ : ∃ g8, g8 = w3.heap.size := ⟨_, rfl⟩
  have a3 : Hid (Blk (w3.alloc (.cells #[.int .u32 uid, .int .u32 E, .int .u32 E, .int .u32 gid, .slice A8 n c8] 25)) g8 25 #[.int .u32 uid, .int .u32 E, .int .u32 E, .int .u32 gid, .slice A8 n c8]) := blk_at _ _ hg8.symm
  have HG8 := Lib.hid hg8
  clear hg8
  go_wp2_with fail
  refine (rlend_any _ _ _ _ _ _ _ gs _ _ _ _ _ w.heap.size _ ((H.out.below st3.out.low).alloc st3.out.low.size _) (by have := st3.out.low.size; simp; omega) hn hm1).mono ?_
  rintro e w4 ⟨v, rfl, hown, hb4⟩
  rw [← HE.out]
  obtain ⟨A9, c9, rfl⟩ := ownsRow_val hown
  have st4 : Hid (B3 w #[.int .u32 uid, .int .u32 euid, .int .u32 suid, .int .u32 gid, .slice A n c] #[.int .u8 kd, .int .u16 m, .int .u32 mu, .int .u32 mg, .int .i64 sz] #[.int .u32 uid2, .int .u32 euid2, .int .u32 suid2, .int .u32 gid2, .slice A2 n2 c2] w4) := (st3.out.alloc _).next hb4
  have O4 : Hid (w4.ownsRow w.heap.size 22 1 (.slice (some ⟨g, 0, none⟩) (n + 1) cap) (n + 1) (gs.map (Value.int .u32) ++ [.int .u32 77])) := owns_below (O3.out.alloc _) hb4
  have A4 : Hid (w4.ownsRow base8 22 1 (.slice A8 n c8) n (gs.map (Value.int .u32))) := owns_below (A3.out.alloc _) hb4
  have B4 : Hid (w4.ownsRow base8 22 1 (.slice A9 n c9) n (gs.map (Value.int .u32))) := owns_base hown (by have := HB8.out.2.2; simp; omega)
  have i4 : Hid (Blk w4 g7 25 #[.int .u32 uid, .int .u32 euid, .int .u32 suid, .int .u32 gid, .slice (some ⟨g, 0, none⟩) n cap]) := (i3.out.alloc _).below hb4 (by have := i3.out.lt; simp; omega)
  have a4 : Hid (Blk w4 g8 25 #[.int .u32 uid, .int .u32 E, .int .u32 E, .int .u32 gid, .slice A8 n c8]) := a3.out.below hb4 a3.out.lt
  rw [← HG8.out]
  clear kc km ko hb4 hown zc zm zo
  obtain ⟨g9, hg9⟩ : ∃ g9, g9 = w4.heap.size := ⟨_, rfl⟩
  have HG9 := Lib.hid hg9
  have b4 : Hid (Blk (w4.alloc (.cells #[.int .u32 uid, .int .u32 E, .int .u32 E, .int .u32 gid, .slice A9 n c9] 25)) g9 25 #[.int .u32 uid, .int .u32 E, .int .u32 E, .int .u32 gid, .slice A9 n c9]) := blk_at _ _ hg9.symm
  clear hg9
  have hst0 : Hid (SL w uid euid suid gid uid2 euid2 suid2 gid2 E A A2 A8 A9 n c n2 c2 g cap c8 c9 base8 g7 g8 g9 gs hs (w4.alloc (.cells #[.int .u32 uid, .int .u32 E, .int .u32 E, .int .u32 gid, .slice A9 n c9] 25))) :=
    ⟨st4.out.bc.alloc _, st4.out.bo.alloc _, i4.out.alloc _, a4.out.alloc _, b4.out, st4.out.low.alloc st4.out.low.size _, O4.out.alloc _, A4.out.alloc _, B4.out.alloc _,
      (H.out.below st4.out.low).alloc st4.out.low.size _, (H2.out.below st4.out.low).alloc st4.out.low.size _⟩
  go_wp2_with fail
  rw [← HG9.out]
  obtain ⟨W, hW⟩ : ∃ W, W = w4.alloc (Obj.cells #[.int .u32 uid, .int .u32 E, .int .u32 E, .int .u32 gid, .slice A9 n c9] 25) := ⟨_, rfl⟩
  rw [← hW]
  have hst1 : Hid (SL w uid euid suid gid uid2 euid2 suid2 gid2 E A A2 A8 A9 n c n2 c2 g cap c8 c9 base8 g7 g8 g9 gs hs W) := by rw [hW]; exact hst0.out
  clear hW hst0
  obtain ⟨r, hr⟩ : ∃ r, r = sameB uid euid suid gid uid2 euid2 suid2 gid2 gs hs := ⟨_, rfl⟩
  have HR := Lib.hid hr
  clear hr
  generalize (E != euid) = ch
  have e1 : (ch != ch) = false := by simp
  have e2 : (r != r) = false := by simp
  go_region_held3 (fun W' => SS w uid euid suid gid uid2 euid2 suid2 gid2 E A A2 A8 A9 n c n2 c2 g cap c8 c9 base8 g7 g8 g9 gs hs W') (first | exact ss_of hst | exact ss_of hst1.out.drew)
    (first
      | (go_at_call_of 13 A2; refine (SL.call3 (by assumption) hn hn2).mono ?_; rw [← HR.out]; rintro e w' ⟨rfl, hst⟩)
      | (go_at_call 13; refine (SL.call1 (by assumption) hn).mono ?_; rintro e w' ⟨rfl, hst⟩)
      | (go_at_call 15; refine (SL.call4 (by assumption) hn).mono ?_; rintro e w' ⟨⟨A5, c5, rfl, hr5⟩, hst⟩)
      | (go_at_call_of 14 A2; refine (SL.call2 (by assumption) hn hn2).mono ?_; rw [← HR.out]; rintro e w' ⟨rfl, hst⟩)
      | (go_at_call 14; refine (SL.call5 (by assumption) (by assumption) hn).mono ?_; rintro e w' ⟨rfl, hst⟩))
  have hst2 : Hid (SL w uid euid suid gid uid2 euid2 suid2 gid2 E A A2 A8 A9 n c n2 c2 g cap c8 c9 base8 g7 g8 g9 gs hs w') := hst
  clear hst
  obtain ⟨i0, hi0, hz0, hz1, hz2⟩ := info_parts info22
  have kc8 := hst2.out.ba.cell
  have kf8 := hst2.out.ba.frozen
  have z8 := hst2.out.ba.lt
  have hob : Hid (∀ k, (Value.slice A8 n c8).ownBlock = some k → base8 ≤ k ∧ k < w'.heap.size) := hst2.out.oa.lt
  have hB8 : Hid (base8 ≤ w'.heap.size) := Nat.le_trans HB8.out.2.2 (by have h1 := hst2.out.low; have := hst2.out.ba.lt; have := HG8.out; show _ ≤ _; omega)
  go_wp2_with (at_builtin
               refine wpList_append_any _ rfl (.tmp 60) (.tmp 61) _ rfl base8 22 i0 _ 1 4 Try.underlying23 hi0 hz0 hz1 hz2 rfl (by omega) (.slice A8 n c8) n _ rfl
                 (hst2.out.oa.alloc _) (w'.heap.size + 1) (some ⟨w'.heap.size, 0, none⟩) 1 1 [.int .u32 5] rfl (reads_new (g := w'.heap.size) _ _ 1 1 [.int .u32 5] rfl rfl) (by simp [Value.oneCell']) (by simp only [maxLen]; omega) (by omega) (by have := hB8.out; simp; omega) ?_
               intro v2 W2 hown2 hg2 _
               obtain ⟨h, cap10, rfl, hhb, hhl, hc10⟩ := owns_succ hown2
               have m8 : Blk W2 g8 25 #[.int .u32 uid, .int .u32 E, .int .u32 E, .int .u32 gid, .slice A8 n c8] := (hst2.out.ba.alloc _).grown hg2 (fun e => own_blk_ne (hst2.out.oa) hst2.out.ba (by decide) e.symm)
               have mc : Blk W2 w.heap.size 25 #[.int .u32 uid, .int .u32 euid, .int .u32 suid, .int .u32 gid, .slice A n c] := (hst2.out.bc.alloc _).grown hg2 (fun e => own_blk_ne (hst2.out.oa) hst2.out.bc (by decide) e.symm)
               have mi : Blk W2 g7 25 #[.int .u32 uid, .int .u32 euid, .int .u32 suid, .int .u32 gid, .slice (some ⟨g, 0, none⟩) n cap] := (hst2.out.bi.alloc _).grown hg2 (fun e => own_blk_ne (hst2.out.oa) hst2.out.bi (by decide) e.symm)
               have moi : W2.ownsRow w.heap.size 22 1 (.slice (some ⟨g, 0, none⟩) (n + 1) cap) (n + 1) (gs.map (Value.int .u32) ++ [.int .u32 77]) := (hst2.out.oi.alloc _).kept hg2 (.inr (fun e => by have := (hob.out _ e.symm).1; have := HB8.out.2.1; simp only at *; omega))
               have g7s : w.heap.size ≤ base8 := by have h1 := HB8.out.1; have h2 := HG7.out; have h3 := st2.out.low.size; omega
               have mlow : Below w.heap.size w W2 := (hst2.out.low.alloc hst2.out.low.size _).grown hg2 (by have := hst2.out.low.size; simp; omega) (fun k hk => by have := (hob.out _ hk).1; omega)
               have hne1 : h ≠ g8 := fun e => own_blk_ne hown2 m8 (by decide) (by simp [Value.ownBlock, e])
               have hne2 : h ≠ w.heap.size := fun e => own_blk_ne hown2 mc (by decide) (by simp [Value.ownBlock, e])
               have hne3 : h ≠ g7 := fun e => own_blk_ne hown2 mi (by decide) (by simp [Value.ownBlock, e])
               have hne4 : h ≠ g := fun e => by have := HB8.out.2.1; omega
               have d1 : w.heap.size ≠ g8 := by have h1 := HG8.out; have h2 := st3.out.bc.lt; omega
               have d2 : g7 ≠ g8 := by have h1 := HG8.out; have h2 := i3.out.lt; omega
               have d3 : g ≠ g8 := by have h1 := HG8.out; have h2 := HB8.out.2; omega
               have d4 : w.heap.size ≤ g8 := by have h1 := HG8.out; have h2 := st3.out.low.size; omega
               have q0 : Hid (LQ w uid euid suid gid E A n c g cap h cap10 base8 g7 g8 gs (gs ++ [5]) (W2.setCell ⟨g8, 4, none⟩ (.slice (some ⟨h, 0, none⟩) (n + 1) cap10))) :=
                 ⟨mc.far d1 _, mi.far d2 _, m8.set_ 4 _, mlow.setCell d4 _, owns_far moi d3 _, by simpa using owns_far hown2 hne1 _, ⟨hne2, hne3, hne1, hne4, by omega⟩⟩
               have kd8 := m8.cell
               have kfd8 := m8.frozen
               clear hown2 hg2 m8 mc mi moi mlow kc8 kf8 z8 hhb hhl hc10 hne1 hne2 hne3 hne4 d1 d2 d3 d4 g7s)
  generalize W2.setCell ⟨g8, 4, none⟩ (.slice (some ⟨h, 0, none⟩) (n + 1) cap10) = W3 at *
  clear kd8 kfd8
  go_loopw [12] (fun i wr => ∃ k xs, k ≤ n + 1 ∧ i = .int .i64 (k : Nat) ∧ Hid (LQ w uid euid suid gid E A n c g cap h cap10 base8 g7 g8 gs xs wr)) (fun i _ => n + 1 - (intOf i).toNat)
  case atStart => exact ⟨0, _, by omega, rfl, q0⟩
  case round =>
    obtain ⟨k, xs, hk, rfl, hq⟩ := hrel
    have kc8 := hq.out.ba.cell
    by_cases hlt : k < n + 1
    · obtain ⟨x, hx⟩ := hq.out.cell hlt
      have hfz : wr.frozen? ⟨h, k, none⟩ = false := hq.out.oa.frozenAt k
      have b1 : (0 : Int) ≤ (k : Int) := by omega
      have b2 : (k : Int) < (n : Int) + 1 := by omega
      go_wp2
      go_region
      go_wp2
      go_roundw
      case rel => exact ⟨k + 1, _, by omega, by go_num, (hq.out.store k _).next (Below.refl _ _).drew⟩
      case measure => simp [intOf]; omega
    · have hst9 := hq.out
      have kci := hst9.bi.cell
      have kcc := hst9.bc.cell
      go_wp2_with fail
      refine (kept_any uid euid suid gid uid euid suid gid g A n cap n c gs gs wr.heap.size w.heap.size _ (Reads.of_own hst9.oi) HC.out (H.out.below hst9.low) (Nat.le_refl _) hst9.low.size hn hn (by simp [sameB])).mono ?_
      rintro e w9 ⟨rfl, hb9⟩
      have HB9 : Hid (Below w.heap.size w w9) := hst9.low.trans (hb9.mono hst9.low.size)
      clear hst9 kci kcc hb9
      go_wp2_with fail
      refine (works_any _).mono ?_
      rintro e wA ⟨rfl, hbA⟩
      have HBA := Lib.hid hbA
      clear hbA
      go_wp2
      go_ret
      exact ⟨rfl, HB9.out.trans (HBA.out.mono HB9.out.size)⟩
end Go.Proofs.Ytnkmdbmepncbkaa
