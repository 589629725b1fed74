import Derived.Test.YtneleioiondapaaY12
namespace Go.Proofs.Ytneleioiondapaa
open Go.RowKit Go.Shelf Go.Hos
set_option linter.unusedVariables false
def objV : Value := .agg #[.int .i64 0, .int .u64 0, .int .u16 0, .int .u64 0, .int .u64 0, .slice none 0 0, .slice none 0 0, .string ⟨#[]⟩, .string ⟨#[]⟩, .slice none 0 0, .slice none 0 0]
theorem info38' : (Try.prog.info? 38).map (fun i => (i.zero, i.size, i.bytes)) = some (some objV, 11, 168) := by kernel_rfl
/-- an object that stands alone in a new block -/
theorem ObjR.one {W : World} {g B : Nat} {o : ObjD} (hb : Blk W g 38 o.cs) (hs : StR W B 5 o.sA o.sM (fun k => (o.sy k).cs)) (hl : o.sM ≤ maxLen) (hB : B ≤ W.heap.size) : ObjR W W.heap.size (some ⟨g, 0, none⟩) 1 (fun _ => o) := by
  refine ⟨fun _ => ⟨_, rfl, hb.lt, fun i hi j v hv => ?_⟩, fun i _ => ⟨hs.more hB, hl⟩, by simp [maxLen]⟩
  obtain rfl : i = 0 := by omega
  have e : (⟨g, 0, none⟩ : Addr).add (0 * 11 + j) = ⟨g, j, none⟩ := by rw [Addr.add_mid]; simp
  rw [e, hb.cell j]; exact hv
/-- where nothing is named, nothing is found: the answers -/
theorem lkV_some (x : Nat × Nat) : lkV (some x) = .tuple #[.int .i64 (x.1 : Int), .int .i64 (x.2 : Int), .bool true] := rfl
theorem lkV_none : lkV none = .tuple #[.int .i64 0, .int .i64 0, .bool false] := rfl
def LkIs (r : Option (Nat × Nat)) (x y : Nat) (b : Bool) : Prop := (b = true ∧ r = some (x, y)) ∨ (b = false ∧ r = none ∧ x = 0 ∧ y = 0)
theorem lkV_is (r : Option (Nat × Nat)) : ∃ (x y : Nat) (b : Bool), lkV r = .tuple #[.int .i64 (x : Int), .int .i64 (y : Int), .bool b] ∧ LkIs r x y b := by
  cases r with
  | none => exact ⟨0, 0, false, rfl, .inr ⟨rfl, rfl, rfl, rfl⟩⟩
  | some x => exact ⟨x.1, x.2, true, rfl, .inl ⟨rfl, rfl⟩⟩
theorem LkIs.le {O : Nat → ObjD} {m : Nat} {nm : ByteArray} {x y : Nat} {b : Bool} (h : LkIs (lkO O m nm) x y b) : x ≤ m := by
  rcases h with ⟨_, h⟩ | ⟨_, _, h, _⟩
  · exact Nat.le_of_lt (lkO_some h).1
  · omega
theorem lk_facts {O : Nat → ObjD} {m : Nat} {o : ObjD} {nm : ByteArray} {x1 y1 x2 y2 : Nat} {b1 b2 : Bool} (h1 : LkIs (lkO O m nm) x1 y1 b1) (h2 : LkIs (lkO (snocO O m o) (m + 1) nm) x2 y2 b2) : (b1 = true ∧ b2 = true ∧ x2 = x1 ∧ y2 = y1) ∨ b1 = false := by
  rcases h1 with ⟨rfl, h1⟩ | ⟨rfl, _⟩
  · rw [lk_snoc O m o nm h1] at h2
    rcases h2 with ⟨rfl, h2⟩ | ⟨_, h2, _⟩
    · cases h2; exact .inl ⟨rfl, rfl, rfl, rfl⟩
    · cases h2
  · exact .inr rfl
theorem lk_facts2 {O : Nat → ObjD} {m : Nat} {o : ObjD} {nm : ByteArray} {x1 y1 x2 y2 x3 y3 x4 y4 : Nat} {b1 b2 b3 b4 : Bool} (h1 : LkIs (lkO O m nm) x1 y1 b1) (h2 : LkIs (lkO (snocO O m o) (m + 1) nm) x2 y2 b2)
    (h3 : LkIs (lkO (consO o O) (m + 1) nm) x3 y3 b3) (h4 : LkIs (lkO (fun _ => o) 1 nm) x4 y4 b4) : (b4 = true ∧ b3 = true ∧ x3 = 0) ∨ (b4 = false ∧ b3 = b1 ∧ b2 = b1 ∧ (b1 = true → x3 = x1 + 1 ∧ y3 = y1)) := by
  rw [lk_cons] at h3
  rcases h4 with ⟨rfl, h4⟩ | ⟨rfl, h4, _⟩
  · rw [h4] at h3
    have := lk_one h4
    rcases h3 with ⟨rfl, h3⟩ | ⟨_, h3, _⟩
    · cases h3; exact .inl ⟨rfl, rfl, this⟩
    · cases h3
  · rw [h4] at h3
    refine .inr ⟨rfl, ?_⟩
    dsimp only at h3
    rcases h1 with ⟨rfl, h1⟩ | ⟨rfl, h1, _⟩
    · rw [lk_snoc O m o nm h1] at h2
      rw [h1] at h3
      rcases h2 with ⟨rfl, h2⟩ | ⟨_, h2, _⟩
      · rcases h3 with ⟨rfl, h3⟩ | ⟨_, h3, _⟩
        · cases h3; exact ⟨rfl, rfl, fun _ => ⟨rfl, rfl⟩⟩
        · cases h3
      · cases h2
    · have hs := lk_snoc_none O m o nm h1
      rw [h4] at hs
      rw [h1] at h3
      rcases h2 with ⟨rfl, h2⟩ | ⟨rfl, h2, _⟩
      · rw [h2] at hs; cases hs
      · rcases h3 with ⟨_, h3⟩ | ⟨rfl, h3, _⟩
        · cases h3
        · exact ⟨rfl, rfl, fun h => by cases h⟩
set_option maxRecDepth 200000 in
set_option maxHeartbeats 8000000 in
theorem order_any (A : Option Addr) (m c : Nat) (O : Nat → ObjD) (o : ObjD) (nm : ByteArray) (w : World) (hR : ObjR w w.heap.size A m O) (hNm : ∀ x, (symA O x).nm.size ≤ maxLen) (hS : StR w w.heap.size 5 o.sA o.sM (fun k => (o.sy k).cs)) (hSl : o.sM ≤ maxLen) (hSn : ∀ k, (o.sy k).nm.size ≤ maxLen) (hz : nm.size ≤ maxLen) :
    Calls Try.prog 5 #[.slice A m c, .agg o.cs, .string nm] w fun e W' => e = .returned (.bool true) ∧ Below w.heap.size w W' := by
  have hm := hR.len
  have hmm : maxLen = 9223372036854775807 := by simp [maxLen]
  have H := Lib.hid hR
  have HNM := Lib.hid hNm
  have HS := Lib.hid hS; have HSL := Lib.hid hSl; have HSN := Lib.hid hSn
  have hz' : nm.size ≤ 9223372036854775807 := by omega
  obtain ⟨i0, hi0, hz0, hz1, hz2⟩ := info_parts info38'
  obtain ⟨od, hod⟩ : ∃ x, x = o := ⟨_, rfl⟩
  have HOD := Lib.hid hod
  clear hR hNm hS hSl hSn hod
  obtain ⟨ino, base, ty, en, ph, gA, gM, gQ, nA, nM, nQ, so, rn, sA, sM, sQ, rA, rM, rQ, sy⟩ := o
  rw [show (ObjD.mk ino base ty en ph gA gM gQ nA nM nQ so rn sA sM sQ rA rM rQ sy).cs = #[.int .i64 ino, .int .u64 base, .int .u16 ty, .int .u64 en, .int .u64 ph, .slice gA gM gQ, .slice nA nM nQ, .string so, .string rn, .slice sA sM sQ, .slice rA rM rQ] from rfl]
  have O1 : Hid (OS w ⟨ino, base, ty, en, ph, gA, gM, gQ, nA, nM, nQ, so, rn, sA, sM, sQ, rA, rM, rQ, sy⟩ A m O (w.alloc (.cells #[.int .i64 ino, .int .u64 base, .int .u16 ty, .int .u64 en, .int .u64 ph, .slice gA gM gQ, .slice nA nM nQ, .string so, .string rn, .slice sA sM sQ, .slice rA rM rQ] 38))) :=
    ⟨(Below.refl _ _).alloc (Nat.le_refl _) _, Blk.new _ _ _⟩
  have hbx : Below w.heap.size w (w.alloc (.cells #[.int .i64 ino, .int .u64 base, .int .u16 ty, .int .u64 en, .int .u64 ph, .slice gA gM gQ, .slice nA nM nQ, .string so, .string rn, .slice sA sM sQ, .slice rA rM rQ] 38)) := (Below.refl _ _).alloc (Nat.le_refl _) _
  have HBX := Lib.hid hbx
  clear hbx
  go_enter Try.func5, Try.ntmps5
  go_wp2_with fail
  refine (large_any A m c O w.heap.size _ (H.out.below HBX.out) HNM.out).mono ?_
  rintro e w' ⟨b, rfl, hb, rfl⟩
  cases b
  · have hlg := hb.out rfl
    have HLG := Lib.hid hlg
    have hm3 : m ≤ 300 := by omega
    clear hb hlg
    go_wp2_with fail
    have R1 : ObjR ((w.alloc (.cells #[.int .i64 ino, .int .u64 base, .int .u16 ty, .int .u64 en, .int .u64 ph, .slice gA gM gQ, .slice nA nM nQ, .string so, .string rn, .slice sA sM sQ, .slice rA rM rQ] 38)).alloc (.cells #[.int .i64 ino, .int .u64 base, .int .u16 ty, .int .u64 en, .int .u64 ph, .slice gA gM gQ, .slice nA nM nQ, .string so, .string rn, .slice sA sM sQ, .slice rA rM rQ] 38)) _ (some ⟨w.heap.size + 1, 0, none⟩) 1 (fun _ => ⟨ino, base, ty, en, ph, gA, gM, gQ, nA, nM, nQ, so, rn, sA, sM, sQ, rA, rM, rQ, sy⟩) :=
      ObjR.one (blk_at _ _ (by simp)) (HS.out.below (HBX.out.alloc (by simp) _)) HSL.out (by simp; omega)
    refine (large_any _ 1 1 _ _ _ R1 (fun x => HSN.out x.2)).mono ?_
    rintro e w' ⟨b, rfl, hb, rfl⟩
    have O2 := Lib.hid (O1.out.next ((Below.refl _ _).alloc (Nat.le_refl _) (.cells #[.int .i64 ino, .int .u64 base, .int .u16 ty, .int .u64 en, .int .u64 ph, .slice gA gM gQ, .slice nA nM nQ, .string so, .string rn, .slice sA sM sQ, .slice rA rM rQ] 38)))
    clear R1 O1
    have hcase : b = true ∨ (b = false ∧ (65536 : Int) < (nm.size : Int)) ∨ (b = false ∧ (nm.size : Int) ≤ 65536) := by
      cases b
      · by_cases h : (65536 : Int) < (nm.size : Int)
        · exact .inr (.inl ⟨rfl, h⟩)
        · exact .inr (.inr ⟨rfl, by omega⟩)
      · exact .inl rfl
    rcases hcase with rfl | ⟨rfl, hsz⟩ | ⟨rfl, hsz⟩
    · clear hb
      go_wp2_with fail
      refine (works_any _).mono ?_
      rintro e w3 ⟨rfl, hb⟩
      have G3 := Lib.hid (O2.out.next hb).bl
      clear hb
      go_wp2_with fail
      go_ret
      exact ⟨rfl, G3.out⟩
    · clear hb
      go_wp2_with fail
      refine (works_any _).mono ?_
      rintro e w3 ⟨rfl, hb⟩
      have G3 := Lib.hid (O2.out.next hb).bl
      clear hb
      go_wp2_with fail
      go_ret
      exact ⟨rfl, G3.out⟩
    · have hszd : decide ((65536 : Int) < (nm.size : Int)) = false := by simp; omega
      clear hb
      generalize ((w.alloc (.cells #[.int .i64 ino, .int .u64 base, .int .u16 ty, .int .u64 en, .int .u64 ph, .slice gA gM gQ, .slice nA nM nQ, .string so, .string rn, .slice sA sM sQ, .slice rA rM rQ] 38)).alloc (.cells #[.int .i64 ino, .int .u64 base, .int .u16 ty, .int .u64 en, .int .u64 ph, .slice gA gM gQ, .slice nA nM nQ, .string so, .string rn, .slice sA sM sQ, .slice rA rM rQ] 38)) = w2 at O2 ⊢
      go_wp2_with fail
      refine (lookup_any A m c O nm _ ((H.out.below O2.out.bl).more (by have := O2.out.bl.size; omega))).mono ?_
      obtain ⟨x1, y1, b1, e1, h1⟩ := lkV_is (lkO O m nm)
      rw [e1]
      have hx1 : x1 ≤ m := h1.le
      have HL1 := Lib.hid h1
      clear e1 h1
      rintro e w3 ⟨rfl, bl3⟩
      have O3 := Lib.hid (O2.out.next bl3)
      clear bl3 O2
      obtain ⟨k0, k1, k2, k3, k4, k5, k6, k7, k8, k9, k10⟩ := OS.cells O3
      obtain ⟨xs, hxs⟩ : ∃ x, x = flatC O m := ⟨_, rfl⟩
      have REA : Hid (Reads w3 w.heap.size 11 A m xs) := Lib.hid (by rw [hxs]; exact StR.reads (H.out.below O3.out.bl).os)
      have HX1 : Hid (∀ u ∈ xs, u.oneCell' = true) := Lib.hid (by rw [hxs]; exact flatC_one O m)
      have HXS := Lib.hid hxs
      have hz3 : w.heap.size + 1 ≤ w3.heap.size := O3.out.bo.lt
      clear hxs
      go_wp2_with (first
        | (at_builtin
           refine wpList_append_any _ rfl (.tmp 41) (.tmp 42) _ rfl (w.heap.size + 1) 38 i0 _ 11 168 Try.underlying22 hi0 hz0 hz1 hz2 rfl (by omega) (.slice none 0 0) 0 [] rfl (World.ownsRow_nil _ _ _ _) w.heap.size A m c xs rfl REA.out HX1.out (by simp only [maxLen]; omega) (by omega) hz3 ?_
           intro v1 w4 hown1 hg1 hat1
           rw [Nat.zero_add, List.nil_append] at hown1
           have O4 := Lib.hid (O3.out.grown (World.ownsRow_nil _ _ _ _) hg1)
           have HO1 := Lib.hid hown1
           obtain ⟨A1, q1, rfl⟩ := ownsRow_val hown1
           obtain ⟨j0, j1, j2, j3, j4, j5, j6, j7, j8, j9, j10⟩ := OS.cells O4
           have hz4 : w.heap.size + 1 ≤ w4.heap.size := O4.out.bo.lt
           clear hown1 hg1 hat1 k0 k1 k2 k3 k4 k5 k6 k7 k8 k9 k10 O3 hz3)
        | (at_builtin
           refine wpList_append_any _ rfl (.tmp 44) (.tmp 46) _ rfl (w.heap.size + 1) 38 i0 _ 11 168 Try.underlying22 hi0 hz0 hz1 hz2 rfl (by omega) (.slice A1 m q1) m xs rfl (HO1.out.alloc _) (w4.heap.size + 1) (some ⟨w4.heap.size, 0, none⟩) 1 1 [.int .i64 ino, .int .u64 base, .int .u16 ty, .int .u64 en, .int .u64 ph, .slice gA gM gQ, .slice nA nM nQ, .string so, .string rn, .slice sA sM sQ, .slice rA rM rQ] rfl (reads_new w4 38 11 1 [.int .i64 ino, .int .u64 base, .int .u16 ty, .int .u64 en, .int .u64 ph, .slice gA gM gQ, .slice nA nM nQ, .string so, .string rn, .slice sA sM sQ, .slice rA rM rQ] rfl rfl) (by simp [Value.oneCell']) (by simp only [maxLen]; omega) (by omega) (by simp; omega) ?_
           intro v2 w5 hown2 hg2 hat2
           have O5 := Lib.hid ((O4.out.next ((Below.refl _ _).alloc (Nat.le_refl _) (.cells #[.int .i64 ino, .int .u64 base, .int .u16 ty, .int .u64 en, .int .u64 ph, .slice gA gM gQ, .slice nA nM nQ, .string so, .string rn, .slice sA sM sQ, .slice rA rM rQ] 38))).grown (HO1.out.alloc _) hg2)
           have HO2 := Lib.hid hown2
           obtain ⟨A2, q2, rfl⟩ := ownsRow_val hown2
           obtain ⟨k0, k1, k2, k3, k4, k5, k6, k7, k8, k9, k10⟩ := OS.cells O5
           have hz5 : w.heap.size + 1 ≤ w5.heap.size := O5.out.bo.lt
           clear hown2 hg2 hat2 j0 j1 j2 j3 j4 j5 j6 j7 j8 j9 j10 O4 HO1 hz4))
      have R2 : ObjR w5 w5.heap.size A2 (m + 1) (snocO O m ⟨ino, base, ty, en, ph, gA, gM, gQ, nA, nM, nQ, so, rn, sA, sM, sQ, rA, rM, rQ, sy⟩) := by
        refine ObjR.of_own (B := w.heap.size) (base := w.heap.size + 1) (e := 38) (c := q2) ?_ (fun i hi => ?_) (by omega) (by simp only [maxLen]; omega)
        · have h := HO2.out
          rw [HXS.out] at h
          show w5.ownsRow _ _ _ _ _ (flatC (snocO O m ⟨ino, base, ty, en, ph, gA, gM, gQ, nA, nM, nQ, so, rn, sA, sM, sQ, rA, rM, rQ, sy⟩) m ++ (snocO O m ⟨ino, base, ty, en, ph, gA, gM, gQ, nA, nM, nQ, so, rn, sA, sM, sQ, rA, rM, rQ, sy⟩ m).cs.toList)
          rw [flatC_congr (O := snocO O m ⟨ino, base, ty, en, ph, gA, gM, gQ, nA, nM, nQ, so, rn, sA, sM, sQ, rA, rM, rQ, sy⟩) (O' := O) m fun i hi => by unfold snocO; rw [if_neg (by omega)]]
          unfold snocO; rw [if_pos rfl]
          exact h
        · by_cases e : i = m
          · unfold snocO; rw [if_pos e]
            exact ⟨HS.out.below O5.out.bl, HSL.out⟩
          · unfold snocO; rw [if_neg e]
            exact (H.out.below O5.out.bl).sy i (by omega)
      refine (lookup_any A2 (m + 1) q2 _ nm _ R2).mono ?_
      obtain ⟨x2, y2, b2, e2, h2⟩ := lkV_is (lkO (snocO O m ⟨ino, base, ty, en, ph, gA, gM, gQ, nA, nM, nQ, so, rn, sA, sM, sQ, rA, rM, rQ, sy⟩) (m + 1) nm)
      rw [e2]
      have HL2 := Lib.hid h2
      clear e2 h2 R2
      rintro e w6 ⟨rfl, bl6⟩
      have O6 := Lib.hid (O5.out.next bl6)
      clear bl6 O5 k0 k1 k2 k3 k4 k5 k6 k7 k8 k9 k10 HO2
      obtain ⟨k0, k1, k2, k3, k4, k5, k6, k7, k8, k9, k10⟩ := OS.cells O6
      have hc := lk_facts HL1.out HL2.out
      have HREA := REA
      clear REA
      rcases hc with ⟨rfl, rfl, rfl, rfl⟩ | rfl
      all_goals
        have REA : Hid (Reads w6 w.heap.size 11 A m xs) := Lib.hid (by rw [HXS.out]; exact StR.reads (H.out.below O6.out.bl).os)
        have hz6 : w.heap.size + 1 ≤ w6.heap.size := O6.out.bo.lt
        clear HREA
        go_wp2_with (first
          | (at_builtin
             refine wpList_append_any _ rfl (.tmp 72) (.tmp 73) _ rfl (w.heap.size + 1) 38 i0 _ 11 168 Try.underlying22 hi0 hz0 hz1 hz2 rfl (by omega) (.slice (some ⟨w6.heap.size, 0, none⟩) 1 1) 1 [.int .i64 ino, .int .u64 base, .int .u16 ty, .int .u64 en, .int .u64 ph, .slice gA gM gQ, .slice nA nM nQ, .string so, .string rn, .slice sA sM sQ, .slice rA rM rQ] rfl (World.ownsRow_lit w6 #[.int .i64 ino, .int .u64 base, .int .u16 ty, .int .u64 en, .int .u64 ph, .slice gA gM gQ, .slice nA nM nQ, .string so, .string rn, .slice sA sM sQ, .slice rA rM rQ] 1 hz6 (by simp [maxLen]) rfl) w.heap.size A m c xs rfl (REA.out.alloc (by omega) _) HX1.out (by simp only [maxLen]; omega) (by omega) (by simp; omega) ?_
             intro v3 w7 hown3 hg3 hat3
             have O7 := Lib.hid ((O6.out.next ((Below.refl _ _).alloc (Nat.le_refl _) (.cells #[.int .i64 ino, .int .u64 base, .int .u16 ty, .int .u64 en, .int .u64 ph, .slice gA gM gQ, .slice nA nM nQ, .string so, .string rn, .slice sA sM sQ, .slice rA rM rQ] 38))).grown (World.ownsRow_lit w6 #[.int .i64 ino, .int .u64 base, .int .u16 ty, .int .u64 en, .int .u64 ph, .slice gA gM gQ, .slice nA nM nQ, .string so, .string rn, .slice sA sM sQ, .slice rA rM rQ] 1 hz6 (by simp [maxLen]) rfl) hg3)
             rw [Nat.add_comm 1 m] at hown3
             have HO3 := Lib.hid hown3
             obtain ⟨A3, q3, rfl⟩ := ownsRow_val hown3
             obtain ⟨j0, j1, j2, j3, j4, j5, j6, j7, j8, j9, j10⟩ := OS.cells O7
             have hz7 : w.heap.size + 1 ≤ w7.heap.size := O7.out.bo.lt
             clear hown3 hg3 hat3 k0 k1 k2 k3 k4 k5 k6 k7 k8 k9 k10 O6 hz6))
        have R3 : ObjR w7 w7.heap.size A3 (m + 1) (consO ⟨ino, base, ty, en, ph, gA, gM, gQ, nA, nM, nQ, so, rn, sA, sM, sQ, rA, rM, rQ, sy⟩ O) := by
          refine ObjR.of_own (B := w.heap.size) (base := w.heap.size + 1) (e := 38) (c := q3) ?_ (fun i hi => ?_) (by omega) (by simp only [maxLen]; omega)
          · have h := HO3.out
            rw [HXS.out] at h
            rw [flatC_cons]
            exact h
          · cases i with
            | zero => exact ⟨HS.out.below O7.out.bl, HSL.out⟩
            | succ i => exact (H.out.below O7.out.bl).sy i (by omega)
        refine (lookup_any A3 (m + 1) q3 _ nm _ R3).mono ?_
        obtain ⟨x3, y3, b3, e3, h3⟩ := lkV_is (lkO (consO ⟨ino, base, ty, en, ph, gA, gM, gQ, nA, nM, nQ, so, rn, sA, sM, sQ, rA, rM, rQ, sy⟩ O) (m + 1) nm)
        rw [e3]
        have HL3 := Lib.hid h3
        clear e3 h3 R3
        rintro e w8 ⟨rfl, bl8⟩
        have O8 := Lib.hid (O7.out.next bl8)
        clear bl8 O7 j0 j1 j2 j3 j4 j5 j6 j7 j8 j9 j10 HO3 REA hz7
        obtain ⟨k0, k1, k2, k3, k4, k5, k6, k7, k8, k9, k10⟩ := OS.cells O8
        go_wp2_with fail
        have R4 : ObjR (w8.alloc (.cells #[.int .i64 ino, .int .u64 base, .int .u16 ty, .int .u64 en, .int .u64 ph, .slice gA gM gQ, .slice nA nM nQ, .string so, .string rn, .slice sA sM sQ, .slice rA rM rQ] 38)) _ (some ⟨w8.heap.size, 0, none⟩) 1 (fun _ => ⟨ino, base, ty, en, ph, gA, gM, gQ, nA, nM, nQ, so, rn, sA, sM, sQ, rA, rM, rQ, sy⟩) :=
          ObjR.one (Blk.new _ _ _) (HS.out.below ((O8.out.next ((Below.refl _ _).alloc (Nat.le_refl _) _)).bl)) HSL.out (by have := O8.out.bl.size; simp; omega)
        have O9 := Lib.hid (O8.out.next ((Below.refl _ _).alloc (Nat.le_refl _) (.cells #[.int .i64 ino, .int .u64 base, .int .u16 ty, .int .u64 en, .int .u64 ph, .slice gA gM gQ, .slice nA nM nQ, .string so, .string rn, .slice sA sM sQ, .slice rA rM rQ] 38)))
        refine (lookup_any _ 1 1 _ nm _ (R4.more (by simp))).mono ?_
        obtain ⟨x4, y4, b4, e4, h4⟩ := lkV_is (lkO (fun _ => (⟨ino, base, ty, en, ph, gA, gM, gQ, nA, nM, nQ, so, rn, sA, sM, sQ, rA, rM, rQ, sy⟩ : ObjD)) 1 nm)
        rw [e4]
        have HL4 := Lib.hid h4
        clear e4 h4 R4
        rintro e w10 ⟨rfl, bl10⟩
        have O10 := Lib.hid (O9.out.next bl10)
        clear bl10 O9 O8 k0 k1 k2 k3 k4 k5 k6 k7 k8 k9 k10
        have hc := lk_facts2 HL1.out HL2.out HL3.out HL4.out
        rcases hc with ⟨rfl, rfl, rfl⟩ | ⟨rfl, rfl, hb2, hxy⟩
        · go_wp2_with fail
          refine (works_any _).mono ?_
          rintro e w11 ⟨rfl, hb⟩
          have G3 := Lib.hid (O10.out.next hb).bl
          clear hb
          go_wp2_with fail
          go_ret
          exact ⟨rfl, G3.out⟩
        · try subst hb2
          try obtain ⟨rfl, rfl⟩ := hxy rfl
          have hd : decide (((x2 : Int) + 1) = (x2 : Int) + 1) = true := by simp
          go_wp2_with fail
          refine (works_any _).mono ?_
          rintro e w11 ⟨rfl, hb⟩
          have G3 := Lib.hid (O10.out.next hb).bl
          clear hb
          go_wp2_with fail
          go_ret
          exact ⟨rfl, G3.out⟩
  · clear hb
    go_wp2_with fail
    refine (works_any _).mono ?_
    rintro e w3 ⟨rfl, hb⟩
    have G3 := Lib.hid (O1.out.next hb).bl
    clear hb
    go_wp2_with fail
    go_ret
    exact ⟨rfl, G3.out⟩
end Go.Proofs.Ytneleioiondapaa
