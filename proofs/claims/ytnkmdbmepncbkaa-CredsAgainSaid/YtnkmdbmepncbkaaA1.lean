import Derived.Test.YtnkmdbmepncbkaaW9
namespace Go.Proofs.Ytnkmdbmepncbkaa
open Go.RowKit Go.Hos Go.Sort

theorem lentE_idem (kd : Int) (m : Nat) (mu euid : Int) : lentE kd m mu (lentE kd m mu euid) = lentE kd m mu euid := by
  unfold lentE; split <;> rfl

set_option maxHeartbeats 2000000 in
theorem again_any (uid euid suid gid : Int) (A : Option Addr) (n c : Nat) (gs : List Int) (kd mu mg sz : Int) (m : Nat) (w : World)
    (h : Reads w w.heap.size 1 A n (gs.map (Value.int .u32))) (hm1 : m ≤ 65535) :
    Calls Try.prog 6 #[.agg #[.int .u32 uid, .int .u32 euid, .int .u32 suid, .int .u32 gid, .slice A n c], .agg #[.int .u8 kd, .int .u16 m, .int .u32 mu, .int .u32 mg, .int .i64 sz]] w
      fun e w' => e = .returned (.bool true) ∧ Below w.heap.size w w' := by
  have H := Lib.hid h
  clear h
  by_cases hn : n ≤ 65536
  · have hq : decide ((65536 : Int) < n) = false := by simp; omega
    go_enter Try.func6, Try.ntmps6
    go_wp2_with fail
    refine (large_any _ _ _ _ _ _ _ _).mono ?_
    rintro e w0 ⟨rfl, hb0⟩
    have k0 : Blk w0 w.heap.size 25 #[.int .u32 uid, .int .u32 euid, .int .u32 suid, .int .u32 gid, .slice A n c] := ((Blk.new _ _ _).alloc _).below hb0 (by simp; omega)
    have k1 : Blk w0 (w.heap.size + 1) 28 #[.int .u8 kd, .int .u16 m, .int .u32 mu, .int .u32 mg, .int .i64 sz] := (blk_at _ _ (by simp)).below hb0 (by simp)
    have hlow : Hid (Below w.heap.size w w0) := ((Below.refl _ _).alloc (Nat.le_refl _) _).alloc (by simp) _ |>.trans (hb0.mono (by simp; omega))
    have K0 : Hid (Blk w0 w.heap.size 25 #[.int .u32 uid, .int .u32 euid, .int .u32 suid, .int .u32 gid, .slice A n c]) := k0
    have K1 : Hid (Blk w0 (w.heap.size + 1) 28 #[.int .u8 kd, .int .u16 m, .int .u32 mu, .int .u32 mg, .int .i64 sz]) := k1
    have kc0 := k0.cell
    have kc1 := k1.cell
    clear k0 k1 hb0
    go_wp2_with fail
    refine (lend_any _ _ _ _ _ _ _ gs _ _ _ _ _ w.heap.size _ (H.out.below hlow.out) hlow.out.size hn hm1).mono ?_
    rintro e w1 ⟨v, rfl, hown, hb1⟩
    obtain ⟨A1, c1, rfl⟩ := ownsRow_val hown
    obtain ⟨E, hE⟩ : ∃ E, E = lentE kd m mu euid := ⟨_, rfl⟩
    have HE := Lib.hid hE
    rw [← hE]
    clear hE
    have hlow1 : Hid (Below w.heap.size w w1) := hlow.out.trans (hb1.mono hlow.out.size)
    have k0 : Blk w1 w.heap.size 25 #[.int .u32 uid, .int .u32 euid, .int .u32 suid, .int .u32 gid, .slice A n c] := K0.out.below hb1 K0.out.lt
    have k1 : Blk w1 (w.heap.size + 1) 28 #[.int .u8 kd, .int .u16 m, .int .u32 mu, .int .u32 mg, .int .i64 sz] := K1.out.below hb1 K1.out.lt
    have O1 : Hid (Reads w1 w1.heap.size 1 A1 n (gs.map (Value.int .u32))) := Reads.of_own hown
    obtain ⟨g1, hg1⟩ : ∃ g1, g1 = w1.heap.size := ⟨_, rfl⟩
    have HG1 := Lib.hid hg1
    have k2 : Blk (w1.alloc (.cells #[.int .u32 uid, .int .u32 E, .int .u32 E, .int .u32 gid, .slice A1 n c1] 25)) g1 25 #[.int .u32 uid, .int .u32 E, .int .u32 E, .int .u32 gid, .slice A1 n c1] := blk_at _ _ hg1.symm
    have Q0 : Hid (Blk w1 w.heap.size 25 #[.int .u32 uid, .int .u32 euid, .int .u32 suid, .int .u32 gid, .slice A n c]) := k0
    have Q1 : Hid (Blk w1 (w.heap.size + 1) 28 #[.int .u8 kd, .int .u16 m, .int .u32 mu, .int .u32 mg, .int .i64 sz]) := k1
    have Q2 := Lib.hid k2
    have kd0 := k0.cell
    have kd1 := k1.cell
    have z0 := k0.lt
    have z1 := k1.lt
    clear k0 k1 k2 hb1 hown hg1 kc0 kc1 K0 K1 hlow
    go_wp2_with fail
    refine (lend_any _ _ _ _ _ _ _ gs _ _ _ _ _ w1.heap.size _ (O1.out.alloc (Nat.le_refl _) _) (by simp) hn hm1).mono ?_
    rintro e w2 ⟨v, rfl, hown, hb2⟩
    obtain ⟨A2, c2, rfl⟩ := ownsRow_val hown
    have e2 : lentE kd m mu E = E := by rw [HE.out, lentE_idem]
    rw [e2]
    have hlow2 : Hid (Below w.heap.size w w2) := (hlow1.out.alloc hlow1.out.size _).trans (hb2.mono (by have := hlow1.out.size; simp; omega))
    have k0 : Blk w2 w.heap.size 25 #[.int .u32 uid, .int .u32 euid, .int .u32 suid, .int .u32 gid, .slice A n c] := (Q0.out.alloc _).below hb2 (by simp; omega)
    have k1 : Blk w2 (w.heap.size + 1) 28 #[.int .u8 kd, .int .u16 m, .int .u32 mu, .int .u32 mg, .int .i64 sz] := (Q1.out.alloc _).below hb2 (by simp; omega)
    have k2 : Blk w2 g1 25 #[.int .u32 uid, .int .u32 E, .int .u32 E, .int .u32 gid, .slice A1 n c1] := Q2.out.below hb2 Q2.out.lt
    have O2 : Hid (Reads w2 w2.heap.size 1 A2 n (gs.map (Value.int .u32))) := Reads.of_own hown
    have O3 : Hid (Reads w2 w1.heap.size 1 A1 n (gs.map (Value.int .u32))) := ((O1.out.alloc (Nat.le_refl _) _).below (hb2.mono (by simp)))
    obtain ⟨g2, hg2⟩ : ∃ g2, g2 = w2.heap.size := ⟨_, rfl⟩
    have HG2 := Lib.hid hg2
    have S0 : Hid (Blk w2 w.heap.size 25 #[.int .u32 uid, .int .u32 euid, .int .u32 suid, .int .u32 gid, .slice A n c]) := k0
    have S2 : Hid (Blk w2 g1 25 #[.int .u32 uid, .int .u32 E, .int .u32 E, .int .u32 gid, .slice A1 n c1]) := k2
    have S3 : Hid (Blk (w2.alloc (.cells #[.int .u32 uid, .int .u32 E, .int .u32 E, .int .u32 gid, .slice A2 n c2] 25)) g2 25 #[.int .u32 uid, .int .u32 E, .int .u32 E, .int .u32 gid, .slice A2 n c2]) := blk_at _ _ hg2.symm
    have ke0 := k0.cell
    have ke1 := k1.cell
    have ke2 := k2.cell
    have y0 := k0.lt
    have y1 := k1.lt
    have y2 := k2.lt
    have y3 : w1.heap.size ≤ w2.heap.size := by have := hb2.size; simp at this; omega
    rw [← HG1.out]
    clear k0 k1 k2 hb2 hown hg2 kd0 kd1 e2 Q0 Q1 Q2 hlow1
    go_wp2_with fail
    have x3 : w1.heap.size ≤ (w2.alloc (.cells #[.int .u32 uid, .int .u32 E, .int .u32 E, .int .u32 gid, .slice A2 n c2] 25)).heap.size := by simp; omega
    refine (same_any _ _ _ _ _ _ _ _ _ _ _ _ _ _ gs gs w1.heap.size w2.heap.size _ (O3.out.alloc y3 _) (O2.out.alloc (Nat.le_refl _) _) x3 (by simp) (by omega) (by omega)).mono ?_
    rintro e w3 ⟨rfl, hb3⟩
    rw [show sameB uid E E gid uid E E gid gs gs = true by simp [sameB]]
    have hlow3 : Hid (Below w.heap.size w w3) := (hlow2.out.alloc hlow2.out.size _).trans (hb3.mono (by have := hlow2.out.size; simp; omega))
    have k0 : Blk w3 w.heap.size 25 #[.int .u32 uid, .int .u32 euid, .int .u32 suid, .int .u32 gid, .slice A n c] := (S0.out.alloc _).below hb3 (by simp; omega)
    have k2 : Blk w3 g1 25 #[.int .u32 uid, .int .u32 E, .int .u32 E, .int .u32 gid, .slice A1 n c1] := (S2.out.alloc _).below hb3 (by simp; omega)
    have kf0 := k0.cell
    have kf2 := k2.cell
    clear k0 k2 hb3 ke0 ke1 ke2 x3
    go_wp2_with fail
    refine (works_any _).mono ?_
    rintro e w4 ⟨rfl, hb4⟩
    have HB4 := Lib.hid hb4
    clear hb4
    go_wp2
    go_ret
    exact ⟨rfl, hlow3.out.trans (HB4.out.mono hlow3.out.size)⟩
  · have hq : decide ((65536 : Int) < n) = true := by simp; omega
    go_enter Try.func6, Try.ntmps6
    go_wp2_with fail
    refine (large_any _ _ _ _ _ _ _ _).mono ?_
    rintro e w1 ⟨rfl, hb1⟩
    have HB1 := Lib.hid hb1
    clear hb1
    go_wp2_with fail
    refine (works_any _).mono ?_
    rintro e w2 ⟨rfl, hb2⟩
    have HB2 := Lib.hid hb2
    clear hb2
    go_wp2
    go_ret
    refine ⟨rfl, ?_⟩
    exact ((((Below.refl _ _).alloc (Nat.le_refl _) _).alloc (by simp) _).trans (HB1.out.mono (by simp; omega))).trans (HB2.out.mono (by have := HB1.out.size; simp at this; omega))
end Go.Proofs.Ytnkmdbmepncbkaa
