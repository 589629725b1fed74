import Derived.Test.YtnkmdbmepncbkaaW7
namespace Go.Proofs.Ytnkmdbmepncbkaa
open Go.RowKit Go.Hos Go.Sort

def suidB (m : Nat) : Bool := m / 2048 % 2 == 1
theorem suid_and (m : Nat) (h : m < 65536) : (bits .and .u16 (m : Int) 2048 != 0) = suidB m := by
  have e := u16_and_nat m 2048 h (by omega)
  rw [show bits .and .u16 (m : Int) 2048 = _ from e]
  have e2 : m &&& 2048 = m / 2 ^ 11 % 2 * 2 ^ 11 := nat_bit 11 m
  rw [e2]
  unfold suidB
  rw [Bool.eq_iff_iff]
  simp only [bne_iff_ne, beq_iff_eq]
  omega

def lentB (kd : Int) (m : Nat) : Bool := kd == 1 && suidB m
def lentE (kd : Int) (m : Nat) (mu euid : Int) : Int := if lentB kd m then mu else euid

set_option maxHeartbeats 1000000 in
theorem lend_any (uid euid suid gid : Int) (A : Option Addr) (n c : Nat) (gs : List Int) (kd mu mg sz : Int) (m : Nat) (B : Nat) (w : World)
    (h : Reads w B 1 A n (gs.map (Value.int .u32))) (hB : B ≤ w.heap.size) (hn : n ≤ 65536) (hm1 : m ≤ 65535) :
    Calls Try.prog 11 #[.agg #[.int .u32 uid, .int .u32 euid, .int .u32 suid, .int .u32 gid, .slice A n c], .agg #[.int .u8 kd, .int .u16 m, .int .u32 mu, .int .u32 mg, .int .i64 sz]] w
      fun e w' => ∃ v, e = .returned (.tuple #[.agg #[.int .u32 uid, .int .u32 (lentE kd m mu euid), .int .u32 (lentE kd m mu euid), .int .u32 gid, v], .bool (lentE kd m mu euid != euid)]) ∧
        w'.ownsRow w.heap.size 22 1 v n (gs.map (Value.int .u32)) ∧ Below w.heap.size w w' := by
  have H := Lib.hid h
  have b1 := suid_and m (by omega)
  clear h
  go_enter Try.func11, Try.ntmps11
  go_wp2_with fail
  refine (clone_any _ _ _ gs B _ ((((H.out.alloc hB _).alloc (by simp; omega) _).alloc (by simp; omega) _).alloc (by simp; omega) _) (by simp; omega) hn).mono ?_
  rintro e w1 ⟨v, rfl, hown, hb1⟩
  have hlow : Hid (Below w.heap.size w w1) := ((((Below.refl _ _).alloc (Nat.le_refl _) _).alloc (by simp) _).alloc (by simp; omega) _).alloc (by simp; omega) _ |>.trans (hb1.mono (by simp; omega))
  have k0 : Blk w1 w.heap.size 25 #[.int .u32 uid, .int .u32 euid, .int .u32 suid, .int .u32 gid, .slice A n c] := ((((Blk.new _ _ _).alloc _).alloc _).alloc _).below hb1 (by simp; omega)
  have k1 : Blk w1 (w.heap.size + 1) 28 #[.int .u8 kd, .int .u16 m, .int .u32 mu, .int .u32 mg, .int .i64 sz] := (((blk_at _ _ (by simp)).alloc _).alloc _).below hb1 (by simp)
  have k2 : Blk w1 (w.heap.size + 1 + 1) 25 #[.int .u32 0, .int .u32 0, .int .u32 0, .int .u32 0, .slice none 0 0] := ((blk_at _ _ (by simp)).alloc _).below hb1 (by simp)
  have k3 : Blk w1 (w.heap.size + 1 + 1 + 1) 25 #[.int .u32 uid, .int .u32 euid, .int .u32 suid, .int .u32 gid, .slice A n c] := (blk_at _ _ (by simp)).below hb1 (by simp)
  have z1 : w.heap.size + 1 + 1 + 1 < w1.heap.size := by have := hb1.size; simp at this; omega
  have hown' : Hid (w1.ownsRow (w.heap.size + 1 + 1 + 1 + 1) 22 1 v n (gs.map (Value.int .u32))) := by simp at hown; exact hown
  obtain ⟨A1, c1, rfl⟩ := ownsRow_val hown
  clear hown hb1
  have kc0 := k0.cell
  have kc1 := k1.cell
  have kc2 := k2.cell
  have kc3 := k3.cell
  have kf2 := k2.frozen
  have kf3 := k3.frozen
  have K0 : Hid (Blk w1 w.heap.size 25 #[.int .u32 uid, .int .u32 euid, .int .u32 suid, .int .u32 gid, .slice A n c]) := k0
  have K2 : Hid (Blk w1 (w.heap.size + 1 + 1) 25 #[.int .u32 0, .int .u32 0, .int .u32 0, .int .u32 0, .slice none 0 0]) := k2
  have K3 : Hid (Blk w1 (w.heap.size + 1 + 1 + 1) 25 #[.int .u32 uid, .int .u32 euid, .int .u32 suid, .int .u32 gid, .slice A n c]) := k3
  clear k0 k1 k2 k3
  go_wp2
  all_goals
    go_region
    go_wp2
  · have h1 : kd = 1 := by assumption
    have h2 : suidB m = true := by assumption
    have e1 : lentE kd m mu euid = mu := by simp [lentE, lentB, h1, h2]
    refine bodyPost_ret (v := .tuple #[.agg #[.int .u32 uid, .int .u32 mu, .int .u32 mu, .int .u32 gid, .slice A1 n c1], .bool (mu != euid)]) (by simp [results, Try.results11, go_sem, kc2]) rfl ⟨_, by rw [e1], ?_, ?_⟩
    · refine owns_base (base := w.heap.size + 1 + 1 + 1 + 1) ?_ (by omega)
      refine World.ownsRow.drew ?_
      repeat (refine ownsRow_setCell_below ?_ (by simp) _)
      exact hown'.out
    · refine Below.drew ?_
      repeat (refine Below.setCell ?_ (by simp; omega) _)
      exact hlow.out
  · have h1 : kd = 1 := by assumption
    have h2 : suidB m = false := by assumption
    have e1 : lentE kd m mu euid = euid := by simp [lentE, lentB, h2]
    refine bodyPost_ret (v := .tuple #[.agg #[.int .u32 uid, .int .u32 euid, .int .u32 euid, .int .u32 gid, .slice A1 n c1], .bool false]) (by simp [results, Try.results11, go_sem, kc2]) rfl ⟨.slice A1 n c1, by rw [e1]; simp, ?_, ?_⟩
    · refine owns_base (base := w.heap.size + 1 + 1 + 1 + 1) ?_ (by omega)
      refine World.ownsRow.drew ?_
      repeat (refine ownsRow_setCell_below ?_ (by simp) _)
      exact hown'.out
    · refine Below.drew ?_
      repeat (refine Below.setCell ?_ (by simp; omega) _)
      exact hlow.out
  · have h1 : ¬ kd = 1 := by assumption
    have e1 : lentE kd m mu euid = euid := by simp [lentE, lentB, h1]
    refine bodyPost_ret (v := .tuple #[.agg #[.int .u32 uid, .int .u32 euid, .int .u32 euid, .int .u32 gid, .slice A1 n c1], .bool false]) (by simp [results, Try.results11, go_sem, kc2]) rfl ⟨.slice A1 n c1, by rw [e1]; simp, ?_, ?_⟩
    · refine owns_base (base := w.heap.size + 1 + 1 + 1 + 1) ?_ (by omega)
      refine World.ownsRow.drew ?_
      repeat (refine ownsRow_setCell_below ?_ (by simp) _)
      exact hown'.out
    · refine Below.drew ?_
      repeat (refine Below.setCell ?_ (by simp; omega) _)
      exact hlow.out

set_option maxHeartbeats 1000000 in
theorem rlend_any (uid euid suid gid : Int) (A : Option Addr) (n c : Nat) (gs : List Int) (kd mu mg sz : Int) (m : Nat) (B : Nat) (w : World)
    (h : Reads w B 1 A n (gs.map (Value.int .u32))) (hB : B ≤ w.heap.size) (hn : n ≤ 65536) (hm1 : m ≤ 65535) :
    Calls Try.prog 12 #[.agg #[.int .u32 uid, .int .u32 euid, .int .u32 suid, .int .u32 gid, .slice A n c], .agg #[.int .u8 kd, .int .u16 m, .int .u32 mu, .int .u32 mg, .int .i64 sz]] w
      fun e w' => ∃ v, e = .returned (.tuple #[.agg #[.int .u32 uid, .int .u32 (lentE kd m mu euid), .int .u32 (lentE kd m mu euid), .int .u32 gid, v], .bool (lentE kd m mu euid != euid)]) ∧
        w'.ownsRow w.heap.size 22 1 v n (gs.map (Value.int .u32)) ∧ Below w.heap.size w w' := by
  have H := Lib.hid h
  have b1 := suid_and m (by omega)
  clear h
  go_enter Try.func12, Try.ntmps12
  go_wp2_with fail
  refine (copy_any _ _ _ _ _ _ _ gs B _ (((H.out.alloc hB _).alloc (by simp; omega) _).alloc (by simp; omega) _) (by simp; omega) hn).mono ?_
  rintro e w1 ⟨v, rfl, hown, hb1⟩
  have hlow : Hid (Below w.heap.size w w1) := (((Below.refl _ _).alloc (Nat.le_refl _) _).alloc (by simp) _).alloc (by simp; omega) _ |>.trans (hb1.mono (by simp; omega))
  have k0 : Blk w1 w.heap.size 25 #[.int .u32 uid, .int .u32 euid, .int .u32 suid, .int .u32 gid, .slice A n c] := (((Blk.new _ _ _).alloc _).alloc _).below hb1 (by simp; omega)
  have k1 : Blk w1 (w.heap.size + 1) 28 #[.int .u8 kd, .int .u16 m, .int .u32 mu, .int .u32 mg, .int .i64 sz] := ((blk_at _ _ (by simp)).alloc _).below hb1 (by simp)
  have k2 : Blk w1 (w.heap.size + 1 + 1) 25 #[.int .u32 0, .int .u32 0, .int .u32 0, .int .u32 0, .slice none 0 0] := (blk_at _ _ (by simp)).below hb1 (by simp)
  have z1 : w.heap.size + 1 + 1 < w1.heap.size := by have := hb1.size; simp at this; omega
  have z2 : w.heap.size + 1 < w1.heap.size := by omega
  have z3 : w.heap.size < w1.heap.size := by omega
  have hown' : Hid (w1.ownsRow (w.heap.size + 1 + 1 + 1) 22 1 v n (gs.map (Value.int .u32))) := by simp at hown; exact hown
  obtain ⟨A1, c1, rfl⟩ := ownsRow_val hown
  clear hown hb1
  have kc0 := k0.cell
  have kc1 := k1.cell
  have kc2 := k2.cell
  have kf2 := k2.frozen
  clear k0 k1 k2
  go_wp2
  all_goals
    go_region
    go_wp2
  · have h1 : kd = 1 := by assumption
    have h2 : suidB m = true := by assumption
    have e1 : lentE kd m mu euid = mu := by simp [lentE, lentB, h1, h2]
    refine bodyPost_ret (v := .tuple #[.agg #[.int .u32 uid, .int .u32 mu, .int .u32 mu, .int .u32 gid, .slice A1 n c1], .bool (mu != euid)]) (by simp [results, Try.results12, go_sem, kc2, z1]) rfl ⟨.slice A1 n c1, by rw [e1], ?_, ?_⟩
    · refine owns_base (base := w.heap.size + 1 + 1 + 1) ?_ (by omega)
      refine World.ownsRow.drew (World.ownsRow.alloc ?_ _)
      iterate 5 (refine ownsRow_setCell_below ?_ (by simp) _)
      exact hown'.out
    · refine Below.drew (Below.alloc ?_ (by simp; omega) _)
      iterate 5 (refine Below.setCell ?_ (by simp; omega) _)
      exact hlow.out
  · have h1 : kd = 1 := by assumption
    have h2 : suidB m = false := by assumption
    have e1 : lentE kd m mu euid = euid := by simp [lentE, lentB, h2]
    refine bodyPost_ret (v := .tuple #[.agg #[.int .u32 uid, .int .u32 euid, .int .u32 euid, .int .u32 gid, .slice A1 n c1], .bool false]) (by simp [results, Try.results12, go_sem, kc2, z1]) rfl ⟨.slice A1 n c1, by rw [e1]; simp, ?_, ?_⟩
    · refine owns_base (base := w.heap.size + 1 + 1 + 1) ?_ (by omega)
      refine World.ownsRow.drew (World.ownsRow.alloc ?_ _)
      iterate 5 (refine ownsRow_setCell_below ?_ (by simp) _)
      exact hown'.out
    · refine Below.drew (Below.alloc ?_ (by simp; omega) _)
      iterate 5 (refine Below.setCell ?_ (by simp; omega) _)
      exact hlow.out
  · have h1 : ¬ kd = 1 := by assumption
    have e1 : lentE kd m mu euid = euid := by simp [lentE, lentB, h1]
    refine bodyPost_ret (v := .tuple #[.agg #[.int .u32 uid, .int .u32 euid, .int .u32 euid, .int .u32 gid, .slice A1 n c1], .bool false]) (by simp [results, Try.results12, go_sem, kc2, z1]) rfl ⟨.slice A1 n c1, by rw [e1]; simp, ?_, ?_⟩
    · refine owns_base (base := w.heap.size + 1 + 1 + 1) ?_ (by omega)
      refine World.ownsRow.drew (World.ownsRow.alloc ?_ _)
      iterate 5 (refine ownsRow_setCell_below ?_ (by simp) _)
      exact hown'.out
    · refine Below.drew (Below.alloc ?_ (by simp; omega) _)
      iterate 5 (refine Below.setCell ?_ (by simp; omega) _)
      exact hlow.out
end Go.Proofs.Ytnkmdbmepncbkaa
