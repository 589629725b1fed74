import Derived.Test.YtnkmdbmepncbkaaW6
import Derived.Test.YtnkmdbmepncbkaaP1
namespace Go.Proofs.Ytnkmdbmepncbkaa
open Go.RowKit Go.Hos Go.Sort

theorem cls_3 (euid gid : Int) (gs : List Int) (mu mg : Int) : cls euid gid gs mu mg = 0 ∨ cls euid gid gs mu mg = 1 ∨ cls euid gid gs mu mg = 2 := by
  unfold cls; split
  · exact .inl rfl
  · split
    · exact .inr (.inl rfl)
    · exact .inr (.inr rfl)

theorem ret_bool {a b : Bool} (h : a = b) : Ending.returned (.bool a) = .returned (.bool b) := by rw [h]
theorem ret_int {k : IntKind} {a b : Int} (h : a = b) : Ending.returned (.int k a) = .returned (.int k b) := by rw [h]

theorem may_val {a : Nat} {want : Nat} {euid : Int} {dir x : Bool} (h1 : (want : Int) ≤ 7) (h2 : (euid != 0) = true) (ha : a < 8) :
    (bits .andNot .u16 (want : Int) (a : Int) == 0) = mayB (euid == 0) dir a x want := by
  rw [andnot_eq want a (by omega) ha]
  have he : (euid == 0) = false := by simpa [bne] using h2
  have : ¬ 7 < want := by omega
  simp [mayB, this, he]

set_option maxHeartbeats 1000000 in
theorem may_any (uid euid suid gid : Int) (A : Option Addr) (n c : Nat) (gs : List Int) (kd mu mg sz : Int) (m want : Nat) (B : Nat) (w : World)
    (h : Reads w B 1 A n (gs.map (Value.int .u32))) (hB : B ≤ w.heap.size) (hn : n ≤ 9223372036854775807) (hw1 : want ≤ 255) (hm1 : m ≤ 65535) :
    Calls Try.prog 17 #[.agg #[.int .u32 uid, .int .u32 euid, .int .u32 suid, .int .u32 gid, .slice A n c], .agg #[.int .u8 kd, .int .u16 m, .int .u32 mu, .int .u32 mg, .int .i64 sz], .int .u8 want] w
      fun e w' => e = .returned (.bool (mayB (euid == 0) (kd == 2) (bts (cls euid gid gs mu mg) m) (anyX m) want)) ∧ Below w.heap.size w w' := by
  have H := Lib.hid h
  have b1 : bits .and .u16 ((m : Int) / 64) 7 = ((m / 64 % 8 : Nat) : Int) := u16_and7 (m / 64) (by omega)
  have b2 : bits .and .u16 ((m : Int) / 8) 7 = ((m / 8 % 8 : Nat) : Int) := u16_and7 (m / 8) (by omega)
  have b3 : bits .and .u16 (m : Int) 7 = ((m % 8 : Nat) : Int) := u16_and7 m (by omega)
  have b4 : bits .and .u8 (want : Int) 1 = ((want % 2 : Nat) : Int) := u8_and1 want (by omega)
  obtain ⟨x, hx⟩ : ∃ x, x = m / 64 % 8 := ⟨_, rfl⟩
  obtain ⟨y, hy⟩ : ∃ y, y = m / 8 % 8 := ⟨_, rfl⟩
  obtain ⟨z, hz⟩ : ∃ z, z = m % 8 := ⟨_, rfl⟩
  obtain ⟨o, ho⟩ : ∃ o, o = want % 2 := ⟨_, rfl⟩
  rw [← hx] at b1
  rw [← hy] at b2
  rw [← hz] at b3
  rw [← ho] at b4
  have x8 : x < 8 := by omega
  have y8 : y < 8 := by omega
  have z8 : z < 8 := by omega
  have hbt : Hid (bts 0 m = x ∧ bts 1 m = y ∧ bts 2 m = z) := ⟨hx.symm, hy.symm, hz.symm⟩
  have hax : Hid ((z % 2 == 1 || y % 2 == 1 || x % 2 == 1) = anyX m) := by
    show _ = _
    unfold anyX
    rw [show z % 2 = m % 2 by omega, show y % 2 = m / 8 % 2 by omega, show x % 2 = m / 64 % 2 by omega]
  have HO := Lib.hid ho
  clear h hx hy hz ho
  have hcv : IntKind.u16.wrap (want : Int) = want := by rw [IntKind.wrap_u16]; omega
  go_enter Try.func17, Try.ntmps17
  go_wp2_with fail
  · go_ret
    refine ⟨ret_bool ?_, (((Below.refl _ _).alloc (Nat.le_refl _) _).alloc (by simp) _).alloc (by simp; omega) _⟩
    have : 7 < want := by omega
    simp [mayB, this]
  · have h1 : (want : Int) ≤ 7 := by assumption
    have h2 : (euid != 0) = true := by assumption
    refine (class_any _ _ _ _ _ _ _ gs _ _ _ _ _ B _ (((H.out.alloc hB _).alloc (by simp; omega) _).alloc (by simp; omega) _) (by simp; omega) hn).mono ?_
    rintro e w1 ⟨rfl, hb1⟩
    have hlow := Lib.hid hb1
    have kb : Blk w1 (w.heap.size + 1 + 1) 47 #[Value.int .u16 x, .int .u16 y, .int .u16 z] := (blk_at _ _ (by simp)).below hb1 (by simp)
    have kc := kb.cell
    clear hb1 kb
    rcases cls_3 euid gid gs mu mg with hcl | hcl | hcl
    all_goals
      go_wp2
      go_ret
      refine ⟨ret_bool ?_, ((((Below.refl _ _).alloc (Nat.le_refl _) _).alloc (by simp) _).alloc (by simp; omega) _).trans (hlow.out.mono (by simp; omega))⟩
    · rw [hcl, hbt.out.1]; exact may_val h1 h2 x8
    · rw [hcl, hbt.out.2.1]; exact may_val h1 h2 y8
    · rw [hcl, hbt.out.2.2]; exact may_val h1 h2 z8
  · have h1 : (want : Int) ≤ 7 := by assumption
    have h2 : (euid != 0) = false := by assumption
    have h3 : ((o : Int) == 0) = true := by assumption
    go_ret
    refine ⟨ret_bool ?_, (((Below.refl _ _).alloc (Nat.le_refl _) _).alloc (by simp) _).alloc (by simp; omega) _⟩
    have h4 : ¬ 7 < want := by omega
    have h5 : (euid == 0) = true := by simpa [bne] using h2
    have h6 : want % 2 = 0 := by have := HO.out; simp at h3; omega
    simp [mayB, h4, h5, h6]
  · have h1 : (want : Int) ≤ 7 := by assumption
    have h2 : (euid != 0) = false := by assumption
    have h3 : (kd == 2) = true := by assumption
    go_ret
    refine ⟨ret_bool ?_, (((Below.refl _ _).alloc (Nat.le_refl _) _).alloc (by simp) _).alloc (by simp; omega) _⟩
    have h4 : ¬ 7 < want := by omega
    have h5 : (euid == 0) = true := by simpa [bne] using h2
    simp [mayB, h4, h5, h3]
  · have h1 : (want : Int) ≤ 7 := by assumption
    have h2 : (euid != 0) = false := by assumption
    have h3 : (kd == 2) = false := by assumption
    have h7 : ((o : Int) == 0) = false := by assumption
    go_ret
    refine ⟨ret_bool ?_, (((Below.refl _ _).alloc (Nat.le_refl _) _).alloc (by simp) _).alloc (by simp; omega) _⟩
    have h4 : ¬ 7 < want := by omega
    have h5 : (euid == 0) = true := by simpa [bne] using h2
    have h6 : ¬ want % 2 = 0 := by have := HO.out; simp at h7; omega
    have e := or3 x y z x8 y8 z8
    rw [hax.out] at e
    have h8 : mayB (euid == 0) (kd == 2) (bts (cls euid gid gs mu mg) m) (anyX m) want = anyX m := by simp [mayB, h4, h5, h6, h3]
    rw [h8, ← e]

theorem rmay_val {a : Nat} {want : Nat} {euid : Int} {dir x : Bool} (h1 : (want : Int) ≤ 7) (h2 : (euid == 0) = false) (ha : a < 8) :
    (bits .and .u8 (a : Int) (want : Int) == (want : Int)) = mayB (euid == 0) dir a x want := by
  rw [u8_and_nat a want (by omega) (by omega)]
  have : ¬ 7 < want := by omega
  have h3 : (((a &&& want : Nat) : Int) == (want : Int)) = ((a &&& want) == want) := by
    rw [Bool.eq_iff_iff]; simp only [beq_iff_eq]; omega
  rw [h3]
  simp [mayB, this, h2]

set_option maxHeartbeats 1000000 in
theorem rmay_any (uid euid suid gid : Int) (A : Option Addr) (n c : Nat) (gs : List Int) (kd mu mg sz : Int) (m want : Nat) (B : Nat) (w : World)
    (h : Reads w B 1 A n (gs.map (Value.int .u32))) (hB : B ≤ w.heap.size) (hn : n ≤ 9223372036854775807) (hw1 : want ≤ 255) (hm1 : m ≤ 65535) :
    Calls Try.prog 22 #[.agg #[.int .u32 uid, .int .u32 euid, .int .u32 suid, .int .u32 gid, .slice A n c], .agg #[.int .u8 kd, .int .u16 m, .int .u32 mu, .int .u32 mg, .int .i64 sz], .int .u8 want] w
      fun e w' => e = .returned (.bool (mayB (euid == 0) (kd == 2) (bts (cls euid gid gs mu mg) m) (anyX m) want)) ∧ Below w.heap.size w w' := by
  have H := Lib.hid h
  obtain ⟨x, hx⟩ : ∃ x, x = m / 64 % 8 := ⟨_, rfl⟩
  obtain ⟨y, hy⟩ : ∃ y, y = m / 8 % 8 := ⟨_, rfl⟩
  obtain ⟨z, hz⟩ : ∃ z, z = m % 8 := ⟨_, rfl⟩
  obtain ⟨o, ho⟩ : ∃ o, o = want % 2 := ⟨_, rfl⟩
  have x8 : x < 8 := by omega
  have y8 : y < 8 := by omega
  have z8 : z < 8 := by omega
  have b1 : bits .and .u8 (IntKind.u8.wrap ((m : Int) / 64)) 7 = (x : Int) := by
    have e1 : IntKind.u8.wrap ((m : Int) / 64) = ((m / 64 % 256 : Nat) : Int) := by rw [IntKind.wrap_u8]; omega
    rw [e1, u8_and7' _ (by omega)]; omega
  have b2 : bits .and .u8 (IntKind.u8.wrap ((m : Int) / 8)) 7 = (y : Int) := by
    have e1 : IntKind.u8.wrap ((m : Int) / 8) = ((m / 8 % 256 : Nat) : Int) := by rw [IntKind.wrap_u8]; omega
    rw [e1, u8_and7' _ (by omega)]; omega
  have b3 : bits .and .u16 (m : Int) 7 = (z : Int) := by rw [u16_and7 m (by omega), hz]
  have b5 : bits .and .u8 (z : Int) 7 = (z : Int) := by rw [u8_and7' z (by omega)]; omega
  have b6 : IntKind.u8.wrap (z : Int) = z := by rw [IntKind.wrap_u8]; omega
  have b4 : bits .and .u8 (want : Int) 1 = (o : Int) := by rw [u8_and1 want (by omega), ho]
  have b7 := anyX_and m (by omega)
  have hbt : Hid (bts 0 m = x ∧ bts 1 m = y ∧ bts 2 m = z) := ⟨hx.symm, hy.symm, hz.symm⟩
  have HO := Lib.hid ho
  have HX : Hid ((m : Int) / 64 % 8 = x ∧ (m : Int) / 8 % 8 = y) := ⟨by omega, by omega⟩
  clear h hx hy hz ho
  go_enter Try.func22, Try.ntmps22
  go_wp2_with fail
  · go_ret
    refine ⟨ret_bool ?_, ((Below.refl _ _).alloc (Nat.le_refl _) _).alloc (by simp) _⟩
    have : 7 < want := by omega
    simp [mayB, this]
  · have h1 : (want : Int) ≤ 7 := by assumption
    have h5 : (euid == 0) = true := by assumption
    have h3 : o = 0 := by assumption
    go_ret
    refine ⟨ret_bool ?_, ((Below.refl _ _).alloc (Nat.le_refl _) _).alloc (by simp) _⟩
    have h4 : ¬ 7 < want := by omega
    have h6 : want % 2 = 0 := by have := HO.out; omega
    simp [mayB, h4, h5, h6]
  · have h1 : (want : Int) ≤ 7 := by assumption
    have h5 : (euid == 0) = true := by assumption
    have h3 : kd = 2 := by assumption
    go_ret
    refine ⟨ret_bool ?_, ((Below.refl _ _).alloc (Nat.le_refl _) _).alloc (by simp) _⟩
    have h4 : ¬ 7 < want := by omega
    simp [mayB, h4, h5, h3]
  · have h1 : (want : Int) ≤ 7 := by assumption
    have h5 : (euid == 0) = true := by assumption
    have h3 : ¬ kd = 2 := by assumption
    have h7 : ¬ o = 0 := by assumption
    go_ret
    refine ⟨ret_bool ?_, ((Below.refl _ _).alloc (Nat.le_refl _) _).alloc (by simp) _⟩
    have h4 : ¬ 7 < want := by omega
    have h9 : ((o : Int) == 0) = (want % 2 == 0) := by
      rw [Bool.eq_iff_iff]; have := HO.out; simp only [beq_iff_eq]; omega
    simp only [mayB, h4, h5, h9, if_false, if_true]
  · have h1 : (want : Int) ≤ 7 := by assumption
    have h2 : (euid == 0) = false := by assumption
    refine (rclass_any _ _ _ _ _ _ _ gs _ _ _ _ _ B _ ((H.out.alloc hB _).alloc (by simp; omega) _) (by simp; omega) hn).mono ?_
    rintro e w1 ⟨rfl, hb1⟩
    have hlow : Hid (Below w.heap.size w w1) := (((Below.refl _ _).alloc (Nat.le_refl _) _).alloc (by simp) _).trans (hb1.mono (by simp; omega))
    have kb : Blk w1 w.heap.size 25 #[.int .u32 uid, .int .u32 euid, .int .u32 suid, .int .u32 gid, .slice A n c] := ((Blk.new _ _ _).alloc _).below hb1 (by simp; omega)
    have kb2 : Blk w1 (w.heap.size + 1) 28 #[.int .u8 kd, .int .u16 m, .int .u32 mu, .int .u32 mg, .int .i64 sz] := (blk_at _ _ (by simp)).below hb1 (by simp)
    have z1 : w.heap.size + 1 < w1.heap.size := by have := hb1.size; simp at this; omega
    clear hb1
    have H1 : Hid (Reads w1 B 1 A n (gs.map (Value.int .u32))) := H.out.keep fun p hp => hlow.out.cell (by omega)
    have kc := kb.cell
    have kc2 := kb2.cell
    have HK : Hid (Blk w1 w.heap.size 25 #[.int .u32 uid, .int .u32 euid, .int .u32 suid, .int .u32 gid, .slice A n c]) := kb
    have HK2 : Hid (Blk w1 (w.heap.size + 1) 28 #[.int .u8 kd, .int .u16 m, .int .u32 mu, .int .u32 mg, .int .i64 sz]) := kb2
    clear kb kb2
    rcases cls_3 euid gid gs mu mg with hcl | hcl | hcl
    all_goals
      go_wp2_with fail
      refine (rclass_any _ _ _ _ _ _ _ gs _ _ _ _ _ B _ H1.out (by omega) hn).mono ?_
      rintro e w2 ⟨rfl, hb2⟩
      have kq := (HK.out.below hb2 (by omega)).cell
      have kq2 := (HK2.out.below hb2 (by omega)).cell
      have hlow2 : Hid (Below w.heap.size w w2) := hlow.out.trans (hb2.mono (by omega))
      clear hb2
      go_wp2
      go_ret
      refine ⟨ret_bool ?_, hlow2.out⟩
    · rw [hcl, hbt.out.1, HX.out.1]; exact rmay_val h1 h2 x8
    · rw [hcl, hbt.out.2.1, HX.out.2]; exact rmay_val h1 h2 y8
    · rw [hcl, hbt.out.2.2]; exact rmay_val h1 h2 z8
end Go.Proofs.Ytnkmdbmepncbkaa
