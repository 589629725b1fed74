import Derived.Test.YtnkmdbmepncbkaaW9
import Derived.Test.YtnkmdbmepncbkaaP2
namespace Go.Proofs.Ytnkmdbmepncbkaa
open Go.RowKit Go.Hos Go.Sort

/-- the credentials and the node lie in boxes of the call's own; below them all is as it was -/
structure Bx (w : World) (uid euid suid gid : Int) (A : Option Addr) (n c : Nat) (kd mu mg sz : Int) (m : Nat) (W : World) : Prop where
  bc : Blk W w.heap.size 25 #[.int .u32 uid, .int .u32 euid, .int .u32 suid, .int .u32 gid, .slice A n c]
  bm : Blk W (w.heap.size + 1) 28 #[.int .u8 kd, .int .u16 m, .int .u32 mu, .int .u32 mg, .int .i64 sz]
  low : Below w.heap.size w W
section
variable {w W W' : World} {uid euid suid gid : Int} {A : Option Addr} {n c : Nat} {kd mu mg sz : Int} {m : Nat}
theorem Bx.next (h : Bx w uid euid suid gid A n c kd mu mg sz m W) (hb : Below W.heap.size W W') : Bx w uid euid suid gid A n c kd mu mg sz m W' :=
  ⟨h.bc.below hb h.bc.lt, h.bm.below hb h.bm.lt, h.low.trans (hb.mono h.low.size)⟩
theorem Bx.drewN (h : Bx w uid euid suid gid A n c kd mu mg sz m W) (k : Nat) : Bx w uid euid suid gid A n c kd mu mg sz m (W.drewN k) :=
  ⟨h.bc, h.bm, below_drewN h.low k⟩
theorem Bx.start (w : World) (uid euid suid gid : Int) (A : Option Addr) (n c : Nat) (kd mu mg sz : Int) (m : Nat) :
    Bx w uid euid suid gid A n c kd mu mg sz m ((w.alloc (.cells #[.int .u32 uid, .int .u32 euid, .int .u32 suid, .int .u32 gid, .slice A n c] 25)).alloc (.cells #[.int .u8 kd, .int .u16 m, .int .u32 mu, .int .u32 mg, .int .i64 sz] 28)) :=
  ⟨(Blk.new _ _ _).alloc _, blk_at _ _ (by simp), ((Below.refl _ _).alloc (Nat.le_refl _) _).alloc (by simp) _⟩
end

set_option maxHeartbeats 2000000 in
theorem bits_any (uid euid suid gid : Int) (A : Option Addr) (n c : Nat) (gs : List Int) (kd mu mg sz : Int) (m want : Nat) (w : World)
    (h : Reads w w.heap.size 1 A n (gs.map (Value.int .u32))) (hm1 : m ≤ 65535) (hw1 : want ≤ 255) :
    Calls Try.prog 4 #[.agg #[.int .u32 uid, .int .u32 euid, .int .u32 suid, .int .u32 gid, .slice A n c], .agg #[.int .u8 kd, .int .u16 m, .int .u32 mu, .int .u32 mg, .int .i64 sz], .int .u8 want] w
      fun e w' => e = .returned (.bool true) ∧ Below w.heap.size w w' := by
  have H := Lib.hid h
  clear h
  by_cases hn : n ≤ 65536
  · have hq : decide ((65536 : Int) < n) = false := by simp; omega
    go_enter Try.func4, Try.ntmps4
    go_wp2_with fail
    have st := Bx.start w uid euid suid gid A n c kd mu mg sz m
    refine (large_any _ _ _ _ _ _ _ _).mono ?_
    rintro e w0 ⟨rfl, hb0⟩
    have st0 : Hid (Bx w uid euid suid gid A n c kd mu mg sz m w0) := st.next hb0
    obtain ⟨R, hR⟩ : ∃ R : Nat → Bool, R = fun q => mayB (euid == 0) (kd == 2) (bts (cls euid gid gs mu mg) m) (anyX m) q := ⟨_, rfl⟩
    obtain ⟨L, hL⟩ : ∃ L : Nat → Bool, L = fun k => allB (euid == 0) (kd == 2) (bts (cls euid gid gs mu mg) m) (anyX m) want k := ⟨_, rfl⟩
    have LS : Hid (∀ k, L (k + 1) = (L k && (want / 2 ^ k % 2 == 0 || R (2 ^ k)))) := by
      intro k; rw [hL, hR]; exact allB_succ _ _ _ _ _ _
    have LN : Hid (∀ k, (want / 2 ^ k % 2 == 1) = false → L (k + 1) = L k) := by
      intro k hk
      have : want / 2 ^ k % 2 = 0 := by simp at hk; omega
      rw [LS.out, this]; simp
    have LY : Hid (∀ k, (want / 2 ^ k % 2 == 1) = true → L (k + 1) = (L k && R (2 ^ k))) := by
      intro k hk
      have : want / 2 ^ k % 2 = 1 := by simpa using hk
      rw [LS.out, this]; simp
    have L0 : Hid (L 0 = true) := by show _ = _; rw [hL]; rfl
    have LR : Hid (R want = (decide (want < 8) && L 3)) := by
      show _ = _
      rw [hL, hR]; exact bits_law _ _ _ _ _ (bts_lt _ _)
    have MAY : ∀ (q : Nat) (W : World), q ≤ 255 → Bx w uid euid suid gid A n c kd mu mg sz m W →
        Calls Try.prog 17 #[.agg #[.int .u32 uid, .int .u32 euid, .int .u32 suid, .int .u32 gid, .slice A n c], .agg #[.int .u8 kd, .int .u16 m, .int .u32 mu, .int .u32 mg, .int .i64 sz], .int .u8 q] W
          fun e w' => e = .returned (.bool (R q)) ∧ Bx w uid euid suid gid A n c kd mu mg sz m w' := by
      intro q W hq hs
      refine (may_any uid euid suid gid A n c gs kd mu mg sz m q w.heap.size W (H.out.below hs.low) hs.low.size (by omega) hq hm1).mono ?_
      rintro e w' ⟨rfl, hb⟩
      exact ⟨by rw [hR], hs.next hb⟩
    have HM := Lib.hid MAY
    clear MAY hR hL hb0 st
    go_wp2_with fail
    go_loopw [7, 8] (fun a i wr => ∃ k : Nat, k ≤ 3 ∧ i = .int .i64 k ∧ ∃ b : Bool, a = .bool b ∧ Hid (b = L k) ∧ Hid (Bx w uid euid suid gid A n c kd mu mg sz m wr)) (fun _ i _ => 3 - (intOf i).toNat)
    case atStart => exact ⟨0, by omega, rfl, true, rfl, L0.out.symm, st0⟩
    case round =>
      obtain ⟨k, hk, rfl, b, rfl, hl, hs⟩ := hrel
      have kc := hs.out.bc.cell
      have kc2 := hs.out.bm.cell
      have hcase : k = 0 ∨ k = 1 ∨ k = 2 ∨ k = 3 := by omega
      rcases hcase with rfl | rfl | rfl | rfl
      · have hb : (bits .and .u8 (want : Int) 1 != 0) = (want / 2 ^ 0 % 2 == 1) := u8_bit want 0 (by omega) (by omega)
        obtain ⟨t, ht⟩ : ∃ t, t = (want / 2 ^ 0 % 2 == 1) := ⟨_, rfl⟩
        rw [← ht] at hb
        have HT := Lib.hid ht
        clear ht
        cases t
        · go_wp2_with fail
          go_roundw
          case rel => exact ⟨1, by omega, by go_num, _, rfl, by rw [LN.out 0 HT.out.symm]; exact hl.out, hs⟩
          case measure => simp [intOf]
        · cases b
          · go_wp2_with fail
            go_roundw
            case rel => exact ⟨1, by omega, by go_num, _, rfl, by show _ = _; rw [LY.out 0 HT.out.symm, ← hl.out]; rfl, hs⟩
            case measure => simp [intOf]
          · go_wp2_with fail
            refine (HM.out 1 wr (by omega) hs.out).mono ?_
            rintro e w2 ⟨rfl, hs2⟩
            have HS2 := Lib.hid hs2
            clear hs2 kc kc2
            go_wp2_with fail
            go_roundw
            case rel => exact ⟨1, by omega, by go_num, _, rfl, by show _ = _; rw [LY.out 0 HT.out.symm, ← hl.out]; rfl, HS2⟩
            case measure => simp [intOf]
      · have hb : (bits .and .u8 (want : Int) 2 != 0) = (want / 2 ^ 1 % 2 == 1) := u8_bit want 1 (by omega) (by omega)
        obtain ⟨t, ht⟩ : ∃ t, t = (want / 2 ^ 1 % 2 == 1) := ⟨_, rfl⟩
        rw [← ht] at hb
        have HT := Lib.hid ht
        clear ht
        cases t
        · go_wp2_with fail
          go_roundw
          case rel => exact ⟨2, by omega, by go_num, _, rfl, by rw [LN.out 1 HT.out.symm]; exact hl.out, hs⟩
          case measure => simp [intOf]
        · cases b
          · go_wp2_with fail
            go_roundw
            case rel => exact ⟨2, by omega, by go_num, _, rfl, by show _ = _; rw [LY.out 1 HT.out.symm, ← hl.out]; rfl, hs⟩
            case measure => simp [intOf]
          · go_wp2_with fail
            refine (HM.out 2 wr (by omega) hs.out).mono ?_
            rintro e w2 ⟨rfl, hs2⟩
            have HS2 := Lib.hid hs2
            clear hs2 kc kc2
            go_wp2_with fail
            go_roundw
            case rel => exact ⟨2, by omega, by go_num, _, rfl, by show _ = _; rw [LY.out 1 HT.out.symm, ← hl.out]; rfl, HS2⟩
            case measure => simp [intOf]
      · have hb : (bits .and .u8 (want : Int) 4 != 0) = (want / 2 ^ 2 % 2 == 1) := u8_bit want 2 (by omega) (by omega)
        obtain ⟨t, ht⟩ : ∃ t, t = (want / 2 ^ 2 % 2 == 1) := ⟨_, rfl⟩
        rw [← ht] at hb
        have HT := Lib.hid ht
        clear ht
        cases t
        · go_wp2_with fail
          go_roundw
          case rel => exact ⟨3, by omega, by go_num, _, rfl, by rw [LN.out 2 HT.out.symm]; exact hl.out, hs⟩
          case measure => simp [intOf]
        · cases b
          · go_wp2_with fail
            go_roundw
            case rel => exact ⟨3, by omega, by go_num, _, rfl, by show _ = _; rw [LY.out 2 HT.out.symm, ← hl.out]; rfl, hs⟩
            case measure => simp [intOf]
          · go_wp2_with fail
            refine (HM.out 4 wr (by omega) hs.out).mono ?_
            rintro e w2 ⟨rfl, hs2⟩
            have HS2 := Lib.hid hs2
            clear hs2 kc kc2
            go_wp2_with fail
            go_roundw
            case rel => exact ⟨3, by omega, by go_num, _, rfl, by show _ = _; rw [LY.out 2 HT.out.symm, ← hl.out]; rfl, HS2⟩
            case measure => simp [intOf]
      · go_wp2_with fail
        refine (HM.out want wr hw1 hs.out).mono ?_
        rintro e w2 ⟨rfl, hs2⟩
        have e1 : R want = (decide (want < 8) && b) := by rw [LR.out, hl.out]
        rw [e1]
        have HS2 := Lib.hid hs2
        clear hs2 kc kc2 e1
        by_cases h8 : (want : Int) < 8
        · have h9 : decide (want < 8) = true := decide_eq_true (by omega)
          rw [h9]
          cases b
          all_goals
            go_wp2_with fail
            refine (works_any _).mono ?_
            rintro e w3 ⟨rfl, hb3⟩
            have HB3 := Lib.hid hb3
            clear hb3
            go_wp2
            go_ret
            exact ⟨rfl, HS2.out.low.trans (HB3.out.mono HS2.out.low.size)⟩
        · have h9 : decide (want < 8) = false := decide_eq_false (by omega)
          rw [h9]
          have h10 : decide ((want : Int) < 8) = false := decide_eq_false h8
          go_wp2_with fail
          refine (works_any _).mono ?_
          rintro e w3 ⟨rfl, hb3⟩
          have HB3 := Lib.hid hb3
          clear hb3
          go_wp2
          go_ret
          exact ⟨rfl, HS2.out.low.trans (HB3.out.mono HS2.out.low.size)⟩
  · have hq : decide ((65536 : Int) < n) = true := by simp; omega
    go_enter Try.func4, Try.ntmps4
    go_wp2_with fail
    refine (large_any _ _ _ _ _ _ _ _).mono ?_
    rintro e w1 ⟨rfl, hb1⟩
    have HB1 := Lib.hid hb1
    clear hb1
    go_wp2_with fail
    refine (works_any _).mono ?_
    rintro e w2 ⟨rfl, hb2⟩
    have HB2 := Lib.hid hb2
    clear hb2
    go_wp2
    go_ret
    refine ⟨rfl, ?_⟩
    exact ((((Below.refl _ _).alloc (Nat.le_refl _) _).alloc (by simp) _).trans (HB1.out.mono (by simp; omega))).trans (HB2.out.mono (by have := HB1.out.size; simp at this; omega))
end Go.Proofs.Ytnkmdbmepncbkaa
