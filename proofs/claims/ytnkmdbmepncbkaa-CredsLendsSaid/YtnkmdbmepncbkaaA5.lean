import Derived.Test.YtnkmdbmepncbkaaR1
namespace Go.Proofs.Ytnkmdbmepncbkaa
open Go.RowKit Go.Hos Go.Sort

/-- a row with one more behind reads as the row -/
theorem reads_front {w : World} {B n : Nat} {A : Option Addr} {gs : List Int} {u : Value} (h : Reads w B 1 A (n + 1) (gs.map (Value.int .u32) ++ [u])) : Reads w B 1 A n (gs.map (Value.int .u32)) := by
  have hl := h.1
  simp at hl
  refine ⟨by simp; omega, fun hp => ?_⟩
  obtain ⟨ad, e, hb, hc⟩ := h.2 (by omega)
  refine ⟨ad, e, hb, fun j u hu => hc j u ?_⟩
  rw [List.getElem?_append_left (by have := (List.getElem?_eq_some_iff.1 hu).1; exact this)]; exact hu

set_option maxHeartbeats 4000000 in
theorem mays_any (uid euid suid gid : Int) (A : Option Addr) (n c : Nat) (gs : List Int) (kd mu mg sz : Int) (m want : Nat) (w : World)
    (h : Reads w w.heap.size 1 A n (gs.map (Value.int .u32))) (hm1 : m ≤ 65535) (hw1 : want ≤ 255) (hn : n ≤ 65536) :
    Calls Try.prog 7 #[.agg #[.int .u32 uid, .int .u32 euid, .int .u32 suid, .int .u32 gid, .slice A n c], .agg #[.int .u8 kd, .int .u16 m, .int .u32 mu, .int .u32 mg, .int .i64 sz], .int .u8 want] w
      fun e w' => e = .returned (.bool true) ∧ Below w.heap.size w w' := by
  have H := Lib.hid h
  clear h
  have hq : decide ((65536 : Int) < n) = false := by simp; omega
  go_enter Try.func7, Try.ntmps7
  go_wp2_with fail
  have st := Bx.start w uid euid suid gid A n c kd mu mg sz m
  refine (large_any _ _ _ _ _ _ _ _).mono ?_
  rintro e w0 ⟨rfl, hb0⟩
  have st0 : Hid (Bx w uid euid suid gid A n c kd mu mg sz m w0) := st.next hb0
  have kc := st0.out.bc.cell
  have kc2 := st0.out.bm.cell
  clear st hb0
  go_wp2_with fail
  refine (roomy_any _ _ _ _ _ _ _ gs w.heap.size _ (H.out.below st0.out.low) st0.out.low.size hn).mono ?_
  rintro e w1 ⟨g, cap, rfl, hcap, hown, hb1⟩
  have st1 : Hid (Bx w uid euid suid gid A n c kd mu mg sz m w1) := st0.out.next hb1
  have O1 : Hid (Reads w1 w1.heap.size 1 (some ⟨g, 0, none⟩) (n + 1) (gs.map (Value.int .u32) ++ [.int .u32 77])) := Reads.of_own hown
  have HC := Lib.hid hcap
  clear kc kc2 hb1 hown hcap
  go_wp2
  obtain ⟨W, hW⟩ : ∃ W, W = w1.alloc (Obj.cells #[.int .u32 uid, .int .u32 euid, .int .u32 suid, .int .u32 gid, .slice (some ⟨g, 0, none⟩) n cap] 25) := ⟨_, rfl⟩
  rw [← hW]
  have d1 : Blk W w.heap.size 25 #[.int .u32 uid, .int .u32 euid, .int .u32 suid, .int .u32 gid, .slice A n c] := by subst hW; exact st1.out.bc.alloc _
  have d2 : Blk W (w.heap.size + 1) 28 #[.int .u8 kd, .int .u16 m, .int .u32 mu, .int .u32 mg, .int .i64 sz] := by subst hW; exact st1.out.bm.alloc _
  have d3 : Blk W w1.heap.size 25 #[.int .u32 uid, .int .u32 euid, .int .u32 suid, .int .u32 gid, .slice (some ⟨g, 0, none⟩) n cap] := by subst hW; exact Blk.new _ _ _
  have dl : Hid (Below w.heap.size w W) := by subst hW; exact st1.out.low.alloc st1.out.low.size _
  have RI : Hid (Reads W w1.heap.size 1 (some ⟨g, 0, none⟩) (n + 1) (gs.map (Value.int .u32) ++ [.int .u32 77])) := by subst hW; exact O1.out.alloc (Nat.le_refl _) _
  have hs1 : Hid (w1.heap.size ≤ W.heap.size) := by subst hW; show _ ≤ _; simp
  clear hW
  have RC : Hid (Reads W w.heap.size 1 A n (gs.map (Value.int .u32))) := H.out.below dl.out
  have c1 := fun i (d : Nat) (os : Array Obj) => ((below_regrown W d os).cell (p := ⟨w.heap.size, i, none⟩) d1.lt).trans (d1.cell i)
  have c2 := fun i (d : Nat) (os : Array Obj) => ((below_regrown W d os).cell (p := ⟨w.heap.size + 1, i, none⟩) d2.lt).trans (d2.cell i)
  have c3 := fun i (d : Nat) (os : Array Obj) => ((below_regrown W d os).cell (p := ⟨w1.heap.size, i, none⟩) d3.lt).trans (d3.cell i)
  clear d1 d2 d3
  obtain ⟨x, hx⟩ : ∃ x, x = chk n := ⟨_, rfl⟩
  obtain ⟨k, hk⟩ : ∃ k, k = cls euid gid gs mu mg := ⟨_, rfl⟩
  obtain ⟨r, hr⟩ : ∃ r, r = mayB (euid == 0) (kd == 2) (bts (cls euid gid gs mu mg) m) (anyX m) want := ⟨_, rfl⟩
  have HX := Lib.hid hx
  have HK := Lib.hid hk
  have HR := Lib.hid hr
  clear hx hk hr
  have RCr : Hid (∀ d os, Reads (grow (redrawn W d) os) w.heap.size 1 A n (gs.map (Value.int .u32))) := fun d os => RC.out.below ((below_regrown W d os).mono dl.out.size)
  have RIr : Hid (∀ d os, Reads (grow (redrawn W d) os) w1.heap.size 1 (some ⟨g, 0, none⟩) (n + 1) (gs.map (Value.int .u32) ++ [.int .u32 77])) := fun d os => RI.out.below ((below_regrown W d os).mono hs1.out)
  have sB : Hid (∀ d os, w.heap.size ≤ (grow (redrawn W d) os).heap.size ∧ w1.heap.size ≤ (grow (redrawn W d) os).heap.size) := fun d os => by
    have e1 := (below_regrown W d os).size
    have e2 := dl.out.size
    have e3 := hs1.out
    exact ⟨Nat.le_trans e2 e1, Nat.le_trans e3 e1⟩
  have M1 : Hid (∀ d os, Calls Try.prog 19 #[.agg #[.int .u32 uid, .int .u32 euid, .int .u32 suid, .int .u32 gid, .slice (some ⟨g, 0, none⟩) n cap]] (grow (redrawn W d) os) fun e w' => e = .returned (.int .i64 x) ∧ ∃ p : Regrown, w' = grow (redrawn W p.d) p.os) := fun d os => by
    rw [HX.out]; exact Calls.regrown_of (check_any _ _ _ _ _ _ _ _)
  have M2 : Hid (∀ d os, Calls Try.prog 20 #[.agg #[.int .u32 uid, .int .u32 euid, .int .u32 suid, .int .u32 gid, .slice A n c]] (grow (redrawn W d) os) fun e w' => e = .returned (.int .i64 x) ∧ ∃ p : Regrown, w' = grow (redrawn W p.d) p.os) := fun d os => by
    rw [HX.out]; exact Calls.regrown_of (rcheck_any _ _ _ _ _ _ _ _)
  have M3 : Hid (∀ d os, Calls Try.prog 18 #[.agg #[.int .u32 uid, .int .u32 euid, .int .u32 suid, .int .u32 gid, .slice (some ⟨g, 0, none⟩) n cap], .agg #[.int .u8 kd, .int .u16 m, .int .u32 mu, .int .u32 mg, .int .i64 sz]] (grow (redrawn W d) os) fun e w' => e = .returned (.int .i64 k) ∧ ∃ p : Regrown, w' = grow (redrawn W p.d) p.os) := fun d os => by
    rw [HK.out]; exact Calls.regrown_of (class_any _ _ _ _ _ _ _ gs _ _ _ _ _ w1.heap.size _ (reads_front (RIr.out d os)) (sB.out d os).2 (by omega))
  have M4 : Hid (∀ d os, Calls Try.prog 21 #[.agg #[.int .u32 uid, .int .u32 euid, .int .u32 suid, .int .u32 gid, .slice A n c], .agg #[.int .u8 kd, .int .u16 m, .int .u32 mu, .int .u32 mg, .int .i64 sz]] (grow (redrawn W d) os) fun e w' => e = .returned (.int .i64 k) ∧ ∃ p : Regrown, w' = grow (redrawn W p.d) p.os) := fun d os => by
    rw [HK.out]; exact Calls.regrown_of (rclass_any _ _ _ _ _ _ _ gs _ _ _ _ _ w.heap.size _ (RCr.out d os) (sB.out d os).1 (by omega))
  have M5 : Hid (∀ d os, Calls Try.prog 17 #[.agg #[.int .u32 uid, .int .u32 euid, .int .u32 suid, .int .u32 gid, .slice (some ⟨g, 0, none⟩) n cap], .agg #[.int .u8 kd, .int .u16 m, .int .u32 mu, .int .u32 mg, .int .i64 sz], .int .u8 want] (grow (redrawn W d) os) fun e w' => e = .returned (.bool r) ∧ ∃ p : Regrown, w' = grow (redrawn W p.d) p.os) := fun d os => by
    rw [HR.out]; exact Calls.regrown_of (may_any _ _ _ _ _ _ _ gs _ _ _ _ _ _ w1.heap.size _ (reads_front (RIr.out d os)) (sB.out d os).2 (by omega) hw1 hm1)
  have M6 : Hid (∀ d os, Calls Try.prog 22 #[.agg #[.int .u32 uid, .int .u32 euid, .int .u32 suid, .int .u32 gid, .slice A n c], .agg #[.int .u8 kd, .int .u16 m, .int .u32 mu, .int .u32 mg, .int .i64 sz], .int .u8 want] (grow (redrawn W d) os) fun e w' => e = .returned (.bool r) ∧ ∃ p : Regrown, w' = grow (redrawn W p.d) p.os) := fun d os => by
    rw [HR.out]; exact Calls.regrown_of (rmay_any _ _ _ _ _ _ _ gs _ _ _ _ _ _ w.heap.size _ (RCr.out d os) (sB.out d os).1 (by omega) hw1 hm1)
  have M7 : Hid (∀ d os, Calls Try.prog 16 #[.agg #[.int .u32 uid, .int .u32 euid, .int .u32 suid, .int .u32 gid, .slice (some ⟨g, 0, none⟩) n cap], .agg #[.int .u32 uid, .int .u32 euid, .int .u32 suid, .int .u32 gid, .slice A n c]] (grow (redrawn W d) os) fun e w' => e = .returned (.bool true) ∧ ∃ p : Regrown, w' = grow (redrawn W p.d) p.os) := fun d os =>
    Calls.regrown_of (kept_any _ _ _ _ _ _ _ _ _ _ _ _ _ _ gs gs w1.heap.size w.heap.size _ (RIr.out d os) HC.out (RCr.out d os) (sB.out d os).2 (sB.out d os).1 hn hn (by simp [sameB]))
  have e1 : (x == x) = true := by simp
  have e2 : (k == k) = true := by simp
  have e3 : (r == r) = true := by simp
  refine wp_region_quiet_below (by kernel_rfl) (by kernel_rfl) ?_
  repeat (quiet_step (first
    | (go_at_call 19; exact M1.out _ _) | (go_at_call 20; exact M2.out _ _) | (go_at_call 18; exact M3.out _ _) | (go_at_call 21; exact M4.out _ _)
    | (go_at_call 17; exact M5.out _ _) | (go_at_call 22; exact M6.out _ _) | (go_at_call 16; exact M7.out _ _) | (go_at_call 9; exact Calls.regrown_of (works_any _))))
  refine wpQuiet_nil ?_
  intro _ hw'
  obtain ⟨⟨dq, osq⟩, hw''⟩ := hw'
  subst hw''
  go_wp2
  go_ret
  exact ⟨rfl, dl.out.trans ((below_regrown _ _ _).mono dl.out.size)⟩

set_option maxHeartbeats 2000000 in
theorem mays_big (uid euid suid gid : Int) (A : Option Addr) (n c : Nat) (kd mu mg sz : Int) (m want : Nat) (w : World) (hn : ¬ n ≤ 65536) :
    Calls Try.prog 7 #[.agg #[.int .u32 uid, .int .u32 euid, .int .u32 suid, .int .u32 gid, .slice A n c], .agg #[.int .u8 kd, .int .u16 m, .int .u32 mu, .int .u32 mg, .int .i64 sz], .int .u8 want] w
      fun e w' => e = .returned (.bool true) ∧ Below w.heap.size w w' := by
  have hq : decide ((65536 : Int) < n) = true := by simp; omega
  go_enter Try.func7, Try.ntmps7
  go_wp2_with fail
  refine (large_any _ _ _ _ _ _ _ _).mono ?_
  rintro e w1 ⟨rfl, hb1⟩
  have HB1 := Lib.hid hb1
  clear hb1
  go_wp2_with fail
  refine (works_any _).mono ?_
  rintro e w2 ⟨rfl, hb2⟩
  have HB2 := Lib.hid hb2
  clear hb2
  go_wp2
  go_ret
  refine ⟨rfl, ?_⟩
  exact ((((Below.refl _ _).alloc (Nat.le_refl _) _).alloc (by simp) _).trans (HB1.out.mono (by simp; omega))).trans (HB2.out.mono (by have := HB1.out.size; simp at this; omega))

theorem mays_all (uid euid suid gid : Int) (A : Option Addr) (n c : Nat) (gs : List Int) (kd mu mg sz : Int) (m want : Nat) (w : World)
    (h : Reads w w.heap.size 1 A n (gs.map (Value.int .u32))) (hm1 : m ≤ 65535) (hw1 : want ≤ 255) :
    Calls Try.prog 7 #[.agg #[.int .u32 uid, .int .u32 euid, .int .u32 suid, .int .u32 gid, .slice A n c], .agg #[.int .u8 kd, .int .u16 m, .int .u32 mu, .int .u32 mg, .int .i64 sz], .int .u8 want] w
      fun e w' => e = .returned (.bool true) ∧ Below w.heap.size w w' := by
  by_cases hn : n ≤ 65536
  · exact mays_any uid euid suid gid A n c gs kd mu mg sz m want w h hm1 hw1 hn
  · exact mays_big uid euid suid gid A n c kd mu mg sz m want w hn
end Go.Proofs.Ytnkmdbmepncbkaa
