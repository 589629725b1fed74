import Derived.Test.YtnkmdbmepncbkaaL2
namespace Go.Proofs.Ytnkmdbmepncbkaa
open Go.RowKit Go.Hos Go.Sort

set_option maxHeartbeats 2000000 in
theorem lends_big (uid euid suid gid uid2 euid2 suid2 gid2 : Int) (A A2 : Option Addr) (n c n2 c2 : Nat) (kd mu mg sz : Int) (m : Nat) (w : World) (hn : ¬ n ≤ 65536) :
    Calls Try.prog 3 #[.agg #[.int .u32 uid, .int .u32 euid, .int .u32 suid, .int .u32 gid, .slice A n c], .agg #[.int .u8 kd, .int .u16 m, .int .u32 mu, .int .u32 mg, .int .i64 sz], .agg #[.int .u32 uid2, .int .u32 euid2, .int .u32 suid2, .int .u32 gid2, .slice A2 n2 c2]] w
      fun e w' => e = .returned (.bool true) ∧ Below w.heap.size w w' := by
  have hq : decide ((65536 : Int) < n) = true := by simp; omega
  go_enter Try.func3, Try.ntmps3
  go_wp2_with fail
  have st := B3.start w #[.int .u32 uid, .int .u32 euid, .int .u32 suid, .int .u32 gid, .slice A n c] #[.int .u8 kd, .int .u16 m, .int .u32 mu, .int .u32 mg, .int .i64 sz] #[.int .u32 uid2, .int .u32 euid2, .int .u32 suid2, .int .u32 gid2, .slice A2 n2 c2]
  refine (large_any _ _ _ _ _ _ _ _).mono ?_
  rintro e w0 ⟨rfl, hb0⟩
  have HB0 : Hid (Below w.heap.size w w0) := (st.next hb0).low
  clear st hb0
  go_wp2_with fail
  refine (works_any _).mono ?_
  rintro e w2 ⟨rfl, hb2⟩
  have HB2 := Lib.hid hb2
  clear hb2
  go_wp2
  go_ret
  exact ⟨rfl, HB0.out.trans (HB2.out.mono HB0.out.size)⟩

set_option maxHeartbeats 2000000 in
theorem lends_big2 (uid euid suid gid uid2 euid2 suid2 gid2 : Int) (A A2 : Option Addr) (n c n2 c2 : Nat) (kd mu mg sz : Int) (m : Nat) (w : World) (hn : n ≤ 65536) (hn2 : ¬ n2 ≤ 65536) :
    Calls Try.prog 3 #[.agg #[.int .u32 uid, .int .u32 euid, .int .u32 suid, .int .u32 gid, .slice A n c], .agg #[.int .u8 kd, .int .u16 m, .int .u32 mu, .int .u32 mg, .int .i64 sz], .agg #[.int .u32 uid2, .int .u32 euid2, .int .u32 suid2, .int .u32 gid2, .slice A2 n2 c2]] w
      fun e w' => e = .returned (.bool true) ∧ Below w.heap.size w w' := by
  have hq : decide ((65536 : Int) < n) = false := by simp; omega
  have hq2 : decide ((65536 : Int) < n2) = true := by simp; omega
  go_enter Try.func3, Try.ntmps3
  go_wp2_with fail
  have st := B3.start w #[.int .u32 uid, .int .u32 euid, .int .u32 suid, .int .u32 gid, .slice A n c] #[.int .u8 kd, .int .u16 m, .int .u32 mu, .int .u32 mg, .int .i64 sz] #[.int .u32 uid2, .int .u32 euid2, .int .u32 suid2, .int .u32 gid2, .slice A2 n2 c2]
  refine (large_any _ _ _ _ _ _ _ _).mono ?_
  rintro e w0 ⟨rfl, hb0⟩
  have st0 : Hid (B3 w #[.int .u32 uid, .int .u32 euid, .int .u32 suid, .int .u32 gid, .slice A n c] #[.int .u8 kd, .int .u16 m, .int .u32 mu, .int .u32 mg, .int .i64 sz] #[.int .u32 uid2, .int .u32 euid2, .int .u32 suid2, .int .u32 gid2, .slice A2 n2 c2] w0) := st.next hb0
  have ko := st0.out.bo.cell
  clear st hb0
  go_wp2_with fail
  refine (large_any _ _ _ _ _ _ _ _).mono ?_
  rintro e w1 ⟨rfl, hb1⟩
  have HB1 : Hid (Below w.heap.size w w1) := (st0.out.next hb1).low
  clear hb1
  go_wp2_with fail
  refine (works_any _).mono ?_
  rintro e w2 ⟨rfl, hb2⟩
  have HB2 := Lib.hid hb2
  clear hb2
  go_wp2
  go_ret
  exact ⟨rfl, HB1.out.trans (HB2.out.mono HB1.out.size)⟩

theorem lends_all (uid euid suid gid uid2 euid2 suid2 gid2 : Int) (A A2 : Option Addr) (n c n2 c2 : Nat) (gs hs : List Int) (kd mu mg sz : Int) (m : Nat) (w : World)
    (h : Reads w w.heap.size 1 A n (gs.map (Value.int .u32))) (h2 : Reads w w.heap.size 1 A2 n2 (hs.map (Value.int .u32))) (hm1 : m ≤ 65535) :
    Calls Try.prog 3 #[.agg #[.int .u32 uid, .int .u32 euid, .int .u32 suid, .int .u32 gid, .slice A n c], .agg #[.int .u8 kd, .int .u16 m, .int .u32 mu, .int .u32 mg, .int .i64 sz], .agg #[.int .u32 uid2, .int .u32 euid2, .int .u32 suid2, .int .u32 gid2, .slice A2 n2 c2]] w
      fun e w' => e = .returned (.bool true) ∧ Below w.heap.size w w' := by
  by_cases hn : n ≤ 65536
  · by_cases hn2 : n2 ≤ 65536
    · exact lends_any uid euid suid gid uid2 euid2 suid2 gid2 A A2 n c n2 c2 gs hs kd mu mg sz m w h h2 hm1 hn hn2
    · exact lends_big2 uid euid suid gid uid2 euid2 suid2 gid2 A A2 n c n2 c2 kd mu mg sz m w hn hn2
  · exact lends_big uid euid suid gid uid2 euid2 suid2 gid2 A A2 n c n2 c2 kd mu mg sz m w hn
end Go.Proofs.Ytnkmdbmepncbkaa
