import Derived.Test.YtnkmdbmepncbkaaA3
namespace Go.Proofs.Ytnkmdbmepncbkaa
open Go.RowKit Go.Hos Go.Sort

set_option maxHeartbeats 2000000 in
theorem classes_big (uid euid suid gid : Int) (A : Option Addr) (n c : Nat) (kd mu mg sz : Int) (m want : Nat) (w : World) (hn : ¬ n ≤ 65536) :
    Calls Try.prog 5 #[.agg #[.int .u32 uid, .int .u32 euid, .int .u32 suid, .int .u32 gid, .slice A n c], .agg #[.int .u8 kd, .int .u16 m, .int .u32 mu, .int .u32 mg, .int .i64 sz], .int .u8 want] w
      fun e w' => e = .returned (.bool true) ∧ Below w.heap.size w w' := by
  have hq : decide ((65536 : Int) < n) = true := by simp; omega
  go_enter Try.func5, Try.ntmps5
  go_wp2_with fail
  refine (large_any _ _ _ _ _ _ _ _).mono ?_
  rintro e w1 ⟨rfl, hb1⟩
  have HB1 := Lib.hid hb1
  clear hb1
  go_wp2_with fail
  refine (works_any _).mono ?_
  rintro e w2 ⟨rfl, hb2⟩
  have HB2 := Lib.hid hb2
  clear hb2
  go_wp2
  go_ret
  refine ⟨rfl, ?_⟩
  exact ((((Below.refl _ _).alloc (Nat.le_refl _) _).alloc (by simp) _).trans (HB1.out.mono (by simp; omega))).trans (HB2.out.mono (by have := HB1.out.size; simp at this; omega))

theorem classes_all (uid euid suid gid : Int) (A : Option Addr) (n c : Nat) (gs : List Int) (kd mu mg sz : Int) (m want : Nat) (w : World)
    (h : Reads w w.heap.size 1 A n (gs.map (Value.int .u32))) (hm1 : m ≤ 65535) (hw1 : want ≤ 255) :
    Calls Try.prog 5 #[.agg #[.int .u32 uid, .int .u32 euid, .int .u32 suid, .int .u32 gid, .slice A n c], .agg #[.int .u8 kd, .int .u16 m, .int .u32 mu, .int .u32 mg, .int .i64 sz], .int .u8 want] w
      fun e w' => e = .returned (.bool true) ∧ Below w.heap.size w w' := by
  by_cases hn : n ≤ 65536
  · exact classes_any uid euid suid gid A n c gs kd mu mg sz m want w h hm1 hw1 hn
  · exact classes_big uid euid suid gid A n c kd mu mg sz m want w hn
end Go.Proofs.Ytnkmdbmepncbkaa
