import Derived.Test.YtnkmdbmepncbkaaOpen
import Derived.Test.YtnkmdbmepncbkaaRows
import Derived.WalkKit
namespace Go.Proofs.Ytnkmdbmepncbkaa
open Go.ChangeShapes Go.WideShapes Go.ChangeAt Go.RowKit Go.Hos

theorem own : ownKnob Try.prog.godebug = none := by kernel_rfl
theorem laidOut : laidOutB Try.prog = true := by kernel_rfl
theorem cells25 : Try.prog.cellsOf 25 = 5 := by kernel_rfl
theorem cells28 : Try.prog.cellsOf 28 = 5 := by kernel_rfl

section
variable {H : Type} {enc : TypeId × Value → H} {W : World} {r : Reach} {b0 : Nat} {v : Value} {d : DataW H} {p : List MemPlace}
theorem open_creds (hv : Value.okWide Try.prog W r b0 25 v) (h : DataW.Trod enc Try.prog W 0 (fun _ => true) true 25 v d p) :
    ∃ (uid euid suid gid : Int) (A : Option Addr) (n c : Nat) (gs : List Int), v = .agg #[.int .u32 uid, .int .u32 euid, .int .u32 suid, .int .u32 gid, .slice A n c] ∧
      Reads W W.heap.size 1 A n (gs.map (Value.int .u32)) ∧ n ≤ maxLen ∧ 0 ≤ euid := by
  obtain ⟨v0, v1, v2, v3, v4, y0, y1, y2, y3, y4, m, rfl, _, _, h0, h1, h2, h3, h4⟩ := open_agg5 Try.underlying25 (by kernel_rfl) cells25 hv h
  obtain ⟨a, e0, _, w0⟩ := DataW.trod_int Try.underlying22 h0
  obtain ⟨b, e1, _, w1⟩ := DataW.trod_int Try.underlying22 h1
  obtain ⟨c, e2, _, w2⟩ := DataW.trod_int Try.underlying22 h2
  obtain ⟨d, e3, _, w3⟩ := DataW.trod_int Try.underlying22 h3
  obtain ⟨A, n, cc, zs, rfl, hr, hn, hw⟩ := reads_of_trod_ints Try.underlying23 Try.underlying22 (by kernel_rfl) h4
  simp at e0 e1 e2 e3
  subst e0 e1 e2 e3
  refine ⟨a, b, c, d, A, n, cc, zs, rfl, hr, hn, ?_⟩
  simp [Lit.wf, IntKind.min, IntKind.max, IntKind.signed, IntKind.bits] at w1
  omega
theorem open_meta (hv : Value.okWide Try.prog W r b0 28 v) (h : DataW.Trod enc Try.prog W 0 (fun _ => true) true 28 v d p) :
    ∃ (kd mu mg sz : Int) (m : Nat), v = .agg #[.int .u8 kd, .int .u16 m, .int .u32 mu, .int .u32 mg, .int .i64 sz] ∧ m ≤ 65535 := by
  obtain ⟨v0, v1, v2, v3, v4, y0, y1, y2, y3, y4, m, rfl, _, _, h0, h1, h2, h3, h4⟩ := open_agg5 Try.underlying28 (by kernel_rfl) cells28 hv h
  obtain ⟨a, e0, _, w0⟩ := DataW.trod_int Try.underlying5 h0
  obtain ⟨b, e1, _, w1⟩ := DataW.trod_int Try.underlying26 h1
  obtain ⟨c, e2, _, w2⟩ := DataW.trod_int Try.underlying22 h2
  obtain ⟨d, e3, _, w3⟩ := DataW.trod_int Try.underlying22 h3
  obtain ⟨f, e4, _, w4⟩ := DataW.trod_int Try.underlying3 h4
  simp at e0 e1 e2 e3 e4
  subst e0 e1 e2 e3 e4
  simp [Lit.wf, IntKind.min, IntKind.max, IntKind.signed, IntKind.bits] at w1
  obtain ⟨k, rfl⟩ := Int.eq_ofNat_of_zero_le w1.1
  exact ⟨a, c, d, f, k, rfl, by omega⟩
theorem open_u8 (hv : Value.okWide Try.prog W r b0 5 v) (h : DataW.Trod enc Try.prog W 0 (fun _ => true) true 5 v d p) : ∃ want : Nat, v = .int .u8 want ∧ want ≤ 255 := by
  obtain ⟨x, rfl, _, _, w1⟩ := open_int Try.underlying5 hv h
  simp [Lit.wf, IntKind.min, IntKind.max, IntKind.signed, IntKind.bits] at w1
  obtain ⟨k, rfl⟩ := Int.eq_ofNat_of_zero_le w1.1
  exact ⟨k, rfl, by omega⟩
end
end Go.Proofs.Ytnkmdbmepncbkaa
