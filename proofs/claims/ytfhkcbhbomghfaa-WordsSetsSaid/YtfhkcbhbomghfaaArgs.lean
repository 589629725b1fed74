import Derived.Test.YtfhkcbhbomghfaaOpen
import Derived.Test.YtfhkcbhbomghfaaRows
import Derived.Test.YtfhkcbhbomghfaaWa
import Derived.WalkKit
namespace Go.Proofs.Ytfhkcbhbomghfaa
open Go.ChangeShapes Go.WideShapes Go.ChangeAt Go.RowKit Go.Hos

theorem own : ownKnob Try.prog.godebug = none := by kernel_rfl
theorem laidOut : laidOutB Try.prog = true := by kernel_rfl
theorem cells32 : Try.prog.cellsOf 32 = 4 := by kernel_rfl

theorem ints_nats : ∀ zs : List Int, (∀ z ∈ zs, (Lit.int .u8 z).wf = true) → ∃ bs : List Nat, zs.map (Value.int .u8) = B8 bs ∧ (∀ b ∈ bs, b < 256)
  | [], _ => ⟨[], rfl, by simp⟩
  | z :: zs, h => by
    obtain ⟨bs, hb, hl⟩ := ints_nats zs fun x hx => h x (List.mem_cons_of_mem _ hx)
    have hz := h z List.mem_cons_self
    simp [Lit.wf, IntKind.min, IntKind.max, IntKind.signed, IntKind.bits] at hz
    obtain ⟨k, rfl⟩ := Int.eq_ofNat_of_zero_le hz.1
    refine ⟨k :: bs, by simp only [List.map_cons, hb, B8], ?_⟩
    intro b hb'
    rcases List.mem_cons.1 hb' with rfl | h'
    · omega
    · exact hl b h'

section
variable {H : Type} {enc : TypeId × Value → H} {W : World} {r : Reach} {b0 : Nat} {v : Value} {d : DataW H} {p : List MemPlace}
theorem open_u64 (hv : Value.okWide Try.prog W r b0 23 v) (h : DataW.Trod enc Try.prog W 0 (fun _ => true) true 23 v d p) : ∃ n : Nat, v = .int .u64 n ∧ n < M := by
  obtain ⟨x, rfl, _, _, w1⟩ := open_int Try.underlying23 hv h
  simp [Lit.wf, IntKind.min, IntKind.max, IntKind.signed, IntKind.bits] at w1
  obtain ⟨k, rfl⟩ := Int.eq_ofNat_of_zero_le w1.1
  exact ⟨k, rfl, by unfold M; omega⟩
theorem open_i64 (hv : Value.okWide Try.prog W r b0 3 v) (h : DataW.Trod enc Try.prog W 0 (fun _ => true) true 3 v d p) : ∃ n : Int, v = .int .i64 n ∧ -9223372036854775808 ≤ n ∧ n ≤ 9223372036854775807 := by
  obtain ⟨x, rfl, _, _, w1⟩ := open_int Try.underlying3 hv h
  simp [Lit.wf, IntKind.min, IntKind.max, IntKind.signed, IntKind.bits] at w1
  exact ⟨x, rfl, by omega, by omega⟩
theorem open_bytes (hv : Value.okWide Try.prog W r b0 22 v) (h : DataW.Trod enc Try.prog W 0 (fun _ => true) true 22 v d p) :
    ∃ (A : Option Addr) (n c : Nat) (bs : List Nat), v = .slice A n c ∧ Reads W W.heap.size 1 A n (B8 bs) ∧ n ≤ maxLen ∧ (∀ b ∈ bs, b < 256) := by
  obtain ⟨m, hm⟩ := h
  obtain ⟨A0, n0, c0, rfl⟩ := okWide_slice Try.underlying22 hv
  obtain ⟨A, n, c, zs, hs, hr, hn, hw⟩ := reads_of_trod_ints Try.underlying22 Try.underlying5 (by kernel_rfl) (v := .slice A0 n0 c0) (by simpa [Value.cells] using hm)
  obtain ⟨rfl, rfl, rfl⟩ : A0 = A ∧ n0 = n ∧ c0 = c := by simpa using hs
  obtain ⟨bs, hb, hl⟩ := ints_nats zs hw
  exact ⟨A0, n0, c0, bs, rfl, hb ▸ hr, hn, hl⟩
theorem open_laid (hv : Value.okWide Try.prog W r b0 32 v) (h : DataW.Trod enc Try.prog W 0 (fun _ => true) true 32 v d p) :
    ∃ (A : Option Addr) (n c : Nat) (bs : List Nat) (at_ x : Nat) (sz : Int), v = .agg #[.slice A n c, .int .u64 at_, .int .i64 sz, .int .u64 x] ∧
      Reads W W.heap.size 1 A n (B8 bs) ∧ n ≤ maxLen ∧ (∀ b ∈ bs, b < 256) ∧ at_ < M ∧ x < M ∧ -9223372036854775808 ≤ sz ∧ sz ≤ 9223372036854775807 := by
  obtain ⟨v0, v1, v2, v3, y0, y1, y2, y3, m, rfl, _, _, h0, h1, h2, h3⟩ := Joins.open_agg4 Try.underlying32 (by kernel_rfl) cells32 hv h
  obtain ⟨a, e1, _, w1⟩ := DataW.trod_int Try.underlying23 h1
  obtain ⟨b, e2, _, w2⟩ := DataW.trod_int Try.underlying3 h2
  obtain ⟨c, e3, _, w3⟩ := DataW.trod_int Try.underlying23 h3
  obtain ⟨A, n, cc, zs, rfl, hr, hn, hw⟩ := reads_of_trod_ints Try.underlying22 Try.underlying5 (by kernel_rfl) h0
  obtain ⟨bs, hb, hl⟩ := ints_nats zs hw
  simp at e1 e2 e3
  subst e1 e2 e3
  simp [Lit.wf, IntKind.min, IntKind.max, IntKind.signed, IntKind.bits] at w1 w2 w3
  obtain ⟨k, rfl⟩ := Int.eq_ofNat_of_zero_le w1.1
  obtain ⟨l, rfl⟩ := Int.eq_ofNat_of_zero_le w3.1
  exact ⟨A, n, cc, bs, k, l, b, rfl, hb ▸ hr, hn, hl, by unfold M; omega, by unfold M; omega, by omega, by omega⟩
end
end Go.Proofs.Ytfhkcbhbomghfaa
