import Derived.Test.YtgikfjfinjcfmaaDoorOpen
import Derived.Test.YtgikfjfinjcfmaaDoorCards
import Derived.Test.YtgikfjfinjcfmaaDoorTie
import Derived.Test.YtgikfjfinjcfmaaDoorF1
import Derived.LaidMore
import Derived.Lay
import Derived.SevenTiedAt
import Derived.Stop.Joined
import Derived.WalkKit
namespace Go.Proofs.YtgikfjfinjcfmaaDoor
open Go Go.ChangeShapes Go.WideShapes Go.ChangeAt Go.RowKit Go.Hos

theorem own : ownKnob Tryd.prog.godebug = none := by kernel_rfl
theorem laidOut : laidOutB Tryd.prog = true := by kernel_rfl
def laidL : List (String × DataW Unit) := [("math/bits.deBruijn64tab", Rows.laid_math_bits_deBruijn64tab)]
theorem laid_eq : (Rows.laid_math_bits_deBruijn64tab : DataW Unit) = .agg (dbt.map fun (n : Nat) => (.lit (.int .u8 (n : Int)) : DataW Unit)) := rfl
/-- what the listed table gives the walks -/
theorem tb_of_laid {W : World} (h : laidMetH Tryd.prog laidL W) : TB W := by
  intro r hr
  rw [MakeChecks.laidMetH_plain _ _ _ (by kernel_rfl)] at h
  obtain ⟨ps, ⟨g, t, cs, fuel, p, q, hg, ht, hv, hd, _, _⟩, _, _⟩ := h
  obtain rfl := Option.some.inj ((show Tryd.prog.globalNamed "math/bits.deBruijn64tab" = some 0 by kernel_rfl).symm.trans hg)
  obtain rfl := Option.some.inj ((show (Tryd.prog.globals[0]?).map (·.type) = some 72 by kernel_rfl).symm.trans ht)
  obtain ⟨xs, m, _, ex, _, hl, hel⟩ := DataW.trod_array Tryd.underlying72 hd
  have c5 : Tryd.prog.cellsOf 5 = 1 := by kernel_rfl
  have hE := hel r hr
  rw [c5, Nat.mul_one, List.getElem?_eq_getElem (by omega)] at hE
  obtain ⟨z, e1, e2, _⟩ := DataW.trod_int Tryd.underlying5 hE
  have hlen : dbt.length = 64 := by decide
  have e3 : (xs.map (·.1)) = dbt.map fun (n : Nat) => (.lit (.int .u8 (n : Int)) : DataW Unit) := by
    have := (Prod.mk.inj ex).1
    rw [laid_eq] at this
    exact (DataW.agg.inj this).symm
  have e4 : (xs.map (·.1))[r]? = (dbt.map fun (n : Nat) => (.lit (.int .u8 (n : Int)) : DataW Unit))[r]? := by rw [e3]
  rw [List.getElem?_map, List.getElem?_map, List.getElem?_eq_getElem (by omega : r < xs.length), List.getElem?_eq_getElem (by omega : r < dbt.length), e2] at e4
  have hz : z = ((dbt[r]'(by omega) : Nat) : Int) := by
    simp only [Option.map_some, Option.some.injEq, DataW.lit.injEq, Lit.int.injEq, true_and] at e4
    exact e4
  refine ⟨dbt[r]'(by omega), List.getElem?_eq_getElem (by omega), ?_⟩
  rw [World.var?_cell hg hv r, ← hz]
  have : cs.toList[r]? = some (.int .u8 z) := by
    have h0 : ((cs.toList.drop r).take 1)[0]? = some (.int .u8 z) := by rw [e1]; rfl
    simpa using h0
  simpa using this
theorem TB.pos {W : World} (h : TB W) : 0 < W.heap.size := by
  obtain ⟨v, _, hc⟩ := h 0 (by omega)
  exact block_lt_of_cell hc
theorem cells44 : Tryd.prog.cellsOf 44 = 5 := by kernel_rfl
theorem ints_nats : ∀ zs : List Int, (∀ z ∈ zs, (Lit.int .u8 z).wf = true) → ∃ bs : List Nat, zs.map (Value.int .u8) = bs.map (fun (x : Nat) => Value.int .u8 (x : Int)) ∧ (∀ b ∈ bs, b < 256)
  | [], _ => ⟨[], rfl, by simp⟩
  | z :: zs, h => by
    obtain ⟨bs, hb, hl⟩ := ints_nats zs fun x hx => h x (List.mem_cons_of_mem _ hx)
    have hz := h z List.mem_cons_self
    simp [Lit.wf, IntKind.min, IntKind.max, IntKind.signed, IntKind.bits] at hz
    obtain ⟨k, rfl⟩ := Int.eq_ofNat_of_zero_le hz.1
    refine ⟨k :: bs, by simp only [List.map_cons, hb], ?_⟩
    intro b hb'
    rcases List.mem_cons.1 hb' with rfl | h'
    · omega
    · exact hl b h'
section
variable {H : Type} {enc : TypeId × Value → H} {W : World} {r : Reach} {b0 : Nat} {v : Value} {d : DataW H} {p : List MemPlace}
theorem open_i64 (hv : Value.okWide Tryd.prog W r b0 3 v) (h : DataW.Trod enc Tryd.prog W 0 (fun _ => true) true 3 v d p) : ∃ n : Int, v = .int .i64 n ∧ -9223372036854775808 ≤ n ∧ n ≤ 9223372036854775807 := by
  obtain ⟨x, rfl, _, _, w1⟩ := open_int Tryd.underlying3 hv h
  simp [Lit.wf, IntKind.min, IntKind.max, IntKind.signed, IntKind.bits] at w1
  exact ⟨x, rfl, by omega, by omega⟩
theorem open_op (hv : Value.okWide Tryd.prog W r b0 44 v) (h : DataW.Trod enc Tryd.prog W 0 (fun _ => true) true 44 v d p) :
    ∃ (d' x y z : Int) (A : Option Addr) (n c : Nat) (bs : List Nat), v = .agg #[.int .i64 d', .int .i64 x, .int .i64 y, .int .i64 z, .slice A n c] ∧
      Reads W W.heap.size 1 A n (bs.map fun (x : Nat) => Value.int .u8 (x : Int)) ∧ n ≤ maxLen ∧ (∀ b ∈ bs, b < 256) := by
  obtain ⟨v0, v1, v2, v3, v4, y0, y1, y2, y3, y4, m, rfl, _, _, h0, h1, h2, h3, h4⟩ := open_agg5 Tryd.underlying44 (by kernel_rfl) cells44 hv h
  obtain ⟨a0, e0, _, _⟩ := DataW.trod_int Tryd.underlying3 h0
  obtain ⟨a1, e1, _, _⟩ := DataW.trod_int Tryd.underlying3 h1
  obtain ⟨a2, e2, _, _⟩ := DataW.trod_int Tryd.underlying3 h2
  obtain ⟨a3, e3, _, _⟩ := DataW.trod_int Tryd.underlying3 h3
  obtain ⟨A, n, c, zs, rfl, hr, hn, hw⟩ := reads_of_trod_ints Tryd.underlying42 Tryd.underlying5 (by kernel_rfl) h4
  obtain ⟨bs, hb, hl⟩ := ints_nats zs hw
  simp at e0 e1 e2 e3
  subst e0 e1 e2 e3
  exact ⟨_, _, _, _, A, n, c, bs, rfl, hb ▸ hr, hn, hl⟩
end
end Go.Proofs.YtgikfjfinjcfmaaDoor
