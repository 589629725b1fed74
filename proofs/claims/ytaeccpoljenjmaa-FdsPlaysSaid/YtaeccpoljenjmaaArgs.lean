import Derived.Test.YtaeccpoljenjmaaOpen
import Derived.Test.YtaeccpoljenjmaaRows
import Derived.Test.YtaeccpoljenjmaaProg
import Derived.WalkKit
namespace Go.Proofs.Ytaeccpoljenjmaa
open Go.ChangeShapes Go.WideShapes Go.ChangeAt Go.RowKit Go.Hos

theorem own : ownKnob Try.prog.godebug = none := by kernel_rfl
theorem laidOut : laidOutB Try.prog = true := by kernel_rfl
theorem cells27 : Try.prog.cellsOf 27 = 6 := by kernel_rfl

/-- an op's fields -/
structure OpD where
  d : Int
  t : Int
  f : Int
  i : Int
  p : Int
  x : Bool
def OpD.ok (o : OpD) : Prop := -9223372036854775808 ≤ o.t ∧ o.t ≤ 9223372036854775807
/-- a slice of ops that reads -/
def OpR (W : World) (B : Nat) (A : Option Addr) (n : Nat) (O : Nat → OpD) : Prop :=
  ∀ i, i < n → ∃ ad, A = some ad ∧ ad.block < B ∧ W.cell? (ad.add (i * 6)) = some (.int .i64 (O i).d) ∧ W.cell? (ad.add (i * 6 + 1)) = some (.int .i64 (O i).t) ∧ W.cell? (ad.add (i * 6 + 2)) = some (.int .i64 (O i).f) ∧
    W.cell? (ad.add (i * 6 + 3)) = some (.int .i64 (O i).i) ∧ W.cell? (ad.add (i * 6 + 4)) = some (.int .i64 (O i).p) ∧ W.cell? (ad.add (i * 6 + 5)) = some (.bool (O i).x) ∧ (O i).ok

section
variable {H : Type} {enc : TypeId × Value → H} {W : World} {r : Reach} {b0 : Nat} {v : Value} {d : DataW H} {p : List MemPlace}
theorem open_op (hv : Value.okWide Try.prog W r b0 27 v) (h : DataW.Trod enc Try.prog W 0 (fun _ => true) true 27 v d p) :
    ∃ (d' t f i p : Int) (x : Bool), v = .agg #[.int .i64 d', .int .i64 t, .int .i64 f, .int .i64 i, .int .i64 p, .bool x] := by
  obtain ⟨v0, v1, v2, v3, v4, v5, y0, y1, y2, y3, y4, y5, m, rfl, _, _, h0, h1, h2, h3, h4, h5⟩ := open_agg6 Try.underlying27 (by kernel_rfl) cells27 hv h
  obtain ⟨a0, e0, _, _⟩ := DataW.trod_int Try.underlying3 h0
  obtain ⟨a1, e1, _, _⟩ := DataW.trod_int Try.underlying3 h1
  obtain ⟨a2, e2, _, _⟩ := DataW.trod_int Try.underlying3 h2
  obtain ⟨a3, e3, _, _⟩ := DataW.trod_int Try.underlying3 h3
  obtain ⟨a4, e4, _, _⟩ := DataW.trod_int Try.underlying3 h4
  obtain ⟨a5, e5, _⟩ := DataW.trod_bool Try.underlying4 h5
  simp at e0 e1 e2 e3 e4 e5
  subst e0 e1 e2 e3 e4 e5
  exact ⟨_, _, _, _, _, _, rfl⟩
theorem open_ops (hv : Value.okWide Try.prog W r b0 22 v) (h : DataW.Trod enc Try.prog W 0 (fun _ => true) true 22 v d p) :
    ∃ (A : Option Addr) (n c : Nat) (O : Nat → OpD), v = .slice A n c ∧ OpR W W.heap.size A n O ∧ n ≤ maxLen := by
  obtain ⟨m, hm⟩ := h
  obtain ⟨A0, n0, c0, rfl⟩ := okWide_slice Try.underlying22 hv
  rcases open_slice_fields (w := W) Try.underlying22 Try.underlying27 (by kernel_rfl) (by rw [cells27]; rfl) (by simpa [Value.cells] using hm) with ⟨hcs, _⟩ | ⟨a, l, c, m', D, Pl, hcs, _, hl, hc, hmm, _, hf⟩
  · obtain ⟨rfl, rfl, rfl⟩ : A0 = none ∧ n0 = 0 ∧ c0 = 0 := by simpa using hcs
    exact ⟨_, _, _, fun _ => ⟨0, 0, 0, 0, 0, false⟩, rfl, fun i hi => absurd hi (by omega), by simp [maxLen]⟩
  · obtain ⟨rfl, rfl, rfl⟩ : A0 = some a ∧ n0 = l ∧ c0 = c := by simpa using hcs
    have key : ∀ i, ∃ o : OpD, i < n0 → (W.cell? (a.add (i * 6)) = some (.int .i64 o.d) ∧ W.cell? (a.add (i * 6 + 1)) = some (.int .i64 o.t) ∧ W.cell? (a.add (i * 6 + 2)) = some (.int .i64 o.f) ∧
        W.cell? (a.add (i * 6 + 3)) = some (.int .i64 o.i) ∧ W.cell? (a.add (i * 6 + 4)) = some (.int .i64 o.p) ∧ W.cell? (a.add (i * 6 + 5)) = some (.bool o.x) ∧ o.ok) := by
      intro i
      by_cases hi : i < n0
      · obtain ⟨ys, n, _, _, _, hfi⟩ := hf i (by rw [hmm]; simp; omega)
        obtain ⟨u0, y0, c0', _, t0⟩ := hfi 0 _ rfl
        obtain ⟨u1, y1, c1', _, t1⟩ := hfi 1 _ rfl
        obtain ⟨u2, y2, c2', _, t2⟩ := hfi 2 _ rfl
        obtain ⟨u3, y3, c3', _, t3⟩ := hfi 3 _ rfl
        obtain ⟨u4, y4, c4', _, t4⟩ := hfi 4 _ rfl
        obtain ⟨u5, y5, c5', _, t5⟩ := hfi 5 _ rfl
        obtain ⟨a0, e0, _, _⟩ := DataW.trod_int Try.underlying3 t0
        obtain ⟨a1, e1, _, w1⟩ := DataW.trod_int Try.underlying3 t1
        obtain ⟨a2, e2, _, _⟩ := DataW.trod_int Try.underlying3 t2
        obtain ⟨a3, e3, _, _⟩ := DataW.trod_int Try.underlying3 t3
        obtain ⟨a4, e4, _, _⟩ := DataW.trod_int Try.underlying3 t4
        obtain ⟨a5, e5, _⟩ := DataW.trod_bool Try.underlying4 t5
        simp at e0 e1 e2 e3 e4 e5
        subst e0 e1 e2 e3 e4 e5
        simp [Lit.wf, IntKind.min, IntKind.max, IntKind.signed, IntKind.bits] at w1
        exact ⟨⟨a0, a1, a2, a3, a4, a5⟩, fun _ => ⟨c0', c1', c2', c3', c4', c5', by unfold OpD.ok; simp only; omega⟩⟩
      · exact ⟨⟨0, 0, 0, 0, 0, false⟩, fun h => absurd h hi⟩
    refine ⟨some a, n0, c0, fun i => Classical.choose (key i), rfl, fun i hi => ⟨a, rfl, ?_, Classical.choose_spec (key i) hi⟩, by omega⟩
    have h0 := (Classical.choose_spec (key i) hi).1
    have := World.block_lt_of_cell? W _ h0
    rwa [block_of_add] at this
end
end Go.Proofs.Ytaeccpoljenjmaa
