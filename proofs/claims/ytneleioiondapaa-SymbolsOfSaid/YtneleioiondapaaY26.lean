import Derived.Test.YtneleioiondapaaY25
namespace Go.Proofs.Ytneleioiondapaa
open Go Go.ChangeShapes Go.WideShapes Go.ChangeAt Go.RowKit Go.Hos Go.Joins Go.Deep
set_option linter.unusedVariables false
theorem cl23 : Try.prog.cellsOf 23 = 2 := by kernel_rfl
/-- two integers that came in by value -/
theorem open_two {H : Type} {enc : TypeId × Value → H} {W : World} {r : Reach} {b0 : Nat} {v : Value} {d : DataW H} {p : List MemPlace} (hv : Value.okWide Try.prog W r b0 23 v) (h : DataW.Trod enc Try.prog W 0 (fun _ => true) true 23 v d p) :
    ∃ a0 a1 : Int, v = .agg #[.int .i64 a0, .int .i64 a1] := by
  obtain ⟨f, hf⟩ := h
  have hc : ∃ cs, v = .agg cs ∧ cs.size = Try.prog.cellsOf 23 := by
    simp only [Value.okWide, Try.underlying23] at hv
    obtain ⟨cs, h1, h2, _⟩ := hv
    exact ⟨cs, h1, h2⟩
  obtain ⟨⟨l⟩, rfl, hsz⟩ := hc
  rw [cl23] at hsz
  match l, hsz with
  | [c0, c1], _ =>
    obtain ⟨xs, n, _, _, _, hxl, hg⟩ := DataW.trod_array Try.underlying23 (by simpa [Value.cells] using hf)
    have g0 := hg 0 (by omega)
    have g1 := hg 1 (by omega)
    rw [cl3] at g0 g1
    rw [List.getElem?_eq_getElem (by omega)] at g0 g1
    obtain ⟨a0, e0, _, _⟩ := DataW.trod_int Try.underlying3 g0
    obtain ⟨a1, e1, _, _⟩ := DataW.trod_int Try.underlying3 g1
    simp at e0 e1
    exact ⟨a0, a1, by rw [e0, e1]⟩
end Go.Proofs.Ytneleioiondapaa
