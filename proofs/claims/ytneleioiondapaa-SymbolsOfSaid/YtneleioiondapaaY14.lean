import Derived.Test.YtneleioiondapaaArgs
namespace Go.Proofs.Ytneleioiondapaa
open Go Go.ChangeShapes Go.WideShapes Go.ChangeAt Go.RowKit Go.Hos Go.Joins Go.Deep
set_option linter.unusedVariables false
/-- an object that came in by value -/
theorem open_obj {H : Type} {enc : TypeId × Value → H} {W : World} {r : Reach} {b0 : Nat} {v : Value} {d : DataW H} {p : List MemPlace} (hv : Value.okWide Try.prog W r b0 38 v) (h : DataW.Trod enc Try.prog W 0 (fun _ => true) true 38 v d p) :
    ∃ o : ObjD, v = .agg o.cs ∧ StR W W.heap.size 5 o.sA o.sM (fun k => (o.sy k).cs) ∧ o.sM ≤ maxLen ∧ ∀ k, (o.sy k).nm.size ≤ maxLen := by
  obtain ⟨f, hf⟩ := h
  obtain ⟨cs, rfl, hsz⟩ := okWide_struct Try.underlying38 hv
  obtain ⟨o, ho, h1, h2, h3⟩ := obj_of_trod (cs := cs.toList) (by simpa [Value.cells] using hf)
  exact ⟨o, by rw [Array.toList_inj.1 ho], h2, h1, h3⟩
end Go.Proofs.Ytneleioiondapaa
