import Derived.Test.YticnmgdflkipeaaZ27
import Derived.Test.YticnmgdflkipeaaZ20
namespace Go.Proofs.Yticnmgdflkipeaa
open Go Go.ChangeShapes Go.WideShapes Go.ChangeAt Go.RowKit Go.Hos Go.Joins Go.Deep
set_option linter.unusedVariables false
section
variable {H : Type} {enc : TypeId × Value → H} {W : World}
def objZ : ObjD := ⟨0, 0, 0, 0, 0, none, 0, 0, none, 0, 0, ⟨#[]⟩, ⟨#[]⟩, none, 0, 0, none, 0, 0, fun _ => segZ⟩
/-- objects that came in -/
theorem open_objs {r : Reach} {b0 : Nat} {v : Value} {d : DataW H} {p : List MemPlace} (hv : Value.okWide Try.prog W r b0 35 v) (h : DataW.Trod enc Try.prog W 0 (fun _ => true) true 35 v d p) :
    ∃ (A : Option Addr) (m c : Nat) (O : Nat → ObjD), v = .slice A m c ∧ ObjR W W.heap.size A m O ∧ fitsO O ∧ ∀ i, (O i).base < M := by
  obtain ⟨f, hf⟩ := h
  obtain ⟨A0, m0, c0, rfl⟩ := okWide_slice Try.underlying35 hv
  rcases open_slice Try.underlying35 (by simpa [Value.cells] using hf) with ⟨hcs, _⟩ | ⟨a, l, c, m', n, D, Pl, hcs, _, hl, hc, hmm, _, hi⟩
  · obtain ⟨rfl, rfl, rfl⟩ : A0 = none ∧ m0 = 0 ∧ c0 = 0 := by simpa using hcs
    exact ⟨none, 0, 0, fun _ => objZ, rfl, ⟨fun h => absurd h (by omega), fun i hi => absurd hi (by omega), by simp [maxLen]⟩, fun _ _ => segZ_fits, fun _ => by show 0 < M; unfold M; omega⟩
  · obtain ⟨rfl, rfl, rfl⟩ : A0 = some a ∧ m0 = l ∧ c0 = c := by simpa using hcs
    rw [cl33] at hi
    have key : ∀ i, ∃ o : ObjD, ((∀ k, (o.sg k).fits) ∧ o.base < M) ∧ (i < m0 → (∀ j u, o.cs[j]? = some u → W.cell? (a.add (i * 11 + j)) = some u) ∧ StR W W.heap.size 6 o.gA o.gM (segC o.sg) ∧ o.gM ≤ maxLen) := by
      intro i
      by_cases him : i < m0
      · obtain ⟨cs', hcc, ht⟩ := hi i (by rw [hmm]; simp; omega)
        obtain ⟨o, ho, h1, h2, h3, h4⟩ := obj_of_trod ht
        obtain ⟨_, hcl, hat⟩ := World.cells?_some hcc
        refine ⟨o, ⟨h3, h4⟩, fun _ => ⟨fun j u hu => ?_, h2, h1⟩⟩
        have hj : j < 11 := by have := (Array.getElem?_eq_some_iff.1 hu).1; simpa [ObjD.cs] using this
        rw [← Go.Deep.add_add, hat j hj, ho, Array.getElem?_toList]
        exact hu
      · exact ⟨objZ, ⟨fun _ => segZ_fits, by show 0 < M; unfold M; omega⟩, fun h => absurd h him⟩
    refine ⟨some a, m0, c0, fun i => Classical.choose (key i), rfl, ⟨fun hn => ⟨a, rfl, ?_, fun i hi j u hu => ((Classical.choose_spec (key i)).2 hi).1 j u hu⟩, fun i hi => ((Classical.choose_spec (key i)).2 hi).2, by omega⟩, fun x k => (Classical.choose_spec (key x)).1.1 k, fun x => (Classical.choose_spec (key x)).1.2⟩
    have h0 := ((Classical.choose_spec (key 0)).2 hn).1 0 _ rfl
    have := World.block_lt_of_cell? W _ h0
    rwa [block_of_add] at this
end
end Go.Proofs.Yticnmgdflkipeaa
