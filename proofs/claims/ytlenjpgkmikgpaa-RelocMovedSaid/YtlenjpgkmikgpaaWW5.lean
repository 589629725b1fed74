import Derived.Test.YtlenjpgkmikgpaaWW4
namespace Go.Proofs.Ytlenjpgkmikgpaa.Wrd
open Go.RowKit Go.Hos
set_option linter.unusedVariables false

/-- bytes as cells -/
def B8 (bs : List Nat) : List Value := bs.map fun (x : Nat) => Value.int .u8 (x : Int)
theorem b8_get {w : World} {B n : Nat} {A : Option Addr} {bs : List Nat} (h : Reads w B 1 A n (B8 bs)) {k : Nat} (hk : k < n) :
    ∃ ad x, A = some ad ∧ ad.block < B ∧ w.cell? (ad.add k) = some (.int .u8 ((x : Nat) : Int)) ∧ Hid (bs.getD k 0 = x ∧ x ∈ bs) := by
  obtain ⟨ad, u, e, hb, hx, hc⟩ := h.at_ hk
  have hl : k < bs.length := by have := h.1; simp [B8] at this; omega
  refine ⟨ad, bs[k], e, hb, ?_, ?_, List.getElem_mem _⟩
  · rw [hc]
    unfold B8 at hx
    rw [List.getElem?_map, List.getElem?_eq_getElem hl] at hx
    simp at hx
    rw [← hx]
  · rw [List.getD_eq_getElem?_getD, List.getElem?_eq_getElem hl]; rfl
theorem b8_len {w : World} {B n : Nat} {A : Option Addr} {bs : List Nat} (h : Reads w B 1 A n (B8 bs)) : bs.length = n := by
  have := h.1; simp [B8] at this; exact this
theorem b8_one (bs : List Nat) : ∀ u ∈ B8 bs, u.oneCell' = true := by
  intro u hu; obtain ⟨x, _, rfl⟩ := List.mem_map.1 hu; rfl

theorem plc_cases (len at_ : Nat) (n : Int) : (szB n = true ∧ at_ + n.toNat ≤ len ∧ plc len at_ n = 0) ∨ (plc len at_ n = 24 ∧ szB n = true) ∨ (plc len at_ n = 1 ∧ szB n = false) := by
  cases hz : szB n
  · exact .inr (.inr ⟨plc_arg hz, rfl⟩)
  · by_cases h : at_ + n.toNat ≤ len
    · exact .inl ⟨rfl, h, plc_yes hz h⟩
    · exact .inr (.inl ⟨plc_short hz h, rfl⟩)

end Go.Proofs.Ytlenjpgkmikgpaa.Wrd
