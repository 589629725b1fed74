import Derived.Test.YtlenjpgkmikgpaaLZ3
namespace Go.Proofs.Ytlenjpgkmikgpaa.Lay
open Go.RowKit Go.Shelf Go.Hos
set_option linter.unusedVariables false
/-- objects that read, and their segments -/
structure ObjR (W : World) (B : Nat) (A : Option Addr) (n : Nat) (O : Nat → ObjD) : Prop where
  os : StR W B 11 A n (fun i => (O i).cs)
  sy : ∀ i, i < n → StR W B 6 (O i).gA (O i).gM (segC (O i).sg) ∧ (O i).gM ≤ maxLen
  len : n ≤ maxLen
theorem ObjR.below {W W' : World} {B : Nat} {A : Option Addr} {n : Nat} {O : Nat → ObjD} (h : ObjR W B A n O) (hb : Below B W W') : ObjR W' B A n O :=
  ⟨h.os.below hb, fun i hi => ⟨(h.sy i hi).1.below hb, (h.sy i hi).2⟩, h.len⟩
theorem ObjR.more {W : World} {B B' : Nat} {A : Option Addr} {n : Nat} {O : Nat → ObjD} (h : ObjR W B A n O) (hB : B ≤ B') : ObjR W B' A n O :=
  ⟨h.os.more hB, fun i hi => ⟨(h.sy i hi).1.more hB, (h.sy i hi).2⟩, h.len⟩
theorem ObjR.cells {W : World} {B : Nat} {A : Option Addr} {n : Nat} {O : Nat → ObjD} (h : ObjR W B A n O) {i : Nat} (hi : i < n) : ∃ ad, A = some ad ∧ ad.block < B ∧
    W.cell? (ad.add (i * 11)) = some (.int .i64 (O i).ino) ∧ W.cell? ⟨(ad.add (i * 11)).block, (ad.add (i * 11)).off + 1, none⟩ = some (.int .u64 (O i).base) ∧ W.cell? ⟨(ad.add (i * 11)).block, (ad.add (i * 11)).off + 2, none⟩ = some (.int .u16 (O i).ty) ∧
    W.cell? ⟨(ad.add (i * 11)).block, (ad.add (i * 11)).off + 3, none⟩ = some (.int .u64 (O i).en) ∧ W.cell? ⟨(ad.add (i * 11)).block, (ad.add (i * 11)).off + 4, none⟩ = some (.int .u64 (O i).ph) ∧
    W.cell? ⟨(ad.add (i * 11)).block, (ad.add (i * 11)).off + 5, none⟩ = some (.slice (O i).gA (O i).gM (O i).gQ) ∧ W.cell? ⟨(ad.add (i * 11)).block, (ad.add (i * 11)).off + 6, none⟩ = some (.slice (O i).nA (O i).nM (O i).nQ) ∧
    W.cell? ⟨(ad.add (i * 11)).block, (ad.add (i * 11)).off + 7, none⟩ = some (.string (O i).so) ∧ W.cell? ⟨(ad.add (i * 11)).block, (ad.add (i * 11)).off + 8, none⟩ = some (.string (O i).rn) ∧
    W.cell? ⟨(ad.add (i * 11)).block, (ad.add (i * 11)).off + 9, none⟩ = some (.slice (O i).sA (O i).sM (O i).sQ) ∧ W.cell? ⟨(ad.add (i * 11)).block, (ad.add (i * 11)).off + 10, none⟩ = some (.slice (O i).rA (O i).rM (O i).rQ) := by
  obtain ⟨ad, rfl, hb, hc⟩ := h.os (by omega)
  have hc := hc i hi
  refine ⟨ad, rfl, hb, hc 0 _ rfl, ?_, ?_, ?_, ?_, ?_, ?_, ?_, ?_, ?_, ?_⟩
  all_goals rw [← add_field]
  · exact hc 1 _ rfl
  · exact hc 2 _ rfl
  · exact hc 3 _ rfl
  · exact hc 4 _ rfl
  · exact hc 5 _ rfl
  · exact hc 6 _ rfl
  · exact hc 7 _ rfl
  · exact hc 8 _ rfl
  · exact hc 9 _ rfl
  · exact hc 10 _ rfl
end Go.Proofs.Ytlenjpgkmikgpaa.Lay
