import Derived.Test.YticnmgdflkipeaaZ3
namespace Go.Proofs.Yticnmgdflkipeaa
open Go.RowKit Go.Shelf Go.Hos
set_option linter.unusedVariables false
/-- objects that read, and their segments -/
structure ObjR (W : World) (B : Nat) (A : Option Addr) (n : Nat) (O : Nat → ObjD) : Prop where
  os : StR W B 11 A n (fun i => (O i).cs)
  sy : ∀ i, i < n → StR W B 6 (O i).gA (O i).gM (segC (O i).sg) ∧ (O i).gM ≤ maxLen
  len : n ≤ maxLen
theorem ObjR.below {W W' : World} {B : Nat} {A : Option Addr} {n : Nat} {O : Nat → ObjD} (h : ObjR W B A n O) (hb : Below B W W') : ObjR W' B A n O :=
  ⟨h.os.below hb, fun i hi => ⟨(h.sy i hi).1.below hb, (h.sy i hi).2⟩, h.len⟩
theorem ObjR.more {W : World} {B B' : Nat} {A : Option Addr} {n : Nat} {O : Nat → ObjD} (h : ObjR W B A n O) (hB : B ≤ B') : ObjR W B' A n O :=
  ⟨h.os.more hB, fun i hi => ⟨(h.sy i hi).1.more hB, (h.sy i hi).2⟩, h.len⟩
theorem ObjR.cells {W : World} {B : Nat} {A : Option Addr} {n : Nat} {O : Nat → ObjD} (h : ObjR W B A n O) {i : Nat} (hi : i < n) : ∃ ad, A = some ad ∧ ad.block < B ∧
    W.cell? (ad.add (i * 11)) = some (.int .i64 (O i).ino) ∧ W.cell? ⟨(ad.add (i * 11)).block, (ad.add (i * 11)).off + 1, none⟩ = some (.int .u64 (O i).base) ∧ W.cell? ⟨(ad.add (i * 11)).block, (ad.add (i * 11)).off + 2, none⟩ = some (.int .u16 (O i).ty) ∧
    W.cell? ⟨(ad.add (i * 11)).block, (ad.add (i * 11)).off + 3, none⟩ = some (.int .u64 (O i).en) ∧ W.cell? ⟨(ad.add (i * 11)).block, (ad.add (i * 11)).off + 4, none⟩ = some (.int .u64 (O i).ph) ∧
    W.cell? ⟨(ad.add (i * 11)).block, (ad.add (i * 11)).off + 5, none⟩ = some (.slice (O i).gA (O i).gM (O i).gQ) ∧ W.cell? ⟨(ad.add (i * 11)).block, (ad.add (i * 11)).off + 6, none⟩ = some (.slice (O i).nA (O i).nM (O i).nQ) ∧
    W.cell? ⟨(ad.add (i * 11)).block, (ad.add (i * 11)).off + 7, none⟩ = some (.string (O i).so) ∧ W.cell? ⟨(ad.add (i * 11)).block, (ad.add (i * 11)).off + 8, none⟩ = some (.string (O i).rn) ∧
    W.cell? ⟨(ad.add (i * 11)).block, (ad.add (i * 11)).off + 9, none⟩ = some (.slice (O i).sA (O i).sM (O i).sQ) ∧ W.cell? ⟨(ad.add (i * 11)).block, (ad.add (i * 11)).off + 10, none⟩ = some (.slice (O i).rA (O i).rM (O i).rQ) := by
  obtain ⟨ad, rfl, hb, hc⟩ := h.os (by omega)
  have hc := hc i hi
  refine ⟨ad, rfl, hb, hc 0 _ rfl, ?_, ?_, ?_, ?_, ?_, ?_, ?_, ?_, ?_, ?_⟩
  all_goals rw [← add_field]
  · exact hc 1 _ rfl
  · exact hc 2 _ rfl
  · exact hc 3 _ rfl
  · exact hc 4 _ rfl
  · exact hc 5 _ rfl
  · exact hc 6 _ rfl
  · exact hc 7 _ rfl
  · exact hc 8 _ rfl
  · exact hc 9 _ rfl
  · exact hc 10 _ rfl
def VsP (O : Nat → ObjD) (m : Nat) (w : World) (e : Ending) (W' : World) : Prop := ∃ b : Bool, e = .returned (.bool b) ∧ Hid (b = false → m ≤ 20 ∧ ∀ i, i < m → (O i).gM ≤ 40) ∧ w = W'
set_option maxRecDepth 20000 in
set_option maxHeartbeats 800000 in
theorem vast_any (A : Option Addr) (m c : Nat) (O : Nat → ObjD) (B : Nat) (w : World) (hR : ObjR w B A m O) : Calls Try.prog 9 #[.slice A m c] w (VsP O m w) := by
  have hm := hR.len
  have hmm : maxLen = 9223372036854775807 := by simp [maxLen]
  have H := Lib.hid hR
  clear hR
  by_cases h20 : m ≤ 20
  · have g1 : decide ((20 : Int) < (m : Int)) = false := by simp; omega
    have g2 : ¬ (20 : Int) < (m : Int) := by omega
    go_enter Try.func9, Try.ntmps9
    go_wp2_with fail
    go_loop [3] (fun v3 => ∃ i : Nat, i ≤ m ∧ v3 = .int .i64 i ∧ Hid (∀ j, j < i → (O j).gM ≤ 40)) (fun v3 => m - (intOf v3).toNat)
    case atStart => exact ⟨0, Nat.zero_le _, rfl, Lib.hid (fun j hj => by omega)⟩
    case round =>
      obtain ⟨i, hi, rfl, hs⟩ := hrel
      by_cases him : i < m
      · have d1 : decide ((i : Int) < (m : Int)) = true := by simp; omega
        have d2 : (i : Int) < (m : Int) := by omega
        obtain ⟨ad, rfl, had, _, _, _, _, _, c5, _⟩ := H.out.cells him
        obtain ⟨l, hl⟩ : ∃ l, l = (O i).gM := ⟨_, rfl⟩
        obtain ⟨x0, hx0⟩ : ∃ l, l = (O i).gA := ⟨_, rfl⟩
        obtain ⟨x1, hx1⟩ : ∃ l, l = (O i).gQ := ⟨_, rfl⟩
        rw [← hl, ← hx0, ← hx1] at c5
        have l1 := World.block_lt_of_cell? _ _ c5
        by_cases h40 : l ≤ 40
        · have f1 : decide ((40 : Int) < (l : Int)) = false := by simp; omega
          have f2 : ¬ (40 : Int) < (l : Int) := by omega
          have NX : Hid (∀ j, j < i + 1 → (O j).gM ≤ 40) := Lib.hid fun j hj => by
            by_cases e : j = i
            · subst e; omega
            · exact hs.out j (by omega)
          clear hl hx0 hx1 hs
          go_wp2_with fail
          go_round
          case rel => exact ⟨i + 1, by omega, by go_num, NX⟩
          case measure => simp [intOf]; omega
        · have f1 : decide ((40 : Int) < (l : Int)) = true := by simp; omega
          have f2 : (40 : Int) < (l : Int) := by omega
          clear hl hx0 hx1 hs
          go_wp2_with fail
          go_ret
          exact ⟨true, rfl, Lib.hid (fun h => by cases h), rfl⟩
      · obtain rfl : i = m := by omega
        have d1 : decide ((i : Int) < (i : Int)) = false := by simp
        go_wp2_with fail
        go_ret
        exact ⟨false, rfl, Lib.hid (fun _ => ⟨h20, hs.out⟩), rfl⟩
  · have g1 : decide ((20 : Int) < (m : Int)) = true := by simp; omega
    have g2 : (20 : Int) < (m : Int) := by omega
    go_enter Try.func9, Try.ntmps9
    go_wp2_with fail
    go_ret
    exact ⟨true, rfl, Lib.hid (fun h => by cases h), rfl⟩
end Go.Proofs.Yticnmgdflkipeaa
