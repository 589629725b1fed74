import Derived.Test.YticnmgdflkipeaaZ36
import Derived.Test.YticnmgdflkipeaaZ26
namespace Go.Proofs.Yticnmgdflkipeaa
open Go.RowKit Go.Shelf Go.Hos
set_option linter.unusedVariables false
/-! pieces and writes that read -/
def pcZ : PieceD := ⟨0, 0, 0, 0, 0⟩
def wrZ : WriteD := ⟨0, 0, 0⟩
theorem take_getD {α : Type} {l : List α} {i : Nat} (z : α) (h : i < l.length) : l.take (i + 1) = l.take i ++ [l.getD i z] := by
  rw [List.take_succ_eq_append_getElem h, List.getD_eq_getElem?_getD, List.getElem?_eq_getElem h]; rfl
theorem flatL_flatG {α : Type} (c : α → Array Value) (z : α) (l : List α) : ∀ n, n ≤ l.length → flatL c (l.take n) = flatG (fun i => c (l.getD i z)) n
  | 0, _ => by simp [flatL, flatG]
  | n + 1, h => by rw [take_getD z (by omega), flatL_snoc, flatL_flatG c z l n (by omega)]; rfl
theorem own_reads {α : Type} {W : World} {base e sz n c : Nat} {A : Option Addr} {f : α → Array Value} {l : List α} (z : α) (hn : n = l.length) (h : W.ownsRow base e sz (.slice A n c) n (flatL f l)) (hs : ∀ a, (f a).size = sz) : StR W W.heap.size sz A n (fun i => f (l.getD i z)) := by
  refine StR.of_ownG (base := base) (e := e) (c := c) ?_ (fun i => hs _)
  rw [← flatL_flatG f z l n (by omega), hn, List.take_length]
  rw [hn] at h
  exact h
structure PWR (W : World) (n m : Nat) (A A' : Option Addr) (P : Nat → PieceD) (K : Nat → Nat × Nat) (X : Nat → WriteD) : Prop where
  rp : StR W W.heap.size 5 A n (fun i => (P i).cs)
  rw : StR W W.heap.size 2 A' m (fun i => (X i).cs)
  rb : ∀ i, i < m → Blk W (X i).blk 5 (madeCells #[.int .u8 0] (X i).len)
  rk : ∀ i, i < m → (X i).key = K i
theorem PWR.below {W W' : World} {n m : Nat} {A A' : Option Addr} {P : Nat → PieceD} {K : Nat → Nat × Nat} {X : Nat → WriteD} (h : PWR W n m A A' P K X) (hb : Below W.heap.size W W') : PWR W' n m A A' P K X :=
  ⟨(h.rp.below hb).more hb.size, (h.rw.below hb).more hb.size, fun i hi => (h.rb i hi).below hb (h.rb i hi).lt, h.rk⟩
theorem PWR.drewN {W : World} {n m : Nat} {A A' : Option Addr} {P : Nat → PieceD} {K : Nat → Nat × Nat} {X : Nat → WriteD} (h : PWR W n m A A' P K X) (q : Nat) : PWR (W.drewN q) n m A A' P K X :=
  h.below (below_drewN (Below.refl _ _) q)
def okP (o : ObjD) : Bool := rightB o && o.base % 4096 == 0 && liesB o
def pcA (o : ObjD) : List PieceD := if okP o then pcL o.base o.ino (lds o.sg o.gM) else []
def wrA (o : ObjD) : List (Nat × Nat) := if okP o then wrL o.base (lds o.sg o.gM) else []
def pcN (o : ObjD) : Nat := (pcA o).length
def wrN (o : ObjD) : Nat := (wrA o).length
def pcF (o : ObjD) (i : Nat) : PieceD := (pcA o).getD i pcZ
def wrF (o : ObjD) (i : Nat) : Nat × Nat := (wrA o).getD i (0, 0)
def okE (o : ObjD) : Int := if okP o then 0 else 1
theorem okP_right {o : ObjD} (h : okP o = true) : rightB o = true ∧ o.base % 4096 = 0 ∧ liesB o = true := by
  unfold okP at h
  rw [Bool.and_eq_true, Bool.and_eq_true] at h
  exact ⟨h.1.1, by simpa using h.1.2, h.2⟩
theorem pcN_le (o : ObjD) : pcN o ≤ 16 := by
  unfold pcN pcA
  split
  · rename_i h
    have := pcL_len o.base o.ino (lds o.sg o.gM)
    have := lds_len o.sg o.gM
    have := (right_parts (okP_right h).1).2.1
    omega
  · simp
theorem wrN_le (o : ObjD) : wrN o ≤ 8 := by
  unfold wrN wrA
  split
  · rename_i h
    have := wrL_len o.base (lds o.sg o.gM)
    have := lds_len o.sg o.gM
    have := (right_parts (okP_right h).1).2.1
    omega
  · simp
theorem upv_far (a : Nat) : upv a - a ≤ 4095 := by unfold upv dn; split <;> omega
theorem wrS_far {b : Nat} {s : SegD} : ∀ k ∈ wrS b s, k.2 ≤ 4095 := by
  intro k hk
  unfold wrS at hk
  split at hk
  · obtain rfl := List.mem_singleton.1 hk
    exact upv_far _
  · cases hk
theorem wrF_far (o : ObjD) (i : Nat) : (wrF o i).2 ≤ 4095 := by
  unfold wrF wrA
  rw [List.getD_eq_getElem?_getD]
  split
  · cases h : (wrL o.base (lds o.sg o.gM))[i]? with
    | none => simp
    | some k =>
      have hk := List.mem_of_getElem? h
      obtain ⟨s, _, hs⟩ := List.mem_flatMap.1 hk
      exact wrS_far k hs
  · simp
/-- what Pieces answered, read -/
theorem PiP.read {w W' : World} {o : ObjD} {e : Ending} (h : PiP w o e W') : ∃ Ap cp Aw cw X, e = .returned (.tuple #[.slice Ap (pcN o) cp, .slice Aw (wrN o) cw, .int .i64 (okE o)]) ∧ PWR W' (pcN o) (wrN o) Ap Aw (pcF o) (wrF o) X := by
  obtain ⟨Ap, np, cp, Aw, nw, cw, he, h0, h1⟩ := h.re
  change e = .returned (.tuple #[.slice Ap np cp, .slice Aw nw cw, .int .i64 (okE o)]) at he
  by_cases hk : okP o = true
  · obtain ⟨ws, hws, hnp, hnw, op, ow, wb⟩ := h1 hk
    have e1 : pcA o = pcL o.base o.ino (lds o.sg o.gM) := if_pos hk
    have e2 : wrA o = wrL o.base (lds o.sg o.gM) := if_pos hk
    have e3 : wrN o = ws.length := by unfold wrN; rw [e2, ← hws, List.length_map]
    have e4 : pcN o = np := by unfold pcN; rw [e1, hnp]
    rw [← e4] at op he
    rw [hnw, ← e3] at ow he
    rw [← e1] at op
    refine ⟨Ap, cp, Aw, cw, fun i => ws.getD i wrZ, he, own_reads (f := PieceD.cs) pcZ rfl op (fun a => rfl), own_reads (f := WriteD.cs) wrZ e3 ow (fun a => rfl), fun i hi => ?_, fun i hi => ?_⟩
    · refine (wb _ ?_).2
      rw [List.getD_eq_getElem?_getD, List.getElem?_eq_getElem (by omega)]
      exact List.getElem_mem _
    · unfold wrF
      rw [e2, ← hws, List.getD_eq_getElem?_getD, List.getD_eq_getElem?_getD, List.getElem?_map, List.getElem?_eq_getElem (by omega)]
      rfl
  · have hk : okP o = false := by simpa using hk
    obtain ⟨rfl, rfl⟩ := h0 hk
    have e1 : pcN o = 0 := by unfold pcN pcA; rw [hk]; rfl
    have e2 : wrN o = 0 := by unfold wrN wrA; rw [hk]; rfl
    refine ⟨Ap, cp, Aw, cw, fun _ => wrZ, by rw [e1, e2]; exact he, fun hn => absurd hn (by omega), fun hn => absurd hn (by omega), fun i hi => absurd hi (by omega), fun i hi => absurd hi (by omega)⟩
theorem PWR.piece {W : World} {n m : Nat} {A A' : Option Addr} {P : Nat → PieceD} {K : Nat → Nat × Nat} {X : Nat → WriteD} (h : PWR W n m A A' P K X) {i : Nat} (hi : i < n) : ∃ ad, A = some ad ∧ ad.block < W.heap.size ∧
    W.cell? (ad.add (i * 5)) = some (.int .u64 (P i).f) ∧ W.cell? ⟨(ad.add (i * 5)).block, (ad.add (i * 5)).off + 1, none⟩ = some (.int .u64 (P i).t) ∧ W.cell? ⟨(ad.add (i * 5)).block, (ad.add (i * 5)).off + 2, none⟩ = some (.int .u8 (P i).pr) ∧
    W.cell? ⟨(ad.add (i * 5)).block, (ad.add (i * 5)).off + 3, none⟩ = some (.int .i64 (P i).ino) ∧ W.cell? ⟨(ad.add (i * 5)).block, (ad.add (i * 5)).off + 4, none⟩ = some (.int .u64 (P i).off) := by
  obtain ⟨ad, rfl, hb, hc⟩ := h.rp (by omega)
  have hc := hc i hi
  refine ⟨ad, rfl, hb, hc 0 _ rfl, ?_, ?_, ?_, ?_⟩
  all_goals rw [← add_field]
  · exact hc 1 _ rfl
  · exact hc 2 _ rfl
  · exact hc 3 _ rfl
  · exact hc 4 _ rfl
theorem made_cell {W : World} {g l : Nat} (h : Blk W g 5 (madeCells #[.int .u8 0] l)) {k : Nat} (hk : k < l) : W.cell? ⟨g, k, none⟩ = some (.int .u8 0) := by
  rw [h.cell, ← Array.getElem?_toList, toList_madeCells_one, List.getElem?_replicate, if_pos hk]
theorem PWR.write {W : World} {n m : Nat} {A A' : Option Addr} {P : Nat → PieceD} {K : Nat → Nat × Nat} {X : Nat → WriteD} (h : PWR W n m A A' P K X) {i : Nat} (hi : i < m) : ∃ ad g, A' = some ad ∧ ad.block < W.heap.size ∧
    W.cell? (ad.add (i * 2)) = some (.int .u64 (K i).1) ∧ W.cell? ⟨(ad.add (i * 2)).block, (ad.add (i * 2)).off + 1, none⟩ = some (.slice (some ⟨g, 0, none⟩) (K i).2 (K i).2) ∧ g < W.heap.size ∧ ∀ k, k < (K i).2 → W.cell? ⟨g, k, none⟩ = some (.int .u8 0) := by
  obtain ⟨ad, rfl, hb, hc⟩ := h.rw (by omega)
  have hc := hc i hi
  have hk := h.rk i hi
  have hB := h.rb i hi
  rw [← hk]
  refine ⟨ad, (X i).blk, rfl, hb, hc 0 _ rfl, ?_, hB.lt, fun k hk => made_cell hB hk⟩
  rw [← add_field]
  exact hc 1 _ rfl
theorem LR.call18 {w W : World} {o : ObjD} (h : Hid (LR w o.cs W)) {A' : Option Addr} {q' : Nat} (hr : Hid (StR W W.heap.size 6 A' o.gM (segC o.sg))) (hf : Hid (∀ k, (o.sg k).fits)) (hb : Hid (o.base < M)) : Calls Try.prog 18 #[.agg (o.at A' q').cs] W fun e w' =>
    (∃ Ap cp Aw cw X, e = .returned (.tuple #[.slice Ap (pcN o) cp, .slice Aw (wrN o) cw, .int .i64 (okE o)]) ∧ Hid (PWR w' (pcN o) (wrN o) Ap Aw (pcF o) (wrF o) X)) ∧ LR w o.cs w' :=
  (pieces_any (o.at A' q') W hr.out hf.out hb.out).mono fun e w' hp => by
    obtain ⟨Ap, cp, Aw, cw, X, he, hw⟩ := hp.read
    exact ⟨⟨Ap, cp, Aw, cw, X, he, Lib.hid hw⟩, h.out.next hp.bl⟩
theorem LR.call19 {w W : World} {o : ObjD} (h : Hid (LR w o.cs W)) (hS : Hid (StR w w.heap.size 6 o.gA o.gM (segC o.sg))) (hf : Hid (∀ k, (o.sg k).fits)) (hb : Hid (o.base < M)) : Calls Try.prog 19 #[.agg o.cs] W fun e w' =>
    (∃ Ap cp Aw cw X, e = .returned (.tuple #[.slice Ap (pcN o) cp, .slice Aw (wrN o) cw, .int .i64 (okE o)]) ∧ Hid (PWR w' (pcN o) (wrN o) Ap Aw (pcF o) (wrF o) X)) ∧ Below W.heap.size W w' ∧ LR w o.cs w' :=
  (rpieces_any o W ((hS.out.below h.out.bl).more h.out.bl.size) hf.out hb.out).mono fun e w' hp => by
    obtain ⟨Ap, cp, Aw, cw, X, he, hw⟩ := hp.read
    exact ⟨⟨Ap, cp, Aw, cw, X, he, Lib.hid hw⟩, hp.bl, h.out.next hp.bl⟩
end Go.Proofs.Yticnmgdflkipeaa
