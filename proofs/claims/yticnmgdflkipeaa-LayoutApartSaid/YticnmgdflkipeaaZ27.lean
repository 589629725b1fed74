import Derived.Test.YticnmgdflkipeaaZ4
import Derived.Test.YticnmgdflkipeaaZ8
import Derived.Test.YticnmgdflkipeaaOpen
import Derived.Test.YticnmgdflkipeaaRows
import Derived.LaidMore
import Derived.Lay
import Derived.WalkKit
import Derived.ChangeMaps5
namespace Go.Proofs.Yticnmgdflkipeaa
open Go Go.ChangeShapes Go.WideShapes Go.ChangeAt Go.RowKit Go.Hos Go.Joins Go.Deep
set_option linter.unusedVariables false
theorem own : ownKnob Try.prog.godebug = none := by kernel_rfl
theorem laidOut : laidOutB Try.prog = true := by kernel_rfl
theorem cl3 : Try.prog.cellsOf 3 = 1 := by kernel_rfl
theorem cl22 : Try.prog.cellsOf 22 = 1 := by kernel_rfl
theorem cl23 : Try.prog.cellsOf 23 = 1 := by kernel_rfl
theorem cl26 : Try.prog.cellsOf 26 = 4 := by kernel_rfl
theorem cl31 : Try.prog.cellsOf 31 = 5 := by kernel_rfl
theorem cl24 : Try.prog.cellsOf 24 = 1 := by kernel_rfl
theorem cl27 : Try.prog.cellsOf 27 = 1 := by kernel_rfl
theorem cl28 : Try.prog.cellsOf 28 = 1 := by kernel_rfl
theorem cl29 : Try.prog.cellsOf 29 = 1 := by kernel_rfl
theorem cl9 : Try.prog.cellsOf 9 = 1 := by kernel_rfl
theorem cl33 : Try.prog.cellsOf 33 = 11 := by kernel_rfl
theorem cl56 : Try.prog.cellsOf 56 = 6 := by kernel_rfl
theorem nat_u64 {x : Int} (h : (Lit.int .u64 x).wf = true) : ∃ n : Nat, x = (n : Int) ∧ n < M := by
  simp [Lit.wf, IntKind.min, IntKind.max, IntKind.signed, IntKind.bits] at h
  obtain ⟨k, rfl⟩ := Int.eq_ofNat_of_zero_le h.1
  exact ⟨k, rfl, by unfold M; omega⟩
theorem nat_u8 {x : Int} (h : (Lit.int .u8 x).wf = true) : ∃ n : Nat, x = (n : Int) := by
  simp [Lit.wf, IntKind.min, IntKind.max, IntKind.signed, IntKind.bits] at h
  obtain ⟨k, rfl⟩ := Int.eq_ofNat_of_zero_le h.1
  exact ⟨k, rfl⟩
theorem nat_u16 {x : Int} (h : (Lit.int .u16 x).wf = true) : ∃ n : Nat, x = (n : Int) := by
  simp [Lit.wf, IntKind.min, IntKind.max, IntKind.signed, IntKind.bits] at h
  obtain ⟨k, rfl⟩ := Int.eq_ofNat_of_zero_le h.1
  exact ⟨k, rfl⟩
theorem nat_u32 {x : Int} (h : (Lit.int .u32 x).wf = true) : ∃ n : Nat, x = (n : Int) := by
  simp [Lit.wf, IntKind.min, IntKind.max, IntKind.signed, IntKind.bits] at h
  obtain ⟨k, rfl⟩ := Int.eq_ofNat_of_zero_le h.1
  exact ⟨k, rfl⟩
def segZ : SegD := ⟨0, 0, 0, 0, 0, 0⟩
theorem segZ_fits : segZ.fits := by unfold SegD.fits segZ M; exact ⟨by decide, by decide, by decide, by decide⟩
section
variable {H : Type} {enc : TypeId × Value → H} {W : World}
theorem sl_form {t e : TypeId} {fuel : Nat} {v : Value} {x : DataW H × List MemPlace} (ht : Try.prog.underlying t = some (.slice e)) (h : DataW.trod enc Try.prog W 0 (fun _ => true) true fuel t [v] = some x) : ∃ A n c, v = .slice A n c := by
  rcases open_slice ht h with ⟨hc, _⟩ | ⟨a, l, c, m, n, D, Pl, hc, _⟩
  · simp at hc; exact ⟨_, _, _, hc⟩
  · simp at hc; exact ⟨_, _, _, hc⟩
theorem segs_of_trod {fuel : Nat} {v : Value} {x : DataW H × List MemPlace} (h : DataW.trod enc Try.prog W 0 (fun _ => true) true fuel 24 [v] = some x) :
    ∃ (A : Option Addr) (n c : Nat) (S : Nat → SegD), v = .slice A n c ∧ StR W W.heap.size 6 A n (segC S) ∧ n ≤ maxLen ∧ ∀ k, (S k).fits := by
  rcases open_slice_fields Try.underlying24 Try.underlying56 (by kernel_rfl) (by rw [cl56]; rfl) h with ⟨hcs, _⟩ | ⟨a, l, c, m', D, Pl, hcs, _, hl, hc, hmm, _, hf⟩
  · simp at hcs
    exact ⟨none, 0, 0, fun _ => segZ, hcs, fun h => absurd h (by omega), by simp [maxLen], fun _ => segZ_fits⟩
  · simp at hcs
    have key : ∀ k, ∃ s : SegD, s.fits ∧ (k < l → ∀ j u, s.cs[j]? = some u → W.cell? (a.add (k * 6 + j)) = some u) := by
      intro k
      by_cases hk : k < l
      · obtain ⟨ys, n, _, _, _, hfi⟩ := hf k (by rw [hmm]; simp; omega)
        obtain ⟨u0, y0, c0', _, t0⟩ := hfi 0 _ rfl
        obtain ⟨u1, y1, c1', _, t1⟩ := hfi 1 _ rfl
        obtain ⟨u2, y2, c2', _, t2⟩ := hfi 2 _ rfl
        obtain ⟨u3, y3, c3', _, t3⟩ := hfi 3 _ rfl
        obtain ⟨u4, y4, c4', _, t4⟩ := hfi 4 _ rfl
        obtain ⟨u5, y5, c5', _, t5⟩ := hfi 5 _ rfl
        obtain ⟨a0, e0, _, w0⟩ := DataW.trod_int Try.underlying54 t0
        obtain ⟨a1, e1, _, w1⟩ := DataW.trod_int Try.underlying5 t1
        obtain ⟨a2, e2, _, w2⟩ := DataW.trod_int Try.underlying22 t2
        obtain ⟨a3, e3, _, w3⟩ := DataW.trod_int Try.underlying22 t3
        obtain ⟨a4, e4, _, w4⟩ := DataW.trod_int Try.underlying22 t4
        obtain ⟨a5, e5, _, w5⟩ := DataW.trod_int Try.underlying22 t5
        obtain ⟨b0, rfl⟩ := nat_u32 w0
        obtain ⟨b1, rfl⟩ := nat_u8 w1
        obtain ⟨b2, rfl, l2⟩ := nat_u64 w2
        obtain ⟨b3, rfl, l3⟩ := nat_u64 w3
        obtain ⟨b4, rfl, l4⟩ := nat_u64 w4
        obtain ⟨b5, rfl, l5⟩ := nat_u64 w5
        simp at e0 e1 e2 e3 e4 e5
        subst e0 e1 e2 e3 e4 e5
        refine ⟨⟨b0, b1, b2, b3, b4, b5⟩, ⟨l2, l3, l4, l5⟩, fun _ j u hu => ?_⟩
        unfold SegD.cs at hu
        dsimp only at hu
        match j, hu with
        | 0, hu => obtain rfl := Option.some.inj hu; exact c0'
        | 1, hu => obtain rfl := Option.some.inj hu; exact c1'
        | 2, hu => obtain rfl := Option.some.inj hu; exact c2'
        | 3, hu => obtain rfl := Option.some.inj hu; exact c3'
        | 4, hu => obtain rfl := Option.some.inj hu; exact c4'
        | 5, hu => obtain rfl := Option.some.inj hu; exact c5'
        | j + 6, hu => simp at hu
      · exact ⟨segZ, segZ_fits, fun h => absurd h hk⟩
    refine ⟨some a, l, c, fun k => Classical.choose (key k), hcs, fun hn => ⟨a, rfl, ?_, fun i hi j u hu => (Classical.choose_spec (key i)).2 hi j u hu⟩, by omega, fun k => (Classical.choose_spec (key k)).1⟩
    have h0 := (Classical.choose_spec (key 0)).2 hn 0 _ rfl
    have := World.block_lt_of_cell? W _ h0
    rwa [block_of_add] at this
theorem obj_of_trod {fuel : Nat} {cs : List Value} {x : DataW H × List MemPlace} (h : DataW.trod enc Try.prog W 0 (fun _ => true) true fuel 33 cs = some x) :
    ∃ o : ObjD, cs = o.cs.toList ∧ o.gM ≤ maxLen ∧ StR W W.heap.size 6 o.gA o.gM (segC o.sg) ∧ (∀ k, (o.sg k).fits) ∧ o.base < M := by
  obtain ⟨xs, n, _, _, hlen, hxl, hg⟩ := DataW.trod_struct Try.underlying33 h
  rw [cl33] at hlen
  match cs, hlen with
  | [c0, c1, c2, c3, c4, c5, c6, c7, c8, c9, c10], _ =>
    have g0 : DataW.trod enc Try.prog W 0 (fun _ => true) true n 3 [c0] = xs[0]? := by
      have := hg 0 _ rfl
      rw [show (Field.type _) = 3 from rfl, cl3] at this
      exact this
    have g1 : DataW.trod enc Try.prog W 0 (fun _ => true) true n 22 [c1] = xs[1]? := by
      have := hg 1 _ rfl
      rw [show (Field.type _) = 22 from rfl, cl22] at this
      exact this
    have g2 : DataW.trod enc Try.prog W 0 (fun _ => true) true n 26 [c2, c3, c4, c5] = xs[2]? := by
      have := hg 2 _ rfl
      rw [show (Field.type _) = 26 from rfl, cl26] at this
      exact this
    have g3 : DataW.trod enc Try.prog W 0 (fun _ => true) true n 31 [c6, c7, c8, c9, c10] = xs[3]? := by
      have := hg 3 _ rfl
      rw [show (Field.type _) = 31 from rfl, cl31] at this
      exact this
    have hx4 : xs.length = 4 := hxl
    rw [List.getElem?_eq_getElem (by omega)] at g0 g1 g2 g3
    obtain ⟨a0, e0, _, _⟩ := DataW.trod_int Try.underlying3 g0
    obtain ⟨a1, e1, _, w1⟩ := DataW.trod_int Try.underlying22 g1
    obtain ⟨ys, n2, _, _, _, hyl, hh⟩ := DataW.trod_struct Try.underlying26 g2
    obtain ⟨zs, n3, _, _, _, hzl, hd⟩ := DataW.trod_struct Try.underlying31 g3
    have hy4 : ys.length = 4 := hyl
    have hz5 : zs.length = 5 := hzl
    have k0 : DataW.trod enc Try.prog W 0 (fun _ => true) true n2 23 [c2] = ys[0]? := by
      have := hh 0 _ rfl
      rw [show (Field.type _) = 23 from rfl, cl23] at this
      exact this
    have k1 : DataW.trod enc Try.prog W 0 (fun _ => true) true n2 22 [c3] = ys[1]? := by
      have := hh 1 _ rfl
      rw [show (Field.type _) = 22 from rfl, cl22] at this
      exact this
    have k2 : DataW.trod enc Try.prog W 0 (fun _ => true) true n2 22 [c4] = ys[2]? := by
      have := hh 2 _ rfl
      rw [show (Field.type _) = 22 from rfl, cl22] at this
      exact this
    have k3 : DataW.trod enc Try.prog W 0 (fun _ => true) true n2 24 [c5] = ys[3]? := by
      have := hh 3 _ rfl
      rw [show (Field.type _) = 24 from rfl, cl24] at this
      exact this
    have l0 : DataW.trod enc Try.prog W 0 (fun _ => true) true n3 27 [c6] = zs[0]? := by
      have := hd 0 _ rfl
      rw [show (Field.type _) = 27 from rfl, cl27] at this
      exact this
    have l1 : DataW.trod enc Try.prog W 0 (fun _ => true) true n3 9 [c7] = zs[1]? := by
      have := hd 1 _ rfl
      rw [show (Field.type _) = 9 from rfl, cl9] at this
      exact this
    have l2 : DataW.trod enc Try.prog W 0 (fun _ => true) true n3 9 [c8] = zs[2]? := by
      have := hd 2 _ rfl
      rw [show (Field.type _) = 9 from rfl, cl9] at this
      exact this
    have l3 : DataW.trod enc Try.prog W 0 (fun _ => true) true n3 28 [c9] = zs[3]? := by
      have := hd 3 _ rfl
      rw [show (Field.type _) = 28 from rfl, cl28] at this
      exact this
    have l4 : DataW.trod enc Try.prog W 0 (fun _ => true) true n3 29 [c10] = zs[4]? := by
      have := hd 4 _ rfl
      rw [show (Field.type _) = 29 from rfl, cl29] at this
      exact this
    rw [List.getElem?_eq_getElem (by omega)] at k0 k1 k2 k3 l0 l1 l2 l3 l4
    obtain ⟨b0, f0, _, x0⟩ := DataW.trod_int Try.underlying23 k0
    obtain ⟨b1, f1, _, _⟩ := DataW.trod_int Try.underlying22 k1
    obtain ⟨b2, f2, _, _⟩ := DataW.trod_int Try.underlying22 k2
    obtain ⟨gA, gM, gQ, S, rfl, hS, hSl, hSf⟩ := segs_of_trod k3
    obtain ⟨nA, nM, nQ, rfl⟩ := sl_form Try.underlying27 l0
    obtain ⟨so, f7, _, _⟩ := DataW.trod_string Try.underlying9 l1
    obtain ⟨rn, f8, _, _⟩ := DataW.trod_string Try.underlying9 l2
    obtain ⟨sA, sM, sQ, rfl⟩ := sl_form Try.underlying28 l3
    obtain ⟨rA, rM, rQ, rfl⟩ := sl_form Try.underlying29 l4
    obtain ⟨base, rfl, hbl⟩ := nat_u64 w1
    obtain ⟨ty, rfl⟩ := nat_u16 x0
    simp at e0 e1 f0 f1 f2 f7 f8
    subst e0 e1 f0 f1 f2 f7 f8
    exact ⟨⟨a0, base, ty, b1, b2, gA, gM, gQ, nA, nM, nQ, so, rn, sA, sM, sQ, rA, rM, rQ, S⟩, rfl, hSl, hS, hSf, hbl⟩
/-- an object that came in by value -/
theorem open_obj {r : Reach} {b0 : Nat} {v : Value} {d : DataW H} {p : List MemPlace} (hv : Value.okWide Try.prog W r b0 33 v) (h : DataW.Trod enc Try.prog W 0 (fun _ => true) true 33 v d p) :
    ∃ o : ObjD, v = .agg o.cs ∧ StR W W.heap.size 6 o.gA o.gM (segC o.sg) ∧ o.gM ≤ maxLen ∧ (∀ k, (o.sg k).fits) ∧ o.base < M := by
  obtain ⟨f, hf⟩ := h
  obtain ⟨cs, rfl, hsz⟩ := okWide_struct Try.underlying33 hv
  obtain ⟨o, ho, h1, h2, h3, h4⟩ := obj_of_trod (cs := cs.toList) (by simpa [Value.cells] using hf)
  exact ⟨o, by rw [Array.toList_inj.1 ho], h2, h1, h3, h4⟩
end
end Go.Proofs.Yticnmgdflkipeaa
