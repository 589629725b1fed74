import Derived.Test.YtlenjpgkmikgpaaR12
namespace Go.Proofs.Ytlenjpgkmikgpaa
open Go.RowKit Go.Shelf Go.Hos
set_option linter.unusedVariables false
/-! writes that read: plain -/
theorem byL_get (x : Nat) : ∀ k j, j < k → (byL x k)[j]? = some (x / 256 ^ j % 256)
  | k + 1, j, h => by
    rw [byL]
    by_cases e : j < k
    · rw [List.getElem?_append_left (by rw [byL_len]; exact e), byL_get x k j e]
    · obtain rfl : j = k := by omega
      rw [List.getElem?_append_right (by rw [byL_len]; exact Nat.le_refl _), byL_len, Nat.sub_self]
      rfl
def byteV (x j : Nat) : Value := .int .u8 ((x / 256 ^ j % 256 : Nat) : Int)
/-- writes that read: their heads, their bytes (where F) -/
structure WB (F : Prop) (W : World) (lo K : Nat) (A : Option Addr) (P : Nat → PatD) (V : Nat → Nat) (D : Nat → WrD) : Prop where
  hd : 0 < K → ∃ g ch, A = some ⟨g, 0, none⟩ ∧ lo ≤ g ∧ Blk W g 38 ch ∧ ∀ i, i < K → ch[i * 2]? = some (.int .u64 (P i).at_) ∧ ch[i * 2 + 1]? = some (.slice (some ⟨(D i).blk, 0, none⟩) (D i).len (D i).cap)
  bs : ∀ i, i < K → lo ≤ (D i).blk ∧ ((D i).len : Int) = (P i).size ∧ ∃ cs, Blk W (D i).blk 5 cs ∧ (D i).len ≤ cs.size ∧ (D i).len ≤ 8 ∧ (F → ∀ j, j < (D i).len → cs[j]? = some (byteV (V i) j))
theorem flatW_get : ∀ (l : List WrD) i d, l[i]? = some d → (flatW l)[i * 2]? = some (.int .u64 d.at_) ∧ (flatW l)[i * 2 + 1]? = some (.slice (some ⟨d.blk, 0, none⟩) d.len d.cap)
  | q :: r, 0, d, h => by
    obtain rfl := Option.some.inj h
    exact ⟨rfl, rfl⟩
  | q :: r, i + 1, d, h => by
    have ih := flatW_get r i d (by simpa using h)
    have e : flatW (q :: r) = .int .u64 q.at_ :: .slice (some ⟨q.blk, 0, none⟩) q.len q.cap :: flatW r := rfl
    rw [e, show (i + 1) * 2 = i * 2 + 1 + 1 by omega]
    exact ih
theorem WS.wb {w W : World} {P : Nat → PatD} {V : Nat → Nat} {n c : Nat} {ds : List WrD} {A : Option Addr} (h : WS w P V n ds (.slice A n c) W) (hp : ∀ i, i < n → 0 < (P i).size ∧ (P i).size ≤ 8) : ∃ D, WB True W w.heap.size n A P V D := by
  refine ⟨fun i => (ds[i]?).getD ⟨0, 0, 0, 0⟩, fun hn => ?_, fun i hi => ?_⟩
  · rcases h.ow.2 with ⟨_, e⟩ | ⟨g, cap, cur, hv, hg, hb, h1, h2, h3, h4⟩
    · have := h.len; omega
    · obtain rfl : A = some ⟨g, 0, none⟩ := by injection hv
      refine ⟨g, cur, rfl, hg, hb, fun i hi => ?_⟩
      obtain ⟨d, hd⟩ : ∃ d, ds[i]? = some d := ⟨ds[i]'(by rw [h.len]; exact hi), List.getElem?_eq_getElem _⟩
      simp only [hd, Option.getD_some]
      obtain ⟨f1, f2⟩ := flatW_get ds i d hd
      rw [← (h.at_ i d hd).1]
      rw [← h4, List.getElem?_take] at f1 f2
      have hl := h.len
      rw [if_pos (by omega), Array.getElem?_toList] at f1 f2
      exact ⟨f1, f2⟩
  · obtain ⟨d, hd⟩ : ∃ d, ds[i]? = some d := ⟨ds[i]'(by rw [h.len]; exact hi), List.getElem?_eq_getElem _⟩
    simp only [hd, Option.getD_some]
    obtain ⟨_, a2, a3⟩ := h.at_ i d hd
    have h0 := hp i hi
    rcases a3.2 with ⟨_, e⟩ | ⟨g, cap, cur, hv, hg, hb, h1, h2, h3, h4⟩
    · exact absurd e (by omega)
    · obtain ⟨rfl, rfl⟩ : d.blk = g ∧ d.cap = cap := by injection hv with e1 e2 e3; injection e1 with e1; injection e1 with e1; exact ⟨e1, e3⟩
      refine ⟨hg, a2, cur, hb, by omega, by omega, fun _ j hj => ?_⟩
      have hj : j < d.len := hj
      have : (Wrd.B8 (byL (V i) d.len))[j]? = some (byteV (V i) j) := by
        unfold Wrd.B8
        rw [List.getElem?_map, byL_get _ _ _ hj]
        rfl
      rw [← h4, List.getElem?_take, if_pos (by omega), Array.getElem?_toList] at this
      exact this
theorem WB.weak {F : Prop} {W : World} {lo K : Nat} {A : Option Addr} {P : Nat → PatD} {V : Nat → Nat} {D : Nat → WrD} (h : WB F W lo K A P V D) : WB False W lo K A P V D :=
  ⟨h.hd, fun i hi => ⟨(h.bs i hi).1, (h.bs i hi).2.1, (h.bs i hi).2.2.elim fun cs x => ⟨cs, x.1, x.2.1, x.2.2.1, fun f => f.elim⟩⟩⟩
theorem WB.keep {F : Prop} {W W' : World} {lo K : Nat} {A : Option Addr} {P : Nat → PatD} {V : Nat → Nat} {D : Nat → WrD} (h : WB F W lo K A P V D) (hk : ∀ g, lo ≤ g → g < W.heap.size → W'.heap[g]? = W.heap[g]?) : WB F W' lo K A P V D :=
  ⟨fun hn => by
    obtain ⟨g, ch, e, hg, hb, r⟩ := h.hd hn
    exact ⟨g, ch, e, hg, (hk g hg hb.lt).trans hb, r⟩, fun i hi => by
    obtain ⟨a, b, cs, hb, r⟩ := h.bs i hi
    exact ⟨a, b, cs, (hk _ a hb.lt).trans hb, r⟩⟩
theorem WB.next {F : Prop} {W W' : World} {lo K : Nat} {A : Option Addr} {P : Nat → PatD} {V : Nat → Nat} {D : Nat → WrD} (h : WB F W lo K A P V D) (hb : Below W.heap.size W W') : WB F W' lo K A P V D :=
  h.keep fun g _ hg => hb.block g hg
theorem WB.store {F : Prop} {W : World} {lo K : Nat} {A : Option Addr} {P : Nat → PatD} {V : Nat → Nat} {D : Nat → WrD} (h : WB F W lo K A P V D) {i j : Nat} (hi : i < K) (u : Value) : WB False (W.setCell ⟨(D i).blk, j, none⟩ u) lo K A P V D := by
  obtain ⟨_, _, cs0, hb0, _⟩ := h.bs i hi
  refine ⟨fun hn => ?_, fun k hk => ?_⟩
  · obtain ⟨g, ch, e, hg, hb, r⟩ := h.hd hn
    exact ⟨g, ch, e, hg, hb.far (p := ⟨(D i).blk, j, none⟩) (Blk.ne_ hb hb0 (by decide)) u, r⟩
  · obtain ⟨a, b, cs, hb, hl, h8, _⟩ := h.bs k hk
    by_cases e : (D k).blk = (D i).blk
    · rw [e] at hb
      refine ⟨a, b, cs.setIfInBounds j u, by rw [e]; exact hb.set_ j u, by simpa using hl, h8, fun f => f.elim⟩
    · exact ⟨a, b, cs, hb.far (p := ⟨(D i).blk, j, none⟩) e u, hl, h8, fun f => f.elim⟩
theorem WB.drewN {F : Prop} {W : World} {lo K : Nat} {A : Option Addr} {P : Nat → PatD} {V : Nat → Nat} {D : Nat → WrD} (h : WB F W lo K A P V D) (p : Nat) : WB F (W.drewN p) lo K A P V D := h.keep fun _ _ _ => rfl
/-- a write's head in the walk's own words -/
theorem WB.head {F : Prop} {W : World} {lo K : Nat} {A : Option Addr} {P : Nat → PatD} {V : Nat → Nat} {D : Nat → WrD} (h : WB F W lo K A P V D) {i : Nat} (hi : i < K) : ∃ ad bd k, A = some ad ∧ lo ≤ ad.block ∧ ad.block < W.heap.size ∧ bd = (⟨(D i).blk, 0, none⟩ : Addr) ∧ k = (D i).len ∧ (k : Int) = (P i).size ∧ k ≤ 8 ∧ lo ≤ bd.block ∧ bd.block < W.heap.size ∧
    W.cell? (ad.add (i * 2)) = some (.int .u64 (P i).at_) ∧ W.cell? ⟨(ad.add (i * 2)).block, (ad.add (i * 2)).off + 1, none⟩ = some (.slice (some bd) k (D i).cap) := by
  obtain ⟨g, ch, e, hg, hb, r⟩ := h.hd (by omega)
  obtain ⟨r1, r2⟩ := r i hi
  obtain ⟨a, b, cs, hbb, _, h8, _⟩ := h.bs i hi
  refine ⟨⟨g, 0, none⟩, _, _, e, hg, hb.lt, rfl, rfl, b, h8, a, hbb.lt, ?_, ?_⟩
  · rw [Addr.add_mid, Nat.zero_add, hb.cell]; exact r1
  · rw [Addr.add_mid, Nat.zero_add, hb.cell]; exact r2
theorem WB.byte {W : World} {lo K : Nat} {A : Option Addr} {P : Nat → PatD} {V : Nat → Nat} {D : Nat → WrD} (h : WB True W lo K A P V D) {i : Nat} (hi : i < K) {bd : Addr} (e : bd = ⟨(D i).blk, 0, none⟩) {j : Nat} (hj : j < (D i).len) : W.cell? (bd.add j) = some (byteV (V i) j) := by
  obtain ⟨a, b, cs, hb, hl, h8, hc⟩ := h.bs i hi
  rw [e, Addr.add_mid, Nat.zero_add, hb.cell]
  exact hc trivial j hj
theorem WB.some_ {F : Prop} {W : World} {lo K : Nat} {A : Option Addr} {P : Nat → PatD} {V : Nat → Nat} {D : Nat → WrD} (h : WB F W lo K A P V D) {i : Nat} (hi : i < K) {bd : Addr} (e : bd = ⟨(D i).blk, 0, none⟩) {j : Nat} (hj : j < (D i).len) : (∃ u, W.cell? (bd.add j) = some u) ∧ W.frozen? (bd.add j) = false := by
  obtain ⟨a, b, cs, hb, hl, _⟩ := h.bs i hi
  rw [e, Addr.add_mid, Nat.zero_add, hb.cell]
  exact ⟨⟨cs[j]'(by omega), Array.getElem?_eq_getElem _⟩, hb.frozen _⟩
/-- how many are told -/
def numW (P : Nat → PatD) (n : Nat) : Nat := if okW P n then n else 0
theorem WrP.rows {w W' : World} {P : Nat → PatD} {V : Nat → Nat} {n : Nat} {e : Ending} (h : WrP w P V n e W') : ∃ A c D, e = .returned (.tuple #[.slice A (numW P n) c, .int .i64 (if okW P n then 0 else 1)]) ∧ WB True W' w.heap.size (numW P n) A P V D ∧ Below w.heap.size w W' := by
  obtain ⟨bl, A, k, c, he, h0, h1⟩ := h
  unfold numW
  cases hk : okW P n with
  | false =>
    obtain rfl := h0 hk
    rw [hk] at he
    exact ⟨A, c, fun _ => ⟨0, 0, 0, 0⟩, he, ⟨fun h => absurd h (by simp), fun i hi => absurd hi (by simp)⟩, bl⟩
  | true =>
    obtain ⟨rfl, ds, ws⟩ := h1 hk
    rw [hk] at he
    obtain ⟨D, hD⟩ := ws.wb fun i hi => by
      have := okW_at hi hk
      unfold Wrd.szB at this
      have := of_decide_eq_true this
      exact ⟨by omega, by omega⟩
    exact ⟨A, c, D, he, hD, bl⟩
/-- the state of the loop that lays other bytes into the first answer -/
structure LE (W1 W2 W3 : World) (K : Nat) (A : Option Addr) (P : Nat → PatD) (V : Nat → Nat) (D : Nat → WrD) (W : World) : Prop where
  bl : Below W1.heap.size W1 W
  sz : W.heap.size = W3.heap.size
  hi : ∀ g, W2.heap.size ≤ g → W.heap[g]? = W3.heap[g]?
  wb : WB False W W1.heap.size K A P V D
theorem LE.store {W1 W2 W3 W : World} {K : Nat} {A : Option Addr} {P : Nat → PatD} {V : Nat → Nat} {D : Nat → WrD} (h : LE W1 W2 W3 K A P V D W) (hD : ∀ i, i < K → (D i).blk < W2.heap.size) {i j : Nat} (hi : i < K) {bd : Addr} (e : bd = ⟨(D i).blk, 0, none⟩) (u : Value) : LE W1 W2 W3 K A P V D (W.setCell (bd.add j) u) := by
  rw [e, Addr.add_mid, Nat.zero_add]
  refine ⟨h.bl.setCell (h.wb.bs i hi).1 u, by rw [← h.sz]; simp [World.setCell], fun g hg => ?_, h.wb.store hi u⟩
  rw [Below.heap_setCell W ⟨(D i).blk, j, none⟩ u g (by have := hD i hi; show g ≠ (D i).blk; omega)]
  exact h.hi g hg
end Go.Proofs.Ytlenjpgkmikgpaa
