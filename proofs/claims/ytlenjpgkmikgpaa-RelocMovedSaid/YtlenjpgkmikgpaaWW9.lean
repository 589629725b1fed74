import Derived.Test.YtlenjpgkmikgpaaWW7
namespace Go.Proofs.Ytlenjpgkmikgpaa.Wrd
open Go.RowKit Go.Hos
set_option linter.unusedVariables false

/-- the bytes with the first k bytes of a number laid at a place -/
def setv (bs : List Nat) (at_ x : Nat) : Nat → List Nat
  | 0 => bs
  | k + 1 => (setv bs at_ x k).set (at_ + k) (x / 256 ^ k % 256)
theorem setv_len (bs : List Nat) (at_ x k : Nat) : (setv bs at_ x k).length = bs.length := by
  induction k with
  | zero => rfl
  | succ k ih => simp [setv, ih]
theorem shr_byte (x k : Nat) : IntKind.u8.wrap ((x : Int) / 2 ^ (8 * k)) = ((x / 256 ^ k % 256 : Nat) : Int) := by
  have e : (x : Int) / 2 ^ (8 * k) = ((x / 256 ^ k : Nat) : Int) := by
    rw [show 256 ^ k = 2 ^ (8 * k) by rw [show 256 = 2 ^ 8 from rfl, ← Nat.pow_mul]]
    rw [Int.natCast_ediv, Int.natCast_pow]; rfl
  rw [e, IntKind.wrap_u8]
  omega

/-- a slice of bytes of the call's own -/
structure OV (w : World) (B : Nat) (A : Option Addr) (n c : Nat) (bs : List Nat) (W : World) : Prop where
  own : W.ownsRow B 5 1 (.slice A n c) n (B8 bs)
  low : Below B w W
theorem OV.at_ {w W : World} {B n c : Nat} {A : Option Addr} {bs : List Nat} (h : OV w B A n c bs W) (hn : 0 < n) : ∃ g, A = some ⟨g, 0, none⟩ ∧ B ≤ g ∧ n ≤ c := by
  rcases h.own.2 with ⟨_, h0⟩ | ⟨g, cap, cur, e, hb, hg, hc, _⟩
  · omega
  · injection e with e1 e2 e3
    exact ⟨g, e1, hb, by omega⟩
theorem OV.store {w W : World} {B g n c : Nat} {bs : List Nat} (h : OV w B (some ⟨g, 0, none⟩) n c bs W) (hg : B ≤ g) (j x : Nat) : OV w B (some ⟨g, 0, none⟩) n c (bs.set j x) (W.setCell ⟨g, j, none⟩ (.int .u8 (x : Int))) :=
  ⟨by rw [b8_set]; exact (h.own.stored j _).1, h.low.setCell hg _⟩
theorem OV.cell {w W : World} {B g n c : Nat} {bs : List Nat} (h : OV w B (some ⟨g, 0, none⟩) n c bs W) {j : Nat} (hj : j < n) : (∃ y, W.cell? ⟨g, j, none⟩ = some y) ∧ W.frozen? ⟨g, j, none⟩ = false := by
  have h1 := h.own.cellAt j (by omega)
  have h2 := h.own.1
  rw [List.getElem?_eq_getElem (by omega)] at h1
  exact ⟨⟨_, h1⟩, h.own.frozenAt j⟩
theorem OV.drewN {w W : World} {B n c : Nat} {A : Option Addr} {bs : List Nat} (h : OV w B A n c bs W) (k : Nat) : OV w B A n c bs (W.drewN k) := ⟨h.own, below_drewN h.low k⟩

set_option maxHeartbeats 800000 in
theorem set_ok (A : Option Addr) (len c at_ n x B : Nat) (bs : List Nat) (w : World) (h : Reads w B 1 A len (B8 bs)) (hB : B ≤ w.heap.size) (hl : len ≤ 140737488355328) (hz : szB n = true) (hin : at_ + n ≤ len) (hx : x < M) :
    Calls Try.prog 23 #[.slice A len c, .int .u64 at_, .int .i64 n, .int .u64 x] w fun e w' => ∃ v, e = .returned (.tuple #[v, .int .i64 0]) ∧ w'.ownsRow w.heap.size 5 1 v len (B8 (setv bs at_ x n)) ∧ Below w.heap.size w w' := by
  have hn8 : 1 ≤ n ∧ n ≤ 8 := by have := of_decide_eq_true hz; omega
  have H := Lib.hid h
  have HZ := Lib.hid hz
  have HX := Lib.hid hx
  have HL := b8_len h
  have HLL := Lib.hid HL
  clear h hz HL hx
  go_enter Try.func23, Try.ntmps23
  go_wp2_with fail
  refine (check_any A len c at_ n _ (by omega) (by unfold M; omega)).mono ?_
  rintro e w1 ⟨rfl, hb1⟩
  rw [plc_yes HZ.out (by simpa using hin)]
  have HB : Hid (Below w.heap.size w w1) := hb1
  have H1 : Hid (Reads w1 B 1 A len (B8 bs)) := H.out.below (hb1.mono hB)
  clear hb1
  go_wp2_with fail
  refine (clone_any A len c bs B _ H1.out (by have := HB.out.size; omega) hl).mono ?_
  rintro e w2 ⟨v, rfl, ho2, hb2⟩
  obtain ⟨A2, c2, rfl⟩ := ownsRow_val ho2
  have O2 : Hid (OV w w.heap.size A2 len c2 bs w2) := ⟨owns_base ho2 HB.out.size, HB.out.trans (hb2.mono HB.out.size)⟩
  clear ho2 hb2
  obtain ⟨g, hA2, hg, hc2⟩ := O2.out.at_ (by omega)
  subst hA2
  go_wp2_with fail
  go_loopw [23] (fun i wr => ∃ k : Nat, k ≤ n ∧ i = .int .i64 k ∧ Hid (OV w w.heap.size (some ⟨g, 0, none⟩) len c2 (setv bs at_ x k) wr)) (fun i _ => n - (intOf i).toNat)
  case atStart => exact ⟨0, by omega, rfl, O2⟩
  case round =>
    obtain ⟨k, hk, rfl, ho⟩ := hrel
    by_cases hlt : k < n
    · obtain ⟨⟨y, hy⟩, hf⟩ := ho.out.cell (j := at_ + k) (by omega)
      have w3 := shr_byte x k
      obtain ⟨Z, hZ⟩ : ∃ Z, Z = x / 256 ^ k % 256 := ⟨_, rfl⟩
      rw [← hZ] at w3
      have HZZ := Lib.hid hZ
      clear hZ
      go_wp2_with fail
      go_roundw
      case rel => exact ⟨k + 1, by omega, by go_num, by have h1 := ho.out.store hg (at_ + k) Z; rw [HZZ.out] at h1 ⊢; exact h1⟩
      case measure => simp [intOf]; omega
    · have hkn : k = n := by omega
      have HKN := Lib.hid hkn
      clear hkn
      go_wp2_with fail
      go_ret2
      exact ⟨_, rfl, by rw [← HKN.out]; exact ho.out.own, ho.out.low⟩

end Go.Proofs.Ytlenjpgkmikgpaa.Wrd
