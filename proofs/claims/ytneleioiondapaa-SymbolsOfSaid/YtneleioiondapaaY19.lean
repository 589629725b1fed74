import Derived.Test.YtneleioiondapaaY18
import Derived.Deep.OwnRows
namespace Go.Proofs.Ytneleioiondapaa
open Go.RowKit Go.Shelf Go.Hos
set_option linter.unusedVariables false
/-! rows of structs, flat; texts copied -/
def flatG (F : Nat → Array Value) : Nat → List Value
  | 0 => []
  | n + 1 => flatG F n ++ (F n).toList
theorem flatG_len {F : Nat → Array Value} {sz : Nat} (h : ∀ i, (F i).size = sz) : ∀ n, (flatG F n).length = n * sz
  | 0 => by simp [flatG]
  | n + 1 => by unfold flatG; rw [List.length_append, flatG_len h n, Array.length_toList, h, Nat.succ_mul]
theorem flatG_get {F : Nat → Array Value} {sz : Nat} (h : ∀ i, (F i).size = sz) : ∀ n i j, i < n → j < sz → (flatG F n)[i * sz + j]? = (F i)[j]?
  | n + 1, i, j, hi, hj => by
    unfold flatG
    by_cases e : i = n
    · subst e
      rw [List.getElem?_append_right (by rw [flatG_len h]; omega), flatG_len h, show i * sz + j - i * sz = j by omega, Array.getElem?_toList]
    · rw [List.getElem?_append_left (by rw [flatG_len h]; have : (i + 1) * sz ≤ n * sz := Nat.mul_le_mul_right _ (by omega); rw [Nat.succ_mul] at this; omega)]
      exact flatG_get h n i j (by omega) hj
theorem flatG_one {F : Nat → Array Value} (h : ∀ i, ∀ u ∈ (F i).toList, u.oneCell' = true) : ∀ n, ∀ u ∈ flatG F n, u.oneCell' = true
  | 0, u, hu => by cases hu
  | n + 1, u, hu => by
    unfold flatG at hu
    rcases List.mem_append.1 hu with hu | hu
    · exact flatG_one h n u hu
    · exact h n u hu
theorem StR.readsG {W : World} {B n sz : Nat} {A : Option Addr} {F : Nat → Array Value} (h : StR W B sz A n F) (hs : ∀ i, (F i).size = sz) (hz : 0 < sz) : Reads W B sz A n (flatG F n) := by
  refine ⟨flatG_len hs n, fun hn => ?_⟩
  obtain ⟨ad, rfl, hb, hc⟩ := h hn
  refine ⟨ad, rfl, hb, fun j u hu => ?_⟩
  have hj : j < n * sz := by have := (List.getElem?_eq_some_iff.1 hu).1; rwa [flatG_len hs] at this
  have e : j = j / sz * sz + j % sz := (Nat.div_add_mod' j sz).symm
  have hi : j / sz < n := Nat.div_lt_of_lt_mul (by rw [Nat.mul_comm]; exact hj)
  have hr : j % sz < sz := Nat.mod_lt _ hz
  rw [e] at hu ⊢
  rw [flatG_get hs n _ _ hi hr] at hu
  exact hc _ hi _ u hu
theorem StR.of_ownG {W : World} {base e n c sz : Nat} {A : Option Addr} {F : Nat → Array Value} (h : W.ownsRow base e sz (.slice A n c) n (flatG F n)) (hs : ∀ i, (F i).size = sz) : StR W W.heap.size sz A n F := fun hn => by
  obtain ⟨ad, rfl, hb, hc⟩ := (Reads.of_own h).2 hn
  refine ⟨ad, rfl, hb, fun i hi j u hu => ?_⟩
  have hj : j < sz := by rw [← hs i]; exact (Array.getElem?_eq_some_iff.1 hu).1
  exact hc _ u (by rw [flatG_get hs n i j hi hj]; exact hu)
def txC (T : Nat → ByteArray) : Nat → Array Value := fun k => #[.string (T k)]
theorem txC_get (T : Nat → ByteArray) : ∀ n (xs : List Value), xs.length = n → (∀ k, k < n → xs[k]? = some (.string (T k))) → xs = flatG (txC T) n := fun n xs hl h => by
  refine List.ext_getElem? fun k => ?_
  by_cases hk : k < n
  · have := flatG_get (F := txC T) (sz := 1) (fun _ => rfl) n k 0 hk (by omega)
    rw [Nat.mul_one, Nat.add_zero] at this
    rw [h k hk, this]; rfl
  · rw [List.getElem?_eq_none (by omega), List.getElem?_eq_none (by rw [flatG_len (sz := 1) (fun _ => rfl)]; omega)]
theorem tx_at {W : World} {B n k : Nat} {A : Option Addr} {T : Nat → ByteArray} (h : StR W B 1 A n (txC T)) (hk : k < n) : ∃ ad, A = some ad ∧ ad.block < B ∧ W.cell? (ad.add k) = some (.string (T k)) := by
  obtain ⟨ad, rfl, hb, hc⟩ := h (by omega)
  exact ⟨ad, rfl, hb, by have := hc k hk 0 (.string (T k)) rfl; rwa [Nat.mul_one, Nat.add_zero] at this⟩
structure CT (w : World) (n : Nat) (T : Nat → ByteArray) (j : Nat) (W : World) : Prop where
  bl : Below w.heap.size w W
  ow : ∃ xs, W.ownsRow w.heap.size 9 1 (.slice (some ⟨w.heap.size, 0, none⟩) n n) n xs ∧ ∀ k, j ≤ k → k < n → xs[k]? = some (.string (T k))
theorem CT.set_ {w W : World} {n j : Nat} {T : Nat → ByteArray} (h : CT w n T (j + 1) W) (hj : j < n) : CT w n T j (W.setCell ⟨w.heap.size, j, none⟩ (.string (T j))) := by
  obtain ⟨xs, ho, hx⟩ := h.ow
  have hl : xs.length = n := by rw [ho.1, Nat.mul_one]
  refine ⟨h.bl.setCell (Nat.le_refl _) _, _, (ho.stored j _).1, fun k h1 h2 => ?_⟩
  by_cases e : k = j
  · subst e; rw [List.getElem?_set]; simp; omega
  · rw [List.getElem?_set_ne (by omega)]; exact hx k (by omega) h2
theorem CT.at_ {w W : World} {n j k : Nat} {T : Nat → ByteArray} (h : CT w n T j W) (hk : k < n) : (∃ u, W.cell? ⟨w.heap.size, k, none⟩ = some u) ∧ W.frozen? ⟨w.heap.size, k, none⟩ = false := by
  obtain ⟨xs, ho, hx⟩ := h.ow
  have hl : xs.length = n := by rw [ho.1, Nat.mul_one]
  refine ⟨⟨xs[k]'(by omega), ?_⟩, ho.frozenAt k⟩
  rw [ho.cellAt k (by omega), List.getElem?_eq_getElem (by omega)]
theorem info9s : (Try.prog.info? 9).map (fun i => (i.zero, i.size, i.bytes)) = some (some (.string ⟨#[]⟩), 1, 16) := by kernel_rfl
set_option maxRecDepth 20000 in
set_option maxHeartbeats 800000 in
theorem copytexts_any (A : Option Addr) (n c : Nat) (T : Nat → ByteArray) (w : World) (h : StR w w.heap.size 1 A n (txC T)) (hn : n * 16 ≤ 140737488355328) :
    Calls Try.prog 22 #[.slice A n c] w fun e W' => ∃ A' c', e = .returned (.slice A' n c') ∧ W'.ownsRow w.heap.size 9 1 (.slice A' n c') n (flatG (txC T) n) ∧ Below w.heap.size w W' := by
  have H := Lib.hid h
  have hmm : maxLen = 9223372036854775807 := by simp [maxLen]
  clear h
  by_cases h0 : n = 0
  · subst h0
    go_enter Try.func22, Try.ntmps22
    go_wp2_with fail
    go_ret
    exact ⟨none, 0, rfl, World.ownsRow_nil _ _ _ _, Below.refl _ _⟩
  · obtain ⟨n', hn'⟩ : ∃ n', n = n' + 1 := ⟨n - 1, by omega⟩
    have hmk := run_make_row' (P := Try.prog) 27 9 (.string ⟨#[]⟩) 16 Try.underlying27 info9s rfl .i64 .i64 n (by omega) (by omega)
    have e0 : ((n : Int) == 0) = false := by simp; omega
    have e0' : decide ((n : Int) = 0) = false := by simp; omega
    have e1 : (n : Int) - 1 = (n' : Int) := by omega
    clear hn'
    have C0 : Hid (CT w n T n (w.alloc (.cells (madeCells #[.string ⟨#[]⟩] n) 9))) :=
      Lib.hid ⟨(Below.refl _ _).alloc (Nat.le_refl _) _, _, World.ownsRow_lit w _ n (Nat.le_refl _) (by omega) (by simp [size_madeCells]), fun k h1 h2 => by omega⟩
    go_enter Try.func22, Try.ntmps22
    go_wp2_with fail
    generalize w.alloc (.cells (madeCells #[.string ⟨#[]⟩] n) 9) = W0 at C0 ⊢
    go_loopw [4] (fun v4 wr => ∃ j : Nat, j ≤ n ∧ v4 = .int .i64 ((j : Int) - 1) ∧ Hid (CT w n T j wr)) (fun v4 _ => (intOf v4 + 1).toNat)
    case atStart => exact ⟨n, Nat.le_refl _, by rw [e1], C0⟩
    case round =>
      clear C0 hmk
      obtain ⟨j, hj, rfl, ct⟩ := hrel
      cases j with
      | zero =>
        rw [show ((0 : Nat) : Int) - 1 = -1 from rfl]
        go_wp2_with fail
        go_ret
        obtain ⟨xs, ho, hx⟩ := ct.out.ow
        rw [txC_get T n xs (by rw [ho.1, Nat.mul_one]) (fun k hk => hx k (Nat.zero_le _) hk)] at ho
        exact ⟨_, _, rfl, ho, ct.out.bl⟩
      | succ k =>
        rw [show ((k + 1 : Nat) : Int) - 1 = (k : Int) by omega]
        have hk : k < n := by omega
        have d1 : (k : Int) < (n : Int) := by omega
        have d2 : (0 : Int) ≤ (k : Int) := by omega
        obtain ⟨⟨u, hc⟩, hf⟩ := ct.out.at_ hk
        obtain ⟨ad, rfl, had, ht⟩ := tx_at (H.out.below ct.out.bl) hk
        obtain ⟨s, hs⟩ : ∃ s, s = T k := ⟨_, rfl⟩
        have CN : Hid (CT w n T k (wr.setCell ⟨w.heap.size, k, none⟩ (.string s))) := by rw [hs]; exact Lib.hid (ct.out.set_ hk)
        rw [← hs] at ht
        have l1 := World.block_lt_of_cell? _ _ hc
        have l2 := World.block_lt_of_cell? _ _ ht
        clear hs
        go_wp2_with fail
        go_roundw
        case rel => exact ⟨k, by omega, rfl, CN⟩
        case measure => simp [intOf]
end Go.Proofs.Ytneleioiondapaa
