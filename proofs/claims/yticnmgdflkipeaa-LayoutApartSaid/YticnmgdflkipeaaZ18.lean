import Derived.Test.YticnmgdflkipeaaZ17
import Derived.Deep.OwnRows
import Derived.Lib.SlBuf
namespace Go.Proofs.Yticnmgdflkipeaa
open Go.RowKit Go.Shelf Go.Hos
set_option linter.unusedVariables false
/-! rows of structs, flat; objects in a row; slices.Clone -/
def flatG (F : Nat → Array Value) : Nat → List Value
  | 0 => []
  | n + 1 => flatG F n ++ (F n).toList
theorem flatG_len {F : Nat → Array Value} {sz : Nat} (h : ∀ i, (F i).size = sz) : ∀ n, (flatG F n).length = n * sz
  | 0 => by simp [flatG]
  | n + 1 => by unfold flatG; rw [List.length_append, flatG_len h n, Array.length_toList, h, Nat.succ_mul]
theorem flatG_get {F : Nat → Array Value} {sz : Nat} (h : ∀ i, (F i).size = sz) : ∀ n i j, i < n → j < sz → (flatG F n)[i * sz + j]? = (F i)[j]?
  | n + 1, i, j, hi, hj => by
    unfold flatG
    by_cases e : i = n
    · subst e
      rw [List.getElem?_append_right (by rw [flatG_len h]; omega), flatG_len h, show i * sz + j - i * sz = j by omega, Array.getElem?_toList]
    · rw [List.getElem?_append_left (by rw [flatG_len h]; have : (i + 1) * sz ≤ n * sz := Nat.mul_le_mul_right _ (by omega); rw [Nat.succ_mul] at this; omega)]
      exact flatG_get h n i j (by omega) hj
theorem flatG_one {F : Nat → Array Value} (h : ∀ i, ∀ u ∈ (F i).toList, u.oneCell' = true) : ∀ n, ∀ u ∈ flatG F n, u.oneCell' = true
  | 0, u, hu => by cases hu
  | n + 1, u, hu => by
    unfold flatG at hu
    rcases List.mem_append.1 hu with hu | hu
    · exact flatG_one h n u hu
    · exact h n u hu
theorem StR.readsG {W : World} {B n sz : Nat} {A : Option Addr} {F : Nat → Array Value} (h : StR W B sz A n F) (hs : ∀ i, (F i).size = sz) (hz : 0 < sz) : Reads W B sz A n (flatG F n) := by
  refine ⟨flatG_len hs n, fun hn => ?_⟩
  obtain ⟨ad, rfl, hb, hc⟩ := h hn
  refine ⟨ad, rfl, hb, fun j u hu => ?_⟩
  have hj : j < n * sz := by have := (List.getElem?_eq_some_iff.1 hu).1; rwa [flatG_len hs] at this
  have e : j = j / sz * sz + j % sz := (Nat.div_add_mod' j sz).symm
  have hi : j / sz < n := Nat.div_lt_of_lt_mul (by rw [Nat.mul_comm]; exact hj)
  have hr : j % sz < sz := Nat.mod_lt _ hz
  rw [e] at hu ⊢
  rw [flatG_get hs n _ _ hi hr] at hu
  exact hc _ hi _ u hu
theorem StR.of_ownG {W : World} {base e n c sz : Nat} {A : Option Addr} {F : Nat → Array Value} (h : W.ownsRow base e sz (.slice A n c) n (flatG F n)) (hs : ∀ i, (F i).size = sz) : StR W W.heap.size sz A n F := fun hn => by
  obtain ⟨ad, rfl, hb, hc⟩ := (Reads.of_own h).2 hn
  refine ⟨ad, rfl, hb, fun i hi j u hu => ?_⟩
  have hj : j < sz := by rw [← hs i]; exact (Array.getElem?_eq_some_iff.1 hu).1
  exact hc _ u (by rw [flatG_get hs n i j hi hj]; exact hu)
theorem owns_below {W W' : World} {base e s n : Nat} {v : Value} {xs : List Value} (h : W.ownsRow base e s v n xs) (hb : Below W.heap.size W W') : W'.ownsRow base e s v n xs :=
  h.kept (row := none) ⟨hb.os, hb.tape, hb.output, hb.size, fun k hk _ => hb.block k hk⟩ (by
    rcases h.2 with ⟨e, _⟩ | ⟨g, cap, cur, e, _⟩
    · left; rw [e]; rfl
    · right; rw [e]; simp [Value.ownBlock])
theorem owns_apart {W W1 : World} {b1 b2 s1 s2 n1 n2 : Nat} {e1 e2 : TypeId} {v1 v2 : Value} {x1 x2 : List Value} (h1 : W.ownsRow b1 e1 s1 v1 n1 x1) (h2 : W.ownsRow b2 e2 s2 v2 n2 x2) (hne : e1 ≠ e2) (hg : W.grownBy W1 v2.ownBlock) : W1.ownsRow b1 e1 s1 v1 n1 x1 := by
  refine h1.kept hg ?_
  rcases h1.2 with ⟨rfl, _⟩ | ⟨g, cap, cur, rfl, _, hgb, _⟩
  · exact .inl rfl
  · refine .inr fun e => ?_
    have := own_blk_ne h2 (g := g) (t := e1) (cs := cur) hgb (fun e => hne e.symm)
    exact this e.symm
def objC (O : Nat → ObjD) : Nat → Array Value := fun i => (O i).cs
theorem obj_one (O : Nat → ObjD) : ∀ i, ∀ u ∈ (objC O i).toList, u.oneCell' = true := by
  intro i u hu
  simp only [objC, ObjD.cs, List.mem_cons, List.not_mem_nil, or_false] at hu
  rcases hu with rfl | rfl | rfl | rfl | rfl | rfl | rfl | rfl | rfl | rfl | rfl <;> rfl
theorem flatG_congr {F G : Nat → Array Value} : ∀ n, (∀ i, i < n → F i = G i) → flatG F n = flatG G n
  | 0, _ => rfl
  | n + 1, h => by unfold flatG; rw [flatG_congr n fun i hi => h i (by omega), h n (by omega)]
theorem info33 : (Try.prog.info? 33).map (fun i => (i.zero, i.size, i.bytes)) = some (some (.agg #[.int .i64 0, .int .u64 0, .int .u16 0, .int .u64 0, .int .u64 0, .slice none 0 0, .slice none 0 0, .string ⟨#[]⟩, .string ⟨#[]⟩, .slice none 0 0, .slice none 0 0]), 11, 168) := by kernel_rfl
set_option maxRecDepth 20000 in
set_option maxHeartbeats 1600000 in
theorem clone_any (A : Option Addr) (m c : Nat) (O : Nat → ObjD) (w : World) (hR : StR w w.heap.size 11 A m (objC O)) (h0 : 0 < m) (hm : m ≤ 20) :
    Calls Try.prog 31 #[.slice A m c] w fun e W' => ∃ A' c', e = .returned (.slice A' m c') ∧ W'.ownsRow w.heap.size 33 11 (.slice A' m c') m (flatG (objC O) m) ∧ Below w.heap.size w W' := by
  have hmm : maxLen = 9223372036854775807 := by simp [maxLen]
  obtain ⟨i0, hi0, hz0, hz1, hz2⟩ := info_parts info33
  have RD : Hid (Reads w w.heap.size 11 A m (flatG (objC O) m)) := Lib.hid (hR.readsG (fun _ => rfl) (by omega))
  have X1 : Hid (∀ u ∈ flatG (objC O) m, u.oneCell' = true) := Lib.hid (flatG_one (obj_one O) m)
  obtain ⟨ad, rfl, had, _⟩ := hR h0
  obtain ⟨xs, hxs⟩ : ∃ x, x = flatG (objC O) m := ⟨_, rfl⟩
  rw [← hxs] at RD X1 ⊢
  have OE : Hid ((w.alloc (.cells #[] 33)).ownsRow w.heap.size 33 11 (.slice (some ⟨w.heap.size, 0, none⟩) 0 0) 0 []) := Lib.hid (owns_empty w 33 11 (Nat.le_refl _))
  have B0 : Hid (Below w.heap.size w (w.alloc (.cells #[] 33))) := Lib.hid ((Below.refl _ _).alloc (Nat.le_refl _) _)
  have he : ∀ w, (binOp .eql 35 (.slice (some ad) m c) (.slice none 0 0)).run Try.prog w = .ok (.bool false) w := fun w => Lib.run_eql_slice_nil (P := Try.prog) w 35 33 _ m c 0 0 Try.underlying35
  clear hxs hR h0
  go_enter Try.func31, Try.ntmps31
  go_wp2_with (at_builtin
               refine wpList_append_any _ rfl (.tmp 5) (.tmp 6) _ rfl w.heap.size 33 i0 _ 11 168 Try.underlying35 hi0 hz0 hz1 hz2 rfl (by omega) (.slice (some ⟨w.heap.size, 0, none⟩) 0 0) 0 [] rfl OE.out w.heap.size (some ad) m c xs rfl (RD.out.below B0.out) X1.out (by simp only [maxLen]; omega) (by omega) (by simp) ?_
               intro v1 w4 hown1 hg1 hat1
               rw [Nat.zero_add, List.nil_append] at hown1
               have BL := Lib.hid (B0.out.trans (below_own hg1 (by simp) fun k hk => (OE.out.lt k hk).1))
               have HO1 := Lib.hid hown1
               obtain ⟨A1, q1, rfl⟩ := ownsRow_val hown1
               clear hown1 hg1 hat1)
  go_wp2_with fail
  go_ret
  exact ⟨_, _, rfl, HO1.out, BL.out⟩
end Go.Proofs.Yticnmgdflkipeaa
