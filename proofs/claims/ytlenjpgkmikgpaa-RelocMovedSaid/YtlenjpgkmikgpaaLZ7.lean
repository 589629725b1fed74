import Derived.Test.YtlenjpgkmikgpaaLZ6
import Derived.Shelf.RegionOpen
import Derived.Lib.Bytes
namespace Go.Proofs.Ytlenjpgkmikgpaa.Lay
open Go.RowKit Go.Shelf Go.Hos
set_option linter.unusedVariables false
/-! the program's iterator of the loads -/
def encS (S : Nat → SegD) (k : Nat) : Array Value := #[.agg (S k).cs]
/-- the loads' places -/
def ldx (S : Nat → SegD) : Nat → List Nat
  | 0 => []
  | n + 1 => ldx S n ++ if (S n).kd = 1 then [n] else []
theorem lds_ldx (S : Nat → SegD) : ∀ n, lds S n = (ldx S n).map S
  | 0 => rfl
  | n + 1 => by unfold lds ldx; rw [List.map_append, lds_ldx S n]; split <;> rfl
theorem ldx_pre (S : Nat → SegD) : ∀ m k, k ≤ m → ldx S k <+: ldx S m
  | 0, k, h => by
    have e : k = 0 := by omega
    rw [e]; exact List.prefix_refl _
  | m + 1, k, h => by
    by_cases e : k = m + 1
    · subst e; exact List.prefix_refl _
    · exact (ldx_pre S m k (by omega)).trans (List.prefix_append _ _)
theorem ldx_yes {S : Nat → SegD} {k : Nat} (h : (S k).kd = 1) : ldx S (k + 1) = ldx S k ++ [k] := by rw [ldx, if_pos h]
theorem ldx_no {S : Nat → SegD} {k : Nat} (h : ¬ (S k).kd = 1) : ldx S (k + 1) = ldx S k := by rw [ldx, if_neg h]; simp
theorem pre_len {α : Type} {a b : List α} {x : α} (h : a ++ [x] <+: b) : a.length < b.length := by have := h.length_le; simp at this; omega
set_option maxRecDepth 100000 in
set_option maxHeartbeats 4000000 in
/-- the iterator -/
theorem loads1_in (F : Fence) (n : Nat) (h40 : F.fn 44) (hro : F.round = none) (hn : 1 ≤ n) (l Bs n₀ m c : Nat) (A : Option Addr) (S : Nat → SegD) (J Jx : List Nat → World → Prop)
    (W : World) (hJ : AbidesFrom W.heap.size J) (hY : ∀ pre x W1, J pre W1 → pre.length < (ldx S m).length → YieldAt F (n - 1) Try.prog l (encS S x) W1 fun e W' =>
      (e = .returned (.bool true) ∧ J (pre ++ [x]) W' ∧ Below n₀ W1 W') ∨ (e = .returned (.bool false) ∧ Jx (pre ++ [x]) W'))
    (hBs : W.cell? ⟨Bs, 5, none⟩ = some (.slice A m c)) (hR : StR W n₀ 6 A m (segC S)) (hm : m ≤ maxLen) (hn₀ : n₀ ≤ W.heap.size) (h0 : J [] W) :
    CallsIn F n Try.prog 44 #[.func (.yield l) #[] #[], .pointer (some ⟨Bs, 0, none⟩)] W fun e W' => (∃ v, e = .returned v) ∧
      ((∃ ys, ys = ldx S m ∧ J ys W') ∨ (∃ pre, pre <+: ldx S m ∧ Jx pre W')) := by
  have H := Lib.hid hR
  have hmm : maxLen = 9223372036854775807 := by simp [maxLen]
  have HY := Lib.hid hY
  have HJ := Lib.hid hJ
  clear hR hY hJ
  refine callsIn_of_wp Try.func44 rfl h40 ?_ hro
  simp only [Try.ntmps44, List.size_toArray, List.length_cons, List.length_nil, Nat.reduceAdd, Nat.reduceSub, Array.replicate_succ, Array.replicate_zero, List.push_toArray, List.append_toArray, List.nil_append, List.cons_append]
  gi_wp2
  gi_loopw [9] (fun v9 wr => ∃ i : Nat, i ≤ m ∧ v9 = .int .i64 i ∧ Hid (J (ldx S i) wr) ∧ Hid (Below n₀ W wr)) (fun v9 _ => m - (intOf v9).toNat)
  case atStart => exact ⟨0, Nat.zero_le _, rfl, h0, Below.refl _ _⟩
  case round =>
    obtain ⟨k, hk, rfl, hj, hb⟩ := hrel
    by_cases him : k < m
    · obtain ⟨ads, rfl, had, d0, d1, d2, d3, d4, d5⟩ := seg_cells (H.out.below hb.out) him
      obtain ⟨s, hs⟩ : ∃ s, s = S k := ⟨_, rfl⟩
      rw [← hs] at d0 d1 d2 d3 d4 d5
      have HS := Lib.hid hs
      obtain ⟨kd, fl, off, addr, fsz, msz⟩ := s
      dsimp only at d0 d1 d2 d3 d4 d5
      have ha : Below n₀ wr (wr.alloc (.cells #[.int .u32 kd, .int .u8 fl, .int .u64 off, .int .u64 addr, .int .u64 fsz, .int .u64 msz] 67)) := (Below.refl _ _).alloc (by have := hb.out.size; omega) _
      have hj3 : Hid (J (ldx S k) (wr.alloc (.cells #[.int .u32 kd, .int .u8 fl, .int .u64 off, .int .u64 addr, .int .u64 fsz, .int .u64 msz] 67))) := HJ.out _ _ _ none hj.out (World.grownBy_alloc wr _ none) (fun r e => by cases e)
      have hb3 : Hid (Below n₀ W (wr.alloc (.cells #[.int .u32 kd, .int .u8 fl, .int .u64 off, .int .u64 addr, .int .u64 fsz, .int .u64 msz] 67))) := Lib.hid (hb.out.trans ha)
      clear hs ha
      by_cases hd : kd = 1
      · subst hd
        have hyes : Hid (ldx S (k + 1) = ldx S k ++ [k]) := Lib.hid (ldx_yes (by rw [← HS.out]))
        have hpre : ldx S (k + 1) <+: ldx S m := ldx_pre S m (k + 1) (by omega)
        rw [hyes.out] at hpre
        obtain ⟨fn, tmps, assign, body, hy, hR⟩ := HY.out _ k _ hj3.out (pre_len hpre)
        have HP := Lib.hid hpre
        have hy2 := hy
        unfold encS at hy2
        rw [← HS.out] at hy2
        unfold SegD.cs at hy2
        dsimp only at hy2
        simp only [show ((1 : Nat) : Int) = 1 from rfl] at hy2 hR d0
        clear hy hpre
        gi_wp2
        refine hR.mono ?_
        rintro e W3 (⟨rfl, hJ3, hk3⟩ | ⟨rfl, hJx3⟩)
        · have hj4 : Hid (J (ldx S (k + 1)) W3) := Lib.hid (by rw [hyes.out]; exact hJ3)
          have hb4 : Hid (Below n₀ W W3) := Lib.hid (hb3.out.trans hk3)
          clear hJ3 hk3 hR hy2 d0 d1 d2 d3 d4 d5
          gi_wp2
          go_roundw
          case rel => exact ⟨k + 1, by omega, by go_num, hj4, hb4⟩
          case measure => simp [intOf]; omega
        · have hj4 := Lib.hid hJx3
          clear hJx3 hR hy2 d0 d1 d2 d3 d4 d5
          gi_wp2
          refine bodyPost_ret (results_none rfl _ _ _) rfl ?_
          exact ⟨⟨_, rfl⟩, .inr ⟨_, HP.out, hj4.out⟩⟩
      · have hno : Hid (ldx S (k + 1) = ldx S k) := Lib.hid (ldx_no (by rw [← HS.out]; exact hd))
        rw [← hno.out] at hj3
        have e1 : ((kd : Int) == 1) = false := by simp; omega
        clear hd hno
        gi_wp2
        refine ⟨fun _ h => (by cases h), ?_⟩
        gi_wp2
        go_roundw
        case rel => exact ⟨k + 1, by omega, by go_num, hj3, hb3⟩
        case measure => simp [intOf]; omega
    · have him2 : k = m := by omega
      have hj4 : Hid (J (ldx S m) wr) := by rw [← him2]; exact hj
      clear him2 hj
      gi_wp2
      go_end0
      exact ⟨⟨_, rfl⟩, .inl ⟨_, rfl, hj4.out⟩⟩
theorem loads_stops (F : Fence) (n : Nat) (h40 : F.fn 44) (hro : F.round = none) (hn : 1 ≤ n) (Bs n₀ m c : Nat) (A : Option Addr) (S : Nat → SegD) (w : World) (hBs : Bs < w.heap.size) (hn₀ : n₀ ≤ w.heap.size)
    (hc : w.cell? ⟨Bs, 5, none⟩ = some (.slice A m c)) (hR : StR w n₀ 6 A m (segC S)) (hm : m ≤ maxLen) :
    SeqStopsK F n Try.prog 44 #[.pointer (some ⟨Bs, 0, none⟩)] (encS S) (Below n₀) (fun ys => ys = ldx S m) (fun pre => pre <+: ldx S m) (ldx S m).length w := fun l J Jx W hW hJ hJx hY h0 =>
  loads1_in F n h40 hro hn l Bs n₀ m c A S J Jx W hJ hY ((hW.cell (p := ⟨Bs, 5, none⟩) hBs).trans hc) (hR.below (hW.mono hn₀)) hm (by have := hW.size; omega) h0
set_option maxHeartbeats 1000000 in
theorem ploads_in (F : Fence) (n : Nat) (h24 : F.fn 34) (hro : F.round = none) (cs : Array Value) (w : World) :
    CallsIn F n Try.prog 34 #[.agg cs] w fun e w' => e = .returned (.func (.func 44) #[] #[.pointer (some ⟨w.heap.size, 0, none⟩)]) ∧ w' = w.alloc (.cells cs 50) := by
  refine callsIn_of_wp Try.func34 rfl h24 ?_ hro
  simp only [Try.ntmps34, List.size_toArray, List.length_cons, List.length_nil, Nat.reduceAdd, Nat.reduceSub, Array.replicate_succ, Array.replicate_zero, List.push_toArray, List.append_toArray, List.nil_append, List.cons_append]
  gi_wp2
  go_ret
  exact ⟨rfl, rfl⟩
end Go.Proofs.Ytlenjpgkmikgpaa.Lay
