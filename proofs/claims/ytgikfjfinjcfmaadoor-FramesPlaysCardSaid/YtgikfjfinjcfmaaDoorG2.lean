import Derived.Test.YtgikfjfinjcfmaaDoorG1
import Derived.Test.YtgikfjfinjcfmaaDoorF6
namespace Go.Proofs.YtgikfjfinjcfmaaDoor
open Go.RowKit Go.Hos
set_option linter.unusedVariables false
/-- a pool behind i calls -/
def PI (w : World) (N p c b f i : Nat) (W : World) : Prop := ∃ C Fb D, PM w.heap.size W p c b f N C Fb D ∧ (∀ k, C k ≤ i) ∧ Below w.heap.size w W
section
variable {w W W' : World} {N p c b f i : Nat}
theorem PI.next (h : PI w N p c b f i W) (hb : Below W.heap.size W W') : PI w N p c b f i W' := by
  obtain ⟨C, Fb, D, h1, h2, h3⟩ := h
  exact ⟨C, Fb, D, h1.next hb, h2, h3.trans (hb.mono h3.size)⟩
theorem PI.more (h : PI w N p c b f i W) : PI w N p c b f (i + 1) W := by
  obtain ⟨C, Fb, D, h1, h2, h3⟩ := h
  exact ⟨C, Fb, D, h1, fun k => by have := h2 k; omega, h3⟩
theorem takeC_le {C : Nat → Nat} {N i : Nat} (h : ∀ k, C k ≤ i) (k : Nat) : takeC C N k ≤ i + 1 := by
  unfold takeC
  have := h k
  split
  · unfold upd; split <;> omega
  · omega
theorem PI.take (h : Hid (PI w N p c b f i W)) (ht : Hid (TB w)) (h0 : 0 < w.heap.size) :
    Calls Tryd.prog 19 #[.pointer (some ⟨p, 0, none⟩)] W fun e W' => ∃ v1 v2, e = .returned (.tuple #[.int .i64 v1, .int .i64 v2]) ∧ Hid (PI w N p c b f (i + 1) W') := by
  obtain ⟨C, Fb, D, h1, h2, h3⟩ := h.out
  refine (take_any W h1 h3.size (ht.out.below h3 h0)).mono ?_
  rintro e W' ⟨rfl, ⟨Fb', pm⟩, _, bl⟩
  exact ⟨_, _, rfl, _, _, _, pm, takeC_le h2, h3.trans bl⟩
theorem PI.up (h : Hid (PI w N p c b f i W)) (hi : i ≤ 1000) (x : Int) :
    Calls Tryd.prog 20 #[.pointer (some ⟨p, 0, none⟩), .int .i64 x] W fun e W' => ∃ v1, e = .returned (.int .i64 v1) ∧ Hid (PI w N p c b f (i + 1) W') := by
  obtain ⟨C, Fb, D, h1, h2, h3⟩ := h.out
  refine (up_any x W h1 (fun k => by have := h2 k; omega)).mono ?_
  rintro e W' ⟨rfl, pm, _, bl⟩
  refine ⟨_, rfl, _, _, _, pm, fun k => ?_, h3.trans bl⟩
  unfold upC
  have := h2 k
  split
  · unfold upd; split
    · have := h2 x.toNat; omega
    · omega
  · omega
theorem PI.down (h : Hid (PI w N p c b f i W)) (hi : i ≤ 1000) (x : Int) :
    Calls Tryd.prog 21 #[.pointer (some ⟨p, 0, none⟩), .int .i64 x] W fun e W' => ∃ v1, e = .returned (.int .i64 v1) ∧ Hid (PI w N p c b f (i + 1) W') := by
  obtain ⟨C, Fb, D, h1, h2, h3⟩ := h.out
  refine (down_any x W h1 (fun k => by have := h2 k; omega)).mono ?_
  rintro e W' ⟨rfl, pm, _, bl⟩
  refine ⟨_, rfl, _, _, _, pm, fun k => ?_, h3.trans bl⟩
  unfold dnC
  have := h2 k
  split
  · unfold upd; split
    · have := h2 x.toNat; omega
    · omega
  · omega
theorem PI.store {A : Option Addr} {m q : Nat} {bs : List Nat} (h : Hid (PI w N p c b f i W)) (hr : Hid (Reads W W.heap.size 1 A m (u8s bs))) (hm : m ≤ 16384) (x y : Int) :
    Calls Tryd.prog 25 #[.pointer (some ⟨p, 0, none⟩), .int .i64 x, .int .i64 y, .slice A m q] W fun e W' => ∃ v1, e = .returned (.int .i64 v1) ∧ Hid (PI w N p c b f (i + 1) W') := by
  obtain ⟨C, Fb, D, h1, h2, h3⟩ := h.out
  refine (store_any x y W h1 hr.out (by simp only [maxLen]; omega)).mono ?_
  rintro e W' ⟨rfl, pm, _, bl⟩
  exact ⟨_, rfl, _, _, _, pm, fun k => by have := h2 k; omega, h3.trans bl⟩
theorem PI.copy (h : Hid (PI w N p c b f i W)) (ht : Hid (TB w)) (h0 : 0 < w.heap.size) (x : Int) :
    Calls Tryd.prog 26 #[.pointer (some ⟨p, 0, none⟩), .int .i64 x] W fun e W' => ∃ v1 v2, e = .returned (.tuple #[.int .i64 v1, .int .i64 v2]) ∧ Hid (PI w N p c b f (i + 1) W') := by
  obtain ⟨C, Fb, D, h1, h2, h3⟩ := h.out
  refine (copy_any x W h1 h3.size (ht.out.below h3 h0)).mono ?_
  rintro e W' ⟨rfl, ⟨Fb', pm⟩, _, bl⟩
  refine ⟨_, _, rfl, _, _, _, pm, fun k => ?_, h3.trans bl⟩
  unfold cpC
  split
  · exact takeC_le h2 k
  · have := h2 k; omega
/-- a pool, and the call in hand -/
structure PO (w : World) (N p c b f i g : Nat) (k x y z : Int) (A : Option Addr) (m q : Nat) (bs : List Nat) (W : World) : Prop where
  pi : PI w N p c b f i W
  bo : Blk W g 44 #[.int .i64 k, .int .i64 x, .int .i64 y, .int .i64 z, .slice A m q]
  rd : Reads W w.heap.size 1 A m (u8s bs)
section
variable {g : Nat} {k x y z : Int} {A : Option Addr} {m q : Nat} {bs : List Nat}
theorem PO.next (h : PO w N p c b f i g k x y z A m q bs W) (hb : Below W.heap.size W W') : PO w N p c b f i g k x y z A m q bs W' := by
  have hs : w.heap.size ≤ W.heap.size := by obtain ⟨_, _, _, _, _, h3⟩ := h.pi; exact h3.size
  exact ⟨h.pi.next hb, h.bo.below hb h.bo.lt, h.rd.below (hb.mono hs)⟩
theorem PO.cells (h : Hid (PO w N p c b f i g k x y z A m q bs W)) : W.cell? ⟨g, 1, none⟩ = some (.int .i64 x) ∧ W.cell? ⟨g, 2, none⟩ = some (.int .i64 y) ∧ W.cell? ⟨g, 4, none⟩ = some (.slice A m q) :=
  ⟨(h.out.bo.cell 1).trans rfl, (h.out.bo.cell 2).trans rfl, (h.out.bo.cell 4).trans rfl⟩
theorem PO.twin (h : Hid (PO w N p c b f i g k x y z A m q bs W)) (hm : m ≤ 16384) :
    Calls Tryd.prog 33 #[.slice A m q] W fun e W' => ∃ A' q', e = .returned (.slice A' m q') ∧ Hid (Reads W' W'.heap.size 1 A' m (u8s bs)) ∧ Hid (PO w N p c b f i g k x y z A m q bs W') := by
  have hs : w.heap.size ≤ W.heap.size := by obtain ⟨_, _, _, _, _, h3⟩ := h.out.pi; exact h3.size
  refine (twin_any W h.out.rd hm hs).mono ?_
  rintro e W' ⟨A', q', rfl, r, bl⟩
  exact ⟨_, _, rfl, r, h.out.next bl⟩
theorem PO.store {A' : Option Addr} {q' : Nat} (h : Hid (PO w N p c b f i g k x y z A m q bs W)) (hr : Hid (Reads W W.heap.size 1 A' m (u8s bs))) (hm : m ≤ 16384) :
    Calls Tryd.prog 25 #[.pointer (some ⟨p, 0, none⟩), .int .i64 x, .int .i64 y, .slice A' m q'] W fun e W' => ∃ v1, e = .returned (.int .i64 v1) ∧ Hid (PO w N p c b f i g k x y z A m q bs W') := by
  obtain ⟨C, Fb, D, h1, h2, h3⟩ := h.out.pi
  refine (store_any x y W h1 hr.out (by simp only [maxLen]; omega)).mono ?_
  rintro e W' ⟨rfl, pm, kf, bl⟩
  exact ⟨_, rfl, ⟨_, _, _, pm, h2, h3.trans bl⟩, kf _ _ _ h.out.bo (by decide) (by decide) (by decide) (by decide) (fun e => h1.cc.ne_blk h.out.bo (by decide) e.symm), h.out.rd.below bl⟩
end
theorem PI.below (h : PI w N p c b f i W) : Below w.heap.size w W := by obtain ⟨_, _, _, _, _, h3⟩ := h; exact h3
end
set_option maxRecDepth 20000 in
set_option maxHeartbeats 1600000 in
theorem played_any {n q : Nat} {A : Option Addr} {O : Nat → OpD} (N : Nat) (w : World) (h1 : 1 ≤ N) (h2 : N ≤ 1024) (h : OpR w w.heap.size A n O) (hn : bigB O n = false) (ht : TB w) (h0 : 0 < w.heap.size) :
    Calls Tryd.prog 15 #[.int .i64 N, .slice A n q] w fun e w' => ∃ p c b f, e = .returned (.tuple #[.pointer (some ⟨p, 0, none⟩), .bool true]) ∧ PI w N p c b f 300 w' := by
  have H := Lib.hid h
  have HT := Lib.hid ht
  have HN := Lib.hid hn
  have hn3 : n ≤ 300 := by
    simp only [bigB, Bool.or_eq_false_iff] at hn
    simpa using hn.1
  have HB : Hid (∀ i, i < n → (O i).m ≤ 16384) := fun i hi => by
    simp only [bigB, Bool.or_eq_false_iff, List.any_eq_false] at hn
    simpa using hn.2 i (by simpa using hi)
  clear h ht hn
  go_enter Tryd.func15, Tryd.ntmps15
  go_wp2_with fail
  refine (new_ok N w h1 h2).mono ?_
  rintro e w1 ⟨p, c, b, f, rfl, pm, bl⟩
  have P0 : Hid (PI w N p c b f 0 w1) := ⟨_, _, _, pm, fun k => Nat.le_refl _, bl⟩
  clear pm bl
  go_wp2_with fail
  go_loopw [8] (fun v wr => ∃ i : Nat, i ≤ n ∧ v = .int .i64 i ∧ Hid (PI w N p c b f i wr)) (fun v _ => n - (intOf v).toNat)
  case atStart => exact ⟨0, by omega, rfl, P0⟩
  case round =>
    obtain ⟨i, hi, rfl, pi⟩ := hrel
    by_cases hin : i < n
    · have e1 : decide ((i : Int) < (n : Int)) = true := by simp; omega
      obtain ⟨ad, hA, hl, c0, c1, c2, c3, c4, hr, hm⟩ := (H.out.below pi.out.below) i hin
      have hmb := HB.out i hin
      obtain ⟨k, hk⟩ : ∃ k, k = (O i).k := ⟨_, rfl⟩
      obtain ⟨x, hx⟩ : ∃ x, x = (O i).x := ⟨_, rfl⟩
      obtain ⟨y, hy⟩ : ∃ y, y = (O i).y := ⟨_, rfl⟩
      obtain ⟨z, hz⟩ : ∃ z, z = (O i).z := ⟨_, rfl⟩
      obtain ⟨m, hmm⟩ : ∃ m, m = (O i).m := ⟨_, rfl⟩
      obtain ⟨x0, hx0⟩ : ∃ x, x = (O i).A := ⟨_, rfl⟩
      obtain ⟨x1, hx1⟩ : ∃ x, x = (O i).q := ⟨_, rfl⟩
      obtain ⟨bs, hbs⟩ : ∃ x, x = (O i).bs := ⟨_, rfl⟩
      subst hA
      rw [← hk] at c0; rw [← hx] at c1; rw [← hy] at c2; rw [← hz] at c3
      rw [← hmm, ← hx0, ← hx1] at c4
      rw [← hmm, ← hx0, ← hbs] at hr
      rw [← hmm] at hmb
      have hbd : Below wr.heap.size wr (wr.alloc (.cells #[.int .i64 k, .int .i64 x, .int .i64 y, .int .i64 z, .slice x0 m x1] 44)) := (Below.refl _ _).alloc (Nat.le_refl _) _
      have hr0 := Lib.hid hr
      have hr1 := Lib.hid (hr.more (pi.out.below.size))
      have p1 := Lib.hid (pi.out.next hbd)
      have had : (ad.add (i * 5)).block < wr.heap.size := block_lt_of_cell c0
      rw [add_field ad (i * 5) 0] at c1
      rw [add_field ad (i * 5) 1] at c2
      rw [add_field ad (i * 5) 2] at c3
      rw [add_field ad (i * 5) 3] at c4
      clear hk hx hy hz hmm hx0 hx1 hbs hr hm hbd
      by_cases k0 : k = 0
      · subst k0
        go_wp2_with fail
        refine (PI.take p1 HT h0).mono ?_
        rintro e w2 ⟨v1, v2, rfl, p2⟩
        clear c0 c1 c2 c3 c4 had
        go_wp2_with fail
        go_roundw
        case rel => exact ⟨i + 1, by omega, by go_num, p2⟩
        case measure => simp [intOf]; omega
      by_cases k1 : k = 1
      · subst k1
        clear k0
        go_wp2_with fail
        refine (PI.up p1 (by omega) x).mono ?_
        rintro e w2 ⟨v1, rfl, p2⟩
        clear c0 c1 c2 c3 c4 had
        go_wp2_with fail
        go_roundw
        case rel => exact ⟨i + 1, by omega, by go_num, p2⟩
        case measure => simp [intOf]; omega
      by_cases k2 : k = 2
      · subst k2
        clear k0 k1
        go_wp2_with fail
        refine (PI.down p1 (by omega) x).mono ?_
        rintro e w2 ⟨v1, rfl, p2⟩
        clear c0 c1 c2 c3 c4 had
        go_wp2_with fail
        go_roundw
        case rel => exact ⟨i + 1, by omega, by go_num, p2⟩
        case measure => simp [intOf]; omega
      by_cases k5 : k = 5
      · subst k5
        clear k0 k1 k2
        go_wp2_with fail
        refine (PI.copy p1 HT h0 x).mono ?_
        rintro e w2 ⟨v1, v2, rfl, p2⟩
        clear c0 c1 c2 c3 c4 had
        go_wp2_with fail
        go_roundw
        case rel => exact ⟨i + 1, by omega, by go_num, p2⟩
        case measure => simp [intOf]; omega
      by_cases k4 : k = 4
      · subst k4
        clear k0 k1 k2 k5
        have o1 : Hid (PO w N p c b f i wr.heap.size 4 x y z x0 m x1 bs (wr.alloc (.cells #[.int .i64 4, .int .i64 x, .int .i64 y, .int .i64 z, .slice x0 m x1] 44)).drew) := PO.next (W := wr.alloc (.cells #[.int .i64 4, .int .i64 x, .int .i64 y, .int .i64 z, .slice x0 m x1] 44)) ⟨p1.out, Blk.new _ _ _, hr0.out.alloc (by exact pi.out.below.size) _⟩ (Below.refl _ _).drew
        clear p1 hr1
        go_wp2_with fail
        go_region_held3 (fun w' => w'.cell? ⟨wr.heap.size, 1, none⟩ = some (.int .i64 x) ∧ w'.cell? ⟨wr.heap.size, 2, none⟩ = some (.int .i64 y) ∧ w'.cell? ⟨wr.heap.size, 4, none⟩ = some (.slice x0 m x1)) (exact PO.cells (by assumption))
          (first
            | (go_at_call 33; refine (PO.twin (by assumption) hmb).mono ?_; rintro e w2 ⟨A', q', rfl, rt, o2⟩)
            | (go_at_call 25; refine (PO.store (by assumption) (by assumption) hmb).mono ?_; rintro e w3 ⟨v1, rfl, o3⟩))
        all_goals
          have p2 := Lib.hid o3.out.pi.more
          clear c0 c1 c2 c3 c4 had
          go_wp2_with fail
          go_roundw
          case rel => exact ⟨i + 1, by omega, by go_num, p2⟩
          case measure => simp [intOf]; omega
      · have p2 := Lib.hid p1.out.more
        have b0 : (k == 0) = false := by simpa using k0
        have b1 : (k == 1) = false := by simpa using k1
        have b2 : (k == 2) = false := by simpa using k2
        have b4 : (k == 4) = false := by simpa using k4
        have b5 : (k == 5) = false := by simpa using k5
        go_wp2_with fail
        go_roundw
        case rel => exact ⟨i + 1, by omega, by go_num, p2⟩
        case measure => simp [intOf]; omega
    · obtain rfl : i = n := by omega
      go_wp2_with fail
      go_ret2
      refine ⟨p, c, b, f, rfl, ?_⟩
      obtain ⟨C, Fb, D, g1, g2, g3⟩ := pi.out
      exact ⟨C, Fb, D, g1, fun k => by have := g2 k; omega, g3⟩
end Go.Proofs.YtgikfjfinjcfmaaDoor
