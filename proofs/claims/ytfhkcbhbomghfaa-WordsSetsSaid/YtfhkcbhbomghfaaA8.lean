import Derived.Test.YtfhkcbhbomghfaaWi
namespace Go.Proofs.Ytfhkcbhbomghfaa
open Go.RowKit Go.Hos
set_option linter.unusedVariables false

def tri {α : Type} (a b c : α) : Nat → α
  | 0 => a
  | 1 => b
  | _ => c
theorem blk_apart {a b : Option Nat} {m : Nat} (h1 : ∀ g, a = some g → m ≤ g) (h2 : ∀ g, b = some g → g < m) : (a = none ∨ a ≠ b) ∧ (b = none ∨ b ≠ a) := by
  constructor
  · rcases a with _ | g
    · exact .inl rfl
    · refine .inr fun e => ?_
      have := h1 g rfl; have := h2 g e.symm; omega
  · rcases b with _ | g
    · exact .inl rfl
    · refine .inr fun e => ?_
      have := h2 g rfl; have := h1 g e.symm; omega
/-- the front of a longer row -/
theorem own_take {w : World} {base g n m cap : Nat} {xs ys : List Value} (h : w.ownsRow base 5 1 (.slice (some ⟨g, 0, none⟩) (n + m) cap) (n + m) (xs ++ ys)) (hx : xs.length = n) :
    w.ownsRow base 5 1 (.slice (some ⟨g, 0, none⟩) n cap) n xs := by
  refine ⟨by omega, ?_⟩
  rcases h.2 with ⟨hv, _⟩ | ⟨g', c', cur, hv, hb, hg, hn, hm, hs, ht⟩
  · cases hv
  · injection hv with e1 e2 e3
    injection e1 with e1; injection e1 with e1
    subst e1 e3
    refine .inr ⟨g, cap, cur, rfl, hb, hg, by omega, hm, hs, ?_⟩
    have ht2 := congrArg (List.take n) ht
    rw [List.take_take, show min n ((n + m) * 1) = n by omega, List.take_append_of_le_length (Nat.le_of_eq hx.symm), ← hx, List.take_length, hx] at ht2
    rw [Nat.mul_one]; exact ht2

/-- the argument in its box, what it reads, and what Roomy gave -/
structure TS (w : World) (A : Option Addr) (g n c at_ : Nat) (sz : Int) (x : Nat) (bs : List Nat) (W : World) : Prop where
  s1 : S1 w A n c at_ sz x bs W
  inr : W.ownsRow w.heap.size 5 1 (.slice (some ⟨g, 0, none⟩) (n + 7) (n + 7)) (n + 7) (B8 (bs ++ sp))
theorem TS.next {w : World} {A : Option Addr} {g n c at_ : Nat} {sz : Int} {x : Nat} {bs : List Nat} {W W' : World} (h : TS w A g n c at_ sz x bs W) (hb : Below W.heap.size W W') : TS w A g n c at_ sz x bs W' :=
  ⟨h.s1.next hb, owns_below h.inr hb⟩
theorem TS.lt {w : World} {A : Option Addr} {g n c at_ : Nat} {sz : Int} {x : Nat} {bs : List Nat} {W : World} (h : TS w A g n c at_ sz x bs W) : g < W.heap.size := (h.inr.lt g rfl).2
theorem stv_le {bs : List Nat} {at_ : Nat} {sz : Int} {x : Nat} : (stv bs at_ sz x).length ≤ bs.length := by
  unfold stv; split
  · rw [setv_len]; exact Nat.le_refl _
  · simp

set_option maxHeartbeats 1600000 in
theorem sets_small (A : Option Addr) (n c at_ x : Nat) (bs : List Nat) (sz : Int) (w : World) (h : Reads w w.heap.size 1 A n (B8 bs)) (h8 : ∀ x ∈ bs, x < 256) (ha : at_ < M) (hx : x < M) (hn : n ≤ 131072) :
    Calls Try.prog 4 #[.agg #[.slice A n c, .int .u64 at_, .int .i64 sz, .int .u64 x]] w fun e w' => e = .returned (.bool true) ∧ Below w.heap.size w w' := by
  have st0 : Hid (S1 w A n c at_ sz x bs (w.alloc (.cells #[.slice A n c, .int .u64 at_, .int .i64 sz, .int .u64 x] 32))) := S1.start h
  have HL : Hid (bs.length = n) := b8_len h
  obtain ⟨q, hq⟩ : ∃ q, q = plc n at_ sz := ⟨_, rfl⟩
  obtain ⟨ys, hys⟩ : ∃ ys, ys = stv bs at_ sz x := ⟨_, rfl⟩
  obtain ⟨L, hL⟩ : ∃ L, L = ys.length := ⟨_, rfl⟩
  have hLn : L ≤ 131072 := by rw [hL, hys]; have := @stv_le bs at_ sz x; have := HL.out; omega
  have HQ := Lib.hid hq; have HY := Lib.hid hys; have HLY := Lib.hid hL
  clear h h8 hq hys hL
  have kc := st0.out.bc.cell
  go_enter Try.func4, Try.ntmps4
  go_wp2_with fail
  refine (roomy_any A n c bs _ _ st0.out.rd st0.out.low.size (by omega)).mono ?_
  rintro e w1 ⟨g, rfl, hg, hob⟩
  have t1 : Hid (TS w A g n c at_ sz x bs w1) := ⟨st0.out.next hob.low, owns_base hob.own st0.out.low.size⟩
  have G1 : g < w1.heap.size := t1.out.lt
  clear hob st0 hg kc
  have kc := t1.out.s1.bc.cell
  go_wp2_with fail
  refine (set_any (some ⟨g, 0, none⟩) n (n + 7) at_ x w1.heap.size sz bs _ (reads_take (Reads.of_own t1.out.inr) HL.out) (Nat.le_refl _) (by omega) ha hx).mono ?_
  rintro e w2 ⟨A1, c1, rfl, ho2, hb2⟩
  rw [← HQ.out, ← HY.out, ← HLY.out]
  rw [← HY.out, ← HLY.out] at ho2
  have t2 : Hid (TS w A g n c at_ sz x bs w2) := t1.out.next hb2
  have o2 : Hid (w2.ownsRow w1.heap.size 5 1 (.slice A1 L c1) L (B8 ys)) := ho2
  have S12 : w1.heap.size ≤ w2.heap.size := hb2.size
  clear ho2 hb2 kc
  have kc := t2.out.s1.bc.cell
  go_wp2_with fail
  refine (rset_any A n c at_ x w.heap.size sz bs _ t2.out.s1.rd t2.out.s1.low.size (by omega) ha hx).mono ?_
  rintro e w3 ⟨A2, c2, rfl, ho3, hb3⟩
  rw [← HQ.out, ← HY.out, ← HLY.out]
  rw [← HY.out, ← HLY.out] at ho3
  have t3 : Hid (TS w A g n c at_ sz x bs w3) := t2.out.next hb3
  have o3 : Hid (w3.ownsRow w2.heap.size 5 1 (.slice A2 L c2) L (B8 ys)) := ho3
  have p3 : Hid (w3.ownsRow w1.heap.size 5 1 (.slice A1 L c1) L (B8 ys)) := owns_below o2.out hb3
  have S23 : w2.heap.size ≤ w3.heap.size := hb3.size
  clear ho3 hb3 kc
  have kc := t3.out.s1.bc.cell
  go_wp2_with fail
  refine (eq_any _ _ _ _ _ _ ys ys w3.heap.size w3.heap.size _ (Reads.of_own p3.out) (Reads.of_own o3.out) (by omega) (by omega)).mono ?_
  rintro e w4 ⟨rfl, hb4⟩
  rw [decide_eq_true rfl]
  have t4 : Hid (TS w A g n c at_ sz x bs w4) := t3.out.next hb4
  have p4 : Hid (w4.ownsRow w1.heap.size 5 1 (.slice A1 L c1) L (B8 ys)) := owns_below p3.out hb4
  have S34 : w3.heap.size ≤ w4.heap.size := hb4.size
  clear hb4 kc
  have kc := t4.out.s1.bc.cell
  go_wp2_with fail
  refine (kept_any g A n n c bs bs w4.heap.size w.heap.size _ (Reads.of_own t4.out.inr) t4.out.s1.rd (by omega) (by omega) HL.out t4.out.lt).mono ?_
  rintro e w5 ⟨rfl, hb5⟩
  rw [decide_eq_true rfl]
  have t5 : Hid (TS w A g n c at_ sz x bs w5) := t4.out.next hb5
  have p5 : Hid (w5.ownsRow w1.heap.size 5 1 (.slice A1 L c1) L (B8 ys)) := owns_below p4.out hb5
  have S45 : w4.heap.size ≤ w5.heap.size := hb5.size
  clear hb5 kc
  have kc := t5.out.s1.bc.cell
  go_wp2_with fail
  refine (set_any (some ⟨g, 0, none⟩) n (n + 7) at_ x w5.heap.size sz bs _ (reads_take (Reads.of_own t5.out.inr) HL.out) (Nat.le_refl _) (by omega) ha hx).mono ?_
  rintro e w6 ⟨A3, c3, rfl, ho6, hb6⟩
  rw [← HQ.out, ← HY.out, ← HLY.out]
  rw [← HY.out, ← HLY.out] at ho6
  have t6 : Hid (TS w A g n c at_ sz x bs w6) := t5.out.next hb6
  have o6 : Hid (w6.ownsRow w5.heap.size 5 1 (.slice A3 L c3) L (B8 ys)) := ho6
  have p6 : Hid (w6.ownsRow w1.heap.size 5 1 (.slice A1 L c1) L (B8 ys)) := owns_below p5.out hb6
  clear ho6 hb6 kc
  have kc := t6.out.s1.bc.cell
  go_wp2_with fail
  have ap : Hid (AP w.heap.size w6.heap.size (tri A1 A3 (some ⟨g, 0, none⟩)) (tri L L n) (tri c1 c3 (n + 7)) (tri ys ys bs) (w6.alloc (.cells #[.slice A1 L c1, .slice A3 L c3, .slice (some ⟨g, 0, none⟩) n (n + 7)] 22))) := by
    refine ⟨Blk.new _ _ _, fun i hi => ?_⟩
    have q0 : w6.ownsRow w.heap.size 5 1 (.slice A1 L c1) L (B8 ys) := owns_base p6.out t1.out.s1.low.size
    have q1 : w6.ownsRow w.heap.size 5 1 (.slice A3 L c3) L (B8 ys) := owns_base o6.out t5.out.s1.low.size
    have q2 : w6.ownsRow w.heap.size 5 1 (.slice (some ⟨g, 0, none⟩) n (n + 7)) n (B8 bs) := own_take (ys := B8 sp) (by have h := t6.out.inr; rw [show B8 (bs ++ sp) = B8 bs ++ B8 sp by simp [B8]] at h; exact h) (by simp [B8]; exact HL.out)
    match i, hi with
    | 0, _ => exact q0.alloc _
    | 1, _ => exact q1.alloc _
    | 2, _ => exact q2.alloc _
  have hne : Hid (∀ i j, i < 3 → j < 3 → i ≠ j → (Value.slice (tri A1 A3 (some ⟨g, 0, none⟩) i) (tri L L n i) (tri c1 c3 (n + 7) i)).ownBlock = none ∨
      (Value.slice (tri A1 A3 (some ⟨g, 0, none⟩) i) (tri L L n i) (tri c1 c3 (n + 7) i)).ownBlock ≠ (Value.slice (tri A1 A3 (some ⟨g, 0, none⟩) j) (tri L L n j) (tri c1 c3 (n + 7) j)).ownBlock) := by
    have hg : ∀ g', (Value.slice (some ⟨g, 0, none⟩) n (n + 7)).ownBlock = some g' → g' < w1.heap.size := fun g' e => by
      have : g = g' := by simpa [Value.ownBlock] using e
      omega
    have h12 : w1.heap.size ≤ w5.heap.size := by omega
    have d01 := blk_apart (fun g' e => (o6.out.lt g' e).1) (fun g' e => (p5.out.lt g' e).2)
    have d02 := blk_apart (fun g' e => (p6.out.lt g' e).1) hg
    have d12 := blk_apart (m := w1.heap.size) (fun g' e => Nat.le_trans h12 (o6.out.lt g' e).1) hg
    intro i j hi hj hij
    match i, j, hi, hj with
    | 0, 0, _, _ => omega
    | 1, 1, _, _ => omega
    | 2, 2, _, _ => omega
    | 0, 1, _, _ => exact d01.2
    | 1, 0, _, _ => exact d01.1
    | 0, 2, _, _ => exact d02.1
    | 2, 0, _, _ => exact d02.2
    | 1, 2, _, _ => exact d12.1
    | 2, 1, _, _ => exact d12.2
  have hnn : Hid (∀ i, tri L L n i ≤ 131072) := fun i => by
    match i with
    | 0 => exact hLn
    | 1 => exact hLn
    | i + 2 => exact hn
  refine (apart_any w.heap.size w6.heap.size 3 _ _ _ _ _ ap.out (by have := t6.out.s1.low.size; simp; omega) t6.out.s1.low.size hnn.out hne.out).mono ?_
  rintro e w8 ⟨rfl, hb8⟩
  have B8' : Hid (Below w.heap.size w w8) := t6.out.s1.low.trans (((Below.refl _ _).alloc t6.out.s1.low.size _).trans hb8)
  clear hb8 hnn hne ap kc t6 t5 t4 t3 t2 t1 o6 p6 p5 p4 p3 o3 o2
  go_wp2_with fail
  refine (works_any _).mono ?_
  rintro e w9 ⟨rfl, hb9⟩
  have B9 : Hid (Below w.heap.size w w9) := B8'.out.trans (hb9.mono B8'.out.size)
  clear hb9
  go_wp2_with fail
  go_ret
  exact ⟨rfl, B9.out⟩

set_option maxHeartbeats 800000 in
theorem sets_any (A : Option Addr) (n c at_ x : Nat) (bs : List Nat) (sz : Int) (w : World) (h : Reads w w.heap.size 1 A n (B8 bs)) (h8 : ∀ x ∈ bs, x < 256) (ha : at_ < M) (hx : x < M) (hn : n ≤ maxLen) :
    Calls Try.prog 4 #[.agg #[.slice A n c, .int .u64 at_, .int .i64 sz, .int .u64 x]] w fun e w' => e = .returned (.bool true) ∧ Below w.heap.size w w' := by
  by_cases hl : n ≤ 131072
  · exact sets_small A n c at_ x bs sz w h h8 ha hx hl
  · have st0 : Hid (S1 w A n c at_ sz x bs (w.alloc (.cells #[.slice A n c, .int .u64 at_, .int .i64 sz, .int .u64 x] 32))) := S1.start h
    clear h h8
    go_enter Try.func4, Try.ntmps4
    go_wp2_with fail
    refine (works_any _).mono ?_
    rintro e w1 ⟨rfl, hb1⟩
    have HB : Hid (Below w.heap.size w w1) := st0.out.low.trans (hb1.mono st0.out.low.size)
    clear hb1
    go_wp2_with fail
    go_ret
    exact ⟨rfl, HB.out⟩
end Go.Proofs.Ytfhkcbhbomghfaa
