import Derived.Test.YtaeccpoljenjmaaW7
import Derived.Test.YtaeccpoljenjmaaArgs
import Derived.Deep.RegionHeld3
import Derived.Deep.RegionWith
import Derived.Deep.CutRange
namespace Go.Proofs.Ytaeccpoljenjmaa
open Go.RowKit Go.Hos
set_option linter.unusedVariables false

/-- only two blocks may have changed -/
structure FR (w w' : World) (a b : Nat) : Prop where
  os : w'.os = w.os
  tape : w'.tape = w.tape
  output : w'.output = w.output
  size : w.heap.size ≤ w'.heap.size
  block : ∀ k, k < w.heap.size → k ≠ a → k ≠ b → w'.heap[k]? = w.heap[k]?
theorem FR.refl (w : World) (a b : Nat) : FR w w a b := ⟨rfl, rfl, rfl, Nat.le_refl _, fun _ _ _ _ => rfl⟩
theorem FR.left {w W W' : World} {a b : Nat} (h : FR w W a b) (hg : W.grownBy W' (some a)) : FR w W' a b :=
  ⟨hg.os.trans h.os, hg.tape.trans h.tape, hg.output.trans h.output, Nat.le_trans h.size hg.size, fun k hk h1 h2 => (hg.block k (Nat.lt_of_lt_of_le hk h.size) (by intro e; injection e with e; exact h1 e)).trans (h.block k hk h1 h2)⟩
theorem FR.right {w W W' : World} {a b : Nat} (h : FR w W a b) (hg : W.grownBy W' (some b)) : FR w W' a b :=
  ⟨hg.os.trans h.os, hg.tape.trans h.tape, hg.output.trans h.output, Nat.le_trans h.size hg.size, fun k hk h1 h2 => (hg.block k (Nat.lt_of_lt_of_le hk h.size) (by intro e; injection e with e; exact h2 e)).trans (h.block k hk h1 h2)⟩
theorem FR.next {w W W' : World} {a b : Nat} (h : FR w W a b) (hb : Below W.heap.size W W') : FR w W' a b := h.left (grown_of_below hb _)

def OpD.v (o : OpD) : Array Value := #[.int .i64 o.d, .int .i64 o.t, .int .i64 o.f, .int .i64 o.i, .int .i64 o.p, .bool o.x]
def stepT (T : Nat → Sl) (o : OpD) : Nat → Sl :=
  if o.d = 1 then openT T o.i o.x else if o.d = 2 then closeT T o.f else if o.d = 4 then moveT T o.f o.p else if o.d = 5 then sweepT T 16 else T

structure DS (w : World) (gt gx ga ca : Nat) (o : OpD) (T1 T2 : Nat → Sl) (W : World) : Prop where
  b1 : Blk W w.heap.size 41 #[.pointer (some ⟨gt, 0, none⟩), .pointer (some ⟨gx, 0, none⟩)]
  b2 : Blk W (w.heap.size + 1) 27 o.v
  tb : SB W gt 50 16 T1
  rt : RT W gx ga ca T2
  fr : FR w W gt ga
section
variable {w W W' : World} {gt gx ga ca : Nat} {o : OpD} {T1 T2 T' : Nat → Sl}
theorem DS.next (h : DS w gt gx ga ca o T1 T2 W) (hb : Below W.heap.size W W') : DS w gt gx ga ca o T1 T2 W' :=
  ⟨h.b1.below hb h.b1.lt, h.b2.below hb h.b2.lt, h.tb.next hb, h.rt.next hb, h.fr.next hb⟩
theorem DS.left (h : DS w gt gx ga ca o T1 T2 W) (hg : W.grownBy W' (some gt)) (hs : SB W' gt 50 16 T') : DS w gt gx ga ca o T' T2 W' := by
  have h1 := h.tb.ne_blk h.b1 (by decide)
  have h2 := h.tb.ne_blk h.b2 (by decide)
  have h3 := h.tb.ne_blk h.rt.hd (by decide)
  have h4 := h.tb.ne_ h.rt.sb (by decide)
  exact ⟨h.b1.grown hg (by intro e; injection e with e; exact h1 e.symm), h.b2.grown hg (by intro e; injection e with e; exact h2 e.symm), hs,
    h.rt.grown hg (by intro e; injection e with e; exact h3 e.symm) (by intro e; injection e with e; exact h4 e.symm), h.fr.left hg⟩
theorem DS.right (h : DS w gt gx ga ca o T1 T2 W) (hg : W.grownBy W' (some ga)) (hs : RT W' gx ga ca T') : DS w gt gx ga ca o T1 T' W' := by
  have h1 := h.rt.sb.ne_blk h.b1 (by decide)
  have h2 := h.rt.sb.ne_blk h.b2 (by decide)
  have h4 := h.tb.ne_ h.rt.sb (by decide)
  exact ⟨h.b1.grown hg (by intro e; injection e with e; exact h1 e.symm), h.b2.grown hg (by intro e; injection e with e; exact h2 e.symm), h.tb.grown hg (by intro e; injection e with e; exact h4 e), hs, h.fr.right hg⟩
theorem DS.c8 (h : Hid (DS w gt gx ga ca o T1 T2 W)) (f : Int) : Calls Try.prog 8 #[.pointer (some ⟨gt, 0, none⟩), .int .i64 f] W fun e w' => e = .returned (.int .i64 (closeE T1 f)) ∧ Hid (DS w gt gx ga ca o (closeT T1 f) T2 w') := by
  refine (close_any gt f T1 _ h.out.tb).mono ?_
  rintro e w' ⟨rfl, hs, hg⟩
  exact ⟨rfl, h.out.left hg hs⟩
theorem DS.c26 (h : Hid (DS w gt gx ga ca o T1 T2 W)) (f : Int) : Calls Try.prog 26 #[.pointer (some ⟨gx, 0, none⟩), .int .i64 f] W fun e w' => e = .returned (.int .i64 (closeE T2 f)) ∧ Hid (DS w gt gx ga ca o T1 (closeT T2 f) w') := by
  refine (rclose_any gx ga ca f T2 _ h.out.rt).mono ?_
  rintro e w' ⟨rfl, hs, hg⟩
  exact ⟨rfl, h.out.right hg hs⟩
theorem DS.c17 (h : Hid (DS w gt gx ga ca o T1 T2 W)) (f p : Int) : Calls Try.prog 17 #[.pointer (some ⟨gt, 0, none⟩), .int .i64 f, .int .i64 p] W fun e w' => e = .returned (.int .i64 (moveE T1 f p)) ∧ Hid (DS w gt gx ga ca o (moveT T1 f p) T2 w') := by
  refine (move_any gt f p T1 _ h.out.tb).mono ?_
  rintro e w' ⟨rfl, hs, hg⟩
  exact ⟨rfl, h.out.left hg hs⟩
theorem DS.c28 (h : Hid (DS w gt gx ga ca o T1 T2 W)) (f p : Int) : Calls Try.prog 28 #[.pointer (some ⟨gx, 0, none⟩), .int .i64 f, .int .i64 p] W fun e w' => e = .returned (.int .i64 (moveE T2 f p)) ∧ Hid (DS w gt gx ga ca o T1 (moveT T2 f p) w') := by
  refine (rmove_any gx ga ca f p T2 _ h.out.rt).mono ?_
  rintro e w' ⟨rfl, hs, hg⟩
  exact ⟨rfl, h.out.right hg hs⟩
theorem DS.c9 (h : Hid (DS w gt gx ga ca o T1 T2 W)) (i : Int) (x : Bool) : Calls Try.prog 9 #[.pointer (some ⟨gt, 0, none⟩), .int .i64 i, .bool x] W fun e w' => e = .returned (.tuple #[.int .i64 (openN T1 i), .int .i64 (openE T1 i)]) ∧ Hid (DS w gt gx ga ca o (openT T1 i x) T2 w') := by
  refine (open_any gt T1 i x _ h.out.tb).mono ?_
  rintro e w' ⟨rfl, hs, hg⟩
  exact ⟨rfl, h.out.left hg hs⟩
theorem DS.c25 (h : Hid (DS w gt gx ga ca o T1 T2 W)) (i : Int) (x : Bool) : Calls Try.prog 25 #[.pointer (some ⟨gx, 0, none⟩), .int .i64 i, .bool x] W fun e w' => e = .returned (.tuple #[.int .i64 (openN T2 i), .int .i64 (openE T2 i)]) ∧ Hid (DS w gt gx ga ca o T1 (openT T2 i x) w') := by
  refine (ropen_any gx ga ca i x T2 _ h.out.rt).mono ?_
  rintro e w' ⟨rfl, hs, hg⟩
  exact ⟨rfl, h.out.right hg hs⟩
theorem DS.c19 (h : Hid (DS w gt gx ga ca o T1 T2 W)) : Calls Try.prog 19 #[.pointer (some ⟨gt, 0, none⟩)] W fun e w' => e = .returned (.tuple #[]) ∧ Hid (DS w gt gx ga ca o (sweepT T1 16) T2 w') := by
  refine (sweep_any gt T1 _ h.out.tb).mono ?_
  rintro e w' ⟨rfl, hs, hg⟩
  exact ⟨rfl, h.out.left hg hs⟩
theorem DS.c29 (h : Hid (DS w gt gx ga ca o T1 T2 W)) : Calls Try.prog 29 #[.pointer (some ⟨gx, 0, none⟩)] W fun e w' => e = .returned (.tuple #[]) ∧ Hid (DS w gt gx ga ca o T1 (sweepT T2 16) w') := by
  refine (rsweep_any gx ga ca T2 _ h.out.rt).mono ?_
  rintro e w' ⟨rfl, hs, hg⟩
  exact ⟨rfl, h.out.right hg hs⟩
theorem DS.c10 (h : Hid (DS w gt gx ga ca o T1 T2 W)) (f : Int) : Calls Try.prog 10 #[.pointer (some ⟨gt, 0, none⟩), .int .i64 f] W fun e w' => e = .returned (.tuple #[.agg (atV T1 f).cs, .int .i64 (closeE T1 f)]) ∧ Hid (DS w gt gx ga ca o T1 T2 w') ∧ Hid (Below W.heap.size W w') := by
  refine (at_any gt f T1 _ h.out.tb).mono ?_
  rintro e w' ⟨rfl, hb⟩
  exact ⟨rfl, h.out.next hb, hb⟩
theorem DS.c27 (h : Hid (DS w gt gx ga ca o T1 T2 W)) (f : Int) : Calls Try.prog 27 #[.pointer (some ⟨gx, 0, none⟩), .int .i64 f] W fun e w' => e = .returned (.tuple #[.agg (atV T2 f).cs, .int .i64 (closeE T2 f)]) ∧ Hid (DS w gt gx ga ca o T1 T2 w') ∧ Hid (Below W.heap.size W w') := by
  refine (rat_any gx ga ca f T2 _ h.out.rt).mono ?_
  rintro e w' ⟨rfl, hb⟩
  exact ⟨rfl, h.out.next hb, hb⟩
end

abbrev DB (w : World) (gt gx : Nat) (f p : Int) (W : World) : Prop :=
  W.cell? ⟨w.heap.size, 0, none⟩ = some (.pointer (some ⟨gt, 0, none⟩)) ∧ W.cell? ⟨w.heap.size, 1, none⟩ = some (.pointer (some ⟨gx, 0, none⟩)) ∧ W.cell? ⟨w.heap.size + 1, 2, none⟩ = some (.int .i64 f) ∧ W.cell? ⟨w.heap.size + 1, 4, none⟩ = some (.int .i64 p)
theorem DS.box {w W : World} {gt gx ga ca : Nat} {d t f i p : Int} {x : Bool} {T1 T2 : Nat → Sl} (h : Hid (DS w gt gx ga ca ⟨d, t, f, i, p, x⟩ T1 T2 W)) : DB w gt gx f p W :=
  ⟨(h.out.b1.cell 0).trans rfl, (h.out.b1.cell 1).trans rfl, (h.out.b2.cell 2).trans rfl, (h.out.b2.cell 4).trans rfl⟩
set_option maxRecDepth 20000 in
set_option maxHeartbeats 3200000 in
theorem does_any (gt gx ga ca : Nat) (o : OpD) (T : Nat → Sl) (w : World) (ht : SB w gt 50 16 T) (hr : RT w gx ga ca T) :
    Calls Try.prog 15 #[.agg #[.pointer (some ⟨gt, 0, none⟩), .pointer (some ⟨gx, 0, none⟩)], .agg #[.int .i64 o.d, .int .i64 o.t, .int .i64 o.f, .int .i64 o.i, .int .i64 o.p, .bool o.x]] w
      fun e w' => e = .returned (.bool true) ∧ SB w' gt 50 16 (stepT T o) ∧ RT w' gx ga ca (stepT T o) ∧ FR w w' gt ga := by
  have s0 : Hid (DS w gt gx ga ca o T T ((w.alloc (.cells #[.pointer (some ⟨gt, 0, none⟩), .pointer (some ⟨gx, 0, none⟩)] 41)).alloc (.cells #[.int .i64 o.d, .int .i64 o.t, .int .i64 o.f, .int .i64 o.i, .int .i64 o.p, .bool o.x] 27))) := by
    have b : Below w.heap.size w ((w.alloc (.cells #[.pointer (some ⟨gt, 0, none⟩), .pointer (some ⟨gx, 0, none⟩)] 41)).alloc (.cells #[.int .i64 o.d, .int .i64 o.t, .int .i64 o.f, .int .i64 o.i, .int .i64 o.p, .bool o.x] 27)) := ((Below.refl _ _).alloc (Nat.le_refl _) _).alloc (by simp) _
    exact ⟨(Blk.new _ _ _).alloc _, blk_at _ _ (by simp), ht.next b, hr.next b, (FR.refl w gt ga).next b⟩
  have done : Hid (∀ W, DS w gt gx ga ca o (stepT T o) (stepT T o) W → SB W gt 50 16 (stepT T o) ∧ RT W gx ga ca (stepT T o) ∧ FR w W gt ga) := fun W h => ⟨h.tb, h.rt, h.fr⟩
  clear ht hr
  obtain ⟨d, t, f, i, p, x⟩ := o
  by_cases d1 : d = 1
  · subst d1
    go_enter Try.func15, Try.ntmps15
    go_wp2_with fail
    refine (DS.c9 s0 i x).mono ?_
    rintro e w1 ⟨rfl, s1⟩
    have k1 := s1.out.b1.cell; have k2 := s1.out.b2.cell
    rw [OpD.v] at k2
    clear s0
    go_wp2_with fail
    refine (DS.c25 s1 i x).mono ?_
    rintro e w2 ⟨rfl, s2⟩
    clear s1 k1 k2
    go_wp2_with fail
    go_ret
    exact ⟨rfl, done.out _ s2.out⟩
  by_cases d2 : d = 2
  · subst d2
    clear d1
    go_enter Try.func15, Try.ntmps15
    have s1 := Lib.hid (s0.out.next (Below.refl _ _).drew)
    go_wp2_with fail
    go_region_held3 (fun W' => DB w gt gx f p W') (exact DS.box (by assumption))
      (first
        | (go_at_call 8; refine (DS.c8 (by assumption) f).mono ?_; rintro e w2 ⟨rfl, s2⟩)
        | (go_at_call 26; refine (DS.c26 (by assumption) f).mono ?_; rintro e w2 ⟨rfl, s2⟩))
    all_goals
      go_wp2_with fail
      go_ret
      exact ⟨rfl, done.out _ s2.out⟩
  by_cases d3 : d = 3
  · subst d3
    clear d1 d2
    go_enter Try.func15, Try.ntmps15
    go_wp2_with fail
    refine (DS.c10 s0 f).mono ?_
    rintro e w1 ⟨rfl, s1, b1⟩
    have k1 := s1.out.b1.cell; have k2 := s1.out.b2.cell
    have l1 := s1.out.b1.lt; have l2 := s1.out.b2.lt
    rw [OpD.v] at k2
    rw [Sl.cs]
    clear s0 b1
    go_wp2_with fail
    refine (DS.c27 (Lib.hid (s1.out.next ((Below.refl _ _).alloc (Nat.le_refl _) _))) f).mono ?_
    rintro e w2 ⟨rfl, s2, b2⟩
    have k3 := ((Blk.new w1 33 #[.bool (atV T f).u, .int .i64 (atV T f).i, .int .i64 (atV T f).p, .bool (atV T f).x]).below b2.out (by simp)).cell
    have hz : w1.heap.size < w2.heap.size := by have := b2.out.size; simp at this; omega
    have hq : ∀ w, (binOp .eql 33 (.agg #[.bool (atV T f).u, .int .i64 (atV T f).i, .int .i64 (atV T f).p, .bool (atV T f).x]) (.agg #[.bool (atV T f).u, .int .i64 (atV T f).i, .int .i64 (atV T f).p, .bool (atV T f).x])).run Try.prog w = .ok (.bool true) w := fun w => by
      rw [run_eql33, decide_eq_true rfl]
    rw [Sl.cs]
    generalize (atV T f).u = u1 at *; generalize (atV T f).i = u2 at *; generalize (atV T f).p = u3 at *; generalize (atV T f).x = u4 at *
    clear s1 k1 k2 b2
    go_wp2_with fail
    go_ret
    exact ⟨rfl, done.out _ (s2.out.next ((Below.refl _ _).alloc (Nat.le_refl _) _))⟩
  by_cases d4 : d = 4
  · subst d4
    clear d1 d2 d3
    go_enter Try.func15, Try.ntmps15
    have s1 := Lib.hid (s0.out.next (Below.refl _ _).drew)
    go_wp2_with fail
    go_region_held3 (fun W' => DB w gt gx f p W') (exact DS.box (by assumption))
      (first
        | (go_at_call 17; refine (DS.c17 (by assumption) f p).mono ?_; rintro e w2 ⟨rfl, s2⟩)
        | (go_at_call 28; refine (DS.c28 (by assumption) f p).mono ?_; rintro e w2 ⟨rfl, s2⟩))
    all_goals
      go_wp2_with fail
      go_ret
      exact ⟨rfl, done.out _ s2.out⟩
  by_cases d5 : d = 5
  · subst d5
    clear d1 d2 d3 d4
    go_enter Try.func15, Try.ntmps15
    go_wp2_with fail
    refine (DS.c19 s0).mono ?_
    rintro e w1 ⟨rfl, s1⟩
    have k1 := s1.out.b1.cell; have k2 := s1.out.b2.cell
    rw [OpD.v] at k2
    clear s0
    go_wp2_with fail
    refine (DS.c29 s1).mono ?_
    rintro e w2 ⟨rfl, s2⟩
    clear s1 k1 k2
    go_wp2_with fail
    go_ret
    exact ⟨rfl, done.out _ s2.out⟩
  have e : stepT T ⟨d, t, f, i, p, x⟩ = T := by unfold stepT; rw [if_neg d1, if_neg d2, if_neg d4, if_neg d5]
  have b1 : (d == 1) = false := by simpa using d1
  have b2 : (d == 2) = false := by simpa using d2
  have b3 : (d == 3) = false := by simpa using d3
  have b4 : (d == 4) = false := by simpa using d4
  have b5 : (d == 5) = false := by simpa using d5
  have done' : Hid (∀ W, DS w gt gx ga ca ⟨d, t, f, i, p, x⟩ T T W → SB W gt 50 16 (stepT T ⟨d, t, f, i, p, x⟩) ∧ RT W gx ga ca (stepT T ⟨d, t, f, i, p, x⟩) ∧ FR w W gt ga) := fun W h => by rw [e]; exact ⟨h.tb, h.rt, h.fr⟩
  clear e d1 d2 d3 d4 d5 done
  go_enter Try.func15, Try.ntmps15
  go_wp2_with fail
  go_ret
  exact ⟨rfl, done'.out _ s0.out⟩
end Go.Proofs.Ytaeccpoljenjmaa
