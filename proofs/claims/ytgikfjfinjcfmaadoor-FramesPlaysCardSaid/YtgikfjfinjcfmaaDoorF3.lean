import Derived.Test.YtgikfjfinjcfmaaDoorF2
import Derived.Deep.RegionHeld3
import Derived.Deep.CutRange
import Derived.StillTailTactics
import Derived.Deep.OwnRows
namespace Go.Proofs.YtgikfjfinjcfmaaDoor
open Go.RowKit Go.Hos
set_option linter.unusedVariables false

theorem info3 : (Tryd.prog.info? 3).map (fun i => (i.zero, i.size, i.bytes)) = some (some (.int .i64 0), 1, 8) := by kernel_rfl
theorem info67 : (Tryd.prog.info? 67).map (fun i => (i.zero, i.size, i.bytes)) = some (some (.pointer none), 1, 8) := by kernel_rfl
theorem info65 : (Tryd.prog.info? 65).map (fun i => (i.zero, i.size, i.bytes)) = some (some (.int .u64 0), 1, 8) := by kernel_rfl

theorem row_made {W : World} {g : Nat} (t : TypeId) (n : Nat) (v : Value) (hg : W.heap.size = g) : Row (W.alloc (.cells (madeCells #[v] n) t)) g t n (fun _ => v) := by
  subst hg; exact Row.made W t n v _ (toList_madeCells_one v n)
theorem row_al {W : World} {g n : Nat} {t : TypeId} {f : Nat → Value} (h : Row W g t n f) (o : Obj) : Row (W.alloc o) g t n f := h.next ((Below.refl _ _).alloc (Nat.le_refl _) _)
theorem row_drew {W : World} {g n : Nat} {t : TypeId} {f : Nat → Value} (h : Row W g t n f) : Row W.drew g t n f := h.next (Below.refl _ _).drew

theorem blk_at' {w : World} {g : Nat} (t : TypeId) (cs : Array Value) (h : w.heap.size = g) : Blk (w.alloc (.cells cs t)).drew g t cs := blk_at t cs h
/-- a pool whose words are noughts -/
structure NP (w : World) (p c b f n nw : Nat) (W : World) : Prop where
  low : Below w.heap.size w W
  hd : Blk W p 64 #[.slice (some ⟨c, 0, none⟩) n n, .slice (some ⟨b, 0, none⟩) n n, .slice (some ⟨f, 0, none⟩) nw nw, .int .i64 n]
  cc : Row W c 3 n (fun _ => .int .i64 0)
  bb : Row W b 67 n (fun _ => .pointer none)
  ff : Row W f 65 nw (fun _ => .int .u64 0)
  bs : w.heap.size ≤ p ∧ w.heap.size ≤ c ∧ w.heap.size ≤ b ∧ w.heap.size ≤ f

theorem drewc {W : World} {a : Addr} {v : Value} (h : W.cell? a = some v) : ({ heap := W.heap, tape := W.tape, drawn := W.drawn + 1, os := W.os, output := W.output } : World).cell? a = some v := h
/-- while the words are filled -/
structure NL (w : World) (p c b f n nw : Nat) (X : Nat → Nat) (k : Nat) (W : World) : Prop where
  low : Below w.heap.size w W
  hd : Blk W p 64 #[.slice (some ⟨c, 0, none⟩) n n, .slice (some ⟨b, 0, none⟩) n n, .slice (some ⟨f, 0, none⟩) nw nw, .int .i64 n]
  cc : Row W c 3 n (fun _ => .int .i64 0)
  bb : Row W b 67 n (fun _ => .pointer none)
  ff : Row W f 65 nw (fun i => .int .u64 (X i))
  bs : w.heap.size ≤ p ∧ w.heap.size ≤ c ∧ w.heap.size ≤ b ∧ w.heap.size ≤ f
  xs : ∀ i, i < nw → X i < 18446744073709551616 ∧ ∀ j, j < 64 → (X i).testBit j = decide (i * 64 + j < k)
theorem upd_comp {α β : Type} (F : α → β) (f : Nat → α) (k : Nat) (x : α) : upd (fun j => F (f j)) k (F x) = fun j => F (upd f k x j) := by
  funext j; unfold upd; split <;> rfl
theorem or_bit {x r : Nat} (hx : x < 18446744073709551616) (hr : r < 64) : x ||| 2 ^ r < 18446744073709551616 ∧ ∀ j, (x ||| 2 ^ r).testBit j = (x.testBit j || decide (r = j)) := by
  refine ⟨?_, fun j => by rw [Nat.testBit_or, Nat.testBit_two_pow]⟩
  have h1 : 2 ^ r < 2 ^ 64 := Nat.pow_lt_pow_right (by omega) hr
  exact Nat.or_lt_two_pow (n := 64) hx h1
theorem NL.step {w : World} {p c b f n nw : Nat} {X : Nat → Nat} {k : Nat} {W : World} (h : NL w p c b f n nw X k W) (hk : k < n) :
    NL w p c b f n nw (upd X (k / 64) (X (k / 64) ||| 2 ^ (k % 64))) (k + 1) (W.setCell ⟨f, k / 64, none⟩ (.int .u64 ((X (k / 64) ||| 2 ^ (k % 64) : Nat) : Int))) := by
  have n1 := h.ff.ne_blk h.hd (by decide)
  have n2 := h.ff.ne_ h.cc (by decide)
  have n3 := h.ff.ne_ h.bb (by decide)
  refine ⟨h.low.setCell h.bs.2.2.2 _, h.hd.far (fun e => n1 e.symm) _, h.cc.far (fun e => n2 e.symm) _, h.bb.far (fun e => n3 e.symm) _, ?_, h.bs, fun i hi => ?_⟩
  · have := h.ff.set_ (k / 64) (.int .u64 ((X (k / 64) ||| 2 ^ (k % 64) : Nat) : Int))
    rw [upd_comp (fun x : Nat => Value.int .u64 (x : Int))] at this
    exact this
  · by_cases e : i = k / 64
    · subst e
      obtain ⟨h1, h2⟩ := h.xs _ hi
      obtain ⟨h3, h4⟩ := or_bit h1 (show k % 64 < 64 by omega)
      rw [upd_same]
      refine ⟨h3, fun j hj => ?_⟩
      rw [h4, h2 j hj]
      rw [← Bool.decide_or]
      exact decide_eq_decide.2 (by omega)
    · rw [upd_other _ _ e]
      obtain ⟨h1, h2⟩ := h.xs i hi
      refine ⟨h1, fun j hj => ?_⟩
      rw [h2 j hj]
      exact decide_eq_decide.2 (by omega)
set_option maxRecDepth 20000 in
set_option maxHeartbeats 1600000 in
theorem new_ok (n : Nat) (w : World) (h1 : 1 ≤ n) (h2 : n ≤ 1024) :
    Calls Tryd.prog 28 #[.int .i64 n] w fun e w' => ∃ p c b f, e = .returned (.tuple #[.pointer (some ⟨p, 0, none⟩), .int .i64 0]) ∧ PM w.heap.size w' p c b f n (fun _ => 0) (fun _ => 0) (fun _ _ => 0) ∧ Below w.heap.size w w' := by
  obtain ⟨nw, hnw⟩ : ∃ nw, nw = (n + 63) / 64 := ⟨_, rfl⟩
  have hnw2 : nw ≤ 16 := by omega
  have hmk60 := run_make_row' (P := Tryd.prog) 60 3 _ _ Tryd.underlying60 info3 rfl .i64 .i64 n (by omega) (by omega)
  have hmk61 := run_make_row' (P := Tryd.prog) 61 67 _ _ Tryd.underlying61 info67 rfl .i64 .i64 n (by omega) (by omega)
  have hmk62 := run_make_row' (P := Tryd.prog) 62 65 _ _ Tryd.underlying62 info65 rfl .i64 .i64 nw (by omega) (by omega)
  have hw1 : IntKind.i64.wrap ((n : Int) + 63) = (n : Int) + 63 := IntWalk.i64_in _ (by omega)
  have hw2 : ((n : Int) + 63).tdiv 64 = (nw : Int) := by rw [Int.tdiv_eq_ediv_of_nonneg (by omega)]; omega
  have hw3 : ((n : Int) + 63) / 64 = (nw : Int) := by omega
  have hw4 : IntKind.i64.wrap (nw : Int) = (nw : Int) := IntWalk.i64_in _ (by omega)
  have b1 : ¬ (n : Int) < 1 := by omega
  have b2 : ¬ 1024 < (n : Int) := by omega
  have HNW := Lib.hid hnw
  clear hnw
  go_enter Tryd.func28, Tryd.ntmps28
  go_upto_region 3 with fail
  go_cut [4] from 12 (fun v4 wx => ∃ p c b f, v4 = .pointer (some ⟨p, 0, none⟩) ∧ Hid (NP w p c b f n nw wx))
  case first =>
    go_region_held3 (fun _ => True) (trivial) (fail)
    all_goals
      go_wp2_with fail
      go_meet
      refine ⟨_, _, _, _, rfl, ?low, blk_at' _ _ ?hd, ?cc, ?bb, ?ff, ?bs⟩
      case low => repeat (first | exact Below.refl _ _ | apply Below.drew | refine Below.alloc ?_ (by first | exact Nat.le_refl _ | (simp only [World.size_alloc]; omega)) _)
      case hd => simp only [World.size_alloc]
      case cc => repeat (first | exact row_made _ _ _ (by simp only [World.size_alloc]) | apply row_drew | refine row_al ?_ _)
      case bb => repeat (first | exact row_made _ _ _ (by simp only [World.size_alloc]) | apply row_drew | refine row_al ?_ _)
      case ff => repeat (first | exact row_made _ _ _ (by simp only [World.size_alloc]) | apply row_drew | refine row_al ?_ _)
      case bs => omega
  case rest =>
    obtain ⟨p, c, b, f, rfl, np⟩ := hcut
    have l0 : Hid (NL w p c b f n nw (fun _ => 0) 0 wc) := ⟨np.out.low, np.out.hd, np.out.cc, np.out.bb, np.out.ff, np.out.bs, fun i hi => ⟨by omega, fun j hj => by simp⟩⟩
    clear np hmk60 hmk61 hmk62 hw1 hw2 hw3 hw4 b1 b2
    go_wp2_with fail
    go_loopw [24] (fun i wr => ∃ (k : Nat) (X : Nat → Nat), k ≤ n ∧ i = .int .i64 k ∧ Hid (NL w p c b f n nw X k wr)) (fun i _ => n - (intOf i).toNat)
    case atStart => exact ⟨0, _, by omega, rfl, l0⟩
    case round =>
      obtain ⟨k, X, hk, rfl, l⟩ := hrel
      by_cases hkn : k < n
      · have e1 : decide ((k : Int) < (n : Int)) = true := by simp; omega
        obtain ⟨q, hq⟩ : ∃ q, q = k / 64 := ⟨_, rfl⟩
        obtain ⟨r, hr⟩ : ∃ r, r = k % 64 := ⟨_, rfl⟩
        obtain ⟨x, hx⟩ : ∃ x, x = X (k / 64) := ⟨_, rfl⟩
        obtain ⟨pw, hpw⟩ : ∃ pw, pw = 2 ^ (k % 64) := ⟨_, rfl⟩
        have l1 := Lib.hid (NL.step ⟨l.out.low.drew, l.out.hd, row_drew l.out.cc, row_drew l.out.bb, row_drew l.out.ff, l.out.bs, l.out.xs⟩ hkn)
        have hqn : q < nw := by have := HNW.out; omega
        have kc : wr.cell? ⟨p, 2, none⟩ = some (.slice (some ⟨f, 0, none⟩) nw nw) := (l.out.hd.cell 2).trans rfl
        have kx := l.out.ff.get hqn
        have fx := l.out.ff.free q
        have hx64 := (l.out.xs q hqn).1
        have hor : bits .or .u64 (x : Int) (pw : Int) = ((x ||| pw : Nat) : Int) := by
          have h1 : 2 ^ (k % 64) < 2 ^ 64 := Nat.pow_lt_pow_right (by omega) (by omega)
          rw [u64_or_nat x pw (by rw [hx, ← hq]; exact hx64) (by omega)]
        have hsh : IntKind.u64.wrap (2 ^ r) = (pw : Int) := by
          have h1 : 2 ^ (k % 64) < 2 ^ 64 := Nat.pow_lt_pow_right (by omega) (by omega)
          rw [IntKind.wrap_u64, hpw, hr]
          have : (2 : Int) ^ (k % 64) = ((2 ^ (k % 64) : Nat) : Int) := by simp
          rw [this]; omega
        rw [← hx, ← hpw, ← hq] at l1
        rw [hq, ← hx, ← hq] at kx
        have hq1 : (k : Int).tdiv 64 = (q : Int) := by rw [Int.tdiv_eq_ediv_of_nonneg (by omega)]; omega
        have hq2 : (k : Int) / 64 = (q : Int) := by omega
        have hr1 : (k : Int).tmod 64 = (r : Int) := by rw [Int.tmod_eq_emod_of_nonneg (by omega)]; omega
        have hr2 : (k : Int) % 64 = (r : Int) := by omega
        have hr64 : r < 64 := by omega
        have hwq : IntKind.i64.wrap (q : Int) = (q : Int) := IntWalk.i64_in _ (by omega)
        have hwr : IntKind.i64.wrap (r : Int) = (r : Int) := IntWalk.i64_in _ (by omega)
        clear hq hr hx hpw hx64 l
        have kcd := drewc kc
        have kxd := drewc kx
        go_wp2_with fail
        go_still_tail 13, (by kernel_rfl)
        change wpList _ _ _ _ _ wr.drew
        clear kcd kxd kc
        go_wp2_with fail
        go_roundw
        case rel => exact ⟨k + 1, _, by omega, by go_num, l1⟩
        case measure => simp [intOf]; omega
      · obtain rfl : k = n := by omega
        go_wp2_with fail
        go_ret2
        refine ⟨p, c, b, f, rfl, ⟨?_, l.out.cc, ⟨_, l.out.bb, fun j _ h => absurd h (by omega)⟩, ⟨X, ?_, ?_⟩, fun j _ h => absurd h (by omega), fun i j _ _ h => absurd h (by omega), ⟨l.out.bs.1, l.out.bs.2.1, l.out.bs.2.2.1, l.out.bs.2.2.2, fun j _ h => absurd h (by omega)⟩, h1, h2⟩, l.out.low⟩
        · rw [frees_all _ k (fun _ _ => rfl), ← HNW.out]; exact l.out.hd
        · rw [← HNW.out]; exact l.out.ff
        · rw [← HNW.out]
          intro i hi
          refine ⟨(l.out.xs i hi).1, fun j hj => ?_⟩
          rw [(l.out.xs i hi).2 j hj]
          exact decide_eq_decide.2 ⟨fun h => ⟨h, rfl⟩, fun h => h.1⟩
end Go.Proofs.YtgikfjfinjcfmaaDoor
