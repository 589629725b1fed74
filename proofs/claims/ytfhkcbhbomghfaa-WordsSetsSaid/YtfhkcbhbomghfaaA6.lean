import Derived.Test.YtfhkcbhbomghfaaP5
import Derived.Test.YtfhkcbhbomghfaaA5
import Derived.Deep.RegionHeld3
import Derived.Deep.RegionWith
namespace Go.Proofs.Ytfhkcbhbomghfaa
open Go.RowKit Go.Hos
set_option linter.unusedVariables false

theorem owns_below {w w' : World} {base : Nat} {e : TypeId} {size : Nat} {v : Value} {n : Nat} {xs : List Value} (h : w.ownsRow base e size v n xs) (hb : Below w.heap.size w w') : w'.ownsRow base e size v n xs := by
  refine ⟨h.1, ?_⟩
  rcases h.2 with h2 | ⟨g, cap, cur, hv, hg, hh, r⟩
  · exact .inl h2
  · exact .inr ⟨g, cap, cur, hv, hg, (hb.block g (Array.getElem?_eq_some_iff.1 hh).1).trans hh, r⟩

/-- the argument in its box, and what it reads -/
structure S1 (w : World) (A : Option Addr) (n c at_ : Nat) (sz : Int) (x : Nat) (bs : List Nat) (W : World) : Prop where
  bc : Blk W w.heap.size 32 #[.slice A n c, .int .u64 at_, .int .i64 sz, .int .u64 x]
  low : Below w.heap.size w W
  rd : Reads W w.heap.size 1 A n (B8 bs)
section
variable {w : World} {A A5 : Option Addr} {n c c5 at_ : Nat} {sz : Int} {x : Nat} {bs : List Nat} {W W' : World}
theorem S1.next (h : S1 w A n c at_ sz x bs W) (hb : Below W.heap.size W W') : S1 w A n c at_ sz x bs W' :=
  ⟨h.bc.below hb h.bc.lt, h.low.trans (hb.mono h.low.size), h.rd.below (hb.mono h.low.size)⟩
theorem S1.drew (h : S1 w A n c at_ sz x bs W) : S1 w A n c at_ sz x bs W.drew := h.next (Below.refl _ _).drew
theorem S1.start (h : Reads w w.heap.size 1 A n (B8 bs)) : S1 w A n c at_ sz x bs (w.alloc (.cells #[.slice A n c, .int .u64 at_, .int .i64 sz, .int .u64 x] 32)) :=
  ⟨Blk.new _ _ _, (Below.refl _ _).alloc (Nat.le_refl _) _, h.alloc (Nat.le_refl _) _⟩
abbrev SS1 (w : World) (A : Option Addr) (n c at_ : Nat) (sz : Int) (x : Nat) (bs : List Nat) (W : World) : Prop :=
  (∀ i, W.cell? ⟨w.heap.size, i, none⟩ = (#[.slice A n c, .int .u64 at_, .int .i64 sz, .int .u64 x] : Array Value)[i]?) ∧ Hid (S1 w A n c at_ sz x bs W)
theorem ss1_of (h : S1 w A n c at_ sz x bs W) : SS1 w A n c at_ sz x bs W := ⟨h.bc.cell, h⟩
theorem S1.call1 (h : SS1 w A n c at_ sz x bs W) (hn : n ≤ 8192) :
    Calls Try.prog 22 #[.slice A n c] W fun e w' => (∃ A5 c5, e = .returned (.slice A5 n c5) ∧ Hid (Reads w' w'.heap.size 1 A5 n (B8 bs))) ∧ S1 w A n c at_ sz x bs w' := by
  have hs := h.2.out
  refine (copy_any A n c bs w.heap.size W hs.rd hs.low.size (by omega)).mono ?_
  rintro e w' ⟨v, rfl, ho, hb⟩
  obtain ⟨A5, c5, rfl⟩ := ownsRow_val ho
  exact ⟨⟨A5, c5, rfl, Reads.of_own ho⟩, hs.next hb⟩
theorem S1.call2 (h : SS1 w A n c at_ sz x bs W) (hr : Hid (Reads W W.heap.size 1 A5 n (B8 bs))) (hn : n ≤ 8192) (ha : at_ < M) (hx : x < M) :
    Calls Try.prog 14 #[.slice A5 n c5, .int .u64 at_, .int .i64 sz, .int .u64 x] W fun e w' => (∃ A6 c6, e = .returned (.tuple #[.slice A6 (stv bs at_ sz x).length c6, .int .i64 (plc n at_ sz)]) ∧
      Hid (w'.ownsRow w.heap.size 5 1 (.slice A6 (stv bs at_ sz x).length c6) (stv bs at_ sz x).length (B8 (stv bs at_ sz x)))) ∧ S1 w A n c at_ sz x bs w' := by
  have hs := h.2.out
  refine (set_any A5 n c5 at_ x W.heap.size sz bs W hr.out (Nat.le_refl _) (by omega) ha hx).mono ?_
  rintro e w' ⟨A6, c6, rfl, ho, hb⟩
  exact ⟨⟨A6, c6, rfl, owns_base ho hs.low.size⟩, hs.next hb⟩
end

structure S2 (w : World) (A A6 : Option Addr) (n c c6 L at_ : Nat) (sz : Int) (x : Nat) (bs ys : List Nat) (W : World) : Prop where
  s1 : S1 w A n c at_ sz x bs W
  o6 : W.ownsRow w.heap.size 5 1 (.slice A6 L c6) L (B8 ys)
theorem S2.next {w : World} {A A6 : Option Addr} {n c c6 L at_ : Nat} {sz : Int} {x : Nat} {bs ys : List Nat} {W W' : World} (h : S2 w A A6 n c c6 L at_ sz x bs ys W) (hb : Below W.heap.size W W') : S2 w A A6 n c c6 L at_ sz x bs ys W' :=
  ⟨h.s1.next hb, owns_below h.o6 hb⟩

theorem shl256 (k : Nat) : (2 : Int) ^ (8 * k) = ((256 ^ k : Nat) : Int) := by
  have h : ((2 ^ (8 * k) : Nat) : Int) = (2 : Int) ^ (8 * k) := by simp
  rw [← h, Nat.pow_mul]
theorem gtv_lt (bs : List Nat) (at_ : Nat) (sz : Int) (hb : ∀ b ∈ bs, b < 256) : gtv bs at_ sz < M := by
  unfold gtv M
  split
  · next h =>
    rcases plc_cases bs.length at_ sz with ⟨hz, _, _⟩ | ⟨h1, _⟩ | ⟨h1, _⟩
    · have h8 : sz.toNat ≤ 8 := by have := of_decide_eq_true hz; omega
      have := getv_lt bs at_ sz.toNat hb
      have h2 : 256 ^ sz.toNat ≤ 256 ^ 8 := Nat.pow_le_pow_right (by omega) h8
      omega
    · omega
    · omega
  · omega
set_option maxHeartbeats 6400000 in
set_option maxRecDepth 20000 in
theorem back_small (A : Option Addr) (n c at_ x : Nat) (bs : List Nat) (sz : Int) (w : World) (h : Reads w w.heap.size 1 A n (B8 bs)) (h8 : ∀ x ∈ bs, x < 256) (ha : at_ < M) (hx : x < M) (hn : n ≤ 8192) :
    Calls Try.prog 6 #[.agg #[.slice A n c, .int .u64 at_, .int .i64 sz, .int .u64 x]] w fun e w' => e = .returned (.bool true) ∧ Below w.heap.size w w' := by
  have st0 : Hid (S1 w A n c at_ sz x bs (w.alloc (.cells #[.slice A n c, .int .u64 at_, .int .i64 sz, .int .u64 x] 32))) := S1.start h
  have HL : Hid (bs.length = n) := b8_len h
  have H8 := Lib.hid h8
  obtain ⟨q, hq⟩ : ∃ q, q = plc n at_ sz := ⟨_, rfl⟩
  obtain ⟨ys, hys⟩ : ∃ ys, ys = stv bs at_ sz x := ⟨_, rfl⟩
  obtain ⟨L, hL⟩ : ∃ L, L = ys.length := ⟨_, rfl⟩
  have HQ := Lib.hid hq; have HY := Lib.hid hys; have HLY := Lib.hid hL
  clear h h8 hq hys hL
  go_enter Try.func6, Try.ntmps6
  go_wp2_with fail
  go_region_held3 (fun W' => SS1 w A n c at_ sz x bs W') (first | exact ss1_of st0.out.drew | exact ss1_of st0.out | exact ss1_of hst)
    (first
      | (go_at_call 22; refine (S1.call1 (by assumption) hn).mono ?_; rintro e w' ⟨⟨A5, c5, rfl, hr5⟩, hst⟩)
      | (go_at_call 14; refine (S1.call2 (by assumption) (by assumption) hn ha hx).mono ?_; rw [← HQ.out, ← HY.out, ← HLY.out]; rintro e w' ⟨⟨A6, c6, rfl, ho6⟩, hst⟩))
  have st2 : Hid (S2 w A A6 n c c6 L at_ sz x bs ys w') := ⟨hst, ho6.out⟩
  have kc := st2.out.s1.bc.cell
  clear hst ho6 hr5 st0
  obtain ⟨old, hold⟩ : ∃ old, old = gtv bs at_ sz := ⟨_, rfl⟩
  have HO := Lib.hid hold
  clear hold
  go_wp2_with fail
  refine (get_any A n c at_ w.heap.size sz bs _ st2.out.s1.rd st2.out.s1.low.size H8.out (by omega) ha).mono ?_
  rintro e w3 ⟨rfl, hb3⟩
  rw [← HQ.out, ← HO.out]
  have st3 : Hid (S2 w A A6 n c c6 L at_ sz x bs ys w3) := st2.out.next hb3
  clear kc hb3 st2
  have kc := st3.out.s1.bc.cell
  by_cases hq0 : q = 0
  · subst hq0
    obtain ⟨hz, hin⟩ : szB sz = true ∧ at_ + sz.toNat ≤ n := by
      have h := HQ.out
      rcases plc_cases n at_ sz with ⟨hz, hi, _⟩ | ⟨h1, _⟩ | ⟨h1, _⟩
      · exact ⟨hz, hi⟩
      · omega
      · omega
    have hk := of_decide_eq_true hz
    obtain ⟨k, rfl⟩ := Int.eq_ofNat_of_zero_le (show 0 ≤ sz by omega)
    have hk2 : k = 1 ∨ k = 2 ∨ k = 4 ∨ k = 8 := by omega
    have hys : ys = setv bs at_ x k := HY.out.trans (stv_yes (by rw [HL.out]; exact HQ.out.symm))
    have hLn : L = n := by rw [HLY.out, hys, setv_len, HL.out]
    subst hLn
    have hin2 : at_ + k ≤ bs.length := by rw [HL.out]; exact hin
    have hg : gtv ys at_ k = x % 256 ^ k := by
      rw [gtv, if_pos (by rw [← HLY.out]; exact HQ.out.symm), hys]
      exact getv_setv bs at_ x k hin2 k (Nat.le_refl _)
    obtain ⟨low, hlow⟩ : ∃ low, low = x % 256 ^ k := ⟨_, rfl⟩
    rw [← hlow] at hg
    have HG := Lib.hid hg
    have HLow := Lib.hid hlow
    have HZ := Lib.hid hz
    have HIN := Lib.hid hin
    have HYS := Lib.hid hys
    have HY8 : Hid (∀ b ∈ ys, b < 256) := by rw [hys]; exact setv_lt bs at_ x H8.out k
    clear hg hlow hz hin hys hk hin2
    go_wp2_with fail
    refine (get_any A6 L c6 at_ w3.heap.size k ys _ (Reads.of_own st3.out.o6) (Nat.le_refl _) HY8.out (by omega) ha).mono ?_
    rintro e w4 ⟨rfl, hb4⟩
    rw [← HQ.out, HG.out]
    have st4 : Hid (S2 w A A6 L c c6 L at_ k x bs ys w4) := st3.out.next hb4
    clear kc hb4 st3
    have kc := st4.out.s1.bc.cell
    have hkw : IntKind.u64.wrap (k : Int) = (k : Int) := wrap_small (by unfold M; omega)
    obtain ⟨t, ht⟩ : ∃ t, t = at_ + k := ⟨_, rfl⟩
    have htw : IntKind.u64.wrap ((at_ : Int) + (k : Int)) = (t : Int) := by
      have := HIN.out; simp at this
      rw [← wrap_small (s := t) (by unfold M; omega)]; congr 1; omega
    have HT := Lib.hid ht
    have HTW := Lib.hid (And.intro hkw htw)
    clear ht hkw htw
    by_cases hk8 : k < 8
    · obtain ⟨p, hp⟩ : ∃ p, p = 256 ^ k := ⟨_, rfl⟩
      have hpb : 1 ≤ p ∧ p < M := by
        subst hp
        refine ⟨Nat.one_le_pow _ _ (by omega), ?_⟩
        have : 256 ^ k ≤ 256 ^ 7 := Nat.pow_le_pow_right (by omega) (by omega)
        unfold M; omega
      have hsh : IntKind.u64.wrap (2 ^ (8 * k)) = (p : Int) := by
        rw [shl256, ← hp]; exact wrap_small hpb.2
      have hp0 : ¬ p = 0 := by omega
      have hmod : (x : Int) % (p : Int) = (low : Int) := by have := HLow.out; rw [← hp] at this; omega
      clear hp hpb
      go_wp2_with fail
      clear hsh hp0 hmod kc
      go_loopw [9] (fun i wr => ∃ j : Nat, j ≤ L ∧ i = .int .i64 j ∧ Hid (S2 w A A6 L c c6 L at_ k x bs ys wr)) (fun i _ => L - (intOf i).toNat)
      case atStart => exact ⟨0, Nat.zero_le _, rfl, st4⟩
      case round =>
        obtain ⟨j, hj, rfl, st5⟩ := hrel
        have kd := st5.out.s1.bc.cell
        by_cases hjL : j < L
        · obtain ⟨ad, z, rfl, hb, hc, hz⟩ := b8_get st5.out.s1.rd hjL
          obtain ⟨ad6, y, rfl, hb6, hc6, hy⟩ := b8_get (Reads.of_own st5.out.o6) hjL
          have hjw : IntKind.u64.wrap (j : Int) = (j : Int) := wrap_small (by unfold M; omega)
          by_cases hyz : y = z
          · have d3 : ((y : Int) == (z : Int)) = true := by simp [hyz]
            have d3' : ((y : Int) != (z : Int)) = false := by simp [hyz]
            clear hyz
            go_wp2_with fail
            go_quiet (fail)
            go_wp2_with fail
            go_roundw
            case rel => exact ⟨j + 1, by omega, by go_num, st5.out.next (below_drewN (Below.refl _ _) _)⟩
            case measure => simp [intOf]; omega
          · have d3 : ((y : Int) == (z : Int)) = false := by simp; omega
            have d3' : ((y : Int) != (z : Int)) = true := by simp; omega
            have hr : at_ ≤ j ∧ j < t := by
              by_cases hr : at_ ≤ j ∧ j < at_ + k
              · rw [HT.out]; exact hr
              · exfalso; apply hyz
                rw [← hy.out.1, ← hz.out.1, HYS.out, setv_get bs at_ x k j (by have := HIN.out; simp at this; rw [HL.out]; omega), if_neg hr]
            have d4 : decide ((j : Int) < (at_ : Int)) = false := by simp; omega
            have d6 : ¬ j < at_ := by omega
            have d7 : ¬ t ≤ j := by omega
            have d5 : decide ((t : Int) ≤ (j : Int)) = false := by simp; omega
            obtain ⟨hkw, htw⟩ := HTW.out
            clear hyz hr
            go_wp2_with fail
            go_quiet (fail)
            go_wp2_with fail
            go_roundw
            case rel => exact ⟨j + 1, by omega, by go_num, st5.out.next (below_drewN (Below.refl _ _) _)⟩
            case measure => simp [intOf]; omega
        · have hole : old < M := by rw [HO.out]; exact gtv_lt bs at_ k H8.out
          go_wp2_with fail
          refine (set_any A6 L c6 at_ old wr.heap.size k ys _ (Reads.of_own st5.out.o6) (Nat.le_refl _) (by omega) ha hole).mono ?_
          rintro e w6 ⟨A7, c7, rfl, ho7, hb6⟩
          have e7 : stv ys at_ k old = bs := by
            rw [stv_yes (by rw [← HLY.out]; exact HQ.out.symm), HO.out, gtv, if_pos (by rw [HL.out]; exact HQ.out.symm), HYS.out]
            exact setv_back bs at_ x k H8.out (by have := HIN.out; simp at this; rw [HL.out]; simpa using this)
          rw [e7] at ho7 ⊢
          rw [← HQ.out, HL.out]
          rw [HL.out] at ho7
          have st6 : Hid (S2 w A A6 L c c6 L at_ k x bs ys w6) := st5.out.next hb6
          have HO7 : Hid (Reads w6 w6.heap.size 1 A7 L (B8 bs)) := Reads.of_own ho7
          clear kd st5 ho7 hb6
          have kd := st6.out.s1.bc.cell
          go_wp2_with fail
          refine (eq_any _ _ _ _ _ _ bs bs w6.heap.size w.heap.size _ HO7.out st6.out.s1.rd (by omega) (by omega)).mono ?_
          rintro e w7 ⟨rfl, hb7⟩
          rw [decide_eq_true rfl]
          have B7 : Hid (Below w.heap.size w w7) := st6.out.s1.low.trans (hb7.mono st6.out.s1.low.size)
          clear hb7
          go_wp2_with fail
          refine (works_any _).mono ?_
          rintro e w8 ⟨rfl, hb8⟩
          have B8' : Hid (Below w.heap.size w w8) := B7.out.trans (hb8.mono B7.out.size)
          clear hb8
          go_wp2_with fail
          go_ret
          exact ⟨rfl, B8'.out⟩
    · obtain rfl : x = low := by
        have hk9 : k = 8 := by omega
        have := HLow.out
        have e : (256 : Nat) ^ 8 = 18446744073709551616 := by decide
        rw [hk9, e] at this
        unfold M at hx; omega
      go_wp2_with fail
      clear kc
      go_loopw [9] (fun i wr => ∃ j : Nat, j ≤ L ∧ i = .int .i64 j ∧ Hid (S2 w A A6 L c c6 L at_ k x bs ys wr)) (fun i _ => L - (intOf i).toNat)
      case atStart => exact ⟨0, Nat.zero_le _, rfl, st4⟩
      case round =>
        obtain ⟨j, hj, rfl, st5⟩ := hrel
        have kd := st5.out.s1.bc.cell
        by_cases hjL : j < L
        · obtain ⟨ad, z, rfl, hb, hc, hz⟩ := b8_get st5.out.s1.rd hjL
          obtain ⟨ad6, y, rfl, hb6, hc6, hy⟩ := b8_get (Reads.of_own st5.out.o6) hjL
          have hjw : IntKind.u64.wrap (j : Int) = (j : Int) := wrap_small (by unfold M; omega)
          by_cases hyz : y = z
          · have d3 : ((y : Int) == (z : Int)) = true := by simp [hyz]
            have d3' : ((y : Int) != (z : Int)) = false := by simp [hyz]
            clear hyz
            go_wp2_with fail
            go_quiet (fail)
            go_wp2_with fail
            go_roundw
            case rel => exact ⟨j + 1, by omega, by go_num, st5.out.next (below_drewN (Below.refl _ _) _)⟩
            case measure => simp [intOf]; omega
          · have d3 : ((y : Int) == (z : Int)) = false := by simp; omega
            have d3' : ((y : Int) != (z : Int)) = true := by simp; omega
            have hr : at_ ≤ j ∧ j < t := by
              by_cases hr : at_ ≤ j ∧ j < at_ + k
              · rw [HT.out]; exact hr
              · exfalso; apply hyz
                rw [← hy.out.1, ← hz.out.1, HYS.out, setv_get bs at_ x k j (by have := HIN.out; simp at this; rw [HL.out]; omega), if_neg hr]
            have d4 : decide ((j : Int) < (at_ : Int)) = false := by simp; omega
            have d6 : ¬ j < at_ := by omega
            have d7 : ¬ t ≤ j := by omega
            have d5 : decide ((t : Int) ≤ (j : Int)) = false := by simp; omega
            obtain ⟨hkw, htw⟩ := HTW.out
            clear hyz hr
            go_wp2_with fail
            go_quiet (fail)
            go_wp2_with fail
            go_roundw
            case rel => exact ⟨j + 1, by omega, by go_num, st5.out.next (below_drewN (Below.refl _ _) _)⟩
            case measure => simp [intOf]; omega
        · have hole : old < M := by rw [HO.out]; exact gtv_lt bs at_ k H8.out
          go_wp2_with fail
          refine (set_any A6 L c6 at_ old wr.heap.size k ys _ (Reads.of_own st5.out.o6) (Nat.le_refl _) (by omega) ha hole).mono ?_
          rintro e w6 ⟨A7, c7, rfl, ho7, hb6⟩
          have e7 : stv ys at_ k old = bs := by
            rw [stv_yes (by rw [← HLY.out]; exact HQ.out.symm), HO.out, gtv, if_pos (by rw [HL.out]; exact HQ.out.symm), HYS.out]
            exact setv_back bs at_ x k H8.out (by have := HIN.out; simp at this; rw [HL.out]; simpa using this)
          rw [e7] at ho7 ⊢
          rw [← HQ.out, HL.out]
          rw [HL.out] at ho7
          have st6 : Hid (S2 w A A6 L c c6 L at_ k x bs ys w6) := st5.out.next hb6
          have HO7 : Hid (Reads w6 w6.heap.size 1 A7 L (B8 bs)) := Reads.of_own ho7
          clear kd st5 ho7 hb6
          have kd := st6.out.s1.bc.cell
          go_wp2_with fail
          refine (eq_any _ _ _ _ _ _ bs bs w6.heap.size w.heap.size _ HO7.out st6.out.s1.rd (by omega) (by omega)).mono ?_
          rintro e w7 ⟨rfl, hb7⟩
          rw [decide_eq_true rfl]
          have B7 : Hid (Below w.heap.size w w7) := st6.out.s1.low.trans (hb7.mono st6.out.s1.low.size)
          clear hb7
          go_wp2_with fail
          refine (works_any _).mono ?_
          rintro e w8 ⟨rfl, hb8⟩
          have B8' : Hid (Below w.heap.size w w8) := B7.out.trans (hb8.mono B7.out.size)
          clear hb8
          go_wp2_with fail
          go_ret
          exact ⟨rfl, B8'.out⟩
  · have hqb : (q != 0) = true := by simpa using hq0
    have hL0 : ((L : Int) == 0) = true := by
      have : ys = [] := HY.out.trans (stv_no (by rw [HL.out, ← HQ.out]; exact hq0))
      simp [HLY.out, this]
    have ho0 : ((old : Int) == 0) = true := by
      have : old = 0 := by rw [HO.out, gtv, if_neg (by rw [HL.out, ← HQ.out]; exact hq0)]
      simp [this]
    clear hq0
    go_wp2_with fail
    refine (works_any _).mono ?_
    rintro e w4 ⟨rfl, hb4⟩
    have B4 : Hid (Below w.heap.size w w4) := st3.out.s1.low.trans (hb4.mono st3.out.s1.low.size)
    clear hb4
    go_wp2_with fail
    go_ret
    exact ⟨rfl, B4.out⟩
end Go.Proofs.Ytfhkcbhbomghfaa
