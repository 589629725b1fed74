import Derived.Test.YticnmgdflkipeaaZ20
import Derived.StillTail
import Derived.StillTailTactics
namespace Go.Proofs.Yticnmgdflkipeaa
open Go.RowKit Go.Shelf Go.Hos
set_option linter.unusedVariables false
/-! a drawn region in a round of a range over a function: its operations read and call quietly (then: one forced tail) -/
section
variable {F : Fence} {l n : Nat} {ops : Array Oper} {md : Region.Mode} {w : World}
/-- no operation of the region defers -/
def noDefer (ops : Array Oper) : Bool := ops.all fun o => match o.op with | .defer _ => false | _ => true
theorem noDefer_at {i : Nat} {o : Oper} (h : noDefer ops = true) (hi : ops[i]? = some o) : ∀ c, o.op ≠ .defer c := by
  intro c hc
  obtain ⟨hlt, rfl⟩ := Array.getElem?_eq_some_iff.1 hi
  have := Array.all_eq_true.1 h i hlt
  rw [hc] at this
  cases this
theorem wpIn_of_still {o : Oper} {a : Act} {K : Act → Prop} {K' : Act → World → Prop} {Q' : Exit → Act → World → Prop} (hW : Wide F) (hn : 1 ≤ n) (hd : ∀ c, o.op ≠ .defer c) (h : ∀ a, K a → K' a w) (hh : o.still Try.prog a w K) : o.wpIn (F.inRound l) n Try.prog a w K' Q' := by
  refine ⟨fun f _ => hW.fn f, ?_⟩
  rw [Fence.inRound_round, Oper.semAt_some l _ _ hd]
  unfold Oper.still at hh
  generalize (execOp a.eval o).run Try.prog w = r at *
  cases r with
  | ok x w' =>
    cases x <;> simp only [Oper.stillUpon] at hh <;> simp only [Oper.uponIn]
    case enter f args =>
      obtain ⟨rfl, v, hc, hn'⟩ := hh
      exact ⟨fun _ => hn, CallsIn.inRound l (hW.ca (hc.mono fun e w'' ⟨he, hw⟩ => by subst he; subst hw; exact h _ hn'))⟩
    all_goals (obtain ⟨rfl, h2⟩ := hh; exact h _ h2)
  | halt x w' => simp only [Oper.stillUpon] at hh
theorem wpOpIn_of_stOp {i : Nat} {a : Act} {K : Act → Prop} {K' : Act → World → Prop} {Q' : Exit → Act → World → Prop} (hW : Wide F) (hn : 1 ≤ n) (hd : noDefer ops = true) (h : ∀ a, K a → K' a w) (hh : stOp Try.prog ops w i K a) : wpOpIn (F.inRound l) n Try.prog ops Q' i K' a w := by
  unfold stOp at hh
  unfold wpOpIn
  split
  · rename_i ho; simp only [ho] at hh; exact h _ hh
  · rename_i o ho
    simp only [ho] at hh
    split
    · rename_i hw; simp only [hw, if_true] at hh; exact wpIn_of_still hW hn (noDefer_at hd ho) h hh
    · rename_i hw; simp only [hw] at hh; exact ⟨fun f _ => hW.fn f, h _ hh⟩
theorem wpAnyIn_of_still {Q : Act → Prop} {Q' : Exit → Act → World → Prop} (hW : Wide F) (hn : 1 ≤ n) (hd : noDefer ops = true) (hQ : ∀ a, Q a → Q' .normal a w) : ∀ (fuel : Nat) (listed : Array Bool) (a : Act),
    wpAnyS Try.prog md ops w Q fuel listed a → wpAnyIn (F.inRound l) n Try.prog md ops Q' fuel listed a w
  | 0, _, _, h => ⟨h.1, hQ _ h.2⟩
  | fuel + 1, _, _, h => ⟨fun h0 => hQ _ (h.1 h0), fun i hi => wpOpIn_of_stOp hW hn hd (fun a' => wpAnyIn_of_still hW hn hd hQ fuel _ a') (h.2 i hi)⟩
/-- all its operations read, or call quietly -/
theorem wpIn_round_still {id : Nat} {Q : Exit → Act → World → Prop} {a : Act} {os : List Oper} (hW : Wide F) (hn : 1 ≤ n) (hm : Try.prog.follows .mixedOrders = true) (hd : noDefer os.toArray = true) (hB : Region.lexB .any os.toArray = true)
    (h : wpStill Try.prog os.toArray { w with drawn := w.drawn + 1 } (fun a' => Q .normal a' { w with drawn := w.drawn + 1 }) os a) : (Code.region id os.toArray true).wpIn (F.inRound l) n Try.prog Q a w := by
  simp only [Region.lexB, Bool.and_eq_true] at hB
  refine wpIn_region_any hm (wpAnyIn_of_still (Q := fun a' => Q .normal a' { w with drawn := w.drawn + 1 }) hW hn hd (fun _ h => h) _ _ _ ?_)
  have := wpAnyS_lex (md := .any) hB.1 os 0 (Array.replicate os.toArray.size false) a (by simp) (by simpa using hB.2) h
  simpa using this
theorem wpAnyIn_of_head {k g : Nat} {L : Array Bool → Act → Prop} {Q' : Exit → Act → World → Prop} (hW : Wide F) (hn : 1 ≤ n) (hd : noDefer ops = true) (hL : ∀ listed a, L listed a → wpAnyIn (F.inRound l) n Try.prog md ops Q' g listed a w) :
    ∀ (f : Nat) (listed : Array Bool) (a : Act), wpAnyL Try.prog md ops w k L f listed a → wpAnyIn (F.inRound l) n Try.prog md ops Q' (f + g) listed a w
  | 0, listed, a, h => by rw [Nat.zero_add]; exact hL _ _ h
  | f + 1, listed, a, h => by
    rw [show f + 1 + g = (f + g) + 1 by omega]
    exact ⟨fun h0 => absurd h0 h.1, fun i hi => wpOpIn_of_stOp hW hn hd (fun a' h' => wpAnyIn_of_head hW hn hd hL f _ a' h') (h.2 i hi).2⟩
theorem wpAnyIn_of_seq {G : Fence} {Q' : Exit → Act → World → Prop} : ∀ (os : List Oper) (k : Nat) (listed : Array Bool) (a : Act) (w : World), (∀ j, os[j]? = ops[k + j]?) →
    Region.seqB md ops os.length k listed = true → wpListIn G n Try.prog ops Q' os a w → wpAnyIn G n Try.prog md ops Q' os.length listed a w
  | [], _, _, _, _, _, hB, h => ⟨by simpa [Region.seqB] using hB, h⟩
  | o :: os, k, listed, a, w, hl, hB, h => by
    have h0 : ops[k]? = some o := by simpa using (hl 0).symm
    simp only [List.length_cons, Region.seqB, Bool.and_eq_true, decide_eq_true_eq] at hB
    refine ⟨fun h1 => (by rw [hB.1] at h1; cases h1), fun i hi => ?_⟩
    rw [hB.1] at hi
    have hik : i = k := by simpa using hi
    subst hik
    have hw : wpOpIn G n Try.prog ops Q' i (wpListIn G n Try.prog ops Q' os) a w := by unfold wpOpIn; simp only [h0]; exact h
    exact wpOpIn_mono (fun a' w' h' => wpAnyIn_of_seq os (i + 1) _ a' w' (fun j => by have := hl (j + 1); simpa [Nat.add_assoc, Nat.add_comm 1 j] using this) hB.2 h') hw
/-- its first k operations read, or call quietly; the others come in one order -/
theorem wpIn_round_still_tail {id : Nat} {Q : Exit → Act → World → Prop} {a : Act} {os : List Oper} (k : Nat) (hW : Wide F) (hn : 1 ≤ n) (hm : Try.prog.follows .mixedOrders = true) (hd : noDefer os.toArray = true) (hB : Region.lexTailB .any os.toArray k = true)
    (h : wpStill Try.prog os.toArray { w with drawn := w.drawn + 1 } (fun a' => wpListIn (F.inRound l) n Try.prog os.toArray Q (os.drop k) a' { w with drawn := w.drawn + 1 }) (os.take k) a) : (Code.region id os.toArray true).wpIn (F.inRound l) n Try.prog Q a w := by
  simp only [Region.lexTailB, Bool.and_eq_true, decide_eq_true_eq] at hB
  obtain ⟨⟨⟨⟨hsel, hk⟩, hs⟩, hc⟩, hlex⟩ := hB
  have hk' : k < os.length := by simpa using hk
  have htl : (os.take k).length = k := by simp; omega
  have hdl : (os.drop k).length = os.toArray.size - k := by simp
  have inv0 : HeadInv .any os.toArray k (Array.replicate os.toArray.size false) :=
    ⟨by simp, fun j oj _ hl => (by rw [getD_replicate_false] at hl; cases hl), fun t _ ht => getD_in (by simpa using ht) (getD_replicate_false _ _)⟩
  have H := wpAnyL_lex (md := .any) (g := os.toArray.size - k) hsel hs hc hk (os.take k) 0 _ a (fun j hj => by
    have hj' : j < k := by rw [htl] at hj; exact hj
    simp [hj']) (by simpa using htl) inv0 (by rw [htl]; exact hlex) h
  refine wpIn_region_any hm ?_
  have := wpAnyIn_of_head (l := l) (n := n) (Q' := Q) (g := os.toArray.size - k) hW hn hd (fun listed a' hL => by
    have := wpAnyIn_of_seq (G := F.inRound l) (n := n) (md := .any) (Q' := Q) (os.drop k) k listed a' { w with drawn := w.drawn + 1 } (fun j => by simp [List.getElem?_drop]) (by rw [hdl]; exact hL.1) hL.2
    rwa [hdl] at this) _ _ _ H
  rw [htl, show k + (os.toArray.size - k) = os.toArray.size by omega] at this
  exact this
end
/-! the iterator, told which load comes next -/
set_option maxRecDepth 100000 in
set_option maxHeartbeats 4000000 in
theorem loads1_at (F : Fence) (n : Nat) (h40 : F.fn 40) (hro : F.round = none) (hn : 1 ≤ n) (l Bs n₀ m c : Nat) (A : Option Addr) (S : Nat → SegD) (J Jx : List Nat → World → Prop)
    (W : World) (hJ : AbidesFrom W.heap.size J) (hY : ∀ pre x W1, J pre W1 → pre ++ [x] <+: ldx S m → YieldAt F (n - 1) Try.prog l (encS S x) W1 fun e W' =>
      (e = .returned (.bool true) ∧ J (pre ++ [x]) W' ∧ Below n₀ W1 W') ∨ (e = .returned (.bool false) ∧ Jx (pre ++ [x]) W'))
    (hBs : W.cell? ⟨Bs, 5, none⟩ = some (.slice A m c)) (hR : StR W n₀ 6 A m (segC S)) (hm : m ≤ maxLen) (hn₀ : n₀ ≤ W.heap.size) (h0 : J [] W) :
    CallsIn F n Try.prog 40 #[.func (.yield l) #[] #[], .pointer (some ⟨Bs, 0, none⟩)] W fun e W' => (∃ v, e = .returned v) ∧
      ((∃ ys, ys = ldx S m ∧ J ys W') ∨ (∃ pre, pre <+: ldx S m ∧ Jx pre W')) := by
  have H := Lib.hid hR
  have hmm : maxLen = 9223372036854775807 := by simp [maxLen]
  have HY := Lib.hid hY
  have HJ := Lib.hid hJ
  clear hR hY hJ
  refine callsIn_of_wp Try.func40 rfl h40 ?_ hro
  simp only [Try.ntmps40, List.size_toArray, List.length_cons, List.length_nil, Nat.reduceAdd, Nat.reduceSub, Array.replicate_succ, Array.replicate_zero, List.push_toArray, List.append_toArray, List.nil_append, List.cons_append]
  gi_wp2
  gi_loopw [9] (fun v9 wr => ∃ i : Nat, i ≤ m ∧ v9 = .int .i64 i ∧ Hid (J (ldx S i) wr) ∧ Hid (Below n₀ W wr)) (fun v9 _ => m - (intOf v9).toNat)
  case atStart => exact ⟨0, Nat.zero_le _, rfl, h0, Below.refl _ _⟩
  case round =>
    obtain ⟨k, hk, rfl, hj, hb⟩ := hrel
    by_cases him : k < m
    · obtain ⟨ads, rfl, had, d0, d1, d2, d3, d4, d5⟩ := seg_cells (H.out.below hb.out) him
      obtain ⟨s, hs⟩ : ∃ s, s = S k := ⟨_, rfl⟩
      rw [← hs] at d0 d1 d2 d3 d4 d5
      have HS := Lib.hid hs
      obtain ⟨kd, fl, off, addr, fsz, msz⟩ := s
      dsimp only at d0 d1 d2 d3 d4 d5
      have ha : Below n₀ wr (wr.alloc (.cells #[.int .u32 kd, .int .u8 fl, .int .u64 off, .int .u64 addr, .int .u64 fsz, .int .u64 msz] 56)) := (Below.refl _ _).alloc (by have := hb.out.size; omega) _
      have hj3 : Hid (J (ldx S k) (wr.alloc (.cells #[.int .u32 kd, .int .u8 fl, .int .u64 off, .int .u64 addr, .int .u64 fsz, .int .u64 msz] 56))) := HJ.out _ _ _ none hj.out (World.grownBy_alloc wr _ none) (fun r e => by cases e)
      have hb3 : Hid (Below n₀ W (wr.alloc (.cells #[.int .u32 kd, .int .u8 fl, .int .u64 off, .int .u64 addr, .int .u64 fsz, .int .u64 msz] 56))) := Lib.hid (hb.out.trans ha)
      clear hs ha
      by_cases hd : kd = 1
      · subst hd
        have hyes : Hid (ldx S (k + 1) = ldx S k ++ [k]) := Lib.hid (ldx_yes (by rw [← HS.out]))
        have hpre : ldx S (k + 1) <+: ldx S m := ldx_pre S m (k + 1) (by omega)
        rw [hyes.out] at hpre
        obtain ⟨fn, tmps, assign, body, hy, hR⟩ := HY.out _ k _ hj3.out hpre
        have HP := Lib.hid hpre
        have hy2 := hy
        unfold encS at hy2
        rw [← HS.out] at hy2
        unfold SegD.cs at hy2
        dsimp only at hy2
        simp only [show ((1 : Nat) : Int) = 1 from rfl] at hy2 hR d0
        clear hy hpre
        gi_wp2
        refine hR.mono ?_
        rintro e W3 (⟨rfl, hJ3, hk3⟩ | ⟨rfl, hJx3⟩)
        · have hj4 : Hid (J (ldx S (k + 1)) W3) := Lib.hid (by rw [hyes.out]; exact hJ3)
          have hb4 : Hid (Below n₀ W W3) := Lib.hid (hb3.out.trans hk3)
          clear hJ3 hk3 hR hy2 d0 d1 d2 d3 d4 d5
          gi_wp2
          go_roundw
          case rel => exact ⟨k + 1, by omega, by go_num, hj4, hb4⟩
          case measure => simp [intOf]; omega
        · have hj4 := Lib.hid hJx3
          clear hJx3 hR hy2 d0 d1 d2 d3 d4 d5
          gi_wp2
          refine bodyPost_ret (results_none rfl _ _ _) rfl ?_
          exact ⟨⟨_, rfl⟩, .inr ⟨_, HP.out, hj4.out⟩⟩
      · have hno : Hid (ldx S (k + 1) = ldx S k) := Lib.hid (ldx_no (by rw [← HS.out]; exact hd))
        rw [← hno.out] at hj3
        have e1 : ((kd : Int) == 1) = false := by simp; omega
        clear hd hno
        gi_wp2
        refine ⟨fun _ h => (by cases h), ?_⟩
        gi_wp2
        go_roundw
        case rel => exact ⟨k + 1, by omega, by go_num, hj3, hb3⟩
        case measure => simp [intOf]; omega
    · have him2 : k = m := by omega
      have hj4 : Hid (J (ldx S m) wr) := by rw [← him2]; exact hj
      clear him2 hj
      gi_wp2
      go_end0
      exact ⟨⟨_, rfl⟩, .inl ⟨_, rfl, hj4.out⟩⟩
/-- one of the loads -/
abbrev LdI (S : Nat → SegD) (m : Nat) : Type := { k : Nat // k ∈ ldx S m }
def LdI.is {S : Nat → SegD} {m : Nat} (p : List (LdI S m)) : List Nat := p.map Subtype.val
theorem LdI.is_snoc {S : Nat → SegD} {m : Nat} (p : List (LdI S m)) (x : LdI S m) : LdI.is (p ++ [x]) = LdI.is p ++ [x.1] := by simp [LdI.is]
theorem loads_next (F : Fence) (n : Nat) (h40 : F.fn 40) (hro : F.round = none) (hn : 1 ≤ n) (Bs n₀ m c : Nat) (A : Option Addr) (S : Nat → SegD) (w : World) (hBs : Bs < w.heap.size) (hn₀ : n₀ ≤ w.heap.size)
    (hc : w.cell? ⟨Bs, 5, none⟩ = some (.slice A m c)) (hR : StR w n₀ 6 A m (segC S)) (hm : m ≤ maxLen) :
    SeqStopsK F n Try.prog 40 #[.pointer (some ⟨Bs, 0, none⟩)] (fun x : LdI S m => encS S x.1) (Below n₀) (fun ys => LdI.is ys = ldx S m) (fun pre => LdI.is pre <+: ldx S m) (ldx S m).length w := fun l J Jx W hW hJ hJx hY h0 => by
  refine (loads1_at F n h40 hro hn l Bs n₀ m c A S (fun s W' => ∃ p : List (LdI S m), LdI.is p = s ∧ J p W') (fun s W' => ∃ p : List (LdI S m), LdI.is p = s ∧ Jx p W') W ?_ ?_
    ((hW.cell (p := ⟨Bs, 5, none⟩) hBs).trans hc) (hR.below (hW.mono hn₀)) hm (by have := hW.size; omega) ⟨[], rfl, h0⟩).mono fun e W' h => ⟨h.1, ?_⟩
  · rintro s X Y row ⟨p, hp, hj⟩ hg hr
    exact ⟨p, hp, hJ p X Y row hj hg hr⟩
  · rintro pre x W1 ⟨p, rfl, hj⟩ hpre
    have hx : x ∈ ldx S m := hpre.subset (by simp)
    have hl : p.length < (ldx S m).length := by have := pre_len hpre; rwa [LdI.is, List.length_map] at this
    refine (hY p ⟨x, hx⟩ W1 hj hl).mono ?_
    rintro e W2 (⟨he, h1, h2⟩ | ⟨he, h1⟩)
    · exact .inl ⟨he, ⟨_, LdI.is_snoc p ⟨x, hx⟩, h1⟩, h2⟩
    · exact .inr ⟨he, ⟨_, LdI.is_snoc p ⟨x, hx⟩, h1⟩⟩
  · rcases h.2 with ⟨ys, rfl, p, hp, hj⟩ | ⟨pre, hpre, p, rfl, hj⟩
    · exact .inl ⟨p, hp, hj⟩
    · exact .inr ⟨p, hpre, hj⟩
end Go.Proofs.Yticnmgdflkipeaa
