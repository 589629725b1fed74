import Derived.Test.YticnmgdflkipeaaZ46
namespace Go.Proofs.Yticnmgdflkipeaa
open Go.RowKit Go.Shelf Go.Hos
set_option linter.unusedVariables false
/-! LayoutApart's walk -/
theorem bases_zero {O : Nat → ObjD} {m : Nat} (h : basesE O m = 0) : 0 < m ∧ m ≤ 8 ∧ okObjs O m ∧ clearAll O m = true := by
  unfold basesE at h
  by_cases h1 : m = 0 ∨ 8 < m
  · rw [if_pos h1] at h; cases h
  · rw [if_neg h1] at h
    by_cases h2 : okObjs O m
    · rw [if_pos h2] at h
      by_cases h3 : clearAll O m = true
      · exact ⟨by omega, by omega, h2, h3⟩
      · rw [if_neg h3] at h; cases h
    · rw [if_neg h2] at h; cases h
/-- what Place answered, in the world behind it -/
def PlX (Q : Nat → ObjD) (o : ObjD) (m : Nat) (E : Int) (cs : Array Value) (W : World) : Prop :=
  (E = 0 ∧ ∃ A2 q2 b, cs = (putI (o.at A2 q2)).cs ∧ W.ownsRow b 56 6 (.slice A2 o.gM q2) o.gM (flatS (alls o.sg o.gM)) ∧ rightB o = true ∧ o.ty = 3 ∧ clearB Q (sx (putI o)) (sy (putI o)) m = true) ∨ (E ≠ 0)
/-- all objects, read -/
structure AllO (Q : Nat → ObjD) (n m : Nat) (A : Option Addr) (W : World) : Prop where
  rd : ObjR W W.heap.size A n Q
  ap : Apart Q n m
theorem AllO.next {Q : Nat → ObjD} {n m : Nat} {A : Option Addr} {W W' : World} (h : AllO Q n m A W) (hb : Below W.heap.size W W') : AllO Q n m A W' := ⟨(h.rd.below hb).more hb.size, h.ap⟩
theorem AllO.push {Q : Nat → ObjD} {n c9 base : Nat} {A A9 : Option Addr} {W : World} {xs : List Value} {o : ObjD} (hR : ObjR W W.heap.size A n Q) (hx : xs = flatG (objC Q) n) (ho : W.ownsRow base 33 11 (.slice A9 (n + 1) c9) (n + 1) (xs ++ o.cs.toList))
    (hs : StR W W.heap.size 6 o.gA o.gM (segC o.sg)) (hm : o.gM ≤ maxLen) (hn : n + 1 ≤ maxLen) (ap : Apart (addO Q n o) (n + 1) n) : AllO (addO Q n o) (n + 1) n A9 W := by
  refine ⟨⟨?_, fun i hi => ?_, hn⟩, ap⟩
  · refine StR.of_ownG (F := objC (addO Q n o)) (base := base) (e := 33) (c := c9) ?_ (fun _ => rfl)
    show W.ownsRow _ _ _ _ _ (flatG _ n ++ _)
    rw [flatG_congr (F := objC (addO Q n o)) (G := objC Q) n fun k hk => by show (addO Q n o k).cs = _; rw [addO_lt hk]; rfl]
    rw [show objC (addO Q n o) n = o.cs from by show (addO Q n o n).cs = _; rw [addO_eq], ← hx]
    exact ho
  · by_cases e : i < n
    · rw [addO_lt e]; exact hR.sy i e
    · obtain rfl : i = n := by omega
      rw [addO_eq]; exact ⟨hs, hm⟩
theorem AllO.same {Q : Nat → ObjD} {n c9 base : Nat} {A A9 : Option Addr} {W : World} {xs : List Value} (hR : ObjR W W.heap.size A n Q) (hx : xs = flatG (objC Q) n) (ho : W.ownsRow base 33 11 (.slice A9 n c9) n xs) (ap : Apart Q n n) : AllO Q n n A9 W :=
  ⟨⟨StR.of_ownG (F := objC Q) (by rw [← hx]; exact ho) (fun _ => rfl), hR.sy, hR.len⟩, ap⟩
/-- the loads of one of them -/
theorem AllO.loads {Q : Nat → ObjD} {n m : Nat} {A : Option Addr} {W : World} (h : AllO Q n m A W) {i : Nat} (hi : i < n) : Calls Try.prog 20 #[.agg (Q i).cs] W fun e W' =>
    ∃ A' c' L lk, e = .returned (.slice A' L c') ∧ 0 < L ∧ L ≤ 8 ∧ lk < L ∧ L = lk + 1 ∧ Below W.heap.size W W' ∧
      ∃ ad, A' = some ad ∧ ad.block < W'.heap.size ∧ W'.cell? ⟨ad.block, ad.off + 3, none⟩ = some (.int .u64 (fA (Q i))) ∧ W'.cell? ⟨(ad.add (lk * 6)).block, (ad.add (lk * 6)).off + 3, none⟩ = some (.int .u64 (lA (Q i))) ∧ W'.cell? ⟨(ad.add (lk * 6)).block, (ad.add (lk * 6)).off + 5, none⟩ = some (.int .u64 (lM (Q i))) := by
  have hr := (h.ap.ob i hi).lie.r
  obtain ⟨_, h8, _, _, hl⟩ := right_parts hr
  have hl8 : (lds (Q i).sg (Q i).gM).length ≤ 8 := by have := lds_len (Q i).sg (Q i).gM; omega
  refine (loads_any (Q i) W ((h.rd.sy i hi).1) (by omega)).mono ?_
  rintro e W' ⟨A', c', rfl, ow, b⟩
  have R := row_fnS ow
  obtain ⟨ad, rfl, hb, _, _, _, e3, _, _⟩ := seg_cells R hl
  obtain ⟨ad2, h2, _, _, _, _, d3, _, d5⟩ := seg_cells R (k := (lds (Q i).sg (Q i).gM).length - 1) (by omega)
  injection h2 with h2
  subst h2
  rw [Nat.zero_mul, Go.Hos.add0] at e3
  exact ⟨_, c', _, (lds (Q i).sg (Q i).gM).length - 1, rfl, hl, hl8, by omega, by omega, b, ad, rfl, hb, e3, d3, d5⟩
set_option maxRecDepth 100000 in
set_option maxHeartbeats 16000000 in
theorem apart_any (A : Option Addr) (m c : Nat) (O : Nat → ObjD) (o : ObjD) (w : World) (hR : ObjR w w.heap.size A m O) (hFO : fitsO O) (hS : StR w w.heap.size 6 o.gA o.gM (segC o.sg)) (hf : ∀ k, (o.sg k).fits) (hgm : o.gM ≤ maxLen) :
    Calls Try.prog 8 #[.slice A m c, .agg o.cs] w fun e W' => e = .returned (.bool true) ∧ Below w.heap.size w W' := by
  have hmm : maxLen = 9223372036854775807 := by simp [maxLen]
  have HS := Lib.hid hS; have HF := Lib.hid hf; have HM := Lib.hid hgm; have HR := Lib.hid hR; have HFO := Lib.hid hFO
  obtain ⟨w0, hw0⟩ : ∃ x, x = w.alloc (.cells o.cs 33) := ⟨_, rfl⟩
  have L0 : Hid (LR w o.cs w0) := by rw [hw0]; exact Lib.hid ⟨(Below.refl _ _).alloc (Nat.le_refl _) _, Blk.new _ _ _⟩
  have HW0 := Lib.hid hw0
  obtain ⟨O0, hO0⟩ : ∃ x, x = o := ⟨_, rfl⟩
  have hO1 : o.cs = O0.cs := by rw [hO0]
  rw [← hO0] at HS HF HM L0
  have HOO := Lib.hid hO0
  obtain ⟨ino, base, ty, en, ph, gA, gM, gQ, nA, nM, nQ, so, rn, sA, sM, sQ, rA, rM, rQ, sg⟩ := o
  rw [show (ObjD.mk ino base ty en ph gA gM gQ nA nM nQ so rn sA sM sQ rA rM rQ sg).cs = #[.int .i64 ino, .int .u64 base, .int .u16 ty, .int .u64 en, .int .u64 ph, .slice gA gM gQ, .slice nA nM nQ, .string so, .string rn, .slice sA sM sQ, .slice rA rM rQ] from rfl] at HW0 hO1 ⊢
  have HO1 : Hid (O0.cs = #[.int .i64 ino, .int .u64 base, .int .u16 ty, .int .u64 en, .int .u64 ph, .slice gA gM gQ, .slice nA nM nQ, .string so, .string rn, .slice sA sM sQ, .slice rA rM rQ]) := Lib.hid hO1.symm
  clear hS hf hgm hR hFO hw0 hO0 hO1
  go_enter Try.func8, Try.ntmps8
  go_upto_region 1 with fail
  rw [← HW0.out]
  have R0 := Lib.hid ((HR.out.below L0.out.bl).more L0.out.bl.size)
  obtain ⟨k0, k1, k2, k3, k4, k5, k6, k7, k8, k9, k10, _⟩ := lrs_of HO1 L0.out
  have l1 := L0.out.bo.lt
  go_wp2_with fail
  refine (vast_any A m c O _ w0 R0.out).mono ?_
  rintro e w' ⟨b, rfl, hb, rfl⟩
  have WORKS : ∀ W : World, Below w.heap.size w W → Calls Try.prog 10 #[] W fun e w' => e = .returned (.bool true) ∧ Below w.heap.size w w' := fun W h => (works_any W).mono fun e w' he => ⟨he.1, h.trans (he.2.mono h.size)⟩
  have HWK := Lib.hid WORKS
  clear WORKS HW0
  cases b with
  | true =>
    clear hb k0 k1 k2 k3 k4 k5 k6 k7 k8 k9 k10
    go_wp2_with fail
    refine (HWK.out _ L0.out.bl).mono ?_
    rintro e w2 ⟨rfl, b2⟩
    have B2 := Lib.hid b2
    clear b2
    go_wp2_with fail
    go_ret
    exact ⟨rfl, B2.out⟩
  | false =>
    obtain ⟨hm20, hg40⟩ := hb.out rfl
    have HG := Lib.hid hg40; have HM20 := Lib.hid hm20
    clear hb hg40 hm20
    obtain ⟨w1, hw1⟩ : ∃ x, x = w0.alloc (.cells #[.int .i64 ino, .int .u64 base, .int .u16 ty, .int .u64 en, .int .u64 ph, .slice gA gM gQ, .slice nA nM nQ, .string so, .string rn, .slice sA sM sQ, .slice rA rM rQ] 33) := ⟨_, rfl⟩
    have LL1 : Hid (LR w O0.cs w1) := by rw [hw1]; exact Lib.hid (L0.out.next ((Below.refl _ _).alloc (Nat.le_refl _) _))
    have R1 : Hid (ObjR w1 w1.heap.size (some ⟨w0.heap.size, 0, none⟩) 1 (fun _ => O0)) := by
      have kb : Blk w1 w0.heap.size 33 O0.cs := by rw [hw1, HO1.out]; exact Blk.new _ _ _
      exact Lib.hid (obj1 kb kb.lt ((HS.out.below LL1.out.bl).more LL1.out.bl.size) HM.out)
    have HW1 := Lib.hid hw1
    clear hw1
    go_wp2_with fail
    try rw [HO1.out]
    rw [← HW1.out]
    refine (vast_any _ 1 1 (fun _ => O0) _ w1 R1.out).mono ?_
    rintro e w' ⟨b, rfl, hb, rfl⟩
    clear k0 k1 k2 k3 k4 k5 k6 k7 k8 k9 k10 HW1 R1
    cases b with
    | true =>
      clear hb
      go_wp2_with fail
      refine (HWK.out _ LL1.out.bl).mono ?_
      rintro e w2 ⟨rfl, b2⟩
      have B2 := Lib.hid b2
      clear b2
      go_wp2_with fail
      go_ret
      exact ⟨rfl, B2.out⟩
    | false =>
      have h40 : O0.gM ≤ 40 := (hb.out rfl).2 0 (by omega)
      clear hb
      have R2 := Lib.hid ((HR.out.below LL1.out.bl).more LL1.out.bl.size)
      go_wp2_with fail
      refine (twins_any A m c O w1 R2.out HM20.out HG.out).mono ?_
      rintro e w2 ⟨Al, cl, O', rfl, tw⟩
      have L2 := Lib.hid (tw.objs (fun i hi => by have := HG.out i hi; omega) (by have := HM20.out; omega))
      have F2 := Lib.hid (fitsO_same tw.al HFO.out)
      have LL2 := Lib.hid (LL1.out.next tw.bl)
      clear tw
      go_wp2_with fail
      refine (bases_any Al m cl O' w2 L2.out F2.out).mono ?_
      rintro e1 w3 p3
      have LL3 := Lib.hid (LL2.out.next p3.bl)
      have B3 := Lib.hid p3.bl
      obtain ⟨bl3, A1, c1, n1, rfl, z1, o1⟩ := p3
      by_cases hE : basesE O' m = 0
      · obtain ⟨rfl, ow3⟩ := o1 hE
        obtain ⟨hm0, hm8, hok, hcl⟩ := bases_zero hE
        have AQ := Lib.hid (apart_placed hok F2.out hm8 hcl)
        have LQ : Hid (∀ i, i < n1 → Lie (placed O' i)) := Lib.hid fun i hi => placed_lie hok F2.out hm8 hi
        have R3 := Lib.hid (L2.out.placed bl3 ow3)
        rw [hE]
        have OW3 := Lib.hid (Reads.of_own ow3)
        clear hE z1 o1 bl3 ow3 L2 F2 hok hcl R2 R0 L0 LL1 LL2 B3
        generalize placed O' = Q at *
        obtain ⟨j0, hj0, hy0, hy1, hy2⟩ := info_parts info33
        have OE : Hid ((w3.alloc (.cells #[] 33)).ownsRow w3.heap.size 33 11 (.slice (some ⟨w3.heap.size, 0, none⟩) 0 0) 0 []) := Lib.hid (owns_empty w3 33 11 (Nat.le_refl _))
        have B4 : Hid (Below w3.heap.size w3 (w3.alloc (.cells #[] 33))) := Lib.hid ((Below.refl _ _).alloc (Nat.le_refl _) _)
        have OW4 := Lib.hid (OW3.out.below B4.out)
        obtain ⟨xs, hxs⟩ : ∃ x, x = flatG (objC Q) n1 := ⟨_, rfl⟩
        have X1 : Hid (∀ u ∈ xs, u.oneCell' = true) := Lib.hid (by rw [hxs]; exact flatG_one (obj_one Q) _)
        rw [← hxs] at OW4
        have HXS := Lib.hid hxs
        clear hxs OW3
        go_upto_region 7 with (at_builtin; refine wpList_append_any _ rfl (.tmp 39) (.tmp 40) _ rfl w3.heap.size 33 j0 _ 11 168 Try.underlying35 hj0 hy0 hy1 hy2 rfl (by omega) (.slice (some ⟨w3.heap.size, 0, none⟩) 0 0) 0 [] rfl OE.out w3.heap.size A1 n1 c1 xs rfl OW4.out X1.out (by simp only [maxLen]; omega) (by omega) (by simp) ?_; intro v7 w5 hown1 hg1 hat1; rw [Nat.zero_add, List.nil_append] at hown1; have B5 := Lib.hid (B4.out.trans (below_own hg1 (by simp) fun k hk => (OE.out.lt k hk).1)); have OW5 := Lib.hid hown1; obtain ⟨A7, c7, rfl⟩ := ownsRow_val hown1; clear hown1 hg1 hat1)
        have LL5 := Lib.hid (LL3.out.next B5.out)
        have LL35 := Lib.hid LL3.out.bl.size
        have R5 := Lib.hid ((R3.out.below B5.out).more B5.out.size)
        have HS35 := Lib.hid B5.out.size
        have B35 := Lib.hid B5.out
        clear OE B4 OW4 X1 LL3 B5
        obtain ⟨k0, k1, k2, k3, k4, k5, k6, k7, k8, k9, k10, _⟩ := lrs_of HO1 LL5.out
        have l1 := LL5.out.bo.lt
        go_cut [6, 8] from 42 to 48 (fun v6 v8 wx => ∃ (E2 : Int) (g : Nat) (cs : Array Value), v6 = .int .i64 E2 ∧ v8 = .pointer (some ⟨g, 0, none⟩) ∧ Hid (Below w5.heap.size w5 wx ∧ Blk wx g 33 cs ∧ PlX Q O0 n1 E2 cs wx))
        case first =>
          have TWC := twin_any O0 w5 ((HS.out.below LL5.out.bl).more LL5.out.bl.size) h40
          rw [HO1.out] at TWC
          have HTW := Lib.hid TWC
          clear TWC
          go_wp2_with fail
          refine HTW.out.mono ?_
          rintro e w6 ⟨A2, q2, rfl, ow6, b6⟩
          have S6 := Lib.hid (StR.of_own ow6)
          have OW6 := Lib.hid ow6
          have R6 := Lib.hid ((R5.out.below b6).more b6.size)
          have B6 := Lib.hid b6
          clear ow6 b6 k0 k1 k2 k3 k4 k5 k6 k7 k8 k9 k10 l1
          go_wp2_with fail
          refine (place_any (O0.at A2 q2) A1 n1 c1 Q w6 S6.out HF.out HM.out R6.out LQ.out hm8).mono ?_
          rintro e w7 ⟨b7, E2, cs, rfl, pl⟩
          have B7 := Lib.hid (B6.out.trans (b7.mono B6.out.size))
          have S7 := Lib.hid (owns_below OW6.out b7)
          have BX : ∀ cc, Hid (Below w5.heap.size w5 (w7.alloc (.cells cc 33))) := fun cc => Lib.hid (B7.out.alloc B7.out.size _)
          have HBX := Lib.hid BX
          have SX : ∀ cc, Hid ((w7.alloc (.cells cc 33)).ownsRow w5.heap.size 56 6 (.slice A2 O0.gM q2) O0.gM (flatS (alls O0.sg O0.gM))) := fun cc => Lib.hid (S7.out.alloc _)
          have HSX := Lib.hid SX
          clear b7 BX SX
          rcases pl with ⟨rfl, rfl, hr, h3, hcb⟩ | ⟨hne, rfl⟩
          · obtain ⟨nb, hnb⟩ : ∃ x, x = 138538465099776 - spanA O0 := ⟨_, rfl⟩
            have ecs : (putI (O0.at A2 q2)).cs = #[.int .i64 ino, .int .u64 nb, .int .u16 ty, .int .u64 en, .int .u64 ph, .slice A2 gM q2, .slice nA nM nQ, .string so, .string rn, .slice sA sM sQ, .slice rA rM rQ] := by
              show (ObjD.cs { O0.at A2 q2 with base := 138538465099776 - spanA O0 }) = _
              rw [← hnb, HOO.out]; rfl
            have HPX : Hid (∀ W : World, W.ownsRow w5.heap.size 56 6 (.slice A2 O0.gM q2) O0.gM (flatS (alls O0.sg O0.gM)) → PlX Q O0 n1 0 #[.int .i64 ino, .int .u64 nb, .int .u16 ty, .int .u64 en, .int .u64 ph, .slice A2 gM q2, .slice nA nM nQ, .string so, .string rn, .slice sA sM sQ, .slice rA rM rQ] W) := Lib.hid fun W h => .inl ⟨rfl, A2, q2, _, ecs.symm, h, hr, h3, hcb⟩
            rw [ecs]
            clear hr h3 hcb ecs hnb
            go_wp2_with fail
            go_meet
            exact ⟨0, w7.heap.size, _, rfl, rfl, Lib.hid ⟨(HBX.out _).out, Blk.new _ _ _, HPX.out _ (HSX.out _).out⟩⟩
          · have HNE := Lib.hid hne
            clear hne
            go_wp2_with fail
            go_meet
            exact ⟨E2, w7.heap.size, _, rfl, rfl, Lib.hid ⟨(HBX.out _).out, Blk.new _ _ _, .inr HNE.out⟩⟩
        case rest =>
        obtain ⟨E2, g, cs, rfl, rfl, hc⟩ := hcut
        clear k0 k1 k2 k3 k4 k5 k6 k7 k8 k9 k10 l1
        generalize wc = w8 at *
        obtain ⟨bb, hbb⟩ : ∃ b, b = decide (E2 = 0) := ⟨_, rfl⟩
        have t5 : (E2 == 0) = bb := by rw [hbb]; by_cases h : E2 = 0 <;> simp [h]
        have HBB := Lib.hid hbb
        have HXL : Hid (∀ x : Nat, x ≤ 9 → x ≤ maxLen) := Lib.hid fun x hx => by omega
        clear hbb
        go_upto_if 50 with fail
        clear t5
        go_cut [7] from 49 to 54 (fun v7 wx => ∃ (n : Nat) (A9 : Option Addr) (c9 : Nat) (Qa : Nat → ObjD), v7 = .slice A9 n c9 ∧ Hid (Below w3.heap.size w5 wx ∧ AllO Qa n n1 A9 wx ∧ n ≤ 9))
        case first =>
          obtain ⟨b8, kg, pl⟩ := hc.out
          have OW8 := Lib.hid (owns_below OW5.out b8)
          have R8 := Lib.hid ((R5.out.below b8).more b8.size)
          have B8 := Lib.hid b8
          cases bb with
          | true =>
            have hE0 : E2 = 0 := of_decide_eq_true HBB.out.symm
            obtain ⟨A2, q2, bq, rfl, s8, hr, h3, hcb⟩ : ∃ A2 q2 bq, cs = (putI (O0.at A2 q2)).cs ∧ w8.ownsRow bq 56 6 (.slice A2 O0.gM q2) O0.gM (flatS (alls O0.sg O0.gM)) ∧ rightB O0 = true ∧ O0.ty = 3 ∧ clearB Q (sx (putI O0)) (sy (putI O0)) n1 = true := by
              rcases pl with ⟨_, h⟩ | h
              · exact h
              · exact absurd hE0 h
            obtain ⟨nb, hnb⟩ : ∃ x, x = 138538465099776 - spanA O0 := ⟨_, rfl⟩
            have ecs : (putI (O0.at A2 q2)).cs = #[.int .i64 ino, .int .u64 nb, .int .u16 ty, .int .u64 en, .int .u64 ph, .slice A2 gM q2, .slice nA nM nQ, .string so, .string rn, .slice sA sM sQ, .slice rA rM rQ] := by
              show (ObjD.cs { O0.at A2 q2 with base := 138538465099776 - spanA O0 }) = _
              rw [← hnb, HOO.out]; rfl
            have APD := Lib.hid (apart_add AQ.out (o := putI (O0.at A2 q2)) (ap_putI (o := O0.at A2 q2) hr h3 HF.out) hcb)
            have HECS := Lib.hid ecs
            have S8 := Lib.hid s8
            rw [ecs] at kg
            have j0' := (kg.cell 0).trans rfl
            have j1 := (kg.cell 1).trans rfl
            have j2 := (kg.cell 2).trans rfl
            have j3 := (kg.cell 3).trans rfl
            have j4 := (kg.cell 4).trans rfl
            have j5 := (kg.cell 5).trans rfl
            have j6 := (kg.cell 6).trans rfl
            have j7 := (kg.cell 7).trans rfl
            have j8 := (kg.cell 8).trans rfl
            have j9 := (kg.cell 9).trans rfl
            have j10 := (kg.cell 10).trans rfl
            simp only [List.getElem?_toArray, List.getElem?_cons_succ, List.getElem?_cons_zero] at j0' j1 j2 j3 j4 j5 j6 j7 j8 j9 j10
            have lg := kg.lt
            have hs35 := HS35.out
            have hs8 : w3.heap.size ≤ w8.heap.size := Nat.le_trans HS35.out b8.size
            clear kg pl hE0 hr h3 hcb hnb ecs s8 b8 hc
            go_wp2_with (at_builtin; refine wpList_append_any _ rfl (.tmp 51) (.tmp 53) _ rfl w3.heap.size 33 j0 _ 11 168 Try.underlying35 hj0 hy0 hy1 hy2 rfl (by omega) (.slice A7 n1 c7) n1 xs rfl (OW8.out.alloc _) (w8.heap.size + 1) (some ⟨w8.heap.size, 0, none⟩) 1 1 [.int .i64 ino, .int .u64 nb, .int .u16 ty, .int .u64 en, .int .u64 ph, .slice A2 gM q2, .slice nA nM nQ, .string so, .string rn, .slice sA sM sQ, .slice rA rM rQ] rfl (reads_new w8 33 11 1 [.int .i64 ino, .int .u64 nb, .int .u16 ty, .int .u64 en, .int .u64 ph, .slice A2 gM q2, .slice nA nM nQ, .string so, .string rn, .slice sA sM sQ, .slice rA rM rQ] (by simp) rfl) (by simp [Value.oneCell']) (by simp only [maxLen]; omega) (by omega) (by simp; omega) ?_; intro v7 w9 hown1 hg1 hat1; have B9 := Lib.hid (((Below.refl w3.heap.size w8).alloc hs8 _).trans (below_own hg1 (by simp; omega) fun k hk => (OW8.out.lt k hk).1)); have S9 := Lib.hid (StR.of_own (rows_apartZ S8.out OW8.out (by decide) hg1)); have OW9 := Lib.hid hown1; obtain ⟨A9, c9, rfl⟩ := ownsRow_val hown1; clear hg1 hat1 hown1)
            go_meet
            have B59 := B8.out.mono hs35 |>.trans B9.out
            exact ⟨n1 + 1, A9, c9, _, rfl, Lib.hid ⟨B59, AllO.push (o := putI (O0.at A2 q2)) (((R3.out.below (B35.out.trans B59))).more (by have := B59.size; omega)) HXS.out (by rw [HECS.out]; exact OW9.out) S9.out HM.out (HXL.out _ (by omega)) APD.out, by omega⟩⟩
          | false =>
            have APD := Lib.hid (AllO.same R8.out HXS.out OW8.out AQ.out)
            clear pl kg b8 hc
            go_wp2_with fail
            go_meet
            exact ⟨n1, A7, c7, Q, rfl, Lib.hid ⟨B8.out.mono HS35.out, APD.out, by omega⟩⟩
        case rest =>
        obtain ⟨n, A9, c9, Qa, rfl, hd⟩ := hcut
        have B9 := Lib.hid (LL5.out.bl.trans (hd.out.1.mono LL35.out))
        have AL := Lib.hid hd.out.2.1
        have hn9 := hd.out.2.2
        clear hc hd OW5 R5 LL5 HXL HBB HXS R3 AQ LQ B35 HS35
        generalize wc = w9 at *
        have AP := Lib.hid AL.out.ap
        go_wp2_with fail
        go_loopw [9] (fun v9 wr => ∃ i : Nat, i ≤ n ∧ v9 = .int .i64 i ∧ Hid (Below w9.heap.size w9 wr)) (fun v9 _ => n - (intOf v9).toNat)
        case atStart => exact ⟨0, Nat.zero_le _, rfl, Lib.hid (Below.refl _ _)⟩
        case round =>
          obtain ⟨i, hi, rfl, bl⟩ := hrel
          by_cases hin : i < n
          · have e1 : decide ((i : Int) < (n : Int)) = true := by simp; omega
            have e2 : (i : Int) < (n : Int) := by omega
            have AR := Lib.hid (AL.out.next bl.out)
            obtain ⟨ad_i, had9_i, had_i, c0_i, c1_i, c2_i, c3_i, c4_i, c5_i, c6_i, c7_i, c8_i, c9_i, c10_i⟩ := AR.out.rd.cells hin
            subst had9_i
            have LC := AR.out.loads hin
            rw [show (Qa i).cs = #[.int .i64 (Qa i).ino, .int .u64 (Qa i).base, .int .u16 (Qa i).ty, .int .u64 (Qa i).en, .int .u64 (Qa i).ph, .slice (Qa i).gA (Qa i).gM (Qa i).gQ, .slice (Qa i).nA (Qa i).nM (Qa i).nQ, .string (Qa i).so, .string (Qa i).rn, .slice (Qa i).sA (Qa i).sM (Qa i).sQ, .slice (Qa i).rA (Qa i).rM (Qa i).rQ] from rfl] at LC
            obtain ⟨bi, hbb_i⟩ : ∃ x, x = (Qa i).base := ⟨_, rfl⟩
            have hfrm_i : frm (Qa i) = bi + fA (Qa i) := by rw [hbb_i]; rfl
            have hto_i : toO (Qa i) = bi + lA (Qa i) + lM (Qa i) := by rw [hbb_i]; rfl
            rw [← hbb_i] at c1_i LC
            have HLC := Lib.hid LC
            have HBB_i := Lib.hid hbb_i; have HFR_i := Lib.hid hfrm_i; have HTO_i := Lib.hid hto_i
            clear hbb_i hfrm_i hto_i
            have lad_i := World.block_lt_of_cell? _ _ c0_i
            clear LC
            go_wp2_with fail
            refine HLC.out.mono ?_
            rintro e wa_i ⟨Ax_i, cx_i, L_i, l_i, rfl, hL0_i, hL8_i, hlL_i, hLl_i, bz_i, adx_i, rfl, hadx_i, p1_i, p2_i, p3_i⟩
            have ba_i := Lib.hid bz_i
            have c1w_i : wa_i.cell? ⟨(ad_i.add (i * 11)).block, (ad_i.add (i * 11)).off + 1, none⟩ = some (.int .u64 bi) := by rw [bz_i.cell (by show (ad_i.add (i * 11)).block < _; exact lad_i)]; exact c1_i
            have ladw_i := World.block_lt_of_cell? _ _ c1w_i
            have ladx_i := World.block_lt_of_cell? _ _ p1_i
            have gL_i : ((L_i : Int) == 0) = false := by simp; omega
            have gl_i : IntKind.i64.wrap ((L_i : Int) - 1) = (l_i : Int) := by rw [show (L_i : Int) - 1 = (l_i : Int) by omega]; exact IntWalk.i64_in _ (by omega)
            have gk_i : (l_i : Int) < (L_i : Int) := by omega
            have gz_i : (0 : Int) < (L_i : Int) := by omega
            obtain ⟨fi, hf_i⟩ : ∃ x, x = fA (Qa i) := ⟨_, rfl⟩
            obtain ⟨ai, ha_i⟩ : ∃ x, x = lA (Qa i) := ⟨_, rfl⟩
            obtain ⟨mi, hm_i⟩ : ∃ x, x = lM (Qa i) := ⟨_, rfl⟩
            have hbb_i := HBB_i.out; have hfrm_i := HFR_i.out; have hto_i := HTO_i.out
            rw [← hf_i] at p1_i hfrm_i
            rw [← ha_i] at p2_i hto_i
            rw [← hm_i] at p3_i hto_i
            clear HLC bz_i c0_i c1_i c2_i c3_i c4_i c5_i c6_i c7_i c8_i c9_i c10_i hf_i ha_i hm_i lad_i hLl_i HBB_i HFR_i HTO_i
            have hob := AP.out.ob i hin
            have hst := AP.out.st i hin
            have o1 := hob.ft; have o2 := hob.le; have o3 := hob.t1; have o4 := hob.b4
            clear hob
            obtain ⟨F, hF⟩ : ∃ x, x = frm (Qa i) := ⟨_, rfl⟩
            obtain ⟨T, hT⟩ : ∃ x, x = toO (Qa i) := ⟨_, rfl⟩
            have hF' : F = bi + fi := hF.trans hfrm_i
            have hT' : T = bi + ai + mi := hT.trans hto_i
            rw [← hF, ← hT] at o1 hst
            rw [← hT] at o3
            rw [← hbb_i] at o4
            obtain ⟨t0, ht0⟩ : ∃ x, x = bi + ai := ⟨_, rfl⟩
            have v1 : IntKind.u64.wrap ((bi : Int) + (fi : Int)) = (F : Int) := wrap_sum hF' (by unfold M; omega)
            have v2 : IntKind.u64.wrap ((bi : Int) + (ai : Int)) = (t0 : Int) := wrap_sum ht0 (by unfold M; omega)
            have v3 : IntKind.u64.wrap ((t0 : Int) + (mi : Int)) = (T : Int) := wrap_sum (by omega) (by unfold M; omega)
            have x1 : decide ((T : Int) ≤ (F : Int)) = false := by simp; omega
            have x1n : decide (T ≤ F) = false := by simp; omega
            have x2 : decide ((140737488355328 : Int) < (T : Int)) = false := by simp; omega
            have x3 : (bi : Int).tmod 4096 = 0 := by rw [Int.tmod_eq_emod_of_nonneg (by omega)]; omega
            have x3' : (bi : Int) % 4096 = 0 := by omega
            have hT1 : 1 ≤ T := by omega
            have HTM := Lib.hid (show T ≤ 140737488355328 ∧ 1 ≤ T ∧ F < T by omega)
            clear hT1
            have HFT := Lib.hid (show F = frm (Qa i) ∧ T = toO (Qa i) from ⟨hF, hT⟩)
            have HST := Lib.hid hst
            clear hF hT hF' hT' ht0 o1 o2 o3 o4 hst hfrm_i hto_i hbb_i
            go_wp2_with fail
            go_quiet (fail)
            go_wp2_with fail
            go_quiet (fail)
            go_upto_region 18 with fail
            clear v1 v2 v3 p1_i p2_i p3_i gL_i gl_i gk_i gz_i hadx_i ladx_i hL0_i hL8_i hlL_i
            go_cut [123] from 100 to 122 (fun v wx => v = .bool false ∧ ∃ q : Nat, wx = wa_i.drewN q)
            case first =>
              by_cases h1 : F < 140737488351232
              · have y1 : decide ((F : Int) < 140737488351232) = true := by simp; omega
                have h2 := HST.out
                have y2 : decide ((140737488334848 : Int) < (T : Int)) = false := by simp; omega
                clear h1 h2
                go_wp2_with fail
                go_meet
                exact ⟨rfl, _, rfl⟩
              · have y1 : decide ((F : Int) < 140737488351232) = false := by simp; omega
                clear h1
                go_wp2_with fail
                go_meet
                exact ⟨rfl, _, rfl⟩
            case rest =>
            obtain ⟨rfl, q, rfl⟩ := hcut
            clear x1 x1n x2 x3 x3' HST
            have BL2 := Lib.hid (below_drewN (bl.out.trans (ba_i.out.mono bl.out.size)) q)
            clear c1w_i ladw_i had_i
            clear bl ba_i AR
            go_wp2_with fail
            go_loopw [13] (fun v13 wr => ∃ k : Nat, k ≤ i ∧ v13 = .int .i64 k ∧ Hid (Below w9.heap.size w9 wr)) (fun v13 _ => i - (intOf v13).toNat)
            case atStart => exact ⟨0, Nat.zero_le _, rfl, BL2⟩
            case round =>
              clear BL2
              obtain ⟨k, hk, rfl, bl⟩ := hrel
              by_cases hkn : k < i
              · have f1 : decide ((k : Int) < (i : Int)) = true := by simp; omega
                have f2 : (k : Int) < (i : Int) := by omega
                have f3 : (k : Int) < (n : Int) := by omega
                have hkn2 : k < n := by omega
                have AR := Lib.hid (AL.out.next bl.out)
                obtain ⟨ad_k, had9_k, had_k, c0_k, c1_k, c2_k, c3_k, c4_k, c5_k, c6_k, c7_k, c8_k, c9_k, c10_k⟩ := AR.out.rd.cells hkn2
                obtain rfl : ad_i = ad_k := by injection had9_k
                have LC := AR.out.loads hkn2
                rw [show (Qa k).cs = #[.int .i64 (Qa k).ino, .int .u64 (Qa k).base, .int .u16 (Qa k).ty, .int .u64 (Qa k).en, .int .u64 (Qa k).ph, .slice (Qa k).gA (Qa k).gM (Qa k).gQ, .slice (Qa k).nA (Qa k).nM (Qa k).nQ, .string (Qa k).so, .string (Qa k).rn, .slice (Qa k).sA (Qa k).sM (Qa k).sQ, .slice (Qa k).rA (Qa k).rM (Qa k).rQ] from rfl] at LC
                obtain ⟨bk, hbb_k⟩ : ∃ x, x = (Qa k).base := ⟨_, rfl⟩
                have hfrm_k : frm (Qa k) = bk + fA (Qa k) := by rw [hbb_k]; rfl
                have hto_k : toO (Qa k) = bk + lA (Qa k) + lM (Qa k) := by rw [hbb_k]; rfl
                rw [← hbb_k] at c1_k LC
                have HLC := Lib.hid LC
                have HBB_k := Lib.hid hbb_k; have HFR_k := Lib.hid hfrm_k; have HTO_k := Lib.hid hto_k
                clear hbb_k hfrm_k hto_k
                have lad_k := World.block_lt_of_cell? _ _ c0_k
                clear LC
                go_wp2_with fail
                refine HLC.out.mono ?_
                rintro e wa_k ⟨Ax_k, cx_k, L_k, l_k, rfl, hL0_k, hL8_k, hlL_k, hLl_k, bz_k, adx_k, rfl, hadx_k, p1_k, p2_k, p3_k⟩
                have ba_k := Lib.hid bz_k
                have c1w_k : wa_k.cell? ⟨(ad_i.add (k * 11)).block, (ad_i.add (k * 11)).off + 1, none⟩ = some (.int .u64 bk) := by rw [bz_k.cell (by show (ad_i.add (k * 11)).block < _; exact lad_k)]; exact c1_k
                have ladw_k := World.block_lt_of_cell? _ _ c1w_k
                have ladx_k := World.block_lt_of_cell? _ _ p1_k
                have gL_k : ((L_k : Int) == 0) = false := by simp; omega
                have gl_k : IntKind.i64.wrap ((L_k : Int) - 1) = (l_k : Int) := by rw [show (L_k : Int) - 1 = (l_k : Int) by omega]; exact IntWalk.i64_in _ (by omega)
                have gk_k : (l_k : Int) < (L_k : Int) := by omega
                have gz_k : (0 : Int) < (L_k : Int) := by omega
                obtain ⟨fk, hf_k⟩ : ∃ x, x = fA (Qa k) := ⟨_, rfl⟩
                obtain ⟨ak, ha_k⟩ : ∃ x, x = lA (Qa k) := ⟨_, rfl⟩
                obtain ⟨mk, hm_k⟩ : ∃ x, x = lM (Qa k) := ⟨_, rfl⟩
                have hbb_k := HBB_k.out; have hfrm_k := HFR_k.out; have hto_k := HTO_k.out
                rw [← hf_k] at p1_k hfrm_k
                rw [← ha_k] at p2_k hto_k
                rw [← hm_k] at p3_k hto_k
                clear HLC bz_k c0_k c1_k c2_k c3_k c4_k c5_k c6_k c7_k c8_k c9_k c10_k hf_k ha_k hm_k had9_k lad_k hLl_k HBB_k HFR_k HTO_k
                have hob := AP.out.ob k hkn2
                have htw := AP.out.tw i k hin hkn
                have hrw := AP.out.rw i k hin hkn
                have o1 := hob.ft; have o2 := hob.le; have o3 := hob.t1
                clear hob
                obtain ⟨C, hC⟩ : ∃ x, x = frm (Qa k) := ⟨_, rfl⟩
                obtain ⟨D, hD⟩ : ∃ x, x = toO (Qa k) := ⟨_, rfl⟩
                have hC' : C = bk + fk := hC.trans hfrm_k
                have hD' : D = bk + ak + mk := hD.trans hto_k
                rw [← hC, ← hD] at o1 htw
                rw [← hD] at o3 hrw
                rw [← HFT.out.1, ← HFT.out.2] at htw
                rw [← HFT.out.1] at hrw
                obtain ⟨t0, ht0⟩ : ∃ x, x = bk + ak := ⟨_, rfl⟩
                have v1 : IntKind.u64.wrap ((bk : Int) + (fk : Int)) = (C : Int) := wrap_sum hC' (by unfold M; omega)
                have v2 : IntKind.u64.wrap ((bk : Int) + (ak : Int)) = (t0 : Int) := wrap_sum ht0 (by unfold M; omega)
                have v3 : IntKind.u64.wrap ((t0 : Int) + (mk : Int)) = (D : Int) := wrap_sum (by omega) (by unfold M; omega)
                obtain ⟨D1, hD1⟩ : ∃ x, x = D - 1 := ⟨_, rfl⟩
                obtain ⟨T1, hT1'⟩ : ∃ x, x = T - 1 := ⟨_, rfl⟩
                have hTM := HTM.out
                have v4 : IntKind.u64.wrap ((D : Int) - 1) = (D1 : Int) := by rw [show (D : Int) - 1 = (D1 : Int) by omega]; exact wrap_small (by unfold M; omega)
                have v5 : IntKind.u64.wrap ((T : Int) - 1) = (T1 : Int) := by rw [show (T : Int) - 1 = (T1 : Int) by omega]; exact wrap_small (by unfold M; omega)
                rw [← hD1, ← hT1'] at htw
                obtain ⟨pF, hpF⟩ : ∃ x, x = F / 4096 := ⟨_, rfl⟩
                obtain ⟨pC, hpC⟩ : ∃ x, x = C / 4096 := ⟨_, rfl⟩
                obtain ⟨pD, hpD⟩ : ∃ x, x = D1 / 4096 := ⟨_, rfl⟩
                obtain ⟨pT, hpT⟩ : ∃ x, x = T1 / 4096 := ⟨_, rfl⟩
                rw [← hpF, ← hpC, ← hpD, ← hpT] at htw
                have z1 : (F : Int).tdiv 4096 = (pF : Int) := by rw [Int.tdiv_eq_ediv_of_nonneg (by omega)]; omega
                have z2 : (C : Int).tdiv 4096 = (pC : Int) := by rw [Int.tdiv_eq_ediv_of_nonneg (by omega)]; omega
                have z3 : (D1 : Int).tdiv 4096 = (pD : Int) := by rw [Int.tdiv_eq_ediv_of_nonneg (by omega)]; omega
                have z4 : (T1 : Int).tdiv 4096 = (pT : Int) := by rw [Int.tdiv_eq_ediv_of_nonneg (by omega)]; omega
                have z1' : (F : Int) / 4096 = (pF : Int) := by omega
                have z2' : (C : Int) / 4096 = (pC : Int) := by omega
                have z3' : (D1 : Int) / 4096 = (pD : Int) := by omega
                have z4' : (T1 : Int) / 4096 = (pT : Int) := by omega
                have u1 : IntKind.u64.wrap (pF : Int) = (pF : Int) := wrap_small (by unfold M; omega)
                have u2 : IntKind.u64.wrap (pC : Int) = (pC : Int) := wrap_small (by unfold M; omega)
                have u3 : IntKind.u64.wrap (pD : Int) = (pD : Int) := wrap_small (by unfold M; omega)
                have u4 : IntKind.u64.wrap (pT : Int) = (pT : Int) := wrap_small (by unfold M; omega)
                have HTW := Lib.hid htw; have HRW := Lib.hid hrw
                clear hC hD hC' hD' ht0 hTM o1 o2 o3 htw hrw hfrm_k hto_k hbb_k hD1 hT1' hpF hpC hpD hpT
                go_wp2_with fail
                go_quiet (fail)
                go_wp2_with fail
                go_quiet (fail)
                go_upto_region 26 with fail
                clear v1 v2 v3
                go_cut [178] from 165 to 177 (fun v wx => v = .bool false ∧ ∃ q : Nat, wx = wa_k.drewN q)
                case first =>
                  by_cases h1 : pF ≤ pD
                  · have y1 : decide ((pF : Int) ≤ (pD : Int)) = true := by simp; omega
                    have y1n : decide (pF ≤ pD) = true := by simp; omega
                    have h2 := HTW.out
                    have y2 : decide ((pC : Int) ≤ (pT : Int)) = false := by simp; omega
                    have y2n : decide (pC ≤ pT) = false := by simp; omega
                    clear h1 h2
                    go_wp2_with fail
                    go_meet
                    exact ⟨rfl, _, rfl⟩
                  · have y1 : decide ((pF : Int) ≤ (pD : Int)) = false := by simp; omega
                    have y1n : decide (pF ≤ pD) = false := by simp; omega
                    clear h1
                    go_wp2_with fail
                    go_meet
                    exact ⟨rfl, _, rfl⟩
                case rest =>
                obtain ⟨rfl, q3, rfl⟩ := hcut
                have BL3 := Lib.hid (below_drewN (bl.out.trans (ba_k.out.mono bl.out.size)) q3)
                clear c1w_k ladw_k ladx_k p1_k p2_k p3_k gL_k gl_k gk_k gz_k had_k hadx_k
                clear u1 u2 u3 u4 z1 z2 z3 z4 z1' z2' z3' z4' v4 v5 HTW bl ba_k AR
                by_cases g1 : 0 < k
                · have y1 : decide ((0 : Int) < (k : Int)) = true := by simp; omega
                  have y1n : decide (0 < k) = true := by simp; omega
                  by_cases g2 : i < n1
                  · have y2 : decide ((i : Int) < (n1 : Int)) = true := by simp; omega
                    have y2n : decide (i < n1) = true := by simp; omega
                    have g3 := HRW.out g1 g2
                    have y3 : decide ((F : Int) ≤ (D : Int)) = false := by simp; omega
                    have y3n : decide (F ≤ D) = false := by simp; omega
                    clear g1 g2 g3
                    go_wp2_with fail
                    go_roundw
                    case rel => exact ⟨k + 1, by omega, by go_num, BL3⟩
                    case measure => simp [intOf]; omega
                  · have y2 : decide ((i : Int) < (n1 : Int)) = false := by simp; omega
                    have y2n : decide (i < n1) = false := by simp; omega
                    clear g1 g2
                    go_wp2_with fail
                    go_roundw
                    case rel => exact ⟨k + 1, by omega, by go_num, BL3⟩
                    case measure => simp [intOf]; omega
                · have y1 : decide ((0 : Int) < (k : Int)) = false := by simp; omega
                  have y1n : decide (0 < k) = false := by simp; omega
                  clear g1
                  go_wp2_with fail
                  go_roundw
                  case rel => exact ⟨k + 1, by omega, by go_num, BL3⟩
                  case measure => simp [intOf]; omega
              · obtain rfl : k = i := by omega
                have f1 : decide ((k : Int) < (k : Int)) = false := by simp
                go_wp2_with fail
                go_roundw
                case rel => exact ⟨k + 1, by omega, by go_num, bl⟩
                case measure => simp [intOf]; omega
          · obtain rfl : i = n := by omega
            have e1 : decide ((i : Int) < (i : Int)) = false := by simp
            have BW := Lib.hid (B9.out.trans (bl.out.mono B9.out.size))
            go_wp2_with fail
            refine (HWK.out _ BW.out).mono ?_
            rintro e w10 ⟨rfl, b10⟩
            have B10 := Lib.hid b10
            clear b10
            go_wp2_with fail
            go_ret
            exact ⟨rfl, B10.out⟩
      · obtain ⟨rfl, rfl, rfl⟩ := z1 hE
        obtain ⟨E, hEE⟩ : ∃ x, x = basesE O' m := ⟨_, rfl⟩
        rw [← hEE] at hE ⊢
        have t1 : (E != 0) = true := by simp; omega
        have HEE := Lib.hid hE
        clear hE hEE z1 o1
        go_wp2_with fail
        refine (HWK.out _ LL3.out.bl).mono ?_
        rintro e w10 ⟨rfl, b10⟩
        have B10 := Lib.hid b10
        clear b10
        go_wp2_with fail
        go_ret
        exact ⟨rfl, B10.out⟩
end Go.Proofs.Yticnmgdflkipeaa
