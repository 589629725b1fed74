import Derived.Test.YtgikfjfinjcfmaaDoorH6
namespace Go.Proofs.YtgikfjfinjcfmaaDoor
open Go.RowKit Go.Hos
set_option linter.unusedVariables false
set_option maxRecDepth 20000 in
set_option maxHeartbeats 1600000 in
theorem rstore_no {B : Nat} {q c b n m qb : Nat} {C : Nat → Nat} {D : Nat → Nat → Nat} {V : Nat → Value} {L : Nat → Nat} {A : Option Addr} (x y : Int) (w : World) (h : RP B w q c b n C D V L) (hm : m ≤ maxLen) (hs : stB C n x y m = false) :
    Calls Tryd.prog 40 #[.pointer (some ⟨q, 0, none⟩), .int .i64 x, .int .i64 y, .slice A m qb] w fun e w' => e = .returned (.int .i64 1) ∧ w = w' := by
  have hn := h.nn
  have H := Lib.hid h
  cases hx : tkB C n x
  · have HX := Lib.hid hx
    clear h hx hs
    go_enter Tryd.func40, Tryd.ntmps40
    go_wp2_with fail
    refine (rtaken_any x _ H.out).mono ?_
    rw [HX.out]
    rintro e w' ⟨rfl, rfl⟩
    go_wp2_with fail
    go_ret
    exact ⟨rfl, rfl⟩
  · have HX := Lib.hid hx
    by_cases hy : 0 ≤ y
    · have hs2 : ¬ y + m ≤ 4096 := by intro h2; simp [stB, hx, hy, h2] at hs
      have b1 : ¬ y < 0 := by omega
      by_cases h4 : 4096 < y
      · clear h hx hs hs2
        go_enter Tryd.func40, Tryd.ntmps40
        go_wp2_with fail
        refine (rtaken_any x _ H.out).mono ?_
        rw [HX.out]
        rintro e w' ⟨rfl, rfl⟩
        go_wp2_with fail
        go_ret
        exact ⟨rfl, rfl⟩
      · have b3 : 4096 - y < (m : Int) := by omega
        clear h hx hs hs2
        go_enter Tryd.func40, Tryd.ntmps40
        go_wp2_with fail
        refine (rtaken_any x _ H.out).mono ?_
        rw [HX.out]
        rintro e w' ⟨rfl, rfl⟩
        go_wp2_with fail
        go_ret
        exact ⟨rfl, rfl⟩
    · have b1 : y < 0 := by omega
      clear h hx hs hy
      go_enter Tryd.func40, Tryd.ntmps40
      go_wp2_with fail
      refine (rtaken_any x _ H.out).mono ?_
      rw [HX.out]
      rintro e w' ⟨rfl, rfl⟩
      go_wp2_with fail
      go_ret
      exact ⟨rfl, rfl⟩
theorem rstore_any {B : Nat} {q c b n m qb : Nat} {C : Nat → Nat} {D : Nat → Nat → Nat} {V : Nat → Value} {L : Nat → Nat} {A : Option Addr} {bs : List Nat} (x y : Int) (w : World) (h : RP B w q c b n C D V L) (hr : Reads w B 1 A m (u8s bs)) (hB : B ≤ w.heap.size) (hm : m ≤ maxLen) :
    Calls Tryd.prog 40 #[.pointer (some ⟨q, 0, none⟩), .int .i64 x, .int .i64 y, .slice A m qb] w fun e w' => e = .returned (.int .i64 (if stB C n x y m then 0 else 1)) ∧ RX B w w' q c b n C V C (stD C n x y bs D) := by
  have hbm : bs.length = m := by have := hr.1; rw [u8s_len] at this; omega
  cases hs : stB C n x y m
  · rw [stD, hbm, hs]
    refine (rstore_no x y w h hm hs).mono ?_
    rintro e w' ⟨rfl, rfl⟩
    exact ⟨rfl, RX.refl h⟩
  · rw [stD, hbm, hs, if_pos rfl, if_pos rfl]
    simp only [stB, Bool.and_eq_true, decide_eq_true_eq] at hs
    obtain ⟨⟨hx, hy⟩, hl⟩ := hs
    obtain ⟨k, rfl, hk, hc⟩ := tkB_yes hx
    obtain ⟨o, rfl⟩ := Int.eq_ofNat_of_zero_le hy
    rw [Int.toNat_natCast, Int.toNat_natCast]
    exact rstore_yes w h hr hB hk hc (by omega)
theorem RX.trans {B : Nat} {W W' W'' : World} {q c b n : Nat} {C C' C'' : Nat → Nat} {V V' : Nat → Value} {D'' : Nat → Nat → Nat} (k1 : KR c (Fo n C V) W W') (b1 : Below B W W') (m1 : ∀ g, g < W.heap.size → Fo n C V g → Fo n C' V' g) (h : RX B W' W'' q c b n C' V' C'' D'') : RX B W W'' q c b n C V C'' D'' := by
  obtain ⟨V2, L2, r, k2, b2, m2⟩ := h
  exact ⟨V2, L2, r, k1.trans k2 m1, b1.trans b2, fun g hg hf => m2 g (by have := b1.size; omega) (m1 g hg hf)⟩
/-- the bytes of the copy so far -/
structure CY (w1 : World) (B i : Nat) (F : Nat → Nat) (A : Option Addr) (cp : Nat) (W : World) : Prop where
  own : W.ownsRow w1.heap.size 5 1 (.slice A i cp) i (u8s (bsF i F))
  bl : Below w1.heap.size w1 W
theorem CY.push {w1 W W3 : World} {B i cp cp' : Nat} {F : Nat → Nat} {A A' : Option Addr} {o : Obj} (h : Hid (CY w1 B i F A cp W)) (ho : W3.ownsRow w1.heap.size 5 1 (.slice A' (i + 1) cp') (i + 1) (u8s (bsF i F) ++ [.int .u8 (F i)])) (hg : (W.alloc o).grownBy W3 (Value.slice A i cp).ownBlock) : Hid (CY w1 B (i + 1) F A' cp' W3) := by
  have ha : Below w1.heap.size W (W.alloc o) := (Below.refl _ _).alloc h.out.bl.size _
  refine ⟨?_, (h.out.bl.trans ha).trans (below_own hg (by have := h.out.bl.size; simp; omega) fun k hk => (h.out.own.lt k hk).1)⟩
  have e : u8s (bsF (i + 1) F) = u8s (bsF i F) ++ [.int .u8 (F i)] := by rw [bsF_succ]; simp [u8s]
  rw [e]; exact ho
set_option maxRecDepth 20000 in
set_option maxHeartbeats 1600000 in
theorem rcopy_yes {B : Nat} {q c b n k : Nat} {C : Nat → Nat} {D : Nat → Nat → Nat} {V : Nat → Value} {L : Nat → Nat} (w : World) (h : RP B w q c b n C D V L) (hB : B ≤ w.heap.size) (hk : k < n) (hc : 0 < C k) (hf : tf C n < n) :
    Calls Tryd.prog 41 #[.pointer (some ⟨q, 0, none⟩), .int .i64 k] w fun e w' => e = .returned (.tuple #[.int .i64 (tf C n), .int .i64 0]) ∧ RX B w w' q c b n C V (upd C (tf C n) 1) (upd D (tf C n) (D k)) := by
  have hn := h.nn
  have H := Lib.hid h
  have HX : Hid (tkB C n k = true) := tkB_of hk hc
  obtain ⟨g, hg⟩ : ∃ g, g = tf C n := ⟨_, rfl⟩
  have hgn : g < n := by omega
  have hg0 : C g = 0 := by rw [hg]; exact (tf_spec C n).2.2 hf
  have hgk : k ≠ g := by rintro rfl; omega
  have HGK := Lib.hid hgk
  have HK1 : Hid (0 < upd C g 1 k) := Lib.hid (by rw [upd_other _ _ hgk]; exact hc)
  have HG1 : Hid (0 < upd C g 1 g) := Lib.hid (by rw [upd_same]; omega)
  have E : Hid (takeN C n = g ∧ takeE C n = 0 ∧ takeC C n = upd C g 1 ∧ takeD C n D = upd D g (fun _ => 0)) := by
    show _ ∧ _
    unfold takeN takeE takeC takeD
    rw [if_pos hf, if_pos hf, if_pos hf, if_pos hf, hg]
    exact ⟨rfl, rfl, rfl, rfl⟩
  rw [← hg]
  obtain ⟨i0, hi0, hz0, hz1, hz2⟩ := info_parts info5'
  clear h hc hf hg hg0 hgk
  go_enter Tryd.func41, Tryd.ntmps41
  go_wp2_with fail
  refine (rtaken_any k _ H.out).mono ?_
  rw [HX.out]
  rintro e w' ⟨rfl, rfl⟩
  go_wp2_with fail
  refine (rtake_any _ H.out).mono ?_
  rw [E.out.1, E.out.2.1, E.out.2.2.1, E.out.2.2.2]
  rintro e w1 ⟨rfl, V1, L1, rp1, kr1, bl1, mo1⟩
  have RP1 := Lib.hid rp1; have KR1 := Lib.hid kr1; have BL1 := Lib.hid bl1; have MO1 := Lib.hid mo1
  have kq := rp1.head.2
  have ho := rp1.ow k hk HK1.out
  have hbk := rp1.bb.get hk
  have fbg := rp1.bb.free g
  have hgb0 := rp1.bb.get hgn
  have lq := rp1.hd.lt
  have lb := rp1.bb.lt
  obtain ⟨l, hl⟩ : ∃ l, l = L1 k := ⟨_, rfl⟩
  rw [← hl] at ho
  obtain ⟨A2, q2, hV⟩ := ownsRow_val ho
  rw [hV] at ho hbk
  have hl4 : l ≤ 4096 := by rw [hl]; exact (rp1.sz k hk HK1.out).1
  have HO := Lib.hid ho; have HL := Lib.hid hl; have HV := Lib.hid hV
  have Y0 : Hid (CY w1 B 0 (upd D g (fun _ => 0) k) none 0 w1) := ⟨World.ownsRow_nil _ _ _ _, Below.refl _ _⟩
  have hw1 : w.heap.size ≤ w1.heap.size := bl1.size
  clear rp1 kr1 bl1 mo1 ho hl hV
  go_wp2_with fail
  go_loopw [8, 9] (fun v8 v9 wr => ∃ (i cp : Nat) (A : Option Addr), i ≤ l ∧ v8 = .slice A i cp ∧ v9 = .int .i64 i ∧ Hid (CY w1 B i (upd D g (fun _ => 0) k) A cp wr)) (fun _ v9 _ => l - (intOf v9).toNat)
  case atStart => exact ⟨0, 0, none, by omega, rfl, rfl, Y0⟩
  case round =>
    obtain ⟨i, cp, A, hi, rfl, rfl, cy⟩ := hrel
    have kq2 : wr.cell? ⟨q, 1, none⟩ = some (.slice (some ⟨b, 0, none⟩) n n) := (cy.out.bl.cell (p := ⟨q, 1, none⟩) lq).trans kq
    have kb2 : wr.cell? ⟨b, k, none⟩ = some (.slice A2 l q2) := (cy.out.bl.cell (p := ⟨b, k, none⟩) lb).trans hbk
    by_cases hil : i < l
    · have d1 : decide ((i : Int) < (l : Int)) = true := by simp; omega
      have hown : wr.ownsRow B 5 1 (.slice A2 l q2) l (u8s (bsF l (upd D g (fun _ => 0) k))) := owns_keep HO.out fun g cs hb => hb.below cy.out.bl hb.lt
      obtain ⟨l0, hl0⟩ : ∃ l0, l0 + 1 = l := ⟨l - 1, by omega⟩
      obtain ⟨gb, cap, hA, _, hgb, hcp⟩ := owns_succ (k := l0) (by rw [hl0]; exact hown)
      rw [hl0] at hA hcp
      obtain ⟨rfl, _, rfl⟩ := Value.slice.inj hA
      have cs := hown.cellAt i (by omega)
      rw [u8s_bsF_at hil] at cs
      obtain ⟨x, hx⟩ : ∃ x, x = upd D g (fun _ => 0) k i := ⟨_, rfl⟩
      rw [← hx] at cs
      have HXX := Lib.hid hx
      have HCO := Lib.hid cy.out.own
      have hws : w1.heap.size ≤ wr.heap.size := cy.out.bl.size
      clear hx hown hA hl0
      go_wp2_with (at_builtin
                   refine wpList_append_any _ rfl (.tmp 36) (.tmp 47) _ rfl w1.heap.size 5 i0 _ 1 1 Tryd.underlying42 hi0 hz0 hz1 hz2 rfl (by omega) (.slice A i cp) i _ rfl
                     (HCO.out.alloc _) (wr.heap.size + 1) (some ⟨wr.heap.size, 0, none⟩) 1 1 [.int .u8 (x : Int)] rfl (reads_new wr 5 1 1 [.int .u8 (x : Int)] rfl rfl) (by simp [Value.oneCell']) (by simp only [maxLen]; omega) (by omega) (by simp; omega) ?_
                   intro v1 w3 hown hg hat
                   obtain ⟨A3, c3, rfl⟩ := ownsRow_val hown
                   have P1 := CY.push cy (by rw [HXX.out] at hown; exact hown) hg
                   clear hown hg hat)
      go_wp2_with fail
      go_roundw
      case rel => exact ⟨i + 1, c3, A3, by omega, rfl, by go_num, P1⟩
      case measure => simp [intOf]; omega
    · obtain rfl : i = l := by omega
      have d1 : decide ((i : Int) < (i : Int)) = false := by simp
      have fbg2 : wr.frozen? ⟨b, g, none⟩ = false := (RP1.out.next cy.out.bl).bb.free g
      have hgb2 : wr.cell? ⟨b, g, none⟩ = some (V1 g) := (RP1.out.next cy.out.bl).bb.get hgn
      have hBr : B ≤ wr.heap.size := by have := cy.out.bl.size; omega
      have FIN : Hid (RX B w (wr.setCell ⟨b, g, none⟩ (.slice A i cp)) q c b n C V (upd C g 1) (upd D g (D k))) := by
        have rp2 := RP1.out.next cy.out.bl
        have hz := (RP1.out.sz k hk HK1.out).2
        have e1 : upd D g (fun _ => 0) k = D k := upd_other _ _ HGK.out
        have own2 := cy.out.own
        rw [e1] at own2 hz
        obtain ⟨r1, r2, r3, r4⟩ := rp2.put (W1 := wr) (M := w1.heap.size) (D' := upd D g (D k)) (l := i) (v := .slice A i cp) hBr hgn HG1.out ⟨rfl, rfl, rfl, Nat.le_refl _, fun _ _ _ => rfl⟩
          (by rw [upd_same]; exact owns_base own2 (by omega)) (.inr fun g2 hg2 => ⟨(own2.lt g2 hg2).1, RP1.out.fo (own2.lt g2 hg2).1⟩) hl4 (fun j hj hj4 => by rw [upd_same]; exact hz j (by rw [← HL.out]; exact hj) hj4) (fun j hj => by rw [upd_other _ _ hj, upd_other _ _ hj])
        exact ⟨_, _, r1, (KR1.out.trans (KR.of_below cy.out.bl) (F' := Fo n (upd C g 1) V1) MO1.out).trans r2 MO1.out, (BL1.out.trans (cy.out.bl.mono (by omega))).trans r3, fun g2 hg2 hf2 => r4 g2 (by omega) (MO1.out g2 hg2 hf2)⟩
      go_wp2_with fail
      go_ret2
      exact ⟨rfl, FIN.out⟩
end Go.Proofs.YtgikfjfinjcfmaaDoor
