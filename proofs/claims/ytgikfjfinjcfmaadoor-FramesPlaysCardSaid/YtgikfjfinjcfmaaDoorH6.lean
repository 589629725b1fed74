import Derived.Test.YtgikfjfinjcfmaaDoorH5
import Derived.StillTailTactics
import Derived.Deep.RegionLaw
namespace Go.Proofs.YtgikfjfinjcfmaaDoor
open Go.RowKit Go.Hos
set_option linter.unusedVariables false
set_option linter.unusedSimpArgs false
theorem RXL.poke {B : Nat} {w W : World} {q c b n k s x gb i o m qq : Nat} {C : Nat → Nat} {V V' : Nat → Value} {L' : Nat → Nat} {D : Nat → Nat → Nat} {bs : List Nat} (rp : Hid (RP B W q c b n C (upd D k (ov (D k) o (bs.take i))) V' L')) (kr : Hid (KR c (Fo n C V) w W)) (bl : Hid (Below B w W)) (mo : Hid (∀ g, g < w.heap.size → Fo n C V g → Fo n C V' g)) (hs : Hid (o + m ≤ L' k))
    (hk : k < n) (hc : Hid (0 < C k)) (hV : Hid (V' k = .slice (some ⟨gb, 0, none⟩) (L' k) qq)) (hsi : s = o + i) (him : i < m) (hx : Hid (bs[i]? = some x)) :
    Hid (RXL B w (W.setCell ⟨gb, s, none⟩ (.int .u8 (x : Int))) q c b n C V (upd D k (ov (D k) o (bs.take (i + 1)))) k (o + m)) := by
  obtain ⟨r1, r2, r3⟩ := rp.out.poke (x := x) hk hc.out hV.out (s := s) (by have := hs.out; omega)
  have hi : i < bs.length := by
    rcases Nat.lt_or_ge i bs.length with h | h
    · exact h
    · have := hx.out; rw [List.getElem?_eq_none h] at this; cases this
  have hx' : bs[i]'hi = x := by have := hx.out; rw [List.getElem?_eq_getElem hi] at this; exact Option.some.inj this
  rw [upd_upd, upd_same, hsi, ← hx', ov_take hi, hx', ← hsi] at r1
  exact ⟨V', L', r1, kr.out.trans r2 mo.out, bl.out.trans r3, mo.out, hs.out⟩
theorem RXL.drew {B : Nat} {w W : World} {q c b n k s : Nat} {C : Nat → Nat} {V : Nat → Value} {D' : Nat → Nat → Nat} (h : Hid (RXL B w W q c b n C V D' k s)) : Hid (RXL B w W.drew q c b n C V D' k s) := by
  obtain ⟨V', L', r, k1, b1, m1, s1⟩ := h.out
  have hd : Below W.heap.size W W.drew := (Below.refl _ _).drew
  exact ⟨V', L', r.next hd, k1.trans (KR.of_below hd) (F' := Fo n C V') m1, b1.drew, m1, s1⟩
theorem RXL.push' {B : Nat} {w W W3 : World} {q c b n k l qq c3 : Nat} {C : Nat → Nat} {V V' : Nat → Value} {L' : Nat → Nat} {D : Nat → Nat → Nat} {A A3 : Option Addr} {o : Obj} (rp : Hid (RP B W q c b n C D V' L')) (kr : Hid (KR c (Fo n C V) w W)) (bl : Hid (Below B w W)) (mo : Hid (∀ g, g < w.heap.size → Fo n C V g → Fo n C V' g)) (hB : B ≤ w.heap.size)
    (hk : k < n) (hc : Hid (0 < C k)) (hV : Hid (V' k = .slice A l qq)) (hl : Hid (l = L' k)) (hl4 : l < 4096) (hg : (W.drew.alloc o).grownBy W3 (Value.slice A l qq).ownBlock) (ho : W3.ownsRow B 5 1 (.slice A3 (l + 1) c3) (l + 1) (u8s (bsF l (D k)) ++ [.int .u8 0])) (hat : (Value.slice A3 (l + 1) c3).ownBlock = (Value.slice A l qq).ownBlock ∨ (Value.slice A3 (l + 1) c3).ownBlock = some (W.drew.alloc o).heap.size) :
    Hid (RXL B w (W3.setCell ⟨b, k, none⟩ (.slice A3 (l + 1) c3)) q c b n C V D k 0) ∧ lenAt (W3.setCell ⟨b, k, none⟩ (.slice A3 (l + 1) c3)) b k = l + 1 := by
  have hd : Below W.heap.size W W.drew := (Below.refl _ _).drew
  rw [← hV.out] at hg hat
  exact RXL.push (W := W.drew) (rp := Lib.hid (rp.out.next hd)) (Lib.hid (kr.out.trans (KR.of_below hd) (F' := Fo n C V') mo.out)) (Lib.hid bl.out.drew) mo hB hk hc hl hl4 hg ho hat
theorem stage4 {B : Nat} {W W3 : World} {q c b n k l qq : Nat} {C : Nat → Nat} {V' : Nat → Value} {L' : Nat → Nat} {D : Nat → Nat → Nat} {A : Option Addr} {o : Obj} (rp : Hid (RP B W q c b n C D V' L')) (hV : Hid (V' k = .slice A l qq)) (hk : k < n) (hc : Hid (0 < C k)) (lq : q < W.heap.size) (lb : b < W.heap.size)
    (kq : W.cell? ⟨q, 1, none⟩ = some (.slice (some ⟨b, 0, none⟩) n n)) (kb : W.cell? ⟨b, k, none⟩ = some (.slice A l qq)) (fb : W.frozen? ⟨b, k, none⟩ = false) (hg : (W.drew.alloc o).grownBy W3 (Value.slice A l qq).ownBlock) :
    W3.cell? ⟨q, 1, none⟩ = some (.slice (some ⟨b, 0, none⟩) n n) ∧ W3.cell? ⟨b, k, none⟩ = some (.slice A l qq) ∧ W3.frozen? ⟨b, k, none⟩ = false := by
  have ha : Below W.heap.size W (W.drew.alloc o) := ((Below.refl _ _).drew).alloc (Nat.le_refl _) _
  have rp2 := rp.out.next ha
  have keep : ∀ g t cs, Blk (W.drew.alloc o) g t cs → t ≠ 5 → Blk W3 g t cs := fun g t cs hb h5 => hb.grown hg fun e => by
    rw [← hV.out] at e
    obtain ⟨cs', hb'⟩ := owns_blk (rp2.ow k hk hc.out) e.symm
    exact h5 (by unfold Blk at hb hb'; rw [hb] at hb'; injection hb' with hb'; injection hb' with _ e)
  have h1 := keep _ _ _ rp2.hd (by decide)
  have h2 : Row W3 b 42 n V' := rp2.bb.keep fun cs hb => keep _ _ _ hb (by decide)
  exact ⟨(h1.cell 1).trans rfl, by rw [h2.get hk, hV.out], h2.free k⟩
set_option maxRecDepth 20000 in
set_option maxHeartbeats 1600000 in
theorem rstore_yes {B : Nat} {q c b n k o m qb : Nat} {C : Nat → Nat} {D : Nat → Nat → Nat} {V : Nat → Value} {L : Nat → Nat} {A : Option Addr} {bs : List Nat} (w : World) (h : RP B w q c b n C D V L) (hr : Reads w B 1 A m (u8s bs)) (hB : B ≤ w.heap.size) (hk : k < n) (hc : 0 < C k) (hom : o + m ≤ 4096) :
    Calls Tryd.prog 40 #[.pointer (some ⟨q, 0, none⟩), .int .i64 k, .int .i64 o, .slice A m qb] w fun e w' => e = .returned (.int .i64 0) ∧ RX B w w' q c b n C V C (upd D k (ov (D k) o bs)) := by
  have hn := h.nn
  have H := Lib.hid h
  have HX : Hid (tkB C n k = true) := tkB_of hk hc
  have HC := Lib.hid hc
  have HR := Lib.hid hr
  have hbm : Hid (bs.length = m) := by have := hr.1; rw [u8s_len] at this; exact Lib.hid (by omega)
  have b1 : (0 : Int) ≤ (k : Int) := by omega
  have b2 : (k : Int) < (n : Int) := by omega
  have b3 : ¬ (o : Int) < 0 := by omega
  have b4 : ¬ (4096 : Int) < (o : Int) := by omega
  have b5 : ¬ (4096 : Int) - (o : Int) < (m : Int) := by omega
  obtain ⟨s, hs⟩ : ∃ s, s = o + m := ⟨_, rfl⟩
  have hsi : (o : Int) + (m : Int) = (s : Int) := by omega
  have hsw : IntKind.i64.wrap (s : Int) = (s : Int) := IntWalk.i64_in _ (by omega)
  have hs4 : s ≤ 4096 := by omega
  have HS := Lib.hid hs
  have X0 : Hid (RXL B w w q c b n C V D k 0) := ⟨V, L, h, KR.refl _ _ _, Below.refl _ _, fun _ _ h => h, Nat.zero_le _⟩
  obtain ⟨i0, hi0, hz0, hz1, hz2⟩ := info_parts info5'
  clear h hc hr hs
  go_enter Tryd.func40, Tryd.ntmps40
  go_wp2_with fail
  refine (rtaken_any k _ H.out).mono ?_
  rw [HX.out]
  rintro e w' ⟨rfl, rfl⟩
  go_wp2_with fail
  go_loopw [31] (fun v31 wr => Hid (RXL B w wr q c b n C V D k 0)) (fun v31 wr => s - lenAt wr b k)
  case atStart => exact X0
  case round =>
    have hx0 := hrel
    obtain ⟨V', L', rp0, kr0, bl0, mo0, _⟩ := hx0.out
    have rp := Lib.hid rp0; have kr := Lib.hid kr0; have bl := Lib.hid bl0; have mo := Lib.hid mo0
    have kq := rp0.head.2
    have lq := rp0.hd.lt
    have lb := rp0.bb.lt
    have ho := rp0.ow k hk HC.out
    have hbk := rp0.bb.get hk
    have fbk := rp0.bb.free k
    clear hrel hx0 rp0 kr0 bl0 mo0
    obtain ⟨l, hl⟩ : ∃ l, l = L' k := ⟨_, rfl⟩
    rw [← hl] at ho
    have HL := Lib.hid hl
    clear hl
    obtain ⟨A2, q2, hV⟩ := ownsRow_val ho
    rw [hV] at ho hbk
    have HO := Lib.hid ho
    have HV := Lib.hid hV
    have hla : Hid (lenAt wr b k = l) := by show lenAt wr b k = l; unfold lenAt; rw [hbk]
    clear ho hV
    by_cases hls : l < s
    · have d1 : decide ((l : Int) < (s : Int)) = true := by simp; omega
      have kqd := drewc kq
      have hbkd := drewc hbk
      clear kqd hbkd
      have HOA : Hid ((wr.drew.alloc (.cells #[.int .u8 0] 5)).ownsRow B 5 1 (.slice A2 l q2) l (u8s (bsF l (D k)))) := Lib.hid (World.ownsRow.alloc (w := wr.drew) HO.out _)
      have RN : Hid (Reads (wr.drew.alloc (.cells #[.int .u8 0] 5)) (wr.heap.size + 1) 1 (some ⟨wr.heap.size, 0, none⟩) 1 [.int .u8 0]) := Lib.hid (reads_new wr.drew 5 1 1 [.int .u8 0] rfl rfl)
      have hBr : B ≤ wr.heap.size := by have := bl.out.size; omega
      go_wp2_with fail
      go_region_law ((refine step_append_any _ rfl (.tmp 55) (.tmp 56) 42 rfl B 5 i0 (.int .u8 0) 1 1 Tryd.underlying42 hi0 hz0 hz1 hz2 rfl (by omega) (.slice A2 l q2) l (u8s (bsF l (D k))) (by simp [Act.eval, Act.put]) HOA.out (wr.heap.size + 1) (some ⟨wr.heap.size, 0, none⟩) 1 1 [.int .u8 0] (by simp [Act.eval, Act.put]) RN.out (by simp [Value.oneCell']) (by simp only [maxLen]; omega) (by omega) (by simp; omega) ?_); intro v' w3 hown hg hat; obtain ⟨A3, c3, rfl⟩ := ownsRow_val hown; have st := stage4 rp HV hk HC lq lb kq hbk fbk hg; have kq3 := st.1; have kb3 := st.2.1; have fb3 := st.2.2; have fin := RXL.push' rp kr bl mo hB hk HC HV HL (by omega) hg hown hat; have f1 := fin.1; have f2 := Lib.hid fin.2; clear st fin hown hg hat)
      all_goals
        go_wp2_with fail
        go_roundw
        case rel => exact f1
        case measure => rw [hla.out, f2.out]; omega
    · have d1 : decide ((l : Int) < (s : Int)) = false := by simp; omega
      have Y0 : Hid (RXL B w wr q c b n C V (upd D k (ov (D k) o (bs.take 0))) k (o + m)) := by
        refine ⟨V', L', ?_, kr.out, bl.out, mo.out, by have := HS.out; have := HL.out; omega⟩
        rw [List.take_zero, ov_nil, upd_self]
        exact rp.out
      clear hla HO HV HL rp kr bl mo fbk lq lb
      go_wp2_with fail
      clear hbk kq d1 hls
      go_loopw [9] (fun v9 wr => ∃ i : Nat, i ≤ m ∧ v9 = .int .i64 i ∧ Hid (RXL B w wr q c b n C V (upd D k (ov (D k) o (bs.take i))) k (o + m))) (fun v9 _ => m - (intOf v9).toNat)
      case atStart => exact ⟨0, by omega, rfl, Y0⟩
      case round =>
        obtain ⟨i, hi, rfl, hx0⟩ := hrel
        by_cases him : i < m
        · have d1 : decide ((i : Int) < (m : Int)) = true := by simp; omega
          obtain ⟨V', L', rp0, kr0, bl0, mo0, sl0⟩ := hx0.out
          have rp := Lib.hid rp0; have kr := Lib.hid kr0; have bl := Lib.hid bl0; have mo := Lib.hid mo0; have sl := Lib.hid sl0
          have kq := rp0.head.2
          have ho := rp0.ow k hk HC.out
          have hbk := rp0.bb.get hk
          obtain ⟨l, hl⟩ : ∃ l, l + 1 = L' k := ⟨L' k - 1, by omega⟩
          rw [← hl] at ho
          obtain ⟨gb, q2, hV, _, hgb, hcp⟩ := owns_succ ho
          rw [hV] at ho hbk
          obtain ⟨s2, hs2⟩ : ∃ s2, s2 = o + i := ⟨_, rfl⟩
          have hsl : s2 < l + 1 := by omega
          have hsi2 : (o : Int) + (i : Int) = (s2 : Int) := by omega
          have hsw2 : IntKind.i64.wrap (s2 : Int) = (s2 : Int) := IntWalk.i64_in _ (by omega)
          have cs := ho.cellAt s2 (by omega)
          rw [u8s_bsF_at hsl] at cs
          obtain ⟨y, hy⟩ : ∃ y, wr.cell? ⟨gb, s2, none⟩ = some y := ⟨_, cs⟩
          have hf : wr.frozen? ⟨gb, s2, none⟩ = false := ho.frozenAt s2
          obtain ⟨ad, x, rfl, hadb, hcx, hx⟩ := u8s_get (HR.out.below bl0) him
          have HVV : Hid (V' k = .slice (some ⟨gb, 0, none⟩) (L' k) q2) := Lib.hid (by rw [hV, hl])
          have fin := RXL.poke rp kr bl mo sl hk HC HVV hs2 him hx
          obtain ⟨l1, hl1⟩ : ∃ l1, l1 = l + 1 := ⟨_, rfl⟩
          rw [← hl1] at hbk hsl hcp
          clear hx0 rp0 kr0 bl0 mo0 sl0 ho hV cs hs2 rp kr bl mo sl HVV hx hl hl1
          have kqd := drewc kq
          have hbkd := drewc hbk
          have hcxd := drewc hcx
          go_wp2_with fail
          go_still_tail 15, (by kernel_rfl)
          change wpList _ _ _ _ _ wr.drew
          clear kqd hbkd hcxd
          go_wp2_with fail
          go_roundw
          case rel => exact ⟨i + 1, by omega, by go_num, RXL.drew fin⟩
          case measure => simp [intOf]; omega
        · obtain rfl : i = m := by omega
          have FIN : Hid (RX B w wr q c b n C V C (upd D k (ov (D k) o bs))) := by
            obtain ⟨V', L', rp0, kr0, bl0, mo0, sl0⟩ := hx0.out
            rw [List.take_of_length_le (by have := hbm.out; omega)] at rp0
            exact ⟨V', L', rp0, kr0, bl0, mo0⟩
          go_wp2_with fail
          go_ret
          exact ⟨rfl, FIN.out⟩
end Go.Proofs.YtgikfjfinjcfmaaDoor
