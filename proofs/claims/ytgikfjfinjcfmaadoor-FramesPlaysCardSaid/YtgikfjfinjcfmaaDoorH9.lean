import Derived.Test.YtgikfjfinjcfmaaDoorH8
import Derived.Test.YtgikfjfinjcfmaaDoorG7
import Derived.Test.YtgikfjfinjcfmaaDoorG2
namespace Go.Proofs.YtgikfjfinjcfmaaDoor
open Go.RowKit Go.Hos
set_option linter.unusedVariables false
section
variable {w W W' : World} {p c b f q c2 b2 N : Nat} {C C' C2 C2' : Nat → Nat} {D D' D2 D2' : Nat → Nat → Nat} {g : Nat} {cs : Array Value}
theorem JJ.pload (h : Hid (JJ w p c b f q c2 b2 N C D C D g cs W)) (x y z : Int) :
    Calls Tryd.prog 24 #[.pointer (some ⟨p, 0, none⟩), .int .i64 x, .int .i64 y, .int .i64 z] W fun e W' => ∃ A gb, e = .returned (.tuple #[.slice A (ldL C N x y z) (ldL C N x y z), .int .i64 (ldE C N x y z)]) ∧
      Hid (0 < ldL C N x y z → A = some ⟨gb, 0, none⟩) ∧ Hid (LdV W' 0 A (ldL C N x y z) (fun i => D x.toNat (y.toNat + i))) ∧ Hid (JJ w p c b f q c2 b2 N C D C D g cs W') ∧ Hid (JW w p c b f q c2 b2 N C D (ldL C N x y z) gb W') := by
  obtain ⟨Fb, pm⟩ := h.out.pm
  refine (load_any x y z W pm).mono ?_
  rintro e W' ⟨A, rfl, ld, bl⟩
  have hj := h.out.next bl
  obtain ⟨V, L, rp⟩ := h.out.rp
  rcases ld with ⟨rfl, h0⟩ | ⟨gb, rfl, hgb, hr⟩
  · refine ⟨none, 0, rfl, fun h => absurd h (by omega), .inl ⟨rfl, h0⟩, hj, ⟨hj.pm, ?_, hj.ne, hj.bl, fun h => absurd h (by omega)⟩⟩
    obtain ⟨V', L', rp'⟩ := hj.rp
    exact ⟨V', L', rp', fun h => absurd h (by omega)⟩
  · refine ⟨_, gb, rfl, fun _ => rfl, .inr ⟨gb, rfl, Nat.zero_le _, hr⟩, hj, ⟨hj.pm, ⟨V, L, rp.next bl, fun _ => rp.fo hgb⟩, hj.ne, hj.bl, fun _ => ⟨by have := h.out.bl.size; omega, ?_⟩⟩⟩
    obtain ⟨cs', h1, h2, _⟩ := hr
    exact ⟨cs', h1, by omega⟩
theorem JJ.qload (h : Hid (JJ w p c b f q c2 b2 N C D C2 D2 g cs W)) (x y z : Int) :
    Calls Tryd.prog 39 #[.pointer (some ⟨q, 0, none⟩), .int .i64 x, .int .i64 y, .int .i64 z] W fun e W' => ∃ A, e = .returned (.tuple #[.slice A (ldL C2 N x y z) (ldL C2 N x y z), .int .i64 (ldE C2 N x y z)]) ∧
      Hid (LdV W' 0 A (ldL C2 N x y z) (fun i => D2 x.toNat (y.toNat + i))) ∧ Hid (Below W.heap.size W W') := by
  obtain ⟨V, L, rp⟩ := h.out.rp
  refine (rload_any x y z W rp).mono ?_
  rintro e W' ⟨A, rfl, ld, bl⟩
  exact ⟨A, rfl, ld.low (Nat.zero_le _), bl⟩
end
/-- on the way of a Store: the copy of the bytes -/
structure JS (w : World) (p c b f q c2 b2 N : Nat) (C : Nat → Nat) (D : Nat → Nat → Nat) (C2 : Nat → Nat) (D2 : Nat → Nat → Nat) (g : Nat) (cs : Array Value) (A : Option Addr) (m qq : Nat) (bs : List Nat) (W : World) : Prop where
  jj : JJ w p c b f q c2 b2 N C D C2 D2 g cs W
  own : W.ownsRow w.heap.size 5 1 (.slice A m qq) m (u8s bs)
  fo : ∃ V L, RP w.heap.size W q c2 b2 N C2 D2 V L ∧ ∀ gb, (Value.slice A m qq).ownBlock = some gb → Fo N C2 V gb
section
variable {w W W' : World} {p c b f q c2 b2 N : Nat} {C C' C2 C2' : Nat → Nat} {D D' D2 D2' : Nat → Nat → Nat} {g : Nat} {cs : Array Value} {A A' : Option Addr} {m qb qq : Nat} {bs : List Nat}
theorem JJ.twin (h : Hid (JJ w p c b f q c2 b2 N C D C2 D2 g cs W)) (hr : Hid (Reads w w.heap.size 1 A m (u8s bs))) (hm : m ≤ 16384) :
    Calls Tryd.prog 33 #[.slice A m qb] W fun e W' => ∃ A' qq, e = .returned (.slice A' m qq) ∧ Hid (JS w p c b f q c2 b2 N C D C2 D2 g cs A' m qq bs W') := by
  refine (twin_own W (hr.out.below h.out.bl) hm h.out.bl.size).mono ?_
  rintro e W' ⟨A', qq, rfl, own, bl⟩
  obtain ⟨V, L, rp⟩ := h.out.rp
  exact ⟨A', qq, rfl, h.out.next bl, owns_base own h.out.bl.size, V, L, rp.next bl, fun gb hg => rp.fo (own.lt gb hg).1⟩
theorem JS.pstore (h : Hid (JS w p c b f q c2 b2 N C D C2 D2 g cs A' m qq bs W)) (hm : m ≤ 16384) (x y : Int) :
    Calls Tryd.prog 25 #[.pointer (some ⟨p, 0, none⟩), .int .i64 x, .int .i64 y, .slice A' m qq] W fun e W' => e = .returned (.int .i64 (if stB C N x y m then 0 else 1)) ∧ Hid (JS w p c b f q c2 b2 N C (stD C N x y bs D) C2 D2 g cs A' m qq bs W') := by
  obtain ⟨Fb, pm⟩ := h.out.jj.pm
  refine (store_any x y W pm (Reads.of_own h.out.own) (by simp only [maxLen]; omega)).mono ?_
  rintro e W' ⟨rfl, pm2, kf, bl⟩
  obtain ⟨V, L, rp, fo⟩ := h.out.fo
  exact ⟨rfl, h.out.jj.pstep ⟨_, pm2⟩ kf bl, owns_keep h.out.own fun g' cs' hb => kf _ _ _ hb (by decide) (by decide) (by decide) (by decide) (fun e => pm.cc.ne_blk hb (by decide) e.symm), V, L, rp.kf kf (fun e => h.out.jj.ne e.symm) ⟨_, _, pm.cc⟩, fo⟩
theorem JS.qstore (h : Hid (JS w p c b f q c2 b2 N C D C2 D2 g cs A' m qq bs W)) (hr : Hid (Reads w w.heap.size 1 A m (u8s bs))) (hm : m ≤ 16384) (x y : Int) :
    Calls Tryd.prog 40 #[.pointer (some ⟨q, 0, none⟩), .int .i64 x, .int .i64 y, .slice A m qb] W fun e W' => e = .returned (.int .i64 (if stB C2 N x y m then 0 else 1)) ∧ Hid (JS w p c b f q c2 b2 N C D C2 (stD C2 N x y bs D2) g cs A' m qq bs W') := by
  obtain ⟨V, L, rp, fo⟩ := h.out.fo
  refine (rstore_any x y W rp (hr.out.below h.out.jj.bl) h.out.jj.bl.size (by simp only [maxLen]; omega)).mono ?_
  rintro e W' ⟨rfl, rx⟩
  have jj2 := h.out.jj.qstep rp rx
  obtain ⟨V', L', rp', kr, bl, mo⟩ := rx
  exact ⟨rfl, jj2, owns_keep' h.out.own fun g' cs' hg hb => kr _ _ _ hb (by decide) (by decide) (fun e => rp.cc.ne_blk hb (by decide) e.symm) (fun _ => fo g' hg), V', L', rp', fun gb hg => mo gb (h.out.own.lt gb hg).2 (fo gb hg)⟩
theorem JS.next (h : JS w p c b f q c2 b2 N C D C2 D2 g cs A' m qq bs W) (hb : Below W.heap.size W W') : JS w p c b f q c2 b2 N C D C2 D2 g cs A' m qq bs W' := by
  obtain ⟨V, L, rp, fo⟩ := h.fo
  exact ⟨h.jj.next hb, owns_keep h.own fun g' cs' hg => hg.below hb hg.lt, V, L, rp.next hb, fo⟩
theorem JS.jw (h : JS w p c b f q c2 b2 N C D C D g cs A' m qq bs W) : ∃ gb, (0 < m → A' = some ⟨gb, 0, none⟩) ∧ JW w p c b f q c2 b2 N C D m gb W := by
  obtain ⟨V, L, rp, fo⟩ := h.fo
  rcases Nat.eq_zero_or_pos m with rfl | hm
  · exact ⟨0, fun h => absurd h (by omega), h.jj.pm, ⟨V, L, rp, fun h => absurd h (by omega)⟩, h.jj.ne, h.jj.bl, fun h => absurd h (by omega)⟩
  · obtain ⟨m', rfl⟩ : ∃ m', m = m' + 1 := ⟨m - 1, by omega⟩
    obtain ⟨gb, cap, hv, hgb, hlt, hcp⟩ := owns_succ h.own
    obtain ⟨rfl, _, rfl⟩ := Value.slice.inj hv
    refine ⟨gb, fun _ => rfl, h.jj.pm, ⟨V, L, rp, fun _ => fo gb rfl⟩, h.jj.ne, h.jj.bl, fun _ => ⟨hgb, ?_⟩⟩
    rcases h.own.2 with ⟨e, _⟩ | ⟨g2, cap2, cur, e, _, hb, hc2, _, hsz, _⟩
    · cases e
    · obtain ⟨e1, _, e3⟩ := Value.slice.inj e
      injection e1 with e1
      injection e1 with e1
      subst e1
      exact ⟨cur, hb, by omega⟩
end
theorem takeC_b {C : Nat → Nat} {N i : Nat} (h : ∀ k, C k ≤ i) (k : Nat) : takeC C N k ≤ i + 1 := takeC_le h k
theorem upC_b {C : Nat → Nat} {N i : Nat} {x : Int} (h : ∀ k, C k ≤ i) (k : Nat) : upC C N x k ≤ i + 1 := by
  unfold upC
  have := h k
  split
  · unfold upd; split
    · have := h x.toNat; omega
    · omega
  · omega
theorem dnC_b {C : Nat → Nat} {N i : Nat} {x : Int} (h : ∀ k, C k ≤ i) (k : Nat) : dnC C N x k ≤ i + 1 := by
  unfold dnC
  have := h k
  split
  · unfold upd; split
    · have := h x.toNat; omega
    · omega
  · omega
theorem cpC_b {C : Nat → Nat} {N i : Nat} {x : Int} (h : ∀ k, C k ≤ i) (k : Nat) : cpC C N x k ≤ i + 1 := by
  unfold cpC
  split
  · exact takeC_le h k
  · have := h k; omega
/-- both pools behind i calls -/
def JI (w : World) (p c b f q c2 b2 N i : Nat) (W : World) : Prop := ∃ C D, J w p c b f q c2 b2 N C D W ∧ ∀ k, C k ≤ i
theorem ldL_le (C : Nat → Nat) (n : Nat) (x y z : Int) : ldL C n x y z ≤ 4096 := by
  unfold ldL
  split
  · rename_i h
    simp [ldB] at h
    omega
  · omega
set_option maxRecDepth 20000 in
set_option maxHeartbeats 4000000 in
theorem does_any {w W : World} {p c b f q c2 b2 N i : Nat} {k x y z : Int} {A : Option Addr} {m qb : Nat} {bs : List Nat} (h : Hid (JI w p c b f q c2 b2 N i W)) (hi : i ≤ 1000) (ht : Hid (TB w)) (h0 : 0 < w.heap.size) (hr : Hid (Reads w w.heap.size 1 A m (u8s bs))) (hm : m ≤ 16384) :
    Calls Tryd.prog 22 #[.pointer (some ⟨p, 0, none⟩), .pointer (some ⟨q, 0, none⟩), .agg #[.int .i64 k, .int .i64 x, .int .i64 y, .int .i64 z, .slice A m qb]] W fun e W' => e = .returned (.bool true) ∧ Hid (JI w p c b f q c2 b2 N (i + 1) W') := by
  obtain ⟨C, D, hj, hC⟩ := h.out
  have HC := Lib.hid hC
  have J0 : Hid (JJ w p c b f q c2 b2 N C D C D W.heap.size #[.int .i64 k, .int .i64 x, .int .i64 y, .int .i64 z, .slice A m qb] (W.alloc (.cells #[.int .i64 k, .int .i64 x, .int .i64 y, .int .i64 z, .slice A m qb] 44))) := JJ.of hj
  have hC2 : Hid (∀ k, C k < 4611686018427387904) := fun k => by have := HC.out k; omega
  clear hj hC h
  by_cases k0 : k = 0
  · subst k0
    go_enter Tryd.func22, Tryd.ntmps22
    go_wp2_with fail
    refine (JJ.ptake J0 ht h0).mono ?_
    rintro e w1 ⟨rfl, J1⟩
    go_wp2_with fail
    refine (JJ.qtake J1).mono ?_
    rintro e w2 ⟨rfl, J2⟩
    have FIN : Hid (JI w p c b f q c2 b2 N (i + 1) w2) := ⟨_, _, J2.out.done, takeC_b HC.out⟩
    obtain ⟨t1, ht1⟩ : ∃ t1, t1 = takeN C N := ⟨_, rfl⟩
    obtain ⟨t2, ht2⟩ : ∃ t2, t2 = takeE C N := ⟨_, rfl⟩
    rw [← ht1, ← ht2]
    clear ht1 ht2
    have b1 : (t1 == t1) = true := by simp
    have b2 : (t2 == t2) = true := by simp
    go_wp2_with fail
    go_ret
    exact ⟨rfl, FIN⟩
  by_cases k1 : k = 1
  · subst k1
    clear k0
    obtain ⟨_, j1, j2, j3, j4⟩ := JJ.cells J0
    go_enter Tryd.func22, Tryd.ntmps22
    go_wp2_with fail
    refine (JJ.pup J0 hC2 x).mono ?_
    rintro e w1 ⟨rfl, J1⟩
    obtain ⟨_, j1', _, _, _⟩ := JJ.cells J1
    clear j1 j2 j3 j4
    go_wp2_with fail
    refine (JJ.qup J1 hC2 x).mono ?_
    rintro e w2 ⟨rfl, J2⟩
    have FIN : Hid (JI w p c b f q c2 b2 N (i + 1) w2) := ⟨_, _, J2.out.done, upC_b HC.out⟩
    obtain ⟨t1, ht1⟩ : ∃ t1, t1 = erA C N x := ⟨_, rfl⟩
    rw [← ht1]
    clear ht1
    have b1 : (t1 == t1) = true := by simp
    go_wp2_with fail
    go_ret
    exact ⟨rfl, FIN⟩
  by_cases k2 : k = 2
  · subst k2
    clear k0 k1
    obtain ⟨_, j1, j2, j3, j4⟩ := JJ.cells J0
    go_enter Tryd.func22, Tryd.ntmps22
    go_wp2_with fail
    refine (JJ.pdown J0 hC2 x).mono ?_
    rintro e w1 ⟨rfl, J1⟩
    obtain ⟨_, j1', _, _, _⟩ := JJ.cells J1
    clear j1 j2 j3 j4
    go_wp2_with fail
    refine (JJ.qdown J1 hC2 x).mono ?_
    rintro e w2 ⟨rfl, J2⟩
    have FIN : Hid (JI w p c b f q c2 b2 N (i + 1) w2) := ⟨_, _, J2.out.done, dnC_b HC.out⟩
    obtain ⟨t1, ht1⟩ : ∃ t1, t1 = erA C N x := ⟨_, rfl⟩
    rw [← ht1]
    clear ht1
    have b1 : (t1 == t1) = true := by simp
    go_wp2_with fail
    go_ret
    exact ⟨rfl, FIN⟩
  by_cases k5 : k = 5
  · subst k5
    clear k0 k1 k2
    obtain ⟨_, j1, j2, j3, j4⟩ := JJ.cells J0
    go_enter Tryd.func22, Tryd.ntmps22
    go_wp2_with fail
    refine (JJ.pcopy J0 ht h0 x).mono ?_
    rintro e w1 ⟨rfl, J1⟩
    obtain ⟨_, j1', _, _, _⟩ := JJ.cells J1
    clear j1 j2 j3 j4
    go_wp2_with fail
    refine (JJ.qcopy J1 x).mono ?_
    rintro e w2 ⟨rfl, J2⟩
    have FIN : Hid (JI w p c b f q c2 b2 N (i + 1) w2) := ⟨_, _, J2.out.done, cpC_b HC.out⟩
    obtain ⟨t1, ht1⟩ : ∃ t1, t1 = cpN C N x := ⟨_, rfl⟩
    obtain ⟨t2, ht2⟩ : ∃ t2, t2 = cpE C N x := ⟨_, rfl⟩
    rw [← ht1, ← ht2]
    clear ht1 ht2
    have b1 : (t1 == t1) = true := by simp
    have b2 : (t2 == t2) = true := by simp
    go_wp2_with fail
    go_ret
    exact ⟨rfl, FIN⟩
  by_cases k3 : k = 3
  · subst k3
    clear k0 k1 k2 k5
    obtain ⟨_, j1, j2, j3, j4⟩ := JJ.cells J0
    go_enter Tryd.func22, Tryd.ntmps22
    go_wp2_with fail
    refine (JJ.pload J0 x y z).mono ?_
    have hl4 := ldL_le C N x y z
    obtain ⟨l, hl⟩ : ∃ l, l = ldL C N x y z := ⟨_, rfl⟩
    obtain ⟨t1, ht1⟩ : ∃ t1, t1 = ldE C N x y z := ⟨_, rfl⟩
    have HL := Lib.hid hl; have HT1 := Lib.hid ht1
    rw [← hl] at hl4
    rw [← hl, ← ht1]
    rintro e w1 ⟨A1, gb, rfl, hA, ld, J1, jw⟩
    obtain ⟨_, j1', j2', j3', _⟩ := JJ.cells J1
    clear j1 j2 j3 j4 hl ht1
    go_wp2_with fail
    refine (JJ.qload J1 x y z).mono ?_
    rw [← HL.out, ← HT1.out]
    rintro e w2 ⟨A2, rfl, ld2, bl2⟩
    have jw2 := Lib.hid (jw.out.next bl2.out)
    have ld3 := Lib.hid (ld.out.below (B := 0) bl2.out)
    clear jw ld j1' j2' j3'
    go_wp2_with fail
    refine (same_any _ ld3.out.reads ld2.out.reads (by omega) (by omega)).mono ?_
    rw [decide_eq_true rfl]
    rintro e w3 ⟨rfl, bl3⟩
    have jw3 := Lib.hid (jw2.out.next bl3)
    have b1 : (t1 == t1) = true := by simp
    clear jw2 bl3 ld3 ld2 bl2 J1 J0
    go_wp2_with fail
    go_loopw [18] (fun v18 wr => ∃ j : Nat, j ≤ l ∧ v18 = .int .i64 j ∧ Hid (JW w p c b f q c2 b2 N C D l gb wr)) (fun v18 _ => l - (intOf v18).toNat)
    case atStart => exact ⟨0, by omega, rfl, jw3⟩
    case round =>
      obtain ⟨j, hjl, rfl, jw4⟩ := hrel
      by_cases hj : j < l
      · have d1 : decide ((j : Int) < (l : Int)) = true := by simp; omega
        have hA2 := hA.out (by omega)
        subst hA2
        obtain ⟨⟨yv, hyv⟩, hf⟩ := jw4.out.cell hj
        have jw5 := Lib.hid (jw4.out.set hj (.int .u8 238))
        go_wp2_with fail
        go_roundw
        case rel => exact ⟨j + 1, by omega, by go_num, jw5⟩
        case measure => simp [intOf]; omega
      · obtain rfl : j = l := by omega
        have FIN : Hid (JI w p c b f q c2 b2 N (i + 1) wr) := ⟨_, _, jw4.out.done, fun k => by have := HC.out k; omega⟩
        go_wp2_with fail
        go_ret
        exact ⟨rfl, FIN⟩
  by_cases k4 : k = 4
  · subst k4
    clear k0 k1 k2 k5 k3
    obtain ⟨_, j1, j2, j3, j4⟩ := JJ.cells J0
    go_enter Tryd.func22, Tryd.ntmps22
    go_wp2_with fail
    refine (JJ.twin J0 hr hm).mono ?_
    rintro e w1 ⟨A', qq, rfl, js⟩
    obtain ⟨_, j1', j2', j3', j4'⟩ := JJ.cells (Lib.hid js.out.jj)
    clear j1 j2 j3 j4
    go_wp2_with fail
    refine (JS.pstore js hm x y).mono ?_
    obtain ⟨t1, ht1⟩ : ∃ t1 : Int, t1 = (if stB C N x y m then 0 else 1) := ⟨_, rfl⟩
    have HT1 := Lib.hid ht1
    rw [← ht1]
    rintro e w2 ⟨rfl, js2⟩
    obtain ⟨_, k1', k2', k3', k4'⟩ := JJ.cells (Lib.hid js2.out.jj)
    clear j1' j2' j3' j4' ht1 js
    go_wp2_with fail
    refine (JS.qstore js2 hr hm x y).mono ?_
    rw [← HT1.out]
    rintro e w3 ⟨rfl, js3⟩
    obtain ⟨_, l1', l2', l3', l4'⟩ := JJ.cells (Lib.hid js3.out.jj)
    clear k1' k2' k3' k4' js2
    have R1 := Lib.hid (Reads.of_own js3.out.own)
    have R2 := Lib.hid (hr.out.below js3.out.jj.bl)
    have b1 : (t1 == t1) = true := by simp
    go_wp2_with fail
    refine (same_any _ R1.out R2.out (by omega) (by omega)).mono ?_
    rw [decide_eq_true rfl]
    rintro e w4 ⟨rfl, bl4⟩
    have js4 := Lib.hid (js3.out.next bl4)
    obtain ⟨gb, hA0, jw0⟩ := js4.out.jw
    have hA := Lib.hid hA0; have jw3 := Lib.hid jw0
    clear bl4 js3 js4 R1 R2 l1' l2' l3' l4' hA0 jw0 J0
    go_wp2_with fail
    go_loopw [23] (fun v23 wr => ∃ j : Nat, j ≤ m ∧ v23 = .int .i64 j ∧ Hid (JW w p c b f q c2 b2 N C (stD C N x y bs D) m gb wr)) (fun v23 _ => m - (intOf v23).toNat)
    case atStart => exact ⟨0, by omega, rfl, jw3⟩
    case round =>
      obtain ⟨j, hjl, rfl, jw4⟩ := hrel
      by_cases hj : j < m
      · have d1 : decide ((j : Int) < (m : Int)) = true := by simp; omega
        have hA2 := hA.out (by omega)
        subst hA2
        obtain ⟨⟨yv, hyv⟩, hf⟩ := jw4.out.cell hj
        have jw5 := Lib.hid (jw4.out.set hj (.int .u8 237))
        go_wp2_with fail
        go_roundw
        case rel => exact ⟨j + 1, by omega, by go_num, jw5⟩
        case measure => simp [intOf]; omega
      · obtain rfl : j = m := by omega
        have FIN : Hid (JI w p c b f q c2 b2 N (i + 1) wr) := ⟨_, _, jw4.out.done, fun k => by have := HC.out k; omega⟩
        go_wp2_with fail
        go_ret
        exact ⟨rfl, FIN⟩
  · have e0 : (k == 0) = false := by simpa using k0
    have e1 : (k == 1) = false := by simpa using k1
    have e2 : (k == 2) = false := by simpa using k2
    have e3 : (k == 3) = false := by simpa using k3
    have e4 : (k == 4) = false := by simpa using k4
    have e5 : (k == 5) = false := by simpa using k5
    have FIN : Hid (JI w p c b f q c2 b2 N (i + 1) (W.alloc (.cells #[.int .i64 k, .int .i64 x, .int .i64 y, .int .i64 z, .slice A m qb] 44))) := ⟨_, _, J0.out.done, fun k => by have := HC.out k; omega⟩
    go_enter Tryd.func22, Tryd.ntmps22
    go_wp2_with fail
    go_ret
    exact ⟨rfl, FIN⟩
end Go.Proofs.YtgikfjfinjcfmaaDoor
