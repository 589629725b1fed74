import Derived.Test.YtgikfjfinjcfmaaDoorH7
namespace Go.Proofs.YtgikfjfinjcfmaaDoor
open Go.RowKit Go.Hos
set_option linter.unusedVariables false
/-- Copy of the document's pool -/
theorem rcopy_any {B : Nat} {q c b n : Nat} {C : Nat → Nat} {D : Nat → Nat → Nat} {V : Nat → Value} {L : Nat → Nat} (x : Int) (w : World) (h : RP B w q c b n C D V L) (hB : B ≤ w.heap.size) :
    Calls Tryd.prog 41 #[.pointer (some ⟨q, 0, none⟩), .int .i64 x] w fun e w' => e = .returned (.tuple #[.int .i64 (cpN C n x), .int .i64 (cpE C n x)]) ∧ RX B w w' q c b n C V (cpC C n x) (cpD C n x D) := by
  cases hx : tkB C n x
  · rw [cpN, cpE, cpC, cpD, hx]
    have H := Lib.hid h
    have HX := Lib.hid hx
    clear h hx
    go_enter Tryd.func41, Tryd.ntmps41
    go_wp2_with fail
    refine (rtaken_any x _ H.out).mono ?_
    rw [HX.out]
    rintro e w' ⟨rfl, rfl⟩
    go_wp2_with fail
    go_ret2
    exact ⟨rfl, by simpa using RX.refl H.out⟩
  · have hx' := hx
    obtain ⟨k, rfl, hk, hc⟩ := tkB_yes hx
    by_cases hf : tf C n < n
    · rw [cpN, cpE, cpC, cpD, hx', if_pos rfl, if_pos rfl, if_pos rfl, if_pos ⟨rfl, hf⟩, takeN, takeE, takeC, if_pos hf, if_pos hf, if_pos hf, Int.toNat_natCast]
      exact rcopy_yes w h hB hk hc hf
    · have E : Hid (takeN C n = 0 ∧ takeE C n = 4 ∧ takeC C n = C ∧ takeD C n D = D) := by
        show _ ∧ _
        unfold takeN takeE takeC takeD
        rw [if_neg hf, if_neg hf, if_neg hf, if_neg hf]
        exact ⟨rfl, rfl, rfl, rfl⟩
      rw [cpN, cpE, cpC, cpD, hx', if_pos rfl, if_pos rfl, if_pos rfl, if_neg (fun h => hf h.2), E.out.1, E.out.2.1, E.out.2.2.1]
      have H := Lib.hid h
      have HX := Lib.hid hx'
      clear h hx hx' hf hc
      go_enter Tryd.func41, Tryd.ntmps41
      go_wp2_with fail
      refine (rtaken_any k _ H.out).mono ?_
      rw [HX.out]
      rintro e w' ⟨rfl, rfl⟩
      go_wp2_with fail
      refine (rtake_any _ H.out).mono ?_
      rw [E.out.1, E.out.2.1, E.out.2.2.1, E.out.2.2.2]
      rintro e w1 ⟨rfl, rx⟩
      have RXH := Lib.hid rx
      clear rx
      go_wp2_with fail
      go_ret2
      exact ⟨rfl, RXH.out⟩
set_option maxHeartbeats 800000 in
theorem twin_own {B m q : Nat} {A : Option Addr} {bs : List Nat} (w : World) (hr : Reads w B 1 A m (u8s bs)) (hm : m ≤ 16384) (hB : B ≤ w.heap.size) :
    Calls Tryd.prog 33 #[.slice A m q] w fun e w' => ∃ A' q', e = .returned (.slice A' m q') ∧ w'.ownsRow w.heap.size 5 1 (.slice A' m q') m (u8s bs) ∧ Below w.heap.size w w' := by
  have HR := Lib.hid hr
  obtain ⟨i0, hi0, hz0, hz1, hz2⟩ := info_parts info5'
  clear hr
  go_enter Tryd.func33, Tryd.ntmps33
  go_wp2_with (at_builtin
               refine wpList_append_any _ rfl (.tmp 3) (.tmp 4) _ rfl w.heap.size 5 i0 _ 1 1 Tryd.underlying42 hi0 hz0 hz1 hz2 rfl (by omega) (.slice (some ⟨w.heap.size, 0, none⟩) 0 0) 0 [] rfl
                 (owns_empty w 5 1 (Nat.le_refl _)) B A m q (u8s bs) rfl (HR.out.alloc hB _) (u8s_one bs) (by simp only [maxLen]; omega) (by omega) (by simp) ?_
               intro v1 w1 hown hg hat
               simp only [Nat.zero_add, List.nil_append] at hown
               obtain ⟨A1, c1, rfl⟩ := ownsRow_val hown
               have R1 : Hid (w1.ownsRow w.heap.size 5 1 (.slice A1 m c1) m (u8s bs) ∧ Below w.heap.size w w1) := by
                 refine ⟨hown, ?_⟩
                 refine ((Below.refl _ _).alloc (Nat.le_refl _) _).trans (below_own hg (by simp) ?_)
                 intro k hk
                 have : w.heap.size = k := by simpa [Value.ownBlock] using hk
                 omega
               clear hown hg hat)
  go_ret
  exact ⟨A1, c1, rfl, R1.out.1, R1.out.2⟩
/-- both pools, each for itself, and the call in hand -/
structure JJ (w : World) (p c b f q c2 b2 N : Nat) (C : Nat → Nat) (D : Nat → Nat → Nat) (C2 : Nat → Nat) (D2 : Nat → Nat → Nat) (g : Nat) (cs : Array Value) (W : World) : Prop where
  pm : ∃ Fb, PM w.heap.size W p c b f N C Fb D
  rp : ∃ V L, RP w.heap.size W q c2 b2 N C2 D2 V L
  ne : c ≠ c2
  bl : Below w.heap.size w W
  bo : Blk W g 44 cs
section
variable {w W W' : World} {p c b f q c2 b2 N : Nat} {C C' C2 C2' : Nat → Nat} {D D' D2 D2' : Nat → Nat → Nat} {g : Nat} {cs : Array Value}
theorem JJ.pstep (h : JJ w p c b f q c2 b2 N C D C2 D2 g cs W) (hp : ∃ Fb', PM w.heap.size W' p c b f N C' Fb' D') (kf : KF c W W') (hb : Below w.heap.size W W') : JJ w p c b f q c2 b2 N C' D' C2 D2 g cs W' := by
  obtain ⟨Fb, pm⟩ := h.pm
  obtain ⟨V, L, rp⟩ := h.rp
  exact ⟨hp, ⟨V, L, rp.kf kf (fun e => h.ne e.symm) ⟨_, _, pm.cc⟩⟩, h.ne, h.bl.trans hb, kf _ _ _ h.bo (by decide) (by decide) (by decide) (by decide) (fun e => pm.cc.ne_blk h.bo (by decide) e.symm)⟩
theorem JJ.qstep {V : Nat → Value} {L : Nat → Nat} (h : JJ w p c b f q c2 b2 N C D C2 D2 g cs W) (rp : RP w.heap.size W q c2 b2 N C2 D2 V L) (rx : RX w.heap.size W W' q c2 b2 N C2 V C2' D2') : JJ w p c b f q c2 b2 N C D C2' D2' g cs W' := by
  obtain ⟨Fb, pm⟩ := h.pm
  obtain ⟨V', L', rp', kr, bl, mo⟩ := rx
  exact ⟨⟨Fb, pm.kr kr h.ne ⟨_, _, rp.cc⟩⟩, ⟨V', L', rp'⟩, h.ne, h.bl.trans bl, kr _ _ _ h.bo (by decide) (by decide) (fun e => rp.cc.ne_blk h.bo (by decide) e.symm) (fun e => by cases e)⟩
theorem JJ.next (h : JJ w p c b f q c2 b2 N C D C2 D2 g cs W) (hb : Below W.heap.size W W') : JJ w p c b f q c2 b2 N C D C2 D2 g cs W' := by
  obtain ⟨Fb, pm⟩ := h.pm
  obtain ⟨V, L, rp⟩ := h.rp
  exact ⟨⟨Fb, pm.next hb⟩, ⟨V, L, rp.next hb⟩, h.ne, h.bl.trans (hb.mono h.bl.size), h.bo.below hb h.bo.lt⟩
theorem JJ.of (h : J w p c b f q c2 b2 N C D W) : JJ w p c b f q c2 b2 N C D C D W.heap.size cs (W.alloc (.cells cs 44)) := by
  have j := h.next (W' := W.alloc (.cells cs 44)) ((Below.refl _ _).alloc (Nat.le_refl _) _)
  exact ⟨j.pm, j.rp, j.ne, j.bl, Blk.new _ _ _⟩
theorem JJ.done (h : JJ w p c b f q c2 b2 N C D C D g cs W) : J w p c b f q c2 b2 N C D W := ⟨h.pm, h.rp, h.ne, h.bl⟩
variable {k x y z : Int} {A : Option Addr} {m qb : Nat}
theorem JJ.cells (h : Hid (JJ w p c b f q c2 b2 N C D C2 D2 g #[.int .i64 k, .int .i64 x, .int .i64 y, .int .i64 z, .slice A m qb] W)) : W.cell? ⟨g, 0, none⟩ = some (.int .i64 k) ∧ W.cell? ⟨g, 1, none⟩ = some (.int .i64 x) ∧ W.cell? ⟨g, 2, none⟩ = some (.int .i64 y) ∧ W.cell? ⟨g, 3, none⟩ = some (.int .i64 z) ∧ W.cell? ⟨g, 4, none⟩ = some (.slice A m qb) :=
  ⟨(h.out.bo.cell 0).trans rfl, (h.out.bo.cell 1).trans rfl, (h.out.bo.cell 2).trans rfl, (h.out.bo.cell 3).trans rfl, (h.out.bo.cell 4).trans rfl⟩
theorem JJ.ptake (h : Hid (JJ w p c b f q c2 b2 N C D C2 D2 g cs W)) (ht : Hid (TB w)) (h0 : 0 < w.heap.size) :
    Calls Tryd.prog 19 #[.pointer (some ⟨p, 0, none⟩)] W fun e W' => e = .returned (.tuple #[.int .i64 (takeN C N), .int .i64 (takeE C N)]) ∧ Hid (JJ w p c b f q c2 b2 N (takeC C N) (takeD C N D) C2 D2 g cs W') := by
  obtain ⟨Fb, pm⟩ := h.out.pm
  refine (take_any W pm h.out.bl.size (ht.out.below h.out.bl h0)).mono ?_
  rintro e W' ⟨rfl, hp, kf, bl⟩
  exact ⟨rfl, h.out.pstep hp kf bl⟩
theorem JJ.qtake (h : Hid (JJ w p c b f q c2 b2 N C D C2 D2 g cs W)) :
    Calls Tryd.prog 36 #[.pointer (some ⟨q, 0, none⟩)] W fun e W' => e = .returned (.tuple #[.int .i64 (takeN C2 N), .int .i64 (takeE C2 N)]) ∧ Hid (JJ w p c b f q c2 b2 N C D (takeC C2 N) (takeD C2 N D2) g cs W') := by
  obtain ⟨V, L, rp⟩ := h.out.rp
  refine (rtake_any W rp).mono ?_
  rintro e W' ⟨rfl, rx⟩
  exact ⟨rfl, h.out.qstep rp rx⟩
theorem JJ.pup (h : Hid (JJ w p c b f q c2 b2 N C D C2 D2 g cs W)) (hC : Hid (∀ k, C k < 4611686018427387904)) (x : Int) :
    Calls Tryd.prog 20 #[.pointer (some ⟨p, 0, none⟩), .int .i64 x] W fun e W' => e = .returned (.int .i64 (erA C N x)) ∧ Hid (JJ w p c b f q c2 b2 N (upC C N x) D C2 D2 g cs W') := by
  obtain ⟨Fb, pm⟩ := h.out.pm
  refine (up_any x W pm hC.out).mono ?_
  rintro e W' ⟨rfl, hp, kf, bl⟩
  exact ⟨rfl, h.out.pstep ⟨_, hp⟩ kf bl⟩
theorem JJ.qup (h : Hid (JJ w p c b f q c2 b2 N C D C2 D2 g cs W)) (hC : Hid (∀ k, C2 k < 4611686018427387904)) (x : Int) :
    Calls Tryd.prog 37 #[.pointer (some ⟨q, 0, none⟩), .int .i64 x] W fun e W' => e = .returned (.int .i64 (erA C2 N x)) ∧ Hid (JJ w p c b f q c2 b2 N C D (upC C2 N x) D2 g cs W') := by
  obtain ⟨V, L, rp⟩ := h.out.rp
  refine (rup_any x W rp hC.out).mono ?_
  rintro e W' ⟨rfl, rx⟩
  exact ⟨rfl, h.out.qstep rp rx⟩
theorem JJ.pdown (h : Hid (JJ w p c b f q c2 b2 N C D C2 D2 g cs W)) (hC : Hid (∀ k, C k < 4611686018427387904)) (x : Int) :
    Calls Tryd.prog 21 #[.pointer (some ⟨p, 0, none⟩), .int .i64 x] W fun e W' => e = .returned (.int .i64 (erA C N x)) ∧ Hid (JJ w p c b f q c2 b2 N (dnC C N x) D C2 D2 g cs W') := by
  obtain ⟨Fb, pm⟩ := h.out.pm
  refine (down_any x W pm hC.out).mono ?_
  rintro e W' ⟨rfl, hp, kf, bl⟩
  exact ⟨rfl, h.out.pstep ⟨_, hp⟩ kf bl⟩
theorem JJ.qdown (h : Hid (JJ w p c b f q c2 b2 N C D C2 D2 g cs W)) (hC : Hid (∀ k, C2 k < 4611686018427387904)) (x : Int) :
    Calls Tryd.prog 38 #[.pointer (some ⟨q, 0, none⟩), .int .i64 x] W fun e W' => e = .returned (.int .i64 (erA C2 N x)) ∧ Hid (JJ w p c b f q c2 b2 N C D (dnC C2 N x) D2 g cs W') := by
  obtain ⟨V, L, rp⟩ := h.out.rp
  refine (rdown_any x W rp hC.out).mono ?_
  rintro e W' ⟨rfl, rx⟩
  exact ⟨rfl, h.out.qstep rp rx⟩
theorem JJ.pcopy (h : Hid (JJ w p c b f q c2 b2 N C D C2 D2 g cs W)) (ht : Hid (TB w)) (h0 : 0 < w.heap.size) (x : Int) :
    Calls Tryd.prog 26 #[.pointer (some ⟨p, 0, none⟩), .int .i64 x] W fun e W' => e = .returned (.tuple #[.int .i64 (cpN C N x), .int .i64 (cpE C N x)]) ∧ Hid (JJ w p c b f q c2 b2 N (cpC C N x) (cpD C N x D) C2 D2 g cs W') := by
  obtain ⟨Fb, pm⟩ := h.out.pm
  refine (copy_any x W pm h.out.bl.size (ht.out.below h.out.bl h0)).mono ?_
  rintro e W' ⟨rfl, hp, kf, bl⟩
  exact ⟨rfl, h.out.pstep hp kf bl⟩
theorem JJ.qcopy (h : Hid (JJ w p c b f q c2 b2 N C D C2 D2 g cs W)) (x : Int) :
    Calls Tryd.prog 41 #[.pointer (some ⟨q, 0, none⟩), .int .i64 x] W fun e W' => e = .returned (.tuple #[.int .i64 (cpN C2 N x), .int .i64 (cpE C2 N x)]) ∧ Hid (JJ w p c b f q c2 b2 N C D (cpC C2 N x) (cpD C2 N x D2) g cs W') := by
  obtain ⟨V, L, rp⟩ := h.out.rp
  refine (rcopy_any x W rp h.out.bl.size).mono ?_
  rintro e W' ⟨rfl, rx⟩
  exact ⟨rfl, h.out.qstep rp rx⟩
end
/-- both pools, and bytes in block gb that may be written over -/
structure JW (w : World) (p c b f q c2 b2 N : Nat) (C : Nat → Nat) (D : Nat → Nat → Nat) (m gb : Nat) (W : World) : Prop where
  pm : ∃ Fb, PM w.heap.size W p c b f N C Fb D
  rp : ∃ V L, RP w.heap.size W q c2 b2 N C D V L ∧ (0 < m → Fo N C V gb)
  ne : c ≠ c2
  bl : Below w.heap.size w W
  row : 0 < m → w.heap.size ≤ gb ∧ ∃ cs, Blk W gb 5 cs ∧ m ≤ cs.size
section
variable {w W W' : World} {p c b f q c2 b2 N m gb : Nat} {C : Nat → Nat} {D : Nat → Nat → Nat}
theorem JW.done (h : JW w p c b f q c2 b2 N C D m gb W) : J w p c b f q c2 b2 N C D W := by
  obtain ⟨V, L, rp, _⟩ := h.rp
  exact ⟨h.pm, ⟨V, L, rp⟩, h.ne, h.bl⟩
theorem JW.next (h : JW w p c b f q c2 b2 N C D m gb W) (hb : Below W.heap.size W W') : JW w p c b f q c2 b2 N C D m gb W' := by
  obtain ⟨Fb, pm⟩ := h.pm
  obtain ⟨V, L, rp, fo⟩ := h.rp
  exact ⟨⟨Fb, pm.next hb⟩, ⟨V, L, rp.next hb, fo⟩, h.ne, h.bl.trans (hb.mono h.bl.size), fun hm => by obtain ⟨h1, cs, h2, h3⟩ := h.row hm; exact ⟨h1, cs, h2.below hb h2.lt, h3⟩⟩
theorem JW.cell (h : JW w p c b f q c2 b2 N C D m gb W) {j : Nat} (hj : j < m) : (∃ y, W.cell? ⟨gb, j, none⟩ = some y) ∧ W.frozen? ⟨gb, j, none⟩ = false := by
  obtain ⟨_, cs, h2, h3⟩ := h.row (by omega)
  exact ⟨⟨cs[j]'(by omega), (h2.cell j).trans (Array.getElem?_eq_getElem (by omega))⟩, h2.frozen j⟩
theorem JW.set (h : JW w p c b f q c2 b2 N C D m gb W) {j : Nat} (hj : j < m) (v : Value) : JW w p c b f q c2 b2 N C D m gb (W.setCell ⟨gb, j, none⟩ v) := by
  obtain ⟨Fb, pm⟩ := h.pm
  obtain ⟨V, L, rp, fo⟩ := h.rp
  obtain ⟨h1, cs, h2, h3⟩ := h.row (by omega)
  refine ⟨⟨Fb, pm.keep fun g t cs' ht hg => hg.far ?_ _⟩, ⟨V, L, rp.far cs h2 (fo (by omega)) v, fo⟩, h.ne, h.bl.setCell h1 _, fun _ => ⟨h1, _, h2.set_ j v, by simpa using h3⟩⟩
  rintro rfl
  have ht5 : t = 5 := by
    unfold Blk at hg h2; rw [hg] at h2; injection h2 with h2; injection h2 with _ e
  subst ht5
  rcases ht with h | h | h | h | h
  · cases h
  · cases h
  · cases h
  · cases h
  · exact pm.cc.ne_blk hg (by decide) h.symm
end
end Go.Proofs.YtgikfjfinjcfmaaDoor
