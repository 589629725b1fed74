import Derived.Test.YtgikfjfinjcfmaaDoorG6
import Derived.Test.YtgikfjfinjcfmaaDoorG3
namespace Go.Proofs.YtgikfjfinjcfmaaDoor
open Go.RowKit Go.Hos
set_option linter.unusedVariables false
/-- the document's pool in memory: counts C, bytes D, the frames' slices V, so long L -/
structure RP (B : Nat) (W : World) (q c b n : Nat) (C : Nat → Nat) (D : Nat → Nat → Nat) (V : Nat → Value) (L : Nat → Nat) : Prop where
  hd : Blk W q 71 #[.slice (some ⟨c, 0, none⟩) n n, .slice (some ⟨b, 0, none⟩) n n]
  cc : Row W c 3 n (fun k => .int .i64 (C k))
  bb : Row W b 42 n V
  ow : ∀ k, k < n → 0 < C k → W.ownsRow B 5 1 (V k) (L k) (u8s (bsF (L k) (D k)))
  sz : ∀ k, k < n → 0 < C k → L k ≤ 4096 ∧ ∀ i, L k ≤ i → i < 4096 → D k i = 0
  dj : ∀ i j, i < n → j < n → 0 < C i → 0 < C j → i ≠ j → ∀ g, (V i).ownBlock = some g → (V j).ownBlock ≠ some g
  bs : B ≤ q ∧ B ≤ c ∧ B ≤ b
  nn : 1 ≤ n ∧ n ≤ 1024
/-- no frame's slice lies in block g -/
def Fo (n : Nat) (C : Nat → Nat) (V : Nat → Value) (g : Nat) : Prop := ∀ k, k < n → 0 < C k → (V k).ownBlock ≠ some g
/-- what a call on the document's pool leaves as it was -/
def KR (c : Nat) (F : Nat → Prop) (W W' : World) : Prop := ∀ g t cs, Blk W g t cs → t ≠ 71 → t ≠ 42 → g ≠ c → (t = 5 → F g) → Blk W' g t cs
theorem KR.refl (c : Nat) (F : Nat → Prop) (W : World) : KR c F W W := fun _ _ _ h _ _ _ _ => h
theorem KR.of_below {c : Nat} {F : Nat → Prop} {W W' : World} (h : Below W.heap.size W W') : KR c F W W' := fun g t cs hb _ _ _ _ => hb.below h hb.lt
/-- what is left of the document's pool behind a call on it -/
def RX (B : Nat) (W W' : World) (q c b n : Nat) (C : Nat → Nat) (V : Nat → Value) (C' : Nat → Nat) (D' : Nat → Nat → Nat) : Prop :=
  ∃ V' L', RP B W' q c b n C' D' V' L' ∧ KR c (Fo n C V) W W' ∧ Below B W W' ∧ ∀ g, g < W.heap.size → Fo n C V g → Fo n C' V' g
theorem owns_keep' {W W' : World} {base : Nat} {e : TypeId} {size n : Nat} {v : Value} {xs : List Value} (h : W.ownsRow base e size v n xs) (hk : ∀ g cs, v.ownBlock = some g → Blk W g e cs → Blk W' g e cs) : W'.ownsRow base e size v n xs := by
  refine ⟨h.1, ?_⟩
  rcases h.2 with h2 | ⟨g, cap, cur, hv, hg, hb, r⟩
  · exact .inl h2
  · exact .inr ⟨g, cap, cur, hv, hg, hk g cur (by rw [hv]; rfl) hb, r⟩
section
variable {B : Nat} {W W' : World} {q c b n : Nat} {C : Nat → Nat} {D : Nat → Nat → Nat} {V : Nat → Value} {L : Nat → Nat}
theorem RP.keep (h : RP B W q c b n C D V L) (hk : ∀ g t cs, Blk W g t cs → (t = 71 ∨ t = 42 ∨ (g = c ∧ t = 3) ∨ (t = 5 ∧ ∃ k, k < n ∧ 0 < C k ∧ (V k).ownBlock = some g)) → Blk W' g t cs) : RP B W' q c b n C D V L :=
  ⟨hk _ _ _ h.hd (by simp), h.cc.keep fun cs hb => hk _ _ _ hb (by simp), h.bb.keep fun cs hb => hk _ _ _ hb (by simp),
    fun k hk1 hc => owns_keep' (h.ow k hk1 hc) fun g cs hg hb => hk _ _ _ hb (.inr (.inr (.inr ⟨rfl, k, hk1, hc, hg⟩))), h.sz, h.dj, h.bs, h.nn⟩
theorem RP.next (h : RP B W q c b n C D V L) (hb : Below W.heap.size W W') : RP B W' q c b n C D V L := h.keep fun g t cs hg _ => hg.below hb hg.lt
theorem RP.kf {cP : Nat} (h : RP B W q c b n C D V L) (kf : KF cP W W') (hne : c ≠ cP) (hcP : ∃ F m, Row W cP 3 m F) : RP B W' q c b n C D V L := by
  obtain ⟨F, m, hcP⟩ := hcP
  refine h.keep fun g t cs hg ht => ?_
  have a : ∀ t', t = t' → t' ≠ 3 → g ≠ cP := fun t' e h3 e' => by subst e'; subst e; exact hcP.ne_blk hg (fun e => h3 e.symm) rfl
  rcases ht with rfl | rfl | ⟨rfl, rfl⟩ | ⟨rfl, _⟩
  · exact kf _ _ _ hg (by decide) (by decide) (by decide) (by decide) (a _ rfl (by decide))
  · exact kf _ _ _ hg (by decide) (by decide) (by decide) (by decide) (a _ rfl (by decide))
  · exact kf _ _ _ hg (by decide) (by decide) (by decide) (by decide) hne
  · exact kf _ _ _ hg (by decide) (by decide) (by decide) (by decide) (a _ rfl (by decide))
theorem RP.far (h : RP B W q c b n C D V L) {g j : Nat} (cs : Array Value) (hg : Blk W g 5 cs) (hf : Fo n C V g) (v : Value) : RP B (W.setCell ⟨g, j, none⟩ v) q c b n C D V L := by
  refine h.keep fun g' t cs' hb ht => hb.far ?_ _
  rintro rfl
  have ht5 : t = 5 := by
    unfold Blk at hg hb; rw [hg] at hb; injection hb with hb; injection hb with _ e; exact e.symm
  subst ht5
  rcases ht with h | h | ⟨_, h⟩ | ⟨_, k, h1, h2, h3⟩
  · cases h
  · cases h
  · cases h
  · exact hf k h1 h2 h3
theorem RP.head (h : RP B W q c b n C D V L) : W.cell? ⟨q, 0, none⟩ = some (.slice (some ⟨c, 0, none⟩) n n) ∧ W.cell? ⟨q, 1, none⟩ = some (.slice (some ⟨b, 0, none⟩) n n) := ⟨(h.hd.cell 0).trans rfl, (h.hd.cell 1).trans rfl⟩
theorem RP.old (h : RP B W q c b n C D V L) : Fo n C V W.heap.size := fun k hk hc e => by have := (h.ow k hk hc).lt _ e; omega
theorem RP.fo (h : RP B W q c b n C D V L) {g : Nat} (hg : W.heap.size ≤ g) : Fo n C V g := fun k hk hc e => by have := (h.ow k hk hc).lt _ e; omega
theorem RX.refl (h : RP B W q c b n C D V L) : RX B W W q c b n C V C D := ⟨V, L, h, KR.refl _ _ _, Below.refl _ _, fun _ _ h => h⟩
/-- the pool of the program stays -/
theorem PM.kr {B' p cP bP f m : Nat} {C' Fb : Nat → Nat} {D' : Nat → Nat → Nat} {F : Nat → Prop} (h : PM B' W p cP bP f m C' Fb D') (kr : KR c F W W') (hne : cP ≠ c) (hc : ∃ F m, Row W c 3 m F) : PM B' W' p cP bP f m C' Fb D' := by
  obtain ⟨F, k, hc⟩ := hc
  have hcP := h.cc
  refine h.keep fun g t cs ht hg => ?_
  have a : ∀ t', t = t' → t' ≠ 3 → g ≠ c := fun t' e h3 e' => by subst e'; subst e; exact hc.ne_blk hg (fun e => h3 e.symm) rfl
  rcases ht with rfl | rfl | rfl | rfl | rfl
  · exact kr _ _ _ hg (by decide) (by decide) (a _ rfl (by decide)) (fun e => by cases e)
  · exact kr _ _ _ hg (by decide) (by decide) (a _ rfl (by decide)) (fun e => by cases e)
  · exact kr _ _ _ hg (by decide) (by decide) (a _ rfl (by decide)) (fun e => by cases e)
  · exact kr _ _ _ hg (by decide) (by decide) (a _ rfl (by decide)) (fun e => by cases e)
  · by_cases e3 : t = 3
    · subst e3; exact kr _ _ _ hg (by decide) (by decide) hne (fun e => by cases e)
    · exact absurd rfl (hcP.ne_blk hg (fun e => e3 e.symm))
end
set_option maxHeartbeats 800000 in
theorem rtaken_any {B : Nat} {q c b n : Nat} {C : Nat → Nat} {D : Nat → Nat → Nat} {V : Nat → Value} {L : Nat → Nat} (x : Int) (w : World) (h : RP B w q c b n C D V L) :
    Calls Tryd.prog 42 #[.pointer (some ⟨q, 0, none⟩), .int .i64 x] w fun e w' => e = .returned (.bool (tkB C n x)) ∧ w = w' := by
  have hn := h.nn
  obtain ⟨k0, k1⟩ := h.head
  cases hx : tkB C n x
  · rcases tkB_no hx with h0 | h0 | ⟨k, rfl, hk, hc⟩
    · have b0 : ¬ 0 ≤ x := by omega
      clear h hx k1
      go_enter Tryd.func42, Tryd.ntmps42
      go_wp2_with fail
      go_ret
      exact ⟨rfl, rfl⟩
    · have b0 : 0 ≤ x := by omega
      have b1 : ¬ x < (n : Int) := by omega
      clear h hx k1
      go_enter Tryd.func42, Tryd.ntmps42
      go_wp2_with fail
      go_ret
      exact ⟨rfl, rfl⟩
    · have hg := h.cc.get hk
      rw [hc] at hg
      have b0 : (0 : Int) ≤ (k : Int) := by omega
      have b1 : (k : Int) < (n : Int) := by omega
      clear h hx k1 hc
      go_enter Tryd.func42, Tryd.ntmps42
      go_wp2_with fail
      go_ret
      exact ⟨rfl, rfl⟩
  · obtain ⟨k, rfl, hk, hc⟩ := tkB_yes hx
    have hg := h.cc.get hk
    have b0 : (0 : Int) ≤ (k : Int) := by omega
    have b1 : (k : Int) < (n : Int) := by omega
    have b2 : (0 : Int) < (C k : Int) := by omega
    clear h hx k1
    go_enter Tryd.func42, Tryd.ntmps42
    go_wp2_with fail
    go_ret
    exact ⟨rfl, rfl⟩
set_option maxHeartbeats 800000 in
theorem rcount_any {B : Nat} {q c b n : Nat} {C : Nat → Nat} {D : Nat → Nat → Nat} {V : Nat → Value} {L : Nat → Nat} (x : Int) (w : World) (h : RP B w q c b n C D V L) :
    Calls Tryd.prog 32 #[.pointer (some ⟨q, 0, none⟩), .int .i64 x] w fun e w' => e = .returned (.int .i64 (cnt C n x)) ∧ w = w' := by
  have hn := h.nn
  obtain ⟨k0, k1⟩ := h.head
  by_cases h0 : x < 0
  · rw [cnt_out (.inl h0)]
    clear h k1
    go_enter Tryd.func32, Tryd.ntmps32
    go_wp2_with fail
    go_ret
    exact ⟨rfl, rfl⟩
  · by_cases h1 : (n : Int) ≤ x
    · rw [cnt_out (.inr h1)]
      clear h k1
      go_enter Tryd.func32, Tryd.ntmps32
      go_wp2_with fail
      go_ret
      exact ⟨rfl, rfl⟩
    · obtain ⟨k, rfl⟩ := Int.eq_ofNat_of_zero_le (show 0 ≤ x by omega)
      rw [cnt_in (by omega)]
      have hg := h.cc.get (show k < n by omega)
      have b1 : ¬ (n : Int) ≤ (k : Int) := by omega
      have b2 : ¬ n ≤ k := by omega
      clear h k1
      go_enter Tryd.func32, Tryd.ntmps32
      go_wp2_with fail
      go_ret
      exact ⟨rfl, rfl⟩
set_option maxHeartbeats 800000 in
theorem rsize_any {B : Nat} {q c b n : Nat} {C : Nat → Nat} {D : Nat → Nat → Nat} {V : Nat → Value} {L : Nat → Nat} (w : World) (h : RP B w q c b n C D V L) :
    Calls Tryd.prog 31 #[.pointer (some ⟨q, 0, none⟩)] w fun e w' => e = .returned (.int .i64 n) ∧ w = w' := by
  obtain ⟨k0, k1⟩ := h.head
  clear h k1
  go_enter Tryd.func31, Tryd.ntmps31
  go_wp2_with fail
  go_ret
  exact ⟨rfl, rfl⟩
theorem frees_step (C : Nat → Nat) (k : Nat) : frees C (k + 1) = frees C k + if C k = 0 then 1 else 0 := rfl
set_option maxHeartbeats 800000 in
theorem rfree_any {B : Nat} {q c b n : Nat} {C : Nat → Nat} {D : Nat → Nat → Nat} {V : Nat → Value} {L : Nat → Nat} (w : World) (h : RP B w q c b n C D V L) :
    Calls Tryd.prog 30 #[.pointer (some ⟨q, 0, none⟩)] w fun e w' => e = .returned (.int .i64 (frees C n)) ∧ w = w' := by
  have hn := h.nn
  obtain ⟨k0, k1⟩ := h.head
  have H := Lib.hid h
  clear h k1
  go_enter Tryd.func30, Tryd.ntmps30
  go_wp2_with fail
  go_loop [3, 4] (fun v3 v4 => ∃ k fr : Nat, k ≤ n ∧ fr ≤ k ∧ v4 = .int .i64 k ∧ v3 = .int .i64 fr ∧ Hid (fr = frees C k)) (fun _ v4 => n - (intOf v4).toNat)
  case atStart => exact ⟨0, 0, by omega, by omega, rfl, rfl, rfl⟩
  case round =>
    obtain ⟨k, fr, hk, hfr, rfl, rfl, hf⟩ := hrel
    by_cases hkn : k < n
    · have e1 : decide ((k : Int) < (n : Int)) = true := by simp; omega
      have hg := H.out.cc.get hkn
      have hs := Lib.hid (frees_step C k)
      obtain ⟨ck, hck⟩ : ∃ ck, ck = C k := ⟨_, rfl⟩
      rw [← hck] at hg hs
      clear hck
      by_cases h0 : ck = 0
      · subst h0
        have hs2 : Hid (fr + 1 = frees C (k + 1)) := by
          have := hs.out; rw [if_pos rfl] at this
          exact Lib.hid (by rw [this, hf.out])
        clear hs
        go_wp2_with fail
        go_round
        case rel => exact ⟨k + 1, fr + 1, by omega, by omega, by go_num, by go_num, hs2⟩
        case measure => simp [intOf]; omega
      · have b0 : ((ck : Int) == 0) = false := by simp; omega
        have hs2 : Hid (fr = frees C (k + 1)) := by
          have := hs.out; rw [if_neg h0] at this
          exact Lib.hid (by rw [this, hf.out]; rfl)
        clear hs h0
        go_wp2_with fail
        go_round
        case rel => exact ⟨k + 1, fr, by omega, by omega, by go_num, rfl, hs2⟩
        case measure => simp [intOf]; omega
    · obtain rfl : k = n := by omega
      go_wp2_with fail
      go_ret
      exact ⟨by rw [← hf.out]; rfl, rfl⟩
/-! up and down -/
theorem RP.setC {B : Nat} {W : World} {q c b n : Nat} {C : Nat → Nat} {D : Nat → Nat → Nat} {V : Nat → Value} {L : Nat → Nat} (h : RP B W q c b n C D V L) {k x : Nat} (hk : k < n) (h0 : 0 < C k) :
    RX B W (W.setCell ⟨c, k, none⟩ (.int .i64 (x : Int))) q c b n C V (upd C k x) D := by
  have hC : ∀ j, 0 < upd C k x j → 0 < C j := fun j hj => by
    by_cases e : j = k
    · subst e; exact h0
    · rwa [upd_other _ _ e] at hj
  have n1 := h.cc.ne_blk h.hd (by decide)
  have n2 := h.cc.ne_ h.bb (by decide)
  refine ⟨V, L, ⟨h.hd.far (fun e => n1 e.symm) _, ?_, h.bb.far (fun e => n2 e.symm) _, fun j hj hc => ?_, fun j hj hc => h.sz j hj (hC j hc), fun i j hi hj hci hcj => h.dj i j hi hj (hC i hci) (hC j hcj), h.bs, h.nn⟩, fun g t cs hb _ _ nc _ => hb.far nc _, (Below.refl _ _).setCell h.bs.2.1 _, fun g _ hf j hj hc => hf j hj (hC j hc)⟩
  · have := h.cc.set_ k (.int .i64 (x : Int))
    rw [upd_comp (fun x : Nat => Value.int .i64 (x : Int))] at this
    exact this
  · exact owns_keep' (h.ow j hj (hC j hc)) fun g cs _ hb => hb.far (fun e => h.cc.ne_blk hb (by decide) e.symm) _
set_option maxHeartbeats 800000 in
theorem rup_any {B : Nat} {q c b n : Nat} {C : Nat → Nat} {D : Nat → Nat → Nat} {V : Nat → Value} {L : Nat → Nat} (x : Int) (w : World) (h : RP B w q c b n C D V L) (hC : ∀ k, C k < 4611686018427387904) :
    Calls Tryd.prog 37 #[.pointer (some ⟨q, 0, none⟩), .int .i64 x] w fun e w' => e = .returned (.int .i64 (erA C n x)) ∧ RX B w w' q c b n C V (upC C n x) D := by
  have hn := h.nn
  have H := Lib.hid h
  obtain ⟨k0, k1⟩ := h.head
  cases hx : tkB C n x
  · rw [erA, upC, hx]
    have HX := Lib.hid hx
    clear h hx k0 k1
    go_enter Tryd.func37, Tryd.ntmps37
    go_wp2_with fail
    refine (rtaken_any x _ H.out).mono ?_
    rw [HX.out]
    rintro e w' ⟨rfl, rfl⟩
    go_wp2_with fail
    go_ret
    exact ⟨rfl, RX.refl H.out⟩
  · rw [erA, upC, hx, if_pos rfl, if_pos rfl]
    have HX := Lib.hid hx
    obtain ⟨k, rfl, hk, hc⟩ := tkB_yes hx
    rw [Int.toNat_natCast]
    have hg := h.cc.get hk
    have fg := h.cc.free k
    have hb := hC k
    have pm := Lib.hid (RP.setC h hk hc (x := C k + 1))
    obtain ⟨ck, hck⟩ : ∃ ck, ck = C k := ⟨_, rfl⟩
    obtain ⟨ck', hck'⟩ : ∃ ck', ck' = C k + 1 := ⟨_, rfl⟩
    rw [← hck'] at pm ⊢
    rw [← hck] at hg hb
    have hw : (ck : Int) + 1 = (ck' : Int) := by omega
    have hw2 : IntKind.i64.wrap (ck' : Int) = (ck' : Int) := IntWalk.i64_in _ (by omega)
    clear h hx k1 hck hck' hc hC
    go_enter Tryd.func37, Tryd.ntmps37
    go_wp2_with fail
    refine (rtaken_any k _ H.out).mono ?_
    rw [HX.out]
    rintro e w' ⟨rfl, rfl⟩
    go_wp2_with fail
    go_ret
    exact ⟨rfl, pm.out⟩
set_option maxHeartbeats 800000 in
theorem rdown_any {B : Nat} {q c b n : Nat} {C : Nat → Nat} {D : Nat → Nat → Nat} {V : Nat → Value} {L : Nat → Nat} (x : Int) (w : World) (h : RP B w q c b n C D V L) (hC : ∀ k, C k < 4611686018427387904) :
    Calls Tryd.prog 38 #[.pointer (some ⟨q, 0, none⟩), .int .i64 x] w fun e w' => e = .returned (.int .i64 (erA C n x)) ∧ RX B w w' q c b n C V (dnC C n x) D := by
  have hn := h.nn
  have H := Lib.hid h
  obtain ⟨k0, k1⟩ := h.head
  cases hx : tkB C n x
  · rw [erA, dnC, hx]
    have HX := Lib.hid hx
    clear h hx k0 k1
    go_enter Tryd.func38, Tryd.ntmps38
    go_wp2_with fail
    refine (rtaken_any x _ H.out).mono ?_
    rw [HX.out]
    rintro e w' ⟨rfl, rfl⟩
    go_wp2_with fail
    go_ret
    exact ⟨rfl, RX.refl H.out⟩
  · rw [erA, dnC, hx, if_pos rfl, if_pos rfl]
    have HX := Lib.hid hx
    obtain ⟨k, rfl, hk, hc⟩ := tkB_yes hx
    rw [Int.toNat_natCast]
    have hg := h.cc.get hk
    have fg := h.cc.free k
    have hb := hC k
    have pm := Lib.hid (RP.setC h hk hc (x := C k - 1))
    obtain ⟨ck, hck⟩ : ∃ ck, ck = C k := ⟨_, rfl⟩
    obtain ⟨ck', hck'⟩ : ∃ ck', ck' = C k - 1 := ⟨_, rfl⟩
    rw [← hck'] at pm ⊢
    rw [← hck] at hg hb
    have hw : (ck : Int) - 1 = (ck' : Int) := by omega
    have hw2 : IntKind.i64.wrap (ck' : Int) = (ck' : Int) := IntWalk.i64_in _ (by omega)
    clear h hx k1 hck hck' hc hC
    go_enter Tryd.func38, Tryd.ntmps38
    go_wp2_with fail
    refine (rtaken_any k _ H.out).mono ?_
    rw [HX.out]
    rintro e w' ⟨rfl, rfl⟩
    go_wp2_with fail
    go_ret
    exact ⟨rfl, pm.out⟩
end Go.Proofs.YtgikfjfinjcfmaaDoor
