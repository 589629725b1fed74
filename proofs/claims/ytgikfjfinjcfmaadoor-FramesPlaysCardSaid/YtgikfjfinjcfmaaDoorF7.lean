import Derived.Test.YtgikfjfinjcfmaaDoorF5
namespace Go.Proofs.YtgikfjfinjcfmaaDoor
open Go.RowKit Go.Hos
set_option linter.unusedVariables false

theorem PM.setC {B : Nat} {W : World} {p c b f n : Nat} {C Fb : Nat → Nat} {D : Nat → Nat → Nat} {k x : Nat} (h : PM B W p c b f n C Fb D) (hk : k < n) (h0 : 0 < C k) (hx : 0 < x) :
    PM B (W.setCell ⟨c, k, none⟩ (.int .i64 x)) p c b f n (upd C k x) Fb D := by
  obtain ⟨P, hP, hP2⟩ := h.bb
  obtain ⟨X, hX, hX2⟩ := h.ff
  have nfc := hX.ne_ h.cc (by decide)
  have ncp := h.cc.ne_blk h.hd (by decide)
  have ncb := h.cc.ne_ hP (by decide)
  have hz : ∀ j, (upd C k x j = 0 ↔ C j = 0) := fun j => by
    by_cases e : j = k
    · subst e; rw [upd_same]; omega
    · rw [upd_other _ _ e]
  have hp : ∀ j, (0 < upd C k x j ↔ 0 < C j) := fun j => by have := hz j; omega
  refine ⟨?_, ?_, ⟨P, hP.far (fun e => ncb e.symm) _, fun j hj hc => hP2 j hj ((hp j).1 hc)⟩, ⟨X, hX.far nfc _, fun i hi => ⟨(hX2 i hi).1, fun j hj => ?_⟩⟩, fun j hj hc => ?_, fun i j hi hj hci hcj hij => h.dj i j hi hj ((hp i).1 hci) ((hp j).1 hcj) hij,
    ⟨h.bs.1, h.bs.2.1, h.bs.2.2.1, h.bs.2.2.2.1, fun j hj hc => h.bs.2.2.2.2 j hj ((hp j).1 hc)⟩, h.nn⟩
  · rw [frees_congr n (fun j _ => hz j)]
    exact h.hd.far (fun e => ncp e.symm) _
  · have h1 := h.cc.set_ k (.int .i64 (x : Int))
    rw [upd_comp (fun x : Nat => Value.int .i64 (x : Int))] at h1
    exact h1
  · rw [(hX2 i hi).2 j hj]
    exact decide_eq_decide.2 (by rw [hz])
  · have hr := h.fr j hj ((hp j).1 hc)
    exact hr.far (hr.ne_ h.cc (by decide)) _

theorem PM.give {B : Nat} {W : World} {p c b f n : Nat} {C Fb : Nat → Nat} {D : Nat → Nat → Nat} {k : Nat} {X : Nat → Nat} (h : PM B W p c b f n C Fb D) (hk : k < n) (h0 : 0 < C k)
    (hX : Row W f 65 ((n + 63) / 64) (fun i => .int .u64 (X i))) (hX2 : ∀ i, i < (n + 63) / 64 → X i < 18446744073709551616 ∧ ∀ j, j < 64 → (X i).testBit j = decide (i * 64 + j < n ∧ C (i * 64 + j) = 0)) :
    PM B (((W.setCell ⟨c, k, none⟩ (.int .i64 0)).setCell ⟨f, k / 64, none⟩ (.int .u64 ((X (k / 64) ||| 2 ^ (k % 64) : Nat) : Int))).setCell ⟨p, 3, none⟩ (.int .i64 ((frees C n + 1 : Nat) : Int))) p c b f n (upd C k 0) Fb D := by
  obtain ⟨P, hP, hP2⟩ := h.bb
  have nfp := hX.ne_blk h.hd (by decide)
  have nfc := hX.ne_ h.cc (by decide)
  have nfb := hX.ne_ hP (by decide)
  have ncp := h.cc.ne_blk h.hd (by decide)
  have ncb := h.cc.ne_ hP (by decide)
  have nbp := hP.ne_blk h.hd (by decide)
  have hpos : ∀ j, 0 < upd C k 0 j → 0 < C j := fun j hj => by
    by_cases e : j = k
    · subst e; exact h0
    · rwa [upd_other _ _ e] at hj
  refine ⟨?_, ?_, ⟨P, ((hP.far (fun e => ncb e.symm) _).far (fun e => nfb e.symm) _).far nbp _, fun j hj hc => hP2 j hj (hpos j hc)⟩, ⟨upd X (k / 64) (X (k / 64) ||| 2 ^ (k % 64)), ?_, fun i hi => ?_⟩, fun j hj hc => ?_, fun i j hi hj hci hcj hij => h.dj i j hi hj (hpos i hci) (hpos j hcj) hij,
    ⟨h.bs.1, h.bs.2.1, h.bs.2.2.1, h.bs.2.2.2.1, fun j hj hc => h.bs.2.2.2.2 j hj (hpos j hc)⟩, h.nn⟩
  · rw [frees_up C k 0 (by omega) rfl n hk]
    exact ((h.hd.far (fun e => ncp e.symm) _).far (fun e => nfp e.symm) _).set_ 3 _
  · refine Row.far ?_ ncp _
    refine Row.far ?_ (fun e => nfc e.symm) _
    have h1 := h.cc.set_ k (.int .i64 ((0 : Nat) : Int))
    rw [upd_comp (fun x : Nat => Value.int .i64 (x : Int))] at h1
    exact h1
  · refine Row.far ?_ nfp _
    have h1 := (hX.far (p := ⟨c, k, none⟩) nfc (.int .i64 0)).set_ (k / 64) (.int .u64 ((X (k / 64) ||| 2 ^ (k % 64) : Nat) : Int))
    rw [upd_comp (fun x : Nat => Value.int .u64 (x : Int))] at h1
    exact h1
  · by_cases e : i = k / 64
    · subst e
      obtain ⟨h1, h2⟩ := hX2 _ hi
      obtain ⟨h3, h4⟩ := or_bit h1 (show k % 64 < 64 by omega)
      rw [upd_same]
      refine ⟨h3, fun j hj => ?_⟩
      rw [h4, h2 j hj]
      by_cases e : k % 64 = j
      · have ek : k / 64 * 64 + j = k := by omega
        rw [ek, upd_same]; simp [e, hk]
      · rw [upd_other _ _ (by omega)]; simp [e]
    · rw [upd_other _ _ e]
      obtain ⟨h1, h2⟩ := hX2 i hi
      refine ⟨h1, fun j hj => ?_⟩
      rw [h2 j hj, upd_other _ _ (by omega)]
  · have hr := h.fr j hj (hpos j hc)
    have m1 := hr.ne_ hX (by decide)
    have m2 := hr.ne_blk h.hd (by decide)
    have m3 := hr.ne_ h.cc (by decide)
    exact ((hr.far m3 _).far m1 _).far m2 _

theorem KF.setc {W : World} {c k : Nat} {v : Value} : KF c W (W.setCell ⟨c, k, none⟩ v) := fun g t cs hb _ _ _ _ nc => hb.far nc _

def erA (C : Nat → Nat) (n : Nat) (x : Int) : Int := if tkB C n x then 0 else 1
def upC (C : Nat → Nat) (n : Nat) (x : Int) : Nat → Nat := if tkB C n x then upd C x.toNat (C x.toNat + 1) else C
def dnC (C : Nat → Nat) (n : Nat) (x : Int) : Nat → Nat := if tkB C n x then upd C x.toNat (C x.toNat - 1) else C

set_option maxHeartbeats 800000 in
theorem up_any {B p c b f n : Nat} {C Fb : Nat → Nat} {D : Nat → Nat → Nat} (x : Int) (w : World) (h : PM B w p c b f n C Fb D) (hC : ∀ k, C k < 4611686018427387904) :
    Calls Tryd.prog 20 #[.pointer (some ⟨p, 0, none⟩), .int .i64 x] w fun e w' => e = .returned (.int .i64 (erA C n x)) ∧
      PM B w' p c b f n (upC C n x) Fb D ∧ KF c w w' ∧ Below B w w' := by
  have hn := h.nn
  have H := Lib.hid h
  obtain ⟨k0, k1, k2, k3⟩ := h.head
  cases hx : tkB C n x
  · rw [erA, upC, hx]
    have HX := Lib.hid hx
    clear h hx k0 k1 k2 k3
    go_enter Tryd.func20, Tryd.ntmps20
    go_wp2_with fail
    refine (taken_any x _ H.out).mono ?_
    rw [HX.out]
    rintro e w' ⟨rfl, rfl⟩
    go_wp2_with fail
    go_ret
    exact ⟨rfl, H.out, KF.refl _ _, Below.refl _ _⟩
  · rw [erA, upC, hx, if_pos rfl, if_pos rfl]
    have HX := Lib.hid hx
    obtain ⟨k, rfl, hk, hc⟩ := tkB_yes hx
    rw [Int.toNat_natCast]
    have hg := h.cc.get hk
    have fg := h.cc.free k
    have hb := hC k
    have pm := Lib.hid (PM.setC h hk hc (show 0 < C k + 1 by omega))
    obtain ⟨ck, hck⟩ : ∃ ck, ck = C k := ⟨_, rfl⟩
    obtain ⟨ck', hck'⟩ : ∃ ck', ck' = C k + 1 := ⟨_, rfl⟩
    rw [← hck'] at pm ⊢
    rw [← hck] at hg hb
    have hw : (ck : Int) + 1 = (ck' : Int) := by omega
    have hw2 : IntKind.i64.wrap (ck' : Int) = (ck' : Int) := IntWalk.i64_in _ (by omega)
    clear h hx k1 k2 k3 hck hck' hc hC
    go_enter Tryd.func20, Tryd.ntmps20
    go_wp2_with fail
    refine (taken_any k _ H.out).mono ?_
    rw [HX.out]
    rintro e w' ⟨rfl, rfl⟩
    go_wp2_with fail
    go_ret
    exact ⟨rfl, pm.out, KF.setc, (Below.refl B w).setCell (p := ⟨c, k, none⟩) H.out.bs.2.1 _⟩
set_option maxRecDepth 20000 in
set_option maxHeartbeats 1600000 in
theorem down_any {B p c b f n : Nat} {C Fb : Nat → Nat} {D : Nat → Nat → Nat} (x : Int) (w : World) (h : PM B w p c b f n C Fb D) (hC : ∀ k, C k < 4611686018427387904) :
    Calls Tryd.prog 21 #[.pointer (some ⟨p, 0, none⟩), .int .i64 x] w fun e w' => e = .returned (.int .i64 (erA C n x)) ∧
      PM B w' p c b f n (dnC C n x) Fb D ∧ KF c w w' ∧ Below B w w' := by
  have hn := h.nn
  have H := Lib.hid h
  obtain ⟨k0, k1, k2, k3⟩ := h.head
  cases hx : tkB C n x
  · rw [erA, dnC, hx]
    have HX := Lib.hid hx
    clear h hx k0 k1 k2 k3
    go_enter Tryd.func21, Tryd.ntmps21
    go_wp2_with fail
    refine (taken_any x _ H.out).mono ?_
    rw [HX.out]
    rintro e w' ⟨rfl, rfl⟩
    go_wp2_with fail
    go_ret
    exact ⟨rfl, H.out, KF.refl _ _, Below.refl _ _⟩
  · rw [erA, dnC, hx, if_pos rfl, if_pos rfl]
    have HX := Lib.hid hx
    obtain ⟨k, rfl, hk, hc⟩ := tkB_yes hx
    rw [Int.toNat_natCast]
    have hg := h.cc.get hk
    have fg := h.cc.free k
    have hb := hC k
    obtain ⟨ck, hck⟩ : ∃ ck, ck = C k := ⟨_, rfl⟩
    rw [← hck] at hg hb
    have hck1 : 1 ≤ ck := by omega
    obtain ⟨cd, rfl⟩ : ∃ cd, ck = cd + 1 := ⟨ck - 1, by omega⟩
    have hw0 : ((cd + 1 : Nat) : Int) - 1 = (cd : Int) := by omega
    have ncp := h.cc.ne_blk h.hd (by decide)
    by_cases h1 : cd = 0
    · subst h1
      rw [show C k - 1 = 0 by omega]
      obtain ⟨X, hX, hX2⟩ := h.ff
      have nc := hX.ne_ h.cc (by decide)
      have np := hX.ne_blk h.hd (by decide)
      obtain ⟨q, hq⟩ : ∃ q, q = k / 64 := ⟨_, rfl⟩
      obtain ⟨r, hr⟩ : ∃ r, r = k % 64 := ⟨_, rfl⟩
      obtain ⟨y, hy⟩ : ∃ y, y = X (k / 64) := ⟨_, rfl⟩
      obtain ⟨pw, hpw⟩ : ∃ pw, pw = 2 ^ (k % 64) := ⟨_, rfl⟩
      obtain ⟨nw, hnw⟩ : ∃ nw, nw = (n + 63) / 64 := ⟨_, rfl⟩
      obtain ⟨fr, hfr⟩ : ∃ fr, fr = frees C n := ⟨_, rfl⟩
      have hqn : q < nw := by omega
      have hnw16 : nw ≤ 16 := by omega
      have kx := hX.get (show q < (n + 63) / 64 by omega)
      have fx := hX.free q
      have hx64 := (hX2 q (by omega)).1
      have fp := h.hd.frozen 3
      rw [← hnw] at k2
      rw [← hfr] at k3
      have hfrn : fr ≤ n := by rw [hfr]; exact frees_le C n
      have pm := Lib.hid (PM.give (H.out.next (Below.refl _ _).drew) hk hc (row_drew hX) hX2)
      have hor : bits .or .u64 (y : Int) (pw : Int) = ((y ||| pw : Nat) : Int) := by
        have h1 : 2 ^ (k % 64) < 2 ^ 64 := Nat.pow_lt_pow_right (by omega) (by omega)
        rw [u64_or_nat y pw (by rw [hy, ← hq]; exact hx64) (by omega)]
      have hsh : IntKind.u64.wrap (2 ^ r) = (pw : Int) := by
        have h1 : 2 ^ (k % 64) < 2 ^ 64 := Nat.pow_lt_pow_right (by omega) (by omega)
        rw [IntKind.wrap_u64, hpw, hr]
        have : (2 : Int) ^ (k % 64) = ((2 ^ (k % 64) : Nat) : Int) := by simp
        rw [this]; omega
      rw [← hy, ← hpw, ← hq, ← hfr] at pm
      rw [hq, ← hy, ← hq] at kx
      have hq1 : (k : Int).tdiv 64 = (q : Int) := by rw [Int.tdiv_eq_ediv_of_nonneg (by omega)]; omega
      have hq2 : (k : Int) / 64 = (q : Int) := by omega
      have hr1 : (k : Int).tmod 64 = (r : Int) := by rw [Int.tmod_eq_emod_of_nonneg (by omega)]; omega
      have hr2 : (k : Int) % 64 = (r : Int) := by omega
      have hr64 : r < 64 := by omega
      have hwq : IntKind.i64.wrap (q : Int) = (q : Int) := IntWalk.i64_in _ (by omega)
      have hwr : IntKind.i64.wrap (r : Int) = (r : Int) := IntWalk.i64_in _ (by omega)
      obtain ⟨fs, hfs⟩ : ∃ fs, fs = fr + 1 := ⟨_, rfl⟩
      rw [← hfs] at pm
      have hfi : (fr : Int) + 1 = (fs : Int) := by omega
      have hfi2 : IntKind.i64.wrap (fs : Int) = (fs : Int) := IntWalk.i64_in _ (by omega)
      have lp := h.hd.lt; have lc := h.cc.lt; have lf := hX.lt
      have HX2 := Lib.hid hX; have HX3 := Lib.hid hX2
      clear h hx k1 hw0 hck1 hb hfs hq hr hy hpw hnw hfr hx64 hX hX2 hck hc hC
      go_enter Tryd.func21, Tryd.ntmps21
      go_wp2_with fail
      refine (taken_any k _ H.out).mono ?_
      rw [HX.out]
      rintro e w' ⟨rfl, rfl⟩
      go_wp2_with fail
      have kxd : (w.setCell ⟨c, k, none⟩ (.int .i64 0)).cell? ⟨f, q, none⟩ = some (.int .u64 (y : Int)) := (World.cell?_setCell_other w ⟨c, k, none⟩ ⟨f, q, none⟩ _ (fun e => nc (by injection e with e; exact e.symm))).trans kx
      have k2d : (w.setCell ⟨c, k, none⟩ (.int .i64 0)).cell? ⟨p, 2, none⟩ = some (.slice (some ⟨f, 0, none⟩) nw nw) := (World.cell?_setCell_other w ⟨c, k, none⟩ ⟨p, 2, none⟩ _ (fun e => ncp (by injection e))).trans k2
      have k3d : (w.setCell ⟨c, k, none⟩ (.int .i64 0)).cell? ⟨p, 3, none⟩ = some (.int .i64 (fr : Int)) := (World.cell?_setCell_other w ⟨c, k, none⟩ ⟨p, 3, none⟩ _ (fun e => ncp (by injection e))).trans k3
      have fxd : (w.setCell ⟨c, k, none⟩ (.int .i64 0)).frozen? ⟨f, q, none⟩ = false := (World.frozen?_setCell _ _ _ _).trans fx
      have fpd : (w.setCell ⟨c, k, none⟩ (.int .i64 0)).frozen? ⟨p, 3, none⟩ = false := (World.frozen?_setCell _ _ _ _).trans fp
      have lpd : p < (w.setCell ⟨c, k, none⟩ (.int .i64 0)).heap.size := by simpa [World.setCell] using lp
      have lfd : f < (w.setCell ⟨c, k, none⟩ (.int .i64 0)).heap.size := by simpa [World.setCell] using lf
      have kf : KF c w (((World.drew (w.setCell ⟨c, k, none⟩ (.int .i64 0))).setCell ⟨f, q, none⟩ (.int .u64 ((y ||| pw : Nat) : Int))).setCell ⟨p, 3, none⟩ (.int .i64 (fs : Int))) := by
        obtain ⟨c1, b1, _⟩ := HX2.out
        exact fun g t cs hb a1 a2 a3 a4 a5 => ((hb.far a5 _).far (hb.ne_ b1 (by exact a2)) _).far (hb.ne_ H.out.hd a1) _
      have bl : Below B w (((World.drew (w.setCell ⟨c, k, none⟩ (.int .i64 0))).setCell ⟨f, q, none⟩ (.int .u64 ((y ||| pw : Nat) : Int))).setCell ⟨p, 3, none⟩ (.int .i64 (fs : Int))) :=
        (((Below.refl B w).setCell (p := ⟨c, k, none⟩) H.out.bs.2.1 _).drew.setCell (p := ⟨f, q, none⟩) H.out.bs.2.2.2.1 _).setCell (p := ⟨p, 3, none⟩) H.out.bs.1 _
      have E := Lib.hid (And.intro pm.out (And.intro kf bl))
      change Hid (PM B (((World.drew (w.setCell ⟨c, k, none⟩ (.int .i64 0))).setCell ⟨f, q, none⟩ (.int .u64 ((y ||| pw : Nat) : Int))).setCell ⟨p, 3, none⟩ (.int .i64 (fs : Int))) p c b f n (upd C k 0) Fb D ∧ _ ∧ _) at E
      clear kx k2 k3 fx fp lp lf kf bl pm hg fg
      generalize (w.setCell ⟨c, k, none⟩ (.int .i64 0)) = w1 at *
      have kxe := drewc kxd
      have k2e := drewc k2d
      go_still_tail 13, (by kernel_rfl)
      change wpList _ _ _ _ _ w1.drew
      clear kxe k2e k2d
      go_wp2_with fail
      go_ret
      exact ⟨rfl, E.out⟩
    · obtain ⟨cz, hcz⟩ : ∃ cz, cz = cd - 1 := ⟨_, rfl⟩
      have pm := Lib.hid (PM.setC h hk hc (show 0 < cd by omega))
      rw [show C k - 1 = cd by omega]
      have e0 : ((cd : Int) == 0) = false := by simp; omega
      have hw2 : IntKind.i64.wrap (cd : Int) = (cd : Int) := IntWalk.i64_in _ (by omega)
      clear h hx k1 k2 k3 hck hc hC h1 hck1 hcz
      go_enter Tryd.func21, Tryd.ntmps21
      go_wp2_with fail
      refine (taken_any k _ H.out).mono ?_
      rw [HX.out]
      rintro e w' ⟨rfl, rfl⟩
      go_wp2_with fail
      go_ret
      exact ⟨rfl, pm.out, KF.setc, (Below.refl B w).setCell (p := ⟨c, k, none⟩) H.out.bs.2.1 _⟩
end Go.Proofs.YtgikfjfinjcfmaaDoor
