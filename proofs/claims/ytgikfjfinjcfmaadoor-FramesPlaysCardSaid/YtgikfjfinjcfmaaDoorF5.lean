import Derived.Test.YtgikfjfinjcfmaaDoorF4
namespace Go.Proofs.YtgikfjfinjcfmaaDoor
open Go.RowKit Go.Hos
set_option linter.unusedVariables false

theorem TB.keep {W W' : World} (h : TB W) (hb : W'.heap[0]? = W.heap[0]?) : TB W' := fun i hi => by
  obtain ⟨v, h1, h2⟩ := h i hi
  exact ⟨v, h1, (World.cell?_of_block (a := ⟨0, i, none⟩) hb).trans h2⟩
theorem TB.below {B : Nat} {W W' : World} (h : TB W) (hb : Below B W W') (hB : 0 < B) : TB W' := h.keep (hb.block 0 hB)

def takeN (C : Nat → Nat) (n : Nat) : Int := if tf C n < n then (tf C n : Int) else 0
def takeE (C : Nat → Nat) (n : Nat) : Int := if tf C n < n then 0 else 4
def takeC (C : Nat → Nat) (n : Nat) : Nat → Nat := if tf C n < n then upd C (tf C n) 1 else C
def takeD (C : Nat → Nat) (n : Nat) (D : Nat → Nat → Nat) : Nat → Nat → Nat := if tf C n < n then upd D (tf C n) (fun _ => 0) else D

theorem KF.set5 {W : World} {p c b f : Nat} {a1 a2 a3 a4 : Nat} {v1 v2 v3 v4 : Value} {o : Obj} {t1 t2 t4 : TypeId} {c1 c2 c4 : Array Value}
    (h1 : Blk W f t1 c1) (h2 : Blk W p t2 c2) (h4 : Blk W b t4 c4) (e1 : t1 = 65) (e2 : t2 = 64) (e4 : t4 = 67) :
    KF c W (((((W.setCell ⟨f, a1, none⟩ v1).setCell ⟨p, a2, none⟩ v2).setCell ⟨c, a3, none⟩ v3).setCell ⟨b, a4, none⟩ v4).alloc o) := by
  intro g t cs hb n64 n65 n67 n69 nc
  have x1 := hb.ne_ h1 (fun e => n65 (e.trans e1))
  have x2 := hb.ne_ h2 (fun e => n64 (e.trans e2))
  have x4 := hb.ne_ h4 (fun e => n67 (e.trans e4))
  exact ((((hb.far x1 _).far x2 _).far nc _).far x4 _).alloc _

set_option maxRecDepth 20000 in
set_option maxHeartbeats 1600000 in
theorem take_any {B p c b f n : Nat} {C Fb : Nat → Nat} {D : Nat → Nat → Nat} (w : World) (h : PM B w p c b f n C Fb D) (hB : B ≤ w.heap.size) (ht : TB w) :
    Calls Tryd.prog 19 #[.pointer (some ⟨p, 0, none⟩)] w fun e w' => e = .returned (.tuple #[.int .i64 (takeN C n), .int .i64 (takeE C n)]) ∧
      (∃ Fb', PM B w' p c b f n (takeC C n) Fb' (takeD C n D)) ∧ KF c w w' ∧ Below B w w' := by
  have hnn := h.nn
  obtain ⟨X, hX, hX2⟩ := h.ff
  obtain ⟨P, hP, hP2⟩ := h.bb
  obtain ⟨nw, hnw⟩ : ∃ nw, nw = (n + 63) / 64 := ⟨_, rfl⟩
  obtain ⟨k0, k1, k2, k3⟩ := h.head
  rw [← hnw] at k2
  have H := Lib.hid h
  have HX : Hid (Row w f 65 ((n + 63) / 64) (fun i => .int .u64 (X i))) := hX
  have HX2 := Lib.hid hX2
  have HP := Lib.hid hP
  have HT := Lib.hid ht
  have HNW := Lib.hid hnw
  have hnw16 : nw ≤ 16 := by omega
  clear h hX hX2 hP hP2 ht hnw k0 k1 k3
  go_enter Tryd.func19, Tryd.ntmps19
  go_wp2_with fail
  go_loop [14] (fun v => ∃ i : Nat, i ≤ nw ∧ v = .int .i64 i ∧ Hid (∀ k, k < i * 64 → k < n → C k ≠ 0)) (fun v => nw - (intOf v).toNat)
  case atStart => exact ⟨0, by omega, rfl, fun k hk => absurd hk (by omega)⟩
  case round =>
    obtain ⟨i, hi, rfl, hall⟩ := hrel
    by_cases hin : i < nw
    · have e1 : decide ((i : Int) < (nw : Int)) = true := by simp; omega
      have hin' : i < (n + 63) / 64 := by have := HNW.out; omega
      have hxc := HX.out.get hin'
      obtain ⟨hx64, hxb⟩ := HX2.out i hin'
      obtain ⟨x, hx⟩ : ∃ x, x = X i := ⟨_, rfl⟩
      rw [← hx] at hxc hx64
      by_cases hx0 : x = 0
      · have hz : ((x : Int) == 0) = true := by simp [hx0]
        have hall' : Hid (∀ k, k < (i + 1) * 64 → k < n → C k ≠ 0) := fun k hk hkn => by
          by_cases e : k < i * 64
          · exact hall.out k e hkn
          · have hb := hxb (k - i * 64) (by omega)
            rw [← hx, hx0, Nat.zero_testBit, show i * 64 + (k - i * 64) = k by omega] at hb
            intro e0
            exact absurd ⟨hkn, e0⟩ (of_decide_eq_false hb.symm)
        clear hx0 hx hxb
        go_wp2_with fail
        go_round
        case rel => exact ⟨i + 1, by omega, by go_num, hall'⟩
        case measure => simp [intOf]; omega
      · obtain ⟨r, hr64, hr1, hr2⟩ := exists_low x hx0 hx64
        obtain ⟨k, hk⟩ : ∃ k, k = i * 64 + r := ⟨_, rfl⟩
        have hkb := hxb r hr64
        rw [← hx, hr1] at hkb
        obtain ⟨hkn, hk0⟩ := of_decide_eq_true hkb.symm
        rw [← hk] at hkn hk0
        have hkt : tf C n = k := by
          refine tf_eq (by omega) (fun j hj => ?_) (fun _ => hk0)
          by_cases e : j < i * 64
          · exact hall.out j e (by omega)
          · have hb := hxb (j - i * 64) (by omega)
            rw [← hx, hr2 _ (by omega), show i * 64 + (j - i * 64) = j by omega] at hb
            intro e0
            exact absurd ⟨by omega, e0⟩ (of_decide_eq_false hb.symm)
        have hz : ((x : Int) == 0) = false := by simpa using hx0
        have HR1 := Lib.hid hr1; have HR2 := Lib.hid hr2; have HKT := Lib.hid hkt
        have HX0 := Lib.hid hx; have HK := Lib.hid hk
        have hki : (i : Int) * 64 + (r : Int) = (k : Int) := by omega
        obtain ⟨pw, hpw⟩ : ∃ pw, pw = 2 ^ r := ⟨_, rfl⟩
        obtain ⟨x', hx'⟩ : ∃ x', x' = x &&& (18446744073709551615 - pw) := ⟨_, rfl⟩
        have hp64 : 2 ^ r < 2 ^ 64 := Nat.pow_lt_pow_right (by omega) hr64
        have han : bits .andNot .u64 (x : Int) (pw : Int) = (x' : Int) := by rw [u64_andNot_nat x pw hx64 (by omega), hx']
        have hsh : IntKind.u64.wrap (2 ^ r) = (pw : Int) := by
          rw [IntKind.wrap_u64, hpw]
          have : (2 : Int) ^ r = ((2 ^ r : Nat) : Int) := by simp
          rw [this]; omega
        have hr1' : (k : Int).tmod 64 = (r : Int) := by rw [Int.tmod_eq_emod_of_nonneg (by omega)]; omega
        have hr2' : (k : Int) % 64 = (r : Int) := by omega
        have hwr : IntKind.i64.wrap (r : Int) = (r : Int) := IntWalk.i64_in _ (by omega)
        obtain ⟨fr, hfr⟩ : ∃ fr, fr = frees C n := ⟨_, rfl⟩
        obtain ⟨fr', hfr'⟩ : ∃ fr', fr' = frees (upd C k 1) n := ⟨_, rfl⟩
        have hfd : fr' + 1 = fr := by rw [hfr, hfr']; exact frees_down C k 1 hk0 (by omega) n hkn
        have hfrn : fr ≤ n := by rw [hfr]; exact frees_le C n
        have hfi : (fr : Int) - 1 = (fr' : Int) := by omega
        have hfr1 : 1 ≤ fr := by omega
        have k0 := H.out.head.1; have k1 := H.out.head.2.1; have k3 := H.out.head.2.2.2
        rw [← hfr] at k3
        have qc := H.out.cc.get hkn; have qb := HP.out.get hkn
        have fc := H.out.cc.free k; have fb := HP.out.free k; have ff := HX.out.free i; have fp := H.out.hd.frozen 3
        have n1 := HX.out.ne_blk H.out.hd (by decide)
        have n2 := HX.out.ne_ H.out.cc (by decide)
        have n3 := HX.out.ne_ HP.out (by decide)
        have n4 := H.out.cc.ne_blk H.out.hd (by decide)
        have n5 := H.out.cc.ne_ HP.out (by decide)
        have n6 := HP.out.ne_blk H.out.hd (by decide)
        have l1 := H.out.hd.lt; have l2 := H.out.cc.lt; have l3 := HP.out.lt; have l4 := HX.out.lt
        have pm : Hid (PM B (((((w.drew.setCell ⟨f, i, none⟩ (.int .u64 (x' : Int))).setCell ⟨p, 3, none⟩ (.int .i64 (fr' : Int))).setCell ⟨c, k, none⟩ (.int .i64 1)).setCell ⟨b, k, none⟩ (.pointer (some ⟨w.heap.size, 0, none⟩))).alloc (.cells z4 69))
            p c b f n (upd C k 1) (upd Fb k w.heap.size) (upd D k fun _ => 0)) := by
          have h1 := PM.take (H.out.next (Below.refl _ _).drew) hB hkn hk0 (row_drew HX.out) HX2.out
          rw [show k / 64 = i by omega, show k % 64 = r by omega, ← hx, ← hpw, ← hx', ← hfr'] at h1
          exact h1
        have E : Hid (takeN C n = k ∧ takeE C n = 0 ∧ takeC C n = upd C k 1 ∧ takeD C n D = upd D k (fun _ => 0)) := by
          show _ ∧ _
          unfold takeN takeE takeC takeD
          rw [hkt, if_pos hkn, if_pos hkn, if_pos hkn, if_pos hkn]
          exact ⟨rfl, rfl, rfl, rfl⟩
        have HK0 := Lib.hid hk0
        clear hx0 hx hxb hr1 hr2 hkt hk hkb hk0 hpw hx' hp64 hfr hfr' hfd
        go_wp2_with fail
        refine (tz_any x r hx64 HR1.out HR2.out _ HT.out).mono ?_
        rintro e w1 ⟨rfl, rfl⟩
        go_wp2_with fail
        have k2d := drewc k2
        have xcd := drewc hxc
        go_still_tail 12, (by kernel_rfl)
        change wpList _ _ _ _ _ w.drew
        clear k2d xcd hr1' hr2' hsh han
        have hz69 : ∀ w, Sem.run Tryd.prog (zeroValue 69) w = .ok (.agg z4) w := fun _ => by kernel_rfl
        go_wp2_with fail
        go_ret2
        refine ⟨by rw [E.out.1, E.out.2.1]; rfl, ⟨upd Fb k w.heap.size, ?_⟩, ?_, ?_⟩
        · rw [E.out.2.2.1, E.out.2.2.2]
          exact pm.out
        · obtain ⟨c1, b1, _⟩ := HX.out
          obtain ⟨c2, b2, _⟩ := HP.out
          exact fun g t cs hb a1 a2 a3 a4 a5 => KF.set5 (W := w) b1 H.out.hd b2 rfl rfl rfl g t cs hb a1 a2 a3 a4 a5
        · obtain ⟨g1, g2, g3, g4, _⟩ := H.out.bs
          exact ((((((Below.refl B w).setCell (p := ⟨f, i, none⟩) g4 _).setCell (p := ⟨p, 3, none⟩) g1 _).setCell (p := ⟨c, k, none⟩) g2 _).setCell (p := ⟨b, k, none⟩) g3 _).alloc (by simp [World.setCell]; exact hB) _).drew
    · obtain rfl : i = nw := by omega
      have hf : tf C n = n := tf_eq (Nat.le_refl _) (fun j hj => hall.out j (by have := HNW.out; omega) hj) (fun h => absurd h (by omega))
      have E : Hid (takeN C n = 0 ∧ takeE C n = 4 ∧ takeC C n = C ∧ takeD C n D = D) := by
        show _ ∧ _
        unfold takeN takeE takeC takeD
        rw [hf]
        simp
      clear hf
      go_wp2_with fail
      go_ret2
      refine ⟨by rw [E.out.1, E.out.2.1]; rfl, ⟨Fb, ?_⟩, KF.refl _ _, Below.refl _ _⟩
      rw [E.out.2.2.1, E.out.2.2.2]
      exact H.out
end Go.Proofs.YtgikfjfinjcfmaaDoor
