import Derived.Test.YtaeccpoljenjmaaL4
namespace Go.Proofs.Ytaeccpoljenjmaa
open Go.RowKit Go.Hos
set_option linter.unusedVariables false

theorem tmod_bd (x : Int) (m : Nat) (hm : 1 ≤ m) : -(m : Int) < x.tmod m ∧ x.tmod m < m := by
  have hm0 : (0 : Int) < m := by omega
  by_cases h : 0 ≤ x
  · rw [Int.tmod_eq_emod_of_nonneg h]
    have := Int.emod_nonneg x (show (m : Int) ≠ 0 by omega)
    have := Int.emod_lt_of_pos x hm0
    omega
  · have e : x.tmod m = -((-x).tmod m) := by rw [Int.neg_tmod]; omega
    rw [e, Int.tmod_eq_emod_of_nonneg (by omega)]
    have := Int.emod_nonneg (-x) (show (m : Int) ≠ 0 by omega)
    have := Int.emod_lt_of_pos (-x) hm0
    omega
theorem tmod_idx (x : Int) (m : Nat) (hm : 1 ≤ m) : ∃ j : Nat, (x.tmod m + m).tmod m = j ∧ j < m := by
  obtain ⟨h1, h2⟩ := tmod_bd x m hm
  have e : (x.tmod m + m).tmod m = (x.tmod m + m) % m := Int.tmod_eq_emod_of_nonneg (by omega)
  have h3 := Int.emod_nonneg (x.tmod m + m) (show (m : Int) ≠ 0 by omega)
  have h4 := Int.emod_lt_of_pos (x.tmod m + m) (show (0 : Int) < m by omega)
  obtain ⟨j, hj⟩ := Int.eq_ofNat_of_zero_le h3
  exact ⟨j, e.trans hj, by rw [hj] at h4; omega⟩
/-- the box of the pair, the op's cells -/
abbrev PB (gb a b : Nat) (ad : Addr) (k : Nat) (o : OpD) (W : World) : Prop :=
  W.cell? ⟨gb, 0, none⟩ = some (.pointer (some ⟨a, 0, none⟩)) ∧ W.cell? ⟨gb, 1, none⟩ = some (.pointer (some ⟨b, 0, none⟩)) ∧ W.cell? (ad.add (k * 6)) = some (.int .i64 o.d) ∧ W.cell? ⟨(ad.add (k * 6)).block, (ad.add (k * 6)).off + 1, none⟩ = some (.int .i64 o.t) ∧
    W.cell? ⟨(ad.add (k * 6)).block, (ad.add (k * 6)).off + 2, none⟩ = some (.int .i64 o.f) ∧ W.cell? ⟨(ad.add (k * 6)).block, (ad.add (k * 6)).off + 3, none⟩ = some (.int .i64 o.i) ∧ W.cell? ⟨(ad.add (k * 6)).block, (ad.add (k * 6)).off + 4, none⟩ = some (.int .i64 o.p) ∧
    W.cell? ⟨(ad.add (k * 6)).block, (ad.add (k * 6)).off + 5, none⟩ = some (.bool o.x)
structure PX (w : World) (gb a b : Nat) (m : Nat) (A : Option Addr) (c : Nat) (gt gx ga ca : Nat → Nat) (Ts : Nat → Nat → Sl) (W : World) : Prop where
  ps : PS w m A c gt gx ga ca Ts W
  bx : Blk W gb 41 #[.pointer (some ⟨a, 0, none⟩), .pointer (some ⟨b, 0, none⟩)]
section
variable {w W W' : World} {gb a b j m c k n : Nat} {A : Option Addr} {gt gx ga ca : Nat → Nat} {Ts : Nat → Nat → Sl} {ad : Addr} {O : Nat → OpD}
theorem PX.next (h : PX w gb a b m A c gt gx ga ca Ts W) (hb : Below W.heap.size W W') : PX w gb a b m A c gt gx ga ca Ts W' := ⟨h.ps.next hb, h.bx.below hb h.bx.lt⟩
theorem PX.cells (h : Hid (PX w gb a b m A c gt gx ga ca Ts W)) (H : Hid (OpR w w.heap.size (some ad) n O)) (hk : k < n) : PB gb a b ad k (O k) W :=
  ⟨(h.out.bx.cell 0).trans rfl, (h.out.bx.cell 1).trans rfl, H.out.of h.out.ps.low hk⟩
theorem PX.cells2 {V : World} (h : Hid (PX w gb a b m A c gt gx ga ca Ts V)) (hb : Below V.heap.size V W) (H : Hid (OpR w w.heap.size (some ad) n O)) (hk : k < n) : PB gb a b ad k (O k) W :=
  PX.cells (Lib.hid (h.out.next hb)) H hk
theorem PX.does (h : Hid (PX w gb a b m A c gt gx ga ca Ts W)) (hj : j < m) (ha : gt j = a) (hb : gx j = b) (o : OpD) :
    Calls Try.prog 15 #[.agg #[.pointer (some ⟨a, 0, none⟩), .pointer (some ⟨b, 0, none⟩)], .agg #[.int .i64 o.d, .int .i64 o.t, .int .i64 o.f, .int .i64 o.i, .int .i64 o.p, .bool o.x]] W
      fun e w' => e = .returned (.bool true) ∧ Hid (PX w gb a b m A c gt gx ga ca (upd Ts j (stepT (Ts j) o)) w') := by
  subst ha hb
  refine (does_any (gt j) (gx j) (ga j) (ca j) o (Ts j) W (h.out.ps.tb j hj) (h.out.ps.rt j hj)).mono ?_
  rintro e w' ⟨rfl, ht, hr, hf⟩
  have n1 := (h.out.ps.tb j hj).ne_blk h.out.bx (by decide)
  have n2 := (h.out.ps.rt j hj).sb.ne_blk h.out.bx (by decide)
  exact ⟨rfl, h.out.ps.step hj hf ht hr, (hf.block _ h.out.bx.lt (fun e => n1 e.symm) (fun e => n2 e.symm)).trans h.out.bx⟩
end
section
variable {w V W : World} {gb a b m c k n : Nat} {A : Option Addr} {gt gx ga ca : Nat → Nat} {Ts : Nat → Nat → Sl} {ad : Addr} {O : Nat → OpD} {T : Nat → Sl} {s : Option Nat} {r : Option (Nat × Nat × Nat)} {q : Option Nat}
theorem FK.keep (h : Hid (PX w gb a b m A c gt gx ga ca Ts V)) (hk : Hid (FK V T s r q W)) (H : Hid (OpR w w.heap.size (some ad) n O)) (hn : k < n) : PB gb a b ad k (O k) W :=
  PX.cells2 h hk.out.low H hn
theorem FK.keepA (h : Hid (PX w gb a b m A c gt gx ga ca Ts V)) (hk : Hid (FK V T s r q W)) (H : Hid (OpR w w.heap.size (some ad) n O)) (hn : k < n) {o : Obj} : PB gb a b ad k (O k) (W.alloc o) :=
  PX.cells2 h (hk.out.low.alloc hk.out.low.size o) H hn
theorem FK.keepB {b' : Nat} {u v : Value} (h : Hid (PX w gb a b m A c gt gx ga ca Ts V)) (hk : Hid (FK V T s r (some b') W)) (H : Hid (OpR w w.heap.size (some ad) n O)) (hn : k < n) : PB gb a b ad k (O k) ((W.setCell ⟨b', 0, none⟩ u).setCell ⟨b', 1, none⟩ v) :=
  PX.cells2 h ((hk.out.low.setCell (p := ⟨b', 0, none⟩) (hk.out.q_ b' rfl).1 u).setCell (p := ⟨b', 1, none⟩) (hk.out.q_ b' rfl).1 v) H hn
end
theorem info41 : (Try.prog.info? 41).map (fun i => (i.zero, i.size, i.bytes)) = some (some (.agg #[.pointer none, .pointer none]), 2, 16) := by kernel_rfl
set_option maxRecDepth 20000 in
set_option maxHeartbeats 3200000 in
theorem plays_any (A0 : Option Addr) (n c0 : Nat) (O : Nat → OpD) (w : World) (h : OpR w w.heap.size A0 n O) (hn : n ≤ maxLen) :
    Calls Try.prog 4 #[.slice A0 n c0] w fun e w' => e = .returned (.bool true) ∧ Below w.heap.size w w' := by
  unfold maxLen at hn
  have H := Lib.hid h
  clear h
  go_enter Try.func4, Try.ntmps4
  go_wp2_with fail
  refine (new_any _).mono ?_
  rintro e w1 ⟨gt0, rfl, hg, hs, hb⟩
  have s1 : Hid (SB w1 gt0 50 16 emptyT ∧ Below w.heap.size w w1) := ⟨hs, hb⟩
  have hz1 : w.heap.size ≤ w1.heap.size := hb.size
  clear hs hb
  go_wp2_with fail
  refine (rnew_any _).mono ?_
  rintro e w2 ⟨gx0, ga0, ca0, rfl, hgx, hga, hr, hb⟩
  have hz2 : w1.heap.size ≤ w2.heap.size := hb.size
  have p0 : Hid (PS w 1 (some ⟨w2.heap.size, 0, none⟩) 1 (fun _ => gt0) (fun _ => gx0) (fun _ => ga0) (fun _ => ca0) (fun _ => emptyT) (w2.alloc (.cells #[.pointer (some ⟨gt0, 0, none⟩), .pointer (some ⟨gx0, 0, none⟩)] 41))) := by
    have b2 : Below w2.heap.size w2 (w2.alloc (.cells #[.pointer (some ⟨gt0, 0, none⟩), .pointer (some ⟨gx0, 0, none⟩)] 41)) := (Below.refl _ _).alloc (Nat.le_refl _) _
    refine ⟨?_, fun j _ => (s1.out.1.next hb).next b2, fun j _ => hr.next b2, fun i j hi hj hij => by omega, fun j _ => by omega, (s1.out.2.trans (hb.mono hz1)).trans (b2.mono (by omega))⟩
    exact World.ownsRow_lit (base := w.heap.size) (e := 41) (size := 2) w2 #[.pointer (some ⟨gt0, 0, none⟩), .pointer (some ⟨gx0, 0, none⟩)] 1 (by omega) (by simp [maxLen]) rfl
  have kc := (Blk.new w2 41 #[.pointer (some ⟨gt0, 0, none⟩), .pointer (some ⟨gx0, 0, none⟩)]).cell
  clear hr hb s1
  go_wp2_with fail
  generalize (w2.alloc (.cells #[.pointer (some ⟨gt0, 0, none⟩), .pointer (some ⟨gx0, 0, none⟩)] 41)) = W0 at *
  clear kc
  go_loopw [3, 4] (fun v i wr => ∃ (k m c : Nat) (A : Option Addr) (gt gx ga ca : Nat → Nat) (Ts : Nat → Nat → Sl), k ≤ n ∧ k ≤ 200 ∧ 1 ≤ m ∧ m ≤ 6 ∧ v = .slice A m c ∧ i = .int .i64 k ∧ Hid (PS w m A c gt gx ga ca Ts wr)) (fun _ i _ => 200 - (intOf i).toNat)
  case atStart => exact ⟨0, 1, 1, _, _, _, _, _, _, by omega, by omega, by omega, by omega, rfl, rfl, p0⟩
  case round =>
    obtain ⟨k, m, c, A, gt, gx, ga, ca, Ts, hk, hk2, hm1, hm6, rfl, rfl, t⟩ := hrel
    by_cases h1 : k < n ∧ k < 200
    · obtain ⟨h1, h2⟩ := h1
      obtain ⟨ad, rfl, q0, q1, q2, q3, q4, q5, hok⟩ := H.out.at_ t.out.low h1
      have e200 : decide ((k : Int) < 200) = true := by simp; omega
      obtain ⟨x, hx⟩ : ∃ x, x = (O k).t := ⟨_, rfl⟩
      rw [← hx] at q1
      have HX := Lib.hid hx
      obtain ⟨hy1, hy2⟩ := tmod_bd x m hm1
      obtain ⟨j, hji, hjm⟩ := tmod_idx x m hm1
      obtain ⟨y, hy⟩ : ∃ y, x.tmod (m : Int) = y := ⟨_, rfl⟩
      rw [hy] at hy1 hy2 hji
      have hjI : (j : Int) < (m : Int) := by omega
      have hj0 : (0 : Int) ≤ (j : Int) := by omega
      obtain ⟨g, rfl, r0, r1⟩ := t.out.cells hjm
      have y1 : -6 ≤ y := by omega
      have y2 : y ≤ 6 := by omega
      have had : (ad.add (k * 6)).block < wr.heap.size := block_lt_of_cell q0
      have x1 := Lib.hid (PX.next (W := wr.alloc (.cells #[.pointer (some ⟨gt j, 0, none⟩), .pointer (some ⟨gx j, 0, none⟩)] 41)) (gb := wr.heap.size) (a := gt j) (b := gx j) ⟨t.out.next ((Below.refl _ _).alloc (Nat.le_refl _) _), Blk.new _ _ _⟩ (Below.refl _ _).drew)
      clear hx hy1 hy2 q0 q1 q2 q3 q4 q5
      obtain ⟨q0, q1, q2, q3, q4, q5⟩ := H.out.of t.out.low h1
      rw [← HX.out] at q1
      by_cases d6 : (O k).d = 6
      · rw [d6] at q0
        have HD6 := Lib.hid d6
        clear d6
        by_cases hm : m < 6
        · have em6 : decide ((m : Int) < 6) = true := by simp; omega
          have V0 := Lib.hid (FK.start (wr.alloc (.cells #[.pointer (some ⟨gt j, 0, none⟩), .pointer (some ⟨gx j, 0, none⟩)] 41)).drew (Ts j))
          have V0a : Hid (FK (wr.alloc (.cells #[.pointer (some ⟨gt j, 0, none⟩), .pointer (some ⟨gx j, 0, none⟩)] 41)).drew (Ts j) none none (some (wr.alloc (.cells #[.pointer (some ⟨gt j, 0, none⟩), .pointer (some ⟨gx j, 0, none⟩)] 41)).heap.size) ((wr.alloc (.cells #[.pointer (some ⟨gt j, 0, none⟩), .pointer (some ⟨gx j, 0, none⟩)] 41)).alloc (.cells #[.pointer none, .pointer none] 41)).drew) := FK.al V0
          rw [World.size_alloc] at V0a
          have SV := Lib.hid (x1.out.ps.tb j hjm)
          have RV := Lib.hid (x1.out.ps.rt j hjm)
          have gw : g < wr.heap.size := by have := (t.out.own.lt g rfl).2; exact this
          go_upto_region 9 with fail
          go_cut [6] from 17 to 75 (fun v6 wx => ∃ gq g' gx' ga' ca', v6 = .pointer (some ⟨gq, 0, none⟩) ∧ Hid (FQ (wr.alloc (.cells #[.pointer (some ⟨gt j, 0, none⟩), .pointer (some ⟨gx j, 0, none⟩)] 41)).drew (Ts j) gq g' gx' ga' ca' wx))
          case first =>
            go_region_held3 (fun W' => PB wr.heap.size (gt j) (gx j) ad k (O k) W')
              (first
                | exact PX.cells (by assumption) H h1
                | exact FK.keep x1 (by assumption) H h1
                | exact FK.keepA x1 (by assumption) H h1
                | exact FK.keepB x1 (by assumption) H h1)
              (first
                | (go_at_call 13; refine (FK.c13 (by assumption) SV).mono ?_; rintro e w2 ⟨g', rfl, s2⟩)
                | (go_at_call 13; refine (FK.c13 (FK.al (by assumption)) SV).mono ?_; rintro e w2 ⟨g', rfl, s2⟩)
                | (go_at_call 14; refine (FK.c14 (by assumption) RV).mono ?_; rintro e w3 ⟨gx', ga', ca', rfl, s3⟩; (try obtain ⟨k0, k1, k2, k3⟩ := FK.qcells s3))
                | (go_at_call 14; refine (FK.c14 (FK.al (by assumption)) RV).mono ?_; rintro e w3 ⟨gx', ga', ca', rfl, s3⟩; obtain ⟨k0, k1, k2, k3⟩ := FK.qcells s3))
            all_goals
              go_wp2_with fail
              go_meet
              first
                | exact ⟨_, _, _, _, _, rfl, FQ.a (by assumption)⟩
                | exact ⟨_, _, _, _, _, rfl, FQ.b (by assumption)⟩
          case rest =>
          obtain ⟨gq, g', gx', ga', ca', rfl, fq⟩ := hcut
          obtain ⟨i0, hi0, hz0, hz1, hz2⟩ := info_parts info41
          have x2 := Lib.hid (x1.out.next fq.out.low)
          have kq := fq.out.q_.cell
          have bs : w.heap.size ≤ wc.heap.size := x2.out.ps.low.size
          have wz : wr.heap.size < wc.heap.size := by have := fq.out.low.size; simp at this; omega
          clear q0 q1 q2 q3 q4 q5 r0 r1 hy hji
          go_wp2_with (at_builtin
                       refine wpList_append_any _ rfl (.tmp 65) (.tmp 67) _ rfl w.heap.size 41 i0 _ 2 16 Try.underlying42 hi0 hz0 hz1 hz2 rfl (by omega) (.slice (some ⟨g, 0, none⟩) m c) m (prs gt gx m) rfl
                         (x2.out.ps.own.alloc _) (wc.heap.size + 1) (some ⟨wc.heap.size, 0, none⟩) 1 1 [.pointer (some ⟨g', 0, none⟩), .pointer (some ⟨gx', 0, none⟩)] rfl (reads_new wc 41 2 1 _ rfl rfl) (by simp [Value.oneCell']) (by simp only [maxLen]; omega) (by omega) (by simp; omega) ?_
                       intro v1 w5 hown1 hg1 hat1
                       clear kq
                       obtain ⟨A1, c1, rfl⟩ := ownsRow_val hown1
                       have x5 : Hid (PX w wr.heap.size (gt j) (gx j) (m + 1) A1 c1 (upd gt m g') (upd gx m gx') (upd ga m ga') (upd ca m ca') (upd Ts m (Ts j)) w5) := by
                         have bn : Below wc.heap.size wc (wc.alloc (.cells #[.pointer (some ⟨g', 0, none⟩), .pointer (some ⟨gx', 0, none⟩)] 41)) := (Below.refl _ _).alloc (Nat.le_refl _) _
                         have x3 := x2.out.next bn
                         refine ⟨PS.add x3.ps hg1 hown1 (fq.out.s_.2.next bn) (fq.out.r_.2.next bn) (fun i hi => ?_) ?_, x3.bx.grown hg1 (by simp [Value.ownBlock]; omega)⟩
                         · have h1 := (x1.out.ps.tb i hi).lt
                           have h2 := (x1.out.ps.rt i hi).sb.lt
                           have h3 := fq.out.s_.1
                           have h4 := fq.out.r_.1
                           omega
                         · have h1 := x1.out.ps.low.size
                           have h3 := fq.out.s_.1
                           have h4 := fq.out.r_.1
                           omega
                       have x5d := Lib.hid (x5.out.next (Below.refl _ _).drew)
                       clear hown1 hg1 hat1 x2 fq)
          go_region_held3 (fun W' => PB wr.heap.size (gt j) (gx j) ad k (O k) W') (exact PX.cells (by assumption) H h1)
            (first
              | (go_at_call 15; refine (PX.does (by assumption) (by omega) (upd_other _ _ (by omega)) (upd_other _ _ (by omega)) (O k)).mono ?_; rintro e w6 ⟨rfl, s6⟩))
          go_wp2_with fail
          go_roundw
          case rel => exact ⟨k + 1, m + 1, c1, _, _, _, _, _, _, by omega, by omega, by omega, by omega, rfl, by go_num, s6.out.ps⟩
          case measure => simp [intOf]; omega
        · obtain rfl : m = 6 := by omega
          rw [show ((6 : Nat) : Int) = 6 from rfl] at hy hji hjI
          clear hm
          go_wp2_with fail
          go_region_held3 (fun W' => PB wr.heap.size (gt j) (gx j) ad k (O k) W') (exact PX.cells (by assumption) H h1)
            (first
              | (go_at_call 15; refine (PX.does (by assumption) hjm rfl rfl (O k)).mono ?_; rintro e w2 ⟨rfl, s2⟩))
          clear q0 q1 q2 q3 q4 q5 r0 r1 hy hji
          go_wp2_with fail
          go_roundw
          case rel => exact ⟨k + 1, 6, c, _, _, _, _, _, _, by omega, by omega, hm1, hm6, rfl, by go_num, s2.out.ps⟩
          case measure => simp [intOf]; omega
      · have b6 : ((O k).d == 6) = false := by simpa using d6
        clear d6
        go_wp2_with fail
        go_region_held3 (fun W' => PB wr.heap.size (gt j) (gx j) ad k (O k) W') (exact PX.cells (by assumption) H h1)
          (first
            | (go_at_call 15; refine (PX.does (by assumption) hjm rfl rfl (O k)).mono ?_; rintro e w2 ⟨rfl, s2⟩))
        clear q0 q1 q2 q3 q4 q5 r0 r1 hy hji
        go_wp2_with fail
        go_roundw
        case rel => exact ⟨k + 1, m, c, _, _, _, _, _, _, by omega, by omega, hm1, hm6, rfl, by go_num, s2.out.ps⟩
        case measure => simp [intOf]; omega
    · obtain ⟨kk, hkk⟩ : ∃ kk : Int, kk = (k : Int) := ⟨_, rfl⟩
      have key : (decide (kk < (n : Int)) = false) ∨ (kk = 200 ∧ decide ((200 : Int) < (n : Int)) = true) := by
        by_cases e : k < n
        · right; simp; omega
        · left; simp; omega
      rw [← hkk]
      clear h1 hkk
      rcases key with key | ⟨rfl, key⟩
      all_goals
        go_wp2_with fail
        go_loopw [7] (fun i wq => ∃ j : Nat, j ≤ m ∧ i = .int .i64 j ∧ Hid (PS w m A c gt gx ga ca Ts wq)) (fun i _ => m - (intOf i).toNat)
        case atStart => exact ⟨0, by omega, rfl, t⟩
        case round =>
          obtain ⟨j, hj, rfl, tj⟩ := hrel
          by_cases hjm : j < m
          · obtain ⟨g, rfl, r0, r1⟩ := tj.out.cells hjm
            have ejm : decide ((j : Int) < (m : Int)) = true := by simp; omega
            go_wp2_with fail
            refine (same_any (gt j) (gx j) (ga j) (ca j) (Ts j) _ (tj.out.tb j hjm) (tj.out.rt j hjm)).mono ?_
            rintro e w3 ⟨rfl, hb3⟩
            have t3 : Hid (PS w m (some ⟨g, 0, none⟩) c gt gx ga ca Ts w3) := tj.out.next hb3
            clear hb3 r0 r1 tj
            obtain ⟨g2, e2, r0, r1⟩ := t3.out.cells hjm
            obtain rfl : g = g2 := by injection e2 with e2; injection e2
            clear e2
            go_wp2_with fail
            refine (same_any (gt j) (gx j) (ga j) (ca j) (Ts j) _ (t3.out.tb j hjm) (t3.out.rt j hjm)).mono ?_
            rintro e w4 ⟨rfl, hb4⟩
            have t4 : Hid (PS w m (some ⟨g, 0, none⟩) c gt gx ga ca Ts w4) := t3.out.next hb4
            clear hb4 r0 r1 t3
            go_wp2_with fail
            go_roundw
            case rel => exact ⟨j + 1, by omega, by go_num, t4⟩
            case measure => simp [intOf]; omega
          · have ejm : decide ((j : Int) < (m : Int)) = false := by simp; omega
            go_wp2_with fail
            refine (works_any _).mono ?_
            rintro e w9 ⟨rfl, hb9⟩
            have B9 : Hid (Below w.heap.size w w9) := tj.out.low.trans (hb9.mono tj.out.low.size)
            clear hb9
            go_wp2_with fail
            go_ret
            exact ⟨rfl, B9.out⟩
end Go.Proofs.Ytaeccpoljenjmaa
