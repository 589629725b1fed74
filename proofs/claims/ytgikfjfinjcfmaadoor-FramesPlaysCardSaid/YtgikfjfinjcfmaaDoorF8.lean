import Derived.Test.YtgikfjfinjcfmaaDoorF7
import Derived.Deep.MidRow
namespace Go.Hos
open Go.RowKit
set_option linter.unusedVariables false
/-! many cells laid -/
theorem Blk.sets {b g : Nat} {t : TypeId} {cs : Array Value} (hne : g ≠ b) : ∀ (vs : List Value) (o : Nat) (W : World), Blk W g t cs → Blk (W.setCells b o vs) g t cs
  | [], _, _, h => h
  | v :: r, o, W, h => Blk.sets hne r (o + 1) _ (h.far (p := ⟨b, o, none⟩) hne v)
theorem Below.sets {B b : Nat} {W : World} (hb : B ≤ b) : ∀ (vs : List Value) (o : Nat) (W' : World), Below B W W' → Below B W (W'.setCells b o vs)
  | [], _, _, h => h
  | v :: r, o, W', h => Below.sets hb r (o + 1) _ (h.setCell (p := ⟨b, o, none⟩) hb v)
theorem size_sets {b : Nat} : ∀ (vs : List Value) (o : Nat) (W : World), (W.setCells b o vs).heap.size = W.heap.size
  | [], _, _ => rfl
  | v :: r, o, W => (size_sets r (o + 1) _).trans (by simp [World.setCell])
def ov (f : Nat → Nat) (o : Nat) (bs : List Nat) : Nat → Nat := fun j => if o ≤ j ∧ j < o + bs.length then bs.getD (j - o) 0 else f j
theorem ov_nil (f : Nat → Nat) (o : Nat) : ov f o [] = f := by funext j; unfold ov; exact if_neg (by simp only [List.length_nil]; omega)
theorem ov_cons (f : Nat → Nat) (o x : Nat) (r : List Nat) : ov (upd f o x) (o + 1) r = ov f o (x :: r) := by
  funext j
  unfold ov
  by_cases h1 : j = o
  · subst h1
    rw [if_neg (by omega), if_pos (by simp), upd_same]; simp
  · rw [upd_other _ _ h1]
    by_cases h2 : o + 1 ≤ j ∧ j < o + 1 + r.length
    · rw [if_pos h2, if_pos (by simp; omega), show j - o = (j - (o + 1)) + 1 by omega]; simp
    · rw [if_neg h2, if_neg (by simp; omega)]
def u8s (bs : List Nat) : List Value := bs.map fun (x : Nat) => Value.int .u8 (x : Int)
theorem u8s_len (bs : List Nat) : (u8s bs).length = bs.length := by simp [u8s]
theorem Row.sets {g n : Nat} {t : TypeId} : ∀ (bs : List Nat) (o : Nat) (W : World) (f : Nat → Nat), Row W g t n (fun i => .int .u8 (f i)) → Row (W.setCells g o (u8s bs)) g t n (fun i => .int .u8 (ov f o bs i))
  | [], o, W, f, h => by rw [ov_nil]; exact h
  | x :: r, o, W, f, h => by
    rw [← ov_cons]
    have h1 := h.set_ o (.int .u8 (x : Int))
    rw [Go.Proofs.YtgikfjfinjcfmaaDoor.upd_comp (fun x : Nat => Value.int .u8 (x : Int))] at h1
    exact Row.sets r (o + 1) _ _ h1
theorem Row.sets_far {g n b : Nat} {t : TypeId} {W : World} {f : Nat → Value} (h : Row W g t n f) (hne : g ≠ b) (vs : List Value) (o : Nat) : Row (W.setCells b o vs) g t n f := h.keep fun cs hb => hb.sets hne vs o W
theorem Row.range {g n : Nat} {t : TypeId} {W : World} {f : Nat → Nat} (h : Row W g t n (fun i => .int .u8 (f i))) (o m : Nat) (hm : o + m ≤ n) : W.rangeAt g o (u8s ((List.range m).map fun j => f (o + j))) := fun j v hv => by
  have hj : j < m := by have := (List.getElem?_eq_some_iff.1 hv).1; simpa [u8s] using this
  rw [h.get (show o + j < n by omega), ← hv]
  simp [u8s, hj]
theorem Row.there {g n : Nat} {t : TypeId} {W : World} {f : Nat → Value} (h : Row W g t n f) (o m : Nat) (hm : o + m ≤ n) : W.there g o m := fun j hj => ⟨by rw [h.get (show o + j < n by omega)]; rfl, h.free _⟩
theorem u8s_one (bs : List Nat) : ∀ v ∈ u8s bs, v.oneCell' = true := by
  intro v hv
  obtain ⟨x, _, rfl⟩ := List.mem_map.1 hv
  rfl
end Go.Hos
namespace Go.Proofs.YtgikfjfinjcfmaaDoor
open Go.RowKit Go.Hos
set_option linter.unusedVariables false
theorem PM.lay {B : Nat} {W : World} {p c b f n : Nat} {C Fb : Nat → Nat} {D : Nat → Nat → Nat} {k : Nat} (h : PM B W p c b f n C Fb D) (hk : k < n) (h0 : 0 < C k) (o : Nat) (bs : List Nat) :
    PM B (W.setCells (Fb k) o (u8s bs)) p c b f n C Fb (upd D k (ov (D k) o bs)) := by
  obtain ⟨P, hP, hP2⟩ := h.bb
  obtain ⟨X, hX, hX2⟩ := h.ff
  have hr := h.fr k hk h0
  have n1 := hr.ne_ hX (by decide)
  have n2 := hr.ne_blk h.hd (by decide)
  have n3 := hr.ne_ h.cc (by decide)
  have n4 := hr.ne_ hP (by decide)
  refine ⟨h.hd.sets (fun e => n2 e.symm) _ _ _, h.cc.sets_far (fun e => n3 e.symm) _ _, ⟨P, hP.sets_far (fun e => n4 e.symm) _ _, hP2⟩, ⟨X, hX.sets_far (fun e => n1 e.symm) _ _, hX2⟩, fun j hj hc => ?_, h.dj, h.bs, h.nn⟩
  by_cases e : j = k
  · subst e
    rw [upd_same]
    exact Row.sets bs o W (D j) hr
  · rw [upd_other _ _ e]
    exact (h.fr j hj hc).sets_far (h.dj j k hj hk hc h0 e) _ _
theorem PM.bytes {B : Nat} {W : World} {p c b f n : Nat} {C Fb : Nat → Nat} {D D' : Nat → Nat → Nat} (h : PM B W p c b f n C Fb D) (hd : ∀ k, k < n → 0 < C k → ∀ i, i < 4096 → D' k i = D k i) : PM B W p c b f n C Fb D' :=
  ⟨h.hd, h.cc, h.bb, h.ff, fun k hk hc => (h.fr k hk hc).congr fun i hi => by rw [hd k hk hc i hi], h.dj, h.bs, h.nn⟩
theorem KF.sets {W : World} {c g : Nat} {f : Nat → Value} (h : Row W g 69 4096 f) (vs : List Value) (o : Nat) : KF c W (W.setCells g o vs) := by
  obtain ⟨c1, b1, _⟩ := h
  exact fun g' t cs hb a1 a2 a3 a4 a5 => hb.sets (hb.ne_ b1 a4) vs o W

def cpN (C : Nat → Nat) (n : Nat) (x : Int) : Int := if tkB C n x then takeN C n else 0
def cpE (C : Nat → Nat) (n : Nat) (x : Int) : Int := if tkB C n x then takeE C n else 1
def cpC (C : Nat → Nat) (n : Nat) (x : Int) : Nat → Nat := if tkB C n x then takeC C n else C
def cpD (C : Nat → Nat) (n : Nat) (x : Int) (D : Nat → Nat → Nat) : Nat → Nat → Nat := if tkB C n x ∧ tf C n < n then upd D (tf C n) (D x.toNat) else D
theorem copyS {w : World} {p b g k n x y : Nat} {vs cs : List Value} (m1 : ¬ p = x) (m2 : ¬ b = x) (m3 : y ≠ x)
    (h : w.cell? ⟨p, 1, none⟩ = some (.slice (some ⟨b, 0, none⟩) n n) ∧ w.cell? ⟨b, g, none⟩ = some (.pointer (some ⟨x, 0, none⟩)) ∧ w.cell? ⟨b, k, none⟩ = some (.pointer (some ⟨y, 0, none⟩)) ∧ w.rangeAt y 0 cs ∧ w.there x 0 4096) :
    (w.setCells x 0 vs).cell? ⟨p, 1, none⟩ = some (.slice (some ⟨b, 0, none⟩) n n) ∧ (w.setCells x 0 vs).cell? ⟨b, g, none⟩ = some (.pointer (some ⟨x, 0, none⟩)) ∧ (w.setCells x 0 vs).cell? ⟨b, k, none⟩ = some (.pointer (some ⟨y, 0, none⟩)) ∧ (w.setCells x 0 vs).rangeAt y 0 cs ∧ (w.setCells x 0 vs).there x 0 4096 := by
  obtain ⟨h1, h2, h3, h4, h5⟩ := h
  exact ⟨(World.cell?_setCells_out _ _ _ _ _ (fun e _ => absurd e m1)).trans h1, (World.cell?_setCells_out _ _ _ _ _ (fun e _ => absurd e m2)).trans h2, (World.cell?_setCells_out _ _ _ _ _ (fun e _ => absurd e m2)).trans h3,
    World.rangeAt_setCells_apart h4 _ _ _ (.inl m3), World.there_setCells h5 _ _ _⟩
theorem size69 : (Tryd.prog.info? 69).map (·.size) = some 4096 := by kernel_rfl

set_option maxRecDepth 20000 in
set_option maxHeartbeats 1600000 in
theorem copy_any {B p c b f n : Nat} {C Fb : Nat → Nat} {D : Nat → Nat → Nat} (x : Int) (w : World) (h : PM B w p c b f n C Fb D) (hB : B ≤ w.heap.size) (ht : TB w) :
    Calls Tryd.prog 26 #[.pointer (some ⟨p, 0, none⟩), .int .i64 x] w fun e w' => e = .returned (.tuple #[.int .i64 (cpN C n x), .int .i64 (cpE C n x)]) ∧
      (∃ Fb', PM B w' p c b f n (cpC C n x) Fb' (cpD C n x D)) ∧ KF c w w' ∧ Below B w w' := by
  have hn := h.nn
  have H := Lib.hid h
  have HT := Lib.hid ht
  cases hx : tkB C n x
  · rw [cpN, cpE, cpC, cpD, hx]
    have HX := Lib.hid hx
    clear h hx ht
    go_enter Tryd.func26, Tryd.ntmps26
    go_wp2_with fail
    refine (taken_any x _ H.out).mono ?_
    rw [HX.out]
    rintro e w' ⟨rfl, rfl⟩
    go_wp2_with fail
    go_ret2
    exact ⟨rfl, ⟨_, by simpa using H.out⟩, KF.refl _ _, Below.refl _ _⟩
  · rw [cpN, cpE, cpC, cpD, hx]
    have HX := Lib.hid hx
    obtain ⟨k, rfl, hk, hc⟩ := tkB_yes hx
    rw [Int.toNat_natCast, if_pos rfl, if_pos rfl, if_pos rfl]
    have HK := Lib.hid hc
    by_cases hf : tf C n < n
    · obtain ⟨g, hg⟩ : ∃ g, g = tf C n := ⟨_, rfl⟩
      have E : Hid (takeN C n = g ∧ takeE C n = 0 ∧ takeC C n = upd C g 1 ∧ takeD C n D = upd D g (fun _ => 0)) := by
        show _ ∧ _
        unfold takeN takeE takeC takeD
        rw [if_pos hf, if_pos hf, if_pos hf, if_pos hf, hg]
        exact ⟨rfl, rfl, rfl, rfl⟩
      have HF := Lib.hid hf; have HG := Lib.hid hg
      rw [E.out.1, E.out.2.1, E.out.2.2.1, if_pos ⟨rfl, hf⟩, ← hg]
      clear h hx ht hc hf hg
      go_enter Tryd.func26, Tryd.ntmps26
      go_wp2_with fail
      refine (taken_any k _ H.out).mono ?_
      rw [HX.out]
      rintro e w' ⟨rfl, rfl⟩
      go_wp2_with fail
      refine (take_any _ H.out hB HT.out).mono ?_
      rw [E.out.1, E.out.2.1, E.out.2.2.1, E.out.2.2.2]
      rintro e w1 ⟨rfl, ⟨Fb', pm⟩, kf, bl⟩
      have hf := HF.out; have hg := HG.out
      have hgn : g < n := by omega
      have hg0 : C g = 0 := by rw [hg]; exact (tf_spec C n).2.2 hf
      have hgk : k ≠ g := by rintro rfl; have := HK.out; omega
      have u1 : 0 < upd C g 1 g := by rw [upd_same]; omega
      have u2 : 0 < upd C g 1 k := by rw [upd_other _ _ hgk]; exact HK.out
      obtain ⟨P, hP, hP2⟩ := pm.bb
      have q1 : w1.cell? ⟨b, g, none⟩ = some (.pointer (some ⟨Fb' g, 0, none⟩)) := by rw [hP.get hgn, hP2 g hgn u1]
      have q2 : w1.cell? ⟨b, k, none⟩ = some (.pointer (some ⟨Fb' k, 0, none⟩)) := by rw [hP.get hk, hP2 k hk u2]
      have q0 := pm.head.2.1
      have rg := (pm.fr k hk u2).range 0 4096 (by omega)
      have th := (pm.fr g hgn u1).there 0 4096 (by omega)
      obtain ⟨cs, hcs⟩ : ∃ cs, cs = u8s ((List.range 4096).map fun j => upd D g (fun _ => 0) k (0 + j)) := ⟨_, rfl⟩
      rw [← hcs] at rg
      have hl : cs.length = 4096 := by rw [hcs, u8s_len]; simp
      have h1 : ∀ v ∈ cs, v.oneCell' = true := by rw [hcs]; exact u8s_one _
      have hu := Tryd.underlying69
      have hi : (Tryd.prog.info? 69).map (·.size) = some cs.length := by rw [size69, hl]
      have pm2 := PM.lay (W := w1.drew) (pm.next (Below.refl _ _).drew) hgn u1 0 ((List.range 4096).map fun j => upd D g (fun _ => 0) k (0 + j))
      rw [← hcs] at pm2
      have pm3 : Hid (PM B (w1.drew.setCells (Fb' g) 0 cs) p c b f n (upd C g 1) Fb' (upd D g (D k))) := by
        refine pm2.bytes fun j hj hjc i hi => ?_
        by_cases e : j = g
        · subst e
          rw [upd_same, upd_same]
          unfold ov
          rw [if_pos (by simp; omega)]
          simp [hi, upd_other _ _ hgk]
        · rw [upd_other _ _ e, upd_other _ _ e, upd_other _ _ e]
      have kf3 : Hid (KF c w (w1.drew.setCells (Fb' g) 0 cs) ∧ Below B w (w1.drew.setCells (Fb' g) 0 cs)) := by
        refine ⟨?_, Below.sets (pm.bs.2.2.2.2 g hgn u1) cs 0 _ bl.drew⟩
        exact kf.trans (KF.trans (KF.of_below (Below.refl _ _).drew) (KF.sets (row_drew (pm.fr g hgn u1)) cs 0))
      have m1 : ¬ p = Fb' g := fun e => (pm.fr g hgn u1).ne_blk pm.hd (by decide) e.symm
      have m2 : ¬ b = Fb' g := fun e => (pm.fr g hgn u1).ne_ hP (by decide) e.symm
      have m3 : Fb' k ≠ Fb' g := pm.dj k g hk hgn u2 u1 hgk
      clear pm pm2 kf bl hP hP2 u1 u2 hg0 hg hf hcs E
      have b1 : (0 : Int) ≤ (k : Int) := by omega
      have b2 : (k : Int) < (n : Int) := by omega
      have b3 : (0 : Int) ≤ (g : Int) := by omega
      have b4 : (g : Int) < (n : Int) := by omega
      go_wp2_with fail
      go_region_held3 (fun w' => w'.cell? ⟨p, 1, none⟩ = some (.slice (some ⟨b, 0, none⟩) n n) ∧ w'.cell? ⟨b, g, none⟩ = some (.pointer (some ⟨Fb' g, 0, none⟩)) ∧ w'.cell? ⟨b, k, none⟩ = some (.pointer (some ⟨Fb' k, 0, none⟩)) ∧ w'.rangeAt (Fb' k) 0 cs ∧ w'.there (Fb' g) 0 4096) (first | exact copyS m1 m2 m3 (by assumption) | exact copyS m1 m2 m3 ⟨by assumption, by assumption, by assumption, by assumption, by assumption⟩ | go_keep_ranges) (fail)
      all_goals (
        go_wp2_with fail
        go_ret2
        exact ⟨rfl, ⟨Fb', pm3.out⟩, kf3.out.1, kf3.out.2⟩)
    · have E : Hid (takeN C n = 0 ∧ takeE C n = 4 ∧ takeC C n = C ∧ takeD C n D = D) := by
        show _ ∧ _
        unfold takeN takeE takeC takeD
        rw [if_neg hf, if_neg hf, if_neg hf, if_neg hf]
        exact ⟨rfl, rfl, rfl, rfl⟩
      rw [E.out.1, E.out.2.1, E.out.2.2.1, if_neg (fun h => hf h.2)]
      clear h hx ht hc hf
      go_enter Tryd.func26, Tryd.ntmps26
      go_wp2_with fail
      refine (taken_any k _ H.out).mono ?_
      rw [HX.out]
      rintro e w' ⟨rfl, rfl⟩
      go_wp2_with fail
      refine (take_any _ H.out hB HT.out).mono ?_
      rw [E.out.1, E.out.2.1, E.out.2.2.1, E.out.2.2.2]
      rintro e w1 ⟨rfl, ⟨Fb', pm⟩, kf, bl⟩
      have F := Lib.hid (And.intro pm (And.intro kf bl))
      clear pm kf bl
      go_wp2_with fail
      go_ret2
      exact ⟨rfl, ⟨Fb', F.out.1⟩, F.out.2.1, F.out.2.2⟩
end Go.Proofs.YtgikfjfinjcfmaaDoor
