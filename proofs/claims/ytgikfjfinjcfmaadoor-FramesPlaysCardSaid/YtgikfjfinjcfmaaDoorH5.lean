import Derived.Test.YtgikfjfinjcfmaaDoorH4
import Derived.Test.YtgikfjfinjcfmaaDoorG4
namespace Go.Proofs.YtgikfjfinjcfmaaDoor
open Go.RowKit Go.Hos
set_option linter.unusedVariables false
theorem KR.trans {c : Nat} {F F' : Nat → Prop} {W W' W'' : World} (h : KR c F W W') (h' : KR c F' W' W'') (hF : ∀ g, g < W.heap.size → F g → F' g) : KR c F W W'' := fun g t cs hb a1 a2 a3 a4 => h' g t cs (h g t cs hb a1 a2 a3 a4) a1 a2 a3 fun e => hF g hb.lt (a4 e)
/-- a frame's slice is put in the place of the elder -/
theorem RP.put {B : Nat} {W W1 : World} {q c b n : Nat} {C : Nat → Nat} {D D' : Nat → Nat → Nat} {V : Nat → Value} {L : Nat → Nat} {k l M : Nat} {v : Value} (h : RP B W q c b n C D V L) (hB : B ≤ W.heap.size) (hk : k < n) (hc : 0 < C k)
    (hg : W.grownBy W1 (V k).ownBlock) (ho : W1.ownsRow B 5 1 v l (u8s (bsF l (D' k)))) (hat : v.ownBlock = (V k).ownBlock ∨ ∀ g, v.ownBlock = some g → M ≤ g ∧ Fo n C V g) (hl : l ≤ 4096) (hz : ∀ i, l ≤ i → i < 4096 → D' k i = 0) (hD : ∀ j, j ≠ k → D' j = D j) :
    RP B (W1.setCell ⟨b, k, none⟩ v) q c b n C D' (upd V k v) (upd L k l) ∧ KR c (Fo n C V) W (W1.setCell ⟨b, k, none⟩ v) ∧ Below B W (W1.setCell ⟨b, k, none⟩ v) ∧ ∀ g, g < M → Fo n C V g → Fo n C (upd V k v) g := by
  have keep : ∀ g t cs, Blk W g t cs → (t = 5 → (V k).ownBlock ≠ some g) → Blk W1 g t cs := fun g t cs hb h5 => hb.grown hg fun e => by
    have hbk := h.ow k hk hc
    obtain ⟨cs', hb'⟩ := owns_blk hbk e.symm
    have ht : t = 5 := by
      unfold Blk at hb hb'; rw [hb] at hb'; injection hb' with hb'; injection hb' with _ e
    exact h5 ht e.symm
  have n1 := h.bb.ne_blk h.hd (by decide)
  have n2 := h.bb.ne_ h.cc (by decide)
  have hbb : Row W1 b 42 n V := h.bb.keep fun cs hb => keep _ _ _ hb (fun e => by cases e)
  have hF : ∀ g, g < M → Fo n C V g → Fo n C (upd V k v) g := fun g hgs hf j hj hcj => by
    by_cases e : j = k
    · subst e
      rw [upd_same]
      rcases hat with e | e
      · rw [e]; exact hf j hj hcj
      · intro e2; have := (e g e2).1; omega
    · rw [upd_other _ _ e]; exact hf j hj hcj
  refine ⟨⟨(keep _ _ _ h.hd (fun e => by cases e)).far (fun e => n1 e.symm) _, (h.cc.keep fun cs hb => keep _ _ _ hb (fun e => by cases e)).far (p := ⟨b, k, none⟩) (fun e => n2 e.symm) _, hbb.set_ k v, fun j hj hcj => ?_, fun j hj hcj => ?_, fun i j hi hj hci hcj hij g hgi => ?_, h.bs, h.nn⟩, fun g t cs hb _ nt nc hf => ?_, ?_, hF⟩
  · by_cases e : j = k
    · subst e
      rw [upd_same, upd_same]
      exact owns_keep' ho fun g cs _ hb => hb.far (fun e => hbb.ne_blk hb (by decide) e.symm) _
    · rw [upd_other _ _ e, upd_other _ _ e, hD j e]
      refine owns_keep' (h.ow j hj hcj) fun g cs hgv hb => (keep _ _ _ hb fun _ e2 => h.dj j k hj hk hcj hc e g hgv e2).far (fun e => h.bb.ne_blk hb (by decide) e.symm) _
  · by_cases e : j = k
    · subst e; rw [upd_same]; exact ⟨hl, hz⟩
    · rw [upd_other _ _ e, hD j e]; exact h.sz j hj hcj
  · by_cases ei : i = k
    · subst ei
      rw [upd_same] at hgi
      rw [upd_other _ _ (fun e => hij e.symm)]
      rcases hat with e | e
      · rw [e] at hgi; exact h.dj i j hi hj hci hcj hij g hgi
      · exact (e g hgi).2 j hj hcj
    · rw [upd_other _ _ ei] at hgi
      by_cases ej : j = k
      · subst ej
        rw [upd_same]
        rcases hat with e | e
        · rw [e]; exact h.dj i j hi hj hci hcj hij g hgi
        · intro e2; exact (e g e2).2 i hi hci hgi
      · rw [upd_other _ _ ej]; exact h.dj i j hi hj hci hcj hij g hgi
  · exact (keep _ _ _ hb fun e => hf e k hk hc).far (fun e => h.bb.ne_blk hb (fun e => nt e.symm) e.symm) _
  · refine (below_own hg hB fun g hgv => ((h.ow k hk hc).lt g hgv).1).setCell h.bs.2.2 _
/-- a byte of a frame is stored -/
theorem RP.poke {B : Nat} {W : World} {q c b n : Nat} {C : Nat → Nat} {D : Nat → Nat → Nat} {V : Nat → Value} {L : Nat → Nat} {k gb s x qq : Nat} (h : RP B W q c b n C D V L) (hk : k < n) (hc : 0 < C k) (hV : V k = .slice (some ⟨gb, 0, none⟩) (L k) qq) (hs : s < L k) :
    RP B (W.setCell ⟨gb, s, none⟩ (.int .u8 (x : Int))) q c b n C (upd D k (upd (D k) s x)) V L ∧ KR c (Fo n C V) W (W.setCell ⟨gb, s, none⟩ (.int .u8 (x : Int))) ∧ Below B W (W.setCell ⟨gb, s, none⟩ (.int .u8 (x : Int))) := by
  have hgv : (V k).ownBlock = some gb := by rw [hV]; rfl
  have ho := h.ow k hk hc
  obtain ⟨cs, hb5⟩ := owns_blk ho hgv
  have far : ∀ g t cs', Blk W g t cs' → (t = 5 → (V k).ownBlock ≠ some g) → Blk (W.setCell ⟨gb, s, none⟩ (.int .u8 (x : Int))) g t cs' := fun g t cs' hb h5 => hb.far (fun e => by
    have e : g = gb := e
    subst e
    have ht : t = 5 := by
      unfold Blk at hb hb5; rw [hb] at hb5; injection hb5 with hb'; injection hb' with _ e
    exact h5 ht hgv) _
  have hbase := (ho.lt gb hgv).1
  refine ⟨⟨far _ _ _ h.hd (fun e => by cases e), h.cc.keep fun cs hb => far _ _ _ hb (fun e => by cases e), h.bb.keep fun cs hb => far _ _ _ hb (fun e => by cases e), fun j hj hcj => ?_, fun j hj hcj => ?_, h.dj, h.bs, h.nn⟩, fun g t cs hb _ _ _ hf => far _ _ _ hb fun e => hf e k hk hc, (Below.refl _ _).setCell hbase _⟩
  · by_cases e : j = k
    · subst e
      rw [upd_same]
      rw [hV] at ho ⊢
      have h1 := (ho.stored s (.int .u8 (x : Int))).1
      have e2 : (u8s (bsF (L j) (D j))).set s (.int .u8 (x : Int)) = u8s (bsF (L j) (upd (D j) s x)) := by
        apply List.ext_getElem
        · simp [u8s, bsF]
        · intro i h1 h2
          rw [List.getElem_set]
          by_cases e : s = i
          · subst e; rw [if_pos rfl]; simp [u8s, bsF, upd_same]
          · rw [if_neg e]; simp [u8s, bsF, upd_other _ _ (fun e' => e e'.symm)]
      rw [e2] at h1
      exact h1
    · rw [upd_other _ _ e]
      exact owns_keep' (h.ow j hj hcj) fun g cs hg hb => far _ _ _ hb fun _ e2 => h.dj j k hj hk hcj hc e g hg e2
  · by_cases e : j = k
    · subst e
      rw [upd_same]
      obtain ⟨z1, z2⟩ := h.sz j hj hcj
      exact ⟨z1, fun i hi hi4 => by rw [upd_other _ _ (by omega)]; exact z2 i hi hi4⟩
    · rw [upd_other _ _ e]; exact h.sz j hj hcj
/-- the pool on the way of a Store: the frame's slice is at least s long -/
def RXL (B : Nat) (w W : World) (q c b n : Nat) (C : Nat → Nat) (V : Nat → Value) (D' : Nat → Nat → Nat) (k s : Nat) : Prop :=
  ∃ V' L', RP B W q c b n C D' V' L' ∧ KR c (Fo n C V) w W ∧ Below B w W ∧ (∀ g, g < w.heap.size → Fo n C V g → Fo n C V' g) ∧ s ≤ L' k
def lenAt (W : World) (b k : Nat) : Nat := match W.cell? ⟨b, k, none⟩ with | some (.slice _ l _) => l | _ => 0
theorem bsF_succ {l : Nat} {F : Nat → Nat} : bsF (l + 1) F = bsF l F ++ [F l] := by simp [bsF, List.range_succ]
/-- a nought behind a frame's slice -/
theorem RXL.push {B : Nat} {w W W3 : World} {q c b n k l : Nat} {C : Nat → Nat} {V V' : Nat → Value} {L' : Nat → Nat} {D : Nat → Nat → Nat} {v : Value} {o : Obj} (rp : Hid (RP B W q c b n C D V' L')) (kr : Hid (KR c (Fo n C V) w W)) (bl : Hid (Below B w W)) (mo : Hid (∀ g, g < w.heap.size → Fo n C V g → Fo n C V' g)) (hB : B ≤ w.heap.size)
    (hk : k < n) (hc : Hid (0 < C k)) (hl : Hid (l = L' k)) (hl4 : l < 4096) (hg : (W.alloc o).grownBy W3 (V' k).ownBlock) (ho : W3.ownsRow B 5 1 v (l + 1) (u8s (bsF l (D k)) ++ [.int .u8 0])) (hat : v.ownBlock = (V' k).ownBlock ∨ v.ownBlock = some (W.alloc o).heap.size) :
    Hid (RXL B w (W3.setCell ⟨b, k, none⟩ v) q c b n C V D k 0) ∧ lenAt (W3.setCell ⟨b, k, none⟩ v) b k = l + 1 := by
  have ha : Below W.heap.size W (W.alloc o) := (Below.refl _ _).alloc (Nat.le_refl _) _
  have hz := (rp.out.sz k hk hc.out).2
  have hB2 : B ≤ (W.alloc o).heap.size := by have := bl.out.size; simp; omega
  have ho' : W3.ownsRow B 5 1 v (l + 1) (u8s (bsF (l + 1) (D k))) := by
    have e : u8s (bsF (l + 1) (D k)) = u8s (bsF l (D k)) ++ [.int .u8 0] := by
      rw [bsF_succ, hz l (by rw [hl.out]; exact Nat.le_refl _) hl4]; simp [u8s]
    rw [e]; exact ho
  obtain ⟨r1, r2, r3, r4⟩ := (rp.out.next ha).put hB2 hk hc.out hg ho' (M := (W.alloc o).heap.size) (hat.imp id fun e g e2 => by rw [e] at e2; injection e2 with e2; exact ⟨by omega, (rp.out.next ha).fo (by omega)⟩) (by omega) (fun i hi hi4 => hz i (by rw [← hl.out]; omega) hi4) (fun _ _ => rfl)
  refine ⟨⟨_, _, r1, (kr.out.trans (KR.of_below ha) (F' := Fo n C V') mo.out).trans r2 mo.out, bl.out.trans ((ha.mono (by have := bl.out.size; omega)).trans r3), fun g hg1 hf => r4 g (by have := bl.out.size; simp; omega) (mo.out g hg1 hf), Nat.zero_le _⟩, ?_⟩
  unfold lenAt
  rw [r1.bb.get hk, upd_same]
  obtain ⟨A, cc, rfl⟩ := ownsRow_val ho
  rfl
theorem ov_take {F : Nat → Nat} {o i : Nat} {bs : List Nat} (hi : i < bs.length) : upd (ov F o (bs.take i)) (o + i) (bs[i]'hi) = ov F o (bs.take (i + 1)) := by
  funext j
  unfold upd ov
  by_cases e : j = o + i
  · subst e
    rw [if_pos rfl, if_pos (by simp; omega)]
    simp [List.getD_eq_getElem?_getD, hi]
  · rw [if_neg e]
    by_cases h : o ≤ j ∧ j < o + (bs.take i).length
    · rw [if_pos h, if_pos (by simp at h ⊢; omega)]
      simp at h
      simp only [List.getD_eq_getElem?_getD]
      rw [List.getElem?_take_of_lt (by omega), List.getElem?_take_of_lt (by omega)]
    · rw [if_neg h, if_neg (by simp at h ⊢; omega)]
end Go.Proofs.YtgikfjfinjcfmaaDoor
