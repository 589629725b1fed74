import Derived.Test.YtgikfjfinjcfmaaDoorH1
namespace Go.Proofs.YtgikfjfinjcfmaaDoor
open Go.RowKit Go.Hos
set_option linter.unusedVariables false
theorem info42z : (Tryd.prog.info? 42).map (fun i => (i.zero, i.size, i.bytes)) = some (some (.slice none 0 0), 1, 24) := by kernel_rfl
set_option maxRecDepth 20000 in
set_option maxHeartbeats 1600000 in
theorem rnew_ok (n : Nat) (w : World) (h1 : 1 ≤ n) (h2 : n ≤ 1024) :
    Calls Tryd.prog 29 #[.int .i64 n] w fun e w' => ∃ q c b, e = .returned (.tuple #[.pointer (some ⟨q, 0, none⟩), .int .i64 0]) ∧ RP w.heap.size w' q c b n (fun _ => 0) (fun _ _ => 0) (fun _ => .slice none 0 0) (fun _ => 0) ∧ Below w.heap.size w w' := by
  have hmk1 := run_make_row' (P := Tryd.prog) 60 3 _ _ Tryd.underlying60 info3 rfl .i64 .i64 n (by omega) (by omega)
  have hmk2 := run_make_row' (P := Tryd.prog) 51 42 _ _ Tryd.underlying51 info42z rfl .i64 .i64 n (by omega) (by omega)
  have b1 : ¬ (n : Int) < 1 := by omega
  have b2 : ¬ (1024 : Int) < (n : Int) := by omega
  go_enter Tryd.func29, Tryd.ntmps29
  go_wp2_with fail
  go_region
  all_goals (go_wp2_with fail; go_ret2)
  all_goals
    refine ⟨_, _, _, rfl, ⟨blk_at' 71 _ ?hd, ?cc, ?bb, fun k _ h => absurd h (Nat.lt_irrefl 0), fun k _ h => absurd h (Nat.lt_irrefl 0), fun i j _ _ h => absurd h (Nat.lt_irrefl 0), ?bs, h1, h2⟩, ?low⟩
    case hd => simp only [World.size_alloc]
    case cc => repeat (first | exact row_made _ _ _ (by simp only [World.size_alloc]) | exact row_made _ _ _ rfl | apply row_drew | refine row_al ?_ _)
    case bb => repeat (first | exact row_made _ _ _ (by simp only [World.size_alloc]) | exact row_made _ _ _ rfl | apply row_drew | refine row_al ?_ _)
    case bs => omega
    case low => repeat (first | exact Below.refl _ _ | apply Below.drew | refine Below.alloc ?_ (by first | exact Nat.le_refl _ | (simp only [World.size_alloc]; omega)) _)
set_option maxHeartbeats 800000 in
theorem rnew_bad (n : Int) (w : World) (h : n < 1 ∨ 1024 < n) :
    Calls Tryd.prog 29 #[.int .i64 n] w fun e w' => e = .returned (.tuple #[.pointer none, .int .i64 1]) ∧ w = w' := by
  rcases h with h | h
  · go_enter Tryd.func29, Tryd.ntmps29
    go_wp2_with fail
    go_ret2
    exact ⟨rfl, rfl⟩
  · have h1 : ¬ n < 1 := by omega
    go_enter Tryd.func29, Tryd.ntmps29
    go_wp2_with fail
    go_ret2
    exact ⟨rfl, rfl⟩
theorem RP.take {B : Nat} {W : World} {q c b n : Nat} {C : Nat → Nat} {D : Nat → Nat → Nat} {V : Nat → Value} {L : Nat → Nat} (h : RP B W q c b n C D V L) {k : Nat} (hk : k < n) (h0 : C k = 0) :
    RX B W ((W.setCell ⟨c, k, none⟩ (.int .i64 1)).setCell ⟨b, k, none⟩ (.slice none 0 0)) q c b n C V (upd C k 1) (upd D k fun _ => 0) := by
  have n1 := h.cc.ne_blk h.hd (by decide)
  have n2 := h.cc.ne_ h.bb (by decide)
  have n3 := h.bb.ne_blk h.hd (by decide)
  have hC : ∀ j, j ≠ k → 0 < upd C k 1 j → 0 < C j := fun j e hj => by rwa [upd_other _ _ e] at hj
  have hF : ∀ g, Fo n C V g → Fo n (upd C k 1) (upd V k (.slice none 0 0)) g := fun g hf j hj hc => by
    by_cases e : j = k
    · subst e; rw [upd_same]; intro e; cases e
    · rw [upd_other _ _ e]; exact hf j hj (hC j e hc)
  refine ⟨upd V k (.slice none 0 0), upd L k 0, ⟨(h.hd.far (fun e => n1 e.symm) _).far (fun e => n3 e.symm) _, ?_, (h.bb.far (fun e => n2 e.symm) _).set_ k _, fun j hj hc => ?_, fun j hj hc => ?_, fun i j hi hj hci hcj hij g hg => ?_, h.bs, h.nn⟩, fun g t cs hb _ nt nc _ => (hb.far nc _).far (fun e => h.bb.ne_blk hb (fun e => nt e.symm) e.symm) _, ((Below.refl _ _).setCell h.bs.2.1 _).setCell h.bs.2.2 _, fun g _ hf => hF g hf⟩
  · have := h.cc.set_ k (.int .i64 ((1 : Nat) : Int))
    rw [upd_comp (fun x : Nat => Value.int .i64 (x : Int))] at this
    exact this.far (p := ⟨b, k, none⟩) n2 _
  · by_cases e : j = k
    · subst e
      rw [upd_same, upd_same, upd_same]
      exact World.ownsRow_nil _ _ _ _
    · rw [upd_other _ _ e, upd_other _ _ e, upd_other _ _ e]
      exact owns_keep' (h.ow j hj (hC j e hc)) fun g cs _ hb => (hb.far (fun e => h.cc.ne_blk hb (by decide) e.symm) _).far (fun e => h.bb.ne_blk hb (by decide) e.symm) _
  · by_cases e : j = k
    · subst e; rw [upd_same, upd_same]; exact ⟨by omega, fun _ _ _ => rfl⟩
    · rw [upd_other _ _ e, upd_other _ _ e]; exact h.sz j hj (hC j e hc)
  · by_cases ei : i = k
    · subst ei; rw [upd_same] at hg; cases hg
    · by_cases ej : j = k
      · subst ej; rw [upd_same]; intro e; cases e
      · rw [upd_other _ _ ei] at hg
        rw [upd_other _ _ ej]
        exact h.dj i j hi hj (hC i ei hci) (hC j ej hcj) hij g hg
set_option maxHeartbeats 800000 in
theorem rtake_any {B : Nat} {q c b n : Nat} {C : Nat → Nat} {D : Nat → Nat → Nat} {V : Nat → Value} {L : Nat → Nat} (w : World) (h : RP B w q c b n C D V L) :
    Calls Tryd.prog 36 #[.pointer (some ⟨q, 0, none⟩)] w fun e w' => e = .returned (.tuple #[.int .i64 (takeN C n), .int .i64 (takeE C n)]) ∧ RX B w w' q c b n C V (takeC C n) (takeD C n D) := by
  have hn := h.nn
  obtain ⟨k0, k1⟩ := h.head
  have H := Lib.hid h
  have n1 : ¬ q = c := fun e => h.cc.ne_blk h.hd (by decide) e.symm
  have n2 : ¬ b = c := fun e => h.cc.ne_ h.bb (by decide) e.symm
  clear h
  go_enter Tryd.func36, Tryd.ntmps36
  go_wp2_with fail
  go_loop [4] (fun v4 => ∃ k : Nat, k ≤ n ∧ v4 = .int .i64 k ∧ Hid (∀ j, j < k → C j ≠ 0)) (fun v4 => n - (intOf v4).toNat)
  case atStart => exact ⟨0, by omega, rfl, fun j hj => absurd hj (by omega)⟩
  case round =>
    obtain ⟨k, hk, rfl, hf⟩ := hrel
    by_cases hkn : k < n
    · have e1 : decide ((k : Int) < (n : Int)) = true := by simp; omega
      have hg := H.out.cc.get hkn
      have fg := H.out.cc.free k
      have hgb := H.out.bb.get hkn
      have fgb := H.out.bb.free k
      obtain ⟨ck, hck⟩ : ∃ ck, ck = C k := ⟨_, rfl⟩
      rw [← hck] at hg
      by_cases h0 : ck = 0
      · subst h0
        have ht : tf C n = k := tf_eq hk hf.out (fun _ => hck.symm)
        have E : Hid (takeN C n = k ∧ takeE C n = 0 ∧ takeC C n = upd C k 1 ∧ takeD C n D = upd D k (fun _ => 0)) := by
          show _ ∧ _
          unfold takeN takeE takeC takeD
          rw [ht, if_pos hkn, if_pos hkn, if_pos hkn, if_pos hkn]
          exact ⟨rfl, rfl, rfl, rfl⟩
        have X := Lib.hid (H.out.take hkn hck.symm)
        clear hck ht
        go_wp2_with fail
        go_ret2
        rw [E.out.1, E.out.2.1, E.out.2.2.1, E.out.2.2.2]
        exact ⟨rfl, X.out⟩
      · have b0 : ((ck : Int) == 0) = false := by simp; omega
        have hf2 : Hid (∀ j, j < k + 1 → C j ≠ 0) := fun j hj => by
          by_cases e : j = k
          · subst e; omega
          · exact hf.out j (by omega)
        clear hck h0
        go_wp2_with fail
        go_round
        case rel => exact ⟨k + 1, by omega, by go_num, hf2⟩
        case measure => simp [intOf]; omega
    · obtain rfl : k = n := by omega
      have ht : tf C k = k := tf_eq (Nat.le_refl _) hf.out (fun h => absurd h (by omega))
      have hkk : ¬ k < k := by omega
      have E : Hid (takeN C k = 0 ∧ takeE C k = 4 ∧ takeC C k = C ∧ takeD C k D = D) := by
        show _ ∧ _
        unfold takeN takeE takeC takeD
        rw [ht, if_neg hkk, if_neg hkk, if_neg hkk, if_neg hkk]
        exact ⟨rfl, rfl, rfl, rfl⟩
      clear ht hkk
      go_wp2_with fail
      go_ret2
      rw [E.out.1, E.out.2.1, E.out.2.2.1, E.out.2.2.2]
      exact ⟨rfl, RX.refl H.out⟩
/-! nothing -/
end Go.Proofs.YtgikfjfinjcfmaaDoor
