import Derived.Test.YtneleioiondapaaY21
namespace Go.Proofs.Ytneleioiondapaa
open Go.RowKit Go.Shelf Go.Hos
set_option linter.unusedVariables false
/-! what was copied is the same -/
set_option maxRecDepth 20000 in
set_option maxHeartbeats 800000 in
theorem eqtexts_any (A A' : Option Addr) (n c c' B B' : Nat) (T : Nat → ByteArray) (w : World) (h : StR w B 1 A n (txC T)) (h' : StR w B' 1 A' n (txC T)) (hn : n ≤ maxLen) :
    Calls Try.prog 25 #[.slice A n c, .slice A' n c'] w fun e W' => e = .returned (.bool true) ∧ Below w.heap.size w W' := by
  have hmm : maxLen = 9223372036854775807 := by simp [maxLen]
  have H := Lib.hid h; have H' := Lib.hid h'
  clear h h'
  go_enter Try.func25, Try.ntmps25
  go_wp2_with fail
  go_loopw [5] (fun v5 wr => ∃ i q : Nat, i ≤ n ∧ v5 = .int .i64 i ∧ wr = w.drewN q) (fun v5 _ => n - (intOf v5).toNat)
  case atStart => exact ⟨0, 0, Nat.zero_le _, rfl, rfl⟩
  case round =>
    obtain ⟨i, q, hi, rfl, rfl⟩ := hrel
    by_cases hin : i < n
    · have e1 : decide ((i : Int) < (n : Int)) = true := by simp; omega
      have e2 : (i : Int) < (n : Int) := by omega
      obtain ⟨ad, rfl, had, ht⟩ := tx_at H.out hin
      obtain ⟨ad', rfl, had', ht'⟩ := tx_at H'.out hin
      obtain ⟨s, hs⟩ : ∃ s, s = T i := ⟨_, rfl⟩
      rw [← hs] at ht ht'
      have l1 := World.block_lt_of_cell? _ _ ht
      have l2 := World.block_lt_of_cell? _ _ ht'
      have f2 : (s.toList == s.toList) = true := by simp
      clear hs
      go_wp2_with fail
      go_quiet (fail)
      go_wp2_with fail
      go_roundw
      case rel => exact ⟨i + 1, _, by omega, by go_num, rfl⟩
      case measure => simp [intOf]; omega
    · obtain rfl : i = n := by omega
      have d1 : decide ((i : Int) < (i : Int)) = false := by simp
      have d2 : ((i : Int) == (i : Int)) = true := by simp
      go_wp2_with fail
      go_quiet (fail)
      go_wp2_with fail
      go_ret
      exact ⟨rfl, below_drewN (Below.refl _ _) _⟩
theorem rel_cells {W : World} {B : Nat} {A : Option Addr} {n : Nat} {R : Nat → RelD} (h : StR W B 4 A n (relC R)) {k : Nat} (hk : k < n) : ∃ ad, A = some ad ∧ ad.block < B ∧
    W.cell? (ad.add (k * 4)) = some (.int .u64 (R k).off) ∧ W.cell? ⟨(ad.add (k * 4)).block, (ad.add (k * 4)).off + 1, none⟩ = some (.int .u32 (R k).ty) ∧ W.cell? ⟨(ad.add (k * 4)).block, (ad.add (k * 4)).off + 2, none⟩ = some (.int .i64 (R k).sym) ∧
    W.cell? ⟨(ad.add (k * 4)).block, (ad.add (k * 4)).off + 3, none⟩ = some (.int .i64 (R k).add) := by
  obtain ⟨ad, rfl, hb, hc⟩ := h (by omega)
  have hc := hc k hk
  refine ⟨ad, rfl, hb, hc 0 _ rfl, ?_, ?_, ?_⟩
  all_goals rw [← add_field]
  · exact hc 1 _ rfl
  · exact hc 2 _ rfl
  · exact hc 3 _ rfl
set_option maxRecDepth 20000 in
set_option maxHeartbeats 1600000 in
theorem same13_any (nA sA rA nA' sA' rA' : Option Addr) (nM nQ sM sQ rM rQ nQ' sQ' rQ' : Nat) (so rn : ByteArray) (T : Nat → ByteArray) (S : Nat → SymD) (R : Nat → RelD) (w : World)
    (hT : StR w w.heap.size 1 nA nM (txC T)) (hS : StR w w.heap.size 5 sA sM (symC S)) (hR : StR w w.heap.size 4 rA rM (relC R))
    (hT' : StR w w.heap.size 1 nA' nM (txC T)) (hS' : StR w w.heap.size 5 sA' sM (symC S)) (hR' : StR w w.heap.size 4 rA' rM (relC R)) (hn : nM ≤ maxLen) (hs : sM ≤ maxLen) (hr : rM ≤ maxLen) :
    Calls Try.prog 19 #[.agg #[.slice nA nM nQ, .string so, .string rn, .slice sA sM sQ, .slice rA rM rQ], .agg #[.slice nA' nM nQ', .string so, .string rn, .slice sA' sM sQ', .slice rA' rM rQ']] w fun e W' => e = .returned (.bool true) ∧ Below w.heap.size w W' := by
  have hmm : maxLen = 9223372036854775807 := by simp [maxLen]
  have HT := Lib.hid hT; have HS := Lib.hid hS; have HR := Lib.hid hR
  have HT' := Lib.hid hT'; have HS' := Lib.hid hS'; have HR' := Lib.hid hR'
  have q1 : (so.toList == so.toList) = true := by simp
  have q2 : (rn.toList == rn.toList) = true := by simp
  have q3 : ((sM : Int) == (sM : Int)) = true := by simp
  have q4 : ((rM : Int) == (rM : Int)) = true := by simp
  have C0 : Hid (CP1 w #[.slice nA nM nQ, .string so, .string rn, .slice sA sM sQ, .slice rA rM rQ] #[.slice nA' nM nQ', .string so, .string rn, .slice sA' sM sQ', .slice rA' rM rQ'] ((w.alloc (.cells #[.slice nA nM nQ, .string so, .string rn, .slice sA sM sQ, .slice rA rM rQ] 31)).alloc (.cells #[.slice nA' nM nQ', .string so, .string rn, .slice sA' sM sQ', .slice rA' rM rQ'] 31))) :=
    Lib.hid ⟨((Below.refl _ _).alloc (Nat.le_refl _) _).alloc (by simp) _, (Blk.new _ _ _).alloc _, blk_at _ _ (by simp)⟩
  clear hT hS hR hT' hS' hR'
  go_enter Try.func19, Try.ntmps19
  go_wp2_with fail
  refine (eqtexts_any nA nA' nM nQ nQ' _ _ T _ (HT.out.below C0.out.bl) (HT'.out.below C0.out.bl) hn).mono ?_
  rintro e w2 ⟨rfl, bl2⟩
  have C2 := Lib.hid (C0.out.next bl2)
  clear bl2 C0
  obtain ⟨a0, a1, a2, a3, a4, z0, z1, z2, z3, z4⟩ := CP1.cells C2
  have l1 := C2.out.b1.lt
  have l2 := C2.out.b2.lt
  have st46 : Try.prog.stoodInHeld 46 = false := by kernel_rfl
  have st71 : Try.prog.stoodInHeld 71 = false := by kernel_rfl
  have eg46 : Try.prog.eqGuardType Try.prog.depth 46 = false := by kernel_rfl
  have eg71 : Try.prog.eqGuardType Try.prog.depth 71 = false := by kernel_rfl
  go_wp2_with fail
  go_loopw [5] (fun v5 wr => ∃ i q : Nat, i ≤ sM ∧ v5 = .int .i64 i ∧ wr = w2.drewN q) (fun v5 _ => sM - (intOf v5).toNat)
  case atStart => exact ⟨0, 0, Nat.zero_le _, rfl, rfl⟩
  case round =>
    obtain ⟨i, q, hi, rfl, rfl⟩ := hrel
    by_cases hin : i < sM
    · have e1 : decide ((i : Int) < (sM : Int)) = true := by simp; omega
      have e2 : (i : Int) < (sM : Int) := by omega
      obtain ⟨ad, rfl, had, d0, d1, d2, d3, d4⟩ := sym_cells (HS.out.below C2.out.bl) hin
      obtain ⟨ad', rfl, had', d0', d1', d2', d3', d4'⟩ := sym_cells (HS'.out.below C2.out.bl) hin
      obtain ⟨s, hs⟩ : ∃ s, s = S i := ⟨_, rfl⟩
      rw [← hs] at d0 d1 d2 d3 d4 d0' d1' d2' d3' d4'
      obtain ⟨nm, v, sz, bd, df⟩ := s
      dsimp only at d0 d1 d2 d3 d4 d0' d1' d2' d3' d4'
      have l3 := World.block_lt_of_cell? _ _ d0
      have l4 := World.block_lt_of_cell? _ _ d0'
      have f2 : (nm.toList == nm.toList) = true := by simp
      clear hs
      go_wp2_with fail
      go_quiet (fail)
      go_wp2_with fail
      go_roundw
      case rel => exact ⟨i + 1, _, by omega, by go_num, rfl⟩
      case measure => simp [intOf]; omega
    · obtain rfl : i = sM := by omega
      have d1 : decide ((i : Int) < (i : Int)) = false := by simp
      have d2 : ((i : Int) == (i : Int)) = true := by simp
      go_wp2_with fail
      go_loopw [6] (fun v6 wr => ∃ k q : Nat, k ≤ rM ∧ v6 = .int .i64 k ∧ wr = w2.drewN q) (fun v6 _ => rM - (intOf v6).toNat)
      case atStart => exact ⟨0, q, Nat.zero_le _, rfl, rfl⟩
      case round =>
        clear q
        obtain ⟨k, q, hk, rfl, rfl⟩ := hrel
        by_cases hkn : k < rM
        · have e1 : decide ((k : Int) < (rM : Int)) = true := by simp; omega
          have e2 : (k : Int) < (rM : Int) := by omega
          obtain ⟨ad, rfl, had, d0, d1, d2, d3⟩ := rel_cells (HR.out.below C2.out.bl) hkn
          obtain ⟨ad', rfl, had', d0', d1', d2', d3'⟩ := rel_cells (HR'.out.below C2.out.bl) hkn
          obtain ⟨s, hs⟩ : ∃ s, s = R k := ⟨_, rfl⟩
          rw [← hs] at d0 d1 d2 d3 d0' d1' d2' d3'
          obtain ⟨off, ty, sym, add⟩ := s
          dsimp only at d0 d1 d2 d3 d0' d1' d2' d3'
          have l3 := World.block_lt_of_cell? _ _ d0
          have l4 := World.block_lt_of_cell? _ _ d0'
          clear hs
          go_wp2_with fail
          go_quiet (fail)
          go_wp2_with fail
          go_roundw
          case rel => exact ⟨k + 1, _, by omega, by go_num, rfl⟩
          case measure => simp [intOf]; omega
        · obtain rfl : k = rM := by omega
          have d1 : decide ((k : Int) < (k : Int)) = false := by simp
          go_wp2_with fail
          go_ret
          exact ⟨rfl, below_drewN C2.out.bl _⟩
end Go.Proofs.Ytneleioiondapaa
