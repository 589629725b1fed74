import Derived.Test.YtfhkcbhbomghfaaWc
namespace Go.Proofs.Ytfhkcbhbomghfaa
open Go.RowKit Go.Hos
set_option linter.unusedVariables false

theorem ob_reads {w W : World} {B g n m : Nat} {xs ys : List Nat} (h : OB w B g (n + m) (xs ++ ys) W) (hx : xs.length = n) : Reads W W.heap.size 1 (some ⟨g, 0, none⟩) n (B8 xs) :=
  reads_take (Reads.of_own h.own) hx

theorem OB.lt {w W : World} {B g n : Nat} {xs : List Nat} (h : OB w B g n xs W) (hn : 0 < n) : g < W.heap.size := by
  obtain ⟨g', cap, hv, _, hlt⟩ := h.own.form hn
  injection hv with h1 _ _
  injection h1 with h1
  injection h1 with h1 _ _
  omega
set_option maxHeartbeats 800000 in
theorem gets_any (A : Option Addr) (n c at_ : Nat) (bs : List Nat) (sz : Int) (w : World) (h : Reads w w.heap.size 1 A n (B8 bs)) (h8 : ∀ x ∈ bs, x < 256) (ha : at_ < M) (hn : n ≤ maxLen) :
    Calls Try.prog 3 #[.slice A n c, .int .u64 at_, .int .i64 sz] w fun e w' => e = .returned (.bool true) ∧ Below w.heap.size w w' := by
  by_cases hl : n ≤ 131072
  · have H := Lib.hid h
    have HL : Hid (bs.length = n) := b8_len h
    have H8 := Lib.hid h8
    obtain ⟨x, hx⟩ : ∃ x, x = gtv bs at_ sz := ⟨_, rfl⟩
    obtain ⟨q, hq⟩ : ∃ q, q = plc n at_ sz := ⟨_, rfl⟩
    have HX := Lib.hid hx
    have HQ := Lib.hid hq
    clear h hx hq h8 hn
    go_enter Try.func3, Try.ntmps3
    go_wp2_with fail
    refine (roomy_any A n c bs _ _ H.out (Nat.le_refl _) (by omega)).mono ?_
    rintro e w1 ⟨g, rfl, hg, hob⟩
    have OB1 := Lib.hid hob
    clear hob
    go_wp2_with fail
    refine (get_any (some ⟨g, 0, none⟩) n (n + 7) at_ w1.heap.size sz bs _ (ob_reads OB1.out HL.out) (Nat.le_refl _) H8.out (by omega) ha).mono ?_
    rintro e w2 ⟨rfl, hb2⟩
    rw [← HX.out, ← HQ.out]
    have HB2 := Lib.hid hb2
    have B2 : Hid (Below w.heap.size w w2) := OB1.out.low.trans (hb2.mono OB1.out.low.size)
    clear hb2
    go_wp2_with fail
    refine (rget_any A n c at_ w2.heap.size sz bs _ ((H.out.below B2.out).more B2.out.size) H8.out (by omega) ha).mono ?_
    rintro e w3 ⟨rfl, rfl⟩
    rw [← HX.out, ← HQ.out]
    go_wp2_with fail
    refine (kept_any g A n n c bs bs w1.heap.size _ _ ((Reads.of_own OB1.out.own).below HB2.out) ((H.out.below B2.out).more B2.out.size) (by omega) (by omega) HL.out (Nat.lt_of_lt_of_le (OB1.out.lt (by omega)) HB2.out.size)).mono ?_
    rintro e w3 ⟨rfl, hb3⟩
    rw [decide_eq_true rfl]
    have B3 : Hid (Below w.heap.size w w3) := B2.out.trans (hb3.mono B2.out.size)
    clear hb3
    go_wp2_with fail
    refine (works_any _).mono ?_
    rintro e w4 ⟨rfl, hb4⟩
    have B4 : Hid (Below w.heap.size w w4) := B3.out.trans (hb4.mono B3.out.size)
    clear hb4
    go_wp2_with fail
    go_ret
    exact ⟨rfl, B4.out⟩
  · clear h
    go_enter Try.func3, Try.ntmps3
    go_wp2_with fail
    refine (works_any _).mono ?_
    rintro e w1 ⟨rfl, hb1⟩
    have HB := Lib.hid hb1
    clear hb1
    go_wp2_with fail
    go_ret
    exact ⟨rfl, HB.out⟩
end Go.Proofs.Ytfhkcbhbomghfaa
