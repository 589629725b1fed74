import Derived.Test.YtlenjpgkmikgpaaR16
import Derived.Test.YtlenjpgkmikgpaaR15
import Derived.Test.YtlenjpgkmikgpaaR9
namespace Go.Proofs.Ytlenjpgkmikgpaa
open Go.RowKit Go.Shelf Go.Hos
set_option linter.unusedVariables false
/-! rows of structs, flat -/
def flatG (F : Nat → Array Value) : Nat → List Value
  | 0 => []
  | n + 1 => flatG F n ++ (F n).toList
theorem flatG_len {F : Nat → Array Value} {sz : Nat} (h : ∀ i, (F i).size = sz) : ∀ n, (flatG F n).length = n * sz
  | 0 => by simp [flatG]
  | n + 1 => by unfold flatG; rw [List.length_append, flatG_len h n, Array.length_toList, h, Nat.succ_mul]
theorem flatG_get {F : Nat → Array Value} {sz : Nat} (h : ∀ i, (F i).size = sz) : ∀ n i j, i < n → j < sz → (flatG F n)[i * sz + j]? = (F i)[j]?
  | n + 1, i, j, hi, hj => by
    unfold flatG
    by_cases e : i = n
    · subst e
      rw [List.getElem?_append_right (by rw [flatG_len h]; omega), flatG_len h, show i * sz + j - i * sz = j by omega, Array.getElem?_toList]
    · rw [List.getElem?_append_left (by rw [flatG_len h]; have : (i + 1) * sz ≤ n * sz := Nat.mul_le_mul_right _ (by omega); rw [Nat.succ_mul] at this; omega)]
      exact flatG_get h n i j (by omega) hj
theorem flatG_one {F : Nat → Array Value} (h : ∀ i, ∀ u ∈ (F i).toList, u.oneCell' = true) : ∀ n, ∀ u ∈ flatG F n, u.oneCell' = true
  | 0, u, hu => by cases hu
  | n + 1, u, hu => by
    unfold flatG at hu
    rcases List.mem_append.1 hu with hu | hu
    · exact flatG_one h n u hu
    · exact h n u hu
theorem flatG_congr {F G : Nat → Array Value} : ∀ n, (∀ i, i < n → F i = G i) → flatG F n = flatG G n
  | 0, _ => rfl
  | n + 1, h => by unfold flatG; rw [flatG_congr n fun i hi => h i (by omega), h n (by omega)]
theorem readsG {W : World} {B n sz : Nat} {A : Option Addr} {F : Nat → Array Value} (h : Lay.StR W B sz A n F) (hs : ∀ i, (F i).size = sz) (hz : 0 < sz) : Reads W B sz A n (flatG F n) := by
  refine ⟨flatG_len hs n, fun hn => ?_⟩
  obtain ⟨ad, rfl, hb, hc⟩ := h hn
  refine ⟨ad, rfl, hb, fun j u hu => ?_⟩
  have hj : j < n * sz := by have := (List.getElem?_eq_some_iff.1 hu).1; rwa [flatG_len hs] at this
  have e : j = j / sz * sz + j % sz := (Nat.div_add_mod' j sz).symm
  have hi : j / sz < n := Nat.div_lt_of_lt_mul (by rw [Nat.mul_comm]; exact hj)
  have hr : j % sz < sz := Nat.mod_lt _ hz
  rw [e] at hu ⊢
  rw [flatG_get hs n _ _ hi hr] at hu
  exact hc _ hi _ u hu
theorem str_ownG {W : World} {base e n c sz : Nat} {A : Option Addr} {F : Nat → Array Value} (h : W.ownsRow base e sz (.slice A n c) n (flatG F n)) (hs : ∀ i, (F i).size = sz) : Lay.StR W W.heap.size sz A n F := fun hn => by
  obtain ⟨ad, rfl, hb, hc⟩ := (Reads.of_own h).2 hn
  refine ⟨ad, rfl, hb, fun i hi j u hu => ?_⟩
  have hj : j < sz := by rw [← hs i]; exact (Array.getElem?_eq_some_iff.1 hu).1
  exact hc _ u (by rw [flatG_get hs n i j hi hj]; exact hu)
theorem PatD.one (q : PatD) : ∀ u ∈ q.cs.toList, u.oneCell' = true := by
  intro u hu
  simp only [PatD.cs, List.mem_cons, List.not_mem_nil, or_false] at hu
  rcases hu with rfl | rfl | rfl <;> rfl
/-! the law: patches as bytes -/
set_option maxRecDepth 100000 in
set_option maxHeartbeats 8000000 in
theorem law4_any (A : Option Addr) (n c : Nat) (P : Nat → PatD) (V : Nat → Nat) (w : World) (h : Lay.StR w w.heap.size 3 A n (fun k => (P k).cs)) (hV : ∀ i, (P i).v = (V i : Int) ∧ V i < M) :
    Calls Try.prog 4 #[.slice A n c] w fun e W' => e = .returned (.bool true) ∧ Below w.heap.size w W' := by
  have hmm : maxLen = 9223372036854775807 := by simp [maxLen]
  have H := Lib.hid h; have HV := Lib.hid hV
  clear h hV
  by_cases hn : n ≤ 500
  · have g1 : decide ((500 : Int) < (n : Int)) = false := by simp; omega
    obtain ⟨i0, hi0, hz0, hz1, hz2⟩ := info_parts info55
    obtain ⟨xs, hxs⟩ : ∃ x, x = flatG (fun k => (P k).cs) n := ⟨_, rfl⟩
    have HXS := Lib.hid hxs
    have RD : Hid (Reads w w.heap.size 3 A n xs) := Lib.hid (by rw [hxs]; exact readsG H.out (fun _ => rfl) (by omega))
    have X1 : Hid (∀ u ∈ xs, u.oneCell' = true) := Lib.hid (by rw [hxs]; exact flatG_one (fun k => (P k).one) n)
    have HN := Lib.hid hn
    clear hxs
    go_enter Try.func4, Try.ntmps4
    go_wp2_with (at_builtin; refine wpList_append_any _ rfl (.tmp 20) (.tmp 21) _ rfl w.heap.size 55 i0 _ 3 24 Try.underlying26 hi0 hz0 hz1 hz2 rfl (by omega) (.slice (some ⟨w.heap.size, 0, none⟩) 0 0) 0 [] rfl (owns_empty w 55 3 (Nat.le_refl _)) w.heap.size A n c xs rfl (RD.out.below ((Below.refl _ _).alloc (Nat.le_refl _) _)) X1.out (by simp only [maxLen]; omega) (by omega) (by simp) ?_; intro v1 W1 hown1 hg1 hat1; rw [Nat.zero_add, List.nil_append] at hown1; have B1 := Lib.hid (((Below.refl w.heap.size w).alloc (Nat.le_refl _) (.cells #[] 55)).trans (below_own hg1 (by simp) fun k hk => ((owns_empty w 55 3 (Nat.le_refl _)).lt k hk).1)); have OW1 := Lib.hid hown1; obtain ⟨Ao, q, rfl⟩ := ownsRow_val hown1; clear hown1 hg1 hat1)
    have SO : Hid (Lay.StR W1 W1.heap.size 3 Ao n (fun k => (P k).cs)) := Lib.hid (str_ownG (by have := OW1.out; rw [HXS.out] at this; exact this) (fun _ => rfl))
    clear OW1 X1 RD HXS hz0 hz1 hz2 hi0
    obtain ⟨K, hK⟩ : ∃ k, k = numW P n := ⟨_, rfl⟩
    obtain ⟨E, hE⟩ : ∃ k : Int, k = if okW P n then 0 else 1 := ⟨_, rfl⟩
    have ROWS : Hid (∀ (w : World) e W', WrP w P V n e W' → ∃ A c D, e = .returned (.tuple #[.slice A K c, .int .i64 E]) ∧ WB True W' w.heap.size K A P V D ∧ Below w.heap.size w W') := Lib.hid fun w e W' h => by rw [hK, hE]; exact h.rows
    have HKN : K ≤ n := by rw [hK]; unfold numW; split <;> omega
    clear hK hE
    refine (writes_any Ao n q P V W1 SO.out HN.out HV.out).mono ?_
    rintro e W2 hw
    obtain ⟨Aa, ca, Da, rfl, wa, b2⟩ := ROWS.out _ _ _ hw
    have WA2 := Lib.hid wa
    have B2 := Lib.hid b2
    clear hw wa b2
    go_wp2_with fail
    refine (rwrites_any A n c P V W2 ((H.out.below (B1.out.trans (B2.out.mono B1.out.size))).more (Nat.le_trans B1.out.size B2.out.size)) HN.out HV.out).mono ?_
    rintro e W3 hw
    obtain ⟨Ab, cb, Db, rfl, wb, b3⟩ := ROWS.out _ _ _ hw
    have DA : Hid (∀ i, i < K → (Da i).blk < W2.heap.size) := Lib.hid fun i hi => by
      obtain ⟨_, _, cs, hb, _⟩ := WA2.out.bs i hi
      exact hb.lt
    have WA3 := Lib.hid (WA2.out.next b3)
    have WB3 := Lib.hid wb
    have B3 := Lib.hid (B2.out.trans (b3.mono B2.out.size))
    have Z3 := Lib.hid b3.size
    have SO3 := Lib.hid ((SO.out.below B3.out).more B3.out.size)
    clear hw wb b3 WA2 B2
    have t1 : (E != E) = false := by simp
    have t2 : ((K : Int) != (K : Int)) = false := by simp
    go_wp2_with fail
    refine (same_any Ao A n q c P W3 SO3.out ((H.out.below (B1.out.trans (B3.out.mono B1.out.size))).more (Nat.le_trans B1.out.size B3.out.size)) (by omega)).mono ?_
    rintro e W4 ⟨rfl, b4⟩
    have WA4 := Lib.hid (WA3.out.next b4)
    have WB4 := Lib.hid (WB3.out.next b4)
    have B4 := Lib.hid (B3.out.trans (b4.mono B3.out.size))
    have Z4 := Lib.hid (Nat.le_trans Z3.out b4.size)
    clear b4 WA3 WB3 B3 SO3 Z3 t1 t2
    go_wp2_with fail
    go_loopw [8] (fun v8 wr => ∃ i p : Nat, i ≤ K ∧ v8 = .int .i64 i ∧ wr = W4.drewN p) (fun v8 _ => K - (intOf v8).toNat)
    case atStart => exact ⟨0, 0, Nat.zero_le _, rfl, rfl⟩
    case round =>
      obtain ⟨i, p, hi, rfl, rfl⟩ := hrel
      by_cases hik : i < K
      · have e1 : decide ((i : Int) < (K : Int)) = true := by simp; omega
        have e2 : (i : Int) < (K : Int) := by omega
        obtain ⟨ad, bd, k, rfl, a1, a2, hbd, hk1, hk2, hk8, a3, a4, c0, c1⟩ := WA4.out.head hik
        obtain ⟨ad', bd', k', rfl, a1', a2', hbd', hk1', hk2', _, a3', a4', c0', c1'⟩ := WB4.out.head hik
        obtain rfl : k = k' := by omega
        have BYA := Lib.hid (fun j (hj : j < k) => WA4.out.byte hik hbd (j := j) (by omega))
        have BYB := Lib.hid (fun j (hj : j < k) => WB4.out.byte hik hbd' (j := j) (by omega))
        generalize (P i).at_ = at0 at *
        generalize (Da i).cap = cap at *
        generalize (Db i).cap = cap' at *
        clear hbd hbd' hk1 hk2 hk1' hk2' a1 a1' a3 a3'
        have t1 : (at0 != at0) = false := by simp
        have t2 : ((k : Int) != (k : Int)) = false := by simp
        go_wp2_with fail
        go_quiet (fail)
        go_wp2_with fail
        go_loopw [9] (fun v9 wr => ∃ j p : Nat, j ≤ k ∧ v9 = .int .i64 j ∧ wr = W4.drewN p) (fun v9 _ => k - (intOf v9).toNat)
        case atStart => exact ⟨0, _, Nat.zero_le _, rfl, by first | rfl | exact drewN_drewN _ _ _⟩
        case round =>
          obtain ⟨j, p, hj, rfl, rfl⟩ := hrel
          by_cases hjk : j < k
          · have f1 : decide ((j : Int) < (k : Int)) = true := by simp; omega
            have f2 : (j : Int) < (k : Int) := by omega
            have y0 := BYA.out j hjk
            have y1 := BYB.out j hjk
            unfold byteV at y0 y1
            generalize ((V i / 256 ^ j % 256 : Nat) : Int) = Z at y0 y1
            go_wp2_with fail
            go_quiet (fail)
            go_wp2_with fail
            go_roundw
            case rel => exact ⟨j + 1, _, by omega, by go_num, by first | rfl | exact drewN_drewN _ _ _⟩
            case measure => simp [intOf]; omega
          · obtain rfl : j = k := by omega
            have f1 : decide ((j : Int) < (j : Int)) = false := by simp
            go_wp2_with fail
            go_roundw
            case rel => exact ⟨i + 1, _, by omega, by go_num, rfl⟩
            case measure => simp [intOf]; omega
      · obtain rfl : i = K := by omega
        have e1 : decide ((i : Int) < (i : Int)) = false := by simp
        obtain ⟨W5, hW5⟩ : ∃ W, W = W4.drewN p := ⟨_, rfl⟩
        have L0 : Hid (LE W1 W2 W5 i Aa P V Da W5) := by rw [hW5]; exact Lib.hid ⟨below_drewN B4.out _, rfl, fun _ _ => rfl, (WA4.out.drewN p).weak⟩
        have WB5 : Hid (WB True W5 W2.heap.size i Ab P V Db) := by rw [hW5]; exact Lib.hid (WB4.out.drewN p)
        have Z5 : Hid (W2.heap.size ≤ W5.heap.size) := by rw [hW5]; exact Z4
        rw [← hW5]
        clear hW5 WA4 WB4 B4 Z4
        go_wp2_with fail
        clear e1
        go_loopw [10] (fun v10 wr => ∃ r : Nat, r ≤ i ∧ v10 = .int .i64 r ∧ Hid (LE W1 W2 W5 i Aa P V Da wr)) (fun v10 _ => i - (intOf v10).toNat)
        case atStart => exact ⟨0, Nat.zero_le _, rfl, L0⟩
        case round =>
          clear L0
          obtain ⟨r, hr, rfl, le⟩ := hrel
          by_cases hri : r < i
          · have e1 : decide ((r : Int) < (i : Int)) = true := by simp; omega
            have e2 : (r : Int) < (i : Int) := by omega
            go_wp2_with fail
            go_loopw [11] (fun v11 wr => ∃ j : Nat, v11 = .int .i64 j ∧ Hid (LE W1 W2 W5 i Aa P V Da wr)) (fun v11 _ => (Da r).len - (intOf v11).toNat)
            case atStart => exact ⟨0, rfl, le⟩
            case round =>
              clear le
              obtain ⟨j, rfl, le⟩ := hrel
              obtain ⟨ad, bd, k, rfl, a1, a2, hbd, hk1, hk2, hk8, a3, a4, c0, c1⟩ := le.out.wb.head hri
              by_cases hjk : j < k
              · have f1 : decide ((j : Int) < (k : Int)) = true := by simp; omega
                have f2 : (j : Int) < (k : Int) := by omega
                obtain ⟨⟨u, hu⟩, hfz⟩ := le.out.wb.some_ hri hbd (j := j) (by omega)
                have LN := Lib.hid (le.out.store DA.out hri hbd (j := j) (.int .u8 238))
                have HK1 := Lib.hid hk1
                generalize (Da r).cap = cap at *
                clear hk1 hk2 a1 hbd c0 le
                go_wp2_with fail
                go_roundw
                case rel => exact ⟨j + 1, by go_num, LN⟩
                case measure => rw [← HK1.out]; simp [intOf]; omega
              · have f1 : decide ((j : Int) < (k : Int)) = false := by simp; omega
                generalize (Da r).cap = cap at *
                clear hk1 hk2 a1 hbd c0
                go_wp2_with fail
                go_roundw
                case rel => exact ⟨r + 1, by omega, by go_num, le⟩
                case measure => simp [intOf]; omega
          · obtain rfl : i = r := by omega
            have e1 : decide ((i : Int) < (i : Int)) = false := by simp
            have WB6 := Lib.hid (WB5.out.keep fun g hg _ => le.out.hi g hg)
            have B6 := Lib.hid le.out.bl
            have Z6 := Lib.hid (show wr.heap.size = W5.heap.size from le.out.sz)
            have SO6 := Lib.hid ((SO.out.below le.out.bl).more le.out.bl.size)
            clear WB5 le
            generalize wr = W6 at *
            go_wp2_with fail
            refine (writes_any Ao n q P V W6 SO6.out HN.out HV.out).mono ?_
            rintro e W7 hw
            obtain ⟨Ac, cc, Dc, rfl, wc, b7⟩ := ROWS.out _ _ _ hw
            have WC7 := Lib.hid wc
            have WB7 := Lib.hid (WB6.out.next b7)
            have B7 := Lib.hid (B6.out.trans (b7.mono B6.out.size))
            clear hw wc b7 WB6 B6 Z6 SO6 e1
            go_wp2_with fail
            go_loopw [14] (fun v8 wr => ∃ r p : Nat, r ≤ i ∧ v8 = .int .i64 r ∧ wr = W7.drewN p) (fun v8 _ => i - (intOf v8).toNat)
            case atStart => exact ⟨0, 0, Nat.zero_le _, rfl, rfl⟩
            case round =>
              obtain ⟨r, p, hr, rfl, rfl⟩ := hrel
              by_cases hri : r < i
              · have e1 : decide ((r : Int) < (i : Int)) = true := by simp; omega
                have e2 : (r : Int) < (i : Int) := by omega
                obtain ⟨ad, bd, k, rfl, a1, a2, hbd, hk1, hk2, hk8, a3, a4, c0, c1⟩ := WC7.out.head hri
                obtain ⟨ad', bd', k', rfl, a1', a2', hbd', hk1', hk2', _, a3', a4', c0', c1'⟩ := WB7.out.head hri
                obtain rfl : k = k' := by omega
                have BYA := Lib.hid (fun j (hj : j < k) => WC7.out.byte hri hbd (j := j) (by omega))
                have BYB := Lib.hid (fun j (hj : j < k) => WB7.out.byte hri hbd' (j := j) (by omega))
                generalize (Dc r).cap = cap at *
                generalize (Db r).cap = cap' at *
                clear hbd hbd' hk1 hk2 hk1' hk2' a1 a1' a3 a3' c0 c0'
                go_wp2_with fail
                go_loopw [15] (fun v9 wr => ∃ j p : Nat, j ≤ k ∧ v9 = .int .i64 j ∧ wr = W7.drewN p) (fun v9 _ => k - (intOf v9).toNat)
                case atStart => exact ⟨0, _, Nat.zero_le _, rfl, by first | rfl | exact drewN_drewN _ _ _⟩
                case round =>
                  obtain ⟨j, p, hj, rfl, rfl⟩ := hrel
                  by_cases hjk : j < k
                  · have f1 : decide ((j : Int) < (k : Int)) = true := by simp; omega
                    have f2 : (j : Int) < (k : Int) := by omega
                    have y0 := BYA.out j hjk
                    have y1 := BYB.out j hjk
                    unfold byteV at y0 y1
                    generalize ((V r / 256 ^ j % 256 : Nat) : Int) = Z at y0 y1
                    go_wp2_with fail
                    go_quiet (fail)
                    go_wp2_with fail
                    go_roundw
                    case rel => exact ⟨j + 1, _, by omega, by go_num, by first | rfl | exact drewN_drewN _ _ _⟩
                    case measure => simp [intOf]; omega
                  · obtain rfl : j = k := by omega
                    have f1 : decide ((j : Int) < (j : Int)) = false := by simp
                    go_wp2_with fail
                    go_roundw
                    case rel => exact ⟨r + 1, _, by omega, by go_num, rfl⟩
                    case measure => simp [intOf]; omega
              · obtain rfl : i = r := by omega
                have e1 : decide ((i : Int) < (i : Int)) = false := by simp
                go_wp2_with fail
                refine (works_any _).mono ?_
                rintro e W8 ⟨rfl, b8⟩
                have B8 := Lib.hid (B1.out.trans ((B7.out.trans ((show Below W7.heap.size W7 W8 from (below_drewN (Below.refl _ _) p).trans b8).mono B7.out.size)).mono B1.out.size))
                clear b8
                go_wp2_with fail
                go_ret
                exact ⟨rfl, B8.out⟩
  · have g1 : decide ((500 : Int) < (n : Int)) = true := by simp; omega
    go_enter Try.func4, Try.ntmps4
    go_wp2_with fail
    refine (works_any _).mono ?_
    rintro e W1 ⟨rfl, b1⟩
    have B1 := Lib.hid b1
    clear b1
    go_wp2_with fail
    go_ret
    exact ⟨rfl, B1.out⟩
end Go.Proofs.Ytlenjpgkmikgpaa
