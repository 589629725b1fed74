import Derived.Test.YtneleioiondapaaY6
namespace Go.Proofs.Ytneleioiondapaa
open Go.RowKit Go.Shelf Go.Hos
set_option linter.unusedVariables false
def sumS (O : Nat → ObjD) : Nat → Nat
  | 0 => 0
  | n + 1 => sumS O n + (O n).sM
theorem sumS_get (O : Nat → ObjD) : ∀ n i, i < n → (O i).sM ≤ sumS O n
  | n + 1, i, h => by
    unfold sumS
    by_cases e : i = n
    · subst e; omega
    · have := sumS_get O n i (by omega); omega
theorem dfI_len (O : Nat → ObjD) (i : Nat) : ∀ m, (dfI O i m).length ≤ m
  | 0 => by simp [dfI]
  | m + 1 => by
    have := dfI_len O i m
    unfold dfI
    split <;> simp <;> omega
theorem dfO_len (O : Nat → ObjD) : ∀ n, (dfO O n).length ≤ sumS O n
  | 0 => by simp [dfO]
  | n + 1 => by
    have := dfO_len O n
    have := dfI_len O n (O n).sM
    unfold dfO sumS
    simp; omega
def LgP (O : Nat → ObjD) (m : Nat) (w : World) (e : Ending) (W' : World) : Prop := ∃ b : Bool, e = .returned (.bool b) ∧ Hid (b = false → m + sumS O m ≤ 300) ∧ w = W'
set_option maxRecDepth 20000 in
set_option maxHeartbeats 1600000 in
theorem large_any (A : Option Addr) (m c : Nat) (O : Nat → ObjD) (B : Nat) (w : World) (hR : ObjR w B A m O) (hNm : ∀ x, (symA O x).nm.size ≤ maxLen) :
    Calls Try.prog 7 #[.slice A m c] w (LgP O m w) := by
  have hm := hR.len
  have hmm : maxLen = 9223372036854775807 := by simp [maxLen]
  have H := Lib.hid hR
  have HNM := Lib.hid hNm
  clear hR hNm
  go_enter Try.func7, Try.ntmps7
  go_wp2_with fail
  go_loop [3, 4] (fun v3 v4 => ∃ nn i : Nat, i ≤ m ∧ nn ≤ 9223372036854775807 ∧ v3 = .int .i64 nn ∧ v4 = .int .i64 i ∧ Hid (nn ≤ 300 → m + sumS O i ≤ nn)) (fun _ v4 => m - (intOf v4).toNat)
  case atStart => exact ⟨m, 0, by omega, by omega, rfl, rfl, Lib.hid (fun _ => by simp [sumS])⟩
  case round =>
    obtain ⟨nn, i, hi, hn, rfl, rfl, hs⟩ := hrel
    by_cases him : i < m
    · have d1 : decide ((i : Int) < (m : Int)) = true := by simp; omega
      by_cases hn3 : nn ≤ 300
      · have d2 : decide ((nn : Int) ≤ 300) = true := by simp; omega
        have d2' : (nn : Int) ≤ 300 := by omega
        obtain ⟨ad, rfl, had, _, _, _, _, _, _, _, _, _, c9, _⟩ := H.out.cells him
        have hsl := (H.out.sy i him).2
        have hsy := Lib.hid (H.out.sy i him).1
        obtain ⟨l, hl⟩ : ∃ l, l = (O i).sM := ⟨_, rfl⟩
        obtain ⟨x0, hx0⟩ : ∃ l, l = (O i).sA := ⟨_, rfl⟩
        obtain ⟨x1, hx1⟩ : ∃ l, l = (O i).sQ := ⟨_, rfl⟩
        rw [← hl, ← hx0, ← hx1] at c9
        rw [← hl] at hsl
        have HX0 := Lib.hid hx0
        have hsl' : l ≤ 9223372036854775807 := by omega
        have hs2 : Hid (∀ q, q ≤ 300 → nn + min l 1000 ≤ q → m + sumS O (i + 1) ≤ q) := by
          refine Lib.hid fun q hq h2 => ?_
          have := hs.out hn3
          unfold sumS
          rw [← hl]
          omega
        have HL := Lib.hid hl
        clear hl hx0 hx1
        have key : ∀ (mn : Nat), mn = min l 1000 → mn ≤ 1000 ∧ (nn + mn ≤ 300 → m + sumS O (i + 1) ≤ nn + mn) := fun mn h => ⟨by omega, fun h2 => hs2.out _ h2 (by omega)⟩
        have KEY := Lib.hid key
        clear key
        have hc : (l ≤ 1000 ∧ (l : Int) ≤ 1000) ∨ (1000 < l ∧ (1000 : Int) < (l : Int)) := by omega
        rcases hc with ⟨q1, q2⟩ | ⟨q1, q2⟩
        · have k1 := (KEY.out l (by omega)).1
          obtain ⟨n2, hn2⟩ : ∃ n2, n2 = nn + l := ⟨_, rfl⟩
          have hs3 : Hid (n2 ≤ 300 → m + sumS O (i + 1) ≤ n2) := Lib.hid (by rw [hn2]; exact (KEY.out l (by omega)).2)
          have hni : (nn : Int) + (l : Int) = (n2 : Int) := by omega
          have hn23 : n2 ≤ 1300 := by omega
          clear hn2
          go_wp2_with fail
          go_loop [3, 5] (fun v3 v5 => ∃ nn k : Nat, k ≤ l ∧ nn ≤ 1300 ∧ v3 = .int .i64 nn ∧ v5 = .int .i64 k ∧ Hid (nn ≤ 300 → m + sumS O (i + 1) ≤ nn)) (fun _ v5 => l - (intOf v5).toNat)
          case atStart => exact ⟨n2, 0, by omega, hn23, rfl, rfl, hs3⟩
          case round =>
            obtain ⟨n4, k, hk, hn4, rfl, rfl, hs4⟩ := hrel
            by_cases hkl : k < l
            · have f1 : decide ((k : Int) < (l : Int)) = true := by simp; omega
              by_cases hn43 : n4 ≤ 300
              · have f2 : decide ((n4 : Int) ≤ 300) = true := by simp; omega
                have f2' : (n4 : Int) ≤ 300 := by omega
                have hsy2 := hsy.out
                rw [← HX0.out, ← HL.out] at hsy2
                obtain ⟨ads, hads, has, d0, _⟩ := sym_cells hsy2 hkl
                have hnms : ((O i).sy k).nm.size ≤ maxLen := HNM.out (i, k)
                obtain ⟨nm, hnm⟩ : ∃ x, x = ((O i).sy k).nm := ⟨_, rfl⟩
                rw [← hnm] at d0 hnms
                clear hsy2 hnm
                subst hads
                obtain ⟨sz, hsz⟩ : ∃ s, s = nm.size / 1000 := ⟨_, rfl⟩
                have g0 : nm.size ≤ 9223372036854775807 := by omega
                have g1 : (nm.size : Int).tdiv 1000 = (sz : Int) := by rw [Int.tdiv_eq_ediv_of_nonneg (by omega)]; omega
                have g2 : (nm.size : Int) / 1000 = (sz : Int) := by omega
                have g3 : IntKind.i64.wrap (sz : Int) = (sz : Int) := IntWalk.i64_in _ (by omega)
                clear hsz
                have hc2 : (sz ≤ 1000 ∧ (sz : Int) ≤ 1000) ∨ (1000 < sz ∧ (1000 : Int) < (sz : Int)) := by omega
                rcases hc2 with ⟨q3, q4⟩ | ⟨q3, q4⟩
                · obtain ⟨n5, hn5⟩ : ∃ n5, n5 = n4 + sz := ⟨_, rfl⟩
                  have hs5 : Hid (n5 ≤ 300 → m + sumS O (i + 1) ≤ n5) := Lib.hid (fun h => by have := hs4.out hn43; omega)
                  have hn5i : (n4 : Int) + (sz : Int) = (n5 : Int) := by omega
                  have hn53 : n5 ≤ 1300 := by omega
                  clear hn5
                  go_wp2_with fail
                  go_round
                  case rel => exact ⟨n5, k + 1, by omega, hn53, by rw [← hn5i], by go_num, hs5⟩
                  case measure => simp [intOf]; omega
                · obtain ⟨n5, hn5⟩ : ∃ n5, n5 = n4 + 1000 := ⟨_, rfl⟩
                  have hs5 : Hid (n5 ≤ 300 → m + sumS O (i + 1) ≤ n5) := Lib.hid (fun h => by have := hs4.out hn43; omega)
                  have hn5i : (n4 : Int) + 1000 = (n5 : Int) := by omega
                  have hn53 : n5 ≤ 1300 := by omega
                  clear hn5
                  go_wp2_with fail
                  go_round
                  case rel => exact ⟨n5, k + 1, by omega, hn53, by rw [← hn5i], by go_num, hs5⟩
                  case measure => simp [intOf]; omega
              · have f2 : decide ((n4 : Int) ≤ 300) = false := by simp; omega
                go_wp2_with fail
                go_round
                case rel => exact ⟨n4, i + 1, by omega, by omega, rfl, by go_num, hs4⟩
                case measure => simp [intOf]; omega
            · have f1 : decide ((k : Int) < (l : Int)) = false := by simp; omega
              go_wp2_with fail
              go_round
              case rel => exact ⟨n4, i + 1, by omega, by omega, rfl, by go_num, hs4⟩
              case measure => simp [intOf]; omega
        · have k1 := (KEY.out 1000 (by omega)).1
          obtain ⟨n2, hn2⟩ : ∃ n2, n2 = nn + 1000 := ⟨_, rfl⟩
          have hs3 : Hid (n2 ≤ 300 → m + sumS O (i + 1) ≤ n2) := Lib.hid (by rw [hn2]; exact (KEY.out 1000 (by omega)).2)
          have hni : (nn : Int) + 1000 = (n2 : Int) := by omega
          have hn23 : n2 ≤ 1300 := by omega
          clear hn2
          go_wp2_with fail
          go_loop [3, 5] (fun v3 v5 => ∃ nn k : Nat, k ≤ l ∧ nn ≤ 1300 ∧ v3 = .int .i64 nn ∧ v5 = .int .i64 k ∧ Hid (nn ≤ 300 → m + sumS O (i + 1) ≤ nn)) (fun _ v5 => l - (intOf v5).toNat)
          case atStart => exact ⟨n2, 0, by omega, hn23, rfl, rfl, hs3⟩
          case round =>
            obtain ⟨n4, k, hk, hn4, rfl, rfl, hs4⟩ := hrel
            by_cases hkl : k < l
            · have f1 : decide ((k : Int) < (l : Int)) = true := by simp; omega
              by_cases hn43 : n4 ≤ 300
              · have f2 : decide ((n4 : Int) ≤ 300) = true := by simp; omega
                have f2' : (n4 : Int) ≤ 300 := by omega
                have hsy2 := hsy.out
                rw [← HX0.out, ← HL.out] at hsy2
                obtain ⟨ads, hads, has, d0, _⟩ := sym_cells hsy2 hkl
                have hnms : ((O i).sy k).nm.size ≤ maxLen := HNM.out (i, k)
                obtain ⟨nm, hnm⟩ : ∃ x, x = ((O i).sy k).nm := ⟨_, rfl⟩
                rw [← hnm] at d0 hnms
                clear hsy2 hnm
                subst hads
                obtain ⟨sz, hsz⟩ : ∃ s, s = nm.size / 1000 := ⟨_, rfl⟩
                have g0 : nm.size ≤ 9223372036854775807 := by omega
                have g1 : (nm.size : Int).tdiv 1000 = (sz : Int) := by rw [Int.tdiv_eq_ediv_of_nonneg (by omega)]; omega
                have g2 : (nm.size : Int) / 1000 = (sz : Int) := by omega
                have g3 : IntKind.i64.wrap (sz : Int) = (sz : Int) := IntWalk.i64_in _ (by omega)
                clear hsz
                have hc2 : (sz ≤ 1000 ∧ (sz : Int) ≤ 1000) ∨ (1000 < sz ∧ (1000 : Int) < (sz : Int)) := by omega
                rcases hc2 with ⟨q3, q4⟩ | ⟨q3, q4⟩
                · obtain ⟨n5, hn5⟩ : ∃ n5, n5 = n4 + sz := ⟨_, rfl⟩
                  have hs5 : Hid (n5 ≤ 300 → m + sumS O (i + 1) ≤ n5) := Lib.hid (fun h => by have := hs4.out hn43; omega)
                  have hn5i : (n4 : Int) + (sz : Int) = (n5 : Int) := by omega
                  have hn53 : n5 ≤ 1300 := by omega
                  clear hn5
                  go_wp2_with fail
                  go_round
                  case rel => exact ⟨n5, k + 1, by omega, hn53, by rw [← hn5i], by go_num, hs5⟩
                  case measure => simp [intOf]; omega
                · obtain ⟨n5, hn5⟩ : ∃ n5, n5 = n4 + 1000 := ⟨_, rfl⟩
                  have hs5 : Hid (n5 ≤ 300 → m + sumS O (i + 1) ≤ n5) := Lib.hid (fun h => by have := hs4.out hn43; omega)
                  have hn5i : (n4 : Int) + 1000 = (n5 : Int) := by omega
                  have hn53 : n5 ≤ 1300 := by omega
                  clear hn5
                  go_wp2_with fail
                  go_round
                  case rel => exact ⟨n5, k + 1, by omega, hn53, by rw [← hn5i], by go_num, hs5⟩
                  case measure => simp [intOf]; omega
              · have f2 : decide ((n4 : Int) ≤ 300) = false := by simp; omega
                go_wp2_with fail
                go_round
                case rel => exact ⟨n4, i + 1, by omega, by omega, rfl, by go_num, hs4⟩
                case measure => simp [intOf]; omega
            · have f1 : decide ((k : Int) < (l : Int)) = false := by simp; omega
              go_wp2_with fail
              go_round
              case rel => exact ⟨n4, i + 1, by omega, by omega, rfl, by go_num, hs4⟩
              case measure => simp [intOf]; omega
      · have d2 : decide ((nn : Int) ≤ 300) = false := by simp; omega
        have FIN : Hid (∃ b : Bool, decide ((300 : Int) < (nn : Int)) = b ∧ Hid (b = false → m + sumS O m ≤ 300)) := Lib.hid ⟨_, rfl, Lib.hid fun h => by simp at h; omega⟩
        go_wp2_with fail
        go_ret
        obtain ⟨b, hb1, hb2⟩ := FIN.out
        exact ⟨b, by rw [← hb1]; rfl, hb2, rfl⟩
    · obtain rfl : i = m := by omega
      have d1 : decide ((i : Int) < (i : Int)) = false := by simp
      have FIN : Hid (∃ b : Bool, decide ((300 : Int) < (nn : Int)) = b ∧ Hid (b = false → i + sumS O i ≤ 300)) := Lib.hid ⟨_, rfl, Lib.hid fun h => by simp at h; have := hs.out (by omega); omega⟩
      go_wp2_with fail
      go_ret
      obtain ⟨b, hb1, hb2⟩ := FIN.out
      exact ⟨b, by rw [← hb1]; rfl, hb2, rfl⟩
end Go.Proofs.Ytneleioiondapaa
