import Derived.Test.YtgikfjfinjcfmaaDoorG5
namespace Go.Proofs.YtgikfjfinjcfmaaDoor
open Go.RowKit Go.Hos
set_option linter.unusedVariables false
/-- what a Load gives: nothing, or m bytes in memory of their own -/
def LdV (W : World) (L : Nat) (A : Option Addr) (m : Nat) (F : Nat → Nat) : Prop := (A = none ∧ m = 0) ∨ ∃ g, A = some ⟨g, 0, none⟩ ∧ L ≤ g ∧ Row W g 5 m (fun i => .int .u8 (F i))
def bsF (m : Nat) (F : Nat → Nat) : List Nat := (List.range m).map F
theorem bsF_len (m : Nat) (F : Nat → Nat) : (bsF m F).length = m := by simp [bsF]
theorem bsF_congr {m : Nat} {F G : Nat → Nat} (h : ∀ i, i < m → F i = G i) : bsF m F = bsF m G := List.map_congr_left fun i hi => h i (List.mem_range.1 hi)
section
variable {W W' : World} {L m : Nat} {A : Option Addr} {F : Nat → Nat}
theorem LdV.reads (h : LdV W L A m F) : Reads W W.heap.size 1 A m (u8s (bsF m F)) := by
  rcases h with ⟨rfl, rfl⟩ | ⟨g, rfl, _, hr⟩
  · exact Reads.none_
  · refine ⟨by simp [u8s, bsF], fun hm => ⟨_, rfl, hr.lt, fun j u hu => ?_⟩⟩
    rw [Addr.add_mid]
    have := hr.range 0 m (by omega) j u (by simpa [bsF] using hu)
    simpa using this
theorem LdV.keep (h : LdV W L A m F) (hk : ∀ g cs, Blk W g 5 cs → Blk W' g 5 cs) : LdV W' L A m F := by
  rcases h with h | ⟨g, rfl, hg, hr⟩
  · exact .inl h
  · exact .inr ⟨g, rfl, hg, hr.keep (hk g)⟩
theorem LdV.below {B : Nat} (h : LdV W L A m F) (hb : Below W.heap.size W W') : LdV W' L A m F := h.keep fun g cs hg => hg.below hb hg.lt
end
def ldL (C : Nat → Nat) (n : Nat) (x y z : Int) : Nat := if ldB C n x y z then z.toNat else 0
def ldE (C : Nat → Nat) (n : Nat) (x y z : Int) : Int := if ldB C n x y z then 0 else 1
set_option maxRecDepth 20000 in
set_option maxHeartbeats 1600000 in
theorem load_no {B p c b f n : Nat} {C Fb : Nat → Nat} {D : Nat → Nat → Nat} (x y z : Int) (w : World) (h : PM B w p c b f n C Fb D) (hl : ldB C n x y z = false) :
    Calls Tryd.prog 24 #[.pointer (some ⟨p, 0, none⟩), .int .i64 x, .int .i64 y, .int .i64 z] w fun e w' => e = .returned (.tuple #[.slice none 0 0, .int .i64 1]) ∧ w = w' := by
  have hn := h.nn
  have H := Lib.hid h
  cases hx : tkB C n x
  · have HX := Lib.hid hx
    clear h hx hl
    go_enter Tryd.func24, Tryd.ntmps24
    go_wp2_with fail
    refine (taken_any x _ H.out).mono ?_
    rw [HX.out]
    rintro e w' ⟨rfl, rfl⟩
    go_wp2_with fail
    go_ret2
    exact ⟨rfl, rfl⟩
  · have HX := Lib.hid hx
    by_cases hy : 0 ≤ y
    · by_cases hz : 0 ≤ z
      · have hs : ¬ y + z ≤ 4096 := by intro hs; simp [ldB, hx, hy, hz, hs] at hl
        have b1 : ¬ y < 0 := by omega
        have b2 : ¬ z < 0 := by omega
        by_cases h4 : 4096 < y
        · clear h hx hl hs
          go_enter Tryd.func24, Tryd.ntmps24
          go_wp2_with fail
          refine (taken_any x _ H.out).mono ?_
          rw [HX.out]
          rintro e w' ⟨rfl, rfl⟩
          go_wp2_with fail
          go_ret2
          exact ⟨rfl, rfl⟩
        · have b3 : 4096 - y < z := by omega
          clear h hx hl hs
          go_enter Tryd.func24, Tryd.ntmps24
          go_wp2_with fail
          refine (taken_any x _ H.out).mono ?_
          rw [HX.out]
          rintro e w' ⟨rfl, rfl⟩
          go_wp2_with fail
          go_ret2
          exact ⟨rfl, rfl⟩
      · have b1 : ¬ y < 0 := by omega
        have b2 : z < 0 := by omega
        clear h hx hl hz hy
        go_enter Tryd.func24, Tryd.ntmps24
        go_wp2_with fail
        refine (taken_any x _ H.out).mono ?_
        rw [HX.out]
        rintro e w' ⟨rfl, rfl⟩
        go_wp2_with fail
        go_ret2
        exact ⟨rfl, rfl⟩
    · have b1 : y < 0 := by omega
      clear h hx hl hy
      go_enter Tryd.func24, Tryd.ntmps24
      go_wp2_with fail
      refine (taken_any x _ H.out).mono ?_
      rw [HX.out]
      rintro e w' ⟨rfl, rfl⟩
      go_wp2_with fail
      go_ret2
      exact ⟨rfl, rfl⟩
theorem load_any {B p c b f n : Nat} {C Fb : Nat → Nat} {D : Nat → Nat → Nat} (x y z : Int) (w : World) (h : PM B w p c b f n C Fb D) :
    Calls Tryd.prog 24 #[.pointer (some ⟨p, 0, none⟩), .int .i64 x, .int .i64 y, .int .i64 z] w fun e w' => ∃ A, e = .returned (.tuple #[.slice A (ldL C n x y z) (ldL C n x y z), .int .i64 (ldE C n x y z)]) ∧
      LdV w' w.heap.size A (ldL C n x y z) (fun i => D x.toNat (y.toNat + i)) ∧ Below w.heap.size w w' := by
  cases hl : ldB C n x y z
  · rw [ldL, ldE, hl]
    refine (load_no x y z w h hl).mono ?_
    rintro e w' ⟨rfl, rfl⟩
    exact ⟨none, rfl, .inl ⟨rfl, rfl⟩, Below.refl _ _⟩
  · rw [ldL, ldE, hl, if_pos rfl, if_pos rfl]
    simp only [ldB, Bool.and_eq_true, decide_eq_true_eq] at hl
    obtain ⟨⟨⟨hx, hy⟩, hz⟩, hs⟩ := hl
    obtain ⟨k, rfl, hk, hc⟩ := tkB_yes hx
    obtain ⟨o, rfl⟩ := Int.eq_ofNat_of_zero_le hy
    obtain ⟨m, rfl⟩ := Int.eq_ofNat_of_zero_le hz
    rw [Int.toNat_natCast, Int.toNat_natCast, Int.toNat_natCast]
    rcases Nat.eq_zero_or_pos m with rfl | hm
    · refine (load_zero w h hk hc (o := o) (by omega)).mono ?_
      rintro e w' ⟨rfl, hr, hb⟩
      exact ⟨_, rfl, .inr ⟨_, rfl, Nat.le_refl _, hr⟩, hb⟩
    · refine (load_pos w h hk hc (o := o) (m := m) (by omega) hm).mono ?_
      rintro e w' ⟨rfl, hr, hb⟩
      exact ⟨_, rfl, .inr ⟨_, rfl, Nat.le_refl _, hr⟩, hb⟩
/-! the same bytes -/
theorem u8s_get {w : World} {B n k : Nat} {A : Option Addr} {bs : List Nat} (h : Reads w B 1 A n (u8s bs)) (hk : k < n) : ∃ (ad : Addr) (x : Nat), A = some ad ∧ ad.block < B ∧ w.cell? (ad.add k) = some (.int .u8 (x : Int)) ∧ Hid (bs[k]? = some x) := by
  obtain ⟨ad, u, rfl, hb, hu, hc⟩ := h.at_ hk
  rw [u8s, List.getElem?_map] at hu
  cases hx : bs[k]? with
  | none => rw [hx] at hu; cases hu
  | some x =>
    rw [hx] at hu
    have : u = .int .u8 (x : Int) := (Option.some.inj hu).symm
    subst this
    exact ⟨ad, x, rfl, hb, hc, Lib.hid rfl⟩
set_option maxHeartbeats 800000 in
theorem same_any {A A' : Option Addr} {n c n' c' : Nat} {gs hs : List Nat} {B B' : Nat} (w : World) (h : Reads w B 1 A n (u8s gs)) (h' : Reads w B' 1 A' n' (u8s hs)) (hn : n ≤ 140737488355328) (hn' : n' ≤ 140737488355328) :
    Calls Tryd.prog 27 #[.slice A n c, .slice A' n' c'] w fun e w' => e = .returned (.bool (decide (gs = hs))) ∧ Below w.heap.size w w' := by
  have HL : Hid (gs.length = n) := by have := h.1; rw [u8s_len] at this; exact Lib.hid (by omega)
  have HL' : Hid (hs.length = n') := by have := h'.1; rw [u8s_len] at this; exact Lib.hid (by omega)
  have H := Lib.hid h
  have H' := Lib.hid h'
  clear h h'
  by_cases e0 : n = n'
  · subst e0
    go_enter Tryd.func27, Tryd.ntmps27
    go_wp2_with fail
    go_loopw [5] (fun i wr => ∃ k m : Nat, k ≤ n ∧ i = .int .i64 k ∧ wr = w.drewN m ∧ Hid (∀ j, j < k → gs[j]? = hs[j]?)) (fun i _ => n - (intOf i).toNat)
    case atStart => exact ⟨0, 0, Nat.zero_le _, rfl, rfl, fun j hj => absurd hj (by omega)⟩
    case round =>
      obtain ⟨k, m, hk, rfl, rfl, hno⟩ := hrel
      by_cases h1 : k < n
      · have d1 : decide ((k : Int) < (n : Int)) = true := by simp; omega
        obtain ⟨ad, x, rfl, hb, hc, hx⟩ := u8s_get H.out h1
        obtain ⟨ad', x', rfl, hb', hc', hx'⟩ := u8s_get H'.out h1
        by_cases hxx : x = x'
        · have d3 : ((x : Int) == (x' : Int)) = true := by simp [hxx]
          have d4 : ((x : Int) != (x' : Int)) = false := by simp [hxx]
          have HX := Lib.hid hxx
          clear hxx
          go_wp2_with fail
          go_quiet (fail)
          go_wp2_with fail
          go_roundw
          case rel =>
            refine ⟨k + 1, _, by omega, by go_num, rfl, fun j hj => ?_⟩
            by_cases e : j = k
            · subst e; rw [hx.out, hx'.out, HX.out]
            · exact hno.out j (by omega)
          case measure => simp [intOf]; omega
        · have d3 : ((x : Int) == (x' : Int)) = false := by simp; omega
          have d4 : ((x : Int) != (x' : Int)) = true := by simp; omega
          have : ¬ gs = hs := by intro e; subst e; exact hxx (Option.some.inj (hx.out.symm.trans hx'.out))
          have HN := Lib.hid this
          clear this hxx
          go_wp2_with fail
          go_quiet (fail)
          go_wp2_with fail
          go_ret
          exact ⟨by rw [decide_eq_false HN.out]; rfl, below_drewN (below_drewN (Below.refl _ _) _) _⟩
      · have : gs = hs := List.ext_getElem? fun j => by
          by_cases hj : j < n
          · exact hno.out j (by omega)
          · rw [List.getElem?_eq_none (by have := HL.out; omega), List.getElem?_eq_none (by have := HL'.out; omega)]
        have HN := Lib.hid this
        clear this
        go_wp2_with fail
        go_ret
        exact ⟨by rw [decide_eq_true HN.out]; rfl, below_drewN (Below.refl _ _) _⟩
  · have d1 : ((n : Int) == (n' : Int)) = false := by simp; omega
    have d2 : ((n : Int) != (n' : Int)) = true := by simp; omega
    have : ¬ gs = hs := by intro e; subst e; have := HL.out; have := HL'.out; omega
    have HN := Lib.hid this
    clear this
    go_enter Tryd.func27, Tryd.ntmps27
    go_wp2_with fail
    go_ret
    exact ⟨by rw [decide_eq_false HN.out]; rfl, Below.refl _ _⟩
/-! the pool stays while other blocks are written -/
theorem PM.keep {B : Nat} {W W' : World} {p c b f n : Nat} {C Fb : Nat → Nat} {D : Nat → Nat → Nat} (h : PM B W p c b f n C Fb D) (hk : ∀ g t cs, (t = 64 ∨ t = 65 ∨ t = 67 ∨ t = 69 ∨ g = c) → Blk W g t cs → Blk W' g t cs) : PM B W' p c b f n C Fb D := by
  obtain ⟨P, h1, h2⟩ := h.bb
  obtain ⟨X, h3, h4⟩ := h.ff
  exact ⟨hk _ _ _ (by simp) h.hd, h.cc.keep fun cs hb => hk _ _ _ (by simp) hb, ⟨P, h1.keep fun cs hb => hk _ _ _ (by simp) hb, h2⟩, ⟨X, h3.keep fun cs hb => hk _ _ _ (by simp) hb, h4⟩,
    fun k hk' hc => (h.fr k hk' hc).keep fun cs hb => hk _ _ _ (by simp) hb, h.dj, h.bs, h.nn⟩
theorem owns_keep {W W' : World} {base : Nat} {e : TypeId} {size n : Nat} {v : Value} {xs : List Value} (h : W.ownsRow base e size v n xs) (hk : ∀ g cs, Blk W g e cs → Blk W' g e cs) : W'.ownsRow base e size v n xs := by
  refine ⟨h.1, ?_⟩
  rcases h.2 with h2 | ⟨g, cap, cur, hv, hg, hb, r⟩
  · exact .inl h2
  · exact .inr ⟨g, cap, cur, hv, hg, hk g cur hb, r⟩
theorem owns_blk {W : World} {base : Nat} {e : TypeId} {size n g : Nat} {v : Value} {xs : List Value} (h : W.ownsRow base e size v n xs) (hg : v.ownBlock = some g) : ∃ cs, Blk W g e cs := by
  rcases h.2 with ⟨rfl, _⟩ | ⟨g', cap, cur, rfl, _, hb, _⟩
  · cases hg
  · obtain rfl : g' = g := by simpa [Value.ownBlock] using hg
    exact ⟨cur, hb⟩
/-- the pool stays behind an append to a row of another type -/
theorem PM.grown {B : Nat} {W W' : World} {p c b f n : Nat} {C Fb : Nat → Nat} {D : Nat → Nat → Nat} (h : PM B W p c b f n C Fb D) {base : Nat} {e : TypeId} {size m : Nat} {v : Value} {xs : List Value} (ho : W.ownsRow base e size v m xs) (hg : W.grownBy W' v.ownBlock)
    (he : e ≠ 64 ∧ e ≠ 65 ∧ e ≠ 67 ∧ e ≠ 69 ∧ e ≠ 3) : PM B W' p c b f n C Fb D := by
  have hc := h.cc
  refine h.keep fun g t cs ht hb => hb.grown hg fun hgv => ?_
  obtain ⟨cs', hb'⟩ := owns_blk ho hgv.symm
  by_cases hte : t = e
  · subst hte
    rcases ht with h | h | h | h | h
    · exact he.1 h
    · exact he.2.1 h
    · exact he.2.2.1 h
    · exact he.2.2.2.1 h
    · subst h; exact hc.ne_blk hb (fun e3 => he.2.2.2.2 e3.symm) rfl
  · exact hb.ne_ hb' hte rfl
end Go.Proofs.YtgikfjfinjcfmaaDoor
