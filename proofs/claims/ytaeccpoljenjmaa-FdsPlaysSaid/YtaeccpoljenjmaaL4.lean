import Derived.Test.YtaeccpoljenjmaaW9
import Derived.Test.YtaeccpoljenjmaaL3
namespace Go.Proofs.Ytaeccpoljenjmaa
open Go.RowKit Go.Hos
set_option linter.unusedVariables false

/-- the pairs' cells -/
def prs (gt gx : Nat → Nat) (m : Nat) : List Value := (List.range m).flatMap fun j => [.pointer (some ⟨gt j, 0, none⟩), .pointer (some ⟨gx j, 0, none⟩)]
theorem prs_succ (gt gx : Nat → Nat) (m : Nat) : prs gt gx (m + 1) = prs gt gx m ++ [.pointer (some ⟨gt m, 0, none⟩), .pointer (some ⟨gx m, 0, none⟩)] := by
  simp [prs, List.range_succ]
theorem prs_len (gt gx : Nat → Nat) : ∀ m, (prs gt gx m).length = m * 2
  | 0 => rfl
  | m + 1 => by rw [prs_succ, List.length_append, prs_len gt gx m]; simp; omega
theorem prs_get (gt gx : Nat → Nat) : ∀ m j, j < m → (prs gt gx m)[j * 2]? = some (.pointer (some ⟨gt j, 0, none⟩)) ∧ (prs gt gx m)[j * 2 + 1]? = some (.pointer (some ⟨gx j, 0, none⟩))
  | m + 1, j, h => by
    rw [prs_succ]
    have hl := prs_len gt gx m
    by_cases e : j = m
    · subst e
      rw [List.getElem?_append_right (by omega), List.getElem?_append_right (by omega), hl, Nat.sub_self, show j * 2 + 1 - j * 2 = 1 by omega]
      exact ⟨rfl, rfl⟩
    · rw [List.getElem?_append_left (by omega), List.getElem?_append_left (by omega)]
      exact prs_get gt gx m j (by omega)
theorem prs_upd (gt gx : Nat → Nat) (a b : Nat) : ∀ m k, m ≤ k → prs (upd gt k a) (upd gx k b) m = prs gt gx m
  | 0, _, _ => rfl
  | m + 1, k, h => by rw [prs_succ, prs_succ, prs_upd gt gx a b m k (by omega), upd_other _ _ (by omega), upd_other _ _ (by omega)]
theorem prs_one : ∀ (gt gx : Nat → Nat) (m : Nat), ∀ u ∈ prs gt gx m, u.oneCell' = true := by
  intro gt gx m u hu
  simp only [prs, List.mem_flatMap, List.mem_cons, List.not_mem_nil, or_false] at hu
  obtain ⟨j, _, rfl | rfl⟩ := hu <;> rfl

/-- the pairs of tables -/
structure PS (w : World) (m : Nat) (A : Option Addr) (c : Nat) (gt gx ga ca : Nat → Nat) (Ts : Nat → Nat → Sl) (W : World) : Prop where
  own : W.ownsRow w.heap.size 41 2 (.slice A m c) m (prs gt gx m)
  tb : ∀ j, j < m → SB W (gt j) 50 16 (Ts j)
  rt : ∀ j, j < m → RT W (gx j) (ga j) (ca j) (Ts j)
  dist : ∀ i j, i < m → j < m → i ≠ j → gt i ≠ gt j ∧ ga i ≠ ga j
  base : ∀ j, j < m → w.heap.size ≤ gt j ∧ w.heap.size ≤ ga j
  low : Below w.heap.size w W
section
variable {w W W' : World} {m c : Nat} {A : Option Addr} {gt gx ga ca : Nat → Nat} {Ts : Nat → Nat → Sl}
theorem owns_next {base : Nat} {e : TypeId} {size : Nat} {v : Value} {n : Nat} {xs : List Value} (h : W.ownsRow base e size v n xs) (hb : Below W.heap.size W W') : W'.ownsRow base e size v n xs :=
  h.kept (grown_of_below hb none) (Decidable.em _)
theorem PS.next (h : PS w m A c gt gx ga ca Ts W) (hb : Below W.heap.size W W') : PS w m A c gt gx ga ca Ts W' :=
  ⟨owns_next h.own hb, fun j hj => (h.tb j hj).next hb, fun j hj => (h.rt j hj).next hb, h.dist, h.base, h.low.trans (hb.mono h.low.size)⟩
theorem PS.cells (h : PS w m A c gt gx ga ca Ts W) {j : Nat} (hj : j < m) : ∃ g, A = some ⟨g, 0, none⟩ ∧ W.cell? ⟨g, j * 2, none⟩ = some (.pointer (some ⟨gt j, 0, none⟩)) ∧ W.cell? ⟨g, j * 2 + 1, none⟩ = some (.pointer (some ⟨gx j, 0, none⟩)) := by
  obtain ⟨g, cap, hv, _, hlt⟩ := h.own.form (show 0 < m by omega)
  injection hv with e1 _ e3
  subst e1
  have hc := h.own.cells (g := g) rfl
  have hadd : ∀ i, (⟨g, 0, none⟩ : Addr).add i = ⟨g, i, none⟩ := fun i => by unfold Addr.add; split <;> simp_all
  obtain ⟨p1, p2⟩ := prs_get gt gx m j hj
  exact ⟨g, rfl, by rw [← hadd]; exact hc _ _ p1, by rw [← hadd]; exact hc _ _ p2⟩
theorem PS.step (h : PS w m A c gt gx ga ca Ts W) {j : Nat} (hj : j < m) {T' : Nat → Sl} (hf : FR W W' (gt j) (ga j)) (ht : SB W' (gt j) 50 16 T') (hr : RT W' (gx j) (ga j) (ca j) T') : PS w m A c gt gx ga ca (upd Ts j T') W' := by
  have hb := h.base j hj
  refine ⟨?_, fun i hi => ?_, fun i hi => ?_, h.dist, h.base, ⟨hf.os.trans h.low.os, hf.tape.trans h.low.tape, hf.output.trans h.low.output, Nat.le_trans h.low.size hf.size, fun k hk => ?_⟩⟩
  · refine ⟨h.own.1, ?_⟩
    rcases h.own.2 with h2 | ⟨g, cap, cur, hv, hbg, hg, r⟩
    · exact .inl h2
    · have hblk : Blk W g 41 cur := hg
      have n1 := (h.tb j hj).ne_blk hblk (by decide)
      have n2 := (h.rt j hj).sb.ne_blk hblk (by decide)
      exact .inr ⟨g, cap, cur, hv, hbg, (hf.block g hblk.lt (fun e => n1 e.symm) (fun e => n2 e.symm)).trans hg, r⟩
  · by_cases e : i = j
    · subst e; rw [upd_same]; exact ht
    · rw [upd_other _ _ e]
      obtain ⟨cs, h1, h2⟩ := (h.tb i hi).ex
      have n1 := (h.dist i j hi hj e).1
      have n2 := (h.tb i hi).ne_ (h.rt j hj).sb (by decide)
      exact ⟨⟨cs, (hf.block _ h1.lt n1 n2).trans h1, h2⟩, (h.tb i hi).le⟩
  · by_cases e : i = j
    · subst e; rw [upd_same]; exact hr
    · rw [upd_other _ _ e]
      have n1 := (h.dist i j hi hj e).2
      have n2 : ga i ≠ gt j := fun e => (h.tb j hj).ne_ (h.rt i hi).sb (by decide) e.symm
      have n3 : gx i ≠ gt j := fun e => (h.tb j hj).ne_blk (h.rt i hi).hd (by decide) e.symm
      have n4 : gx i ≠ ga j := fun e => (h.rt j hj).sb.ne_blk (h.rt i hi).hd (by decide) e.symm
      obtain ⟨cs, h1, h2⟩ := (h.rt i hi).sb.ex
      exact ⟨(hf.block _ (h.rt i hi).hd.lt n3 n4).trans (h.rt i hi).hd, ⟨⟨cs, (hf.block _ h1.lt n2 n1).trans h1, h2⟩, (h.rt i hi).sb.le⟩⟩
  · exact (hf.block k (Nat.lt_of_lt_of_le hk h.low.size) (by omega) (by omega)).trans (h.low.block k hk)
/-- one pair more: appended, in place or not -/
theorem PS.add (h : PS w m A c gt gx ga ca Ts W) {T' : Nat → Sl} {g' gx' ga' ca' c' : Nat} {A' : Option Addr} (hg : W.grownBy W' (Value.slice A m c).ownBlock) (ho : W'.ownsRow w.heap.size 41 2 (.slice A' (m + 1) c') (m + 1) (prs gt gx m ++ [.pointer (some ⟨g', 0, none⟩), .pointer (some ⟨gx', 0, none⟩)]))
    (ht : SB W g' 50 16 T') (hr : RT W gx' ga' ca' T') (h1 : ∀ j, j < m → gt j ≠ g' ∧ ga j ≠ ga') (h2 : w.heap.size ≤ g' ∧ w.heap.size ≤ ga') :
    PS w (m + 1) A' c' (upd gt m g') (upd gx m gx') (upd ga m ga') (upd ca m ca') (upd Ts m T') W' := by
  have hn : ∀ {b : Nat} {t : TypeId} {cs : Array Value}, t ≠ 41 → Blk W b t cs → some b ≠ (Value.slice A m c).ownBlock := fun ht hb e => own_blk_ne h.own hb (fun e => ht e.symm) e.symm
  have kt : ∀ {b mm : Nat} {t : TypeId} {T : Nat → Sl}, t ≠ 41 → SB W b t mm T → SB W' b t mm T := fun ht hs => by
    obtain ⟨cs, e1, e2⟩ := hs.ex
    exact hs.grown hg (hn ht e1)
  have kr : ∀ {a b d : Nat} {T : Nat → Sl}, RT W a b d T → RT W' a b d T := fun hs => ⟨hs.hd.grown hg (hn (by decide) hs.hd), kt (by decide) hs.sb⟩
  refine ⟨by rw [prs_succ, upd_same, upd_same, prs_upd _ _ _ _ _ _ (Nat.le_refl m)]; exact ho, fun j hj => ?_, fun j hj => ?_, fun i j hi hj hij => ?_, fun j hj => ?_, h.low.grown hg h.low.size (fun b e => (h.own.lt b e).1)⟩
  · by_cases e : j = m
    · subst e; rw [upd_same, upd_same]; exact kt (by decide) ht
    · rw [upd_other _ _ e, upd_other _ _ e]; exact kt (by decide) (h.tb j (by omega))
  · by_cases e : j = m
    · subst e; rw [upd_same, upd_same, upd_same, upd_same]; exact kr hr
    · rw [upd_other _ _ e, upd_other _ _ e, upd_other _ _ e, upd_other _ _ e]; exact kr (h.rt j (by omega))
  · by_cases e : i = m
    · subst e
      rw [upd_same, upd_same, upd_other _ _ (by omega), upd_other _ _ (by omega)]
      have := h1 j (by omega)
      exact ⟨fun e => this.1 e.symm, fun e => this.2 e.symm⟩
    · rw [upd_other _ _ e, upd_other _ _ e]
      by_cases e2 : j = m
      · subst e2
        rw [upd_same, upd_same]
        exact h1 i (by omega)
      · rw [upd_other _ _ e2, upd_other _ _ e2]; exact h.dist i j (by omega) (by omega) hij
  · by_cases e : j = m
    · subst e; rw [upd_same, upd_same]; exact h2
    · rw [upd_other _ _ e, upd_other _ _ e]; exact h.base j (by omega)
end

/-- while a pair is forked: what has been made since the world V -/
structure FK (V : World) (T : Nat → Sl) (s : Option Nat) (r : Option (Nat × Nat × Nat)) (q : Option Nat) (W : World) : Prop where
  low : Below V.heap.size V W
  s_ : ∀ g', s = some g' → V.heap.size ≤ g' ∧ SB W g' 50 16 T
  r_ : ∀ x, r = some x → V.heap.size ≤ x.2.1 ∧ RT W x.1 x.2.1 x.2.2 T
  q_ : ∀ b, q = some b → V.heap.size ≤ b ∧ Blk W b 41 #[.pointer none, .pointer none]
section
variable {V W W' : World} {T : Nat → Sl} {s : Option Nat} {r : Option (Nat × Nat × Nat)} {q : Option Nat}
theorem FK.start (V : World) (T : Nat → Sl) : FK V T none none none V := ⟨Below.refl _ _, (fun _ e => by cases e), (fun _ e => by cases e), (fun _ e => by cases e)⟩
theorem FK.next (h : FK V T s r q W) (hb : Below W.heap.size W W') : FK V T s r q W' :=
  ⟨h.low.trans (hb.mono h.low.size), fun g' e => ⟨(h.s_ g' e).1, (h.s_ g' e).2.next hb⟩, fun x e => ⟨(h.r_ x e).1, (h.r_ x e).2.next hb⟩, fun b e => ⟨(h.q_ b e).1, (h.q_ b e).2.below hb (h.q_ b e).2.lt⟩⟩
theorem FK.al (h : Hid (FK V T s r none W)) : Hid (FK V T s r (some W.heap.size) (W.alloc (.cells #[.pointer none, .pointer none] 41))) := by
  have h' := h.out.next ((Below.refl _ _).alloc (Nat.le_refl _) (.cells #[.pointer none, .pointer none] 41))
  exact ⟨h'.low, h'.s_, h'.r_, fun b e => by injection e with e; subst e; exact ⟨h.out.low.size, Blk.new _ _ _⟩⟩
theorem FK.c13 (h : Hid (FK V T none none q W)) {g : Nat} (ht : Hid (SB V g 50 16 T)) : Calls Try.prog 13 #[.pointer (some ⟨g, 0, none⟩)] W fun e w' => ∃ g', e = .returned (.pointer (some ⟨g', 0, none⟩)) ∧ Hid (FK V T (some g') none q w') := by
  refine (fork_any g T W (ht.out.next h.out.low)).mono ?_
  rintro e w' ⟨g', rfl, hg, hs, hb⟩
  have h' := h.out.next hb
  exact ⟨g', rfl, ⟨h'.low, fun x e => by injection e with e; subst e; exact ⟨Nat.le_trans h.out.low.size hg, hs⟩, h'.r_, h'.q_⟩⟩
theorem FK.c14 {g' : Nat} (h : Hid (FK V T (some g') none q W)) {gx ga ca : Nat} (ht : Hid (RT V gx ga ca T)) : Calls Try.prog 14 #[.pointer (some ⟨gx, 0, none⟩)] W fun e w' => ∃ gx' ga' ca', e = .returned (.pointer (some ⟨gx', 0, none⟩)) ∧ Hid (FK V T (some g') (some (gx', ga', ca')) q w') := by
  refine (rfork_any gx ga ca T W (ht.out.next h.out.low)).mono ?_
  rintro e w' ⟨gx', ga', ca', rfl, hg, hga, hs, hb⟩
  have h' := h.out.next hb
  exact ⟨gx', ga', ca', rfl, ⟨h'.low, h'.s_, fun x e => by injection e with e; subst e; exact ⟨Nat.le_trans h.out.low.size hga, hs⟩, h'.q_⟩⟩
theorem FK.qcells {b : Nat} (h : Hid (FK V T s r (some b) W)) : W.cell? ⟨b, 0, none⟩ = some (.pointer none) ∧ W.cell? ⟨b, 1, none⟩ = some (.pointer none) ∧ W.frozen? ⟨b, 0, none⟩ = false ∧ W.frozen? ⟨b, 1, none⟩ = false := by
  obtain ⟨_, hb⟩ := h.out.q_ b rfl
  exact ⟨(hb.cell 0).trans rfl, (hb.cell 1).trans rfl, hb.frozen 0, hb.frozen 1⟩
end
/-- a forked pair in its box -/
structure FQ (V : World) (T : Nat → Sl) (b g' gx' ga' ca' : Nat) (W : World) : Prop where
  low : Below V.heap.size V W
  s_ : V.heap.size ≤ g' ∧ SB W g' 50 16 T
  r_ : V.heap.size ≤ ga' ∧ RT W gx' ga' ca' T
  q_ : Blk W b 41 #[.pointer (some ⟨g', 0, none⟩), .pointer (some ⟨gx', 0, none⟩)]
theorem FQ.a {V W : World} {T : Nat → Sl} {g' gx' ga' ca' : Nat} (h : Hid (FK V T (some g') (some (gx', ga', ca')) none W)) : Hid (FQ V T W.heap.size g' gx' ga' ca' (W.alloc (.cells #[.pointer (some ⟨g', 0, none⟩), .pointer (some ⟨gx', 0, none⟩)] 41))) := by
  have h' := h.out.next ((Below.refl _ _).alloc (Nat.le_refl _) (.cells #[.pointer (some ⟨g', 0, none⟩), .pointer (some ⟨gx', 0, none⟩)] 41))
  exact ⟨h'.low, h'.s_ _ rfl, h'.r_ _ rfl, Blk.new _ _ _⟩
theorem FQ.b {V W : World} {T : Nat → Sl} {b g' gx' ga' ca' : Nat} (h : Hid (FK V T (some g') (some (gx', ga', ca')) (some b) W)) :
    Hid (FQ V T b g' gx' ga' ca' ((W.setCell ⟨b, 0, none⟩ (.pointer (some ⟨g', 0, none⟩))).setCell ⟨b, 1, none⟩ (.pointer (some ⟨gx', 0, none⟩)))) := by
  obtain ⟨hq, hb⟩ := h.out.q_ b rfl
  obtain ⟨hs1, hs2⟩ := h.out.s_ g' rfl
  obtain ⟨hr1, hr2⟩ := h.out.r_ _ rfl
  have hg : W.grownBy ((W.setCell ⟨b, 0, none⟩ (.pointer (some ⟨g', 0, none⟩))).setCell ⟨b, 1, none⟩ (.pointer (some ⟨gx', 0, none⟩))) (some b) := (grown_set _ _ _ _).trans (grown_set _ _ _ _)
  have n1 := hs2.ne_blk hb (by decide)
  have n2 := hr2.sb.ne_blk hb (by decide)
  have n3 := hr2.hd.ne_ hb (by decide)
  exact ⟨(h.out.low.setCell hq _).setCell hq _, ⟨hs1, hs2.grown hg (by intro e; injection e with e; exact n1 e)⟩, ⟨hr1, hr2.grown hg (by intro e; injection e with e; exact n3 e) (by intro e; injection e with e; exact n2 e)⟩, (hb.set_ 0 _).set_ 1 _⟩
end Go.Proofs.Ytaeccpoljenjmaa
