import Derived.Test.YtfhkcbhbomghfaaWh
import Derived.Lib.QuietBelow
import Derived.IntWalk
namespace Go.Proofs.Ytfhkcbhbomghfaa
open Go.RowKit Go.Hos Go.Sort
set_option linter.unusedVariables false

theorem info22 : (Try.prog.info? 22).map (fun i => (i.zero, i.size, i.bytes)) = some (some (.slice none 0 0), 1, 24) := by kernel_rfl

/-- with the copies -/
structure AQ (w : World) (B ga gw gl k : Nat) (A : Nat → Option Addr) (n c : Nat → Nat) (xs : Nat → List Nat) (A' : Nat → Option Addr) (c' : Nat → Nat) (ws : Array Value) (W : World) : Prop where
  ap : AP B ga A n c xs W
  was : Blk W gw 22 ws
  long : Blk W gl 22 #[.slice none 0 0, .slice none 0 0, .slice none 0 0]
  sz : ws.size = 3
  cp : ∀ j, j < k → ws[j]? = some (.slice (A' j) (n j) (c' j)) ∧ W.ownsRow w.heap.size 5 1 (.slice (A' j) (n j) (c' j)) (n j) (B8 (xs j))
  low : Below w.heap.size w W
def upd {α : Type} (f : Nat → α) (k : Nat) (x : α) : Nat → α := fun j => if j = k then x else f j
theorem upd_same {α : Type} (f : Nat → α) (k : Nat) (x : α) : upd f k x k = x := if_pos rfl
theorem upd_other {α : Type} (f : Nat → α) {k j : Nat} (x : α) (h : j ≠ k) : upd f k x j = f j := if_neg h

theorem AQ.next {w : World} {B ga gw gl k : Nat} {A A' : Nat → Option Addr} {n c c' : Nat → Nat} {xs : Nat → List Nat} {ws : Array Value} {W W' : World} (h : AQ w B ga gw gl k A n c xs A' c' ws W) (hb : Below W.heap.size W W') :
    AQ w B ga gw gl k A n c xs A' c' ws W' :=
  ⟨h.ap.next hb, h.was.below hb h.was.lt, h.long.below hb h.long.lt, h.sz, fun j hj => ⟨(h.cp j hj).1, owns_below (h.cp j hj).2 hb⟩, h.low.trans (hb.mono h.low.size)⟩
theorem AQ.store {w : World} {B ga gw gl k : Nat} {A A' : Nat → Option Addr} {n c c' : Nat → Nat} {xs : Nat → List Nat} {ws : Array Value} {W : World} (h : AQ w B ga gw gl k A n c xs A' c' ws W)
    (hk : k < 3) (h1 : ga ≠ gw) (h2 : gl ≠ gw) (h3 : w.heap.size ≤ gw) (A5 : Option Addr) (c5 : Nat) (ho : W.ownsRow w.heap.size 5 1 (.slice A5 (n k) c5) (n k) (B8 (xs k))) :
    AQ w B ga gw gl (k + 1) A n c xs (upd A' k A5) (upd c' k c5) (ws.setIfInBounds k (.slice A5 (n k) c5)) (W.setCell ⟨gw, k, none⟩ (.slice A5 (n k) c5)) := by
  refine ⟨h.ap.far h.was h1 _ _, h.was.set_ _ _, h.long.far h2 _, by simp [h.sz], fun j hj => ?_, h.low.setCell h3 _⟩
  by_cases e : j = k
  · subst e
    rw [upd_same, upd_same]
    refine ⟨?_, row_far ho h.was _ _⟩
    rw [Array.getElem?_setIfInBounds, if_pos rfl, if_pos (by rw [h.sz]; exact hk)]
  · rw [upd_other _ _ e, upd_other _ _ e]
    obtain ⟨p1, p2⟩ := h.cp j (by omega)
    refine ⟨?_, row_far p2 h.was _ _⟩
    rw [Array.getElem?_setIfInBounds, if_neg (by omega)]
    exact p1

theorem ownBlock_eq (a : Option Addr) (n m c d : Nat) : (Value.slice a n c).ownBlock = (Value.slice a m d).ownBlock := by cases a <;> rfl
/-- with what was gone on with -/
structure AR (w : World) (B ga gw gl k : Nat) (A : Nat → Option Addr) (n c : Nat → Nat) (xs : Nat → List Nat) (A' : Nat → Option Addr) (c' : Nat → Nat) (ws : Array Value) (A2 : Nat → Option Addr) (c2 : Nat → Nat) (ls : Array Value) (W : World) : Prop where
  ap : AP B ga A n c xs W
  was : Blk W gw 22 ws
  cp : ∀ j, j < 3 → ws[j]? = some (.slice (A' j) (n j) (c' j)) ∧ W.ownsRow w.heap.size 5 1 (.slice (A' j) (n j) (c' j)) (n j) (B8 (xs j))
  long : Blk W gl 22 ls
  sz : ls.size = 3
  lg : ∀ j, j < k → ls[j]? = some (.slice (A2 j) (n j + 40) (c2 j)) ∧ W.ownsRow B 5 1 (.slice (A2 j) (n j + 40) (c2 j)) (n j + 40) (B8 (xs j ++ List.replicate 40 (j + 1))) ∧
    (A2 j = A j ∨ ∀ g, A2 j = some ⟨g, 0, none⟩ → w.heap.size ≤ g)
  low : Below B w W
theorem AR.next {w : World} {B ga gw gl k : Nat} {A A' A2 : Nat → Option Addr} {n c c' c2 : Nat → Nat} {xs : Nat → List Nat} {ws ls : Array Value} {W W' : World} (h : AR w B ga gw gl k A n c xs A' c' ws A2 c2 ls W) (hB : B ≤ w.heap.size) (hb : Below W.heap.size W W') :
    AR w B ga gw gl k A n c xs A' c' ws A2 c2 ls W' :=
  ⟨h.ap.next hb, h.was.below hb h.was.lt, fun j hj => ⟨(h.cp j hj).1, owns_below (h.cp j hj).2 hb⟩, h.long.below hb h.long.lt, h.sz,
    fun j hj => ⟨(h.lg j hj).1, owns_below (h.lg j hj).2.1 hb, (h.lg j hj).2.2⟩, h.low.trans (hb.mono (Nat.le_trans hB h.low.size))⟩
theorem AR.gone {w : World} {B ga gw gl k : Nat} {A A' A2 : Nat → Option Addr} {n c c' c2 : Nat → Nat} {xs : Nat → List Nat} {ws ls : Array Value} {W W' : World} (h : AR w B ga gw gl k A n c xs A' c' ws A2 c2 ls W) (hB : B ≤ w.heap.size) (hk : k < 3)
    (h0 : ∀ i, i < 3 → w.ownsRow B 5 1 (.slice (A i) (n i) (c i)) (n i) (B8 (xs i)))
    (hne : ∀ i j, i < 3 → j < 3 → i ≠ j → (Value.slice (A i) (n i) (c i)).ownBlock = none ∨ (Value.slice (A i) (n i) (c i)).ownBlock ≠ (Value.slice (A j) (n j) (c j)).ownBlock)
    {u : Value} {Ak : Option Addr} {ck : Nat} (hg : GN W B (A k) (n k) (c k) (B8 (xs k)) u Ak 40 ck W') :
    AR w B ga gw gl k A n c xs A' c' ws A2 c2 ls W' := by
  have hlt : ∀ i g, i < 3 → (Value.slice (A i) (n i) (c i)).ownBlock = some g → B ≤ g ∧ g < w.heap.size := fun i g hi e => (h0 i hi).lt g e
  have hbn : ∀ {g : Nat} {cs : Array Value}, Blk W g 22 cs → some g ≠ (Value.slice (A k) (n k) (c k)).ownBlock := fun hb e => own_blk_ne (h.ap.row k hk) hb (by decide) e.symm
  refine ⟨⟨h.ap.all.grown hg.grown (hbn h.ap.all), fun i hi => ?_⟩, h.was.grown hg.grown (hbn h.was), fun j hj => ⟨(h.cp j hj).1, (h.cp j hj).2.kept hg.grown ?_⟩, h.long.grown hg.grown (hbn h.long), h.sz,
    fun j hj => ⟨(h.lg j hj).1, (h.lg j hj).2.1.kept hg.grown ?_, (h.lg j hj).2.2⟩, h.low.grown hg.grown (Nat.le_trans hB h.low.size) (fun g e => (hlt k g hk e).1)⟩
  · by_cases e : i = k
    · subst e; exact hg.old
    · exact (h.ap.row i hi).kept hg.grown (hne i k hi hk e)
  · rcases e : (Value.slice (A' j) (n j) (c' j)).ownBlock with _ | g
    · left; rfl
    · right
      intro e2
      have h1 := (h.cp j hj).2.lt g e
      have h2 := hlt k g hk e2.symm
      omega
  · rcases (h.lg j hj).2.2 with e | e
    · rcases hne j k (by omega) hk (by omega) with e2 | e2
      · left; rw [e]; exact (ownBlock_eq _ _ _ _ _).trans e2
      · right; rw [e]; exact fun e3 => e2 ((ownBlock_eq _ _ _ _ _).trans e3)
    · cases e2 : A2 j with
      | none => left; rfl
      | some g =>
        right
        intro e3
        obtain ⟨g', e4⟩ : ∃ g', g = ⟨g', 0, none⟩ := by
          rcases (h.lg j hj).2.1.2 with ⟨hv, _⟩ | ⟨g', _, _, hv, _⟩
          · rw [e2] at hv; injection hv with e1 _ _; cases e1
          · rw [e2] at hv; injection hv with e1 _ _; injection e1 with e1; exact ⟨g', e1⟩
        subst e4
        have h1 := e g' e2
        have h2 := hlt k g' hk e3.symm
        omega
theorem AR.store {w : World} {B ga gw gl k : Nat} {A A' A2 : Nat → Option Addr} {n c c' c2 : Nat → Nat} {xs : Nat → List Nat} {ws ls : Array Value} {W : World} (h : AR w B ga gw gl k A n c xs A' c' ws A2 c2 ls W)
    (hk : k < 3) (h1 : ga ≠ gl) (h2 : gw ≠ gl) (h3 : B ≤ gl) (A5 : Option Addr) (c5 : Nat) (ho : W.ownsRow B 5 1 (.slice A5 (n k + 40) c5) (n k + 40) (B8 (xs k ++ List.replicate 40 (k + 1)))) (hat : A5 = A k ∨ ∀ g, A5 = some ⟨g, 0, none⟩ → w.heap.size ≤ g) :
    AR w B ga gw gl (k + 1) A n c xs A' c' ws (upd A2 k A5) (upd c2 k c5) (ls.setIfInBounds k (.slice A5 (n k + 40) c5)) (W.setCell ⟨gl, k, none⟩ (.slice A5 (n k + 40) c5)) := by
  refine ⟨h.ap.far h.long h1 _ _, h.was.far h2 _, fun j hj => ⟨(h.cp j hj).1, row_far (h.cp j hj).2 h.long _ _⟩, h.long.set_ _ _, by simp [h.sz], fun j hj => ?_, h.low.setCell h3 _⟩
  by_cases e : j = k
  · subst e
    rw [upd_same, upd_same]
    refine ⟨?_, row_far ho h.long _ _, hat⟩
    rw [Array.getElem?_setIfInBounds, if_pos rfl, if_pos (by rw [h.sz]; exact hk)]
  · rw [upd_other _ _ e, upd_other _ _ e]
    obtain ⟨p1, p2, p3⟩ := h.lg j (by omega)
    refine ⟨?_, row_far p2 h.long _ _, p3⟩
    rw [Array.getElem?_setIfInBounds, if_neg (by omega)]
    exact p1

abbrev SS3 (w : World) (B ga gw gl k : Nat) (A : Nat → Option Addr) (n c : Nat → Nat) (xs : Nat → List Nat) (A' : Nat → Option Addr) (c' : Nat → Nat) (ws : Array Value) (A2 : Nat → Option Addr) (c2 : Nat → Nat) (ls : Array Value) (W : World) : Prop :=
  W.cell? ⟨ga, k, none⟩ = some (.slice (A k) (n k) (c k)) ∧ W.cell? ⟨gw, k, none⟩ = some (.slice (A' k) (n k) (c' k)) ∧ W.cell? ⟨gl, k, none⟩ = some (.slice (A2 k) (n k + 40) (c2 k)) ∧ Hid (AR w B ga gw gl 3 A n c xs A' c' ws A2 c2 ls W)
theorem ss3_of {w : World} {B ga gw gl k : Nat} {A A' A2 : Nat → Option Addr} {n c c' c2 : Nat → Nat} {xs : Nat → List Nat} {ws ls : Array Value} {W : World} (hk : k < 3) (h : AR w B ga gw gl 3 A n c xs A' c' ws A2 c2 ls W) : SS3 w B ga gw gl k A n c xs A' c' ws A2 c2 ls W :=
  ⟨all_get h.ap hk, (h.was.cell k).trans (h.cp k hk).1, (h.long.cell k).trans (h.lg k hk).1, h⟩
theorem AR.drew {w : World} {B ga gw gl k : Nat} {A A' A2 : Nat → Option Addr} {n c c' c2 : Nat → Nat} {xs : Nat → List Nat} {ws ls : Array Value} {W : World} (h : AR w B ga gw gl k A n c xs A' c' ws A2 c2 ls W) (hB : B ≤ w.heap.size) : AR w B ga gw gl k A n c xs A' c' ws A2 c2 ls W.drew :=
  h.next hB (Below.refl _ _).drew
theorem SS3.call1 {w : World} {B ga gw gl k m : Nat} {A A' A2 : Nat → Option Addr} {n c c' c2 : Nat → Nat} {xs : Nat → List Nat} {ws ls : Array Value} {W : World} (h : SS3 w B ga gw gl k A n c xs A' c' ws A2 c2 ls W) (hk : k < 3) (hB : B ≤ w.heap.size) (hn : ∀ i, n i ≤ 131072) (hm : m = k + 1) {r40 : Int} (hr : r40 = 40) :
    Calls Try.prog 33 #[.slice (A2 k) (n k + 40) (c2 k), .int .u8 m] W fun e w' => e = .returned (.int .i64 r40) ∧ AR w B ga gw gl 3 A n c xs A' c' ws A2 c2 ls w' := by
  have hs := h.2.2.2.out
  have hl : (xs k).length = n k := by have := (hs.ap.row k hk).1; simp [B8] at this; exact this
  subst hm hr
  refine (marked_any (A2 k) (n k) (c2 k) (k + 1) W.heap.size (xs k) W (Reads.of_own (hs.lg k hk).2.1) hl (by have := hn k; omega)).mono ?_
  rintro e w' ⟨rfl, hb⟩
  exact ⟨rfl, hs.next hB hb⟩
theorem SS3.call2 {w : World} {B ga gw gl k : Nat} {A A' A2 : Nat → Option Addr} {n c c' c2 : Nat → Nat} {xs : Nat → List Nat} {ws ls : Array Value} {W : World} (h : SS3 w B ga gw gl k A n c xs A' c' ws A2 c2 ls W) (hk : k < 3) (hB : B ≤ w.heap.size) (hn : ∀ i, n i ≤ 131072) :
    Calls Try.prog 16 #[.slice (A k) (n k) (c k), .slice (A' k) (n k) (c' k)] W fun e w' => e = .returned (.bool true) ∧ AR w B ga gw gl 3 A n c xs A' c' ws A2 c2 ls w' := by
  have hs := h.2.2.2.out
  refine (eq_any _ _ _ _ _ _ (xs k) (xs k) W.heap.size W.heap.size W (Reads.of_own (hs.ap.row k hk)) (Reads.of_own (hs.cp k hk).2) (by have := hn k; omega) (by have := hn k; omega)).mono ?_
  rintro e w' ⟨rfl, hb⟩
  exact ⟨by rw [decide_eq_true rfl], hs.next hB hb⟩

theorem owns_set {w : World} {base g n cap : Nat} {e : TypeId} {xs : List Value} (h : w.ownsRow base e 1 (.slice (some ⟨g, 0, none⟩) n cap) n xs) (j : Nat) (u : Value) :
    (w.setCell ⟨g, j, none⟩ u).ownsRow base e 1 (.slice (some ⟨g, 0, none⟩) n cap) n (xs.set j u) := by
  refine ⟨by rw [List.length_set]; exact h.1, ?_⟩
  rcases h.2 with ⟨hv, _⟩ | ⟨g', cap', cur, hv, hb, hg, hn, hm, hs, ht⟩
  · cases hv
  · injection hv with e1 _ e3
    injection e1 with e1; injection e1 with e1
    subst e1 e3
    refine .inr ⟨g, cap, cur.setIfInBounds j u, rfl, hb, by simp [World.setCell, Array.getElem?_modify, hg], hn, hm, by rw [Array.size_setIfInBounds]; exact hs, ?_⟩
    rw [Array.toList_setIfInBounds, List.take_set, ht]
theorem owns_cell {w : World} {base g n cap : Nat} {e : TypeId} {xs : List Value} (h : w.ownsRow base e 1 (.slice (some ⟨g, 0, none⟩) n cap) n xs) (j : Nat) (hj : j < n) :
    w.cell? ⟨g, j, none⟩ = xs[j]? ∧ w.frozen? ⟨g, j, none⟩ = false := by
  have hc := h.cells (g := g) rfl
  have hl : j < xs.length := by have := h.1; omega
  have hadd : (⟨g, 0, none⟩ : Addr).add j = ⟨g, j, none⟩ := by unfold Addr.add; split <;> simp_all
  constructor
  · rw [List.getElem?_eq_getElem hl, ← hadd]; exact hc j _ (List.getElem?_eq_getElem hl)
  · rcases h.2 with ⟨hv, _⟩ | ⟨g', cap', cur, hv, hb, hg, _⟩
    · cases hv
    · injection hv with e1 _ e3
      injection e1 with e1; injection e1 with e1
      subst e1
      exact (show Blk w g e cur from hg).frozen j
/-- behind the marks: the rows from k on are as they were -/
structure AZ (w : World) (B ga gw k : Nat) (A : Nat → Option Addr) (n c : Nat → Nat) (xs : Nat → List Nat) (A' : Nat → Option Addr) (c' : Nat → Nat) (ws : Array Value) (W : World) : Prop where
  all : Blk W ga 22 #[.slice (A 0) (n 0) (c 0), .slice (A 1) (n 1) (c 1), .slice (A 2) (n 2) (c 2)]
  row : ∀ i, k ≤ i → i < 3 → W.ownsRow B 5 1 (.slice (A i) (n i) (c i)) (n i) (B8 (xs i))
  was : Blk W gw 22 ws
  cp : ∀ j, j < 3 → ws[j]? = some (.slice (A' j) (n j) (c' j)) ∧ W.ownsRow w.heap.size 5 1 (.slice (A' j) (n j) (c' j)) (n j) (B8 (xs j))
  low : Below B w W
section
variable {w : World} {B ga gw k : Nat} {A A' : Nat → Option Addr} {n c c' : Nat → Nat} {xs : Nat → List Nat} {ws : Array Value} {W W' : World}
theorem AZ.next (h : AZ w B ga gw k A n c xs A' c' ws W) (hB : B ≤ w.heap.size) (hb : Below W.heap.size W W') : AZ w B ga gw k A n c xs A' c' ws W' :=
  ⟨h.all.below hb h.all.lt, fun i hi h3 => owns_below (h.row i hi h3) hb, h.was.below hb h.was.lt, fun j hj => ⟨(h.cp j hj).1, owns_below (h.cp j hj).2 hb⟩, h.low.trans (hb.mono (Nat.le_trans hB h.low.size))⟩
theorem AZ.less (h : AZ w B ga gw k A n c xs A' c' ws W) : AZ w B ga gw (k + 1) A n c xs A' c' ws W := ⟨h.all, fun i hi h3 => h.row i (by omega) h3, h.was, h.cp, h.low⟩
theorem AZ.get (h : AZ w B ga gw k A n c xs A' c' ws W) {i : Nat} (hi : i < 3) : W.cell? ⟨ga, i, none⟩ = some (.slice (A i) (n i) (c i)) := by
  rw [h.all.cell]
  rcases i with _ | _ | _ | i <;> first | rfl | omega
/-- row k is being written over -/
structure AY (w : World) (B ga gw k : Nat) (A : Nat → Option Addr) (n c : Nat → Nat) (xs : Nat → List Nat) (A' : Nat → Option Addr) (c' : Nat → Nat) (ws : Array Value) (ak : Option Addr) (nk ck : Nat) (W : World) : Prop where
  ap : AZ w B ga gw (k + 1) A n c xs A' c' ws W
  own : ∃ zs : List Int, zs.length = nk ∧ W.ownsRow B 5 1 (.slice ak nk ck) nk (zs.map (Value.int .u8))
  apart : ∀ i, k + 1 ≤ i → i < 3 → (Value.slice (A i) (n i) (c i)).ownBlock = none ∨ (Value.slice (A i) (n i) (c i)).ownBlock ≠ (Value.slice ak nk ck).ownBlock
  lt : ∀ g, (Value.slice ak nk ck).ownBlock = some g → B ≤ g ∧ g < w.heap.size
theorem AY.set_ {g nk ck : Nat} (h : AY w B ga gw k A n c xs A' c' ws (some ⟨g, 0, none⟩) nk ck W) (j : Nat) (z : Int) : AY w B ga gw k A n c xs A' c' ws (some ⟨g, 0, none⟩) nk ck (W.setCell ⟨g, j, none⟩ (.int .u8 z)) := by
  obtain ⟨zs, hl, ho⟩ := h.own
  have hlt := h.lt g rfl
  refine ⟨⟨h.ap.all.far ?_ _, fun i hi h3 => ownsRow_setCell_other (h.ap.row i hi h3) ?_ _, h.ap.was.far ?_ _, fun i hi => ⟨(h.ap.cp i hi).1, ownsRow_setCell_other (h.ap.cp i hi).2 ?_ _⟩, h.ap.low.setCell hlt.1 _⟩,
    ⟨zs.set j z, by simp [hl], ?_⟩, h.apart, h.lt⟩
  · rintro rfl; exact own_blk_ne ho h.ap.all (by decide) rfl
  · rcases h.apart i hi h3 with e | e
    · rw [e]; simp
    · exact e
  · rintro rfl; exact own_blk_ne ho h.ap.was (by decide) rfl
  · intro e
    have := (h.ap.cp i hi).2.lt g e
    omega
  · rw [List.map_set]; exact owns_set ho j _
theorem AY.at_ {ak : Option Addr} {nk ck : Nat} (h : AY w B ga gw k A n c xs A' c' ws ak nk ck W) {j : Nat} (hj : j < nk) : ∃ g z, ak = some ⟨g, 0, none⟩ ∧ W.cell? ⟨g, j, none⟩ = some (.int .u8 z) ∧ W.frozen? ⟨g, j, none⟩ = false := by
  obtain ⟨zs, hl, ho⟩ := h.own
  obtain ⟨g, cap, hv, _, hlt⟩ := ho.form (show 0 < nk by omega)
  injection hv with e1 _ e3
  subst e1 e3
  obtain ⟨h1, h2⟩ := owns_cell ho j hj
  refine ⟨g, zs[j]'(by omega), rfl, ?_, h2⟩
  rw [h1, List.getElem?_map, List.getElem?_eq_getElem (by omega)]; rfl
abbrev SS6 (w : World) (B ga gw k o : Nat) (A : Nat → Option Addr) (n c : Nat → Nat) (xs : Nat → List Nat) (A' : Nat → Option Addr) (c' : Nat → Nat) (ws : Array Value) (W : World) : Prop :=
  W.cell? ⟨ga, o, none⟩ = some (.slice (A o) (n o) (c o)) ∧ W.cell? ⟨gw, o, none⟩ = some (.slice (A' o) (n o) (c' o)) ∧ Hid (AZ w B ga gw k A n c xs A' c' ws W)
theorem ss6_of {o : Nat} (ho : o < 3) (h : AZ w B ga gw k A n c xs A' c' ws W) : SS6 w B ga gw k o A n c xs A' c' ws W := ⟨h.get ho, (h.was.cell o).trans (h.cp o ho).1, h⟩
theorem AZ.drew (h : AZ w B ga gw k A n c xs A' c' ws W) (hB : B ≤ w.heap.size) : AZ w B ga gw k A n c xs A' c' ws W.drew := h.next hB (Below.refl _ _).drew
theorem SS6.call {o : Nat} (h : SS6 w B ga gw k o A n c xs A' c' ws W) (hk : k ≤ o) (ho : o < 3) (hB : B ≤ w.heap.size) (hn : ∀ i, n i ≤ 131072) :
    Calls Try.prog 16 #[.slice (A o) (n o) (c o), .slice (A' o) (n o) (c' o)] W fun e w' => e = .returned (.bool true) ∧ AZ w B ga gw k A n c xs A' c' ws w' := by
  have hs := h.2.2.out
  refine (eq_any _ _ _ _ _ _ (xs o) (xs o) W.heap.size W.heap.size W (Reads.of_own (hs.row o hk ho)) (Reads.of_own (hs.cp o ho).2) (by have := hn o; omega) (by have := hn o; omega)).mono ?_
  rintro e w' ⟨rfl, hb⟩
  exact ⟨by rw [decide_eq_true rfl], hs.next hB hb⟩
end

set_option maxHeartbeats 3200000 in
theorem apart_any (B ga ca : Nat) (A : Nat → Option Addr) (n c : Nat → Nat) (xs : Nat → List Nat) (w : World) (h : AP B ga A n c xs w) (hB : B ≤ w.heap.size) (hga : B ≤ ga) (hn : ∀ i, n i ≤ 131072)
    (hne : ∀ i j, i < 3 → j < 3 → i ≠ j → (Value.slice (A i) (n i) (c i)).ownBlock = none ∨ (Value.slice (A i) (n i) (c i)).ownBlock ≠ (Value.slice (A j) (n j) (c j)).ownBlock) :
    Calls Try.prog 17 #[.slice (some ⟨ga, 0, none⟩) 3 ca] w fun e w' => e = .returned (.bool true) ∧ Below B w w' := by
  have hmk : ∀ w : World, Sem.run Try.prog (Instr.makeSlice 36 (.int .i64 3) (.int .i64 3)) w = .ok (.slice (some ⟨w.heap.size, 0, none⟩) 3 3) (w.alloc (.cells #[.slice none 0 0, .slice none 0 0, .slice none 0 0] 22)) :=
    fun w => by
      have h := run_make_row' (P := Try.prog) 36 22 _ _ Try.underlying36 info22 rfl .i64 .i64 3 (by omega) (by omega) w
      have e : madeCells #[Value.slice none 0 0] 3 = #[.slice none 0 0, .slice none 0 0, .slice none 0 0] := by
        apply Array.toList_inj.1; rw [toList_madeCells_one]; rfl
      rw [e] at h; exact h
  have HP := Lib.hid h
  have HN := Lib.hid hn
  have HNE := Lib.hid hne
  clear h hn hne
  go_enter Try.func17, Try.ntmps17
  go_wp2_with fail
  have q0 : Hid (AQ w B ga w.heap.size (w.heap.size + 1) 0 A n c xs A c #[.slice none 0 0, .slice none 0 0, .slice none 0 0] ((w.alloc (.cells #[.slice none 0 0, .slice none 0 0, .slice none 0 0] 22)).alloc (.cells #[.slice none 0 0, .slice none 0 0, .slice none 0 0] 22))) :=
    ⟨⟨(HP.out.all.alloc _).alloc _, fun i hi => ((HP.out.row i hi).alloc _).alloc _⟩, (Blk.new _ _ _).alloc _, blk_at _ _ (by simp), rfl, fun j hj => absurd hj (by omega), ((Below.refl _ _).alloc (Nat.le_refl _) _).alloc (by simp) _⟩
  have hgl : ga < w.heap.size := HP.out.all.lt
  clear hmk
  generalize ((w.alloc (.cells #[.slice none 0 0, .slice none 0 0, .slice none 0 0] 22)).alloc (.cells #[.slice none 0 0, .slice none 0 0, .slice none 0 0] 22)) = W0 at *
  go_loopw [5] (fun i wr => ∃ (k : Nat) (A' : Nat → Option Addr) (c' : Nat → Nat) (ws : Array Value), k ≤ 3 ∧ i = .int .i64 k ∧ Hid (AQ w B ga w.heap.size (w.heap.size + 1) k A n c xs A' c' ws wr)) (fun i _ => 3 - (intOf i).toNat)
  case atStart => exact ⟨0, A, c, _, by omega, rfl, q0⟩
  case round =>
    obtain ⟨k, A', c', ws, hk, rfl, q⟩ := hrel
    by_cases hk3 : k < 3
    · have ca1 := all_get q.out.ap hk3
      go_wp2_with fail
      refine (copy_any (A k) (n k) (c k) (xs k) wr.heap.size _ (Reads.of_own (q.out.ap.row k hk3)) (Nat.le_refl _) (by have := HN.out k; omega)).mono ?_
      rintro e w1 ⟨v, rfl, ho, hb⟩
      obtain ⟨A5, c5, rfl⟩ := ownsRow_val ho
      have q1 : Hid (AQ w B ga w.heap.size (w.heap.size + 1) k A n c xs A' c' ws w1) := q.out.next hb
      have ho1 : Hid (w1.ownsRow w.heap.size 5 1 (.slice A5 (n k) c5) (n k) (B8 (xs k))) := owns_base ho q.out.low.size
      have q2 : Hid (AQ w B ga w.heap.size (w.heap.size + 1) (k + 1) A n c xs _ _ _ _) := q1.out.store hk3 (by omega) (by omega) (Nat.le_refl _) A5 c5 ho1.out
      have cw := q1.out.was.cell k
      have fw := q1.out.was.frozen k
      have hws : ∃ y, ws[k]? = some y := ⟨_, Array.getElem?_eq_getElem (by rw [q1.out.sz]; exact hk3)⟩
      obtain ⟨y, hy⟩ := hws
      rw [hy] at cw
      clear ho hb ca1 q hy ho1
      go_wp2_with fail
      go_roundw
      case rel => exact ⟨k + 1, _, _, _, by omega, by go_num, q2⟩
      case measure => simp [intOf]; omega
    · obtain rfl : k = 3 := by omega
      rw [show ((3 : Nat) : Int) = 3 from rfl]
      go_wp2_with fail
      have r0 : Hid (AR w B ga w.heap.size (w.heap.size + 1) 0 A n c xs A' c' ws A c #[.slice none 0 0, .slice none 0 0, .slice none 0 0] wr) :=
        ⟨q.out.ap, q.out.was, fun j hj => q.out.cp j hj, q.out.long, rfl, fun j hj => absurd hj (by omega), q.out.low.mono hB⟩
      have hwsz := Lib.hid q.out.sz
      have hsz : w.heap.size ≤ wr.heap.size := q.out.low.size
      clear q q0 hk3
      generalize wr = W1 at *
      go_loopw [6] (fun i wr => ∃ (k : Nat) (A2 : Nat → Option Addr) (c2 : Nat → Nat) (ls : Array Value), k ≤ 3 ∧ i = .int .i64 k ∧ Hid (AR w B ga w.heap.size (w.heap.size + 1) k A n c xs A' c' ws A2 c2 ls wr)) (fun i _ => 3 - (intOf i).toNat)
      case atStart => exact ⟨0, A, c, _, by omega, rfl, r0⟩
      case round =>
        obtain ⟨k, A2, c2, ls, hk, rfl, r⟩ := hrel
        by_cases hk3 : k < 3
        · have ca1 := all_get r.out.ap hk3
          have hcv : IntKind.u8.wrap ((k : Int) + 1) = ((k + 1 : Nat) : Int) := by rw [IntKind.wrap_u8]; omega
          obtain ⟨m, hm⟩ : ∃ m, m = k + 1 := ⟨_, rfl⟩
          rw [← hm] at hcv
          have HM := Lib.hid hm
          clear hm
          go_wp2_with fail
          refine (gone_any (A k) (n k) (c k) m B (B8 (xs k)) _ (r.out.ap.row k hk3) (Nat.le_trans hB r.out.low.size) (by have := HN.out k; omega)).mono ?_
          rintro e w1 ⟨A5, c5, rfl, hg⟩
          have r1 : Hid (AR w B ga w.heap.size (w.heap.size + 1) k A n c xs A' c' ws A2 c2 ls w1) := r.out.gone hB hk3 HP.out.row HNE.out hg
          have ho1 : w1.ownsRow B 5 1 (.slice A5 (n k + 40) c5) (n k + 40) (B8 (xs k ++ List.replicate 40 (k + 1))) := by
            have h := hg.own
            rw [HM.out] at h
            have e : B8 (xs k ++ List.replicate 40 (k + 1)) = B8 (xs k) ++ List.replicate 40 (Value.int .u8 ((k + 1 : Nat) : Int)) := by simp [B8]
            rw [e]; exact h
          have hat : A5 = A k ∨ ∀ g, A5 = some ⟨g, 0, none⟩ → w.heap.size ≤ g := by
            rcases hg.at_ with ⟨e, _⟩ | e
            · exact .inl e
            · have hwr : w.heap.size ≤ wr.heap.size := by
                have h1 := r.out.was.lt; omega
              exact .inr fun g e2 => Nat.le_trans hwr (e g e2)
          have r2 : Hid (AR w B ga w.heap.size (w.heap.size + 1) (k + 1) A n c xs A' c' ws _ _ _ _) := r1.out.store hk3 (by omega) (by omega) (by omega) A5 c5 ho1 hat
          have cw := r1.out.long.cell k
          have fw := r1.out.long.frozen k
          have hls : ∃ y, ls[k]? = some y := ⟨_, Array.getElem?_eq_getElem (by rw [r1.out.sz]; exact hk3)⟩
          obtain ⟨y, hy⟩ := hls
          rw [hy] at cw
          clear hg ca1 r hy ho1 hat
          go_wp2_with fail
          go_roundw
          case rel => exact ⟨k + 1, _, _, _, by omega, by go_num, r2⟩
          case measure => simp [intOf]; omega
        · obtain rfl : k = 3 := by omega
          rw [show ((3 : Nat) : Int) = 3 from rfl]
          go_wp2_with fail
          clear r0
          have hsz2 : w.heap.size ≤ wr.heap.size := by have := r.out.was.lt; omega
          generalize wr = W2 at *
          go_loopw [7] (fun i wr => ∃ (k : Nat), k ≤ 3 ∧ i = .int .i64 k ∧ Hid (AR w B ga w.heap.size (w.heap.size + 1) 3 A n c xs A' c' ws A2 c2 ls wr)) (fun i _ => 3 - (intOf i).toNat)
          case atStart => exact ⟨0, by omega, rfl, r⟩
          case round =>
            obtain ⟨k, hk, rfl, r⟩ := hrel
            by_cases hk3 : k < 3
            · have hcv : IntKind.u8.wrap ((k : Int) + 1) = ((k + 1 : Nat) : Int) := by rw [IntKind.wrap_u8]; omega
              obtain ⟨m, hm⟩ : ∃ m, m = k + 1 := ⟨_, rfl⟩
              rw [← hm] at hcv
              have HM := Lib.hid hm
              have SSk := ss3_of hk3 r.out
              obtain ⟨k1, k2, k3, _⟩ := SSk
              clear hm
              obtain ⟨r40, hr⟩ : ∃ r40 : Int, r40 = 40 := ⟨_, rfl⟩
              have d1 : (r40 != 40) = false := by simp [hr]
              have d2 : (r40 == 40) = true := by simp [hr]
              have HR := Lib.hid hr
              clear hr k1 k2 k3
              have r' := r
              have hiw : IntKind.i64.wrap ((k : Int) + 1) = (k : Int) + 1 := IntWalk.i64_in _ (by omega)
              clear r
              go_wp2_with fail
              go_region_held3 (fun W' => SS3 w B ga w.heap.size (w.heap.size + 1) k A n c xs A' c' ws A2 c2 ls W') (first | exact ss3_of hk3 (r'.out.drew hB) | exact ss3_of hk3 r'.out | exact ss3_of hk3 hst)
                (first
                  | (go_at_call 33; refine (SS3.call1 (by assumption) hk3 hB HN.out HM.out HR.out).mono ?_; rintro e w' ⟨rfl, hst⟩)
                  | (go_at_call 16; refine (SS3.call2 (by assumption) hk3 hB HN.out).mono ?_; rintro e w' ⟨rfl, hst⟩))
              have hst' : Hid (AR w B ga w.heap.size (w.heap.size + 1) 3 A n c xs A' c' ws A2 c2 ls w') := hst
              clear hst r'
              go_wp2_with fail
              go_roundw
              case rel => exact ⟨k + 1, by omega, by go_num, hst'⟩
              case measure => simp [intOf]; omega
            · obtain rfl : k = 3 := by omega
              rw [show ((3 : Nat) : Int) = 3 from rfl]
              go_wp2_with fail
              have z0 : Hid (AZ w B ga w.heap.size 0 A n c xs A' c' ws wr) := ⟨r.out.ap.all, fun i _ h3 => r.out.ap.row i h3, r.out.was, r.out.cp, r.out.low⟩
              clear r hk3
              generalize wr = W3 at *
              go_loopw [2, 8] (fun _ i wr => ∃ (k : Nat), k ≤ 3 ∧ i = .int .i64 k ∧ Hid (AZ w B ga w.heap.size k A n c xs A' c' ws wr)) (fun _ i _ => 3 - (intOf i).toNat)
              case atStart => exact ⟨0, by omega, rfl, z0⟩
              case round =>
                obtain ⟨k, hk, rfl, z⟩ := hrel
                by_cases hk3 : k < 3
                · have ca1 := z.out.get hk3
                  obtain ⟨ak, hak⟩ : ∃ ak, ak = A k := ⟨_, rfl⟩
                  obtain ⟨nk, hnk⟩ : ∃ nk, nk = n k := ⟨_, rfl⟩
                  obtain ⟨ck, hck⟩ : ∃ ck, ck = c k := ⟨_, rfl⟩
                  have y0 : Hid (AY w B ga w.heap.size k A n c xs A' c' ws ak nk ck wr) := by
                    subst hak hnk hck
                    exact ⟨z.out.less, ⟨(xs k).map Int.ofNat, by have := (z.out.row k (Nat.le_refl _) hk3).1; simp [B8] at this ⊢; omega, by have h := z.out.row k (Nat.le_refl _) hk3; rw [List.map_map]; exact h⟩,
                      fun i hi h3 => HNE.out i k h3 hk3 (by omega), fun g hg => (HP.out.row k hk3).lt g hg⟩
                  have hn63 : nk ≤ 131072 := by rw [hnk]; exact HN.out k
                  rw [← hak, ← hnk, ← hck] at ca1
                  have d79 : decide ((k : Int) < 3) = true := by simp; omega
                  clear hak hnk hck z
                  go_wp2_with fail
                  clear ca1
                  generalize wr = W4 at *
                  go_loopw [10] (fun i wr => ∃ (j : Nat), j ≤ nk ∧ i = .int .i64 j ∧ Hid (AY w B ga w.heap.size k A n c xs A' c' ws ak nk ck wr)) (fun i _ => nk - (intOf i).toNat)
                  case atStart => exact ⟨0, by omega, rfl, y0⟩
                  case round =>
                    obtain ⟨j, hj, rfl, y⟩ := hrel
                    by_cases hjn : j < nk
                    · obtain ⟨g, v, rfl, hcell, hfr⟩ := y.out.at_ hjn
                      go_wp2_with fail
                      go_roundw
                      case rel => exact ⟨j + 1, by omega, by go_num, y.out.set_ j _⟩
                      case measure => simp [intOf]; omega
                    · obtain rfl : j = nk := by omega
                      have z1 : Hid (AZ w B ga w.heap.size (k + 1) A n c xs A' c' ws wr) := y.out.ap
                      clear y hjn
                      go_wp2_with fail
                      generalize wr = W5 at *
                      go_loopw [2, 11] (fun _ i wr => ∃ (o : Nat), k + 1 ≤ o ∧ o ≤ 3 ∧ i = .int .i64 o ∧ Hid (AZ w B ga w.heap.size (k + 1) A n c xs A' c' ws wr)) (fun _ i _ => 3 - (intOf i).toNat)
                      case atStart => exact ⟨k + 1, by omega, by omega, by go_num, z1⟩
                      case round =>
                        obtain ⟨o, hko, ho, rfl, z2⟩ := hrel
                        by_cases ho3 : o < 3
                        · go_wp2_with fail
                          go_region_held3 (fun W' => SS6 w B ga w.heap.size (k + 1) o A n c xs A' c' ws W') (first | exact ss6_of ho3 (z2.out.drew hB) | exact ss6_of ho3 z2.out | exact ss6_of ho3 hst)
                            (first
                              | (go_at_call 16; refine (SS6.call (by assumption) hko ho3 hB HN.out).mono ?_; rintro e w' ⟨rfl, hst⟩))
                          have hst' : Hid (AZ w B ga w.heap.size (k + 1) A n c xs A' c' ws w') := hst
                          clear hst z2
                          go_wp2_with fail
                          go_roundw
                          case rel => exact ⟨o + 1, by omega, by omega, by go_num, hst'⟩
                          case measure => simp [intOf]; omega
                        · obtain rfl : o = 3 := by omega
                          rw [show ((3 : Nat) : Int) = 3 from rfl]
                          go_wp2_with fail
                          go_roundw
                          case rel => exact ⟨k + 1, by omega, by go_num, z2⟩
                          case measure => simp [intOf]; omega
                · obtain rfl : k = 3 := by omega
                  rw [show ((3 : Nat) : Int) = 3 from rfl]
                  go_wp2_with fail
                  go_ret
                  exact ⟨rfl, z.out.low⟩
end Go.Proofs.Ytfhkcbhbomghfaa
