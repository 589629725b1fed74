import Derived.Test.YtlenjpgkmikgpaaR22
namespace Go.Proofs.Ytlenjpgkmikgpaa
open Go.RowKit Go.Shelf Go.Hos
set_option linter.unusedVariables false
/-! each relocation by itself: plain -/
theorem ptI_get (O : Nat → ObjD) (m i : Nat) : ∀ n k, k < n → (ptI O m i n)[k]? = some (oneP O m i ((O i).rl k)).1
  | n + 1, k, h => by
    show (ptI O m i n ++ [_])[k]? = _
    by_cases e : k < n
    · rw [List.getElem?_append_left (by rw [ptI_len]; exact e)]; exact ptI_get O m i n k e
    · obtain rfl : k = n := by omega
      rw [List.getElem?_append_right (by rw [ptI_len]; exact Nat.le_refl _), ptI_len, Nat.sub_self]; rfl
theorem ptO_succ (O : Nat → ObjD) (m i : Nat) : (ptO O m (i + 1)).length = (ptO O m i).length + (O i).rM := by
  show (ptO O m i ++ ptI O m i (O i).rM).length = _
  rw [List.length_append, ptI_len]
theorem ptO_mono (O : Nat → ObjD) (m i : Nat) : ∀ d, (ptO O m i).length ≤ (ptO O m (i + d)).length
  | 0 => Nat.le_refl _
  | d + 1 => by have := ptO_mono O m i d; have e := ptO_succ O m (i + d); show _ ≤ (ptO O m (i + d + 1)).length; omega
theorem ptO_get (O : Nat → ObjD) (m : Nat) : ∀ n i k, i < n → k < (O i).rM → (ptO O m n)[(ptO O m i).length + k]? = some (oneP O m i ((O i).rl k)).1
  | n + 1, i, k, hi, hk => by
    show (ptO O m n ++ ptI O m n (O n).rM)[_]? = _
    by_cases e : i < n
    · have h1 := ptO_mono O m (i + 1) (n - (i + 1))
      rw [show i + 1 + (n - (i + 1)) = n by omega] at h1
      have h2 := ptO_succ O m i
      rw [List.getElem?_append_left (by omega)]; exact ptO_get O m n i k e hk
    · obtain rfl : i = n := by omega
      rw [List.getElem?_append_right (by omega), Nat.add_sub_cancel_left]
      exact ptI_get O m i _ k hk
theorem erI_zero {O : Nat → ObjD} {m i n k : Nat} (h : erI O m i n = 0) (hk : k < n) : eP O m i k = 0 := by
  have h1 : erI O m i (k + 1) = 0 := by
    by_cases e : erI O m i (k + 1) = 0
    · exact e
    · have := erI_stays e (n - (k + 1)); rw [show k + 1 + (n - (k + 1)) = n by omega] at this; rw [← this]; exact h
  have h2 : (if erI O m i k = 0 then eP O m i k else erI O m i k) = 0 := h1
  split at h2
  · exact h2
  · rename_i e; exact absurd h2 e
theorem erO_zero {O : Nat → ObjD} {m n i : Nat} (h : erO O m n = 0) (hi : i < n) : erI O m i (O i).rM = 0 := by
  have h1 : erO O m (i + 1) = 0 := by
    by_cases e : erO O m (i + 1) = 0
    · exact e
    · have := erO_stays e (n - (i + 1)); rw [show i + 1 + (n - (i + 1)) = n by omega] at this; rw [← this]; exact h
  have h2 : (if erO O m i = 0 then erI O m i (O i).rM else erO O m i) = 0 := h1
  split at h2
  · exact h2
  · rename_i e; exact absurd h2 e
theorem patE_ok {O : Nat → ObjD} {m : Nat} (h : patE O m = 0) : okAll O m = true ∧ m ≤ 9 ∧ erO O m m = 0 := by
  unfold patE at h
  split at h
  · rename_i e
    simp only [Bool.and_eq_true, decide_eq_true_eq] at e
    exact ⟨e.1, e.2, h⟩
  · cases h
/-- what holds of each relocation where there is no fault -/
theorem each_ok {O : Nat → ObjD} {m i k : Nat} (h : patE O m = 0) (hi : i < m) (hk : k < (O i).rM) : (oneP O m i ((O i).rl k)).2 = 0 ∧ patF O m ((ptO O m i).length + k) = (oneP O m i ((O i).rl k)).1 ∧ (ptO O m i).length + k < numP O m := by
  obtain ⟨h1, h2, h3⟩ := patE_ok h
  have hg := ptO_get O m m i k hi hk
  refine ⟨erI_zero (erO_zero h3 hi) hk, ?_, ?_⟩
  · unfold patF; rw [List.getD_eq_getElem?_getD, hg]; rfl
  · unfold numP; rw [if_pos h]; exact (List.getElem?_eq_some_iff.1 hg).1
theorem one_ok {O : Nat → ObjD} {m i : Nat} {r : RelD} (h : (oneP O m i r).2 = 0) : (oneP O m i r).1.at_ = addrP O i r ∧ (oneP O m i r).1.size = szR r.ty ∧ lyB (O i).lay r.off (szR r.ty) = true ∧ (r.ty = 8 → (oneP O m i r).1.v = sumP (O i).base r.add) := by
  unfold oneP at h ⊢
  by_cases hb : badP O i r = true
  · rw [if_pos hb] at h; cases h
  rw [if_neg hb] at h ⊢
  by_cases hs : (symP O m i r).2 ≠ 0
  · rw [if_pos hs] at h; exact absurd h hs
  rw [if_neg hs] at h ⊢
  have hl : lyB (O i).lay r.off (szR r.ty) = true := by
    unfold badP at hb
    cases e : lyB (O i).lay r.off (szR r.ty) with
    | true => rfl
    | false => rw [e] at hb; simp at hb
  cases hv : valP O i r (symP O m i r).1 with
  | none => rw [hv] at h; cases h
  | some v =>
    refine ⟨rfl, rfl, hl, fun h8 => ?_⟩
    unfold valP at hv
    rw [h8] at hv
    exact (Option.some.inj hv).symm
/-- alike but for relocations -/
structure Core (o o' : ObjD) : Prop where
  base : o'.base = o.base
  sM : o'.sM = o.sM
  sy : o'.sy = o.sy
  lay : ∀ a b, lyB o'.lay a b = lyB o.lay a b
  right : Lay.rightB o'.lay = Lay.rightB o.lay
theorem SameD.core {o o' : ObjD} (h : SameD o o') : Core o o' := by
  obtain ⟨_, _, _, _, _, _, rfl⟩ := h
  exact ⟨rfl, rfl, rfl, fun _ _ => rfl, rfl⟩
theorem Core.trans {a b c : ObjD} (h : Core a b) (h' : Core b c) : Core a c :=
  ⟨h'.base.trans h.base, h'.sM.trans h.sM, h'.sy.trans h.sy, fun x y => (h'.lay x y).trans (h.lay x y), h'.right.trans h.right⟩
theorem one_core {O O' : Nat → ObjD} (h : ∀ i, Core (O i) (O' i)) (m i : Nat) (r : RelD) : oneP O' m i r = oneP O m i r := by
  have hs : symP O' m i r = symP O m i r := by
    unfold symP
    rw [(show AlikeS (fun i => (O i).syms) (fun i => (O' i).syms) from fun i => ⟨(h i).sM, (h i).sy, by show ((O' i).base : Int) = (O i).base; rw [(h i).base]⟩).of]
  have hb : badP O' i r = badP O i r := by unfold badP; rw [(h i).lay, (h i).sM]
  have ha : addrP O' i r = addrP O i r := by unfold addrP; rw [(h i).base]
  have hv : ∀ s, valP O' i r s = valP O i r s := fun s => by unfold valP; rw [ha, (h i).base]
  unfold oneP
  rw [hs, hb, hv, ha]
/-- objects with one relocation alone -/
def oneO (O : Nat → ObjD) (i g : Nat) (r : RelD) (j : Nat) : ObjD := if j = i then { O j with rA := some ⟨g, 0, none⟩, rM := 1, rQ := 1, rl := fun _ => r } else { O j with rA := none, rM := 0, rQ := 0 }
theorem oneO_core (O : Nat → ObjD) (i g : Nat) (r : RelD) (j : Nat) : Core (O j) (oneO O i g r j) := by
  unfold oneO
  split <;> exact ⟨rfl, rfl, rfl, fun _ _ => rfl, rfl⟩
theorem oneO_at (O : Nat → ObjD) (i g : Nat) (r : RelD) : (oneO O i g r i).rM = 1 ∧ ∀ k, (oneO O i g r i).rl k = r := by unfold oneO; rw [if_pos rfl]; exact ⟨rfl, fun _ => rfl⟩
theorem oneO_not (O : Nat → ObjD) (i g : Nat) (r : RelD) {j : Nat} (h : j ≠ i) : (oneO O i g r j).rM = 0 := by unfold oneO; rw [if_neg h]
theorem oneO_okR {O : Nat → ObjD} {i g : Nat} {r : RelD} {j : Nat} (h : okR (O j) = true) : okR (oneO O i g r j) = true := by
  unfold okR at h ⊢
  simp only [Bool.and_eq_true, decide_eq_true_eq] at h ⊢
  refine ⟨⟨by rw [(oneO_core O i g r j).right]; exact h.1.1, ?_⟩, by rw [(oneO_core O i g r j).sM]; exact h.2⟩
  by_cases e : j = i
  · subst e; rw [(oneO_at O j g r).1]; omega
  · rw [oneO_not O i g r e]; omega
theorem oneO_ok {O : Nat → ObjD} {i g : Nat} {r : RelD} : ∀ {n}, okAll O n = true → okAll (oneO O i g r) n = true
  | 0, _ => rfl
  | n + 1, h => by
    unfold okAll at h ⊢
    simp only [Bool.and_eq_true] at h ⊢
    exact ⟨oneO_ok h.1, oneO_okR h.2⟩
theorem oneO_er {O : Nat → ObjD} {m i g : Nat} {r : RelD} (h : (oneP O m i r).2 = 0) : ∀ n, erO (oneO O i g r) m n = 0
  | 0 => rfl
  | n + 1 => by
    show (if erO (oneO O i g r) m n = 0 then erI (oneO O i g r) m n (oneO O i g r n).rM else _) = 0
    rw [if_pos (oneO_er h n)]
    by_cases e : n = i
    · subst e
      rw [(oneO_at O n g r).1]
      show (if (0 : Int) = 0 then eP (oneO O n g r) m n 0 else _) = 0
      rw [if_pos rfl]
      unfold eP
      rw [(oneO_at O n g r).2, one_core (oneO_core O n g r)]
      exact h
    · rw [oneO_not O i g r e]; rfl
theorem oneO_pt {O : Nat → ObjD} {m i g : Nat} {r : RelD} : ∀ n, ptO (oneO O i g r) m n = if i < n then [(oneP O m i r).1] else []
  | 0 => rfl
  | n + 1 => by
    show ptO (oneO O i g r) m n ++ ptI (oneO O i g r) m n (oneO O i g r n).rM = _
    rw [oneO_pt n]
    by_cases e : n = i
    · subst e
      rw [(oneO_at O n g r).1, if_neg (by omega), if_pos (by omega)]
      show [] ++ ([] ++ [(oneP (oneO O n g r) m n ((oneO O n g r n).rl 0)).1]) = _
      rw [(oneO_at O n g r).2, one_core (oneO_core O n g r)]; rfl
    · rw [oneO_not O i g r e]
      show _ ++ [] = _
      rw [List.append_nil]
      by_cases h : i < n
      · rw [if_pos h, if_pos (by omega)]
      · rw [if_neg h, if_neg (by omega)]
theorem oneO_all {O : Nat → ObjD} {m i g : Nat} {r : RelD} (h : patE O m = 0) (hi : i < m) (h1 : (oneP O m i r).2 = 0) : patE (oneO O i g r) m = 0 ∧ numP (oneO O i g r) m = 1 ∧ patF (oneO O i g r) m 0 = (oneP O m i r).1 := by
  obtain ⟨a1, a2, a3⟩ := patE_ok h
  have hE : patE (oneO O i g r) m = 0 := by
    unfold patE
    rw [oneO_ok a1, if_pos (by simp; exact a2)]
    exact oneO_er h1 m
  have hP : ptO (oneO O i g r) m m = [(oneP O m i r).1] := by rw [oneO_pt, if_pos hi]
  exact ⟨hE, by unfold numP; rw [if_pos hE, hP]; rfl, by unfold patF; rw [hP]; rfl⟩
/-! relocations taken away, and one laid -/
theorem flatG_set {F : Nat → Array Value} {sz : Nat} (h : ∀ i, (F i).size = sz) {n j l : Nat} (hj : j < n) (hl : l < sz) (u : Value) : (flatG F n).set (j * sz + l) u = flatG (fun i => if i = j then (F i).setIfInBounds l u else F i) n := by
  have h' : ∀ i, ((fun i => if i = j then (F i).setIfInBounds l u else F i) i).size = sz := fun i => by
    show (if i = j then (F i).setIfInBounds l u else F i).size = sz
    split
    · rw [Array.size_setIfInBounds, h]
    · exact h i
  have hz : 0 < sz := by omega
  refine List.ext_getElem? fun q => ?_
  by_cases hq : q < n * sz
  · have e : q = q / sz * sz + q % sz := (Nat.div_add_mod' q sz).symm
    have hi : q / sz < n := Nat.div_lt_of_lt_mul (by rw [Nat.mul_comm]; exact hq)
    have hr : q % sz < sz := Nat.mod_lt _ hz
    generalize q / sz = a at e hi
    generalize q % sz = b at e hr
    subst e
    rw [flatG_get h' n a b hi hr, List.getElem?_set]
    by_cases hab : j * sz + l = a * sz + b
    · have hja : a = j := by
        have e1 : (a * sz + b) / sz = a := by rw [Nat.mul_comm, Nat.mul_add_div hz, Nat.div_eq_of_lt hr, Nat.add_zero]
        have e2 : (j * sz + l) / sz = j := by rw [Nat.mul_comm, Nat.mul_add_div hz, Nat.div_eq_of_lt hl, Nat.add_zero]
        rw [← e1, ← hab, e2]
      subst hja
      have hlb : l = b := by omega
      subst hlb
      rw [if_pos rfl, if_pos (by rw [flatG_len h]; exact hq), if_pos rfl, Array.getElem?_setIfInBounds_self_of_lt (by rw [h]; exact hl)]
    · rw [if_neg hab, flatG_get h n a b hi hr]
      by_cases hja : a = j
      · subst hja
        rw [if_pos rfl, Array.getElem?_setIfInBounds_ne (by omega)]
      · rw [if_neg hja]
  · rw [List.getElem?_eq_none (by rw [List.length_set, flatG_len h]; omega), List.getElem?_eq_none (by rw [flatG_len h']; omega)]
theorem owns_kept_set {W : World} {b1 e1 s1 n1 g j : Nat} {v1 : Value} {x1 : List Value} {t : TypeId} {cs : Array Value} (h1 : W.ownsRow b1 e1 s1 v1 n1 x1) (hg : Blk W g t cs) (hne : e1 ≠ t) (u : Value) : (W.setCell ⟨g, j, none⟩ u).ownsRow b1 e1 s1 v1 n1 x1 :=
  h1.kept (row := some g) ⟨rfl, rfl, rfl, by simp [World.setCell], fun k hk hne => Below.heap_setCell W ⟨g, j, none⟩ u k (fun e => hne (by rw [e]))⟩ (.inr (own_blk_ne h1 hg hne))
def nilO (O : Nat → ObjD) (j t : Nat) : ObjD := if t < j then { O t with rA := none, rM := 0, rQ := 0 } else O t
structure NS (w : World) (O : Nat → ObjD) (m j : Nat) (v : Value) (W : World) : Prop where
  bl : Below w.heap.size w W
  ow : W.ownsRow w.heap.size 50 11 v m (flatG (objF (nilO O j)) m)
  gs : ∀ i, i < m → W.ownsRow w.heap.size 67 6 (.slice (O i).gA (O i).gM (O i).gQ) (O i).gM (flatG (segF (O i)) (O i).gM)
  ss : ∀ i, i < m → W.ownsRow w.heap.size 61 5 (.slice (O i).sA (O i).sM (O i).sQ) (O i).sM (flatG (symF (O i)) (O i).sM)
theorem TWS.ns {w W : World} {O O' : Nat → ObjD} {m : Nat} {v : Value} (h : TWS w O O' m v W) : NS w O' m 0 v W :=
  ⟨h.bl, h.ow, fun i hi => (h.cp i hi).g, fun i hi => (h.cp i hi).s⟩
theorem own_blk {W : World} {base e s n g c : Nat} {xs : List Value} (h : W.ownsRow base e s (.slice (some ⟨g, 0, none⟩) n c) n xs) : base ≤ g ∧ ∃ cur, Blk W g e cur := by
  rcases h.2 with ⟨e, _⟩ | ⟨g', cap, cur, e, hb, hg, _⟩
  · cases e
  · obtain rfl : g = g' := by injection e with e1; injection e1 with e1; injection e1
    exact ⟨hb, cur, hg⟩
theorem objF_size (O : Nat → ObjD) : ∀ i, (objF O i).size = 11 := fun _ => rfl
theorem NS.store {w W : World} {O : Nat → ObjD} {m j g c : Nat} (h : NS w O m j (.slice (some ⟨g, 0, none⟩) m c) W) (hj : j < m) : NS w O m (j + 1) (.slice (some ⟨g, 0, none⟩) m c) (W.setCell ⟨g, j * 11 + 10, none⟩ (.slice none 0 0)) := by
  obtain ⟨hb, cur, hg⟩ := own_blk h.ow
  refine ⟨h.bl.setCell hb _, ?_, fun i hi => owns_kept_set (h.gs i hi) hg (by decide) _, fun i hi => owns_kept_set (h.ss i hi) hg (by decide) _⟩
  have := (h.ow.stored (j * 11 + 10) (.slice none 0 0)).1
  rw [flatG_set (objF_size _) hj (by omega)] at this
  rw [flatG_congr (G := fun i => if i = j then (objF (nilO O j) i).setIfInBounds 10 (.slice none 0 0) else objF (nilO O j) i) m fun i hi => ?_]
  · exact this
  · show (nilO O (j + 1) i).cs = _
    by_cases e : i = j
    · subst e
      rw [if_pos rfl]
      show (nilO O (i + 1) i).cs = (nilO O i i).cs.setIfInBounds 10 _
      unfold nilO
      rw [if_pos (by omega), if_neg (by omega)]
      rfl
    · rw [if_neg e]
      show _ = (nilO O j i).cs
      unfold nilO
      by_cases e2 : i < j
      · rw [if_pos (by omega), if_pos e2]
      · rw [if_neg (by omega), if_neg e2]
/-- the last cell of an object, in the walk's own words -/
theorem NS.at_ {w W : World} {O : Nat → ObjD} {m j g c : Nat} (h : NS w O m j (.slice (some ⟨g, 0, none⟩) m c) W) {ad : Addr} (e : ad = ⟨g, 0, none⟩) {i : Nat} (hi : i < m) : (∃ u, W.cell? ⟨(ad.add (i * 11)).block, (ad.add (i * 11)).off + 10, none⟩ = some u) ∧ W.frozen? ⟨(ad.add (i * 11)).block, (ad.add (i * 11)).off + 10, none⟩ = false ∧
    (⟨(ad.add (i * 11)).block, (ad.add (i * 11)).off + 10, none⟩ : Addr) = ⟨g, i * 11 + 10, none⟩ ∧ (ad.add (i * 11)).block < W.heap.size ∧ w.heap.size ≤ (ad.add (i * 11)).block := by
  obtain ⟨hb, cur, hg⟩ := own_blk h.ow
  have ee : ad.add (i * 11) = ⟨g, i * 11, none⟩ := by rw [e, Addr.add_mid, Nat.zero_add]
  rw [ee]
  have hl : i * 11 + 10 < m * 11 := by omega
  refine ⟨?_, hg.frozen _, rfl, hg.lt, hb⟩
  have := h.ow.cellAt (g := g) (i * 11 + 10) hl
  exact ⟨_, this.trans (List.getElem?_eq_getElem (by rw [flatG_len (objF_size _)]; exact hl))⟩
theorem NS.last {w W : World} {O : Nat → ObjD} {m i g c : Nat} (h : NS w O m m (.slice (some ⟨g, 0, none⟩) m c) W) (hi : i < m) (r : RelD) : ∀ W', W' = (W.alloc (.cells r.cs 53)).setCell ⟨g, i * 11 + 10, none⟩ (.slice (some ⟨W.heap.size, 0, none⟩) 1 1) → ObjR W' W'.heap.size (some ⟨g, 0, none⟩) m (oneO O i W.heap.size r) ∧ Below w.heap.size w W' := by
  rintro W' rfl
  obtain ⟨hb, cur, hg⟩ := own_blk h.ow
  have hga := hg.alloc (.cells r.cs 53)
  have hz := h.bl.size
  have hgl := hg.lt
  refine ⟨⟨?_, fun j hj => ?_, fun j hj => ?_, fun j hj => ?_, owns_len h.ow⟩, (h.bl.alloc hz _).setCell hb _⟩
  · have := ((h.ow.alloc (.cells r.cs 53)).stored (i * 11 + 10) (.slice (some ⟨W.heap.size, 0, none⟩) 1 1)).1
    rw [flatG_set (objF_size _) hi (by omega)] at this
    rw [flatG_congr (G := objF (oneO O i W.heap.size r)) m fun j hj => ?_] at this
    · exact str_ownG this (fun _ => rfl)
    · show (if j = i then (nilO O m j).cs.setIfInBounds 10 _ else (nilO O m j).cs) = (oneO O i W.heap.size r j).cs
      unfold nilO oneO
      rw [if_pos hj]
      by_cases e : j = i
      · rw [if_pos e, if_pos e]; rfl
      · rw [if_neg e, if_neg e]
  · have := str_ownG (owns_kept_set (j := i * 11 + 10) ((h.gs j hj).alloc (.cells r.cs 53)) hga (by decide) (.slice (some ⟨W.heap.size, 0, none⟩) 1 1)) (fun _ => rfl)
    have hl := owns_len (h.gs j hj)
    unfold oneO
    split <;> exact ⟨this, hl⟩
  · have := str_ownG (owns_kept_set (j := i * 11 + 10) ((h.ss j hj).alloc (.cells r.cs 53)) hga (by decide) (.slice (some ⟨W.heap.size, 0, none⟩) 1 1)) (fun _ => rfl)
    have hl := owns_len (h.ss j hj)
    unfold oneO
    split <;> exact ⟨this, hl⟩
  · by_cases e : j = i
    · unfold oneO
      rw [if_pos e]
      have k : Blk ((W.alloc (.cells r.cs 53)).setCell ⟨g, i * 11 + 10, none⟩ (.slice (some ⟨W.heap.size, 0, none⟩) 1 1)) W.heap.size 53 r.cs := (Blk.new W 53 r.cs).far (p := ⟨g, i * 11 + 10, none⟩) (by show W.heap.size ≠ g; omega) _
      exact ⟨str_one k k.lt, by show 1 ≤ maxLen; simp [maxLen]⟩
    · unfold oneO
      rw [if_neg e]
      exact ⟨fun h => absurd h (by show ¬ 0 < 0; omega), Nat.zero_le _⟩
end Go.Proofs.Ytlenjpgkmikgpaa
