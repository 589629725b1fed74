import Derived.Test.YticnmgdflkipeaaZ39
namespace Go.Proofs.Yticnmgdflkipeaa
open Go.RowKit Go.Shelf Go.Hos
set_option linter.unusedVariables false
/-! plain laws: what lies at an address -/
def hitP (a : Nat) (p : PieceD) : Bool := decide (p.f ≤ a) && decide (a < p.t)
def stepP (a : Nat) (st : Nat × Int) (p : PieceD) : Nat × Int := if hitP a p = true then (st.1 + 1, if 0 ≤ p.ino then ((p.off + a - p.f : Nat) : Int) else st.2) else st
def hitW (a : Nat) (k : Nat × Nat) : Bool := decide (k.1 ≤ a) && decide (a - k.1 < k.2)
def stepW (a : Nat) (x : Int) (k : Nat × Nat) : Int := if hitW a k = true then -1 else x
def fndP (a : Nat) (P : Nat → PieceD) : Nat → Nat × Int
  | 0 => (0, -1)
  | n + 1 => stepP a (fndP a P n) (P n)
def fndW (a : Nat) (K : Nat → Nat × Nat) (x : Int) : Nat → Int
  | 0 => x
  | n + 1 => stepW a (fndW a K x n) (K n)
theorem fndP_fold (a : Nat) (l : List PieceD) : ∀ n, n ≤ l.length → fndP a (fun i => l.getD i pcZ) n = (l.take n).foldl (stepP a) (0, -1)
  | 0, _ => by simp [fndP]
  | n + 1, h => by rw [take_getD pcZ (by omega), List.foldl_append, ← fndP_fold a l n (by omega)]; rfl
theorem fndW_fold (a : Nat) (x : Int) (l : List (Nat × Nat)) : ∀ n, n ≤ l.length → fndW a (fun i => l.getD i (0, 0)) x n = (l.take n).foldl (stepW a) x
  | 0, _ => by simp [fndW]
  | n + 1, h => by rw [take_getD (0, 0) (by omega), List.foldl_append, ← fndW_fold a x l n (by omega)]; rfl
theorem fndP_le (a : Nat) (P : Nat → PieceD) : ∀ n, (fndP a P n).1 ≤ n
  | 0 => Nat.le_refl _
  | n + 1 => by
    have := fndP_le a P n
    unfold fndP stepP
    split
    · show _ + 1 ≤ _; omega
    · omega
theorem foldP_miss {a : Nat} : ∀ (l : List PieceD) (st : Nat × Int), (∀ p ∈ l, hitP a p = false) → l.foldl (stepP a) st = st
  | [], _, _ => rfl
  | p :: r, st, h => by
    rw [List.foldl_cons, show stepP a st p = st by unfold stepP; rw [h p (by simp)]; rfl]
    exact foldP_miss r st fun q hq => h q (by simp [hq])
theorem foldW_miss {a : Nat} : ∀ (l : List (Nat × Nat)) (x : Int), (∀ p ∈ l, hitW a p = false) → l.foldl (stepW a) x = x
  | [], _, _ => rfl
  | p :: r, st, h => by
    rw [List.foldl_cons, show stepW a st p = st by unfold stepW; rw [h p (by simp)]; rfl]
    exact foldW_miss r st fun q hq => h q (by simp [hq])
set_option maxRecDepth 20000 in
theorem ld_order {o : ObjD} (h : rightB o = true) {i j : Nat} (hij : i < j) (hj : j < (lds o.sg o.gM).length) : upv ((fnS (lds o.sg o.gM) i).addr + (fnS (lds o.sg o.gM) i).msz) ≤ dn (fnS (lds o.sg o.gM) j).addr := by
  obtain ⟨_, _, _, h1, h2⟩ := right_parts h
  have a := low_step (enOf_le o.ty) (enOf_mod o.ty) h1 (n := i) (by omega)
  have b := low_step (enOf_le o.ty) (enOf_mod o.ty) h1 hj
  have c := low_mono (enOf_le o.ty) (enOf_mod o.ty) h1 (n := i + 1) (j - (i + 1)) (by omega)
  rw [show i + 1 + (j - (i + 1)) = j by omega, a.2.1] at c
  obtain ⟨_, _, _, _, _, _, k7⟩ := okS_iff.1 b.2.2
  omega
/-- numbers of a load where its object lies -/
structure LdN (o : ObjD) (s : SegD) (df uf ue : Nat) : Prop where
  e1 : dn (o.base + s.addr) = df
  e2 : upv (o.base + s.addr + s.fsz) = uf
  e3 : upv (o.base + s.addr + s.msz) = ue
  d0 : df = o.base + dn s.addr
  z0 : ue = o.base + upv (s.addr + s.msz)
  a1 : df ≤ o.base + s.addr
  a2 : o.base + s.addr < df + 4096
  u1 : o.base + s.addr + s.fsz ≤ uf
  u2 : uf < o.base + s.addr + s.fsz + 4096
  v1 : o.base + s.addr + s.msz ≤ ue
  uv : uf ≤ ue
  dv : df < ue
  m1 : df % 4096 = 0
  m2 : uf % 4096 = 0
  m3 : ue % 4096 = 0
  l1 : ue ≤ 140737488355328
  du : 0 < s.fsz → df < uf
set_option maxRecDepth 20000 in
theorem ld_n {o : ObjD} {s : SegD} (k : LdX o s) : LdN o s (dn (o.base + s.addr)) (upv (o.base + s.addr + s.fsz)) (upv (o.base + s.addr + s.msz)) := by
  have e1 := k.en; have e2 := k.ok.up; have e3 := k.ok.fm; have e4 := k.al; have e5 := k.ok.m0
  have u1 : upv (o.base + s.addr + s.fsz) = dn (o.base + s.addr + s.fsz + 4095) := upv_dn (by omega)
  have u2 : upv (o.base + s.addr + s.msz) = dn (o.base + s.addr + s.msz + 4095) := upv_dn (by omega)
  have u3 : upv (s.addr + s.msz) = dn (s.addr + s.msz + 4095) := upv_dn (by omega)
  rw [u3] at e1
  refine ⟨rfl, rfl, rfl, ?_, ?_, ?_, ?_, ?_, ?_, ?_, ?_, ?_, ?_, ?_, ?_, ?_, ?_⟩
  all_goals (try rw [u1]); (try rw [u2]); (try rw [u3]); unfold dn at e1 ⊢; omega
theorem pcS_in {o : ObjD} {s : SegD} (k : LdX o s) {p : PieceD} (hp : p ∈ pcS o.base o.ino s) : o.base + dn s.addr ≤ p.f ∧ p.t ≤ o.base + upv (s.addr + s.msz) ∧ p.f < p.t ∧ p.f % 4096 = 0 ∧ p.t % 4096 = 0 ∧ p.pr = s.fl := by
  have n := ld_n k
  revert n hp
  unfold pcS
  generalize dn (o.base + s.addr) = df
  generalize upv (o.base + s.addr + s.fsz) = uf
  generalize upv (o.base + s.addr + s.msz) = ue
  intro hp n
  obtain ⟨_, _, _, d0, z0, a1, a2, u1, u2, v1, uv, dv, m1, m2, m3, l1, du⟩ := n
  rw [← d0, ← z0]
  clear d0 z0 k
  split at hp
  · rcases List.mem_cons.1 hp with rfl | hp
    · exact ⟨Nat.le_refl _, uv, du (by omega), m1, m2, rfl⟩
    · split at hp
      · obtain rfl := List.mem_singleton.1 hp
        exact ⟨Nat.le_of_lt (du (by omega)), Nat.le_refl _, by assumption, m2, m3, rfl⟩
      · cases hp
  · obtain rfl := List.mem_singleton.1 hp
    exact ⟨Nat.le_refl _, Nat.le_refl _, dv, m1, m3, rfl⟩
theorem pcS_pair {o : ObjD} {s : SegD} (k : LdX o s) : (pcS o.base o.ino s).Pairwise fun p q => p.t ≤ q.f := by
  unfold pcS
  split
  · split
    · simp
    · simp
  · simp
theorem wrS_in {o : ObjD} {s : SegD} (k : LdX o s) {p : Nat × Nat} (hp : p ∈ wrS o.base s) : o.base + s.addr + s.fsz ≤ p.1 ∧ p.1 + p.2 ≤ o.base + upv (s.addr + s.msz) := by
  have n := ld_n k
  revert n hp
  unfold wrS
  generalize dn (o.base + s.addr) = df
  generalize upv (o.base + s.addr + s.fsz) = uf
  generalize upv (o.base + s.addr + s.msz) = ue
  intro hp n
  obtain ⟨_, _, _, d0, z0, a1, a2, u1, u2, v1, uv, dv, m1, m2, m3, l1, du⟩ := n
  rw [← z0]
  clear d0 z0 k
  split at hp
  · obtain rfl := List.mem_singleton.1 hp
    exact ⟨Nat.le_refl _, by show _ + (_ - _) ≤ _; omega⟩
  · cases hp
/-- what lies at an address of a load -/
def atS (s : SegD) (k : Nat) : Int := if k < s.fsz then ((s.off + k : Nat) : Int) else -1
theorem one_load {o : ObjD} {s : SegD} (K : LdX o s) (hi : 0 ≤ o.ino) {k : Nat} (hk : k < s.msz) :
    ∃ y, (pcS o.base o.ino s).foldl (stepP (o.base + s.addr + k)) (0, -1) = (1, y) ∧ (wrS o.base s).foldl (stepW (o.base + s.addr + k)) y = atS s k := by
  have n := ld_n K
  have al := K.ok.al
  have b4 := K.al
  have fm := K.ok.fm
  have ho : dn s.off + (s.addr + k) = s.off + k + dn s.addr := by unfold dn; omega
  revert n
  unfold pcS wrS atS
  generalize dn (o.base + s.addr) = df
  generalize upv (o.base + s.addr + s.fsz) = uf
  generalize upv (o.base + s.addr + s.msz) = ue
  intro n
  obtain ⟨_, _, _, d0, z0, a1, a2, u1, u2, v1, uv, dv, m1, m2, m3, l1, du⟩ := n
  have hd : dn s.off + (o.base + s.addr + k) - df = s.off + k := by omega
  clear d0 z0 K al b4 ho l1
  generalize dn s.off = dof at hd ⊢
  by_cases hf : 0 < s.fsz
  · rw [if_pos hf]
    have d1 := du hf
    by_cases ha : o.base + s.addr + k < uf
    · have hit1 : ∀ pr, hitP (o.base + s.addr + k) ⟨df, uf, pr, o.ino, dof⟩ = true := fun pr => by unfold hitP; simp; omega
      refine ⟨((s.off + k : Nat) : Int), ?_, ?_⟩
      · rw [List.foldl_cons]
        rw [show stepP (o.base + s.addr + k) (0, -1) ⟨df, uf, s.fl, o.ino, dof⟩ = (1, ((s.off + k : Nat) : Int)) by
          unfold stepP; rw [if_pos (hit1 _), if_pos hi]; show (0 + 1, ((dof + (o.base + s.addr + k) - df : Nat) : Int)) = _; rw [hd]]
        apply foldP_miss
        intro p hp
        split at hp
        · obtain rfl := List.mem_singleton.1 hp
          unfold hitP; simp; omega
        · cases hp
      · by_cases hkf : k < s.fsz
        · rw [if_pos hkf]
          apply foldW_miss
          intro p hp
          split at hp
          · obtain rfl := List.mem_singleton.1 hp
            unfold hitW; simp; omega
          · cases hp
        · rw [if_neg hkf, if_pos ⟨hf, by omega, by omega⟩, List.foldl_cons]
          show stepW _ _ _ = _
          unfold stepW
          rw [if_pos (by unfold hitW; simp; omega)]
    · refine ⟨-1, ?_, ?_⟩
      · have hit1 : hitP (o.base + s.addr + k) ⟨df, uf, s.fl, o.ino, dof⟩ = false := by unfold hitP; simp; omega
        rw [List.foldl_cons, show stepP (o.base + s.addr + k) (0, -1) ⟨df, uf, s.fl, o.ino, dof⟩ = (0, -1) by unfold stepP; rw [hit1]; rfl, if_pos (by omega), List.foldl_cons]
        show stepP _ _ _ = _
        unfold stepP
        rw [if_pos (by unfold hitP; simp; omega)]
        rfl
      · rw [if_neg (show ¬ k < s.fsz by omega)]
        apply foldW_miss
        intro p hp
        split at hp
        · obtain rfl := List.mem_singleton.1 hp
          unfold hitW; simp; omega
        · cases hp
  · rw [if_neg hf, if_neg (by omega), if_neg (by omega)]
    refine ⟨-1, ?_, rfl⟩
    show stepP _ _ _ = _
    unfold stepP
    rw [if_pos (by unfold hitP; simp; omega)]
    rfl
section
variable {o : ObjD} (h : okP o = true) {j : Nat} (hj : j < (lds o.sg o.gM).length) {k : Nat} (hk : k < (fnS (lds o.sg o.gM) j).msz)
include h hj hk
theorem miss_lo {s : SegD} (hs : s ∈ (lds o.sg o.gM).take j) : (∀ p ∈ pcS o.base o.ino s, hitP (o.base + (fnS (lds o.sg o.gM) j).addr + k) p = false) ∧ (∀ p ∈ wrS o.base s, hitW (o.base + (fnS (lds o.sg o.gM) j).addr + k) p = false) := by
  have hk' := hk
  obtain ⟨i, hi, e⟩ := List.getElem_of_mem hs
  have hij : i < j := by rw [List.length_take] at hi; omega
  have e2 : fnS (lds o.sg o.gM) i = s := by
    unfold fnS; rw [List.getD_eq_getElem?_getD, List.getElem?_eq_getElem (by omega), ← e, List.getElem_take]; rfl
  have X := ld_x h (List.mem_of_mem_take hs)
  have ord := ld_order (okP_right h).1 hij hj
  rw [e2] at ord
  have d1 := dn_le (fnS (lds o.sg o.gM) j).addr
  refine ⟨fun p hp => ?_, fun p hp => ?_⟩
  · have := pcS_in X hp; unfold hitP; simp; omega
  · have := wrS_in X hp; unfold hitW; simp; omega
theorem miss_hi {s : SegD} (hs : s ∈ (lds o.sg o.gM).drop (j + 1)) : (∀ p ∈ pcS o.base o.ino s, hitP (o.base + (fnS (lds o.sg o.gM) j).addr + k) p = false) ∧ (∀ p ∈ wrS o.base s, hitW (o.base + (fnS (lds o.sg o.gM) j).addr + k) p = false) := by
  obtain ⟨i, hi, e⟩ := List.getElem_of_mem hs
  have hij : j + 1 + i < (lds o.sg o.gM).length := by rw [List.length_drop] at hi; omega
  have e2 : fnS (lds o.sg o.gM) (j + 1 + i) = s := by
    unfold fnS; rw [List.getD_eq_getElem?_getD, List.getElem?_eq_getElem hij, ← e, List.getElem_drop]; rfl
  have X := ld_x h (List.mem_of_mem_drop hs)
  have Y := ld_x h (fnS_mem hj)
  have ord := ld_order (okP_right h).1 (i := j) (j := j + 1 + i) (by omega) hij
  rw [e2] at ord
  have d1 := dn_le s.addr
  have u1 := Y.ok.up
  refine ⟨fun p hp => ?_, fun p hp => ?_⟩
  · have := pcS_in X hp; unfold hitP; simp; omega
  · have := wrS_in X hp; unfold hitW; simp; omega
theorem found_ok : (fndP (o.base + (fnS (lds o.sg o.gM) j).addr + k) (pcF o) (pcN o)).1 = 1 ∧
    fndW (o.base + (fnS (lds o.sg o.gM) j).addr + k) (wrF o) (fndP (o.base + (fnS (lds o.sg o.gM) j).addr + k) (pcF o) (pcN o)).2 (wrN o) = atS (fnS (lds o.sg o.gM) j) k := by
  have e1 : pcA o = pcL o.base o.ino (lds o.sg o.gM) := if_pos h
  have e2 : wrA o = wrL o.base (lds o.sg o.gM) := if_pos h
  have hl : lds o.sg o.gM = (lds o.sg o.gM).take j ++ (fnS (lds o.sg o.gM) j :: (lds o.sg o.gM).drop (j + 1)) := by
    have := List.take_append_drop (j + 1) (lds o.sg o.gM)
    rw [take_fnS hj, List.append_assoc] at this
    exact this.symm
  have ip : ∀ a, fndP a (pcF o) (pcN o) = (pcL o.base o.ino (lds o.sg o.gM)).foldl (stepP a) (0, -1) := fun a => by
    have := fndP_fold a (pcA o) (pcA o).length (Nat.le_refl _)
    rw [List.take_length, e1] at this
    unfold pcF pcN
    rw [e1]
    exact this
  have iw : ∀ a x, fndW a (wrF o) x (wrN o) = (wrL o.base (lds o.sg o.gM)).foldl (stepW a) x := fun a x => by
    have := fndW_fold a x (wrA o) (wrA o).length (Nat.le_refl _)
    rw [List.take_length, e2] at this
    unfold wrF wrN
    rw [e2]
    exact this
  obtain ⟨y, y1, y2⟩ := one_load (ld_x h (fnS_mem hj)) (right_parts (okP_right h).1).1 hk
  have p1 : pcL o.base o.ino (lds o.sg o.gM) = pcL o.base o.ino ((lds o.sg o.gM).take j) ++ (pcS o.base o.ino (fnS (lds o.sg o.gM) j) ++ pcL o.base o.ino ((lds o.sg o.gM).drop (j + 1))) := by
    conv => lhs; rw [hl]
    simp [pcL]
  have p2 : wrL o.base (lds o.sg o.gM) = wrL o.base ((lds o.sg o.gM).take j) ++ (wrS o.base (fnS (lds o.sg o.gM) j) ++ wrL o.base ((lds o.sg o.gM).drop (j + 1))) := by
    conv => lhs; rw [hl]
    simp [wrL]
  have m1 : ∀ p ∈ pcL o.base o.ino ((lds o.sg o.gM).take j), hitP (o.base + (fnS (lds o.sg o.gM) j).addr + k) p = false := fun p hp => by
    obtain ⟨s, hs, hp⟩ := List.mem_flatMap.1 hp
    exact (miss_lo h hj hk hs).1 p hp
  have m2 : ∀ p ∈ wrL o.base ((lds o.sg o.gM).take j), hitW (o.base + (fnS (lds o.sg o.gM) j).addr + k) p = false := fun p hp => by
    obtain ⟨s, hs, hp⟩ := List.mem_flatMap.1 hp
    exact (miss_lo h hj hk hs).2 p hp
  have m3 : ∀ p ∈ pcL o.base o.ino ((lds o.sg o.gM).drop (j + 1)), hitP (o.base + (fnS (lds o.sg o.gM) j).addr + k) p = false := fun p hp => by
    obtain ⟨s, hs, hp⟩ := List.mem_flatMap.1 hp
    exact (miss_hi h hj hk hs).1 p hp
  have m4 : ∀ p ∈ wrL o.base ((lds o.sg o.gM).drop (j + 1)), hitW (o.base + (fnS (lds o.sg o.gM) j).addr + k) p = false := fun p hp => by
    obtain ⟨s, hs, hp⟩ := List.mem_flatMap.1 hp
    exact (miss_hi h hj hk hs).2 p hp
  have F : fndP (o.base + (fnS (lds o.sg o.gM) j).addr + k) (pcF o) (pcN o) = (1, y) := by
    rw [ip, p1, List.foldl_append, List.foldl_append, foldP_miss _ _ m1, y1, foldP_miss _ _ m3]
  rw [F]
  refine ⟨rfl, ?_⟩
  rw [iw, p2, List.foldl_append, List.foldl_append, foldW_miss _ _ m2, y2, foldW_miss _ _ m4]
theorem pieces_ok {i : Nat} (hi : i < pcN o) : (pcF o i).f % 4096 = 0 ∧ (pcF o i).t % 4096 = 0 ∧ (pcF o i).f < (pcF o i).t ∧ (0 < i → (pcF o (i - 1)).t ≤ (pcF o i).f) ∧ (hitP (o.base + (fnS (lds o.sg o.gM) j).addr + k) (pcF o i) = true → (pcF o i).pr = (fnS (lds o.sg o.gM) j).fl) := by
  have e1 : pcA o = pcL o.base o.ino (lds o.sg o.gM) := if_pos h
  unfold pcN at hi
  have at_ : ∀ i (hi : i < (pcA o).length), pcF o i = (pcA o)[i] := fun i hi => by
    unfold pcF; rw [List.getD_eq_getElem?_getD, List.getElem?_eq_getElem hi]; rfl
  have hm : pcF o i ∈ pcA o := by rw [at_ i hi]; exact List.getElem_mem _
  rw [e1] at hm
  obtain ⟨s, hs, hp⟩ := List.mem_flatMap.1 hm
  obtain ⟨q1, q2, q3, q4, q5, q6⟩ := pcS_in (ld_x h hs) hp
  refine ⟨q4, q5, q3, fun h0 => ?_, fun hh => ?_⟩
  · have pw : (pcA o).Pairwise fun p q => p.t ≤ q.f := by
      rw [e1]
      unfold pcL
      rw [List.pairwise_flatMap]
      refine ⟨fun s hs => pcS_pair (ld_x h hs), ?_⟩
      rw [List.pairwise_iff_getElem]
      intro a b ha hb hab x hx y hy
      have o1 := ld_order (okP_right h).1 hab hb
      have f1 : ∀ c (hc : c < (lds o.sg o.gM).length), fnS (lds o.sg o.gM) c = (lds o.sg o.gM)[c] := fun c hc => by
        unfold fnS; rw [List.getD_eq_getElem?_getD, List.getElem?_eq_getElem hc]; rfl
      rw [f1 a ha, f1 b hb] at o1
      have X := pcS_in (ld_x h (List.getElem_mem ha)) hx
      have Y := pcS_in (ld_x h (List.getElem_mem hb)) hy
      omega
    rw [List.pairwise_iff_getElem] at pw
    have := pw (i - 1) i (by omega) hi (by omega)
    rw [at_ i hi, at_ (i - 1) (by omega)]
    exact this
  · obtain ⟨n, hn, e⟩ := mem_fnS hs
    have hd := dn_le (fnS (lds o.sg o.gM) j).addr
    have Y := ld_x h (fnS_mem hj)
    have u1 := Y.ok.up
    unfold hitP at hh
    simp at hh
    rcases Nat.lt_trichotomy n j with hlt | rfl | hgt
    · have o1 := ld_order (okP_right h).1 hlt hj
      rw [e] at o1
      omega
    · rw [q6, e]
    · have o1 := ld_order (okP_right h).1 hgt hn
      rw [e] at o1
      omega
end
theorem okE_one {o : ObjD} (h : okE o = 1) : pcN o = 0 ∧ wrN o = 0 := by
  unfold okE at h
  unfold pcN wrN pcA wrA
  split at h
  · cases h
  · rename_i hk
    rw [if_neg hk, if_neg hk]
    exact ⟨rfl, rfl⟩
end Go.Proofs.Yticnmgdflkipeaa
