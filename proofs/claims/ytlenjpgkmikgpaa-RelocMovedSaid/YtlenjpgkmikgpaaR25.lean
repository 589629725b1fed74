import Derived.Test.YtlenjpgkmikgpaaR23
namespace Go.Proofs.Ytlenjpgkmikgpaa
open Go.RowKit Go.Shelf Go.Hos
set_option linter.unusedVariables false
/-! an object that lies farther: plain -/
def fixR (r : RelD) : RelD := { r with sym := 0, ty := if r.ty = 2 then 1 else r.ty }
theorem fixR_ty (r : RelD) : (fixR r).ty ≠ 2 := by unfold fixR; dsimp only; split <;> omega
theorem fixR_fits {r : RelD} (h : r.fits) : (fixR r).fits := ⟨h.1, by show (-9223372036854775808 : Int) ≤ 0; omega, by show (0 : Int) ≤ 9223372036854775807; omega⟩
theorem u64_wrap (x : Int) : IntKind.u64.wrap x = x % (M : Int) := by
  rw [show (M : Int) = 18446744073709551616 by unfold M Lay.M; rfl]
  simp [IntKind.wrap, IntKind.bits, IntKind.signed]
theorem wrap_move (a b c : Int) : IntKind.u64.wrap (IntKind.u64.wrap (a + c) + b) = IntKind.u64.wrap (IntKind.u64.wrap (a + b) + c) := by
  simp only [u64_wrap]
  rw [Int.emod_add_emod, Int.emod_add_emod]
  congr 1
  omega
/-- a relocation without a symbol -/
theorem one_free {O : Nat → ObjD} {m i : Nat} {r : RelD} (hs : r.sym = 0) (ht : r.ty ≠ 2) : oneP O m i r = if decide (szR r.ty = 0) || !lyB (O i).lay r.off (szR r.ty) then (patZ, 22) else (⟨addrP O i r, szR r.ty, if r.ty = 1 then sumP 0 r.add else if r.ty = 8 then sumP (O i).base r.add else 0⟩, 0) := by
  have hb : badP O i r = (decide (szR r.ty = 0) || !lyB (O i).lay r.off (szR r.ty)) := by
    unfold badP
    rw [hs, decide_eq_false (by omega : ¬ (0 : Int) < 0), decide_eq_false (by omega : ¬ ((O i).sM : Int) < 0), Bool.or_false, Bool.or_false]
  have hy : symP O m i r = (0, 0) := by unfold symP; rw [if_pos (.inl hs)]
  unfold oneP
  rw [hb, hy]
  split
  · rfl
  · rw [if_neg (by simp)]
    unfold valP
    by_cases h1 : r.ty = 1
    · rw [if_pos h1, if_pos h1]
    · rw [if_neg h1, if_neg ht, if_neg h1]
      by_cases h8 : r.ty = 8
      · rw [if_pos h8, if_pos h8]
      · rw [if_neg h8, if_neg h8]
/-- one object ahead of others -/
def consO (o : ObjD) (O : Nat → ObjD) : Nat → ObjD
  | 0 => o
  | i + 1 => O i
/-- so much farther -/
structure Moved (far : Int) (o o' : ObjD) : Prop where
  base : (o'.base : Int) = IntKind.u64.wrap ((o.base : Int) + far)
  rM : o'.rM = o.rM
  rl : o'.rl = o.rl
  sM : o'.sM = o.sM
  lay : ∀ a b, lyB o'.lay a b = lyB o.lay a b
  right : Lay.rightB o'.lay = Lay.rightB o.lay
theorem Moved.okR {far : Int} {o o' : ObjD} (h : Moved far o o') : okR o' = okR o := by unfold Ytlenjpgkmikgpaa.okR; rw [h.right, h.rM, h.sM]
/-- the same patch, so much farther -/
structure PatM (far : Int) (ty : Nat) (p q : PatD) : Prop where
  at_ : q.at_ = IntKind.u64.wrap (p.at_ + far)
  size : q.size = p.size
  v : q.v = if ty = 8 then IntKind.u64.wrap (p.v + far) else p.v
theorem one_moved {far : Int} {o o' : ObjD} (h : Moved far o o') (X : Nat → ObjD) (hX : X 0 = o) (Y : Nat → ObjD) (hY : Y 0 = o') (m m' : Nat) {r : RelD} (hs : r.sym = 0) (ht : r.ty ≠ 2) :
    (oneP Y m' 0 r).2 = (oneP X m 0 r).2 ∧ ((oneP X m 0 r).2 = 0 → PatM far r.ty (oneP X m 0 r).1 (oneP Y m' 0 r).1) := by
  rw [one_free hs ht, one_free hs ht, hX, hY, h.lay]
  by_cases hc : (decide (szR r.ty = 0) || !lyB o.lay r.off (szR r.ty)) = true
  · rw [if_pos hc, if_pos hc]
    exact ⟨rfl, fun e => absurd e (by decide)⟩
  · rw [if_neg hc, if_neg hc]
    refine ⟨rfl, fun _ => ⟨?_, rfl, ?_⟩⟩
    · show IntKind.u64.wrap (((Y 0).base : Int) + r.off) = IntKind.u64.wrap (IntKind.u64.wrap (((X 0).base : Int) + r.off) + far)
      rw [hX, hY, h.base, wrap_move]
    · dsimp only
      by_cases h1 : r.ty = 1
      · rw [if_pos h1, if_pos h1, if_neg (by omega)]
      · rw [if_neg h1, if_neg h1]
        by_cases h8 : r.ty = 8
        · rw [if_pos h8, if_pos h8, if_pos h8]
          unfold sumP
          rw [h.base, wrap_move]
        · rw [if_neg h8, if_neg h8, if_neg h8]
theorem erO_front {Y : Nat → ObjD} {m : Nat} (h0 : ∀ i, (Y (i + 1)).rM = 0) : ∀ n, erO Y m (n + 1) = erI Y m 0 (Y 0).rM
  | 0 => by show (if (0 : Int) = 0 then _ else _) = _; rw [if_pos rfl]
  | n + 1 => by
    show (if erO Y m (n + 1) = 0 then erI Y m (n + 1) (Y (n + 1)).rM else erO Y m (n + 1)) = _
    rw [h0 n, erO_front h0 n]
    split
    · rename_i e; exact e.symm
    · rfl
theorem ptO_front {Y : Nat → ObjD} {m : Nat} (h0 : ∀ i, (Y (i + 1)).rM = 0) : ∀ n, ptO Y m (n + 1) = ptI Y m 0 (Y 0).rM
  | 0 => rfl
  | n + 1 => by
    show ptO Y m (n + 1) ++ ptI Y m (n + 1) (Y (n + 1)).rM = _
    rw [h0 n, ptO_front h0 n]
    exact List.append_nil _
theorem erI_free {O : Nat → ObjD} {m i : Nat} (h : ∀ k, ((O i).rl k).sym = 0 ∧ ((O i).rl k).ty ≠ 2) : ∀ n, erI O m i n = 0 ∨ erI O m i n = 22
  | 0 => .inl rfl
  | n + 1 => by
    show (if erI O m i n = 0 then eP O m i n else _) = 0 ∨ (if erI O m i n = 0 then eP O m i n else _) = 22
    split
    · unfold eP
      rw [one_free (h n).1 (h n).2]
      split
      · exact .inr rfl
      · exact .inl rfl
    · exact erI_free h n
theorem erI_moved {far : Int} {o o' : ObjD} (h : Moved far o o') (X : Nat → ObjD) (hX : X 0 = o) (Y : Nat → ObjD) (hY : Y 0 = o') (m m' : Nat) (hf : ∀ k, (o.rl k).sym = 0 ∧ (o.rl k).ty ≠ 2) : ∀ n, erI Y m' 0 n = erI X m 0 n
  | 0 => rfl
  | n + 1 => by
    show (if erI Y m' 0 n = 0 then eP Y m' 0 n else erI Y m' 0 n) = (if erI X m 0 n = 0 then eP X m 0 n else erI X m 0 n)
    rw [erI_moved h X hX Y hY m m' hf n, show eP Y m' 0 n = eP X m 0 n from by
      unfold eP; rw [hX, hY, h.rl]; exact (one_moved h X hX Y hY m m' (hf n).1 (hf n).2).1]
/-- the law in the plain -/
theorem moved_law {far : Int} {o o' : ObjD} (h : Moved far o o') (hf : ∀ k, (o.rl k).sym = 0 ∧ (o.rl k).ty ≠ 2) (Y : Nat → ObjD) (hY : Y 0 = o') (h0 : ∀ i, (Y (i + 1)).rM = 0) (n : Nat) (hn : n ≤ 8) (hc : ¬ (patE Y (1 + n) = 1 ∧ 0 < n)) :
    patE Y (1 + n) = patE (fun _ => o) 1 ∧ numP Y (1 + n) = numP (fun _ => o) 1 ∧ (patE (fun _ => o) 1 = 0 → numP (fun _ => o) 1 = o.rM) ∧ ∀ k, k < numP (fun _ => o) 1 → PatM far (o.rl k).ty (patF (fun _ => o) 1 k) (patF Y (1 + n) k) := by
  have eX : ∀ j, erI (fun _ => o) 1 0 j = erI Y (1 + n) 0 j := fun j => (erI_moved h (fun _ => o) rfl Y hY 1 (1 + n) hf j).symm
  have oX : erO (fun _ => o) 1 1 = erI (fun _ => o) 1 0 o.rM := by show (if (0 : Int) = 0 then _ else _) = _; rw [if_pos rfl]
  have pX : ptO (fun _ => o) 1 1 = ptI (fun _ => o) 1 0 o.rM := rfl
  have oY : erO Y (1 + n) (1 + n) = erI Y (1 + n) 0 o.rM := by rw [Nat.add_comm 1 n, erO_front h0 n, hY, h.rM]
  have pY : ptO Y (1 + n) (1 + n) = ptI Y (1 + n) 0 o.rM := by rw [Nat.add_comm 1 n, ptO_front h0 n, hY, h.rM]
  have hY0 : okR (Y 0) = okR o := by rw [hY]; exact h.okR
  have hE : patE Y (1 + n) = patE (fun _ => o) 1 := by
    by_cases hok : okAll Y (1 + n) = true
    · have ho : okR o = true := by rw [← hY0]; exact okAll_at hok (by omega)
      have e1 : patE Y (1 + n) = erI Y (1 + n) 0 o.rM := by unfold patE; rw [hok, if_pos (by simp; omega), oY]
      have e2 : patE (fun _ => o) 1 = erI (fun _ => o) 1 0 o.rM := by
        unfold patE
        rw [if_pos (by show ((true && okR o) && _) = true; rw [ho]; rfl), oX]
      rw [e1, e2, eX]
    · have e1 : patE Y (1 + n) = 1 := by unfold patE; rw [if_neg (by simp [hok])]
      have hn0 : n = 0 := by
        by_cases e : n = 0
        · exact e
        · exact absurd ⟨e1, by omega⟩ hc
      subst hn0
      have ho : okR o = false := by
        have : okAll Y (1 + 0) = (true && okR (Y 0)) := rfl
        rw [this, hY0] at hok
        simpa using hok
      have e2 : patE (fun _ => o) 1 = 1 := by
        unfold patE
        rw [if_neg (by show ¬ ((true && okR o) && _) = true; rw [ho]; simp)]
      rw [e1, e2]
  have hN : numP Y (1 + n) = numP (fun _ => o) 1 := by unfold numP; rw [hE, pX, pY, ptI_len, ptI_len]
  refine ⟨hE, hN, fun e => by unfold numP; rw [if_pos e, pX, ptI_len], fun k hk => ?_⟩
  have hE0 : patE (fun _ => o) 1 = 0 := by
    by_cases e : patE (fun _ => o) 1 = 0
    · exact e
    · unfold numP at hk; rw [if_neg e] at hk; exact absurd hk (Nat.not_lt_zero _)
  have hk2 : k < o.rM := by unfold numP at hk; rw [if_pos hE0, pX, ptI_len] at hk; exact hk
  have f1 : patF (fun _ => o) 1 k = (oneP (fun _ => o) 1 0 (o.rl k)).1 := by
    unfold patF; rw [pX, List.getD_eq_getElem?_getD, ptI_get _ _ _ _ _ hk2]; rfl
  have f2 : patF Y (1 + n) k = (oneP Y (1 + n) 0 (o.rl k)).1 := by
    unfold patF; rw [pY, List.getD_eq_getElem?_getD, ptI_get _ _ _ _ _ hk2, hY, h.rl]; rfl
  rw [f1, f2]
  refine (one_moved h (fun _ => o) rfl Y hY 1 (1 + n) (hf k).1 (hf k).2).2 ?_
  have := erO_zero (O := fun _ => o) (m := 1) (n := 1) (i := 0) (patE_ok hE0).2.2 (by omega)
  exact erI_zero this hk2
/-! one object of the law's own: its cells, its relocations -/
structure XS (w : World) (o : ObjD) (R : Nat → RelD) (v : Value) (W : World) : Prop where
  bl : Below w.heap.size w W
  ow : W.ownsRow w.heap.size 50 11 v 1 o.cs.toList
  g : W.ownsRow w.heap.size 67 6 (.slice o.gA o.gM o.gQ) o.gM (flatG (segF o) o.gM)
  s : W.ownsRow w.heap.size 61 5 (.slice o.sA o.sM o.sQ) o.sM (flatG (symF o) o.sM)
  r : W.ownsRow w.heap.size 53 4 (.slice o.rA o.rM o.rQ) o.rM (flatG (fun t => (R t).cs) o.rM)
theorem XS.next {w W W' : World} {o : ObjD} {R : Nat → RelD} {v : Value} (h : XS w o R v W) (hb : Below W.heap.size W W') : XS w o R v W' :=
  ⟨h.bl.trans (hb.mono h.bl.size), owns_below h.ow hb, owns_below h.g hb, owns_below h.s hb, owns_below h.r hb⟩
theorem XS.congr {w W : World} {o : ObjD} {R F : Nat → RelD} {v : Value} (h : XS w o R v W) (hR : ∀ t, t < o.rM → R t = F t) : XS w o F v W :=
  ⟨h.bl, h.ow, h.g, h.s, by rw [← flatG_congr (F := fun t => (R t).cs) (G := fun t => (F t).cs) o.rM fun t ht => by show (R t).cs = (F t).cs; rw [hR t ht]]; exact h.r⟩
theorem TWS.xs {w W : World} {O O' : Nat → ObjD} {v : Value} (h : TWS w O O' 1 v W) : XS w (O' 0) (O' 0).rl v W :=
  ⟨h.bl, h.ow, (h.cp 0 (by omega)).g, (h.cp 0 (by omega)).s, (h.cp 0 (by omega)).r⟩
theorem XS.objs {w W : World} {o : ObjD} {R : Nat → RelD} {A : Option Addr} {c : Nat} (h : XS w o R (.slice A 1 c) W) : ObjR W W.heap.size A 1 (fun _ => { o with rl := R }) :=
  ⟨str_ownG (F := fun _ => o.cs) (n := 1) h.ow (fun _ => rfl), fun i hi => ⟨str_ownG h.g (fun _ => rfl), owns_len h.g⟩, fun i hi => ⟨str_ownG h.s (fun _ => rfl), owns_len h.s⟩, fun i hi => ⟨str_ownG h.r (fun _ => rfl), owns_len h.r⟩, by simp [maxLen]⟩
theorem XS.addr {w W : World} {o : ObjD} {R : Nat → RelD} {A : Option Addr} {c : Nat} (h : XS w o R (.slice A 1 c) W) : ∃ g, A = some ⟨g, 0, none⟩ := by
  obtain ⟨g, cap, hv, _, _⟩ := h.ow.form (by omega)
  exact ⟨g, by injection hv⟩
theorem XS.at_ {w W : World} {o : ObjD} {R : Nat → RelD} {g c : Nat} (h : XS w o R (.slice (some ⟨g, 0, none⟩) 1 c) W) {ad : Addr} (e : ad = ⟨g, 0, none⟩) : W.cell? ⟨ad.block, ad.off + 1, none⟩ = some (.int .u64 o.base) ∧ W.cell? ⟨ad.block, ad.off + 10, none⟩ = some (.slice o.rA o.rM o.rQ) ∧
    W.frozen? ⟨ad.block, ad.off + 1, none⟩ = false ∧ ad.block < W.heap.size ∧ w.heap.size ≤ ad.block := by
  subst e
  obtain ⟨hb, cur, hg⟩ := own_blk h.ow
  refine ⟨?_, ?_, hg.frozen _, hg.lt, hb⟩
  · show W.cell? ⟨g, 0 + 1, none⟩ = _
    exact (h.ow.cellAt (0 + 1) (by omega)).trans rfl
  · show W.cell? ⟨g, 0 + 10, none⟩ = _
    exact (h.ow.cellAt (0 + 10) (by omega)).trans rfl
theorem XS.rebase {w W : World} {o : ObjD} {R : Nat → RelD} {g c : Nat} (h : XS w o R (.slice (some ⟨g, 0, none⟩) 1 c) W) {ad : Addr} (e : ad = ⟨g, 0, none⟩) (b : Nat) : XS w { o with base := b } R (.slice (some ⟨g, 0, none⟩) 1 c) (W.setCell ⟨ad.block, ad.off + 1, none⟩ (.int .u64 b)) := by
  subst e
  obtain ⟨hb, cur, hg⟩ := own_blk h.ow
  refine ⟨h.bl.setCell hb _, ?_, owns_kept_set h.g hg (by decide) _, owns_kept_set h.s hg (by decide) _, owns_kept_set h.r hg (by decide) _⟩
  exact (h.ow.stored (0 + 1) (.int .u64 b)).1
def upd (R : Nat → RelD) (k : Nat) (r : RelD) (t : Nat) : RelD := if t = k then r else R t
/-- a relocation's cells -/
theorem XS.rel {w W : World} {o : ObjD} {R : Nat → RelD} {v : Value} (h : XS w o R v W) {k : Nat} (hk : k < o.rM) : ∃ adr g, o.rA = some adr ∧ adr = ⟨g, 0, none⟩ ∧ (adr.add (k * 4)).block < W.heap.size ∧ w.heap.size ≤ (adr.add (k * 4)).block ∧
    W.cell? (adr.add (k * 4)) = some (.int .u64 (R k).off) ∧ W.cell? ⟨(adr.add (k * 4)).block, (adr.add (k * 4)).off + 1, none⟩ = some (.int .u32 (R k).ty) ∧ W.cell? ⟨(adr.add (k * 4)).block, (adr.add (k * 4)).off + 2, none⟩ = some (.int .i64 (R k).sym) ∧
    (∀ l, W.frozen? ⟨(adr.add (k * 4)).block, (adr.add (k * 4)).off + l, none⟩ = false) := by
  obtain ⟨g, cap, hv, _, _⟩ := h.r.form (by omega)
  have ha : o.rA = some ⟨g, 0, none⟩ := by injection hv
  obtain ⟨adr, he, _, d0, d1, d2, _⟩ := rel_cells (str_ownG h.r (fun _ => rfl)) hk
  obtain rfl : adr = ⟨g, 0, none⟩ := by rw [ha] at he; exact (Option.some.inj he).symm
  have hr := h.r
  rw [ha] at hr
  obtain ⟨hb, cur, hg⟩ := own_blk hr
  have ee : (⟨g, 0, none⟩ : Addr).add (k * 4) = ⟨g, k * 4, none⟩ := by rw [Addr.add_mid, Nat.zero_add]
  refine ⟨_, g, ha, rfl, by rw [ee]; exact hg.lt, by rw [ee]; exact hb, d0, d1, d2, fun l => by rw [ee]; exact hg.frozen _⟩
theorem XS.set {w W : World} {o : ObjD} {R : Nat → RelD} {v : Value} (h : XS w o R v W) {k l : Nat} (hk : k < o.rM) (hl : l < 4) {adr : Addr} {g : Nat} (ha : o.rA = some adr) (he : adr = ⟨g, 0, none⟩) (r : RelD) (u : Value) (hr : r.cs = (R k).cs.setIfInBounds l u) : XS w o (upd R k r) v (W.setCell ⟨(adr.add (k * 4)).block, (adr.add (k * 4)).off + l, none⟩ u) := by
  subst he
  have ee : (⟨g, 0, none⟩ : Addr).add (k * 4) = ⟨g, k * 4, none⟩ := by rw [Addr.add_mid, Nat.zero_add]
  rw [ee]
  have hrr := h.r
  rw [ha] at hrr
  obtain ⟨hb, cur, hg⟩ := own_blk hrr
  refine ⟨h.bl.setCell hb _, owns_kept_set h.ow hg (by decide) _, owns_kept_set h.g hg (by decide) _, owns_kept_set h.s hg (by decide) _, ?_⟩
  rw [ha]
  have := (hrr.stored (k * 4 + l) u).1
  rw [flatG_set (sz := 4) (fun _ => rfl) hk hl] at this
  rw [flatG_congr (G := fun i => if i = k then (R i).cs.setIfInBounds l u else (R i).cs) o.rM fun i hi => ?_]
  · exact this
  · show (upd R k r i).cs = _
    unfold upd
    by_cases e : i = k
    · rw [if_pos e, if_pos e, hr, e]
    · rw [if_neg e, if_neg e]
def nilA (O : Nat → ObjD) (t : Nat) : ObjD := { O t with rA := none, rM := 0, rQ := 0 }
theorem nilO_A (O : Nat → ObjD) {n t : Nat} (h : t < n) : nilO O n t = nilA O t := by unfold nilO nilA; rw [if_pos h]
theorem flatG_cons (F : Nat → Array Value) : ∀ n, flatG F (n + 1) = (F 0).toList ++ flatG (fun i => F (i + 1)) n
  | 0 => by show [] ++ _ = _ ++ []; simp
  | n + 1 => by
    show flatG F (n + 1) ++ _ = _ ++ (flatG (fun i => F (i + 1)) n ++ _)
    rw [flatG_cons F n, List.append_assoc]
/-- one object and others behind it, in one row -/
theorem XS.joined {w1 w2 W W' : World} {yo : ObjD} {R : Nat → RelD} {OM : Nat → ObjD} {n cy c' : Nat} {vm : Value} {Ay A' : Option Addr} (hx : XS w1 yo R (.slice Ay 1 cy) W) (hn : NS w2 OM n n vm W)
    (ho : W'.ownsRow w1.heap.size 50 11 (.slice A' (1 + n) c') (1 + n) (yo.cs.toList ++ flatG (objF (nilO OM n)) n)) (hg : W.grownBy W' (Value.slice Ay 1 cy).ownBlock) : ObjR W' W'.heap.size A' (1 + n) (consO { yo with rl := R } (nilA OM)) := by
  have e : yo.cs.toList ++ flatG (objF (nilO OM n)) n = flatG (objF (consO { yo with rl := R } (nilA OM))) (1 + n) := by
    rw [Nat.add_comm 1 n, flatG_cons]
    show yo.cs.toList ++ _ = yo.cs.toList ++ flatG (fun i => (nilA OM i).cs) n
    rw [flatG_congr (F := objF (nilO OM n)) (G := fun i => (nilA OM i).cs) n fun i hi => by show (nilO OM n i).cs = _; rw [nilO_A OM hi]]
  rw [e] at ho
  refine ⟨str_ownG ho (fun _ => rfl), fun i hi => ?_, fun i hi => ?_, fun i hi => ?_, owns_len ho⟩
  · cases i with
    | zero => exact ⟨str_ownG (owns_apart hx.g hx.ow (by decide) hg) (fun _ => rfl), owns_len hx.g⟩
    | succ i => exact ⟨str_ownG (owns_apart (hn.gs i (by omega)) hx.ow (by decide) hg) (fun _ => rfl), owns_len (hn.gs i (by omega))⟩
  · cases i with
    | zero => exact ⟨str_ownG (owns_apart hx.s hx.ow (by decide) hg) (fun _ => rfl), owns_len hx.s⟩
    | succ i => exact ⟨str_ownG (owns_apart (hn.ss i (by omega)) hx.ow (by decide) hg) (fun _ => rfl), owns_len (hn.ss i (by omega))⟩
  · cases i with
    | zero => exact ⟨str_ownG (owns_apart hx.r hx.ow (by decide) hg) (fun _ => rfl), owns_len hx.r⟩
    | succ i => exact ⟨fun h => absurd h (by show ¬ 0 < 0; omega), Nat.zero_le _⟩
end Go.Proofs.Ytlenjpgkmikgpaa
