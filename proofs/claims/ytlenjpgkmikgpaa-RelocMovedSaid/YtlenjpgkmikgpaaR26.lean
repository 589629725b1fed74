import Derived.Test.YtlenjpgkmikgpaaR23
namespace Go.Proofs.Ytlenjpgkmikgpaa
open Go.RowKit Go.Shelf Go.Hos
set_option linter.unusedVariables false
/-! an object that lies farther: plain -/
def fixR (r : RelD) : RelD := { r with sym := 0, ty := if r.ty = 2 then 1 else r.ty }
theorem fixR_ty (r : RelD) : (fixR r).ty ≠ 2 := by unfold fixR; dsimp only; split <;> omega
theorem fixR_fits {r : RelD} (h : r.fits) : (fixR r).fits := ⟨h.1, by show (-9223372036854775808 : Int) ≤ 0; omega, by show (0 : Int) ≤ 9223372036854775807; omega⟩
theorem u64_wrap (x : Int) : IntKind.u64.wrap x = x % (M : Int) := by
  rw [show (M : Int) = 18446744073709551616 by unfold M Lay.M; rfl]
  simp [IntKind.wrap, IntKind.bits, IntKind.signed]
theorem wrap_move (a b c : Int) : IntKind.u64.wrap (IntKind.u64.wrap (a + c) + b) = IntKind.u64.wrap (IntKind.u64.wrap (a + b) + c) := by
  simp only [u64_wrap]
  rw [Int.emod_add_emod, Int.emod_add_emod]
  congr 1
  omega
/-- a relocation without a symbol -/
theorem one_free {O : Nat → ObjD} {m i : Nat} {r : RelD} (hs : r.sym = 0) (ht : r.ty ≠ 2) : oneP O m i r = if decide (szR r.ty = 0) || !lyB (O i).lay r.off (szR r.ty) then (patZ, 22) else (⟨addrP O i r, szR r.ty, if r.ty = 1 then sumP 0 r.add else if r.ty = 8 then sumP (O i).base r.add else 0⟩, 0) := by
  have hb : badP O i r = (decide (szR r.ty = 0) || !lyB (O i).lay r.off (szR r.ty)) := by
    unfold badP
    rw [hs, decide_eq_false (by omega : ¬ (0 : Int) < 0), decide_eq_false (by omega : ¬ ((O i).sM : Int) < 0), Bool.or_false, Bool.or_false]
  have hy : symP O m i r = (0, 0) := by unfold symP; rw [if_pos (.inl hs)]
  unfold oneP
  rw [hb, hy]
  split
  · rfl
  · rw [if_neg (by simp)]
    unfold valP
    by_cases h1 : r.ty = 1
    · rw [if_pos h1, if_pos h1]
    · rw [if_neg h1, if_neg ht, if_neg h1]
      by_cases h8 : r.ty = 8
      · rw [if_pos h8, if_pos h8]
      · rw [if_neg h8, if_neg h8]
/-- one object ahead of others -/
def consO (o : ObjD) (O : Nat → ObjD) : Nat → ObjD
  | 0 => o
  | i + 1 => O i
/-- so much farther -/
structure Moved (far : Int) (o o' : ObjD) : Prop where
  base : (o'.base : Int) = IntKind.u64.wrap ((o.base : Int) + far)
  rM : o'.rM = o.rM
  rl : o'.rl = o.rl
  sM : o'.sM = o.sM
  lay : ∀ a b, lyB o'.lay a b = lyB o.lay a b
  right : Lay.rightB o'.lay = Lay.rightB o.lay
theorem Moved.okR {far : Int} {o o' : ObjD} (h : Moved far o o') : okR o' = okR o := by unfold Ytlenjpgkmikgpaa.okR; rw [h.right, h.rM, h.sM]
/-- the same patch, so much farther -/
structure PatM (far : Int) (ty : Nat) (p q : PatD) : Prop where
  at_ : q.at_ = IntKind.u64.wrap (p.at_ + far)
  size : q.size = p.size
  v : q.v = if ty = 8 then IntKind.u64.wrap (p.v + far) else p.v
theorem one_moved {far : Int} {o o' : ObjD} (h : Moved far o o') (X : Nat → ObjD) (hX : X 0 = o) (Y : Nat → ObjD) (hY : Y 0 = o') (m m' : Nat) {r : RelD} (hs : r.sym = 0) (ht : r.ty ≠ 2) :
    (oneP Y m' 0 r).2 = (oneP X m 0 r).2 ∧ ((oneP X m 0 r).2 = 0 → PatM far r.ty (oneP X m 0 r).1 (oneP Y m' 0 r).1) := by
  rw [one_free hs ht, one_free hs ht, hX, hY, h.lay]
  by_cases hc : (decide (szR r.ty = 0) || !lyB o.lay r.off (szR r.ty)) = true
  · rw [if_pos hc, if_pos hc]
    exact ⟨rfl, fun e => absurd e (by decide)⟩
  · rw [if_neg hc, if_neg hc]
    refine ⟨rfl, fun _ => ⟨?_, rfl, ?_⟩⟩
    · show IntKind.u64.wrap (((Y 0).base : Int) + r.off) = IntKind.u64.wrap (IntKind.u64.wrap (((X 0).base : Int) + r.off) + far)
      rw [hX, hY, h.base, wrap_move]
    · dsimp only
      by_cases h1 : r.ty = 1
      · rw [if_pos h1, if_pos h1, if_neg (by omega)]
      · rw [if_neg h1, if_neg h1]
        by_cases h8 : r.ty = 8
        · rw [if_pos h8, if_pos h8, if_pos h8]
          unfold sumP
          rw [h.base, wrap_move]
        · rw [if_neg h8, if_neg h8, if_neg h8]
theorem erO_front {Y : Nat → ObjD} {m : Nat} (h0 : ∀ i, (Y (i + 1)).rM = 0) : ∀ n, erO Y m (n + 1) = erI Y m 0 (Y 0).rM
  | 0 => by show (if (0 : Int) = 0 then _ else _) = _; rw [if_pos rfl]
  | n + 1 => by
    show (if erO Y m (n + 1) = 0 then erI Y m (n + 1) (Y (n + 1)).rM else erO Y m (n + 1)) = _
    rw [h0 n, erO_front h0 n]
    split
    · rename_i e; exact e.symm
    · rfl
theorem ptO_front {Y : Nat → ObjD} {m : Nat} (h0 : ∀ i, (Y (i + 1)).rM = 0) : ∀ n, ptO Y m (n + 1) = ptI Y m 0 (Y 0).rM
  | 0 => rfl
  | n + 1 => by
    show ptO Y m (n + 1) ++ ptI Y m (n + 1) (Y (n + 1)).rM = _
    rw [h0 n, ptO_front h0 n]
    exact List.append_nil _
theorem erI_free {O : Nat → ObjD} {m i : Nat} (h : ∀ k, ((O i).rl k).sym = 0 ∧ ((O i).rl k).ty ≠ 2) : ∀ n, erI O m i n = 0 ∨ erI O m i n = 22
  | 0 => .inl rfl
  | n + 1 => by
    show (if erI O m i n = 0 then eP O m i n else _) = 0 ∨ (if erI O m i n = 0 then eP O m i n else _) = 22
    split
    · unfold eP
      rw [one_free (h n).1 (h n).2]
      split
      · exact .inr rfl
      · exact .inl rfl
    · exact erI_free h n
theorem erI_moved {far : Int} {o o' : ObjD} (h : Moved far o o') (X : Nat → ObjD) (hX : X 0 = o) (Y : Nat → ObjD) (hY : Y 0 = o') (m m' : Nat) (hf : ∀ k, (o.rl k).sym = 0 ∧ (o.rl k).ty ≠ 2) : ∀ n, erI Y m' 0 n = erI X m 0 n
  | 0 => rfl
  | n + 1 => by
    show (if erI Y m' 0 n = 0 then eP Y m' 0 n else erI Y m' 0 n) = (if erI X m 0 n = 0 then eP X m 0 n else erI X m 0 n)
    rw [erI_moved h X hX Y hY m m' hf n, show eP Y m' 0 n = eP X m 0 n from by
      unfold eP; rw [hX, hY, h.rl]; exact (one_moved h X hX Y hY m m' (hf n).1 (hf n).2).1]
/-- the law in the plain -/
theorem moved_law {far : Int} {o o' : ObjD} (h : Moved far o o') (hf : ∀ k, (o.rl k).sym = 0 ∧ (o.rl k).ty ≠ 2) (Y : Nat → ObjD) (hY : Y 0 = o') (h0 : ∀ i, (Y (i + 1)).rM = 0) (n : Nat) (hn : n ≤ 8) (hc : ¬ (patE Y (1 + n) = 1 ∧ 0 < n)) :
    patE Y (1 + n) = patE (fun _ => o) 1 ∧ numP Y (1 + n) = numP (fun _ => o) 1 ∧ (patE (fun _ => o) 1 = 0 → numP (fun _ => o) 1 = o.rM) ∧ ∀ k, k < numP (fun _ => o) 1 → PatM far (o.rl k).ty (patF (fun _ => o) 1 k) (patF Y (1 + n) k) := by
  have eX : ∀ j, erI (fun _ => o) 1 0 j = erI Y (1 + n) 0 j := fun j => (erI_moved h (fun _ => o) rfl Y hY 1 (1 + n) hf j).symm
  have oX : erO (fun _ => o) 1 1 = erI (fun _ => o) 1 0 o.rM := by show (if (0 : Int) = 0 then _ else _) = _; rw [if_pos rfl]
  have pX : ptO (fun _ => o) 1 1 = ptI (fun _ => o) 1 0 o.rM := rfl
  have oY : erO Y (1 + n) (1 + n) = erI Y (1 + n) 0 o.rM := by rw [Nat.add_comm 1 n, erO_front h0 n, hY, h.rM]
  have pY : ptO Y (1 + n) (1 + n) = ptI Y (1 + n) 0 o.rM := by rw [Nat.add_comm 1 n, ptO_front h0 n, hY, h.rM]
  have hY0 : okR (Y 0) = okR o := by rw [hY]; exact h.okR
  have hE : patE Y (1 + n) = patE (fun _ => o) 1 := by
    by_cases hok : okAll Y (1 + n) = true
    · have ho : okR o = true := by rw [← hY0]; exact okAll_at hok (by omega)
      have e1 : patE Y (1 + n) = erI Y (1 + n) 0 o.rM := by unfold patE; rw [hok, if_pos (by simp; omega), oY]
      have e2 : patE (fun _ => o) 1 = erI (fun _ => o) 1 0 o.rM := by
        unfold patE
        rw [if_pos (by show ((true && okR o) && _) = true; rw [ho]; rfl), oX]
      rw [e1, e2, eX]
    · have e1 : patE Y (1 + n) = 1 := by unfold patE; rw [if_neg (by simp [hok])]
      have hn0 : n = 0 := by
        by_cases e : n = 0
        · exact e
        · exact absurd ⟨e1, by omega⟩ hc
      subst hn0
      have ho : okR o = false := by
        have : okAll Y (1 + 0) = (true && okR (Y 0)) := rfl
        rw [this, hY0] at hok
        simpa using hok
      have e2 : patE (fun _ => o) 1 = 1 := by
        unfold patE
        rw [if_neg (by show ¬ ((true && okR o) && _) = true; rw [ho]; simp)]
      rw [e1, e2]
  have hN : numP Y (1 + n) = numP (fun _ => o) 1 := by unfold numP; rw [hE, pX, pY, ptI_len, ptI_len]
  refine ⟨hE, hN, fun e => by unfold numP; rw [if_pos e, pX, ptI_len], fun k hk => ?_⟩
  have hE0 : patE (fun _ => o) 1 = 0 := by
    by_cases e : patE (fun _ => o) 1 = 0
    · exact e
    · unfold numP at hk; rw [if_neg e] at hk; exact absurd hk (Nat.not_lt_zero _)
  have hk2 : k < o.rM := by unfold numP at hk; rw [if_pos hE0, pX, ptI_len] at hk; exact hk
  have f1 : patF (fun _ => o) 1 k = (oneP (fun _ => o) 1 0 (o.rl k)).1 := by
    unfold patF; rw [pX, List.getD_eq_getElem?_getD, ptI_get _ _ _ _ _ hk2]; rfl
  have f2 : patF Y (1 + n) k = (oneP Y (1 + n) 0 (o.rl k)).1 := by
    unfold patF; rw [pY, List.getD_eq_getElem?_getD, ptI_get _ _ _ _ _ hk2, hY, h.rl]; rfl
  rw [f1, f2]
  refine (one_moved h (fun _ => o) rfl Y hY 1 (1 + n) (hf k).1 (hf k).2).2 ?_
  have := erO_zero (O := fun _ => o) (m := 1) (n := 1) (i := 0) (patE_ok hE0).2.2 (by omega)
  exact erI_zero this hk2
/-! one object of the law's own: its cells, its relocations -/
structure XS (w : World) (o : ObjD) (R : Nat → RelD) (v : Value) (W : World) : Prop where
  bl : Below w.heap.size w W
  ow : W.ownsRow w.heap.size 50 11 v 1 o.cs.toList
  g : W.ownsRow w.heap.size 67 6 (.slice o.gA o.gM o.gQ) o.gM (flatG (segF o) o.gM)
  s : W.ownsRow w.heap.size 61 5 (.slice o.sA o.sM o.sQ) o.sM (flatG (symF o) o.sM)
  r : W.ownsRow w.heap.size 53 4 (.slice o.rA o.rM o.rQ) o.rM (flatG (fun t => (R t).cs) o.rM)
theorem XS.next {w W W' : World} {o : ObjD} {R : Nat → RelD} {v : Value} (h : XS w o R v W) (hb : Below W.heap.size W W') : XS w o R v W' :=
  ⟨h.bl.trans (hb.mono h.bl.size), owns_below h.ow hb, owns_below h.g hb, owns_below h.s hb, owns_below h.r hb⟩
theorem XS.congr {w W : World} {o : ObjD} {R F : Nat → RelD} {v : Value} (h : XS w o R v W) (hR : ∀ t, t < o.rM → R t = F t) : XS w o F v W :=
  ⟨h.bl, h.ow, h.g, h.s, by rw [← flatG_congr (F := fun t => (R t).cs) (G := fun t => (F t).cs) o.rM fun t ht => by show (R t).cs = (F t).cs; rw [hR t ht]]; exact h.r⟩
theorem TWS.xs {w W : World} {O O' : Nat → ObjD} {v : Value} (h : TWS w O O' 1 v W) : XS w (O' 0) (O' 0).rl v W :=
  ⟨h.bl, h.ow, (h.cp 0 (by omega)).g, (h.cp 0 (by omega)).s, (h.cp 0 (by omega)).r⟩
theorem XS.objs {w W : World} {o : ObjD} {R : Nat → RelD} {A : Option Addr} {c : Nat} (h : XS w o R (.slice A 1 c) W) : ObjR W W.heap.size A 1 (fun _ => { o with rl := R }) :=
  ⟨str_ownG (F := fun _ => o.cs) (n := 1) h.ow (fun _ => rfl), fun i hi => ⟨str_ownG h.g (fun _ => rfl), owns_len h.g⟩, fun i hi => ⟨str_ownG h.s (fun _ => rfl), owns_len h.s⟩, fun i hi => ⟨str_ownG h.r (fun _ => rfl), owns_len h.r⟩, by simp [maxLen]⟩
theorem XS.addr {w W : World} {o : ObjD} {R : Nat → RelD} {A : Option Addr} {c : Nat} (h : XS w o R (.slice A 1 c) W) : ∃ g, A = some ⟨g, 0, none⟩ := by
  obtain ⟨g, cap, hv, _, _⟩ := h.ow.form (by omega)
  exact ⟨g, by injection hv⟩
theorem XS.at_ {w W : World} {o : ObjD} {R : Nat → RelD} {g c : Nat} (h : XS w o R (.slice (some ⟨g, 0, none⟩) 1 c) W) {ad : Addr} (e : ad = ⟨g, 0, none⟩) : W.cell? ⟨ad.block, ad.off + 1, none⟩ = some (.int .u64 o.base) ∧ W.cell? ⟨ad.block, ad.off + 10, none⟩ = some (.slice o.rA o.rM o.rQ) ∧
    W.frozen? ⟨ad.block, ad.off + 1, none⟩ = false ∧ ad.block < W.heap.size ∧ w.heap.size ≤ ad.block := by
  subst e
  obtain ⟨hb, cur, hg⟩ := own_blk h.ow
  refine ⟨?_, ?_, hg.frozen _, hg.lt, hb⟩
  · show W.cell? ⟨g, 0 + 1, none⟩ = _
    exact (h.ow.cellAt (0 + 1) (by omega)).trans rfl
  · show W.cell? ⟨g, 0 + 10, none⟩ = _
    exact (h.ow.cellAt (0 + 10) (by omega)).trans rfl
theorem XS.rebase {w W : World} {o : ObjD} {R : Nat → RelD} {g c : Nat} (h : XS w o R (.slice (some ⟨g, 0, none⟩) 1 c) W) {ad : Addr} (e : ad = ⟨g, 0, none⟩) (b : Nat) : XS w { o with base := b } R (.slice (some ⟨g, 0, none⟩) 1 c) (W.setCell ⟨ad.block, ad.off + 1, none⟩ (.int .u64 b)) := by
  subst e
  obtain ⟨hb, cur, hg⟩ := own_blk h.ow
  refine ⟨h.bl.setCell hb _, ?_, owns_kept_set h.g hg (by decide) _, owns_kept_set h.s hg (by decide) _, owns_kept_set h.r hg (by decide) _⟩
  exact (h.ow.stored (0 + 1) (.int .u64 b)).1
def upd (R : Nat → RelD) (k : Nat) (r : RelD) (t : Nat) : RelD := if t = k then r else R t
/-- a relocation's cells -/
theorem XS.rel {w W : World} {o : ObjD} {R : Nat → RelD} {v : Value} (h : XS w o R v W) {k : Nat} (hk : k < o.rM) : ∃ adr g, o.rA = some adr ∧ adr = ⟨g, 0, none⟩ ∧ (adr.add (k * 4)).block < W.heap.size ∧ w.heap.size ≤ (adr.add (k * 4)).block ∧
    W.cell? (adr.add (k * 4)) = some (.int .u64 (R k).off) ∧ W.cell? ⟨(adr.add (k * 4)).block, (adr.add (k * 4)).off + 1, none⟩ = some (.int .u32 (R k).ty) ∧ W.cell? ⟨(adr.add (k * 4)).block, (adr.add (k * 4)).off + 2, none⟩ = some (.int .i64 (R k).sym) ∧
    (∀ l, W.frozen? ⟨(adr.add (k * 4)).block, (adr.add (k * 4)).off + l, none⟩ = false) := by
  obtain ⟨g, cap, hv, _, _⟩ := h.r.form (by omega)
  have ha : o.rA = some ⟨g, 0, none⟩ := by injection hv
  obtain ⟨adr, he, _, d0, d1, d2, _⟩ := rel_cells (str_ownG h.r (fun _ => rfl)) hk
  obtain rfl : adr = ⟨g, 0, none⟩ := by rw [ha] at he; exact (Option.some.inj he).symm
  have hr := h.r
  rw [ha] at hr
  obtain ⟨hb, cur, hg⟩ := own_blk hr
  have ee : (⟨g, 0, none⟩ : Addr).add (k * 4) = ⟨g, k * 4, none⟩ := by rw [Addr.add_mid, Nat.zero_add]
  refine ⟨_, g, ha, rfl, by rw [ee]; exact hg.lt, by rw [ee]; exact hb, d0, d1, d2, fun l => by rw [ee]; exact hg.frozen _⟩
theorem XS.set {w W : World} {o : ObjD} {R : Nat → RelD} {v : Value} (h : XS w o R v W) {k l : Nat} (hk : k < o.rM) (hl : l < 4) {adr : Addr} {g : Nat} (ha : o.rA = some adr) (he : adr = ⟨g, 0, none⟩) (r : RelD) (u : Value) (hr : r.cs = (R k).cs.setIfInBounds l u) : XS w o (upd R k r) v (W.setCell ⟨(adr.add (k * 4)).block, (adr.add (k * 4)).off + l, none⟩ u) := by
  subst he
  have ee : (⟨g, 0, none⟩ : Addr).add (k * 4) = ⟨g, k * 4, none⟩ := by rw [Addr.add_mid, Nat.zero_add]
  rw [ee]
  have hrr := h.r
  rw [ha] at hrr
  obtain ⟨hb, cur, hg⟩ := own_blk hrr
  refine ⟨h.bl.setCell hb _, owns_kept_set h.ow hg (by decide) _, owns_kept_set h.g hg (by decide) _, owns_kept_set h.s hg (by decide) _, ?_⟩
  rw [ha]
  have := (hrr.stored (k * 4 + l) u).1
  rw [flatG_set (sz := 4) (fun _ => rfl) hk hl] at this
  rw [flatG_congr (G := fun i => if i = k then (R i).cs.setIfInBounds l u else (R i).cs) o.rM fun i hi => ?_]
  · exact this
  · show (upd R k r i).cs = _
    unfold upd
    by_cases e : i = k
    · rw [if_pos e, if_pos e, hr, e]
    · rw [if_neg e, if_neg e]
def nilA (O : Nat → ObjD) (t : Nat) : ObjD := { O t with rA := none, rM := 0, rQ := 0 }
theorem nilO_A (O : Nat → ObjD) {n t : Nat} (h : t < n) : nilO O n t = nilA O t := by unfold nilO nilA; rw [if_pos h]
theorem flatG_cons (F : Nat → Array Value) : ∀ n, flatG F (n + 1) = (F 0).toList ++ flatG (fun i => F (i + 1)) n
  | 0 => by show [] ++ _ = _ ++ []; simp
  | n + 1 => by
    show flatG F (n + 1) ++ _ = _ ++ (flatG (fun i => F (i + 1)) n ++ _)
    rw [flatG_cons F n, List.append_assoc]
/-- one object and others behind it, in one row -/
theorem XS.joined {w1 w2 W W' : World} {yo : ObjD} {R : Nat → RelD} {OM : Nat → ObjD} {n cy c' : Nat} {vm : Value} {Ay A' : Option Addr} (hx : XS w1 yo R (.slice Ay 1 cy) W) (hn : NS w2 OM n n vm W)
    (ho : W'.ownsRow w1.heap.size 50 11 (.slice A' (1 + n) c') (1 + n) (yo.cs.toList ++ flatG (objF (nilO OM n)) n)) (hg : W.grownBy W' (Value.slice Ay 1 cy).ownBlock) : ObjR W' W'.heap.size A' (1 + n) (consO { yo with rl := R } (nilA OM)) := by
  have e : yo.cs.toList ++ flatG (objF (nilO OM n)) n = flatG (objF (consO { yo with rl := R } (nilA OM))) (1 + n) := by
    rw [Nat.add_comm 1 n, flatG_cons]
    show yo.cs.toList ++ _ = yo.cs.toList ++ flatG (fun i => (nilA OM i).cs) n
    rw [flatG_congr (F := objF (nilO OM n)) (G := fun i => (nilA OM i).cs) n fun i hi => by show (nilO OM n i).cs = _; rw [nilO_A OM hi]]
  rw [e] at ho
  refine ⟨str_ownG ho (fun _ => rfl), fun i hi => ?_, fun i hi => ?_, fun i hi => ?_, owns_len ho⟩
  · cases i with
    | zero => exact ⟨str_ownG (owns_apart hx.g hx.ow (by decide) hg) (fun _ => rfl), owns_len hx.g⟩
    | succ i => exact ⟨str_ownG (owns_apart (hn.gs i (by omega)) hx.ow (by decide) hg) (fun _ => rfl), owns_len (hn.gs i (by omega))⟩
  · cases i with
    | zero => exact ⟨str_ownG (owns_apart hx.s hx.ow (by decide) hg) (fun _ => rfl), owns_len hx.s⟩
    | succ i => exact ⟨str_ownG (owns_apart (hn.ss i (by omega)) hx.ow (by decide) hg) (fun _ => rfl), owns_len (hn.ss i (by omega))⟩
  · cases i with
    | zero => exact ⟨str_ownG (owns_apart hx.r hx.ow (by decide) hg) (fun _ => rfl), owns_len hx.r⟩
    | succ i => exact ⟨fun h => absurd h (by show ¬ 0 < 0; omega), Nat.zero_le _⟩
/-! the walk of RelocMoved -/
theorem SameD.ok {o o' : ObjD} (h : SameD o o') (hk : o.ok) : o'.ok := by
  obtain ⟨_, _, _, _, _, _, rfl⟩ := h; exact ⟨hk.sg, hk.nm, hk.rl, hk.base⟩
theorem SameD.room {o o' : ObjD} (h : SameD o o') (hk : o.room) : o'.room := by
  obtain ⟨_, _, _, _, _, _, rfl⟩ := h; exact ⟨hk.g, hk.s, hk.r⟩
theorem numP_le (o : ObjD) : numP (fun _ => o) 1 ≤ o.rM := by
  unfold numP
  split
  · show (ptI (fun _ => o) 1 0 o.rM).length ≤ _; rw [ptI_len]; exact Nat.le_refl _
  · exact Nat.zero_le _
def fixO (o : ObjD) : ObjD := { o with rl := fun t => fixR (o.rl t) }
theorem fixO_ok {o : ObjD} (h : o.ok) : (fixO o).ok := ⟨h.sg, h.nm, fun k => fixR_fits (h.rl k), h.base⟩
theorem fixO_room {o : ObjD} (h : o.room) : (fixO o).room := ⟨h.g, h.s, h.r⟩
theorem objF_one (O : Nat → ObjD) : ∀ n, ∀ u ∈ flatG (objF O) n, u.oneCell' = true := flatG_one fun i u hu => by
  simp only [objF, ObjD.cs, List.mem_cons, List.not_mem_nil, or_false] at hu
  rcases hu with rfl | rfl | rfl | rfl | rfl | rfl | rfl | rfl | rfl | rfl | rfl <;> rfl
/-- the list with the moved object in front -/
theorem cons_fits {o : ObjD} {OM : Nat → ObjD} (h : o.ok) (hm : ∀ i, (OM i).ok) : (∀ i k, ((consO o (nilA OM) i).sg k).fits) ∧ fitsR (consO o (nilA OM)) := by
  refine ⟨fun i k => ?_, fun i k => ?_⟩
  · cases i with
    | zero => exact h.sg k
    | succ i => exact (hm i).sg k
  · cases i with
    | zero => exact h.rl k
    | succ i => exact (hm i).rl k
theorem SameD.moved {far : Int} {o o' : ObjD} (h : SameD o o') (b : Nat) (hb : (b : Int) = IntKind.u64.wrap ((o.base : Int) + far)) : Moved far o { o' with base := b } := by
  obtain ⟨_, _, _, _, _, _, rfl⟩ := h
  exact ⟨hb, rfl, rfl, rfl, fun _ _ => rfl, rfl⟩
set_option maxRecDepth 100000 in
set_option maxHeartbeats 16000000 in
theorem law6_any (o : ObjD) (far : Nat) (A2 : Option Addr) (m2 c2 : Nat) (O2 : Nat → ObjD) (w : World) (hk : o.ok) (hz : o.room) (hS : Lay.StR w w.heap.size 6 o.gA o.gM (Lay.segC o.sg)) (hY : Lay.StR w w.heap.size 5 o.sA o.sM (fun k => (o.sy k).cs)) (hR : Lay.StR w w.heap.size 4 o.rA o.rM (fun k => (o.rl k).cs))
    (hfar : far < 4294967296) (hr2 : ObjR w w.heap.size A2 m2 O2) (hk2 : ∀ i, (O2 i).ok) (hz2 : ∀ i, (O2 i).room) :
    Calls Try.prog 6 #[.agg o.cs, .int .u32 far, .slice A2 m2 c2] w fun e W' => e = .returned (.bool true) ∧ Below w.heap.size w W' := by
  have hmm : maxLen = 9223372036854775807 := by simp [maxLen]
  have hmx : 140737488355328 ≤ maxLen := by omega
  have wf : IntKind.u64.wrap (far : Int) = (far : Int) := Lay.wrap_small (by unfold Lay.M; omega)
  obtain ⟨i0, hi0, hz0, hz1, hz2'⟩ := info_parts info50
  have V1 : Hid (∀ (W : World) g, Below w.heap.size w W → Blk W g 50 o.cs → ObjR W W.heap.size (some ⟨g, 0, none⟩) 1 (fun _ => o)) := Lib.hid fun W g hb hg =>
    ⟨str_one hg hg.lt, fun i hi => ⟨(hS.below hb).more hb.size, by have := hz.g; omega⟩, fun i hi => ⟨(hY.below hb).more hb.size, by have := hz.s; omega⟩, fun i hi => ⟨(hR.below hb).more hb.size, by have := hz.r; omega⟩, by simp [maxLen]⟩
  have H2 := Lib.hid hr2; have HK := Lib.hid hk; have HZ := Lib.hid hz; have HK2 := Lib.hid hk2; have HZ2 := Lib.hid hz2
  have VC : Hid (∀ (W : World) g, Below w.heap.size w W → Blk W g 50 o.cs → Calls Try.prog 7 #[.slice (some ⟨g, 0, none⟩) 1 1] W (VaP W 1)) := Lib.hid fun W g hb hg => vast_any _ 1 1 (fun _ => o) W (V1.out W g hb hg) fun i k => HK.out.nm k
  have VC2 : Hid (∀ (W : World), Below w.heap.size w W → Calls Try.prog 7 #[.slice A2 m2 c2] W (VaP W m2)) := Lib.hid fun W hb => vast_any _ m2 c2 O2 W ((H2.out.below hb).more hb.size) fun i k => (HK2.out i).nm k
  have TC : Hid (∀ (W : World) g, Below w.heap.size w W → Blk W g 50 o.cs → Calls Try.prog 9 #[.slice (some ⟨g, 0, none⟩) 1 1] W fun e W' => ∃ A' c' O', e = .returned (.slice A' 1 c') ∧ TWS W (fun _ => o) O' 1 (.slice A' 1 c') W') := Lib.hid fun W g hb hg => twins_any _ 1 1 (fun _ => o) W (V1.out W g hb hg) (by omega) fun _ => HZ.out
  have hm2 := hr2.len
  obtain ⟨oc, hoc⟩ : ∃ x, x = o.cs := ⟨_, rfl⟩
  have HOC := Lib.hid hoc
  rw [← hoc] at VC TC ⊢
  have hocs : oc = #[.int .i64 o.ino, .int .u64 o.base, .int .u16 o.ty, .int .u64 o.en, .int .u64 o.ph, .slice o.gA o.gM o.gQ, .slice o.nA o.nM o.nQ, .string o.so, .string o.rn, .slice o.sA o.sM o.sQ, .slice o.rA o.rM o.rQ] := by rw [hoc]; rfl
  have HOCS := Lib.hid hocs
  obtain ⟨W1, hW1⟩ : ∃ W, W = w.alloc (.cells oc 50) := ⟨_, rfl⟩
  have B1 : Hid (Below w.heap.size w W1) := by rw [hW1]; exact Lib.hid ((Below.refl _ _).alloc (Nat.le_refl _) _)
  have K1 : Hid (Blk W1 w.heap.size 50 oc) := by rw [hW1]; exact Lib.hid (Blk.new _ _ _)
  rw [hocs] at hW1 ⊢
  have HW1 := Lib.hid hW1
  obtain ⟨bx, hbx⟩ : ∃ b, b = w.heap.size := ⟨_, rfl⟩
  have CELLS : Hid (∀ W : World, Blk W w.heap.size 50 oc → W.cell? ⟨w.heap.size, 0, none⟩ = some (.int .i64 o.ino) ∧ W.cell? ⟨w.heap.size, 1, none⟩ = some (.int .u64 o.base) ∧ W.cell? ⟨w.heap.size, 2, none⟩ = some (.int .u16 o.ty) ∧ W.cell? ⟨w.heap.size, 3, none⟩ = some (.int .u64 o.en) ∧ W.cell? ⟨w.heap.size, 4, none⟩ = some (.int .u64 o.ph) ∧ W.cell? ⟨w.heap.size, 5, none⟩ = some (.slice o.gA o.gM o.gQ) ∧
      W.cell? ⟨w.heap.size, 6, none⟩ = some (.slice o.nA o.nM o.nQ) ∧ W.cell? ⟨w.heap.size, 7, none⟩ = some (.string o.so) ∧ W.cell? ⟨w.heap.size, 8, none⟩ = some (.string o.rn) ∧ W.cell? ⟨w.heap.size, 9, none⟩ = some (.slice o.sA o.sM o.sQ) ∧ W.cell? ⟨w.heap.size, 10, none⟩ = some (.slice o.rA o.rM o.rQ)) := Lib.hid fun W h => by
    rw [hocs] at h
    exact ⟨(h.cell 0).trans rfl, (h.cell 1).trans rfl, (h.cell 2).trans rfl, (h.cell 3).trans rfl, (h.cell 4).trans rfl, (h.cell 5).trans rfl, (h.cell 6).trans rfl, (h.cell 7).trans rfl, (h.cell 8).trans rfl, (h.cell 9).trans rfl, (h.cell 10).trans rfl⟩
  clear hk hz hS hY hR hr2 hk2 hz2 V1 hoc hocs hW1
  generalize o.ino = o0 at *
  generalize o.base = o1 at *
  generalize o.ty = o2 at *
  generalize o.en = o3 at *
  generalize o.ph = o4 at *
  generalize o.gA = o5 at *
  generalize o.gM = o6 at *
  generalize o.gQ = o7 at *
  generalize o.nA = o8 at *
  generalize o.nM = o9 at *
  generalize o.nQ = o10 at *
  generalize o.so = o11 at *
  generalize o.rn = o12 at *
  generalize o.sA = o13 at *
  generalize o.sM = o14 at *
  generalize o.sQ = o15 at *
  generalize o.rA = o16 at *
  generalize o.rM = o17 at *
  generalize o.rQ = o18 at *
  go_enter Try.func6, Try.ntmps6
  go_upto_region 1 with fail
  rw [← HW1.out]
  obtain ⟨k0, k1, k2, k3, k4, k5, k6, k7, k8, k9, k10⟩ := CELLS.out _ K1.out
  have lk := K1.out.lt
  obtain ⟨W2, hW2⟩ : ∃ W, W = W1.alloc (.cells oc 50) := ⟨_, rfl⟩
  have B2 : Hid (Below w.heap.size w W2) := by rw [hW2]; exact Lib.hid (B1.out.alloc B1.out.size _)
  have K2 : Hid (Blk W2 w.heap.size 50 oc) := by rw [hW2]; exact Lib.hid (K1.out.alloc _)
  have KN : Hid (Blk W2 W1.heap.size 50 oc) := by rw [hW2]; exact Lib.hid (Blk.new _ _ _)
  rw [HOCS.out] at hW2
  have HW2 := Lib.hid hW2
  clear hW2 HW1
  go_wp2_with fail
  rw [← HW2.out]
  refine (VC.out W2 _ B2.out KN.out).mono ?_
  rintro e W3 ⟨b3, v1, rfl, _⟩
  have B3 := Lib.hid (B2.out.trans (b3.mono B2.out.size))
  have K3 := Lib.hid (K2.out.below b3 K2.out.lt)
  clear b3 k0 k1 k2 k3 k4 k5 k6 k7 k8 k9 k10 lk HW2 KN K2 B2 K1 B1 VC
  cases v1 with
  | true =>
    go_wp2_with fail
    refine (works_any _).mono ?_
    rintro e Wz ⟨rfl, bz⟩
    have BZ := Lib.hid ((B3.out).trans (bz.mono (B3.out).size))
    clear bz
    go_wp2_with fail
    go_ret
    exact ⟨rfl, BZ.out⟩
  | false =>
    go_wp2_with fail
    refine (VC2.out W3 B3.out).mono ?_
    rintro e W4 ⟨b4, v2, rfl, _⟩
    have B4 := Lib.hid (B3.out.trans (b4.mono B3.out.size))
    have K4 := Lib.hid (K3.out.below b4 K3.out.lt)
    clear b4 B3 K3 VC2
    cases v2 with
    | true =>
      go_wp2_with fail
      refine (works_any _).mono ?_
      rintro e Wz ⟨rfl, bz⟩
      have BZ := Lib.hid ((B4.out).trans (bz.mono (B4.out).size))
      clear bz
      go_wp2_with fail
      go_ret
      exact ⟨rfl, BZ.out⟩
    | false =>
      by_cases hm8 : m2 ≤ 8
      · have t8 : decide ((8 : Int) < (m2 : Int)) = false := by simp; omega
        obtain ⟨k0, k1, k2, k3, k4, k5, k6, k7, k8, k9, k10⟩ := CELLS.out _ K4.out
        have lk := K4.out.lt
        obtain ⟨W5, hW5⟩ : ∃ W, W = W4.alloc (.cells oc 50) := ⟨_, rfl⟩
        have B5 : Hid (Below w.heap.size w W5) := by rw [hW5]; exact Lib.hid (B4.out.alloc B4.out.size _)
        have KN : Hid (Blk W5 W4.heap.size 50 oc) := by rw [hW5]; exact Lib.hid (Blk.new _ _ _)
        rw [HOCS.out] at hW5
        have HW5 := Lib.hid hW5
        clear hW5
        go_wp2_with fail
        rw [← HW5.out]
        refine (TC.out W5 _ B5.out KN.out).mono ?_
        rintro e W6 ⟨A7, c7, OX, rfl, tw⟩
        have X6 := Lib.hid tw.xs
        have SX := Lib.hid (show SameD o (OX 0) from tw.al 0)
        obtain ⟨gx, rfl⟩ := X6.out.addr
        clear tw k0 k1 k2 k3 k4 k5 k6 k7 k8 k9 k10 lk HW5 KN K4 CELLS TC HOCS HOC t8 B4
        generalize OX 0 = xo at X6 SX
        have HKX := Lib.hid (SX.out.ok HK.out)
        have HZX := Lib.hid (SX.out.room HZ.out)
        have hrm := X6.out.r
        have hrml := owns_len hrm
        clear hrm
        obtain ⟨rM, hrM⟩ : ∃ x, x = xo.rM := ⟨_, rfl⟩
        have HRM := Lib.hid hrM
        rw [← hrM] at hrml
        clear hrM
        obtain ⟨adx, hadx⟩ : ∃ x, x = (⟨gx, 0, none⟩ : Addr) := ⟨_, rfl⟩
        rw [← hadx]
        have HADX := Lib.hid hadx
        clear hadx
        go_wp2_with fail
        go_loopw [8] (fun v8 wr => ∃ j : Nat, j ≤ rM ∧ v8 = .int .i64 j ∧ Hid (∃ R, XS W5 xo R (.slice (some ⟨gx, 0, none⟩) 1 c7) wr ∧ ∀ t, R t = if t < j then fixR (xo.rl t) else xo.rl t)) (fun v8 _ => rM - (intOf v8).toNat)
        case atStart => exact ⟨0, Nat.zero_le _, rfl, Lib.hid ⟨_, X6.out, fun t => by rw [if_neg (by omega)]⟩⟩
        case round =>
          clear X6
          obtain ⟨j, hj, rfl, hxs⟩ := hrel
          obtain ⟨R, xs, hR⟩ := hxs.out
          have XR := Lib.hid xs; have HR := Lib.hid hR
          clear hxs hR xs
          obtain ⟨_, c10, _, lx, _⟩ := XR.out.at_ HADX.out
          by_cases hjr : j < rM
          · have e1 : decide ((j : Int) < (rM : Int)) = true := by simp; omega
            have e2 : (j : Int) < (rM : Int) := by omega
            obtain ⟨adr, gr, har, hadr, lr, _, d0, d1, d2, df⟩ := XR.out.rel (k := j) (by rw [← HRM.out]; exact hjr)
            obtain ⟨W7, hW7⟩ : ∃ W, W = wr.setCell ⟨(adr.add (j * 4)).block, (adr.add (j * 4)).off + 2, none⟩ (.int .i64 0) := ⟨_, rfl⟩
            have X7 := Lib.hid (XR.out.set (k := j) (l := 2) (by rw [← HRM.out]; exact hjr) (by omega) har hadr { R j with sym := 0 } (.int .i64 0) rfl)
            rw [← hW7] at X7
            have HW7 := Lib.hid hW7
            have RJ := Lib.hid (show R j = xo.rl j by rw [HR.out, if_neg (by omega)])
            have hrm' := HRM.out
            rw [har, ← hrm'] at c10
            have HAR := Lib.hid har; have HADR := Lib.hid hadr
            clear hW7 har hadr hrm' d0
            go_upto_region 8 with fail
            rw [← HW7.out]
            clear c10 d1 d2 df lx lr HW7 XR
            obtain ⟨_, c10, _, lx, _⟩ := X7.out.at_ HADX.out
            obtain ⟨adr', gr', har', hadr', lr, _, d0, d1, d2, df⟩ := X7.out.rel (k := j) (by rw [← HRM.out]; exact hjr)
            obtain rfl : adr' = adr := by rw [HAR.out] at har'; exact (Option.some.inj har').symm
            have hrm' := HRM.out
            rw [HAR.out, ← hrm'] at c10
            rw [show (upd R j { R j with sym := 0 } j) = { R j with sym := 0 } from if_pos rfl] at d1
            dsimp only at d1
            by_cases h2 : (R j).ty = 2
            · rw [h2] at d1
              have X8 := Lib.hid (X7.out.set (k := j) (l := 1) (by rw [← HRM.out]; exact hjr) (by omega) har' hadr' (fixR (xo.rl j)) (.int .u32 1) (by
                rw [show (upd R j { R j with sym := 0 } j) = { R j with sym := 0 } from if_pos rfl, ← RJ.out]
                unfold fixR
                rw [if_pos h2]
                rfl))
              have RN : Hid (∀ t, upd (upd R j { R j with sym := 0 }) j (fixR (xo.rl j)) t = if t < j + 1 then fixR (xo.rl t) else xo.rl t) := Lib.hid fun t => by
                unfold upd
                by_cases e : t = j
                · rw [if_pos e, if_pos (by omega), e]
                · rw [if_neg e, if_neg e, HR.out]
                  by_cases e2 : t < j
                  · rw [if_pos e2, if_pos (by omega)]
                  · rw [if_neg e2, if_neg (by omega)]
              clear h2 har' hadr' d0 d2 hrm' RJ HR X7
              go_wp2_with fail
              go_roundw
              case rel => exact ⟨j + 1, by omega, by go_num, Lib.hid ⟨_, X8.out, RN.out⟩⟩
              case measure => simp [intOf]; omega
            · have q2 : (((R j).ty : Int) == 2) = false := by simp; omega
              have RN : Hid (∀ t, upd R j { R j with sym := 0 } t = if t < j + 1 then fixR (xo.rl t) else xo.rl t) := Lib.hid fun t => by
                unfold upd
                by_cases e : t = j
                · rw [if_pos e, if_pos (by omega), e, ← RJ.out]
                  unfold fixR
                  rw [if_neg h2]
                · rw [if_neg e, HR.out]
                  by_cases e2 : t < j
                  · rw [if_pos e2, if_pos (by omega)]
                  · rw [if_neg e2, if_neg (by omega)]
              generalize (R j).ty = ty at d1 q2
              clear h2 har' hadr' d0 d2 hrm' RJ HR
              go_wp2_with fail
              go_roundw
              case rel => exact ⟨j + 1, by omega, by go_num, Lib.hid ⟨_, X7.out, RN.out⟩⟩
              case measure => simp [intOf]; omega
          · obtain rfl : rM = j := by omega
            have e1 : decide ((rM : Int) < (rM : Int)) = false := by simp
            have hrm' := HRM.out
            rw [← hrm'] at c10
            have XF := Lib.hid (XR.out.congr (F := fun t => fixR (xo.rl t)) fun t ht => by rw [HR.out, if_pos (by rw [HRM.out]; exact ht)])
            clear hrm' XR HR hjr hj
            generalize wr = W7 at *
            go_wp2_with fail
            have RX := Lib.hid (show ObjR W7 W7.heap.size (some adx) 1 (fun _ => fixO xo) by rw [HADX.out]; exact XF.out.objs)
            have OKF := Lib.hid (fixO_ok HKX.out)
            have ROF := Lib.hid (fixO_room HZX.out)
            obtain ⟨E, hE⟩ : ∃ E, E = patE (fun _ => fixO xo) 1 := ⟨_, rfl⟩
            obtain ⟨N, hN⟩ : ∃ N, N = numP (fun _ => fixO xo) 1 := ⟨_, rfl⟩
            obtain ⟨PA, hPA⟩ : ∃ P, P = patF (fun _ => fixO xo) 1 := ⟨_, rfl⟩
            have hNR : N ≤ rM := by rw [hN, HRM.out]; exact numP_le (fixO xo)
            have ROW : Hid (∀ (w W' : World) e, PaP w (fun _ => fixO xo) 1 e W' → ∃ A c, e = .returned (.tuple #[.slice A N c, .int .i64 E]) ∧ Lay.StR W' W'.heap.size 3 A N (fun k => (PA k).cs) ∧ N ≤ maxLen ∧ Below w.heap.size w W') := Lib.hid fun w W' e h => by rw [hE, hN, hPA]; exact h.rows
            have HE := Lib.hid hE; have HN := Lib.hid hN; have HPA := Lib.hid hPA
            clear hE hN hPA
            refine (patches_any (some adx) 1 c7 (fun _ => fixO xo) W7 RX.out (fun _ => OKF.out.sg) (fun _ => OKF.out.rl)).mono ?_
            rintro e W8 hp
            obtain ⟨A9, c9, rfl, s9, hNl, b8⟩ := ROW.out _ _ _ hp
            have S9 := Lib.hid s9
            have X8 := Lib.hid (XF.out.next b8)
            have R8 := Lib.hid ((RX.out.below b8).more b8.size)
            have B8 := Lib.hid (B5.out.trans (X8.out.bl.mono B5.out.size))
            clear hp s9 b8 XF RX ROW c10 lx e1
            go_wp2_with fail
            refine (twins_any (some adx) 1 c7 (fun _ => fixO xo) W8 R8.out (by omega) (fun _ => ROF.out)).mono ?_
            rintro e W9 ⟨A11, c11, OY, rfl, tw⟩
            have Y9 := Lib.hid tw.xs
            have SY := Lib.hid (show SameD (fixO xo) (OY 0) from tw.al 0)
            obtain ⟨gy, rfl⟩ := Y9.out.addr
            clear tw
            generalize OY 0 = yo at Y9 SY
            obtain ⟨ady, hady⟩ : ∃ x, x = (⟨gy, 0, none⟩ : Addr) := ⟨_, rfl⟩
            rw [← hady]
            have HADY := Lib.hid hady
            clear hady
            obtain ⟨cy1, _, fy1, ly, _⟩ := Y9.out.at_ HADY.out
            obtain ⟨b, hb⟩ : ∃ b : Nat, IntKind.u64.wrap ((yo.base : Int) + (far : Int)) = (b : Int) := ⟨(IntKind.u64.wrap ((yo.base : Int) + (far : Int))).toNat, (Int.toNat_of_nonneg (by rw [u64_wrap]; exact Int.emod_nonneg _ (by unfold M Lay.M; decide))).symm⟩
            have HB := Lib.hid hb
            obtain ⟨W10, hW10⟩ : ∃ W, W = W9.setCell ⟨ady.block, ady.off + 1, none⟩ (.int .u64 b) := ⟨_, rfl⟩
            have Y10 := Lib.hid (Y9.out.rebase HADY.out b)
            rw [← hW10] at Y10
            have HW10 := Lib.hid hW10
            clear hW10
            generalize yo.base = yb at cy1 hb
            go_upto_region 13 with fail
            rw [← HW10.out]
            clear cy1 fy1 ly hb HW10 Y9
            have B10 := Lib.hid (B8.out.trans (Y10.out.bl.mono B8.out.size))
            have HM8 := Lib.hid (show m2 ≤ 20 by omega)
            go_wp2_with fail
            refine (twins_any A2 m2 c2 O2 W10 ((H2.out.below B10.out).more B10.out.size) HM8.out HZ2.out).mono ?_
            rintro e W11 ⟨A12, c12, OM, rfl, tw⟩
            have N0 := Lib.hid tw.ns
            have OKM := Lib.hid (fun i => (tw.al i).ok (HK2.out i))
            clear tw
            go_wp2_with fail
            go_loopw [13] (fun v13 wr => ∃ j : Nat, j ≤ m2 ∧ v13 = .int .i64 j ∧ Hid (NS W10 OM m2 j (.slice A12 m2 c12) wr)) (fun v13 _ => m2 - (intOf v13).toNat)
            case atStart => exact ⟨0, Nat.zero_le _, rfl, N0⟩
            case round =>
              clear N0
              obtain ⟨j, hj, rfl, ns⟩ := hrel
              by_cases hjm : j < m2
              · have e1 : decide ((j : Int) < (m2 : Int)) = true := by simp; omega
                have e2 : (j : Int) < (m2 : Int) := by omega
                obtain ⟨gm, cap, hva, _, _⟩ := ns.out.ow.form (by omega)
                obtain rfl : A12 = some ⟨gm, 0, none⟩ := by injection hva
                obtain ⟨adm, hadm⟩ : ∃ x, x = (⟨gm, 0, none⟩ : Addr) := ⟨_, rfl⟩
                obtain ⟨⟨u, hu⟩, hfz, hpe, hlt, _⟩ := ns.out.at_ hadm hjm
                have NX := Lib.hid (ns.out.store hjm)
                rw [← hpe, ← hadm] at NX
                rw [← hadm]
                clear hva hadm hpe
                go_wp2_with fail
                go_roundw
                case rel => exact ⟨j + 1, by omega, by go_num, NX⟩
                case measure => simp [intOf]; omega
              · obtain rfl : m2 = j := by omega
                have e1 : decide ((m2 : Int) < (m2 : Int)) = false := by simp
                have Y12 := Lib.hid (Y10.out.next ns.out.bl)
                generalize wr = W12 at *
                obtain ⟨xs, hxs⟩ : ∃ x, x = flatG (objF (nilO OM m2)) m2 := ⟨_, rfl⟩
                obtain ⟨ycs, hycs⟩ : ∃ x, x = ({ yo with base := b } : ObjD).cs.toList := ⟨_, rfl⟩
                have RDM : Hid (Reads W12 W12.heap.size 11 A12 m2 xs) := Lib.hid (by rw [hxs]; exact Reads.of_own ns.out.ow)
                have X1 : Hid (∀ u ∈ xs, u.oneCell' = true) := Lib.hid (by rw [hxs]; exact objF_one _ _)
                have OWY : Hid (W12.ownsRow W8.heap.size 50 11 (.slice (some ady) 1 c11) 1 ycs) := Lib.hid (by rw [hycs, HADY.out]; exact Y12.out.ow)
                obtain ⟨Y, hYY⟩ : ∃ Y, Y = consO { yo with base := b } (nilA OM) := ⟨_, rfl⟩
                have JN : Hid (∀ v' W', W'.ownsRow W8.heap.size 50 11 v' (1 + m2) (ycs ++ xs) → W12.grownBy W' (Value.slice (some ady) 1 c11).ownBlock → ∃ A' c', v' = .slice A' (1 + m2) c' ∧ ObjR W' W'.heap.size A' (1 + m2) Y ∧ Below W8.heap.size W8 W') := Lib.hid fun v' W' ho hg => by
                  obtain ⟨A', c', rfl⟩ := ownsRow_val ho
                  rw [hxs, hycs] at ho
                  rw [HADY.out] at hg
                  refine ⟨A', c', rfl, by rw [hYY]; exact XS.joined Y12.out ns.out ho hg, Y12.out.bl.trans (below_own hg Y12.out.bl.size fun k hk => (Y12.out.ow.lt k hk).1)⟩
                have hz8 := Y12.out.bl.size
                obtain ⟨E', hE'⟩ : ∃ E, E = patE Y (1 + m2) := ⟨_, rfl⟩
                obtain ⟨N', hN'⟩ : ∃ N, N = numP Y (1 + m2) := ⟨_, rfl⟩
                obtain ⟨PB, hPB⟩ : ∃ P, P = patF Y (1 + m2) := ⟨_, rfl⟩
                have ROW : Hid (∀ (w W' : World) e, PaP w Y (1 + m2) e W' → ∃ A c, e = .returned (.tuple #[.slice A N' c, .int .i64 E']) ∧ Lay.StR W' W'.heap.size 3 A N' (fun k => (PB k).cs) ∧ N' ≤ maxLen ∧ Below w.heap.size w W') := Lib.hid fun w W' e h => by rw [hE', hN', hPB]; exact h.rows
                have FY := Lib.hid (show (∀ i k, ((Y i).sg k).fits) ∧ fitsR Y by
                  rw [hYY]
                  refine cons_fits ?_ OKM.out
                  have := SY.out.ok OKF.out
                  exact ⟨this.sg, this.nm, this.rl, by
                    show b < M
                    have hw := HB.out
                    rw [u64_wrap] at hw
                    have := Int.emod_lt_of_pos ((yo.base : Int) + (far : Int)) (show (0 : Int) < (M : Int) by unfold M Lay.M; decide)
                    rw [hw] at this
                    exact Int.ofNat_lt.1 this⟩)
                have LAW : Hid (¬ (E' = 1 ∧ 0 < m2) → E' = E ∧ N' = N ∧ ∀ k, k < N → PatM far ((fixO xo).rl k).ty (PA k) (PB k)) := Lib.hid fun hc => by
                  rw [hE'] at hc ⊢
                  rw [hN', hPB, HE.out, HN.out, HPA.out]
                  obtain ⟨l1, l2, _, l4⟩ := moved_law (far := far) (o := fixO xo) (SY.out.moved b (by rw [← HB.out, SY.out.facts.1])) (fun k => ⟨rfl, fixR_ty _⟩) Y (by rw [hYY]; rfl) (fun i => by rw [hYY]; rfl) m2 hm8 hc
                  exact ⟨l1, l2, l4⟩
                have Z12 := Lib.hid (show W8.heap.size ≤ W12.heap.size from hz8)
                clear hxs hycs hYY hE' hN' hPB Y10 Y12 ns hjm hj
                go_wp2_with (at_builtin; refine wpList_append_any _ rfl (.tmp 101) (.tmp 102) _ rfl W8.heap.size 50 i0 _ 11 168 Try.underlying22 hi0 hz0 hz1 hz2' rfl (by omega) (.slice (some ady) 1 c11) 1 ycs rfl OWY.out W12.heap.size A12 m2 c12 xs rfl RDM.out X1.out (by simp only [maxLen]; omega) (by omega) hz8 ?_; intro v4 W13 hown hg hat; obtain ⟨A14, c14, rfl, JO, BJ⟩ := JN.out _ _ hown hg; clear hown hg hat)
                have JO' := Lib.hid JO
                have BJ' := Lib.hid BJ
                clear JO BJ RDM X1 OWY JN hz8
                refine (patches_any A14 (1 + m2) c14 Y W13 JO'.out FY.out.1 FY.out.2).mono ?_
                rintro e W14 hp
                obtain ⟨A15, c15, rfl, s15, _, b14⟩ := ROW.out _ _ _ hp
                have S15 := Lib.hid s15
                have B14 := Lib.hid (BJ'.out.trans (b14.mono BJ'.out.size))
                have S9' := Lib.hid ((S9.out.below B14.out).more B14.out.size)
                have X14 := Lib.hid (X8.out.next B14.out)
                have BW := Lib.hid (B8.out.trans (B14.out.mono B8.out.size))
                clear hp s15 b14 ROW JO' BJ' S9 X8 B14 B8 B10 FY e1
                have hcs : (E' = 1 ∧ 0 < m2) ∨ ¬ (E' = 1 ∧ 0 < m2) := Classical.em _
                rcases hcs with ⟨h1, h2⟩ | hcs
                · have t1 : (E' == 1) = true := by simp [h1]
                  have t2 : decide ((0 : Int) < (m2 : Int)) = true := by simp; omega
                  have t2n : decide (0 < m2) = true := by simp; omega
                  clear h1 h2
                  go_wp2_with fail
                  refine (works_any _).mono ?_
                  rintro e Wz ⟨rfl, bz⟩
                  have BZ := Lib.hid ((BW.out).trans (bz.mono (BW.out).size))
                  clear bz
                  go_wp2_with fail
                  go_ret
                  exact ⟨rfl, BZ.out⟩
                · have hbs : (E' == 1) = false ∨ ((E' == 1) = true ∧ decide ((0 : Int) < (m2 : Int)) = false ∧ decide (0 < m2) = false) := by
                    by_cases h1 : E' = 1
                    · have h2 : ¬ 0 < m2 := fun h => hcs ⟨h1, h⟩
                      exact .inr ⟨by simp [h1], by simp; omega, by simp; omega⟩
                    · exact .inl (by simp [h1])
                  obtain ⟨hEE, hNN, hPP⟩ := LAW.out hcs
                  have HP := Lib.hid hPP
                  clear hPP hcs LAW
                  subst hEE hNN
                  have t3 : (E' != E') = false := by simp
                  have t4 : ((N' : Int) != (N' : Int)) = false := by simp
                  rcases hbs with t1 | ⟨t1, t2, t2n⟩
                  all_goals
                    go_wp2_with fail
                    go_loopw [16] (fun v16 wr => ∃ k p : Nat, k ≤ N' ∧ v16 = .int .i64 k ∧ wr = W14.drewN p) (fun v16 _ => N' - (intOf v16).toNat)
                    case atStart => exact ⟨0, 0, Nat.zero_le _, rfl, rfl⟩
                    case round =>
                      obtain ⟨k, p, hk, rfl, rfl⟩ := hrel
                      by_cases hkn : k < N'
                      · have e1 : decide ((k : Int) < (N' : Int)) = true := by simp; omega
                        have e2 : (k : Int) < (N' : Int) := by omega
                        obtain ⟨ada, rfl, _, a0, a1, a2⟩ := pat_cells S9'.out hkn
                        obtain ⟨adb, rfl, _, b0, b1, b2⟩ := pat_cells S15.out hkn
                        obtain ⟨_, c10, _, lx, _⟩ := X14.out.at_ HADX.out
                        obtain ⟨adr, gr, har, hadr, lr, _, d0, d1, d2, df⟩ := X14.out.rel (k := k) (by rw [← HRM.out]; omega)
                        have hrm' := HRM.out
                        rw [har, ← hrm'] at c10
                        have e3 : (k : Int) < (rM : Int) := by omega
                        obtain ⟨m1, mm2, m3⟩ := HP.out k hkn
                        rw [show ((fixO xo).rl k).ty = (fixR (xo.rl k)).ty from rfl] at m3
                        generalize (fixR (xo.rl k)).ty = ty at d1 m3
                        generalize PA k = pa at a0 a1 a2 m1 mm2 m3
                        generalize PB k = pb at b0 b1 b2 m1 mm2 m3
                        obtain ⟨pa0, pa1, pa2⟩ := pa
                        obtain ⟨pb0, pb1, pb2⟩ := pb
                        dsimp only at a0 a1 a2 b0 b1 b2 m1 mm2 m3
                        subst mm2
                        have w1 := m1.symm
                        have u1 : (pb0 != pb0) = false := by simp
                        have u2 : (pb1 != pb1) = false := by simp
                        have u3 : (pb2 != pb2) = false := by simp
                        clear d0 d2 df har hadr hrm' m1
                        by_cases h8 : ty = 8
                        · have q8 : ((ty : Int) == 8) = true := by simp; omega
                          rw [if_pos h8] at m3
                          have w2 := m3.symm
                          clear h8 m3
                          go_wp2_with fail
                          go_quiet (fail)
                          go_wp2_with fail
                          go_roundw
                          case rel => exact ⟨k + 1, _, by omega, by go_num, by first | rfl | exact drewN_drewN _ _ _⟩
                          case measure => simp [intOf]; omega
                        · have q8 : ((ty : Int) == 8) = false := by simp; omega
                          rw [if_neg h8] at m3
                          subst m3
                          clear h8
                          go_wp2_with fail
                          go_quiet (fail)
                          go_wp2_with fail
                          go_roundw
                          case rel => exact ⟨k + 1, _, by omega, by go_num, by first | rfl | exact drewN_drewN _ _ _⟩
                          case measure => simp [intOf]; omega
                      · obtain rfl : k = N' := by omega
                        have e1 : decide ((k : Int) < (k : Int)) = false := by simp
                        go_wp2_with fail
                        refine (works_any _).mono ?_
                        rintro e Wz ⟨rfl, bz⟩
                        have BZ := Lib.hid ((below_drewN BW.out p).trans (bz.mono (below_drewN BW.out p).size))
                        clear bz
                        go_wp2_with fail
                        go_ret
                        exact ⟨rfl, BZ.out⟩
      · have t8 : decide ((8 : Int) < (m2 : Int)) = true := by simp; omega
        go_wp2_with fail
        refine (works_any _).mono ?_
        rintro e Wz ⟨rfl, bz⟩
        have BZ := Lib.hid ((B4.out).trans (bz.mono (B4.out).size))
        clear bz
        go_wp2_with fail
        go_ret
        exact ⟨rfl, BZ.out⟩
end Go.Proofs.Ytlenjpgkmikgpaa
