import Derived.Test.YtlenjpgkmikgpaaR21
import Derived.Test.YtlenjpgkmikgpaaR13
namespace Go.Proofs.Ytlenjpgkmikgpaa
open Go.RowKit Go.Shelf Go.Hos
set_option linter.unusedVariables false
/-! objects alike are told alike -/
def AlikeS (O O' : Nat → Sym.ObjD) : Prop := ∀ i, (O' i).sM = (O i).sM ∧ (O' i).sy = (O i).sy ∧ (O' i).base = (O i).base
theorem AlikeS.th {O O' : Nat → Sym.ObjD} (h : AlikeS O O') (m : Nat) (i k : Int) : Sym.thB O' m i k = Sym.thB O m i k := by unfold Sym.thB; rw [(h _).1]
theorem AlikeS.sv {O O' : Nat → Sym.ObjD} (h : AlikeS O O') (m : Nat) (i k : Int) : Sym.symV O' m i k = Sym.symV O m i k := by unfold Sym.symV; rw [h.th, (h _).2.1]
theorem AlikeS.vl {O O' : Nat → Sym.ObjD} (h : AlikeS O O') (m : Nat) (i k : Int) : Sym.vlV O' m i k = Sym.vlV O m i k := by unfold Sym.vlV; rw [h.th, (h _).2.1, (h _).2.2]
theorem AlikeS.dI {O O' : Nat → Sym.ObjD} (h : AlikeS O O') (i : Nat) : ∀ k, Sym.dfI O' i k = Sym.dfI O i k
  | 0 => rfl
  | k + 1 => by unfold Sym.dfI; rw [h.dI i k, (h i).2.1]
theorem AlikeS.dO {O O' : Nat → Sym.ObjD} (h : AlikeS O O') : ∀ m, Sym.dfO O' m = Sym.dfO O m
  | 0 => rfl
  | m + 1 => by unfold Sym.dfO; rw [h.dO m, h.dI, (h m).1]
theorem AlikeS.lk {O O' : Nat → Sym.ObjD} (h : AlikeS O O') (m : Nat) (nm : ByteArray) : Sym.lkO O' m nm = Sym.lkO O m nm := by
  unfold Sym.lkO
  rw [h.dO, show Sym.nmB O' nm = Sym.nmB O nm from funext fun x => by unfold Sym.nmB Sym.symA; rw [(h x.1).2.1]]
theorem AlikeS.of {O O' : Nat → Sym.ObjD} (h : AlikeS O O') (m : Nat) (i k : Int) : Sym.ofP O' m i k = Sym.ofP O m i k := by
  unfold Sym.ofP
  rw [h.th, h.sv, h.vl, h.lk]
  split
  · split
    · rfl
    · split
      · rw [h.vl]
      · rfl
  · rfl
def AlikeD (O O' : Nat → ObjD) : Prop := ∀ i, SameD (O i) (O' i)
theorem AlikeD.syms {O O' : Nat → ObjD} (h : AlikeD O O') : AlikeS (fun i => (O i).syms) (fun i => (O' i).syms) := fun i => by
  obtain ⟨_, _, _, _, _, _, e⟩ := h i
  show (O' i).syms.sM = _ ∧ (O' i).syms.sy = _ ∧ (O' i).syms.base = _
  rw [e]; exact ⟨rfl, rfl, rfl⟩
theorem SameD.facts {o o' : ObjD} (h : SameD o o') : o'.base = o.base ∧ o'.sM = o.sM ∧ o'.rM = o.rM ∧ o'.rl = o.rl ∧ o'.gM = o.gM ∧ o'.sg = o.sg ∧ o'.sy = o.sy ∧ (∀ a b, lyB o'.lay a b = lyB o.lay a b) ∧ okR o' = okR o := by
  obtain ⟨_, _, _, _, _, _, rfl⟩ := h
  exact ⟨rfl, rfl, rfl, rfl, rfl, rfl, rfl, fun _ _ => rfl, rfl⟩
theorem AlikeD.one {O O' : Nat → ObjD} (h : AlikeD O O') (m i : Nat) (r : RelD) : oneP O' m i r = oneP O m i r := by
  have hs : symP O' m i r = symP O m i r := by unfold symP; rw [h.syms.of]
  obtain ⟨f1, f2, f3, f4, _, _, _, f5, f6⟩ := (h i).facts
  have hb : badP O' i r = badP O i r := by unfold badP; rw [f5, f2]
  have ha : addrP O' i r = addrP O i r := by unfold addrP; rw [f1]
  have hv : ∀ s, valP O' i r s = valP O i r s := fun s => by unfold valP; rw [ha, f1]
  unfold oneP
  rw [hs, hb, hv, ha]
theorem AlikeD.erI {O O' : Nat → ObjD} (h : AlikeD O O') (m i : Nat) : ∀ k, erI O' m i k = erI O m i k
  | 0 => rfl
  | k + 1 => by
    show (if Ytlenjpgkmikgpaa.erI O' m i k = 0 then eP O' m i k else _) = (if Ytlenjpgkmikgpaa.erI O m i k = 0 then eP O m i k else _)
    rw [h.erI m i k, show eP O' m i k = eP O m i k by unfold eP; rw [h.one, (h i).facts.2.2.2.1]]
theorem AlikeD.ptI {O O' : Nat → ObjD} (h : AlikeD O O') (m i : Nat) : ∀ k, ptI O' m i k = ptI O m i k
  | 0 => rfl
  | k + 1 => by
    show Ytlenjpgkmikgpaa.ptI O' m i k ++ _ = Ytlenjpgkmikgpaa.ptI O m i k ++ _
    rw [h.ptI m i k, h.one, (h i).facts.2.2.2.1]
theorem AlikeD.erO {O O' : Nat → ObjD} (h : AlikeD O O') (m : Nat) : ∀ i, erO O' m i = erO O m i
  | 0 => rfl
  | i + 1 => by
    show (if Ytlenjpgkmikgpaa.erO O' m i = 0 then Ytlenjpgkmikgpaa.erI O' m i (O' i).rM else _) = (if Ytlenjpgkmikgpaa.erO O m i = 0 then Ytlenjpgkmikgpaa.erI O m i (O i).rM else _)
    rw [h.erO m i, h.erI, (h i).facts.2.2.1]
theorem AlikeD.ptO {O O' : Nat → ObjD} (h : AlikeD O O') (m : Nat) : ∀ i, ptO O' m i = ptO O m i
  | 0 => rfl
  | i + 1 => by
    show Ytlenjpgkmikgpaa.ptO O' m i ++ _ = Ytlenjpgkmikgpaa.ptO O m i ++ _
    rw [h.ptO m i, h.ptI, (h i).facts.2.2.1]
theorem AlikeD.ok {O O' : Nat → ObjD} (h : AlikeD O O') : ∀ n, okAll O' n = okAll O n
  | 0 => rfl
  | n + 1 => by unfold okAll; rw [h.ok n, (h n).facts.2.2.2.2.2.2.2.2]
theorem AlikeD.patE {O O' : Nat → ObjD} (h : AlikeD O O') (m : Nat) : patE O' m = patE O m := by unfold Ytlenjpgkmikgpaa.patE; rw [h.ok, h.erO]
/-- the patches as a function -/
noncomputable def patF (O : Nat → ObjD) (m : Nat) : Nat → PatD := fun k => (ptO O m m).getD k patZ
noncomputable def numP (O : Nat → ObjD) (m : Nat) : Nat := if patE O m = 0 then (ptO O m m).length else 0
theorem AlikeD.patF {O O' : Nat → ObjD} (h : AlikeD O O') (m : Nat) : patF O' m = patF O m := by unfold Ytlenjpgkmikgpaa.patF; rw [h.ptO]
theorem AlikeD.numP {O O' : Nat → ObjD} (h : AlikeD O O') (m : Nat) : numP O' m = numP O m := by unfold Ytlenjpgkmikgpaa.numP; rw [h.ptO, h.patE]
theorem flatP_getD (l : List PatD) : flatP l = flatG (fun k => (l.getD k patZ).cs) l.length := by
  suffices ∀ n, n ≤ l.length → flatP (l.take n) = flatG (fun k => (l.getD k patZ).cs) n by
    have := this l.length (Nat.le_refl _)
    rwa [List.take_length] at this
  intro n
  induction n with
  | zero => intro _; rfl
  | succ n ih =>
    intro h
    rw [List.take_succ_eq_append_getElem (by omega), flatP_snoc, ih (by omega)]
    show _ = flatG _ n ++ (l.getD n patZ).cs.toList
    rw [List.getD_eq_getElem?_getD, List.getElem?_eq_getElem (by omega)]
    rfl
theorem owns_len {W : World} {base e s n c : Nat} {A : Option Addr} {xs : List Value} (h : W.ownsRow base e s (.slice A n c) n xs) : n ≤ maxLen := by
  rcases h.2 with ⟨_, e⟩ | ⟨g, cap, cur, hv, hg, hb, h1, h2, _⟩
  · omega
  · omega
/-- what Patches answers, read -/
theorem PaP.rows {w W' : World} {O : Nat → ObjD} {m : Nat} {e : Ending} (h : PaP w O m e W') : ∃ A c, e = .returned (.tuple #[.slice A (numP O m) c, .int .i64 (patE O m)]) ∧ Lay.StR W' W'.heap.size 3 A (numP O m) (fun k => (patF O m k).cs) ∧ numP O m ≤ maxLen ∧ Below w.heap.size w W' := by
  obtain ⟨bl, A, n, c, he, h0, h1⟩ := h
  by_cases hE : patE O m = 0
  · obtain ⟨hn, ow⟩ := h1 hE
    have hN : numP O m = n := by unfold numP; rw [if_pos hE, hn]
    rw [hN]
    refine ⟨A, c, he, ?_, owns_len ow, bl⟩
    rw [flatP_getD, ← hn] at ow
    exact str_ownG ow (fun _ => rfl)
  · obtain rfl := h0 hE
    have hN : numP O m = 0 := by unfold numP; rw [if_neg hE]
    rw [hN]
    exact ⟨A, c, he, fun h => absurd h (by omega), Nat.zero_le _, bl⟩
theorem TWS.objs {w W : World} {O O' : Nat → ObjD} {m c : Nat} {A : Option Addr} (h : TWS w O O' m (.slice A m c) W) (hz : ∀ i, (O i).room) : ObjR W W.heap.size A m O' := by
  have hmx : 140737488355328 ≤ maxLen := by simp [maxLen]
  refine ⟨str_ownG h.ow (fun _ => rfl), fun i hi => ⟨str_ownG (h.cp i hi).g (fun _ => rfl), owns_len (h.cp i hi).g⟩, fun i hi => ⟨str_ownG (h.cp i hi).s (fun _ => rfl), owns_len (h.cp i hi).s⟩, fun i hi => ⟨str_ownG (h.cp i hi).r (fun _ => rfl), owns_len (h.cp i hi).r⟩, owns_len h.ow⟩
theorem TWS.sgf {w W : World} {O O' : Nat → ObjD} {m : Nat} {v : Value} (h : TWS w O O' m v W) (hk : ∀ i, (O i).ok) : (∀ i k, ((O' i).sg k).fits) ∧ fitsR O' := by
  refine ⟨fun i k => ?_, fun i k => ?_⟩
  · rw [(h.al i).facts.2.2.2.2.2.1]; exact (hk i).sg k
  · rw [(h.al i).facts.2.2.2.1]; exact (hk i).rl k
set_option maxRecDepth 100000 in
set_option maxHeartbeats 3200000 in
theorem law3_any (A : Option Addr) (m c : Nat) (O : Nat → ObjD) (w : World) (hR : ObjR w w.heap.size A m O) (hk : ∀ i, (O i).ok) (hz : ∀ i, (O i).room) :
    Calls Try.prog 3 #[.slice A m c] w fun e W' => e = .returned (.bool true) ∧ Below w.heap.size w W' := by
  have H := Lib.hid hR; have HK := Lib.hid hk; have HZ := Lib.hid hz
  clear hR hk hz
  go_enter Try.func3, Try.ntmps3
  go_wp2_with fail
  refine (vast_any A m c O w H.out fun i k => (HK.out i).nm k).mono ?_
  rintro e W1 ⟨b1, b, rfl, hb⟩
  have B1 := Lib.hid b1
  have HB := Lib.hid hb
  clear b1 hb
  cases b with
  | true =>
    go_wp2_with fail
    refine (works_any _).mono ?_
    rintro e W2 ⟨rfl, b2⟩
    have B2 := Lib.hid (B1.out.trans (b2.mono B1.out.size))
    clear b2
    go_wp2_with fail
    go_ret
    exact ⟨rfl, B2.out⟩
  | false =>
    have hm := HB.out rfl
    have HM := Lib.hid hm
    clear hm
    go_wp2_with fail
    refine (twins_any A m c O W1 ((H.out.below B1.out).more B1.out.size) HM.out HZ.out).mono ?_
    rintro e W2 ⟨A2, c2, O2, rfl, tw⟩
    have B2 := Lib.hid (B1.out.trans (tw.bl.mono B1.out.size))
    have R2 := Lib.hid (tw.objs HZ.out)
    have AL := Lib.hid (show AlikeD O O2 from tw.al)
    have HF := Lib.hid (tw.sgf HK.out)
    clear tw
    obtain ⟨E, hE⟩ : ∃ E, E = patE O m := ⟨_, rfl⟩
    obtain ⟨N, hN⟩ : ∃ N, N = numP O m := ⟨_, rfl⟩
    have ROW := Lib.hid (fun (w W' : World) e (h : PaP w O m e W') => h.rows)
    have ROW2 : Hid (∀ (w W' : World) e (h : PaP w O2 m e W'), ∃ A c, e = .returned (.tuple #[.slice A N c, .int .i64 E]) ∧ Lay.StR W' W'.heap.size 3 A N (fun k => (patF O m k).cs) ∧ N ≤ maxLen ∧ Below w.heap.size w W') := Lib.hid fun w W' e h => by
      have := h.rows
      rw [AL.out.numP, AL.out.patE, AL.out.patF, ← hE, ← hN] at this
      exact this
    rw [← hE, ← hN] at ROW
    clear hE hN
    go_wp2_with fail
    refine (patches_any A2 m c2 O2 W2 R2.out HF.out.1 HF.out.2).mono ?_
    rintro e W3 hp
    obtain ⟨A3, c3, rfl, s3, hNl, b3⟩ := ROW2.out _ _ _ hp
    have S3 := Lib.hid s3
    have B3 := Lib.hid (B2.out.trans (b3.mono B2.out.size))
    have R3 := Lib.hid ((R2.out.below b3).more b3.size)
    clear hp s3 b3 ROW2
    go_wp2_with fail
    refine (rpatches_any A m c O W3 ((H.out.below B3.out).more B3.out.size) (fun i => (HK.out i).sg) (fun i => (HK.out i).rl)).mono ?_
    rintro e W4 hp
    obtain ⟨A4, c4, rfl, s4, _, b4⟩ := ROW.out _ _ _ hp
    have S4 := Lib.hid s4
    have S3' := Lib.hid ((S3.out.below b4).more b4.size)
    have B4 := Lib.hid (B3.out.trans (b4.mono B3.out.size))
    have R4 := Lib.hid ((R3.out.below b4).more b4.size)
    have t1 : (E == E) = true := by simp
    clear hp s4 b4 ROW
    go_wp2_with fail
    refine (same_any A3 A4 N c3 c4 (patF O m) W4 S3'.out S4.out hNl).mono ?_
    rintro e W5 ⟨rfl, b5⟩
    have B5 := Lib.hid (B4.out.trans (b5.mono B4.out.size))
    have R5 := Lib.hid ((R4.out.below b5).more b5.size)
    clear b5
    go_wp2_with fail
    refine (kept_any A2 A m c2 c O2 O W5 R5.out ((H.out.below B5.out).more B5.out.size) (fun i => ?_)).mono ?_
    · obtain ⟨gA, gQ, sA, sQ, rA, rQ, e⟩ := AL.out i
      rw [e]; exact ⟨(O i).gA, (O i).gQ, (O i).sA, (O i).sQ, (O i).rA, (O i).rQ, rfl⟩
    rintro e W6 ⟨rfl, b6⟩
    have B6 := Lib.hid (B5.out.trans (b6.mono B5.out.size))
    clear b6
    go_wp2_with fail
    refine (works_any _).mono ?_
    rintro e W7 ⟨rfl, b7⟩
    have B7 := Lib.hid (B6.out.trans (b7.mono B6.out.size))
    clear b7
    go_wp2_with fail
    go_ret
    exact ⟨rfl, B7.out⟩
end Go.Proofs.Ytlenjpgkmikgpaa
