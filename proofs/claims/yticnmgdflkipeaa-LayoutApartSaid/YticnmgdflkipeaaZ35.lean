import Derived.Test.YticnmgdflkipeaaZ24
import Derived.Test.YticnmgdflkipeaaZ12
import Derived.Test.YticnmgdflkipeaaZ14
import Derived.Deep.RegionHeld3
namespace Go.Proofs.Yticnmgdflkipeaa
open Go.RowKit Go.Shelf Go.Hos
set_option linter.unusedVariables false
/-! the document's Pieces -/
structure RPJ (w : World) (cs : Array Value) (l : List SegD) (vl vp vw : Value) (ps : List PieceD) (ws : List WriteD) (W : World) : Prop where
  bo : Blk W w.heap.size 33 cs
  ol : W.ownsRow w.heap.size 56 6 vl l.length (flatS l)
  op : W.ownsRow w.heap.size 49 5 vp ps.length (flatL PieceD.cs ps)
  ow : W.ownsRow w.heap.size 52 2 vw ws.length (flatL WriteD.cs ws)
  wb : ∀ d ∈ ws, w.heap.size ≤ d.blk ∧ Blk W d.blk 5 (madeCells #[.int .u8 0] d.len)
  bl : Below w.heap.size w W
theorem RPJ.next {w W W' : World} {cs : Array Value} {l : List SegD} {vl vp vw : Value} {ps : List PieceD} {ws : List WriteD} (h : RPJ w cs l vl vp vw ps ws W) (hb : Below W.heap.size W W') : RPJ w cs l vl vp vw ps ws W' :=
  ⟨h.bo.below hb h.bo.lt, owns_below h.ol hb, owns_below h.op hb, owns_below h.ow hb, fun d hd => ⟨(h.wb d hd).1, (h.wb d hd).2.below hb (h.wb d hd).2.lt⟩, h.bl.trans (hb.mono h.bl.size)⟩
theorem RPJ.pushP {w W w1 : World} {cs : Array Value} {l : List SegD} {vl vp vw v' : Value} {ps : List PieceD} {ws : List WriteD} {p : PieceD} {tmp : Obj} (h : RPJ w cs l vl vp vw ps ws W)
    (hown : w1.ownsRow w.heap.size 49 5 v' (ps.length + 1) (flatL PieceD.cs ps ++ p.cs.toList)) (hg : (W.alloc tmp).grownBy w1 vp.ownBlock) : RPJ w cs l vl v' vw (ps ++ [p]) ws w1 := by
  have ho := h.op.alloc tmp
  refine ⟨(h.bo.alloc tmp).grown hg (not_blk (h.bo.alloc tmp) ho (by decide)), rows_apartZ h.ol h.op (by decide) hg, by rw [List.length_append, flatL_snoc]; exact hown, rows_apartZ h.ow h.op (by decide) hg, fun d hd => ⟨(h.wb d hd).1, ((h.wb d hd).2.alloc tmp).grown hg (not_blk ((h.wb d hd).2.alloc tmp) ho (by decide))⟩, ?_⟩
  exact (h.bl.alloc h.bl.size tmp).trans (below_own hg (by have := h.bl.size; simp; omega) fun k hk => by have := (ho.lt k hk).1; omega)
theorem RPJ.pushW {w W w1 : World} {cs : Array Value} {l : List SegD} {vl vp vw v' : Value} {ps : List PieceD} {ws : List WriteD} {d : WriteD} {tmp : Obj} (h : RPJ w cs l vl vp vw ps ws W)
    (hd0 : w.heap.size ≤ d.blk) (hd : Blk W d.blk 5 (madeCells #[.int .u8 0] d.len))
    (hown : w1.ownsRow w.heap.size 52 2 v' (ws.length + 1) (flatL WriteD.cs ws ++ d.cs.toList)) (hg : (W.alloc tmp).grownBy w1 vw.ownBlock) : RPJ w cs l vl vp v' ps (ws ++ [d]) w1 := by
  have ho := h.ow.alloc tmp
  have far : ∀ {g n : Nat}, Blk W g 5 (madeCells #[.int .u8 0] n) → Blk w1 g 5 (madeCells #[.int .u8 0] n) := fun {g n} hk => (hk.alloc tmp).grown hg (not_blk (hk.alloc tmp) ho (by decide))
  refine ⟨(h.bo.alloc tmp).grown hg (not_blk (h.bo.alloc tmp) ho (by decide)), rows_apartZ h.ol h.ow (by decide) hg, rows_apartZ h.op h.ow (by decide) hg, by rw [List.length_append, flatL_snoc]; exact hown, fun x hx => ?_, ?_⟩
  · rcases List.mem_append.1 hx with hx | hx
    · exact ⟨(h.wb x hx).1, far (h.wb x hx).2⟩
    · obtain rfl := List.mem_singleton.1 hx
      exact ⟨hd0, far hd⟩
  · exact (h.bl.alloc h.bl.size tmp).trans (below_own hg (by have := h.bl.size; simp; omega) fun k hk => by have := (ho.lt k hk).1; omega)
theorem blk_push {W w1 : World} {g : Nat} {t e : TypeId} {cs : Array Value} {b sz n : Nat} {v : Value} {xs : List Value} {tmp : Obj} (hk : Blk W g t cs) (ho : W.ownsRow b e sz v n xs) (hne : e ≠ t) (hg : (W.alloc tmp).grownBy w1 v.ownBlock) : Blk w1 g t cs :=
  (hk.alloc tmp).grown hg (not_blk (hk.alloc tmp) (ho.alloc tmp) hne)
/-- what the loop keeps -/
def RPI (w : World) (o : ObjD) (vl : Value) (i : Nat) (vp vw : Value) (W : World) : Prop :=
  ∃ np nw ws, RPJ w o.cs (lds o.sg o.gM) vl vp vw (pcL o.base o.ino ((lds o.sg o.gM).take i)) ws W ∧ ws.map WriteD.key = wrL o.base ((lds o.sg o.gM).take i) ∧ np = (pcL o.base o.ino ((lds o.sg o.gM).take i)).length ∧ nw = ws.length ∧ (∃ A c, vp = .slice A np c) ∧ (∃ A c, vw = .slice A nw c)
set_option maxRecDepth 100000 in
set_option maxHeartbeats 8000000 in
theorem rpieces_ok (o : ObjD) (w : World) (hS : StR w w.heap.size 6 o.gA o.gM (segC o.sg)) (hf : ∀ k, (o.sg k).fits) (hr : rightB o = true) (hb : o.base < M) (hal : o.base % 4096 = 0) (hl : liesB o = true) :
    Calls Try.prog 19 #[.agg o.cs] w (PiP w o) := by
  have hmm : maxLen = 9223372036854775807 := by simp [maxLen]
  have OKE := Lib.hid (show (rightB o && o.base % 4096 == 0 && liesB o) = true by rw [hr, hl, hal]; rfl)
  have HS := Lib.hid hS; have HF := Lib.hid hf; have HR := Lib.hid hr; have HL := Lib.hid hl; have HB := Lib.hid hb; have HAL := Lib.hid hal
  have RT : Hid (∀ W : World, StR W W.heap.size 6 o.gA o.gM (segC o.sg) → Calls Try.prog 13 #[.agg o.cs] W fun e W' => e = .returned (.bool true) ∧ Below W.heap.size W W') := Lib.hid fun W h => by
    have := rright_any o W h hf; rwa [hr] at this
  obtain ⟨x5, hx5⟩ : ∃ x, x = o.base + spanA o := ⟨_, rfl⟩
  obtain ⟨y5, hy5⟩ : ∃ x, x = o.base + spanZ o := ⟨_, rfl⟩
  have LT : Hid (∀ W : World, StR W W.heap.size 6 o.gA o.gM (segC o.sg) → Calls Try.prog 35 #[.agg o.cs] W fun e W' => e = .returned (.tuple #[.int .u64 x5, .int .u64 y5, .bool true]) ∧ Below W.heap.size W W') := Lib.hid fun W h => by rw [hx5, hy5]; exact rlies_yes o W h hf hr hb hl
  have hle : Hid (o.base + spanZ o ≤ 140737488355328) := Lib.hid (of_decide_eq_true hl)
  have hgm : o.gM ≤ 8 := (right_parts hr).2.1
  have LDT : Hid (∀ W : World, StR W W.heap.size 6 o.gA o.gM (segC o.sg) → Calls Try.prog 28 #[.agg o.cs] W fun e W' => ∃ A' c', e = .returned (.slice A' (lds o.sg o.gM).length c') ∧ W'.ownsRow W.heap.size 56 6 (.slice A' (lds o.sg o.gM).length c') (lds o.sg o.gM).length (flatS (lds o.sg o.gM)) ∧ Below W.heap.size W W') := Lib.hid fun W h => rloads_any o W h (by omega)
  have hnl : (lds o.sg o.gM).length ≤ 8 := by have := lds_len o.sg o.gM; omega
  have tr1 : (o.base : Int).tmod 4096 = 0 := by rw [Int.tmod_eq_emod_of_nonneg (by omega)]; omega
  have tr2 : (o.base : Int) % 4096 = 0 := by omega
  obtain ⟨w0, hw0⟩ : ∃ x, x = w.alloc (.cells o.cs 33) := ⟨_, rfl⟩
  have B0 : Hid (Below w.heap.size w w0) := by rw [hw0]; exact Lib.hid ((Below.refl _ _).alloc (Nat.le_refl _) _)
  have K0 : Hid (Blk w0 w.heap.size 33 o.cs) := by rw [hw0]; exact Lib.hid (Blk.new _ _ _)
  have HW0 := Lib.hid hw0
  obtain ⟨O0, hO0⟩ : ∃ x, x = o := ⟨_, rfl⟩
  rw [← hO0] at HS HF HR HL HB HAL RT LT LDT hle K0 OKE hnl ⊢
  have hcs : O0.cs = #[.int .i64 o.ino, .int .u64 o.base, .int .u16 o.ty, .int .u64 o.en, .int .u64 o.ph, .slice o.gA o.gM o.gQ, .slice o.nA o.nM o.nQ, .string o.so, .string o.rn, .slice o.sA o.sM o.sQ, .slice o.rA o.rM o.rQ] := by rw [hO0]; rfl
  have hOb : O0.base = o.base := by rw [hO0]
  have hOi : O0.ino = o.ino := by rw [hO0]
  obtain ⟨ino, base, ty, en, ph, gA, gM, gQ, nA, nM, nQ, so, rn, sA, sM, sQ, rA, rM, rQ, sg⟩ := o
  dsimp only at hcs tr1 tr2 hOb hOi
  rw [show (ObjD.mk ino base ty en ph gA gM gQ nA nM nQ so rn sA sM sQ rA rM rQ sg).cs = #[.int .i64 ino, .int .u64 base, .int .u16 ty, .int .u64 en, .int .u64 ph, .slice gA gM gQ, .slice nA nM nQ, .string so, .string rn, .slice sA sM sQ, .slice rA rM rQ] from rfl] at HW0
  have HCS := Lib.hid hcs; have HOB := Lib.hid hOb; have HOI := Lib.hid hOi
  rw [hcs]
  clear hS hf hr hl hb hal hw0 hO0 hcs hOb hOi hgm hx5 hy5
  go_enter Try.func19, Try.ntmps19
  go_wp2_with fail
  rw [← HW0.out, ← HCS.out]
  refine (RT.out w0 ((HS.out.below B0.out).more B0.out.size)).mono ?_
  rintro e w1 ⟨rfl, bl1⟩
  have B1 : Hid (Below w.heap.size w w1) := Lib.hid (B0.out.trans (bl1.mono B0.out.size))
  have K1 := Lib.hid (K0.out.below bl1 K0.out.lt)
  clear bl1
  have KC := K1.out
  rw [HCS.out] at KC
  have k0 := (KC.cell 0).trans rfl
  have k1 := (KC.cell 1).trans rfl
  have k2 := (KC.cell 2).trans rfl
  have k3 := (KC.cell 3).trans rfl
  have k4 := (KC.cell 4).trans rfl
  have k5 := (KC.cell 5).trans rfl
  have k6 := (KC.cell 6).trans rfl
  have k7 := (KC.cell 7).trans rfl
  have k8 := (KC.cell 8).trans rfl
  have k9 := (KC.cell 9).trans rfl
  have k10 := (KC.cell 10).trans rfl
  simp only [List.getElem?_toArray, List.getElem?_cons_succ, List.getElem?_cons_zero] at k0 k1 k2 k3 k4 k5 k6 k7 k8 k9 k10
  have l1 := KC.lt
  clear KC
  go_wp2_with fail
  rw [← HCS.out]
  refine (LT.out w1 ((HS.out.below B1.out).more B1.out.size)).mono ?_
  rintro e w2 ⟨rfl, bl2⟩
  have B2 : Hid (Below w.heap.size w w2) := Lib.hid (B1.out.trans (bl2.mono B1.out.size))
  have K2 := Lib.hid (K1.out.below bl2 K1.out.lt)
  clear k0 k1 k2 k3 k4 k5 k6 k7 k8 k9 k10 l1
  clear bl2
  have KC := K2.out
  rw [HCS.out] at KC
  have k0 := (KC.cell 0).trans rfl
  have k1 := (KC.cell 1).trans rfl
  have k2 := (KC.cell 2).trans rfl
  have k3 := (KC.cell 3).trans rfl
  have k4 := (KC.cell 4).trans rfl
  have k5 := (KC.cell 5).trans rfl
  have k6 := (KC.cell 6).trans rfl
  have k7 := (KC.cell 7).trans rfl
  have k8 := (KC.cell 8).trans rfl
  have k9 := (KC.cell 9).trans rfl
  have k10 := (KC.cell 10).trans rfl
  simp only [List.getElem?_toArray, List.getElem?_cons_succ, List.getElem?_cons_zero] at k0 k1 k2 k3 k4 k5 k6 k7 k8 k9 k10
  have l1 := KC.lt
  clear KC
  go_wp2_with fail
  rw [← HCS.out]
  refine (LDT.out w2 ((HS.out.below B2.out).more B2.out.size)).mono ?_
  rintro e w3 ⟨Al, cl, rfl, ow3, bl3⟩
  have hz2 := B2.out.size
  have P3 : Hid (RPJ w O0.cs (lds O0.sg O0.gM) (.slice Al (lds O0.sg O0.gM).length cl) (.slice none 0 0) (.slice none 0 0) [] [] w3) := Lib.hid ⟨K2.out.below bl3 K2.out.lt, owns_base ow3 hz2, World.ownsRow_nil _ _ _ _, World.ownsRow_nil _ _ _ _, (fun d hd => by cases hd), B2.out.trans (bl3.mono hz2)⟩
  clear k0 k1 k2 k3 k4 k5 k6 k7 k8 k9 k10 l1
  clear bl3 ow3 hz2 K2 K1 K0 B2 B1 B0 RT LT LDT HW0
  obtain ⟨n, hn⟩ : ∃ n, n = (lds O0.sg O0.gM).length := ⟨_, rfl⟩
  rw [← hn] at P3 hnl ⊢
  have HN := Lib.hid hn
  clear hn
  go_wp2_with fail
  go_loopw [8, 9, 11] (fun v8 v9 v11 wr => ∃ i : Nat, i ≤ n ∧ v11 = .int .i64 i ∧ Hid (RPI w O0 (.slice Al n cl) i v8 v9 wr)) (fun _ _ v11 _ => n - (intOf v11).toNat)
  case atStart => exact ⟨0, Nat.zero_le _, rfl, Lib.hid ⟨0, 0, [], P3.out, rfl, rfl, rfl, ⟨none, 0, rfl⟩, ⟨none, 0, rfl⟩⟩⟩
  case round =>
    clear P3
    obtain ⟨i, hi, rfl, hinv⟩ := hrel
    obtain ⟨np, nw, ws, hj, hws, hnp, hnw, ⟨Ap, cp, rfl⟩, ⟨Aw, cw, rfl⟩⟩ := hinv.out
    by_cases hin : i < n
    · have z1 : decide ((i : Int) < (n : Int)) = true := by simp; omega
      have z2 : (i : Int) < (n : Int) := by omega
      have hin' : i < (lds O0.sg O0.gM).length := by rw [← HN.out]; exact hin
      obtain ⟨ad, rfl, had, d0, d1, d2, d3, d4, d5⟩ := seg_cells (row_fnS (by have := hj.ol; rwa [← HN.out] at this ⊢)) hin'
      have LK := load_ok HR.out hin'
      have FT := fnS_fits HF.out hin'
      have m2 := FT.2.1
      have m1 := FT.1
      obtain ⟨s, hs⟩ : ∃ s, s = fnS (lds O0.sg O0.gM) i := ⟨_, rfl⟩
      rw [← hs] at d0 d1 d2 d3 d4 d5 LK m1 m2
      obtain ⟨ps, hps⟩ : ∃ p, p = pcL O0.base O0.ino ((lds O0.sg O0.gM).take i) := ⟨_, rfl⟩
      rw [← hps] at hj hnp
      have hpn : ps.length ≤ 16 := by rw [hps]; have := pcL_len O0.base O0.ino ((lds O0.sg O0.gM).take i); rw [List.length_take] at this; omega
      have hwn : ws.length ≤ 8 := by have := wrL_len O0.base ((lds O0.sg O0.gM).take i); rw [← hws, List.length_map, List.length_take] at this; omega
      have END : ∀ (W' : World) (ps' : List PieceD) (ws' : List WriteD) (A A' : Option Addr) (c c' n1 n2 : Nat), ps' = ps ++ pcS base ino s → ws'.map WriteD.key = ws.map WriteD.key ++ wrS base s → n1 = ps'.length → n2 = ws'.length → RPJ w O0.cs (lds O0.sg O0.gM) (.slice (some ad) n cl) (.slice A n1 c) (.slice A' n2 c') ps' ws' W' → RPI w O0 (.slice (some ad) n cl) (i + 1) (.slice A n1 c) (.slice A' n2 c') W' := by
        rintro W' ps' ws' A A' c c' n1 n2 rfl h2 h3 h4 h5
        have e1 : pcL O0.base O0.ino ((lds O0.sg O0.gM).take (i + 1)) = ps ++ pcS base ino s := by rw [take_fnS hin', pcL_snoc, ← hps, ← hs, HOB.out, HOI.out]
        have e2 : wrL O0.base ((lds O0.sg O0.gM).take (i + 1)) = ws.map WriteD.key ++ wrS base s := by rw [take_fnS hin', wrL_snoc, ← hws, ← hs, HOB.out]
        exact ⟨n1, n2, ws', by rw [e1]; exact h5, by rw [e2]; exact h2, by rw [e1]; exact h3, h4, ⟨_, _, rfl⟩, ⟨_, _, rfl⟩⟩
      have HEND := Lib.hid END
      have hen : base + upv (s.addr + s.msz) ≤ 140737488355328 := by have := hle.out; rw [HOB.out] at this; have := LK.en; omega
      obtain ⟨kd, fl, off, addr, fsz, msz⟩ := s
      have g1 := LK.m0; have g2 := LK.fm; have g3 := LK.ofs; have g5 := LK.up
      dsimp only at g1 g2 g3 g5 m1 m2 hen d0 d1 d2 d3 d4 d5
      have mods : base % 4096 = 0 := by have := HAL.out; rwa [HOB.out] at this
      obtain ⟨a0, ha0⟩ : ∃ y, y = base + addr := ⟨_, rfl⟩
      obtain ⟨f0, hf0⟩ : ∃ y, y = base + addr + fsz := ⟨_, rfl⟩
      obtain ⟨e0, he0⟩ : ∃ y, y = base + addr + msz := ⟨_, rfl⟩
      obtain ⟨df, hdf⟩ : ∃ y, y = dn a0 := ⟨_, rfl⟩
      obtain ⟨uf, huf⟩ : ∃ y, y = upv f0 := ⟨_, rfl⟩
      obtain ⟨ue, hue⟩ : ∃ y, y = upv e0 := ⟨_, rfl⟩
      obtain ⟨dof, hdo⟩ : ∃ y, y = dn off := ⟨_, rfl⟩
      obtain ⟨rm, hrm⟩ : ∃ y, y = f0 % 4096 := ⟨_, rfl⟩
      have w1 : IntKind.u64.wrap ((base : Int) + (addr : Int)) = (a0 : Int) := wrap_sum ha0 (by unfold M; omega)
      have w2' : IntKind.u64.wrap ((a0 : Int) + (fsz : Int)) = (f0 : Int) := wrap_sum (by omega) (by unfold M; omega)
      have w3 : IntKind.u64.wrap ((a0 : Int) + (msz : Int)) = (e0 : Int) := wrap_sum (by omega) (by unfold M; omega)
      have a0M : a0 < M := by unfold M; omega
      have f0M : f0 + 4096 < M := by unfold M; omega
      have e0M : e0 + 4096 < M := by unfold M; omega
      have q1 : f0 ≤ uf ∧ uf < M ∧ uf ≤ ue ∧ df < ue ∧ (fsz < msz → f0 < ue) ∧ (fsz = msz → uf = ue) ∧ uf < f0 + 4096 ∧ (rm = 0 ↔ f0 = uf) := by
        have hue' : ue = dn (e0 + 4095) := by rw [hue]; unfold upv; rw [if_pos (by unfold M; omega)]
        have huf' : uf = dn (f0 + 4095) := by rw [huf]; unfold upv; rw [if_pos (by unfold M; omega)]
        rw [hue', huf', hdf]
        unfold dn M
        refine ⟨by omega, by omega, by omega, by omega, by omega, by intro e; rw [hf0, he0, e], by omega, by omega⟩
      obtain ⟨q1a, q1b, q1c, q1d, q1e, q1f, q1g, q1h⟩ := q1
      have RD : Hid (∀ W : World, Calls Try.prog 29 #[.int .u64 a0] W fun e w' => e = .returned (.int .u64 df) ∧ W = w') := Lib.hid fun W => by rw [hdf]; exact rdown_any a0 W a0M
      have RO : Hid (∀ W : World, Calls Try.prog 29 #[.int .u64 off] W fun e w' => e = .returned (.int .u64 dof) ∧ W = w') := Lib.hid fun W => by rw [hdo]; exact rdown_any off W m1
      have RU : Hid (∀ W : World, Calls Try.prog 30 #[.int .u64 e0] W fun e w' => e = .returned (.int .u64 ue) ∧ W = w') := Lib.hid fun W => by rw [hue]; exact rup_any e0 W e0M
      have RF : Hid (∀ W : World, Calls Try.prog 30 #[.int .u64 f0] W fun e w' => e = .returned (.int .u64 uf) ∧ W = w') := Lib.hid fun W => by rw [huf]; exact rup_any f0 W f0M
      have PS : Hid (pcS base ino ⟨kd, fl, off, addr, fsz, msz⟩ = if 0 < fsz then ⟨df, uf, fl, ino, dof⟩ :: (if uf < ue then [⟨uf, ue, fl, -1, 0⟩] else []) else [⟨df, ue, fl, -1, 0⟩]) := Lib.hid (by rw [hdf, huf, hue, hdo, ha0, hf0, he0]; rfl)
      have WS : Hid (wrS base ⟨kd, fl, off, addr, fsz, msz⟩ = if 0 < fsz ∧ fsz < msz ∧ f0 < uf then [(f0, uf - f0)] else []) := Lib.hid (by rw [huf, hf0]; rfl)
      obtain ⟨i49, hi49, hz0, hz1, hz2⟩ := info_parts info49
      obtain ⟨i52, hi52, hy0, hy1, hy2⟩ := info_parts info52
      have cE : (uf : Int) - (f0 : Int) = ((uf - f0 : Nat) : Int) := by omega
      obtain ⟨wl, hwl⟩ : ∃ y, y = uf - f0 := ⟨_, rfl⟩
      have w4 : IntKind.u64.wrap ((uf : Int) - (f0 : Int)) = (wl : Int) := by rw [cE, ← hwl]; exact wrap_small (by omega)
      have hwl2 : wl ≤ 4096 := by omega
      have HWL := Lib.hid hwl
      have tm1 : (f0 : Int).tmod 4096 = (rm : Int) := by rw [Int.tmod_eq_emod_of_nonneg (by omega)]; omega
      have tm2 : (f0 : Int) % 4096 = (rm : Int) := by omega
      obtain ⟨W1, hW1⟩ : ∃ W, W = wr.alloc (.cells #[.int .u32 kd, .int .u8 fl, .int .u64 off, .int .u64 addr, .int .u64 fsz, .int .u64 msz] 56) := ⟨_, rfl⟩
      have J1 : Hid (RPJ w O0.cs (lds O0.sg O0.gM) (.slice (some ad) n cl) (.slice Ap np cp) (.slice Aw nw cw) ps ws W1) := by rw [hW1]; exact Lib.hid (hj.next ((Below.refl _ _).alloc (Nat.le_refl _) _))
      have Q1 : Hid (Blk W1 wr.heap.size 56 #[.int .u32 kd, .int .u8 fl, .int .u64 off, .int .u64 addr, .int .u64 fsz, .int .u64 msz]) := by rw [hW1]; exact Lib.hid (Blk.new _ _ _)
      have HQ := Lib.hid (show f0 ≤ uf ∧ uf < M ∧ uf ≤ ue ∧ df < ue ∧ (fsz < msz → f0 < ue) ∧ (fsz = msz → uf = ue) ∧ 0 < msz ∧ fsz ≤ msz ∧ (rm = 0 ↔ f0 = uf) from ⟨q1a, q1b, q1c, q1d, q1e, q1f, g1, g2, q1h⟩)
      have HW1 := Lib.hid hW1
      have lbk := World.block_lt_of_cell? _ _ d0
      subst hnp hnw
      have HINO := Lib.hid hin'
      clear cE hwl hs hps hws END LK FT hen mods ha0 hf0 he0 hdf huf hue hdo hrm a0M f0M e0M m1 m2 g3 g5 q1g q1a q1b q1c q1d q1e q1f q1h g1 g2 hj hW1 hinv hin'
      by_cases cA : fsz = 0
      · obtain ⟨q1a, q1b, q1c, q1d, q1e, q1f, g1, g2, q1h⟩ := HQ.out
        have t1 : decide ((0 : Int) < (fsz : Int)) = false := by simp; omega
        have t1n : decide (0 < fsz) = false := by simp; omega
        have t2 : decide (df < ue) = true := by simp; omega
        have t2i : decide ((df : Int) < (ue : Int)) = true := by simp; omega
        have PSA := Lib.hid (show pcS base ino ⟨kd, fl, off, addr, fsz, msz⟩ = [⟨df, ue, fl, -1, 0⟩] by rw [PS.out, if_neg (by omega)])
        have WSA := Lib.hid (show wrS base ⟨kd, fl, off, addr, fsz, msz⟩ = [] by rw [WS.out, if_neg (by omega)])
        have hsz := J1.out.bl.size
        clear cA q1a q1b q1c q1d q1e q1f g1 g2 q1h
        go_upto_region 13 with fail
        rw [← HW1.out]
        clear d0 d1 d2 d3 d4 d5 had lbk
        have k0 : W1.cell? ⟨w.heap.size, 0, none⟩ = some (.int .i64 ino) := (J1.out.bo.cell 0).trans (by rw [HCS.out]; rfl)
        have k1 : W1.cell? ⟨w.heap.size, 1, none⟩ = some (.int .u64 base) := (J1.out.bo.cell 1).trans (by rw [HCS.out]; rfl)
        have lO := J1.out.bo.lt
        have d1 := (Q1.out.cell 1).trans rfl; have d2 := (Q1.out.cell 2).trans rfl; have d3 := (Q1.out.cell 3).trans rfl; have d4 := (Q1.out.cell 4).trans rfl; have d5 := (Q1.out.cell 5).trans rfl
        simp only [List.getElem?_toArray, List.getElem?_cons_succ, List.getElem?_cons_zero] at d1 d2 d3 d4 d5
        have lB := Q1.out.lt
        go_wp2_with fail
        refine (RD.out _).mono ?_
        rintro e w' ⟨rfl, rfl⟩
        go_wp2_with fail
        refine (RU.out _).mono ?_
        rintro e w' ⟨rfl, rfl⟩
        go_wp2_with (at_builtin; refine wpList_append_any _ rfl (.tmp 110) (.tmp 116) _ rfl w.heap.size 49 i49 (.agg #[.int .u64 0, .int .u64 0, .int .u8 0, .int .i64 0, .int .u64 0]) 5 40 Try.underlying44 hi49 hz0 hz1 hz2 rfl (by decide) (.slice Ap ps.length cp) ps.length (flatL PieceD.cs ps) rfl (J1.out.op.alloc _) (W1.heap.size + 1) (some ⟨W1.heap.size, 0, none⟩) 1 1 [.int .u64 df, .int .u64 ue, .int .u8 fl, .int .i64 (-1), .int .u64 0] rfl (reads_new W1 49 5 1 [.int .u64 df, .int .u64 ue, .int .u8 fl, .int .i64 (-1), .int .u64 0] rfl rfl) (by simp [Value.oneCell']) (by simp only [maxLen]; omega) (by omega) (by simp; omega) ?_; intro v1 w5 hown1 hg1 hat1; have J5 := Lib.hid (RPJ.pushP (p := ⟨df, ue, fl, -1, 0⟩) J1.out hown1 hg1); obtain ⟨A5, c5, rfl⟩ := ownsRow_val hown1; clear hown1 hg1 hat1)
        go_roundw
        case rel => exact ⟨i + 1, by omega, by go_num, Lib.hid (HEND.out _ (ps ++ [⟨df, ue, fl, -1, 0⟩]) ws _ _ _ _ _ _ (by rw [PSA.out]) (by rw [WSA.out, List.append_nil]) (by simp) (by simp) J5.out)⟩
        case measure => simp [intOf]; omega
      have t1 : decide ((0 : Int) < (fsz : Int)) = true := by simp; omega
      have t1n : decide (0 < fsz) = true := by simp; omega
      have t1p : 0 < fsz := by omega
      clear cA
      go_upto_region 13 with fail
      rw [← HW1.out]
      clear d0 d1 d2 d3 d4 d5 had lbk
      have k0 : W1.cell? ⟨w.heap.size, 0, none⟩ = some (.int .i64 ino) := (J1.out.bo.cell 0).trans (by rw [HCS.out]; rfl)
      have k1 : W1.cell? ⟨w.heap.size, 1, none⟩ = some (.int .u64 base) := (J1.out.bo.cell 1).trans (by rw [HCS.out]; rfl)
      have lO := J1.out.bo.lt
      have d1 := (Q1.out.cell 1).trans rfl; have d2 := (Q1.out.cell 2).trans rfl; have d3 := (Q1.out.cell 3).trans rfl; have d4 := (Q1.out.cell 4).trans rfl; have d5 := (Q1.out.cell 5).trans rfl
      simp only [List.getElem?_toArray, List.getElem?_cons_succ, List.getElem?_cons_zero] at d1 d2 d3 d4 d5
      have lB := Q1.out.lt
      go_wp2_with fail
      refine (RD.out _).mono ?_
      rintro e w' ⟨rfl, rfl⟩
      go_wp2_with fail
      refine (RU.out _).mono ?_
      rintro e w' ⟨rfl, rfl⟩
      go_upto_region 17 with fail
      have J2 := Lib.hid (J1.out.next ((Below.refl _ _).drew))
      have Q2 : Hid (Blk W1.drew wr.heap.size 56 #[.int .u32 kd, .int .u8 fl, .int .u64 off, .int .u64 addr, .int .u64 fsz, .int .u64 msz]) := Lib.hid Q1.out
      have KS := Lib.hid (show ∀ W : World, Blk W w.heap.size 33 O0.cs → Blk W wr.heap.size 56 #[.int .u32 kd, .int .u8 fl, .int .u64 off, .int .u64 addr, .int .u64 fsz, .int .u64 msz] → W.cell? ⟨w.heap.size, 0, none⟩ = some (.int .i64 ino) ∧ W.cell? ⟨wr.heap.size, 1, none⟩ = some (.int .u8 fl) ∧ W.cell? ⟨wr.heap.size, 2, none⟩ = some (.int .u64 off) from fun W h h' => ⟨(h.cell 0).trans (by rw [HCS.out]; rfl), (h'.cell 1).trans rfl, (h'.cell 2).trans rfl⟩)
      have hsz : w.heap.size ≤ W1.heap.size := J2.out.bl.size
      clear k0 k1 d1 d2 d3 d4 d5 lO lB J1 Q1 HW1
      go_region_held3 (fun W => W.cell? ⟨w.heap.size, 0, none⟩ = some (.int .i64 ino) ∧ W.cell? ⟨wr.heap.size, 1, none⟩ = some (.int .u8 fl) ∧ W.cell? ⟨wr.heap.size, 2, none⟩ = some (.int .u64 off)) (first | exact KS.out _ J2.out.bo Q2.out | exact KS.out _ (J2.out.bo.alloc _) (Q2.out.alloc _) | exact KS.out _ J3.out.bo Q3.out)
        (first
          | (go_at_call 30; refine (RF.out _).mono ?_; rintro e w' ⟨rfl, rfl⟩)
          | (go_at_call 29; refine (RO.out _).mono ?_; rintro e w' ⟨rfl, rfl⟩)
          | (refine step_append_any _ rfl (.tmp 71) (.tmp 83) 44 rfl w.heap.size 49 i49 (.agg #[.int .u64 0, .int .u64 0, .int .u8 0, .int .i64 0, .int .u64 0]) 5 40 Try.underlying44 hi49 hz0 hz1 hz2 rfl (by decide) (.slice Ap ps.length cp) ps.length (flatL PieceD.cs ps) (by simp [Act.eval]) (J2.out.op.alloc _) (W1.heap.size + 1) (some ⟨W1.heap.size, 0, none⟩) 1 1 [.int .u64 df, .int .u64 uf, .int .u8 fl, .int .i64 ino, .int .u64 dof] (by simp [Act.eval]) (reads_new W1.drew 49 5 1 [.int .u64 df, .int .u64 uf, .int .u8 fl, .int .i64 ino, .int .u64 dof] rfl rfl) (by simp [Value.oneCell']) (by simp only [maxLen]; omega) (by omega) (by simp; omega) ?_; intro v1 w5 hown1 hg1 hat1; have J3 := Lib.hid (RPJ.pushP (p := ⟨df, uf, fl, ino, dof⟩) J2.out hown1 hg1); have Q3 := Lib.hid (blk_push Q2.out J2.out.op (by decide) hg1); obtain ⟨A5, c5, rfl⟩ := ownsRow_val hown1; clear hown1 hg1 hat1))
      go_wp2_with fail
      clear J2 Q2 hsz
      refine (RF.out _).mono ?_
      rintro e w' ⟨rfl, rfl⟩
      obtain ⟨p1, hp1⟩ : ∃ p, p = ps ++ [⟨df, uf, fl, ino, dof⟩] := ⟨_, rfl⟩
      have hl1 : ps.length + 1 = p1.length := by rw [hp1]; simp
      rw [← hp1] at J3
      have HP1 := Lib.hid hp1; have HL1 := Lib.hid hl1
      have hp1n : p1.length ≤ 17 := by omega
      clear hp1 hl1
      by_cases cB : fsz = msz
      · 
        obtain ⟨q1a, q1b, q1c, q1d, q1e, q1f, g1, g2, q1h⟩ := HQ.out
        have t3 : decide (fsz < msz) = false := by simp; omega
        have t3i : decide ((fsz : Int) < (msz : Int)) = false := by simp; omega
        have t2 : decide (uf < ue) = false := by simp; omega
        have t2i : decide ((uf : Int) < (ue : Int)) = false := by simp; omega
        have PSA := Lib.hid (show pcS base ino ⟨kd, fl, off, addr, fsz, msz⟩ = [⟨df, uf, fl, ino, dof⟩] by rw [PS.out, if_pos (by omega), if_neg (by omega)])
        have WSA := Lib.hid (show wrS base ⟨kd, fl, off, addr, fsz, msz⟩ = [] by rw [WS.out, if_neg (by omega)])
        clear q1a q1b q1c q1d q1e q1f g1 g2 q1h cB
        have k0 : w5.cell? ⟨w.heap.size, 0, none⟩ = some (.int .i64 ino) := (J3.out.bo.cell 0).trans (by rw [HCS.out]; rfl)
        have k1 : w5.cell? ⟨w.heap.size, 1, none⟩ = some (.int .u64 base) := (J3.out.bo.cell 1).trans (by rw [HCS.out]; rfl)
        have lO := J3.out.bo.lt
        have d1 := (Q3.out.cell 1).trans rfl; have d2 := (Q3.out.cell 2).trans rfl; have d3 := (Q3.out.cell 3).trans rfl; have d4 := (Q3.out.cell 4).trans rfl; have d5 := (Q3.out.cell 5).trans rfl
        simp only [List.getElem?_toArray, List.getElem?_cons_succ, List.getElem?_cons_zero] at d1 d2 d3 d4 d5
        have lB := Q3.out.lt
        go_wp2_with fail
        go_roundw
        case rel => exact ⟨i + 1, by omega, by go_num, Lib.hid (HEND.out _ p1 ws _ _ _ _ _ _ (by rw [PSA.out, HP1.out]) (by rw [WSA.out, List.append_nil]) HL1.out (by simp) J3.out)⟩
        case measure => simp [intOf]; omega
      by_cases cC : rm = 0
      · 
        obtain ⟨q1a, q1b, q1c, q1d, q1e, q1f, g1, g2, q1h⟩ := HQ.out
        have t3 : decide (fsz < msz) = true := by simp; omega
        have t3i : decide ((fsz : Int) < (msz : Int)) = true := by simp; omega
        have t5 : ((rm : Int) != 0) = false := by simp; omega
        have t6 : ((rm : Int) == 0) = true := by simp; omega
        have t2 : decide (uf < ue) = true := by simp; omega
        have t2i : decide ((uf : Int) < (ue : Int)) = true := by simp; omega
        have PSA := Lib.hid (show pcS base ino ⟨kd, fl, off, addr, fsz, msz⟩ = [⟨df, uf, fl, ino, dof⟩, ⟨uf, ue, fl, -1, 0⟩] by rw [PS.out, if_pos (by omega), if_pos (by omega)])
        have WSA := Lib.hid (show wrS base ⟨kd, fl, off, addr, fsz, msz⟩ = [] by rw [WS.out, if_neg (by omega)])
        clear q1a q1b q1c q1d q1e q1f g1 g2 q1h cB cC
        have k0 : w5.cell? ⟨w.heap.size, 0, none⟩ = some (.int .i64 ino) := (J3.out.bo.cell 0).trans (by rw [HCS.out]; rfl)
        have k1 : w5.cell? ⟨w.heap.size, 1, none⟩ = some (.int .u64 base) := (J3.out.bo.cell 1).trans (by rw [HCS.out]; rfl)
        have lO := J3.out.bo.lt
        have d1 := (Q3.out.cell 1).trans rfl; have d2 := (Q3.out.cell 2).trans rfl; have d3 := (Q3.out.cell 3).trans rfl; have d4 := (Q3.out.cell 4).trans rfl; have d5 := (Q3.out.cell 5).trans rfl
        simp only [List.getElem?_toArray, List.getElem?_cons_succ, List.getElem?_cons_zero] at d1 d2 d3 d4 d5
        have lB := Q3.out.lt
        have hsz := J3.out.bl.size
        go_wp2_with (at_builtin; refine wpList_append_any _ rfl (.tmp 110) (.tmp 116) _ rfl w.heap.size 49 i49 (.agg #[.int .u64 0, .int .u64 0, .int .u8 0, .int .i64 0, .int .u64 0]) 5 40 Try.underlying44 hi49 hz0 hz1 hz2 rfl (by decide) (.slice A5 (ps.length + 1) c5) p1.length (flatL PieceD.cs p1) rfl (J3.out.op.alloc _) (w5.heap.size + 1) (some ⟨w5.heap.size, 0, none⟩) 1 1 [.int .u64 uf, .int .u64 ue, .int .u8 fl, .int .i64 (-1), .int .u64 0] rfl (reads_new w5 49 5 1 [.int .u64 uf, .int .u64 ue, .int .u8 fl, .int .i64 (-1), .int .u64 0] rfl rfl) (by simp [Value.oneCell']) (by simp only [maxLen]; omega) (by omega) (by simp; omega) ?_; intro v1 w5 hown1 hg1 hat1; have J8 := Lib.hid (RPJ.pushP (p := ⟨uf, ue, fl, -1, 0⟩) J3.out hown1 hg1); obtain ⟨A8, c8, rfl⟩ := ownsRow_val hown1; clear hown1 hg1 hat1)
        go_roundw
        case rel => exact ⟨i + 1, by omega, by go_num, Lib.hid (HEND.out _ (p1 ++ [⟨uf, ue, fl, -1, 0⟩]) ws _ _ _ _ _ _ (by rw [PSA.out, HP1.out, List.append_assoc]; rfl) (by rw [WSA.out, List.append_nil]) (by simp) (by simp) J8.out)⟩
        case measure => simp [intOf]; omega
      obtain ⟨q1a, q1b, q1c, q1d, q1e, q1f, g1, g2, q1h⟩ := HQ.out
      have t3 : decide (fsz < msz) = true := by simp; omega
      have t3i : decide ((fsz : Int) < (msz : Int)) = true := by simp; omega
      have t5 : ((rm : Int) != 0) = true := by simp; omega
      have t6 : ((rm : Int) == 0) = false := by simp; omega
      have fu : f0 < uf := by have := mt q1h.2 cC; omega
      have hmk := run_make_row' (P := Try.prog) 50 5 _ _ Try.underlying50 info5 rfl .u64 .u64 wl (by omega) (by omega)
      have WSA := Lib.hid (show wrS base ⟨kd, fl, off, addr, fsz, msz⟩ = [(f0, uf - f0)] by rw [WS.out, if_pos ⟨by omega, by omega, by omega⟩])
      have HFU := Lib.hid fu
      clear q1a q1b q1c q1d q1e q1f g1 g2 q1h cB cC fu
      have k0 : w5.cell? ⟨w.heap.size, 0, none⟩ = some (.int .i64 ino) := (J3.out.bo.cell 0).trans (by rw [HCS.out]; rfl)
      have k1 : w5.cell? ⟨w.heap.size, 1, none⟩ = some (.int .u64 base) := (J3.out.bo.cell 1).trans (by rw [HCS.out]; rfl)
      have lO := J3.out.bo.lt
      have d1 := (Q3.out.cell 1).trans rfl; have d2 := (Q3.out.cell 2).trans rfl; have d3 := (Q3.out.cell 3).trans rfl; have d4 := (Q3.out.cell 4).trans rfl; have d5 := (Q3.out.cell 5).trans rfl
      simp only [List.getElem?_toArray, List.getElem?_cons_succ, List.getElem?_cons_zero] at d1 d2 d3 d4 d5
      have lB := Q3.out.lt
      have hsz := J3.out.bl.size
      go_upto_region 20 with fail
      clear k0 k1 d1 d2 d3 d4 d5 lO lB
      go_wp2_with fail
      refine (RF.out _).mono ?_
      rintro e w' ⟨rfl, rfl⟩
      have JM := Lib.hid (J3.out.next ((Below.refl _ w5).alloc (Nat.le_refl _) (.cells (madeCells #[.int .u8 0] wl) 5)))
      have QM := Lib.hid (Q3.out.alloc (.cells (madeCells #[.int .u8 0] wl) 5))
      have MK := Lib.hid (Blk.new w5 5 (madeCells #[.int .u8 0] wl))
      go_upto_region 21 with (at_builtin; refine wpList_append_any _ rfl (.tmp 97) (.tmp 105) _ rfl w.heap.size 52 i52 (.agg #[.int .u64 0, .slice none 0 0]) 2 32 Try.underlying45 hi52 hy0 hy1 hy2 rfl (by decide) (.slice Aw ws.length cw) ws.length (flatL WriteD.cs ws) rfl (JM.out.ow.alloc _) (w5.heap.size + 1 + 1) (some ⟨w5.heap.size + 1, 0, none⟩) 1 1 [.int .u64 f0, .slice (some ⟨w5.heap.size, 0, none⟩) wl wl] rfl (reads_new (w5.alloc (.cells (madeCells #[.int .u8 0] wl) 5)) 52 2 1 [.int .u64 f0, .slice (some ⟨w5.heap.size, 0, none⟩) wl wl] (by simp) rfl) (by simp [Value.oneCell']) (by simp only [maxLen]; omega) (by omega) (by simp; omega) ?_; intro v1 w7 hown1 hg1 hat1; have J7 := Lib.hid (RPJ.pushW (d := ⟨f0, wl, w5.heap.size⟩) JM.out hsz MK.out hown1 hg1); have Q7 := Lib.hid (blk_push QM.out JM.out.ow (by decide) hg1); obtain ⟨A7, c7, rfl⟩ := ownsRow_val hown1; clear hown1 hg1 hat1)
      clear JM QM MK hmk J3 Q3 hsz
      have WSE : Hid ((ws ++ [(⟨f0, wl, w5.heap.size⟩ : WriteD)]).map WriteD.key = ws.map WriteD.key ++ wrS base ⟨kd, fl, off, addr, fsz, msz⟩) := Lib.hid (by rw [WSA.out, List.map_append, ← HWL.out]; rfl)
      obtain ⟨ws6, hws6⟩ : ∃ p, p = ws ++ [(⟨f0, wl, w5.heap.size⟩ : WriteD)] := ⟨_, rfl⟩
      have hl6 : ws.length + 1 = ws6.length := by rw [hws6]; simp
      rw [← hws6] at J7 WSE
      have HL6 := Lib.hid hl6
      clear hws6 hl6
      by_cases cD : uf < ue
      · 
        obtain ⟨q1a, q1b, q1c, q1d, q1e, q1f, g1, g2, q1h⟩ := HQ.out
        have fu := HFU.out
        have t2 : decide (uf < ue) = true := by simp; omega
        have t2i : decide ((uf : Int) < (ue : Int)) = true := by simp; omega
        have PSA := Lib.hid (show pcS base ino ⟨kd, fl, off, addr, fsz, msz⟩ = [⟨df, uf, fl, ino, dof⟩, ⟨uf, ue, fl, -1, 0⟩] by rw [PS.out, if_pos (by omega), if_pos (by omega)])
        clear q1a q1b q1c q1d q1e q1f g1 g2 q1h cD fu
        have k0 : w7.cell? ⟨w.heap.size, 0, none⟩ = some (.int .i64 ino) := (J7.out.bo.cell 0).trans (by rw [HCS.out]; rfl)
        have k1 : w7.cell? ⟨w.heap.size, 1, none⟩ = some (.int .u64 base) := (J7.out.bo.cell 1).trans (by rw [HCS.out]; rfl)
        have lO := J7.out.bo.lt
        have d1 := (Q7.out.cell 1).trans rfl; have d2 := (Q7.out.cell 2).trans rfl; have d3 := (Q7.out.cell 3).trans rfl; have d4 := (Q7.out.cell 4).trans rfl; have d5 := (Q7.out.cell 5).trans rfl
        simp only [List.getElem?_toArray, List.getElem?_cons_succ, List.getElem?_cons_zero] at d1 d2 d3 d4 d5
        have lB := Q7.out.lt
        have hsz := J7.out.bl.size
        go_wp2_with (at_builtin; refine wpList_append_any _ rfl (.tmp 110) (.tmp 116) _ rfl w.heap.size 49 i49 (.agg #[.int .u64 0, .int .u64 0, .int .u8 0, .int .i64 0, .int .u64 0]) 5 40 Try.underlying44 hi49 hz0 hz1 hz2 rfl (by decide) (.slice A5 (ps.length + 1) c5) p1.length (flatL PieceD.cs p1) rfl (J7.out.op.alloc _) (w7.heap.size + 1) (some ⟨w7.heap.size, 0, none⟩) 1 1 [.int .u64 uf, .int .u64 ue, .int .u8 fl, .int .i64 (-1), .int .u64 0] rfl (reads_new w7 49 5 1 [.int .u64 uf, .int .u64 ue, .int .u8 fl, .int .i64 (-1), .int .u64 0] rfl rfl) (by simp [Value.oneCell']) (by simp only [maxLen]; omega) (by omega) (by simp; omega) ?_; intro v1 w5 hown1 hg1 hat1; have J8 := Lib.hid (RPJ.pushP (p := ⟨uf, ue, fl, -1, 0⟩) J7.out hown1 hg1); obtain ⟨A8, c8, rfl⟩ := ownsRow_val hown1; clear hown1 hg1 hat1)
        go_roundw
        case rel => exact ⟨i + 1, by omega, by go_num, Lib.hid (HEND.out _ (p1 ++ [⟨uf, ue, fl, -1, 0⟩]) ws6 _ _ _ _ _ _ (by rw [PSA.out, HP1.out, List.append_assoc]; rfl) WSE.out (by simp) HL6.out J8.out)⟩
        case measure => simp [intOf]; omega
      obtain ⟨q1a, q1b, q1c, q1d, q1e, q1f, g1, g2, q1h⟩ := HQ.out
      have fu := HFU.out
      have t2 : decide (uf < ue) = false := by simp; omega
      have t2i : decide ((uf : Int) < (ue : Int)) = false := by simp; omega
      have PSA := Lib.hid (show pcS base ino ⟨kd, fl, off, addr, fsz, msz⟩ = [⟨df, uf, fl, ino, dof⟩] by rw [PS.out, if_pos (by omega), if_neg (by omega)])
      clear q1a q1b q1c q1d q1e q1f g1 g2 q1h cD fu
      have k0 : w7.cell? ⟨w.heap.size, 0, none⟩ = some (.int .i64 ino) := (J7.out.bo.cell 0).trans (by rw [HCS.out]; rfl)
      have k1 : w7.cell? ⟨w.heap.size, 1, none⟩ = some (.int .u64 base) := (J7.out.bo.cell 1).trans (by rw [HCS.out]; rfl)
      have lO := J7.out.bo.lt
      have d1 := (Q7.out.cell 1).trans rfl; have d2 := (Q7.out.cell 2).trans rfl; have d3 := (Q7.out.cell 3).trans rfl; have d4 := (Q7.out.cell 4).trans rfl; have d5 := (Q7.out.cell 5).trans rfl
      simp only [List.getElem?_toArray, List.getElem?_cons_succ, List.getElem?_cons_zero] at d1 d2 d3 d4 d5
      have lB := Q7.out.lt
      go_wp2_with fail
      go_roundw
      case rel => exact ⟨i + 1, by omega, by go_num, Lib.hid (HEND.out _ p1 ws6 _ _ _ _ _ _ (by rw [PSA.out, HP1.out]) WSE.out HL1.out HL6.out J7.out)⟩
      case measure => simp [intOf]; omega
    · obtain rfl : i = n := by omega
      have z1 : decide ((i : Int) < (i : Int)) = false := by simp
      have ET : (lds O0.sg O0.gM).take i = lds O0.sg O0.gM := by rw [HN.out, List.take_length]
      rw [ET] at hj hws hnp
      have HJ := Lib.hid hj; have HWS := Lib.hid hws; have HNP := Lib.hid hnp; have HNW := Lib.hid hnw
      clear hj hws hnp hnw hinv ET
      go_wp2_with fail
      go_ret3
      exact ⟨HJ.out.bl, Ap, np, cp, Aw, nw, cw, by rw [OKE.out]; rfl, fun h => (by rw [OKE.out] at h; cases h), fun _ => ⟨ws, HWS.out, HNP.out, HNW.out, by rw [HNP.out]; have := HJ.out.op; rwa [HNP.out] at this, by rw [HNW.out]; have := HJ.out.ow; rwa [HNW.out] at this, HJ.out.wb⟩⟩
end Go.Proofs.Yticnmgdflkipeaa
