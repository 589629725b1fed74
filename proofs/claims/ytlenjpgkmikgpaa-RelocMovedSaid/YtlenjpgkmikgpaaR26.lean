import Derived.Test.YtlenjpgkmikgpaaR25
namespace Go.Proofs.Ytlenjpgkmikgpaa
open Go.RowKit Go.Shelf Go.Hos
set_option linter.unusedVariables false
/-! the walk of RelocMoved -/
theorem SameD.ok {o o' : ObjD} (h : SameD o o') (hk : o.ok) : o'.ok := by
  obtain ⟨_, _, _, _, _, _, rfl⟩ := h; exact ⟨hk.sg, hk.nm, hk.rl, hk.base⟩
theorem SameD.room {o o' : ObjD} (h : SameD o o') (hk : o.room) : o'.room := by
  obtain ⟨_, _, _, _, _, _, rfl⟩ := h; exact ⟨hk.g, hk.s, hk.r⟩
theorem numP_le (o : ObjD) : numP (fun _ => o) 1 ≤ o.rM := by
  unfold numP
  split
  · show (ptI (fun _ => o) 1 0 o.rM).length ≤ _; rw [ptI_len]; exact Nat.le_refl _
  · exact Nat.zero_le _
def fixO (o : ObjD) : ObjD := { o with rl := fun t => fixR (o.rl t) }
theorem fixO_ok {o : ObjD} (h : o.ok) : (fixO o).ok := ⟨h.sg, h.nm, fun k => fixR_fits (h.rl k), h.base⟩
theorem fixO_room {o : ObjD} (h : o.room) : (fixO o).room := ⟨h.g, h.s, h.r⟩
theorem objF_one (O : Nat → ObjD) : ∀ n, ∀ u ∈ flatG (objF O) n, u.oneCell' = true := flatG_one fun i u hu => by
  simp only [objF, ObjD.cs, List.mem_cons, List.not_mem_nil, or_false] at hu
  rcases hu with rfl | rfl | rfl | rfl | rfl | rfl | rfl | rfl | rfl | rfl | rfl <;> rfl
/-- the list with the moved object in front -/
theorem cons_fits {o : ObjD} {OM : Nat → ObjD} (h : o.ok) (hm : ∀ i, (OM i).ok) : (∀ i k, ((consO o (nilA OM) i).sg k).fits) ∧ fitsR (consO o (nilA OM)) := by
  refine ⟨fun i k => ?_, fun i k => ?_⟩
  · cases i with
    | zero => exact h.sg k
    | succ i => exact (hm i).sg k
  · cases i with
    | zero => exact h.rl k
    | succ i => exact (hm i).rl k
theorem SameD.moved {far : Int} {o o' : ObjD} (h : SameD o o') (b : Nat) (hb : (b : Int) = IntKind.u64.wrap ((o.base : Int) + far)) : Moved far o { o' with base := b } := by
  obtain ⟨_, _, _, _, _, _, rfl⟩ := h
  exact ⟨hb, rfl, rfl, rfl, fun _ _ => rfl, rfl⟩
set_option maxRecDepth 100000 in
set_option maxHeartbeats 16000000 in
theorem law6_any (o : ObjD) (far : Nat) (A2 : Option Addr) (m2 c2 : Nat) (O2 : Nat → ObjD) (w : World) (hk : o.ok) (hz : o.room) (hS : Lay.StR w w.heap.size 6 o.gA o.gM (Lay.segC o.sg)) (hY : Lay.StR w w.heap.size 5 o.sA o.sM (fun k => (o.sy k).cs)) (hR : Lay.StR w w.heap.size 4 o.rA o.rM (fun k => (o.rl k).cs))
    (hfar : far < 4294967296) (hr2 : ObjR w w.heap.size A2 m2 O2) (hk2 : ∀ i, (O2 i).ok) (hz2 : ∀ i, (O2 i).room) :
    Calls Try.prog 6 #[.agg o.cs, .int .u32 far, .slice A2 m2 c2] w fun e W' => e = .returned (.bool true) ∧ Below w.heap.size w W' := by
  have hmm : maxLen = 9223372036854775807 := by simp [maxLen]
  have hmx : 140737488355328 ≤ maxLen := by omega
  have wf : IntKind.u64.wrap (far : Int) = (far : Int) := Lay.wrap_small (by unfold Lay.M; omega)
  obtain ⟨i0, hi0, hz0, hz1, hz2'⟩ := info_parts info50
  have V1 : Hid (∀ (W : World) g, Below w.heap.size w W → Blk W g 50 o.cs → ObjR W W.heap.size (some ⟨g, 0, none⟩) 1 (fun _ => o)) := Lib.hid fun W g hb hg =>
    ⟨str_one hg hg.lt, fun i hi => ⟨(hS.below hb).more hb.size, by have := hz.g; omega⟩, fun i hi => ⟨(hY.below hb).more hb.size, by have := hz.s; omega⟩, fun i hi => ⟨(hR.below hb).more hb.size, by have := hz.r; omega⟩, by simp [maxLen]⟩
  have H2 := Lib.hid hr2; have HK := Lib.hid hk; have HZ := Lib.hid hz; have HK2 := Lib.hid hk2; have HZ2 := Lib.hid hz2
  have VC : Hid (∀ (W : World) g, Below w.heap.size w W → Blk W g 50 o.cs → Calls Try.prog 7 #[.slice (some ⟨g, 0, none⟩) 1 1] W (VaP W 1)) := Lib.hid fun W g hb hg => vast_any _ 1 1 (fun _ => o) W (V1.out W g hb hg) fun i k => HK.out.nm k
  have VC2 : Hid (∀ (W : World), Below w.heap.size w W → Calls Try.prog 7 #[.slice A2 m2 c2] W (VaP W m2)) := Lib.hid fun W hb => vast_any _ m2 c2 O2 W ((H2.out.below hb).more hb.size) fun i k => (HK2.out i).nm k
  have TC : Hid (∀ (W : World) g, Below w.heap.size w W → Blk W g 50 o.cs → Calls Try.prog 9 #[.slice (some ⟨g, 0, none⟩) 1 1] W fun e W' => ∃ A' c' O', e = .returned (.slice A' 1 c') ∧ TWS W (fun _ => o) O' 1 (.slice A' 1 c') W') := Lib.hid fun W g hb hg => twins_any _ 1 1 (fun _ => o) W (V1.out W g hb hg) (by omega) fun _ => HZ.out
  have hm2 := hr2.len
  obtain ⟨oc, hoc⟩ : ∃ x, x = o.cs := ⟨_, rfl⟩
  have HOC := Lib.hid hoc
  rw [← hoc] at VC TC ⊢
  have hocs : oc = #[.int .i64 o.ino, .int .u64 o.base, .int .u16 o.ty, .int .u64 o.en, .int .u64 o.ph, .slice o.gA o.gM o.gQ, .slice o.nA o.nM o.nQ, .string o.so, .string o.rn, .slice o.sA o.sM o.sQ, .slice o.rA o.rM o.rQ] := by rw [hoc]; rfl
  have HOCS := Lib.hid hocs
  obtain ⟨W1, hW1⟩ : ∃ W, W = w.alloc (.cells oc 50) := ⟨_, rfl⟩
  have B1 : Hid (Below w.heap.size w W1) := by rw [hW1]; exact Lib.hid ((Below.refl _ _).alloc (Nat.le_refl _) _)
  have K1 : Hid (Blk W1 w.heap.size 50 oc) := by rw [hW1]; exact Lib.hid (Blk.new _ _ _)
  rw [hocs] at hW1 ⊢
  have HW1 := Lib.hid hW1
  obtain ⟨bx, hbx⟩ : ∃ b, b = w.heap.size := ⟨_, rfl⟩
  have CELLS : Hid (∀ W : World, Blk W w.heap.size 50 oc → W.cell? ⟨w.heap.size, 0, none⟩ = some (.int .i64 o.ino) ∧ W.cell? ⟨w.heap.size, 1, none⟩ = some (.int .u64 o.base) ∧ W.cell? ⟨w.heap.size, 2, none⟩ = some (.int .u16 o.ty) ∧ W.cell? ⟨w.heap.size, 3, none⟩ = some (.int .u64 o.en) ∧ W.cell? ⟨w.heap.size, 4, none⟩ = some (.int .u64 o.ph) ∧ W.cell? ⟨w.heap.size, 5, none⟩ = some (.slice o.gA o.gM o.gQ) ∧
      W.cell? ⟨w.heap.size, 6, none⟩ = some (.slice o.nA o.nM o.nQ) ∧ W.cell? ⟨w.heap.size, 7, none⟩ = some (.string o.so) ∧ W.cell? ⟨w.heap.size, 8, none⟩ = some (.string o.rn) ∧ W.cell? ⟨w.heap.size, 9, none⟩ = some (.slice o.sA o.sM o.sQ) ∧ W.cell? ⟨w.heap.size, 10, none⟩ = some (.slice o.rA o.rM o.rQ)) := Lib.hid fun W h => by
    rw [hocs] at h
    exact ⟨(h.cell 0).trans rfl, (h.cell 1).trans rfl, (h.cell 2).trans rfl, (h.cell 3).trans rfl, (h.cell 4).trans rfl, (h.cell 5).trans rfl, (h.cell 6).trans rfl, (h.cell 7).trans rfl, (h.cell 8).trans rfl, (h.cell 9).trans rfl, (h.cell 10).trans rfl⟩
  clear hk hz hS hY hR hr2 hk2 hz2 V1 hoc hocs hW1
  generalize o.ino = o0 at *
  generalize o.base = o1 at *
  generalize o.ty = o2 at *
  generalize o.en = o3 at *
  generalize o.ph = o4 at *
  generalize o.gA = o5 at *
  generalize o.gM = o6 at *
  generalize o.gQ = o7 at *
  generalize o.nA = o8 at *
  generalize o.nM = o9 at *
  generalize o.nQ = o10 at *
  generalize o.so = o11 at *
  generalize o.rn = o12 at *
  generalize o.sA = o13 at *
  generalize o.sM = o14 at *
  generalize o.sQ = o15 at *
  generalize o.rA = o16 at *
  generalize o.rM = o17 at *
  generalize o.rQ = o18 at *
  go_enter Try.func6, Try.ntmps6
  go_upto_region 1 with fail
  rw [← HW1.out]
  obtain ⟨k0, k1, k2, k3, k4, k5, k6, k7, k8, k9, k10⟩ := CELLS.out _ K1.out
  have lk := K1.out.lt
  obtain ⟨W2, hW2⟩ : ∃ W, W = W1.alloc (.cells oc 50) := ⟨_, rfl⟩
  have B2 : Hid (Below w.heap.size w W2) := by rw [hW2]; exact Lib.hid (B1.out.alloc B1.out.size _)
  have K2 : Hid (Blk W2 w.heap.size 50 oc) := by rw [hW2]; exact Lib.hid (K1.out.alloc _)
  have KN : Hid (Blk W2 W1.heap.size 50 oc) := by rw [hW2]; exact Lib.hid (Blk.new _ _ _)
  rw [HOCS.out] at hW2
  have HW2 := Lib.hid hW2
  clear hW2 HW1
  go_wp2_with fail
  rw [← HW2.out]
  refine (VC.out W2 _ B2.out KN.out).mono ?_
  rintro e W3 ⟨b3, v1, rfl, _⟩
  have B3 := Lib.hid (B2.out.trans (b3.mono B2.out.size))
  have K3 := Lib.hid (K2.out.below b3 K2.out.lt)
  clear b3 k0 k1 k2 k3 k4 k5 k6 k7 k8 k9 k10 lk HW2 KN K2 B2 K1 B1 VC
  cases v1 with
  | true =>
    go_wp2_with fail
    refine (works_any _).mono ?_
    rintro e Wz ⟨rfl, bz⟩
    have BZ := Lib.hid ((B3.out).trans (bz.mono (B3.out).size))
    clear bz
    go_wp2_with fail
    go_ret
    exact ⟨rfl, BZ.out⟩
  | false =>
    go_wp2_with fail
    refine (VC2.out W3 B3.out).mono ?_
    rintro e W4 ⟨b4, v2, rfl, _⟩
    have B4 := Lib.hid (B3.out.trans (b4.mono B3.out.size))
    have K4 := Lib.hid (K3.out.below b4 K3.out.lt)
    clear b4 B3 K3 VC2
    cases v2 with
    | true =>
      go_wp2_with fail
      refine (works_any _).mono ?_
      rintro e Wz ⟨rfl, bz⟩
      have BZ := Lib.hid ((B4.out).trans (bz.mono (B4.out).size))
      clear bz
      go_wp2_with fail
      go_ret
      exact ⟨rfl, BZ.out⟩
    | false =>
      by_cases hm8 : m2 ≤ 8
      · have t8 : decide ((8 : Int) < (m2 : Int)) = false := by simp; omega
        obtain ⟨k0, k1, k2, k3, k4, k5, k6, k7, k8, k9, k10⟩ := CELLS.out _ K4.out
        have lk := K4.out.lt
        obtain ⟨W5, hW5⟩ : ∃ W, W = W4.alloc (.cells oc 50) := ⟨_, rfl⟩
        have B5 : Hid (Below w.heap.size w W5) := by rw [hW5]; exact Lib.hid (B4.out.alloc B4.out.size _)
        have KN : Hid (Blk W5 W4.heap.size 50 oc) := by rw [hW5]; exact Lib.hid (Blk.new _ _ _)
        rw [HOCS.out] at hW5
        have HW5 := Lib.hid hW5
        clear hW5
        go_wp2_with fail
        rw [← HW5.out]
        refine (TC.out W5 _ B5.out KN.out).mono ?_
        rintro e W6 ⟨A7, c7, OX, rfl, tw⟩
        have X6 := Lib.hid tw.xs
        have SX := Lib.hid (show SameD o (OX 0) from tw.al 0)
        obtain ⟨gx, rfl⟩ := X6.out.addr
        clear tw k0 k1 k2 k3 k4 k5 k6 k7 k8 k9 k10 lk HW5 KN K4 CELLS TC HOCS HOC t8 B4
        generalize OX 0 = xo at X6 SX
        have HKX := Lib.hid (SX.out.ok HK.out)
        have HZX := Lib.hid (SX.out.room HZ.out)
        have hrm := X6.out.r
        have hrml := owns_len hrm
        clear hrm
        obtain ⟨rM, hrM⟩ : ∃ x, x = xo.rM := ⟨_, rfl⟩
        have HRM := Lib.hid hrM
        rw [← hrM] at hrml
        clear hrM
        obtain ⟨adx, hadx⟩ : ∃ x, x = (⟨gx, 0, none⟩ : Addr) := ⟨_, rfl⟩
        rw [← hadx]
        have HADX := Lib.hid hadx
        clear hadx
        go_wp2_with fail
        go_loopw [8] (fun v8 wr => ∃ j : Nat, j ≤ rM ∧ v8 = .int .i64 j ∧ Hid (∃ R, XS W5 xo R (.slice (some ⟨gx, 0, none⟩) 1 c7) wr ∧ ∀ t, R t = if t < j then fixR (xo.rl t) else xo.rl t)) (fun v8 _ => rM - (intOf v8).toNat)
        case atStart => exact ⟨0, Nat.zero_le _, rfl, Lib.hid ⟨_, X6.out, fun t => by rw [if_neg (by omega)]⟩⟩
        case round =>
          clear X6
          obtain ⟨j, hj, rfl, hxs⟩ := hrel
          obtain ⟨R, xs, hR⟩ := hxs.out
          have XR := Lib.hid xs; have HR := Lib.hid hR
          clear hxs hR xs
          obtain ⟨_, c10, _, lx, _⟩ := XR.out.at_ HADX.out
          by_cases hjr : j < rM
          · have e1 : decide ((j : Int) < (rM : Int)) = true := by simp; omega
            have e2 : (j : Int) < (rM : Int) := by omega
            obtain ⟨adr, gr, har, hadr, lr, _, d0, d1, d2, df⟩ := XR.out.rel (k := j) (by rw [← HRM.out]; exact hjr)
            obtain ⟨W7, hW7⟩ : ∃ W, W = wr.setCell ⟨(adr.add (j * 4)).block, (adr.add (j * 4)).off + 2, none⟩ (.int .i64 0) := ⟨_, rfl⟩
            have X7 := Lib.hid (XR.out.set (k := j) (l := 2) (by rw [← HRM.out]; exact hjr) (by omega) har hadr { R j with sym := 0 } (.int .i64 0) rfl)
            rw [← hW7] at X7
            have HW7 := Lib.hid hW7
            have RJ := Lib.hid (show R j = xo.rl j by rw [HR.out, if_neg (by omega)])
            have hrm' := HRM.out
            rw [har, ← hrm'] at c10
            have HAR := Lib.hid har; have HADR := Lib.hid hadr
            clear hW7 har hadr hrm' d0
            go_upto_region 8 with fail
            rw [← HW7.out]
            clear c10 d1 d2 df lx lr HW7 XR
            obtain ⟨_, c10, _, lx, _⟩ := X7.out.at_ HADX.out
            obtain ⟨adr', gr', har', hadr', lr, _, d0, d1, d2, df⟩ := X7.out.rel (k := j) (by rw [← HRM.out]; exact hjr)
            obtain rfl : adr' = adr := by rw [HAR.out] at har'; exact (Option.some.inj har').symm
            have hrm' := HRM.out
            rw [HAR.out, ← hrm'] at c10
            rw [show (upd R j { R j with sym := 0 } j) = { R j with sym := 0 } from if_pos rfl] at d1
            dsimp only at d1
            by_cases h2 : (R j).ty = 2
            · rw [h2] at d1
              have X8 := Lib.hid (X7.out.set (k := j) (l := 1) (by rw [← HRM.out]; exact hjr) (by omega) har' hadr' (fixR (xo.rl j)) (.int .u32 1) (by
                rw [show (upd R j { R j with sym := 0 } j) = { R j with sym := 0 } from if_pos rfl, ← RJ.out]
                unfold fixR
                rw [if_pos h2]
                rfl))
              have RN : Hid (∀ t, upd (upd R j { R j with sym := 0 }) j (fixR (xo.rl j)) t = if t < j + 1 then fixR (xo.rl t) else xo.rl t) := Lib.hid fun t => by
                unfold upd
                by_cases e : t = j
                · rw [if_pos e, if_pos (by omega), e]
                · rw [if_neg e, if_neg e, HR.out]
                  by_cases e2 : t < j
                  · rw [if_pos e2, if_pos (by omega)]
                  · rw [if_neg e2, if_neg (by omega)]
              clear h2 har' hadr' d0 d2 hrm' RJ HR X7
              go_wp2_with fail
              go_roundw
              case rel => exact ⟨j + 1, by omega, by go_num, Lib.hid ⟨_, X8.out, RN.out⟩⟩
              case measure => simp [intOf]; omega
            · have q2 : (((R j).ty : Int) == 2) = false := by simp; omega
              have RN : Hid (∀ t, upd R j { R j with sym := 0 } t = if t < j + 1 then fixR (xo.rl t) else xo.rl t) := Lib.hid fun t => by
                unfold upd
                by_cases e : t = j
                · rw [if_pos e, if_pos (by omega), e, ← RJ.out]
                  unfold fixR
                  rw [if_neg h2]
                · rw [if_neg e, HR.out]
                  by_cases e2 : t < j
                  · rw [if_pos e2, if_pos (by omega)]
                  · rw [if_neg e2, if_neg (by omega)]
              generalize (R j).ty = ty at d1 q2
              clear h2 har' hadr' d0 d2 hrm' RJ HR
              go_wp2_with fail
              go_roundw
              case rel => exact ⟨j + 1, by omega, by go_num, Lib.hid ⟨_, X7.out, RN.out⟩⟩
              case measure => simp [intOf]; omega
          · obtain rfl : rM = j := by omega
            have e1 : decide ((rM : Int) < (rM : Int)) = false := by simp
            have hrm' := HRM.out
            rw [← hrm'] at c10
            have XF := Lib.hid (XR.out.congr (F := fun t => fixR (xo.rl t)) fun t ht => by rw [HR.out, if_pos (by rw [HRM.out]; exact ht)])
            clear hrm' XR HR hjr hj
            generalize wr = W7 at *
            go_wp2_with fail
            have RX := Lib.hid (show ObjR W7 W7.heap.size (some adx) 1 (fun _ => fixO xo) by rw [HADX.out]; exact XF.out.objs)
            have OKF := Lib.hid (fixO_ok HKX.out)
            have ROF := Lib.hid (fixO_room HZX.out)
            obtain ⟨E, hE⟩ : ∃ E, E = patE (fun _ => fixO xo) 1 := ⟨_, rfl⟩
            obtain ⟨N, hN⟩ : ∃ N, N = numP (fun _ => fixO xo) 1 := ⟨_, rfl⟩
            obtain ⟨PA, hPA⟩ : ∃ P, P = patF (fun _ => fixO xo) 1 := ⟨_, rfl⟩
            have hNR : N ≤ rM := by rw [hN, HRM.out]; exact numP_le (fixO xo)
            have ROW : Hid (∀ (w W' : World) e, PaP w (fun _ => fixO xo) 1 e W' → ∃ A c, e = .returned (.tuple #[.slice A N c, .int .i64 E]) ∧ Lay.StR W' W'.heap.size 3 A N (fun k => (PA k).cs) ∧ N ≤ maxLen ∧ Below w.heap.size w W') := Lib.hid fun w W' e h => by rw [hE, hN, hPA]; exact h.rows
            have HE := Lib.hid hE; have HN := Lib.hid hN; have HPA := Lib.hid hPA
            clear hE hN hPA
            refine (patches_any (some adx) 1 c7 (fun _ => fixO xo) W7 RX.out (fun _ => OKF.out.sg) (fun _ => OKF.out.rl)).mono ?_
            rintro e W8 hp
            obtain ⟨A9, c9, rfl, s9, hNl, b8⟩ := ROW.out _ _ _ hp
            have S9 := Lib.hid s9
            have X8 := Lib.hid (XF.out.next b8)
            have R8 := Lib.hid ((RX.out.below b8).more b8.size)
            have B8 := Lib.hid (B5.out.trans (X8.out.bl.mono B5.out.size))
            clear hp s9 b8 XF RX ROW c10 lx e1
            go_wp2_with fail
            refine (twins_any (some adx) 1 c7 (fun _ => fixO xo) W8 R8.out (by omega) (fun _ => ROF.out)).mono ?_
            rintro e W9 ⟨A11, c11, OY, rfl, tw⟩
            have Y9 := Lib.hid tw.xs
            have SY := Lib.hid (show SameD (fixO xo) (OY 0) from tw.al 0)
            obtain ⟨gy, rfl⟩ := Y9.out.addr
            clear tw
            generalize OY 0 = yo at Y9 SY
            obtain ⟨ady, hady⟩ : ∃ x, x = (⟨gy, 0, none⟩ : Addr) := ⟨_, rfl⟩
            rw [← hady]
            have HADY := Lib.hid hady
            clear hady
            obtain ⟨cy1, _, fy1, ly, _⟩ := Y9.out.at_ HADY.out
            obtain ⟨b, hb⟩ : ∃ b : Nat, IntKind.u64.wrap ((yo.base : Int) + (far : Int)) = (b : Int) := ⟨(IntKind.u64.wrap ((yo.base : Int) + (far : Int))).toNat, (Int.toNat_of_nonneg (by rw [u64_wrap]; exact Int.emod_nonneg _ (by unfold M Lay.M; decide))).symm⟩
            have HB := Lib.hid hb
            obtain ⟨W10, hW10⟩ : ∃ W, W = W9.setCell ⟨ady.block, ady.off + 1, none⟩ (.int .u64 b) := ⟨_, rfl⟩
            have Y10 := Lib.hid (Y9.out.rebase HADY.out b)
            rw [← hW10] at Y10
            have HW10 := Lib.hid hW10
            clear hW10
            generalize yo.base = yb at cy1 hb
            go_upto_region 13 with fail
            rw [← HW10.out]
            clear cy1 fy1 ly hb HW10 Y9
            have B10 := Lib.hid (B8.out.trans (Y10.out.bl.mono B8.out.size))
            have HM8 := Lib.hid (show m2 ≤ 20 by omega)
            go_wp2_with fail
            refine (twins_any A2 m2 c2 O2 W10 ((H2.out.below B10.out).more B10.out.size) HM8.out HZ2.out).mono ?_
            rintro e W11 ⟨A12, c12, OM, rfl, tw⟩
            have N0 := Lib.hid tw.ns
            have OKM := Lib.hid (fun i => (tw.al i).ok (HK2.out i))
            clear tw
            go_wp2_with fail
            go_loopw [13] (fun v13 wr => ∃ j : Nat, j ≤ m2 ∧ v13 = .int .i64 j ∧ Hid (NS W10 OM m2 j (.slice A12 m2 c12) wr)) (fun v13 _ => m2 - (intOf v13).toNat)
            case atStart => exact ⟨0, Nat.zero_le _, rfl, N0⟩
            case round =>
              clear N0
              obtain ⟨j, hj, rfl, ns⟩ := hrel
              by_cases hjm : j < m2
              · have e1 : decide ((j : Int) < (m2 : Int)) = true := by simp; omega
                have e2 : (j : Int) < (m2 : Int) := by omega
                obtain ⟨gm, cap, hva, _, _⟩ := ns.out.ow.form (by omega)
                obtain rfl : A12 = some ⟨gm, 0, none⟩ := by injection hva
                obtain ⟨adm, hadm⟩ : ∃ x, x = (⟨gm, 0, none⟩ : Addr) := ⟨_, rfl⟩
                obtain ⟨⟨u, hu⟩, hfz, hpe, hlt, _⟩ := ns.out.at_ hadm hjm
                have NX := Lib.hid (ns.out.store hjm)
                rw [← hpe, ← hadm] at NX
                rw [← hadm]
                clear hva hadm hpe
                go_wp2_with fail
                go_roundw
                case rel => exact ⟨j + 1, by omega, by go_num, NX⟩
                case measure => simp [intOf]; omega
              · obtain rfl : m2 = j := by omega
                have e1 : decide ((m2 : Int) < (m2 : Int)) = false := by simp
                have Y12 := Lib.hid (Y10.out.next ns.out.bl)
                generalize wr = W12 at *
                obtain ⟨xs, hxs⟩ : ∃ x, x = flatG (objF (nilO OM m2)) m2 := ⟨_, rfl⟩
                obtain ⟨ycs, hycs⟩ : ∃ x, x = ({ yo with base := b } : ObjD).cs.toList := ⟨_, rfl⟩
                have RDM : Hid (Reads W12 W12.heap.size 11 A12 m2 xs) := Lib.hid (by rw [hxs]; exact Reads.of_own ns.out.ow)
                have X1 : Hid (∀ u ∈ xs, u.oneCell' = true) := Lib.hid (by rw [hxs]; exact objF_one _ _)
                have OWY : Hid (W12.ownsRow W8.heap.size 50 11 (.slice (some ady) 1 c11) 1 ycs) := Lib.hid (by rw [hycs, HADY.out]; exact Y12.out.ow)
                obtain ⟨Y, hYY⟩ : ∃ Y, Y = consO { yo with base := b } (nilA OM) := ⟨_, rfl⟩
                have JN : Hid (∀ v' W', W'.ownsRow W8.heap.size 50 11 v' (1 + m2) (ycs ++ xs) → W12.grownBy W' (Value.slice (some ady) 1 c11).ownBlock → ∃ A' c', v' = .slice A' (1 + m2) c' ∧ ObjR W' W'.heap.size A' (1 + m2) Y ∧ Below W8.heap.size W8 W') := Lib.hid fun v' W' ho hg => by
                  obtain ⟨A', c', rfl⟩ := ownsRow_val ho
                  rw [hxs, hycs] at ho
                  rw [HADY.out] at hg
                  refine ⟨A', c', rfl, by rw [hYY]; exact XS.joined Y12.out ns.out ho hg, Y12.out.bl.trans (below_own hg Y12.out.bl.size fun k hk => (Y12.out.ow.lt k hk).1)⟩
                have hz8 := Y12.out.bl.size
                obtain ⟨E', hE'⟩ : ∃ E, E = patE Y (1 + m2) := ⟨_, rfl⟩
                obtain ⟨N', hN'⟩ : ∃ N, N = numP Y (1 + m2) := ⟨_, rfl⟩
                obtain ⟨PB, hPB⟩ : ∃ P, P = patF Y (1 + m2) := ⟨_, rfl⟩
                have ROW : Hid (∀ (w W' : World) e, PaP w Y (1 + m2) e W' → ∃ A c, e = .returned (.tuple #[.slice A N' c, .int .i64 E']) ∧ Lay.StR W' W'.heap.size 3 A N' (fun k => (PB k).cs) ∧ N' ≤ maxLen ∧ Below w.heap.size w W') := Lib.hid fun w W' e h => by rw [hE', hN', hPB]; exact h.rows
                have FY := Lib.hid (show (∀ i k, ((Y i).sg k).fits) ∧ fitsR Y by
                  rw [hYY]
                  refine cons_fits ?_ OKM.out
                  have := SY.out.ok OKF.out
                  exact ⟨this.sg, this.nm, this.rl, by
                    show b < M
                    have hw := HB.out
                    rw [u64_wrap] at hw
                    have := Int.emod_lt_of_pos ((yo.base : Int) + (far : Int)) (show (0 : Int) < (M : Int) by unfold M Lay.M; decide)
                    rw [hw] at this
                    exact Int.ofNat_lt.1 this⟩)
                have LAW : Hid (¬ (E' = 1 ∧ 0 < m2) → E' = E ∧ N' = N ∧ ∀ k, k < N → PatM far ((fixO xo).rl k).ty (PA k) (PB k)) := Lib.hid fun hc => by
                  rw [hE'] at hc ⊢
                  rw [hN', hPB, HE.out, HN.out, HPA.out]
                  obtain ⟨l1, l2, _, l4⟩ := moved_law (far := far) (o := fixO xo) (SY.out.moved b (by rw [← HB.out, SY.out.facts.1])) (fun k => ⟨rfl, fixR_ty _⟩) Y (by rw [hYY]; rfl) (fun i => by rw [hYY]; rfl) m2 hm8 hc
                  exact ⟨l1, l2, l4⟩
                have Z12 := Lib.hid (show W8.heap.size ≤ W12.heap.size from hz8)
                clear hxs hycs hYY hE' hN' hPB Y10 Y12 ns hjm hj
                go_wp2_with (at_builtin; refine wpList_append_any _ rfl (.tmp 101) (.tmp 102) _ rfl W8.heap.size 50 i0 _ 11 168 Try.underlying22 hi0 hz0 hz1 hz2' rfl (by omega) (.slice (some ady) 1 c11) 1 ycs rfl OWY.out W12.heap.size A12 m2 c12 xs rfl RDM.out X1.out (by simp only [maxLen]; omega) (by omega) hz8 ?_; intro v4 W13 hown hg hat; obtain ⟨A14, c14, rfl, JO, BJ⟩ := JN.out _ _ hown hg; clear hown hg hat)
                have JO' := Lib.hid JO
                have BJ' := Lib.hid BJ
                clear JO BJ RDM X1 OWY JN hz8
                refine (patches_any A14 (1 + m2) c14 Y W13 JO'.out FY.out.1 FY.out.2).mono ?_
                rintro e W14 hp
                obtain ⟨A15, c15, rfl, s15, _, b14⟩ := ROW.out _ _ _ hp
                have S15 := Lib.hid s15
                have B14 := Lib.hid (BJ'.out.trans (b14.mono BJ'.out.size))
                have S9' := Lib.hid ((S9.out.below B14.out).more B14.out.size)
                have X14 := Lib.hid (X8.out.next B14.out)
                have BW := Lib.hid (B8.out.trans (B14.out.mono B8.out.size))
                clear hp s15 b14 ROW JO' BJ' S9 X8 B14 B8 B10 FY e1
                have hcs : (E' = 1 ∧ 0 < m2) ∨ ¬ (E' = 1 ∧ 0 < m2) := Classical.em _
                rcases hcs with ⟨h1, h2⟩ | hcs
                · have t1 : (E' == 1) = true := by simp [h1]
                  have t2 : decide ((0 : Int) < (m2 : Int)) = true := by simp; omega
                  have t2n : decide (0 < m2) = true := by simp; omega
                  clear h1 h2
                  go_wp2_with fail
                  refine (works_any _).mono ?_
                  rintro e Wz ⟨rfl, bz⟩
                  have BZ := Lib.hid ((BW.out).trans (bz.mono (BW.out).size))
                  clear bz
                  go_wp2_with fail
                  go_ret
                  exact ⟨rfl, BZ.out⟩
                · have hbs : (E' == 1) = false ∨ ((E' == 1) = true ∧ decide ((0 : Int) < (m2 : Int)) = false ∧ decide (0 < m2) = false) := by
                    by_cases h1 : E' = 1
                    · have h2 : ¬ 0 < m2 := fun h => hcs ⟨h1, h⟩
                      exact .inr ⟨by simp [h1], by simp; omega, by simp; omega⟩
                    · exact .inl (by simp [h1])
                  obtain ⟨hEE, hNN, hPP⟩ := LAW.out hcs
                  have HP := Lib.hid hPP
                  clear hPP hcs LAW
                  subst hEE hNN
                  have t3 : (E' != E') = false := by simp
                  have t4 : ((N' : Int) != (N' : Int)) = false := by simp
                  rcases hbs with t1 | ⟨t1, t2, t2n⟩
                  all_goals
                    go_wp2_with fail
                    go_loopw [16] (fun v16 wr => ∃ k p : Nat, k ≤ N' ∧ v16 = .int .i64 k ∧ wr = W14.drewN p) (fun v16 _ => N' - (intOf v16).toNat)
                    case atStart => exact ⟨0, 0, Nat.zero_le _, rfl, rfl⟩
                    case round =>
                      obtain ⟨k, p, hk, rfl, rfl⟩ := hrel
                      by_cases hkn : k < N'
                      · have e1 : decide ((k : Int) < (N' : Int)) = true := by simp; omega
                        have e2 : (k : Int) < (N' : Int) := by omega
                        obtain ⟨ada, rfl, _, a0, a1, a2⟩ := pat_cells S9'.out hkn
                        obtain ⟨adb, rfl, _, b0, b1, b2⟩ := pat_cells S15.out hkn
                        obtain ⟨_, c10, _, lx, _⟩ := X14.out.at_ HADX.out
                        obtain ⟨adr, gr, har, hadr, lr, _, d0, d1, d2, df⟩ := X14.out.rel (k := k) (by rw [← HRM.out]; omega)
                        have hrm' := HRM.out
                        rw [har, ← hrm'] at c10
                        have e3 : (k : Int) < (rM : Int) := by omega
                        obtain ⟨m1, mm2, m3⟩ := HP.out k hkn
                        rw [show ((fixO xo).rl k).ty = (fixR (xo.rl k)).ty from rfl] at m3
                        generalize (fixR (xo.rl k)).ty = ty at d1 m3
                        generalize PA k = pa at a0 a1 a2 m1 mm2 m3
                        generalize PB k = pb at b0 b1 b2 m1 mm2 m3
                        obtain ⟨pa0, pa1, pa2⟩ := pa
                        obtain ⟨pb0, pb1, pb2⟩ := pb
                        dsimp only at a0 a1 a2 b0 b1 b2 m1 mm2 m3
                        subst mm2
                        have w1 := m1.symm
                        have u1 : (pb0 != pb0) = false := by simp
                        have u2 : (pb1 != pb1) = false := by simp
                        have u3 : (pb2 != pb2) = false := by simp
                        clear d0 d2 df har hadr hrm' m1
                        by_cases h8 : ty = 8
                        · have q8 : ((ty : Int) == 8) = true := by simp; omega
                          rw [if_pos h8] at m3
                          have w2 := m3.symm
                          clear h8 m3
                          go_wp2_with fail
                          go_quiet (fail)
                          go_wp2_with fail
                          go_roundw
                          case rel => exact ⟨k + 1, _, by omega, by go_num, by first | rfl | exact drewN_drewN _ _ _⟩
                          case measure => simp [intOf]; omega
                        · have q8 : ((ty : Int) == 8) = false := by simp; omega
                          rw [if_neg h8] at m3
                          subst m3
                          clear h8
                          go_wp2_with fail
                          go_quiet (fail)
                          go_wp2_with fail
                          go_roundw
                          case rel => exact ⟨k + 1, _, by omega, by go_num, by first | rfl | exact drewN_drewN _ _ _⟩
                          case measure => simp [intOf]; omega
                      · obtain rfl : k = N' := by omega
                        have e1 : decide ((k : Int) < (k : Int)) = false := by simp
                        go_wp2_with fail
                        refine (works_any _).mono ?_
                        rintro e Wz ⟨rfl, bz⟩
                        have BZ := Lib.hid ((below_drewN BW.out p).trans (bz.mono (below_drewN BW.out p).size))
                        clear bz
                        go_wp2_with fail
                        go_ret
                        exact ⟨rfl, BZ.out⟩
      · have t8 : decide ((8 : Int) < (m2 : Int)) = true := by simp; omega
        go_wp2_with fail
        refine (works_any _).mono ?_
        rintro e Wz ⟨rfl, bz⟩
        have BZ := Lib.hid ((B4.out).trans (bz.mono (B4.out).size))
        clear bz
        go_wp2_with fail
        go_ret
        exact ⟨rfl, BZ.out⟩
end Go.Proofs.Ytlenjpgkmikgpaa
