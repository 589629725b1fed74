import Derived.Test.YtlenjpgkmikgpaaLZ8
namespace Go.Proofs.Ytlenjpgkmikgpaa.Lay
open Go.RowKit Go.Shelf Go.Hos
set_option linter.unusedVariables false
attribute [local go_sem] Oper.semAt_some
set_option maxRecDepth 100000 in
set_option maxHeartbeats 8000000 in
theorem right_in3 (F : Fence) (hW : Wide F) (ino : Int) (base : Nat) (en ph : Int) (gA nA sA rA : Option Addr) (gM gQ nM nQ sM sQ rM rQ : Nat) (so rn : ByteArray) (sg : Nat → SegD) (w : World) (hS : StR w w.heap.size 6 gA gM (segC sg)) (hf : ∀ k, (sg k).fits) (h0 : 0 ≤ ino) (h8 : gM ≤ 8) :
    CallsIn F 8 Try.prog 25 #[.agg #[.int .i64 ino, .int .u64 base, .int .u16 3, .int .u64 en, .int .u64 ph, .slice gA gM gQ, .slice nA nM nQ, .string so, .string rn, .slice sA sM sQ, .slice rA rM rQ]] w fun e W' => e = .returned (.bool ((stR 4294967296 (lds sg gM)).1 && !(lds sg gM).isEmpty)) ∧ Below w.heap.size w W' := by
  have hFn := hW.fn; have hro := hW.ro
  have HS := Lib.hid hS; have HF := Lib.hid hf; have HW := Lib.hid hW
  clear hS hf hW
  have g1 : decide (ino < 0) = false := by simp; omega
  have g2 : decide ((8 : Int) < (gM : Int)) = false := by simp; omega
  have g3 : ¬ ino < 0 := by omega
  have g4 : ¬ (8 : Int) < (gM : Int) := by omega
  have hmx : gM ≤ maxLen := by simp only [maxLen]; omega
  refine callsIn_of_wp_marks Try.func25 rfl (hFn 25) ?_ hro
  simp only [Try.ntmps25, List.size_toArray, List.length_cons, List.length_nil, Nat.reduceAdd, Nat.reduceSub, Array.replicate_succ, Array.replicate_zero, List.push_toArray, List.append_toArray, List.nil_append, List.cons_append]
  gi_wp2_with (gi_at_call 34; refine (ploads_in F _ (hFn 34) hro _ _).mono ?_; rintro e w' ⟨rfl, rfl⟩)
  have b2 : Boxed ((((((w.alloc (.cells #[.int .i64 ino, .int .u64 base, .int .u16 3, .int .u64 en, .int .u64 ph, .slice gA gM gQ, .slice nA nM nQ, .string so, .string rn, .slice sA sM sQ, .slice rA rM rQ] 50)).alloc (.cells #[.bool false] 4)).alloc (.cells #[.int .u64 4294967296] 35)).alloc (.cells #[.int .u64 0] 35)).alloc (.cells #[.bool false] 4)).alloc (.cells #[.int .i64 ino, .int .u64 base, .int .u16 3, .int .u64 en, .int .u64 ph, .slice gA gM gQ, .slice nA nM nQ, .string so, .string rn, .slice sA sM sQ, .slice rA rM rQ] 50)) (w.heap.size + 1) 4 (.bool false) := by
    have := ((((Boxed.new (w.alloc (.cells #[.int .i64 ino, .int .u64 base, .int .u16 3, .int .u64 en, .int .u64 ph, .slice gA gM gQ, .slice nA nM nQ, .string so, .string rn, .slice sA sM sQ, .slice rA rM rQ] 50)) 4 (.bool false)).alloc (.cells #[.int .u64 4294967296] 35)).alloc (.cells #[.int .u64 0] 35)).alloc (.cells #[.bool false] 4)).alloc (.cells #[.int .i64 ino, .int .u64 base, .int .u16 3, .int .u64 en, .int .u64 ph, .slice gA gM gQ, .slice nA nM nQ, .string so, .string rn, .slice sA sM sQ, .slice rA rM rQ] 50)
    simpa only [World.size_alloc] using this
  have b3 : Boxed ((((((w.alloc (.cells #[.int .i64 ino, .int .u64 base, .int .u16 3, .int .u64 en, .int .u64 ph, .slice gA gM gQ, .slice nA nM nQ, .string so, .string rn, .slice sA sM sQ, .slice rA rM rQ] 50)).alloc (.cells #[.bool false] 4)).alloc (.cells #[.int .u64 4294967296] 35)).alloc (.cells #[.int .u64 0] 35)).alloc (.cells #[.bool false] 4)).alloc (.cells #[.int .i64 ino, .int .u64 base, .int .u16 3, .int .u64 en, .int .u64 ph, .slice gA gM gQ, .slice nA nM nQ, .string so, .string rn, .slice sA sM sQ, .slice rA rM rQ] 50)) (w.heap.size + 1 + 1) 35 (.int .u64 4294967296) := by
    have := (((Boxed.new ((w.alloc (.cells #[.int .i64 ino, .int .u64 base, .int .u16 3, .int .u64 en, .int .u64 ph, .slice gA gM gQ, .slice nA nM nQ, .string so, .string rn, .slice sA sM sQ, .slice rA rM rQ] 50)).alloc (.cells #[.bool false] 4)) 35 (.int .u64 4294967296)).alloc (.cells #[.int .u64 0] 35)).alloc (.cells #[.bool false] 4)).alloc (.cells #[.int .i64 ino, .int .u64 base, .int .u16 3, .int .u64 en, .int .u64 ph, .slice gA gM gQ, .slice nA nM nQ, .string so, .string rn, .slice sA sM sQ, .slice rA rM rQ] 50)
    simpa only [World.size_alloc] using this
  have b4 : Boxed ((((((w.alloc (.cells #[.int .i64 ino, .int .u64 base, .int .u16 3, .int .u64 en, .int .u64 ph, .slice gA gM gQ, .slice nA nM nQ, .string so, .string rn, .slice sA sM sQ, .slice rA rM rQ] 50)).alloc (.cells #[.bool false] 4)).alloc (.cells #[.int .u64 4294967296] 35)).alloc (.cells #[.int .u64 0] 35)).alloc (.cells #[.bool false] 4)).alloc (.cells #[.int .i64 ino, .int .u64 base, .int .u16 3, .int .u64 en, .int .u64 ph, .slice gA gM gQ, .slice nA nM nQ, .string so, .string rn, .slice sA sM sQ, .slice rA rM rQ] 50)) (w.heap.size + 1 + 1 + 1) 35 (.int .u64 0) := by
    have := ((Boxed.new (((w.alloc (.cells #[.int .i64 ino, .int .u64 base, .int .u16 3, .int .u64 en, .int .u64 ph, .slice gA gM gQ, .slice nA nM nQ, .string so, .string rn, .slice sA sM sQ, .slice rA rM rQ] 50)).alloc (.cells #[.bool false] 4)).alloc (.cells #[.int .u64 4294967296] 35)) 35 (.int .u64 0)).alloc (.cells #[.bool false] 4)).alloc (.cells #[.int .i64 ino, .int .u64 base, .int .u16 3, .int .u64 en, .int .u64 ph, .slice gA gM gQ, .slice nA nM nQ, .string so, .string rn, .slice sA sM sQ, .slice rA rM rQ] 50)
    simpa only [World.size_alloc] using this
  have b5 : Boxed ((((((w.alloc (.cells #[.int .i64 ino, .int .u64 base, .int .u16 3, .int .u64 en, .int .u64 ph, .slice gA gM gQ, .slice nA nM nQ, .string so, .string rn, .slice sA sM sQ, .slice rA rM rQ] 50)).alloc (.cells #[.bool false] 4)).alloc (.cells #[.int .u64 4294967296] 35)).alloc (.cells #[.int .u64 0] 35)).alloc (.cells #[.bool false] 4)).alloc (.cells #[.int .i64 ino, .int .u64 base, .int .u16 3, .int .u64 en, .int .u64 ph, .slice gA gM gQ, .slice nA nM nQ, .string so, .string rn, .slice sA sM sQ, .slice rA rM rQ] 50)) (w.heap.size + 1 + 1 + 1 + 1) 4 (.bool false) := by
    have := (Boxed.new ((((w.alloc (.cells #[.int .i64 ino, .int .u64 base, .int .u16 3, .int .u64 en, .int .u64 ph, .slice gA gM gQ, .slice nA nM nQ, .string so, .string rn, .slice sA sM sQ, .slice rA rM rQ] 50)).alloc (.cells #[.bool false] 4)).alloc (.cells #[.int .u64 4294967296] 35)).alloc (.cells #[.int .u64 0] 35)) 4 (.bool false)).alloc (.cells #[.int .i64 ino, .int .u64 base, .int .u16 3, .int .u64 en, .int .u64 ph, .slice gA gM gQ, .slice nA nM nQ, .string so, .string rn, .slice sA sM sQ, .slice rA rM rQ] 50)
    simpa only [World.size_alloc] using this
  have bL : ((((((w.alloc (.cells #[.int .i64 ino, .int .u64 base, .int .u16 3, .int .u64 en, .int .u64 ph, .slice gA gM gQ, .slice nA nM nQ, .string so, .string rn, .slice sA sM sQ, .slice rA rM rQ] 50)).alloc (.cells #[.bool false] 4)).alloc (.cells #[.int .u64 4294967296] 35)).alloc (.cells #[.int .u64 0] 35)).alloc (.cells #[.bool false] 4)).alloc (.cells #[.int .i64 ino, .int .u64 base, .int .u16 3, .int .u64 en, .int .u64 ph, .slice gA gM gQ, .slice nA nM nQ, .string so, .string rn, .slice sA sM sQ, .slice rA rM rQ] 50)).cell? ⟨w.heap.size + 1 + 1 + 1 + 1 + 1, 5, none⟩ = some (.slice gA gM gQ) := ((blk_at (w := (((((w.alloc (.cells #[.int .i64 ino, .int .u64 base, .int .u16 3, .int .u64 en, .int .u64 ph, .slice gA gM gQ, .slice nA nM nQ, .string so, .string rn, .slice sA sM sQ, .slice rA rM rQ] 50)).alloc (.cells #[.bool false] 4)).alloc (.cells #[.int .u64 4294967296] 35)).alloc (.cells #[.int .u64 0] 35)).alloc (.cells #[.bool false] 4))) 50 #[.int .i64 ino, .int .u64 base, .int .u16 3, .int .u64 en, .int .u64 ph, .slice gA gM gQ, .slice nA nM nQ, .string so, .string rn, .slice sA sM sQ, .slice rA rM rQ] (by simp)).cell 5).trans rfl
  have hB0 : Below w.heap.size w ((((((w.alloc (.cells #[.int .i64 ino, .int .u64 base, .int .u16 3, .int .u64 en, .int .u64 ph, .slice gA gM gQ, .slice nA nM nQ, .string so, .string rn, .slice sA sM sQ, .slice rA rM rQ] 50)).alloc (.cells #[.bool false] 4)).alloc (.cells #[.int .u64 4294967296] 35)).alloc (.cells #[.int .u64 0] 35)).alloc (.cells #[.bool false] 4)).alloc (.cells #[.int .i64 ino, .int .u64 base, .int .u16 3, .int .u64 en, .int .u64 ph, .slice gA gM gQ, .slice nA nM nQ, .string so, .string rn, .slice sA sM sQ, .slice rA rM rQ] 50)) := ((((((Below.refl _ w).alloc (Nat.le_refl _) _).alloc (by simp) _).alloc (by simp; omega) _).alloc (by simp; omega) _).alloc (by simp; omega) _).alloc (by simp; omega) _
  have hsz : ((((((w.alloc (.cells #[.int .i64 ino, .int .u64 base, .int .u16 3, .int .u64 en, .int .u64 ph, .slice gA gM gQ, .slice nA nM nQ, .string so, .string rn, .slice sA sM sQ, .slice rA rM rQ] 50)).alloc (.cells #[.bool false] 4)).alloc (.cells #[.int .u64 4294967296] 35)).alloc (.cells #[.int .u64 0] 35)).alloc (.cells #[.bool false] 4)).alloc (.cells #[.int .i64 ino, .int .u64 base, .int .u16 3, .int .u64 en, .int .u64 ph, .slice gA gM gQ, .slice nA nM nQ, .string so, .string rn, .slice sA sM sQ, .slice rA rM rQ] 50)).heap.size = w.heap.size + 1 + 1 + 1 + 1 + 1 + 1 := by simp
  obtain ⟨W0, hW0⟩ : ∃ W0, ((((((w.alloc (.cells #[.int .i64 ino, .int .u64 base, .int .u16 3, .int .u64 en, .int .u64 ph, .slice gA gM gQ, .slice nA nM nQ, .string so, .string rn, .slice sA sM sQ, .slice rA rM rQ] 50)).alloc (.cells #[.bool false] 4)).alloc (.cells #[.int .u64 4294967296] 35)).alloc (.cells #[.int .u64 0] 35)).alloc (.cells #[.bool false] 4)).alloc (.cells #[.int .i64 ino, .int .u64 base, .int .u16 3, .int .u64 en, .int .u64 ph, .slice gA gM gQ, .slice nA nM nQ, .string so, .string rn, .slice sA sM sQ, .slice rA rM rQ] 50)) = W0 := ⟨_, rfl⟩
  rw [hW0] at b2 b3 b4 b5 bL hB0 hsz ⊢
  clear hW0
  refine wpIn_rangeFunc_ownH hro (by omega) (gf := 44) (lb := #[.pointer (some ⟨w.heap.size + 1 + 1 + 1 + 1 + 1, 0, none⟩)]) rfl (hFn 44) (enters_of Try.func44 (by kernel_rfl) rfl)
    (loads_stops F (8 - 1) (hFn 44) hro (by omega) (w.heap.size + 1 + 1 + 1 + 1 + 1) w.heap.size gM gQ gA sg W0 (by omega) (by omega) bL (HS.out.below hB0) hmx) belowK_t (belowK_b (by omega)) (Below.refl _ _) (fun _ => rfl)
    (RTI w 4294967296 sg) (RTX w 4294967296 sg) (RTI.own w 4294967296 _ sg (by omega)) (RTX.own w 4294967296 _ sg (by omega))
    ⟨rfl, b2, b3, b4, b5, hB0⟩
    (fun x a' W => ∃ Bs q0 q7 q8 q9 q10 q11 q12 q13 q14 q15 q16 q17 q18 q19 q20 q21 q22 q23 q24 q25, w.heap.size + 4 < Bs ∧ Blk W Bs 67 (sg x).cs ∧ a' = { tmps := #[q0, .pointer (some ⟨w.heap.size, 0, none⟩), .pointer (some ⟨w.heap.size + 1, 0, none⟩), .pointer (some ⟨w.heap.size + 1 + 1, 0, none⟩), .pointer (some ⟨w.heap.size + 1 + 1 + 1, 0, none⟩), .pointer (some ⟨w.heap.size + 1 + 1 + 1 + 1, 0, none⟩), .pointer (some ⟨Bs, 0, none⟩), q7, q8, q9, q10, q11, q12, q13, q14, q15, q16, q17, q18, q19, q20, q21, q22, q23, q24, q25, .agg (sg x).cs, undef, undef, undef, undef, undef, undef, undef, undef, undef, undef, undef, undef, undef, undef, undef, undef, undef, undef, undef, undef, undef, undef, undef, undef, undef, undef, undef, undef, undef, undef, undef, undef, undef, undef, undef, undef, undef, undef, undef, undef, undef, undef, undef, undef, undef], defers := [] })
    (fun x a' _ X Y row hs hg hr => by obtain ⟨Bs, q0, q7, q8, q9, q10, q11, q12, q13, q14, q15, q16, q17, q18, q19, q20, q21, q22, q23, q24, q25, r1, r2, r3⟩ := hs; exact ⟨Bs, q0, q7, q8, q9, q10, q11, q12, q13, q14, q15, q16, q17, q18, q19, q20, q21, q22, q23, q24, q25, r1, blk_grown r2 hg (fun r e => (hr r e).2), r3⟩)
    ?assign ?body ?done ?stop
  case assign =>
    rintro l pre x W K hi hK
    have HI := Lib.hid hi
    have hsW := hi.b5.lt
    have hK2 := Lib.hid hK
    obtain ⟨s, hs⟩ : ∃ s, s = sg x := ⟨_, rfl⟩
    have HSS := Lib.hid hs
    rw [show encS sg x = #[.agg s.cs] by rw [hs]; rfl]
    obtain ⟨kd, fl, off, addr, fsz, msz⟩ := s
    unfold SegD.cs
    dsimp only
    clear hi hK hs
    gi_wp2
    have hO := RTI.own w 4294967296 W0.heap.size sg (by omega)
    refine hK2.out _ _ ((KeepsOthers.alloc _ _).from _) ((Below.refl _ W).alloc HI.out.bl.size _) (hO.alloc _ HI.out) ⟨W.heap.size, ?_⟩
    iterate 20 (apply Exists.intro)
    refine ⟨by omega, by rw [← HSS.out]; exact blk_at _ _ (by simp), ?_⟩
    rw [← HSS.out]; rfl
  case body =>
    rintro l pre x a' W hl ⟨r, hr⟩ hi ⟨Bs, q0, q7, q8, q9, q10, q11, q12, q13, q14, q15, q16, q17, q18, q19, q20, q21, q22, q23, q24, q25, hBs, qs, rfl⟩ hlt
    have HI := Lib.hid hi
    obtain ⟨s, hs⟩ : ∃ s, s = sg x := ⟨_, rfl⟩
    have hfit := HF.out x
    rw [← hs] at qs hfit ⊢
    have HSS := Lib.hid hs
    obtain ⟨kd, fl, off, addr, fsz, msz⟩ := s
    obtain ⟨m1, m2, m3, m4⟩ := hfit
    dsimp only at m1 m2 m3 m4
    have d1 : W.cell? ⟨Bs, 1, none⟩ = some (.int .u8 fl) := (qs.cell 1).trans rfl
    have d2 : W.cell? ⟨Bs, 2, none⟩ = some (.int .u64 off) := (qs.cell 2).trans rfl
    have d3 : W.cell? ⟨Bs, 3, none⟩ = some (.int .u64 addr) := (qs.cell 3).trans rfl
    have d4 : W.cell? ⟨Bs, 4, none⟩ = some (.int .u64 fsz) := (qs.cell 4).trans rfl
    have d5 : W.cell? ⟨Bs, 5, none⟩ = some (.int .u64 msz) := (qs.cell 5).trans rfl
    have e2 := hi.b2.cell; have e3 := hi.b3.cell; have e4 := hi.b4.cell; have e5 := hi.b5.cell
    have f2 := hi.b2.frozen; have f4 := hi.b4.frozen; have f5 := hi.b5.frozen
    have k3 : (4294967296 : Nat) < M := by unfold M; omega
    have k4 : (65536 : Nat) < M := by unfold M; omega
    obtain ⟨low, hlow⟩ : ∃ y, y = (stR 4294967296 (pre.map sg)).2 := ⟨_, rfl⟩
    rw [← hlow] at e4
    have HLO := Lib.hid hlow
    have hfol : Try.prog.follows Departure.mixedOrders = true := by kernel_rfl
    have lB := qs.lt
    have PRE : Hid (stR 4294967296 ((pre ++ [x]).map sg) = (okS 4294967296 low ⟨kd, fl, off, addr, fsz, msz⟩, upv (addr + msz))) := by
      refine Lib.hid ?_
      rw [List.map_append, List.map_singleton, stR_snoc, hi.ok, ← hlow, Bool.true_and, ← HSS.out]
    have EX : ∀ (ws : World), ws = W.setCell ⟨w.heap.size + 1, 0, none⟩ (.bool false) → okS 4294967296 low ⟨kd, fl, off, addr, fsz, msz⟩ = false → RTX w 4294967296 sg .ret (pre ++ [x]) ws := by
      rintro ws rfl hno
      refine ⟨rfl, ?_, HI.out.b2.set _, HI.out.bl.setCell (p := ⟨w.heap.size + 1, 0, none⟩) (by show w.heap.size ≤ w.heap.size + 1; omega) _⟩
      rw [PRE.out]; exact hno
    have HEX := Lib.hid EX
    obtain ⟨ro, hro1⟩ : ∃ y, y = off % 4096 := ⟨_, rfl⟩
    obtain ⟨ra, hra1⟩ : ∃ y, y = addr % 4096 := ⟨_, rfl⟩
    have tr1 : (off : Int).tmod 4096 = (ro : Int) := by rw [Int.tmod_eq_emod_of_nonneg (by omega)]; omega
    have tr2 : (addr : Int).tmod 4096 = (ra : Int) := by rw [Int.tmod_eq_emod_of_nonneg (by omega)]; omega
    have tr3 : (off : Int) % 4096 = (ro : Int) := by omega
    have tr4 : (addr : Int) % 4096 = (ra : Int) := by omega
    have HRO := Lib.hid hro1; have HRA := Lib.hid hra1
    obtain ⟨dd, hdd⟩ : ∃ y, y = dn addr := ⟨_, rfl⟩
    have HDD := Lib.hid hdd
    obtain ⟨sm, hsm⟩ : ∃ y, y = addr + msz := ⟨_, rfl⟩
    have HSM := Lib.hid hsm
    obtain ⟨uu, huu⟩ : ∃ y, y = upv sm := ⟨_, rfl⟩
    have HUU := Lib.hid huu
    clear hi qs hr hs hlow hro1 hra1 hdd hsm huu EX
    by_cases cA : 7 < fl
    · 
      have NO : okS 4294967296 low ⟨kd, fl, off, addr, fsz, msz⟩ = false := okS_no (by dsimp only; omega)
      have HNO := Lib.hid NO
      clear NO
      have fA : decide ((7 : Int) < (fl : Int)) = true := by simp; omega
      have fA2 :  (7 : Int) < (fl : Int) := by omega
      clear cA
      gi_wp2_with fail
      exact ⟨(KeepsOthers.setCell _ _ _).from _, HEX.out _ rfl HNO.out⟩
    have fA : decide ((7 : Int) < (fl : Int)) = false := by simp; omega
    have fA2 : ¬ (7 : Int) < (fl : Int) := by omega
    by_cases cB : msz = 0
    · 
      have NO : okS 4294967296 low ⟨kd, fl, off, addr, fsz, msz⟩ = false := okS_no (by dsimp only; omega)
      have HNO := Lib.hid NO
      clear NO
      have fB : ((msz : Int) == 0) = true := by simp; omega
      clear cA cB
      gi_wp2_with fail
      exact ⟨(KeepsOthers.setCell _ _ _).from _, HEX.out _ rfl HNO.out⟩
    have fB : ((msz : Int) == 0) = false := by simp; omega
    by_cases cC : msz < fsz
    · 
      have NO : okS 4294967296 low ⟨kd, fl, off, addr, fsz, msz⟩ = false := okS_no (by dsimp only; omega)
      have HNO := Lib.hid NO
      clear NO
      have fC : decide (msz < fsz) = true := by simp; omega
      have fC2 : decide ((msz : Int) < (fsz : Int)) = true := by simp; omega
      clear cA cB cC
      gi_wp2_with fail
      exact ⟨(KeepsOthers.setCell _ _ _).from _, HEX.out _ rfl HNO.out⟩
    have fC : decide (msz < fsz) = false := by simp; omega
    have fC2 : decide ((msz : Int) < (fsz : Int)) = false := by simp; omega
    by_cases cD : ¬ off + fsz ≤ 65536
    · 
      have NO : okS 4294967296 low ⟨kd, fl, off, addr, fsz, msz⟩ = false := okS_no (by dsimp only; omega)
      have HNO := Lib.hid NO
      clear NO
      clear cA cB cC
      gi_wp2_with (gi_at_call 35; refine (CallsIn.inRound l (HW.out.ca (fits_no off fsz 65536 _ m1 m3 k4 cD))).mono ?_; rintro e w' ⟨rfl, rfl⟩)
      exact ⟨(KeepsOthers.setCell _ _ _).from _, HEX.out _ rfl HNO.out⟩
    have cD := Decidable.not_not.1 cD
    by_cases cE : ¬ off % 4096 = addr % 4096
    · 
      have NO : okS 4294967296 low ⟨kd, fl, off, addr, fsz, msz⟩ = false := okS_no (by dsimp only; omega)
      have HNO := Lib.hid NO
      clear NO
      have fE : ((ro : Int) != (ra : Int)) = true := by have := HRO.out; have := HRA.out; simp; omega
      have fE2 : ((ro : Int) == (ra : Int)) = false := by have := HRO.out; have := HRA.out; simp; omega
      clear cA cB cC cE
      gi_wp2_with (gi_at_call 35; refine (CallsIn.inRound l (HW.out.ca (fits_yes off fsz 65536 _ m1 m3 k4 cD))).mono ?_; rintro e w' ⟨rfl, rfl⟩)
      exact ⟨(KeepsOthers.setCell _ _ _).from _, HEX.out _ rfl HNO.out⟩
    have cE := Decidable.not_not.1 cE
    have fE : ((ro : Int) != (ra : Int)) = false := by have := HRO.out; have := HRA.out; simp; omega
    have fE2 : ((ro : Int) == (ra : Int)) = true := by have := HRO.out; have := HRA.out; simp; omega
    by_cases cF : ¬ addr + msz ≤ 4294967296
    · 
      have NO : okS 4294967296 low ⟨kd, fl, off, addr, fsz, msz⟩ = false := okS_no (by dsimp only; omega)
      have HNO := Lib.hid NO
      clear NO
      clear cA cB cC cE
      gi_wp2_with (first | (gi_at_call 35; refine (CallsIn.inRound l (HW.out.ca (fits_yes off fsz 65536 _ m1 m3 k4 cD))).mono ?_; rintro e w' ⟨rfl, rfl⟩) | (gi_at_call 35; refine (CallsIn.inRound l (HW.out.ca (fits_no addr msz 4294967296 _ m2 m4 k3 cF))).mono ?_; rintro e w' ⟨rfl, rfl⟩))
      exact ⟨(KeepsOthers.setCell _ _ _).from _, HEX.out _ rfl HNO.out⟩
    have cF := Decidable.not_not.1 cF
    by_cases cG : dn addr < low
    · 
      have NO : okS 4294967296 low ⟨kd, fl, off, addr, fsz, msz⟩ = false := okS_no (by dsimp only; omega)
      have HNO := Lib.hid NO
      clear NO
      have fG : decide (dd < low) = true := by rw [← HDD.out] at cG; simp; omega
      have fG2 : decide ((dd : Int) < (low : Int)) = true := by rw [← HDD.out] at cG; simp; omega
      clear cA cB cC cE cG
      gi_wp2_with (first | (gi_at_call 35; refine (CallsIn.inRound l (HW.out.ca (fits_yes off fsz 65536 _ m1 m3 k4 cD))).mono ?_; rintro e w' ⟨rfl, rfl⟩) | (gi_at_call 35; refine (CallsIn.inRound l (HW.out.ca (fits_yes addr msz 4294967296 _ m2 m4 k3 cF))).mono ?_; rintro e w' ⟨rfl, rfl⟩))
      gi_region_with_o (gi_at_call 36; refine (CallsIn.inRound l (HW.out.ca (down_any addr _ m2))).mono ?_; rw [← HDD.out]; rintro e w' ⟨rfl, rfl⟩)
      all_goals gi_wp2_with fail
      all_goals exact ⟨((KeepsOthers.setCell _ _ _).trans (KeepsOthers.drew _)).from _, (RTX.drew (HEX.out _ rfl HNO.out))⟩
    have fG : decide (dd < low) = false := by rw [← HDD.out] at cG; simp; omega
    have fG2 : decide ((dd : Int) < (low : Int)) = false := by rw [← HDD.out] at cG; simp; omega
    have YES : okS 4294967296 low ⟨kd, fl, off, addr, fsz, msz⟩ = true := okS_yes (by dsimp only; omega)
    have HYES := Lib.hid YES
    have wsm : IntKind.u64.wrap ((addr : Int) + (msz : Int)) = (sm : Int) := by
      rw [show (addr : Int) + (msz : Int) = ((sm : Nat) : Int) by have := HSM.out; omega]; exact wrap_small (by have := HSM.out; unfold M; omega)
    have hsmM : Hid (sm < M) := Lib.hid (by have := HSM.out; unfold M; omega)
    clear YES cA cB cC cE cG
    gi_wp2_with (first | (gi_at_call 35; refine (CallsIn.inRound l (HW.out.ca (fits_yes off fsz 65536 _ m1 m3 k4 cD))).mono ?_; rintro e w' ⟨rfl, rfl⟩) | (gi_at_call 35; refine (CallsIn.inRound l (HW.out.ca (fits_yes addr msz 4294967296 _ m2 m4 k3 cF))).mono ?_; rintro e w' ⟨rfl, rfl⟩))
    gi_region_with_o (gi_at_call 36; refine (CallsIn.inRound l (HW.out.ca (down_any addr _ m2))).mono ?_; rw [← HDD.out]; rintro e w' ⟨rfl, rfl⟩)
    all_goals gi_wp2_with (gi_at_call 37; refine (CallsIn.inRound l (HW.out.ca (lup_any sm _ hsmM.out))).mono ?_; rw [← HUU.out]; rintro e w' ⟨rfl, rfl⟩)
    all_goals
      refine ⟨(((KeepsOthers.setCell _ _ _).trans (KeepsOthers.setCell _ _ _)).trans (KeepsOthers.drew _)).from _, ?_, ⟨by rw [PRE.out]; exact HYES.out, (HI.out.b2.other (by omega) _).other (by omega) _, (HI.out.b3.other (by omega) _).other (by omega) _, ?_, ?_, ?_⟩⟩
      · exact (((Below.refl _ W).setCell (p := ⟨w.heap.size + 1 + 1 + 1, 0, none⟩) (by show w.heap.size ≤ w.heap.size + 1 + 1 + 1; omega) _).setCell (p := ⟨w.heap.size + 1 + 1 + 1 + 1, 0, none⟩) (by show w.heap.size ≤ w.heap.size + 1 + 1 + 1 + 1; omega) _).drew
      · rw [PRE.out]
        dsimp only
        rw [← HSM.out, ← HUU.out]
        exact (HI.out.b4.set _).other (by omega) _
      · rw [snoc_not_empty]
        exact (HI.out.b5.other (by omega) _).set _
      · exact ((HI.out.bl.setCell (p := ⟨w.heap.size + 1 + 1 + 1, 0, none⟩) (by show w.heap.size ≤ w.heap.size + 1 + 1 + 1; omega) _).setCell (p := ⟨w.heap.size + 1 + 1 + 1 + 1, 0, none⟩) (by show w.heap.size ≤ w.heap.size + 1 + 1 + 1 + 1; omega) _).drew
  case done =>
    rintro D ys W hD rfl hi hK
    have HI := Lib.hid hi
    have HK := Lib.hid hK
    have e2 := hi.b2.cell; have e5 := hi.b5.cell
    have f2 := hi.b2.frozen
    obtain ⟨bb, hbb⟩ : ∃ y, y = !(ldx sg gM).isEmpty := ⟨_, rfl⟩
    rw [← hbb] at e5
    have HBB := Lib.hid hbb
    have RES : Hid (((stR 4294967296 (lds sg gM)).1 && !(lds sg gM).isEmpty) = bb) := Lib.hid (by rw [lds_ldx, hi.ok, Bool.true_and, hbb]; simp)
    clear hi hK hbb
    gi_wp2
    have hK' := (KeepsOthers.setCell W ⟨w.heap.size + 1, 0, none⟩ (.bool bb)).same D _ HK.out rfl
    refine ⟨by simp, .inl ⟨_, _, rfl, run_takeDeferred hK', ?_⟩⟩
    have c1 := (boxed_grown (HI.out.b2.set (.bool bb)) (grownBy_putObj' _ D (.deferred none)) (fun r e => by cases e; exact ⟨_, hK', rfl⟩)).cell
    refine ⟨.bool bb, ?_, by rw [RES.out], (HI.out.bl.setCell (p := ⟨w.heap.size + 1, 0, none⟩) (by show w.heap.size ≤ w.heap.size + 1; omega) _).trans (belowK_b (w := w) (Nat.le_refl _) _ D _ _ (by omega) hK' rfl rfl)⟩
    simp [results, Try.f25, go_sem, c1]
  case stop =>
    rintro D c pre W hD hpre hx hK
    obtain ⟨rfl, hno, hb2, hbl⟩ := hx
    have HK := Lib.hid hK
    have RES : Hid (((stR 4294967296 (lds sg gM)).1 && !(lds sg gM).isEmpty) = false) := Lib.hid (by
      rw [Bool.and_eq_false_iff]
      left
      rw [← Bool.not_eq_true]
      intro h
      have := stR_pre 4294967296 (a := pre.map sg) (b := lds sg gM) (by rw [lds_ldx]; exact hpre.map _) h
      rw [hno] at this; cases this)
    clear hpre hno hK
    gi_wp2
    refine ⟨by simp, .inl ⟨_, _, rfl, run_takeDeferred HK.out, ?_⟩⟩
    have c1 := (boxed_grown hb2 (grownBy_putObj' _ D (.deferred none)) (fun r e => by cases e; exact ⟨_, HK.out, rfl⟩)).cell
    refine ⟨.bool false, ?_, by rw [RES.out], hbl.trans (belowK_b (w := w) (Nat.le_refl _) _ D _ _ (by omega) HK.out rfl rfl)⟩
    simp [results, Try.f25, go_sem, c1]
end Go.Proofs.Ytlenjpgkmikgpaa.Lay
