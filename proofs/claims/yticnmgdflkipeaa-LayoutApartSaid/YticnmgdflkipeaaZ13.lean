import Derived.Test.YticnmgdflkipeaaZ10
import Derived.Test.YticnmgdflkipeaaZ11
namespace Go.Proofs.Yticnmgdflkipeaa
open Go.RowKit Go.Shelf Go.Hos
set_option linter.unusedVariables false
/-! plain facts of a right object -/
theorem _root_.Go.Hos.add0 (a : Addr) : a.add 0 = a := by unfold Addr.add; rw [if_pos rfl]
def spanA (o : ObjD) : Nat := spA (lds o.sg o.gM)
def spanZ (o : ObjD) : Nat := spZ (lds o.sg o.gM)
set_option maxRecDepth 20000 in
theorem upv_le {a en : Nat} (h : a ≤ en) (he : en ≤ 140737488355328) (h4 : en % 4096 = 0) : a ≤ upv a ∧ upv a ≤ en ∧ upv a % 4096 = 0 := by
  unfold upv dn M
  rw [if_pos (by omega)]
  omega
structure SpanOk (en : Nat) (l : List SegD) : Prop where
  lo : (stR en l).2 = spZ l
  lt : spA l < spZ l
  le : spZ l ≤ en
  za : spZ l % 4096 = 0
  aa : spA l % 4096 = 0
set_option maxRecDepth 20000 in
theorem span_ok {en : Nat} (he : en ≤ 140737488355328) (h4 : en % 4096 = 0) (l : List SegD) (h : (stR en l).1 = true) (n : Nat) : n < l.length → SpanOk en (l.take (n + 1)) := by
  induction n with
  | zero =>
    intro hn
    have h1 : (stR en (l.take (0 + 1))).1 = true := stR_pre en (List.take_prefix _ _) h
    have e1 := stR_take (en := en) hn
    rw [e1, Bool.and_eq_true] at h1
    obtain ⟨k1, k2, k3, k4, k5, k6, k7⟩ := okS_iff.1 h1.2
    have hz : spZ (l.take (0 + 1)) = upv ((fnS l 0).addr + (fnS l 0).msz) := by
      rw [take_fnS hn, spZ_snoc]
      unfold wsum; rw [Nat.mod_eq_of_lt (Nat.lt_of_le_of_lt (Nat.le_trans k6 he) (by unfold M; omega))]
    obtain ⟨u1, u2, u3⟩ := upv_le k6 he h4
    have hd := dn_le (fnS l 0).addr
    have hA : spA (l.take (0 + 1)) = dn (fnS l 0).addr := by rw [take_fnS hn]; rfl
    refine ⟨by rw [e1, hz], ?_, by omega, by omega, ?_⟩
    · rw [hA, hz]; omega
    · rw [hA]; unfold dn; omega
  | succ q ih =>
    intro hn
    have h1 : (stR en (l.take (q + 1 + 1))).1 = true := stR_pre en (List.take_prefix _ _) h
    have e1 := stR_take (en := en) hn
    rw [e1, Bool.and_eq_true] at h1
    obtain ⟨k1, k2, k3, k4, k5, k6, k7⟩ := okS_iff.1 h1.2
    have hz : spZ (l.take (q + 1 + 1)) = upv ((fnS l (q + 1)).addr + (fnS l (q + 1)).msz) := by
      rw [take_fnS hn, spZ_snoc]
      unfold wsum; rw [Nat.mod_eq_of_lt (Nat.lt_of_le_of_lt (Nat.le_trans k6 he) (by unfold M; omega))]
    obtain ⟨u1, u2, u3⟩ := upv_le k6 he h4
    have hd := dn_le (fnS l (q + 1)).addr
    have ih := ih (by omega)
    have hne : (l.take (q + 1)).isEmpty = false := by
      cases l with
      | nil => simp at hn
      | cons a r => rfl
    have hA : spA (l.take (q + 1 + 1)) = spA (l.take (q + 1)) := by rw [take_fnS hn, spA_snoc _ _ hne]
    have := ih.lo; have := ih.lt
    refine ⟨by rw [e1, hz], ?_, by omega, by omega, ?_⟩
    · rw [hA, hz]; omega
    · rw [hA]; exact ih.aa
theorem right_parts {o : ObjD} (h : rightB o = true) : 0 ≤ o.ino ∧ o.gM ≤ 8 ∧ (o.ty = 2 ∨ o.ty = 3) ∧ (stR (enOf o.ty) (lds o.sg o.gM)).1 = true ∧ 0 < (lds o.sg o.gM).length := by
  unfold rightB at h
  simp only [Bool.and_eq_true, decide_eq_true_eq, Bool.or_eq_true, beq_iff_eq, Bool.not_eq_true', List.isEmpty_eq_false_iff] at h
  obtain ⟨⟨⟨⟨a, b⟩, c⟩, d⟩, e⟩ := h
  exact ⟨a, b, c, d, List.length_pos_iff.2 e⟩
theorem right_span {o : ObjD} (h : rightB o = true) : SpanOk (enOf o.ty) (lds o.sg o.gM) := by
  obtain ⟨_, _, _, h1, h2⟩ := right_parts h
  have := span_ok (enOf_le o.ty) (by unfold enOf; split <;> rfl) _ h1 ((lds o.sg o.gM).length - 1) (by omega)
  rwa [show (lds o.sg o.gM).length - 1 + 1 = (lds o.sg o.gM).length by omega, List.take_length] at this
theorem spanA_lt {o : ObjD} (h : rightB o = true) : spanA o < spanZ o := (right_span h).lt
theorem spanZ_le {o : ObjD} (h : rightB o = true) : spanZ o ≤ 140737488355328 := Nat.le_trans (right_span h).le (enOf_le _)
theorem spanZ_le3 {o : ObjD} (h : rightB o = true) (ht : o.ty = 3) : spanZ o ≤ 4294967296 := by have := (right_span h).le; rw [ht] at this; exact this
set_option maxRecDepth 20000 in
theorem right_last {o : ObjD} (h : rightB o = true) {n : Nat} (hn : n + 1 = (lds o.sg o.gM).length) : (fnS (lds o.sg o.gM) n).addr + (fnS (lds o.sg o.gM) n).msz ≤ 140737488355328 ∧ spanZ o = upv ((fnS (lds o.sg o.gM) n).addr + (fnS (lds o.sg o.gM) n).msz) ∧ spanA o = dn (fnS (lds o.sg o.gM) 0).addr := by
  obtain ⟨_, _, _, h1, h2⟩ := right_parts h
  have e1 := stR_take (en := enOf o.ty) (l := lds o.sg o.gM) (i := n) (by omega)
  have h3 : (stR (enOf o.ty) ((lds o.sg o.gM).take (n + 1))).1 = true := stR_pre _ (List.take_prefix _ _) h1
  rw [e1, Bool.and_eq_true] at h3
  obtain ⟨k1, k2, k3, k4, k5, k6, k7⟩ := okS_iff.1 h3.2
  have := enOf_le o.ty
  refine ⟨by omega, ?_, ?_⟩
  · have := (right_span h).lo
    rw [hn, List.take_length] at e1
    rw [e1] at this
    exact this.symm
  · unfold spanA
    cases hl : lds o.sg o.gM with
    | nil => rw [hl] at hn; simp at hn
    | cons a r => rfl
/-- where a right object lies -/
def liesB (o : ObjD) : Bool := decide (o.base + spanZ o ≤ 140737488355328)
set_option maxRecDepth 20000 in
set_option maxHeartbeats 1600000 in
theorem span_any (o : ObjD) (w : World) (hS : StR w w.heap.size 6 o.gA o.gM (segC o.sg)) (hf : ∀ k, (o.sg k).fits) (hr : rightB o = true) :
    Calls Try.prog 34 #[.agg o.cs] w fun e W' => e = .returned (.tuple #[.int .u64 (spanA o), .int .u64 (spanZ o)]) ∧ Below w.heap.size w W' := by
  obtain ⟨r1, r2, r3, r4, r5⟩ := right_parts hr
  have HS := Lib.hid hS; have HF := Lib.hid hf
  obtain ⟨l, hl⟩ : ∃ l, l = lds o.sg o.gM := ⟨_, rfl⟩
  obtain ⟨k, hk⟩ : ∃ k, k + 1 = (lds o.sg o.gM).length := ⟨(lds o.sg o.gM).length - 1, by omega⟩
  obtain ⟨q1, q2, q3⟩ := right_last hr hk
  have ff0 := fnS_fits (S := o.sg) (n := o.gM) hf (i := 0) (by omega)
  have ffk := fnS_fits (S := o.sg) (n := o.gM) hf (i := k) (by omega)
  rw [← hl] at hk q1 q2 q3 ff0 ffk
  have HLL := Lib.hid hl
  obtain ⟨n, hn⟩ : ∃ n, n = l.length := ⟨_, rfl⟩
  have HN := Lib.hid hn
  have hkn : k + 1 = n := by omega
  have hn8 : n ≤ 8 := by have := lds_len o.sg o.gM; rw [hn, hl]; omega
  obtain ⟨aa, haa⟩ : ∃ x, x = spanA o := ⟨_, rfl⟩
  obtain ⟨zz, hzz⟩ : ∃ x, x = spanZ o := ⟨_, rfl⟩
  have HAA := Lib.hid haa; have HZZ := Lib.hid hzz
  rw [← haa] at q3
  rw [← hzz] at q2
  obtain ⟨a0, ha0⟩ : ∃ x, x = (fnS l 0).addr := ⟨_, rfl⟩
  obtain ⟨ak, hak⟩ : ∃ x, x = (fnS l k).addr := ⟨_, rfl⟩
  obtain ⟨mk, hmk⟩ : ∃ x, x = (fnS l k).msz := ⟨_, rfl⟩
  have m0 : a0 < M := by rw [ha0]; exact ff0.2.1
  rw [← ha0] at q3
  rw [← hak, ← hmk] at q1 q2
  obtain ⟨sm, hsm⟩ : ∃ x, x = ak + mk := ⟨_, rfl⟩
  rw [← hsm] at q1 q2
  have hsM : sm + 4096 < M := by unfold M; omega
  have wsm : IntKind.u64.wrap ((ak : Int) + (mk : Int)) = (sm : Int) := by
    rw [show (ak : Int) + (mk : Int) = ((sm : Nat) : Int) by omega]; exact wrap_small (by omega)
  have RD : Hid (∀ W : World, Calls Try.prog 29 #[.int .u64 a0] W fun e w' => e = .returned (.int .u64 aa) ∧ w' = W) := Lib.hid fun W => by
    rw [q3]; exact (rdown_any a0 W m0).mono fun _ _ h => ⟨h.1, h.2.symm⟩
  have RU : Hid (∀ W : World, Calls Try.prog 30 #[.int .u64 sm] W fun e w' => e = .returned (.int .u64 zz) ∧ w' = W) := Lib.hid fun W => by
    rw [q2]; exact (rup_any sm W hsM).mono fun _ _ h => ⟨h.1, h.2.symm⟩
  have w1 : IntKind.i64.wrap ((n : Int) - 1) = (k : Int) := by rw [show (n : Int) - 1 = (k : Int) by omega]; exact IntWalk.i64_in _ (by omega)
  have w2' : (n : Int) - 1 = (k : Int) := by omega
  have w3 : IntKind.i64.wrap (k : Int) = (k : Int) := IntWalk.i64_in _ (by omega)
  have hkn2 : k < n := by omega
  have h0n : 0 < n := by omega
  have p1 : (k : Int) < (n : Int) := by omega
  have p3 : (0 : Int) < (n : Int) := by omega
  have HA0 := Lib.hid ha0; have HAK := Lib.hid hak; have HMK := Lib.hid hmk
  obtain ⟨w0, hw0⟩ : ∃ x, x = w.alloc (.cells o.cs 33) := ⟨_, rfl⟩
  have B0 : Hid (Below w.heap.size w w0) := by rw [hw0]; exact Lib.hid ((Below.refl _ _).alloc (Nat.le_refl _) _)
  have L8 : Hid (o.gM ≤ 40) := Lib.hid (by omega)
  have HW0 := Lib.hid hw0
  clear hS hf hl hn haa hzz ha0 hak hmk q1 q2 q3 ff0 ffk hsm hsM m0 r1 r2 r3 r4 r5 hk hkn hr hw0
  obtain ⟨O0, hO0⟩ : ∃ x, x = o := ⟨_, rfl⟩
  obtain ⟨ino, base, ty, en, ph, gA, gM, gQ, nA, nM, nQ, so, rn, sA, sM, sQ, rA, rM, rQ, sg⟩ := o
  rw [show (ObjD.mk ino base ty en ph gA gM gQ nA nM nQ so rn sA sM sQ rA rM rQ sg).cs = #[.int .i64 ino, .int .u64 base, .int .u16 ty, .int .u64 en, .int .u64 ph, .slice gA gM gQ, .slice nA nM nQ, .string so, .string rn, .slice sA sM sQ, .slice rA rM rQ] from rfl] at HW0 ⊢
  have HO0 := Lib.hid hO0
  rw [← hO0] at HS L8 HLL HAA HZZ ⊢
  clear hO0
  go_enter Try.func34, Try.ntmps34
  go_wp2_with fail
  rw [← HW0.out]
  rw [show (#[.int .i64 ino, .int .u64 base, .int .u16 ty, .int .u64 en, .int .u64 ph, .slice gA gM gQ, .slice nA nM nQ, .string so, .string rn, .slice sA sM sQ, .slice rA rM rQ] : Array Value) = O0.cs by rw [HO0.out]; rfl]
  refine (rloads_any O0 w0 ((HS.out.below B0.out).more B0.out.size) L8.out).mono ?_
  rw [← HLL.out, ← HN.out]
  rintro e w2 ⟨A, c, rfl, ow, bl⟩
  have R2 : Hid (StR w2 w2.heap.size 6 A n (segC (fnS l))) := Lib.hid (by have := ow; rw [HN.out] at this; rw [HN.out]; exact row_fnS this)
  have B2 : Hid (Below w.heap.size w w2) := Lib.hid (B0.out.trans (bl.mono B0.out.size))
  clear ow bl
  obtain ⟨ad, rfl, had, d0, d1, d2, d3, d4, d5⟩ := seg_cells R2.out hkn2
  obtain ⟨ad', ead, _, _, _, _, e3, _, _⟩ := seg_cells R2.out h0n
  injection ead with ead
  subst ead
  rw [← HA0.out, Nat.zero_mul, Go.Hos.add0] at e3
  rw [← HAK.out] at d3
  rw [← HMK.out] at d5
  have l2 := World.block_lt_of_cell? _ _ d3
  have l3 := World.block_lt_of_cell? _ _ e3
  have HB2 : Hid (w.heap.size ≤ w2.heap.size) := Lib.hid B2.out.size
  go_wp2_with fail
  go_quiet ((first | (go_at_call 29; exact Calls.quiet_of_same (RD.out _)) | (go_at_call 30; exact Calls.quiet_of_same (RU.out _))))
  go_wp2_with fail
  go_ret2
  exact ⟨by rw [← HAA.out, ← HZZ.out]; rfl, below_drewN (B2.out.alloc HB2.out _) _⟩
end Go.Proofs.Yticnmgdflkipeaa
