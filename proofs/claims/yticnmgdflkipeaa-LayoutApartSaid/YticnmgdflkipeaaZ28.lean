import Derived.Test.YticnmgdflkipeaaZ20
namespace Go.Proofs.Yticnmgdflkipeaa
open Go.RowKit Go.Shelf Go.Hos
set_option linter.unusedVariables false
/-! the law's own copy of the objects (twins) -/
def SameO (o o' : ObjD) : Prop := ∃ A q, o' = o.at A q
theorem SameO.refl (o : ObjD) : SameO o o := ⟨o.gA, o.gQ, rfl⟩
structure TWS (w : World) (O O' : Nat → ObjD) (i : Nat) (v : Value) (W : World) : Prop where
  ow : W.ownsRow w.heap.size 33 11 v i (flatG (objC O') i)
  bl : Below w.heap.size w W
  al : ∀ j, SameO (O j) (O' j)
  cp : ∀ j, j < i → W.ownsRow w.heap.size 56 6 (.slice (O' j).gA (O' j).gM (O' j).gQ) (O' j).gM (flatS (alls (O' j).sg (O' j).gM))
theorem TWS.next {w W W' : World} {O O' : Nat → ObjD} {i : Nat} {v : Value} (h : TWS w O O' i v W) (hb : Below W.heap.size W W') : TWS w O O' i v W' :=
  ⟨owns_below h.ow hb, h.bl.trans (hb.mono h.bl.size), h.al, fun j hj => owns_below (h.cp j hj) hb⟩
theorem TWS.push {w W W' : World} {O O' : Nat → ObjD} {i : Nat} {v v' : Value} {o : ObjD} (h : TWS w O O' i v W) (ho : W'.ownsRow w.heap.size 33 11 v' (i + 1) (flatG (objC O') i ++ o.cs.toList)) (hg : W.grownBy W' v.ownBlock) (hr : W.ownsRow w.heap.size 56 6 (.slice o.gA o.gM o.gQ) o.gM (flatS (alls o.sg o.gM))) (hs : SameO (O i) o) :
    TWS w O (fun j => if j = i then o else O' j) (i + 1) v' W' := by
  refine ⟨?_, h.bl.trans (below_own hg h.bl.size fun k hk => (h.ow.lt k hk).1), fun j => ?_, fun j hj => ?_⟩
  · show W'.ownsRow _ _ _ _ _ (flatG _ i ++ _)
    rw [flatG_congr (F := objC fun j => if j = i then o else O' j) (G := objC O') i fun k hk => by show (if k = i then o else O' k).cs = _; rw [if_neg (by omega)]; rfl]
    rw [show objC (fun j => if j = i then o else O' j) i = o.cs from by show (if i = i then o else O' i).cs = _; rw [if_pos rfl]]; exact ho
  · by_cases e : j = i
    · subst e; rw [if_pos rfl]; exact hs
    · rw [if_neg e]; exact h.al j
  · by_cases e : j = i
    · subst e; rw [if_pos rfl]
      exact owns_apart hr h.ow (by decide) hg
    · rw [if_neg e]
      exact owns_apart (h.cp j (by omega)) h.ow (by decide) hg
set_option maxRecDepth 20000 in
set_option maxHeartbeats 3200000 in
theorem twins_any (A : Option Addr) (m c : Nat) (O : Nat → ObjD) (w : World) (hR : ObjR w w.heap.size A m O) (hm3 : m ≤ 20) (hg : ∀ i, i < m → (O i).gM ≤ 40) :
    Calls Try.prog 14 #[.slice A m c] w fun e W' => ∃ A' c' O', e = .returned (.slice A' m c') ∧ TWS w O O' m (.slice A' m c') W' := by
  have hmm : maxLen = 9223372036854775807 := by simp [maxLen]
  have H := Lib.hid hR; have HG := Lib.hid hg
  obtain ⟨i0, hi0, hz0, hz1, hz2⟩ := info_parts info33
  clear hR hg
  go_enter Try.func14, Try.ntmps14
  go_wp2_with fail
  go_loopw [3, 4] (fun v3 v4 wr => ∃ (i q : Nat) (Ao : Option Addr) (O' : Nat → ObjD), i ≤ m ∧ v3 = .slice Ao i q ∧ v4 = .int .i64 i ∧ Hid (TWS w O O' i (.slice Ao i q) wr)) (fun _ v4 _ => m - (intOf v4).toNat)
  case atStart => exact ⟨0, 0, none, O, Nat.zero_le _, rfl, rfl, Lib.hid ⟨World.ownsRow_nil _ _ _ _, Below.refl _ _, fun j => SameO.refl _, fun j hj => by omega⟩⟩
  case round =>
    obtain ⟨i, q, Ao, O', hi, rfl, rfl, cpd⟩ := hrel
    by_cases him : i < m
    · have e1 : decide ((i : Int) < (m : Int)) = true := by simp; omega
      have e2 : (i : Int) < (m : Int) := by omega
      obtain ⟨ad, rfl, had, c0, c1, c2, c3, c4, c5, c6, c7, c8, c9, c10⟩ := (H.out.below cpd.out.bl).cells him
      have hsl : (O i).gM ≤ 40 := HG.out i him
      have hsy := ((H.out.below cpd.out.bl).sy i him).1
      obtain ⟨o, ho⟩ : ∃ o, o = O i := ⟨_, rfl⟩
      rw [← ho] at c0 c1 c2 c3 c4 c5 c6 c7 c8 c9 c10 hsl hsy
      have HO := Lib.hid ho
      obtain ⟨ino, base, ty, en, ph, gA, gM, gQ, nA, nM, nQ, so, rn, sA, sM, sQ, rA, rM, rQ, sg⟩ := o
      dsimp only at c0 c1 c2 c3 c4 c5 c6 c7 c8 c9 c10 hsl hsy
      have HSY := Lib.hid hsy
      have lad := World.block_lt_of_cell? _ _ c1
      clear ho hsy
      have hzw := cpd.out.bl.size
      go_wp2_with fail
      refine (twin_any ⟨ino, base, ty, en, ph, gA, gM, gQ, nA, nM, nQ, so, rn, sA, sM, sQ, rA, rM, rQ, sg⟩ _ (HSY.out.more hzw) hsl).mono ?_
      rintro e w2 ⟨gA', gQ', rfl, r1, bl2⟩
      rw [show (ObjD.at ⟨ino, base, ty, en, ph, gA, gM, gQ, nA, nM, nQ, so, rn, sA, sM, sQ, rA, rM, rQ, sg⟩ gA' gQ').cs = #[.int .i64 ino, .int .u64 base, .int .u16 ty, .int .u64 en, .int .u64 ph, .slice gA' gM gQ', .slice nA nM nQ, .string so, .string rn, .slice sA sM sQ, .slice rA rM rQ] from rfl]
      have R1 := Lib.hid (owns_base r1 hzw)
      have CP3 : Hid (TWS w O O' i (.slice Ao i q) (w2.alloc (.cells #[.int .i64 ino, .int .u64 base, .int .u16 ty, .int .u64 en, .int .u64 ph, .slice gA' gM gQ', .slice nA nM nQ, .string so, .string rn, .slice sA sM sQ, .slice rA rM rQ] 33))) := Lib.hid (cpd.out.next (bl2.alloc bl2.size _))
      have RC3 : Hid ((w2.alloc (.cells #[.int .i64 ino, .int .u64 base, .int .u16 ty, .int .u64 en, .int .u64 ph, .slice gA' gM gQ', .slice nA nM nQ, .string so, .string rn, .slice sA sM sQ, .slice rA rM rQ] 33)).ownsRow w.heap.size 56 6 (.slice gA' gM gQ') gM (flatS (alls sg gM))) := Lib.hid (R1.out.alloc _)
      have SD : Hid (SameO (O i) ⟨ino, base, ty, en, ph, gA', gM, gQ', nA, nM, nQ, so, rn, sA, sM, sQ, rA, rM, rQ, sg⟩) := by rw [← HO.out]; exact Lib.hid ⟨gA', gQ', rfl⟩
      obtain ⟨xs, hxs⟩ : ∃ x, x = flatG (objC O') i := ⟨_, rfl⟩
      have OW := CP3.out.ow
      rw [← hxs] at OW
      have HOW := Lib.hid OW
      have HXS := Lib.hid hxs
      have hz8 := CP3.out.bl.size
      clear OW hxs r1 bl2 R1 c0 c1 c2 c3 c4 c5 c6 c7 c8 c9 c10 lad
      go_wp2_with (at_builtin
                   refine wpList_append_any _ rfl (.tmp 11) (.tmp 17) _ rfl w.heap.size 33 i0 _ 11 168 Try.underlying35 hi0 hz0 hz1 hz2 rfl (by omega) (.slice Ao i q) i xs rfl HOW.out (w2.heap.size + 1) (some ⟨w2.heap.size, 0, none⟩) 1 1 [.int .i64 ino, .int .u64 base, .int .u16 ty, .int .u64 en, .int .u64 ph, .slice gA' gM gQ', .slice nA nM nQ, .string so, .string rn, .slice sA sM sQ, .slice rA rM rQ] rfl (reads_new w2 33 11 1 [.int .i64 ino, .int .u64 base, .int .u16 ty, .int .u64 en, .int .u64 ph, .slice gA' gM gQ', .slice nA nM nQ, .string so, .string rn, .slice sA sM sQ, .slice rA rM rQ] (by simp) rfl) (by simp [Value.oneCell']) (by simp only [maxLen]; omega) (by omega) hz8 ?_
                   intro v4 w4 hown4 hg4 hat4
                   rw [HXS.out] at hown4
                   have CP4 := Lib.hid (TWS.push (o := ⟨ino, base, ty, en, ph, gA', gM, gQ', nA, nM, nQ, so, rn, sA, sM, sQ, rA, rM, rQ, sg⟩) CP3.out hown4 hg4 RC3.out SD.out)
                   obtain ⟨A4, q4, rfl⟩ := ownsRow_val hown4
                   clear hown4 hg4 hat4)
      go_roundw
      case rel => exact ⟨i + 1, q4, A4, _, by omega, rfl, by go_num, CP4⟩
      case measure => simp [intOf]; omega
    · obtain rfl : i = m := by omega
      have d1 : decide ((i : Int) < (i : Int)) = false := by simp
      go_wp2_with fail
      go_ret
      exact ⟨_, _, _, rfl, cpd.out⟩
end Go.Proofs.Yticnmgdflkipeaa
