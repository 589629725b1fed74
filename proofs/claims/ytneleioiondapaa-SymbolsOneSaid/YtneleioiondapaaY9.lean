import Derived.Test.YtneleioiondapaaY7
import Derived.StillTailTactics
namespace Go.Proofs.Ytneleioiondapaa
open Go.RowKit Go.Shelf Go.Hos
set_option linter.unusedVariables false
/-- what references to a name come to -/
def FN (O : Nat → ObjD) (m : Nat) (nm : ByteArray) : Int := match lkO O m nm with | some x => vlV O m x.1 x.2 | none => 0
theorem of_cases {O : Nat → ObjD} {m a b : Nat} (ha : a < m) (hb : b < (O a).sM) : ((ofP O m a b).2 = 21 ∧ (ofP O m a b).1 = 0 ∧ ((O a).sy b).bd ≠ 2) ∨
    (ofP O m a b = (vlV O m a b, 0) ∧ ((O a).sy b).df = true ∧ ((O a).sy b).bd = 0) ∨ (ofP O m a b = (FN O m ((O a).sy b).nm, 0) ∧ (((O a).sy b).df && ((O a).sy b).bd == 0) = false) := by
  have ht := thB_of ha hb
  have hs : symV O m a b = (O a).sy b := by rw [symV, ht, if_pos rfl]; simp
  unfold ofP FN
  rw [ht, if_pos rfl, hs]
  cases hl : ((O a).sy b).df && ((O a).sy b).bd == 0
  · rw [if_neg (by simp)]
    cases hk : lkO O m ((O a).sy b).nm with
    | some x => exact .inr (.inr ⟨rfl, rfl⟩)
    | none =>
      cases h2 : ((O a).sy b).bd == 2
      · rw [if_neg (by simp)]
        exact .inl ⟨rfl, rfl, by simpa using h2⟩
      · rw [if_pos rfl]
        exact .inr (.inr ⟨rfl, rfl⟩)
  · rw [if_pos rfl]
    simp at hl
    exact .inr (.inl ⟨rfl, hl.1, hl.2⟩)
theorem vlV_of {O : Nat → ObjD} {m a b : Nat} (ha : a < m) (hb : b < (O a).sM) : vlV O m a b = IntKind.u64.wrap ((O a).base + ((O a).sy b).v) := by rw [vlV, thB_of ha hb, if_pos rfl]; simp
theorem rows_apart {W W1 : World} {b1 b2 s1 s2 n1 n2 : Nat} {e1 e2 : TypeId} {v1 v2 : Value} {x1 x2 : List Value} {o : Obj} (h1 : W.ownsRow b1 e1 s1 v1 n1 x1) (h2 : W.ownsRow b2 e2 s2 v2 n2 x2) (hne : e1 ≠ e2) (hg : (W.alloc o).grownBy W1 v2.ownBlock) : W1.ownsRow b1 e1 s1 v1 n1 x1 := by
  refine (h1.alloc o).kept hg ?_
  rcases h1.2 with ⟨rfl, _⟩ | ⟨g, cap, cur, rfl, _, hgb, _⟩
  · exact .inl rfl
  · refine .inr fun e => ?_
    have := own_blk_ne h2 (g := g) (t := e1) (cs := cur) hgb (fun e => hne e.symm)
    exact this e.symm
theorem sumS_step (O : Nat → ObjD) : ∀ m i, i < m → sumS O i + (O i).sM ≤ sumS O m
  | m + 1, i, h => by
    by_cases e : i = m
    · subst e; exact Nat.le_refl _
    · have := sumS_step O m i (by omega)
      have : sumS O m ≤ sumS O (m + 1) := Nat.le_add_right _ _
      omega
/-- the names and values so far -/
structure SO (w : World) (O : Nat → ObjD) (m : Nat) (NS : List ByteArray) (vN vV : Value) (W : World) : Prop where
  rn : W.ownsRow w.heap.size 9 1 vN NS.length (NS.map Value.string)
  rv : W.ownsRow w.heap.size 32 1 vV NS.length (NS.map fun s => .int .u64 (FN O m s))
  bl : Below w.heap.size w W
theorem SO.next {w W W' : World} {O : Nat → ObjD} {m : Nat} {NS : List ByteArray} {vN vV : Value} (h : SO w O m NS vN vV W) (hb : Below W.heap.size W W') : SO w O m NS vN vV W' := by
  refine ⟨?_, ?_, h.bl.trans (hb.mono h.bl.size)⟩
  · exact h.rn.kept (row := none) ⟨hb.os, hb.tape, hb.output, hb.size, fun k hk _ => hb.block k hk⟩ (by
      rcases h.rn.2 with ⟨e, _⟩ | ⟨g, cap, cur, e, _⟩
      · left; rw [e]; rfl
      · right; rw [e]; simp [Value.ownBlock])
  · exact h.rv.kept (row := none) ⟨hb.os, hb.tape, hb.output, hb.size, fun k hk _ => hb.block k hk⟩ (by
      rcases h.rv.2 with ⟨e, _⟩ | ⟨g, cap, cur, e, _⟩
      · left; rw [e]; rfl
      · right; rw [e]; simp [Value.ownBlock])
theorem SO.push {w W W1 W2 : World} {O : Nat → ObjD} {m : Nat} {NS : List ByteArray} {vN vV vN' vV' : Value} {nm : ByteArray} {o1 o2 : Obj} (h : SO w O m NS vN vV W) (h1 : W1.ownsRow w.heap.size 9 1 vN' (NS.length + 1) (NS.map Value.string ++ [.string nm])) (g1 : (W.alloc o1).grownBy W1 vN.ownBlock)
    (h2 : W2.ownsRow w.heap.size 32 1 vV' (NS.length + 1) ((NS.map fun s => .int .u64 (FN O m s)) ++ [.int .u64 (FN O m nm)])) (g2 : (W1.alloc o2).grownBy W2 vV.ownBlock) : SO w O m (NS ++ [nm]) vN' vV' W2 := by
  have hb1 : Below w.heap.size W W1 := ((Below.refl _ _).alloc h.bl.size _).trans (below_own g1 (by have := h.bl.size; simp; omega) fun k hk => (h.rn.lt k hk).1)
  have hs1 := hb1.size
  have hb2 : Below w.heap.size W1 W2 := ((Below.refl _ _).alloc (by have := h.bl.size; omega) _).trans (below_own g2 (by have := h.bl.size; simp; omega) fun k hk => (h.rv.lt k hk).1)
  have rv1 := rows_apart h.rv h.rn (by decide) g1
  exact ⟨by simpa using rows_apart h1 rv1 (by decide) g2, by simpa using h2, h.bl.trans (hb1.trans hb2)⟩
theorem SO.at_ {w W : World} {O : Nat → ObjD} {m nn c1 c2 j : Nat} {AN AV : Option Addr} {NS : List ByteArray} (h : SO w O m NS (.slice AN nn c1) (.slice AV nn c2) W) (hn : nn = NS.length) (hj : j < nn) :
    ∃ gN gV s, AN = some ⟨gN, 0, none⟩ ∧ AV = some ⟨gV, 0, none⟩ ∧ W.cell? ⟨gN, j, none⟩ = some (.string s) ∧ W.cell? ⟨gV, j, none⟩ = some (.int .u64 (FN O m s)) := by
  subst hn
  obtain ⟨n', hn'⟩ : ∃ n', n' + 1 = NS.length := ⟨NS.length - 1, by omega⟩
  have r1 := h.rn
  have r2 := h.rv
  obtain ⟨gN, cN, e1, _⟩ := owns_succ (k := n') (by rw [hn']; exact r1)
  obtain ⟨gV, cV, e2, _⟩ := owns_succ (k := n') (by rw [hn']; exact r2)
  rw [hn'] at e1 e2
  obtain ⟨rfl, _, rfl⟩ := Value.slice.inj e1
  obtain ⟨rfl, _, rfl⟩ := Value.slice.inj e2
  refine ⟨gN, gV, NS[j]'hj, rfl, rfl, ?_, ?_⟩
  · rw [r1.cellAt j (by omega)]; simp [hj]
  · rw [r2.cellAt j (by omega)]; simp [hj]
theorem info32 : (Try.prog.info? 32).map (fun i => (i.zero, i.size, i.bytes)) = some (some (.int .u64 0), 1, 8) := by kernel_rfl
set_option maxRecDepth 200000 in
set_option maxHeartbeats 8000000 in
theorem one_any (A : Option Addr) (m c : Nat) (O : Nat → ObjD) (w : World) (hR : ObjR w w.heap.size A m O) (hNm : ∀ x, (symA O x).nm.size ≤ maxLen) :
    Calls Try.prog 6 #[.slice A m c] w fun e W' => e = .returned (.bool true) ∧ Below w.heap.size w W' := by
  have hm := hR.len
  have hmm : maxLen = 9223372036854775807 := by simp [maxLen]
  have H := Lib.hid hR
  have HNM := Lib.hid hNm
  obtain ⟨i0, hi0, hz0, hz1, hz2⟩ := info_parts info9
  obtain ⟨j0, hj0, hy0, hy1, hy2⟩ := info_parts info32
  clear hR hNm
  go_enter Try.func6, Try.ntmps6
  go_wp2_with fail
  refine (large_any A m c O _ w H.out HNM.out).mono ?_
  rintro e w' ⟨b, rfl, hb, rfl⟩
  cases b
  · have hlg := hb.out rfl
    have hm3 : m ≤ 300 := by omega
    have HLG := Lib.hid hlg
    clear hlg hb
    have S0 : Hid (SO w O m [] (.slice none 0 0) (.slice none 0 0) w) := ⟨World.ownsRow_nil _ _ _ _, World.ownsRow_nil _ _ _ _, Below.refl _ _⟩
    go_wp2_with fail
    go_loopw [3, 4, 5] (fun v3 v4 v5 wr => ∃ (i nn c1 c2 : Nat) (AN AV : Option Addr) (NS : List ByteArray), i ≤ m ∧ nn ≤ 300 ∧ v3 = .slice AN nn c1 ∧ v4 = .slice AV nn c2 ∧ v5 = .int .i64 i ∧ Hid (nn = NS.length ∧ nn ≤ sumS O i) ∧ Hid (SO w O m NS (.slice AN nn c1) (.slice AV nn c2) wr)) (fun _ _ v5 _ => m - (intOf v5).toNat)
    case atStart => exact ⟨0, 0, 0, 0, none, none, [], by omega, by omega, rfl, rfl, rfl, Lib.hid ⟨rfl, Nat.zero_le _⟩, S0⟩
    case round =>
      obtain ⟨i, nn, c1, c2, AN, AV, NS, hi, hnn, rfl, rfl, rfl, hN, so⟩ := hrel
      by_cases him : i < m
      · have d1 : decide ((i : Int) < (m : Int)) = true := by simp; omega
        go_wp2_with fail
        go_loopw [3, 4, 6] (fun v3 v4 v6 wr => ∃ (k nn c1 c2 : Nat) (AN AV : Option Addr) (NS : List ByteArray), k ≤ (O i).sM ∧ nn ≤ 300 ∧ v3 = .slice AN nn c1 ∧ v4 = .slice AV nn c2 ∧ v6 = .int .i64 k ∧ Hid (nn = NS.length ∧ nn ≤ sumS O i + k) ∧ Hid (SO w O m NS (.slice AN nn c1) (.slice AV nn c2) wr)) (fun _ _ v6 _ => (O i).sM - (intOf v6).toNat)
        case atStart => exact ⟨0, nn, c1, c2, AN, AV, NS, Nat.zero_le _, hnn, rfl, rfl, rfl, hN, so⟩
        case round =>
          clear so hN hnn
          obtain ⟨k, nn, c1, c2, AN, AV, NS, hk, hnn, rfl, rfl, rfl, hN, so⟩ := hrel
          obtain ⟨ad, rfl, had, _, q1, _, _, _, _, _, _, _, c9, _⟩ := (H.out.below so.out.bl).cells him
          have hsl := (H.out.sy i him).2
          have hsy := ((H.out.below so.out.bl).sy i him).1
          have hstep := sumS_step O m i him
          obtain ⟨l, hl⟩ : ∃ l, l = (O i).sM := ⟨_, rfl⟩
          obtain ⟨x0, hx0⟩ : ∃ l, l = (O i).sA := ⟨_, rfl⟩
          obtain ⟨x1, hx1⟩ : ∃ l, l = (O i).sQ := ⟨_, rfl⟩
          obtain ⟨bs, hbs⟩ : ∃ x, x = (O i).base := ⟨_, rfl⟩
          rw [← hl, ← hx0, ← hx1] at c9
          rw [← hbs] at q1
          rw [← hl] at hsl hk hstep
          rw [← hl, ← hx0] at hsy
          have hl3 : l ≤ 300 := by have := HLG.out; omega
          have hst : Hid (sumS O i + l ≤ 300) := Lib.hid (by have := HLG.out; omega)
          have HL := Lib.hid hl; have HBS := Lib.hid hbs
          have ladc := World.block_lt_of_cell? _ _ c9
          by_cases hkl : k < l
          · have e1 : decide ((k : Int) < (l : Int)) = true := by simp; omega
            obtain ⟨ads, hads, has, g0, g1, g2, g3, g4⟩ := sym_cells hsy hkl
            have hcs := of_cases him (show k < (O i).sM by rw [← hl]; exact hkl)
            have hvl := vlV_of him (show k < (O i).sM by rw [← hl]; exact hkl)
            obtain ⟨s, hs⟩ : ∃ s, s = (O i).sy k := ⟨_, rfl⟩
            rw [← hs] at g0 g1 g2 g3 g4 hcs hvl
            rw [← hbs] at hvl
            obtain ⟨nm, v, sz, bd, df⟩ := s
            dsimp only at g0 g1 g2 g3 g4 hcs hvl
            have HCS := Lib.hid hcs; have HVL := Lib.hid hvl
            have l1 := World.block_lt_of_cell? _ _ g0
            subst hads
            clear hsy hs hl hx0 hx1 hbs hcs hvl hstep
            have ba : Below wr.heap.size wr (wr.alloc (.cells #[.string nm, .int .u64 v, .int .u64 sz, .int .u8 bd, .bool df] 46)) := (Below.refl _ _).alloc (Nat.le_refl _) _
            have so1 := Lib.hid (so.out.next ba)
            have HB1 := Lib.hid (Blk.new wr 46 #[.string nm, .int .u64 v, .int .u64 sz, .int .u8 bd, .bool df])
            have hBz : w.heap.size ≤ (wr.alloc (.cells #[.string nm, .int .u64 v, .int .u64 sz, .int .u8 bd, .bool df] 46)).heap.size := so1.out.bl.size
            clear ba
            go_wp2_with fail
            refine (of_any _ m c O i k w.heap.size _ (H.out.below so1.out.bl) hBz).mono ?_
            obtain ⟨pv, hpv⟩ : ∃ x, x = ofP O m i k := ⟨_, rfl⟩
            rw [← hpv]
            rintro e w2 ⟨rfl, bl2⟩
            have so2 := Lib.hid (so1.out.next bl2)
            have hB2 := HB1.out.below bl2 HB1.out.lt
            have b0 : w2.cell? ⟨wr.heap.size, 0, none⟩ = some (.string nm) := (hB2.cell 0).trans rfl
            have b1 : w2.cell? ⟨wr.heap.size, 1, none⟩ = some (.int .u64 v) := (hB2.cell 1).trans rfl
            have b3 : w2.cell? ⟨wr.heap.size, 3, none⟩ = some (.int .u8 bd) := (hB2.cell 3).trans rfl
            have b4 : w2.cell? ⟨wr.heap.size, 4, none⟩ = some (.bool df) := (hB2.cell 4).trans rfl
            have lw2 : wr.heap.size < w2.heap.size := by have := bl2.size; simp at this; omega
            have q2 : w2.cell? ⟨(ad.add (i * 11)).block, (ad.add (i * 11)).off + 1, none⟩ = some (.int .u64 bs) := (bl2.cell (p := ⟨(ad.add (i * 11)).block, (ad.add (i * 11)).off + 1, none⟩) (by simp; omega)).trans ((World.cell?_alloc_lt wr _ ⟨(ad.add (i * 11)).block, (ad.add (i * 11)).off + 1, none⟩ ladc).trans q1)
            have hnn2 : Hid (nn = NS.length ∧ nn ≤ sumS O i + (k + 1)) := Lib.hid ⟨hN.out.1, by have := hN.out.2; omega⟩
            clear bl2 hB2 g0 g1 g2 g3 g4 c9 q1 so so1 HB1
            obtain ⟨p1, p2⟩ := pv
            dsimp only
            have HPV := Lib.hid hpv
            clear hpv
            have hcases : ((p2 = 21 ∧ p1 = 0 ∧ bd ≠ 2) ∨ (p1 = vlV O m i k ∧ p2 = 0 ∧ df = true ∧ bd = 0) ∨ (p1 = FN O m nm ∧ p2 = 0 ∧ (df && bd == 0) = false)) := by
              rcases HCS.out with ⟨h1, h2, h3⟩ | ⟨h1, h2, h3⟩ | ⟨h1, h2⟩
              · rw [← HPV.out] at h1 h2; exact .inl ⟨h1, h2, h3⟩
              · rw [← HPV.out] at h1; obtain ⟨h4, h5⟩ := Prod.mk.inj h1; exact .inr (.inl ⟨h4, h5, h2, h3⟩)
              · rw [← HPV.out] at h1; obtain ⟨h4, h5⟩ := Prod.mk.inj h1; exact .inr (.inr ⟨h4, h5, h2⟩)
            clear HCS HPV
            rcases hcases with ⟨rfl, rfl, hbd⟩ | ⟨hp1, rfl, rfl, rfl⟩ | ⟨hp1, rfl, hnl⟩
            · have e2 : (bd == 2) = false := by simpa using hbd
              clear hbd
              go_wp2_with fail
              go_roundw
              case rel => exact ⟨k + 1, nn, c1, c2, AN, AV, NS, by rw [← HL.out]; omega, hnn, rfl, rfl, by go_num, hnn2, so2⟩
              case measure => rw [← HL.out]; simp [intOf]; omega
            · have e2 : IntKind.u64.wrap (bs + v) = p1 := by rw [hp1]; exact HVL.out.symm
              have e3 : (p1 != p1) = false := by simp
              have e4 : (i : Int) < (m : Int) := by omega
              have e5 : (0 : Int) ≤ (i : Int) := by omega
              clear hp1
              go_wp2_with fail
              go_quiet (fail)
              go_wp2_with fail
              go_roundw
              case rel => exact ⟨k + 1, nn, c1, c2, AN, AV, NS, by rw [← HL.out]; omega, hnn, rfl, rfl, by go_num, hnn2, Lib.hid (so2.out.next (below_drewN (Below.refl _ _) _))⟩
              case measure => rw [← HL.out]; simp [intOf]; omega
            · have hsub : ((bd == 0) = false) ∨ (bd = 0 ∧ df = false) := by
                by_cases e : bd = 0
                · subst e; exact .inr ⟨rfl, by simpa using hnl⟩
                · exact .inl (by simpa using e)
              have HP1 := Lib.hid hp1
              clear hnl hp1 q2 HVL
              have hlen300 : Hid (nn + 1 ≤ 300) := Lib.hid (by have := hN.out.2; have := hst.out; omega)
              rcases hsub with e2 | ⟨rfl, rfl⟩
              all_goals
                go_wp2_with fail
                go_loopw [10] (fun v10 wr => ∃ j q : Nat, j ≤ nn ∧ v10 = .int .i64 j ∧ wr = w2.drewN q) (fun v10 _ => nn - (intOf v10).toNat)
                case atStart => exact ⟨0, 0, Nat.zero_le _, rfl, rfl⟩
                case round =>
                  obtain ⟨j, q, hj, rfl, rfl⟩ := hrel
                  by_cases hjn : j < nn
                  · have f1 : decide ((j : Int) < (nn : Int)) = true := by simp; omega
                    obtain ⟨gN, gV, s, rfl, rfl, h1, h2⟩ := so2.out.at_ hN.out.1 hjn
                    by_cases hs : s = nm
                    · have f2 : (s.toList == nm.toList) = true := by rw [hs]; simp
                      rw [hs, ← HP1.out] at h2
                      have f3 : (p1 != p1) = false := by simp
                      clear hs
                      go_wp2_with fail
                      go_quiet (fail)
                      go_wp2_with fail
                      go_roundw
                      case rel => exact ⟨j + 1, _, by omega, by go_num, rfl⟩
                      case measure => simp [intOf]; omega
                    · have f2 : (s.toList == nm.toList) = false := bytes_ne hs
                      clear hs
                      go_wp2_with fail
                      go_quiet (fail)
                      go_wp2_with fail
                      go_roundw
                      case rel => exact ⟨j + 1, _, by omega, by go_num, rfl⟩
                      case measure => simp [intOf]; omega
                  · have f1 : decide ((j : Int) < (nn : Int)) = false := by simp; omega
                    have so3 : Hid (SO w O m NS (.slice AN nn c1) (.slice AV nn c2) (w2.drewN q)) := Lib.hid (so2.out.next (below_drewN (Below.refl _ _) _))
                    have b0q : (w2.drewN q).cell? ⟨wr.heap.size, 0, none⟩ = some (.string nm) := b0
                    have lq : wr.heap.size < (w2.drewN q).heap.size := lw2
                    clear b0 b1 b3 b4 lw2 so2
                    generalize w2.drewN q = wq at so3 b0q lq ⊢
                    have RN0 := so3.out.rn
                    have RV0 := so3.out.rv
                    rw [← hN.out.1] at RN0 RV0
                    obtain ⟨xn, hxn⟩ : ∃ x, x = NS.map Value.string := ⟨_, rfl⟩
                    obtain ⟨xv, hxv⟩ : ∃ x, x = NS.map fun s => Value.int .u64 (FN O m s) := ⟨_, rfl⟩
                    rw [← hxn] at RN0
                    rw [← hxv] at RV0
                    have RN := Lib.hid RN0; have RV := Lib.hid RV0; have HXN := Lib.hid hxn; have HXV := Lib.hid hxv
                    have hzz2 := so3.out.bl.size
                    have hl3' := hlen300.out
                    clear RN0 RV0 hxn hxv
                    go_wp2_with (first
                      | (at_builtin
                         refine wpList_append_any _ rfl (.tmp 98) (.tmp 101) _ rfl w.heap.size 9 i0 _ 1 16 Try.underlying27 hi0 hz0 hz1 hz2 rfl (by omega) (.slice AN nn c1) nn xn rfl (RN.out.alloc _) (wq.heap.size + 1) (some ⟨wq.heap.size, 0, none⟩) 1 1 [.string nm] rfl (reads_new wq 9 1 1 [.string nm] rfl rfl) (by simp [Value.oneCell']) (by simp only [maxLen]; omega) (by omega) (by simp; omega) ?_
                         intro v1 w3 hown1 hg1 hat1
                         have RV1 := Lib.hid (rows_apart RV.out RN.out (by decide) hg1)
                         have HG1 := Lib.hid hg1
                         have HO1 := Lib.hid hown1
                         obtain ⟨A3, k3, rfl⟩ := ownsRow_val hown1
                         have hzz3 : w.heap.size ≤ w3.heap.size := by have := hg1.size; simp at this; omega
                         clear hown1 hg1 hat1)
                      | (at_builtin
                         refine wpList_append_any _ rfl (.tmp 103) (.tmp 105) _ rfl w.heap.size 32 j0 _ 1 8 Try.underlying49 hj0 hy0 hy1 hy2 rfl (by omega) (.slice AV nn c2) nn xv rfl (RV1.out.alloc _) (w3.heap.size + 1) (some ⟨w3.heap.size, 0, none⟩) 1 1 [.int .u64 p1] rfl (reads_new w3 32 1 1 [.int .u64 p1] rfl rfl) (by simp [Value.oneCell']) (by simp only [maxLen]; omega) (by omega) (by simp; omega) ?_
                         intro v2 w4 hown2 hg2 hat2
                         have HG2 := Lib.hid hg2
                         have HO2 := Lib.hid hown2
                         obtain ⟨A4, k4, rfl⟩ := ownsRow_val hown2
                         clear hown2 hg2 hat2))
                    have FIN : Hid (SO w O m (NS ++ [nm]) (.slice A3 (nn + 1) k3) (.slice A4 (nn + 1) k4) w4) := by
                      have e1 := HO1.out; have e2 := HO2.out
                      rw [HXN.out, hN.out.1] at e1
                      rw [HXV.out, HP1.out, hN.out.1] at e2
                      have := SO.push so3.out e1 HG1.out e2 HG2.out
                      rw [← hN.out.1] at this
                      exact Lib.hid this
                    have hnn3 : Hid (nn + 1 = (NS ++ [nm]).length ∧ nn + 1 ≤ sumS O i + (k + 1)) := Lib.hid ⟨by rw [List.length_append, ← hN.out.1]; rfl, by have := hN.out.2; omega⟩
                    clear RN RV HO1 HO2 HG1 HG2 RV1 so3
                    go_wp2_with fail
                    go_roundw
                    case rel => exact ⟨k + 1, nn + 1, k3, k4, A3, A4, _, by rw [← HL.out]; omega, by omega, rfl, rfl, by go_num, hnn3, FIN⟩
                    case measure => rw [← HL.out]; simp [intOf]; omega
          · have e1 : decide ((k : Int) < (l : Int)) = false := by simp; omega
            have hkl2 : k = l := by omega
            have hN2 : Hid (nn = NS.length ∧ nn ≤ sumS O (i + 1)) := Lib.hid ⟨hN.out.1, by have := hN.out.2; rw [hkl2, HL.out] at this; exact this⟩
            clear hkl2 hsy
            go_wp2_with fail
            go_roundw
            case rel => exact ⟨i + 1, nn, c1, c2, AN, AV, NS, by omega, hnn, rfl, rfl, by go_num, hN2, so⟩
            case measure => simp [intOf]; omega
      · have d1 : decide ((i : Int) < (m : Int)) = false := by simp; omega
        go_wp2_with fail
        refine (works_any _).mono ?_
        rintro e w3 ⟨rfl, hb⟩
        have G3 := Lib.hid (so.out.bl.trans (hb.mono so.out.bl.size))
        clear hb
        go_wp2_with fail
        go_ret
        exact ⟨rfl, G3.out⟩
  · clear hb
    go_wp2_with fail
    refine (works_any _).mono ?_
    rintro e w3 ⟨rfl, hb⟩
    have G3 := Lib.hid hb
    clear hb
    go_wp2_with fail
    go_ret
    exact ⟨rfl, G3.out⟩
end Go.Proofs.Ytneleioiondapaa
