import Derived.Test.YticnmgdflkipeaaZ23
namespace Go.Proofs.Yticnmgdflkipeaa
open Go.RowKit Go.Shelf Go.Hos
set_option linter.unusedVariables false
set_option maxRecDepth 100000 in
set_option maxHeartbeats 1600000 in
theorem pieces_any (o : ObjD) (w : World) (hS : StR w w.heap.size 6 o.gA o.gM (segC o.sg)) (hf : ∀ k, (o.sg k).fits) (hb : o.base < M) : Calls Try.prog 18 #[.agg o.cs] w (PiP w o) := by
  by_cases hr : rightB o = true
  · by_cases hal : o.base % 4096 = 0
    · by_cases hl : liesB o = true
      · exact callsIn_wide.1 (pieces_in Fence.wide wideR_wide o w hS hf hr hb hal hl)
      · have hl : liesB o = false := by simpa using hl
        have NO := Lib.hid (show (rightB o && o.base % 4096 == 0 && liesB o) = false by rw [hl, Bool.and_false])
        have RT : Hid (∀ W : World, StR W W.heap.size 6 o.gA o.gM (segC o.sg) → Calls Try.prog 11 #[.agg o.cs] W fun e W' => e = .returned (.bool true) ∧ Below W.heap.size W W') := Lib.hid fun W h => by
          have := right_any o W h hf; rwa [hr] at this
        have LT : Hid (∀ W : World, StR W W.heap.size 6 o.gA o.gM (segC o.sg) → Calls Try.prog 39 #[.agg o.cs] W fun e W' => ∃ p q : Int, e = .returned (.tuple #[.agg #[.int .u64 p, .int .u64 q], .bool false]) ∧ Below W.heap.size W W') := Lib.hid fun W h => lies_no o W h hf hr hb hl
        have tr1 : (o.base : Int).tmod 4096 = 0 := by rw [Int.tmod_eq_emod_of_nonneg (by omega)]; omega
        have tr2 : (o.base : Int) % 4096 = 0 := by omega
        have HS := Lib.hid hS
        obtain ⟨w0, hw0⟩ : ∃ x, x = w.alloc (.cells o.cs 33) := ⟨_, rfl⟩
        have B0 : Hid (Below w.heap.size w w0) := by rw [hw0]; exact Lib.hid ((Below.refl _ _).alloc (Nat.le_refl _) _)
        have K0 : Hid (Blk w0 w.heap.size 33 o.cs) := by rw [hw0]; exact Lib.hid (Blk.new _ _ _)
        have HW0 := Lib.hid hw0
        obtain ⟨O0, hO0⟩ : ∃ x, x = o := ⟨_, rfl⟩
        have hO1 : o.cs = O0.cs := by rw [hO0]
        rw [← hO0] at HS RT LT NO ⊢
        rw [hO1] at K0
        obtain ⟨ino, base, ty, en, ph, gA, gM, gQ, nA, nM, nQ, so, rn, sA, sM, sQ, rA, rM, rQ, sg⟩ := o
        rw [show (ObjD.mk ino base ty en ph gA gM gQ nA nM nQ so rn sA sM sQ rA rM rQ sg).cs = #[.int .i64 ino, .int .u64 base, .int .u16 ty, .int .u64 en, .int .u64 ph, .slice gA gM gQ, .slice nA nM nQ, .string so, .string rn, .slice sA sM sQ, .slice rA rM rQ] from rfl] at HW0 hO1
        have HO1 := Lib.hid hO1
        rw [← hO1]
        dsimp only at tr1 tr2
        clear hS hf hr hal hl hb hw0 hO0 hO1
        go_enter Try.func18, Try.ntmps18
        go_wp2_with fail
        rw [← HW0.out, HO1.out]
        refine (RT.out w0 ((HS.out.below B0.out).more B0.out.size)).mono ?_
        rintro e w1 ⟨rfl, bl1⟩
        have B1 : Hid (Below w.heap.size w w1) := Lib.hid (B0.out.trans (bl1.mono B0.out.size))
        have K1 := Lib.hid (K0.out.below bl1 K0.out.lt)
        rw [← HO1.out] at K1
        have k0 := (K1.out.cell 0).trans rfl; have k1 := (K1.out.cell 1).trans rfl; have k2 := (K1.out.cell 2).trans rfl; have k3 := (K1.out.cell 3).trans rfl; have k4 := (K1.out.cell 4).trans rfl; have k5 := (K1.out.cell 5).trans rfl
        have k6 := (K1.out.cell 6).trans rfl; have k7 := (K1.out.cell 7).trans rfl; have k8 := (K1.out.cell 8).trans rfl; have k9 := (K1.out.cell 9).trans rfl; have k10 := (K1.out.cell 10).trans rfl
        simp only [List.getElem?_toArray, List.getElem?_cons_succ, List.getElem?_cons_zero] at k0 k1 k2 k3 k4 k5 k6 k7 k8 k9 k10
        have l1 := K1.out.lt
        clear bl1
        go_wp2_with fail
        rw [HO1.out]
        refine (LT.out w1 ((HS.out.below B1.out).more B1.out.size)).mono ?_
        rintro e w2 ⟨p, q, rfl, bl2⟩
        have B2 : Hid (Below w.heap.size w w2) := Lib.hid (B1.out.trans (bl2.mono B1.out.size))
        clear bl2 k0 k1 k2 k3 k4 k5 k6 k7 k8 k9 k10 l1
        go_wp2_with fail
        go_ret3
        exact PiP.no (B2.out.alloc B2.out.size _) NO.out
    · have NO := Lib.hid (show (rightB o && o.base % 4096 == 0 && liesB o) = false by simp [hal])
      have RT : Hid (∀ W : World, StR W W.heap.size 6 o.gA o.gM (segC o.sg) → Calls Try.prog 11 #[.agg o.cs] W fun e W' => e = .returned (.bool true) ∧ Below W.heap.size W W') := Lib.hid fun W h => by
        have := right_any o W h hf; rwa [hr] at this
      obtain ⟨md, hmd⟩ : ∃ x, x = o.base % 4096 := ⟨_, rfl⟩
      have tr1 : (o.base : Int).tmod 4096 = (md : Int) := by rw [Int.tmod_eq_emod_of_nonneg (by omega)]; omega
      have tr2 : (o.base : Int) % 4096 = (md : Int) := by omega
      have tr3 : ((md : Int) != 0) = true := by simp; omega
      have tr4 : ((md : Int) == 0) = false := by simp; omega
      have HS := Lib.hid hS
      obtain ⟨w0, hw0⟩ : ∃ x, x = w.alloc (.cells o.cs 33) := ⟨_, rfl⟩
      have B0 : Hid (Below w.heap.size w w0) := by rw [hw0]; exact Lib.hid ((Below.refl _ _).alloc (Nat.le_refl _) _)
      have K0 : Hid (Blk w0 w.heap.size 33 o.cs) := by rw [hw0]; exact Lib.hid (Blk.new _ _ _)
      have HW0 := Lib.hid hw0
      obtain ⟨O0, hO0⟩ : ∃ x, x = o := ⟨_, rfl⟩
      have hO1 : o.cs = O0.cs := by rw [hO0]
      rw [← hO0] at HS RT NO ⊢
      rw [hO1] at K0
      obtain ⟨ino, base, ty, en, ph, gA, gM, gQ, nA, nM, nQ, so, rn, sA, sM, sQ, rA, rM, rQ, sg⟩ := o
      rw [show (ObjD.mk ino base ty en ph gA gM gQ nA nM nQ so rn sA sM sQ rA rM rQ sg).cs = #[.int .i64 ino, .int .u64 base, .int .u16 ty, .int .u64 en, .int .u64 ph, .slice gA gM gQ, .slice nA nM nQ, .string so, .string rn, .slice sA sM sQ, .slice rA rM rQ] from rfl] at HW0 hO1
      have HO1 := Lib.hid hO1
      rw [← hO1]
      dsimp only at tr1 tr2
      clear hS hf hr hal hb hw0 hO0 hO1 hmd
      go_enter Try.func18, Try.ntmps18
      go_wp2_with fail
      rw [← HW0.out, HO1.out]
      refine (RT.out w0 ((HS.out.below B0.out).more B0.out.size)).mono ?_
      rintro e w1 ⟨rfl, bl1⟩
      have B1 : Hid (Below w.heap.size w w1) := Lib.hid (B0.out.trans (bl1.mono B0.out.size))
      have K1 := Lib.hid (K0.out.below bl1 K0.out.lt)
      rw [← HO1.out] at K1
      have k1 : w1.cell? ⟨w.heap.size, 1, none⟩ = some (.int .u64 base) := (K1.out.cell 1).trans rfl
      have l1 := K1.out.lt
      clear bl1
      go_wp2_with fail
      go_ret3
      exact PiP.no B1.out NO.out
  · have hr : rightB o = false := by simpa using hr
    have NO := Lib.hid (show (rightB o && o.base % 4096 == 0 && liesB o) = false by rw [hr]; rfl)
    have RT : Hid (∀ W : World, StR W W.heap.size 6 o.gA o.gM (segC o.sg) → Calls Try.prog 11 #[.agg o.cs] W fun e W' => e = .returned (.bool false) ∧ Below W.heap.size W W') := Lib.hid fun W h => by
      have := right_any o W h hf; rwa [hr] at this
    have HS := Lib.hid hS
    obtain ⟨w0, hw0⟩ : ∃ x, x = w.alloc (.cells o.cs 33) := ⟨_, rfl⟩
    have B0 : Hid (Below w.heap.size w w0) := by rw [hw0]; exact Lib.hid ((Below.refl _ _).alloc (Nat.le_refl _) _)
    have HW0 := Lib.hid hw0
    obtain ⟨O0, hO0⟩ : ∃ x, x = o := ⟨_, rfl⟩
    have hO1 : o.cs = O0.cs := by rw [hO0]
    rw [← hO0] at HS RT NO ⊢
    obtain ⟨ino, base, ty, en, ph, gA, gM, gQ, nA, nM, nQ, so, rn, sA, sM, sQ, rA, rM, rQ, sg⟩ := o
    rw [show (ObjD.mk ino base ty en ph gA gM gQ nA nM nQ so rn sA sM sQ rA rM rQ sg).cs = #[.int .i64 ino, .int .u64 base, .int .u16 ty, .int .u64 en, .int .u64 ph, .slice gA gM gQ, .slice nA nM nQ, .string so, .string rn, .slice sA sM sQ, .slice rA rM rQ] from rfl] at HW0 hO1
    have HO1 := Lib.hid hO1
    rw [← hO1]
    clear hS hf hr hb hw0 hO0 hO1
    go_enter Try.func18, Try.ntmps18
    go_wp2_with fail
    rw [← HW0.out, HO1.out]
    refine (RT.out w0 ((HS.out.below B0.out).more B0.out.size)).mono ?_
    rintro e w1 ⟨rfl, bl1⟩
    have B1 : Hid (Below w.heap.size w w1) := Lib.hid (B0.out.trans (bl1.mono B0.out.size))
    clear bl1
    go_wp2_with fail
    go_ret3
    exact PiP.no B1.out NO.out
end Go.Proofs.Yticnmgdflkipeaa
