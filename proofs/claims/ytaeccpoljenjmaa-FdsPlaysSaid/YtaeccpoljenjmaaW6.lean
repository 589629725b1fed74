import Derived.Test.YtaeccpoljenjmaaW5
namespace Go.Proofs.Ytaeccpoljenjmaa
open Go.RowKit Go.Hos
set_option linter.unusedVariables false

/-! the document's table -/
structure RT (W : World) (gx ga ca : Nat) (T : Nat → Sl) : Prop where
  hd : Blk W gx 57 #[.slice (some ⟨ga, 0, none⟩) 16 ca]
  sb : SB W ga 33 ca T
section
variable {W W' : World} {gx ga ca : Nat} {T : Nat → Sl}
theorem RT.ne_ (h : RT W gx ga ca T) : gx ≠ ga := fun e => h.sb.ne_blk h.hd (by decide) e.symm
theorem RT.get (h : RT W gx ga ca T) : W.cell? ⟨gx, 0, none⟩ = some (.slice (some ⟨ga, 0, none⟩) 16 ca) := (h.hd.cell 0).trans rfl
theorem RT.next (h : RT W gx ga ca T) (hb : Below W.heap.size W W') : RT W' gx ga ca T := ⟨h.hd.below hb h.hd.lt, h.sb.next hb⟩
theorem RT.grown {row : Option Nat} (h : RT W gx ga ca T) (hb : W.grownBy W' row) (hx : some gx ≠ row) (ha : some ga ≠ row) : RT W' gx ga ca T := ⟨h.hd.grown hb hx, h.sb.grown hb ha⟩
theorem RT.store (h : RT W gx ga ca T) {k : Nat} (hk : k < 16) (s : Sl) :
    RT ((((W.setCell ⟨ga, k * 4, none⟩ (.bool s.u)).setCell ⟨ga, k * 4 + 1, none⟩ (.int .i64 s.i)).setCell ⟨ga, k * 4 + 2, none⟩ (.int .i64 s.p)).setCell ⟨ga, k * 4 + 3, none⟩ (.bool s.x)) gx ga ca (upd T k s) :=
  ⟨(((h.hd.far (by exact h.ne_) _).far (by exact h.ne_) _).far (by exact h.ne_) _).far (by exact h.ne_) _, h.sb.store hk s⟩
theorem RT.storeP (h : RT W gx ga ca T) {k : Nat} (hk : k < 16) (p : Int) : RT (W.setCell ⟨ga, k * 4 + 2, none⟩ (.int .i64 p)) gx ga ca (upd T k { T k with p := p }) :=
  ⟨h.hd.far (by exact h.ne_) _, h.sb.storeP hk p⟩
end

set_option maxHeartbeats 800000 in
theorem rat_any (gx ga ca : Nat) (f : Int) (T : Nat → Sl) (w : World) (h : RT w gx ga ca T) :
    Calls Try.prog 27 #[.pointer (some ⟨gx, 0, none⟩), .int .i64 f] w fun e w' => e = .returned (.tuple #[.agg (atV T f).cs, .int .i64 (closeE T f)]) ∧ Below w.heap.size w w' := by
  have hx := h.get
  have lx := h.hd.lt
  have la := h.sb.lt
  cases hf : okf T f
  · rw [closeE_no hf, atV_no hf]
    rcases okf_no hf with h0 | h1 | ⟨k, rfl, hk, hu⟩
    · clear h hf
      go_enter Try.func27, Try.ntmps27
      go_wp2_with fail
      exact bodyPost_ret (v := .tuple #[.agg nosl.cs, .int .i64 14]) (by simp [results, Try.results27, go_sem]; rfl) rfl ⟨rfl, (Below.refl _ _).alloc (Nat.le_refl _) _⟩
    · have h0 : ¬ f < 0 := by omega
      clear h hf
      go_enter Try.func27, Try.ntmps27
      go_wp2_with fail
      exact bodyPost_ret (v := .tuple #[.agg nosl.cs, .int .i64 14]) (by simp [results, Try.results27, go_sem]; rfl) rfl ⟨rfl, (Below.refl _ _).alloc (Nat.le_refl _) _⟩
    · obtain ⟨hc, _⟩ := h.sb.cells hk
      rw [hu] at hc
      clear h hu hf
      go_enter Try.func27, Try.ntmps27
      go_wp2_with fail
      exact bodyPost_ret (v := .tuple #[.agg nosl.cs, .int .i64 14]) (by simp [results, Try.results27, go_sem]; rfl) rfl ⟨rfl, (Below.refl _ _).alloc (Nat.le_refl _) _⟩
  · obtain ⟨k, rfl, hk, hu⟩ := okf_yes hf
    rw [closeE_yes hf, atV_yes hf]
    obtain ⟨c1, c2, c3, c4⟩ := h.sb.cells hk
    rw [hu] at c1
    have e : (T k).cs = #[.bool true, .int .i64 (T k).i, .int .i64 (T k).p, .bool (T k).x] := by rw [Sl.cs, hu]
    rw [e]
    clear h hf hu e
    go_enter Try.func27, Try.ntmps27
    go_wp2_with fail
    exact bodyPost_ret (v := .tuple #[.agg #[.bool true, .int .i64 (T k).i, .int .i64 (T k).p, .bool (T k).x], .int .i64 0]) (by simp [results, Try.results27, go_sem]) rfl ⟨rfl, (Below.refl _ _).alloc (Nat.le_refl _) _⟩

set_option maxHeartbeats 800000 in
theorem rclose_any (gx ga ca : Nat) (f : Int) (T : Nat → Sl) (w : World) (h : RT w gx ga ca T) :
    Calls Try.prog 26 #[.pointer (some ⟨gx, 0, none⟩), .int .i64 f] w fun e w' => e = .returned (.int .i64 (closeE T f)) ∧ RT w' gx ga ca (closeT T f) ∧ w.grownBy w' (some ga) := by
  have H := Lib.hid h
  cases hf : okf T f
  · rw [closeT_no hf]
    have HF := Lib.hid (closeE_no hf)
    clear h hf
    go_enter Try.func26, Try.ntmps26
    go_wp2_with fail
    refine (rat_any gx ga ca f T _ H.out).mono ?_
    rw [HF.out]
    rintro e w1 ⟨rfl, hb⟩
    have H1 : Hid (RT w1 gx ga ca T) := H.out.next hb
    have G1 := Lib.hid (grown_of_below hb (some ga))
    clear hb
    rw [Sl.cs]
    go_wp2_with fail
    go_ret
    exact ⟨by rw [HF.out]; rfl, H1.out.next ((Below.refl _ _).alloc (Nat.le_refl _) _), G1.out.trans (grown_alloc _ _ _)⟩
  · obtain ⟨k, rfl, hk, hu⟩ := okf_yes hf
    rw [closeT_yes hf]
    have HF := Lib.hid (closeE_yes hf)
    clear h hf hu
    go_enter Try.func26, Try.ntmps26
    go_wp2_with fail
    refine (rat_any gx ga ca k T _ H.out).mono ?_
    rw [HF.out]
    rintro e w1 ⟨rfl, hb⟩
    have H1 : Hid (RT w1 gx ga ca T) := H.out.next hb
    have G1 := Lib.hid (grown_of_below hb (some ga))
    obtain ⟨c1, c2, c3, c4⟩ := H1.out.sb.cells hk
    have hx := H1.out.get
    have lx := H1.out.hd.lt
    have la := H1.out.sb.lt
    have f1 := H1.out.sb.free (k * 4); have f2 := H1.out.sb.free (k * 4 + 1); have f3 := H1.out.sb.free (k * 4 + 2); have f4 := H1.out.sb.free (k * 4 + 3)
    clear hb
    rw [Sl.cs]
    go_wp2_with fail
    go_ret
    exact ⟨by rw [HF.out]; rfl, (H1.out.store hk nosl).next ((Below.refl _ _).alloc (Nat.le_refl _) _), (G1.out.trans (grown_set4 _ _ _ _ _ _ _ _ _ _)).trans (grown_alloc _ _ _)⟩
end Go.Proofs.Ytaeccpoljenjmaa
