import Derived.Test.YtlenjpgkmikgpaaR11
namespace Go.Proofs.Ytlenjpgkmikgpaa
open Go.RowKit Go.Shelf Go.Hos
set_option linter.unusedVariables false
/-! the chapter's example -/
def exSg : Lay.SegD := ⟨1, 6, 0, 0, 0, 256⟩
def exSy : Sym.SymD := ⟨⟨#[102]⟩, 32, 0, 1, true⟩
def exO (b : Nat) (r : RelD) (i : Nat) : ObjD := { ino := 0, base := 4096, ty := 3, en := 0, ph := 0, gA := some ⟨b, 0, none⟩, gM := 1, gQ := 1, nA := none, nM := 0, nQ := 0, so := ⟨#[]⟩, rn := ⟨#[]⟩, sA := some ⟨b + 1, 0, none⟩, sM := 1, sQ := 1, rA := some ⟨b + 2, 0, none⟩, rM := 1, rQ := 1, sg := fun _ => exSg, sy := fun _ => exSy, rl := fun _ => r }
theorem str_one {W : World} {B g t size : Nat} {cs : Array Value} (h : Blk W g t cs) (hg : g < B) : Lay.StR W B size (some ⟨g, 0, none⟩) 1 (fun _ => cs) := fun _ => by
  refine ⟨⟨g, 0, none⟩, rfl, hg, fun i hi j v hv => ?_⟩
  have : i = 0 := by omega
  subst this
  rw [Addr.add_mid, Nat.zero_add, h.cell, Nat.zero_mul, Nat.zero_add]
  exact hv
set_option maxRecDepth 20000 in
set_option maxHeartbeats 1600000 in
theorem ex_any (off ty : Nat) (sy ad : Int) (w : World) : Calls Try.prog 18 #[.agg #[.int .u64 off, .int .u32 ty, .int .i64 sy, .int .i64 ad]] w fun e W' => ∃ b, e = .returned (.slice (some ⟨b + 3, 0, none⟩) 1 1) ∧
    ObjR W' W'.heap.size (some ⟨b + 3, 0, none⟩) 1 (exO b ⟨off, ty, sy, ad⟩) ∧ Below w.heap.size w W' := by
  go_enter Try.func18, Try.ntmps18
  go_wp2_with fail
  go_ret
  generalize hw1 : w.alloc (.cells #[.int .u64 off, .int .u32 ty, .int .i64 sy, .int .i64 ad] 53) = w1
  have b1 : Below w.heap.size w w1 := by rw [← hw1]; exact (Below.refl _ _).alloc (Nat.le_refl _) _
  have hs : w.heap.size + 1 = w1.heap.size := by rw [← hw1]; simp
  refine ⟨w.heap.size + 1, rfl, ?_, (((b1.alloc (by omega) _).alloc (by simp; omega) _).alloc (by simp; omega) _).alloc (by simp; omega) _⟩
  rw [hs]
  refine ⟨?_, ?_, ?_, ?_, by simp [maxLen]⟩
  · exact str_one (blk_at 50 (exO w1.heap.size ⟨off, ty, sy, ad⟩ 0).cs (by simp)) (by simp)
  · intro i hi
    exact ⟨str_one ((((Blk.new w1 67 exSg.cs).alloc _).alloc _).alloc _) (by simp; omega), by show 1 ≤ maxLen; simp [maxLen]⟩
  · intro i hi
    exact ⟨str_one (((blk_at 61 exSy.cs (by simp)).alloc _).alloc _) (by simp), by show 1 ≤ maxLen; simp [maxLen]⟩
  · intro i hi
    exact ⟨str_one ((blk_at 53 (RelD.mk off ty sy ad).cs (by simp)).alloc _) (by simp), by show 1 ≤ maxLen; simp [maxLen]⟩
theorem exO_fits (b : Nat) (r : RelD) (i k : Nat) : ((exO b r i).sg k).fits := by
  show exSg.fits
  unfold Lay.SegD.fits exSg Lay.M
  exact ⟨by decide, by decide, by decide, by decide⟩
theorem pt1 {O : Nat → ObjD} (h : (O 0).rM = 1) : ptO O 1 1 = [(oneP O 1 0 ((O 0).rl 0)).1] := by
  show [] ++ ptI O 1 0 (O 0).rM = _
  rw [h]
  rfl
theorem er1 {O : Nat → ObjD} (h : (O 0).rM = 1) (hk : okR (O 0) = true) : patE O 1 = (oneP O 1 0 ((O 0).rl 0)).2 := by
  unfold patE
  rw [if_pos (by show ((true && okR (O 0)) && _) = true; rw [hk]; rfl)]
  show (if (0 : Int) = 0 then erI O 1 0 (O 0).rM else _) = _
  rw [if_pos rfl, h]
  rfl
theorem ex_ok (b : Nat) (r : RelD) : okR (exO b r 0) = true := by kernel_rfl
def exA : RelD := ⟨8, 1, 1, 2⟩
def exB : RelD := ⟨249, 6, 1, 0⟩
theorem ex_bad (b : Nat) : badP (exO b exA) 0 exA = false := by kernel_rfl
theorem ex_badB (b : Nat) : badP (exO b exB) 0 exB = true := by kernel_rfl
theorem ex_sym (b : Nat) : symP (exO b exA) 1 0 exA = (4128, 0) := by
  unfold symP
  rw [if_neg (by unfold exA; simp)]
  unfold Sym.ofP
  rw [if_pos (by kernel_rfl), if_neg (by show ¬ (true && ((1 : Int) == 0)) = true; decide), show Sym.lkO (fun i => (exO b exA i).syms) 1 (Sym.symV (fun i => (exO b exA i).syms) 1 ((0 : Nat) : Int) (exA.sym - 1)).nm = some (0, 0) by kernel_rfl]
  kernel_rfl
theorem ex_one (b : Nat) : oneP (exO b exA) 1 0 ((exO b exA 0).rl 0) = (⟨4104, 8, 4130⟩, 0) := by
  show oneP (exO b exA) 1 0 exA = _
  unfold oneP
  rw [ex_bad, if_neg (by simp), ex_sym, if_neg (by simp), show valP (exO b exA) 0 exA (4128, (0 : Int)).1 = some 4130 by kernel_rfl]
  kernel_rfl
theorem ex_oneB (b : Nat) : oneP (exO b exB) 1 0 ((exO b exB 0).rl 0) = (patZ, 22) := by
  show oneP (exO b exB) 1 0 exB = _
  unfold oneP
  rw [ex_badB, if_pos rfl]
theorem exA_er (b : Nat) : patE (exO b exA) 1 = 0 := by rw [er1 rfl (ex_ok _ _), ex_one]
theorem exB_er (b : Nat) : patE (exO b exB) 1 = 22 := by rw [er1 rfl (ex_ok _ _), ex_oneB]
theorem exA_pt (b : Nat) : ptO (exO b exA) 1 1 = [⟨4104, 8, 4130⟩] := by rw [pt1 rfl, ex_one]
end Go.Proofs.Ytlenjpgkmikgpaa
