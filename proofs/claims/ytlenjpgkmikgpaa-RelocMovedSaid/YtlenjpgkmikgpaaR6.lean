import Derived.Test.YtlenjpgkmikgpaaR5
namespace Go.Proofs.Ytlenjpgkmikgpaa
open Go.RowKit Go.Shelf Go.Hos
set_option linter.unusedVariables false
/-! Patches, of the program -/
/-- a relocation's fault -/
noncomputable def eP (O : Nat → ObjD) (m i k : Nat) : Int := (oneP O m i ((O i).rl k)).2
noncomputable def erI (O : Nat → ObjD) (m i : Nat) : Nat → Int
  | 0 => 0
  | k + 1 => if erI O m i k = 0 then eP O m i k else erI O m i k
noncomputable def erO (O : Nat → ObjD) (m : Nat) : Nat → Int
  | 0 => 0
  | i + 1 => if erO O m i = 0 then erI O m i (O i).rM else erO O m i
noncomputable def ptI (O : Nat → ObjD) (m i : Nat) : Nat → List PatD
  | 0 => []
  | k + 1 => ptI O m i k ++ [(oneP O m i ((O i).rl k)).1]
noncomputable def ptO (O : Nat → ObjD) (m : Nat) : Nat → List PatD
  | 0 => []
  | i + 1 => ptO O m i ++ ptI O m i (O i).rM
theorem erI_stays {O : Nat → ObjD} {m i k : Nat} (h : erI O m i k ≠ 0) : ∀ d, erI O m i (k + d) = erI O m i k
  | 0 => rfl
  | d + 1 => by show (if erI O m i (k + d) = 0 then _ else erI O m i (k + d)) = _; rw [erI_stays h d, if_neg h]
theorem erO_stays {O : Nat → ObjD} {m i : Nat} (h : erO O m i ≠ 0) : ∀ d, erO O m (i + d) = erO O m i
  | 0 => rfl
  | d + 1 => by show (if erO O m (i + d) = 0 then _ else erO O m (i + d)) = _; rw [erO_stays h d, if_neg h]
theorem ptI_len (O : Nat → ObjD) (m i : Nat) : ∀ k, (ptI O m i k).length = k
  | 0 => rfl
  | k + 1 => by rw [ptI, List.length_append, ptI_len O m i k]; rfl
def flatP (l : List PatD) : List Value := l.flatMap fun q => q.cs.toList
theorem flatP_snoc (l : List PatD) (q : PatD) : flatP (l ++ [q]) = flatP l ++ q.cs.toList := by simp [flatP]
noncomputable def patE (O : Nat → ObjD) (m : Nat) : Int := if (okAll O m && decide (m ≤ 9)) = true then erO O m m else 1
structure PaP (w : World) (O : Nat → ObjD) (m : Nat) (e : Ending) (W' : World) : Prop where
  bl : Below w.heap.size w W'
  re : ∃ A n c, e = .returned (.tuple #[.slice A n c, .int .i64 (patE O m)]) ∧ (patE O m ≠ 0 → n = 0) ∧ (patE O m = 0 → n = (ptO O m m).length ∧ W'.ownsRow w.heap.size 55 3 (.slice A n c) n (flatP (ptO O m m)))
/-- a fault behind which nothing is looked at -/
theorem patE_at {O : Nat → ObjD} {m i k : Nat} {E : Int} (hok : (okAll O m && decide (m ≤ 9)) = true) (hi : i < m) (hk : k < (O i).rM) (h1 : erO O m i = 0) (h2 : erI O m i k = 0) (he : eP O m i k = E) (hE : E ≠ 0) : patE O m = E := by
  have a1 : erI O m i (k + 1) = E := by rw [erI, if_pos h2, he]
  have a2 : erI O m i (O i).rM = E := by
    have := erI_stays (O := O) (m := m) (i := i) (k := k + 1) (by rw [a1]; exact hE) ((O i).rM - (k + 1))
    rw [show k + 1 + ((O i).rM - (k + 1)) = (O i).rM by omega] at this
    rw [this, a1]
  have a3 : erO O m (i + 1) = E := by rw [erO, if_pos h1, a2]
  have a4 := erO_stays (O := O) (m := m) (i := i + 1) (by rw [a3]; exact hE) (m - (i + 1))
  rw [show i + 1 + (m - (i + 1)) = m by omega] at a4
  unfold patE
  rw [if_pos hok, a4, a3]
theorem owns_below {W W' : World} {base e s n : Nat} {v : Value} {xs : List Value} (h : W.ownsRow base e s v n xs) (hb : Below W.heap.size W W') : W'.ownsRow base e s v n xs :=
  h.kept (row := none) ⟨hb.os, hb.tape, hb.output, hb.size, fun k hk _ => hb.block k hk⟩ (by
    rcases h.2 with ⟨e, _⟩ | ⟨g, cap, cur, e, _⟩
    · left; rw [e]; rfl
    · right; rw [e]; simp [Value.ownBlock])
structure PS (w : World) (ps : List PatD) (v : Value) (W : World) : Prop where
  bl : Below w.heap.size w W
  ow : W.ownsRow w.heap.size 55 3 v ps.length (flatP ps)
theorem PS.next {w W W' : World} {ps : List PatD} {v : Value} (h : PS w ps v W) (hb : Below W.heap.size W W') : PS w ps v W' :=
  ⟨h.bl.trans (hb.mono h.bl.size), owns_below h.ow hb⟩
theorem info55 : (Try.prog.info? 55).map (fun i => (i.zero, i.size, i.bytes)) = some (some (.agg #[.int .u64 0, .int .i64 0, .int .u64 0]), 3, 24) := by kernel_rfl
def fitsR (O : Nat → ObjD) : Prop := ∀ i k, ((O i).rl k).off < M ∧ -9223372036854775808 ≤ ((O i).rl k).sym ∧ ((O i).rl k).sym ≤ 9223372036854775807
end Go.Proofs.Ytlenjpgkmikgpaa
