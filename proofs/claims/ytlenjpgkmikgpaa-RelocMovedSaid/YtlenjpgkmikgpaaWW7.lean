import Derived.Test.YtlenjpgkmikgpaaWW5
import Derived.Deep.OwnRows
namespace Go.Proofs.Ytlenjpgkmikgpaa.Wrd
open Go.RowKit Go.Hos
set_option linter.unusedVariables false

theorem info5 : (Try.prog.info? 5).map (fun i => (i.zero, i.size, i.bytes)) = some (some (.int .u8 0), 1, 1) := by kernel_rfl

set_option maxHeartbeats 400000 in
theorem clone_any (A : Option Addr) (n c : Nat) (bs : List Nat) (B : Nat) (w : World) (h : Reads w B 1 A n (B8 bs)) (hB : B ≤ w.heap.size) (hn : n ≤ 140737488355328) :
    Calls Try.prog 33 #[.slice A n c] w fun e w' => ∃ v, e = .returned v ∧ w'.ownsRow w.heap.size 5 1 v n (B8 bs) ∧ Below w.heap.size w w' := by
  obtain ⟨i0, hi0, hz0, hz1, hz2⟩ := info_parts info5
  have he := fun w => Lib.run_eql_slice_nil (P := Try.prog) w 36 5 A n c 0 0 Try.underlying36
  cases A with
  | none =>
    have h0 : n = 0 := by
      rcases Nat.eq_zero_or_pos n with h0 | h0
      · exact h0
      · obtain ⟨ad, h, _⟩ := h.2 h0; cases h
    subst h0
    have hg : bs = [] := by have := b8_len h; exact List.eq_nil_of_length_eq_zero this
    subst hg
    clear h
    go_enter Try.func33, Try.ntmps33
    go_wp2
    go_ret
    exact ⟨_, rfl, World.ownsRow_nil _ _ _ _, Below.refl _ _⟩
  | some ad =>
    have H := Lib.hid h
    clear h
    go_enter Try.func33, Try.ntmps33
    go_wp2_with (at_builtin
                 refine wpList_append_any _ rfl (.tmp 5) (.tmp 6) _ rfl w.heap.size 5 i0 _ 1 1 Try.underlying36 hi0 hz0 hz1 hz2 rfl (by omega) (.slice (some ⟨w.heap.size, 0, none⟩) 0 0) 0 [] rfl
                   ?c1 B _ n c _ rfl (H.out.alloc hB _) (b8_one bs) (by simp only [maxLen]; omega) (by omega) (by simp) ?_
                 rotate_left
                 intro v1 w1 hown1 hg1 hat1)
    · go_ret
      refine ⟨v1, rfl, by simpa using hown1, ((Below.refl _ _).alloc (Nat.le_refl _) _).grown hg1 (by simp) (fun k hk => ?_)⟩
      simp [Value.ownBlock] at hk; omega
    · exact owns_empty _ _ _ (Nat.le_refl _)

theorem b8_set (bs : List Nat) (j x : Nat) : B8 (bs.set j x) = (B8 bs).set j (.int .u8 (x : Int)) := by
  unfold B8; rw [List.map_set]
theorem owns_len {w : World} {base e n : Nat} {v : Value} {bs : List Nat} (h : w.ownsRow base e 1 v n (B8 bs)) : bs.length = n := by
  have := h.1; simp [B8] at this; exact this

end Go.Proofs.Ytlenjpgkmikgpaa.Wrd
