import Derived.Test.YtfhkcbhbomghfaaWe
namespace Go.Proofs.Ytfhkcbhbomghfaa
open Go.RowKit Go.Hos
set_option linter.unusedVariables false

theorem wpList_append_run {P : Program} {w w' : World} {ops : Array Oper} {rest : List Oper} {o : Oper} {a : Act} {Q : Exit → Act → World → Prop} (hgd : o.guard = none) (s x : Operand) (t : TypeId)
    (ho : o.op = .call { callee := .builtin .append, args := #[s, x], argTypes := #[t, t] }) (v y v' : Value) (hs : a.eval s = v) (hx : a.eval x = y)
    (hrun : (Builtin.append_ #[t, t] o.type #[v, y]).run P w = .ok v' w') (h : wpList P ops Q rest (a.put o.dst v') w') : wpList P ops Q (o :: rest) a w := by
  refine wpList_plain hgd fun K hK => ?_
  unfold Oper.wp execOp
  simp only [ho, resolve, invoke, builtin, Sem.run_bind, Sem.run_pure, Result.andThen_ok, List.map_toArray, List.map_cons, List.map_nil, hs, hx, hrun]
  exact hK _ _ h

set_option maxHeartbeats 800000 in
theorem gone_any (A : Option Addr) (n cap m B : Nat) (xs : List Value) (w : World) (hw : w.ownsRow B 5 1 (.slice A n cap) n xs) (hB : B ≤ w.heap.size) (hn : n ≤ 70368744177664) :
    Calls Try.prog 32 #[.slice A n cap, .int .u8 m] w fun e w' => ∃ A' c', e = .returned (.slice A' (n + 40 : Nat) c') ∧ GN w B A n cap xs (.int .u8 m) A' 40 c' w' := by
  obtain ⟨i0, hi0, hz0, hz1, hz2⟩ := info_parts info5
  have HW := Lib.hid hw
  clear hw
  go_enter Try.func32, Try.ntmps32
  go_wp2_with fail
  go_loopw [0, 5] (fun s l wr => ∃ (k : Nat) (A' : Option Addr) (c' : Nat), k ≤ 40 ∧ s = .slice A' (n + k : Nat) c' ∧ l = .int .i64 ((40 - k : Nat) : Int) ∧ Hid (GN w B A n cap xs (.int .u8 m) A' k c' wr)) (fun _ l _ => (intOf l).toNat)
  case atStart => exact ⟨0, A, cap, Nat.zero_le _, rfl, rfl, GN.start _ HW.out⟩
  case round =>
    obtain ⟨k, A', c', hk, rfl, rfl, hg⟩ := hrel
    obtain ⟨l, hl⟩ : ∃ l, l = 40 - k := ⟨_, rfl⟩
    rw [← hl]
    by_cases hk4 : k < 40
    · have hl1 : 0 < l := by omega
      have hl2 : l ≤ 40 := by omega
      obtain ⟨A2, c2, W2, hrun, hg2⟩ := hg.out.step HW.out i0 hi0 hz0 hz1 hz2 (by simp [Value.oneCell']) (by omega) hB 22
      have HL := Lib.hid hl
      have HR := Lib.hid hrun
      have HG := Lib.hid hg2
      clear hl hrun hg2
      go_wp2_with (at_builtin; refine wpList_append_run rfl (.tmp 10) (.tmp 12) 22 rfl _ _ _ rfl rfl HR.out ?_)
      go_roundw
      case rel => exact ⟨k + 1, A2, c2, by omega, rfl, by have := HL.out; go_num, HG⟩
      case measure => simp [intOf]; omega
    · have hl0 : l = 0 := by omega
      obtain rfl : k = 40 := by omega
      subst hl0
      have h00 : ((0 : Nat) : Int) = 0 := rfl
      clear hl
      go_wp2_with fail
      go_ret
      exact ⟨_, _, rfl, hg.out⟩
end Go.Proofs.Ytfhkcbhbomghfaa
