import Derived.Test.YtlenjpgkmikgpaaLZ1
namespace Go.Proofs.Ytlenjpgkmikgpaa.Lay
open Go.RowKit Go.Hos
set_option linter.unusedVariables false
set_option maxHeartbeats 400000 in
theorem rup_any (a : Nat) (w : World) (ha : a + 4096 < M) : Calls Try.prog 30 #[.int .u64 a] w fun e w' => e = .returned (.int .u64 (upv a)) ∧ w = w' := by
  have hup : upv a = dn (a + 4095) := by unfold upv; rw [if_pos (by omega)]
  rw [hup]
  obtain ⟨x, hx⟩ : ∃ x, x = dn (a + 4095) := ⟨_, rfl⟩
  obtain ⟨s, hs⟩ : ∃ s : Nat, (a : Int) + 4096 = (s : Int) := ⟨a + 4096, by omega⟩
  obtain ⟨t, ht⟩ : ∃ t : Nat, (s : Int) - 1 = (t : Int) := ⟨s - 1, by omega⟩
  obtain ⟨d, hd⟩ : ∃ d : Nat, (t : Int) / 4096 = (d : Int) := ⟨t / 4096, by omega⟩
  have hta : t = a + 4095 := by omega
  have hda : d = t / 4096 := by omega
  have h0 : IntKind.u64.wrap (s : Int) = (s : Int) := wrap_small (Nat.lt_of_le_of_lt (by omega) ha)
  have h0' : IntKind.u64.wrap ((a : Int) + 4096) = (s : Int) := by rw [hs]; exact h0
  have htM : t < M := Nat.lt_of_le_of_lt (by omega) ha
  have h1 : IntKind.u64.wrap ((s : Int) - 1) = (t : Int) := by rw [ht]; exact wrap_small htM
  have h2 : (t : Int).tdiv 4096 = (d : Int) := by rw [Int.tdiv_eq_ediv_of_nonneg (by omega)]; omega
  have h3 : IntKind.u64.wrap (d : Int) = (d : Int) := wrap_small (Nat.lt_of_le_of_lt (by omega) htM)
  have hxd : (d : Int) * 4096 = (x : Int) := by rw [hx, hda, hta]; unfold dn; omega
  have hxM : x < M := Nat.lt_of_le_of_lt (by rw [hx]; exact dn_le _) (show a + 4095 < M by omega)
  have h4 : IntKind.u64.wrap ((d : Int) * 4096) = (x : Int) := by rw [hxd]; exact wrap_small hxM
  rw [← hx]
  clear hx hta hda htM hxd hxM hup ha hs ht
  go_enter Try.func30, Try.ntmps30
  go_wp2_with fail
  go_ret
  exact ⟨rfl, rfl⟩
end Go.Proofs.Ytlenjpgkmikgpaa.Lay
