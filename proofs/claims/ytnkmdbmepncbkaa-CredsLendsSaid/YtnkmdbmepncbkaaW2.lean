import Derived.Test.YtnkmdbmepncbkaaW1
import Derived.Deep.QuietTactic
import Derived.BigQuiet
namespace Go.Proofs.Ytnkmdbmepncbkaa
open Go.RowKit Go.Hos

def cls (euid gid : Int) (gs : List Int) (mu mg : Int) : Int := if euid = mu then 0 else if gid = mg ∨ mg ∈ gs then 1 else 2

set_option maxHeartbeats 400000 in
theorem class_any (uid euid suid gid : Int) (A : Option Addr) (n c : Nat) (gs : List Int) (kd mo mu mg sz : Int) (B : Nat) (w : World)
    (h : Reads w B 1 A n (gs.map (Value.int .u32))) (hB : B ≤ w.heap.size) (hn : n ≤ 9223372036854775807) :
    Calls Try.prog 18 #[.agg #[.int .u32 uid, .int .u32 euid, .int .u32 suid, .int .u32 gid, .slice A n c], .agg #[.int .u8 kd, .int .u16 mo, .int .u32 mu, .int .u32 mg, .int .i64 sz]] w
      fun e w' => e = .returned (.int .i64 (cls euid gid gs mu mg)) ∧ Below w.heap.size w w' := by
  have H := Lib.hid h
  clear h
  go_enter Try.func18, Try.ntmps18
  go_wp2_with (go_at_call 26; refine (contains_any _ _ _ gs _ B _ ((H.out.alloc hB _).alloc (by simp; omega) _) hn).mono ?_; rintro e w' ⟨rfl, rfl⟩)
  all_goals
    go_ret
    refine ⟨?_, ((Below.refl _ _).alloc (Nat.le_refl _) _).alloc (by simp) _⟩
    simp_all [cls]

theorem cls_hit {euid gid : Int} {gs : List Int} {mu mg : Int} {k : Nat} {x : Int} (h1 : (euid == mu) = false) (hk : k < gs.length) (hx : gs.getD k 0 = x) (hv : (x == mg) = true) : cls euid gid gs mu mg = 1 := by
  have hm : mg ∈ gs := by
    have := beq_iff_eq.1 hv; subst this; subst hx
    rw [List.getD_eq_getElem?_getD, List.getElem?_eq_getElem hk]; simp
  simp_all [cls]
theorem cls_miss {euid gid : Int} {gs : List Int} {mu mg : Int} (h1 : (euid == mu) = false) (h2 : (gid == mg) = false) (hno : ∀ j, j < gs.length → gs.getD j 0 ≠ mg) : cls euid gid gs mu mg = 2 := by
  have hm : mg ∉ gs := by
    intro hx
    obtain ⟨j, hj, e⟩ := List.getElem_of_mem hx
    have := hno j hj
    rw [List.getD_eq_getElem?_getD, List.getElem?_eq_getElem hj] at this; exact this (by simpa using e)
  simp_all [cls]

set_option maxHeartbeats 400000 in
theorem rclass_any (uid euid suid gid : Int) (A : Option Addr) (n c : Nat) (gs : List Int) (kd mo mu mg sz : Int) (B : Nat) (w : World)
    (h : Reads w B 1 A n (gs.map (Value.int .u32))) (hB : B ≤ w.heap.size) (hn : n ≤ 9223372036854775807) :
    Calls Try.prog 21 #[.agg #[.int .u32 uid, .int .u32 euid, .int .u32 suid, .int .u32 gid, .slice A n c], .agg #[.int .u8 kd, .int .u16 mo, .int .u32 mu, .int .u32 mg, .int .i64 sz]] w
      fun e w' => e = .returned (.int .i64 (cls euid gid gs mu mg)) ∧ Below w.heap.size w w' := by
  have H := Lib.hid h
  clear h
  go_enter Try.func21, Try.ntmps21
  go_wp2
  · go_ret
    exact ⟨by simp_all [cls], ((Below.refl _ _).alloc (Nat.le_refl _) _).alloc (by simp) _⟩
  · go_ret
    exact ⟨by simp_all [cls], ((Below.refl _ _).alloc (Nat.le_refl _) _).alloc (by simp) _⟩
  · have h1 : (euid == mu) = false := by assumption
    have h2 : (gid == mg) = false := by assumption
    obtain ⟨W, hW⟩ : ∃ W, W = (w.alloc (Obj.cells #[.int .u32 uid, .int .u32 euid, .int .u32 suid, .int .u32 gid, .slice A n c] 25)).alloc (Obj.cells #[.int .u8 kd, .int .u16 mo, .int .u32 mu, .int .u32 mg, .int .i64 sz] 28) := ⟨_, rfl⟩
    rw [← hW]
    have hb : Below w.heap.size w W := by subst hW; exact ((Below.refl _ _).alloc (Nat.le_refl _) _).alloc (by simp) _
    have hc1 : W.cell? ⟨w.heap.size, 4, none⟩ = some (.slice A n c) := by subst hW; simp
    have hc2 : W.cell? ⟨w.heap.size + 1, 3, none⟩ = some (.int .u32 mg) := by subst hW; simp
    clear hW
    have HH : Hid (Reads W B 1 A n (gs.map (Value.int .u32))) := H.out.keep fun p hp => hb.cell (by omega)
    have HL : Hid (gs.length = n) := by have := H.out.1; simp at this; exact this
    have hlow : Hid (Below w.heap.size w W) := hb
    clear H hb
    go_loopw [5] (fun i wr => ∃ k m : Nat, k ≤ n ∧ i = .int .i64 k ∧ wr = W.drewN m ∧ Hid (∀ j, j < k → gs.getD j 0 ≠ mg)) (fun i _ => n - (intOf i).toNat)
    case atStart => exact ⟨0, 0, Nat.zero_le _, rfl, rfl, fun j hj => absurd hj (by omega)⟩
    case round =>
      obtain ⟨k, m, hk, rfl, rfl, hno⟩ := hrel
      by_cases hlt : k < n
      · obtain ⟨ad, x, rfl, hb, hc, hx⟩ := u32_get HH.out hlt
        go_wp2
        go_quiet (fail)
        go_wp2
        · go_ret
          exact ⟨by rw [cls_hit (by assumption) (by have := HL.out; omega) hx.out (by assumption)]; rfl, below_drewN (below_drewN hlow.out _) _⟩
        · have hv : (x == mg) = false := by assumption
          go_roundw
          case rel =>
            refine ⟨k + 1, _, by omega, by go_num, rfl, fun j hj => ?_⟩
            by_cases e : j = k
            · subst e; rw [hx.out]; intro e; subst e; simp at hv
            · exact hno j (by omega)
          case measure => simp [intOf]; omega
      · go_wp2
        go_ret
        exact ⟨by rw [cls_miss (by assumption) (by assumption) (fun j hj => hno j (by have := HL.out; omega))]; rfl, below_drewN hlow.out _⟩
end Go.Proofs.Ytnkmdbmepncbkaa
