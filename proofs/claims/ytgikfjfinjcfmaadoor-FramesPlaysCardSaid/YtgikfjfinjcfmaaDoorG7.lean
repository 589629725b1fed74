import Derived.Test.YtgikfjfinjcfmaaDoorG6
import Derived.Test.YtgikfjfinjcfmaaDoorG4
namespace Go.Proofs.YtgikfjfinjcfmaaDoor
open Go.RowKit Go.Hos
set_option linter.unusedVariables false
def Ms (C : Nat → Nat) (k : Nat) : Nat := if 0 < C k then 4096 else 0
theorem ldL_page {C : Nat → Nat} {n k : Nat} (hk : k < n) : ldL C n k 0 4096 = Ms C k := by
  unfold ldL Ms
  by_cases h : 0 < C k
  · rw [if_pos h, if_pos (by simp [ldB, tkB_of hk h])]; rfl
  · rw [if_neg h, if_neg (by simp [ldB, tkB]; omega)]
theorem ldE_page {C : Nat → Nat} {n k : Nat} (hk : k < n) (h : 0 < C k) : ldE C n k 0 4096 = 0 := by
  unfold ldE
  rw [if_pos (by simp [ldB, tkB_of hk h])]
/-- what was loaded of the first i frames -/
structure WA (L i : Nat) (C : Nat → Nat) (D : Nat → Nat → Nat) (v : Value) (As : Nat → Option Addr) (W : World) : Prop where
  own : W.ownsRow L 42 1 v i ((List.range i).map fun k => .slice (As k) (Ms C k) (Ms C k))
  en : ∀ k, k < i → LdV W L (As k) (Ms C k) (D k)
section
variable {L i : Nat} {C : Nat → Nat} {D : Nat → Nat → Nat} {v : Value} {As : Nat → Option Addr} {W W' : World}
theorem WA.keep (h : WA L i C D v As W) (hk : ∀ g e cs, (e = 5 ∨ e = 42) → Blk W g e cs → Blk W' g e cs) : WA L i C D v As W' :=
  ⟨owns_keep h.own fun g cs hb => hk g 42 cs (.inr rfl) hb, fun k hk' => (h.en k hk').keep fun g cs hb => hk g 5 cs (.inl rfl) hb⟩
theorem WA.below (h : WA L i C D v As W) (hb : Below W.heap.size W W') : WA L i C D v As W' := h.keep fun g e cs _ hg => hg.below hb hg.lt
theorem WA.kf {c n : Nat} {F : Nat → Value} (h : WA L i C D v As W) (cc : Row W c 3 n F) (kf : KF c W W') : WA L i C D v As W' := by
  refine h.keep fun g e cs he hb => ?_
  rcases he with rfl | rfl
  · exact kf g _ cs hb (by decide) (by decide) (by decide) (by decide) (fun hc => cc.ne_blk hb (by decide) hc.symm)
  · exact kf g _ cs hb (by decide) (by decide) (by decide) (by decide) (fun hc => cc.ne_blk hb (by decide) hc.symm)
theorem WA.push {v' : Value} {A : Option Addr} (h : WA L i C D v As W) (ld : LdV W L A (Ms C i) (D i)) (ho : W'.ownsRow L 42 1 v' (i + 1) (((List.range i).map fun k => .slice (As k) (Ms C k) (Ms C k)) ++ [.slice A (Ms C i) (Ms C i)])) (hg : W.grownBy W' v.ownBlock) :
    WA L (i + 1) C D v' (upd As i A) W' := by
  have k5 : ∀ g cs, Blk W g 5 cs → Blk W' g 5 cs := fun g cs hb => hb.grown hg fun e => by
    obtain ⟨cs', hb'⟩ := owns_blk h.own e.symm
    exact hb.ne_ hb' (by decide) rfl
  refine ⟨?_, fun k hk => ?_⟩
  · have e : ((List.range (i + 1)).map fun k => Value.slice (upd As i A k) (Ms C k) (Ms C k)) = ((List.range i).map fun k => .slice (As k) (Ms C k) (Ms C k)) ++ [.slice A (Ms C i) (Ms C i)] := by
      rw [List.range_succ, List.map_append]
      congr 1
      · exact List.map_congr_left fun k hk => by rw [upd_other _ _ (by have := List.mem_range.1 hk; omega)]
      · simp [upd_same]
    rw [e]; exact ho
  · by_cases e : k = i
    · subst e; rw [upd_same]; exact ld.keep k5
    · rw [upd_other _ _ e]; exact (h.en k (by omega)).keep k5
theorem WA.at_ {g cap : Nat} (h : WA L i C D (.slice (some ⟨g, 0, none⟩) i cap) As W) {k : Nat} (hk : k < i) : W.cell? ⟨g, k, none⟩ = some (.slice (As k) (Ms C k) (Ms C k)) := by
  have := h.own.cellAt k (by omega)
  rw [this]; simp [hk]
end
/-- a pool behind calls, and what was loaded of it -/
structure WS (w : World) (N p c b f i : Nat) (C Fb : Nat → Nat) (D : Nat → Nat → Nat) (v : Value) (As : Nat → Option Addr) (W : World) : Prop where
  pm : PM w.heap.size W p c b f N C Fb D
  bl : Below w.heap.size w W
  wa : WA w.heap.size i C D v As W
theorem WS.next {w : World} {N p c b f i : Nat} {C Fb : Nat → Nat} {D : Nat → Nat → Nat} {v : Value} {As : Nat → Option Addr} {W W' : World} (h : WS w N p c b f i C Fb D v As W) (hb : Below W.heap.size W W') : WS w N p c b f i C Fb D v As W' :=
  ⟨h.pm.next hb, h.bl.trans (hb.mono h.bl.size), h.wa.below hb⟩
theorem WS.push {w : World} {N p c b f i : Nat} {C Fb : Nat → Nat} {D : Nat → Nat → Nat} {v v' : Value} {As : Nat → Option Addr} {A : Option Addr} {W W' : World} (h : WS w N p c b f i C Fb D v As W) (ld : LdV W w.heap.size A (Ms C i) (D i))
    (ho : W'.ownsRow w.heap.size 42 1 v' (i + 1) (((List.range i).map fun k => .slice (As k) (Ms C k) (Ms C k)) ++ [.slice A (Ms C i) (Ms C i)])) (hg : W.grownBy W' v.ownBlock) : WS w N p c b f (i + 1) C Fb D v' (upd As i A) W' :=
  ⟨h.pm.grown h.wa.own hg (by decide), h.bl.trans (below_own hg h.bl.size fun k hk => (h.wa.own.lt k hk).1), h.wa.push ld ho hg⟩
theorem LdV.low {W : World} {L L' m : Nat} {A : Option Addr} {F : Nat → Nat} (h : LdV W L A m F) (hl : L' ≤ L) : LdV W L' A m F := by
  rcases h with h | ⟨g, rfl, hg, hr⟩
  · exact .inl h
  · exact .inr ⟨g, rfl, by omega, hr⟩
theorem WS.load {w : World} {N p c b f i : Nat} {C Fb : Nat → Nat} {D : Nat → Nat → Nat} {v : Value} {As : Nat → Option Addr} {W : World} (h : Hid (WS w N p c b f i C Fb D v As W)) (hi : i < N) :
    Calls Tryd.prog 24 #[.pointer (some ⟨p, 0, none⟩), .int .i64 i, .int .i64 0, .int .i64 4096] W fun e W' => ∃ A z, e = .returned (.tuple #[.slice A (Ms C i) (Ms C i), .int .i64 z]) ∧ Hid (LdV W' w.heap.size A (Ms C i) (D i)) ∧ Hid (WS w N p c b f i C Fb D v As W') := by
  refine (load_any i 0 4096 W h.out.pm).mono ?_
  rintro e W' ⟨A, rfl, ld, bl⟩
  rw [ldL_page hi] at ld ⊢
  refine ⟨A, _, rfl, ?_, h.out.next bl⟩
  have : LdV W' w.heap.size A (Ms C i) (fun j => D ((i : Int)).toNat ((0 : Int).toNat + j)) := ld.low h.out.bl.size
  have t : LdV W' w.heap.size A (Ms C i) (D i) := by simpa using this
  exact Lib.hid t
theorem info42 : (Tryd.prog.info? 42).map (fun i => (i.zero, i.size, i.bytes)) = some (some (.slice none 0 0), 1, 24) := by kernel_rfl
theorem tf_full {C : Nat → Nat} {n : Nat} (h : ¬ tf C n < n) : frees C n = 0 := by
  obtain ⟨h1, h2, _⟩ := tf_spec C n
  exact frees_none C n fun k hk => h2 k (by omega)
/-- the pool behind the store, and what was loaded of the elder one -/
structure WT (w : World) (N p c b f g x pl : Nat) (C Fb : Nat → Nat) (D D2 : Nat → Nat → Nat) (v : Value) (As : Nat → Option Addr) (W : World) : Prop where
  pm : PM w.heap.size W p c b f N (upd C g 1) Fb D2
  bl : Below w.heap.size w W
  wa : WA w.heap.size N C D v As W
  same : ∀ k, k ≠ g → D2 k = D k
  at_ : D2 g pl = x
theorem WT.next {w : World} {N p c b f g x pl : Nat} {C Fb : Nat → Nat} {D D2 : Nat → Nat → Nat} {v : Value} {As : Nat → Option Addr} {W W' : World} (h : WT w N p c b f g x pl C Fb D D2 v As W) (hb : Below W.heap.size W W') : WT w N p c b f g x pl C Fb D D2 v As W' :=
  ⟨h.pm.next hb, h.bl.trans (hb.mono h.bl.size), h.wa.below hb, h.same, h.at_⟩
theorem WT.load {w : World} {N p c b f g x pl i : Nat} {C Fb : Nat → Nat} {D D2 : Nat → Nat → Nat} {v : Value} {As : Nat → Option Addr} {W : World} (h : Hid (WT w N p c b f g x pl C Fb D D2 v As W)) (hi : i < N) (hg : i ≠ g) :
    Calls Tryd.prog 24 #[.pointer (some ⟨p, 0, none⟩), .int .i64 i, .int .i64 0, .int .i64 4096] W fun e W' => ∃ A z, e = .returned (.tuple #[.slice A (Ms C i) (Ms C i), .int .i64 z]) ∧ Hid (LdV W' w.heap.size A (Ms C i) (D i)) ∧ Hid (WT w N p c b f g x pl C Fb D D2 v As W') := by
  refine (load_any i 0 4096 W h.out.pm).mono ?_
  rintro e W' ⟨A, rfl, ld, bl⟩
  have e1 : Ms (upd C g 1) i = Ms C i := by unfold Ms; rw [upd_other _ _ hg]
  rw [ldL_page hi, e1] at ld ⊢
  refine ⟨A, _, rfl, ?_, h.out.next bl⟩
  have : LdV W' w.heap.size A (Ms C i) (fun j => D2 ((i : Int)).toNat ((0 : Int).toNat + j)) := ld.low h.out.bl.size
  rw [Int.toNat_natCast, h.out.same i hg] at this
  have t : LdV W' w.heap.size A (Ms C i) (D i) := by simpa using this
  exact Lib.hid t
theorem WT.loadg {w : World} {N p c b f g x pl : Nat} {C Fb : Nat → Nat} {D D2 : Nat → Nat → Nat} {v : Value} {As : Nat → Option Addr} {W : World} (h : Hid (WT w N p c b f g x pl C Fb D D2 v As W)) (hi : g < N) (hp : pl < 4096) :
    Calls Tryd.prog 24 #[.pointer (some ⟨p, 0, none⟩), .int .i64 g, .int .i64 0, .int .i64 4096] W fun e W' => ∃ r, e = .returned (.tuple #[.slice (some ⟨r, 0, none⟩) 4096 4096, .int .i64 0]) ∧ W'.cell? ⟨r, pl, none⟩ = some (.int .u8 x) ∧ Hid (WT w N p c b f g x pl C Fb D D2 v As W') := by
  have hc : 0 < upd C g 1 g := by rw [upd_same]; omega
  refine (load_any g 0 4096 W h.out.pm).mono ?_
  rw [ldL_page hi, ldE_page hi hc]
  have e1 : Ms (upd C g 1) g = 4096 := by unfold Ms; rw [if_pos hc]
  rw [e1]
  rintro e W' ⟨A, rfl, ld, bl⟩
  rcases ld with ⟨_, h0⟩ | ⟨r, rfl, _, hr⟩
  · omega
  · refine ⟨r, rfl, ?_, h.out.next bl⟩
    have := hr.get hp
    simpa [h.out.at_] using this
theorem WT.below {w : World} {N p c b f g x pl : Nat} {C Fb : Nat → Nat} {D D2 : Nat → Nat → Nat} {v : Value} {As : Nat → Option Addr} {W : World} (h : WT w N p c b f g x pl C Fb D D2 v As W) : Below w.heap.size w W := h.bl
/-- the frame taken anew, loaded: noughts -/
theorem load_new {w : World} {N p c b f g : Nat} {C Fb : Nat → Nat} {D : Nat → Nat → Nat} {v : Value} {As : Nat → Option Addr} {W : World} (pm : Hid (PM w.heap.size W p c b f N (upd C g 1) Fb (upd D g fun _ => 0))) (bl : Hid (Below w.heap.size w W)) (wa : Hid (WA w.heap.size N C D v As W)) (hi : g < N) :
    Calls Tryd.prog 24 #[.pointer (some ⟨p, 0, none⟩), .int .i64 g, .int .i64 0, .int .i64 4096] W fun e W' => ∃ r, e = .returned (.tuple #[.slice (some ⟨r, 0, none⟩) 4096 4096, .int .i64 0]) ∧ Hid (Row W' r 5 4096 fun _ => .int .u8 ((0 : Nat) : Int)) ∧
      Hid (PM w.heap.size W' p c b f N (upd C g 1) Fb (upd D g fun _ => 0)) ∧ Hid (Below w.heap.size w W') ∧ Hid (WA w.heap.size N C D v As W') := by
  have hc : 0 < upd C g 1 g := by rw [upd_same]; omega
  refine (load_any g 0 4096 W pm.out).mono ?_
  rw [ldL_page hi, ldE_page hi hc]
  have e1 : Ms (upd C g 1) g = 4096 := by unfold Ms; rw [if_pos hc]
  rw [e1]
  rintro e W' ⟨A, rfl, ld, b1⟩
  rcases ld with ⟨_, h0⟩ | ⟨r, rfl, _, hr⟩
  · omega
  · refine ⟨r, rfl, ?_, pm.out.next b1, bl.out.trans (b1.mono bl.out.size), wa.out.below b1⟩
    have t : Row W' r 5 4096 (fun _ => .int .u8 ((0 : Nat) : Int)) := by simpa [upd_same] using hr
    exact Lib.hid t
theorem store_new {w : World} {N p c b f g x pl r : Nat} {C Fb : Nat → Nat} {D : Nat → Nat → Nat} {v : Value} {As : Nat → Option Addr} {W : World} (pm : Hid (PM w.heap.size W p c b f N (upd C g 1) Fb (upd D g fun _ => 0))) (bl : Hid (Below w.heap.size w W)) (wa : Hid (WA w.heap.size N C D v As W)) (hi : g < N) (hp : pl < 4096)
    (hr : Hid (Reads W W.heap.size 1 (some ⟨r, 0, none⟩) 1 (u8s [x]))) :
    Calls Tryd.prog 25 #[.pointer (some ⟨p, 0, none⟩), .int .i64 g, .int .i64 pl, .slice (some ⟨r, 0, none⟩) 1 1] W fun e W' => e = .returned (.int .i64 0) ∧ ∃ D2, Hid (WT w N p c b f g x pl C Fb D D2 v As W') := by
  have hc : 0 < upd C g 1 g := by rw [upd_same]; omega
  have hs : stB (upd C g 1) N g pl 1 = true := by simp [stB, tkB_of hi hc]; omega
  refine (store_any g pl W pm.out hr.out (by simp [maxLen])).mono ?_
  rw [stD, List.length_cons, List.length_nil, hs, if_pos rfl, if_pos rfl, Int.toNat_natCast, Int.toNat_natCast]
  rintro e W' ⟨rfl, pm2, kf, b2⟩
  refine ⟨rfl, _, pm2, bl.out.trans b2, wa.out.kf pm.out.cc kf, fun k hk => ?_, ?_⟩
  · rw [upd_other _ _ hk, upd_other _ _ hk]
  · rw [upd_same]; unfold ov; rw [if_pos (by simp)]; simp
end Go.Proofs.YtgikfjfinjcfmaaDoor
