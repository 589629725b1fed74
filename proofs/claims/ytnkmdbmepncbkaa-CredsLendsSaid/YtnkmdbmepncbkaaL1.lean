import Derived.Test.YtnkmdbmepncbkaaA5
import Derived.Deep.RegionHeld3
namespace Go.Proofs.Ytnkmdbmepncbkaa
open Go.RowKit Go.Hos Go.Sort

theorem owns_below {w w' : World} {base : Nat} {e : TypeId} {size : Nat} {v : Value} {n : Nat} {xs : List Value} (h : w.ownsRow base e size v n xs) (hb : Below w.heap.size w w') : w'.ownsRow base e size v n xs := by
  refine ⟨h.1, ?_⟩
  rcases h.2 with h2 | ⟨g, cap, cur, hv, hg, hh, r⟩
  · exact .inl h2
  · exact .inr ⟨g, cap, cur, hv, hg, (hb.block g (Array.getElem?_eq_some_iff.1 hh).1).trans hh, r⟩

/-- what the law's walk keeps till it compares -/
structure SL (w : World) (uid euid suid gid uid2 euid2 suid2 gid2 E : Int) (A A2 A8 A9 : Option Addr) (n c n2 c2 g cap c8 c9 base8 g7 g8 g9 : Nat) (gs hs : List Int) (W : World) : Prop where
  bc : Blk W w.heap.size 25 #[.int .u32 uid, .int .u32 euid, .int .u32 suid, .int .u32 gid, .slice A n c]
  bo : Blk W (w.heap.size + 1 + 1) 25 #[.int .u32 uid2, .int .u32 euid2, .int .u32 suid2, .int .u32 gid2, .slice A2 n2 c2]
  bi : Blk W g7 25 #[.int .u32 uid, .int .u32 euid, .int .u32 suid, .int .u32 gid, .slice (some ⟨g, 0, none⟩) n cap]
  ba : Blk W g8 25 #[.int .u32 uid, .int .u32 E, .int .u32 E, .int .u32 gid, .slice A8 n c8]
  bb : Blk W g9 25 #[.int .u32 uid, .int .u32 E, .int .u32 E, .int .u32 gid, .slice A9 n c9]
  low : Below w.heap.size w W
  oi : W.ownsRow w.heap.size 22 1 (.slice (some ⟨g, 0, none⟩) (n + 1) cap) (n + 1) (gs.map (Value.int .u32) ++ [.int .u32 77])
  oa : W.ownsRow base8 22 1 (.slice A8 n c8) n (gs.map (Value.int .u32))
  ob : W.ownsRow base8 22 1 (.slice A9 n c9) n (gs.map (Value.int .u32))
  rc : Reads W w.heap.size 1 A n (gs.map (Value.int .u32))
  ro : Reads W w.heap.size 1 A2 n2 (hs.map (Value.int .u32))
section
variable {w : World} {uid euid suid gid uid2 euid2 suid2 gid2 E : Int} {A A2 A8 A9 : Option Addr} {n c n2 c2 g cap c8 c9 base8 g7 g8 g9 : Nat} {gs hs : List Int} {W W' : World}
theorem SL.next (h : SL w uid euid suid gid uid2 euid2 suid2 gid2 E A A2 A8 A9 n c n2 c2 g cap c8 c9 base8 g7 g8 g9 gs hs W) (hb : Below W.heap.size W W') :
    SL w uid euid suid gid uid2 euid2 suid2 gid2 E A A2 A8 A9 n c n2 c2 g cap c8 c9 base8 g7 g8 g9 gs hs W' :=
  ⟨h.bc.below hb h.bc.lt, h.bo.below hb h.bo.lt, h.bi.below hb h.bi.lt, h.ba.below hb h.ba.lt, h.bb.below hb h.bb.lt, h.low.trans (hb.mono h.low.size), owns_below h.oi hb, owns_below h.oa hb, owns_below h.ob hb,
    h.rc.below (hb.mono h.low.size), h.ro.below (hb.mono h.low.size)⟩
theorem SL.drew (h : SL w uid euid suid gid uid2 euid2 suid2 gid2 E A A2 A8 A9 n c n2 c2 g cap c8 c9 base8 g7 g8 g9 gs hs W) :
    SL w uid euid suid gid uid2 euid2 suid2 gid2 E A A2 A8 A9 n c n2 c2 g cap c8 c9 base8 g7 g8 g9 gs hs W.drew := h.next (Below.refl _ _).drew

/-- the same, with the cells laid open -/
abbrev SS (w : World) (uid euid suid gid uid2 euid2 suid2 gid2 E : Int) (A A2 A8 A9 : Option Addr) (n c n2 c2 g cap c8 c9 base8 g7 g8 g9 : Nat) (gs hs : List Int) (W : World) : Prop :=
  (∀ i, W.cell? ⟨w.heap.size, i, none⟩ = (#[.int .u32 uid, .int .u32 euid, .int .u32 suid, .int .u32 gid, .slice A n c] : Array Value)[i]?) ∧ (∀ i, W.cell? ⟨w.heap.size + 1 + 1, i, none⟩ = (#[.int .u32 uid2, .int .u32 euid2, .int .u32 suid2, .int .u32 gid2, .slice A2 n2 c2] : Array Value)[i]?) ∧ (∀ i, W.cell? ⟨g7, i, none⟩ = (#[.int .u32 uid, .int .u32 euid, .int .u32 suid, .int .u32 gid, .slice (some ⟨g, 0, none⟩) n cap] : Array Value)[i]?) ∧
  (∀ i, W.cell? ⟨g8, i, none⟩ = (#[.int .u32 uid, .int .u32 E, .int .u32 E, .int .u32 gid, .slice A8 n c8] : Array Value)[i]?) ∧ (∀ i, W.cell? ⟨g9, i, none⟩ = (#[.int .u32 uid, .int .u32 E, .int .u32 E, .int .u32 gid, .slice A9 n c9] : Array Value)[i]?) ∧
  Hid (SL w uid euid suid gid uid2 euid2 suid2 gid2 E A A2 A8 A9 n c n2 c2 g cap c8 c9 base8 g7 g8 g9 gs hs W)
theorem ss_of (h : SL w uid euid suid gid uid2 euid2 suid2 gid2 E A A2 A8 A9 n c n2 c2 g cap c8 c9 base8 g7 g8 g9 gs hs W) :
    SS w uid euid suid gid uid2 euid2 suid2 gid2 E A A2 A8 A9 n c n2 c2 g cap c8 c9 base8 g7 g8 g9 gs hs W :=
  ⟨h.bc.cell, h.bo.cell, h.bi.cell, h.ba.cell, h.bb.cell, h⟩

theorem SL.call1 (h : SS w uid euid suid gid uid2 euid2 suid2 gid2 E A A2 A8 A9 n c n2 c2 g cap c8 c9 base8 g7 g8 g9 gs hs W) (hn : n ≤ 65536) :
    Calls Try.prog 13 #[.agg #[.int .u32 uid, .int .u32 E, .int .u32 E, .int .u32 gid, .slice A8 n c8], .agg #[.int .u32 uid, .int .u32 E, .int .u32 E, .int .u32 gid, .slice A9 n c9]] W fun e w' => e = .returned (.bool true) ∧ SL w uid euid suid gid uid2 euid2 suid2 gid2 E A A2 A8 A9 n c n2 c2 g cap c8 c9 base8 g7 g8 g9 gs hs w' := by
  have hs := h.2.2.2.2.2.out
  refine (rsame_any _ _ _ _ _ _ _ _ _ _ _ _ _ _ gs gs W.heap.size W.heap.size W (Reads.of_own hs.oa) (Reads.of_own hs.ob) (Nat.le_refl _) (Nat.le_refl _) (by omega) (by omega)).mono ?_
  rintro e w' ⟨rfl, hb⟩
  exact ⟨by simp [sameB], hs.next hb⟩
theorem SL.call2 (h : SS w uid euid suid gid uid2 euid2 suid2 gid2 E A A2 A8 A9 n c n2 c2 g cap c8 c9 base8 g7 g8 g9 gs hs W) (hn : n ≤ 65536) (hn2 : n2 ≤ 65536) :
    Calls Try.prog 14 #[.agg #[.int .u32 uid, .int .u32 euid, .int .u32 suid, .int .u32 gid, .slice (some ⟨g, 0, none⟩) n cap], .agg #[.int .u32 uid2, .int .u32 euid2, .int .u32 suid2, .int .u32 gid2, .slice A2 n2 c2]] W fun e w' => e = .returned (.bool (sameB uid euid suid gid uid2 euid2 suid2 gid2 gs hs)) ∧ SL w uid euid suid gid uid2 euid2 suid2 gid2 E A A2 A8 A9 n c n2 c2 g cap c8 c9 base8 g7 g8 g9 gs hs w' := by
  have hs := h.2.2.2.2.2.out
  refine (same_any _ _ _ _ _ _ _ _ _ _ _ _ _ _ gs _ W.heap.size w.heap.size W (reads_front (Reads.of_own hs.oi)) hs.ro (Nat.le_refl _) hs.low.size (by omega) (by omega)).mono ?_
  rintro e w' ⟨rfl, hb⟩
  exact ⟨rfl, hs.next hb⟩
theorem SL.call3 (h : SS w uid euid suid gid uid2 euid2 suid2 gid2 E A A2 A8 A9 n c n2 c2 g cap c8 c9 base8 g7 g8 g9 gs hs W) (hn : n ≤ 65536) (hn2 : n2 ≤ 65536) :
    Calls Try.prog 13 #[.agg #[.int .u32 uid, .int .u32 euid, .int .u32 suid, .int .u32 gid, .slice A n c], .agg #[.int .u32 uid2, .int .u32 euid2, .int .u32 suid2, .int .u32 gid2, .slice A2 n2 c2]] W fun e w' => e = .returned (.bool (sameB uid euid suid gid uid2 euid2 suid2 gid2 gs hs)) ∧ SL w uid euid suid gid uid2 euid2 suid2 gid2 E A A2 A8 A9 n c n2 c2 g cap c8 c9 base8 g7 g8 g9 gs hs w' := by
  have hs := h.2.2.2.2.2.out
  refine (rsame_any _ _ _ _ _ _ _ _ _ _ _ _ _ _ gs _ w.heap.size w.heap.size W hs.rc hs.ro hs.low.size hs.low.size (by omega) (by omega)).mono ?_
  rintro e w' ⟨rfl, hb⟩
  exact ⟨rfl, hs.next hb⟩
theorem SL.call4 (h : SS w uid euid suid gid uid2 euid2 suid2 gid2 E A A2 A8 A9 n c n2 c2 g cap c8 c9 base8 g7 g8 g9 gs hs W) (hn : n ≤ 65536) :
    Calls Try.prog 15 #[.agg #[.int .u32 uid, .int .u32 euid, .int .u32 suid, .int .u32 gid, .slice A n c]] W fun e w' => (∃ A5 c5, e = .returned (.agg #[.int .u32 uid, .int .u32 euid, .int .u32 suid, .int .u32 gid, .slice A5 n c5]) ∧ Hid (Reads w' w'.heap.size 1 A5 n (gs.map (Value.int .u32)))) ∧ SL w uid euid suid gid uid2 euid2 suid2 gid2 E A A2 A8 A9 n c n2 c2 g cap c8 c9 base8 g7 g8 g9 gs hs w' := by
  have hs := h.2.2.2.2.2.out
  refine (copy_any _ _ _ _ _ _ _ gs w.heap.size W hs.rc hs.low.size hn).mono ?_
  rintro e w' ⟨v, rfl, ho, hb⟩
  obtain ⟨A5, c5, rfl⟩ := ownsRow_val ho
  exact ⟨⟨A5, c5, rfl, Reads.of_own ho⟩, hs.next hb⟩
theorem SL.call5 {A5 : Option Addr} {c5 : Nat} (h : SS w uid euid suid gid uid2 euid2 suid2 gid2 E A A2 A8 A9 n c n2 c2 g cap c8 c9 base8 g7 g8 g9 gs hs W) (hr : Hid (Reads W W.heap.size 1 A5 n (gs.map (Value.int .u32)))) (hn : n ≤ 65536) :
    Calls Try.prog 14 #[.agg #[.int .u32 uid, .int .u32 euid, .int .u32 suid, .int .u32 gid, .slice (some ⟨g, 0, none⟩) n cap], .agg #[.int .u32 uid, .int .u32 euid, .int .u32 suid, .int .u32 gid, .slice A5 n c5]] W fun e w' => e = .returned (.bool true) ∧ SL w uid euid suid gid uid2 euid2 suid2 gid2 E A A2 A8 A9 n c n2 c2 g cap c8 c9 base8 g7 g8 g9 gs hs w' := by
  have hs := h.2.2.2.2.2.out
  refine (same_any _ _ _ _ _ _ _ _ _ _ _ _ _ _ gs gs W.heap.size W.heap.size W (reads_front (Reads.of_own hs.oi)) hr.out (Nat.le_refl _) (Nat.le_refl _) (by omega) (by omega)).mono ?_
  rintro e w' ⟨rfl, hb⟩
  exact ⟨by simp [sameB], hs.next hb⟩
end
end Go.Proofs.Ytnkmdbmepncbkaa
