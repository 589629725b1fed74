import Derived.Test.YticnmgdflkipeaaZ22
import Derived.Deep.RegionHeld3
namespace Go.Proofs.Yticnmgdflkipeaa
open Go.RowKit Go.Shelf Go.Hos
set_option linter.unusedVariables false
/-! a drawn region in a round, walked as outside (where it neither panics nor leaves) -/
/-- Q at the region's end, and nothing else -/
def NQ (Q : Exit → Act → World → Prop) : Exit → Act → World → Prop
  | .normal, a, w => Q .normal a w
  | _, _, _ => False
theorem NQ.imp {Q : Exit → Act → World → Prop} : ∀ (e : Exit) (a : Act) (w : World), NQ Q e a w → Q e a w := fun e a w h => by
  cases e <;> first | exact h | exact (h : False).elim
theorem NQ.normal {Q : Exit → Act → World → Prop} {a : Act} {w : World} (h : Q .normal a w) : NQ Q .normal a w := h
theorem NQ.out_no {Q : Exit → Act → World → Prop} : ¬ LetsOut (NQ Q) := by rintro ⟨_, _, h⟩; exact h
structure WideR (F : Fence) : Prop where
  wd : Wide F
  rw : ∀ {n : Nat} {row : String} {args : Array Value} {w : World} {R : Value → World → Prop}, Rows Try.prog row args w R → RowsIn F n Try.prog row args w R
theorem wideR_wide : WideR Fence.wide := ⟨wide_wide, fun h c cs _ => let ⟨v, w', r, s⟩ := h c cs; ⟨v, w', r, stepsIn_wide.2 s⟩⟩
section
variable {F : Fence} {l n : Nat} {ops : Array Oper} {md : Region.Mode} {w : World} {Q : Exit → Act → World → Prop}
theorem wpIn_of_wp {o : Oper} {a : Act} {K : Act → World → Prop} (hW : WideR F) (hn : 1 ≤ n) (hd : ∀ c, o.op ≠ .defer c) (hh : o.wp Try.prog a w K (NQ Q)) : o.wpIn (F.inRound l) n Try.prog a w K (NQ Q) := by
  refine ⟨fun f _ => hW.wd.fn f, ?_⟩
  rw [Fence.inRound_round, Oper.semAt_some l _ _ hd]
  unfold Oper.wp at hh
  generalize (execOp a.eval o).run Try.prog w = r at *
  cases r with
  | ok x w' =>
    cases x <;> simp only [Oper.upon] at hh <;> simp only [Oper.uponIn] <;> first
      | exact hh
      | exact ⟨fun _ => hn, CallsIn.inRound l (hW.wd.ca (hh.mono fun e w'' he => by cases e <;> exact he))⟩
      | exact ⟨fun _ => hn, hW.rw hh⟩
  | halt x w' => cases x <;> simp only [Oper.upon] at hh <;> simp only [Oper.uponIn] <;> exact hh
theorem wpOpIn_of_wpOp {i : Nat} {a : Act} {K K' : Act → World → Prop} (hW : WideR F) (hn : 1 ≤ n) (hd : noDefer ops = true) (h : ∀ a w, K a w → K' a w) (hh : wpOp Try.prog ops (NQ Q) i K a w) : wpOpIn (F.inRound l) n Try.prog ops (NQ Q) i K' a w := by
  have hh := wpOp_mono h hh
  unfold wpOp at hh
  unfold wpOpIn
  split
  · rename_i ho; simp only [ho] at hh; exact hh
  · rename_i o ho
    simp only [ho] at hh
    split
    · rename_i hw
      simp only [hw, if_true] at hh
      rcases hh with hh | ⟨_, hh⟩
      · exact wpIn_of_wp hW hn (noDefer_at hd ho) hh
      · exact (NQ.out_no hh).elim
    · rename_i hw; simp only [hw] at hh; exact ⟨fun f _ => hW.wd.fn f, hh⟩
theorem wpAnyIn_of_any (hW : WideR F) (hn : 1 ≤ n) (hd : noDefer ops = true) : ∀ (fuel : Nat) (listed : Array Bool) (a : Act) (w : World),
    wpAny Try.prog md ops (NQ Q) fuel listed a w → wpAnyIn (F.inRound l) n Try.prog md ops (NQ Q) fuel listed a w
  | 0, _, _, _, h => h
  | fuel + 1, _, _, _, h => ⟨h.1, fun i hi => wpOpIn_of_wpOp hW hn hd (fun a' w' => wpAnyIn_of_any hW hn hd fuel _ a' w') (h.2 i hi)⟩
/-- the beginning: what S says of the world holds behind each operation -/
theorem wpIn_round_held {id : Nat} {a : Act} {S : World → Prop} (hW : WideR F) (hn : 1 ≤ n) (hm : Try.prog.follows .mixedOrders = true) (hd : noDefer ops = true) (hS : S w.drew)
    (h : S w.drew → wpAnyH Try.prog .any ops (NQ Q) S ops.size (Array.replicate ops.size false) a w.drew) : (Code.region id ops true).wpIn (F.inRound l) n Try.prog Q a w :=
  wpIn_mono (wpIn_region_any hm (wpAnyIn_of_any hW hn hd _ _ _ _ (wpAny_of_held _ _ _ _ (h hS)))) NQ.imp
end
section
variable {ops : Array Oper} {md : Region.Mode} {Q : Exit → Act → World → Prop} {S : World → Prop}
theorem put_d {a : Act} {o : Oper} {d : Tmp} {v : Value} (h : o.dst = some d) : a.put o.dst v = { a with tmps := a.tmps.setIfInBounds d v } := by rw [h]; rfl
theorem put_no {a : Act} {o : Oper} {v : Value} (h : o.dst = none) : a.put o.dst v = a := by rw [h]; rfl
/-- operation i is taken first; it writes slot d -/
theorem held_take (d : Tmp) {i : Nat} {oi : Oper} {v : Value} {fuel : Nat} {listed : Array Bool} {a : Act} {w : World} (hi : ops[i]? = some oi) (hd : oi.dst = some d)
    (hs : Region.noSelect ops = true) (hf : Region.free md ops listed i = true) (hr : (Region.ready md ops listed).contains i = true) (hy : YieldsIf Try.prog ops S oi v a) (hS : S w)
    (h : wpAnyH Try.prog md ops (NQ Q) S fuel (listed.setIfInBounds i true) { a with tmps := a.tmps.setIfInBounds d v } w) : wpAnyH Try.prog md ops (NQ Q) S (fuel + 1) listed a w :=
  wpAnyH_take hi hs hf hr (fun _ _ _ h => h) hy hS (by rw [put_d hd]; exact h)
end
/-- what holds all through such a region: two blocks -/
def SG (w : World) (Bs : Nat) (cs : Array Value) (co : Array Value) (W : World) : Prop := Blk W Bs 56 cs ∧ Blk W w.heap.size 33 co
theorem SG.alloc {w W : World} {Bs : Nat} {cs co : Array Value} (h : SG w Bs cs co W) (o : Obj) : SG w Bs cs co (W.alloc o) := ⟨h.1.alloc o, h.2.alloc o⟩
end Go.Proofs.Yticnmgdflkipeaa
