import Derived.Test.YtlenjpgkmikgpaaR1
import Derived.Test.YtlenjpgkmikgpaaOpen
import Derived.Test.YtlenjpgkmikgpaaRows
import Derived.LaidMore
import Derived.Lay
import Derived.WalkKit
import Derived.ChangeMaps5
import Derived.SizedLaws
namespace Go.Proofs.Ytlenjpgkmikgpaa
open Go Go.ChangeShapes Go.WideShapes Go.ChangeAt Go.RowKit Go.Hos Go.Joins Go.Deep
set_option linter.unusedVariables false
theorem own : ownKnob Try.prog.godebug = none := by kernel_rfl
theorem laidOut : laidOutB Try.prog = true := by kernel_rfl
theorem cl3 : Try.prog.cellsOf 3 = 1 := by kernel_rfl
theorem cl35 : Try.prog.cellsOf 35 = 1 := by kernel_rfl
theorem cl45 : Try.prog.cellsOf 45 = 1 := by kernel_rfl
theorem cl48 : Try.prog.cellsOf 48 = 4 := by kernel_rfl
theorem cl44 : Try.prog.cellsOf 44 = 5 := by kernel_rfl
theorem cl46 : Try.prog.cellsOf 46 = 1 := by kernel_rfl
theorem cl40 : Try.prog.cellsOf 40 = 1 := by kernel_rfl
theorem cl41 : Try.prog.cellsOf 41 = 1 := by kernel_rfl
theorem cl42 : Try.prog.cellsOf 42 = 1 := by kernel_rfl
theorem cl9 : Try.prog.cellsOf 9 = 1 := by kernel_rfl
theorem cl50 : Try.prog.cellsOf 50 = 11 := by kernel_rfl
theorem cl67 : Try.prog.cellsOf 67 = 6 := by kernel_rfl
theorem cl61 : Try.prog.cellsOf 61 = 5 := by kernel_rfl
theorem cl53 : Try.prog.cellsOf 53 = 4 := by kernel_rfl
theorem cl55 : Try.prog.cellsOf 55 = 3 := by kernel_rfl
theorem bo67 : Try.prog.bytesOf 67 = 40 := by kernel_rfl
theorem bo61 : Try.prog.bytesOf 61 = 40 := by kernel_rfl
theorem bo53 : Try.prog.bytesOf 53 = 32 := by kernel_rfl
theorem reach47 : reachBytes ≤ 140737488355328 := by decide
theorem nat_u64 {x : Int} (h : (Lit.int .u64 x).wf = true) : ∃ n : Nat, x = (n : Int) ∧ n < M := by
  simp [Lit.wf, IntKind.min, IntKind.max, IntKind.signed, IntKind.bits] at h
  obtain ⟨k, rfl⟩ := Int.eq_ofNat_of_zero_le h.1
  exact ⟨k, rfl, by unfold M Lay.M; omega⟩
theorem nat_u8 {x : Int} (h : (Lit.int .u8 x).wf = true) : ∃ n : Nat, x = (n : Int) := by
  simp [Lit.wf, IntKind.min, IntKind.max, IntKind.signed, IntKind.bits] at h
  obtain ⟨k, rfl⟩ := Int.eq_ofNat_of_zero_le h.1
  exact ⟨k, rfl⟩
theorem nat_u16 {x : Int} (h : (Lit.int .u16 x).wf = true) : ∃ n : Nat, x = (n : Int) := by
  simp [Lit.wf, IntKind.min, IntKind.max, IntKind.signed, IntKind.bits] at h
  obtain ⟨k, rfl⟩ := Int.eq_ofNat_of_zero_le h.1
  exact ⟨k, rfl⟩
theorem nat_u32 {x : Int} (h : (Lit.int .u32 x).wf = true) : ∃ n : Nat, x = (n : Int) ∧ n < 4294967296 := by
  simp [Lit.wf, IntKind.min, IntKind.max, IntKind.signed, IntKind.bits] at h
  obtain ⟨k, rfl⟩ := Int.eq_ofNat_of_zero_le h.1
  exact ⟨k, rfl, by omega⟩
theorem i64_bounds {x : Int} (h : (Lit.int .i64 x).wf = true) : -9223372036854775808 ≤ x ∧ x ≤ 9223372036854775807 := by
  simp [Lit.wf, IntKind.min, IntKind.max, IntKind.signed, IntKind.bits] at h
  exact ⟨by omega, by omega⟩
def segZ : Lay.SegD := ⟨0, 0, 0, 0, 0, 0⟩
theorem segZ_fits : segZ.fits := by unfold Lay.SegD.fits segZ Lay.M; exact ⟨by decide, by decide, by decide, by decide⟩
def relZ : RelD := ⟨0, 0, 0, 0⟩
def RelD.fits (r : RelD) : Prop := r.off < M ∧ -9223372036854775808 ≤ r.sym ∧ r.sym ≤ 9223372036854775807
theorem relZ_fits : relZ.fits := by unfold RelD.fits relZ M Lay.M; exact ⟨by decide, by decide, by decide⟩
def symZ : Sym.SymD := ⟨⟨#[]⟩, 0, 0, 0, false⟩
def objZ : ObjD := ⟨0, 0, 0, 0, 0, none, 0, 0, none, 0, 0, ⟨#[]⟩, ⟨#[]⟩, none, 0, 0, none, 0, 0, fun _ => segZ, fun _ => symZ, fun _ => relZ⟩
/-- what holds of an object's data -/
structure ObjD.ok (o : ObjD) : Prop where
  sg : ∀ k, (o.sg k).fits
  nm : ∀ k, (o.sy k).nm.size ≤ maxLen
  rl : ∀ k, (o.rl k).fits
  base : o.base < M
structure ObjD.room (o : ObjD) : Prop where
  g : o.gM * 40 ≤ 140737488355328
  s : o.sM * 40 ≤ 140737488355328
  r : o.rM * 32 ≤ 140737488355328
theorem objZ_ok : objZ.ok := ⟨fun _ => segZ_fits, fun _ => Nat.zero_le _, fun _ => relZ_fits, by show 0 < M; unfold M Lay.M; omega⟩
theorem objZ_room : objZ.room := ⟨by show 0 * 40 ≤ _; omega, by show 0 * 40 ≤ _; omega, by show 0 * 32 ≤ _; omega⟩
section
variable {H : Type} {enc : TypeId × Value → H} {W : World} {P : Program}
theorem sl_form {t e : TypeId} {fuel : Nat} {v : Value} {x : DataW H × List MemPlace} (ht : Try.prog.underlying t = some (.slice e)) (h : DataW.trod enc Try.prog W 0 (fun _ => true) true fuel t [v] = some x) : ∃ A n c, v = .slice A n c := by
  rcases open_slice ht h with ⟨hc, _⟩ | ⟨a, l, c, m, n, D, Pl, hc, _⟩
  · simp at hc; exact ⟨_, _, _, hc⟩
  · simp at hc; exact ⟨_, _, _, hc⟩
theorem mem_weightsAll {e : TypeId} {n : Nat} : ∀ {l : List (DataW H)} {i : Nat} {d : DataW H}, l[i]? = some d → n ∈ d.weights P e → n ∈ DataW.weightsAll P e l
  | [], _, _, h, _ => by simp at h
  | a :: r, 0, d, h, hn => by
    obtain rfl := Option.some.inj h
    simp only [DataW.weightsAll, List.mem_append]; exact .inl hn
  | a :: r, i + 1, d, h, hn => by
    simp only [DataW.weightsAll, List.mem_append]; exact .inr (mem_weightsAll (by simpa using h) hn)
theorem weights_elem {t e : TypeId} {E S : List (DataW H)} {i n : Nat} {d : DataW H} (ht : P.underlying t = some (.slice e)) (hd : E[i]? = some d) (hn : n ∈ d.weights P e) : n ∈ (DataW.slice E S).weights P t := by
  simp only [DataW.weights, ht, List.mem_cons, List.mem_append]
  exact .inr (.inl (mem_weightsAll hd hn))
theorem weights_field {t : TypeId} {fs : Array Field} {f : Field} {parts : List (DataW H)} {j n : Nat} {d : DataW H} (ht : P.underlying t = some (.struct fs)) (hf : fs[j]? = some f) (hd : parts[j]? = some d) (hn : n ∈ d.weights P f.type) : n ∈ (DataW.agg parts).weights P t := by
  simp only [DataW.weights, ht]
  exact DataW.weights_mem_each (j := j) (t := f.type) (by rw [List.getElem?_map, Array.getElem?_toList, hf]; rfl) hd n hn
theorem len_of_trod {t e : TypeId} {R : Nat} {l k : Nat} {D : Nat → DataW H} (ht : P.underlying t = some (.slice e)) (hw : ∀ n ∈ (DataW.slice ((List.range l).map D) ((List.range k).map fun j => D (l + j))).weights P t, n ≤ R) : l * P.bytesOf e ≤ R := by
  have := hw ((l + k) * P.bytesOf e) (by simp only [DataW.weights, ht, List.mem_cons, List.length_map, List.length_range]; exact .inl trivial)
  exact Nat.le_trans (Nat.mul_le_mul_right _ (by omega)) this
theorem segs_of_trod {fuel : Nat} {v : Value} {x : DataW H × List MemPlace} (h : DataW.trod enc Try.prog W 0 (fun _ => true) true fuel 46 [v] = some x) (hw : ∀ n ∈ x.1.weights Try.prog 46, n ≤ reachBytes) :
    ∃ (A : Option Addr) (n c : Nat) (S : Nat → Lay.SegD), v = .slice A n c ∧ Lay.StR W W.heap.size 6 A n (Lay.segC S) ∧ n * 40 ≤ 140737488355328 ∧ ∀ k, (S k).fits := by
  rcases open_slice_fields Try.underlying46 Try.underlying67 (by kernel_rfl) (by rw [cl67]; rfl) h with ⟨hcs, _⟩ | ⟨a, l, c, m', D, Pl, hcs, _, hl, hc, hmm, hxd, hf⟩
  · simp at hcs
    exact ⟨none, 0, 0, fun _ => segZ, hcs, fun h => absurd h (by omega), by omega, fun _ => segZ_fits⟩
  · simp at hcs
    have hlen : l * 40 ≤ 140737488355328 := by
      rw [hxd] at hw
      have := len_of_trod Try.underlying46 hw
      rw [bo67] at this
      have := reach47; omega
    have key : ∀ k, ∃ s : Lay.SegD, (s.fits) ∧ (k < l → ∀ j u, s.cs[j]? = some u → W.cell? (a.add (k * 6 + j)) = some u) := by
      intro k
      by_cases hk : k < l
      · obtain ⟨ys, n, _, _, _, hfi⟩ := hf k (by rw [hmm]; simp; omega)
        obtain ⟨u0, y0, c0', _, t0⟩ := hfi 0 _ rfl
        obtain ⟨u1, y1, c1', _, t1⟩ := hfi 1 _ rfl
        obtain ⟨u2, y2, c2', _, t2⟩ := hfi 2 _ rfl
        obtain ⟨u3, y3, c3', _, t3⟩ := hfi 3 _ rfl
        obtain ⟨u4, y4, c4', _, t4⟩ := hfi 4 _ rfl
        obtain ⟨u5, y5, c5', _, t5⟩ := hfi 5 _ rfl
        obtain ⟨a0, e0, _, w0⟩ := DataW.trod_int Try.underlying51 t0
        obtain ⟨a1, e1, _, w1⟩ := DataW.trod_int Try.underlying5 t1
        obtain ⟨a2, e2, _, w2⟩ := DataW.trod_int Try.underlying35 t2
        obtain ⟨a3, e3, _, w3⟩ := DataW.trod_int Try.underlying35 t3
        obtain ⟨a4, e4, _, w4⟩ := DataW.trod_int Try.underlying35 t4
        obtain ⟨a5, e5, _, w5⟩ := DataW.trod_int Try.underlying35 t5
        obtain ⟨b0, rfl, l0⟩ := nat_u32 w0
        obtain ⟨b1, rfl⟩ := nat_u8 w1
        obtain ⟨b2, rfl, l2⟩ := nat_u64 w2
        obtain ⟨b3, rfl, l3⟩ := nat_u64 w3
        obtain ⟨b4, rfl, l4⟩ := nat_u64 w4
        obtain ⟨b5, rfl, l5⟩ := nat_u64 w5
        simp at e0 e1 e2 e3 e4 e5
        subst e0 e1 e2 e3 e4 e5
        refine ⟨⟨b0, b1, b2, b3, b4, b5⟩, ⟨l2, l3, l4, l5⟩, fun _ j u hu => ?_⟩
        unfold Lay.SegD.cs at hu
        dsimp only at hu
        match j, hu with
        | 0, hu => obtain rfl := Option.some.inj hu; exact c0'
        | 1, hu => obtain rfl := Option.some.inj hu; exact c1'
        | 2, hu => obtain rfl := Option.some.inj hu; exact c2'
        | 3, hu => obtain rfl := Option.some.inj hu; exact c3'
        | 4, hu => obtain rfl := Option.some.inj hu; exact c4'
        | 5, hu => obtain rfl := Option.some.inj hu; exact c5'
        | j + 6, hu => simp at hu
      · exact ⟨segZ, segZ_fits, fun h => absurd h hk⟩
    refine ⟨some a, l, c, fun k => Classical.choose (key k), hcs, fun hn => ⟨a, rfl, ?_, fun i hi j u hu => (Classical.choose_spec (key i)).2 hi j u hu⟩, by omega, fun k => (Classical.choose_spec (key k)).1⟩
    have h0 := (Classical.choose_spec (key 0)).2 hn 0 _ rfl
    have := World.block_lt_of_cell? W _ h0
    rwa [block_of_add] at this
theorem syms_of_trod {fuel : Nat} {v : Value} {x : DataW H × List MemPlace} (h : DataW.trod enc Try.prog W 0 (fun _ => true) true fuel 41 [v] = some x) (hw : ∀ n ∈ x.1.weights Try.prog 41, n ≤ reachBytes) :
    ∃ (A : Option Addr) (n c : Nat) (S : Nat → Sym.SymD), v = .slice A n c ∧ Lay.StR W W.heap.size 5 A n (fun k => (S k).cs) ∧ n * 40 ≤ 140737488355328 ∧ ∀ k, (S k).nm.size ≤ maxLen := by
  rcases open_slice_fields Try.underlying41 Try.underlying61 (by kernel_rfl) (by rw [cl61]; rfl) h with ⟨hcs, _⟩ | ⟨a, l, c, m', D, Pl, hcs, _, hl, hc, hmm, hxd, hf⟩
  · simp at hcs
    exact ⟨none, 0, 0, fun _ => symZ, hcs, fun h => absurd h (by omega), by omega, fun _ => Nat.zero_le _⟩
  · simp at hcs
    have hlen : l * 40 ≤ 140737488355328 := by
      rw [hxd] at hw
      have := len_of_trod Try.underlying41 hw
      rw [bo61] at this
      have := reach47; omega
    have key : ∀ k, ∃ s : Sym.SymD, (s.nm.size ≤ maxLen) ∧ (k < l → ∀ j u, s.cs[j]? = some u → W.cell? (a.add (k * 5 + j)) = some u) := by
      intro k
      by_cases hk : k < l
      · obtain ⟨ys, n, _, _, _, hfi⟩ := hf k (by rw [hmm]; simp; omega)
        obtain ⟨u0, y0, c0', _, t0⟩ := hfi 0 _ rfl
        obtain ⟨u1, y1, c1', _, t1⟩ := hfi 1 _ rfl
        obtain ⟨u2, y2, c2', _, t2⟩ := hfi 2 _ rfl
        obtain ⟨u3, y3, c3', _, t3⟩ := hfi 3 _ rfl
        obtain ⟨u4, y4, c4', _, t4⟩ := hfi 4 _ rfl
        obtain ⟨a0, e0, _, w0⟩ := DataW.trod_string Try.underlying9 t0
        obtain ⟨a1, e1, _, w1⟩ := DataW.trod_int Try.underlying35 t1
        obtain ⟨a2, e2, _, w2⟩ := DataW.trod_int Try.underlying35 t2
        obtain ⟨a3, e3, _, w3⟩ := DataW.trod_int Try.underlying5 t3
        obtain ⟨a4, e4, _⟩ := DataW.trod_bool Try.underlying4 t4
        simp at e0 e1 e2 e3 e4
        subst e0 e1 e2 e3 e4
        refine ⟨⟨a0, a1, a2, a3, a4⟩, w0, fun _ j u hu => ?_⟩
        unfold Sym.SymD.cs at hu
        dsimp only at hu
        match j, hu with
        | 0, hu => obtain rfl := Option.some.inj hu; exact c0'
        | 1, hu => obtain rfl := Option.some.inj hu; exact c1'
        | 2, hu => obtain rfl := Option.some.inj hu; exact c2'
        | 3, hu => obtain rfl := Option.some.inj hu; exact c3'
        | 4, hu => obtain rfl := Option.some.inj hu; exact c4'
        | j + 5, hu => simp at hu
      · exact ⟨symZ, Nat.zero_le _, fun h => absurd h hk⟩
    refine ⟨some a, l, c, fun k => Classical.choose (key k), hcs, fun hn => ⟨a, rfl, ?_, fun i hi j u hu => (Classical.choose_spec (key i)).2 hi j u hu⟩, by omega, fun k => (Classical.choose_spec (key k)).1⟩
    have h0 := (Classical.choose_spec (key 0)).2 hn 0 _ rfl
    have := World.block_lt_of_cell? W _ h0
    rwa [block_of_add] at this
theorem rels_of_trod {fuel : Nat} {v : Value} {x : DataW H × List MemPlace} (h : DataW.trod enc Try.prog W 0 (fun _ => true) true fuel 42 [v] = some x) (hw : ∀ n ∈ x.1.weights Try.prog 42, n ≤ reachBytes) :
    ∃ (A : Option Addr) (n c : Nat) (S : Nat → RelD), v = .slice A n c ∧ Lay.StR W W.heap.size 4 A n (fun k => (S k).cs) ∧ n * 32 ≤ 140737488355328 ∧ ∀ k, (S k).fits := by
  rcases open_slice_fields Try.underlying42 Try.underlying53 (by kernel_rfl) (by rw [cl53]; rfl) h with ⟨hcs, _⟩ | ⟨a, l, c, m', D, Pl, hcs, _, hl, hc, hmm, hxd, hf⟩
  · simp at hcs
    exact ⟨none, 0, 0, fun _ => relZ, hcs, fun h => absurd h (by omega), by omega, fun _ => relZ_fits⟩
  · simp at hcs
    have hlen : l * 32 ≤ 140737488355328 := by
      rw [hxd] at hw
      have := len_of_trod Try.underlying42 hw
      rw [bo53] at this
      have := reach47; omega
    have key : ∀ k, ∃ s : RelD, (s.fits) ∧ (k < l → ∀ j u, s.cs[j]? = some u → W.cell? (a.add (k * 4 + j)) = some u) := by
      intro k
      by_cases hk : k < l
      · obtain ⟨ys, n, _, _, _, hfi⟩ := hf k (by rw [hmm]; simp; omega)
        obtain ⟨u0, y0, c0', _, t0⟩ := hfi 0 _ rfl
        obtain ⟨u1, y1, c1', _, t1⟩ := hfi 1 _ rfl
        obtain ⟨u2, y2, c2', _, t2⟩ := hfi 2 _ rfl
        obtain ⟨u3, y3, c3', _, t3⟩ := hfi 3 _ rfl
        obtain ⟨a0, e0, _, w0⟩ := DataW.trod_int Try.underlying35 t0
        obtain ⟨a1, e1, _, w1⟩ := DataW.trod_int Try.underlying51 t1
        obtain ⟨a2, e2, _, w2⟩ := DataW.trod_int Try.underlying3 t2
        obtain ⟨a3, e3, _, w3⟩ := DataW.trod_int Try.underlying2 t3
        obtain ⟨b0, rfl, l0⟩ := nat_u64 w0
        obtain ⟨b1, rfl, l1⟩ := nat_u32 w1
        have l2 := i64_bounds w2
        simp at e0 e1 e2 e3
        subst e0 e1 e2 e3
        refine ⟨⟨b0, b1, a2, a3⟩, ⟨l0, l2⟩, fun _ j u hu => ?_⟩
        unfold RelD.cs at hu
        dsimp only at hu
        match j, hu with
        | 0, hu => obtain rfl := Option.some.inj hu; exact c0'
        | 1, hu => obtain rfl := Option.some.inj hu; exact c1'
        | 2, hu => obtain rfl := Option.some.inj hu; exact c2'
        | 3, hu => obtain rfl := Option.some.inj hu; exact c3'
        | j + 4, hu => simp at hu
      · exact ⟨relZ, relZ_fits, fun h => absurd h hk⟩
    refine ⟨some a, l, c, fun k => Classical.choose (key k), hcs, fun hn => ⟨a, rfl, ?_, fun i hi j u hu => (Classical.choose_spec (key i)).2 hi j u hu⟩, by omega, fun k => (Classical.choose_spec (key k)).1⟩
    have h0 := (Classical.choose_spec (key 0)).2 hn 0 _ rfl
    have := World.block_lt_of_cell? W _ h0
    rwa [block_of_add] at this
def patFit (q : PatD) : Prop := ∃ n : Nat, q.v = (n : Int) ∧ n < M
theorem patZ_fit : patFit ⟨0, 0, 0⟩ := ⟨0, rfl, by unfold M Lay.M; omega⟩
theorem pats_of_trod {fuel : Nat} {v : Value} {x : DataW H × List MemPlace} (h : DataW.trod enc Try.prog W 0 (fun _ => true) true fuel 26 [v] = some x) :
    ∃ (A : Option Addr) (n c : Nat) (S : Nat → PatD), v = .slice A n c ∧ Lay.StR W W.heap.size 3 A n (fun k => (S k).cs) ∧ n ≤ maxLen ∧ ∀ k, patFit (S k) := by
  rcases open_slice_fields Try.underlying26 Try.underlying55 (by kernel_rfl) (by rw [cl55]; rfl) h with ⟨hcs, _⟩ | ⟨a, l, c, m', D, Pl, hcs, _, hl, hc, hmm, hxd, hf⟩
  · simp at hcs
    exact ⟨none, 0, 0, fun _ => ⟨0, 0, 0⟩, hcs, fun h => absurd h (by omega), by simp [maxLen], fun _ => patZ_fit⟩
  · simp at hcs
    have key : ∀ k, ∃ s : PatD, (patFit s) ∧ (k < l → ∀ j u, s.cs[j]? = some u → W.cell? (a.add (k * 3 + j)) = some u) := by
      intro k
      by_cases hk : k < l
      · obtain ⟨ys, n, _, _, _, hfi⟩ := hf k (by rw [hmm]; simp; omega)
        obtain ⟨u0, y0, c0', _, t0⟩ := hfi 0 _ rfl
        obtain ⟨u1, y1, c1', _, t1⟩ := hfi 1 _ rfl
        obtain ⟨u2, y2, c2', _, t2⟩ := hfi 2 _ rfl
        obtain ⟨a0, e0, _, w0⟩ := DataW.trod_int Try.underlying35 t0
        obtain ⟨a1, e1, _, w1⟩ := DataW.trod_int Try.underlying3 t1
        obtain ⟨a2, e2, _, w2⟩ := DataW.trod_int Try.underlying35 t2
        obtain ⟨b2, rfl, l2⟩ := nat_u64 w2
        simp at e0 e1 e2
        subst e0 e1 e2
        refine ⟨⟨a0, a1, b2⟩, ⟨b2, rfl, l2⟩, fun _ j u hu => ?_⟩
        unfold PatD.cs at hu
        dsimp only at hu
        match j, hu with
        | 0, hu => obtain rfl := Option.some.inj hu; exact c0'
        | 1, hu => obtain rfl := Option.some.inj hu; exact c1'
        | 2, hu => obtain rfl := Option.some.inj hu; exact c2'
        | j + 3, hu => simp at hu
      · exact ⟨⟨0, 0, 0⟩, patZ_fit, fun h => absurd h hk⟩
    refine ⟨some a, l, c, fun k => Classical.choose (key k), hcs, fun hn => ⟨a, rfl, ?_, fun i hi j u hu => (Classical.choose_spec (key i)).2 hi j u hu⟩, by omega, fun k => (Classical.choose_spec (key k)).1⟩
    have h0 := (Classical.choose_spec (key 0)).2 hn 0 _ rfl
    have := World.block_lt_of_cell? W _ h0
    rwa [block_of_add] at this
/-- patches that came in -/
theorem open_pats {r : Reach} {b0 : Nat} {v : Value} {d : DataW H} {p : List MemPlace} (hv : Value.okWide Try.prog W r b0 26 v) (h : DataW.Trod enc Try.prog W 0 (fun _ => true) true 26 v d p) :
    ∃ (A : Option Addr) (n c : Nat) (Q : Nat → PatD) (V : Nat → Nat), v = .slice A n c ∧ Lay.StR W W.heap.size 3 A n (fun k => (Q k).cs) ∧ ∀ i, (Q i).v = (V i : Int) ∧ V i < M := by
  obtain ⟨f, hf⟩ := h
  obtain ⟨A0, m0, c0, rfl⟩ := okWide_slice Try.underlying26 hv
  obtain ⟨A, n, c, S, e, hS, _, hg⟩ := pats_of_trod (v := .slice A0 m0 c0) (by simpa [Value.cells] using hf)
  exact ⟨A, n, c, S, fun i => Classical.choose (hg i), e, hS, fun i => Classical.choose_spec (hg i)⟩
theorem obj_of_trodX {fuel : Nat} {cs : List Value} {x : DataW H × List MemPlace} (h : DataW.trod enc Try.prog W 0 (fun _ => true) true fuel 50 cs = some x) (hw : ∀ n ∈ x.1.weights Try.prog 50, n ≤ reachBytes) :
    ∃ o : ObjD, cs = o.cs.toList ∧ o.ok ∧ o.room ∧ Lay.StR W W.heap.size 6 o.gA o.gM (Lay.segC o.sg) ∧ Lay.StR W W.heap.size 5 o.sA o.sM (fun k => (o.sy k).cs) ∧ Lay.StR W W.heap.size 4 o.rA o.rM (fun k => (o.rl k).cs) := by
  obtain ⟨xs, n, _, hxx, hlen, hxl, hg⟩ := DataW.trod_struct Try.underlying50 h
  rw [cl50] at hlen
  match cs, hlen with
  | [c0, c1, c2, c3, c4, c5, c6, c7, c8, c9, c10], _ =>
    have g0 : DataW.trod enc Try.prog W 0 (fun _ => true) true n 3 [c0] = xs[0]? := by
      have := hg 0 _ rfl
      rw [show (Field.type _) = 3 from rfl, cl3] at this
      exact this
    have g1 : DataW.trod enc Try.prog W 0 (fun _ => true) true n 35 [c1] = xs[1]? := by
      have := hg 1 _ rfl
      rw [show (Field.type _) = 35 from rfl, cl35] at this
      exact this
    have g2 : DataW.trod enc Try.prog W 0 (fun _ => true) true n 48 [c2, c3, c4, c5] = xs[2]? := by
      have := hg 2 _ rfl
      rw [show (Field.type _) = 48 from rfl, cl48] at this
      exact this
    have g3 : DataW.trod enc Try.prog W 0 (fun _ => true) true n 44 [c6, c7, c8, c9, c10] = xs[3]? := by
      have := hg 3 _ rfl
      rw [show (Field.type _) = 44 from rfl, cl44] at this
      exact this
    have hx4 : xs.length = 4 := hxl
    rw [List.getElem?_eq_getElem (by omega)] at g0 g1 g2 g3
    obtain ⟨a0, e0, _, _⟩ := DataW.trod_int Try.underlying3 g0
    obtain ⟨a1, e1, _, w1⟩ := DataW.trod_int Try.underlying35 g1
    obtain ⟨ys, n2, _, hyx, _, hyl, hh⟩ := DataW.trod_struct Try.underlying48 g2
    obtain ⟨zs, n3, _, hzx, _, hzl, hd⟩ := DataW.trod_struct Try.underlying44 g3
    have hy4 : ys.length = 4 := hyl
    have hz5 : zs.length = 5 := hzl
    have k0 : DataW.trod enc Try.prog W 0 (fun _ => true) true n2 45 [c2] = ys[0]? := by
      have := hh 0 _ rfl
      rw [show (Field.type _) = 45 from rfl, cl45] at this
      exact this
    have k1 : DataW.trod enc Try.prog W 0 (fun _ => true) true n2 35 [c3] = ys[1]? := by
      have := hh 1 _ rfl
      rw [show (Field.type _) = 35 from rfl, cl35] at this
      exact this
    have k2 : DataW.trod enc Try.prog W 0 (fun _ => true) true n2 35 [c4] = ys[2]? := by
      have := hh 2 _ rfl
      rw [show (Field.type _) = 35 from rfl, cl35] at this
      exact this
    have k3 : DataW.trod enc Try.prog W 0 (fun _ => true) true n2 46 [c5] = ys[3]? := by
      have := hh 3 _ rfl
      rw [show (Field.type _) = 46 from rfl, cl46] at this
      exact this
    have l0 : DataW.trod enc Try.prog W 0 (fun _ => true) true n3 40 [c6] = zs[0]? := by
      have := hd 0 _ rfl
      rw [show (Field.type _) = 40 from rfl, cl40] at this
      exact this
    have l1 : DataW.trod enc Try.prog W 0 (fun _ => true) true n3 9 [c7] = zs[1]? := by
      have := hd 1 _ rfl
      rw [show (Field.type _) = 9 from rfl, cl9] at this
      exact this
    have l2 : DataW.trod enc Try.prog W 0 (fun _ => true) true n3 9 [c8] = zs[2]? := by
      have := hd 2 _ rfl
      rw [show (Field.type _) = 9 from rfl, cl9] at this
      exact this
    have l3 : DataW.trod enc Try.prog W 0 (fun _ => true) true n3 41 [c9] = zs[3]? := by
      have := hd 3 _ rfl
      rw [show (Field.type _) = 41 from rfl, cl41] at this
      exact this
    have l4 : DataW.trod enc Try.prog W 0 (fun _ => true) true n3 42 [c10] = zs[4]? := by
      have := hd 4 _ rfl
      rw [show (Field.type _) = 42 from rfl, cl42] at this
      exact this
    rw [List.getElem?_eq_getElem (by omega)] at k0 k1 k2 k3 l0 l1 l2 l3 l4
    obtain ⟨b0, f0, _, x0⟩ := DataW.trod_int Try.underlying45 k0
    obtain ⟨b1, f1, _, _⟩ := DataW.trod_int Try.underlying35 k1
    obtain ⟨b2, f2, _, _⟩ := DataW.trod_int Try.underlying35 k2
    have hw48 : ∀ n ∈ (xs[2]'(by omega)).1.weights Try.prog 48, n ≤ reachBytes := fun q hq => hw q (by rw [hxx]; exact weights_field Try.underlying50 (j := 2) rfl (by rw [List.getElem?_map, List.getElem?_eq_getElem (by omega)]; rfl) hq)
    have hw44 : ∀ n ∈ (xs[3]'(by omega)).1.weights Try.prog 44, n ≤ reachBytes := fun q hq => hw q (by rw [hxx]; exact weights_field Try.underlying50 (j := 3) rfl (by rw [List.getElem?_map, List.getElem?_eq_getElem (by omega)]; rfl) hq)
    have hw46 : ∀ n ∈ (ys[3]'(by omega)).1.weights Try.prog 46, n ≤ reachBytes := fun q hq => hw48 q (by rw [hyx]; exact weights_field Try.underlying48 (j := 3) rfl (by rw [List.getElem?_map, List.getElem?_eq_getElem (by omega)]; rfl) hq)
    have hw41 : ∀ n ∈ (zs[3]'(by omega)).1.weights Try.prog 41, n ≤ reachBytes := fun q hq => hw44 q (by rw [hzx]; exact weights_field Try.underlying44 (j := 3) rfl (by rw [List.getElem?_map, List.getElem?_eq_getElem (by omega)]; rfl) hq)
    have hw42 : ∀ n ∈ (zs[4]'(by omega)).1.weights Try.prog 42, n ≤ reachBytes := fun q hq => hw44 q (by rw [hzx]; exact weights_field Try.underlying44 (j := 4) rfl (by rw [List.getElem?_map, List.getElem?_eq_getElem (by omega)]; rfl) hq)
    obtain ⟨gA, gM, gQ, S, rfl, hS, hSl, hSf⟩ := segs_of_trod k3 hw46
    obtain ⟨nA, nM, nQ, rfl⟩ := sl_form Try.underlying40 l0
    obtain ⟨so, f7, _, _⟩ := DataW.trod_string Try.underlying9 l1
    obtain ⟨rn, f8, _, _⟩ := DataW.trod_string Try.underlying9 l2
    obtain ⟨sA, sM, sQ, Y, rfl, hY, hYl, hYf⟩ := syms_of_trod l3 hw41
    obtain ⟨rA, rM, rQ, R, rfl, hR, hRl, hRf⟩ := rels_of_trod l4 hw42
    obtain ⟨base, rfl, hbl⟩ := nat_u64 w1
    obtain ⟨ty, rfl⟩ := nat_u16 x0
    simp at e0 e1 f0 f1 f2 f7 f8
    subst e0 e1 f0 f1 f2 f7 f8
    exact ⟨⟨a0, base, ty, b1, b2, gA, gM, gQ, nA, nM, nQ, so, rn, sA, sM, sQ, rA, rM, rQ, S, Y, R⟩, rfl, ⟨hSf, hYf, hRf, hbl⟩, ⟨hSl, hYl, hRl⟩, hS, hY, hR⟩
/-- an object that came in by value -/
theorem open_objX {r : Reach} {b0 : Nat} {v : Value} {d : DataW H} {p : List MemPlace} (hv : Value.okWide Try.prog W r b0 50 v) (h : DataW.Trod enc Try.prog W 0 (fun _ => true) true 50 v d p) (hw : ∀ n ∈ d.weights Try.prog 50, n ≤ reachBytes) :
    ∃ o : ObjD, v = .agg o.cs ∧ o.ok ∧ o.room ∧ Lay.StR W W.heap.size 6 o.gA o.gM (Lay.segC o.sg) ∧ Lay.StR W W.heap.size 5 o.sA o.sM (fun k => (o.sy k).cs) ∧ Lay.StR W W.heap.size 4 o.rA o.rM (fun k => (o.rl k).cs) := by
  obtain ⟨f, hf⟩ := h
  obtain ⟨cs, rfl, hsz⟩ := okWide_struct Try.underlying50 hv
  obtain ⟨o, ho, h1, h2, h3⟩ := obj_of_trodX (cs := cs.toList) (by simpa [Value.cells] using hf) hw
  exact ⟨o, by rw [Array.toList_inj.1 ho], h1, h2, h3⟩
/-- objects that came in -/
theorem open_objsX {r : Reach} {b0 : Nat} {v : Value} {d : DataW H} {p : List MemPlace} (hv : Value.okWide Try.prog W r b0 22 v) (h : DataW.Trod enc Try.prog W 0 (fun _ => true) true 22 v d p) (hw : ∀ n ∈ d.weights Try.prog 22, n ≤ reachBytes) :
    ∃ (A : Option Addr) (m c : Nat) (O : Nat → ObjD), v = .slice A m c ∧ ObjR W W.heap.size A m O ∧ (∀ i, (O i).ok) ∧ ∀ i, (O i).room := by
  obtain ⟨f, hf⟩ := h
  obtain ⟨A0, m0, c0, rfl⟩ := okWide_slice Try.underlying22 hv
  rcases open_slice Try.underlying22 (by simpa [Value.cells] using hf) with ⟨hcs, _⟩ | ⟨a, l, c, m', n, D, Pl, hcs, _, hl, hc, hmm, hxd, hi⟩
  · obtain ⟨rfl, rfl, rfl⟩ : A0 = none ∧ m0 = 0 ∧ c0 = 0 := by simpa using hcs
    exact ⟨none, 0, 0, fun _ => objZ, rfl, ⟨fun h => absurd h (by omega), fun i hi => absurd hi (by omega), fun i hi => absurd hi (by omega), fun i hi => absurd hi (by omega), by simp [maxLen]⟩, fun _ => objZ_ok, fun _ => objZ_room⟩
  · obtain ⟨rfl, rfl, rfl⟩ : A0 = some a ∧ m0 = l ∧ c0 = c := by simpa using hcs
    rw [cl50] at hi
    have hd : d = .slice ((List.range m0).map D) ((List.range (m' - m0)).map fun j => D (m0 + j)) := congrArg (·.1) hxd
    have key : ∀ i, ∃ o : ObjD, (o.ok ∧ o.room) ∧ (i < m0 → (∀ j u, o.cs[j]? = some u → W.cell? (a.add (i * 11 + j)) = some u) ∧ Lay.StR W W.heap.size 6 o.gA o.gM (Lay.segC o.sg) ∧ Lay.StR W W.heap.size 5 o.sA o.sM (fun k => (o.sy k).cs) ∧ Lay.StR W W.heap.size 4 o.rA o.rM (fun k => (o.rl k).cs)) := by
      intro i
      by_cases him : i < m0
      · obtain ⟨cs', hcc, ht⟩ := hi i (by rw [hmm]; simp; omega)
        obtain ⟨o, ho, h1, h2, h3⟩ := obj_of_trodX ht (fun q hq => hw q (by rw [hd]; exact weights_elem Try.underlying22 (i := i) (by rw [List.getElem?_map, List.getElem?_range him]; rfl) hq))
        obtain ⟨_, hcl, hat⟩ := World.cells?_some hcc
        refine ⟨o, ⟨h1, h2⟩, fun _ => ⟨fun j u hu => ?_, h3⟩⟩
        have hu : o.cs[j]? = some u := hu
        have hj : j < 11 := by have := (Array.getElem?_eq_some_iff.1 hu).1; simpa [ObjD.cs] using this
        rw [← Go.Deep.add_add, hat j hj, ho, Array.getElem?_toList]
        exact hu
      · exact ⟨objZ, ⟨objZ_ok, objZ_room⟩, fun h => absurd h him⟩
    have hmx : 140737488355328 ≤ maxLen := by simp [maxLen]
    refine ⟨some a, m0, c0, fun i => Classical.choose (key i), rfl, ⟨fun hn => ⟨a, rfl, ?_, fun i hi j u hu => ((Classical.choose_spec (key i)).2 hi).1 j u hu⟩, fun i hi => ⟨((Classical.choose_spec (key i)).2 hi).2.1, ?_⟩, fun i hi => ⟨((Classical.choose_spec (key i)).2 hi).2.2.1, ?_⟩, fun i hi => ⟨((Classical.choose_spec (key i)).2 hi).2.2.2, ?_⟩, by omega⟩, fun i => (Classical.choose_spec (key i)).1.1, fun i => (Classical.choose_spec (key i)).1.2⟩
    · have h0 := ((Classical.choose_spec (key 0)).2 hn).1 0 _ rfl
      have := World.block_lt_of_cell? W _ h0
      rwa [block_of_add] at this
    · have := (Classical.choose_spec (key i)).1.2.g; omega
    · have := (Classical.choose_spec (key i)).1.2.s; omega
    · have := (Classical.choose_spec (key i)).1.2.r; omega
theorem open_u32 {r : Reach} {b0 : Nat} {v : Value} {d : DataW H} {p : List MemPlace} (hv : Value.okWide Try.prog W r b0 51 v) (h : DataW.Trod enc Try.prog W 0 (fun _ => true) true 51 v d p) : ∃ n : Nat, v = .int .u32 n ∧ n < 4294967296 := by
  obtain ⟨x, rfl, _, _, hw⟩ := open_int Try.underlying51 hv h
  obtain ⟨k, rfl, hk⟩ := nat_u32 hw
  exact ⟨k, rfl, hk⟩
theorem open_i64 {r : Reach} {b0 : Nat} {v : Value} {d : DataW H} {p : List MemPlace} (hv : Value.okWide Try.prog W r b0 3 v) (h : DataW.Trod enc Try.prog W 0 (fun _ => true) true 3 v d p) : ∃ n : Int, v = .int .i64 n ∧ -9223372036854775808 ≤ n ∧ n ≤ 9223372036854775807 := by
  obtain ⟨x, rfl, _, _, hw⟩ := open_int Try.underlying3 hv h
  exact ⟨x, rfl, i64_bounds hw⟩
end
end Go.Proofs.Ytlenjpgkmikgpaa
