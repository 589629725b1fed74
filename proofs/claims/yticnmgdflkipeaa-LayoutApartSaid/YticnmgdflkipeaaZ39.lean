import Derived.Test.YticnmgdflkipeaaZ37
namespace Go.Proofs.Yticnmgdflkipeaa
open Go.RowKit Go.Shelf Go.Hos
set_option linter.unusedVariables false
/-! plain laws: an object that lies farther -/
theorem flatMap_cong {α β : Type} {f g : α → List β} : ∀ l : List α, (∀ a ∈ l, f a = g a) → l.flatMap f = l.flatMap g
  | [], _ => rfl
  | a :: r, h => by rw [List.flatMap_cons, List.flatMap_cons, h a (by simp), flatMap_cong r fun b hb => h b (by simp [hb])]
/-- what is known of a load where its object lies -/
structure LdX (o : ObjD) (s : SegD) : Prop where
  ok : LoadOk o s
  en : o.base + upv (s.addr + s.msz) ≤ 140737488355328
  al : o.base % 4096 = 0
theorem ld_x {o : ObjD} (h : okP o = true) {s : SegD} (hs : s ∈ lds o.sg o.gM) : LdX o s := by
  obtain ⟨h1, h2, h3⟩ := okP_right h
  obtain ⟨n, hn, rfl⟩ := mem_fnS hs
  have k := load_ok h1 hn
  have hle := of_decide_eq_true h3
  exact ⟨k, by have := k.en; omega, h2⟩
theorem upv_dn {a : Nat} (h : a ≤ 140737488355328) : upv a = dn (a + 4095) := by unfold upv; rw [if_pos (by unfold M; omega)]
theorem dn_add {a d : Nat} (hd : d % 4096 = 0) : dn (a + d) = dn a + d := by unfold dn; omega
def PieceD.sh (d : Nat) (p : PieceD) : PieceD := ⟨p.f + d, p.t + d, p.pr, p.ino, p.off⟩
theorem upv_add {a d : Nat} (hd : d % 4096 = 0) (h : a + d ≤ 140737488355328) : upv (a + d) = upv a + d := by
  rw [upv_dn h, upv_dn (by omega), show a + d + 4095 = a + 4095 + d by omega, dn_add hd]
section
variable {o : ObjD} {d : Nat} (hd : d % 4096 = 0) (h : okP o = true) (h' : okP { o with base := o.base + d } = true)
include hd h h'
set_option maxRecDepth 20000 in
theorem pcS_sh {s : SegD} (hs : s ∈ lds o.sg o.gM) : pcS (o.base + d) o.ino s = (pcS o.base o.ino s).map (PieceD.sh d) ∧ wrS (o.base + d) s = (wrS o.base s).map (fun k => (k.1 + d, k.2)) := by
  have k := ld_x h hs
  have k' := ld_x h' (s := s) hs
  have e1 := k'.en
  have e2 := k.ok.up
  have e3 := k.ok.fm
  dsimp only at e1
  have a1 : dn (o.base + d + s.addr) = dn (o.base + s.addr) + d := by rw [show o.base + d + s.addr = o.base + s.addr + d by omega, dn_add hd]
  have a2 : upv (o.base + d + s.addr + s.fsz) = upv (o.base + s.addr + s.fsz) + d := by rw [show o.base + d + s.addr + s.fsz = o.base + s.addr + s.fsz + d by omega, upv_add hd (by omega)]
  have a3 : upv (o.base + d + s.addr + s.msz) = upv (o.base + s.addr + s.msz) + d := by rw [show o.base + d + s.addr + s.msz = o.base + s.addr + s.msz + d by omega, upv_add hd (by omega)]
  have e5 : s.fsz ≤ s.msz := e3
  unfold pcS wrS
  rw [a1, a2, a3, show o.base + d + s.addr + s.fsz = o.base + s.addr + s.fsz + d by omega]
  clear a1 a2 a3 e1 e2 k k' h h' hd
  generalize upv (o.base + s.addr + s.fsz) = uf
  generalize upv (o.base + s.addr + s.msz) = ue
  generalize dn (o.base + s.addr) = df
  generalize dn s.off = df'
  generalize o.base + s.addr + s.fsz = f0
  constructor
  · split
    · split
      · rw [if_pos (by omega)]; rfl
      · rw [if_neg (by omega)]; rfl
    · rfl
  · split
    · rw [if_pos (by omega)]
      rename_i hc
      rw [show uf + d - (f0 + d) = uf - f0 by omega]; rfl
    · rw [if_neg (by omega)]; rfl
theorem pcA_sh : pcA { o with base := o.base + d } = (pcA o).map (PieceD.sh d) ∧ wrA { o with base := o.base + d } = (wrA o).map (fun k => (k.1 + d, k.2)) := by
  unfold pcA wrA
  rw [if_pos h, if_pos h', if_pos h, if_pos h']
  show pcL (o.base + d) o.ino (lds o.sg o.gM) = _ ∧ wrL (o.base + d) (lds o.sg o.gM) = _
  unfold pcL wrL
  rw [List.map_flatMap, List.map_flatMap]
  exact ⟨flatMap_cong _ fun s hs => (pcS_sh hd h h' hs).1, flatMap_cong _ fun s hs => (pcS_sh hd h h' hs).2⟩
theorem pcN_sh : pcN { o with base := o.base + d } = pcN o ∧ wrN { o with base := o.base + d } = wrN o := by
  unfold pcN wrN
  rw [(pcA_sh hd h h').1, (pcA_sh hd h h').2, List.length_map, List.length_map]
  exact ⟨rfl, rfl⟩
theorem pcF_sh {i : Nat} (hi : i < pcN o) : pcF { o with base := o.base + d } i = PieceD.sh d (pcF o i) := by
  unfold pcF
  unfold pcN at hi
  rw [(pcA_sh hd h h').1, List.getD_eq_getElem?_getD, List.getD_eq_getElem?_getD, List.getElem?_map, List.getElem?_eq_getElem hi]; rfl
theorem wrF_sh {i : Nat} (hi : i < wrN o) : wrF { o with base := o.base + d } i = ((wrF o i).1 + d, (wrF o i).2) := by
  unfold wrF
  unfold wrN at hi
  rw [(pcA_sh hd h h').2, List.getD_eq_getElem?_getD, List.getD_eq_getElem?_getD, List.getElem?_map, List.getElem?_eq_getElem hi]; rfl
end
set_option maxRecDepth 20000 in
theorem pcA_le {o : ObjD} : ∀ p ∈ pcA o, p.f ≤ 140737488355328 ∧ p.t ≤ 140737488355328 ∧ p.off ≤ 65536 := by
  intro p hp
  unfold pcA at hp
  split at hp
  · rename_i hk
    obtain ⟨s, hs, hp⟩ := List.mem_flatMap.1 hp
    have k := ld_x hk hs
    have e1 := k.en; have e2 := k.ok.up; have e3 := k.ok.fm; have e4 := k.al; have e5 := k.ok.ofs
    have u1 : upv (o.base + s.addr + s.fsz) = dn (o.base + s.addr + s.fsz + 4095) := upv_dn (by omega)
    have u2 : upv (o.base + s.addr + s.msz) = dn (o.base + s.addr + s.msz + 4095) := upv_dn (by omega)
    have u3 : upv (s.addr + s.msz) = dn (s.addr + s.msz + 4095) := upv_dn (by omega)
    have d1 : dn (o.base + s.addr) ≤ o.base + s.addr := dn_le _
    have d2 : dn s.off ≤ s.off := dn_le _
    have b1 : upv (o.base + s.addr + s.fsz) ≤ 140737488355328 := by rw [u1]; rw [u3] at e1; unfold dn at e1 ⊢; omega
    have b2 : upv (o.base + s.addr + s.msz) ≤ 140737488355328 := by rw [u2]; rw [u3] at e1; unfold dn at e1 ⊢; omega
    unfold pcS at hp
    have d3 : dn (o.base + s.addr) ≤ 140737488355328 := by omega
    have d4 : dn s.off ≤ 65536 := by omega
    clear u1 u2 u3 d1 d2 e1 e2 e3 e4 e5 k
    generalize upv (o.base + s.addr + s.fsz) = uf at *
    generalize upv (o.base + s.addr + s.msz) = ue at *
    generalize dn (o.base + s.addr) = df at *
    generalize dn s.off = df' at *
    split at hp
    · rcases List.mem_cons.1 hp with rfl | hp
      · exact ⟨d3, b1, d4⟩
      · split at hp
        · obtain rfl := List.mem_singleton.1 hp
          exact ⟨b1, b2, Nat.zero_le _⟩
        · cases hp
    · obtain rfl := List.mem_singleton.1 hp
      exact ⟨d3, b2, Nat.zero_le _⟩
  · cases hp
set_option maxRecDepth 20000 in
theorem wrA_le {o : ObjD} : ∀ k ∈ wrA o, k.1 ≤ 140737488355328 := by
  intro p hp
  unfold wrA at hp
  split at hp
  · rename_i hk
    obtain ⟨s, hs, hp⟩ := List.mem_flatMap.1 hp
    have k := ld_x hk hs
    have e1 := k.en; have e2 := k.ok.up; have e3 := k.ok.fm
    unfold wrS at hp
    split at hp
    · obtain rfl := List.mem_singleton.1 hp
      show o.base + s.addr + s.fsz ≤ _
      omega
    · cases hp
  · cases hp
theorem pcF_le (o : ObjD) (i : Nat) : (pcF o i).f ≤ 140737488355328 ∧ (pcF o i).t ≤ 140737488355328 ∧ (pcF o i).off ≤ 65536 := by
  unfold pcF
  rw [List.getD_eq_getElem?_getD]
  cases h : (pcA o)[i]? with
  | none => exact ⟨Nat.zero_le _, Nat.zero_le _, Nat.zero_le _⟩
  | some p => exact pcA_le p (List.mem_of_getElem? h)
theorem wrF_le (o : ObjD) (i : Nat) : (wrF o i).1 ≤ 140737488355328 := by
  unfold wrF
  rw [List.getD_eq_getElem?_getD]
  cases h : (wrA o)[i]? with
  | none => exact Nat.zero_le _
  | some p => exact wrA_le p (List.mem_of_getElem? h)
end Go.Proofs.Yticnmgdflkipeaa
