/- The walks of the skip list's at. -/
import Derived.Test.YtfolchpjccjadaaDoorSs
namespace Go.Proofs.YtfolchpjccjadaaDoor
open Go.RowKit
set_option linter.unusedVariables false
attribute [local go_sem] bs_list bs_size

/-- The cell with a node's pointer. -/
theorem LsC.at {w : World} {B l a n : Nat} {N : List Nod} {nv : Value} {ps : List Nat} {x : Nod} (h : LsC w B l a N nv ps) (hx : N[n]? = some x) : ∃ g cap p, nv = .slice (some ⟨g, 0, none⟩) N.length cap ∧ N.length ≤ cap ∧ ps[n]? = some p ∧ NodW w B p x ∧ w.cell? ⟨g, n, none⟩ = some (ptrv p) := by
  obtain ⟨a1, a2, a3, a4, a5⟩ := h
  have hlt := (List.getElem?_eq_some_iff.1 hx).1
  obtain ⟨p, hp, hn⟩ := a5 n x hx
  have a6 := a4
  obtain ⟨g, cap, rfl, hc⟩ := row_some a4 (by omega)
  refine ⟨g, cap, p, rfl, hc, hp, hn, ?_⟩
  have := a6.cells (g := g) rfl n (ptrv p) (by rw [List.getElem?_map, hp]; rfl)
  rwa [addp] at this

set_option maxRecDepth 100000 in
set_option maxHeartbeats 1000000 in
theorem sat_any (B o l a n p : Nat) (N : List Nod) (s : Sop) (x : Nod) (nv : Value) (ps : List Nat) (w : World) (hT : LsC w B l a N nv ps) (hs : SopW w B o l s) (hx : N[n]? = some x) (hp : ps[n]? = some p) :
    Calls Tryd.prog 56 #[.pointer (some ⟨o, 0, none⟩), .int .i64 (n : Int)] w fun e w' => e = .returned (.pointer (some ⟨p, 0, none⟩)) ∧ w = w' := by
  obtain ⟨g, cap, p', rfl, hc, hp', hn, hcell⟩ := hT.at hx
  obtain rfl := Option.some.inj (hp.symm.trans hp')
  obtain ⟨hb, ref, found, had, code, hh⟩ := hs
  have hlt := (List.getElem?_eq_some_iff.1 hx).1
  have x0 := box_cells hh 0 (.pointer (some ⟨l, 0, none⟩)) rfl
  have y1 := box_cells hT.1 1 (.slice (some ⟨g, 0, none⟩) N.length cap) rfl
  have hcell : w.cell? ⟨g, n, none⟩ = some (.pointer (some ⟨p, 0, none⟩)) := hcell
  clear hh hT hx hp hp' hn
  go_enter Tryd.func56, Tryd.ntmps56
  go_wp2_with fail
  go_ret
  exact ⟨rfl, rfl⟩
theorem sat_drew {B o l a n p : Nat} {N : List Nod} {s : Sop} {x : Nod} {nv : Value} {ps : List Nat} {w : World} (hT : LsC w B l a N nv ps) (hs : SopW w B o l s) (hx : N[n]? = some x) (hp : ps[n]? = some p) (q : Nat) :
    Calls Tryd.prog 56 #[.pointer (some ⟨o, 0, none⟩), .int .i64 (n : Int)] (w.drewN q) fun e w' => e = .returned (.pointer (some ⟨p, 0, none⟩)) ∧ w' = w.drewN q :=
  (sat_any B o l a n p N s x nv ps (w.drewN q) (hT.keep ((Keep.refl B [] none w).drewN q) rfl rfl rfl (by simp)) (hs.keep ((Keep.refl B [] none w).drewN q) rfl (by simp)) hx hp).mono fun e w' h => ⟨h.1, h.2.symm⟩

end Go.Proofs.YtfolchpjccjadaaDoor
