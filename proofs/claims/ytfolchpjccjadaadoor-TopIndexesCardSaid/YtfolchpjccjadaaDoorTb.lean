/- The walk of the skip list's lay. -/
import Derived.Test.YtfolchpjccjadaaDoorTa
namespace Go.Proofs.YtfolchpjccjadaaDoor
open Go.RowKit
set_option linter.unusedVariables false
attribute [local go_sem] bs_list bs_size

theorem u64_of_nat {n : Nat} (h : n < 1000000) : IntKind.u64.wrap (n : Int) = (n : Int) := by rw [IntKind.wrap_u64]; omega
theorem NodW.cell {w : World} {B p j c : Nat} {x : Nod} (h : NodW w B p x) (hj : j < 8) (hc : x.tower[j]? = some c) : w.cell? ⟨p, 19 + j, none⟩ = some (.int .i64 (c : Int)) := by
  obtain ⟨_, _, ref, hh⟩ := h
  exact box_cells hh (19 + j) _ (nod_tower_at hj hc)

set_option maxRecDepth 100000 in
set_option maxHeartbeats 4000000 in
theorem slay_any (B o l a : Nat) (H L : List Nat) (N : List Nod) (s : Sop) (y : Nod) (c v : Nat) (w : World) (hA : ArW w B a H L) (hT : LsW w B l a N) (hs : SopW w B o l s) (hy : N[s.own]? = some y) (hlk : s.linked < 8) (hc : y.tower[s.linked]? = some c) (hcl : c ∈ L) (hv : s.succs[s.linked]? = some v) (hvl : v < 100000) :
    Calls Tryd.prog 43 #[.pointer (some ⟨o, 0, none⟩)] w (SStepR B o l a (fun H' L' N' s' d => H' = H.set c v ∧ L' = L ∧ N' = N ∧ s' = { s with does := 2 } ∧ d = false) w) := by
  obtain ⟨nv, ps, hT⟩ := hT
  obtain ⟨g, cap, p, hnv, hcap, hp, hN, hcell⟩ := hT.at hy
  obtain ⟨hb, ref, found, had, code, hh⟩ := hs
  have HQ := Lib.hid (sat_any B o l a s.own p N s y nv ps w.drew (hT.keep (Keep.refl B [] none w).drew rfl rfl rfl (by simp)) ⟨hb, ref, found, had, code, hh⟩ hy hp)
  have HF := Lib.hid (store_any B a c v H L w.drew (hA.keep (Keep.refl B [] none w).drew rfl rfl (by simp)) hcl (by omega))
  obtain ⟨k, hk⟩ : ∃ k, k = s.linked := ⟨_, rfl⟩
  rw [← hk] at hlk hc hv
  have x0 := box_cells hh 0 (.pointer (some ⟨l, 0, none⟩)) rfl
  have x42 := box_cells hh 42 (.int .i64 (s.own : Int)) rfl
  have x43 : w.cell? ⟨o, 43, none⟩ = some (.int .i64 (k : Int)) := by rw [hk]; exact box_cells hh 43 _ rfl
  have xv : w.cell? ⟨o, 34 + k, none⟩ = some (.int .i64 (v : Int)) := box_cells hh (34 + k) _ (sop_succs_at hlk hv)
  have y0 := box_cells hT.1 0 (.pointer (some ⟨a, 0, none⟩)) rfl
  have yc := hN.cell hlk hc
  have u1 := u64_of_nat (n := v) (by omega)
  have i0 : (0 : Int) ≤ (k : Int) := by omega
  have i1 : (k : Int) < 8 := by omega
  have HH := Lib.hid hh; have HT := Lib.hid hT; have HN := Lib.hid hN; have HK := Lib.hid hk; have HC := Lib.hid hc; have HV := Lib.hid hv
  clear hh hT hN hA hk hc hv hy hp hnv hcell
  go_enter Tryd.func43, Tryd.ntmps43
  go_upto_region 1 with fail
  go_region_held3 (fun W => W.cell? ⟨o, 0, none⟩ = some (.pointer (some ⟨l, 0, none⟩)) ∧ W.cell? ⟨o, 42, none⟩ = some (.int .i64 (s.own : Int)) ∧ W.cell? ⟨o, 43, none⟩ = some (.int .i64 (k : Int)) ∧ W.cell? ⟨o, 34 + k, none⟩ = some (.int .i64 (v : Int)) ∧ W.cell? ⟨l, 0, none⟩ = some (.pointer (some ⟨a, 0, none⟩)) ∧ W.cell? ⟨p, 19 + k, none⟩ = some (.int .i64 (c : Int))) (simp [*]) (first
    | (go_at_call 56; refine HQ.out.mono ?_; rintro e w2 ⟨rfl, rfl⟩)
    | (go_at_call 27; refine HF.out.mono ?_; rintro e w2 ⟨rfl, hA2, hk2⟩; have hk3 : Keep B [51, 48] none w w2 := (Keep.refl B [51, 48] none w).drew.trans hk2; have hs2 := hk3.rest o _ 73 HH.out rfl (by simp); have hT2 := HT.out.keep hk3 rfl rfl rfl (by simp); have q0 := box_cells hs2 0 (.pointer (some ⟨l, 0, none⟩)) rfl; have q42 := box_cells hs2 42 (.int .i64 (s.own : Int)) rfl; have q43 : w2.cell? ⟨o, 43, none⟩ = some (.int .i64 (k : Int)) := (by rw [HK.out]; exact box_cells hs2 43 _ rfl); have qv : w2.cell? ⟨o, 34 + k, none⟩ = some (.int .i64 (v : Int)) := box_cells hs2 (34 + k) _ (sop_succs_at hlk HV.out); have r0 := box_cells hT2.1 0 (.pointer (some ⟨a, 0, none⟩)) rfl; have rc := (HN.out.keep hk3 rfl (by simp)).cell hlk HC.out; have f2 := froz_all hs2; have q22 := box_cells hs2 22 (.int .i64 (s.does : Int)) rfl; have HA2 := Lib.hid hA2; have HS2 := Lib.hid hs2; have HT2 := Lib.hid hT2; have HK2 := Lib.hid hk3; clear hA2 hk2 hk3 hs2 hT2))
  clear x0 x42 x43 xv y0 yc
  have hke : Keep B [] (some o) w2 (w2.setCell ⟨o, 22, none⟩ (.int .i64 2)) := (Keep.refl B [] (some o) w2).setOwn (heap_lt HS2.out) hb 22 _
  have HJ := Lib.hid (show SStepR B o l a (fun H' L' N' s' d => H' = H.set c v ∧ L' = L ∧ N' = N ∧ s' = { s with does := 2 } ∧ d = false) w (.returned (.bool false)) _ from ⟨_, _, _, _, _, rfl, ⟨rfl, rfl, rfl, rfl, rfl⟩, HA2.out.keep hke rfl rfl (fun g cs t e h => by obtain rfl := only_type HS2.out e h; decide), HT2.out.w.keep hke rfl rfl rfl (fun g cs t e h => by obtain rfl := only_type HS2.out e h; decide), ⟨hb, ref, found, had, code, set_at HS2.out 22 (.int .i64 2)⟩, (HK2.out.mono rfl).trans (hke.more rfl)⟩)
  clear hke
  go_wp2_with fail
  go_ret
  exact HJ.out
end Go.Proofs.YtfolchpjccjadaaDoor
