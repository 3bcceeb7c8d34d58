/- The walk of the skip list's link. -/
import Derived.Test.YtfolchpjccjadaaDoorTb
namespace Go.Proofs.YtfolchpjccjadaaDoor
open Go.RowKit
set_option linter.unusedVariables false
attribute [local go_sem] bs_list bs_size

set_option maxRecDepth 100000 in
set_option maxHeartbeats 1000000 in
theorem sends_at (B o l : Nat) (s : Sop) (k : ByteArray) (r : Int) (hadn : Bool) (c : Int) (w : World) (hs : SopW w B o l s) :
    Calls Tryd.prog 32 #[.pointer (some ⟨o, 0, none⟩), .string k, .int .i64 r, .bool hadn, .int .i64 c] w fun e w' => e = .returned (.bool true) ∧ w'.heap[o]? = some (.cells (sopCells l { s with does := 3 } r k hadn c) 73 (0, 0)) ∧ Keep B [] (some o) w w' := by
  obtain ⟨hb, ref, found, had, code, hh⟩ := hs
  have hlt := heap_lt hh
  have fz := froz_all hh
  have x20 := box_cells hh 20 (.int .i64 ref) rfl
  have x22 := box_cells hh 22 (intv s.does) rfl
  have x44 := box_cells hh 44 (.string found) rfl
  have x45 := box_cells hh 45 (.bool had) rfl
  have x46 := box_cells hh 46 (.int .i64 code) rfl
  have h1 := set_at (set_at (set_at (set_at (set_at hh 44 (.string k)) 20 (.int .i64 r)) 45 (.bool hadn)) 46 (.int .i64 c)) 22 (.int .i64 3)
  have HF := Lib.hid h1
  have HK := Lib.hid ((((((Keep.refl B [] (some o) w).setOwn hlt hb 44 (.string k)).setOwn (by simpa [World.setCell] using hlt) hb 20 (.int .i64 r)).setOwn (by simpa [World.setCell] using hlt) hb 45 (.bool hadn)).setOwn (by simpa [World.setCell] using hlt) hb 46 (.int .i64 c)).setOwn (by simpa [World.setCell] using hlt) hb 22 (.int .i64 3))
  clear h1 hh
  go_enter Tryd.func32, Tryd.ntmps32
  go_wp2_with fail
  go_ret
  exact ⟨rfl, HF.out, HK.out⟩

set_option maxRecDepth 100000 in
set_option maxHeartbeats 4000000 in
theorem slink_fail (B o l a : Nat) (H L : List Nat) (N : List Nod) (s : Sop) (P : Nod) (n c x v : Nat) (w : World) (hA : ArW w B a H L) (hT : LsW w B l a N) (hs : SopW w B o l s) (hlk : s.linked < 8) (hn : s.preds[s.linked]? = some n) (hP : N[n]? = some P) (hc : P.tower[s.linked]? = some c) (hcl : c ∈ L) (hx : H[c]? = some x) (hv : s.succs[s.linked]? = some v) (hvl : v < 100000) (hol : s.own < 100000) (hne : ¬ x = v) :
    Calls Tryd.prog 44 #[.pointer (some ⟨o, 0, none⟩)] w (SStepR B o l a (fun H' L' N' s' d => H' = H ∧ L' = L ∧ N' = N ∧ s' = s.again ∧ d = false) w) := by
  obtain ⟨nv, ps, hT⟩ := hT
  obtain ⟨g, cap, p, hnv, hcap, hp, hN, hcell⟩ := hT.at hP
  obtain ⟨hb, ref, found, had, code, hh⟩ := hs
  have HQ := Lib.hid (sat_any B o l a n p N s P nv ps w.drew (hT.keep (Keep.refl B [] none w).drew rfl rfl rfl (by simp)) ⟨hb, ref, found, had, code, hh⟩ hP hp)
  have HF := Lib.hid (cas_any B a c x v s.own H L w.drew (hA.keep (Keep.refl B [] none w).drew rfl rfl (by simp)) hcl hx (by omega))
  have hbe : (x == v) = false := by simp [hne]
  rw [hbe] at HF
  clear hbe
  obtain ⟨k, hk⟩ : ∃ k, k = s.linked := ⟨_, rfl⟩
  rw [← hk] at hlk hc hv hn
  have x0 := box_cells hh 0 (.pointer (some ⟨l, 0, none⟩)) rfl
  have x42 := box_cells hh 42 (.int .i64 (s.own : Int)) rfl
  have x43 : w.cell? ⟨o, 43, none⟩ = some (.int .i64 (k : Int)) := by rw [hk]; exact box_cells hh 43 _ rfl
  have xn : w.cell? ⟨o, 26 + k, none⟩ = some (.int .i64 (n : Int)) := box_cells hh (26 + k) _ (sop_preds_at hlk hn)
  have xv : w.cell? ⟨o, 34 + k, none⟩ = some (.int .i64 (v : Int)) := box_cells hh (34 + k) _ (sop_succs_at hlk hv)
  have y0 := box_cells hT.1 0 (.pointer (some ⟨a, 0, none⟩)) rfl
  have yc := hN.cell hlk hc
  have u1 := u64_of_nat (n := v) (by omega)
  have u2 := u64_of_nat (n := s.own) (by omega)
  have i0 : (0 : Int) ≤ (k : Int) := by omega
  have i1 : (k : Int) < 8 := by omega
  have HH := Lib.hid hh; have HT := Lib.hid hT; have HN := Lib.hid hN; have HK := Lib.hid hk; have HC := Lib.hid hc; have HV := Lib.hid hv; have HNN := Lib.hid hn
  clear hh hT hN hA hk hc hv hP hp hnv hcell hn hx
  go_enter Tryd.func44, Tryd.ntmps44
  go_upto_region 2 with fail
  go_region_held3 (fun W => W.cell? ⟨o, 0, none⟩ = some (.pointer (some ⟨l, 0, none⟩)) ∧ W.cell? ⟨o, 42, none⟩ = some (.int .i64 (s.own : Int)) ∧ W.cell? ⟨o, 26 + k, none⟩ = some (.int .i64 (n : Int)) ∧ W.cell? ⟨o, 34 + k, none⟩ = some (.int .i64 (v : Int)) ∧ W.cell? ⟨l, 0, none⟩ = some (.pointer (some ⟨a, 0, none⟩)) ∧ W.cell? ⟨p, 19 + k, none⟩ = some (.int .i64 (c : Int))) (simp [*]) (first
    | (go_at_call 56; refine HQ.out.mono ?_; rintro e w2 ⟨rfl, rfl⟩)
    | (go_at_call 28; refine HF.out.mono ?_; rintro e w2 ⟨rfl, hA2, hk2⟩; have hk3 : Keep B [51, 48] none w w2 := (Keep.refl B [51, 48] none w).drew.trans hk2; have hs2 := hk3.rest o _ 73 HH.out rfl (by simp); have hT2 := HT.out.keep hk3 rfl rfl rfl (by simp); have q0 := box_cells hs2 0 (.pointer (some ⟨l, 0, none⟩)) rfl; have q42 := box_cells hs2 42 (.int .i64 (s.own : Int)) rfl; have qn : w2.cell? ⟨o, 26 + k, none⟩ = some (.int .i64 (n : Int)) := box_cells hs2 (26 + k) _ (sop_preds_at hlk HNN.out); have qv : w2.cell? ⟨o, 34 + k, none⟩ = some (.int .i64 (v : Int)) := box_cells hs2 (34 + k) _ (sop_succs_at hlk HV.out); have r0 := box_cells hT2.1 0 (.pointer (some ⟨a, 0, none⟩)) rfl; have rc := (HN.out.keep hk3 rfl (by simp)).cell hlk HC.out; have HA2 := Lib.hid hA2; have HS2 := Lib.hid hs2; have HT2 := Lib.hid hT2; have HK2 := Lib.hid hk3; clear hA2 hk2 hk3 hs2 hT2))
  clear x0 x42 x43 xn xv y0 yc q0 q42 qn qv r0 rc
  have HAG := Lib.hid (again_any B o l s w2 ⟨hb, ref, found, had, code, HS2.out⟩)
  have hca : casH H c x v s.own = H := by unfold casH; rw [if_neg hne]
  have HCA := Lib.hid hca
  clear hca hne
  go_wp2_with fail
  refine HAG.out.mono ?_
  rintro e w3 ⟨rfl, hs3, hke⟩
  have HJ := Lib.hid (show SStepR B o l a (fun H' L' N' s' d => H' = H ∧ L' = L ∧ N' = N ∧ s' = s.again ∧ d = false) w (.returned (.bool false)) w3 from ⟨_, _, _, _, _, rfl, ⟨rfl, rfl, rfl, rfl, rfl⟩, (HCA.out ▸ HA2.out).keep hke rfl rfl (fun g cs t e h => by obtain rfl := only_type HS2.out e h; decide), HT2.out.w.keep hke rfl rfl rfl (fun g cs t e h => by obtain rfl := only_type HS2.out e h; decide), hs3, (HK2.out.mono rfl).trans (hke.more rfl)⟩)
  clear hs3 hke
  go_wp2_with fail
  go_ret
  exact HJ.out

set_option maxRecDepth 100000 in
set_option maxHeartbeats 4000000 in
theorem slink_more (B o l a : Nat) (H L : List Nat) (N : List Nod) (s : Sop) (P : Nod) (n c v : Nat) (w : World) (hA : ArW w B a H L) (hT : LsW w B l a N) (hs : SopW w B o l s) (hlk : s.linked < 8) (hn : s.preds[s.linked]? = some n) (hP : N[n]? = some P) (hc : P.tower[s.linked]? = some c) (hcl : c ∈ L) (hx : H[c]? = some v) (hv : s.succs[s.linked]? = some v) (hvl : v < 100000) (hol : s.own < 100000) (h8 : s.height ≤ 8) (hh8 : s.linked + 1 ≠ s.height) :
    Calls Tryd.prog 44 #[.pointer (some ⟨o, 0, none⟩)] w (SStepR B o l a (fun H' L' N' s' d => H' = H.set c s.own ∧ L' = L ∧ N' = N ∧ s' = { s with linked := s.linked + 1, does := 1 } ∧ d = false) w) := by
  obtain ⟨nv, ps, hT⟩ := hT
  obtain ⟨g, cap, p, hnv, hcap, hp, hN, hcell⟩ := hT.at hP
  obtain ⟨hb, ref, found, had, code, hh⟩ := hs
  have HQ := Lib.hid (sat_any B o l a n p N s P nv ps w.drew (hT.keep (Keep.refl B [] none w).drew rfl rfl rfl (by simp)) ⟨hb, ref, found, had, code, hh⟩ hP hp)
  have HF := Lib.hid (cas_any B a c v v s.own H L w.drew (hA.keep (Keep.refl B [] none w).drew rfl rfl (by simp)) hcl hx (by omega))
  have hbe : (v == v) = true := by simp
  rw [hbe] at HF
  clear hbe
  obtain ⟨k, hk⟩ : ∃ k, k = s.linked := ⟨_, rfl⟩
  rw [← hk] at hlk hc hv hn
  have x0 := box_cells hh 0 (.pointer (some ⟨l, 0, none⟩)) rfl
  have x42 := box_cells hh 42 (.int .i64 (s.own : Int)) rfl
  have x43 : w.cell? ⟨o, 43, none⟩ = some (.int .i64 (k : Int)) := by rw [hk]; exact box_cells hh 43 _ rfl
  have xn : w.cell? ⟨o, 26 + k, none⟩ = some (.int .i64 (n : Int)) := box_cells hh (26 + k) _ (sop_preds_at hlk hn)
  have xv : w.cell? ⟨o, 34 + k, none⟩ = some (.int .i64 (v : Int)) := box_cells hh (34 + k) _ (sop_succs_at hlk hv)
  have y0 := box_cells hT.1 0 (.pointer (some ⟨a, 0, none⟩)) rfl
  have yc := hN.cell hlk hc
  have u1 := u64_of_nat (n := v) (by omega)
  have u2 := u64_of_nat (n := s.own) (by omega)
  have i0 : (0 : Int) ≤ (k : Int) := by omega
  have i1 : (k : Int) < 8 := by omega
  have HH := Lib.hid hh; have HT := Lib.hid hT; have HN := Lib.hid hN; have HK := Lib.hid hk; have HC := Lib.hid hc; have HV := Lib.hid hv; have HNN := Lib.hid hn
  clear hh hT hN hA hk hc hv hP hp hnv hcell hn hx
  go_enter Tryd.func44, Tryd.ntmps44
  go_upto_region 2 with fail
  go_region_held3 (fun W => W.cell? ⟨o, 0, none⟩ = some (.pointer (some ⟨l, 0, none⟩)) ∧ W.cell? ⟨o, 42, none⟩ = some (.int .i64 (s.own : Int)) ∧ W.cell? ⟨o, 26 + k, none⟩ = some (.int .i64 (n : Int)) ∧ W.cell? ⟨o, 34 + k, none⟩ = some (.int .i64 (v : Int)) ∧ W.cell? ⟨l, 0, none⟩ = some (.pointer (some ⟨a, 0, none⟩)) ∧ W.cell? ⟨p, 19 + k, none⟩ = some (.int .i64 (c : Int))) (simp [*]) (first
    | (go_at_call 56; refine HQ.out.mono ?_; rintro e w2 ⟨rfl, rfl⟩)
    | (go_at_call 28; refine HF.out.mono ?_; rintro e w2 ⟨rfl, hA2, hk2⟩; have hk3 : Keep B [51, 48] none w w2 := (Keep.refl B [51, 48] none w).drew.trans hk2; have hs2 := hk3.rest o _ 73 HH.out rfl (by simp); have hT2 := HT.out.keep hk3 rfl rfl rfl (by simp); have q0 := box_cells hs2 0 (.pointer (some ⟨l, 0, none⟩)) rfl; have q42 := box_cells hs2 42 (.int .i64 (s.own : Int)) rfl; have qn : w2.cell? ⟨o, 26 + k, none⟩ = some (.int .i64 (n : Int)) := box_cells hs2 (26 + k) _ (sop_preds_at hlk HNN.out); have qv : w2.cell? ⟨o, 34 + k, none⟩ = some (.int .i64 (v : Int)) := box_cells hs2 (34 + k) _ (sop_succs_at hlk HV.out); have r0 := box_cells hT2.1 0 (.pointer (some ⟨a, 0, none⟩)) rfl; have rc := (HN.out.keep hk3 rfl (by simp)).cell hlk HC.out; have HA2 := Lib.hid hA2; have HS2 := Lib.hid hs2; have HT2 := Lib.hid hT2; have HK2 := Lib.hid hk3; clear hA2 hk2 hk3 hs2 hT2))
  clear x0 x42 x43 xn xv y0 yc q0 q42 qn qv r0 rc
  have hca : casH H c v v s.own = H.set c s.own := by unfold casH; rw [if_pos rfl]
  have HCA := Lib.hid hca
  have q43 : w2.cell? ⟨o, 43, none⟩ = some (.int .i64 (k : Int)) := by rw [HK.out]; exact box_cells HS2.out 43 _ rfl
  have f2 := froz_all HS2.out
  have uk : IntKind.i64.wrap ((k : Int) + 1) = (k : Int) + 1 := IntWalk.i64_in _ (by omega)
  have hs3 := set_at HS2.out 43 (.int .i64 ((k : Int) + 1))
  have hke : Keep B [] (some o) w2 (w2.setCell ⟨o, 43, none⟩ (.int .i64 ((k : Int) + 1))) := (Keep.refl B [] (some o) w2).setOwn (heap_lt HS2.out) hb 43 _
  obtain ⟨w3, hw3⟩ : ∃ w3, w3 = w2.setCell ⟨o, 43, none⟩ (.int .i64 ((k : Int) + 1)) := ⟨_, rfl⟩
  rw [← hw3] at hs3 hke
  have hs3' : w3.heap[o]? = some (.cells (sopCells l { s with linked := s.linked + 1 } ref found had code) 73 (0, 0)) := by rw [hs3, HK.out]; rfl
  have HS3 := Lib.hid hs3'
  have HA3 := Lib.hid ((HCA.out ▸ HA2.out).keep hke rfl rfl (fun g cs t e h => by obtain rfl := only_type HS2.out e h; decide))
  have HT3 := Lib.hid (HT2.out.w.keep hke rfl rfl rfl (fun g cs t e h => by obtain rfl := only_type HS2.out e h; decide))
  have HK3 := Lib.hid (show Keep B [51, 48, 61, 62] (some o) w w3 from (HK2.out.mono rfl).trans (hke.more rfl))
  have HW3 := Lib.hid hw3
  have hkk : k + 1 ≠ s.height := by rw [HK.out]; exact hh8
  clear hca hs3 hs3' hke hw3 hh8
  go_upto_region 7 with fail
  rw [← HW3.out]
  clear q43 f2
  have z43 : w3.cell? ⟨o, 43, none⟩ = some (.int .i64 ((k : Int) + 1)) := by
    have := box_cells HS3.out 43 (intv (s.linked + 1)) rfl
    rw [this, ← HK.out]
    rfl
  have z21 := box_cells HS3.out 21 (.int .i64 (s.height : Int)) rfl
  have tk : (((k : Int) + 1) == (s.height : Int)) = false := by rw [beq_eq_false_iff_ne]; omega
  go_region
  have z22 := box_cells HS3.out 22 (.int .i64 (s.does : Int)) rfl
  have f3 := froz_all HS3.out
  have hk4 : Keep B [] (some o) w3 (w3.setCell ⟨o, 22, none⟩ (.int .i64 1)).drew := ((Keep.refl B [] (some o) w3).setOwn (heap_lt HS3.out) hb 22 _).drew
  have HJ := Lib.hid (show SStepR B o l a (fun H' L' N' s' d => H' = H.set c s.own ∧ L' = L ∧ N' = N ∧ s' = { s with linked := s.linked + 1, does := 1 } ∧ d = false) w (.returned (.bool false)) (w3.setCell ⟨o, 22, none⟩ (.int .i64 1)).drew from ⟨_, _, _, _, _, rfl, ⟨rfl, rfl, rfl, rfl, rfl⟩, HA3.out.keep hk4 rfl rfl (fun g cs t e h => by obtain rfl := only_type HS3.out e h; decide), HT3.out.keep hk4 rfl rfl rfl (fun g cs t e h => by obtain rfl := only_type HS3.out e h; decide), ⟨hb, ref, found, had, code, set_at HS3.out 22 (.int .i64 1)⟩, HK3.out.trans (hk4.more rfl)⟩)
  clear hk4 hkk
  go_wp2_with fail
  go_ret
  exact HJ.out

set_option maxRecDepth 100000 in
set_option maxHeartbeats 4000000 in
theorem slink_last (B o l a : Nat) (H L : List Nat) (N : List Nod) (s : Sop) (P : Nod) (n c v : Nat) (w : World) (hA : ArW w B a H L) (hT : LsW w B l a N) (hs : SopW w B o l s) (hlk : s.linked < 8) (hn : s.preds[s.linked]? = some n) (hP : N[n]? = some P) (hc : P.tower[s.linked]? = some c) (hcl : c ∈ L) (hx : H[c]? = some v) (hv : s.succs[s.linked]? = some v) (hvl : v < 100000) (hol : s.own < 100000) (h8 : s.height ≤ 8) (hh8 : s.linked + 1 = s.height) :
    Calls Tryd.prog 44 #[.pointer (some ⟨o, 0, none⟩)] w (SStepR B o l a (fun H' L' N' s' d => H' = H.set c s.own ∧ L' = L ∧ N' = N ∧ s' = { s with linked := s.linked + 1, does := 3 } ∧ d = true) w) := by
  obtain ⟨nv, ps, hT⟩ := hT
  obtain ⟨g, cap, p, hnv, hcap, hp, hN, hcell⟩ := hT.at hP
  obtain ⟨hb, ref, found, had, code, hh⟩ := hs
  have HQ := Lib.hid (sat_any B o l a n p N s P nv ps w.drew (hT.keep (Keep.refl B [] none w).drew rfl rfl rfl (by simp)) ⟨hb, ref, found, had, code, hh⟩ hP hp)
  have HF := Lib.hid (cas_any B a c v v s.own H L w.drew (hA.keep (Keep.refl B [] none w).drew rfl rfl (by simp)) hcl hx (by omega))
  have hbe : (v == v) = true := by simp
  rw [hbe] at HF
  clear hbe
  obtain ⟨k, hk⟩ : ∃ k, k = s.linked := ⟨_, rfl⟩
  rw [← hk] at hlk hc hv hn
  have x0 := box_cells hh 0 (.pointer (some ⟨l, 0, none⟩)) rfl
  have x42 := box_cells hh 42 (.int .i64 (s.own : Int)) rfl
  have x43 : w.cell? ⟨o, 43, none⟩ = some (.int .i64 (k : Int)) := by rw [hk]; exact box_cells hh 43 _ rfl
  have xn : w.cell? ⟨o, 26 + k, none⟩ = some (.int .i64 (n : Int)) := box_cells hh (26 + k) _ (sop_preds_at hlk hn)
  have xv : w.cell? ⟨o, 34 + k, none⟩ = some (.int .i64 (v : Int)) := box_cells hh (34 + k) _ (sop_succs_at hlk hv)
  have y0 := box_cells hT.1 0 (.pointer (some ⟨a, 0, none⟩)) rfl
  have yc := hN.cell hlk hc
  have u1 := u64_of_nat (n := v) (by omega)
  have u2 := u64_of_nat (n := s.own) (by omega)
  have i0 : (0 : Int) ≤ (k : Int) := by omega
  have i1 : (k : Int) < 8 := by omega
  have HH := Lib.hid hh; have HT := Lib.hid hT; have HN := Lib.hid hN; have HK := Lib.hid hk; have HC := Lib.hid hc; have HV := Lib.hid hv; have HNN := Lib.hid hn
  clear hh hT hN hA hk hc hv hP hp hnv hcell hn hx
  go_enter Tryd.func44, Tryd.ntmps44
  go_upto_region 2 with fail
  go_region_held3 (fun W => W.cell? ⟨o, 0, none⟩ = some (.pointer (some ⟨l, 0, none⟩)) ∧ W.cell? ⟨o, 42, none⟩ = some (.int .i64 (s.own : Int)) ∧ W.cell? ⟨o, 26 + k, none⟩ = some (.int .i64 (n : Int)) ∧ W.cell? ⟨o, 34 + k, none⟩ = some (.int .i64 (v : Int)) ∧ W.cell? ⟨l, 0, none⟩ = some (.pointer (some ⟨a, 0, none⟩)) ∧ W.cell? ⟨p, 19 + k, none⟩ = some (.int .i64 (c : Int))) (simp [*]) (first
    | (go_at_call 56; refine HQ.out.mono ?_; rintro e w2 ⟨rfl, rfl⟩)
    | (go_at_call 28; refine HF.out.mono ?_; rintro e w2 ⟨rfl, hA2, hk2⟩; have hk3 : Keep B [51, 48] none w w2 := (Keep.refl B [51, 48] none w).drew.trans hk2; have hs2 := hk3.rest o _ 73 HH.out rfl (by simp); have hT2 := HT.out.keep hk3 rfl rfl rfl (by simp); have q0 := box_cells hs2 0 (.pointer (some ⟨l, 0, none⟩)) rfl; have q42 := box_cells hs2 42 (.int .i64 (s.own : Int)) rfl; have qn : w2.cell? ⟨o, 26 + k, none⟩ = some (.int .i64 (n : Int)) := box_cells hs2 (26 + k) _ (sop_preds_at hlk HNN.out); have qv : w2.cell? ⟨o, 34 + k, none⟩ = some (.int .i64 (v : Int)) := box_cells hs2 (34 + k) _ (sop_succs_at hlk HV.out); have r0 := box_cells hT2.1 0 (.pointer (some ⟨a, 0, none⟩)) rfl; have rc := (HN.out.keep hk3 rfl (by simp)).cell hlk HC.out; have HA2 := Lib.hid hA2; have HS2 := Lib.hid hs2; have HT2 := Lib.hid hT2; have HK2 := Lib.hid hk3; clear hA2 hk2 hk3 hs2 hT2))
  clear x0 x42 x43 xn xv y0 yc q0 q42 qn qv r0 rc
  have hca : casH H c v v s.own = H.set c s.own := by unfold casH; rw [if_pos rfl]
  have HCA := Lib.hid hca
  have q43 : w2.cell? ⟨o, 43, none⟩ = some (.int .i64 (k : Int)) := by rw [HK.out]; exact box_cells HS2.out 43 _ rfl
  have f2 := froz_all HS2.out
  have uk : IntKind.i64.wrap ((k : Int) + 1) = (k : Int) + 1 := IntWalk.i64_in _ (by omega)
  have hs3 := set_at HS2.out 43 (.int .i64 ((k : Int) + 1))
  have hke : Keep B [] (some o) w2 (w2.setCell ⟨o, 43, none⟩ (.int .i64 ((k : Int) + 1))) := (Keep.refl B [] (some o) w2).setOwn (heap_lt HS2.out) hb 43 _
  obtain ⟨w3, hw3⟩ : ∃ w3, w3 = w2.setCell ⟨o, 43, none⟩ (.int .i64 ((k : Int) + 1)) := ⟨_, rfl⟩
  rw [← hw3] at hs3 hke
  have hs3' : w3.heap[o]? = some (.cells (sopCells l { s with linked := s.linked + 1 } ref found had code) 73 (0, 0)) := by rw [hs3, HK.out]; rfl
  have HS3 := Lib.hid hs3'
  have HA3 := Lib.hid ((HCA.out ▸ HA2.out).keep hke rfl rfl (fun g cs t e h => by obtain rfl := only_type HS2.out e h; decide))
  have HT3 := Lib.hid (HT2.out.w.keep hke rfl rfl rfl (fun g cs t e h => by obtain rfl := only_type HS2.out e h; decide))
  have HK3 := Lib.hid (show Keep B [51, 48, 61, 62] (some o) w w3 from (HK2.out.mono rfl).trans (hke.more rfl))
  have HW3 := Lib.hid hw3
  have hkk : k + 1 = s.height := by rw [HK.out]; exact hh8
  clear hca hs3 hs3' hke hw3 hh8
  go_upto_region 7 with fail
  rw [← HW3.out]
  clear q43 f2
  have z43 : w3.cell? ⟨o, 43, none⟩ = some (.int .i64 ((k : Int) + 1)) := by
    have := box_cells HS3.out 43 (intv (s.linked + 1)) rfl
    rw [this, ← HK.out]
    rfl
  have z21 := box_cells HS3.out 21 (.int .i64 (s.height : Int)) rfl
  have tk : (((k : Int) + 1) == (s.height : Int)) = true := by rw [beq_iff_eq]; omega
  go_region
  have HE := Lib.hid (sends_at B o l { s with linked := s.linked + 1 } (bs s.key) ref false 0 w3.drew.drew ⟨hb, ref, found, had, code, HS3.out⟩)
  have z2 := box_cells HS3.out 2 (.string (bs s.key)) rfl
  have z20 := box_cells HS3.out 20 (.int .i64 ref) rfl
  clear hkk
  go_upto_region 8 with fail
  go_region_held3 (fun W => W.cell? ⟨o, 2, none⟩ = some (.string (bs s.key)) ∧ W.cell? ⟨o, 20, none⟩ = some (.int .i64 ref)) (simp [*]) ((go_at_call 32; refine HE.out.mono ?_; rintro e w9 ⟨rfl, hh3, hk9⟩; have q20 := box_cells hh3 20 (.int .i64 ref) rfl; have q2 := box_cells hh3 2 (.string (bs s.key)) rfl; have HS9 := Lib.hid hh3; have HK9 := Lib.hid hk9; clear hh3 hk9))
  have hk4 : Keep B [] (some o) w3 w9 := ((Keep.refl B [] (some o) w3).drew.drew).trans HK9.out
  have HJ := Lib.hid (show SStepR B o l a (fun H' L' N' s' d => H' = H.set c s.own ∧ L' = L ∧ N' = N ∧ s' = { s with linked := s.linked + 1, does := 3 } ∧ d = true) w (.returned (.bool true)) w9 from ⟨_, _, _, _, _, rfl, ⟨rfl, rfl, rfl, rfl, rfl⟩, HA3.out.keep hk4 rfl rfl (fun g cs t e h => by obtain rfl := only_type HS3.out e h; decide), HT3.out.keep hk4 rfl rfl rfl (fun g cs t e h => by obtain rfl := only_type HS3.out e h; decide), ⟨hb, ref, _, _, _, HS9.out⟩, HK3.out.trans (hk4.more rfl)⟩)
  clear hk4
  go_wp2_with fail
  go_ret
  exact HJ.out
end Go.Proofs.YtfolchpjccjadaaDoor
