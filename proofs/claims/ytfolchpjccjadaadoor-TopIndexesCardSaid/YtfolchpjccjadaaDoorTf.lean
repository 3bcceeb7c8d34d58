/- The walk of the skip list's walk: where it has come down. -/
import Derived.Test.YtfolchpjccjadaaDoorTe
namespace Go.Proofs.YtfolchpjccjadaaDoor
open Go.RowKit
set_option linter.unusedVariables false
attribute [local go_sem] bs_list bs_size


set_option maxRecDepth 100000 in
set_option maxHeartbeats 4000000 in
theorem swalk_arr0 (B o l a : Nat) (H L : List Nat) (N : List Nod) (s : Sop) (P : Nod) (c x : Nat) (w : World) (hA : ArW w B a H L) (hT : LsW w B l a N) (hs : SopW w B o l s) (hz : TabW w) (hB : 0 < B) (hBs : B ≤ w.heap.size) (hp : SPre H L N s) (hks : isKey s.key = true) (hlv : s.level < 8) (hP : N[s.pred]? = some P) (hc : P.tower[s.level]? = some c) (hcl : c ∈ L) (hx : H[c]? = some x) (hxl : x < N.length) (hx0 : x = 0) (hl : s.level = 0) (hp1 : SPre H L N { s with preds := s.preds.set s.level s.pred, succs := s.succs.set s.level x }) :
    Calls Tryd.prog 42 #[.pointer (some ⟨o, 0, none⟩)] w (SStepR B o l a (WStep H L N s x) w) := by
  have hxn : x < 100000 := by have := hp.nl; omega
  obtain ⟨nv, ps, hT⟩ := hT
  obtain ⟨g, cap, p, hnv, hcap, hpp, hN, hcell⟩ := hT.at hP
  obtain ⟨hb, ref, found, had, code, hh⟩ := hs
  have HQ := Lib.hid (sat_any B o l a s.pred p N s P nv ps w.drew (hT.keep (Keep.refl B [] none w).drew rfl rfl rfl (by simp)) ⟨hb, ref, found, had, code, hh⟩ hP hpp)
  have HF := Lib.hid (load_any B a c x H L w.drew (hA.keep (Keep.refl B [] none w).drew rfl rfl (by simp)) hcl hx)
  obtain ⟨k, hk⟩ : ∃ k, k = s.level := ⟨_, rfl⟩
  rw [← hk] at hlv hc
  have x0 := box_cells hh 0 (.pointer (some ⟨l, 0, none⟩)) rfl
  have x24 : w.cell? ⟨o, 24, none⟩ = some (.int .i64 (k : Int)) := by rw [hk]; exact box_cells hh 24 _ rfl
  have x25 := box_cells hh 25 (.int .i64 (s.pred : Int)) rfl
  have y0 := box_cells hT.1 0 (.pointer (some ⟨a, 0, none⟩)) rfl
  have yc := hN.cell hlv hc
  have i0 : (0 : Int) ≤ (k : Int) := by omega
  have i1 : (k : Int) < 8 := by omega
  have ux : IntKind.i64.wrap (x : Int) = (x : Int) := IntWalk.i64_in _ (by omega)
  have HH := Lib.hid hh; have HT := Lib.hid hT; have HN := Lib.hid hN; have HK := Lib.hid hk; have HC := Lib.hid hc; have HP := Lib.hid hp; have HZ := Lib.hid hz
  clear hh hT hN hA hk hc hP hpp hnv hcell hx hp hz
  go_enter Tryd.func42, Tryd.ntmps42
  go_upto_region 1 with fail
  go_region_held3 (fun W => W.cell? ⟨o, 0, none⟩ = some (.pointer (some ⟨l, 0, none⟩)) ∧ W.cell? ⟨o, 24, none⟩ = some (.int .i64 (k : Int)) ∧ W.cell? ⟨o, 25, none⟩ = some (.int .i64 (s.pred : Int)) ∧ W.cell? ⟨l, 0, none⟩ = some (.pointer (some ⟨a, 0, none⟩)) ∧ W.cell? ⟨p, 19 + k, none⟩ = some (.int .i64 (c : Int))) (simp [*]) (first
    | (go_at_call 56; refine HQ.out.mono ?_; rintro e w2 ⟨rfl, rfl⟩)
    | (go_at_call 19; refine HF.out.mono ?_; rintro e w2 ⟨rfl, hA2, hk2⟩; have hk3 : Keep B [51] none w w2 := (Keep.refl B [51] none w).drew.trans hk2; have hs2 := hk3.rest o _ 73 HH.out rfl (by simp); have hT2 := HT.out.keep hk3 rfl rfl rfl (by simp); have q0 := box_cells hs2 0 (.pointer (some ⟨l, 0, none⟩)) rfl; have q24 : w2.cell? ⟨o, 24, none⟩ = some (.int .i64 (k : Int)) := (by rw [HK.out]; exact box_cells hs2 24 _ rfl); have q25 := box_cells hs2 25 (.int .i64 (s.pred : Int)) rfl; have r0 := box_cells hT2.1 0 (.pointer (some ⟨a, 0, none⟩)) rfl; have rc := (HN.out.keep hk3 rfl (by simp)).cell hlv HC.out; have HA2 := Lib.hid hA2; have HS2 := Lib.hid hs2; have HT2 := Lib.hid hT2; have HK2 := Lib.hid hk3; clear hA2 hk2 hk3 hs2 hT2))
  clear x0 x24 x25 y0 yc q0 q24 q25 r0 rc
  subst hx0
  go_upto_region 3 with fail
  go_quiet (fail)
  obtain ⟨w3, hw3⟩ : ∃ w3, w3 = w2.drewN nq := ⟨_, rfl⟩
  rw [← hw3]
  have hk3 : Keep B [] none w2 w3 := by rw [hw3]; exact (Keep.refl B [] none w2).drewN _
  clear hw3
  have HA3 := Lib.hid (HA2.out.keep hk3 rfl rfl (by simp))
  have HT3 := Lib.hid (HT2.out.keep hk3 rfl rfl rfl (by simp))
  have HS3 := Lib.hid (hk3.rest o _ 73 HS2.out rfl (by simp))
  have HK3 := Lib.hid (show Keep B [51, 48, 61, 62] (some o) w w3 from (HK2.out.mono rfl).trans (hk3.mono rfl))
  clear hk3
  have x24 : w3.cell? ⟨o, 24, none⟩ = some (.int .i64 (k : Int)) := by rw [HK.out]; exact box_cells HS3.out 24 _ rfl
  have x25 := box_cells HS3.out 25 (.int .i64 (s.pred : Int)) rfl
  have f3 := froz_all HS3.out
  have hpk : s.preds[k]? = some (s.preds[k]'(by rw [HP.out.p8]; exact hlv)) := List.getElem?_eq_getElem _
  have hqk : s.succs[k]? = some (s.succs[k]'(by rw [HP.out.s8]; exact hlv)) := List.getElem?_eq_getElem _
  obtain ⟨vp, hvp⟩ : ∃ v, s.preds[k]? = some v := ⟨_, hpk⟩
  obtain ⟨vq, hvq⟩ : ∃ v, s.succs[k]? = some v := ⟨_, hqk⟩
  have z1 : w3.cell? ⟨o, 26 + k, none⟩ = some (.int .i64 (vp : Int)) := box_cells HS3.out (26 + k) _ (sop_preds_at hlv hvp)
  have z2 : w3.cell? ⟨o, 34 + k, none⟩ = some (.int .i64 (vq : Int)) := box_cells HS3.out (34 + k) _ (sop_succs_at hlv hvq)
  clear hpk hqk hvp hvq
  have hne1 : ∀ d, d < 26 → ¬ 26 + k = d := fun d hd => by omega
  have hne2 : ∀ d, d < 26 → ¬ 34 + k = d := fun d hd => by omega
  have hne3 : ¬ 26 + k = 34 + k := by omega
  have hne4 : ¬ 34 + k = 26 + k := by omega
  have HSa := Lib.hid (stored_two (o := o) (l := l) (s := s) (ref := ref) (found := found) (had := had) (code := code) HS3.out HP.out.p8 HP.out.s8 hlv s.pred 0)
  have HKa := Lib.hid (show Keep B [] (some o) w3 ((w3.setCell ⟨o, 26 + k, none⟩ (.int .i64 (s.pred : Int))).setCell ⟨o, 34 + k, none⟩ (.int .i64 0)) from ((Keep.refl B [] (some o) w3).setOwn (heap_lt HS3.out) hb _ _).setOwn (by simpa [World.setCell] using heap_lt HS3.out) hb _ _)
  go_upto_region 6 with fail
  go_region_held3 (fun W => W.cell? ⟨o, 24, none⟩ = some (.int .i64 (k : Int)) ∧ W.cell? ⟨o, 25, none⟩ = some (.int .i64 (s.pred : Int))) (simp [*, World.cell?_setCell_other]) (fail)
  rename_i hheld
  clear hheld hne1 hne2 hne3 hne4 z1 z2 x24 x25 f3
  obtain ⟨w4, hw4⟩ : ∃ w4, w4 = ((w3.setCell ⟨o, 26 + k, none⟩ (.int .i64 (s.pred : Int))).setCell ⟨o, 34 + k, none⟩ (.int .i64 0)).drew := ⟨_, rfl⟩
  rw [← hw4]
  have hs4 : w4.heap[o]? = some (.cells (sopCells l { s with preds := s.preds.set k s.pred, succs := s.succs.set k 0 } ref found had code) 73 (0, 0)) := by rw [hw4]; exact HSa.out.1
  have hk4 : Keep B [] (some o) w3 w4 := by rw [hw4]; exact HKa.out.drew
  have HA4 := Lib.hid (HA3.out.keep hk4 rfl rfl (fun g cs t e h => by obtain rfl := only_type HS3.out e h; decide))
  have HT4 := Lib.hid (HT3.out.w.keep hk4 rfl rfl rfl (fun g cs t e h => by obtain rfl := only_type HS3.out e h; decide))
  have HK4 := Lib.hid (HK3.out.trans (hk4.more rfl))
  have HS4 := Lib.hid hs4
  clear hw4 hs4 hk4
  have x24 : w4.cell? ⟨o, 24, none⟩ = some (.int .i64 (k : Int)) := by rw [HK.out]; exact box_cells HS4.out 24 _ rfl
  have hkl : k = 0 := by rw [HK.out]; exact hl
  have e4 : s.level = k := HK.out.symm
  have HS5 := Lib.hid (show SopW w4 B o l { s with preds := s.preds.set s.level s.pred, succs := s.succs.set s.level 0 } from ⟨hb, ref, found, had, code, by have := HS4.out; rw [← e4] at this; exact this⟩)
  have HAR := Lib.hid (arr_any B o l a 0 H L N { s with preds := s.preds.set s.level s.pred, succs := s.succs.set s.level 0 } w4 HA4.out HT4.out HS5.out (HZ.out.keep HK4.out hB) hB (Nat.le_trans hBs HK4.out.size) hp1 hxl (fun h => absurd h (by omega)) hks)
  clear e4
  rw [hkl] at x24
  go_wp2_with fail
  refine HAR.out.mono ?_
  rintro e w5 ⟨H', L', N', s', d, rfl, hR, hA5, hT5, hS5, hk5⟩
  have HJ := Lib.hid (show SStepR B o l a (WStep H L N s 0) w (.returned (.bool d)) w5 from ⟨H', L', N', s', d, rfl, .arrive (.inl rfl) hl hR, hA5, hT5, hS5, HK4.out.trans hk5⟩)
  clear hR hA5 hT5 hS5 hk5
  go_wp2_with fail
  go_ret
  exact HJ.out

set_option maxRecDepth 100000 in
set_option maxHeartbeats 4000000 in
theorem swalk_arrx (B o l a : Nat) (H L : List Nat) (N : List Nod) (s : Sop) (P : Nod) (c x : Nat) (w : World) (hA : ArW w B a H L) (hT : LsW w B l a N) (hs : SopW w B o l s) (hz : TabW w) (hB : 0 < B) (hBs : B ≤ w.heap.size) (hp : SPre H L N s) (hks : isKey s.key = true) (hlv : s.level < 8) (hP : N[s.pred]? = some P) (hc : P.tower[s.level]? = some c) (hcl : c ∈ L) (hx : H[c]? = some x) (hxl : x < N.length) (X : Nod) (hx0 : 0 < x) (hX : N[x]? = some X) (hless : ¬ X.key < s.key) (hl : s.level = 0) (hp1 : SPre H L N { s with preds := s.preds.set s.level s.pred, succs := s.succs.set s.level x }) (hkx : isKey X.key = true) :
    Calls Tryd.prog 42 #[.pointer (some ⟨o, 0, none⟩)] w (SStepR B o l a (WStep H L N s x) w) := by
  have hxn : x < 100000 := by have := hp.nl; omega
  obtain ⟨nv, ps, hT⟩ := hT
  obtain ⟨g, cap, p, hnv, hcap, hpp, hN, hcell⟩ := hT.at hP
  obtain ⟨hb, ref, found, had, code, hh⟩ := hs
  have HQ := Lib.hid (sat_any B o l a s.pred p N s P nv ps w.drew (hT.keep (Keep.refl B [] none w).drew rfl rfl rfl (by simp)) ⟨hb, ref, found, had, code, hh⟩ hP hpp)
  have HF := Lib.hid (load_any B a c x H L w.drew (hA.keep (Keep.refl B [] none w).drew rfl rfl (by simp)) hcl hx)
  obtain ⟨k, hk⟩ : ∃ k, k = s.level := ⟨_, rfl⟩
  rw [← hk] at hlv hc
  have x0 := box_cells hh 0 (.pointer (some ⟨l, 0, none⟩)) rfl
  have x24 : w.cell? ⟨o, 24, none⟩ = some (.int .i64 (k : Int)) := by rw [hk]; exact box_cells hh 24 _ rfl
  have x25 := box_cells hh 25 (.int .i64 (s.pred : Int)) rfl
  have y0 := box_cells hT.1 0 (.pointer (some ⟨a, 0, none⟩)) rfl
  have yc := hN.cell hlv hc
  have i0 : (0 : Int) ≤ (k : Int) := by omega
  have i1 : (k : Int) < 8 := by omega
  have ux : IntKind.i64.wrap (x : Int) = (x : Int) := IntWalk.i64_in _ (by omega)
  have HH := Lib.hid hh; have HT := Lib.hid hT; have HN := Lib.hid hN; have HK := Lib.hid hk; have HC := Lib.hid hc; have HP := Lib.hid hp; have HZ := Lib.hid hz
  clear hh hT hN hA hk hc hP hpp hnv hcell hx hp hz
  go_enter Tryd.func42, Tryd.ntmps42
  go_upto_region 1 with fail
  go_region_held3 (fun W => W.cell? ⟨o, 0, none⟩ = some (.pointer (some ⟨l, 0, none⟩)) ∧ W.cell? ⟨o, 24, none⟩ = some (.int .i64 (k : Int)) ∧ W.cell? ⟨o, 25, none⟩ = some (.int .i64 (s.pred : Int)) ∧ W.cell? ⟨l, 0, none⟩ = some (.pointer (some ⟨a, 0, none⟩)) ∧ W.cell? ⟨p, 19 + k, none⟩ = some (.int .i64 (c : Int))) (simp [*]) (first
    | (go_at_call 56; refine HQ.out.mono ?_; rintro e w2 ⟨rfl, rfl⟩)
    | (go_at_call 19; refine HF.out.mono ?_; rintro e w2 ⟨rfl, hA2, hk2⟩; have hk3 : Keep B [51] none w w2 := (Keep.refl B [51] none w).drew.trans hk2; have hs2 := hk3.rest o _ 73 HH.out rfl (by simp); have hT2 := HT.out.keep hk3 rfl rfl rfl (by simp); have q0 := box_cells hs2 0 (.pointer (some ⟨l, 0, none⟩)) rfl; have q24 : w2.cell? ⟨o, 24, none⟩ = some (.int .i64 (k : Int)) := (by rw [HK.out]; exact box_cells hs2 24 _ rfl); have q25 := box_cells hs2 25 (.int .i64 (s.pred : Int)) rfl; have r0 := box_cells hT2.1 0 (.pointer (some ⟨a, 0, none⟩)) rfl; have rc := (HN.out.keep hk3 rfl (by simp)).cell hlv HC.out; have HA2 := Lib.hid hA2; have HS2 := Lib.hid hs2; have HT2 := Lib.hid hT2; have HK2 := Lib.hid hk3; clear hA2 hk2 hk3 hs2 hT2))
  clear x0 x24 x25 y0 yc q0 q24 q25 r0 rc
  obtain ⟨g3, cap3, px, hnv3, hcap3, hpx, hNx, hcell3⟩ := HT2.out.at hX
  have HQ2 := Lib.hid (fun q => sat_drew HT2.out (s := s) ⟨hb, ref, found, had, code, HS2.out⟩ hX hpx q)
  obtain ⟨hbx, h8x, refx, hhx⟩ := hNx
  have z2 := box_cells HS2.out 2 (.string (bs s.key)) rfl
  have z0 := box_cells hhx 0 (.string (bs X.key)) rfl
  have tx : (0 : Int) < (x : Int) := by omega
  have tl := less_is X.key s.key false (by simp [hless])
  have HX := Lib.hid hX
  clear hnv3 hcap3 hpx hcell3 hhx hX
  go_upto_region 3 with fail
  go_quiet ((go_at_call 56; exact Calls.quiet_of_same (HQ2.out _)))
  clear z2 z0
  obtain ⟨w3, hw3⟩ : ∃ w3, w3 = w2.drewN nq := ⟨_, rfl⟩
  rw [← hw3]
  have hk3 : Keep B [] none w2 w3 := by rw [hw3]; exact (Keep.refl B [] none w2).drewN _
  clear hw3
  have HA3 := Lib.hid (HA2.out.keep hk3 rfl rfl (by simp))
  have HT3 := Lib.hid (HT2.out.keep hk3 rfl rfl rfl (by simp))
  have HS3 := Lib.hid (hk3.rest o _ 73 HS2.out rfl (by simp))
  have HK3 := Lib.hid (show Keep B [51, 48, 61, 62] (some o) w w3 from (HK2.out.mono rfl).trans (hk3.mono rfl))
  clear hk3
  have x24 : w3.cell? ⟨o, 24, none⟩ = some (.int .i64 (k : Int)) := by rw [HK.out]; exact box_cells HS3.out 24 _ rfl
  have x25 := box_cells HS3.out 25 (.int .i64 (s.pred : Int)) rfl
  have f3 := froz_all HS3.out
  have hpk : s.preds[k]? = some (s.preds[k]'(by rw [HP.out.p8]; exact hlv)) := List.getElem?_eq_getElem _
  have hqk : s.succs[k]? = some (s.succs[k]'(by rw [HP.out.s8]; exact hlv)) := List.getElem?_eq_getElem _
  obtain ⟨vp, hvp⟩ : ∃ v, s.preds[k]? = some v := ⟨_, hpk⟩
  obtain ⟨vq, hvq⟩ : ∃ v, s.succs[k]? = some v := ⟨_, hqk⟩
  have z1 : w3.cell? ⟨o, 26 + k, none⟩ = some (.int .i64 (vp : Int)) := box_cells HS3.out (26 + k) _ (sop_preds_at hlv hvp)
  have z2 : w3.cell? ⟨o, 34 + k, none⟩ = some (.int .i64 (vq : Int)) := box_cells HS3.out (34 + k) _ (sop_succs_at hlv hvq)
  clear hpk hqk hvp hvq
  have hne1 : ∀ d, d < 26 → ¬ 26 + k = d := fun d hd => by omega
  have hne2 : ∀ d, d < 26 → ¬ 34 + k = d := fun d hd => by omega
  have hne3 : ¬ 26 + k = 34 + k := by omega
  have hne4 : ¬ 34 + k = 26 + k := by omega
  have HSa := Lib.hid (stored_two (o := o) (l := l) (s := s) (ref := ref) (found := found) (had := had) (code := code) HS3.out HP.out.p8 HP.out.s8 hlv s.pred x)
  have HKa := Lib.hid (show Keep B [] (some o) w3 ((w3.setCell ⟨o, 26 + k, none⟩ (.int .i64 (s.pred : Int))).setCell ⟨o, 34 + k, none⟩ (.int .i64 (x : Int))) from ((Keep.refl B [] (some o) w3).setOwn (heap_lt HS3.out) hb _ _).setOwn (by simpa [World.setCell] using heap_lt HS3.out) hb _ _)
  go_upto_region 6 with fail
  go_region_held3 (fun W => W.cell? ⟨o, 24, none⟩ = some (.int .i64 (k : Int)) ∧ W.cell? ⟨o, 25, none⟩ = some (.int .i64 (s.pred : Int))) (simp [*, World.cell?_setCell_other]) (fail)
  rename_i hheld
  clear hheld hne1 hne2 hne3 hne4 z1 z2 x24 x25 f3
  obtain ⟨w4, hw4⟩ : ∃ w4, w4 = ((w3.setCell ⟨o, 26 + k, none⟩ (.int .i64 (s.pred : Int))).setCell ⟨o, 34 + k, none⟩ (.int .i64 (x : Int))).drew := ⟨_, rfl⟩
  rw [← hw4]
  have hs4 : w4.heap[o]? = some (.cells (sopCells l { s with preds := s.preds.set k s.pred, succs := s.succs.set k x } ref found had code) 73 (0, 0)) := by rw [hw4]; exact HSa.out.1
  have hk4 : Keep B [] (some o) w3 w4 := by rw [hw4]; exact HKa.out.drew
  have HA4 := Lib.hid (HA3.out.keep hk4 rfl rfl (fun g cs t e h => by obtain rfl := only_type HS3.out e h; decide))
  have HT4 := Lib.hid (HT3.out.w.keep hk4 rfl rfl rfl (fun g cs t e h => by obtain rfl := only_type HS3.out e h; decide))
  have HK4 := Lib.hid (HK3.out.trans (hk4.more rfl))
  have HS4 := Lib.hid hs4
  clear hw4 hs4 hk4
  have x24 : w4.cell? ⟨o, 24, none⟩ = some (.int .i64 (k : Int)) := by rw [HK.out]; exact box_cells HS4.out 24 _ rfl
  have hkl : k = 0 := by rw [HK.out]; exact hl
  have e4 : s.level = k := HK.out.symm
  have HS5 := Lib.hid (show SopW w4 B o l { s with preds := s.preds.set s.level s.pred, succs := s.succs.set s.level x } from ⟨hb, ref, found, had, code, by have := HS4.out; rw [← e4] at this; exact this⟩)
  have HAR := Lib.hid (arr_any B o l a x H L N { s with preds := s.preds.set s.level s.pred, succs := s.succs.set s.level x } w4 HA4.out HT4.out HS5.out (HZ.out.keep HK4.out hB) hB (Nat.le_trans hBs HK4.out.size) hp1 hxl (fun _ Y hY => by have := HX.out; rw [this] at hY; rw [← Option.some.inj hY]; exact hkx) hks)
  clear e4
  rw [hkl] at x24
  go_wp2_with fail
  refine HAR.out.mono ?_
  rintro e w5 ⟨H', L', N', s', d, rfl, hR, hA5, hT5, hS5, hk5⟩
  have HJ := Lib.hid (show SStepR B o l a (WStep H L N s x) w (.returned (.bool d)) w5 from ⟨H', L', N', s', d, rfl, .arrive (.inr ⟨X, HX.out, hless⟩) hl hR, hA5, hT5, hS5, HK4.out.trans hk5⟩)
  clear hR hA5 hT5 hS5 hk5
  go_wp2_with fail
  go_ret
  exact HJ.out
end Go.Proofs.YtfolchpjccjadaaDoor
