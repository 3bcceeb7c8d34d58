/- The walk of the skip list's arrived, at a node. -/
import Derived.Test.YtfolchpjccjadaaDoorSz
namespace Go.Proofs.YtfolchpjccjadaaDoor
open Go.RowKit
set_option linter.unusedVariables false
attribute [local go_sem] bs_list bs_size

set_option maxRecDepth 100000 in
set_option maxHeartbeats 8000000 in
theorem arr_pos (B o l a n : Nat) (H L : List Nat) (N : List Nod) (s : Sop) (x : Nod) (w : World) (hA : ArW w B a H L) (hT : LsW w B l a N) (hs : SopW w B o l s) (hz : TabW w) (hB : 0 < B) (hBs : B ≤ w.heap.size) (hp : SPre H L N s) (hn : 0 < n) (hx : N[n]? = some x) (hkx : isKey x.key = true) (hks : isKey s.key = true)  :
    Calls Tryd.prog 57 #[.pointer (some ⟨o, 0, none⟩), .int .i64 (n : Int)] w (SStepR B o l a (Arr H L N s n) w) := by
  obtain ⟨nv, ps, hT⟩ := hT
  obtain ⟨A, ca, hnv⟩ := row_slice hT.2.2.2.1
  subst hnv
  obtain ⟨g, cap, pn, hnv, hcap, hpp, hN, hcell⟩ := hT.at hx
  have HQ := Lib.hid (sat_any B o l a n pn N s x (.slice A N.length ca) ps w.drew (hT.keep (Keep.refl B [] none w).drew rfl rfl rfl (by simp)) (hs.keep (Keep.refl B [] none w).drew rfl (by simp)) hx hpp)
  obtain ⟨hb, ref, found, had, code, hh⟩ := hs
  obtain ⟨hb2, ht8, rf, hh2⟩ := hN
  have x1 := box_cells hh 1 (.int .i64 0) rfl
  have r1 : w.rangeAt pn 1 [wv x.key 0, wv x.key 1, wv x.key 2, wv x.key 3, wv x.key 4, wv x.key 5, wv x.key 6, wv x.key 7, wv x.key 8, wv x.key 9, wv x.key 10, wv x.key 11, wv x.key 12, wv x.key 13, wv x.key 14, wv x.key 15, wv x.key 16] := word_range hh2 (k := x.key) nod_word
  have r3 : w.rangeAt o 3 [wv s.key 0, wv s.key 1, wv s.key 2, wv s.key 3, wv s.key 4, wv s.key 5, wv s.key 6, wv s.key 7, wv s.key 8, wv s.key 9, wv s.key 10, wv s.key 11, wv s.key 12, wv s.key 13, wv s.key 14, wv s.key 15, wv s.key 16] := word_range hh (k := s.key) sop_word
  have u64 := Tryd.underlying64
  have hi1 : (Tryd.prog.info? 64).map (·.size) = some ([wv x.key 0, wv x.key 1, wv x.key 2, wv x.key 3, wv x.key 4, wv x.key 5, wv x.key 6, wv x.key 7, wv x.key 8, wv x.key 9, wv x.key 10, wv x.key 11, wv x.key 12, wv x.key 13, wv x.key 14, wv x.key 15, wv x.key 16] : List Value).length := info64
  have hi2 : (Tryd.prog.info? 64).map (·.size) = some ([wv s.key 0, wv s.key 1, wv s.key 2, wv s.key 3, wv s.key 4, wv s.key 5, wv s.key 6, wv s.key 7, wv s.key 8, wv s.key 9, wv s.key 10, wv s.key 11, wv s.key 12, wv s.key 13, wv s.key 14, wv s.key 15, wv s.key 16] : List Value).length := info64
  have hq := fun w => key_is w x.key s.key
  unfold wordArr at hq
  obtain ⟨b, hbb⟩ : ∃ b : Bool, b = (wdB x.key == wdB s.key) := ⟨_, rfl⟩
  rw [← hbb] at hq
  have HNE := Lib.hid (show b = false → x.key ≠ s.key from fun e ek => by rw [hbb, ek] at e; simp at e)
  have HYE := Lib.hid (show b = true → x.key = s.key from fun e => wdB_inj hkx hks (by rw [hbb] at e; simpa using e))
  clear hbb
  have n1 : (0 : Int) < (n : Int) := by omega
  have HA := Lib.hid hA; have HT := Lib.hid hT; have HH := Lib.hid hh; have HX := Lib.hid hx; have HP := Lib.hid hp; have HPN := Lib.hid hpp; have HH2 := Lib.hid hh2; have HZ := Lib.hid hz
  clear hA hT hh hx hh2 hcell hnv hp hpp hz
  go_enter Tryd.func57, Tryd.ntmps57
  go_wp2_with fail
  have hS0 : (w.drew.cell? ⟨o, 1, none⟩ = some (.int .i64 0) ∧ w.drew.rangeAt pn 1 [wv x.key 0, wv x.key 1, wv x.key 2, wv x.key 3, wv x.key 4, wv x.key 5, wv x.key 6, wv x.key 7, wv x.key 8, wv x.key 9, wv x.key 10, wv x.key 11, wv x.key 12, wv x.key 13, wv x.key 14, wv x.key 15, wv x.key 16] ∧ w.drew.rangeAt o 3 [wv s.key 0, wv s.key 1, wv s.key 2, wv s.key 3, wv s.key 4, wv s.key 5, wv s.key 6, wv s.key 7, wv s.key 8, wv s.key 9, wv s.key 10, wv s.key 11, wv s.key 12, wv s.key 13, wv s.key 14, wv s.key 15, wv s.key 16]) := ⟨by simp [x1], (World.rangeAt_drew _ _ _ _).2 r1, (World.rangeAt_drew _ _ _ _).2 r3⟩
  have HS0 := Lib.hid hS0
  clear hS0
  refine wp_region_held_drew (S := fun W => W.cell? ⟨o, 1, none⟩ = some (.int .i64 0) ∧ W.rangeAt pn 1 [wv x.key 0, wv x.key 1, wv x.key 2, wv x.key 3, wv x.key 4, wv x.key 5, wv x.key 6, wv x.key 7, wv x.key 8, wv x.key 9, wv x.key 10, wv x.key 11, wv x.key 12, wv x.key 13, wv x.key 14, wv x.key 15, wv x.key 16] ∧ W.rangeAt o 3 [wv s.key 0, wv s.key 1, wv s.key 2, wv s.key 3, wv s.key 4, wv s.key 5, wv s.key 6, wv s.key 7, wv s.key 8, wv s.key 9, wv s.key 10, wv s.key 11, wv s.key 12, wv s.key 13, wv s.key 14, wv s.key 15, wv s.key 16]) (by kernel_rfl) HS0.out (fun hHeld => ?_)
  simp only [List.size_toArray, List.length_cons, List.length_nil, Nat.reduceAdd]
  refine' wpAnyH_take (i := 0) (v := _) (by simp only [List.getElem?_toArray, List.getElem?_cons_zero]; rfl) (by kernel_rfl) (by kernel_rfl) (by kernel_rfl) (by exact fun _ _ _ h => h) (Or.inl ⟨by rfl, ?_⟩) (by assumption) ?_
  rotate_left 1
  · intro w hSw; (try dsimp only at hSw); go_simp; try with_reducible rfl
  try simp only [Act.put, List.setIfInBounds_toArray, List.set_cons_zero, List.set_cons_succ]
  refine' wpAnyH_take (i := 1) (v := _) (by simp only [List.getElem?_toArray, List.getElem?_cons_succ, List.getElem?_cons_zero]; rfl) (by kernel_rfl) (by kernel_rfl) (by kernel_rfl) (by exact fun _ _ _ h => h) (Or.inl ⟨by rfl, ?_⟩) (by assumption) ?_
  rotate_left 1
  · intro w hSw; (try dsimp only at hSw); go_simp; try with_reducible rfl
  try simp only [Act.put, List.setIfInBounds_toArray, List.set_cons_zero, List.set_cons_succ]
  refine' wpAnyH_take (i := 2) (v := _) (by simp only [List.getElem?_toArray, List.getElem?_cons_succ, List.getElem?_cons_zero]; rfl) (by kernel_rfl) (by kernel_rfl) (by kernel_rfl) (by exact fun _ _ _ h => h) (Or.inl ⟨by rfl, ?_⟩) (by assumption) ?_
  rotate_left 1
  · intro w hSw; (try dsimp only at hSw); go_simp; try with_reducible rfl
  try simp only [Act.put, List.setIfInBounds_toArray, List.set_cons_zero, List.set_cons_succ]
  refine' wpAnyH_take (i := 3) (v := _) (by simp only [List.getElem?_toArray, List.getElem?_cons_succ, List.getElem?_cons_zero]; rfl) (by kernel_rfl) (by kernel_rfl) (by kernel_rfl) (by exact fun _ _ _ h => h) (Or.inl ⟨by rfl, ?_⟩) (by assumption) ?_
  rotate_left 1
  · intro w hSw; (try dsimp only at hSw); go_simp; try with_reducible rfl
  try simp only [Act.put, List.setIfInBounds_toArray, List.set_cons_zero, List.set_cons_succ]
  refine' wpAnyH_take (i := 4) (v := _) (by simp only [List.getElem?_toArray, List.getElem?_cons_succ, List.getElem?_cons_zero]; rfl) (by kernel_rfl) (by kernel_rfl) (by kernel_rfl) (by exact fun _ _ _ h => h) (Or.inl ⟨by rfl, ?_⟩) (by assumption) ?_
  rotate_left 1
  · intro w hSw; (try dsimp only at hSw); go_simp; try with_reducible rfl
  try simp only [Act.put, List.setIfInBounds_toArray, List.set_cons_zero, List.set_cons_succ]
  refine' wpAnyH_take (i := 5) (v := _) (by simp only [List.getElem?_toArray, List.getElem?_cons_succ, List.getElem?_cons_zero]; rfl) (by kernel_rfl) (by kernel_rfl) (by kernel_rfl) (by exact fun _ _ _ h => h) (Or.inl ⟨by rfl, ?_⟩) (by assumption) ?_
  rotate_left 1
  · intro w hSw; (try dsimp only at hSw); go_simp; try with_reducible rfl
  try simp only [Act.put, List.setIfInBounds_toArray, List.set_cons_zero, List.set_cons_succ]
  refine' wpAnyH_take (i := 6) (v := _) (by simp only [List.getElem?_toArray, List.getElem?_cons_succ, List.getElem?_cons_zero]; rfl) (by kernel_rfl) (by kernel_rfl) (by kernel_rfl) (by exact fun _ _ _ h => h) (Or.inl ⟨by rfl, ?_⟩) (by assumption) ?_
  rotate_left 1
  · intro w hSw; (try dsimp only at hSw); go_simp; try with_reducible rfl
  try simp only [Act.put, List.setIfInBounds_toArray, List.set_cons_zero, List.set_cons_succ]
  refine' wpAnyH_take (i := 7) (v := _) (by simp only [List.getElem?_toArray, List.getElem?_cons_succ, List.getElem?_cons_zero]; rfl) (by kernel_rfl) (by kernel_rfl) (by kernel_rfl) (by exact fun _ _ _ h => h) (Or.inl ⟨by rfl, ?_⟩) (by assumption) ?_
  rotate_left 1
  · intro w hSw; (try dsimp only at hSw); go_simp; try with_reducible rfl
  try simp only [Act.put, List.setIfInBounds_toArray, List.set_cons_zero, List.set_cons_succ]
  refine' wpAnyH_take (i := 8) (v := _) (by simp only [List.getElem?_toArray, List.getElem?_cons_succ, List.getElem?_cons_zero]; rfl) (by kernel_rfl) (by kernel_rfl) (by kernel_rfl) (by exact fun _ _ _ h => h) (Or.inl ⟨by rfl, ?_⟩) (by assumption) ?_
  rotate_left 1
  · intro w hSw; (try dsimp only at hSw); go_simp; try with_reducible rfl
  try simp only [Act.put, List.setIfInBounds_toArray, List.set_cons_zero, List.set_cons_succ]
  refine' wpAnyH_take (i := 9) (v := _) (by simp only [List.getElem?_toArray, List.getElem?_cons_succ, List.getElem?_cons_zero]; rfl) (by kernel_rfl) (by kernel_rfl) (by kernel_rfl) (by exact fun _ _ _ h => h) (Or.inl ⟨by rfl, ?_⟩) (by assumption) ?_
  rotate_left 1
  · intro w hSw; (try dsimp only at hSw); go_simp; try with_reducible rfl
  try simp only [Act.put, List.setIfInBounds_toArray, List.set_cons_zero, List.set_cons_succ]
  refine' wpAnyH_take (i := 10) (v := _) (by simp only [List.getElem?_toArray, List.getElem?_cons_succ, List.getElem?_cons_zero]; rfl) (by kernel_rfl) (by kernel_rfl) (by kernel_rfl) (by exact fun _ _ _ h => h) (Or.inl ⟨by rfl, ?_⟩) (by assumption) ?_
  rotate_left 1
  · intro w hSw; (try dsimp only at hSw); go_simp; try with_reducible rfl
  try simp only [Act.put, List.setIfInBounds_toArray, List.set_cons_zero, List.set_cons_succ]
  refine' wpAnyH_take (i := 11) (v := _) (by simp only [List.getElem?_toArray, List.getElem?_cons_succ, List.getElem?_cons_zero]; rfl) (by kernel_rfl) (by kernel_rfl) (by kernel_rfl) (by exact fun _ _ _ h => h) (Or.inl ⟨by rfl, ?_⟩) (by assumption) ?_
  rotate_left 1
  · intro w hSw; (try dsimp only at hSw); go_simp; try with_reducible rfl
  try simp only [Act.put, List.setIfInBounds_toArray, List.set_cons_zero, List.set_cons_succ]
  refine' wpAnyH_take (i := 16) (v := _) (by simp only [List.getElem?_toArray, List.getElem?_cons_succ, List.getElem?_cons_zero]; rfl) (by kernel_rfl) (by kernel_rfl) (by kernel_rfl) (by exact fun _ _ _ h => h) (Or.inl ⟨by rfl, ?_⟩) (by assumption) ?_
  rotate_left 1
  · intro w hSw; (try dsimp only at hSw); go_simp; try with_reducible rfl
  try simp only [Act.put, List.setIfInBounds_toArray, List.set_cons_zero, List.set_cons_succ]
  refine' wpAnyH_take (i := 17) (v := _) (by simp only [List.getElem?_toArray, List.getElem?_cons_succ, List.getElem?_cons_zero]; rfl) (by kernel_rfl) (by kernel_rfl) (by kernel_rfl) (by exact fun _ _ _ h => h) (Or.inl ⟨by rfl, ?_⟩) (by assumption) ?_
  rotate_left 1
  · intro w hSw; (try dsimp only at hSw); go_simp; try with_reducible rfl
  try simp only [Act.put, List.setIfInBounds_toArray, List.set_cons_zero, List.set_cons_succ]
  refine' wpAnyH_take (i := 18) (v := _) (by simp only [List.getElem?_toArray, List.getElem?_cons_succ, List.getElem?_cons_zero]; rfl) (by kernel_rfl) (by kernel_rfl) (by kernel_rfl) (by exact fun _ _ _ h => h) (Or.inl ⟨by rfl, ?_⟩) (by assumption) ?_
  rotate_left 1
  · intro w hSw; (try dsimp only at hSw); go_simp; try with_reducible rfl
  try simp only [Act.put, List.setIfInBounds_toArray, List.set_cons_zero, List.set_cons_succ]
  refine' wpAnyH_take (i := 19) (v := _) (by simp only [List.getElem?_toArray, List.getElem?_cons_succ, List.getElem?_cons_zero]; rfl) (by kernel_rfl) (by kernel_rfl) (by kernel_rfl) (by exact fun _ _ _ h => h) (yieldsIf_load_mid (by rfl) _ _ rfl _ _ rfl _ _ (fun w hSw => hSw.2.2) u64 rfl hi2) (by assumption) ?_
  try simp only [Act.put, List.setIfInBounds_toArray, List.set_cons_zero, List.set_cons_succ]
  refine wpAnyH_ready (rs := [12]) (by kernel_rfl) (by simp) ?_
  refine AllReadyH.cons (by simp only [List.getElem?_toArray, List.getElem?_cons_succ, List.getElem?_cons_zero]; rfl) (fun K hK => ?_) AllReadyH.nil
  go_simp
  refine HQ.out.mono ?_
  rintro e w3 ⟨rfl, rfl⟩
  refine hK.out _ _ HS0.out (fun hHeld => ?_)
  clear hK K
  try simp only [Act.put, List.setIfInBounds_toArray, List.set_cons_zero, List.set_cons_succ]
  refine' wpAnyH_take (i := 13) (v := _) (by simp only [List.getElem?_toArray, List.getElem?_cons_succ, List.getElem?_cons_zero]; rfl) (by kernel_rfl) (by kernel_rfl) (by kernel_rfl) (by exact fun _ _ _ h => h) (Or.inl ⟨by rfl, ?_⟩) (by assumption) ?_
  rotate_left 1
  · intro w hSw; (try dsimp only at hSw); go_simp; try with_reducible rfl
  try simp only [Act.put, List.setIfInBounds_toArray, List.set_cons_zero, List.set_cons_succ]
  refine' wpAnyH_take (i := 14) (v := _) (by simp only [List.getElem?_toArray, List.getElem?_cons_succ, List.getElem?_cons_zero]; rfl) (by kernel_rfl) (by kernel_rfl) (by kernel_rfl) (by exact fun _ _ _ h => h) (Or.inl ⟨by rfl, ?_⟩) (by assumption) ?_
  rotate_left 1
  · intro w hSw; (try dsimp only at hSw); go_simp; try with_reducible rfl
  try simp only [Act.put, List.setIfInBounds_toArray, List.set_cons_zero, List.set_cons_succ]
  refine' wpAnyH_take (i := 15) (v := _) (by simp only [List.getElem?_toArray, List.getElem?_cons_succ, List.getElem?_cons_zero]; rfl) (by kernel_rfl) (by kernel_rfl) (by kernel_rfl) (by exact fun _ _ _ h => h) (yieldsIf_load_mid (by rfl) _ _ rfl _ _ rfl _ _ (fun w hSw => hSw.2.1) u64 rfl hi1) (by assumption) ?_
  try simp only [Act.put, List.setIfInBounds_toArray, List.set_cons_zero, List.set_cons_succ]
  refine' wpAnyH_take (i := 20) (v := _) (by simp only [List.getElem?_toArray, List.getElem?_cons_succ, List.getElem?_cons_zero]; rfl) (by kernel_rfl) (by kernel_rfl) (by kernel_rfl) (by exact fun _ _ _ h => h) (Or.inl ⟨by rfl, ?_⟩) (by assumption) ?_
  rotate_left 1
  · intro w hSw; (try dsimp only at hSw); go_simp; try with_reducible rfl
  try simp only [Act.put, List.setIfInBounds_toArray, List.set_cons_zero, List.set_cons_succ]
  refine' wpAnyH_take (i := 21) (v := _) (by simp only [List.getElem?_toArray, List.getElem?_cons_succ, List.getElem?_cons_zero]; rfl) (by kernel_rfl) (by kernel_rfl) (by kernel_rfl) (by exact fun _ _ _ h => h) (Or.inl ⟨by rfl, ?_⟩) (by assumption) ?_
  rotate_left 1
  · intro w hSw; (try dsimp only at hSw); go_simp; try with_reducible rfl
  try simp only [Act.put, List.setIfInBounds_toArray, List.set_cons_zero, List.set_cons_succ]
  refine' wpAnyH_take (i := 22) (v := _) (by simp only [List.getElem?_toArray, List.getElem?_cons_succ, List.getElem?_cons_zero]; rfl) (by kernel_rfl) (by kernel_rfl) (by kernel_rfl) (by exact fun _ _ _ h => h) (Or.inl ⟨by rfl, ?_⟩) (by assumption) ?_
  rotate_left 1
  · intro w hSw; (try dsimp only at hSw); go_simp; try with_reducible rfl
  try simp only [Act.put, List.setIfInBounds_toArray, List.set_cons_zero, List.set_cons_succ]
  refine wpAnyH_done (by kernel_rfl) ?_ _
  clear hHeld r1 r3 hi1 hi2 hq HQ u64 HS0
  obtain ⟨w1, hw1⟩ : ∃ w1, w1 = w.drewN 1 := ⟨_, rfl⟩
  have hw1' : w1 = w.drew := hw1
  rw [← hw1']
  have HK1 := Lib.hid (show Keep B [] none w w1 by rw [hw1]; exact (Keep.refl B [] none w).drewN _)
  clear hw1 hw1' x1
  have HA1 := Lib.hid (HA.out.keep HK1.out rfl rfl (by simp))
  have HT1 := Lib.hid (HT.out.keep HK1.out rfl rfl rfl (by simp))
  have HH1 := Lib.hid (HK1.out.rest o _ 73 HH.out rfl (by simp))
  have HM1 := Lib.hid (HK1.out.rest pn _ 67 HH2.out rfl (by simp))
  have x1 := box_cells HH1.out 1 (.int .i64 0) rfl
  have x42 := box_cells HH1.out 42 (.int .i64 (s.own : Int)) rfl

  cases b with
  | true =>
    by_cases hno : n = s.own
    · have HNO := Lib.hid hno
      have ho : 0 < s.own := by omega
      have t1 : ((n : Int) == (s.own : Int)) = true := by rw [beq_iff_eq]; omega
      have t2 : ((n : Int) != (s.own : Int)) = false := by simp [bne, t1]
      clear hno
      have n0 : ((s.own : Int) == 0) = false := by rw [beq_eq_false_iff_ne]; omega
      have n1 : ¬ s.own = 0 := by omega
      have x22 := box_cells HH1.out 22 (.int .i64 (s.does : Int)) rfl
      have fz := froz_all HH1.out
      have h2 := set_at HH1.out 22 (.int .i64 1)
      have hke : Keep B [] (some o) w1 (w1.setCell ⟨o, 22, none⟩ (.int .i64 1)) := (Keep.refl B [] (some o) w1).setOwn (heap_lt HH1.out) hb 22 _
      have HJ := Lib.hid (show SStepR B o l a (Arr H L N s n) w (.returned (.bool false)) _ from ⟨_, _, _, _, _, rfl, .keep (.inr (.inl HNO.out)) ho, HA1.out.keep hke rfl rfl (fun g cs t e h => by obtain rfl := only_type HH1.out e h; decide), HT1.out.w.keep hke rfl rfl rfl (fun g cs t e h => by obtain rfl := only_type HH1.out e h; decide), ⟨hb, ref, found, had, code, h2⟩, (HK1.out.mono rfl).trans (hke.more rfl)⟩)
      clear h2 hke
      go_wp2_with fail
      go_ret
      exact HJ.out
    · have HNO := Lib.hid hno
      have t1 : ((n : Int) == (s.own : Int)) = false := by rw [beq_eq_false_iff_ne]; omega
      have t2 : ((n : Int) != (s.own : Int)) = true := by simp [bne, t1]
      have HKE := Lib.hid (HYE.out rfl)
      clear hno
      rcases Nat.eq_zero_or_pos s.own with ho | ho
      · have HO := Lib.hid ho
        rw [ho] at x42 t1 t2
        clear ho
        have HQ2 := Lib.hid (sat_any B o l a n pn N s x (.slice A N.length ca) ps w1.drew (HT1.out.keep (Keep.refl B [] none w1).drew rfl rfl rfl (by simp)) ⟨hb, ref, found, had, code, HH1.out⟩ HX.out HPN.out)
        have HE := Lib.hid (sends_any B o l s (bs s.key) rf true 0 w1.drew ⟨hb, ref, found, had, code, HH1.out⟩)
        have x2 := box_cells HH1.out 2 (.string (bs s.key)) rfl
        have y18 := box_cells HM1.out 18 (.int .i64 rf) rfl
        go_upto_region 10 with fail
        go_region_held3 (fun W => W.cell? ⟨o, 2, none⟩ = some (.string (bs s.key)) ∧ W.cell? ⟨pn, 18, none⟩ = some (.int .i64 rf)) (simp [*]) (first
          | (go_at_call 56; refine HQ2.out.mono ?_; rintro e w9 ⟨rfl, rfl⟩)
          | (go_at_call 32; refine HE.out.mono ?_; rintro e w9 ⟨rfl, hs2, hk2⟩; (obtain ⟨hb3, ref3, found3, had3, code3, hh3⟩ := hs2); have q2 := box_cells hh3 2 (.string (bs s.key)) rfl; have hm3 := hk2.rest pn _ 67 HM1.out rfl (by intro e; have e := Option.some.inj e; subst e; have := HM1.out; rw [HH1.out] at this; injection this with this; injection this with _ this _; cases this); have q18 := box_cells hm3 18 (.int .i64 rf) rfl; have HS2 := Lib.hid hh3; have HK2 := Lib.hid hk2; clear hh3 hm3 hk2))
        have HJ := Lib.hid (show SStepR B o l a (Arr H L N s n) w (.returned (.bool true)) w9 from ⟨_, _, _, _, _, rfl, .hit0 x hn HX.out HKE.out HNO.out HO.out, HA1.out.keep ((Keep.refl B [] (some o) w1).drew.trans HK2.out) rfl rfl (fun g cs t e h => by obtain rfl := only_type HH1.out e h; decide), HT1.out.w.keep ((Keep.refl B [] (some o) w1).drew.trans HK2.out) rfl rfl rfl (fun g cs t e h => by obtain rfl := only_type HH1.out e h; decide), ⟨hb3, ref3, found3, had3, code3, HS2.out⟩, (HK1.out.mono rfl).trans (((Keep.refl B [] (some o) w1).drew.trans HK2.out).more rfl)⟩)
        go_wp2_with fail
        go_ret
        exact HJ.out
      ·
        have n0 : ((s.own : Int) == 0) = false := by rw [beq_eq_false_iff_ne]; omega
        have n3 : (0 : Int) < (s.own : Int) := by omega
        obtain ⟨y, hy, hy8, hynd, hyL⟩ := HP.out.own ho
        obtain ⟨g2, cap2, po, hnv2, hcap2, hpo, hNo, hcell2⟩ := HT1.out.at hy
        clear hnv2 hcap2 hcell2
        have HQ3 := Lib.hid (sat_any B o l a s.own po N s y (.slice A N.length ca) ps w1.drew (HT1.out.keep (Keep.refl B [] none w1).drew rfl rfl rfl (by simp)) ⟨hb, ref, found, had, code, HH1.out⟩ hy hpo)
        have HF := Lib.hid (fell_any B l a po H L y (.slice A N.length ca) w1.drew (HA1.out.keep (Keep.refl B [] none w1).drew rfl rfl (by simp)) HT1.out.1 (hNo.keep (Keep.refl B [] none w1).drew rfl (by simp)) hy8 hynd hyL)
        have HY := Lib.hid hy
        have x0 := box_cells HH1.out 0 (.pointer (some ⟨l, 0, none⟩)) rfl
        clear hy hy8 hynd hyL hpo hNo
        go_upto_region 9 with fail
        go_region_held3 (fun W => W.cell? ⟨o, 0, none⟩ = some (.pointer (some ⟨l, 0, none⟩)) ∧ W.cell? ⟨o, 42, none⟩ = some (.int .i64 (s.own : Int))) (simp [*]) (first
          | (go_at_call 56; refine HQ3.out.mono ?_; rintro e w2 ⟨rfl, rfl⟩)
          | (go_at_call 24; refine HF.out.mono ?_; rintro e w2 ⟨rfl, hA2, hk2⟩; have hk3 : Keep B [51] none w1 w2 := (Keep.refl B [51] none w1).drew.trans hk2; have hs2 := hk3.rest o _ 73 HH1.out rfl (by simp); have q0 := box_cells hs2 0 (.pointer (some ⟨l, 0, none⟩)) rfl; have q42 := box_cells hs2 42 (.int .i64 (s.own : Int)) rfl; have HA2 := Lib.hid hA2; have HH2' := Lib.hid hs2; have HKA := Lib.hid hk3; clear hA2 hk2 hk3 hs2))
        have HH3 := Lib.hid HH2'.out
        have HA3 := Lib.hid HA2.out
        have HT3 := Lib.hid (HT1.out.keep HKA.out rfl rfl rfl (by simp))
        have HM3 := Lib.hid (HKA.out.rest pn _ 67 HM1.out rfl (by simp))
        have HK3 := Lib.hid (show Keep B [51] none w w2 from (HK1.out.mono rfl).trans HKA.out)
        have x1 := box_cells HH3.out 1 (.int .i64 0) rfl
        have x42 := box_cells HH3.out 42 (.int .i64 (s.own : Int)) rfl
        clear x0 q0 q42
        have HQ2 := Lib.hid (sat_any B o l a n pn N s x (.slice A N.length ca) ps w2.drew (HT3.out.keep (Keep.refl B [] none w2).drew rfl rfl rfl (by simp)) ⟨hb, ref, found, had, code, HH3.out⟩ HX.out HPN.out)
        have HE := Lib.hid (sends_any B o l s (bs s.key) rf true 0 w2.drew ⟨hb, ref, found, had, code, HH3.out⟩)
        have x2 := box_cells HH3.out 2 (.string (bs s.key)) rfl
        have y18 := box_cells HM3.out 18 (.int .i64 rf) rfl
        go_upto_region 10 with fail
        go_region_held3 (fun W => W.cell? ⟨o, 2, none⟩ = some (.string (bs s.key)) ∧ W.cell? ⟨pn, 18, none⟩ = some (.int .i64 rf)) (simp [*]) (first
          | (go_at_call 56; refine HQ2.out.mono ?_; rintro e w9 ⟨rfl, rfl⟩)
          | (go_at_call 32; refine HE.out.mono ?_; rintro e w9 ⟨rfl, hs2, hk2⟩; (obtain ⟨hb3, ref3, found3, had3, code3, hh3⟩ := hs2); have q2 := box_cells hh3 2 (.string (bs s.key)) rfl; have hm3 := hk2.rest pn _ 67 HM3.out rfl (by intro e; have e := Option.some.inj e; subst e; have := HM3.out; rw [HH3.out] at this; injection this with this; injection this with _ this _; cases this); have q18 := box_cells hm3 18 (.int .i64 rf) rfl; have HS2 := Lib.hid hh3; have HK2 := Lib.hid hk2; clear hh3 hm3 hk2))
        have HJ := Lib.hid (show SStepR B o l a (Arr H L N s n) w (.returned (.bool true)) w9 from ⟨_, _, _, _, _, rfl, .hit1 x y hn HX.out HKE.out HNO.out ho HY.out, HA3.out.keep ((Keep.refl B [] (some o) w2).drew.trans HK2.out) rfl rfl (fun g cs t e h => by obtain rfl := only_type HH3.out e h; decide), HT3.out.w.keep ((Keep.refl B [] (some o) w2).drew.trans HK2.out) rfl rfl rfl (fun g cs t e h => by obtain rfl := only_type HH3.out e h; decide), ⟨hb3, ref3, found3, had3, code3, HS2.out⟩, (HK3.out.mono rfl).trans (((Keep.refl B [] (some o) w2).drew.trans HK2.out).more rfl)⟩)
        go_wp2_with fail
        go_ret
        exact HJ.out
  | false =>
    have HNK := Lib.hid (HNE.out rfl)
    clear HNE HYE
    rcases Nat.eq_zero_or_pos s.own with ho | ho
    · have HO := Lib.hid ho
      rw [ho] at x42
      have x2 := box_cells HH1.out 2 (.string (bs s.key)) rfl
      have x20 := box_cells HH1.out 20 (.int .i64 ref) rfl
      have x21 := box_cells HH1.out 21 (.int .i64 (s.height : Int)) rfl
      have r3 : w1.rangeAt o 3 [wv s.key 0, wv s.key 1, wv s.key 2, wv s.key 3, wv s.key 4, wv s.key 5, wv s.key 6, wv s.key 7, wv s.key 8, wv s.key 9, wv s.key 10, wv s.key 11, wv s.key 12, wv s.key 13, wv s.key 14, wv s.key 15, wv s.key 16] := word_range HH1.out (k := s.key) sop_word
      have u64 := Tryd.underlying64
      have hi2 : (Tryd.prog.info? 64).map (·.size) = some ([wv s.key 0, wv s.key 1, wv s.key 2, wv s.key 3, wv s.key 4, wv s.key 5, wv s.key 6, wv s.key 7, wv s.key 8, wv s.key 9, wv s.key 10, wv s.key 11, wv s.key 12, wv s.key 13, wv s.key 14, wv s.key 15, wv s.key 16] : List Value).length := info64
      clear ho
      go_upto_region 12 with fail
      go_region_held3 (fun W => W.cell? ⟨o, 2, none⟩ = some (.string (bs s.key)) ∧ W.rangeAt o 3 [wv s.key 0, wv s.key 1, wv s.key 2, wv s.key 3, wv s.key 4, wv s.key 5, wv s.key 6, wv s.key 7, wv s.key 8, wv s.key 9, wv s.key 10, wv s.key 11, wv s.key 12, wv s.key 13, wv s.key 14, wv s.key 15, wv s.key 16] ∧ W.cell? ⟨o, 20, none⟩ = some (.int .i64 ref) ∧ W.cell? ⟨o, 21, none⟩ = some (.int .i64 (s.height : Int))) (refine ⟨?_, ?_, ?_, ?_⟩ <;> first | (simp [x2, x20, x21, World.cell?_alloc_some]; done) | (simp only [World.rangeAt_drew]; first | exact r3 | (apply World.rangeAt_alloc; exact r3))) (fail)
      rename_i hheld
      clear hheld
      obtain ⟨w2, hw2⟩ : ∃ w2, w2 = (w1.alloc (.cells #[.string (bs s.key), wv s.key 0, wv s.key 1, wv s.key 2, wv s.key 3, wv s.key 4, wv s.key 5, wv s.key 6, wv s.key 7, wv s.key 8, wv s.key 9, wv s.key 10, wv s.key 11, wv s.key 12, wv s.key 13, wv s.key 14, wv s.key 15, wv s.key 16, .int .i64 ref, .int .i64 0, .int .i64 0, .int .i64 0, .int .i64 0, .int .i64 0, .int .i64 0, .int .i64 0, .int .i64 0, .int .i64 (s.height : Int)] 67)).drew := ⟨_, rfl⟩
      obtain ⟨p, hpp⟩ : ∃ p, p = w1.heap.size := ⟨_, rfl⟩
      rw [← hw2, ← hpp]
      have hb2 : Below w1.heap.size w1 w2 := by rw [hw2]; exact ((Below.refl _ _).alloc (Nat.le_refl _) _).drew
      have hBp : B ≤ p := by rw [hpp]; exact Nat.le_trans hBs HK1.out.size
      have hk2 : Keep B [] none w1 w2 := Keep.of_below hb2 (by omega)
      have hn2 : w2.heap[p]? = some (.cells (nodCells ⟨s.key, List.replicate 8 0, s.height⟩ ref) 67 (0, 0)) := by rw [hw2, hpp, nod_new]; exact heap_new_drew w1 _
      have HH2 := Lib.hid (hk2.rest o _ 73 HH1.out rfl (by simp))
      have HT2 := Lib.hid (HT1.out.keep hk2 rfl rfl rfl (by simp))
      have HA2 := Lib.hid (HA1.out.keep hk2 rfl rfl (by simp))
      have HBP := Lib.hid hBp
      have HK2 := Lib.hid hk2
      have HG := Lib.hid (grow_any B l a p H L s.key s.height ref (.slice A N.length ca) w2 HA2.out ((HZ.out.keep HK1.out hB).keep hk2 hB) hB (Nat.le_trans (Nat.le_trans hBs HK1.out.size) hk2.size) HP.out.ll HT2.out.1 hBp hn2 HP.out.h8)
      have hpo : p ≠ o := fun e => by have := heap_lt HH1.out; omega
      have HPL := Lib.hid (show w1.heap.size ≤ p from by rw [hpp]; exact Nat.le_refl _)
      have HPX := Lib.hid (show w.heap.size ≤ p from by rw [hpp]; exact HK1.out.size)
      have HPO := Lib.hid hpo
      clear hb2 hBp hk2 hn2 hw2 hpp hpo x1 x2 x20 x21 x42 r3
      have x0 := box_cells HH2.out 0 (.pointer (some ⟨l, 0, none⟩)) rfl
      go_wp2_with fail
      refine HG.out.mono ?_
      rintro e w3 ⟨rfl, cs, H', L', hgr, hA3, hn3, hk3⟩
      have hK13 : Keep B [51, 48] none w1 w3 := Keep.fresh (HK2.out.mono rfl) hk3 (by have := HPL.out; omega)
      have hs3 := hK13.rest o _ 73 HH1.out rfl (by simp)
      have hT3 := HT1.out.keep hK13 rfl rfl rfl (by simp)
      have hx3 : NodW w3 B p ⟨s.key, cs ++ List.replicate (8 - s.height) 0, s.height⟩ := ⟨HBP.out, by rw [List.length_append, List.length_replicate, hgr.len.1]; have := HP.out.h8; omega, ref, hn3⟩
      have HK13 := Lib.hid hK13
      have HA3 := Lib.hid hA3
      have HGR := Lib.hid hgr
      clear hK13 hk3 hn3 hA3 hgr x0
      -- its number
      have hs4 := set_at hs3 42 (.int .i64 (N.length : Int))
      obtain ⟨w4, hw4⟩ : ∃ w4, w4 = w3.setCell ⟨o, 42, none⟩ (.int .i64 (N.length : Int)) := ⟨_, rfl⟩
      have hk4 : Keep B [] (some o) w3 w4 := by rw [hw4]; exact (Keep.refl B [] (some o) w3).setOwn (heap_lt hs3) hb 42 _
      rw [← hw4] at hs4
      have ot : ∀ g cs t, some o = some g → w3.heap[g]? = some (.cells cs t (0, 0)) → t = 73 := fun g cs t e h => only_type hs3 e h
      have hT4 := hT3.keep hk4 rfl rfl rfl (fun g cs t e h => by obtain rfl := ot g cs t e h; decide)
      have HX4 := Lib.hid (hx3.keep hk4 rfl (fun g cs t e h => by obtain rfl := ot g cs t e h; decide))
      have HA4 := Lib.hid (HA3.out.keep hk4 rfl rfl (fun g cs t e h => by obtain rfl := ot g cs t e h; decide))
      have HS4 := Lib.hid hs4
      have HT4 := Lib.hid hT4
      have HK4 := Lib.hid hk4
      have HW4 := Lib.hid hw4
      have x0 := box_cells hs3 0 (.pointer (some ⟨l, 0, none⟩)) rfl
      have x42 := box_cells hs3 42 (.int .i64 (s.own : Int)) rfl
      have f3 := froz_all hs3
      have y1 := box_cells hT3.1 1 (.slice A N.length ca) rfl
      clear hs3 hT3 hx3 hs4 hT4 hk4 hw4 ot
      go_upto_region 17 with fail
      rw [← HW4.out]
      clear x0 x42 f3 y1
      have hB4 : B ≤ w4.heap.size := Nat.le_trans (Nat.le_trans (Nat.le_trans hBs HK1.out.size) HK13.out.size) HK4.out.size
      obtain ⟨w5, hw5⟩ : ∃ w5, w5 = (w4.alloc (.cells #[.pointer (some ⟨p, 0, none⟩)] 62)).drew := ⟨_, rfl⟩
      have hb5 : Below w4.heap.size w4 w5 := by rw [hw5]; exact ((Below.refl _ _).alloc (Nat.le_refl _) _).drew
      have hk5 : Keep B [] none w4 w5 := Keep.of_below hb5 hB4
      have hn5 : w5.heap[w4.heap.size]? = some (.cells #[.pointer (some ⟨p, 0, none⟩)] 62 (0, 0)) := by rw [hw5]; exact heap_new_drew w4 _
      have hs5 := hk5.rest o _ 73 HS4.out rfl (by simp)
      have hT5 := HT4.out.keep hk5 rfl rfl rfl (by simp)
      have hr5 := hT5.2.2.2.1
      have HX5 := Lib.hid (HX4.out.keep hk5 rfl (by simp))
      have x0 := box_cells HS4.out 0 (.pointer (some ⟨l, 0, none⟩)) rfl
      have y1 := box_cells HT4.out.1 1 (.slice A N.length ca) rfl
      have x0b : (w4.alloc (.cells #[.pointer (some ⟨p, 0, none⟩)] 62)).cell? ⟨o, 0, none⟩ = some (.pointer (some ⟨l, 0, none⟩)) := by
        have := box_cells hs5 0 (.pointer (some ⟨l, 0, none⟩)) rfl
        rw [hw5] at this
        exact this
      have y1b : (w4.alloc (.cells #[.pointer (some ⟨p, 0, none⟩)] 62)).cell? ⟨l, 1, none⟩ = some (.slice A N.length ca) := by
        have := box_cells hT5.1 1 (.slice A N.length ca) rfl
        rw [hw5] at this
        exact this
      have hB5 : B ≤ w5.heap.size := Nat.le_trans hB4 hk5.size
      have HW5 := Lib.hid hw5; have HS5 := Lib.hid hs5; have HT5 := Lib.hid hT5; have HR5 := Lib.hid hr5; have HN5 := Lib.hid hn5; have HK5 := Lib.hid hk5
      clear hw5 hs5 hT5 hr5 hn5 hk5 hb5
      have hnl := HP.out.nl
      go_region_law ((refine step_one B w4.heap.size 59 62 1 8 (.pointer none) (by kernel_rfl) info62 rfl (by decide) (by rfl) _ _ (by rfl) (.slice A N.length ca) N.length (ps.map ptrv) #[.pointer (some ⟨p, 0, none⟩)] rfl (by intro u hu; simp at hu; subst hu; rfl) (by rfl) (by rfl) (by rw [← HW5.out]; exact HR5.out) (by rw [← HW5.out]; exact HN5.out) (by rw [← HW5.out]; exact hB5) (by omega) (by omega) ?_; rw [← HW5.out]; intro v1 w6 ho6 hb6 hg6 hat6; obtain ⟨A1, c1, hv1⟩ := row_slice ho6; subst hv1; have hT6 := heap_kept HT5.out.1 hg6 (row_off HR5.out HT5.out.1 (by decide)); have hs6 := heap_kept HS5.out hg6 (row_off HR5.out HS5.out (by decide)); have hl6 : w6.heap[l]? = some (.cells #[.pointer (some ⟨a, 0, none⟩), .slice A N.length ca] 61 (0, 0)) := hT6; have hse := node_end HT5.out HX5.out hB5 hl6 ho6 hg6; have hs7 := hse.2.rest o _ 73 HS5.out rfl (by simp); have HE := Lib.hid hse; have f7 := froz_all hs7; have q22 := box_cells hs7 22 (.int .i64 (s.does : Int)) rfl; have HS7 := Lib.hid hs7; clear hse hs7 hl6; have f6 := froz_all hT6; have q1 := box_cells hT6 1 (.slice A N.length ca) rfl; have q0 := box_cells hs6 0 (.pointer (some ⟨l, 0, none⟩)) rfl; have HT6 := Lib.hid hT6; have HO6 := Lib.hid ho6; have HG6 := Lib.hid hg6; clear hT6 hs6 ho6 hg6 hat6 hb6))
      all_goals
        have HJ := Lib.hid (make_end hb (.inr ⟨x, HX.out, HNK.out⟩) HO.out HGR.out HK1.out HK13.out HK4.out HK5.out HE.out.2 HA4.out HE.out.1 HS7.out)
        go_wp2_with fail
        go_ret
        exact HJ.out
    · have n0 : ((s.own : Int) == 0) = false := by rw [beq_eq_false_iff_ne]; omega
      have n1 : ¬ s.own = 0 := by omega
      have x22 := box_cells HH1.out 22 (.int .i64 (s.does : Int)) rfl
      have fz := froz_all HH1.out
      have h2 := set_at HH1.out 22 (.int .i64 1)
      have hke : Keep B [] (some o) w1 (w1.setCell ⟨o, 22, none⟩ (.int .i64 1)) := (Keep.refl B [] (some o) w1).setOwn (heap_lt HH1.out) hb 22 _
      have HJ := Lib.hid (show SStepR B o l a (Arr H L N s n) w (.returned (.bool false)) _ from ⟨_, _, _, _, _, rfl, .keep (.inr (.inr ⟨x, HX.out, HNK.out⟩)) ho, HA1.out.keep hke rfl rfl (fun g cs t e h => by obtain rfl := only_type HH1.out e h; decide), HT1.out.w.keep hke rfl rfl rfl (fun g cs t e h => by obtain rfl := only_type HH1.out e h; decide), ⟨hb, ref, found, had, code, h2⟩, (HK1.out.mono rfl).trans (hke.more rfl)⟩)
      clear h2 hke
      go_wp2_with fail
      go_ret
      exact HJ.out
end Go.Proofs.YtfolchpjccjadaaDoor
