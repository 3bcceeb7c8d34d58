/- The walk of the skip list's Step: what it hands on. -/
import Derived.Test.YtfolchpjccjadaaDoorTc
import Derived.Laws.EntriesVeiled
namespace Go.Proofs.YtfolchpjccjadaaDoor
open Go.RowKit
set_option linter.unusedVariables false
attribute [local go_sem] bs_list bs_size

set_option maxRecDepth 100000 in
set_option maxHeartbeats 1000000 in
theorem steps_any (w : World) : Calls Tryd.prog 35 #[] w fun e w' => e = .returned (.agg #[.func (.func 42) #[] #[], .func (.func 43) #[] #[], .func (.func 44) #[] #[]]) ∧ Below w.heap.size w w' := by
  go_enter Tryd.func35, Tryd.ntmps35
  go_wp2_with fail
  have h0 := heap_alloc_new w (.cells #[.func (.func 42) #[] #[], .func (.func 43) #[] #[], .func (.func 44) #[] #[]] 92)
  have q0 := box_cells h0 0 (.func (.func 42) #[] #[]) rfl
  have q1 := box_cells h0 1 (.func (.func 43) #[] #[]) rfl
  have q2 := box_cells h0 2 (.func (.func 44) #[] #[]) rfl
  refine bodyPost_ret (v := .agg #[.func (.func 42) #[] #[], .func (.func 43) #[] #[], .func (.func 44) #[] #[]]) (by simp [results, Tryd.results35, go_sem, q0, q1, q2]) rfl ?_
  exact ⟨rfl, (Below.refl _ _).alloc (Nat.le_refl _) _⟩

theorem idx0 (w : World) : (Instr.index 92 (.agg #[.func (.func 42) #[] #[], .func (.func 43) #[] #[], .func (.func 44) #[] #[]]) (.int .i64 0)).run Tryd.prog w = .ok (.func (.func 42) #[] #[]) w := by kernel_rfl
theorem idx1 (w : World) : (Instr.index 92 (.agg #[.func (.func 42) #[] #[], .func (.func 43) #[] #[], .func (.func 44) #[] #[]]) (.int .i64 1)).run Tryd.prog w = .ok (.func (.func 43) #[] #[]) w := by kernel_rfl
theorem idx2 (w : World) : (Instr.index 92 (.agg #[.func (.func 42) #[] #[], .func (.func 43) #[] #[], .func (.func 44) #[] #[]]) (.int .i64 2)).run Tryd.prog w = .ok (.func (.func 44) #[] #[]) w := by kernel_rfl

set_option maxRecDepth 100000 in
set_option maxHeartbeats 1000000 in
theorem sstep_refuse (B o l a : Nat) (H L : List Nat) (N : List Nod) (s : Sop) (w : World) (hA : ArW w B a H L) (hT : LsW w B l a N) (hs : SopW w B o l s) (hb0 : s.begun = false) (hdx : s.does ≤ 2) (hk : isKey s.key = false) (hkl : s.key.length ≤ 140737488355328) :
    Calls Tryd.prog 18 #[.pointer (some ⟨o, 0, none⟩)] w (SStepR B o l a (SStep H L N s) w) := by
  obtain ⟨hb, ref, found, had, code, hh⟩ := hs
  have x0 := box_cells hh 0 (.pointer (some ⟨l, 0, none⟩)) rfl
  have x22 := box_cells hh 22 (.int .i64 (s.does : Int)) rfl
  have x23 : w.cell? ⟨o, 23, none⟩ = some (.bool false) := by rw [← hb0]; exact box_cells hh 23 _ rfl
  have fz := froz_all hh
  have t3 : ((s.does : Int) == 3) = false := by rw [beq_eq_false_iff_ne]; omega
  have hs1 := set_at hh 23 (.bool true)
  obtain ⟨w1, hw1⟩ : ∃ w1, w1 = w.setCell ⟨o, 23, none⟩ (.bool true) := ⟨_, rfl⟩
  rw [← hw1] at hs1
  have hk1 : Keep B [] (some o) w w1 := by rw [hw1]; exact (Keep.refl B [] (some o) w).setOwn (heap_lt hh) hb 23 _
  have ot : ∀ g cs t, some o = some g → w.heap[g]? = some (.cells cs t (0, 0)) → t = 73 := fun g cs t e h => only_type hh e h
  have HA1 := Lib.hid (hA.keep hk1 rfl rfl (fun g cs t e h => by obtain rfl := ot g cs t e h; decide))
  have HT1 := Lib.hid (hT.keep hk1 rfl rfl rfl (fun g cs t e h => by obtain rfl := ot g cs t e h; decide))
  have HS1 := Lib.hid (show SopW w1 B o l { s with begun := true } from ⟨hb, ref, found, had, code, hs1⟩)
  have HH1 := Lib.hid hs1
  have HK1 := Lib.hid hk1
  have HW1 := Lib.hid hw1
  have HI := Lib.hid (skIsKey_any s.key w1 hkl)
  have HE := Lib.hid (sends_any B o l { s with begun := true } ByteArray.empty 0 false 100 w1 HS1.out)
  have HB0 := Lib.hid hb0
  have HKK := Lib.hid hk
  rw [hk] at HI
  clear hh hA hT hs1 hk1 hw1 ot hb0 hk
  go_enter Tryd.func18, Tryd.ntmps18
  go_upto_region 5 with fail
  rw [← HW1.out]
  clear x0 x22 x23 fz
  have x0 := box_cells HH1.out 0 (.pointer (some ⟨l, 0, none⟩)) rfl
  have x1 := box_cells HH1.out 1 (.int .i64 0) rfl
  have x2 := box_cells HH1.out 2 (.string (bs s.key)) rfl
  go_wp2_with fail
  refine HI.out.mono ?_
  rintro e w2 ⟨rfl, rfl⟩
  go_wp2_with fail
  refine HE.out.mono ?_
  rintro e w3 ⟨rfl, hs3, hk3⟩
  have ot : ∀ g cs t, some o = some g → w1.heap[g]? = some (.cells cs t (0, 0)) → t = 73 := fun g cs t e h => only_type HH1.out e h
  have HJ := Lib.hid (show SStepR B o l a (SStep H L N s) w (.returned (.bool true)) w3 from ⟨_, _, _, _, _, rfl, .refuse HB0.out HKK.out, HA1.out.keep hk3 rfl rfl (fun g cs t e h => by obtain rfl := ot g cs t e h; decide), HT1.out.keep hk3 rfl rfl rfl (fun g cs t e h => by obtain rfl := ot g cs t e h; decide), hs3, (HK1.out.more rfl).trans (hk3.more rfl)⟩)
  clear hs3 hk3 ot
  go_wp2_with fail
  go_ret
  exact HJ.out

set_option maxRecDepth 100000 in
set_option maxHeartbeats 1000000 in
theorem sstep_does0 (B o l a : Nat) (H L : List Nat) (N : List Nod) (s : Sop) (R : List Nat → List Nat → List Nod → Sop → Bool → Prop) (w : World) (hA : ArW w B a H L) (hT : LsW w B l a N) (hs : SopW w B o l s) (hBs : B ≤ w.heap.size) (hb0 : s.begun = true) (hd : s.does = 0)
    (hC : ∀ w', ArW w' B a H L → LsW w' B l a N → SopW w' B o l s → Keep B [] (some o) w w' → Calls Tryd.prog 42 #[.pointer (some ⟨o, 0, none⟩)] w' (SStepR B o l a R w')) :
    Calls Tryd.prog 18 #[.pointer (some ⟨o, 0, none⟩)] w (SStepR B o l a R w) := by
  obtain ⟨hb, ref, found, had, code, hh⟩ := hs
  have hh' := hh
  have x22 : w.cell? ⟨o, 22, none⟩ = some (.int .i64 0) := by have := box_cells hh 22 (intv s.does) rfl; rw [hd] at this; exact this
  have x23 : w.cell? ⟨o, 23, none⟩ = some (.bool true) := by rw [← hb0]; exact box_cells hh 23 _ rfl
  have HH1 := Lib.hid hh; have HA1 := Lib.hid hA; have HT1 := Lib.hid hT; have HSZ := Lib.hid hBs; have HD := Lib.hid hd
  have HK1 := Lib.hid (Keep.refl B [] (some o) w)
  clear hh hh' hA hT hBs hd
  go_enter Tryd.func18, Tryd.ntmps18
  go_upto_region 10 with fail
  have HST := Lib.hid (steps_any w.drew)
  have HC := Lib.hid hC
  have hidx := fun w => idx0 w
  clear hC
  go_region_law (first
    | (go_simp; go_at_call 35; refine HST.out.mono ?_; rintro e w5 ⟨rfl, hb5⟩; have hb5' : Below w.heap.size w w5 := ⟨hb5.os, hb5.tape, hb5.output, hb5.size, hb5.block⟩; have hk5 : Keep B [] none w w5 := Keep.of_below hb5' HSZ.out; have hs5 := hk5.rest o _ 73 HH1.out rfl (by simp); have q22 : w5.cell? ⟨o, 22, none⟩ = some (.int .i64 0) := (by have := box_cells hs5 22 (intv s.does) rfl; rw [HD.out] at this; exact this); have HA5 := Lib.hid (HA1.out.keep hk5 rfl rfl (by simp)); have HT5 := Lib.hid (HT1.out.keep hk5 rfl rfl rfl (by simp)); have HS5 := Lib.hid hs5; have HK5 := Lib.hid hk5; clear hb5 hb5' hk5 hs5)
    | (go_simp; go_at_call 42; refine (HC.out w5 HA5.out HT5.out ⟨hb, ref, found, had, code, HS5.out⟩ (HK1.out.trans (HK5.out.mono rfl))).mono ?_; rintro e w6 ⟨H', L', N', s', d, rfl, hR, hA6, hT6, hS6, hk6⟩; have HJ := Lib.hid (show SStepR B o l a R w (.returned (.bool d)) w6 from ⟨H', L', N', s', d, rfl, hR, hA6, hT6, hS6, ((HK1.out.trans (HK5.out.mono rfl)).more rfl).trans hk6⟩); clear hR hA6 hT6 hS6 hk6))
  all_goals
    go_wp2_with fail
    go_ret
    exact HJ.out

set_option maxRecDepth 100000 in
set_option maxHeartbeats 1000000 in
theorem sstep_does1 (B o l a : Nat) (H L : List Nat) (N : List Nod) (s : Sop) (R : List Nat → List Nat → List Nod → Sop → Bool → Prop) (w : World) (hA : ArW w B a H L) (hT : LsW w B l a N) (hs : SopW w B o l s) (hBs : B ≤ w.heap.size) (hb0 : s.begun = true) (hd : s.does = 1)
    (hC : ∀ w', ArW w' B a H L → LsW w' B l a N → SopW w' B o l s → Keep B [] (some o) w w' → Calls Tryd.prog 43 #[.pointer (some ⟨o, 0, none⟩)] w' (SStepR B o l a R w')) :
    Calls Tryd.prog 18 #[.pointer (some ⟨o, 0, none⟩)] w (SStepR B o l a R w) := by
  obtain ⟨hb, ref, found, had, code, hh⟩ := hs
  have hh' := hh
  have x22 : w.cell? ⟨o, 22, none⟩ = some (.int .i64 1) := by have := box_cells hh 22 (intv s.does) rfl; rw [hd] at this; exact this
  have x23 : w.cell? ⟨o, 23, none⟩ = some (.bool true) := by rw [← hb0]; exact box_cells hh 23 _ rfl
  have HH1 := Lib.hid hh; have HA1 := Lib.hid hA; have HT1 := Lib.hid hT; have HSZ := Lib.hid hBs; have HD := Lib.hid hd
  have HK1 := Lib.hid (Keep.refl B [] (some o) w)
  clear hh hh' hA hT hBs hd
  go_enter Tryd.func18, Tryd.ntmps18
  go_upto_region 10 with fail
  have HST := Lib.hid (steps_any w.drew)
  have HC := Lib.hid hC
  have hidx := fun w => idx1 w
  clear hC
  go_region_law (first
    | (go_simp; go_at_call 35; refine HST.out.mono ?_; rintro e w5 ⟨rfl, hb5⟩; have hb5' : Below w.heap.size w w5 := ⟨hb5.os, hb5.tape, hb5.output, hb5.size, hb5.block⟩; have hk5 : Keep B [] none w w5 := Keep.of_below hb5' HSZ.out; have hs5 := hk5.rest o _ 73 HH1.out rfl (by simp); have q22 : w5.cell? ⟨o, 22, none⟩ = some (.int .i64 1) := (by have := box_cells hs5 22 (intv s.does) rfl; rw [HD.out] at this; exact this); have HA5 := Lib.hid (HA1.out.keep hk5 rfl rfl (by simp)); have HT5 := Lib.hid (HT1.out.keep hk5 rfl rfl rfl (by simp)); have HS5 := Lib.hid hs5; have HK5 := Lib.hid hk5; clear hb5 hb5' hk5 hs5)
    | (go_simp; go_at_call 43; refine (HC.out w5 HA5.out HT5.out ⟨hb, ref, found, had, code, HS5.out⟩ (HK1.out.trans (HK5.out.mono rfl))).mono ?_; rintro e w6 ⟨H', L', N', s', d, rfl, hR, hA6, hT6, hS6, hk6⟩; have HJ := Lib.hid (show SStepR B o l a R w (.returned (.bool d)) w6 from ⟨H', L', N', s', d, rfl, hR, hA6, hT6, hS6, ((HK1.out.trans (HK5.out.mono rfl)).more rfl).trans hk6⟩); clear hR hA6 hT6 hS6 hk6))
  all_goals
    go_wp2_with fail
    go_ret
    exact HJ.out

set_option maxRecDepth 100000 in
set_option maxHeartbeats 1000000 in
theorem sstep_does2 (B o l a : Nat) (H L : List Nat) (N : List Nod) (s : Sop) (R : List Nat → List Nat → List Nod → Sop → Bool → Prop) (w : World) (hA : ArW w B a H L) (hT : LsW w B l a N) (hs : SopW w B o l s) (hBs : B ≤ w.heap.size) (hb0 : s.begun = true) (hd : s.does = 2)
    (hC : ∀ w', ArW w' B a H L → LsW w' B l a N → SopW w' B o l s → Keep B [] (some o) w w' → Calls Tryd.prog 44 #[.pointer (some ⟨o, 0, none⟩)] w' (SStepR B o l a R w')) :
    Calls Tryd.prog 18 #[.pointer (some ⟨o, 0, none⟩)] w (SStepR B o l a R w) := by
  obtain ⟨hb, ref, found, had, code, hh⟩ := hs
  have hh' := hh
  have x22 : w.cell? ⟨o, 22, none⟩ = some (.int .i64 2) := by have := box_cells hh 22 (intv s.does) rfl; rw [hd] at this; exact this
  have x23 : w.cell? ⟨o, 23, none⟩ = some (.bool true) := by rw [← hb0]; exact box_cells hh 23 _ rfl
  have HH1 := Lib.hid hh; have HA1 := Lib.hid hA; have HT1 := Lib.hid hT; have HSZ := Lib.hid hBs; have HD := Lib.hid hd
  have HK1 := Lib.hid (Keep.refl B [] (some o) w)
  clear hh hh' hA hT hBs hd
  go_enter Tryd.func18, Tryd.ntmps18
  go_upto_region 10 with fail
  have HST := Lib.hid (steps_any w.drew)
  have HC := Lib.hid hC
  have hidx := fun w => idx2 w
  clear hC
  go_region_law (first
    | (go_simp; go_at_call 35; refine HST.out.mono ?_; rintro e w5 ⟨rfl, hb5⟩; have hb5' : Below w.heap.size w w5 := ⟨hb5.os, hb5.tape, hb5.output, hb5.size, hb5.block⟩; have hk5 : Keep B [] none w w5 := Keep.of_below hb5' HSZ.out; have hs5 := hk5.rest o _ 73 HH1.out rfl (by simp); have q22 : w5.cell? ⟨o, 22, none⟩ = some (.int .i64 2) := (by have := box_cells hs5 22 (intv s.does) rfl; rw [HD.out] at this; exact this); have HA5 := Lib.hid (HA1.out.keep hk5 rfl rfl (by simp)); have HT5 := Lib.hid (HT1.out.keep hk5 rfl rfl rfl (by simp)); have HS5 := Lib.hid hs5; have HK5 := Lib.hid hk5; clear hb5 hb5' hk5 hs5)
    | (go_simp; go_at_call 44; refine (HC.out w5 HA5.out HT5.out ⟨hb, ref, found, had, code, HS5.out⟩ (HK1.out.trans (HK5.out.mono rfl))).mono ?_; rintro e w6 ⟨H', L', N', s', d, rfl, hR, hA6, hT6, hS6, hk6⟩; have HJ := Lib.hid (show SStepR B o l a R w (.returned (.bool d)) w6 from ⟨H', L', N', s', d, rfl, hR, hA6, hT6, hS6, ((HK1.out.trans (HK5.out.mono rfl)).more rfl).trans hk6⟩); clear hR hA6 hT6 hS6 hk6))
  all_goals
    go_wp2_with fail
    go_ret
    exact HJ.out

set_option maxRecDepth 100000 in
set_option maxHeartbeats 1000000 in
theorem sstep_fresh (B o l a : Nat) (H L : List Nat) (N : List Nod) (s : Sop) (R : List Nat → List Nat → List Nod → Sop → Bool → Prop) (w : World) (hA : ArW w B a H L) (hT : LsW w B l a N) (hs : SopW w B o l s) (hb0 : s.begun = false) (hdx : s.does ≤ 2) (hBs : B ≤ w.heap.size) (hk : isKey s.key = true) (hkl : s.key.length ≤ 140737488355328)
    (hC : ∀ w', ArW w' B a H L → LsW w' B l a N → SopW w' B o l s.start → Keep B [] (some o) w w' → Calls Tryd.prog 42 #[.pointer (some ⟨o, 0, none⟩)] w' (SStepR B o l a R w')) :
    Calls Tryd.prog 18 #[.pointer (some ⟨o, 0, none⟩)] w (SStepR B o l a R w) := by
  obtain ⟨hb, ref, found, had, code, hh⟩ := hs
  have x0 := box_cells hh 0 (.pointer (some ⟨l, 0, none⟩)) rfl
  have x22 := box_cells hh 22 (.int .i64 (s.does : Int)) rfl
  have x23 : w.cell? ⟨o, 23, none⟩ = some (.bool false) := by rw [← hb0]; exact box_cells hh 23 _ rfl
  have fz := froz_all hh
  have t3 : ((s.does : Int) == 3) = false := by rw [beq_eq_false_iff_ne]; omega
  have hs1 := set_at hh 23 (.bool true)
  obtain ⟨w1, hw1⟩ : ∃ w1, w1 = w.setCell ⟨o, 23, none⟩ (.bool true) := ⟨_, rfl⟩
  rw [← hw1] at hs1
  have hk1 : Keep B [] (some o) w w1 := by rw [hw1]; exact (Keep.refl B [] (some o) w).setOwn (heap_lt hh) hb 23 _
  have ot : ∀ g cs t, some o = some g → w.heap[g]? = some (.cells cs t (0, 0)) → t = 73 := fun g cs t e h => only_type hh e h
  have HA1 := Lib.hid (hA.keep hk1 rfl rfl (fun g cs t e h => by obtain rfl := ot g cs t e h; decide))
  have HT1 := Lib.hid (hT.keep hk1 rfl rfl rfl (fun g cs t e h => by obtain rfl := ot g cs t e h; decide))
  have HS1 := Lib.hid (show SopW w1 B o l { s with begun := true } from ⟨hb, ref, found, had, code, hs1⟩)
  have HH1 := Lib.hid hs1
  have HK1 := Lib.hid hk1
  have HW1 := Lib.hid hw1
  have HI := Lib.hid (skIsKey_any s.key w1 hkl)
  have HE := Lib.hid (again_any B o l { s with begun := true } w1 HS1.out)
  have HST0 := Lib.hid (start_fresh hb0)
  have HSZ1 := Lib.hid hBs
  clear hBs
  have HB0 := Lib.hid hb0
  have HKK := Lib.hid hk
  rw [hk] at HI
  clear hh hA hT hs1 hk1 hw1 ot hb0 hk
  go_enter Tryd.func18, Tryd.ntmps18
  go_upto_region 5 with fail
  rw [← HW1.out]
  clear x0 x22 x23 fz
  have x0 := box_cells HH1.out 0 (.pointer (some ⟨l, 0, none⟩)) rfl
  have x1 := box_cells HH1.out 1 (.int .i64 0) rfl
  have x2 := box_cells HH1.out 2 (.string (bs s.key)) rfl
  go_wp2_with fail
  refine HI.out.mono ?_
  rintro e w2 ⟨rfl, rfl⟩
  go_wp2_with fail
  refine HE.out.mono ?_
  rintro e w3 ⟨rfl, hs3, hk3⟩
  have ot : ∀ g cs t, some o = some g → w1.heap[g]? = some (.cells cs t (0, 0)) → t = 73 := fun g cs t e h => only_type HH1.out e h
  have HA1 := Lib.hid (HA1.out.keep hk3 rfl rfl (fun g cs t e h => by obtain rfl := ot g cs t e h; decide))
  have HT1 := Lib.hid (HT1.out.keep hk3 rfl rfl rfl (fun g cs t e h => by obtain rfl := ot g cs t e h; decide))
  have HK1 := Lib.hid (HK1.out.trans hk3)
  have HSZ := Lib.hid (show B ≤ w3.heap.size from Nat.le_trans HSZ1.out HK1.out.size)
  rw [show ({ s with begun := true } : Sop).again = s.start from by rw [HST0.out]; rfl] at hs3
  obtain ⟨hb3, ref, found, had, code, hh3⟩ := hs3
  have HD := Lib.hid (show s.start.does = 0 by rw [HST0.out])
  have HH1 := Lib.hid hh3
  have x22 : w3.cell? ⟨o, 22, none⟩ = some (.int .i64 0) := by have := box_cells hh3 22 (intv s.start.does) rfl; rw [HD.out] at this; exact this
  clear hh3 hk3 ot x0 x1 x2
  go_upto_region 10 with fail
  have HST := Lib.hid (steps_any w3.drew)
  have HC := Lib.hid hC
  have hidx := fun w => idx0 w
  clear hC
  go_region_law (first
    | (go_simp; go_at_call 35; refine HST.out.mono ?_; rintro e w5 ⟨rfl, hb5⟩; have hb5' : Below w3.heap.size w3 w5 := ⟨hb5.os, hb5.tape, hb5.output, hb5.size, hb5.block⟩; have hk5 : Keep B [] none w3 w5 := Keep.of_below hb5' HSZ.out; have hs5 := hk5.rest o _ 73 HH1.out rfl (by simp); have q22 : w5.cell? ⟨o, 22, none⟩ = some (.int .i64 0) := (by have := box_cells hs5 22 (intv s.start.does) rfl; rw [HD.out] at this; exact this); have HA5 := Lib.hid (HA1.out.keep hk5 rfl rfl (by simp)); have HT5 := Lib.hid (HT1.out.keep hk5 rfl rfl rfl (by simp)); have HS5 := Lib.hid hs5; have HK5 := Lib.hid hk5; clear hb5 hb5' hk5 hs5)
    | (go_simp; go_at_call 42; refine (HC.out w5 HA5.out HT5.out ⟨hb, ref, found, had, code, HS5.out⟩ (HK1.out.trans (HK5.out.mono rfl))).mono ?_; rintro e w6 ⟨H', L', N', s', d, rfl, hR, hA6, hT6, hS6, hk6⟩; have HJ := Lib.hid (show SStepR B o l a R w (.returned (.bool d)) w6 from ⟨H', L', N', s', d, rfl, hR, hA6, hT6, hS6, ((HK1.out.trans (HK5.out.mono rfl)).more rfl).trans hk6⟩); clear hR hA6 hT6 hS6 hk6))
  all_goals
    go_wp2_with fail
    go_ret
    exact HJ.out
end Go.Proofs.YtfolchpjccjadaaDoor
