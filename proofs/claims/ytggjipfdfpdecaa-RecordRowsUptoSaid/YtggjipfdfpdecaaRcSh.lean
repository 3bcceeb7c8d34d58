/- The walk of varvelaw06's shown: the document's examples. -/
import Derived.Test.YtggjipfdfpdecaaRcN
import Derived.Test.YtggjipfdfpdecaaRcMf
import Derived.Test.YtggjipfdfpdecaaRcZ
import Derived.Test.YtggjipfdfpdecaaRcPc
set_option linter.unusedVariables false
namespace Go.Proofs.Ytggjipfdfpdecaa
open Go.RowKit
attribute [local go_sem] bs_list bs_size

/-- Four bytes of the program's text, laid as a slice. -/
theorem laid_rd (w : World) (l : List UInt8) (hl : l.length ≤ maxLen) : RdB (w.alloc (.cells (bvs l).toArray 5)) (.slice (some ⟨w.heap.size, 0, none⟩) l.length l.length) l := lit_rd' w l (0, 0) hl

set_option maxRecDepth 100000 in
set_option maxHeartbeats 2000000 in
theorem rshown_any (w : World) : Calls Try.prog 48 #[] w fun e w' => e = .returned (.bool true) ∧ Below w.heap.size w w' := by
  obtain ⟨wa, hwa⟩ : ∃ wa, wa = w.alloc (.cells #[.string ⟨#[97]⟩, .string ⟨#[120]⟩, .bool false, .string ⟨#[98]⟩, .string ⟨#[]⟩, .bool true] 66) := ⟨_, rfl⟩
  have hba : Below w.heap.size w wa := by rw [hwa]; exact (Below.refl _ _).alloc (Nat.le_refl _) _
  have hra : Rd3 wa (.slice (some ⟨w.heap.size, 0, none⟩) 2 2) (exW.map wV) := by
    rw [hwa]
    refine ⟨_, 2, rfl, by decide, by decide, fun _ => ⟨_, rfl, fun j hj => ?_⟩⟩
    have hh := heap_alloc_new w (.cells #[.string ⟨#[97]⟩, .string ⟨#[120]⟩, .bool false, .string ⟨#[98]⟩, .string ⟨#[]⟩, .bool true] 66)
    have hj2 : j < 2 := hj
    rw [addp]
    rcases j with _ | _ | j
    · exact ⟨box_cells hh 0 _ rfl, box_cells hh 1 _ rfl, box_cells hh 2 _ rfl⟩
    · exact ⟨box_cells hh 3 _ rfl, box_cells hh 4 _ rfl, box_cells hh 5 _ rfl⟩
    · omega
  have hput := putCom_any 300 _ exW wa hra (by decide) (by decide)
  rw [exW_ok, exW_enc] at hput
  have HPUT := Lib.hid hput
  have HBA := Lib.hid hba
  clear hput hba hra
  go_enter Try.func48, Try.ntmps48
  go_upto_region 2 with fail
  rw [← hwa]
  clear hwa
  refine HPUT.out.mono ?_
  rintro e w1 ⟨hb1, h1⟩
  obtain ⟨-, v1, rfl, ho1⟩ := h1.resolve_left (fun h => by cases h.1)
  have HB1 := Lib.hid (HBA.out.trans (hb1.mono HBA.out.size))
  have HO1 := Lib.hid ho1
  obtain ⟨g, cap, rfl, _, _, hcap, hcm⟩ := ho1.form (by decide)
  clear hb1 h1 ho1
  -- a commit cut off
  obtain ⟨wb, hwb⟩ : ∃ wb, wb = w1.alloc (.cells #[.int .u8 67, .int .u8 0, .int .u8 1, .int .u8 2] 5) := ⟨_, rfl⟩
  have hbb : Below w1.heap.size w1 wb := by rw [hwb]; exact (Below.refl _ _).alloc (Nat.le_refl _) _
  have hrb : RdB wb (.slice (some ⟨w1.heap.size, 0, none⟩) 4 4) [67, 0, 1, 2] := by rw [hwb]; exact laid_rd w1 [67, 0, 1, 2] (by decide)
  have hcom := rcom_any _ [67, 0, 1, 2] wb hrb (by decide)
  rw [exC_dec] at hcom
  have HCOM := Lib.hid hcom
  have HBB := Lib.hid hbb
  clear hcom hbb hrb
  go_upto_region 3 with fail
  rw [← hwb]
  clear hwb
  refine HCOM.out.mono ?_
  rintro e w2 ⟨v2, rfl, ho2, hb2⟩
  have HB2 := Lib.hid (HBB.out.trans (hb2.mono HBB.out.size))
  obtain ⟨A2, c2, rfl, _, _, _⟩ := id ho2.rd
  clear hb2 ho2
  simp only [List.map_nil, List.length_nil]
  -- a manifest
  obtain ⟨wc, hwc⟩ : ∃ wc, wc = w2.alloc (.cells #[.int .i64 0, .slice A2 0 c2] 64) := ⟨_, rfl⟩
  obtain ⟨wd, hwd⟩ : ∃ wd, wd = wc.alloc (.cells #[.int .u8 77, .int .u8 5, .int .u8 2, .int .u8 1, .int .u8 1, .int .u8 0, .int .u8 5] 5) := ⟨_, rfl⟩
  have hbc : Below w2.heap.size w2 wc := by rw [hwc]; exact (Below.refl _ _).alloc (Nat.le_refl _) _
  have hbd : Below wc.heap.size wc wd := by rw [hwd]; exact (Below.refl _ _).alloc (Nat.le_refl _) _
  have hrd : RdB wd (.slice (some ⟨wc.heap.size, 0, none⟩) 7 7) [77, 5, 2, 1, 1, 0, 5] := by rw [hwd]; exact laid_rd wc [77, 5, 2, 1, 1, 0, 5] (by decide)
  have hman := rman_any _ [77, 5, 2, 1, 1, 0, 5] wd hrd (by decide)
  rw [exM_dec] at hman
  have HMAN := Lib.hid hman
  have HBD := Lib.hid (HB2.out.trans ((hbc.trans (hbd.mono hbc.size)).mono HB2.out.size))
  clear hman hbc hbd hrd
  go_upto_region 3 with fail
  rw [← hwc]
  clear hwc
  go_upto_region 4 with fail
  rw [← hwd]
  clear hwd
  refine HMAN.out.mono ?_
  rintro e w3 ⟨v3, rfl, ho3, hb3⟩
  have HB3 := Lib.hid (HBD.out.trans (hb3.mono HBD.out.size))
  obtain ⟨A3, c3, rfl, _, _, _⟩ := id ho3.rd
  clear hb3 ho3
  simp only [List.map_cons, List.map_nil, List.length_cons, List.length_nil]
  -- a row without a key
  obtain ⟨we, hwe⟩ : ∃ we, we = w3.alloc (.cells #[.int .i64 5, .int .i64 2, .slice A3 1 c3] 74) := ⟨_, rfl⟩
  obtain ⟨M, hM⟩ : ∃ M, M = w3.heap.size := ⟨_, rfl⟩
  obtain ⟨wf, hwf⟩ : ∃ wf, wf = we.alloc (.cells #[.int .u8 82, .int .u8 0, .int .u8 0, .int .u8 0] 5) := ⟨_, rfl⟩
  have hbe : Below w3.heap.size w3 we := by rw [hwe]; exact (Below.refl _ _).alloc (Nat.le_refl _) _
  have hbf : Below we.heap.size we wf := by rw [hwf]; exact (Below.refl _ _).alloc (Nat.le_refl _) _
  have hm : we.heap[M]? = some (.cells #[.int .i64 5, .int .i64 2, .slice A3 1 c3] 74 (0, 0)) := by rw [hwe, hM]; exact heap_alloc_new w3 _
  have hrf : RdB wf (.slice (some ⟨we.heap.size, 0, none⟩) 4 4) [82, 0, 0, 0] := by rw [hwf]; exact laid_rd we [82, 0, 0, 0] (by decide)
  have hrow := rrow_any _ [82, 0, 0, 0] wf hrf (by decide)
  rw [exR_dec] at hrow
  have HROW := Lib.hid hrow
  have HBF := Lib.hid (HB3.out.trans ((hbe.trans (hbf.mono hbe.size)).mono HB3.out.size))
  have HM := Lib.hid (heap_below hm hbf)
  clear hrow hbe hbf hrf hm
  go_upto_region 4 with fail
  rw [← hwe, ← hM]
  clear hwe hM
  go_upto_region 5 with fail
  rw [← hwf]
  clear hwf
  refine HROW.out.mono ?_
  rintro e w4 ⟨rfl, hb4⟩
  unfold rowA
  simp only
  obtain ⟨wg, hwg⟩ : ∃ wg, wg = w4.alloc (.cells #[.string (bs []), .string (bs []), .int .i64 0] 81) := ⟨_, rfl⟩
  have hbg : Below w4.heap.size w4 wg := by rw [hwg]; exact (Below.refl _ _).alloc (Nat.le_refl _) _
  have HMG := Lib.hid (heap_below (heap_below HM.out hb4) hbg)
  have HBG := Lib.hid (HBF.out.trans ((hb4.trans (hbg.mono hb4.size)).mono HBF.out.size))
  have hog := HO1.out.below HBG.out
  have g0 : wg.cell? ⟨g, 0, none⟩ = some (.int .u8 67) := (hog.at_ 0 (by decide)).1
  have g11 : wg.cell? ⟨g, 11, none⟩ = some (.int .u8 98) := (hog.at_ 11 (by decide)).1
  have m1 := box_cells HMG.out 1 (.int .i64 2) rfl
  have m2 := box_cells HMG.out 2 (.slice A3 1 c3) rfl
  have hcap2 : 12 ≤ cap := hcap
  clear hbg hb4 hog hcap
  go_upto_region 5 with fail
  rw [← hwg]
  clear hwg
  go_wp2_with fail
  go_ret
  exact ⟨rfl, HB1.out.trans (HBG.out.mono HB1.out.size)⟩
end Go.Proofs.Ytggjipfdfpdecaa
