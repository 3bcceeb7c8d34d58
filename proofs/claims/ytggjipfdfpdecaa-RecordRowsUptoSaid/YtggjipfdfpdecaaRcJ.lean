/- The walk of the document's RightCommit. -/
import Derived.Test.YtggjipfdfpdecaaRcI
import Derived.Deep.CutBlock
set_option linter.unusedVariables false
namespace Go.Proofs.Ytggjipfdfpdecaa
open Go.RowKit
attribute [local go_sem] bs_list bs_size

set_option maxRecDepth 100000 in
set_option maxHeartbeats 4000000 in
theorem rightComF_any (t : Int) (v : Value) (ws : List Wri) (w : World) (hr : Rd3 w v (ws.map wV)) (hl : ws.length ≤ 1048576) (hkl : ∀ x ∈ ws, x.key.length ≤ 1048576 ∧ x.val.length ≤ 1048576) :
    Calls Try.prog 87 #[.agg #[.int .i64 t, v]] w fun e w' => e = .returned (.bool (comOk t ws)) ∧ Below w.heap.size w w' := by
  obtain ⟨A, c, rfl, _, _, _⟩ := id hr
  rw [List.length_map] at hr ⊢
  obtain ⟨H, hH⟩ : ∃ H, H = w.heap.size := ⟨_, rfl⟩
  obtain ⟨wb, hwb⟩ : ∃ w0, w0 = w.alloc (.cells #[.int .i64 t, .slice A ws.length c] 64) := ⟨_, rfl⟩
  have hb0 : Below w.heap.size w wb := by rw [hwb]; exact (Below.refl _ _).alloc (Nat.le_refl _) _
  have hx0 : wb.heap[H]? = some (.cells #[.int .i64 t, .slice A ws.length c] 64 (0, 0)) := by rw [hwb, hH]; exact heap_alloc_new w _
  have HBB := Lib.hid hb0
  have k1 := timed_any t wb
  have HC := Lib.hid hx0
  have HR := Lib.hid (hr.below hb0)
  have HKL := Lib.hid hkl
  have c0 := box_cells hx0 0 (.int .i64 t) rfl
  have c1 := box_cells hx0 1 (.slice A ws.length c) rfl
  have HK1 := Lib.hid k1
  clear hr hkl hb0 hx0 k1
  go_enter Try.func87, Try.ntmps87
  go_upto_region 1 with fail
  rw [← hwb, ← hH]
  have HH := Lib.hid hH
  clear hwb hH
  have hwH : w.heap.size ≤ H := by rw [HH.out]; exact Nat.le_refl _
  have hHb : H < wb.heap.size := (Array.getElem?_eq_some_iff.1 HC.out).1
  go_cut [3] (fun v3 wx => v3 = .bool (isTm t && decide (ws.length ≤ 64)) ∧ wx = wb)
  case first =>
    go_wp2_with fail
    refine HK1.out.mono ?_
    rintro e w' ⟨rfl, rfl⟩
    cases h1 : isTm t
    · go_wp2_with fail
      go_meet
      exact ⟨by rw [h1]; rfl, rfl⟩
    · go_wp2_with fail
      go_meet
      refine ⟨?_, rfl⟩
      rw [h1]
      congr 1
      rw [Bool.eq_iff_iff]
      simp
      omega
  case rest =>
    obtain ⟨rfl, hwx⟩ := hcut
    obtain rfl := hwx.symm
    obtain ⟨b0, hb0⟩ : ∃ b, b = (isTm t && decide (ws.length ≤ 64)) := ⟨_, rfl⟩
    rw [← hb0]
    have hcom : comOk t ws = (b0 && wsOk ws) := by rw [hb0]; rfl
    have HCOM := Lib.hid hcom; clear hcom hb0 c0 c1 hwx
    go_wp2_with fail
    go_loopw [3, 4] (fun v3 v4 wr => ∃ (k : Nat) (o : Bool), k ≤ ws.length ∧ v4 = .int .i64 (k : Int) ∧ v3 = .bool o ∧ Hid ((o = true → b0 = true ∧ ∀ j, j < k → wAt ws j = true) ∧ (o = false → comOk t ws = false)) ∧ Below wb.heap.size wb wr) (fun _ v4 _ => ws.length - (intOf v4).toNat)
    case atStart =>
      refine ⟨0, b0, by omega, rfl, rfl, Lib.hid ⟨fun h => ⟨h, fun j hj => by omega⟩, fun h => ?_⟩, Below.refl _ _⟩
      rw [HCOM.out, h]; rfl
    case round =>
      obtain ⟨k, o, hk, rfl, rfl, HJ, hb⟩ := hrel
      have HB := Lib.hid hb; clear hb
      have hcr := heap_below HC.out HB.out
      have c1 := box_cells hcr 1 (.slice A ws.length c) rfl
      have HCR := Lib.hid hcr; clear hcr
      by_cases hlt : k < ws.length
      · have t1 : decide ((k : Int) < (ws.length : Int)) = true := by simp; omega
        cases o with
        | false =>
          have hno := HJ.out.2 rfl
          have HNO := Lib.hid hno; clear hno
          go_wp2_with fail
          go_ret
          exact ⟨ret_bool HNO.out.symm, HBB.out.trans (HB.out.mono HBB.out.size)⟩
        | true =>
          obtain ⟨hb0, hall⟩ := HJ.out.1 rfl
          have HALL := Lib.hid hall; clear hall
          have HB0' := Lib.hid hb0; clear hb0
          obtain ⟨ad, c', he, _, _, hp0, hp1, hp2⟩ := (HR.out.below HB.out).elem (j := k) (by rw [List.length_map]; exact hlt)
          rw [List.length_map] at he
          injection he with e1 e2 e3
          subst e1
          rw [List.getElem_map] at hp0 hp1 hp2
          obtain ⟨x, hx⟩ : ∃ x, x = ws[k] := ⟨_, rfl⟩
          rw [← hx] at hp0 hp1 hp2
          simp only [wV] at hp0 hp1 hp2
          clear e2 e3
          have hwa : wAt ws k = (wOk x && (k == 0 || (match ws[k - 1]? with | none => true | some p => Op.bytesLess p.key x.key))) := by unfold wAt; rw [List.getElem?_eq_getElem hlt, ← hx]; rfl
          have HWA := Lib.hid hwa; clear hwa
          have hkl := HKL.out ws[k] (List.getElem_mem hlt)
          rw [← hx] at hkl
          have HX := Lib.hid hx; clear hx
          obtain ⟨w0, hw0⟩ : ∃ w0, w0 = wr.alloc (.cells #[.string (bs x.key), .string (bs x.val), .bool x.gone] 66) := ⟨_, rfl⟩
          obtain ⟨B, hB⟩ : ∃ B, B = wr.heap.size := ⟨_, rfl⟩
          have hbl : Below wr.heap.size wr w0 := by rw [hw0]; exact (Below.refl _ _).alloc (Nat.le_refl _) _
          have hx0 : w0.heap[B]? = some (.cells #[.string (bs x.key), .string (bs x.val), .bool x.gone] 66 (0, 0)) := by rw [hw0, hB]; exact heap_alloc_new wr _
          have HB0 := Lib.hid (HB.out.trans (hbl.mono HB.out.size))
          have HR0 := Lib.hid ((HR.out.below HB.out).below hbl)
          have y1 := box_cells (heap_below HCR.out hbl) 1 (.slice (some ad) ws.length c) rfl
          have x0 := box_cells hx0 0 (.string (bs x.key)) rfl
          have x1 := box_cells hx0 1 (.string (bs x.val)) rfl
          have x2 := box_cells hx0 2 (.bool x.gone) rfl
          have k1 := fun q => (refIsKey_any x.key (w0.drewN q) (by omega)).mono (fun _ _ h => (⟨h.1, h.2.symm⟩ : _ ∧ _))
          have k2 := fun q => (refIsVal_any x.val (w0.drewN q)).mono (fun _ _ h => (⟨h.1, h.2.symm⟩ : _ ∧ _))
          clear hbl hx0
          go_upto_block 1 with fail
          go_cut [3] (fun v3 wx => v3 = .bool (wAt ws k) ∧ Below wb.heap.size wb wx)
          case first =>
            go_upto_region 6 with fail
            rw [← hw0, ← hB]
            have HW0 := Lib.hid hw0; clear hw0
            have HBX := Lib.hid hB; clear hB
            clear c1 hp0 hp1 hp2
            cases h1 : isKey x.key
            · rw [h1] at k1
              have hf : wAt ws k = false := by rw [HWA.out]; unfold wOk; rw [h1]; simp
              have HF := Lib.hid hf; clear hf
              go_quiet ((first | (go_at_call 50; exact Calls.quiet_of_same (k1 _)) | (go_at_call 52; exact Calls.quiet_of_same (k2 _))))
              go_wp2_with fail
              go_meet
              exact ⟨bool_eq (by rw [HF.out]), below_drewN HB0.out _⟩
            · rw [h1] at k1
              cases h2 : isVal x.val
              · rw [h2] at k2
                have hf : wAt ws k = false := by rw [HWA.out]; unfold wOk; rw [h1, h2]; simp
                have HF := Lib.hid hf; clear hf
                go_quiet ((first | (go_at_call 50; exact Calls.quiet_of_same (k1 _)) | (go_at_call 52; exact Calls.quiet_of_same (k2 _))))
                go_wp2_with fail
                go_meet
                exact ⟨bool_eq (by rw [HF.out]), below_drewN HB0.out _⟩
              · rw [h2] at k2
                cases h3 : x.gone
                · rw [h3] at x2
                  have hok : wOk x = true := by unfold wOk; rw [h1, h2, h3]; rfl
                  rcases k with _ | j
                  · have hf : wAt ws 0 = true := by rw [HWA.out]; rw [hok]; simp
                    have HF := Lib.hid hf; clear hf
                    go_quiet ((first | (go_at_call 50; exact Calls.quiet_of_same (k1 _)) | (go_at_call 52; exact Calls.quiet_of_same (k2 _))))
                    go_wp2_with fail
                    go_meet
                    exact ⟨bool_eq (by rw [HF.out]), below_drewN HB0.out _⟩
                  · obtain ⟨ad2, c2, he2, hc1, hc2, hp0, hp1, hp2⟩ := HR0.out.elem (j := j) (by rw [List.length_map]; omega)
                    injection he2 with f1 f2 f3
                    injection f1 with f1
                    subst f1
                    have hj : j < ws.length := by omega
                    obtain ⟨p, hp⟩ : ∃ p, p = ws[j] := ⟨_, rfl⟩
                    have hpk : (ws.map wV)[j]'(by rw [List.length_map]; omega) = wV p := by rw [List.getElem_map, hp]
                    rw [hpk] at hp0
                    change w0.cell? (ad.add (j * 3)) = some (.string (bs p.key)) at hp0
                    have hws : ws[j + 1 - 1]? = some p := by rw [Nat.add_sub_cancel, List.getElem?_eq_getElem hj, hp]
                    have e1 : ((j + 1 : Nat) : Int) - 1 = (j : Int) := by omega
                    have e0 : (((j + 1 : Nat) : Int) == 0) = false := by rw [beq_eq_false_iff_ne]; omega
                    have e2 : ((j : Int) + 1 == 0) = false := by rw [beq_eq_false_iff_ne]; omega
                    have HHP := Lib.hid hp; clear hp hpk hp1 hp2 f2 f3
                    cases hlt : Op.bytesLess p.key x.key
                    · have hf : wAt ws (j + 1) = false := by rw [HWA.out]; rw [hok, hws]; simp only; rw [hlt]; rfl
                      have HF := Lib.hid hf; clear hf
                      go_quiet ((first | (go_at_call 50; exact Calls.quiet_of_same (k1 _)) | (go_at_call 52; exact Calls.quiet_of_same (k2 _))))
                      go_wp2_with fail
                      go_meet
                      exact ⟨bool_eq (by rw [HF.out]), below_drewN HB0.out _⟩
                    · have hf : wAt ws (j + 1) = true := by rw [HWA.out]; rw [hok, hws]; simp only; rw [hlt]; rfl
                      have HF := Lib.hid hf; clear hf
                      go_quiet ((first | (go_at_call 50; exact Calls.quiet_of_same (k1 _)) | (go_at_call 52; exact Calls.quiet_of_same (k2 _))))
                      go_wp2_with fail
                      go_meet
                      exact ⟨bool_eq (by rw [HF.out]), below_drewN HB0.out _⟩
                · rw [h3] at x2
                  cases h4 : x.val.isEmpty
                  · have hf : wAt ws k = false := by rw [HWA.out]; unfold wOk; rw [h1, h2, h3, h4]; simp
                    have HF := Lib.hid hf; clear hf
                    go_quiet ((first | (go_at_call 50; exact Calls.quiet_of_same (k1 _)) | (go_at_call 52; exact Calls.quiet_of_same (k2 _))))
                    go_wp2_with fail
                    go_meet
                    exact ⟨bool_eq (by rw [HF.out]), below_drewN HB0.out _⟩
                  · have hok : wOk x = true := by unfold wOk; rw [h1, h2, h3, h4]; rfl
                    rcases k with _ | j
                    · have hf : wAt ws 0 = true := by rw [HWA.out]; rw [hok]; simp
                      have HF := Lib.hid hf; clear hf
                      go_quiet ((first | (go_at_call 50; exact Calls.quiet_of_same (k1 _)) | (go_at_call 52; exact Calls.quiet_of_same (k2 _))))
                      go_wp2_with fail
                      go_meet
                      exact ⟨bool_eq (by rw [HF.out]), below_drewN HB0.out _⟩
                    · obtain ⟨ad2, c2, he2, hc1, hc2, hp0, hp1, hp2⟩ := HR0.out.elem (j := j) (by rw [List.length_map]; omega)
                      injection he2 with f1 f2 f3
                      injection f1 with f1
                      subst f1
                      have hj : j < ws.length := by omega
                      obtain ⟨p, hp⟩ : ∃ p, p = ws[j] := ⟨_, rfl⟩
                      have hpk : (ws.map wV)[j]'(by rw [List.length_map]; omega) = wV p := by rw [List.getElem_map, hp]
                      rw [hpk] at hp0
                      change w0.cell? (ad.add (j * 3)) = some (.string (bs p.key)) at hp0
                      have hws : ws[j + 1 - 1]? = some p := by rw [Nat.add_sub_cancel, List.getElem?_eq_getElem hj, hp]
                      have e1 : ((j + 1 : Nat) : Int) - 1 = (j : Int) := by omega
                      have e0 : (((j + 1 : Nat) : Int) == 0) = false := by rw [beq_eq_false_iff_ne]; omega
                      have e2 : ((j : Int) + 1 == 0) = false := by rw [beq_eq_false_iff_ne]; omega
                      have HHP := Lib.hid hp; clear hp hpk hp1 hp2 f2 f3
                      cases hlt : Op.bytesLess p.key x.key
                      · have hf : wAt ws (j + 1) = false := by rw [HWA.out]; rw [hok, hws]; simp only; rw [hlt]; rfl
                        have HF := Lib.hid hf; clear hf
                        go_quiet ((first | (go_at_call 50; exact Calls.quiet_of_same (k1 _)) | (go_at_call 52; exact Calls.quiet_of_same (k2 _))))
                        go_wp2_with fail
                        go_meet
                        exact ⟨bool_eq (by rw [HF.out]), below_drewN HB0.out _⟩
                      · have hf : wAt ws (j + 1) = true := by rw [HWA.out]; rw [hok, hws]; simp only; rw [hlt]; rfl
                        have HF := Lib.hid hf; clear hf
                        go_quiet ((first | (go_at_call 50; exact Calls.quiet_of_same (k1 _)) | (go_at_call 52; exact Calls.quiet_of_same (k2 _))))
                        go_wp2_with fail
                        go_meet
                        exact ⟨bool_eq (by rw [HF.out]), below_drewN HB0.out _⟩
          case rest =>
            obtain ⟨rfl, hb1⟩ := hcut
            have HB1 := Lib.hid hb1; clear hb1 x0 x1 x2 y1
            go_wp2_with fail
            go_roundw
            case rel =>
              refine ⟨k + 1, wAt ws k, by omega, by go_num, rfl, Lib.hid ⟨fun h => ⟨HB0'.out, fun j hj => ?_⟩, fun h => ?_⟩, HB1.out⟩
              · rcases Nat.lt_or_ge j k with h2 | h2
                · exact HALL.out j h2
                · rw [show j = k from by omega]; exact h
              · rw [HCOM.out, wsOk_no hlt h]; simp
            case measure => simp [intOf]; omega
      · have t1 : decide ((k : Int) < (ws.length : Int)) = false := by simp; omega
        have hfin : o = comOk t ws := by
          cases o with
          | false => exact (HJ.out.2 rfl).symm
          | true =>
            obtain ⟨h1, h2⟩ := HJ.out.1 rfl
            rw [HCOM.out, h1, (wsOk_iff ws).2 (fun j hj => h2 j (by omega))]; rfl
        have HFIN := Lib.hid hfin; clear hfin
        go_wp2_with fail
        go_ret
        exact ⟨ret_bool HFIN.out, HBB.out.trans (HB.out.mono HBB.out.size)⟩
end Go.Proofs.Ytggjipfdfpdecaa
