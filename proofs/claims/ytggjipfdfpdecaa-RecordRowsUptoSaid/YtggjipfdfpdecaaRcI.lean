/- The walks of record's rightCommit. -/
import Derived.Test.YtggjipfdfpdecaaRcM
import Derived.Deep.DeepCutAuto
set_option linter.unusedVariables false
namespace Go.Proofs.Ytggjipfdfpdecaa
open Go.RowKit
attribute [local go_sem] bs_list bs_size

/-- A write as cells. -/
def wV (x : Wri) : V3 := ⟨.string (bs x.key), .string (bs x.val), .bool x.gone⟩
theorem bool_eq {a b : Bool} (h : a = b) : Value.bool a = Value.bool b := by rw [h]
theorem Rd3.elem {w : World} {v : Value} {xs : List V3} (h : Rd3 w v xs) {j : Nat} (hj : j < xs.length) : ∃ ad c, v = .slice (some ad) xs.length c ∧ xs.length ≤ c ∧ c ≤ maxLen ∧ At3 w (ad.add (j * 3)) xs[j] := by
  obtain ⟨A, c, hv, h1, h2, h3⟩ := h
  obtain ⟨ad, rfl, hc⟩ := h3 (by omega)
  exact ⟨ad, c, hv, h1, h2, hc j hj⟩

set_option maxRecDepth 100000 in
set_option maxHeartbeats 2000000 in
theorem rc1_any (H : Nat) (t : Int) (v : Value) (ws : List Wri) (k : Nat) (hk : k < ws.length) (w : World) (hc : w.heap[H]? = some (.cells #[.int .i64 t, v] 64 (0, 0))) (hr : Rd3 w v (ws.map wV)) (hl : ws.length ≤ 1048576) (hkl : ws[k].key.length ≤ 1048576) (hvl : ws[k].val.length ≤ 1048576) :
    Calls Try.prog 123 #[.int .i64 (k : Int), .agg #[.string (bs ws[k].key), .string (bs ws[k].val), .bool ws[k].gone], .pointer (some ⟨H, 0, none⟩)] w fun e w' => e = .returned (.bool (wAt ws k)) ∧ Below w.heap.size w w' := by
  obtain ⟨x, hx⟩ : ∃ x, x = ws[k] := ⟨_, rfl⟩
  obtain ⟨w0, hw0⟩ : ∃ w0, w0 = w.alloc (.cells #[.string (bs x.key), .string (bs x.val), .bool x.gone] 66) := ⟨_, rfl⟩
  obtain ⟨B, hB⟩ : ∃ B, B = w.heap.size := ⟨_, rfl⟩
  have hb0 : Below w.heap.size w w0 := by rw [hw0]; exact (Below.refl _ _).alloc (Nat.le_refl _) _
  have hx0 : w0.heap[B]? = some (.cells #[.string (bs x.key), .string (bs x.val), .bool x.gone] 66 (0, 0)) := by rw [hw0, hB]; exact heap_alloc_new w _
  have hc0 := heap_below hc hb0
  have hr0 := hr.below hb0
  have x0 := box_cells hx0 0 (.string (bs x.key)) rfl
  have x1 := box_cells hx0 1 (.string (bs x.val)) rfl
  have x2 := box_cells hx0 2 (.bool x.gone) rfl
  have y1 := box_cells hc0 1 v rfl
  have k1 := fun q => (isKey_any x.key (w0.drewN q) (by rw [hx]; omega)).mono (fun _ _ h => (⟨h.1, h.2.symm⟩ : _ ∧ _))
  have k2 := fun q => (isVal_any x.val (w0.drewN q)).mono (fun _ _ h => (⟨h.1, h.2.symm⟩ : _ ∧ _))
  have hwa : wAt ws k = (wOk x && (k == 0 || (match ws[k - 1]? with | none => true | some p => Op.bytesLess p.key x.key))) := by unfold wAt; rw [List.getElem?_eq_getElem hk, ← hx]; rfl
  have HWA := Lib.hid hwa
  have HR0 := Lib.hid hr0
  have HB0 := Lib.hid hb0
  rw [← hx]
  rw [← hx] at hkl hvl
  have HX := Lib.hid hx
  clear hx0 hc0 hr0 hb0 hx hwa hc hr
  go_enter Try.func123, Try.ntmps123
  go_wp2_with fail
  rw [← hw0, ← hB]
  have HB := Lib.hid hB
  clear hw0 hB
  cases h1 : isKey x.key
  · rw [h1] at k1
    have hf : wAt ws k = false := by rw [HWA.out]; unfold wOk; rw [h1]; simp
    have HF := Lib.hid hf; clear hf
    go_quiet ((first | (go_at_call 49; exact Calls.quiet_of_same (k1 _)) | (go_at_call 51; exact Calls.quiet_of_same (k2 _))))
    go_wp2_with fail
    go_ret
    exact ⟨ret_bool (by rw [HF.out]), below_drewN HB0.out _⟩
  · rw [h1] at k1
    cases h2 : isVal x.val
    · rw [h2] at k2
      have hf : wAt ws k = false := by rw [HWA.out]; unfold wOk; rw [h1, h2]; simp
      have HF := Lib.hid hf; clear hf
      go_quiet ((first | (go_at_call 49; exact Calls.quiet_of_same (k1 _)) | (go_at_call 51; exact Calls.quiet_of_same (k2 _))))
      go_wp2_with fail
      go_ret
      exact ⟨ret_bool (by rw [HF.out]), below_drewN HB0.out _⟩
    · rw [h2] at k2
      cases h3 : x.gone
      · rw [h3] at x2
        have hok : wOk x = true := by unfold wOk; rw [h1, h2, h3]; rfl
        rcases k with _ | j
        · have hf : wAt ws 0 = true := by rw [HWA.out]; rw [hok]; simp
          have HF := Lib.hid hf; clear hf
          go_quiet ((first | (go_at_call 49; exact Calls.quiet_of_same (k1 _)) | (go_at_call 51; exact Calls.quiet_of_same (k2 _))))
          go_wp2_with fail
          go_ret
          exact ⟨ret_bool (by rw [HF.out]), below_drewN HB0.out _⟩
        · obtain ⟨ad, c, rfl, hc1, hc2, hp0, hp1, hp2⟩ := HR0.out.elem (j := j) (by rw [List.length_map]; omega)
          rw [List.length_map] at hc1 y1
          have hj : j < ws.length := by omega
          obtain ⟨p, hp⟩ : ∃ p, p = ws[j] := ⟨_, rfl⟩
          have hpk : (ws.map wV)[j]'(by rw [List.length_map]; omega) = wV p := by rw [List.getElem_map, hp]
          rw [hpk] at hp0
          change w0.cell? (ad.add (j * 3)) = some (.string (bs p.key)) at hp0
          have hws : ws[j + 1 - 1]? = some p := by rw [Nat.add_sub_cancel, List.getElem?_eq_getElem hj, hp]
          have e1 : ((j + 1 : Nat) : Int) - 1 = (j : Int) := by omega
          have e0 : (((j + 1 : Nat) : Int) == 0) = false := by rw [beq_eq_false_iff_ne]; omega
          have e2 : ((j : Int) + 1 == 0) = false := by rw [beq_eq_false_iff_ne]; omega
          have HHP := Lib.hid hp; clear hp hpk hp1 hp2
          cases hlt : Op.bytesLess p.key x.key
          · have hf : wAt ws (j + 1) = false := by rw [HWA.out]; rw [hok, hws]; simp only; rw [hlt]; rfl
            have HF := Lib.hid hf; clear hf
            go_quiet ((first | (go_at_call 49; exact Calls.quiet_of_same (k1 _)) | (go_at_call 51; exact Calls.quiet_of_same (k2 _))))
            go_wp2_with fail
            go_ret
            exact ⟨ret_bool (by rw [HF.out]), below_drewN HB0.out _⟩
          · have hf : wAt ws (j + 1) = true := by rw [HWA.out]; rw [hok, hws]; simp only; rw [hlt]; rfl
            have HF := Lib.hid hf; clear hf
            go_quiet ((first | (go_at_call 49; exact Calls.quiet_of_same (k1 _)) | (go_at_call 51; exact Calls.quiet_of_same (k2 _))))
            go_wp2_with fail
            go_ret
            exact ⟨ret_bool (by rw [HF.out]), below_drewN HB0.out _⟩
      · rw [h3] at x2
        cases h4 : x.val.isEmpty
        · have hf : wAt ws k = false := by rw [HWA.out]; unfold wOk; rw [h1, h2, h3, h4]; simp
          have HF := Lib.hid hf; clear hf
          go_quiet ((first | (go_at_call 49; exact Calls.quiet_of_same (k1 _)) | (go_at_call 51; exact Calls.quiet_of_same (k2 _))))
          go_wp2_with fail
          go_ret
          exact ⟨ret_bool (by rw [HF.out]), below_drewN HB0.out _⟩
        · have hok : wOk x = true := by unfold wOk; rw [h1, h2, h3, h4]; rfl
          rcases k with _ | j
          · have hf : wAt ws 0 = true := by rw [HWA.out]; rw [hok]; simp
            have HF := Lib.hid hf; clear hf
            go_quiet ((first | (go_at_call 49; exact Calls.quiet_of_same (k1 _)) | (go_at_call 51; exact Calls.quiet_of_same (k2 _))))
            go_wp2_with fail
            go_ret
            exact ⟨ret_bool (by rw [HF.out]), below_drewN HB0.out _⟩
          · obtain ⟨ad, c, rfl, hc1, hc2, hp0, hp1, hp2⟩ := HR0.out.elem (j := j) (by rw [List.length_map]; omega)
            rw [List.length_map] at hc1 y1
            have hj : j < ws.length := by omega
            obtain ⟨p, hp⟩ : ∃ p, p = ws[j] := ⟨_, rfl⟩
            have hpk : (ws.map wV)[j]'(by rw [List.length_map]; omega) = wV p := by rw [List.getElem_map, hp]
            rw [hpk] at hp0
            change w0.cell? (ad.add (j * 3)) = some (.string (bs p.key)) at hp0
            have hws : ws[j + 1 - 1]? = some p := by rw [Nat.add_sub_cancel, List.getElem?_eq_getElem hj, hp]
            have e1 : ((j + 1 : Nat) : Int) - 1 = (j : Int) := by omega
            have e0 : (((j + 1 : Nat) : Int) == 0) = false := by rw [beq_eq_false_iff_ne]; omega
            have e2 : ((j : Int) + 1 == 0) = false := by rw [beq_eq_false_iff_ne]; omega
            have HHP := Lib.hid hp; clear hp hpk hp1 hp2
            cases hlt : Op.bytesLess p.key x.key
            · have hf : wAt ws (j + 1) = false := by rw [HWA.out]; rw [hok, hws]; simp only; rw [hlt]; rfl
              have HF := Lib.hid hf; clear hf
              go_quiet ((first | (go_at_call 49; exact Calls.quiet_of_same (k1 _)) | (go_at_call 51; exact Calls.quiet_of_same (k2 _))))
              go_wp2_with fail
              go_ret
              exact ⟨ret_bool (by rw [HF.out]), below_drewN HB0.out _⟩
            · have hf : wAt ws (j + 1) = true := by rw [HWA.out]; rw [hok, hws]; simp only; rw [hlt]; rfl
              have HF := Lib.hid hf; clear hf
              go_quiet ((first | (go_at_call 49; exact Calls.quiet_of_same (k1 _)) | (go_at_call 51; exact Calls.quiet_of_same (k2 _))))
              go_wp2_with fail
              go_ret
              exact ⟨ret_bool (by rw [HF.out]), below_drewN HB0.out _⟩

theorem At3.addr {w : World} {p : Addr} {x : V3} (h : At3 w p x) : w.cell? p = some x.a ∧ w.cell? ⟨p.block, p.off + 1, none⟩ = some x.b ∧ w.cell? ⟨p.block, p.off + 2, none⟩ = some x.c := h

set_option maxRecDepth 100000 in
set_option maxHeartbeats 2000000 in
theorem allW_any (H : Nat) (t : Int) (v : Value) (ws : List Wri) (w : World) (hc : w.heap[H]? = some (.cells #[.int .i64 t, v] 64 (0, 0))) (hr : Rd3 w v (ws.map wV)) (hl : ws.length ≤ 1048576) (hkl : ∀ x ∈ ws, x.key.length ≤ 1048576 ∧ x.val.length ≤ 1048576) :
    Calls Try.prog 122 #[v, .func (.func 123) #[] #[.pointer (some ⟨H, 0, none⟩)]] w fun e w' => e = .returned (.bool (wsOk ws)) ∧ Below w.heap.size w w' := by
  obtain ⟨A, c, rfl, hc1, hc2, _⟩ := id hr
  rw [List.length_map] at hc1 ⊢
  rw [List.length_map] at hc hr
  have HC := Lib.hid hc; clear hc
  have HR := Lib.hid hr; clear hr
  have HKL := Lib.hid hkl; clear hkl
  go_enter Try.func122, Try.ntmps122
  go_wp2_with fail
  go_loopw [9] (fun v9 wr => ∃ k : Nat, k ≤ ws.length ∧ v9 = .int .i64 (k : Int) ∧ Hid (∀ j, j < k → wAt ws j = true) ∧ Below w.heap.size w wr) (fun v9 _ => ws.length - (intOf v9).toNat)
  case atStart => exact ⟨0, by omega, rfl, Lib.hid (fun j h => by omega), Below.refl _ _⟩
  case round =>
    obtain ⟨k, hk, rfl, HJ, hb⟩ := hrel
    have HB := Lib.hid hb; clear hb
    by_cases hlt : k < ws.length
    · obtain ⟨ad, c', he, _, _, hp0, hp1, hp2⟩ := (HR.out.below HB.out).elem (j := k) (by rw [List.length_map]; exact hlt)
      rw [List.length_map] at he
      injection he with e1 e2 e3
      subst e1
      rw [List.getElem_map] at hp0 hp1 hp2
      obtain ⟨x, hx⟩ : ∃ x, x = ws[k] := ⟨_, rfl⟩
      rw [← hx] at hp0 hp1 hp2
      simp only [wV] at hp0 hp1 hp2
      clear e2 e3
      have t1 : decide ((k : Int) < (ws.length : Int)) = true := by simp; omega
      obtain ⟨w0, hw0⟩ : ∃ w0, w0 = wr.alloc (.cells #[.string (bs x.key), .string (bs x.val), .bool x.gone] 66) := ⟨_, rfl⟩
      have hb0 : Below wr.heap.size wr w0 := by rw [hw0]; exact (Below.refl _ _).alloc (Nat.le_refl _) _
      have HB0 := Lib.hid (HB.out.trans (hb0.mono HB.out.size)); clear hb0
      have hkl := HKL.out ws[k] (List.getElem_mem hlt)
      have hc := rc1_any H t (.slice (some ad) ws.length c) ws k hlt w0 (heap_below HC.out HB0.out) (HR.out.below HB0.out) hl hkl.1 hkl.2
      rw [← hx] at hc
      have HX := Lib.hid hx; clear hx hkl
      have HCA := Lib.hid hc; clear hc
      go_upto_region 4 with fail
      rw [← hw0]
      have HW0 := Lib.hid hw0; clear hw0
      have x0 : w0.heap[wr.heap.size]? = some (.cells #[.string (bs x.key), .string (bs x.val), .bool x.gone] 66 (0, 0)) := by rw [HW0.out]; exact heap_alloc_new wr _
      have y0 := box_cells x0 0 (.string (bs x.key)) rfl
      have y1 := box_cells x0 1 (.string (bs x.val)) rfl
      have y2 := box_cells x0 2 (.bool x.gone) rfl
      clear x0
      go_wp2_with fail
      refine HCA.out.mono ?_
      rintro e w1 ⟨rfl, hb1⟩
      have HB1 := Lib.hid (HB0.out.trans (hb1.mono HB0.out.size)); clear hb1
      cases hwk : wAt ws k with
      | true =>
        have HWK := Lib.hid hwk; clear hwk
        go_wp2_with fail
        go_roundw
        case rel => exact ⟨k + 1, by omega, by go_num, Lib.hid (fun j hj => by
          rcases Nat.lt_or_ge j k with h | h
          · exact HJ.out j h
          · rw [show j = k from by omega]; exact HWK.out), HB1.out⟩
        case measure => simp [intOf]; omega
      | false =>
        have hno := wsOk_no hlt hwk
        have HNO := Lib.hid hno; clear hno hwk
        go_wp2_with fail
        go_ret
        exact ⟨ret_bool HNO.out.symm, HB1.out⟩
    · have t1 : decide ((k : Int) < (ws.length : Int)) = false := by simp; omega
      have hok : wsOk ws = true := (wsOk_iff ws).2 (fun j hj => HJ.out j (by omega))
      have HOK := Lib.hid hok; clear hok
      go_wp2_with fail
      go_ret
      exact ⟨ret_bool HOK.out.symm, HB.out⟩

set_option maxRecDepth 100000 in
set_option maxHeartbeats 2000000 in
theorem rightCom_any (t : Int) (v : Value) (ws : List Wri) (w : World) (hr : Rd3 w v (ws.map wV)) (hl : ws.length ≤ 1048576) (hkl : ∀ x ∈ ws, x.key.length ≤ 1048576 ∧ x.val.length ≤ 1048576) :
    Calls Try.prog 82 #[.agg #[.int .i64 t, v]] w fun e w' => e = .returned (.bool (comOk t ws)) ∧ Below w.heap.size w w' := by
  obtain ⟨A, c, rfl, _, _, _⟩ := id hr
  rw [List.length_map] at hr ⊢
  obtain ⟨H, hH⟩ : ∃ H, H = w.heap.size := ⟨_, rfl⟩
  obtain ⟨w0, hw0⟩ : ∃ w0, w0 = w.alloc (.cells #[.int .i64 t, .slice A ws.length c] 64) := ⟨_, rfl⟩
  have hb0 : Below w.heap.size w w0 := by rw [hw0]; exact (Below.refl _ _).alloc (Nat.le_refl _) _
  have hx0 : w0.heap[H]? = some (.cells #[.int .i64 t, .slice A ws.length c] 64 (0, 0)) := by rw [hw0, hH]; exact heap_alloc_new w _
  have HB0 := Lib.hid hb0
  have k1 := isTime_any t w0
  have k2 := allW_any H t _ ws w0 hx0 (hr.below hb0) hl hkl
  have x0 := box_cells hx0 0 (.int .i64 t) rfl
  have x1 := box_cells hx0 1 (.slice A ws.length c) rfl
  have HK1 := Lib.hid k1
  have HK2 := Lib.hid k2
  clear hr hkl hb0 hx0 k1 k2
  go_enter Try.func82, Try.ntmps82
  go_wp2_with fail
  rw [← hw0, ← hH]
  clear hw0 hH
  refine HK1.out.mono ?_
  rintro e w' ⟨rfl, rfl⟩
  cases h1 : isTm t with
  | false =>
    have hf : comOk t ws = false := by unfold comOk; rw [h1]; simp
    have HF := Lib.hid hf; clear hf h1
    go_wp2_with fail
    go_ret
    exact ⟨ret_bool HF.out.symm, HB0.out⟩
  | true =>
    by_cases h2 : ws.length ≤ 64
    · have hf : comOk t ws = wsOk ws := by unfold comOk; rw [h1, decide_eq_true h2]; simp
      have HF := Lib.hid hf; clear hf h1
      have t2 : decide ((ws.length : Int) ≤ 64) = true := by simp; omega
      go_wp2_with fail
      refine HK2.out.mono ?_
      rintro e w1 ⟨rfl, hb1⟩
      have HB1 := Lib.hid (HB0.out.trans (hb1.mono HB0.out.size)); clear hb1
      go_wp2_with fail
      go_ret
      exact ⟨ret_bool (by rw [HF.out]), HB1.out⟩
    · have hf : comOk t ws = false := by unfold comOk; rw [decide_eq_false h2]; simp
      have HF := Lib.hid hf; clear hf h1
      have t2 : decide ((ws.length : Int) ≤ 64) = false := by simp; omega
      go_wp2_with fail
      go_ret
      exact ⟨ret_bool HF.out.symm, HB0.out⟩
end Go.Proofs.Ytggjipfdfpdecaa
