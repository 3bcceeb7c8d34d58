/- Texts merged: RcJ, RcZ, RcK. Each says below what it proves. -/
import Derived.Test.YtggjipfdfpdecaaZ07
import Derived.Deep.CutBlock
import Derived.Test.YtggjipfdfpdecaaZ09
import Derived.Deep.RegionLaw
import Derived.Deep.AppendLies
import Derived.Deep.DeepCutAuto
/- The walk of the document's RightCommit. -/
set_option linter.unusedVariables false
namespace Go.Proofs.Ytggjipfdfpdecaa
open Go.RowKit
attribute [local go_sem] bs_list bs_size

set_option maxRecDepth 100000 in
set_option maxHeartbeats 4000000 in
theorem rightComF_any (t : Int) (v : Value) (ws : List Wri) (w : World) (hr : Rd3 w v (ws.map wV)) (hl : ws.length ≤ 1048576) (hkl : ∀ x ∈ ws, x.key.length ≤ 1048576 ∧ x.val.length ≤ 1048576) :
    Calls Try.prog 87 #[.agg #[.int .i64 t, v]] w fun e w' => e = .returned (.bool (comOk t ws)) ∧ Below w.heap.size w w' := by
  obtain ⟨A, c, rfl, _, _, _⟩ := id hr
  rw [List.length_map] at hr ⊢
  obtain ⟨H, hH⟩ : ∃ H, H = w.heap.size := ⟨_, rfl⟩
  obtain ⟨wb, hwb⟩ : ∃ w0, w0 = w.alloc (.cells #[.int .i64 t, .slice A ws.length c] 64) := ⟨_, rfl⟩
  have hb0 : Below w.heap.size w wb := by rw [hwb]; exact (Below.refl _ _).alloc (Nat.le_refl _) _
  have hx0 : wb.heap[H]? = some (.cells #[.int .i64 t, .slice A ws.length c] 64 (0, 0)) := by rw [hwb, hH]; exact heap_alloc_new w _
  have HBB := Lib.hid hb0
  have k1 := timed_any t wb
  have HC := Lib.hid hx0
  have HR := Lib.hid (hr.below hb0)
  have HKL := Lib.hid hkl
  have c0 := box_cells hx0 0 (.int .i64 t) rfl
  have c1 := box_cells hx0 1 (.slice A ws.length c) rfl
  have HK1 := Lib.hid k1
  clear hr hkl hb0 hx0 k1
  go_enter Try.func87, Try.ntmps87
  go_upto_region 1 with fail
  rw [← hwb, ← hH]
  have HH := Lib.hid hH
  clear hwb hH
  have hwH : w.heap.size ≤ H := by rw [HH.out]; exact Nat.le_refl _
  have hHb : H < wb.heap.size := (Array.getElem?_eq_some_iff.1 HC.out).1
  go_cut [3] (fun v3 wx => v3 = .bool (isTm t && decide (ws.length ≤ 64)) ∧ wx = wb)
  case first =>
    go_wp2_with fail
    refine HK1.out.mono ?_
    rintro e w' ⟨rfl, rfl⟩
    cases h1 : isTm t
    · go_wp2_with fail
      go_meet
      exact ⟨by rw [h1]; rfl, rfl⟩
    · go_wp2_with fail
      go_meet
      refine ⟨?_, rfl⟩
      rw [h1]
      congr 1
      rw [Bool.eq_iff_iff]
      simp
      omega
  case rest =>
    obtain ⟨rfl, hwx⟩ := hcut
    obtain rfl := hwx.symm
    obtain ⟨b0, hb0⟩ : ∃ b, b = (isTm t && decide (ws.length ≤ 64)) := ⟨_, rfl⟩
    rw [← hb0]
    have hcom : comOk t ws = (b0 && wsOk ws) := by rw [hb0]; rfl
    have HCOM := Lib.hid hcom; clear hcom hb0 c0 c1 hwx
    go_wp2_with fail
    go_loopw [3, 4] (fun v3 v4 wr => ∃ (k : Nat) (o : Bool), k ≤ ws.length ∧ v4 = .int .i64 (k : Int) ∧ v3 = .bool o ∧ Hid ((o = true → b0 = true ∧ ∀ j, j < k → wAt ws j = true) ∧ (o = false → comOk t ws = false)) ∧ Below wb.heap.size wb wr) (fun _ v4 _ => ws.length - (intOf v4).toNat)
    case atStart =>
      refine ⟨0, b0, by omega, rfl, rfl, Lib.hid ⟨fun h => ⟨h, fun j hj => by omega⟩, fun h => ?_⟩, Below.refl _ _⟩
      rw [HCOM.out, h]; rfl
    case round =>
      obtain ⟨k, o, hk, rfl, rfl, HJ, hb⟩ := hrel
      have HB := Lib.hid hb; clear hb
      have hcr := heap_below HC.out HB.out
      have c1 := box_cells hcr 1 (.slice A ws.length c) rfl
      have HCR := Lib.hid hcr; clear hcr
      by_cases hlt : k < ws.length
      · have t1 : decide ((k : Int) < (ws.length : Int)) = true := by simp; omega
        cases o with
        | false =>
          have hno := HJ.out.2 rfl
          have HNO := Lib.hid hno; clear hno
          go_wp2_with fail
          go_ret
          exact ⟨ret_bool HNO.out.symm, HBB.out.trans (HB.out.mono HBB.out.size)⟩
        | true =>
          obtain ⟨hb0, hall⟩ := HJ.out.1 rfl
          have HALL := Lib.hid hall; clear hall
          have HB0' := Lib.hid hb0; clear hb0
          obtain ⟨ad, c', he, _, _, hp0, hp1, hp2⟩ := (HR.out.below HB.out).elem (j := k) (by rw [List.length_map]; exact hlt)
          rw [List.length_map] at he
          injection he with e1 e2 e3
          subst e1
          rw [List.getElem_map] at hp0 hp1 hp2
          obtain ⟨x, hx⟩ : ∃ x, x = ws[k] := ⟨_, rfl⟩
          rw [← hx] at hp0 hp1 hp2
          simp only [wV] at hp0 hp1 hp2
          clear e2 e3
          have hwa : wAt ws k = (wOk x && (k == 0 || (match ws[k - 1]? with | none => true | some p => Op.bytesLess p.key x.key))) := by unfold wAt; rw [List.getElem?_eq_getElem hlt, ← hx]; rfl
          have HWA := Lib.hid hwa; clear hwa
          have hkl := HKL.out ws[k] (List.getElem_mem hlt)
          rw [← hx] at hkl
          have HX := Lib.hid hx; clear hx
          obtain ⟨w0, hw0⟩ : ∃ w0, w0 = wr.alloc (.cells #[.string (bs x.key), .string (bs x.val), .bool x.gone] 66) := ⟨_, rfl⟩
          obtain ⟨B, hB⟩ : ∃ B, B = wr.heap.size := ⟨_, rfl⟩
          have hbl : Below wr.heap.size wr w0 := by rw [hw0]; exact (Below.refl _ _).alloc (Nat.le_refl _) _
          have hx0 : w0.heap[B]? = some (.cells #[.string (bs x.key), .string (bs x.val), .bool x.gone] 66 (0, 0)) := by rw [hw0, hB]; exact heap_alloc_new wr _
          have HB0 := Lib.hid (HB.out.trans (hbl.mono HB.out.size))
          have HR0 := Lib.hid ((HR.out.below HB.out).below hbl)
          have y1 := box_cells (heap_below HCR.out hbl) 1 (.slice (some ad) ws.length c) rfl
          have x0 := box_cells hx0 0 (.string (bs x.key)) rfl
          have x1 := box_cells hx0 1 (.string (bs x.val)) rfl
          have x2 := box_cells hx0 2 (.bool x.gone) rfl
          have k1 := fun q => (refIsKey_any x.key (w0.drewN q) (by omega)).mono (fun _ _ h => (⟨h.1, h.2.symm⟩ : _ ∧ _))
          have k2 := fun q => (refIsVal_any x.val (w0.drewN q)).mono (fun _ _ h => (⟨h.1, h.2.symm⟩ : _ ∧ _))
          clear hbl hx0
          go_upto_block 1 with fail
          go_cut [3] (fun v3 wx => v3 = .bool (wAt ws k) ∧ Below wb.heap.size wb wx)
          case first =>
            go_upto_region 6 with fail
            rw [← hw0, ← hB]
            have HW0 := Lib.hid hw0; clear hw0
            have HBX := Lib.hid hB; clear hB
            clear c1 hp0 hp1 hp2
            cases h1 : isKey x.key
            · rw [h1] at k1
              have hf : wAt ws k = false := by rw [HWA.out]; unfold wOk; rw [h1]; simp
              have HF := Lib.hid hf; clear hf
              go_quiet ((first | (go_at_call 50; exact Calls.quiet_of_same (k1 _)) | (go_at_call 52; exact Calls.quiet_of_same (k2 _))))
              go_wp2_with fail
              go_meet
              exact ⟨bool_eq (by rw [HF.out]), below_drewN HB0.out _⟩
            · rw [h1] at k1
              cases h2 : isVal x.val
              · rw [h2] at k2
                have hf : wAt ws k = false := by rw [HWA.out]; unfold wOk; rw [h1, h2]; simp
                have HF := Lib.hid hf; clear hf
                go_quiet ((first | (go_at_call 50; exact Calls.quiet_of_same (k1 _)) | (go_at_call 52; exact Calls.quiet_of_same (k2 _))))
                go_wp2_with fail
                go_meet
                exact ⟨bool_eq (by rw [HF.out]), below_drewN HB0.out _⟩
              · rw [h2] at k2
                cases h3 : x.gone
                · rw [h3] at x2
                  have hok : wOk x = true := by unfold wOk; rw [h1, h2, h3]; rfl
                  rcases k with _ | j
                  · have hf : wAt ws 0 = true := by rw [HWA.out]; rw [hok]; simp
                    have HF := Lib.hid hf; clear hf
                    go_quiet ((first | (go_at_call 50; exact Calls.quiet_of_same (k1 _)) | (go_at_call 52; exact Calls.quiet_of_same (k2 _))))
                    go_wp2_with fail
                    go_meet
                    exact ⟨bool_eq (by rw [HF.out]), below_drewN HB0.out _⟩
                  · obtain ⟨ad2, c2, he2, hc1, hc2, hp0, hp1, hp2⟩ := HR0.out.elem (j := j) (by rw [List.length_map]; omega)
                    injection he2 with f1 f2 f3
                    injection f1 with f1
                    subst f1
                    have hj : j < ws.length := by omega
                    obtain ⟨p, hp⟩ : ∃ p, p = ws[j] := ⟨_, rfl⟩
                    have hpk : (ws.map wV)[j]'(by rw [List.length_map]; omega) = wV p := by rw [List.getElem_map, hp]
                    rw [hpk] at hp0
                    change w0.cell? (ad.add (j * 3)) = some (.string (bs p.key)) at hp0
                    have hws : ws[j + 1 - 1]? = some p := by rw [Nat.add_sub_cancel, List.getElem?_eq_getElem hj, hp]
                    have e1 : ((j + 1 : Nat) : Int) - 1 = (j : Int) := by omega
                    have e0 : (((j + 1 : Nat) : Int) == 0) = false := by rw [beq_eq_false_iff_ne]; omega
                    have e2 : ((j : Int) + 1 == 0) = false := by rw [beq_eq_false_iff_ne]; omega
                    have HHP := Lib.hid hp; clear hp hpk hp1 hp2 f2 f3
                    cases hlt : Op.bytesLess p.key x.key
                    · have hf : wAt ws (j + 1) = false := by rw [HWA.out]; rw [hok, hws]; simp only; rw [hlt]; rfl
                      have HF := Lib.hid hf; clear hf
                      go_quiet ((first | (go_at_call 50; exact Calls.quiet_of_same (k1 _)) | (go_at_call 52; exact Calls.quiet_of_same (k2 _))))
                      go_wp2_with fail
                      go_meet
                      exact ⟨bool_eq (by rw [HF.out]), below_drewN HB0.out _⟩
                    · have hf : wAt ws (j + 1) = true := by rw [HWA.out]; rw [hok, hws]; simp only; rw [hlt]; rfl
                      have HF := Lib.hid hf; clear hf
                      go_quiet ((first | (go_at_call 50; exact Calls.quiet_of_same (k1 _)) | (go_at_call 52; exact Calls.quiet_of_same (k2 _))))
                      go_wp2_with fail
                      go_meet
                      exact ⟨bool_eq (by rw [HF.out]), below_drewN HB0.out _⟩
                · rw [h3] at x2
                  cases h4 : x.val.isEmpty
                  · have hf : wAt ws k = false := by rw [HWA.out]; unfold wOk; rw [h1, h2, h3, h4]; simp
                    have HF := Lib.hid hf; clear hf
                    go_quiet ((first | (go_at_call 50; exact Calls.quiet_of_same (k1 _)) | (go_at_call 52; exact Calls.quiet_of_same (k2 _))))
                    go_wp2_with fail
                    go_meet
                    exact ⟨bool_eq (by rw [HF.out]), below_drewN HB0.out _⟩
                  · have hok : wOk x = true := by unfold wOk; rw [h1, h2, h3, h4]; rfl
                    rcases k with _ | j
                    · have hf : wAt ws 0 = true := by rw [HWA.out]; rw [hok]; simp
                      have HF := Lib.hid hf; clear hf
                      go_quiet ((first | (go_at_call 50; exact Calls.quiet_of_same (k1 _)) | (go_at_call 52; exact Calls.quiet_of_same (k2 _))))
                      go_wp2_with fail
                      go_meet
                      exact ⟨bool_eq (by rw [HF.out]), below_drewN HB0.out _⟩
                    · obtain ⟨ad2, c2, he2, hc1, hc2, hp0, hp1, hp2⟩ := HR0.out.elem (j := j) (by rw [List.length_map]; omega)
                      injection he2 with f1 f2 f3
                      injection f1 with f1
                      subst f1
                      have hj : j < ws.length := by omega
                      obtain ⟨p, hp⟩ : ∃ p, p = ws[j] := ⟨_, rfl⟩
                      have hpk : (ws.map wV)[j]'(by rw [List.length_map]; omega) = wV p := by rw [List.getElem_map, hp]
                      rw [hpk] at hp0
                      change w0.cell? (ad.add (j * 3)) = some (.string (bs p.key)) at hp0
                      have hws : ws[j + 1 - 1]? = some p := by rw [Nat.add_sub_cancel, List.getElem?_eq_getElem hj, hp]
                      have e1 : ((j + 1 : Nat) : Int) - 1 = (j : Int) := by omega
                      have e0 : (((j + 1 : Nat) : Int) == 0) = false := by rw [beq_eq_false_iff_ne]; omega
                      have e2 : ((j : Int) + 1 == 0) = false := by rw [beq_eq_false_iff_ne]; omega
                      have HHP := Lib.hid hp; clear hp hpk hp1 hp2 f2 f3
                      cases hlt : Op.bytesLess p.key x.key
                      · have hf : wAt ws (j + 1) = false := by rw [HWA.out]; rw [hok, hws]; simp only; rw [hlt]; rfl
                        have HF := Lib.hid hf; clear hf
                        go_quiet ((first | (go_at_call 50; exact Calls.quiet_of_same (k1 _)) | (go_at_call 52; exact Calls.quiet_of_same (k2 _))))
                        go_wp2_with fail
                        go_meet
                        exact ⟨bool_eq (by rw [HF.out]), below_drewN HB0.out _⟩
                      · have hf : wAt ws (j + 1) = true := by rw [HWA.out]; rw [hok, hws]; simp only; rw [hlt]; rfl
                        have HF := Lib.hid hf; clear hf
                        go_quiet ((first | (go_at_call 50; exact Calls.quiet_of_same (k1 _)) | (go_at_call 52; exact Calls.quiet_of_same (k2 _))))
                        go_wp2_with fail
                        go_meet
                        exact ⟨bool_eq (by rw [HF.out]), below_drewN HB0.out _⟩
          case rest =>
            obtain ⟨rfl, hb1⟩ := hcut
            have HB1 := Lib.hid hb1; clear hb1 x0 x1 x2 y1
            go_wp2_with fail
            go_roundw
            case rel =>
              refine ⟨k + 1, wAt ws k, by omega, by go_num, rfl, Lib.hid ⟨fun h => ⟨HB0'.out, fun j hj => ?_⟩, fun h => ?_⟩, HB1.out⟩
              · rcases Nat.lt_or_ge j k with h2 | h2
                · exact HALL.out j h2
                · rw [show j = k from by omega]; exact h
              · rw [HCOM.out, wsOk_no hlt h]; simp
            case measure => simp [intOf]; omega
      · have t1 : decide ((k : Int) < (ws.length : Int)) = false := by simp; omega
        have hfin : o = comOk t ws := by
          cases o with
          | false => exact (HJ.out.2 rfl).symm
          | true =>
            obtain ⟨h1, h2⟩ := HJ.out.1 rfl
            rw [HCOM.out, h1, (wsOk_iff ws).2 (fun j hj => h2 j (by omega))]; rfl
        have HFIN := Lib.hid hfin; clear hfin
        go_wp2_with fail
        go_ret
        exact ⟨ret_bool HFIN.out, HBB.out.trans (HB.out.mono HBB.out.size)⟩
end Go.Proofs.Ytggjipfdfpdecaa
/- The walk of the document's Commit; record's Commit. -/
set_option linter.unusedVariables false
namespace Go.Proofs.Ytggjipfdfpdecaa
open Go.RowKit
attribute [local go_sem] bs_list bs_size

/-- What Commit answers. -/
def ComA (w : World) (d : (Nat × List Wri) × Nat × Nat) (e : Ending) (w' : World) : Prop :=
  ∃ v, e = .returned (.tuple #[.agg #[.int .i64 (d.1.1 : Nat), v], .int .i64 (d.2.1 : Nat), .int .i64 (d.2.2 : Nat)]) ∧ Own3 w' w.heap.size 66 v (d.1.2.map wV) ∧ Below w.heap.size w w'

set_option maxRecDepth 100000 in
set_option maxHeartbeats 1000000 in
theorem rcom_any (v : Value) (b : List UInt8) (w : World) (hr : RdB w v b) (hl : b.length ≤ 140737488355328) :
    Calls Try.prog 56 #[v] w (ComA w (decCom b)) := by
  obtain ⟨A, c, rfl, _, _, _⟩ := id hr
  obtain ⟨H, hH⟩ : ∃ H, H = w.heap.size := ⟨_, rfl⟩
  obtain ⟨w0, hw0⟩ : ∃ w0, w0 = w.alloc (.cells #[.int .i64 0, .slice none 0 0] 64) := ⟨_, rfl⟩
  have hb0 : Below w.heap.size w w0 := by rw [hw0]; exact (Below.refl _ _).alloc (Nat.le_refl _) _
  have hx0 : w0.heap[H]? = some (.cells #[.int .i64 0, .slice none 0 0] 64 (0, 0)) := by rw [hw0, hH]; exact heap_alloc_new w _
  have ht := takeCom_any A c b w0 (hr.below hb0) hl
  obtain ⟨⟨⟨t, ws⟩, at_, code⟩, hd⟩ : ∃ d, d = decCom b := ⟨_, rfl⟩
  rw [← hd] at ht ⊢
  simp only at ht
  have HB0 := Lib.hid hb0; clear hb0
  have HX0 := Lib.hid hx0; clear hx0
  have HT := Lib.hid ht; clear ht hd
  go_enter Try.func56, Try.ntmps56
  go_wp2_with fail
  rw [← hH]
  rw [← hw0]
  have HH := Lib.hid hH; clear hw0 hH
  refine HT.out.mono ?_
  rintro e w1 ⟨v, rfl, ho1, hb1⟩
  have HX1 := Lib.hid (heap_below HX0.out hb1)
  have HB1 := Lib.hid (HB0.out.trans (hb1.mono HB0.out.size))
  obtain ⟨Av, cv, rfl, _, _, _⟩ := id ho1.rd
  rw [List.length_map] at ho1 ⊢
  have HO1 := Lib.hid (ho1.base HB0.out.size)
  clear ho1 hb1
  have r0 := box_cells HX1.out 0 (.int .i64 0) rfl
  have r1 := box_cells HX1.out 1 (.slice none 0 0) rfl
  have rf : ∀ i, w1.frozen? ⟨H, i, none⟩ = false := by intro i; have := HX1.out; simp [World.frozen?, this]
  have hfin := set2 HX1.out (.int .i64 (t : Int)) (.slice Av ws.length cv)
  have HBL := Lib.hid (blw HB1.out hfin.2 (by rw [HH.out]; exact Nat.le_refl _) (Nat.le_refl _))
  have HFI := Lib.hid hfin; clear hfin
  go_wp2_with fail
  refine bodyPost_ret (v := .tuple #[.agg #[.int .i64 (t : Int), .slice Av ws.length cv], .int .i64 at_, .int .i64 code]) (by simp [results, Try.results56, go_sem, *]) rfl ?_
  have ho5 := HO1.out.grown HFI.out.2 (HO1.out.ne_ HX1.out (by decide))
  exact ⟨_, rfl, ho5, HBL.out⟩

theorem RfSt.move {w1 w2 : World} {g : Nat} {A : Option Addr} {c : Nat} {b : List UInt8} {s : RS} (h : RfSt w1 g A c b s) (hg : w2.heap[g]? = w1.heap[g]?) (hr : RdB w2 (.slice A b.length c) b) : RfSt w2 g A c b s := by
  rcases h with ⟨h1, h2⟩ | ⟨h1, a, h3, h2⟩
  · exact .inl ⟨h1, hg.trans h2.1, hr⟩
  · exact .inr ⟨h1, a, h3, hg.trans h2.1, hr⟩
theorem RfSt.ne_ {w : World} {g R : Nat} {A : Option Addr} {c : Nat} {b : List UInt8} {s : RS} {cs : Array Value} {t : TypeId} {fr : Nat × Nat} (h : RfSt w g A c b s) (hR : w.heap[R]? = some (.cells cs t fr)) (ht : t ≠ 125) : R ≠ g := by
  rintro rfl
  rcases h with ⟨h1, h2⟩ | ⟨h1, a, h3, h2⟩
  · rw [h2.1] at hR
    injection hR with hR
    injection hR with _ h2 _
    exact ht h2.symm
  · rw [h2.1] at hR
    injection hR with hR
    injection hR with _ h2 _
    exact ht h2.symm

set_option maxRecDepth 100000 in
set_option maxHeartbeats 4000000 in
theorem fcom_any (v : Value) (b : List UInt8) (w : World) (hr : RdB w v b) (hl : b.length ≤ 140737488355328) :
    Calls Try.prog 57 #[v] w (ComA w (decCom b)) := by
  obtain ⟨A, c, rfl, _, _, _⟩ := id hr
  obtain ⟨H, hH⟩ : ∃ H, H = w.heap.size := ⟨_, rfl⟩
  obtain ⟨w0, hw0⟩ : ∃ w0, w0 = w.alloc (.cells #[.int .i64 0, .slice none 0 0] 64) := ⟨_, rfl⟩
  have hb0 : Below w.heap.size w w0 := by rw [hw0]; exact (Below.refl _ _).alloc (Nat.le_refl _) _
  have hx0 : w0.heap[H]? = some (.cells #[.int .i64 0, .slice none 0 0] 64 (0, 0)) := by rw [hw0, hH]; exact heap_alloc_new w _
  have HB0 := Lib.hid hb0
  have HX0 := Lib.hid hx0
  have HRD := Lib.hid (hr.below hb0)
  have HRW := Lib.hid (fun (W : World) (h : Below w.heap.size w W) => hr.below h)
  clear hb0 hx0
  obtain ⟨s0, hs0⟩ : ∃ s, s = startC b 67 := ⟨_, rfl⟩
  have ha0 : s0.at_ ≤ 140737488355328 := by rw [hs0]; have := startC_at b 67; omega
  obtain ⟨⟨t, s1⟩, ht⟩ : ∃ p, p = rNum b 1099511627775 s0 := ⟨_, rfl⟩
  have ha1 : s1.at_ ≤ 140737488355328 := by have := rNum_at b 1099511627775 s0; rw [← ht] at this; simp only at this; omega
  obtain ⟨⟨N, s2⟩, hn⟩ : ∃ p, p = rNum b 64 s1 := ⟨_, rfl⟩
  have ha2 : s2.at_ ≤ 140737488355328 := by have := rNum_at b 64 s1; rw [← hn] at this; simp only at this; omega
  have hN64 : N ≤ 64 := by have := rNum_le b 64 s1; rw [← hn] at this; exact this
  have hq : rCom b s0 = ((t, (rList (rWri b) N s2).1), (rList (rWri b) N s2).2) := by unfold rCom; rw [← ht]; simp only; rw [← hn]
  have hd : decCom b = ansC (0, []) (t, (rList (rWri b) N s2).1) (endC b (rList (rWri b) N s2).2 (comOk (t : Nat) (rList (rWri b) N s2).1)) := by unfold decCom; rw [← hs0, hq]
  have HD := Lib.hid hd
  have HQ := Lib.hid hq
  have HT := Lib.hid ht
  have HN := Lib.hid hn
  have HS0 := Lib.hid hs0
  clear hd hq ht hn hs0
  go_enter Try.func57, Try.ntmps57
  go_wp2_with fail
  rw [← hH]
  rw [← hw0]
  have HH := Lib.hid hH; clear hw0 hH hr
  have hle : w.heap.size ≤ w.heap.size := Nat.le_refl _
  have hwH : w.heap.size ≤ H := by rw [HH.out]; exact hle
  refine (begin_any A c b 67 w0 HRD.out hl).mono ?_
  rintro e w1 ⟨g, rfl, hg, hs, hb⟩
  rw [← HS0.out] at hs
  have hHg : H ≠ g := by have := (Array.getElem?_eq_some_iff.1 HX0.out).1; omega
  have hwg : w.heap.size ≤ g := by have := HB0.out.size; omega
  have HX1 := Lib.hid (heap_below HX0.out hb)
  have HB1 := Lib.hid (HB0.out.trans (hb.mono HB0.out.size))
  have HS1 := Lib.hid hs; clear hs hb hg
  go_wp2_with fail
  refine (fnum_any g A c b s0 1099511627775 w1 HS1.out hl (by omega) ha0).mono ?_
  rintro e w2 ⟨rfl, hs, hg2⟩
  rw [← HT.out] at hs ⊢
  simp only at hs ⊢
  have HX2 := Lib.hid (heap_grown HX1.out hg2 hHg)
  have HB2 := Lib.hid (blw HB1.out hg2 hwg hle)
  have HS2 := Lib.hid hs; clear hs hg2
  obtain ⟨w3, hw3⟩ : ∃ w3, w3 = w2.alloc (.cells #[.int .i64 (t : Int), .slice none 0 0] 64) := ⟨_, rfl⟩
  obtain ⟨X, hX⟩ : ∃ X, X = w2.heap.size := ⟨_, rfl⟩
  have hb3 : Below w2.heap.size w2 w3 := by rw [hw3]; exact (Below.refl _ _).alloc (Nat.le_refl _) _
  have hx3 : w3.heap[X]? = some (.cells #[.int .i64 (t : Int), .slice none 0 0] 64 (0, 0)) := by rw [hw3, hX]; exact heap_alloc_new w2 _
  have hXH : H ≠ X := by have := (Array.getElem?_eq_some_iff.1 HX2.out).1; omega
  have hXg : X ≠ g := by have := HS2.out.lt; omega
  have hwX : w.heap.size ≤ X := by rw [hX]; exact HB2.out.size
  have HY3 := Lib.hid hx3; clear hx3
  have HX3 := Lib.hid (heap_below HX2.out hb3)
  have HS3 := Lib.hid (HS2.out.keep hb3)
  have HB3 := Lib.hid (HB2.out.trans (hb3.mono HB2.out.size)); clear hb3
  go_upto_region 3 with fail
  rw [← hw3, ← hX]
  have HW3 := Lib.hid hw3; clear hw3
  have HXe := Lib.hid hX; clear hX
  go_wp2_with fail
  refine (fnum_any g A c b s1 64 w3 HS3.out hl (by omega) ha1).mono ?_
  rintro e w4 ⟨rfl, hs, hg4⟩
  rw [← HN.out] at hs ⊢
  simp only at hs ⊢
  have HX4 := Lib.hid (heap_grown HX3.out hg4 hHg)
  have HY4 := Lib.hid (heap_grown HY3.out hg4 hXg)
  have HB4 := Lib.hid (blw HB3.out hg4 hwg hle)
  have HS4 := Lib.hid hs; clear hs hg4
  obtain ⟨base, hbase⟩ : ∃ x, x = w.heap.size := ⟨_, rfl⟩
  have HBE := Lib.hid hbase; clear hbase
  go_upto_block 0 with fail
  go_cut [5] (fun v5 wx => v5 = .pointer (some ⟨g, 0, none⟩) ∧ ∃ sv, wx.heap[X]? = some (.cells #[.int .i64 (t : Int), sv] 64 (0, 0)) ∧ wx.heap[H]? = some (.cells #[.int .i64 0, .slice none 0 0] 64 (0, 0)) ∧ Own3 wx w.heap.size 66 sv ((rList (rWri b) N s2).1.map wV) ∧ RfSt wx g A c b (rList (rWri b) N s2).2 ∧ Below w.heap.size w wx)
  case first =>
    go_wp2_with fail
    go_loopw [8] (fun v8 wr => ∃ j : Nat, j ≤ N ∧ v8 = .int .i64 (j : Int) ∧ ∃ sv, wr.heap[X]? = some (.cells #[.int .i64 (t : Int), sv] 64 (0, 0)) ∧ wr.heap[H]? = some (.cells #[.int .i64 0, .slice none 0 0] 64 (0, 0)) ∧ Own3 wr w.heap.size 66 sv ((rList (rWri b) j s2).1.map wV) ∧ RfSt wr g A c b (rList (rWri b) j s2).2 ∧ Below w.heap.size w wr) (fun v8 _ => N - (intOf v8).toNat)
    case atStart => exact ⟨0, by omega, rfl, _, HY4.out, HX4.out, Own3.nil _ _ _, HS4.out, HB4.out⟩
    case round =>
      obtain ⟨j, hj, rfl, sv, hx, hh, ho, hs, hb⟩ := hrel
      obtain ⟨⟨xs, sj⟩, hq⟩ : ∃ p, p = rList (rWri b) j s2 := ⟨_, rfl⟩
      have hxl : xs.length ≤ 64 := by have := rList_len (rWri b) j s2; rw [← hq] at this; simp only at this; omega
      have haj : sj.at_ ≤ 140737488355328 := by have := rList_at b (rWri b) (rWri_at b) j s2; rw [← hq] at this; simp only at this; omega
      have hsn := rList_snoc (rWri b) j s2
      have hst := fun h => rList_stop (rWri b) N j s2 hj h
      rw [← hq] at ho hs hsn hst
      simp only at ho hs hsn hst
      have HSN := Lib.hid hsn
      have HST := Lib.hid hst
      have HJQ := Lib.hid hq
      obtain ⟨A7, c7, rfl, _, _, _⟩ := id ho.rd
      rw [List.length_map] at hx ho
      have HX := Lib.hid hx
      have HHH := Lib.hid hh
      have HO := Lib.hid ho
      have HSJ := Lib.hid hs
      have HB := Lib.hid hb
      clear hsn hst hq hx hh ho hs hb
      obtain ⟨aj, bj⟩ := sj
      by_cases hjN : j < N
      · have t1 : decide ((j : Int) < (N : Int)) = true := by simp; omega
        cases bj with
        | true =>
          have hfin := HST.out rfl
          have HFIN := Lib.hid hfin
          obtain ⟨-, a2, ha2', hc2⟩ := HSJ.out.resolve_left (fun h => by cases h.1)
          have c2 := hc2.c2
          simp only at c2
          have t2 : decide ((aj : Int) < 0) = false := by simp
          clear hfin hc2
          go_wp2_with fail
          go_meet
          refine ⟨rfl, _, HX.out, HHH.out, ?_, ?_, HB.out⟩
          · rw [HFIN.out]; exact HO.out
          · rw [HFIN.out]; exact HSJ.out
        | false =>
          have hnx := HSN.out rfl
          obtain ⟨-, hc2⟩ := HSJ.out.resolve_right (fun h => by cases h.1)
          have c2 := hc2.c2
          have HNX := Lib.hid hnx
          have HSN' := Lib.hid HSN; clear HSN HST
          obtain ⟨⟨f, q1⟩, hf⟩ : ∃ p, p = rFlag b ⟨aj, false⟩ := ⟨_, rfl⟩
          have hq1 : q1.at_ ≤ 140737488355328 := by have := rFlag_at b ⟨aj, false⟩; rw [← hf] at this; simp only at this haj; omega
          obtain ⟨⟨k, q2⟩, hk⟩ : ∃ p, p = rTxt b 16 q1 := ⟨_, rfl⟩
          have hq2 : q2.at_ ≤ 140737488355328 := by have := rTxt_at b 16 q1; rw [← hk] at this; simp only at this; omega
          obtain ⟨⟨v, q3⟩, hv⟩ : ∃ p, p = rTxt b 64 q2 := ⟨_, rfl⟩
          have hw1 : rWri b ⟨aj, false⟩ = if f = true then (⟨k, [], true⟩, q2) else (⟨k, v, false⟩, q3) := by unfold rWri; rw [← hf]; simp only; rw [← hk]; simp only; rw [← hv]
          have HW1 := Lib.hid hw1
          have HF := Lib.hid hf
          have HK := Lib.hid hk
          have HV := Lib.hid hv
          have hsz : w.heap.size ≤ wr.heap.size := HB.out.size
          clear hc2 hnx hf hk hv hw1
          go_wp2_with fail
          refine (fflag_any g A c b ⟨aj, false⟩ wr HSJ.out hl haj).mono ?_
          rintro e u1 ⟨rfl, hs1, hg1⟩
          rw [← HF.out] at hs1 ⊢
          simp only at hs1 ⊢
          have HU1 := Lib.hid hs1
          have HX1' := Lib.hid (heap_grown HX.out hg1 hXg)
          have HH1' := Lib.hid (heap_grown HHH.out hg1 hHg)
          have hgv : ∀ (W : World) (s : RS) (hs : RfSt W g A c b s) (xs : List V3) (sv : Value) (ho : Own3 W w.heap.size 66 sv xs), sv.ownBlock ≠ some g := by
            intro W s hs xs sv ho
            rcases hs with ⟨_, h⟩ | ⟨_, a, _, h⟩
            · exact ho.ne_ h.1 (by decide)
            · exact ho.ne_ h.1 (by decide)
          have HGV := Lib.hid hgv; clear hgv
          have HO1' := Lib.hid (HO.out.grown hg1 (HGV.out _ _ HSJ.out _ _ HO.out))
          have HB1' := Lib.hid (blw HB.out hg1 hwg hle)
          clear hs1 hg1
          obtain ⟨u2, hu2⟩ : ∃ u2, u2 = u1.alloc (.cells #[.string (bs []), .string (bs []), .bool f] 66) := ⟨_, rfl⟩
          obtain ⟨Y, hY⟩ : ∃ Y, Y = u1.heap.size := ⟨_, rfl⟩
          have hbu : Below u1.heap.size u1 u2 := by rw [hu2]; exact (Below.refl _ _).alloc (Nat.le_refl _) _
          have hy2 : u2.heap[Y]? = some (.cells #[.string (bs []), .string (bs []), .bool f] 66 (0, 0)) := by rw [hu2, hY]; exact heap_alloc_new u1 _
          have hYg : Y ≠ g := by have := HU1.out.lt; omega
          have hYX : Y ≠ X := by have := (Array.getElem?_eq_some_iff.1 HX1'.out).1; omega
          have hYH : Y ≠ H := by have := (Array.getElem?_eq_some_iff.1 HH1'.out).1; omega
          have hwY : w.heap.size ≤ Y := by rw [hY]; exact HB1'.out.size
          have hvY : (Value.slice A7 xs.length c7).ownBlock ≠ some Y := by
            intro e
            have := (World.ownsRow.lt HO1'.out Y e).2
            omega
          have HY2 := Lib.hid hy2
          have HX2' := Lib.hid (heap_below HX1'.out hbu)
          have HH2' := Lib.hid (heap_below HH1'.out hbu)
          have HO2' := Lib.hid (HO1'.out.below hbu)
          have HU2 := Lib.hid (HU1.out.keep hbu)
          have HB2' := Lib.hid (HB1'.out.trans (hbu.mono HB1'.out.size))
          clear hbu hy2
          go_upto_region 8 with fail
          simp only [bs_nil]
          rw [← hu2, ← hY]
          have HUE := Lib.hid hu2; clear hu2
          have HYE := Lib.hid hY; clear hY
          go_wp2_with fail
          refine (ftext_any g A c b q1 16 u2 HU2.out hl (by omega) hq1).mono ?_
          rintro e u3 ⟨rfl, hs3, hg3⟩
          rw [← HK.out] at hs3 ⊢
          simp only at hs3 ⊢
          have HY3' := Lib.hid (heap_grown HY2.out hg3 hYg)
          have HX3' := Lib.hid (heap_grown HX2'.out hg3 hXg)
          have HH3' := Lib.hid (heap_grown HH2'.out hg3 hHg)
          have HO3' := Lib.hid (HO2'.out.grown hg3 (HGV.out _ _ HU2.out _ _ HO2'.out))
          have HB3' := Lib.hid (blw HB2'.out hg3 hwg hle)
          obtain ⟨u4, hu4⟩ : ∃ u4, u4 = u3.setCell ⟨Y, 0, none⟩ (.string (bs k)) := ⟨_, rfl⟩
          have hg4 : u3.grownBy u4 (some Y) := by rw [hu4]; exact only_one _ _ _ _
          have hy4 : u4.heap[Y]? = some (.cells #[.string (bs k), .string (bs []), .bool f] 66 (0, 0)) := by rw [hu4]; exact set_at HY3'.out 0 _
          have HU4 := Lib.hid (hs3.other HY3'.out (noByte3 (str_bv _) (str_bv _) (bool_bv _)) (fun e => hYg e.symm) hg4)
          have HX4' := Lib.hid (heap_grown HX3'.out hg4 (fun e => hYX e.symm))
          have HH4' := Lib.hid (heap_grown HH3'.out hg4 (fun e => hYH e.symm))
          have HO4' := Lib.hid (HO3'.out.grown hg4 hvY)
          have HB4' := Lib.hid (blw HB3'.out hg4 hwY hle)
          have HY4' := Lib.hid hy4
          have f3 : u3.frozen? ⟨Y, 0, none⟩ = false := by have := HY3'.out; simp [World.frozen?, this]
          have c3 := box_cells HY3'.out 0 (.string (bs [])) rfl
          clear hs3 hg3 hg4 hy4
          go_upto_region 9 with fail
          rw [← hu4]
          have HUE4 := Lib.hid hu4; clear hu4 f3 c3
          obtain ⟨⟨x, sx⟩, hx⟩ : ∃ p, p = rWri b ⟨aj, false⟩ := ⟨_, rfl⟩
          have hw1 := HW1.out
          have hnx := HNX.out
          rw [← hx] at hw1 hnx
          simp only at hnx
          have HW2 := Lib.hid hw1
          have HNX2 := Lib.hid hnx
          have y2 := box_cells HY4'.out 2 (.bool f) rfl
          clear hx hw1 hnx
          go_upto_if 39 with fail
          go_cut [9] (fun v9 wx => v9 = .pointer (some ⟨Y, 0, none⟩) ∧ wx.heap[Y]? = some (.cells #[.string (bs x.key), .string (bs x.val), .bool x.gone] 66 (0, 0)) ∧ RfSt wx g A c b sx ∧ wx.heap[X]? = some (.cells #[.int .i64 (t : Int), .slice A7 xs.length c7] 64 (0, 0)) ∧ wx.heap[H]? = some (.cells #[.int .i64 0, .slice none 0 0] 64 (0, 0)) ∧ Own3 wx w.heap.size 66 (.slice A7 xs.length c7) (xs.map wV) ∧ Below w.heap.size w wx)
          case first =>
            cases f with
            | true =>
              have hw1 := HW2.out
              rw [if_pos rfl] at hw1
              injection hw1 with hx1 hx2
              subst hx1 hx2
              go_wp2_with fail
              go_meet
              exact ⟨rfl, HY4'.out, HU4.out, HX4'.out, HH4'.out, HO4'.out, HB4'.out⟩
            | false =>
              have hw1 := HW2.out
              rw [if_neg (by simp)] at hw1
              injection hw1 with hx1 hx2
              subst hx1 hx2
              go_wp2_with fail
              refine (ftext_any g A c b q2 64 u4 HU4.out hl (by omega) hq2).mono ?_
              rintro e u5 ⟨rfl, hs5, hg5⟩
              rw [← HV.out] at hs5 ⊢
              simp only at hs5 ⊢
              have HY5' := Lib.hid (heap_grown HY4'.out hg5 hYg)
              have HX5' := Lib.hid (heap_grown HX4'.out hg5 hXg)
              have HH5' := Lib.hid (heap_grown HH4'.out hg5 hHg)
              have HO5' := Lib.hid (HO4'.out.grown hg5 (HGV.out _ _ HU4.out _ _ HO4'.out))
              have HB5' := Lib.hid (blw HB4'.out hg5 hwg hle)
              have hgs := only_one u5 Y 1 (.string (bs v))
              have HY6 := Lib.hid (set_at HY5'.out 1 (.string (bs v)))
              have HU6 := Lib.hid (hs5.other HY5'.out (noByte3 (str_bv _) (str_bv _) (bool_bv _)) (fun e => hYg e.symm) hgs)
              have HX6 := Lib.hid (heap_grown HX5'.out hgs (fun e => hYX e.symm))
              have HH6 := Lib.hid (heap_grown HH5'.out hgs (fun e => hYH e.symm))
              have HO6 := Lib.hid (HO5'.out.grown hgs hvY)
              have HB6 := Lib.hid (blw HB5'.out hgs hwY hle)
              have f5 : u5.frozen? ⟨Y, 1, none⟩ = false := by have := HY5'.out; simp [World.frozen?, this]
              have c5 := box_cells HY5'.out 1 (.string (bs [])) rfl
              clear hs5 hg5 hgs
              go_wp2_with fail
              go_meet
              exact ⟨rfl, HY6.out, HU6.out, HX6.out, HH6.out, HO6.out, HB6.out⟩
          case rest =>
            obtain ⟨rfl, hy, hu, hx, hh, ho, hb⟩ := hcut
            have HY7 := Lib.hid hy
            have HU7 := Lib.hid hu
            have HX7 := Lib.hid hx
            have HH7 := Lib.hid hh
            have HO7 := Lib.hid ho
            have HB7 := Lib.hid hb
            have hsz7 : w.heap.size ≤ wc.heap.size := hb.size
            have y0 := box_cells hy 0 (.string (bs x.key)) rfl
            have y1 := box_cells hy 1 (.string (bs x.val)) rfl
            have y2 := box_cells hy 2 (.bool x.gone) rfl
            have x1 := box_cells hx 1 (.slice A7 xs.length c7) rfl
            have hbA : Below wc.heap.size wc (wc.alloc (.cells #[.string (bs x.key), .string (bs x.val), .bool x.gone] 66)) := (Below.refl _ _).alloc (Nat.le_refl _) _
            have HXA := Lib.hid (heap_below hx hbA)
            clear hy hu hx hh ho hb hbA
            go_wp2_with (at_builtin; refine own3_append1 w.heap.size wc.heap.size rfl 62 66 40 _ Try.underlying62 info66 rfl rfl (.tmp 44) (.tmp 46) rfl _ (xs.map wV) (wV x) ?hy rfl rfl HO7.out ?hb ?hl1 ?hl2 ?_; (case hy => exact wV_one x); (case hb => exact hsz7); (case hl1 => rw [List.length_map]; omega); (case hl2 => rw [List.length_map]; omega); intro v3 w3' hown hb3 hg3 hat; have HO8 := Lib.hid hown; have HBL8 := Lib.hid hb3; have HGR8 := Lib.hid hg3; clear hown hb3 hg3 hat; have hx8 := (HGR8.out.block X (Array.getElem?_eq_some_iff.1 HX7.out).1 (fun e => HO7.out.ne_ HX7.out (by decide) e.symm)).trans HX7.out; have HX8 := Lib.hid hx8; have c8 := box_cells hx8 1 (.slice A7 xs.length c7) rfl; have f8 : w3'.frozen? ⟨X, 1, none⟩ = false := (by simp [World.frozen?, hx8]); clear hx8; obtain ⟨A8, c9, rfl, _, _, _⟩ := id HO8.out.rd)
            have hlen : (xs.map wV ++ [wV x]).length = xs.length + 1 := by simp
            have ho8 := HO8.out
            rw [hlen] at ho8
            have hH8 := (HGR8.out.block H (Array.getElem?_eq_some_iff.1 HH7.out).1 (fun e => HO7.out.ne_ HH7.out (by decide) e.symm)).trans HH7.out
            have hg8 : w3'.heap[g]? = wc.heap[g]? := HGR8.out.block g HU7.out.lt (fun e => HGV.out _ _ HU7.out _ _ HO7.out e.symm)
            have hset := only_one w3' X 1 (.slice A8 (xs.length + 1) c9)
            have hbl := (HB7.out.trans HBL8.out).setCell (p := ⟨X, 1, none⟩) hwX (.slice A8 (xs.length + 1) c9)
            refine ⟨⟨j + 1, by omega, by congr 1, _, set_at HX8.out 1 _, heap_grown hH8 hset hXH, ?_, ?_, hbl⟩, by simp [intOf]; omega⟩
            · rw [HNX2.out, List.map_append]
              exact ho8.grown hset (ho8.ne_ HX8.out (by decide))
            · rw [HNX2.out]
              exact HU7.out.move ((hset.block g (Nat.lt_of_lt_of_le HU7.out.lt HGR8.out.size) (fun e => hXg (Option.some.inj e).symm)).trans hg8) (HRW.out _ hbl)
      · have hjj : j = N := by omega
        have t1 : decide ((j : Int) < (N : Int)) = false := by simp; omega
        have hq := HJQ.out
        rw [hjj] at hq
        have HQ2 := Lib.hid hq; clear hq hjj
        go_wp2_with fail
        go_meet
        refine ⟨rfl, _, HX.out, HHH.out, ?_, ?_, HB.out⟩
        · rw [← HQ2.out]; exact HO.out
        · rw [← HQ2.out]; exact HSJ.out
  case rest =>
    obtain ⟨rfl, sv, hx5, hh5, ho5, hs5, hb5⟩ := hcut
    obtain ⟨⟨ws, s3⟩, hl5⟩ : ∃ p, p = rList (rWri b) N s2 := ⟨_, rfl⟩
    obtain ⟨hwl, hwb⟩ := rCom_bounds HQ.out.symm
    have ha3 : s3.at_ ≤ 140737488355328 := by have := rList_at b (rWri b) (rWri_at b) N s2; rw [← hl5] at this; simp only at this; omega
    have hd := HD.out
    rw [← hl5] at ho5 hs5 hd hwl hwb
    simp only at ho5 hs5 hd hwl hwb
    have HD2 := Lib.hid hd
    have HWB := Lib.hid hwb
    obtain ⟨Av, cv, rfl, _, _, _⟩ := id ho5.rd
    rw [List.length_map] at hx5 ho5
    have HX5 := Lib.hid hx5
    have HH5 := Lib.hid hh5
    have HO5 := Lib.hid ho5
    have HS5 := Lib.hid hs5
    have HB5 := Lib.hid hb5
    have y0 := box_cells hx5 0 (.int .i64 (t : Int)) rfl
    have y1 := box_cells hx5 1 (.slice Av ws.length cv) rfl
    clear hl5 hd hwb hx5 hh5 ho5 hs5 hb5
    go_wp2_with fail
    refine (rightComF_any (t : Int) _ ws _ HO5.out.rd (by omega) HWB.out).mono ?_
    rintro e w8 ⟨rfl, hb8⟩
    have HS8 := Lib.hid (HS5.out.keep hb8)
    have HX8 := Lib.hid (heap_below HX5.out hb8)
    have HH8 := Lib.hid (heap_below HH5.out hb8)
    have HO8 := Lib.hid (HO5.out.below hb8)
    have HB8 := Lib.hid (HB5.out.trans (hb8.mono HB5.out.size)); clear hb8 y0 y1
    go_wp2_with fail
    refine (end_any g A c b s3 (comOk (t : Int) ws) w8 HS8.out hl ha3).mono ?_
    rintro e w9 ⟨rfl, hg9⟩
    have HX9 := Lib.hid (heap_grown HX8.out hg9 hXg)
    have HH9 := Lib.hid (heap_grown HH8.out hg9 hHg)
    have HO9 := Lib.hid (HO8.out.grown hg9 (by
      rcases HS8.out with ⟨_, h⟩ | ⟨_, a, _, h⟩
      · exact HO8.out.ne_ h.1 (by decide)
      · exact HO8.out.ne_ h.1 (by decide)))
    have HB9 := Lib.hid (blw HB8.out hg9 hwg hle); clear hg9
    have r0 := box_cells HH9.out 0 (.int .i64 0) rfl
    have r1 := box_cells HH9.out 1 (.slice none 0 0) rfl
    have rf : ∀ i, w9.frozen? ⟨H, i, none⟩ = false := by intro i; have := HH9.out; simp [World.frozen?, this]
    have y0 := box_cells HX9.out 0 (.int .i64 (t : Int)) rfl
    have y1 := box_cells HX9.out 1 (.slice Av ws.length cv) rfl
    obtain ⟨⟨ea, ec⟩, he⟩ : ∃ p, p = endC b s3 (comOk (t : Int) ws) := ⟨_, rfl⟩
    have hea : ec = 0 → ea = 0 := by
      intro h
      unfold endC at he
      split at he
      · simp only [Prod.mk.injEq] at he; omega
      · split at he
        · simp only [Prod.mk.injEq] at he; omega
        · simp only [Prod.mk.injEq] at he; omega
    have hd := HD2.out
    rw [← he] at hd ⊢
    have HD3 := Lib.hid hd; clear he hd
    by_cases hc : ec = 0
    · have ha : ea = 0 := hea hc
      subst hc ha
      have hfin := set2 HH9.out (.int .i64 (t : Int)) (.slice Av ws.length cv)
      have HBL := Lib.hid (blw HB9.out hfin.2 hwH hle)
      have HOF := Lib.hid (HO9.out.grown hfin.2 (HO9.out.ne_ HH9.out (by decide)))
      clear hfin hea
      go_wp2_with fail
      refine bodyPost_ret (v := .tuple #[.agg #[.int .i64 (t : Int), .slice Av ws.length cv], .int .i64 0, .int .i64 0]) (by simp [results, Try.results57, go_sem, *]) rfl ?_
      rw [HD3.out]
      exact ⟨_, rfl, HOF.out, HBL.out⟩
    · have t1 : ((ec : Int) != 0) = true := by rw [bne_iff_ne]; omega
      have hfin := set2 HH9.out (.int .i64 0) (.slice none 0 0)
      have HBL := Lib.hid (blw HB9.out hfin.2 hwH hle); clear hfin hea
      go_wp2_with fail
      refine bodyPost_ret (v := .tuple #[.agg #[.int .i64 0, .slice none 0 0], .int .i64 (ea : Nat), .int .i64 (ec : Nat)]) (by simp [results, Try.results57, go_sem, *]) rfl ?_
      rw [HD3.out]
      unfold ansC ComA
      simp only
      rw [if_neg hc]
      exact ⟨_, rfl, Own3.nil _ _ _, HBL.out⟩
end Go.Proofs.Ytggjipfdfpdecaa
/- The walk of PutCommit's inner function: a write is written. -/
set_option linter.unusedVariables false
namespace Go.Proofs.Ytggjipfdfpdecaa
open Go.RowKit
attribute [local go_sem] bs_list bs_size

theorem app_heap {W w1 : World} {base g : Nat} {v : Value} {l : List UInt8} {cs : Array Value} {t : TypeId} {fr : Nat × Nat} (ho : Own W base v l) (hg : W.heap[g]? = some (.cells cs t fr)) (ht : t ≠ 5) (hgr : W.grownBy w1 v.ownBlock) : w1.heap[g]? = some (.cells cs t fr) := by
  refine (hgr.block g (Array.getElem?_eq_some_iff.1 hg).1 (fun e => ?_)).trans hg
  rcases ho.2 with ⟨rfl, _⟩ | ⟨g', cap, cur, rfl, _, hh, _⟩
  · simp [Value.ownBlock] at e
  · have : g' = g := by simpa [Value.ownBlock] using e.symm
    subst this
    rw [hg] at hh
    injection hh with hh
    injection hh with _ h2 _
    exact ht h2
theorem app_own {w1 : World} {base : Nat} {v : Value} {l : List UInt8} {n : Nat} {x : UInt8} (h : w1.ownsRow base 5 1 v n (bvs l ++ [bv x])) (hn : n = l.length + 1 := by rfl) : Own w1 base v (l ++ [x]) := by
  subst hn
  unfold Own
  rw [bvs_append, List.length_append]
  exact h

set_option maxRecDepth 100000 in
set_option maxHeartbeats 2000000 in
theorem pc1_gone (base g V : Nat) (l xk xv : List UInt8) (w : World) (hs : WrSt w base g l) (hv : w.heap[V]? = some (.cells #[.pointer (some ⟨g, 0, none⟩)] 104 (0, 0))) (hb : base ≤ w.heap.size) (hl : l.length ≤ 1048576) (hkl : xk.length ≤ 1048576) (hvl : xv.length ≤ 1048576) :
    Calls Try.prog 85 #[.agg #[.string (bs xk), .string (bs xv), .bool true], .pointer (some ⟨V, 0, none⟩)] w fun e w' => e = .returned (.tuple #[]) ∧ WrSt w' base g (l ++ 1 :: txt xk) ∧ Wr base g w w' := by
  obtain ⟨v, hg, ho⟩ := hs
  obtain ⟨w0, hw0⟩ : ∃ w0, w0 = w.alloc (.cells #[.string (bs xk), .string (bs xv), .bool true] 66) := ⟨_, rfl⟩
  obtain ⟨B, hB⟩ : ∃ B, B = w.heap.size := ⟨_, rfl⟩
  have hb0 : Below w.heap.size w w0 := by rw [hw0]; exact (Below.refl _ _).alloc (Nat.le_refl _) _
  have hx0 : w0.heap[B]? = some (.cells #[.string (bs xk), .string (bs xv), .bool true] 66 (0, 0)) := by rw [hw0, hB]; exact heap_alloc_new w _
  have hg0 := heap_below hg hb0
  have hv0 := heap_below hv hb0
  have ho0 := ho.below hb0
  have hVg : V ≠ g := by rintro rfl; rw [hg] at hv; injection hv with hv; injection hv with _ h _; exact absurd h (by decide)
  have hBg : B ≠ g := by intro e; rw [e, hg0] at hx0; injection hx0 with hx0; injection hx0 with _ h _; exact absurd h (by decide)
  have HX0 := Lib.hid hx0
  have HG0 := Lib.hid hg0
  have HV0 := Lib.hid hv0
  have HO0 := Lib.hid ho0
  have HW0 := Lib.hid (Wr.of_below (base := base) (g := g) hb0)
  have x0 := box_cells hx0 0 (.string (bs xk)) rfl
  have x1 := box_cells hx0 1 (.string (bs xv)) rfl
  have x2 := box_cells hx0 2 (.bool true) rfl
  have cv := box_cells hv0 0 (.pointer (some ⟨g, 0, none⟩)) rfl
  have cg := box_cells hg0 0 v rfl
  have fg := WrSt.froz hg0
  have hbs : base ≤ w0.heap.size := Nat.le_trans hb hb0.size
  obtain ⟨A, c, rfl, _, _, _⟩ := id ho.rd
  clear hg ho hv hx0 hg0 hv0 ho0 hb0
  go_enter Try.func85, Try.ntmps85
  go_upto_region 2 with fail
  rw [← hw0, ← hB]
  clear hw0 hB
  obtain ⟨i0, hi, hz0, hz1, hz2⟩ := info_parts info5
  have hbl : Below w0.heap.size w0 (w0.alloc (.cells #[.int .u8 1] 5)).drew := ((Below.refl _ _).alloc (Nat.le_refl _) _).drew
  have hoA := (World.ownsRow.drew (World.ownsRow.alloc HO0.out (.cells #[.int .u8 1] 5)))
  have hgA := heap_below HG0.out hbl
  have hwA : Wr base g w0 (w0.alloc (.cells #[.int .u8 1] 5)).drew := Wr.of_below hbl
  have HOA := Lib.hid hoA
  have HGA := Lib.hid hgA
  have HWA := Lib.hid hwA
  have cgA : (w0.alloc (.cells #[.int .u8 1] 5)).cell? ⟨g, 0, none⟩ = some (.slice A l.length c) := WrSt.cell hgA
  have HVA := Lib.hid (heap_below HV0.out hbl)
  have cvA : (w0.alloc (.cells #[.int .u8 1] 5)).cell? ⟨V, 0, none⟩ = some (.pointer (some ⟨g, 0, none⟩)) := box_cells (heap_below HV0.out hbl) 0 (.pointer (some ⟨g, 0, none⟩)) rfl
  clear hbl hoA hgA hwA
  go_cut [5] (fun v5 wx => WrSt wx base g (l ++ [1]) ∧ Wr base g w0 wx)
  case first =>
    go_region_law ((refine step_append_lies _ (by rfl) _ _ _ (by rfl) base 5 i0 (.int .u8 0) 1 1 Try.underlying25 hi hz0 hz1 hz2 rfl (by omega) _ l.length (bvs l) (by rfl) HOA.out ⟨w0.heap.size, 0, none⟩ 1 1 [bv 1] (by rfl) rfl (World.news_of_block (cs := #[bv 1]) (t := 5) (fr := (0, 0)) (heap_alloc_new w0 _)) (by intro u hu; simp at hu; subst hu; rfl) (by omega) (by simp only [maxLen]; omega) (by omega) (by simp; omega) (w0.heap.size + 1) (by simp) ?_; intro g2 cap w1 hown hgrow hat hlt; have hg1 := app_heap HOA.out HGA.out (by decide) hgrow; have cv1 := box_cells (app_heap HOA.out HVA.out (by decide) hgrow) 0 (.pointer (some ⟨g, 0, none⟩)) rfl; have cg1 := WrSt.cell hg1; have fg1 := WrSt.froz hg1; have HG1 := Lib.hid hg1; have HOWN := Lib.hid (app_own hown); have HW1 := Lib.hid (HWA.out.grown HOA.out hgrow); clear hg1 hown hgrow hat hlt))
    all_goals
      go_wp2_with fail
      go_meet
      exact ⟨WrSt.set_ HG1.out HOWN.out, HW1.out.set_ _⟩
  case rest =>
    obtain ⟨hs2, hw2⟩ := hcut
    have hx2 := hw2.cell HX0.out (by decide) hBg
    have hv2 := hw2.cell HV0.out (by decide) hVg
    have cv2 := box_cells hv2 0 (.pointer (some ⟨g, 0, none⟩)) rfl
    have x2 := box_cells hx2 0 (.string (bs xk)) rfl
    have hbs2 := Nat.le_trans hbs hw2.size
    have HS2 := Lib.hid hs2
    have HW2 := Lib.hid (HW0.out.trans hw2)
    clear hs2 hw2 hx2 hv2
    go_wp2_with fail
    refine (wtext_any base g (l ++ [1]) xk wc HS2.out (by simp; omega) hbs2).mono ?_
    rintro e w3 ⟨rfl, hs3, hw3⟩
    have HS3 := Lib.hid hs3
    have HW3 := Lib.hid (HW2.out.trans hw3)
    clear hs3 hw3
    go_wp2_with fail
    refine bodyPost_ret (v := .tuple #[]) (by simp [results, Try.results85, go_sem]) rfl ?_
    refine ⟨rfl, ?_, HW3.out⟩
    have := HS3.out
    simpa [txt, List.append_assoc] using this

set_option maxRecDepth 100000 in
set_option maxHeartbeats 2000000 in
theorem pc1_here (base g V : Nat) (l xk xv : List UInt8) (w : World) (hs : WrSt w base g l) (hv : w.heap[V]? = some (.cells #[.pointer (some ⟨g, 0, none⟩)] 104 (0, 0))) (hb : base ≤ w.heap.size) (hl : l.length ≤ 1048576) (hkl : xk.length ≤ 1048576) (hvl : xv.length ≤ 1048576) :
    Calls Try.prog 85 #[.agg #[.string (bs xk), .string (bs xv), .bool false], .pointer (some ⟨V, 0, none⟩)] w fun e w' => e = .returned (.tuple #[]) ∧ WrSt w' base g (l ++ 0 :: (txt xk ++ txt xv)) ∧ Wr base g w w' := by
  obtain ⟨v, hg, ho⟩ := hs
  obtain ⟨w0, hw0⟩ : ∃ w0, w0 = w.alloc (.cells #[.string (bs xk), .string (bs xv), .bool false] 66) := ⟨_, rfl⟩
  obtain ⟨B, hB⟩ : ∃ B, B = w.heap.size := ⟨_, rfl⟩
  have hb0 : Below w.heap.size w w0 := by rw [hw0]; exact (Below.refl _ _).alloc (Nat.le_refl _) _
  have hx0 : w0.heap[B]? = some (.cells #[.string (bs xk), .string (bs xv), .bool false] 66 (0, 0)) := by rw [hw0, hB]; exact heap_alloc_new w _
  have hg0 := heap_below hg hb0
  have hv0 := heap_below hv hb0
  have ho0 := ho.below hb0
  have hVg : V ≠ g := by rintro rfl; rw [hg] at hv; injection hv with hv; injection hv with _ h _; exact absurd h (by decide)
  have hBg : B ≠ g := by intro e; rw [e, hg0] at hx0; injection hx0 with hx0; injection hx0 with _ h _; exact absurd h (by decide)
  have HX0 := Lib.hid hx0
  have HG0 := Lib.hid hg0
  have HV0 := Lib.hid hv0
  have HO0 := Lib.hid ho0
  have HW0 := Lib.hid (Wr.of_below (base := base) (g := g) hb0)
  have x0 := box_cells hx0 0 (.string (bs xk)) rfl
  have x1 := box_cells hx0 1 (.string (bs xv)) rfl
  have x2 := box_cells hx0 2 (.bool false) rfl
  have cv := box_cells hv0 0 (.pointer (some ⟨g, 0, none⟩)) rfl
  have cg := box_cells hg0 0 v rfl
  have fg := WrSt.froz hg0
  have hbs : base ≤ w0.heap.size := Nat.le_trans hb hb0.size
  obtain ⟨A, c, rfl, _, _, _⟩ := id ho.rd
  clear hg ho hv hx0 hg0 hv0 ho0 hb0
  go_enter Try.func85, Try.ntmps85
  go_upto_region 4 with fail
  rw [← hw0, ← hB]
  clear hw0 hB
  obtain ⟨i0, hi, hz0, hz1, hz2⟩ := info_parts info5
  have hbl : Below w0.heap.size w0 (w0.alloc (.cells #[.int .u8 0] 5)).drew := ((Below.refl _ _).alloc (Nat.le_refl _) _).drew
  have hoA := (World.ownsRow.drew (World.ownsRow.alloc HO0.out (.cells #[.int .u8 0] 5)))
  have hgA := heap_below HG0.out hbl
  have hwA : Wr base g w0 (w0.alloc (.cells #[.int .u8 0] 5)).drew := Wr.of_below hbl
  have HOA := Lib.hid hoA
  have HGA := Lib.hid hgA
  have HWA := Lib.hid hwA
  have cgA : (w0.alloc (.cells #[.int .u8 0] 5)).cell? ⟨g, 0, none⟩ = some (.slice A l.length c) := WrSt.cell hgA
  have HVA := Lib.hid (heap_below HV0.out hbl)
  have cvA : (w0.alloc (.cells #[.int .u8 0] 5)).cell? ⟨V, 0, none⟩ = some (.pointer (some ⟨g, 0, none⟩)) := box_cells (heap_below HV0.out hbl) 0 (.pointer (some ⟨g, 0, none⟩)) rfl
  clear hbl hoA hgA hwA
  go_cut [18] (fun v18 wx => WrSt wx base g (l ++ [0]) ∧ Wr base g w0 wx)
  case first =>
    go_region_law ((refine step_append_lies _ (by rfl) _ _ _ (by rfl) base 5 i0 (.int .u8 0) 1 1 Try.underlying25 hi hz0 hz1 hz2 rfl (by omega) _ l.length (bvs l) (by rfl) HOA.out ⟨w0.heap.size, 0, none⟩ 1 1 [bv 0] (by rfl) rfl (World.news_of_block (cs := #[bv 0]) (t := 5) (fr := (0, 0)) (heap_alloc_new w0 _)) (by intro u hu; simp at hu; subst hu; rfl) (by omega) (by simp only [maxLen]; omega) (by omega) (by simp; omega) (w0.heap.size + 1) (by simp) ?_; intro g2 cap w1 hown hgrow hat hlt; have hg1 := app_heap HOA.out HGA.out (by decide) hgrow; have cv1 := box_cells (app_heap HOA.out HVA.out (by decide) hgrow) 0 (.pointer (some ⟨g, 0, none⟩)) rfl; have cg1 := WrSt.cell hg1; have fg1 := WrSt.froz hg1; have HG1 := Lib.hid hg1; have HOWN := Lib.hid (app_own hown); have HW1 := Lib.hid (HWA.out.grown HOA.out hgrow); clear hg1 hown hgrow hat hlt))
    all_goals
      go_wp2_with fail
      go_meet
      exact ⟨WrSt.set_ HG1.out HOWN.out, HW1.out.set_ _⟩
  case rest =>
    obtain ⟨hs2, hw2⟩ := hcut
    have hx2 := hw2.cell HX0.out (by decide) hBg
    have hv2 := hw2.cell HV0.out (by decide) hVg
    have cv2 := box_cells hv2 0 (.pointer (some ⟨g, 0, none⟩)) rfl
    have x2 := box_cells hx2 0 (.string (bs xk)) rfl
    have hbs2 := Nat.le_trans hbs hw2.size
    have HS2 := Lib.hid hs2
    have HW2 := Lib.hid (HW0.out.trans hw2)
    have HX2 := Lib.hid hx2
    have HV2 := Lib.hid hv2
    clear hs2 hw2 hx2 hv2
    go_wp2_with fail
    refine (wtext_any base g (l ++ [0]) xk wc HS2.out (by simp; omega) hbs2).mono ?_
    rintro e w3 ⟨rfl, hs3, hw3⟩
    have hx3 := hw3.cell HX2.out (by decide) hBg
    have hv3 := hw3.cell HV2.out (by decide) hVg
    have cv3 := box_cells hv3 0 (.pointer (some ⟨g, 0, none⟩)) rfl
    have x3 := box_cells hx3 1 (.string (bs xv)) rfl
    have hbs3 := Nat.le_trans hbs2 hw3.size
    have HS3 := Lib.hid hs3
    have HW3 := Lib.hid (HW2.out.trans hw3)
    clear hs3 hw3 hx3 hv3
    go_wp2_with fail
    refine (wtext_any base g (l ++ [0] ++ uvar xk.length ++ xk) xv w3 HS3.out (by have := uvar_len10 (n := xk.length) (by omega); simp; omega) hbs3).mono ?_
    rintro e w4 ⟨rfl, hs4, hw4⟩
    have HS4 := Lib.hid hs4
    have HW4 := Lib.hid (HW3.out.trans hw4)
    clear hs4 hw4
    go_wp2_with fail
    go_end0
    refine ⟨rfl, ?_, HW4.out⟩
    have := HS4.out
    simpa [txt, List.append_assoc] using this

theorem pc1_any (base g V : Nat) (l : List UInt8) (x : Wri) (w : World) (hs : WrSt w base g l) (hv : w.heap[V]? = some (.cells #[.pointer (some ⟨g, 0, none⟩)] 104 (0, 0))) (hb : base ≤ w.heap.size) (hl : l.length ≤ 1048576) (hkl : x.key.length ≤ 1048576) (hvl : x.val.length ≤ 1048576) :
    Calls Try.prog 85 #[.agg #[.string (bs x.key), .string (bs x.val), .bool x.gone], .pointer (some ⟨V, 0, none⟩)] w fun e w' => e = .returned (.tuple #[]) ∧ WrSt w' base g (l ++ encW x) ∧ Wr base g w w' := by
  obtain ⟨k, v, g2⟩ := x
  cases g2
  · exact pc1_here base g V l k v w hs hv hb hl hkl hvl
  · exact pc1_gone base g V l k v w hs hv hb hl hkl hvl
end Go.Proofs.Ytggjipfdfpdecaa
