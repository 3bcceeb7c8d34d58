/- The walk of record's take, at a commit. -/
import Derived.Test.YtggjipfdfpdecaaRcCx
import Derived.Test.YtggjipfdfpdecaaRcU
set_option linter.unusedVariables false
namespace Go.Proofs.Ytggjipfdfpdecaa
open Go.RowKit
attribute [local go_sem] bs_list bs_size

theorem rList_all {α : Type} (one : RS → α × RS) (P : α → Prop) (h : ∀ s, P (one s).1) : ∀ (n : Nat) (s : RS), ∀ x ∈ (rList one n s).1, P x
  | 0, s, x, hx => by simp [rList] at hx
  | n + 1, s, x, hx => by
    rw [rList] at hx
    split at hx
    · simp at hx
    · rcases List.mem_cons.1 hx with rfl | hx
      · exact h s
      · exact rList_all one P h n _ x hx
theorem rCom_bounds {b : List UInt8} {s s' : RS} {t : Nat} {ws : List Wri} (h : ((t, ws), s') = rCom b s) : ws.length ≤ 64 ∧ ∀ x ∈ ws, x.key.length ≤ 1048576 ∧ x.val.length ≤ 1048576 := by
  unfold rCom at h
  simp only [Prod.mk.injEq] at h
  obtain ⟨⟨_, rfl⟩, _⟩ := h
  refine ⟨Nat.le_trans (rList_len _ _ _) (rNum_le _ _ _), fun x hx => ?_⟩
  have := rList_all (rWri b) (fun x => x.key.length ≤ 16 ∧ x.val.length ≤ 64) (rWri_len b) _ _ x hx
  omega

set_option maxRecDepth 100000 in
set_option maxHeartbeats 2000000 in
theorem takeCom_any (A : Option Addr) (c : Nat) (b : List UInt8) (w : World) (hr : RdB w (.slice A b.length c) b) (hl : b.length ≤ 140737488355328) :
    Calls Try.prog 90 #[.agg #[.int .u8 67, .func (.func 91) #[] #[], .func (.func 82) #[] #[]], .slice A b.length c] w fun e w' => ∃ v, e = .returned (.tuple #[.agg #[.int .i64 ((decCom b).1.1 : Nat), v], .int .i64 ((decCom b).2.1 : Nat), .int .i64 ((decCom b).2.2 : Nat)]) ∧ Own3 w' w.heap.size 66 v ((decCom b).1.2.map wV) ∧ Below w.heap.size w w' := by
  obtain ⟨H, hH⟩ : ∃ H, H = w.heap.size := ⟨_, rfl⟩
  obtain ⟨w0, hw0⟩ : ∃ w0, w0 = ((w.alloc (.cells #[.int .u8 67, .func (.func 91) #[] #[], .func (.func 82) #[] #[]] 120)).alloc (.cells #[.int .i64 0, .slice none 0 0] 64)).alloc (.cells #[.int .i64 0, .slice none 0 0] 64) := ⟨_, rfl⟩
  have hb1 : Below w.heap.size w (w.alloc (.cells #[.int .u8 67, .func (.func 91) #[] #[], .func (.func 82) #[] #[]] 120)) := (Below.refl _ _).alloc (Nat.le_refl _) _
  have hb0 : Below w.heap.size w w0 := by rw [hw0]; exact (hb1.alloc hb1.size _).alloc (by simp; omega) _
  have hF : w0.heap[H]? = some (.cells #[.int .u8 67, .func (.func 91) #[] #[], .func (.func 82) #[] #[]] 120 (0, 0)) := by
    rw [hw0, hH]
    exact heap_below (heap_below (heap_alloc_new w _) ((Below.refl _ _).alloc (Nat.le_refl _) _)) ((Below.refl _ _).alloc (Nat.le_refl _) _)
  have hR : w0.heap[H + 1]? = some (.cells #[.int .i64 0, .slice none 0 0] 64 (0, 0)) := by
    rw [hw0, hH]
    have := heap_alloc_new (w.alloc (.cells #[.int .u8 67, .func (.func 91) #[] #[], .func (.func 82) #[] #[]] 120)) (.cells #[.int .i64 0, .slice none 0 0] 64)
    rw [show (w.alloc (.cells #[.int .u8 67, .func (.func 91) #[] #[], .func (.func 82) #[] #[]] 120)).heap.size = w.heap.size + 1 from by simp] at this
    exact heap_below this ((Below.refl _ _).alloc (Nat.le_refl _) _)
  have hN : w0.heap[H + 1 + 1]? = some (.cells #[.int .i64 0, .slice none 0 0] 64 (0, 0)) := by
    rw [hw0, hH]
    have := heap_alloc_new ((w.alloc (.cells #[.int .u8 67, .func (.func 91) #[] #[], .func (.func 82) #[] #[]] 120)).alloc (.cells #[.int .i64 0, .slice none 0 0] 64)) (.cells #[.int .i64 0, .slice none 0 0] 64)
    rw [show ((w.alloc (.cells #[.int .u8 67, .func (.func 91) #[] #[], .func (.func 82) #[] #[]] 120)).alloc (.cells #[.int .i64 0, .slice none 0 0] 64)).heap.size = w.heap.size + 1 + 1 from by simp] at this
    exact this
  have hsz : w0.heap.size = H + 3 := by rw [hw0, hH]; simp
  have hrd := hr.below hb0
  have HB0 := Lib.hid hb0; clear hb0 hb1
  have HF := Lib.hid hF; clear hF
  have HR := Lib.hid hR; clear hR
  have HN := Lib.hid hN; clear hN
  have HSZ := Lib.hid hsz; clear hsz
  have HRD := Lib.hid hrd; clear hrd
  have d0 := box_cells HF.out 0 (.int .u8 67) rfl
  have d1 := box_cells HF.out 1 (.func (.func 91) #[] #[]) rfl
  have d2 := box_cells HF.out 2 (.func (.func 82) #[] #[]) rfl
  have n0 := box_cells HN.out 0 (.int .i64 0) rfl
  have n1 := box_cells HN.out 1 (.slice none 0 0) rfl
  have r0 := box_cells HR.out 0 (.int .i64 0) rfl
  have r1 := box_cells HR.out 1 (.slice none 0 0) rfl
  have rf : ∀ i, w0.frozen? ⟨H + 1, i, none⟩ = false := by intro i; have := HR.out; simp [World.frozen?, this]
  go_enter Try.func90, Try.ntmps90
  go_wp2_with fail
  rw [← hH]
  rw [← hw0]
  have HH := Lib.hid hH
  clear hw0 hH
  by_cases hk : b[0]? = some 67
  · have hlt0 : 0 < b.length := (List.getElem?_eq_some_iff.1 hk).1
    have hx67 : b[0] = 67 := (List.getElem?_eq_some_iff.1 hk).2
    obtain ⟨A', c', he, hcc, hcm, hcell⟩ := HRD.out
    obtain ⟨ad, hA, hcells⟩ := hcell (by omega)
    have hcx := hcells 0 (by omega)
    rw [hx67] at hcx
    change w0.cell? (ad.add 0) = some (.int .u8 67) at hcx
    rw [show ad.add 0 = ad from by simp [Addr.add]] at hcx
    injection he with e1 e2 e3
    subst e1 hA
    have h0' : 0 < b.length := by omega
    have hn0 : ¬ b = [] := fun e => by rw [e] at hlt0; simp at hlt0
    have hv : decCom b = ansC (0, []) (rCom b ⟨1, false⟩).1 (endC b (rCom b ⟨1, false⟩).2 (comOk ((rCom b ⟨1, false⟩).1.1 : Nat) (rCom b ⟨1, false⟩).1.2)) := by unfold decCom; rw [startC_yes hk]
    have HV := Lib.hid hv; clear hv
    clear hcells hcell e2 e3 hk hx67
    go_quiet (fail)
    go_upto_region 5 with fail
    obtain ⟨w1, hw1⟩ : ∃ w1, w1 = (w0.drewN nq).alloc (.cells #[.slice (some ad) b.length c, .int .i64 1, .bool false] 151) := ⟨_, rfl⟩
    have hb1 : Below w0.heap.size w0 w1 := by rw [hw1]; exact (below_drewN (Below.refl _ _) nq).alloc (Nat.le_refl _) _
    have hs1 : RdSt w1 w0.heap.size (some ad) c b ⟨1, false⟩ := ⟨by rw [hw1]; exact heap_alloc_new (w0.drewN nq) _, HRD.out.below hb1⟩
    obtain ⟨G, hG⟩ : ∃ G, G = w0.heap.size := ⟨_, rfl⟩
    have hGH : G = H + 3 := by rw [hG, HSZ.out]
    have hGne1 : H ≠ G := by omega
    have hGne2 : H + 1 ≠ G := by omega
    have hGne3 : H + 1 + 1 ≠ G := by omega
    rw [← hw1, ← hG]
    rw [← hG] at hs1
    have HF1 := Lib.hid (heap_below HF.out hb1)
    have HR1 := Lib.hid (heap_below HR.out hb1)
    have HN1 := Lib.hid (heap_below HN.out hb1)
    have HB1 := Lib.hid (HB0.out.trans (hb1.mono HB0.out.size))
    have HS1 := Lib.hid hs1
    clear hw1 hG hs1 hb1 d0 d1 d2 n0 n1 r0 r1 rf
    have HGH := Lib.hid hGH; clear hGH
    have d1 := box_cells HF1.out 1 (.func (.func 91) #[] #[]) rfl
    go_wp2_with fail
    refine (com1_any G (some ad) c b ⟨1, false⟩ w1 HS1.out hl (by simp)).mono ?_
    rintro e w2 ⟨sv, rfl, ho2, hs2, hg2⟩
    obtain ⟨⟨⟨t, ws⟩, ⟨at2, bad2⟩⟩, hq⟩ : ∃ p, p = rCom b ⟨1, false⟩ := ⟨_, rfl⟩
    obtain ⟨hwl, hwb⟩ := rCom_bounds hq
    have hv2 := HV.out
    rw [← hq] at ho2 hs2 hv2 ⊢
    simp only at ho2 hs2 hv2 ⊢
    have HV2 := Lib.hid hv2; clear hv2 hq
    have HWB := Lib.hid hwb; clear hwb
    have HF2 := Lib.hid (heap_grown HF1.out hg2 hGne1)
    have HR2 := Lib.hid (heap_grown HR1.out hg2 hGne2)
    have HN2 := Lib.hid (heap_grown HN1.out hg2 hGne3)
    have HB2 := Lib.hid (blw HB1.out hg2 (by have := HGH.out; have := HH.out; omega) (Nat.le_refl _))
    have HO2 := Lib.hid (ho2.base HB1.out.size)
    obtain ⟨Av, cv, rfl, hcv1, hcv2, _⟩ := id ho2.rd
    rw [List.length_map] at ho2 ⊢
    have HO2 := Lib.hid (show Own3 w2 w.heap.size 66 (.slice Av ws.length cv) (ws.map wV) from by have := HO2.out; rwa [List.length_map] at this)
    clear ho2 hcv1 hcv2
    -- what was read
    obtain ⟨w3, hw3⟩ : ∃ w3, w3 = w2.alloc (.cells #[.int .i64 (t : Int), .slice Av ws.length cv] 64) := ⟨_, rfl⟩
    obtain ⟨X, hX⟩ : ∃ X, X = w2.heap.size := ⟨_, rfl⟩
    have hb3 : Below w2.heap.size w2 w3 := by rw [hw3]; exact (Below.refl _ _).alloc (Nat.le_refl _) _
    have hx3 : w3.heap[X]? = some (.cells #[.int .i64 (t : Int), .slice Av ws.length cv] 64 (0, 0)) := by rw [hw3, hX]; exact heap_alloc_new w2 _
    have HX3 := Lib.hid hx3; clear hx3
    have HF3 := Lib.hid (heap_below HF2.out hb3)
    have HR3 := Lib.hid (heap_below HR2.out hb3)
    have HN3 := Lib.hid (heap_below HN2.out hb3)
    have hs3 := hs2.keep hb3
    have HO3 := Lib.hid (HO2.out.below hb3)
    have HB3 := Lib.hid (HB2.out.trans (hb3.mono HB2.out.size))
    have c1 := hs3.c1
    have c2 := hs3.c2
    simp only at c1 c2
    clear hs2 hg2 hs3 hb3 d1
    have n0 := box_cells HN3.out 0 (.int .i64 0) rfl
    have n1 := box_cells HN3.out 1 (.slice none 0 0) rfl
    have r0 := box_cells HR3.out 0 (.int .i64 0) rfl
    have r1 := box_cells HR3.out 1 (.slice none 0 0) rfl
    have rf : ∀ i, w3.frozen? ⟨H + 1, i, none⟩ = false := by intro i; have := HR3.out; simp [World.frozen?, this]
    have hgeH : w.heap.size ≤ H + 1 := by rw [HH.out]; omega
    have hle : w.heap.size ≤ w.heap.size := Nat.le_refl _
    go_upto_region 6 with fail
    rw [← hw3, ← hX]
    have HW3 := Lib.hid hw3; clear hw3
    have HXX := Lib.hid hX; clear hX
    by_cases hbad : bad2 = true ∨ at2 < b.length
    · have hv3 := HV2.out
      rw [endC_lt b ⟨at2, bad2⟩ _ hbad] at hv3
      have HV3 := Lib.hid hv3; clear hv3
      have hfin := set2 HR3.out (.int .i64 0) (.slice none 0 0)
      have hblw := blw HB3.out hfin.2 hgeH hle
      have HBL := Lib.hid hblw; clear hblw hfin
      go_cut [29] (fun v29 wx => v29 = .bool true ∧ wx = w3)
      case first =>
        cases bad2 with
        | true =>
          go_wp2_with fail
          go_meet
          exact ⟨rfl, rfl⟩
        | false =>
          have hlt : at2 < b.length := hbad.resolve_left (by simp)
          have t1 : decide (at2 < b.length) = true := by simpa using hlt
          go_wp2_with fail
          go_meet
          exact ⟨rfl, rfl⟩
      case rest =>
        obtain ⟨rfl, hwx⟩ := hcut
        obtain rfl := hwx.symm
        go_wp2_with fail
        have hGne4 : ¬ G = H + 1 := fun e => hGne2 e.symm
        go_region_held3 (fun w' => w'.cell? ⟨H + 1 + 1, 0, none⟩ = some (.int .i64 0) ∧ w'.cell? ⟨H + 1 + 1, 1, none⟩ = some (.slice none 0 0) ∧ w'.cell? ⟨G, 1, none⟩ = some (.int .i64 (at2 : Int))) (go_keep) (fail)
        go_wp2_with fail
        refine bodyPost_ret (v := .tuple #[.agg #[.int .i64 0, .slice none 0 0], .int .i64 (at2 : Int), .int .i64 61]) (by simp [results, Try.results90, go_sem, *]) rfl ?_
        rw [HV3.out]
        exact ⟨_, rfl, Own3.nil _ _ _, below_drewN HBL.out 1⟩
    · have hv3 := HV2.out
      rw [endC_ok b ⟨at2, bad2⟩ _ hbad] at hv3
      have HV3 := Lib.hid hv3; clear hv3
      obtain rfl : bad2 = false := by cases bad2 <;> simp_all
      have t1 : decide (at2 < b.length) = false := by simp; omega
      have d2 := box_cells HF3.out 2 (.func (.func 82) #[] #[]) rfl
      have x0 := box_cells HX3.out 0 (.int .i64 (t : Int)) rfl
      have x1 := box_cells HX3.out 1 (.slice Av ws.length cv) rfl
      clear hbad
      go_wp2_with fail
      refine (rightCom_any (t : Int) _ ws w3 HO3.out.rd (by omega) HWB.out).mono ?_
      rintro e w4 ⟨rfl, hb4⟩
      have HR4 := Lib.hid (heap_below HR3.out hb4)
      have HN4 := Lib.hid (heap_below HN3.out hb4)
      have HX4 := Lib.hid (heap_below HX3.out hb4)
      have HO4 := Lib.hid (HO3.out.below hb4)
      have HB4 := Lib.hid (HB3.out.trans (hb4.mono HB3.out.size)); clear hb4
      clear n0 n1 r0 r1 rf d2 x0 x1 c1 c2
      have r0 := box_cells HR4.out 0 (.int .i64 0) rfl
      have r1 := box_cells HR4.out 1 (.slice none 0 0) rfl
      have rf : ∀ i, w4.frozen? ⟨H + 1, i, none⟩ = false := by intro i; have := HR4.out; simp [World.frozen?, this]
      cases hkk : comOk (t : Int) ws with
      | true =>
        have hv4 := HV3.out
        rw [hkk, if_neg (by simp)] at hv4
        have HV4 := Lib.hid hv4; clear hv4 hkk
        have x0 := box_cells HX4.out 0 (.int .i64 (t : Int)) rfl
        have x1 := box_cells HX4.out 1 (.slice Av ws.length cv) rfl
        have hfin := set2 HR4.out (.int .i64 (t : Int)) (.slice Av ws.length cv)
        have hblw := blw HB4.out hfin.2 hgeH hle
        have HBL := Lib.hid hblw; clear hblw
        have HFI := Lib.hid hfin; clear hfin
        go_wp2_with fail
        refine bodyPost_ret (v := .tuple #[.agg #[.int .i64 (t : Int), .slice Av ws.length cv], .int .i64 0, .int .i64 0]) (by simp [results, Try.results90, go_sem, *]) rfl ?_
        have ho5 := HO4.out.grown HFI.out.2 (HO4.out.ne_ HR4.out (by decide))
        rw [HV4.out]
        exact ⟨_, rfl, ho5, HBL.out⟩
      | false =>
        have hv4 := HV3.out
        rw [hkk, if_pos rfl] at hv4
        have HV4 := Lib.hid hv4; clear hv4 hkk
        have n0 := box_cells HN4.out 0 (.int .i64 0) rfl
        have n1 := box_cells HN4.out 1 (.slice none 0 0) rfl
        have hfin := set2 HR4.out (.int .i64 0) (.slice none 0 0)
        have hblw := blw HB4.out hfin.2 hgeH hle
        have HBL := Lib.hid hblw; clear hblw hfin
        go_wp2_with fail
        refine bodyPost_ret (v := .tuple #[.agg #[.int .i64 0, .slice none 0 0], .int .i64 0, .int .i64 60]) (by simp [results, Try.results90, go_sem, *]) rfl ?_
        rw [HV4.out]
        exact ⟨_, rfl, Own3.nil _ _ _, HBL.out⟩
  · have hv : decCom b = ((0, []), 0, 61) := by unfold decCom; rw [startC_no hk, rCom_bad]; simp only; rw [endC_bad]; rfl
    have HV := Lib.hid hv; clear hv
    have hfin := set2 HR.out (.int .i64 0) (.slice none 0 0)
    have hblw : Below w.heap.size w ((w0.setCell ⟨H + 1, 0, none⟩ (.int .i64 0)).setCell ⟨H + 1, 1, none⟩ (.slice none 0 0)) := blw HB0.out hfin.2 (by rw [HH.out]; omega) (Nat.le_refl _)
    have HBL := Lib.hid hblw; clear hblw hfin
    by_cases h0 : b.length = 0
    · have t1 : b = [] := List.eq_nil_of_length_eq_zero h0
      subst t1
      go_quiet (fail)
      go_wp2_with fail
      refine bodyPost_ret (v := .tuple #[.agg #[.int .i64 0, .slice none 0 0], .int .i64 0, .int .i64 61]) (by simp [results, Try.results90, go_sem, *]) rfl ?_
      rw [HV.out]
      exact ⟨_, rfl, Own3.nil _ _ _, below_drewN HBL.out nq⟩
    · obtain ⟨A', c', he, _, hcm, hcell⟩ := HRD.out
      obtain ⟨ad, hA, hcells⟩ := hcell (by omega)
      have hcx := hcells 0 (by omega)
      obtain ⟨x, hx⟩ : ∃ x, x = b[0]'(by omega) := ⟨_, rfl⟩
      rw [← hx, bv_nat] at hcx
      rw [show ad.add 0 = ad from by simp [Addr.add]] at hcx
      injection he with e1 e2 e3
      subst e1 hA
      have hne : x ≠ 67 := fun e => hk (by rw [List.getElem?_eq_getElem (by omega), ← hx, e])
      have t2 : ((x.toNat : Int) != 67) = true := by rw [bne_iff_ne]; intro e; exact hne (UInt8.toNat_inj.1 (by show x.toNat = 67; omega))
      have h0' : 0 < b.length := by omega
      have hn0 : ¬ b = [] := fun e => h0 (by rw [e]; rfl)
      clear hcells hcell e2 e3 hx hk hne
      go_quiet (fail)
      go_wp2_with fail
      refine bodyPost_ret (v := .tuple #[.agg #[.int .i64 0, .slice none 0 0], .int .i64 0, .int .i64 61]) (by simp [results, Try.results90, go_sem, *]) rfl ?_
      rw [HV.out]
      exact ⟨_, rfl, Own3.nil _ _ _, below_drewN HBL.out nq⟩
end Go.Proofs.Ytggjipfdfpdecaa
