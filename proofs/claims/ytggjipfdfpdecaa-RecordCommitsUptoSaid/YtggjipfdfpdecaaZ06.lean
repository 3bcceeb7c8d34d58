/- Texts merged: RcU, RcV, RcQ. Each says below what it proves. -/
import Derived.Test.YtggjipfdfpdecaaZ05
import Derived.Deep.RegionHeld3
import Derived.Deep.DeepCutAuto
/- The walks of record's Row. -/
set_option linter.unusedVariables false
namespace Go.Proofs.Ytggjipfdfpdecaa
open Go.RowKit
attribute [local go_sem] bs_list bs_size

set_option maxRecDepth 100000 in
set_option maxHeartbeats 1000000 in
theorem row2_any (k v : List UInt8) (t : Int) (w : World) (hk : k.length ≤ 140737488355328) :
    Calls Try.prog 111 #[.agg #[.string (bs k), .string (bs v), .int .i64 t]] w fun e w' => e = .returned (.bool (isKey k)) ∧ Below w.heap.size w w' := by
  have k1 := isKey_any k (w.alloc (.cells #[.string (bs k), .string (bs v), .int .i64 t] 81)) hk
  have HB := Lib.hid ((Below.refl w.heap.size w).alloc (Nat.le_refl _) (.cells #[.string (bs k), .string (bs v), .int .i64 t] 81))
  go_enter Try.func111, Try.ntmps111
  go_wp2_with fail
  refine k1.mono ?_
  rintro e w' ⟨rfl, rfl⟩
  go_wp2_with fail
  go_ret
  exact ⟨rfl, HB.out⟩

theorem endC_lt (b : List UInt8) (s : RS) (r : Bool) (h : s.bad = true ∨ s.at_ < b.length) : endC b s r = (s.at_, 61) := by unfold endC; rw [if_pos h]
theorem endC_ok (b : List UInt8) (s : RS) (r : Bool) (h : ¬ (s.bad = true ∨ s.at_ < b.length)) : endC b s r = if r = false then (0, 60) else (0, 0) := by unfold endC; rw [if_neg h]

set_option maxRecDepth 100000 in
set_option maxHeartbeats 2000000 in
theorem takeRow_any (A : Option Addr) (c : Nat) (b : List UInt8) (w : World) (hr : RdB w (.slice A b.length c) b) (hl : b.length ≤ 140737488355328) :
    Calls Try.prog 109 #[.agg #[.int .u8 82, .func (.func 110) #[] #[], .func (.func 111) #[] #[]], .slice A b.length c] w fun e w' => e = .returned (.tuple #[.agg #[.string (bs (decRow b).1.key), .string (bs (decRow b).1.val), .int .i64 ((decRow b).1.time : Nat)], .int .i64 ((decRow b).2.1 : Nat), .int .i64 ((decRow b).2.2 : Nat)]) ∧ Below w.heap.size w w' := by
  obtain ⟨H, hH⟩ : ∃ H, H = w.heap.size := ⟨_, rfl⟩
  obtain ⟨w0, hw0⟩ : ∃ w0, w0 = ((w.alloc (.cells #[.int .u8 82, .func (.func 110) #[] #[], .func (.func 111) #[] #[]] 137)).alloc (.cells #[.string (bs []), .string (bs []), .int .i64 0] 81)).alloc (.cells #[.string (bs []), .string (bs []), .int .i64 0] 81) := ⟨_, rfl⟩
  have hb1 : Below w.heap.size w (w.alloc (.cells #[.int .u8 82, .func (.func 110) #[] #[], .func (.func 111) #[] #[]] 137)) := (Below.refl _ _).alloc (Nat.le_refl _) _
  have hb0 : Below w.heap.size w w0 := by rw [hw0]; exact (hb1.alloc hb1.size _).alloc (by simp; omega) _
  have hF : w0.heap[H]? = some (.cells #[.int .u8 82, .func (.func 110) #[] #[], .func (.func 111) #[] #[]] 137 (0, 0)) := by
    rw [hw0, hH]
    exact heap_below (heap_below (heap_alloc_new w _) ((Below.refl _ _).alloc (Nat.le_refl _) _)) ((Below.refl _ _).alloc (Nat.le_refl _) _)
  have hR : w0.heap[H + 1]? = some (.cells #[.string (bs []), .string (bs []), .int .i64 0] 81 (0, 0)) := by
    rw [hw0, hH]
    have := heap_alloc_new (w.alloc (.cells #[.int .u8 82, .func (.func 110) #[] #[], .func (.func 111) #[] #[]] 137)) (.cells #[.string (bs []), .string (bs []), .int .i64 0] 81)
    rw [show (w.alloc (.cells #[.int .u8 82, .func (.func 110) #[] #[], .func (.func 111) #[] #[]] 137)).heap.size = w.heap.size + 1 from by simp] at this
    exact heap_below this ((Below.refl _ _).alloc (Nat.le_refl _) _)
  have hN : w0.heap[H + 1 + 1]? = some (.cells #[.string (bs []), .string (bs []), .int .i64 0] 81 (0, 0)) := by
    rw [hw0, hH]
    have := heap_alloc_new ((w.alloc (.cells #[.int .u8 82, .func (.func 110) #[] #[], .func (.func 111) #[] #[]] 137)).alloc (.cells #[.string (bs []), .string (bs []), .int .i64 0] 81)) (.cells #[.string (bs []), .string (bs []), .int .i64 0] 81)
    rw [show ((w.alloc (.cells #[.int .u8 82, .func (.func 110) #[] #[], .func (.func 111) #[] #[]] 137)).alloc (.cells #[.string (bs []), .string (bs []), .int .i64 0] 81)).heap.size = w.heap.size + 1 + 1 from by simp] at this
    exact this
  have hsz : w0.heap.size = H + 3 := by rw [hw0, hH]; simp
  have hrd := hr.below hb0
  have HB0 := Lib.hid hb0; clear hb0 hb1
  have HF := Lib.hid hF; clear hF
  have HR := Lib.hid hR; clear hR
  have HN := Lib.hid hN; clear hN
  have HSZ := Lib.hid hsz; clear hsz
  have HRD := Lib.hid hrd; clear hrd
  have d0 := box_cells HF.out 0 (.int .u8 82) rfl
  have d1 := box_cells HF.out 1 (.func (.func 110) #[] #[]) rfl
  have d2 := box_cells HF.out 2 (.func (.func 111) #[] #[]) rfl
  have n0 := box_cells HN.out 0 (.string (bs [])) rfl
  have n1 := box_cells HN.out 1 (.string (bs [])) rfl
  have n2 := box_cells HN.out 2 (.int .i64 0) rfl
  have r0 := box_cells HR.out 0 (.string (bs [])) rfl
  have r1 := box_cells HR.out 1 (.string (bs [])) rfl
  have r2 := box_cells HR.out 2 (.int .i64 0) rfl
  have rf : ∀ i, w0.frozen? ⟨H + 1, i, none⟩ = false := by intro i; have := HR.out; simp [World.frozen?, this]
  go_enter Try.func109, Try.ntmps109
  go_wp2_with fail
  simp only [bs_nil]
  rw [← hH]
  rw [← hw0]
  have HH := Lib.hid hH
  clear hw0 hH
  by_cases hk : b[0]? = some 82
  · have hlt0 : 0 < b.length := (List.getElem?_eq_some_iff.1 hk).1
    have hx82 : b[0] = 82 := (List.getElem?_eq_some_iff.1 hk).2
    obtain ⟨A', c', he, hcc, hcm, hcell⟩ := HRD.out
    obtain ⟨ad, hA, hcells⟩ := hcell (by omega)
    have hcx := hcells 0 (by omega)
    rw [hx82] at hcx
    change w0.cell? (ad.add 0) = some (.int .u8 82) at hcx
    rw [show ad.add 0 = ad from by simp [Addr.add]] at hcx
    injection he with e1 e2 e3
    subst e1 hA
    have h0' : 0 < b.length := by omega
    have hn0 : ¬ b = [] := fun e => by rw [e] at hlt0; simp at hlt0
    have hv : decRow b = ansC ⟨[], [], 0⟩ (rRow b ⟨1, false⟩).1 (endC b (rRow b ⟨1, false⟩).2 (isKey (rRow b ⟨1, false⟩).1.key)) := by unfold decRow; rw [startC_yes hk]
    have HV := Lib.hid hv; clear hv
    clear hcells hcell e2 e3 hk hx82
    go_quiet (fail)
    go_upto_region 5 with fail
    obtain ⟨w1, hw1⟩ : ∃ w1, w1 = (w0.drewN nq).alloc (.cells #[.slice (some ad) b.length c, .int .i64 1, .bool false] 151) := ⟨_, rfl⟩
    have hb1 : Below w0.heap.size w0 w1 := by rw [hw1]; exact (below_drewN (Below.refl _ _) nq).alloc (Nat.le_refl _) _
    have hs1 : RdSt w1 w0.heap.size (some ad) c b ⟨1, false⟩ := ⟨by rw [hw1]; exact heap_alloc_new (w0.drewN nq) _, HRD.out.below hb1⟩
    obtain ⟨G, hG⟩ : ∃ G, G = w0.heap.size := ⟨_, rfl⟩
    have hGH : G = H + 3 := by rw [hG, HSZ.out]
    have hGne1 : H ≠ G := by omega
    have hGne2 : H + 1 ≠ G := by omega
    have hGne3 : H + 1 + 1 ≠ G := by omega
    rw [← hw1, ← hG]
    rw [← hG] at hs1
    have HF1 := Lib.hid (heap_below HF.out hb1)
    have HR1 := Lib.hid (heap_below HR.out hb1)
    have HN1 := Lib.hid (heap_below HN.out hb1)
    have HB1 := Lib.hid (HB0.out.trans (hb1.mono HB0.out.size))
    have HS1 := Lib.hid hs1
    clear hw1 hG hs1 hb1 d0 d1 d2 n0 n1 n2 r0 r1 r2 rf
    have HGH := Lib.hid hGH; clear hGH
    have d1 := box_cells HF1.out 1 (.func (.func 110) #[] #[]) rfl
    go_wp2_with fail
    refine (row1_any G (some ad) c b ⟨1, false⟩ w1 HS1.out hl).mono ?_
    rintro e w2 ⟨rfl, hs2, hg2⟩
    obtain ⟨q, s2, hq⟩ : ∃ q s2, rRow b ⟨1, false⟩ = (q, s2) := ⟨_, _, rfl⟩
    obtain ⟨k, v, t⟩ := q
    have hklen : k.length ≤ 16 := by have := rTxt_le b 16 ⟨1, false⟩; unfold rRow at hq; simp only [Prod.mk.injEq, RowP.mk.injEq] at hq; rw [hq.1.1] at this; exact this
    have hv2 := HV.out
    rw [hq] at hs2 hv2 ⊢
    simp only at hs2 hv2 ⊢
    obtain ⟨at2, bad2⟩ := s2
    have HV2 := Lib.hid hv2; clear hv2 hq
    have HF2 := Lib.hid (heap_grown HF1.out hg2 hGne1)
    have HR2 := Lib.hid (heap_grown HR1.out hg2 hGne2)
    have HN2 := Lib.hid (heap_grown HN1.out hg2 hGne3)
    have HB2 := Lib.hid (blw HB1.out hg2 (by have := HGH.out; have := HH.out; omega) (Nat.le_refl _))
    -- what was read
    obtain ⟨w3, hw3⟩ : ∃ w3, w3 = w2.alloc (.cells #[.string (bs k), .string (bs v), .int .i64 (t : Int)] 81) := ⟨_, rfl⟩
    obtain ⟨X, hX⟩ : ∃ X, X = w2.heap.size := ⟨_, rfl⟩
    have hb3 : Below w2.heap.size w2 w3 := by rw [hw3]; exact (Below.refl _ _).alloc (Nat.le_refl _) _
    have hx3 : w3.heap[X]? = some (.cells #[.string (bs k), .string (bs v), .int .i64 (t : Int)] 81 (0, 0)) := by rw [hw3, hX]; exact heap_alloc_new w2 _
    have HX3 := Lib.hid hx3; clear hx3
    have HF3 := Lib.hid (heap_below HF2.out hb3)
    have HR3 := Lib.hid (heap_below HR2.out hb3)
    have HN3 := Lib.hid (heap_below HN2.out hb3)
    have hs3 := hs2.keep hb3
    have HB3 := Lib.hid (HB2.out.trans (hb3.mono HB2.out.size))
    have c1 := hs3.c1
    have c2 := hs3.c2
    simp only at c1 c2
    clear hs2 hg2 hs3 hb3 d1
    have n0 := box_cells HN3.out 0 (.string (bs [])) rfl
    have n1 := box_cells HN3.out 1 (.string (bs [])) rfl
    have n2 := box_cells HN3.out 2 (.int .i64 0) rfl
    have r0 := box_cells HR3.out 0 (.string (bs [])) rfl
    have r1 := box_cells HR3.out 1 (.string (bs [])) rfl
    have r2 := box_cells HR3.out 2 (.int .i64 0) rfl
    have rf : ∀ i, w3.frozen? ⟨H + 1, i, none⟩ = false := by intro i; have := HR3.out; simp [World.frozen?, this]
    have hgeH : w.heap.size ≤ H + 1 := by rw [HH.out]; omega
    have hle : w.heap.size ≤ w.heap.size := Nat.le_refl _
    go_upto_region 6 with fail
    rw [← hw3, ← hX]
    have HW3 := Lib.hid hw3; clear hw3
    have HXX := Lib.hid hX; clear hX
    by_cases hbad : bad2 = true ∨ at2 < b.length
    · have hv3 := HV2.out
      rw [endC_lt b ⟨at2, bad2⟩ _ hbad] at hv3
      have HV3 := Lib.hid hv3; clear hv3
      have hfin := set3 HR3.out (.string (bs [])) (.string (bs [])) (.int .i64 0)
      have hblw := blw HB3.out hfin.2 hgeH hle
      have HBL := Lib.hid hblw; clear hblw hfin
      go_cut [29] (fun v29 wx => v29 = .bool true ∧ wx = w3)
      case first =>
        cases bad2 with
        | true =>
          go_wp2_with fail
          go_meet
          exact ⟨rfl, rfl⟩
        | false =>
          have hlt : at2 < b.length := hbad.resolve_left (by simp)
          have t1 : decide (at2 < b.length) = true := by simpa using hlt
          go_wp2_with fail
          go_meet
          exact ⟨rfl, rfl⟩
      case rest =>
        obtain ⟨rfl, hwx⟩ := hcut
        obtain rfl := hwx.symm
        go_wp2_with fail
        have hGne4 : ¬ G = H + 1 := fun e => hGne2 e.symm
        go_region_held3 (fun w' => w'.cell? ⟨H + 1 + 1, 0, none⟩ = some (.string (bs [])) ∧ w'.cell? ⟨H + 1 + 1, 1, none⟩ = some (.string (bs [])) ∧ w'.cell? ⟨H + 1 + 1, 2, none⟩ = some (.int .i64 0) ∧ w'.cell? ⟨G, 1, none⟩ = some (.int .i64 (at2 : Int))) (go_keep) (fail)
        go_wp2_with fail
        refine bodyPost_ret (v := .tuple #[.agg #[.string (bs []), .string (bs []), .int .i64 0], .int .i64 (at2 : Int), .int .i64 61]) (by simp [results, Try.results109, go_sem, *]) rfl ?_
        rw [HV3.out]
        exact ⟨rfl, below_drewN HBL.out 1⟩
    · have hv3 := HV2.out
      rw [endC_ok b ⟨at2, bad2⟩ _ hbad] at hv3
      have HV3 := Lib.hid hv3; clear hv3
      obtain rfl : bad2 = false := by cases bad2 <;> simp_all
      have t1 : decide (at2 < b.length) = false := by simp; omega
      have d2 := box_cells HF3.out 2 (.func (.func 111) #[] #[]) rfl
      have x0 := box_cells HX3.out 0 (.string (bs k)) rfl
      have x1 := box_cells HX3.out 1 (.string (bs v)) rfl
      have x2 := box_cells HX3.out 2 (.int .i64 (t : Int)) rfl
      clear hbad
      go_wp2_with fail
      refine (row2_any k v t w3 (by omega)).mono ?_
      rintro e w4 ⟨rfl, hb4⟩
      have HR4 := Lib.hid (heap_below HR3.out hb4)
      have HN4 := Lib.hid (heap_below HN3.out hb4)
      have HX4 := Lib.hid (heap_below HX3.out hb4)
      have HB4 := Lib.hid (HB3.out.trans (hb4.mono HB3.out.size)); clear hb4
      clear n0 n1 n2 r0 r1 r2 rf d2 x0 x1 x2 c1 c2
      have r0 := box_cells HR4.out 0 (.string (bs [])) rfl
      have r1 := box_cells HR4.out 1 (.string (bs [])) rfl
      have r2 := box_cells HR4.out 2 (.int .i64 0) rfl
      have rf : ∀ i, w4.frozen? ⟨H + 1, i, none⟩ = false := by intro i; have := HR4.out; simp [World.frozen?, this]
      cases hkk : isKey k with
      | true =>
        have hv4 := HV3.out
        rw [hkk, if_neg (by simp)] at hv4
        have HV4 := Lib.hid hv4; clear hv4 hkk
        have x0 := box_cells HX4.out 0 (.string (bs k)) rfl
        have x1 := box_cells HX4.out 1 (.string (bs v)) rfl
        have x2 := box_cells HX4.out 2 (.int .i64 (t : Int)) rfl
        have hfin := set3 HR4.out (.string (bs k)) (.string (bs v)) (.int .i64 (t : Int))
        have hblw := blw HB4.out hfin.2 hgeH hle
        have HBL := Lib.hid hblw; clear hblw hfin
        go_wp2_with fail
        refine bodyPost_ret (v := .tuple #[.agg #[.string (bs k), .string (bs v), .int .i64 (t : Int)], .int .i64 0, .int .i64 0]) (by simp [results, Try.results109, go_sem, *]) rfl ?_
        rw [HV4.out]
        exact ⟨rfl, HBL.out⟩
      | false =>
        have hv4 := HV3.out
        rw [hkk, if_pos rfl] at hv4
        have HV4 := Lib.hid hv4; clear hv4 hkk
        have n0 := box_cells HN4.out 0 (.string (bs [])) rfl
        have n1 := box_cells HN4.out 1 (.string (bs [])) rfl
        have n2 := box_cells HN4.out 2 (.int .i64 0) rfl
        have hfin := set3 HR4.out (.string (bs [])) (.string (bs [])) (.int .i64 0)
        have hblw := blw HB4.out hfin.2 hgeH hle
        have HBL := Lib.hid hblw; clear hblw hfin
        go_wp2_with fail
        refine bodyPost_ret (v := .tuple #[.agg #[.string (bs []), .string (bs []), .int .i64 0], .int .i64 0, .int .i64 60]) (by simp [results, Try.results109, go_sem, *]) rfl ?_
        rw [HV4.out]
        exact ⟨rfl, HBL.out⟩
  · have hv : decRow b = (⟨[], [], 0⟩, 0, 61) := by unfold decRow; rw [startC_no hk, rRow_bad]; simp only; rw [endC_bad]; rfl
    have HV := Lib.hid hv; clear hv
    have hfin := set3 HR.out (.string (bs [])) (.string (bs [])) (.int .i64 0)
    have hblw : Below w.heap.size w (((w0.setCell ⟨H + 1, 0, none⟩ (.string (bs []))).setCell ⟨H + 1, 1, none⟩ (.string (bs []))).setCell ⟨H + 1, 2, none⟩ (.int .i64 0)) := blw HB0.out hfin.2 (by rw [HH.out]; omega) (Nat.le_refl _)
    have HBL := Lib.hid hblw; clear hblw hfin
    by_cases h0 : b.length = 0
    · have t1 : b = [] := List.eq_nil_of_length_eq_zero h0
      subst t1
      go_quiet (fail)
      go_wp2_with fail
      refine bodyPost_ret (v := .tuple #[.agg #[.string (bs []), .string (bs []), .int .i64 0], .int .i64 0, .int .i64 61]) (by simp [results, Try.results109, go_sem, *]) rfl ?_
      rw [HV.out]
      exact ⟨rfl, below_drewN HBL.out nq⟩
    · obtain ⟨A', c', he, _, hcm, hcell⟩ := HRD.out
      obtain ⟨ad, hA, hcells⟩ := hcell (by omega)
      have hcx := hcells 0 (by omega)
      obtain ⟨x, hx⟩ : ∃ x, x = b[0]'(by omega) := ⟨_, rfl⟩
      rw [← hx, bv_nat] at hcx
      rw [show ad.add 0 = ad from by simp [Addr.add]] at hcx
      injection he with e1 e2 e3
      subst e1 hA
      have hne : x ≠ 82 := fun e => hk (by rw [List.getElem?_eq_getElem (by omega), ← hx, e])
      have t2 : ((x.toNat : Int) != 82) = true := by rw [bne_iff_ne]; intro e; exact hne (UInt8.toNat_inj.1 (by show x.toNat = 82; omega))
      have h0' : 0 < b.length := by omega
      have hn0 : ¬ b = [] := fun e => h0 (by rw [e]; rfl)
      clear hcells hcell e2 e3 hx hk hne
      go_quiet (fail)
      go_wp2_with fail
      refine bodyPost_ret (v := .tuple #[.agg #[.string (bs []), .string (bs []), .int .i64 0], .int .i64 0, .int .i64 61]) (by simp [results, Try.results109, go_sem, *]) rfl ?_
      rw [HV.out]
      exact ⟨rfl, below_drewN HBL.out nq⟩
end Go.Proofs.Ytggjipfdfpdecaa
/- The walks of record's Gone. -/
set_option linter.unusedVariables false
namespace Go.Proofs.Ytggjipfdfpdecaa
open Go.RowKit
attribute [local go_sem] bs_list bs_size

theorem noByte2 {a b : Value} (ha : ∀ x : UInt8, a ≠ bv x) (hb : ∀ x : UInt8, b ≠ bv x) : NoByte #[a, b] := by
  intro i u h x
  match i, h with
  | 0, h => simp at h; rw [← h]; exact ha x
  | 1, h => simp at h; rw [← h]; exact hb x
  | i + 2, h => simp at h
set_option maxRecDepth 100000 in
set_option maxHeartbeats 1000000 in
theorem gone1_any (g : Nat) (A : Option Addr) (c : Nat) (b : List UInt8) (s : RS) (w : World) (hs : RdSt w g A c b s) (hl : b.length ≤ 140737488355328) :
    Calls Try.prog 114 #[.pointer (some ⟨g, 0, none⟩)] w fun e w' => e = .returned (.agg #[.string (bs (rGone b s).1.key), .int .i64 ((rGone b s).1.time : Nat)]) ∧ RdSt w' g A c b (rGone b s).2 ∧ w.grownBy w' (some g) := by
  have hgl : g < w.heap.size := (Array.getElem?_eq_some_iff.1 hs.1).1
  obtain ⟨w0, hw0⟩ : ∃ w0, w0 = w.alloc (.cells #[.string (bs []), .int .i64 0] 85) := ⟨_, rfl⟩
  have hb0 : Below w.heap.size w w0 := by rw [hw0]; exact (Below.refl _ _).alloc (Nat.le_refl _) _
  have hx0 : w0.heap[w.heap.size]? = some (.cells #[.string (bs []), .int .i64 0] 85 (0, 0)) := by rw [hw0]; exact heap_alloc_new w _
  obtain ⟨H, hH⟩ : ∃ H, H = w.heap.size := ⟨_, rfl⟩
  rw [← hH] at hx0
  have HS0 := Lib.hid (hs.keep hb0)
  have HG0 := Lib.hid (below_grown hb0 (some g))
  have HX0 := Lib.hid hx0; clear hx0 hb0
  go_enter Try.func114, Try.ntmps114
  go_wp2_with fail
  simp only [bs_nil]
  rw [← hw0, ← hH]
  have HH := Lib.hid hH; clear hw0 hH
  refine (rtext_any g A c b s 16 w0 HS0.out hl (by omega)).mono ?_
  rintro e w1 ⟨rfl, hs1, hg1⟩
  have HG1 := Lib.hid (HG0.out.trans hg1)
  have hHg : H ≠ g := by have := HH.out; omega
  have HX1 := Lib.hid (heap_grown HX0.out hg1 hHg)
  obtain ⟨k, s1, hk⟩ : ∃ k s1, rTxt b 16 s = (k, s1) := ⟨_, _, rfl⟩
  rw [hk] at hs1 ⊢
  have HS1 := Lib.hid hs1; clear hs1 hg1
  simp only at HS1 ⊢
  have HK := Lib.hid hk; clear hk
  -- the row's own variable
  obtain ⟨w2, hw2⟩ : ∃ w2, w2 = w1.alloc (.cells #[.string (bs k), .int .i64 0] 85) := ⟨_, rfl⟩
  obtain ⟨H2, hH2⟩ : ∃ H2, H2 = w1.heap.size := ⟨_, rfl⟩
  have hb2 : Below w1.heap.size w1 w2 := by rw [hw2]; exact (Below.refl _ _).alloc (Nat.le_refl _) _
  have hx2 : w2.heap[H2]? = some (.cells #[.string (bs k), .int .i64 0] 85 (0, 0)) := by rw [hw2, hH2]; exact heap_alloc_new w1 _
  have hHl : H < w1.heap.size := (Array.getElem?_eq_some_iff.1 HX1.out).1
  have hgl2 : g < w1.heap.size := (Array.getElem?_eq_some_iff.1 HS1.out.1).1
  have hne1 : H2 ≠ g := by omega
  have hne2 : H ≠ H2 := by omega
  have HX2 := Lib.hid hx2; clear hx2
  have HR2 := Lib.hid (heap_below HX1.out hb2)
  have HS2 := Lib.hid (HS1.out.keep hb2)
  have HG2 := Lib.hid (HG1.out.trans (below_grown hb2 (some g))); clear hb2 hHl hgl2
  go_wp2_with fail
  rw [← hw2, ← hH2]
  have HW2 := Lib.hid hw2; clear hw2
  have HH2 := Lib.hid hH2; clear hH2
  refine (rtime_any g A c b s1 w2 HS2.out hl).mono ?_
  rintro e w5 ⟨rfl, hs5, hg5⟩
  obtain ⟨t, s5, ht⟩ : ∃ t s5, rNum b 1099511627775 s1 = (t, s5) := ⟨_, _, rfl⟩
  rw [ht] at hs5 ⊢
  simp only at hs5 ⊢
  have hres : rGone b s = (⟨k, t⟩, s5) := by unfold rGone; rw [HK.out]; simp only; rw [ht]
  have HRES := Lib.hid hres
  clear ht hres
  have HX5 := Lib.hid (heap_grown HX2.out hg5 hne1)
  have hH2l : w.heap.size ≤ H2 := by rw [HH2.out]; exact HG1.out.size
  have HG5 := Lib.hid (HG2.out.trans hg5)
  have HR5 := Lib.hid (heap_grown HR2.out hg5 hHg)
  have e5 := box_cells HX5.out 0 (.string (bs k)) rfl
  have e6 := box_cells HX5.out 1 (.int .i64 0) rfl
  have f5 : ∀ i, w5.frozen? ⟨H2, i, none⟩ = false := by intro i; have := HX5.out; simp [World.frozen?, this]
  have r5 : ∀ i, w5.frozen? ⟨H, i, none⟩ = false := by intro i; have := HR5.out; simp [World.frozen?, this]
  have r6 := box_cells HR5.out 0 (.string (bs [])) rfl
  have r7 := box_cells HR5.out 1 (.int .i64 0) rfl
  have hne3 : ¬ H = H2 := hne2
  have hne4 : ¬ H2 = H := fun e => hne2 e.symm
  go_wp2_with fail
  have HR6 := heap_grown HR5.out (only_one w5 H2 1 (.int .i64 (t : Int))) hne2
  have hs6 := hs5.other HX5.out (noByte2 (str_bv _) (int_bv _)) (fun e => hne1 e.symm) (only_one w5 H2 1 (.int .i64 (t : Int)))
  obtain ⟨-, hs8⟩ := set2 HR6 (.string (bs k)) (.int .i64 (t : Int))
  have hs7 := hs6.other HR6 (noByte2 (str_bv _) (int_bv _)) (fun e => hHg e.symm) hs8
  have hg7 := grown_new (grown_new HG5.out (only_one w5 H2 1 (.int .i64 (t : Int))) hH2l) hs8 (by rw [HH.out]; exact Nat.le_refl _)
  refine bodyPost_ret (v := .agg #[.string (bs k), .int .i64 (t : Int)]) (by simp [results, Try.results114, go_sem, *]) rfl ?_
  rw [HRES.out]
  exact ⟨rfl, hs7, hg7⟩

set_option maxRecDepth 100000 in
set_option maxHeartbeats 1000000 in
theorem gone2_any (k : List UInt8) (t : Int) (w : World) (hk : k.length ≤ 140737488355328) :
    Calls Try.prog 115 #[.agg #[.string (bs k), .int .i64 t]] w fun e w' => e = .returned (.bool (isKey k)) ∧ Below w.heap.size w w' := by
  have k1 := isKey_any k (w.alloc (.cells #[.string (bs k), .int .i64 t] 85)) hk
  have HB := Lib.hid ((Below.refl w.heap.size w).alloc (Nat.le_refl _) (.cells #[.string (bs k), .int .i64 t] 85))
  go_enter Try.func115, Try.ntmps115
  go_wp2_with fail
  refine k1.mono ?_
  rintro e w' ⟨rfl, rfl⟩
  go_wp2_with fail
  go_ret
  exact ⟨rfl, HB.out⟩

set_option maxRecDepth 100000 in
set_option maxHeartbeats 2000000 in
theorem takeGone_any (A : Option Addr) (c : Nat) (b : List UInt8) (w : World) (hr : RdB w (.slice A b.length c) b) (hl : b.length ≤ 140737488355328) :
    Calls Try.prog 113 #[.agg #[.int .u8 71, .func (.func 114) #[] #[], .func (.func 115) #[] #[]], .slice A b.length c] w fun e w' => e = .returned (.tuple #[.agg #[.string (bs (decGone b).1.key), .int .i64 ((decGone b).1.time : Nat)], .int .i64 ((decGone b).2.1 : Nat), .int .i64 ((decGone b).2.2 : Nat)]) ∧ Below w.heap.size w w' := by
  obtain ⟨H, hH⟩ : ∃ H, H = w.heap.size := ⟨_, rfl⟩
  obtain ⟨w0, hw0⟩ : ∃ w0, w0 = ((w.alloc (.cells #[.int .u8 71, .func (.func 114) #[] #[], .func (.func 115) #[] #[]] 142)).alloc (.cells #[.string (bs []), .int .i64 0] 85)).alloc (.cells #[.string (bs []), .int .i64 0] 85) := ⟨_, rfl⟩
  have hb1 : Below w.heap.size w (w.alloc (.cells #[.int .u8 71, .func (.func 114) #[] #[], .func (.func 115) #[] #[]] 142)) := (Below.refl _ _).alloc (Nat.le_refl _) _
  have hb0 : Below w.heap.size w w0 := by rw [hw0]; exact (hb1.alloc hb1.size _).alloc (by simp; omega) _
  have hF : w0.heap[H]? = some (.cells #[.int .u8 71, .func (.func 114) #[] #[], .func (.func 115) #[] #[]] 142 (0, 0)) := by
    rw [hw0, hH]
    exact heap_below (heap_below (heap_alloc_new w _) ((Below.refl _ _).alloc (Nat.le_refl _) _)) ((Below.refl _ _).alloc (Nat.le_refl _) _)
  have hR : w0.heap[H + 1]? = some (.cells #[.string (bs []), .int .i64 0] 85 (0, 0)) := by
    rw [hw0, hH]
    have := heap_alloc_new (w.alloc (.cells #[.int .u8 71, .func (.func 114) #[] #[], .func (.func 115) #[] #[]] 142)) (.cells #[.string (bs []), .int .i64 0] 85)
    rw [show (w.alloc (.cells #[.int .u8 71, .func (.func 114) #[] #[], .func (.func 115) #[] #[]] 142)).heap.size = w.heap.size + 1 from by simp] at this
    exact heap_below this ((Below.refl _ _).alloc (Nat.le_refl _) _)
  have hN : w0.heap[H + 1 + 1]? = some (.cells #[.string (bs []), .int .i64 0] 85 (0, 0)) := by
    rw [hw0, hH]
    have := heap_alloc_new ((w.alloc (.cells #[.int .u8 71, .func (.func 114) #[] #[], .func (.func 115) #[] #[]] 142)).alloc (.cells #[.string (bs []), .int .i64 0] 85)) (.cells #[.string (bs []), .int .i64 0] 85)
    rw [show ((w.alloc (.cells #[.int .u8 71, .func (.func 114) #[] #[], .func (.func 115) #[] #[]] 142)).alloc (.cells #[.string (bs []), .int .i64 0] 85)).heap.size = w.heap.size + 1 + 1 from by simp] at this
    exact this
  have hsz : w0.heap.size = H + 3 := by rw [hw0, hH]; simp
  have hrd := hr.below hb0
  have HB0 := Lib.hid hb0; clear hb0 hb1
  have HF := Lib.hid hF; clear hF
  have HR := Lib.hid hR; clear hR
  have HN := Lib.hid hN; clear hN
  have HSZ := Lib.hid hsz; clear hsz
  have HRD := Lib.hid hrd; clear hrd
  have d0 := box_cells HF.out 0 (.int .u8 71) rfl
  have d1 := box_cells HF.out 1 (.func (.func 114) #[] #[]) rfl
  have d2 := box_cells HF.out 2 (.func (.func 115) #[] #[]) rfl
  have n0 := box_cells HN.out 0 (.string (bs [])) rfl
  have n1 := box_cells HN.out 1 (.int .i64 0) rfl
  have r0 := box_cells HR.out 0 (.string (bs [])) rfl
  have r1 := box_cells HR.out 1 (.int .i64 0) rfl
  have rf : ∀ i, w0.frozen? ⟨H + 1, i, none⟩ = false := by intro i; have := HR.out; simp [World.frozen?, this]
  go_enter Try.func113, Try.ntmps113
  go_wp2_with fail
  simp only [bs_nil]
  rw [← hH]
  rw [← hw0]
  have HH := Lib.hid hH
  clear hw0 hH
  by_cases hk : b[0]? = some 71
  · have hlt0 : 0 < b.length := (List.getElem?_eq_some_iff.1 hk).1
    have hx71 : b[0] = 71 := (List.getElem?_eq_some_iff.1 hk).2
    obtain ⟨A', c', he, hcc, hcm, hcell⟩ := HRD.out
    obtain ⟨ad, hA, hcells⟩ := hcell (by omega)
    have hcx := hcells 0 (by omega)
    rw [hx71] at hcx
    change w0.cell? (ad.add 0) = some (.int .u8 71) at hcx
    rw [show ad.add 0 = ad from by simp [Addr.add]] at hcx
    injection he with e1 e2 e3
    subst e1 hA
    have h0' : 0 < b.length := by omega
    have hn0 : ¬ b = [] := fun e => by rw [e] at hlt0; simp at hlt0
    have hv : decGone b = ansC ⟨[], 0⟩ (rGone b ⟨1, false⟩).1 (endC b (rGone b ⟨1, false⟩).2 (isKey (rGone b ⟨1, false⟩).1.key)) := by unfold decGone; rw [startC_yes hk]
    have HV := Lib.hid hv; clear hv
    clear hcells hcell e2 e3 hk hx71
    go_quiet (fail)
    go_upto_region 5 with fail
    obtain ⟨w1, hw1⟩ : ∃ w1, w1 = (w0.drewN nq).alloc (.cells #[.slice (some ad) b.length c, .int .i64 1, .bool false] 151) := ⟨_, rfl⟩
    have hb1 : Below w0.heap.size w0 w1 := by rw [hw1]; exact (below_drewN (Below.refl _ _) nq).alloc (Nat.le_refl _) _
    have hs1 : RdSt w1 w0.heap.size (some ad) c b ⟨1, false⟩ := ⟨by rw [hw1]; exact heap_alloc_new (w0.drewN nq) _, HRD.out.below hb1⟩
    obtain ⟨G, hG⟩ : ∃ G, G = w0.heap.size := ⟨_, rfl⟩
    have hGH : G = H + 3 := by rw [hG, HSZ.out]
    have hGne1 : H ≠ G := by omega
    have hGne2 : H + 1 ≠ G := by omega
    have hGne3 : H + 1 + 1 ≠ G := by omega
    rw [← hw1, ← hG]
    rw [← hG] at hs1
    have HF1 := Lib.hid (heap_below HF.out hb1)
    have HR1 := Lib.hid (heap_below HR.out hb1)
    have HN1 := Lib.hid (heap_below HN.out hb1)
    have HB1 := Lib.hid (HB0.out.trans (hb1.mono HB0.out.size))
    have HS1 := Lib.hid hs1
    clear hw1 hG hs1 hb1 d0 d1 d2 n0 n1 r0 r1 rf
    have HGH := Lib.hid hGH; clear hGH
    have d1 := box_cells HF1.out 1 (.func (.func 114) #[] #[]) rfl
    go_wp2_with fail
    refine (gone1_any G (some ad) c b ⟨1, false⟩ w1 HS1.out hl).mono ?_
    rintro e w2 ⟨rfl, hs2, hg2⟩
    obtain ⟨q, s2, hq⟩ : ∃ q s2, rGone b ⟨1, false⟩ = (q, s2) := ⟨_, _, rfl⟩
    obtain ⟨k, t⟩ := q
    have hklen : k.length ≤ 16 := by have := rTxt_le b 16 ⟨1, false⟩; unfold rGone at hq; simp only [Prod.mk.injEq, GoneP.mk.injEq] at hq; rw [hq.1.1] at this; exact this
    have hv2 := HV.out
    rw [hq] at hs2 hv2 ⊢
    simp only at hs2 hv2 ⊢
    obtain ⟨at2, bad2⟩ := s2
    have HV2 := Lib.hid hv2; clear hv2 hq
    have HF2 := Lib.hid (heap_grown HF1.out hg2 hGne1)
    have HR2 := Lib.hid (heap_grown HR1.out hg2 hGne2)
    have HN2 := Lib.hid (heap_grown HN1.out hg2 hGne3)
    have HB2 := Lib.hid (blw HB1.out hg2 (by have := HGH.out; have := HH.out; omega) (Nat.le_refl _))
    -- what was read
    obtain ⟨w3, hw3⟩ : ∃ w3, w3 = w2.alloc (.cells #[.string (bs k), .int .i64 (t : Int)] 85) := ⟨_, rfl⟩
    obtain ⟨X, hX⟩ : ∃ X, X = w2.heap.size := ⟨_, rfl⟩
    have hb3 : Below w2.heap.size w2 w3 := by rw [hw3]; exact (Below.refl _ _).alloc (Nat.le_refl _) _
    have hx3 : w3.heap[X]? = some (.cells #[.string (bs k), .int .i64 (t : Int)] 85 (0, 0)) := by rw [hw3, hX]; exact heap_alloc_new w2 _
    have HX3 := Lib.hid hx3; clear hx3
    have HF3 := Lib.hid (heap_below HF2.out hb3)
    have HR3 := Lib.hid (heap_below HR2.out hb3)
    have HN3 := Lib.hid (heap_below HN2.out hb3)
    have hs3 := hs2.keep hb3
    have HB3 := Lib.hid (HB2.out.trans (hb3.mono HB2.out.size))
    have c1 := hs3.c1
    have c2 := hs3.c2
    simp only at c1 c2
    clear hs2 hg2 hs3 hb3 d1
    have n0 := box_cells HN3.out 0 (.string (bs [])) rfl
    have n1 := box_cells HN3.out 1 (.int .i64 0) rfl
    have r0 := box_cells HR3.out 0 (.string (bs [])) rfl
    have r1 := box_cells HR3.out 1 (.int .i64 0) rfl
    have rf : ∀ i, w3.frozen? ⟨H + 1, i, none⟩ = false := by intro i; have := HR3.out; simp [World.frozen?, this]
    have hgeH : w.heap.size ≤ H + 1 := by rw [HH.out]; omega
    have hle : w.heap.size ≤ w.heap.size := Nat.le_refl _
    go_upto_region 6 with fail
    rw [← hw3, ← hX]
    have HW3 := Lib.hid hw3; clear hw3
    have HXX := Lib.hid hX; clear hX
    by_cases hbad : bad2 = true ∨ at2 < b.length
    · have hv3 := HV2.out
      rw [endC_lt b ⟨at2, bad2⟩ _ hbad] at hv3
      have HV3 := Lib.hid hv3; clear hv3
      have hfin := set2 HR3.out (.string (bs [])) (.int .i64 0)
      have hblw := blw HB3.out hfin.2 hgeH hle
      have HBL := Lib.hid hblw; clear hblw hfin
      go_cut [29] (fun v29 wx => v29 = .bool true ∧ wx = w3)
      case first =>
        cases bad2 with
        | true =>
          go_wp2_with fail
          go_meet
          exact ⟨rfl, rfl⟩
        | false =>
          have hlt : at2 < b.length := hbad.resolve_left (by simp)
          have t1 : decide (at2 < b.length) = true := by simpa using hlt
          go_wp2_with fail
          go_meet
          exact ⟨rfl, rfl⟩
      case rest =>
        obtain ⟨rfl, hwx⟩ := hcut
        obtain rfl := hwx.symm
        go_wp2_with fail
        have hGne4 : ¬ G = H + 1 := fun e => hGne2 e.symm
        go_region_held3 (fun w' => w'.cell? ⟨H + 1 + 1, 0, none⟩ = some (.string (bs [])) ∧ w'.cell? ⟨H + 1 + 1, 1, none⟩ = some (.int .i64 0) ∧ w'.cell? ⟨G, 1, none⟩ = some (.int .i64 (at2 : Int))) (go_keep) (fail)
        go_wp2_with fail
        refine bodyPost_ret (v := .tuple #[.agg #[.string (bs []), .int .i64 0], .int .i64 (at2 : Int), .int .i64 61]) (by simp [results, Try.results113, go_sem, *]) rfl ?_
        rw [HV3.out]
        exact ⟨rfl, below_drewN HBL.out 1⟩
    · have hv3 := HV2.out
      rw [endC_ok b ⟨at2, bad2⟩ _ hbad] at hv3
      have HV3 := Lib.hid hv3; clear hv3
      obtain rfl : bad2 = false := by cases bad2 <;> simp_all
      have t1 : decide (at2 < b.length) = false := by simp; omega
      have d2 := box_cells HF3.out 2 (.func (.func 115) #[] #[]) rfl
      have x0 := box_cells HX3.out 0 (.string (bs k)) rfl
      have x1 := box_cells HX3.out 1 (.int .i64 (t : Int)) rfl
      clear hbad
      go_wp2_with fail
      refine (gone2_any k t w3 (by omega)).mono ?_
      rintro e w4 ⟨rfl, hb4⟩
      have HR4 := Lib.hid (heap_below HR3.out hb4)
      have HN4 := Lib.hid (heap_below HN3.out hb4)
      have HX4 := Lib.hid (heap_below HX3.out hb4)
      have HB4 := Lib.hid (HB3.out.trans (hb4.mono HB3.out.size)); clear hb4
      clear n0 n1 r0 r1 rf d2 x0 x1 c1 c2
      have r0 := box_cells HR4.out 0 (.string (bs [])) rfl
      have r1 := box_cells HR4.out 1 (.int .i64 0) rfl
      have rf : ∀ i, w4.frozen? ⟨H + 1, i, none⟩ = false := by intro i; have := HR4.out; simp [World.frozen?, this]
      cases hkk : isKey k with
      | true =>
        have hv4 := HV3.out
        rw [hkk, if_neg (by simp)] at hv4
        have HV4 := Lib.hid hv4; clear hv4 hkk
        have x0 := box_cells HX4.out 0 (.string (bs k)) rfl
        have x1 := box_cells HX4.out 1 (.int .i64 (t : Int)) rfl
        have hfin := set2 HR4.out (.string (bs k)) (.int .i64 (t : Int))
        have hblw := blw HB4.out hfin.2 hgeH hle
        have HBL := Lib.hid hblw; clear hblw hfin
        go_wp2_with fail
        refine bodyPost_ret (v := .tuple #[.agg #[.string (bs k), .int .i64 (t : Int)], .int .i64 0, .int .i64 0]) (by simp [results, Try.results113, go_sem, *]) rfl ?_
        rw [HV4.out]
        exact ⟨rfl, HBL.out⟩
      | false =>
        have hv4 := HV3.out
        rw [hkk, if_pos rfl] at hv4
        have HV4 := Lib.hid hv4; clear hv4 hkk
        have n0 := box_cells HN4.out 0 (.string (bs [])) rfl
        have n1 := box_cells HN4.out 1 (.int .i64 0) rfl
        have hfin := set2 HR4.out (.string (bs [])) (.int .i64 0)
        have hblw := blw HB4.out hfin.2 hgeH hle
        have HBL := Lib.hid hblw; clear hblw hfin
        go_wp2_with fail
        refine bodyPost_ret (v := .tuple #[.agg #[.string (bs []), .int .i64 0], .int .i64 0, .int .i64 60]) (by simp [results, Try.results113, go_sem, *]) rfl ?_
        rw [HV4.out]
        exact ⟨rfl, HBL.out⟩
  · have hv : decGone b = (⟨[], 0⟩, 0, 61) := by unfold decGone; rw [startC_no hk, rGone_bad]; simp only; rw [endC_bad]; rfl
    have HV := Lib.hid hv; clear hv
    have hfin := set2 HR.out (.string (bs [])) (.int .i64 0)
    have hblw : Below w.heap.size w ((w0.setCell ⟨H + 1, 0, none⟩ (.string (bs []))).setCell ⟨H + 1, 1, none⟩ (.int .i64 0)) := blw HB0.out hfin.2 (by rw [HH.out]; omega) (Nat.le_refl _)
    have HBL := Lib.hid hblw; clear hblw hfin
    by_cases h0 : b.length = 0
    · have t1 : b = [] := List.eq_nil_of_length_eq_zero h0
      subst t1
      go_quiet (fail)
      go_wp2_with fail
      refine bodyPost_ret (v := .tuple #[.agg #[.string (bs []), .int .i64 0], .int .i64 0, .int .i64 61]) (by simp [results, Try.results113, go_sem, *]) rfl ?_
      rw [HV.out]
      exact ⟨rfl, below_drewN HBL.out nq⟩
    · obtain ⟨A', c', he, _, hcm, hcell⟩ := HRD.out
      obtain ⟨ad, hA, hcells⟩ := hcell (by omega)
      have hcx := hcells 0 (by omega)
      obtain ⟨x, hx⟩ : ∃ x, x = b[0]'(by omega) := ⟨_, rfl⟩
      rw [← hx, bv_nat] at hcx
      rw [show ad.add 0 = ad from by simp [Addr.add]] at hcx
      injection he with e1 e2 e3
      subst e1 hA
      have hne : x ≠ 71 := fun e => hk (by rw [List.getElem?_eq_getElem (by omega), ← hx, e])
      have t2 : ((x.toNat : Int) != 71) = true := by rw [bne_iff_ne]; intro e; exact hne (UInt8.toNat_inj.1 (by show x.toNat = 71; omega))
      have h0' : 0 < b.length := by omega
      have hn0 : ¬ b = [] := fun e => h0 (by rw [e]; rfl)
      clear hcells hcell e2 e3 hx hk hne
      go_quiet (fail)
      go_wp2_with fail
      refine bodyPost_ret (v := .tuple #[.agg #[.string (bs []), .int .i64 0], .int .i64 0, .int .i64 61]) (by simp [results, Try.results113, go_sem, *]) rfl ?_
      rw [HV.out]
      exact ⟨rfl, below_drewN HBL.out nq⟩
end Go.Proofs.Ytggjipfdfpdecaa
/- The walks of the document's PutRow and PutGone. -/
set_option linter.unusedVariables false
namespace Go.Proofs.Ytggjipfdfpdecaa
open Go.RowKit
attribute [local go_sem] bs_list bs_size

theorem lit_own (w : World) (x : UInt8) : Own (w.alloc (.cells #[.int .u8 (x.toNat : Int)] 5)) w.heap.size (.slice (some ⟨w.heap.size, 0, none⟩) 1 1) [x] :=
  ⟨rfl, .inr ⟨w.heap.size, 1, #[.int .u8 (x.toNat : Int)], rfl, Nat.le_refl _, heap_alloc_new w _, Nat.le_refl _, by simp [maxLen], rfl, rfl⟩⟩
set_option maxHeartbeats 400000 in
theorem fput_num (v : Value) (l : List UInt8) (n : Nat) (w : World) (hr : RdB w v l) (hn : n < 9223372036854775808) (hl : l.length + 10 ≤ 140737488355328) :
    Calls Try.prog 88 #[v, .int .i64 n] w fun e w' => ∃ v', e = .returned v' ∧ Own w' w.heap.size v' (l ++ uvar n) ∧ Below w.heap.size w w' := by
  have hw : IntKind.u64.wrap (n : Int) = (n : Int) := by rw [IntKind.wrap_u64, Int.emod_eq_of_lt (by omega) (by omega)]
  have HR := Lib.hid hr; clear hr
  go_enter Try.func88, Try.ntmps88
  go_wp2_with fail
  refine (refPut_any v l n w HR.out (by omega) hl).mono ?_
  rintro e w1 ⟨v1, rfl, ho1, hb1⟩
  have HO1 := Lib.hid ho1; clear ho1
  have HB1 := Lib.hid hb1; clear hb1
  go_wp2_with fail
  go_ret
  exact ⟨_, rfl, HO1.out, HB1.out⟩
set_option maxHeartbeats 400000 in
theorem fput_text (v : Value) (l : List UInt8) (t : List UInt8) (w : World) (hr : RdB w v l) (hl : l.length + t.length + 10 ≤ 140737488355328) :
    Calls Try.prog 89 #[v, .string (bs t)] w fun e w' => ∃ v', e = .returned v' ∧ Own w' w.heap.size v' (l ++ uvar t.length ++ t) ∧ Below w.heap.size w w' := by
  have HR := Lib.hid hr; clear hr
  go_enter Try.func89, Try.ntmps89
  go_wp2_with fail
  refine (refPutText_any v l (bs t) w HR.out (by rw [bs_size]; exact hl)).mono ?_
  rintro e w1 ⟨v1, rfl, ho1, hb1⟩
  rw [bs_size, bs_data] at ho1
  have HO1 := Lib.hid ho1; clear ho1
  have HB1 := Lib.hid hb1; clear hb1
  go_wp2_with fail
  go_ret
  exact ⟨_, rfl, HO1.out, HB1.out⟩

set_option maxRecDepth 100000 in
set_option maxHeartbeats 1000000 in
theorem rightRow_any (k v : List UInt8) (t : Int) (w : World) (hk : k.length ≤ 140737488355328) :
    Calls Try.prog 112 #[.agg #[.string (bs k), .string (bs v), .int .i64 t]] w fun e w' => e = .returned (.bool (isKey k && isVal v && isTm t)) ∧ Below w.heap.size w w' := by
  have k1 := refIsKey_any k (w.alloc (.cells #[.string (bs k), .string (bs v), .int .i64 t] 81)) hk
  have k2 := refIsVal_any v (w.alloc (.cells #[.string (bs k), .string (bs v), .int .i64 t] 81))
  have k3 := timed_any t (w.alloc (.cells #[.string (bs k), .string (bs v), .int .i64 t] 81))
  have HB := Lib.hid ((Below.refl w.heap.size w).alloc (Nat.le_refl _) (.cells #[.string (bs k), .string (bs v), .int .i64 t] 81))
  cases h1 : isKey k
  · rw [h1] at k1
    go_enter Try.func112, Try.ntmps112
    go_wp2_with fail
    refine k1.mono ?_
    rintro e w' ⟨rfl, rfl⟩
    go_wp2_with fail
    go_ret
    exact ⟨rfl, HB.out⟩
  · rw [h1] at k1
    cases h2 : isVal v
    · rw [h2] at k2
      go_enter Try.func112, Try.ntmps112
      go_wp2_with fail
      refine k1.mono ?_
      rintro e w' ⟨rfl, rfl⟩
      go_wp2_with fail
      refine k2.mono ?_
      rintro e w' ⟨rfl, rfl⟩
      go_wp2_with fail
      go_ret
      exact ⟨rfl, HB.out⟩
    · rw [h2] at k2
      go_enter Try.func112, Try.ntmps112
      go_wp2_with fail
      refine k1.mono ?_
      rintro e w' ⟨rfl, rfl⟩
      go_wp2_with fail
      refine k2.mono ?_
      rintro e w' ⟨rfl, rfl⟩
      go_wp2_with fail
      refine k3.mono ?_
      rintro e w' ⟨rfl, rfl⟩
      go_wp2_with fail
      go_ret
      exact ⟨by simp, HB.out⟩
set_option maxRecDepth 100000 in
set_option maxHeartbeats 1000000 in
theorem rightGone_any (k : List UInt8) (t : Int) (w : World) (hk : k.length ≤ 140737488355328) :
    Calls Try.prog 116 #[.agg #[.string (bs k), .int .i64 t]] w fun e w' => e = .returned (.bool (isKey k && isTm t)) ∧ Below w.heap.size w w' := by
  have k1 := refIsKey_any k (w.alloc (.cells #[.string (bs k), .int .i64 t] 85)) hk
  have k3 := timed_any t (w.alloc (.cells #[.string (bs k), .int .i64 t] 85))
  have HB := Lib.hid ((Below.refl w.heap.size w).alloc (Nat.le_refl _) (.cells #[.string (bs k), .int .i64 t] 85))
  cases h1 : isKey k
  · rw [h1] at k1
    go_enter Try.func116, Try.ntmps116
    go_wp2_with fail
    refine k1.mono ?_
    rintro e w' ⟨rfl, rfl⟩
    go_wp2_with fail
    go_ret
    exact ⟨rfl, HB.out⟩
  · rw [h1] at k1
    go_enter Try.func116, Try.ntmps116
    go_wp2_with fail
    refine k1.mono ?_
    rintro e w' ⟨rfl, rfl⟩
    go_wp2_with fail
    refine k3.mono ?_
    rintro e w' ⟨rfl, rfl⟩
    go_wp2_with fail
    go_ret
    exact ⟨by simp, HB.out⟩

set_option maxRecDepth 100000 in
set_option maxHeartbeats 1000000 in
theorem refPutRow_any (k v : List UInt8) (t : Int) (w : World) (hk : k.length ≤ 140737488355328) :
    Calls Try.prog 68 #[.agg #[.string (bs k), .string (bs v), .int .i64 t]] w (PutA w (isKey k && isVal v && isTm t) (encRow k v t.toNat)) := by
  obtain ⟨wb, hwb⟩ : ∃ wb, wb = w.alloc (.cells #[.string (bs k), .string (bs v), .int .i64 t] 81) := ⟨_, rfl⟩
  have hbb : Below w.heap.size w wb := by rw [hwb]; exact (Below.refl _ _).alloc (Nat.le_refl _) _
  have hbx : wb.heap[w.heap.size]? = some (.cells #[.string (bs k), .string (bs v), .int .i64 t] 81 (0, 0)) := by rw [hwb]; exact heap_alloc_new w _
  have hbs : wb.heap.size = w.heap.size + 1 := by rw [hwb]; simp
  have kr := rightRow_any k v t wb hk
  have HBX := Lib.hid hbx; clear hbx
  have HBB := Lib.hid hbb; clear hbb
  have HBS := Lib.hid hbs; clear hbs
  cases ho : (isKey k && isVal v && isTm t)
  · rw [ho] at kr
    clear ho
    go_enter Try.func68, Try.ntmps68
    go_wp2_with fail
    rw [← hwb]
    clear hwb
    refine kr.mono ?_
    rintro e w1 ⟨rfl, hb1⟩
    have HB1 := Lib.hid (HBB.out.trans (hb1.mono HBB.out.size)); clear hb1
    go_wp2_with fail
    go_ret2
    exact ⟨HB1.out, .inl ⟨rfl, rfl⟩⟩
  · rw [ho] at kr
    simp only [Bool.and_eq_true] at ho
    obtain ⟨⟨h1, h2⟩, h3⟩ := ho
    obtain ⟨hk1, hk2⟩ := (isKey_iff k).1 h1
    have hv1 := (isVal_iff v).1 h2
    obtain ⟨n, rfl⟩ := Int.eq_ofNat_of_zero_le ((isTm_iff t).1 h3).1
    have hn := ((isTm_iff n).1 h3).2
    have hu1 := uvar_len10 (n := k.length) (by omega)
    have hu2 := uvar_len10 (n := v.length) (by omega)
    clear h1 h2 h3
    go_enter Try.func68, Try.ntmps68
    go_wp2_with fail
    rw [← hwb]
    clear hwb
    refine kr.mono ?_
    rintro e w1 ⟨rfl, hb1⟩
    have HBX1 := Lib.hid (heap_below HBX.out hb1)
    have HB1 := Lib.hid (HBB.out.trans (hb1.mono HBB.out.size)); clear hb1
    clear kr
    have hbl : Below w1.heap.size w1 (w1.alloc (.cells #[.int .u8 82] 5)) := (Below.refl _ _).alloc (Nat.le_refl _) _
    have HBX2 := Lib.hid (heap_below HBX1.out hbl)
    have HB2 := Lib.hid (HB1.out.trans (hbl.mono HB1.out.size))
    have HL := Lib.hid (Own.rd (lit_own w1 82)); clear hbl
    have d1 := box_cells HBX2.out 0 (.string (bs k)) rfl
    go_wp2_with fail
    refine (fput_text _ [82] k _ HL.out (by simp; omega)).mono ?_
    rintro e w2 ⟨v2, rfl, ho, hb⟩
    obtain ⟨L2, hL2⟩ : ∃ L, L = [82] ++ uvar k.length ++ k := ⟨_, rfl⟩
    rw [← hL2] at ho
    have hl2 : L2.length ≤ 100 := by rw [hL2]; simp; omega
    have HL2 := Lib.hid hL2; clear hL2
    have HO2 := Lib.hid ho.rd
    have HBX3 := Lib.hid (heap_below HBX2.out hb)
    have HB3 := Lib.hid (HB2.out.trans (hb.mono HB2.out.size)); clear ho hb
    have d2 := box_cells HBX3.out 1 (.string (bs v)) rfl
    obtain ⟨A2, c2, rfl, _, _, _⟩ := id HO2.out
    go_wp2_with fail
    refine (fput_text _ L2 v _ HO2.out (by omega)).mono ?_
    rintro e w3 ⟨v3, rfl, ho, hb⟩
    obtain ⟨L3, hL3⟩ : ∃ L, L = L2 ++ uvar v.length ++ v := ⟨_, rfl⟩
    rw [← hL3] at ho
    have hl3 : L3.length ≤ 200 := by rw [hL3]; simp; omega
    have HL3 := Lib.hid hL3; clear hL3
    have HO3 := Lib.hid ho.rd
    have HBX4 := Lib.hid (heap_below HBX3.out hb)
    have HB4 := Lib.hid (HB3.out.trans (hb.mono HB3.out.size)); clear ho hb
    have d3 := box_cells HBX4.out 2 (.int .i64 n) rfl
    obtain ⟨A3, c3, rfl, _, _, _⟩ := id HO3.out
    go_wp2_with fail
    refine (fput_num _ L3 n _ HO3.out (by omega) (by omega)).mono ?_
    rintro e w4 ⟨v4, rfl, ho, hb⟩
    have HO4 := Lib.hid (Own.base ho HB4.out.size)
    have HB5 := Lib.hid (HB4.out.trans (hb.mono HB4.out.size)); clear ho hb
    go_wp2_with fail
    go_ret2
    refine ⟨HB5.out, .inr ⟨rfl, v4, rfl, ?_⟩⟩
    have := HO4.out
    rw [HL3.out, HL2.out] at this
    simpa [encRow, txt, List.append_assoc] using this

set_option maxRecDepth 100000 in
set_option maxHeartbeats 1000000 in
theorem refPutGone_any (k : List UInt8) (t : Int) (w : World) (hk : k.length ≤ 140737488355328) :
    Calls Try.prog 70 #[.agg #[.string (bs k), .int .i64 t]] w (PutA w (isKey k && isTm t) (encGone k t.toNat)) := by
  obtain ⟨wb, hwb⟩ : ∃ wb, wb = w.alloc (.cells #[.string (bs k), .int .i64 t] 85) := ⟨_, rfl⟩
  have hbb : Below w.heap.size w wb := by rw [hwb]; exact (Below.refl _ _).alloc (Nat.le_refl _) _
  have hbx : wb.heap[w.heap.size]? = some (.cells #[.string (bs k), .int .i64 t] 85 (0, 0)) := by rw [hwb]; exact heap_alloc_new w _
  have kr := rightGone_any k t wb hk
  have HBX := Lib.hid hbx; clear hbx
  have HBB := Lib.hid hbb; clear hbb
  cases ho : (isKey k && isTm t)
  · rw [ho] at kr
    clear ho
    go_enter Try.func70, Try.ntmps70
    go_wp2_with fail
    rw [← hwb]
    clear hwb
    refine kr.mono ?_
    rintro e w1 ⟨rfl, hb1⟩
    have HB1 := Lib.hid (HBB.out.trans (hb1.mono HBB.out.size)); clear hb1
    go_wp2_with fail
    go_ret2
    exact ⟨HB1.out, .inl ⟨rfl, rfl⟩⟩
  · rw [ho] at kr
    simp only [Bool.and_eq_true] at ho
    obtain ⟨h1, h3⟩ := ho
    obtain ⟨hk1, hk2⟩ := (isKey_iff k).1 h1
    obtain ⟨n, rfl⟩ := Int.eq_ofNat_of_zero_le ((isTm_iff t).1 h3).1
    have hn := ((isTm_iff n).1 h3).2
    have hu1 := uvar_len10 (n := k.length) (by omega)
    clear h1 h3
    go_enter Try.func70, Try.ntmps70
    go_wp2_with fail
    rw [← hwb]
    clear hwb
    refine kr.mono ?_
    rintro e w1 ⟨rfl, hb1⟩
    have HBX1 := Lib.hid (heap_below HBX.out hb1)
    have HB1 := Lib.hid (HBB.out.trans (hb1.mono HBB.out.size)); clear hb1
    clear kr
    have hbl : Below w1.heap.size w1 (w1.alloc (.cells #[.int .u8 71] 5)) := (Below.refl _ _).alloc (Nat.le_refl _) _
    have HBX2 := Lib.hid (heap_below HBX1.out hbl)
    have HB2 := Lib.hid (HB1.out.trans (hbl.mono HB1.out.size))
    have HL := Lib.hid (Own.rd (lit_own w1 71)); clear hbl
    have d1 := box_cells HBX2.out 0 (.string (bs k)) rfl
    go_wp2_with fail
    refine (fput_text _ [71] k _ HL.out (by simp; omega)).mono ?_
    rintro e w2 ⟨v2, rfl, ho, hb⟩
    obtain ⟨L2, hL2⟩ : ∃ L, L = [71] ++ uvar k.length ++ k := ⟨_, rfl⟩
    rw [← hL2] at ho
    have hl2 : L2.length ≤ 100 := by rw [hL2]; simp; omega
    have HL2 := Lib.hid hL2; clear hL2
    have HO2 := Lib.hid ho.rd
    have HBX3 := Lib.hid (heap_below HBX2.out hb)
    have HB3 := Lib.hid (HB2.out.trans (hb.mono HB2.out.size)); clear ho hb
    have d2 := box_cells HBX3.out 1 (.int .i64 n) rfl
    obtain ⟨A2, c2, rfl, _, _, _⟩ := id HO2.out
    go_wp2_with fail
    refine (fput_num _ L2 n _ HO2.out (by omega) (by omega)).mono ?_
    rintro e w4 ⟨v4, rfl, ho, hb⟩
    have HO4 := Lib.hid (Own.base ho HB3.out.size)
    have HB5 := Lib.hid (HB3.out.trans (hb.mono HB3.out.size)); clear ho hb
    go_wp2_with fail
    go_ret2
    refine ⟨HB5.out, .inr ⟨rfl, v4, rfl, ?_⟩⟩
    have := HO4.out
    rw [HL2.out] at this
    simpa [encGone, txt, List.append_assoc] using this
end Go.Proofs.Ytggjipfdfpdecaa
