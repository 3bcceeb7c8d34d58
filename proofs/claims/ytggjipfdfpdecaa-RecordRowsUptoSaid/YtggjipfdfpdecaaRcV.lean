/- The walks of record's Gone. -/
import Derived.Test.YtggjipfdfpdecaaRcU
set_option linter.unusedVariables false
namespace Go.Proofs.Ytggjipfdfpdecaa
open Go.RowKit
attribute [local go_sem] bs_list bs_size

theorem noByte2 {a b : Value} (ha : ∀ x : UInt8, a ≠ bv x) (hb : ∀ x : UInt8, b ≠ bv x) : NoByte #[a, b] := by
  intro i u h x
  match i, h with
  | 0, h => simp at h; rw [← h]; exact ha x
  | 1, h => simp at h; rw [← h]; exact hb x
  | i + 2, h => simp at h
set_option maxRecDepth 100000 in
set_option maxHeartbeats 1000000 in
theorem gone1_any (g : Nat) (A : Option Addr) (c : Nat) (b : List UInt8) (s : RS) (w : World) (hs : RdSt w g A c b s) (hl : b.length ≤ 140737488355328) :
    Calls Try.prog 114 #[.pointer (some ⟨g, 0, none⟩)] w fun e w' => e = .returned (.agg #[.string (bs (rGone b s).1.key), .int .i64 ((rGone b s).1.time : Nat)]) ∧ RdSt w' g A c b (rGone b s).2 ∧ w.grownBy w' (some g) := by
  have hgl : g < w.heap.size := (Array.getElem?_eq_some_iff.1 hs.1).1
  obtain ⟨w0, hw0⟩ : ∃ w0, w0 = w.alloc (.cells #[.string (bs []), .int .i64 0] 85) := ⟨_, rfl⟩
  have hb0 : Below w.heap.size w w0 := by rw [hw0]; exact (Below.refl _ _).alloc (Nat.le_refl _) _
  have hx0 : w0.heap[w.heap.size]? = some (.cells #[.string (bs []), .int .i64 0] 85 (0, 0)) := by rw [hw0]; exact heap_alloc_new w _
  obtain ⟨H, hH⟩ : ∃ H, H = w.heap.size := ⟨_, rfl⟩
  rw [← hH] at hx0
  have HS0 := Lib.hid (hs.keep hb0)
  have HG0 := Lib.hid (below_grown hb0 (some g))
  have HX0 := Lib.hid hx0; clear hx0 hb0
  go_enter Try.func114, Try.ntmps114
  go_wp2_with fail
  simp only [bs_nil]
  rw [← hw0, ← hH]
  have HH := Lib.hid hH; clear hw0 hH
  refine (rtext_any g A c b s 16 w0 HS0.out hl (by omega)).mono ?_
  rintro e w1 ⟨rfl, hs1, hg1⟩
  have HG1 := Lib.hid (HG0.out.trans hg1)
  have hHg : H ≠ g := by have := HH.out; omega
  have HX1 := Lib.hid (heap_grown HX0.out hg1 hHg)
  obtain ⟨k, s1, hk⟩ : ∃ k s1, rTxt b 16 s = (k, s1) := ⟨_, _, rfl⟩
  rw [hk] at hs1 ⊢
  have HS1 := Lib.hid hs1; clear hs1 hg1
  simp only at HS1 ⊢
  have HK := Lib.hid hk; clear hk
  -- the row's own variable
  obtain ⟨w2, hw2⟩ : ∃ w2, w2 = w1.alloc (.cells #[.string (bs k), .int .i64 0] 85) := ⟨_, rfl⟩
  obtain ⟨H2, hH2⟩ : ∃ H2, H2 = w1.heap.size := ⟨_, rfl⟩
  have hb2 : Below w1.heap.size w1 w2 := by rw [hw2]; exact (Below.refl _ _).alloc (Nat.le_refl _) _
  have hx2 : w2.heap[H2]? = some (.cells #[.string (bs k), .int .i64 0] 85 (0, 0)) := by rw [hw2, hH2]; exact heap_alloc_new w1 _
  have hHl : H < w1.heap.size := (Array.getElem?_eq_some_iff.1 HX1.out).1
  have hgl2 : g < w1.heap.size := (Array.getElem?_eq_some_iff.1 HS1.out.1).1
  have hne1 : H2 ≠ g := by omega
  have hne2 : H ≠ H2 := by omega
  have HX2 := Lib.hid hx2; clear hx2
  have HR2 := Lib.hid (heap_below HX1.out hb2)
  have HS2 := Lib.hid (HS1.out.keep hb2)
  have HG2 := Lib.hid (HG1.out.trans (below_grown hb2 (some g))); clear hb2 hHl hgl2
  go_wp2_with fail
  rw [← hw2, ← hH2]
  have HW2 := Lib.hid hw2; clear hw2
  have HH2 := Lib.hid hH2; clear hH2
  refine (rtime_any g A c b s1 w2 HS2.out hl).mono ?_
  rintro e w5 ⟨rfl, hs5, hg5⟩
  obtain ⟨t, s5, ht⟩ : ∃ t s5, rNum b 1099511627775 s1 = (t, s5) := ⟨_, _, rfl⟩
  rw [ht] at hs5 ⊢
  simp only at hs5 ⊢
  have hres : rGone b s = (⟨k, t⟩, s5) := by unfold rGone; rw [HK.out]; simp only; rw [ht]
  have HRES := Lib.hid hres
  clear ht hres
  have HX5 := Lib.hid (heap_grown HX2.out hg5 hne1)
  have hH2l : w.heap.size ≤ H2 := by rw [HH2.out]; exact HG1.out.size
  have HG5 := Lib.hid (HG2.out.trans hg5)
  have HR5 := Lib.hid (heap_grown HR2.out hg5 hHg)
  have e5 := box_cells HX5.out 0 (.string (bs k)) rfl
  have e6 := box_cells HX5.out 1 (.int .i64 0) rfl
  have f5 : ∀ i, w5.frozen? ⟨H2, i, none⟩ = false := by intro i; have := HX5.out; simp [World.frozen?, this]
  have r5 : ∀ i, w5.frozen? ⟨H, i, none⟩ = false := by intro i; have := HR5.out; simp [World.frozen?, this]
  have r6 := box_cells HR5.out 0 (.string (bs [])) rfl
  have r7 := box_cells HR5.out 1 (.int .i64 0) rfl
  have hne3 : ¬ H = H2 := hne2
  have hne4 : ¬ H2 = H := fun e => hne2 e.symm
  go_wp2_with fail
  have HR6 := heap_grown HR5.out (only_one w5 H2 1 (.int .i64 (t : Int))) hne2
  have hs6 := hs5.other HX5.out (noByte2 (str_bv _) (int_bv _)) (fun e => hne1 e.symm) (only_one w5 H2 1 (.int .i64 (t : Int)))
  obtain ⟨-, hs8⟩ := set2 HR6 (.string (bs k)) (.int .i64 (t : Int))
  have hs7 := hs6.other HR6 (noByte2 (str_bv _) (int_bv _)) (fun e => hHg e.symm) hs8
  have hg7 := grown_new (grown_new HG5.out (only_one w5 H2 1 (.int .i64 (t : Int))) hH2l) hs8 (by rw [HH.out]; exact Nat.le_refl _)
  refine bodyPost_ret (v := .agg #[.string (bs k), .int .i64 (t : Int)]) (by simp [results, Try.results114, go_sem, *]) rfl ?_
  rw [HRES.out]
  exact ⟨rfl, hs7, hg7⟩

set_option maxRecDepth 100000 in
set_option maxHeartbeats 1000000 in
theorem gone2_any (k : List UInt8) (t : Int) (w : World) (hk : k.length ≤ 140737488355328) :
    Calls Try.prog 115 #[.agg #[.string (bs k), .int .i64 t]] w fun e w' => e = .returned (.bool (isKey k)) ∧ Below w.heap.size w w' := by
  have k1 := isKey_any k (w.alloc (.cells #[.string (bs k), .int .i64 t] 85)) hk
  have HB := Lib.hid ((Below.refl w.heap.size w).alloc (Nat.le_refl _) (.cells #[.string (bs k), .int .i64 t] 85))
  go_enter Try.func115, Try.ntmps115
  go_wp2_with fail
  refine k1.mono ?_
  rintro e w' ⟨rfl, rfl⟩
  go_wp2_with fail
  go_ret
  exact ⟨rfl, HB.out⟩

set_option maxRecDepth 100000 in
set_option maxHeartbeats 2000000 in
theorem takeGone_any (A : Option Addr) (c : Nat) (b : List UInt8) (w : World) (hr : RdB w (.slice A b.length c) b) (hl : b.length ≤ 140737488355328) :
    Calls Try.prog 113 #[.agg #[.int .u8 71, .func (.func 114) #[] #[], .func (.func 115) #[] #[]], .slice A b.length c] w fun e w' => e = .returned (.tuple #[.agg #[.string (bs (decGone b).1.key), .int .i64 ((decGone b).1.time : Nat)], .int .i64 ((decGone b).2.1 : Nat), .int .i64 ((decGone b).2.2 : Nat)]) ∧ Below w.heap.size w w' := by
  obtain ⟨H, hH⟩ : ∃ H, H = w.heap.size := ⟨_, rfl⟩
  obtain ⟨w0, hw0⟩ : ∃ w0, w0 = ((w.alloc (.cells #[.int .u8 71, .func (.func 114) #[] #[], .func (.func 115) #[] #[]] 142)).alloc (.cells #[.string (bs []), .int .i64 0] 85)).alloc (.cells #[.string (bs []), .int .i64 0] 85) := ⟨_, rfl⟩
  have hb1 : Below w.heap.size w (w.alloc (.cells #[.int .u8 71, .func (.func 114) #[] #[], .func (.func 115) #[] #[]] 142)) := (Below.refl _ _).alloc (Nat.le_refl _) _
  have hb0 : Below w.heap.size w w0 := by rw [hw0]; exact (hb1.alloc hb1.size _).alloc (by simp; omega) _
  have hF : w0.heap[H]? = some (.cells #[.int .u8 71, .func (.func 114) #[] #[], .func (.func 115) #[] #[]] 142 (0, 0)) := by
    rw [hw0, hH]
    exact heap_below (heap_below (heap_alloc_new w _) ((Below.refl _ _).alloc (Nat.le_refl _) _)) ((Below.refl _ _).alloc (Nat.le_refl _) _)
  have hR : w0.heap[H + 1]? = some (.cells #[.string (bs []), .int .i64 0] 85 (0, 0)) := by
    rw [hw0, hH]
    have := heap_alloc_new (w.alloc (.cells #[.int .u8 71, .func (.func 114) #[] #[], .func (.func 115) #[] #[]] 142)) (.cells #[.string (bs []), .int .i64 0] 85)
    rw [show (w.alloc (.cells #[.int .u8 71, .func (.func 114) #[] #[], .func (.func 115) #[] #[]] 142)).heap.size = w.heap.size + 1 from by simp] at this
    exact heap_below this ((Below.refl _ _).alloc (Nat.le_refl _) _)
  have hN : w0.heap[H + 1 + 1]? = some (.cells #[.string (bs []), .int .i64 0] 85 (0, 0)) := by
    rw [hw0, hH]
    have := heap_alloc_new ((w.alloc (.cells #[.int .u8 71, .func (.func 114) #[] #[], .func (.func 115) #[] #[]] 142)).alloc (.cells #[.string (bs []), .int .i64 0] 85)) (.cells #[.string (bs []), .int .i64 0] 85)
    rw [show ((w.alloc (.cells #[.int .u8 71, .func (.func 114) #[] #[], .func (.func 115) #[] #[]] 142)).alloc (.cells #[.string (bs []), .int .i64 0] 85)).heap.size = w.heap.size + 1 + 1 from by simp] at this
    exact this
  have hsz : w0.heap.size = H + 3 := by rw [hw0, hH]; simp
  have hrd := hr.below hb0
  have HB0 := Lib.hid hb0; clear hb0 hb1
  have HF := Lib.hid hF; clear hF
  have HR := Lib.hid hR; clear hR
  have HN := Lib.hid hN; clear hN
  have HSZ := Lib.hid hsz; clear hsz
  have HRD := Lib.hid hrd; clear hrd
  have d0 := box_cells HF.out 0 (.int .u8 71) rfl
  have d1 := box_cells HF.out 1 (.func (.func 114) #[] #[]) rfl
  have d2 := box_cells HF.out 2 (.func (.func 115) #[] #[]) rfl
  have n0 := box_cells HN.out 0 (.string (bs [])) rfl
  have n1 := box_cells HN.out 1 (.int .i64 0) rfl
  have r0 := box_cells HR.out 0 (.string (bs [])) rfl
  have r1 := box_cells HR.out 1 (.int .i64 0) rfl
  have rf : ∀ i, w0.frozen? ⟨H + 1, i, none⟩ = false := by intro i; have := HR.out; simp [World.frozen?, this]
  go_enter Try.func113, Try.ntmps113
  go_wp2_with fail
  simp only [bs_nil]
  rw [← hH]
  rw [← hw0]
  have HH := Lib.hid hH
  clear hw0 hH
  by_cases hk : b[0]? = some 71
  · have hlt0 : 0 < b.length := (List.getElem?_eq_some_iff.1 hk).1
    have hx71 : b[0] = 71 := (List.getElem?_eq_some_iff.1 hk).2
    obtain ⟨A', c', he, hcc, hcm, hcell⟩ := HRD.out
    obtain ⟨ad, hA, hcells⟩ := hcell (by omega)
    have hcx := hcells 0 (by omega)
    rw [hx71] at hcx
    change w0.cell? (ad.add 0) = some (.int .u8 71) at hcx
    rw [show ad.add 0 = ad from by simp [Addr.add]] at hcx
    injection he with e1 e2 e3
    subst e1 hA
    have h0' : 0 < b.length := by omega
    have hn0 : ¬ b = [] := fun e => by rw [e] at hlt0; simp at hlt0
    have hv : decGone b = ansC ⟨[], 0⟩ (rGone b ⟨1, false⟩).1 (endC b (rGone b ⟨1, false⟩).2 (isKey (rGone b ⟨1, false⟩).1.key)) := by unfold decGone; rw [startC_yes hk]
    have HV := Lib.hid hv; clear hv
    clear hcells hcell e2 e3 hk hx71
    go_quiet (fail)
    go_upto_region 5 with fail
    obtain ⟨w1, hw1⟩ : ∃ w1, w1 = (w0.drewN nq).alloc (.cells #[.slice (some ad) b.length c, .int .i64 1, .bool false] 151) := ⟨_, rfl⟩
    have hb1 : Below w0.heap.size w0 w1 := by rw [hw1]; exact (below_drewN (Below.refl _ _) nq).alloc (Nat.le_refl _) _
    have hs1 : RdSt w1 w0.heap.size (some ad) c b ⟨1, false⟩ := ⟨by rw [hw1]; exact heap_alloc_new (w0.drewN nq) _, HRD.out.below hb1⟩
    obtain ⟨G, hG⟩ : ∃ G, G = w0.heap.size := ⟨_, rfl⟩
    have hGH : G = H + 3 := by rw [hG, HSZ.out]
    have hGne1 : H ≠ G := by omega
    have hGne2 : H + 1 ≠ G := by omega
    have hGne3 : H + 1 + 1 ≠ G := by omega
    rw [← hw1, ← hG]
    rw [← hG] at hs1
    have HF1 := Lib.hid (heap_below HF.out hb1)
    have HR1 := Lib.hid (heap_below HR.out hb1)
    have HN1 := Lib.hid (heap_below HN.out hb1)
    have HB1 := Lib.hid (HB0.out.trans (hb1.mono HB0.out.size))
    have HS1 := Lib.hid hs1
    clear hw1 hG hs1 hb1 d0 d1 d2 n0 n1 r0 r1 rf
    have HGH := Lib.hid hGH; clear hGH
    have d1 := box_cells HF1.out 1 (.func (.func 114) #[] #[]) rfl
    go_wp2_with fail
    refine (gone1_any G (some ad) c b ⟨1, false⟩ w1 HS1.out hl).mono ?_
    rintro e w2 ⟨rfl, hs2, hg2⟩
    obtain ⟨q, s2, hq⟩ : ∃ q s2, rGone b ⟨1, false⟩ = (q, s2) := ⟨_, _, rfl⟩
    obtain ⟨k, t⟩ := q
    have hklen : k.length ≤ 16 := by have := rTxt_le b 16 ⟨1, false⟩; unfold rGone at hq; simp only [Prod.mk.injEq, GoneP.mk.injEq] at hq; rw [hq.1.1] at this; exact this
    have hv2 := HV.out
    rw [hq] at hs2 hv2 ⊢
    simp only at hs2 hv2 ⊢
    obtain ⟨at2, bad2⟩ := s2
    have HV2 := Lib.hid hv2; clear hv2 hq
    have HF2 := Lib.hid (heap_grown HF1.out hg2 hGne1)
    have HR2 := Lib.hid (heap_grown HR1.out hg2 hGne2)
    have HN2 := Lib.hid (heap_grown HN1.out hg2 hGne3)
    have HB2 := Lib.hid (blw HB1.out hg2 (by have := HGH.out; have := HH.out; omega) (Nat.le_refl _))
    -- what was read
    obtain ⟨w3, hw3⟩ : ∃ w3, w3 = w2.alloc (.cells #[.string (bs k), .int .i64 (t : Int)] 85) := ⟨_, rfl⟩
    obtain ⟨X, hX⟩ : ∃ X, X = w2.heap.size := ⟨_, rfl⟩
    have hb3 : Below w2.heap.size w2 w3 := by rw [hw3]; exact (Below.refl _ _).alloc (Nat.le_refl _) _
    have hx3 : w3.heap[X]? = some (.cells #[.string (bs k), .int .i64 (t : Int)] 85 (0, 0)) := by rw [hw3, hX]; exact heap_alloc_new w2 _
    have HX3 := Lib.hid hx3; clear hx3
    have HF3 := Lib.hid (heap_below HF2.out hb3)
    have HR3 := Lib.hid (heap_below HR2.out hb3)
    have HN3 := Lib.hid (heap_below HN2.out hb3)
    have hs3 := hs2.keep hb3
    have HB3 := Lib.hid (HB2.out.trans (hb3.mono HB2.out.size))
    have c1 := hs3.c1
    have c2 := hs3.c2
    simp only at c1 c2
    clear hs2 hg2 hs3 hb3 d1
    have n0 := box_cells HN3.out 0 (.string (bs [])) rfl
    have n1 := box_cells HN3.out 1 (.int .i64 0) rfl
    have r0 := box_cells HR3.out 0 (.string (bs [])) rfl
    have r1 := box_cells HR3.out 1 (.int .i64 0) rfl
    have rf : ∀ i, w3.frozen? ⟨H + 1, i, none⟩ = false := by intro i; have := HR3.out; simp [World.frozen?, this]
    have hgeH : w.heap.size ≤ H + 1 := by rw [HH.out]; omega
    have hle : w.heap.size ≤ w.heap.size := Nat.le_refl _
    go_upto_region 6 with fail
    rw [← hw3, ← hX]
    have HW3 := Lib.hid hw3; clear hw3
    have HXX := Lib.hid hX; clear hX
    by_cases hbad : bad2 = true ∨ at2 < b.length
    · have hv3 := HV2.out
      rw [endC_lt b ⟨at2, bad2⟩ _ hbad] at hv3
      have HV3 := Lib.hid hv3; clear hv3
      have hfin := set2 HR3.out (.string (bs [])) (.int .i64 0)
      have hblw := blw HB3.out hfin.2 hgeH hle
      have HBL := Lib.hid hblw; clear hblw hfin
      go_cut [29] (fun v29 wx => v29 = .bool true ∧ wx = w3)
      case first =>
        cases bad2 with
        | true =>
          go_wp2_with fail
          go_meet
          exact ⟨rfl, rfl⟩
        | false =>
          have hlt : at2 < b.length := hbad.resolve_left (by simp)
          have t1 : decide (at2 < b.length) = true := by simpa using hlt
          go_wp2_with fail
          go_meet
          exact ⟨rfl, rfl⟩
      case rest =>
        obtain ⟨rfl, hwx⟩ := hcut
        obtain rfl := hwx.symm
        go_wp2_with fail
        have hGne4 : ¬ G = H + 1 := fun e => hGne2 e.symm
        go_region_held3 (fun w' => w'.cell? ⟨H + 1 + 1, 0, none⟩ = some (.string (bs [])) ∧ w'.cell? ⟨H + 1 + 1, 1, none⟩ = some (.int .i64 0) ∧ w'.cell? ⟨G, 1, none⟩ = some (.int .i64 (at2 : Int))) (go_keep) (fail)
        go_wp2_with fail
        refine bodyPost_ret (v := .tuple #[.agg #[.string (bs []), .int .i64 0], .int .i64 (at2 : Int), .int .i64 61]) (by simp [results, Try.results113, go_sem, *]) rfl ?_
        rw [HV3.out]
        exact ⟨rfl, below_drewN HBL.out 1⟩
    · have hv3 := HV2.out
      rw [endC_ok b ⟨at2, bad2⟩ _ hbad] at hv3
      have HV3 := Lib.hid hv3; clear hv3
      obtain rfl : bad2 = false := by cases bad2 <;> simp_all
      have t1 : decide (at2 < b.length) = false := by simp; omega
      have d2 := box_cells HF3.out 2 (.func (.func 115) #[] #[]) rfl
      have x0 := box_cells HX3.out 0 (.string (bs k)) rfl
      have x1 := box_cells HX3.out 1 (.int .i64 (t : Int)) rfl
      clear hbad
      go_wp2_with fail
      refine (gone2_any k t w3 (by omega)).mono ?_
      rintro e w4 ⟨rfl, hb4⟩
      have HR4 := Lib.hid (heap_below HR3.out hb4)
      have HN4 := Lib.hid (heap_below HN3.out hb4)
      have HX4 := Lib.hid (heap_below HX3.out hb4)
      have HB4 := Lib.hid (HB3.out.trans (hb4.mono HB3.out.size)); clear hb4
      clear n0 n1 r0 r1 rf d2 x0 x1 c1 c2
      have r0 := box_cells HR4.out 0 (.string (bs [])) rfl
      have r1 := box_cells HR4.out 1 (.int .i64 0) rfl
      have rf : ∀ i, w4.frozen? ⟨H + 1, i, none⟩ = false := by intro i; have := HR4.out; simp [World.frozen?, this]
      cases hkk : isKey k with
      | true =>
        have hv4 := HV3.out
        rw [hkk, if_neg (by simp)] at hv4
        have HV4 := Lib.hid hv4; clear hv4 hkk
        have x0 := box_cells HX4.out 0 (.string (bs k)) rfl
        have x1 := box_cells HX4.out 1 (.int .i64 (t : Int)) rfl
        have hfin := set2 HR4.out (.string (bs k)) (.int .i64 (t : Int))
        have hblw := blw HB4.out hfin.2 hgeH hle
        have HBL := Lib.hid hblw; clear hblw hfin
        go_wp2_with fail
        refine bodyPost_ret (v := .tuple #[.agg #[.string (bs k), .int .i64 (t : Int)], .int .i64 0, .int .i64 0]) (by simp [results, Try.results113, go_sem, *]) rfl ?_
        rw [HV4.out]
        exact ⟨rfl, HBL.out⟩
      | false =>
        have hv4 := HV3.out
        rw [hkk, if_pos rfl] at hv4
        have HV4 := Lib.hid hv4; clear hv4 hkk
        have n0 := box_cells HN4.out 0 (.string (bs [])) rfl
        have n1 := box_cells HN4.out 1 (.int .i64 0) rfl
        have hfin := set2 HR4.out (.string (bs [])) (.int .i64 0)
        have hblw := blw HB4.out hfin.2 hgeH hle
        have HBL := Lib.hid hblw; clear hblw hfin
        go_wp2_with fail
        refine bodyPost_ret (v := .tuple #[.agg #[.string (bs []), .int .i64 0], .int .i64 0, .int .i64 60]) (by simp [results, Try.results113, go_sem, *]) rfl ?_
        rw [HV4.out]
        exact ⟨rfl, HBL.out⟩
  · have hv : decGone b = (⟨[], 0⟩, 0, 61) := by unfold decGone; rw [startC_no hk, rGone_bad]; simp only; rw [endC_bad]; rfl
    have HV := Lib.hid hv; clear hv
    have hfin := set2 HR.out (.string (bs [])) (.int .i64 0)
    have hblw : Below w.heap.size w ((w0.setCell ⟨H + 1, 0, none⟩ (.string (bs []))).setCell ⟨H + 1, 1, none⟩ (.int .i64 0)) := blw HB0.out hfin.2 (by rw [HH.out]; omega) (Nat.le_refl _)
    have HBL := Lib.hid hblw; clear hblw hfin
    by_cases h0 : b.length = 0
    · have t1 : b = [] := List.eq_nil_of_length_eq_zero h0
      subst t1
      go_quiet (fail)
      go_wp2_with fail
      refine bodyPost_ret (v := .tuple #[.agg #[.string (bs []), .int .i64 0], .int .i64 0, .int .i64 61]) (by simp [results, Try.results113, go_sem, *]) rfl ?_
      rw [HV.out]
      exact ⟨rfl, below_drewN HBL.out nq⟩
    · obtain ⟨A', c', he, _, hcm, hcell⟩ := HRD.out
      obtain ⟨ad, hA, hcells⟩ := hcell (by omega)
      have hcx := hcells 0 (by omega)
      obtain ⟨x, hx⟩ : ∃ x, x = b[0]'(by omega) := ⟨_, rfl⟩
      rw [← hx, bv_nat] at hcx
      rw [show ad.add 0 = ad from by simp [Addr.add]] at hcx
      injection he with e1 e2 e3
      subst e1 hA
      have hne : x ≠ 71 := fun e => hk (by rw [List.getElem?_eq_getElem (by omega), ← hx, e])
      have t2 : ((x.toNat : Int) != 71) = true := by rw [bne_iff_ne]; intro e; exact hne (UInt8.toNat_inj.1 (by show x.toNat = 71; omega))
      have h0' : 0 < b.length := by omega
      have hn0 : ¬ b = [] := fun e => h0 (by rw [e]; rfl)
      clear hcells hcell e2 e3 hx hk hne
      go_quiet (fail)
      go_wp2_with fail
      refine bodyPost_ret (v := .tuple #[.agg #[.string (bs []), .int .i64 0], .int .i64 0, .int .i64 61]) (by simp [results, Try.results113, go_sem, *]) rfl ?_
      rw [HV.out]
      exact ⟨rfl, below_drewN HBL.out nq⟩
end Go.Proofs.Ytggjipfdfpdecaa
