/- The walks of record's Manifest: pairs are read; a manifest is read. -/
import Derived.Test.YtggjipfdfpdecaaRcMb
set_option linter.unusedVariables false
namespace Go.Proofs.Ytggjipfdfpdecaa
open Go.RowKit
attribute [local go_sem] bs_list bs_size

/-- What list answers, at pairs. -/
def ListP (g : Nat) (A : Option Addr) (c : Nat) (b : List UInt8) (w : World) (r : List Pai × RS) (e : Ending) (w' : World) : Prop :=
  ∃ v, e = .returned v ∧ Own3 w' w.heap.size 79 v (r.1.map pV) ∧ RdSt w' g A c b r.2 ∧ w.grownBy w' (some g)


set_option maxRecDepth 100000 in
set_option maxHeartbeats 2000000 in
theorem listP_any (g R : Nat) (A : Option Addr) (c : Nat) (b : List UInt8) (s : RS) (w : World) (hs : RdSt w g A c b s) (hR : w.heap[R]? = some (.cells #[.pointer (some ⟨g, 0, none⟩)] 113 (0, 0))) (hl : b.length ≤ 140737488355328) (ha : s.at_ ≤ 140737488355328) :
    Calls Try.prog 105 #[.pointer (some ⟨g, 0, none⟩), .int .i64 16, .func (.func 106) #[] #[.pointer (some ⟨R, 0, none⟩)]] w (ListP g A c b w (rList (rPai b) (rNum b 16 s).1 (rNum b 16 s).2)) := by
  have hRg := hs.ne_ hR (by decide)
  obtain ⟨⟨N, s1⟩, hN⟩ : ∃ p, p = rNum b 16 s := ⟨_, rfl⟩
  have hN16 : N ≤ 16 := by have := rNum_le b 16 s; rw [← hN] at this; exact this
  have ha1 : s1.at_ ≤ 140737488355328 := by have := rNum_at b 16 s; rw [← hN] at this; simp only at this; omega
  rw [← hN]
  simp only
  have HS := Lib.hid hs
  have HR := Lib.hid hR
  have HN := Lib.hid hN; clear hN hs hR
  obtain ⟨base, hbase⟩ : ∃ x, x = w.heap.size := ⟨_, rfl⟩
  have HBE := Lib.hid hbase
  have hwb : w.heap.size ≤ base := by omega
  clear hbase
  go_enter Try.func105, Try.ntmps105
  go_wp2_with fail
  refine (rnum_any g A c b s 16 w HS.out hl (by omega)).mono ?_
  rintro e w1 ⟨rfl, hs1, hg1⟩
  rw [← HN.out] at hs1 ⊢
  simp only at hs1 ⊢
  have HS1 := Lib.hid hs1
  have HR1 := Lib.hid (heap_grown HR.out hg1 hRg)
  have HG1 := Lib.hid hg1
  clear hs1 hg1
  go_wp2_with fail
  go_loopw [7, 8] (fun v7 v8 wr => ∃ j : Nat, j ≤ N ∧ v8 = .int .i64 ((N - j : Nat) : Int) ∧ Own3 wr base 79 v7 ((rList (rPai b) j s1).1.map pV) ∧ RdSt wr g A c b (rList (rPai b) j s1).2 ∧ w.grownBy wr (some g) ∧ wr.heap[R]? = some (.cells #[.pointer (some ⟨g, 0, none⟩)] 113 (0, 0))) (fun _ v8 _ => (intOf v8).toNat)
  case atStart => exact ⟨0, by omega, by simp, Own3.nil _ _ _, HS1.out, HG1.out, HR1.out⟩
  case round =>
    obtain ⟨j, hj, rfl, ho, hs, hg, hr⟩ := hrel
    obtain ⟨⟨xs, sj⟩, hq⟩ : ∃ p, p = rList (rPai b) j s1 := ⟨_, rfl⟩
    have hxl : xs.length ≤ 16 := by have := rList_len (rPai b) j s1; rw [← hq] at this; simp only at this; omega
    have haj : sj.at_ ≤ 140737488355328 := by have := rList_at b (rPai b) (rPai_at b) j s1; rw [← hq] at this; simp only at this; omega
    rw [← hq] at ho hs
    simp only at ho hs
    have hsn := rList_snoc (rPai b) j s1
    have hst := fun h => rList_stop (rPai b) N j s1 hj h
    rw [← hq] at hsn hst
    simp only at hsn hst
    have HSN := Lib.hid hsn
    have HST := Lib.hid hst
    have HQ := Lib.hid hq
    have c2 := hs.c2
    have hne := ho.ne_ hs.1 (by decide)
    have HO := Lib.hid ho
    have HSJ := Lib.hid hs
    have HGJ := Lib.hid hg
    have HRJ := Lib.hid hr
    have hsz : base ≤ wr.heap.size := by rw [HBE.out]; exact hg.size
    obtain ⟨A7, c7, rfl, hc7, hc8, _⟩ := id ho.rd
    rw [List.length_map]
    rw [List.length_map] at hne
    clear hsn hst hq ho hs hg hr hc7 hc8
    by_cases hjN : j < N
    · have t1 : decide ((0 : Int) < ((N - j : Nat) : Int)) = true := by simp; omega
      obtain ⟨aj, bj⟩ := sj
      cases bj with
      | true =>
        have hfin := HST.out rfl
        have HFIN := Lib.hid hfin; clear hfin
        simp only at c2
        go_wp2_with fail
        go_ret
        refine ⟨_, rfl, ?_, ?_, HGJ.out⟩
        · rw [HFIN.out, ← HBE.out]; have := HO.out; rwa [List.length_map] at this
        · rw [HFIN.out]; exact HSJ.out
      | false =>
        have hnx := HSN.out rfl
        have HNX := Lib.hid hnx; clear hnx
        simp only at c2
        go_wp2_with fail
        refine (rp1_any g R A c b ⟨aj, false⟩ wr HSJ.out HRJ.out hl).mono ?_
        rintro e w2 ⟨rfl, hs2, hg2⟩
        obtain ⟨⟨x, s2⟩, hx⟩ : ∃ p, p = rPai b ⟨aj, false⟩ := ⟨_, rfl⟩
        have hnx := HNX.out
        rw [← hx] at hs2 hnx ⊢
        simp only at hs2 hnx ⊢
        have HNX2 := Lib.hid hnx
        have ho2 := HO.out.grown hg2 (by rw [List.length_map]; exact hne)
        rw [List.length_map] at ho2
        have HO2 := Lib.hid ho2
        have HS2 := Lib.hid hs2
        have HG2 := Lib.hid (HGJ.out.trans hg2)
        have HR2 := Lib.hid (heap_grown HRJ.out hg2 hRg)
        have hsz2 := Nat.le_trans hsz hg2.size
        clear hx hs2 hg2 ho2 hnx
        go_wp2_with (at_builtin; refine own3_append1 base w2.heap.size rfl 72 79 24 _ Try.underlying72 info79 rfl rfl (.tmp 23) (.tmp 26) rfl _ (xs.map pV) (pV x) ?hy rfl rfl HO2.out ?hb ?hl1 ?hl2 ?_; (case hy => exact pV_one x); (case hb => exact hsz2); (case hl1 => rw [List.length_map]; omega); (case hl2 => rw [List.length_map]; omega); intro v3 w3 hown hb3 hg3 hat; have HO3 := Lib.hid hown; have HBL3 := Lib.hid hb3; have HGR3 := Lib.hid hg3; clear hown hb3 hg3 hat)
        have HBW : Below w.heap.size w2 w3 := by have := HBL3.out; rwa [HBE.out] at this
        refine ⟨⟨j + 1, by omega, ?_, ?_, ?_, grown_below HG2.out HBW, ?_⟩, ?_⟩
        · congr 1; omega
        · rw [HNX2.out, List.map_append]; exact HO3.out
        · rw [HNX2.out]; exact HS2.out.under HS.out HBW
        · exact (HBW.block R (Array.getElem?_eq_some_iff.1 HR.out).1).trans HR2.out
        · simp [intOf]; omega
    · have hjj : j = N := by omega
      have t1 : decide ((0 : Int) < ((N - j : Nat) : Int)) = false := by simp; omega
      have HJJ := Lib.hid hjj; clear hjj
      go_wp2_with fail
      go_ret
      have hq := HQ.out
      rw [HJJ.out] at hq
      refine ⟨_, rfl, ?_, ?_, HGJ.out⟩
      · rw [← hq, ← HBE.out]; have := HO.out; rwa [List.length_map] at this
      · rw [← hq]; exact HSJ.out

/-- What Manifest's inner function answers. -/
def ManR (g : Nat) (A : Option Addr) (c : Nat) (b : List UInt8) (w : World) (r : (Nat × Nat × List Pai) × RS) (e : Ending) (w' : World) : Prop :=
  ∃ v, e = .returned (.agg #[.int .i64 (r.1.1 : Nat), .int .i64 (r.1.2.1 : Nat), v]) ∧ Own3 w' w.heap.size 79 v (r.1.2.2.map pV) ∧ RdSt w' g A c b r.2 ∧ w.grownBy w' (some g)

set_option maxRecDepth 100000 in
set_option maxHeartbeats 2000000 in
theorem man1_any (g : Nat) (A : Option Addr) (c : Nat) (b : List UInt8) (s : RS) (w : World) (hs : RdSt w g A c b s) (hl : b.length ≤ 140737488355328) (ha : s.at_ ≤ 140737488355328) :
    Calls Try.prog 103 #[.pointer (some ⟨g, 0, none⟩)] w (ManR g A c b w (rMan b s)) := by
  obtain ⟨R, hR⟩ : ∃ R, R = w.heap.size := ⟨_, rfl⟩
  have hgl : g < R := by rw [hR]; exact (Array.getElem?_eq_some_iff.1 hs.1).1
  obtain ⟨w0, hw0⟩ : ∃ w0, w0 = (w.alloc (.cells #[.pointer (some ⟨g, 0, none⟩)] 113)).alloc (.cells #[.int .i64 0, .int .i64 0, .slice none 0 0] 74) := ⟨_, rfl⟩
  have hb1 : Below w.heap.size w (w.alloc (.cells #[.pointer (some ⟨g, 0, none⟩)] 113)) := (Below.refl _ _).alloc (Nat.le_refl _) _
  have hb0 : Below w.heap.size w w0 := by rw [hw0]; exact hb1.alloc hb1.size _
  have hr0 : w0.heap[R]? = some (.cells #[.pointer (some ⟨g, 0, none⟩)] 113 (0, 0)) := by
    rw [hw0, hR]
    exact heap_below (heap_alloc_new w _) ((Below.refl _ _).alloc (Nat.le_refl _) _)
  have hx0 : w0.heap[R + 1]? = some (.cells #[.int .i64 0, .int .i64 0, .slice none 0 0] 74 (0, 0)) := by
    rw [hw0, hR]
    have := heap_alloc_new (w.alloc (.cells #[.pointer (some ⟨g, 0, none⟩)] 113)) (.cells #[.int .i64 0, .int .i64 0, .slice none 0 0] 74)
    rw [show (w.alloc (.cells #[.pointer (some ⟨g, 0, none⟩)] 113)).heap.size = w.heap.size + 1 from by simp] at this
    exact this
  have HS0 := Lib.hid (hs.keep hb0)
  have HG0 := Lib.hid (below_grown hb0 (some g))
  have HX0 := Lib.hid hx0
  have HR0 := Lib.hid hr0
  have cr := box_cells hr0 0 (.pointer (some ⟨g, 0, none⟩)) rfl
  clear hx0 hr0 hb0 hb1
  obtain ⟨⟨t, s1⟩, ht⟩ : ∃ p, p = rNum b 1099511627775 s := ⟨_, rfl⟩
  have ha1 : s1.at_ ≤ 140737488355328 := by have := rNum_at b 1099511627775 s; rw [← ht] at this; simp only at this; omega
  obtain ⟨⟨lo, s2⟩, hlo⟩ : ∃ p, p = rNum b 2147483647 s1 := ⟨_, rfl⟩
  have ha2 : s2.at_ ≤ 140737488355328 := by have := rNum_at b 2147483647 s1; rw [← hlo] at this; simp only at this; omega
  obtain ⟨⟨ps, s3⟩, hq⟩ : ∃ p, p = rList (rPai b) (rNum b 16 s2).1 (rNum b 16 s2).2 := ⟨_, rfl⟩
  have hres : rMan b s = ((t, lo, ps), s3) := by unfold rMan; rw [← ht]; simp only; rw [← hlo]; simp only; rw [← hq]
  rw [hres]
  have HT := Lib.hid ht; clear ht
  have HLO := Lib.hid hlo; clear hlo
  have HQ := Lib.hid hq; clear hq hres
  go_enter Try.func103, Try.ntmps103
  go_upto_region 1 with fail
  rw [← hR, ← hw0]
  have HRE := Lib.hid hR; clear hw0 hR
  go_wp2_with fail
  refine (rtime_any g A c b s w0 HS0.out hl).mono ?_
  rintro e w1 ⟨rfl, hs1, hg1⟩
  rw [← HT.out] at hs1 ⊢
  simp only at hs1 ⊢
  have HG1 := Lib.hid (HG0.out.trans hg1)
  have HX1 := Lib.hid (heap_grown HX0.out hg1 (by omega))
  have HR1 := Lib.hid (heap_grown HR0.out hg1 (by omega))
  have HS1 := Lib.hid hs1
  -- the manifest's own variable
  obtain ⟨w2, hw2⟩ : ∃ w2, w2 = w1.alloc (.cells #[.int .i64 (t : Int), .int .i64 0, .slice none 0 0] 74) := ⟨_, rfl⟩
  obtain ⟨X, hX⟩ : ∃ X, X = w1.heap.size := ⟨_, rfl⟩
  have hb2 : Below w1.heap.size w1 w2 := by rw [hw2]; exact (Below.refl _ _).alloc (Nat.le_refl _) _
  have hx2 : w2.heap[X]? = some (.cells #[.int .i64 (t : Int), .int .i64 0, .slice none 0 0] 74 (0, 0)) := by rw [hw2, hX]; exact heap_alloc_new w1 _
  have hRX : R + 1 < X := by rw [hX]; exact (Array.getElem?_eq_some_iff.1 HX1.out).1
  have HY2 := Lib.hid hx2
  have HX2 := Lib.hid (heap_below HX1.out hb2)
  have HR2 := Lib.hid (heap_below HR1.out hb2)
  have HS2 := Lib.hid (HS1.out.keep hb2)
  have HG2 := Lib.hid (HG1.out.trans (below_grown hb2 (some g)))
  have cr2 := box_cells HR2.out 0 (.pointer (some ⟨g, 0, none⟩)) rfl
  clear hs1 hg1 hb2 hx2 cr
  go_upto_region 2 with fail
  rw [← hw2, ← hX]
  have HW2 := Lib.hid hw2; clear hw2
  have HXe := Lib.hid hX; clear hX
  go_wp2_with fail
  refine (rnum_any g A c b s1 2147483647 w2 HS2.out hl (by omega)).mono ?_
  rintro e w3 ⟨rfl, hs3, hg3⟩
  rw [← HLO.out] at hs3 ⊢
  simp only at hs3 ⊢
  have HY3 := Lib.hid (heap_grown HY2.out hg3 (by omega))
  have HX3 := Lib.hid (heap_grown HX2.out hg3 (by omega))
  have HR3 := Lib.hid (heap_grown HR2.out hg3 (by omega))
  have HG3 := Lib.hid (HG2.out.trans hg3)
  obtain ⟨w4, hw4⟩ : ∃ w4, w4 = w3.setCell ⟨X, 1, none⟩ (.int .i64 (lo : Int)) := ⟨_, rfl⟩
  have hg4 : w3.grownBy w4 (some X) := by rw [hw4]; exact only_one _ _ _ _
  have hy4 : w4.heap[X]? = some (.cells #[.int .i64 (t : Int), .int .i64 (lo : Int), .slice none 0 0] 74 (0, 0)) := by rw [hw4]; exact set_at HY3.out 1 _
  have HS4 := Lib.hid (hs3.other HY3.out (noByte3 (int_bv _) (int_bv _) (slice_bv _ _ _)) (by omega) hg4)
  have HX4 := Lib.hid (heap_grown HX3.out hg4 (by omega))
  have HR4 := Lib.hid (heap_grown HR3.out hg4 (by omega))
  have HG4 := Lib.hid (grown_new HG3.out hg4 (by have := HRE.out; omega))
  have HY4 := Lib.hid hy4
  have f3 : w3.frozen? ⟨X, 1, none⟩ = false := by have := HY3.out; simp [World.frozen?, this]
  have c3 := box_cells HY3.out 1 (.int .i64 0) rfl
  clear hs3 hg3 hg4 hy4 cr2
  go_upto_region 3 with fail
  rw [← hw4]
  have HW4 := Lib.hid hw4; clear hw4 f3 c3
  have cr4 := box_cells HR4.out 0 (.pointer (some ⟨g, 0, none⟩)) rfl
  go_wp2_with fail
  refine (listP_any g R A c b s2 w4 HS4.out HR4.out hl ha2).mono ?_
  rintro e w5 ⟨v, rfl, ho5, hs5, hg5⟩
  rw [← HQ.out] at ho5 hs5
  simp only at ho5 hs5
  have HY5 := Lib.hid (heap_grown HY4.out hg5 (by omega))
  have HX5 := Lib.hid (heap_grown HX4.out hg5 (by omega))
  have HG5 := Lib.hid (HG4.out.trans hg5)
  have HO5 := Lib.hid ho5
  have HS5 := Lib.hid hs5
  have hsz4 : w.heap.size ≤ w4.heap.size := HG4.out.size
  obtain ⟨A7, c7, rfl, hc7, hc8, _⟩ := id ho5.rd
  rw [List.length_map]
  clear hs5 hg5 ho5 hc7 hc8 cr4
  obtain ⟨V, hV⟩ : ∃ V, V = Value.slice A7 ps.length c7 := ⟨_, rfl⟩
  have HO5' := Lib.hid (show Own3 w5 w4.heap.size 79 V (ps.map pV) from by rw [hV]; have := HO5.out; rwa [List.length_map] at this)
  have hx6 := heap_grown HX5.out (only_one w5 X 2 V) (by omega)
  have hs6 := HS5.out.other HY5.out (noByte3 (int_bv _) (int_bv _) (slice_bv _ _ _)) (by omega) (only_one w5 X 2 V)
  have ho6 := HO5'.out.grown (only_one w5 X 2 V) (HO5'.out.ne_ HY5.out (by decide))
  have hg6 := grown_new HG5.out (only_one w5 X 2 V) (by have := HRE.out; omega)
  obtain ⟨-, hs8⟩ := set3 hx6 (.int .i64 (t : Int)) (.int .i64 (lo : Int)) V
  have HSF := Lib.hid (hs6.other hx6 (noByte3 (int_bv _) (int_bv _) (slice_bv _ _ _)) (by omega) hs8)
  have HOF := Lib.hid ((ho6.grown hs8 (ho6.ne_ hx6 (by decide))).base hsz4)
  have HGF := Lib.hid (grown_new hg6 hs8 (by have := HRE.out; omega))
  have y0 := box_cells HY5.out 0 (.int .i64 (t : Int)) rfl
  have y1 := box_cells HY5.out 1 (.int .i64 (lo : Int)) rfl
  have y2 := box_cells HY5.out 2 (.slice none 0 0) rfl
  have f5 : ∀ i, w5.frozen? ⟨X, i, none⟩ = false := by intro i; have := HY5.out; simp [World.frozen?, this]
  have r5 : ∀ i, w5.frozen? ⟨R + 1, i, none⟩ = false := by intro i; have := HX5.out; simp [World.frozen?, this]
  have r0 := box_cells HX5.out 0 (.int .i64 0) rfl
  have r1 := box_cells HX5.out 1 (.int .i64 0) rfl
  have r2 := box_cells HX5.out 2 (.slice none 0 0) rfl
  have hne3 : ¬ R + 1 = X := by omega
  have hne4 : ¬ X = R + 1 := by omega
  clear hx6 hs6 ho6 hg6 hs8
  subst hV
  go_wp2_with fail
  refine bodyPost_ret (v := .agg #[.int .i64 (t : Int), .int .i64 (lo : Int), .slice A7 ps.length c7]) (by simp [results, Try.results103, go_sem, *]) rfl ?_
  exact ⟨_, rfl, HOF.out, HSF.out, HGF.out⟩
end Go.Proofs.Ytggjipfdfpdecaa
