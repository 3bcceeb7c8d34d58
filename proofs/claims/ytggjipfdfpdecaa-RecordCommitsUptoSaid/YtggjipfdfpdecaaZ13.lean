/- Texts merged: RcFm, RcMg. Each says below what it proves. -/
import Derived.Test.YtggjipfdfpdecaaZ10
import Derived.Test.YtggjipfdfpdecaaZ09
import Derived.Test.YtggjipfdfpdecaaZ12
import Derived.Test.YtggjipfdfpdecaaZ11
/- The walk of the document's Manifest. -/
set_option linter.unusedVariables false
namespace Go.Proofs.Ytggjipfdfpdecaa
open Go.RowKit
attribute [local go_sem] bs_list bs_size

set_option maxRecDepth 100000 in
set_option maxHeartbeats 4000000 in
theorem fman_any (v : Value) (b : List UInt8) (w : World) (hr : RdB w v b) (hl : b.length ≤ 140737488355328) :
    Calls Try.prog 59 #[v] w (ManA w (decMan b)) := by
  obtain ⟨A, c, rfl, _, _, _⟩ := id hr
  obtain ⟨H, hH⟩ : ∃ H, H = w.heap.size := ⟨_, rfl⟩
  obtain ⟨w0, hw0⟩ : ∃ w0, w0 = w.alloc (.cells #[.int .i64 0, .int .i64 0, .slice none 0 0] 74) := ⟨_, rfl⟩
  have hb0 : Below w.heap.size w w0 := by rw [hw0]; exact (Below.refl _ _).alloc (Nat.le_refl _) _
  have hx0 : w0.heap[H]? = some (.cells #[.int .i64 0, .int .i64 0, .slice none 0 0] 74 (0, 0)) := by rw [hw0, hH]; exact heap_alloc_new w _
  have HB0 := Lib.hid hb0
  have HX0 := Lib.hid hx0
  have HRD := Lib.hid (hr.below hb0)
  have HRW := Lib.hid (fun (W : World) (h : Below w.heap.size w W) => hr.below h)
  clear hb0 hx0
  obtain ⟨s0, hs0⟩ : ∃ s, s = startC b 77 := ⟨_, rfl⟩
  have ha0 : s0.at_ ≤ 140737488355328 := by rw [hs0]; have := startC_at b 77; omega
  obtain ⟨⟨t, s1⟩, ht⟩ : ∃ p, p = rNum b 1099511627775 s0 := ⟨_, rfl⟩
  have ha1 : s1.at_ ≤ 140737488355328 := by have := rNum_at b 1099511627775 s0; rw [← ht] at this; simp only at this; omega
  obtain ⟨⟨lo, sg⟩, hlo⟩ : ∃ p, p = rNum b 2147483647 s1 := ⟨_, rfl⟩
  have hag : sg.at_ ≤ 140737488355328 := by have := rNum_at b 2147483647 s1; rw [← hlo] at this; simp only at this; omega
  have hlo2 : lo ≤ 2147483647 := by have := rNum_le b 2147483647 s1; rw [← hlo] at this; exact this
  obtain ⟨⟨N, s2⟩, hn⟩ : ∃ p, p = rNum b 16 sg := ⟨_, rfl⟩
  have ha2 : s2.at_ ≤ 140737488355328 := by have := rNum_at b 16 sg; rw [← hn] at this; simp only at this; omega
  have hN64 : N ≤ 16 := by have := rNum_le b 16 sg; rw [← hn] at this; exact this
  have hq : rMan b s0 = ((t, lo, (rList (rPai b) N s2).1), (rList (rPai b) N s2).2) := by unfold rMan; rw [← ht]; simp only; rw [← hlo]; simp only; rw [← hn]
  have hd : decMan b = ansC (0, 0, []) (t, lo, (rList (rPai b) N s2).1) (endC b (rList (rPai b) N s2).2 (manOk (t : Nat) (lo : Nat) (rList (rPai b) N s2).1)) := by unfold decMan; rw [← hs0, hq]
  have HD := Lib.hid hd
  have HQ := Lib.hid hq
  have HT := Lib.hid ht
  have HLO := Lib.hid hlo
  have HN := Lib.hid hn
  have HS0 := Lib.hid hs0
  clear hd hq ht hlo hn hs0
  go_enter Try.func59, Try.ntmps59
  go_wp2_with fail
  rw [← hH]
  rw [← hw0]
  have HH := Lib.hid hH; clear hw0 hH hr
  have hle : w.heap.size ≤ w.heap.size := Nat.le_refl _
  have hwH : w.heap.size ≤ H := by rw [HH.out]; exact hle
  refine (begin_any A c b 77 w0 HRD.out hl).mono ?_
  rintro e w1 ⟨g, rfl, hg, hs, hb⟩
  rw [← HS0.out] at hs
  have hHg : H ≠ g := by have := (Array.getElem?_eq_some_iff.1 HX0.out).1; omega
  have hwg : w.heap.size ≤ g := by have := HB0.out.size; omega
  have HX1 := Lib.hid (heap_below HX0.out hb)
  have HB1 := Lib.hid (HB0.out.trans (hb.mono HB0.out.size))
  have HS1 := Lib.hid hs; clear hs hb hg
  go_wp2_with fail
  refine (fnum_any g A c b s0 1099511627775 w1 HS1.out hl (by omega) ha0).mono ?_
  rintro e w2 ⟨rfl, hs, hg2⟩
  rw [← HT.out] at hs ⊢
  simp only at hs ⊢
  have HX2 := Lib.hid (heap_grown HX1.out hg2 hHg)
  have HB2 := Lib.hid (blw HB1.out hg2 hwg hle)
  have HS2 := Lib.hid hs; clear hs hg2
  obtain ⟨w3, hw3⟩ : ∃ w3, w3 = w2.alloc (.cells #[.int .i64 (t : Int), .int .i64 0, .slice none 0 0] 74) := ⟨_, rfl⟩
  obtain ⟨X, hX⟩ : ∃ X, X = w2.heap.size := ⟨_, rfl⟩
  have hb3 : Below w2.heap.size w2 w3 := by rw [hw3]; exact (Below.refl _ _).alloc (Nat.le_refl _) _
  have hx3 : w3.heap[X]? = some (.cells #[.int .i64 (t : Int), .int .i64 0, .slice none 0 0] 74 (0, 0)) := by rw [hw3, hX]; exact heap_alloc_new w2 _
  have hXH : H ≠ X := by have := (Array.getElem?_eq_some_iff.1 HX2.out).1; omega
  have hXg : X ≠ g := by have := HS2.out.lt; omega
  have hwX : w.heap.size ≤ X := by rw [hX]; exact HB2.out.size
  have HY3 := Lib.hid hx3; clear hx3
  have HX3 := Lib.hid (heap_below HX2.out hb3)
  have HS3 := Lib.hid (HS2.out.keep hb3)
  have HB3 := Lib.hid (HB2.out.trans (hb3.mono HB2.out.size)); clear hb3
  go_upto_region 3 with fail
  rw [← hw3, ← hX]
  have HW3 := Lib.hid hw3; clear hw3
  have HXe := Lib.hid hX; clear hX
  -- the log's number
  go_wp2_with fail
  refine (fnum_any g A c b s1 2147483647 w3 HS3.out hl (by omega) ha1).mono ?_
  rintro e w31 ⟨rfl, hs, hg31⟩
  rw [← HLO.out] at hs ⊢
  simp only at hs ⊢
  have HX31 := Lib.hid (heap_grown HX3.out hg31 hHg)
  have HY31 := Lib.hid (heap_grown HY3.out hg31 hXg)
  have HB31 := Lib.hid (blw HB3.out hg31 hwg hle)
  obtain ⟨w32, hw32⟩ : ∃ u, u = w31.setCell ⟨X, 1, none⟩ (.int .i64 (lo : Int)) := ⟨_, rfl⟩
  have hg32 : w31.grownBy w32 (some X) := by rw [hw32]; exact only_one _ _ _ _
  have hy32 : w32.heap[X]? = some (.cells #[.int .i64 (t : Int), .int .i64 (lo : Int), .slice none 0 0] 74 (0, 0)) := by rw [hw32]; exact set_at HY31.out 1 _
  have HS32 := Lib.hid (hs.other HY31.out (noByte3 (int_bv _) (int_bv _) (slice_bv _ _ _)) (fun e => hXg e.symm) hg32)
  have HX32 := Lib.hid (heap_grown HX31.out hg32 hXH)
  have HB32 := Lib.hid (blw HB31.out hg32 hwX hle)
  have HY32 := Lib.hid hy32
  have f31 : w31.frozen? ⟨X, 1, none⟩ = false := by have := HY31.out; simp [World.frozen?, this]
  have c31 := box_cells HY31.out 1 (.int .i64 0) rfl
  clear hs hg31 hg32 hy32
  go_upto_region 4 with fail
  rw [← hw32]
  have HWE32 := Lib.hid hw32; clear hw32 f31 c31
  -- how many
  go_wp2_with fail
  refine (fnum_any g A c b sg 16 w32 HS32.out hl (by omega) hag).mono ?_
  rintro e w4 ⟨rfl, hs, hg4⟩
  rw [← HN.out] at hs ⊢
  simp only at hs ⊢
  have HX4 := Lib.hid (heap_grown HX32.out hg4 hHg)
  have HY4 := Lib.hid (heap_grown HY32.out hg4 hXg)
  have HB4 := Lib.hid (blw HB32.out hg4 hwg hle)
  have HS4 := Lib.hid hs; clear hs hg4
  obtain ⟨base, hbase⟩ : ∃ x, x = w.heap.size := ⟨_, rfl⟩
  have HBE := Lib.hid hbase; clear hbase
  go_upto_block 0 with fail
  go_cut [5] (fun v5 wx => v5 = .pointer (some ⟨g, 0, none⟩) ∧ ∃ sv, wx.heap[X]? = some (.cells #[.int .i64 (t : Int), .int .i64 (lo : Int), sv] 74 (0, 0)) ∧ wx.heap[H]? = some (.cells #[.int .i64 0, .int .i64 0, .slice none 0 0] 74 (0, 0)) ∧ Own3 wx w.heap.size 79 sv ((rList (rPai b) N s2).1.map pV) ∧ RfSt wx g A c b (rList (rPai b) N s2).2 ∧ Below w.heap.size w wx)
  case first =>
    go_wp2_with fail
    go_loopw [8] (fun v8 wr => ∃ j : Nat, j ≤ N ∧ v8 = .int .i64 (j : Int) ∧ ∃ sv, wr.heap[X]? = some (.cells #[.int .i64 (t : Int), .int .i64 (lo : Int), sv] 74 (0, 0)) ∧ wr.heap[H]? = some (.cells #[.int .i64 0, .int .i64 0, .slice none 0 0] 74 (0, 0)) ∧ Own3 wr w.heap.size 79 sv ((rList (rPai b) j s2).1.map pV) ∧ RfSt wr g A c b (rList (rPai b) j s2).2 ∧ Below w.heap.size w wr) (fun v8 _ => N - (intOf v8).toNat)
    case atStart => exact ⟨0, by omega, rfl, _, HY4.out, HX4.out, Own3.nil _ _ _, HS4.out, HB4.out⟩
    case round =>
      obtain ⟨j, hj, rfl, sv, hx, hh, ho, hs, hb⟩ := hrel
      obtain ⟨⟨xs, sj⟩, hq⟩ : ∃ p, p = rList (rPai b) j s2 := ⟨_, rfl⟩
      have hxl : xs.length ≤ 16 := by have := rList_len (rPai b) j s2; rw [← hq] at this; simp only at this; omega
      have haj : sj.at_ ≤ 140737488355328 := by have := rList_at b (rPai b) (rPai_at b) j s2; rw [← hq] at this; simp only at this; omega
      have hsn := rList_snoc (rPai b) j s2
      have hst := fun h => rList_stop (rPai b) N j s2 hj h
      rw [← hq] at ho hs hsn hst
      simp only at ho hs hsn hst
      have HSN := Lib.hid hsn
      have HST := Lib.hid hst
      have HJQ := Lib.hid hq
      obtain ⟨A7, c7, rfl, _, _, _⟩ := id ho.rd
      rw [List.length_map] at hx ho
      have HX := Lib.hid hx
      have HHH := Lib.hid hh
      have HO := Lib.hid ho
      have HSJ := Lib.hid hs
      have HB := Lib.hid hb
      clear hsn hst hq hx hh ho hs hb
      obtain ⟨aj, bj⟩ := sj
      by_cases hjN : j < N
      · have t1 : decide ((j : Int) < (N : Int)) = true := by simp; omega
        cases bj with
        | true =>
          have hfin := HST.out rfl
          have HFIN := Lib.hid hfin
          obtain ⟨-, a2, ha2', hc2⟩ := HSJ.out.resolve_left (fun h => by cases h.1)
          have c2 := hc2.c2
          simp only at c2
          have t2 : decide ((aj : Int) < 0) = false := by simp
          clear hfin hc2
          go_wp2_with fail
          go_meet
          refine ⟨rfl, _, HX.out, HHH.out, ?_, ?_, HB.out⟩
          · rw [HFIN.out]; exact HO.out
          · rw [HFIN.out]; exact HSJ.out
        | false =>
          have hnx := HSN.out rfl
          obtain ⟨-, hc2⟩ := HSJ.out.resolve_right (fun h => by cases h.1)
          have c2 := hc2.c2
          have HNX := Lib.hid hnx
          have HSN' := Lib.hid HSN; clear HSN HST
          obtain ⟨⟨f, q1⟩, hf⟩ : ∃ p, p = rNum b 2147483647 ⟨aj, false⟩ := ⟨_, rfl⟩
          have hq1 : q1.at_ ≤ 140737488355328 := by have := rNum_at b 2147483647 ⟨aj, false⟩; rw [← hf] at this; simp only at this haj; omega
          obtain ⟨⟨k, q2⟩, hk⟩ : ∃ p, p = rNum b 1099511627775 q1 := ⟨_, rfl⟩
          have hq2 : q2.at_ ≤ 140737488355328 := by have := rNum_at b 1099511627775 q1; rw [← hk] at this; simp only at this; omega
          obtain ⟨⟨v, q3⟩, hv⟩ : ∃ p, p = rNum b 1099511627775 q2 := ⟨_, rfl⟩
          have hw1 : rPai b ⟨aj, false⟩ = (⟨(f : Nat), (k : Nat), (v : Nat)⟩, q3) := by unfold rPai; rw [← hf]; simp only; rw [← hk]; simp only; rw [← hv]
          have HW1 := Lib.hid hw1
          have HF := Lib.hid hf
          have HK := Lib.hid hk
          have HV := Lib.hid hv
          have hsz : w.heap.size ≤ wr.heap.size := HB.out.size
          clear hc2 hnx hf hk hv hw1
          go_wp2_with fail
          refine (fnum_any g A c b ⟨aj, false⟩ 2147483647 wr HSJ.out hl (by omega) haj).mono ?_
          rintro e u1 ⟨rfl, hs1, hg1⟩
          rw [← HF.out] at hs1 ⊢
          simp only at hs1 ⊢
          have HU1 := Lib.hid hs1
          have HX1' := Lib.hid (heap_grown HX.out hg1 hXg)
          have HH1' := Lib.hid (heap_grown HHH.out hg1 hHg)
          have hgv : ∀ (W : World) (s : RS) (hs : RfSt W g A c b s) (xs : List V3) (sv : Value) (ho : Own3 W w.heap.size 79 sv xs), sv.ownBlock ≠ some g := by
            intro W s hs xs sv ho
            rcases hs with ⟨_, h⟩ | ⟨_, a, _, h⟩
            · exact ho.ne_ h.1 (by decide)
            · exact ho.ne_ h.1 (by decide)
          have HGV := Lib.hid hgv; clear hgv
          have HO1' := Lib.hid (HO.out.grown hg1 (HGV.out _ _ HSJ.out _ _ HO.out))
          have HB1' := Lib.hid (blw HB.out hg1 hwg hle)
          clear hs1 hg1
          obtain ⟨u2, hu2⟩ : ∃ u2, u2 = u1.alloc (.cells #[.int .i64 (f : Int), .int .i64 0, .int .i64 0] 79) := ⟨_, rfl⟩
          obtain ⟨Y, hY⟩ : ∃ Y, Y = u1.heap.size := ⟨_, rfl⟩
          have hbu : Below u1.heap.size u1 u2 := by rw [hu2]; exact (Below.refl _ _).alloc (Nat.le_refl _) _
          have hy2 : u2.heap[Y]? = some (.cells #[.int .i64 (f : Int), .int .i64 0, .int .i64 0] 79 (0, 0)) := by rw [hu2, hY]; exact heap_alloc_new u1 _
          have hYg : Y ≠ g := by have := HU1.out.lt; omega
          have hYX : Y ≠ X := by have := (Array.getElem?_eq_some_iff.1 HX1'.out).1; omega
          have hYH : Y ≠ H := by have := (Array.getElem?_eq_some_iff.1 HH1'.out).1; omega
          have hwY : w.heap.size ≤ Y := by rw [hY]; exact HB1'.out.size
          have hvY : (Value.slice A7 xs.length c7).ownBlock ≠ some Y := by
            intro e
            have := (World.ownsRow.lt HO1'.out Y e).2
            omega
          have HY2 := Lib.hid hy2
          have HX2' := Lib.hid (heap_below HX1'.out hbu)
          have HH2' := Lib.hid (heap_below HH1'.out hbu)
          have HO2' := Lib.hid (HO1'.out.below hbu)
          have HU2 := Lib.hid (HU1.out.keep hbu)
          have HB2' := Lib.hid (HB1'.out.trans (hbu.mono HB1'.out.size))
          clear hbu hy2
          go_upto_region 9 with fail
          rw [← hu2, ← hY]
          have HUE := Lib.hid hu2; clear hu2
          have HYE := Lib.hid hY; clear hY
          go_wp2_with fail
          refine (fnum_any g A c b q1 1099511627775 u2 HU2.out hl (by omega) hq1).mono ?_
          rintro e u3 ⟨rfl, hs3, hg3⟩
          rw [← HK.out] at hs3 ⊢
          simp only at hs3 ⊢
          have HY3' := Lib.hid (heap_grown HY2.out hg3 hYg)
          have HX3' := Lib.hid (heap_grown HX2'.out hg3 hXg)
          have HH3' := Lib.hid (heap_grown HH2'.out hg3 hHg)
          have HO3' := Lib.hid (HO2'.out.grown hg3 (HGV.out _ _ HU2.out _ _ HO2'.out))
          have HB3' := Lib.hid (blw HB2'.out hg3 hwg hle)
          obtain ⟨u4, hu4⟩ : ∃ u4, u4 = u3.setCell ⟨Y, 1, none⟩ (.int .i64 (k : Int)) := ⟨_, rfl⟩
          have hg4 : u3.grownBy u4 (some Y) := by rw [hu4]; exact only_one _ _ _ _
          have hy4 : u4.heap[Y]? = some (.cells #[.int .i64 (f : Int), .int .i64 (k : Int), .int .i64 0] 79 (0, 0)) := by rw [hu4]; exact set_at HY3'.out 1 _
          have HU4 := Lib.hid (hs3.other HY3'.out (noByte3 (int_bv _) (int_bv _) (int_bv _)) (fun e => hYg e.symm) hg4)
          have HX4' := Lib.hid (heap_grown HX3'.out hg4 (fun e => hYX e.symm))
          have HH4' := Lib.hid (heap_grown HH3'.out hg4 (fun e => hYH e.symm))
          have HO4' := Lib.hid (HO3'.out.grown hg4 hvY)
          have HB4' := Lib.hid (blw HB3'.out hg4 hwY hle)
          have HY4' := Lib.hid hy4
          have f3 : u3.frozen? ⟨Y, 1, none⟩ = false := by have := HY3'.out; simp [World.frozen?, this]
          have c3 := box_cells HY3'.out 1 (.int .i64 0) rfl
          clear hs3 hg3 hg4 hy4
          go_upto_region 10 with fail
          rw [← hu4]
          have HUE4 := Lib.hid hu4; clear hu4 f3 c3
          go_wp2_with fail
          refine (fnum_any g A c b q2 1099511627775 u4 HU4.out hl (by omega) hq2).mono ?_
          rintro e u5 ⟨rfl, hs5, hg5⟩
          rw [← HV.out] at hs5 ⊢
          simp only at hs5 ⊢
          have HY5' := Lib.hid (heap_grown HY4'.out hg5 hYg)
          have HX5' := Lib.hid (heap_grown HX4'.out hg5 hXg)
          have HH5' := Lib.hid (heap_grown HH4'.out hg5 hHg)
          have HO5' := Lib.hid (HO4'.out.grown hg5 (HGV.out _ _ HU4.out _ _ HO4'.out))
          have HB5' := Lib.hid (blw HB4'.out hg5 hwg hle)
          obtain ⟨wc, hwc⟩ : ∃ u, u = u5.setCell ⟨Y, 2, none⟩ (.int .i64 (v : Int)) := ⟨_, rfl⟩
          have hgs : u5.grownBy wc (some Y) := by rw [hwc]; exact only_one _ _ _ _
          have HY7 := Lib.hid (show wc.heap[Y]? = some (.cells #[.int .i64 (f : Int), .int .i64 (k : Int), .int .i64 (v : Int)] 79 (0, 0)) from by rw [hwc]; exact set_at HY5'.out 2 _)
          have HU7 := Lib.hid (hs5.other HY5'.out (noByte3 (int_bv _) (int_bv _) (int_bv _)) (fun e => hYg e.symm) hgs)
          have HX7 := Lib.hid (heap_grown HX5'.out hgs (fun e => hYX e.symm))
          have HH7 := Lib.hid (heap_grown HH5'.out hgs (fun e => hYH e.symm))
          have HO7 := Lib.hid (HO5'.out.grown hgs hvY)
          have HB7 := Lib.hid (blw HB5'.out hgs hwY hle)
          have f5 : u5.frozen? ⟨Y, 2, none⟩ = false := by have := HY5'.out; simp [World.frozen?, this]
          have c5 := box_cells HY5'.out 2 (.int .i64 0) rfl
          clear hs5 hg5 hgs
          go_upto_region 11 with fail
          rw [← hwc]
          have HWC := Lib.hid hwc; clear hwc f5 c5
          have hnx := HNX.out
          rw [HW1.out] at hnx
          simp only at hnx
          have HNX2 := Lib.hid hnx; clear hnx
          have hsz7 : w.heap.size ≤ wc.heap.size := HB7.out.size
          have y0 := box_cells HY7.out 0 (.int .i64 (f : Int)) rfl
          have y1 := box_cells HY7.out 1 (.int .i64 (k : Int)) rfl
          have y2 := box_cells HY7.out 2 (.int .i64 (v : Int)) rfl
          have x1 := box_cells HX7.out 2 (.slice A7 xs.length c7) rfl
          have hbA : Below wc.heap.size wc (wc.alloc (.cells #[.int .i64 (f : Int), .int .i64 (k : Int), .int .i64 (v : Int)] 79)) := (Below.refl _ _).alloc (Nat.le_refl _) _
          have HXA := Lib.hid (heap_below HX7.out hbA)
          clear hbA
          go_wp2_with (at_builtin; refine own3_append1 w.heap.size wc.heap.size rfl 72 79 24 _ Try.underlying72 info79 rfl rfl (.tmp 44) (.tmp 46) rfl _ (xs.map pV) (pV ⟨(f : Nat), (k : Nat), (v : Nat)⟩) ?hy rfl rfl HO7.out ?hb ?hl1 ?hl2 ?_; (case hy => exact pV_one _); (case hb => exact hsz7); (case hl1 => rw [List.length_map]; omega); (case hl2 => rw [List.length_map]; omega); intro v3 w3' hown hb3 hg3 hat; have HO8 := Lib.hid hown; have HBL8 := Lib.hid hb3; have HGR8 := Lib.hid hg3; clear hown hb3 hg3 hat; have hx8 := (HGR8.out.block X (Array.getElem?_eq_some_iff.1 HX7.out).1 (fun e => HO7.out.ne_ HX7.out (by decide) e.symm)).trans HX7.out; have HX8 := Lib.hid hx8; have c8 := box_cells hx8 2 (.slice A7 xs.length c7) rfl; have f8 : w3'.frozen? ⟨X, 2, none⟩ = false := (by simp [World.frozen?, hx8]); clear hx8; obtain ⟨A8, c9, rfl, _, _, _⟩ := id HO8.out.rd)
          have hlen : (xs.map pV ++ [pV ⟨(f : Nat), (k : Nat), (v : Nat)⟩]).length = xs.length + 1 := by simp
          have ho8 := HO8.out
          rw [hlen] at ho8
          have hH8 := (HGR8.out.block H (Array.getElem?_eq_some_iff.1 HH7.out).1 (fun e => HO7.out.ne_ HH7.out (by decide) e.symm)).trans HH7.out
          have hg8 : w3'.heap[g]? = wc.heap[g]? := HGR8.out.block g HU7.out.lt (fun e => HGV.out _ _ HU7.out _ _ HO7.out e.symm)
          have hset := only_one w3' X 2 (.slice A8 (xs.length + 1) c9)
          have hbl := (HB7.out.trans HBL8.out).setCell (p := ⟨X, 2, none⟩) hwX (.slice A8 (xs.length + 1) c9)
          refine ⟨⟨j + 1, by omega, by congr 1, _, set_at HX8.out 2 _, heap_grown hH8 hset hXH, ?_, ?_, hbl⟩, by simp [intOf]; omega⟩
          · rw [HNX2.out, List.map_append]
            exact ho8.grown hset (ho8.ne_ HX8.out (by decide))
          · rw [HNX2.out]
            exact HU7.out.move ((hset.block g (Nat.lt_of_lt_of_le HU7.out.lt HGR8.out.size) (fun e => hXg (Option.some.inj e).symm)).trans hg8) (HRW.out _ hbl)
      · have hjj : j = N := by omega
        have t1 : decide ((j : Int) < (N : Int)) = false := by simp; omega
        have hq := HJQ.out
        rw [hjj] at hq
        have HQ2 := Lib.hid hq; clear hq hjj
        go_wp2_with fail
        go_meet
        refine ⟨rfl, _, HX.out, HHH.out, ?_, ?_, HB.out⟩
        · rw [← HQ2.out]; exact HO.out
        · rw [← HQ2.out]; exact HSJ.out
  case rest =>
    obtain ⟨rfl, sv, hx5, hh5, ho5, hs5, hb5⟩ := hcut
    obtain ⟨⟨ps, s3⟩, hl5⟩ : ∃ p, p = rList (rPai b) N s2 := ⟨_, rfl⟩
    have hwl := rMan_len HQ.out.symm
    have ha3 : s3.at_ ≤ 140737488355328 := by have := rList_at b (rPai b) (rPai_at b) N s2; rw [← hl5] at this; simp only at this; omega
    have hd := HD.out
    rw [← hl5] at ho5 hs5 hd hwl
    simp only at ho5 hs5 hd hwl
    have HD2 := Lib.hid hd
    obtain ⟨Av, cv, rfl, _, _, _⟩ := id ho5.rd
    rw [List.length_map] at hx5 ho5
    have HX5 := Lib.hid hx5
    have HH5 := Lib.hid hh5
    have HO5 := Lib.hid ho5
    have HS5 := Lib.hid hs5
    have HB5 := Lib.hid hb5
    have y0 := box_cells hx5 0 (.int .i64 (t : Int)) rfl
    have y1 := box_cells hx5 1 (.int .i64 (lo : Int)) rfl
    have y2 := box_cells hx5 2 (.slice Av ps.length cv) rfl
    clear hl5 hd hx5 hh5 ho5 hs5 hb5
    go_wp2_with fail
    refine (rightManF_any (t : Int) (lo : Int) _ ps _ HO5.out.rd (by omega)).mono ?_
    rintro e w8 ⟨rfl, hb8⟩
    have HS8 := Lib.hid (HS5.out.keep hb8)
    have HX8 := Lib.hid (heap_below HX5.out hb8)
    have HH8 := Lib.hid (heap_below HH5.out hb8)
    have HO8 := Lib.hid (HO5.out.below hb8)
    have HB8 := Lib.hid (HB5.out.trans (hb8.mono HB5.out.size)); clear hb8 y0 y1 y2
    go_wp2_with fail
    refine (end_any g A c b s3 (manOk (t : Int) (lo : Int) ps) w8 HS8.out hl ha3).mono ?_
    rintro e w9 ⟨rfl, hg9⟩
    have HX9 := Lib.hid (heap_grown HX8.out hg9 hXg)
    have HH9 := Lib.hid (heap_grown HH8.out hg9 hHg)
    have HO9 := Lib.hid (HO8.out.grown hg9 (by
      rcases HS8.out with ⟨_, h⟩ | ⟨_, a, _, h⟩
      · exact HO8.out.ne_ h.1 (by decide)
      · exact HO8.out.ne_ h.1 (by decide)))
    have HB9 := Lib.hid (blw HB8.out hg9 hwg hle); clear hg9
    have r0 := box_cells HH9.out 0 (.int .i64 0) rfl
    have r1 := box_cells HH9.out 1 (.int .i64 0) rfl
    have r2 := box_cells HH9.out 2 (.slice none 0 0) rfl
    have rf : ∀ i, w9.frozen? ⟨H, i, none⟩ = false := by intro i; have := HH9.out; simp [World.frozen?, this]
    have y0 := box_cells HX9.out 0 (.int .i64 (t : Int)) rfl
    have y1 := box_cells HX9.out 1 (.int .i64 (lo : Int)) rfl
    have y2 := box_cells HX9.out 2 (.slice Av ps.length cv) rfl
    obtain ⟨⟨ea, ec⟩, he⟩ : ∃ p, p = endC b s3 (manOk (t : Int) (lo : Int) ps) := ⟨_, rfl⟩
    have hea : ec = 0 → ea = 0 := by
      intro h
      unfold endC at he
      split at he
      · simp only [Prod.mk.injEq] at he; omega
      · split at he
        · simp only [Prod.mk.injEq] at he; omega
        · simp only [Prod.mk.injEq] at he; omega
    have hd := HD2.out
    rw [← he] at hd ⊢
    have HD3 := Lib.hid hd; clear he hd
    by_cases hc : ec = 0
    · have ha : ea = 0 := hea hc
      subst hc ha
      have hfin := set3 HH9.out (.int .i64 (t : Int)) (.int .i64 (lo : Int)) (.slice Av ps.length cv)
      have HBL := Lib.hid (blw HB9.out hfin.2 hwH hle)
      have HOF := Lib.hid (HO9.out.grown hfin.2 (HO9.out.ne_ HH9.out (by decide)))
      clear hfin hea
      go_wp2_with fail
      refine bodyPost_ret (v := .tuple #[.agg #[.int .i64 (t : Int), .int .i64 (lo : Int), .slice Av ps.length cv], .int .i64 0, .int .i64 0]) (by simp [results, Try.results59, go_sem, *]) rfl ?_
      rw [HD3.out]
      exact ⟨_, rfl, HOF.out, HBL.out⟩
    · have t1 : ((ec : Int) != 0) = true := by rw [bne_iff_ne]; omega
      have hfin := set3 HH9.out (.int .i64 0) (.int .i64 0) (.slice none 0 0)
      have HBL := Lib.hid (blw HB9.out hfin.2 hwH hle); clear hfin hea
      go_wp2_with fail
      refine bodyPost_ret (v := .tuple #[.agg #[.int .i64 0, .int .i64 0, .slice none 0 0], .int .i64 (ea : Nat), .int .i64 (ec : Nat)]) (by simp [results, Try.results59, go_sem, *]) rfl ?_
      rw [HD3.out]
      unfold ansC ManA
      simp only
      rw [if_neg hc]
      exact ⟨_, rfl, Own3.nil _ _ _, HBL.out⟩
end Go.Proofs.Ytggjipfdfpdecaa
/- The walks of record's PutManifest. -/
set_option linter.unusedVariables false
namespace Go.Proofs.Ytggjipfdfpdecaa
open Go.RowKit
attribute [local go_sem] bs_list bs_size

/-- What a pair of a right manifest holds. -/
def pFit (p : Pai) : Prop := (0 ≤ p.num ∧ p.num < 1099511627776) ∧ (0 ≤ p.from_ ∧ p.from_ < 1099511627776) ∧ (0 ≤ p.to_ ∧ p.to_ < 1099511627776)
theorem encP_le {p : Pai} (h : pFit p) : (encP p).length ≤ 30 := by
  obtain ⟨h1, h2, h3⟩ := h
  have u1 := uvar_len10 (n := p.num.toNat) (by omega)
  have u2 := uvar_len10 (n := p.from_.toNat) (by omega)
  have u3 := uvar_len10 (n := p.to_.toNat) (by omega)
  unfold encP
  simp only [List.length_append]
  omega
theorem encPs_le {ps : List Pai} (h : ∀ k (hk : k < ps.length), pFit ps[k]) : (encPs ps).length ≤ 30 * ps.length := by
  induction ps with
  | nil => simp [encPs]
  | cons x r ih =>
    have h0 := encP_le (h 0 (by simp))
    have h1 := ih (fun k hk => h (k + 1) (by simpa using hk))
    simp only [encPs, List.flatMap_cons, List.length_append, List.length_cons] at h1 ⊢
    simp only [List.getElem_cons_zero] at h0
    omega
theorem Wr.keepPtr {w w' : World} {base g V : Nat} {cs : Array Value} {t : TypeId} (h : Wr base g w w') (hv : w.heap[V]? = some (.cells cs t (0, 0))) (ht : t ≠ 5) (hVg : V ≠ g) : w'.heap[V]? = some (.cells cs t (0, 0)) := h.cell hv ht hVg

set_option maxRecDepth 100000 in
set_option maxHeartbeats 2000000 in
theorem pp1_nat (base g V : Nat) (l : List UInt8) (a b c : Nat) (w : World) (hs : WrSt w base g l) (hv : w.heap[V]? = some (.cells #[.pointer (some ⟨g, 0, none⟩)] 104 (0, 0))) (hb : base ≤ w.heap.size) (hl : l.length ≤ 1048576) (ha : a < 1099511627776) (hbb : b < 1099511627776) (hcc : c < 1099511627776) :
    Calls Try.prog 118 #[.agg #[.int .i64 (a : Int), .int .i64 (b : Int), .int .i64 (c : Int)], .pointer (some ⟨V, 0, none⟩)] w fun e w' => e = .returned (.tuple #[]) ∧ WrSt w' base g (l ++ uvar a ++ uvar b ++ uvar c) ∧ Wr base g w w' := by
  have hVg : V ≠ g := by
    obtain ⟨v1, hg1, _⟩ := hs
    rintro rfl
    rw [hg1] at hv
    injection hv with hv
    injection hv with _ h _
    exact absurd h (by decide)
  obtain ⟨w0, hw0⟩ : ∃ w0, w0 = w.alloc (.cells #[.int .i64 (a : Int), .int .i64 (b : Int), .int .i64 (c : Int)] 79) := ⟨_, rfl⟩
  obtain ⟨B, hB⟩ : ∃ B, B = w.heap.size := ⟨_, rfl⟩
  have hb0 : Below w.heap.size w w0 := by rw [hw0]; exact (Below.refl _ _).alloc (Nat.le_refl _) _
  have hx0 : w0.heap[B]? = some (.cells #[.int .i64 (a : Int), .int .i64 (b : Int), .int .i64 (c : Int)] 79 (0, 0)) := by rw [hw0, hB]; exact heap_alloc_new w _
  have hs0 : WrSt w0 base g l := by
    obtain ⟨v1, hg1, ho1⟩ := hs
    exact ⟨v1, heap_below hg1 hb0, ho1.below hb0⟩
  have hgl : g < w.heap.size := by obtain ⟨v1, hg1, _⟩ := hs; exact (Array.getElem?_eq_some_iff.1 hg1).1
  have hBg : B ≠ g := by omega
  have HX0 := Lib.hid hx0
  have HV0 := Lib.hid (heap_below hv hb0)
  have HS0 := Lib.hid hs0
  have HW0 := Lib.hid (Wr.of_below (base := base) (g := g) hb0)
  have hbs : base ≤ w0.heap.size := Nat.le_trans hb hb0.size
  have u1 := uvar_len10 (n := a) (by omega)
  have u2 := uvar_len10 (n := b) (by omega)
  clear hs hv hx0 hs0 hb0
  have x0 := box_cells HX0.out 0 (.int .i64 (a : Int)) rfl
  have cv := box_cells HV0.out 0 (.pointer (some ⟨g, 0, none⟩)) rfl
  go_enter Try.func118, Try.ntmps118
  go_upto_region 1 with fail
  rw [← hw0, ← hB]
  clear hw0 hB
  go_wp2_with fail
  refine (wnum_any base g l a w0 HS0.out (by omega) (by omega) hbs).mono ?_
  rintro e w1 ⟨rfl, hs1, hw1⟩
  have HS1 := Lib.hid hs1
  have HX1 := Lib.hid (hw1.cell HX0.out (by decide) hBg)
  have HV1 := Lib.hid (hw1.cell HV0.out (by decide) hVg)
  have HW1 := Lib.hid (HW0.out.trans hw1)
  have hbs1 : base ≤ w1.heap.size := Nat.le_trans hbs hw1.size
  obtain ⟨L, hL⟩ : ∃ L, L = l ++ uvar a := ⟨_, rfl⟩
  have hLl : L.length ≤ 1048600 := by rw [hL]; simp; omega
  rw [← hL] at hs1
  have HS1 := Lib.hid hs1
  have HL := Lib.hid hL
  clear hs1 hw1 x0 cv hL
  have x1 := box_cells HX1.out 1 (.int .i64 (b : Int)) rfl
  have cv := box_cells HV1.out 0 (.pointer (some ⟨g, 0, none⟩)) rfl
  go_wp2_with fail
  refine (wnum_any base g L b w1 HS1.out (by omega) (by omega) hbs1).mono ?_
  rintro e w2 ⟨rfl, hs2, hw2⟩
  have HX2 := Lib.hid (hw2.cell HX1.out (by decide) hBg)
  have HV2 := Lib.hid (hw2.cell HV1.out (by decide) hVg)
  have HW2 := Lib.hid (HW1.out.trans hw2)
  have hbs2 : base ≤ w2.heap.size := Nat.le_trans hbs1 hw2.size
  obtain ⟨M, hM⟩ : ∃ M, M = L ++ uvar b := ⟨_, rfl⟩
  have hMl : M.length ≤ 1048620 := by rw [hM]; simp; omega
  rw [← hM] at hs2
  have HS2 := Lib.hid hs2
  have HM := Lib.hid hM
  clear hs2 hw2 x1 cv hM
  have x2 := box_cells HX2.out 2 (.int .i64 (c : Int)) rfl
  have cv := box_cells HV2.out 0 (.pointer (some ⟨g, 0, none⟩)) rfl
  go_wp2_with fail
  refine (wnum_any base g M c w2 HS2.out (by omega) (by omega) hbs2).mono ?_
  rintro e w3 ⟨rfl, hs3, hw3⟩
  have HS3 := Lib.hid hs3
  have HW3 := Lib.hid (HW2.out.trans hw3)
  clear hs3 hw3 x2 cv
  go_wp2_with fail
  go_end0
  refine ⟨rfl, ?_, HW3.out⟩
  have := HS3.out
  rw [HM.out, HL.out] at this
  exact this
theorem pp1_any (base g V : Nat) (l : List UInt8) (x : Pai) (w : World) (hs : WrSt w base g l) (hv : w.heap[V]? = some (.cells #[.pointer (some ⟨g, 0, none⟩)] 104 (0, 0))) (hb : base ≤ w.heap.size) (hl : l.length ≤ 1048576) (hx : pFit x) :
    Calls Try.prog 118 #[.agg #[.int .i64 x.num, .int .i64 x.from_, .int .i64 x.to_], .pointer (some ⟨V, 0, none⟩)] w fun e w' => e = .returned (.tuple #[]) ∧ WrSt w' base g (l ++ encP x) ∧ Wr base g w w' := by
  obtain ⟨n, f, t⟩ := x
  obtain ⟨⟨h1, h2⟩, ⟨h3, h4⟩, ⟨h5, h6⟩⟩ := hx
  simp only at h1 h2 h3 h4 h5 h6
  obtain ⟨a, rfl⟩ := Int.eq_ofNat_of_zero_le h1
  obtain ⟨b, rfl⟩ := Int.eq_ofNat_of_zero_le h3
  obtain ⟨c, rfl⟩ := Int.eq_ofNat_of_zero_le h5
  have := pp1_nat base g V l a b c w hs hv hb hl (by omega) (by omega) (by omega)
  simpa [encP, List.append_assoc] using this

set_option maxRecDepth 100000 in
set_option maxHeartbeats 2000000 in
theorem putP_any (w00 : World) (g V : Nat) (l : List UInt8) (v : Value) (ps : List Pai) (w : World) (hr : Rd3 w00 v (ps.map pV)) (hb0 : Below w00.heap.size w00 w) (hs : WrSt w w00.heap.size g l) (hg : w00.heap.size ≤ g)
    (hv : w.heap[V]? = some (.cells #[.pointer (some ⟨g, 0, none⟩)] 104 (0, 0))) (hl : l.length ≤ 100) (hn : ps.length ≤ 16) (hok : ∀ k (hk : k < ps.length), pFit ps[k]) :
    Calls Try.prog 117 #[.pointer (some ⟨g, 0, none⟩), v, .func (.func 118) #[] #[.pointer (some ⟨V, 0, none⟩)]] w fun e w' => e = .returned (.tuple #[]) ∧ WrSt w' w00.heap.size g (l ++ uvar ps.length ++ encPs ps) ∧ Wr w00.heap.size g w w' := by
  obtain ⟨A, c, rfl, _, _, _⟩ := id hr
  rw [List.length_map] at hr ⊢
  have hVg : V ≠ g := by
    obtain ⟨v1, hg1, _⟩ := hs
    rintro rfl
    rw [hg1] at hv
    injection hv with hv
    injection hv with _ h _
    exact absurd h (by decide)
  obtain ⟨base, hbase⟩ : ∃ b, b = w00.heap.size := ⟨_, rfl⟩
  have HRD := Lib.hid (fun (w' : World) (h : Below w00.heap.size w00 w') => hr.below h)
  rw [← hbase] at hs hg ⊢
  have hbs : base ≤ w.heap.size := by rw [hbase]; exact hb0.size
  have HBE := Lib.hid hbase; clear hbase
  have HB0 := Lib.hid hb0; clear hb0
  have HV := Lib.hid hv; clear hv
  have HS := Lib.hid hs; clear hs
  have HOK := Lib.hid hok; clear hok
  have hu := uvar_len10 (n := ps.length) (by omega)
  go_enter Try.func117, Try.ntmps117
  go_wp2_with fail
  refine (wnum_any base g l ps.length w HS.out (by omega) (by omega) hbs).mono ?_
  rintro e w1 ⟨rfl, hs1, hw1⟩
  have HS1 := Lib.hid hs1; clear hs1
  have HW1 := Lib.hid hw1; clear hw1
  go_wp2_with fail
  go_loopw [14] (fun v14 wr => ∃ k : Nat, k ≤ ps.length ∧ v14 = .int .i64 (k : Int) ∧ WrSt wr base g (l ++ uvar ps.length ++ encPs (ps.take k)) ∧ Wr base g w wr) (fun v14 _ => ps.length - (intOf v14).toNat)
  case atStart => exact ⟨0, by omega, rfl, by simpa [encPs] using HS1.out, HW1.out⟩
  case round =>
    obtain ⟨k, hk, rfl, hs, hw⟩ := hrel
    have HSK := Lib.hid hs; clear hs
    have HWK := Lib.hid hw; clear hw
    by_cases hlt : k < ps.length
    · have hbel : Below w00.heap.size w00 wr := by
        have h1 := HWK.out.below hg hbs
        rw [HBE.out] at h1
        exact HB0.out.trans h1
      obtain ⟨ad, c', he, _, _, hp0, hp1, hp2⟩ := (HRD.out wr hbel).elem (j := k) (by rw [List.length_map]; exact hlt)
      rw [List.length_map] at he
      injection he with e1 e2 e3
      subst e1
      rw [List.getElem_map] at hp0 hp1 hp2
      obtain ⟨x, hx⟩ : ∃ x, x = ps[k] := ⟨_, rfl⟩
      rw [← hx] at hp0 hp1 hp2
      simp only [pV] at hp0 hp1 hp2
      clear e2 e3 hbel
      have hxo := HOK.out k hlt
      rw [← hx] at hxo
      have HXO := Lib.hid hxo
      have t1 : decide ((k : Int) < (ps.length : Int)) = true := by simp; omega
      obtain ⟨w0, hw0⟩ : ∃ w0, w0 = wr.alloc (.cells #[.int .i64 x.num, .int .i64 x.from_, .int .i64 x.to_] 79) := ⟨_, rfl⟩
      have hb0 : Below wr.heap.size wr w0 := by rw [hw0]; exact (Below.refl _ _).alloc (Nat.le_refl _) _
      have hwk0 : Wr base g w w0 := HWK.out.trans (Wr.of_below hb0)
      have HW0 := Lib.hid hwk0
      have hv0 := hwk0.cell HV.out (by decide) hVg
      obtain ⟨L, hL⟩ : ∃ L, L = l ++ uvar ps.length ++ encPs (ps.take k) := ⟨_, rfl⟩
      have hLl : L.length ≤ 1048576 := by
        have := encPs_le (ps := ps.take k) (fun j hj => by rw [List.getElem_take]; exact HOK.out j (by rw [List.length_take] at hj; omega))
        rw [hL]
        simp only [List.length_append]
        rw [List.length_take] at this
        omega
      have hs0 : WrSt w0 base g L := by
        obtain ⟨v1, hg1, ho1⟩ := HSK.out
        rw [hL]
        exact ⟨v1, heap_below hg1 hb0, ho1.below hb0⟩
      have hnext : l ++ uvar ps.length ++ encPs (ps.take (k + 1)) = L ++ encP x := by rw [hL, encPs_take ps k hlt, hx]; simp only [List.append_assoc]
      have HNX := Lib.hid hnext; clear hnext
      have hpc := pp1_any base g V L x w0 hs0 hv0 (Nat.le_trans hbs hwk0.size) hLl HXO.out
      have HPC := Lib.hid hpc
      have x0 : w0.heap[wr.heap.size]? = some (.cells #[.int .i64 x.num, .int .i64 x.from_, .int .i64 x.to_] 79 (0, 0)) := by rw [hw0]; exact heap_alloc_new wr _
      have y0 := box_cells x0 0 (.int .i64 x.num) rfl
      have y1 := box_cells x0 1 (.int .i64 x.from_) rfl
      have y2 := box_cells x0 2 (.int .i64 x.to_) rfl
      have HX := Lib.hid hx
      clear hL hs0 hv0 hpc hwk0 hb0 hx hxo x0 hLl
      go_upto_region 4 with fail
      rw [← hw0]
      have HWE := Lib.hid hw0; clear hw0 hp0 hp1 hp2
      go_wp2_with fail
      refine HPC.out.mono ?_
      rintro e w2 ⟨rfl, hs2, hw2⟩
      rw [← HNX.out] at hs2
      have HS2 := Lib.hid hs2; clear hs2
      have HW2 := Lib.hid (HW0.out.trans hw2); clear hw2
      go_wp2_with fail
      go_roundw
      case rel => exact ⟨k + 1, by omega, by go_num, HS2.out, HW2.out⟩
      case measure => simp [intOf]; omega
    · have t1 : decide ((k : Int) < (ps.length : Int)) = false := by simp; omega
      have hkk : ps.take k = ps := List.take_of_length_le (by omega)
      have HKK := Lib.hid hkk; clear hkk
      go_wp2_with fail
      go_end0
      exact ⟨rfl, by have := HSK.out; rwa [HKK.out] at this, HWK.out⟩

set_option maxRecDepth 100000 in
set_option maxHeartbeats 2000000 in
theorem putMan_any (t lo : Int) (v : Value) (ps : List Pai) (w : World) (hr : Rd3 w v (ps.map pV)) (hkl : ∀ p ∈ ps, (Lit.int .i64 p.num).wf = true) :
    Calls Try.prog 65 #[.agg #[.int .i64 t, .int .i64 lo, v]] w (PutA w (manOk t lo ps) (encMan t.toNat lo.toNat ps)) := by
  obtain ⟨A, c, rfl, _, _, _⟩ := id hr
  rw [List.length_map] at hr ⊢
  obtain ⟨H, hH⟩ : ∃ H, H = w.heap.size := ⟨_, rfl⟩
  obtain ⟨w0, hw0⟩ : ∃ w0, w0 = w.alloc (.cells #[.int .i64 t, .int .i64 lo, .slice A ps.length c] 74) := ⟨_, rfl⟩
  have hb0 : Below w.heap.size w w0 := by rw [hw0]; exact (Below.refl _ _).alloc (Nat.le_refl _) _
  have hx0 : w0.heap[H]? = some (.cells #[.int .i64 t, .int .i64 lo, .slice A ps.length c] 74 (0, 0)) := by rw [hw0, hH]; exact heap_alloc_new w _
  have HB0 := Lib.hid hb0
  have HX0 := Lib.hid hx0
  have k1 := rightMan_any t lo _ ps w0 (hr.below hb0) hkl
  have HK1 := Lib.hid k1
  have HR := Lib.hid hr
  clear hr hkl hb0 hx0 k1
  go_enter Try.func65, Try.ntmps65
  go_wp2_with fail
  rw [← hw0, ← hH]
  have HH := Lib.hid hH
  clear hw0 hH
  refine HK1.out.mono ?_
  rintro e w1 ⟨rfl, hb1⟩
  have HX1 := Lib.hid (heap_below HX0.out hb1)
  have HB1 := Lib.hid (HB0.out.trans (hb1.mono HB0.out.size)); clear hb1
  cases hok : manOk t lo ps with
  | false =>
    go_wp2_with fail
    go_ret2
    exact ⟨HB1.out, .inl ⟨hok, rfl⟩⟩
  | true =>
    have HOKK := Lib.hid hok
    obtain ⟨⟨ht1, ht2⟩, ⟨hg1, hg2⟩, hws, _, _, hwo'⟩ := manOk_bounds hok
    have hwo : ∀ k (hk : k < ps.length), pFit ps[k] := fun k hk => by obtain ⟨h1, h2, h3⟩ := hwo' k hk; exact ⟨by omega, h2, h3⟩
    clear hwo'
    obtain ⟨n, rfl⟩ := Int.eq_ofNat_of_zero_le ht1
    obtain ⟨lo, rfl⟩ := Int.eq_ofNat_of_zero_le (by omega : 0 ≤ lo)
    have hlo63 : lo < 9223372036854775808 := by omega
    have hu2 := uvar_len10 (n := lo) (by omega)
    have HWO := Lib.hid hwo; clear hwo hok
    have hn63 : n < 9223372036854775808 := by omega
    have hu1 := uvar_len10 (n := n) (by omega)
    have hst : WrSt ((w1.alloc (.cells #[.int .u8 77] 5)).alloc (.cells #[.slice (some ⟨w1.heap.size, 0, none⟩) 1 1] 106)) w.heap.size (w1.heap.size + 1) [77] := start_wr w1 w1.heap.size w.heap.size rfl 77 HB1.out.size
    obtain ⟨G, hG⟩ : ∃ G, G = w1.heap.size + 1 := ⟨_, rfl⟩
    rw [← hG] at hst
    obtain ⟨w2, hw2⟩ : ∃ w2, w2 = (w1.alloc (.cells #[.int .u8 77] 5)).alloc (.cells #[.slice (some ⟨w1.heap.size, 0, none⟩) 1 1] 106) := ⟨_, rfl⟩
    rw [← hw2] at hst
    have hb2 : Below w1.heap.size w1 w2 := by rw [hw2]; exact ((Below.refl _ _).alloc (Nat.le_refl _) _).alloc (by simp) _
    have hs2 : w2.heap.size = G + 1 := by rw [hw2, hG]; simp
    obtain ⟨w3, hw3⟩ : ∃ w3, w3 = w2.alloc (.cells #[.pointer (some ⟨G, 0, none⟩)] 104) := ⟨_, rfl⟩
    have hb3 : Below w2.heap.size w2 w3 := by rw [hw3]; exact (Below.refl _ _).alloc (Nat.le_refl _) _
    have hv3 : w3.heap[G + 1]? = some (.cells #[.pointer (some ⟨G, 0, none⟩)] 104 (0, 0)) := by rw [hw3, ← hs2]; exact heap_alloc_new w2 _
    have hst3 : WrSt w3 w.heap.size G [77] := by
      obtain ⟨v1, hg1, ho1⟩ := hst
      exact ⟨v1, heap_below hg1 hb3, ho1.below hb3⟩
    have HB3 := Lib.hid ((HB1.out.trans (hb2.mono HB1.out.size)).trans (hb3.mono (Nat.le_trans HB1.out.size hb2.size)))
    have HX3 := Lib.hid (heap_below (heap_below HX1.out hb2) hb3)
    have HV3 := Lib.hid hv3
    have HS3 := Lib.hid hst3
    have hwG : w.heap.size ≤ G := by have := HB1.out.size; omega
    have hHG : H ≠ G := by have := (Array.getElem?_eq_some_iff.1 HX1.out).1; omega
    go_upto_region 4 with fail
    have e1 : w1.heap.size + 1 + 1 = G + 1 := by omega
    rw [← hw2, e1, ← hG, ← hw3]
    have c0 := box_cells HX3.out 0 (.int .i64 n) rfl
    have cv := box_cells HV3.out 0 (.pointer (some ⟨G, 0, none⟩)) rfl
    clear hw2 hw3 hb2 hb3 hs2 hst hst3 hv3 e1 hG
    go_wp2_with fail
    refine (wnum_any w.heap.size G [77] n w3 HS3.out hn63 (by simp) HB3.out.size).mono ?_
    rintro e w4 ⟨rfl, hs4, hw4⟩
    obtain ⟨L, hL⟩ : ∃ L, L = [77] ++ uvar n := ⟨_, rfl⟩
    rw [← hL] at hs4
    have hLl : L.length ≤ 50 := by rw [hL]; simp; omega
    have HL := Lib.hid hL; clear hL
    have HS4 := Lib.hid hs4
    have hx4 := hw4.cell HX3.out (by decide) hHG
    have hv4 := hw4.cell HV3.out (by decide) (by omega)
    have HX4 := Lib.hid hx4
    have HV4 := Lib.hid hv4
    have HB4 := Lib.hid (HB3.out.trans (hw4.below hwG HB3.out.size))
    have c1 := box_cells hx4 1 (.int .i64 lo) rfl
    have cv4 := box_cells hv4 0 (.pointer (some ⟨G, 0, none⟩)) rfl
    clear hs4 hw4 hx4 hv4 c0 cv
    go_wp2_with fail
    refine (wnum_any w.heap.size G L lo w4 HS4.out hlo63 (by omega) HB4.out.size).mono ?_
    rintro e w4b ⟨rfl, hs4, hw4⟩
    obtain ⟨L2, hL2⟩ : ∃ L2, L2 = L ++ uvar lo := ⟨_, rfl⟩
    rw [← hL2] at hs4
    have hLl2 : L2.length ≤ 100 := by rw [hL2]; simp; omega
    have HL2 := Lib.hid hL2; clear hL2
    have HS4 := Lib.hid hs4
    have hx4 := hw4.cell HX4.out (by decide) hHG
    have hv4 := hw4.cell HV4.out (by decide) (by omega)
    have HX4 := Lib.hid hx4
    have HV4 := Lib.hid hv4
    have HB4 := Lib.hid (HB4.out.trans (hw4.below hwG HB4.out.size))
    clear c1 cv4
    have c2 := box_cells hx4 2 (.slice A ps.length c) rfl
    have cv4 := box_cells hv4 0 (.pointer (some ⟨G, 0, none⟩)) rfl
    clear hs4 hw4 hx4 hv4
    go_wp2_with fail
    refine (putP_any w G (G + 1) L2 _ ps w4b HR.out HB4.out HS4.out hwG HV4.out hLl2 hws HWO.out).mono ?_
    rintro e w5 ⟨rfl, hs5, hw5⟩
    have hv5 := hw5.cell HV4.out (by decide) (by omega)
    have cv5 := box_cells hv5 0 (.pointer (some ⟨G, 0, none⟩)) rfl
    have HB5 := Lib.hid (HB4.out.trans (hw5.below hwG HB4.out.size))
    obtain ⟨vv, hcv, hov⟩ := hs5.open_
    have HOV := Lib.hid hov
    clear hs5 hw5 hv5 hov
    go_wp2_with fail
    go_ret2
    refine ⟨HB5.out, .inr ⟨HOKK.out, vv, rfl, ?_⟩⟩
    have := HOV.out
    rw [HL2.out, HL.out] at this
    simpa [encMan, List.append_assoc] using this
end Go.Proofs.Ytggjipfdfpdecaa
