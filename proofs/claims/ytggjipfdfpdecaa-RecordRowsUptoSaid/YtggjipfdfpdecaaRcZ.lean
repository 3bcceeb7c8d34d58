/- The walk of the document's Commit; record's Commit. -/
import Derived.Test.YtggjipfdfpdecaaRcCy
import Derived.Test.YtggjipfdfpdecaaRcY
import Derived.Test.YtggjipfdfpdecaaRcJ
import Derived.Deep.CutBlock
set_option linter.unusedVariables false
namespace Go.Proofs.Ytggjipfdfpdecaa
open Go.RowKit
attribute [local go_sem] bs_list bs_size

/-- What Commit answers. -/
def ComA (w : World) (d : (Nat × List Wri) × Nat × Nat) (e : Ending) (w' : World) : Prop :=
  ∃ v, e = .returned (.tuple #[.agg #[.int .i64 (d.1.1 : Nat), v], .int .i64 (d.2.1 : Nat), .int .i64 (d.2.2 : Nat)]) ∧ Own3 w' w.heap.size 66 v (d.1.2.map wV) ∧ Below w.heap.size w w'

set_option maxRecDepth 100000 in
set_option maxHeartbeats 1000000 in
theorem rcom_any (v : Value) (b : List UInt8) (w : World) (hr : RdB w v b) (hl : b.length ≤ 140737488355328) :
    Calls Try.prog 56 #[v] w (ComA w (decCom b)) := by
  obtain ⟨A, c, rfl, _, _, _⟩ := id hr
  obtain ⟨H, hH⟩ : ∃ H, H = w.heap.size := ⟨_, rfl⟩
  obtain ⟨w0, hw0⟩ : ∃ w0, w0 = w.alloc (.cells #[.int .i64 0, .slice none 0 0] 64) := ⟨_, rfl⟩
  have hb0 : Below w.heap.size w w0 := by rw [hw0]; exact (Below.refl _ _).alloc (Nat.le_refl _) _
  have hx0 : w0.heap[H]? = some (.cells #[.int .i64 0, .slice none 0 0] 64 (0, 0)) := by rw [hw0, hH]; exact heap_alloc_new w _
  have ht := takeCom_any A c b w0 (hr.below hb0) hl
  obtain ⟨⟨⟨t, ws⟩, at_, code⟩, hd⟩ : ∃ d, d = decCom b := ⟨_, rfl⟩
  rw [← hd] at ht ⊢
  simp only at ht
  have HB0 := Lib.hid hb0; clear hb0
  have HX0 := Lib.hid hx0; clear hx0
  have HT := Lib.hid ht; clear ht hd
  go_enter Try.func56, Try.ntmps56
  go_wp2_with fail
  rw [← hH]
  rw [← hw0]
  have HH := Lib.hid hH; clear hw0 hH
  refine HT.out.mono ?_
  rintro e w1 ⟨v, rfl, ho1, hb1⟩
  have HX1 := Lib.hid (heap_below HX0.out hb1)
  have HB1 := Lib.hid (HB0.out.trans (hb1.mono HB0.out.size))
  obtain ⟨Av, cv, rfl, _, _, _⟩ := id ho1.rd
  rw [List.length_map] at ho1 ⊢
  have HO1 := Lib.hid (ho1.base HB0.out.size)
  clear ho1 hb1
  have r0 := box_cells HX1.out 0 (.int .i64 0) rfl
  have r1 := box_cells HX1.out 1 (.slice none 0 0) rfl
  have rf : ∀ i, w1.frozen? ⟨H, i, none⟩ = false := by intro i; have := HX1.out; simp [World.frozen?, this]
  have hfin := set2 HX1.out (.int .i64 (t : Int)) (.slice Av ws.length cv)
  have HBL := Lib.hid (blw HB1.out hfin.2 (by rw [HH.out]; exact Nat.le_refl _) (Nat.le_refl _))
  have HFI := Lib.hid hfin; clear hfin
  go_wp2_with fail
  refine bodyPost_ret (v := .tuple #[.agg #[.int .i64 (t : Int), .slice Av ws.length cv], .int .i64 at_, .int .i64 code]) (by simp [results, Try.results56, go_sem, *]) rfl ?_
  have ho5 := HO1.out.grown HFI.out.2 (HO1.out.ne_ HX1.out (by decide))
  exact ⟨_, rfl, ho5, HBL.out⟩

theorem RfSt.move {w1 w2 : World} {g : Nat} {A : Option Addr} {c : Nat} {b : List UInt8} {s : RS} (h : RfSt w1 g A c b s) (hg : w2.heap[g]? = w1.heap[g]?) (hr : RdB w2 (.slice A b.length c) b) : RfSt w2 g A c b s := by
  rcases h with ⟨h1, h2⟩ | ⟨h1, a, h3, h2⟩
  · exact .inl ⟨h1, hg.trans h2.1, hr⟩
  · exact .inr ⟨h1, a, h3, hg.trans h2.1, hr⟩
theorem RfSt.ne_ {w : World} {g R : Nat} {A : Option Addr} {c : Nat} {b : List UInt8} {s : RS} {cs : Array Value} {t : TypeId} {fr : Nat × Nat} (h : RfSt w g A c b s) (hR : w.heap[R]? = some (.cells cs t fr)) (ht : t ≠ 125) : R ≠ g := by
  rintro rfl
  rcases h with ⟨h1, h2⟩ | ⟨h1, a, h3, h2⟩
  · rw [h2.1] at hR
    injection hR with hR
    injection hR with _ h2 _
    exact ht h2.symm
  · rw [h2.1] at hR
    injection hR with hR
    injection hR with _ h2 _
    exact ht h2.symm

set_option maxRecDepth 100000 in
set_option maxHeartbeats 4000000 in
theorem fcom_any (v : Value) (b : List UInt8) (w : World) (hr : RdB w v b) (hl : b.length ≤ 140737488355328) :
    Calls Try.prog 57 #[v] w (ComA w (decCom b)) := by
  obtain ⟨A, c, rfl, _, _, _⟩ := id hr
  obtain ⟨H, hH⟩ : ∃ H, H = w.heap.size := ⟨_, rfl⟩
  obtain ⟨w0, hw0⟩ : ∃ w0, w0 = w.alloc (.cells #[.int .i64 0, .slice none 0 0] 64) := ⟨_, rfl⟩
  have hb0 : Below w.heap.size w w0 := by rw [hw0]; exact (Below.refl _ _).alloc (Nat.le_refl _) _
  have hx0 : w0.heap[H]? = some (.cells #[.int .i64 0, .slice none 0 0] 64 (0, 0)) := by rw [hw0, hH]; exact heap_alloc_new w _
  have HB0 := Lib.hid hb0
  have HX0 := Lib.hid hx0
  have HRD := Lib.hid (hr.below hb0)
  have HRW := Lib.hid (fun (W : World) (h : Below w.heap.size w W) => hr.below h)
  clear hb0 hx0
  obtain ⟨s0, hs0⟩ : ∃ s, s = startC b 67 := ⟨_, rfl⟩
  have ha0 : s0.at_ ≤ 140737488355328 := by rw [hs0]; have := startC_at b 67; omega
  obtain ⟨⟨t, s1⟩, ht⟩ : ∃ p, p = rNum b 1099511627775 s0 := ⟨_, rfl⟩
  have ha1 : s1.at_ ≤ 140737488355328 := by have := rNum_at b 1099511627775 s0; rw [← ht] at this; simp only at this; omega
  obtain ⟨⟨N, s2⟩, hn⟩ : ∃ p, p = rNum b 64 s1 := ⟨_, rfl⟩
  have ha2 : s2.at_ ≤ 140737488355328 := by have := rNum_at b 64 s1; rw [← hn] at this; simp only at this; omega
  have hN64 : N ≤ 64 := by have := rNum_le b 64 s1; rw [← hn] at this; exact this
  have hq : rCom b s0 = ((t, (rList (rWri b) N s2).1), (rList (rWri b) N s2).2) := by unfold rCom; rw [← ht]; simp only; rw [← hn]
  have hd : decCom b = ansC (0, []) (t, (rList (rWri b) N s2).1) (endC b (rList (rWri b) N s2).2 (comOk (t : Nat) (rList (rWri b) N s2).1)) := by unfold decCom; rw [← hs0, hq]
  have HD := Lib.hid hd
  have HQ := Lib.hid hq
  have HT := Lib.hid ht
  have HN := Lib.hid hn
  have HS0 := Lib.hid hs0
  clear hd hq ht hn hs0
  go_enter Try.func57, Try.ntmps57
  go_wp2_with fail
  rw [← hH]
  rw [← hw0]
  have HH := Lib.hid hH; clear hw0 hH hr
  have hle : w.heap.size ≤ w.heap.size := Nat.le_refl _
  have hwH : w.heap.size ≤ H := by rw [HH.out]; exact hle
  refine (begin_any A c b 67 w0 HRD.out hl).mono ?_
  rintro e w1 ⟨g, rfl, hg, hs, hb⟩
  rw [← HS0.out] at hs
  have hHg : H ≠ g := by have := (Array.getElem?_eq_some_iff.1 HX0.out).1; omega
  have hwg : w.heap.size ≤ g := by have := HB0.out.size; omega
  have HX1 := Lib.hid (heap_below HX0.out hb)
  have HB1 := Lib.hid (HB0.out.trans (hb.mono HB0.out.size))
  have HS1 := Lib.hid hs; clear hs hb hg
  go_wp2_with fail
  refine (fnum_any g A c b s0 1099511627775 w1 HS1.out hl (by omega) ha0).mono ?_
  rintro e w2 ⟨rfl, hs, hg2⟩
  rw [← HT.out] at hs ⊢
  simp only at hs ⊢
  have HX2 := Lib.hid (heap_grown HX1.out hg2 hHg)
  have HB2 := Lib.hid (blw HB1.out hg2 hwg hle)
  have HS2 := Lib.hid hs; clear hs hg2
  obtain ⟨w3, hw3⟩ : ∃ w3, w3 = w2.alloc (.cells #[.int .i64 (t : Int), .slice none 0 0] 64) := ⟨_, rfl⟩
  obtain ⟨X, hX⟩ : ∃ X, X = w2.heap.size := ⟨_, rfl⟩
  have hb3 : Below w2.heap.size w2 w3 := by rw [hw3]; exact (Below.refl _ _).alloc (Nat.le_refl _) _
  have hx3 : w3.heap[X]? = some (.cells #[.int .i64 (t : Int), .slice none 0 0] 64 (0, 0)) := by rw [hw3, hX]; exact heap_alloc_new w2 _
  have hXH : H ≠ X := by have := (Array.getElem?_eq_some_iff.1 HX2.out).1; omega
  have hXg : X ≠ g := by have := HS2.out.lt; omega
  have hwX : w.heap.size ≤ X := by rw [hX]; exact HB2.out.size
  have HY3 := Lib.hid hx3; clear hx3
  have HX3 := Lib.hid (heap_below HX2.out hb3)
  have HS3 := Lib.hid (HS2.out.keep hb3)
  have HB3 := Lib.hid (HB2.out.trans (hb3.mono HB2.out.size)); clear hb3
  go_upto_region 3 with fail
  rw [← hw3, ← hX]
  have HW3 := Lib.hid hw3; clear hw3
  have HXe := Lib.hid hX; clear hX
  go_wp2_with fail
  refine (fnum_any g A c b s1 64 w3 HS3.out hl (by omega) ha1).mono ?_
  rintro e w4 ⟨rfl, hs, hg4⟩
  rw [← HN.out] at hs ⊢
  simp only at hs ⊢
  have HX4 := Lib.hid (heap_grown HX3.out hg4 hHg)
  have HY4 := Lib.hid (heap_grown HY3.out hg4 hXg)
  have HB4 := Lib.hid (blw HB3.out hg4 hwg hle)
  have HS4 := Lib.hid hs; clear hs hg4
  obtain ⟨base, hbase⟩ : ∃ x, x = w.heap.size := ⟨_, rfl⟩
  have HBE := Lib.hid hbase; clear hbase
  go_upto_block 0 with fail
  go_cut [5] (fun v5 wx => v5 = .pointer (some ⟨g, 0, none⟩) ∧ ∃ sv, wx.heap[X]? = some (.cells #[.int .i64 (t : Int), sv] 64 (0, 0)) ∧ wx.heap[H]? = some (.cells #[.int .i64 0, .slice none 0 0] 64 (0, 0)) ∧ Own3 wx w.heap.size 66 sv ((rList (rWri b) N s2).1.map wV) ∧ RfSt wx g A c b (rList (rWri b) N s2).2 ∧ Below w.heap.size w wx)
  case first =>
    go_wp2_with fail
    go_loopw [8] (fun v8 wr => ∃ j : Nat, j ≤ N ∧ v8 = .int .i64 (j : Int) ∧ ∃ sv, wr.heap[X]? = some (.cells #[.int .i64 (t : Int), sv] 64 (0, 0)) ∧ wr.heap[H]? = some (.cells #[.int .i64 0, .slice none 0 0] 64 (0, 0)) ∧ Own3 wr w.heap.size 66 sv ((rList (rWri b) j s2).1.map wV) ∧ RfSt wr g A c b (rList (rWri b) j s2).2 ∧ Below w.heap.size w wr) (fun v8 _ => N - (intOf v8).toNat)
    case atStart => exact ⟨0, by omega, rfl, _, HY4.out, HX4.out, Own3.nil _ _ _, HS4.out, HB4.out⟩
    case round =>
      obtain ⟨j, hj, rfl, sv, hx, hh, ho, hs, hb⟩ := hrel
      obtain ⟨⟨xs, sj⟩, hq⟩ : ∃ p, p = rList (rWri b) j s2 := ⟨_, rfl⟩
      have hxl : xs.length ≤ 64 := by have := rList_len (rWri b) j s2; rw [← hq] at this; simp only at this; omega
      have haj : sj.at_ ≤ 140737488355328 := by have := rList_at b (rWri b) (rWri_at b) j s2; rw [← hq] at this; simp only at this; omega
      have hsn := rList_snoc (rWri b) j s2
      have hst := fun h => rList_stop (rWri b) N j s2 hj h
      rw [← hq] at ho hs hsn hst
      simp only at ho hs hsn hst
      have HSN := Lib.hid hsn
      have HST := Lib.hid hst
      have HJQ := Lib.hid hq
      obtain ⟨A7, c7, rfl, _, _, _⟩ := id ho.rd
      rw [List.length_map] at hx ho
      have HX := Lib.hid hx
      have HHH := Lib.hid hh
      have HO := Lib.hid ho
      have HSJ := Lib.hid hs
      have HB := Lib.hid hb
      clear hsn hst hq hx hh ho hs hb
      obtain ⟨aj, bj⟩ := sj
      by_cases hjN : j < N
      · have t1 : decide ((j : Int) < (N : Int)) = true := by simp; omega
        cases bj with
        | true =>
          have hfin := HST.out rfl
          have HFIN := Lib.hid hfin
          obtain ⟨-, a2, ha2', hc2⟩ := HSJ.out.resolve_left (fun h => by cases h.1)
          have c2 := hc2.c2
          simp only at c2
          have t2 : decide ((aj : Int) < 0) = false := by simp
          clear hfin hc2
          go_wp2_with fail
          go_meet
          refine ⟨rfl, _, HX.out, HHH.out, ?_, ?_, HB.out⟩
          · rw [HFIN.out]; exact HO.out
          · rw [HFIN.out]; exact HSJ.out
        | false =>
          have hnx := HSN.out rfl
          obtain ⟨-, hc2⟩ := HSJ.out.resolve_right (fun h => by cases h.1)
          have c2 := hc2.c2
          have HNX := Lib.hid hnx
          have HSN' := Lib.hid HSN; clear HSN HST
          obtain ⟨⟨f, q1⟩, hf⟩ : ∃ p, p = rFlag b ⟨aj, false⟩ := ⟨_, rfl⟩
          have hq1 : q1.at_ ≤ 140737488355328 := by have := rFlag_at b ⟨aj, false⟩; rw [← hf] at this; simp only at this haj; omega
          obtain ⟨⟨k, q2⟩, hk⟩ : ∃ p, p = rTxt b 16 q1 := ⟨_, rfl⟩
          have hq2 : q2.at_ ≤ 140737488355328 := by have := rTxt_at b 16 q1; rw [← hk] at this; simp only at this; omega
          obtain ⟨⟨v, q3⟩, hv⟩ : ∃ p, p = rTxt b 64 q2 := ⟨_, rfl⟩
          have hw1 : rWri b ⟨aj, false⟩ = if f = true then (⟨k, [], true⟩, q2) else (⟨k, v, false⟩, q3) := by unfold rWri; rw [← hf]; simp only; rw [← hk]; simp only; rw [← hv]
          have HW1 := Lib.hid hw1
          have HF := Lib.hid hf
          have HK := Lib.hid hk
          have HV := Lib.hid hv
          have hsz : w.heap.size ≤ wr.heap.size := HB.out.size
          clear hc2 hnx hf hk hv hw1
          go_wp2_with fail
          refine (fflag_any g A c b ⟨aj, false⟩ wr HSJ.out hl haj).mono ?_
          rintro e u1 ⟨rfl, hs1, hg1⟩
          rw [← HF.out] at hs1 ⊢
          simp only at hs1 ⊢
          have HU1 := Lib.hid hs1
          have HX1' := Lib.hid (heap_grown HX.out hg1 hXg)
          have HH1' := Lib.hid (heap_grown HHH.out hg1 hHg)
          have hgv : ∀ (W : World) (s : RS) (hs : RfSt W g A c b s) (xs : List V3) (sv : Value) (ho : Own3 W w.heap.size 66 sv xs), sv.ownBlock ≠ some g := by
            intro W s hs xs sv ho
            rcases hs with ⟨_, h⟩ | ⟨_, a, _, h⟩
            · exact ho.ne_ h.1 (by decide)
            · exact ho.ne_ h.1 (by decide)
          have HGV := Lib.hid hgv; clear hgv
          have HO1' := Lib.hid (HO.out.grown hg1 (HGV.out _ _ HSJ.out _ _ HO.out))
          have HB1' := Lib.hid (blw HB.out hg1 hwg hle)
          clear hs1 hg1
          obtain ⟨u2, hu2⟩ : ∃ u2, u2 = u1.alloc (.cells #[.string (bs []), .string (bs []), .bool f] 66) := ⟨_, rfl⟩
          obtain ⟨Y, hY⟩ : ∃ Y, Y = u1.heap.size := ⟨_, rfl⟩
          have hbu : Below u1.heap.size u1 u2 := by rw [hu2]; exact (Below.refl _ _).alloc (Nat.le_refl _) _
          have hy2 : u2.heap[Y]? = some (.cells #[.string (bs []), .string (bs []), .bool f] 66 (0, 0)) := by rw [hu2, hY]; exact heap_alloc_new u1 _
          have hYg : Y ≠ g := by have := HU1.out.lt; omega
          have hYX : Y ≠ X := by have := (Array.getElem?_eq_some_iff.1 HX1'.out).1; omega
          have hYH : Y ≠ H := by have := (Array.getElem?_eq_some_iff.1 HH1'.out).1; omega
          have hwY : w.heap.size ≤ Y := by rw [hY]; exact HB1'.out.size
          have hvY : (Value.slice A7 xs.length c7).ownBlock ≠ some Y := by
            intro e
            have := (World.ownsRow.lt HO1'.out Y e).2
            omega
          have HY2 := Lib.hid hy2
          have HX2' := Lib.hid (heap_below HX1'.out hbu)
          have HH2' := Lib.hid (heap_below HH1'.out hbu)
          have HO2' := Lib.hid (HO1'.out.below hbu)
          have HU2 := Lib.hid (HU1.out.keep hbu)
          have HB2' := Lib.hid (HB1'.out.trans (hbu.mono HB1'.out.size))
          clear hbu hy2
          go_upto_region 8 with fail
          simp only [bs_nil]
          rw [← hu2, ← hY]
          have HUE := Lib.hid hu2; clear hu2
          have HYE := Lib.hid hY; clear hY
          go_wp2_with fail
          refine (ftext_any g A c b q1 16 u2 HU2.out hl (by omega) hq1).mono ?_
          rintro e u3 ⟨rfl, hs3, hg3⟩
          rw [← HK.out] at hs3 ⊢
          simp only at hs3 ⊢
          have HY3' := Lib.hid (heap_grown HY2.out hg3 hYg)
          have HX3' := Lib.hid (heap_grown HX2'.out hg3 hXg)
          have HH3' := Lib.hid (heap_grown HH2'.out hg3 hHg)
          have HO3' := Lib.hid (HO2'.out.grown hg3 (HGV.out _ _ HU2.out _ _ HO2'.out))
          have HB3' := Lib.hid (blw HB2'.out hg3 hwg hle)
          obtain ⟨u4, hu4⟩ : ∃ u4, u4 = u3.setCell ⟨Y, 0, none⟩ (.string (bs k)) := ⟨_, rfl⟩
          have hg4 : u3.grownBy u4 (some Y) := by rw [hu4]; exact only_one _ _ _ _
          have hy4 : u4.heap[Y]? = some (.cells #[.string (bs k), .string (bs []), .bool f] 66 (0, 0)) := by rw [hu4]; exact set_at HY3'.out 0 _
          have HU4 := Lib.hid (hs3.other HY3'.out (noByte3 (str_bv _) (str_bv _) (bool_bv _)) (fun e => hYg e.symm) hg4)
          have HX4' := Lib.hid (heap_grown HX3'.out hg4 (fun e => hYX e.symm))
          have HH4' := Lib.hid (heap_grown HH3'.out hg4 (fun e => hYH e.symm))
          have HO4' := Lib.hid (HO3'.out.grown hg4 hvY)
          have HB4' := Lib.hid (blw HB3'.out hg4 hwY hle)
          have HY4' := Lib.hid hy4
          have f3 : u3.frozen? ⟨Y, 0, none⟩ = false := by have := HY3'.out; simp [World.frozen?, this]
          have c3 := box_cells HY3'.out 0 (.string (bs [])) rfl
          clear hs3 hg3 hg4 hy4
          go_upto_region 9 with fail
          rw [← hu4]
          have HUE4 := Lib.hid hu4; clear hu4 f3 c3
          obtain ⟨⟨x, sx⟩, hx⟩ : ∃ p, p = rWri b ⟨aj, false⟩ := ⟨_, rfl⟩
          have hw1 := HW1.out
          have hnx := HNX.out
          rw [← hx] at hw1 hnx
          simp only at hnx
          have HW2 := Lib.hid hw1
          have HNX2 := Lib.hid hnx
          have y2 := box_cells HY4'.out 2 (.bool f) rfl
          clear hx hw1 hnx
          go_upto_if 39 with fail
          go_cut [9] (fun v9 wx => v9 = .pointer (some ⟨Y, 0, none⟩) ∧ wx.heap[Y]? = some (.cells #[.string (bs x.key), .string (bs x.val), .bool x.gone] 66 (0, 0)) ∧ RfSt wx g A c b sx ∧ wx.heap[X]? = some (.cells #[.int .i64 (t : Int), .slice A7 xs.length c7] 64 (0, 0)) ∧ wx.heap[H]? = some (.cells #[.int .i64 0, .slice none 0 0] 64 (0, 0)) ∧ Own3 wx w.heap.size 66 (.slice A7 xs.length c7) (xs.map wV) ∧ Below w.heap.size w wx)
          case first =>
            cases f with
            | true =>
              have hw1 := HW2.out
              rw [if_pos rfl] at hw1
              injection hw1 with hx1 hx2
              subst hx1 hx2
              go_wp2_with fail
              go_meet
              exact ⟨rfl, HY4'.out, HU4.out, HX4'.out, HH4'.out, HO4'.out, HB4'.out⟩
            | false =>
              have hw1 := HW2.out
              rw [if_neg (by simp)] at hw1
              injection hw1 with hx1 hx2
              subst hx1 hx2
              go_wp2_with fail
              refine (ftext_any g A c b q2 64 u4 HU4.out hl (by omega) hq2).mono ?_
              rintro e u5 ⟨rfl, hs5, hg5⟩
              rw [← HV.out] at hs5 ⊢
              simp only at hs5 ⊢
              have HY5' := Lib.hid (heap_grown HY4'.out hg5 hYg)
              have HX5' := Lib.hid (heap_grown HX4'.out hg5 hXg)
              have HH5' := Lib.hid (heap_grown HH4'.out hg5 hHg)
              have HO5' := Lib.hid (HO4'.out.grown hg5 (HGV.out _ _ HU4.out _ _ HO4'.out))
              have HB5' := Lib.hid (blw HB4'.out hg5 hwg hle)
              have hgs := only_one u5 Y 1 (.string (bs v))
              have HY6 := Lib.hid (set_at HY5'.out 1 (.string (bs v)))
              have HU6 := Lib.hid (hs5.other HY5'.out (noByte3 (str_bv _) (str_bv _) (bool_bv _)) (fun e => hYg e.symm) hgs)
              have HX6 := Lib.hid (heap_grown HX5'.out hgs (fun e => hYX e.symm))
              have HH6 := Lib.hid (heap_grown HH5'.out hgs (fun e => hYH e.symm))
              have HO6 := Lib.hid (HO5'.out.grown hgs hvY)
              have HB6 := Lib.hid (blw HB5'.out hgs hwY hle)
              have f5 : u5.frozen? ⟨Y, 1, none⟩ = false := by have := HY5'.out; simp [World.frozen?, this]
              have c5 := box_cells HY5'.out 1 (.string (bs [])) rfl
              clear hs5 hg5 hgs
              go_wp2_with fail
              go_meet
              exact ⟨rfl, HY6.out, HU6.out, HX6.out, HH6.out, HO6.out, HB6.out⟩
          case rest =>
            obtain ⟨rfl, hy, hu, hx, hh, ho, hb⟩ := hcut
            have HY7 := Lib.hid hy
            have HU7 := Lib.hid hu
            have HX7 := Lib.hid hx
            have HH7 := Lib.hid hh
            have HO7 := Lib.hid ho
            have HB7 := Lib.hid hb
            have hsz7 : w.heap.size ≤ wc.heap.size := hb.size
            have y0 := box_cells hy 0 (.string (bs x.key)) rfl
            have y1 := box_cells hy 1 (.string (bs x.val)) rfl
            have y2 := box_cells hy 2 (.bool x.gone) rfl
            have x1 := box_cells hx 1 (.slice A7 xs.length c7) rfl
            have hbA : Below wc.heap.size wc (wc.alloc (.cells #[.string (bs x.key), .string (bs x.val), .bool x.gone] 66)) := (Below.refl _ _).alloc (Nat.le_refl _) _
            have HXA := Lib.hid (heap_below hx hbA)
            clear hy hu hx hh ho hb hbA
            go_wp2_with (at_builtin; refine own3_append1 w.heap.size wc.heap.size rfl 62 66 40 _ Try.underlying62 info66 rfl rfl (.tmp 44) (.tmp 46) rfl _ (xs.map wV) (wV x) ?hy rfl rfl HO7.out ?hb ?hl1 ?hl2 ?_; (case hy => exact wV_one x); (case hb => exact hsz7); (case hl1 => rw [List.length_map]; omega); (case hl2 => rw [List.length_map]; omega); intro v3 w3' hown hb3 hg3 hat; have HO8 := Lib.hid hown; have HBL8 := Lib.hid hb3; have HGR8 := Lib.hid hg3; clear hown hb3 hg3 hat; have hx8 := (HGR8.out.block X (Array.getElem?_eq_some_iff.1 HX7.out).1 (fun e => HO7.out.ne_ HX7.out (by decide) e.symm)).trans HX7.out; have HX8 := Lib.hid hx8; have c8 := box_cells hx8 1 (.slice A7 xs.length c7) rfl; have f8 : w3'.frozen? ⟨X, 1, none⟩ = false := (by simp [World.frozen?, hx8]); clear hx8; obtain ⟨A8, c9, rfl, _, _, _⟩ := id HO8.out.rd)
            have hlen : (xs.map wV ++ [wV x]).length = xs.length + 1 := by simp
            have ho8 := HO8.out
            rw [hlen] at ho8
            have hH8 := (HGR8.out.block H (Array.getElem?_eq_some_iff.1 HH7.out).1 (fun e => HO7.out.ne_ HH7.out (by decide) e.symm)).trans HH7.out
            have hg8 : w3'.heap[g]? = wc.heap[g]? := HGR8.out.block g HU7.out.lt (fun e => HGV.out _ _ HU7.out _ _ HO7.out e.symm)
            have hset := only_one w3' X 1 (.slice A8 (xs.length + 1) c9)
            have hbl := (HB7.out.trans HBL8.out).setCell (p := ⟨X, 1, none⟩) hwX (.slice A8 (xs.length + 1) c9)
            refine ⟨⟨j + 1, by omega, by congr 1, _, set_at HX8.out 1 _, heap_grown hH8 hset hXH, ?_, ?_, hbl⟩, by simp [intOf]; omega⟩
            · rw [HNX2.out, List.map_append]
              exact ho8.grown hset (ho8.ne_ HX8.out (by decide))
            · rw [HNX2.out]
              exact HU7.out.move ((hset.block g (Nat.lt_of_lt_of_le HU7.out.lt HGR8.out.size) (fun e => hXg (Option.some.inj e).symm)).trans hg8) (HRW.out _ hbl)
      · have hjj : j = N := by omega
        have t1 : decide ((j : Int) < (N : Int)) = false := by simp; omega
        have hq := HJQ.out
        rw [hjj] at hq
        have HQ2 := Lib.hid hq; clear hq hjj
        go_wp2_with fail
        go_meet
        refine ⟨rfl, _, HX.out, HHH.out, ?_, ?_, HB.out⟩
        · rw [← HQ2.out]; exact HO.out
        · rw [← HQ2.out]; exact HSJ.out
  case rest =>
    obtain ⟨rfl, sv, hx5, hh5, ho5, hs5, hb5⟩ := hcut
    obtain ⟨⟨ws, s3⟩, hl5⟩ : ∃ p, p = rList (rWri b) N s2 := ⟨_, rfl⟩
    obtain ⟨hwl, hwb⟩ := rCom_bounds HQ.out.symm
    have ha3 : s3.at_ ≤ 140737488355328 := by have := rList_at b (rWri b) (rWri_at b) N s2; rw [← hl5] at this; simp only at this; omega
    have hd := HD.out
    rw [← hl5] at ho5 hs5 hd hwl hwb
    simp only at ho5 hs5 hd hwl hwb
    have HD2 := Lib.hid hd
    have HWB := Lib.hid hwb
    obtain ⟨Av, cv, rfl, _, _, _⟩ := id ho5.rd
    rw [List.length_map] at hx5 ho5
    have HX5 := Lib.hid hx5
    have HH5 := Lib.hid hh5
    have HO5 := Lib.hid ho5
    have HS5 := Lib.hid hs5
    have HB5 := Lib.hid hb5
    have y0 := box_cells hx5 0 (.int .i64 (t : Int)) rfl
    have y1 := box_cells hx5 1 (.slice Av ws.length cv) rfl
    clear hl5 hd hwb hx5 hh5 ho5 hs5 hb5
    go_wp2_with fail
    refine (rightComF_any (t : Int) _ ws _ HO5.out.rd (by omega) HWB.out).mono ?_
    rintro e w8 ⟨rfl, hb8⟩
    have HS8 := Lib.hid (HS5.out.keep hb8)
    have HX8 := Lib.hid (heap_below HX5.out hb8)
    have HH8 := Lib.hid (heap_below HH5.out hb8)
    have HO8 := Lib.hid (HO5.out.below hb8)
    have HB8 := Lib.hid (HB5.out.trans (hb8.mono HB5.out.size)); clear hb8 y0 y1
    go_wp2_with fail
    refine (end_any g A c b s3 (comOk (t : Int) ws) w8 HS8.out hl ha3).mono ?_
    rintro e w9 ⟨rfl, hg9⟩
    have HX9 := Lib.hid (heap_grown HX8.out hg9 hXg)
    have HH9 := Lib.hid (heap_grown HH8.out hg9 hHg)
    have HO9 := Lib.hid (HO8.out.grown hg9 (by
      rcases HS8.out with ⟨_, h⟩ | ⟨_, a, _, h⟩
      · exact HO8.out.ne_ h.1 (by decide)
      · exact HO8.out.ne_ h.1 (by decide)))
    have HB9 := Lib.hid (blw HB8.out hg9 hwg hle); clear hg9
    have r0 := box_cells HH9.out 0 (.int .i64 0) rfl
    have r1 := box_cells HH9.out 1 (.slice none 0 0) rfl
    have rf : ∀ i, w9.frozen? ⟨H, i, none⟩ = false := by intro i; have := HH9.out; simp [World.frozen?, this]
    have y0 := box_cells HX9.out 0 (.int .i64 (t : Int)) rfl
    have y1 := box_cells HX9.out 1 (.slice Av ws.length cv) rfl
    obtain ⟨⟨ea, ec⟩, he⟩ : ∃ p, p = endC b s3 (comOk (t : Int) ws) := ⟨_, rfl⟩
    have hea : ec = 0 → ea = 0 := by
      intro h
      unfold endC at he
      split at he
      · simp only [Prod.mk.injEq] at he; omega
      · split at he
        · simp only [Prod.mk.injEq] at he; omega
        · simp only [Prod.mk.injEq] at he; omega
    have hd := HD2.out
    rw [← he] at hd ⊢
    have HD3 := Lib.hid hd; clear he hd
    by_cases hc : ec = 0
    · have ha : ea = 0 := hea hc
      subst hc ha
      have hfin := set2 HH9.out (.int .i64 (t : Int)) (.slice Av ws.length cv)
      have HBL := Lib.hid (blw HB9.out hfin.2 hwH hle)
      have HOF := Lib.hid (HO9.out.grown hfin.2 (HO9.out.ne_ HH9.out (by decide)))
      clear hfin hea
      go_wp2_with fail
      refine bodyPost_ret (v := .tuple #[.agg #[.int .i64 (t : Int), .slice Av ws.length cv], .int .i64 0, .int .i64 0]) (by simp [results, Try.results57, go_sem, *]) rfl ?_
      rw [HD3.out]
      exact ⟨_, rfl, HOF.out, HBL.out⟩
    · have t1 : ((ec : Int) != 0) = true := by rw [bne_iff_ne]; omega
      have hfin := set2 HH9.out (.int .i64 0) (.slice none 0 0)
      have HBL := Lib.hid (blw HB9.out hfin.2 hwH hle); clear hfin hea
      go_wp2_with fail
      refine bodyPost_ret (v := .tuple #[.agg #[.int .i64 0, .slice none 0 0], .int .i64 (ea : Nat), .int .i64 (ec : Nat)]) (by simp [results, Try.results57, go_sem, *]) rfl ?_
      rw [HD3.out]
      unfold ansC ComA
      simp only
      rw [if_neg hc]
      exact ⟨_, rfl, Own3.nil _ _ _, HBL.out⟩
end Go.Proofs.Ytggjipfdfpdecaa
