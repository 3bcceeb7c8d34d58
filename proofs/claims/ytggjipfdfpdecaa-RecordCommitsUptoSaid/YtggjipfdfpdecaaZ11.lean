/- Texts merged: RcPc, RcSh, RecordTexts, RecordRows. Each says below what it proves. -/
import Derived.Test.YtggjipfdfpdecaaZ10
import Derived.Test.YtggjipfdfpdecaaZ01
import Derived.Test.YtggjipfdfpdecaaZ09
import Derived.Test.YtggjipfdfpdecaaZ06
/- The walks of record's put and PutCommit. -/
set_option linter.unusedVariables false
namespace Go.Proofs.Ytggjipfdfpdecaa
open Go.RowKit
attribute [local go_sem] bs_list bs_size

set_option maxRecDepth 100000 in
set_option maxHeartbeats 2000000 in
theorem putW_any (w00 : World) (g V : Nat) (l : List UInt8) (v : Value) (ws : List Wri) (w : World) (hr : Rd3 w00 v (ws.map wV)) (hb0 : Below w00.heap.size w00 w) (hs : WrSt w w00.heap.size g l) (hg : w00.heap.size ≤ g)
    (hv : w.heap[V]? = some (.cells #[.pointer (some ⟨g, 0, none⟩)] 104 (0, 0))) (hl : l.length ≤ 100) (hn : ws.length ≤ 64) (hok : ∀ k (hk : k < ws.length), wOk ws[k] = true) :
    Calls Try.prog 84 #[.pointer (some ⟨g, 0, none⟩), v, .func (.func 85) #[] #[.pointer (some ⟨V, 0, none⟩)]] w fun e w' => e = .returned (.tuple #[]) ∧ WrSt w' w00.heap.size g (l ++ uvar ws.length ++ encWs ws) ∧ Wr w00.heap.size g w w' := by
  obtain ⟨A, c, rfl, _, _, _⟩ := id hr
  rw [List.length_map] at hr ⊢
  have hVg : V ≠ g := by
    obtain ⟨v1, hg1, _⟩ := hs
    rintro rfl
    rw [hg1] at hv
    injection hv with hv
    injection hv with _ h _
    exact absurd h (by decide)
  obtain ⟨base, hbase⟩ : ∃ b, b = w00.heap.size := ⟨_, rfl⟩
  have HRD := Lib.hid (fun (w' : World) (h : Below w00.heap.size w00 w') => hr.below h)
  rw [← hbase] at hs hg ⊢
  have hbs : base ≤ w.heap.size := by rw [hbase]; exact hb0.size
  have HBE := Lib.hid hbase; clear hbase
  have HB0 := Lib.hid hb0; clear hb0
  have HV := Lib.hid hv; clear hv
  have HS := Lib.hid hs; clear hs
  have HOK := Lib.hid hok; clear hok
  have hu := uvar_len10 (n := ws.length) (by omega)
  go_enter Try.func84, Try.ntmps84
  go_wp2_with fail
  refine (wnum_any base g l ws.length w HS.out (by omega) (by omega) hbs).mono ?_
  rintro e w1 ⟨rfl, hs1, hw1⟩
  have HS1 := Lib.hid hs1; clear hs1
  have HW1 := Lib.hid hw1; clear hw1
  go_wp2_with fail
  go_loopw [14] (fun v14 wr => ∃ k : Nat, k ≤ ws.length ∧ v14 = .int .i64 (k : Int) ∧ WrSt wr base g (l ++ uvar ws.length ++ encWs (ws.take k)) ∧ Wr base g w wr) (fun v14 _ => ws.length - (intOf v14).toNat)
  case atStart => exact ⟨0, by omega, rfl, by simpa [encWs] using HS1.out, HW1.out⟩
  case round =>
    obtain ⟨k, hk, rfl, hs, hw⟩ := hrel
    have HSK := Lib.hid hs; clear hs
    have HWK := Lib.hid hw; clear hw
    by_cases hlt : k < ws.length
    · have hbel : Below w00.heap.size w00 wr := by
        have h1 := HWK.out.below hg hbs
        rw [HBE.out] at h1
        exact HB0.out.trans h1
      obtain ⟨ad, c', he, _, _, hp0, hp1, hp2⟩ := (HRD.out wr hbel).elem (j := k) (by rw [List.length_map]; exact hlt)
      rw [List.length_map] at he
      injection he with e1 e2 e3
      subst e1
      rw [List.getElem_map] at hp0 hp1 hp2
      obtain ⟨x, hx⟩ : ∃ x, x = ws[k] := ⟨_, rfl⟩
      rw [← hx] at hp0 hp1 hp2
      simp only [wV] at hp0 hp1 hp2
      clear e2 e3 hbel
      have hxo := HOK.out k hlt
      rw [← hx] at hxo
      obtain ⟨hx1, hx2, _, _⟩ := wOk_bounds hxo
      have t1 : decide ((k : Int) < (ws.length : Int)) = true := by simp; omega
      obtain ⟨w0, hw0⟩ : ∃ w0, w0 = wr.alloc (.cells #[.string (bs x.key), .string (bs x.val), .bool x.gone] 66) := ⟨_, rfl⟩
      have hb0 : Below wr.heap.size wr w0 := by rw [hw0]; exact (Below.refl _ _).alloc (Nat.le_refl _) _
      have hwk0 : Wr base g w w0 := HWK.out.trans (Wr.of_below hb0)
      have HW0 := Lib.hid hwk0
      have hv0 := hwk0.cell HV.out (by decide) hVg
      obtain ⟨L, hL⟩ : ∃ L, L = l ++ uvar ws.length ++ encWs (ws.take k) := ⟨_, rfl⟩
      have hLl : L.length ≤ 1048576 := by
        have := encWs_le (ws := ws.take k) (fun j hj => by rw [List.getElem_take]; exact HOK.out j (by rw [List.length_take] at hj; omega))
        rw [hL]
        simp only [List.length_append]
        rw [List.length_take] at this
        omega
      have hs0 : WrSt w0 base g L := by
        obtain ⟨v1, hg1, ho1⟩ := HSK.out
        rw [hL]
        exact ⟨v1, heap_below hg1 hb0, ho1.below hb0⟩
      have hnext : l ++ uvar ws.length ++ encWs (ws.take (k + 1)) = L ++ encW x := by rw [hL, encWs_take ws k hlt, hx]; simp only [List.append_assoc]
      have HNX := Lib.hid hnext; clear hnext
      have hpc := pc1_any base g V L x w0 hs0 hv0 (Nat.le_trans hbs hwk0.size) hLl (by omega) (by omega)
      have HPC := Lib.hid hpc
      have x0 : w0.heap[wr.heap.size]? = some (.cells #[.string (bs x.key), .string (bs x.val), .bool x.gone] 66 (0, 0)) := by rw [hw0]; exact heap_alloc_new wr _
      have y0 := box_cells x0 0 (.string (bs x.key)) rfl
      have y1 := box_cells x0 1 (.string (bs x.val)) rfl
      have y2 := box_cells x0 2 (.bool x.gone) rfl
      have HX := Lib.hid hx
      clear hL hs0 hv0 hpc hwk0 hb0 hx hxo x0 hLl
      go_upto_region 4 with fail
      rw [← hw0]
      have HWE := Lib.hid hw0; clear hw0 hp0 hp1 hp2
      go_wp2_with fail
      refine HPC.out.mono ?_
      rintro e w2 ⟨rfl, hs2, hw2⟩
      rw [← HNX.out] at hs2
      have HS2 := Lib.hid hs2; clear hs2
      have HW2 := Lib.hid (HW0.out.trans hw2); clear hw2
      go_wp2_with fail
      go_roundw
      case rel => exact ⟨k + 1, by omega, by go_num, HS2.out, HW2.out⟩
      case measure => simp [intOf]; omega
    · have t1 : decide ((k : Int) < (ws.length : Int)) = false := by simp; omega
      have hkk : ws.take k = ws := List.take_of_length_le (by omega)
      have HKK := Lib.hid hkk; clear hkk
      go_wp2_with fail
      go_end0
      exact ⟨rfl, by have := HSK.out; rwa [HKK.out] at this, HWK.out⟩

theorem comOk_iff {t : Int} {ws : List Wri} (h : comOk t ws = true) : (0 ≤ t ∧ t < 1099511627776) ∧ ws.length ≤ 64 ∧ ∀ k (hk : k < ws.length), wOk ws[k] = true := by
  unfold comOk at h
  simp only [Bool.and_eq_true, decide_eq_true_eq] at h
  exact ⟨(isTm_iff t).1 h.1.1, h.1.2, fun k hk => wsOk_bounds h.2 k hk⟩

set_option maxRecDepth 100000 in
set_option maxHeartbeats 2000000 in
theorem putCom_any (t : Int) (v : Value) (ws : List Wri) (w : World) (hr : Rd3 w v (ws.map wV)) (hl : ws.length ≤ 1048576) (hkl : ∀ x ∈ ws, x.key.length ≤ 1048576 ∧ x.val.length ≤ 1048576) :
    Calls Try.prog 53 #[.agg #[.int .i64 t, v]] w (PutA w (comOk t ws) (encCom t.toNat ws)) := by
  obtain ⟨A, c, rfl, _, _, _⟩ := id hr
  rw [List.length_map] at hr ⊢
  obtain ⟨H, hH⟩ : ∃ H, H = w.heap.size := ⟨_, rfl⟩
  obtain ⟨w0, hw0⟩ : ∃ w0, w0 = w.alloc (.cells #[.int .i64 t, .slice A ws.length c] 64) := ⟨_, rfl⟩
  have hb0 : Below w.heap.size w w0 := by rw [hw0]; exact (Below.refl _ _).alloc (Nat.le_refl _) _
  have hx0 : w0.heap[H]? = some (.cells #[.int .i64 t, .slice A ws.length c] 64 (0, 0)) := by rw [hw0, hH]; exact heap_alloc_new w _
  have HB0 := Lib.hid hb0
  have HX0 := Lib.hid hx0
  have k1 := rightCom_any t _ ws w0 (hr.below hb0) hl hkl
  have HK1 := Lib.hid k1
  have HR := Lib.hid hr
  clear hr hkl hb0 hx0 k1
  go_enter Try.func53, Try.ntmps53
  go_wp2_with fail
  rw [← hw0, ← hH]
  have HH := Lib.hid hH
  clear hw0 hH
  refine HK1.out.mono ?_
  rintro e w1 ⟨rfl, hb1⟩
  have HX1 := Lib.hid (heap_below HX0.out hb1)
  have HB1 := Lib.hid (HB0.out.trans (hb1.mono HB0.out.size)); clear hb1
  cases hok : comOk t ws with
  | false =>
    go_wp2_with fail
    go_ret2
    exact ⟨HB1.out, .inl ⟨hok, rfl⟩⟩
  | true =>
    have HOKK := Lib.hid hok
    obtain ⟨⟨ht1, ht2⟩, hws, hwo⟩ := comOk_iff hok
    obtain ⟨n, rfl⟩ := Int.eq_ofNat_of_zero_le ht1
    have HWO := Lib.hid hwo; clear hwo hok
    have hn63 : n < 9223372036854775808 := by omega
    have hu1 := uvar_len10 (n := n) (by omega)
    have hst : WrSt ((w1.alloc (.cells #[.int .u8 67] 5)).alloc (.cells #[.slice (some ⟨w1.heap.size, 0, none⟩) 1 1] 106)) w.heap.size (w1.heap.size + 1) [67] := start_wr w1 w1.heap.size w.heap.size rfl 67 HB1.out.size
    obtain ⟨G, hG⟩ : ∃ G, G = w1.heap.size + 1 := ⟨_, rfl⟩
    rw [← hG] at hst
    obtain ⟨w2, hw2⟩ : ∃ w2, w2 = (w1.alloc (.cells #[.int .u8 67] 5)).alloc (.cells #[.slice (some ⟨w1.heap.size, 0, none⟩) 1 1] 106) := ⟨_, rfl⟩
    rw [← hw2] at hst
    have hb2 : Below w1.heap.size w1 w2 := by rw [hw2]; exact ((Below.refl _ _).alloc (Nat.le_refl _) _).alloc (by simp) _
    have hs2 : w2.heap.size = G + 1 := by rw [hw2, hG]; simp
    obtain ⟨w3, hw3⟩ : ∃ w3, w3 = w2.alloc (.cells #[.pointer (some ⟨G, 0, none⟩)] 104) := ⟨_, rfl⟩
    have hb3 : Below w2.heap.size w2 w3 := by rw [hw3]; exact (Below.refl _ _).alloc (Nat.le_refl _) _
    have hv3 : w3.heap[G + 1]? = some (.cells #[.pointer (some ⟨G, 0, none⟩)] 104 (0, 0)) := by rw [hw3, ← hs2]; exact heap_alloc_new w2 _
    have hst3 : WrSt w3 w.heap.size G [67] := by
      obtain ⟨v1, hg1, ho1⟩ := hst
      exact ⟨v1, heap_below hg1 hb3, ho1.below hb3⟩
    have HB3 := Lib.hid ((HB1.out.trans (hb2.mono HB1.out.size)).trans (hb3.mono (Nat.le_trans HB1.out.size hb2.size)))
    have HX3 := Lib.hid (heap_below (heap_below HX1.out hb2) hb3)
    have HV3 := Lib.hid hv3
    have HS3 := Lib.hid hst3
    have hwG : w.heap.size ≤ G := by have := HB1.out.size; omega
    have hHG : H ≠ G := by have := (Array.getElem?_eq_some_iff.1 HX1.out).1; omega
    go_upto_region 4 with fail
    have e1 : w1.heap.size + 1 + 1 = G + 1 := by omega
    rw [← hw2, e1, ← hG, ← hw3]
    have c0 := box_cells HX3.out 0 (.int .i64 n) rfl
    have cv := box_cells HV3.out 0 (.pointer (some ⟨G, 0, none⟩)) rfl
    clear hw2 hw3 hb2 hb3 hs2 hst hst3 hv3 e1 hG
    go_wp2_with fail
    refine (wnum_any w.heap.size G [67] n w3 HS3.out hn63 (by simp) HB3.out.size).mono ?_
    rintro e w4 ⟨rfl, hs4, hw4⟩
    obtain ⟨L, hL⟩ : ∃ L, L = [67] ++ uvar n := ⟨_, rfl⟩
    rw [← hL] at hs4
    have hLl : L.length ≤ 100 := by rw [hL]; simp; omega
    have HL := Lib.hid hL; clear hL
    have HS4 := Lib.hid hs4
    have hx4 := hw4.cell HX3.out (by decide) hHG
    have hv4 := hw4.cell HV3.out (by decide) (by omega)
    have HX4 := Lib.hid hx4
    have HV4 := Lib.hid hv4
    have HB4 := Lib.hid (HB3.out.trans (hw4.below hwG HB3.out.size))
    have c1 := box_cells hx4 1 (.slice A ws.length c) rfl
    have cv4 := box_cells hv4 0 (.pointer (some ⟨G, 0, none⟩)) rfl
    clear hs4 hw4 hx4 hv4
    go_wp2_with fail
    refine (putW_any w G (G + 1) L _ ws w4 HR.out HB4.out HS4.out hwG HV4.out hLl hws HWO.out).mono ?_
    rintro e w5 ⟨rfl, hs5, hw5⟩
    have hv5 := hw5.cell HV4.out (by decide) (by omega)
    have cv5 := box_cells hv5 0 (.pointer (some ⟨G, 0, none⟩)) rfl
    have HB5 := Lib.hid (HB4.out.trans (hw5.below hwG HB4.out.size))
    obtain ⟨vv, hcv, hov⟩ := hs5.open_
    have HOV := Lib.hid hov
    clear hs5 hw5 hv5 hov
    go_wp2_with fail
    go_ret2
    refine ⟨HB5.out, .inr ⟨HOKK.out, vv, rfl, ?_⟩⟩
    have := HOV.out
    rw [HL.out] at this
    simpa [encCom, List.append_assoc] using this
end Go.Proofs.Ytggjipfdfpdecaa
/- The walk of varvelaw06's shown: the document's examples. -/
set_option linter.unusedVariables false
namespace Go.Proofs.Ytggjipfdfpdecaa
open Go.RowKit
attribute [local go_sem] bs_list bs_size

/-- Four bytes of the program's text, laid as a slice. -/
theorem laid_rd (w : World) (l : List UInt8) (hl : l.length ≤ maxLen) : RdB (w.alloc (.cells (bvs l).toArray 5)) (.slice (some ⟨w.heap.size, 0, none⟩) l.length l.length) l := lit_rd' w l (0, 0) hl

set_option maxRecDepth 100000 in
set_option maxHeartbeats 2000000 in
theorem rshown_any (w : World) : Calls Try.prog 48 #[] w fun e w' => e = .returned (.bool true) ∧ Below w.heap.size w w' := by
  obtain ⟨wa, hwa⟩ : ∃ wa, wa = w.alloc (.cells #[.string ⟨#[97]⟩, .string ⟨#[120]⟩, .bool false, .string ⟨#[98]⟩, .string ⟨#[]⟩, .bool true] 66) := ⟨_, rfl⟩
  have hba : Below w.heap.size w wa := by rw [hwa]; exact (Below.refl _ _).alloc (Nat.le_refl _) _
  have hra : Rd3 wa (.slice (some ⟨w.heap.size, 0, none⟩) 2 2) (exW.map wV) := by
    rw [hwa]
    refine ⟨_, 2, rfl, by decide, by decide, fun _ => ⟨_, rfl, fun j hj => ?_⟩⟩
    have hh := heap_alloc_new w (.cells #[.string ⟨#[97]⟩, .string ⟨#[120]⟩, .bool false, .string ⟨#[98]⟩, .string ⟨#[]⟩, .bool true] 66)
    have hj2 : j < 2 := hj
    rw [addp]
    rcases j with _ | _ | j
    · exact ⟨box_cells hh 0 _ rfl, box_cells hh 1 _ rfl, box_cells hh 2 _ rfl⟩
    · exact ⟨box_cells hh 3 _ rfl, box_cells hh 4 _ rfl, box_cells hh 5 _ rfl⟩
    · omega
  have hput := putCom_any 300 _ exW wa hra (by decide) (by decide)
  rw [exW_ok, exW_enc] at hput
  have HPUT := Lib.hid hput
  have HBA := Lib.hid hba
  clear hput hba hra
  go_enter Try.func48, Try.ntmps48
  go_upto_region 2 with fail
  rw [← hwa]
  clear hwa
  refine HPUT.out.mono ?_
  rintro e w1 ⟨hb1, h1⟩
  obtain ⟨-, v1, rfl, ho1⟩ := h1.resolve_left (fun h => by cases h.1)
  have HB1 := Lib.hid (HBA.out.trans (hb1.mono HBA.out.size))
  have HO1 := Lib.hid ho1
  obtain ⟨g, cap, rfl, _, _, hcap, hcm⟩ := ho1.form (by decide)
  clear hb1 h1 ho1
  -- a commit cut off
  obtain ⟨wb, hwb⟩ : ∃ wb, wb = w1.alloc (.cells #[.int .u8 67, .int .u8 0, .int .u8 1, .int .u8 2] 5) := ⟨_, rfl⟩
  have hbb : Below w1.heap.size w1 wb := by rw [hwb]; exact (Below.refl _ _).alloc (Nat.le_refl _) _
  have hrb : RdB wb (.slice (some ⟨w1.heap.size, 0, none⟩) 4 4) [67, 0, 1, 2] := by rw [hwb]; exact laid_rd w1 [67, 0, 1, 2] (by decide)
  have hcom := rcom_any _ [67, 0, 1, 2] wb hrb (by decide)
  rw [exC_dec] at hcom
  have HCOM := Lib.hid hcom
  have HBB := Lib.hid hbb
  clear hcom hbb hrb
  go_upto_region 3 with fail
  rw [← hwb]
  clear hwb
  refine HCOM.out.mono ?_
  rintro e w2 ⟨v2, rfl, ho2, hb2⟩
  have HB2 := Lib.hid (HBB.out.trans (hb2.mono HBB.out.size))
  obtain ⟨A2, c2, rfl, _, _, _⟩ := id ho2.rd
  clear hb2 ho2
  simp only [List.map_nil, List.length_nil]
  -- a manifest
  obtain ⟨wc, hwc⟩ : ∃ wc, wc = w2.alloc (.cells #[.int .i64 0, .slice A2 0 c2] 64) := ⟨_, rfl⟩
  obtain ⟨wd, hwd⟩ : ∃ wd, wd = wc.alloc (.cells #[.int .u8 77, .int .u8 5, .int .u8 2, .int .u8 1, .int .u8 1, .int .u8 0, .int .u8 5] 5) := ⟨_, rfl⟩
  have hbc : Below w2.heap.size w2 wc := by rw [hwc]; exact (Below.refl _ _).alloc (Nat.le_refl _) _
  have hbd : Below wc.heap.size wc wd := by rw [hwd]; exact (Below.refl _ _).alloc (Nat.le_refl _) _
  have hrd : RdB wd (.slice (some ⟨wc.heap.size, 0, none⟩) 7 7) [77, 5, 2, 1, 1, 0, 5] := by rw [hwd]; exact laid_rd wc [77, 5, 2, 1, 1, 0, 5] (by decide)
  have hman := rman_any _ [77, 5, 2, 1, 1, 0, 5] wd hrd (by decide)
  rw [exM_dec] at hman
  have HMAN := Lib.hid hman
  have HBD := Lib.hid (HB2.out.trans ((hbc.trans (hbd.mono hbc.size)).mono HB2.out.size))
  clear hman hbc hbd hrd
  go_upto_region 3 with fail
  rw [← hwc]
  clear hwc
  go_upto_region 4 with fail
  rw [← hwd]
  clear hwd
  refine HMAN.out.mono ?_
  rintro e w3 ⟨v3, rfl, ho3, hb3⟩
  have HB3 := Lib.hid (HBD.out.trans (hb3.mono HBD.out.size))
  obtain ⟨A3, c3, rfl, _, _, _⟩ := id ho3.rd
  clear hb3 ho3
  simp only [List.map_cons, List.map_nil, List.length_cons, List.length_nil]
  -- a row without a key
  obtain ⟨we, hwe⟩ : ∃ we, we = w3.alloc (.cells #[.int .i64 5, .int .i64 2, .slice A3 1 c3] 74) := ⟨_, rfl⟩
  obtain ⟨M, hM⟩ : ∃ M, M = w3.heap.size := ⟨_, rfl⟩
  obtain ⟨wf, hwf⟩ : ∃ wf, wf = we.alloc (.cells #[.int .u8 82, .int .u8 0, .int .u8 0, .int .u8 0] 5) := ⟨_, rfl⟩
  have hbe : Below w3.heap.size w3 we := by rw [hwe]; exact (Below.refl _ _).alloc (Nat.le_refl _) _
  have hbf : Below we.heap.size we wf := by rw [hwf]; exact (Below.refl _ _).alloc (Nat.le_refl _) _
  have hm : we.heap[M]? = some (.cells #[.int .i64 5, .int .i64 2, .slice A3 1 c3] 74 (0, 0)) := by rw [hwe, hM]; exact heap_alloc_new w3 _
  have hrf : RdB wf (.slice (some ⟨we.heap.size, 0, none⟩) 4 4) [82, 0, 0, 0] := by rw [hwf]; exact laid_rd we [82, 0, 0, 0] (by decide)
  have hrow := rrow_any _ [82, 0, 0, 0] wf hrf (by decide)
  rw [exR_dec] at hrow
  have HROW := Lib.hid hrow
  have HBF := Lib.hid (HB3.out.trans ((hbe.trans (hbf.mono hbe.size)).mono HB3.out.size))
  have HM := Lib.hid (heap_below hm hbf)
  clear hrow hbe hbf hrf hm
  go_upto_region 4 with fail
  rw [← hwe, ← hM]
  clear hwe hM
  go_upto_region 5 with fail
  rw [← hwf]
  clear hwf
  refine HROW.out.mono ?_
  rintro e w4 ⟨rfl, hb4⟩
  unfold rowA
  simp only
  obtain ⟨wg, hwg⟩ : ∃ wg, wg = w4.alloc (.cells #[.string (bs []), .string (bs []), .int .i64 0] 81) := ⟨_, rfl⟩
  have hbg : Below w4.heap.size w4 wg := by rw [hwg]; exact (Below.refl _ _).alloc (Nat.le_refl _) _
  have HMG := Lib.hid (heap_below (heap_below HM.out hb4) hbg)
  have HBG := Lib.hid (HBF.out.trans ((hb4.trans (hbg.mono hb4.size)).mono HBF.out.size))
  have hog := HO1.out.below HBG.out
  have g0 : wg.cell? ⟨g, 0, none⟩ = some (.int .u8 67) := (hog.at_ 0 (by decide)).1
  have g11 : wg.cell? ⟨g, 11, none⟩ = some (.int .u8 98) := (hog.at_ 11 (by decide)).1
  have m1 := box_cells HMG.out 1 (.int .i64 2) rfl
  have m2 := box_cells HMG.out 2 (.slice A3 1 c3) rfl
  have hcap2 : 12 ≤ cap := hcap
  clear hbg hb4 hog hcap
  go_upto_region 5 with fail
  rw [← hwg]
  clear hwg
  go_wp2_with fail
  go_ret
  exact ⟨rfl, HB1.out.trans (HBG.out.mono HB1.out.size)⟩
end Go.Proofs.Ytggjipfdfpdecaa
/- The walk of the law RecordTexts: the program and the document agree on which texts may be keys and values. -/
set_option linter.unusedVariables false
namespace Go.Proofs.Ytggjipfdfpdecaa
open Go.RowKit
attribute [local go_sem] bs_list bs_size

theorem bs_back (a : ByteArray) : a = bs a.data.toList := by cases a; simp [bs]

set_option maxRecDepth 100000 in
set_option maxHeartbeats 2000000 in
theorem recordTexts_list (l : List UInt8) (w : World) (hl : l.length ≤ 140737488355328) :
    Calls Try.prog 16 #[.string (bs l)] w fun e w' => e = .returned (.bool true) ∧ Below w.heap.size w w' := by
  go_enter Try.func16, Try.ntmps16
  go_wp2_with fail
  refine (rshown_any w).mono ?_
  rintro e w1 ⟨rfl, hb1⟩
  have HB := Lib.hid hb1; clear hb1
  go_wp2_with fail
  refine (isKey_any l w1 hl).mono ?_
  rintro e w2 ⟨rfl, rfl⟩
  go_wp2_with fail
  refine (refIsKey_any l w1 hl).mono ?_
  rintro e w2 ⟨rfl, rfl⟩
  have e1 : (isKey l == isKey l) = true := by simp
  go_wp2_with fail
  refine (isVal_any l w1).mono ?_
  rintro e w2 ⟨rfl, rfl⟩
  go_wp2_with fail
  refine (refIsVal_any l w1).mono ?_
  rintro e w2 ⟨rfl, rfl⟩
  have e2 : (isVal l == isVal l) = true := by simp
  go_wp2_with fail
  go_ret
  exact ⟨ret_bool (by simp), HB.out⟩
theorem recordTexts_any (a : ByteArray) (w : World) (h : a.size ≤ 140737488351232) :
    Calls Try.prog 16 #[.string a] w fun e w' => e = .returned (.bool true) ∧ Below w.heap.size w w' := by
  rw [bs_back a]
  refine recordTexts_list _ w ?_
  rw [Array.length_toList]
  have : a.size = a.data.size := rfl
  omega
end Go.Proofs.Ytggjipfdfpdecaa
/- The walk of the law RecordRows: the program and the document write rows, and what is gone, alike. -/
set_option linter.unusedVariables false
namespace Go.Proofs.Ytggjipfdfpdecaa
open Go.RowKit
attribute [local go_sem] bs_list bs_size

/-- What a writer has answered: bytes, a code. -/
theorem PutA.known {w w' : World} {ok : Bool} {l : List UInt8} {e : Ending} (h : PutA w ok l e w') : Below w.heap.size w w' ∧ ∃ v, e = .returned (.tuple #[v, .int .i64 (if ok = true then 0 else 60)]) ∧ RdB w' v (if ok = true then l else []) := by
  obtain ⟨hb, h⟩ := h
  refine ⟨hb, ?_⟩
  rcases h with ⟨rfl, rfl⟩ | ⟨rfl, v, rfl, ho⟩
  · exact ⟨_, rfl, RdB.nil _⟩
  · exact ⟨v, rfl, ho.rd⟩

set_option maxRecDepth 100000 in
set_option maxHeartbeats 4000000 in
theorem recordRows_list (k v : List UInt8) (t : Int) (w : World) (hk : k.length ≤ 140737488355328) :
    Calls Try.prog 20 #[.agg #[.string (bs k), .string (bs v), .int .i64 t]] w fun e w' => e = .returned (.bool true) ∧ Below w.heap.size w w' := by
  obtain ⟨H, hH⟩ : ∃ H, H = w.heap.size := ⟨_, rfl⟩
  obtain ⟨w0, hw0⟩ : ∃ w0, w0 = w.alloc (.cells #[.string (bs k), .string (bs v), .int .i64 t] 81) := ⟨_, rfl⟩
  have hb0 : Below w.heap.size w w0 := by rw [hw0]; exact (Below.refl _ _).alloc (Nat.le_refl _) _
  have hx0 : w0.heap[H]? = some (.cells #[.string (bs k), .string (bs v), .int .i64 t] 81 (0, 0)) := by rw [hw0, hH]; exact heap_alloc_new w _
  have HB0 := Lib.hid hb0; clear hb0
  have HX0 := Lib.hid hx0; clear hx0
  go_enter Try.func20, Try.ntmps20
  go_upto_region 1 with fail
  rw [← hw0, ← hH]
  have HH := Lib.hid hH; clear hw0 hH
  go_wp2_with fail
  refine (rshown_any w0).mono ?_
  rintro e w1 ⟨rfl, hb1⟩
  have HX1 := Lib.hid (heap_below HX0.out hb1)
  have HB1 := Lib.hid (HB0.out.trans (hb1.mono HB0.out.size)); clear hb1
  have x0 := box_cells HX1.out 0 (.string (bs k)) rfl
  have x1 := box_cells HX1.out 1 (.string (bs v)) rfl
  have x2 := box_cells HX1.out 2 (.int .i64 t) rfl
  obtain ⟨L, hL⟩ : ∃ L, L = (if (isKey k && isVal v && isTm t) = true then encRow k v t.toNat else []) := ⟨_, rfl⟩
  obtain ⟨M, hM⟩ : ∃ M, M = (if (isKey k && isTm t) = true then encGone k t.toNat else []) := ⟨_, rfl⟩
  obtain ⟨C, hC⟩ : ∃ C : Int, C = (if (isKey k && isVal v && isTm t) = true then 0 else 60) := ⟨_, rfl⟩
  obtain ⟨D, hD⟩ : ∃ D : Int, D = (if (isKey k && isTm t) = true then 0 else 60) := ⟨_, rfl⟩
  have HL := Lib.hid hL; have HM := Lib.hid hM; have HC := Lib.hid hC; have HD := Lib.hid hD
  clear hL hM hC hD
  go_wp2_with fail
  refine (putRow_any k v t w1 hk).mono ?_
  intro e w2 h2
  obtain ⟨hb2, v2, rfl, hr2⟩ := h2.known
  rw [← HL.out] at hr2
  rw [← HC.out]
  have HX2 := Lib.hid (heap_below HX1.out hb2)
  have HB2 := Lib.hid (HB1.out.trans (hb2.mono HB1.out.size))
  have HR2 := Lib.hid hr2
  clear h2 hb2 hr2 x0 x1 x2
  have x0 := box_cells HX2.out 0 (.string (bs k)) rfl
  have x1 := box_cells HX2.out 1 (.string (bs v)) rfl
  have x2 := box_cells HX2.out 2 (.int .i64 t) rfl
  go_wp2_with fail
  refine (refPutRow_any k v t w2 hk).mono ?_
  intro e w3 h3
  obtain ⟨hb3, v3, rfl, hr3⟩ := h3.known
  rw [← HL.out] at hr3
  rw [← HC.out]
  have HX3 := Lib.hid (heap_below HX2.out hb3)
  have HB3 := Lib.hid (HB2.out.trans (hb3.mono HB2.out.size))
  have HR3 := Lib.hid hr3
  have HR23 := Lib.hid (HR2.out.below hb3)
  clear h3 hb3 hr3 x0 x1 x2
  have x0 := box_cells HX3.out 0 (.string (bs k)) rfl
  have x1 := box_cells HX3.out 1 (.string (bs v)) rfl
  have x2 := box_cells HX3.out 2 (.int .i64 t) rfl
  obtain ⟨w4, hw4⟩ : ∃ w4, w4 = w3.alloc (.cells #[.string (bs k), .int .i64 t] 85) := ⟨_, rfl⟩
  obtain ⟨X, hX⟩ : ∃ X, X = w3.heap.size := ⟨_, rfl⟩
  have hb4 : Below w3.heap.size w3 w4 := by rw [hw4]; exact (Below.refl _ _).alloc (Nat.le_refl _) _
  have HY4 := Lib.hid (show w4.heap[X]? = some (.cells #[.string (bs k), .int .i64 t] 85 (0, 0)) from by rw [hw4, hX]; exact heap_alloc_new w3 _)
  have HB4 := Lib.hid (HB3.out.trans (hb4.mono HB3.out.size))
  have HR24 := Lib.hid (HR23.out.below hb4)
  have HR34 := Lib.hid (HR3.out.below hb4)
  clear hb4
  go_upto_region 5 with fail
  rw [← hw4, ← hX]
  clear hw4 hX x0 x1 x2
  have y0 := box_cells HY4.out 0 (.string (bs k)) rfl
  have y1 := box_cells HY4.out 1 (.int .i64 t) rfl
  go_wp2_with fail
  refine (putGone_any k t w4 hk).mono ?_
  intro e w5 h5
  obtain ⟨hb5, v5, rfl, hr5⟩ := h5.known
  rw [← HM.out] at hr5
  rw [← HD.out]
  have HY5 := Lib.hid (heap_below HY4.out hb5)
  have HB5 := Lib.hid (HB4.out.trans (hb5.mono HB4.out.size))
  have HR25 := Lib.hid (HR24.out.below hb5)
  have HR35 := Lib.hid (HR34.out.below hb5)
  have HR5 := Lib.hid hr5
  clear h5 hb5 hr5 y0 y1
  have y0 := box_cells HY5.out 0 (.string (bs k)) rfl
  have y1 := box_cells HY5.out 1 (.int .i64 t) rfl
  go_wp2_with fail
  refine (refPutGone_any k t w5 hk).mono ?_
  intro e w6 h6
  obtain ⟨hb6, v6, rfl, hr6⟩ := h6.known
  rw [← HM.out] at hr6
  rw [← HD.out]
  have HB6 := Lib.hid (HB5.out.trans (hb6.mono HB5.out.size))
  have q2 := conv_rd (HR25.out.below hb6)
  have q3 := conv_rd (HR35.out.below hb6)
  have q5 := conv_rd (HR5.out.below hb6)
  have q6 := conv_rd hr6
  clear h6 hb6 hr6 y0 y1
  go_wp2_with fail
  go_ret
  exact ⟨ret_bool (by simp), HB6.out⟩
theorem recordRows_any (k v : ByteArray) (t : Int) (w : World) (h : k.size ≤ 1048576) :
    Calls Try.prog 20 #[.agg #[.string k, .string v, .int .i64 t]] w fun e w' => e = .returned (.bool true) ∧ Below w.heap.size w w' := by
  rw [bs_back k, bs_back v]
  refine recordRows_list _ _ t w ?_
  rw [Array.length_toList]
  have : k.size = k.data.size := rfl
  omega
end Go.Proofs.Ytggjipfdfpdecaa
