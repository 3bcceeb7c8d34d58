/- The walks of record's put and PutCommit. -/
import Derived.Test.YtggjipfdfpdecaaRcK
set_option linter.unusedVariables false
namespace Go.Proofs.Ytggjipfdfpdecaa
open Go.RowKit
attribute [local go_sem] bs_list bs_size

set_option maxRecDepth 100000 in
set_option maxHeartbeats 2000000 in
theorem putW_any (w00 : World) (g V : Nat) (l : List UInt8) (v : Value) (ws : List Wri) (w : World) (hr : Rd3 w00 v (ws.map wV)) (hb0 : Below w00.heap.size w00 w) (hs : WrSt w w00.heap.size g l) (hg : w00.heap.size ≤ g)
    (hv : w.heap[V]? = some (.cells #[.pointer (some ⟨g, 0, none⟩)] 104 (0, 0))) (hl : l.length ≤ 100) (hn : ws.length ≤ 64) (hok : ∀ k (hk : k < ws.length), wOk ws[k] = true) :
    Calls Try.prog 84 #[.pointer (some ⟨g, 0, none⟩), v, .func (.func 85) #[] #[.pointer (some ⟨V, 0, none⟩)]] w fun e w' => e = .returned (.tuple #[]) ∧ WrSt w' w00.heap.size g (l ++ uvar ws.length ++ encWs ws) ∧ Wr w00.heap.size g w w' := by
  obtain ⟨A, c, rfl, _, _, _⟩ := id hr
  rw [List.length_map] at hr ⊢
  have hVg : V ≠ g := by
    obtain ⟨v1, hg1, _⟩ := hs
    rintro rfl
    rw [hg1] at hv
    injection hv with hv
    injection hv with _ h _
    exact absurd h (by decide)
  obtain ⟨base, hbase⟩ : ∃ b, b = w00.heap.size := ⟨_, rfl⟩
  have HRD := Lib.hid (fun (w' : World) (h : Below w00.heap.size w00 w') => hr.below h)
  rw [← hbase] at hs hg ⊢
  have hbs : base ≤ w.heap.size := by rw [hbase]; exact hb0.size
  have HBE := Lib.hid hbase; clear hbase
  have HB0 := Lib.hid hb0; clear hb0
  have HV := Lib.hid hv; clear hv
  have HS := Lib.hid hs; clear hs
  have HOK := Lib.hid hok; clear hok
  have hu := uvar_len10 (n := ws.length) (by omega)
  go_enter Try.func84, Try.ntmps84
  go_wp2_with fail
  refine (wnum_any base g l ws.length w HS.out (by omega) (by omega) hbs).mono ?_
  rintro e w1 ⟨rfl, hs1, hw1⟩
  have HS1 := Lib.hid hs1; clear hs1
  have HW1 := Lib.hid hw1; clear hw1
  go_wp2_with fail
  go_loopw [14] (fun v14 wr => ∃ k : Nat, k ≤ ws.length ∧ v14 = .int .i64 (k : Int) ∧ WrSt wr base g (l ++ uvar ws.length ++ encWs (ws.take k)) ∧ Wr base g w wr) (fun v14 _ => ws.length - (intOf v14).toNat)
  case atStart => exact ⟨0, by omega, rfl, by simpa [encWs] using HS1.out, HW1.out⟩
  case round =>
    obtain ⟨k, hk, rfl, hs, hw⟩ := hrel
    have HSK := Lib.hid hs; clear hs
    have HWK := Lib.hid hw; clear hw
    by_cases hlt : k < ws.length
    · have hbel : Below w00.heap.size w00 wr := by
        have h1 := HWK.out.below hg hbs
        rw [HBE.out] at h1
        exact HB0.out.trans h1
      obtain ⟨ad, c', he, _, _, hp0, hp1, hp2⟩ := (HRD.out wr hbel).elem (j := k) (by rw [List.length_map]; exact hlt)
      rw [List.length_map] at he
      injection he with e1 e2 e3
      subst e1
      rw [List.getElem_map] at hp0 hp1 hp2
      obtain ⟨x, hx⟩ : ∃ x, x = ws[k] := ⟨_, rfl⟩
      rw [← hx] at hp0 hp1 hp2
      simp only [wV] at hp0 hp1 hp2
      clear e2 e3 hbel
      have hxo := HOK.out k hlt
      rw [← hx] at hxo
      obtain ⟨hx1, hx2, _, _⟩ := wOk_bounds hxo
      have t1 : decide ((k : Int) < (ws.length : Int)) = true := by simp; omega
      obtain ⟨w0, hw0⟩ : ∃ w0, w0 = wr.alloc (.cells #[.string (bs x.key), .string (bs x.val), .bool x.gone] 66) := ⟨_, rfl⟩
      have hb0 : Below wr.heap.size wr w0 := by rw [hw0]; exact (Below.refl _ _).alloc (Nat.le_refl _) _
      have hwk0 : Wr base g w w0 := HWK.out.trans (Wr.of_below hb0)
      have HW0 := Lib.hid hwk0
      have hv0 := hwk0.cell HV.out (by decide) hVg
      obtain ⟨L, hL⟩ : ∃ L, L = l ++ uvar ws.length ++ encWs (ws.take k) := ⟨_, rfl⟩
      have hLl : L.length ≤ 1048576 := by
        have := encWs_le (ws := ws.take k) (fun j hj => by rw [List.getElem_take]; exact HOK.out j (by rw [List.length_take] at hj; omega))
        rw [hL]
        simp only [List.length_append]
        rw [List.length_take] at this
        omega
      have hs0 : WrSt w0 base g L := by
        obtain ⟨v1, hg1, ho1⟩ := HSK.out
        rw [hL]
        exact ⟨v1, heap_below hg1 hb0, ho1.below hb0⟩
      have hnext : l ++ uvar ws.length ++ encWs (ws.take (k + 1)) = L ++ encW x := by rw [hL, encWs_take ws k hlt, hx]; simp only [List.append_assoc]
      have HNX := Lib.hid hnext; clear hnext
      have hpc := pc1_any base g V L x w0 hs0 hv0 (Nat.le_trans hbs hwk0.size) hLl (by omega) (by omega)
      have HPC := Lib.hid hpc
      have x0 : w0.heap[wr.heap.size]? = some (.cells #[.string (bs x.key), .string (bs x.val), .bool x.gone] 66 (0, 0)) := by rw [hw0]; exact heap_alloc_new wr _
      have y0 := box_cells x0 0 (.string (bs x.key)) rfl
      have y1 := box_cells x0 1 (.string (bs x.val)) rfl
      have y2 := box_cells x0 2 (.bool x.gone) rfl
      have HX := Lib.hid hx
      clear hL hs0 hv0 hpc hwk0 hb0 hx hxo x0 hLl
      go_upto_region 4 with fail
      rw [← hw0]
      have HWE := Lib.hid hw0; clear hw0 hp0 hp1 hp2
      go_wp2_with fail
      refine HPC.out.mono ?_
      rintro e w2 ⟨rfl, hs2, hw2⟩
      rw [← HNX.out] at hs2
      have HS2 := Lib.hid hs2; clear hs2
      have HW2 := Lib.hid (HW0.out.trans hw2); clear hw2
      go_wp2_with fail
      go_roundw
      case rel => exact ⟨k + 1, by omega, by go_num, HS2.out, HW2.out⟩
      case measure => simp [intOf]; omega
    · have t1 : decide ((k : Int) < (ws.length : Int)) = false := by simp; omega
      have hkk : ws.take k = ws := List.take_of_length_le (by omega)
      have HKK := Lib.hid hkk; clear hkk
      go_wp2_with fail
      go_end0
      exact ⟨rfl, by have := HSK.out; rwa [HKK.out] at this, HWK.out⟩

theorem comOk_iff {t : Int} {ws : List Wri} (h : comOk t ws = true) : (0 ≤ t ∧ t < 1099511627776) ∧ ws.length ≤ 64 ∧ ∀ k (hk : k < ws.length), wOk ws[k] = true := by
  unfold comOk at h
  simp only [Bool.and_eq_true, decide_eq_true_eq] at h
  exact ⟨(isTm_iff t).1 h.1.1, h.1.2, fun k hk => wsOk_bounds h.2 k hk⟩

set_option maxRecDepth 100000 in
set_option maxHeartbeats 2000000 in
theorem putCom_any (t : Int) (v : Value) (ws : List Wri) (w : World) (hr : Rd3 w v (ws.map wV)) (hl : ws.length ≤ 1048576) (hkl : ∀ x ∈ ws, x.key.length ≤ 1048576 ∧ x.val.length ≤ 1048576) :
    Calls Try.prog 53 #[.agg #[.int .i64 t, v]] w (PutA w (comOk t ws) (encCom t.toNat ws)) := by
  obtain ⟨A, c, rfl, _, _, _⟩ := id hr
  rw [List.length_map] at hr ⊢
  obtain ⟨H, hH⟩ : ∃ H, H = w.heap.size := ⟨_, rfl⟩
  obtain ⟨w0, hw0⟩ : ∃ w0, w0 = w.alloc (.cells #[.int .i64 t, .slice A ws.length c] 64) := ⟨_, rfl⟩
  have hb0 : Below w.heap.size w w0 := by rw [hw0]; exact (Below.refl _ _).alloc (Nat.le_refl _) _
  have hx0 : w0.heap[H]? = some (.cells #[.int .i64 t, .slice A ws.length c] 64 (0, 0)) := by rw [hw0, hH]; exact heap_alloc_new w _
  have HB0 := Lib.hid hb0
  have HX0 := Lib.hid hx0
  have k1 := rightCom_any t _ ws w0 (hr.below hb0) hl hkl
  have HK1 := Lib.hid k1
  have HR := Lib.hid hr
  clear hr hkl hb0 hx0 k1
  go_enter Try.func53, Try.ntmps53
  go_wp2_with fail
  rw [← hw0, ← hH]
  have HH := Lib.hid hH
  clear hw0 hH
  refine HK1.out.mono ?_
  rintro e w1 ⟨rfl, hb1⟩
  have HX1 := Lib.hid (heap_below HX0.out hb1)
  have HB1 := Lib.hid (HB0.out.trans (hb1.mono HB0.out.size)); clear hb1
  cases hok : comOk t ws with
  | false =>
    go_wp2_with fail
    go_ret2
    exact ⟨HB1.out, .inl ⟨hok, rfl⟩⟩
  | true =>
    have HOKK := Lib.hid hok
    obtain ⟨⟨ht1, ht2⟩, hws, hwo⟩ := comOk_iff hok
    obtain ⟨n, rfl⟩ := Int.eq_ofNat_of_zero_le ht1
    have HWO := Lib.hid hwo; clear hwo hok
    have hn63 : n < 9223372036854775808 := by omega
    have hu1 := uvar_len10 (n := n) (by omega)
    have hst : WrSt ((w1.alloc (.cells #[.int .u8 67] 5)).alloc (.cells #[.slice (some ⟨w1.heap.size, 0, none⟩) 1 1] 106)) w.heap.size (w1.heap.size + 1) [67] := start_wr w1 w1.heap.size w.heap.size rfl 67 HB1.out.size
    obtain ⟨G, hG⟩ : ∃ G, G = w1.heap.size + 1 := ⟨_, rfl⟩
    rw [← hG] at hst
    obtain ⟨w2, hw2⟩ : ∃ w2, w2 = (w1.alloc (.cells #[.int .u8 67] 5)).alloc (.cells #[.slice (some ⟨w1.heap.size, 0, none⟩) 1 1] 106) := ⟨_, rfl⟩
    rw [← hw2] at hst
    have hb2 : Below w1.heap.size w1 w2 := by rw [hw2]; exact ((Below.refl _ _).alloc (Nat.le_refl _) _).alloc (by simp) _
    have hs2 : w2.heap.size = G + 1 := by rw [hw2, hG]; simp
    obtain ⟨w3, hw3⟩ : ∃ w3, w3 = w2.alloc (.cells #[.pointer (some ⟨G, 0, none⟩)] 104) := ⟨_, rfl⟩
    have hb3 : Below w2.heap.size w2 w3 := by rw [hw3]; exact (Below.refl _ _).alloc (Nat.le_refl _) _
    have hv3 : w3.heap[G + 1]? = some (.cells #[.pointer (some ⟨G, 0, none⟩)] 104 (0, 0)) := by rw [hw3, ← hs2]; exact heap_alloc_new w2 _
    have hst3 : WrSt w3 w.heap.size G [67] := by
      obtain ⟨v1, hg1, ho1⟩ := hst
      exact ⟨v1, heap_below hg1 hb3, ho1.below hb3⟩
    have HB3 := Lib.hid ((HB1.out.trans (hb2.mono HB1.out.size)).trans (hb3.mono (Nat.le_trans HB1.out.size hb2.size)))
    have HX3 := Lib.hid (heap_below (heap_below HX1.out hb2) hb3)
    have HV3 := Lib.hid hv3
    have HS3 := Lib.hid hst3
    have hwG : w.heap.size ≤ G := by have := HB1.out.size; omega
    have hHG : H ≠ G := by have := (Array.getElem?_eq_some_iff.1 HX1.out).1; omega
    go_upto_region 4 with fail
    have e1 : w1.heap.size + 1 + 1 = G + 1 := by omega
    rw [← hw2, e1, ← hG, ← hw3]
    have c0 := box_cells HX3.out 0 (.int .i64 n) rfl
    have cv := box_cells HV3.out 0 (.pointer (some ⟨G, 0, none⟩)) rfl
    clear hw2 hw3 hb2 hb3 hs2 hst hst3 hv3 e1 hG
    go_wp2_with fail
    refine (wnum_any w.heap.size G [67] n w3 HS3.out hn63 (by simp) HB3.out.size).mono ?_
    rintro e w4 ⟨rfl, hs4, hw4⟩
    obtain ⟨L, hL⟩ : ∃ L, L = [67] ++ uvar n := ⟨_, rfl⟩
    rw [← hL] at hs4
    have hLl : L.length ≤ 100 := by rw [hL]; simp; omega
    have HL := Lib.hid hL; clear hL
    have HS4 := Lib.hid hs4
    have hx4 := hw4.cell HX3.out (by decide) hHG
    have hv4 := hw4.cell HV3.out (by decide) (by omega)
    have HX4 := Lib.hid hx4
    have HV4 := Lib.hid hv4
    have HB4 := Lib.hid (HB3.out.trans (hw4.below hwG HB3.out.size))
    have c1 := box_cells hx4 1 (.slice A ws.length c) rfl
    have cv4 := box_cells hv4 0 (.pointer (some ⟨G, 0, none⟩)) rfl
    clear hs4 hw4 hx4 hv4
    go_wp2_with fail
    refine (putW_any w G (G + 1) L _ ws w4 HR.out HB4.out HS4.out hwG HV4.out hLl hws HWO.out).mono ?_
    rintro e w5 ⟨rfl, hs5, hw5⟩
    have hv5 := hw5.cell HV4.out (by decide) (by omega)
    have cv5 := box_cells hv5 0 (.pointer (some ⟨G, 0, none⟩)) rfl
    have HB5 := Lib.hid (HB4.out.trans (hw5.below hwG HB4.out.size))
    obtain ⟨vv, hcv, hov⟩ := hs5.open_
    have HOV := Lib.hid hov
    clear hs5 hw5 hv5 hov
    go_wp2_with fail
    go_ret2
    refine ⟨HB5.out, .inr ⟨HOKK.out, vv, rfl, ?_⟩⟩
    have := HOV.out
    rw [HL.out] at this
    simpa [encCom, List.append_assoc] using this
end Go.Proofs.Ytggjipfdfpdecaa
