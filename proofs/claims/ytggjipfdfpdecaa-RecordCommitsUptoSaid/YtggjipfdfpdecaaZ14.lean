/- Texts merged: RcPd, RcMi, RcAp, RcAq, RcSm. Each says below what it proves. -/
import Derived.Test.YtggjipfdfpdecaaZ11
import Derived.Deep.CutBlock
import Derived.Test.YtggjipfdfpdecaaZ13
import Derived.Test.YtggjipfdfpdecaaZ12
import Derived.Test.YtggjipfdfpdecaaZ08
import Derived.Deep.AppendLies
/- The walk of the document's PutCommit. -/
set_option linter.unusedVariables false
namespace Go.Proofs.Ytggjipfdfpdecaa
open Go.RowKit
attribute [local go_sem] bs_list bs_size

set_option maxRecDepth 100000 in
set_option maxHeartbeats 4000000 in
theorem putComF_any (t : Int) (v : Value) (ws : List Wri) (w : World) (hr : Rd3 w v (ws.map wV)) (hl : ws.length ≤ 1048576) (hkl : ∀ x ∈ ws, x.key.length ≤ 1048576 ∧ x.val.length ≤ 1048576) :
    Calls Try.prog 54 #[.agg #[.int .i64 t, v]] w (PutA w (comOk t ws) (encCom t.toNat ws)) := by
  obtain ⟨A, c, rfl, _, _, _⟩ := id hr
  rw [List.length_map] at hr ⊢
  obtain ⟨H, hH⟩ : ∃ H, H = w.heap.size := ⟨_, rfl⟩
  obtain ⟨w0, hw0⟩ : ∃ w0, w0 = w.alloc (.cells #[.int .i64 t, .slice A ws.length c] 64) := ⟨_, rfl⟩
  have hb0 : Below w.heap.size w w0 := by rw [hw0]; exact (Below.refl _ _).alloc (Nat.le_refl _) _
  have hx0 : w0.heap[H]? = some (.cells #[.int .i64 t, .slice A ws.length c] 64 (0, 0)) := by rw [hw0, hH]; exact heap_alloc_new w _
  have HB0 := Lib.hid hb0
  have HX0 := Lib.hid hx0
  have k1 := rightComF_any t _ ws w0 (hr.below hb0) hl hkl
  have HK1 := Lib.hid k1
  have HR := Lib.hid hr
  have c0 := box_cells hx0 0 (.int .i64 t) rfl
  have c1 := box_cells hx0 1 (.slice A ws.length c) rfl
  clear hr hkl hb0 hx0 k1
  go_enter Try.func54, Try.ntmps54
  go_wp2_with fail
  rw [← hw0, ← hH]
  have HH := Lib.hid hH
  clear hw0 hH
  refine HK1.out.mono ?_
  rintro e w1 ⟨rfl, hb1⟩
  have HX1 := Lib.hid (heap_below HX0.out hb1)
  have HB1 := Lib.hid (HB0.out.trans (hb1.mono HB0.out.size)); clear hb1 c0 c1
  cases hok : comOk t ws with
  | false =>
    go_wp2_with fail
    go_ret2
    exact ⟨HB1.out, .inl ⟨hok, rfl⟩⟩
  | true =>
    have HOKK := Lib.hid hok
    obtain ⟨⟨ht1, ht2⟩, hws, hwo⟩ := comOk_iff hok
    obtain ⟨n, rfl⟩ := Int.eq_ofNat_of_zero_le ht1
    have hn63 : n < 9223372036854775808 := by omega
    have HWO := Lib.hid hwo; clear hwo hok
    have hu1 := uvar_len10 (n := n) (by omega)
    have hu2 := uvar_len10 (n := ws.length) (by omega)
    have hbl : Below w1.heap.size w1 (w1.alloc (.cells #[.int .u8 67] 5)) := (Below.refl _ _).alloc (Nat.le_refl _) _
    have HX2 := Lib.hid (heap_below HX1.out hbl)
    have HB2 := Lib.hid (HB1.out.trans (hbl.mono HB1.out.size))
    have HL := Lib.hid (Own.rd (lit_own w1 67)); clear hbl
    have d0 := box_cells HX2.out 0 (.int .i64 n) rfl
    go_wp2_with fail
    refine (fput_num _ [67] n _ HL.out hn63 (by simp)).mono ?_
    rintro e w2 ⟨v2, rfl, ho, hb⟩
    obtain ⟨L2, hL2⟩ : ∃ L, L = [67] ++ uvar n := ⟨_, rfl⟩
    rw [← hL2] at ho
    have hl2 : L2.length ≤ 100 := by rw [hL2]; simp; omega
    have HL2 := Lib.hid hL2; clear hL2
    have HO2 := Lib.hid ho.rd
    have HX3 := Lib.hid (heap_below HX2.out hb)
    have HB3 := Lib.hid (HB2.out.trans (hb.mono HB2.out.size)); clear ho hb d0
    have d1 := box_cells HX3.out 1 (.slice A ws.length c) rfl
    obtain ⟨A2, c2, rfl, _, _, _⟩ := id HO2.out
    go_wp2_with fail
    refine (fput_num _ L2 ws.length _ HO2.out (by omega) (by omega)).mono ?_
    rintro e w3 ⟨v3, rfl, ho, hb⟩
    obtain ⟨L3, hL3⟩ : ∃ L, L = L2 ++ uvar ws.length := ⟨_, rfl⟩
    rw [← hL3] at ho
    have hl3 : L3.length ≤ 200 := by rw [hL3]; simp; omega
    have HL3 := Lib.hid hL3; clear hL3
    have HO3 := Lib.hid (Own.base ho HB3.out.size)
    have HX4 := Lib.hid (heap_below HX3.out hb)
    have HB4 := Lib.hid (HB3.out.trans (hb.mono HB3.out.size)); clear ho hb d1
    obtain ⟨base, hbase⟩ : ∃ b, b = w.heap.size := ⟨_, rfl⟩
    rw [← hbase] at HO3
    have HBE := Lib.hid hbase
    go_wp2_with fail
    go_loopw [5, 6] (fun v5 v6 wr => ∃ (k : Nat), k ≤ ws.length ∧ v6 = .int .i64 (k : Int) ∧ Own wr base v5 (L3 ++ encWs (ws.take k)) ∧ Below base w wr ∧ wr.heap[H]? = some (.cells #[.int .i64 (n : Int), .slice A ws.length c] 64 (0, 0)) ∧ base ≤ wr.heap.size) (fun _ v6 _ => ws.length - (intOf v6).toNat)
    case atStart => exact ⟨0, by omega, rfl, by simpa [encWs] using HO3.out, by rw [hbase]; exact HB4.out, HX4.out, by rw [hbase]; exact HB4.out.size⟩
    case round =>
      obtain ⟨k, hk, rfl, ho, hb, hx, hsz⟩ := hrel
      have HO := Lib.hid ho; clear ho
      have HB := Lib.hid hb; clear hb
      have HX := Lib.hid hx
      have c1 := box_cells hx 1 (.slice A ws.length c) rfl
      clear hx
      by_cases hlt : k < ws.length
      · obtain ⟨ad, c', he, _, _, hp0, hp1, hp2⟩ := (HR.out.below (by have := HB.out; rwa [HBE.out] at this)).elem (j := k) (by rw [List.length_map]; exact hlt)
        rw [List.length_map] at he
        injection he with e1 e2 e3
        subst e1
        rw [List.getElem_map] at hp0 hp1 hp2
        have hxo := HWO.out k hlt
        obtain ⟨x, hx⟩ : ∃ x, x = ws[k] := ⟨_, rfl⟩
        rw [← hx] at hp0 hp1 hp2 hxo
        simp only [wV] at hp0 hp1 hp2
        clear e2 e3
        obtain ⟨hx1, hx2, _, _⟩ := wOk_bounds hxo
        have t1 : decide ((k : Int) < (ws.length : Int)) = true := by simp; omega
        obtain ⟨w0, hw0⟩ : ∃ w0, w0 = wr.alloc (.cells #[.string (bs x.key), .string (bs x.val), .bool x.gone] 66) := ⟨_, rfl⟩
        obtain ⟨B, hB⟩ : ∃ B, B = wr.heap.size := ⟨_, rfl⟩
        have hbl : Below wr.heap.size wr w0 := by rw [hw0]; exact (Below.refl _ _).alloc (Nat.le_refl _) _
        obtain ⟨L, hL⟩ : ∃ L, L = L3 ++ encWs (ws.take k) := ⟨_, rfl⟩
        have hLl : L.length ≤ 1048576 := by
          have := encWs_le (ws := ws.take k) (fun j hj => by rw [List.getElem_take]; exact HWO.out j (by rw [List.length_take] at hj; omega))
          rw [hL]
          simp only [List.length_append]
          rw [List.length_take] at this
          omega
        have ho := HO.out
        rw [← hL] at ho
        have hnext : L3 ++ encWs (ws.take (k + 1)) = L ++ encW x := by rw [hL, encWs_take ws k hlt, hx]; simp only [List.append_assoc]
        have HNX := Lib.hid hnext; clear hnext
        have hxb : w0.heap[B]? = some (.cells #[.string (bs x.key), .string (bs x.val), .bool x.gone] 66 (0, 0)) := by rw [hw0, hB]; exact heap_alloc_new wr _
        have HXB := Lib.hid hxb
        have HOW := Lib.hid (ho.below hbl)
        have HXC := Lib.hid (heap_below HX.out hbl)
        have HBW := Lib.hid (HB.out.trans (hbl.mono hsz))
        have hsz0 : base ≤ w0.heap.size := Nat.le_trans hsz hbl.size
        have y0 := box_cells hxb 0 (.string (bs x.key)) rfl
        have y1 := box_cells hxb 1 (.string (bs x.val)) rfl
        have y2 := box_cells hxb 2 (.bool x.gone) rfl
        have HXE := Lib.hid hx
        obtain ⟨A5, c5, rfl, _, _, _⟩ := id ho.rd
        clear hL hbl hx hxo hxb ho
        go_upto_block 1 with fail
        go_cut [5] (fun v5 wx => Own wx base v5 (L ++ encW x) ∧ Below base w wx ∧ wx.heap[H]? = some (.cells #[.int .i64 (n : Int), .slice (some ad) ws.length c] 64 (0, 0)) ∧ base ≤ wx.heap.size)
        case first =>
          go_upto_region 10 with fail
          rw [← hw0, ← hB]
          have HWE := Lib.hid hw0; clear hw0 hp0 hp1 hp2 c1
          have HBB := Lib.hid hB; clear hB
          go_upto_if 34 with fail
          cases hxg : x.gone with
          | true =>
            have he : encW x = 1 :: txt x.key := by unfold encW; rw [hxg]; rfl
            have HE := Lib.hid he; clear he hxg y2
            go_wp2_with fail
            obtain ⟨i0, hi, hz0, hz1, hz2⟩ := info_parts info5
            have hbl : Below w0.heap.size w0 (w0.alloc (.cells #[.int .u8 1] 5)).drew := ((Below.refl _ _).alloc (Nat.le_refl _) _).drew
            have HOA := Lib.hid (World.ownsRow.drew (World.ownsRow.alloc HOW.out (.cells #[.int .u8 1] 5)))
            have HXA := Lib.hid (heap_below HXB.out hbl)
            have HCA := Lib.hid (heap_below HXC.out hbl)
            have HBA := Lib.hid (HBW.out.trans (hbl.mono hsz0))
            have hszA : base ≤ (w0.alloc (.cells #[.int .u8 1] 5)).drew.heap.size := Nat.le_trans hsz0 hbl.size
            have yA : (w0.alloc (.cells #[.int .u8 1] 5)).cell? ⟨B, 0, none⟩ = some (.string (bs x.key)) := box_cells HXA.out 0 (.string (bs x.key)) rfl
            clear hbl
            go_region_law ((first
              | (refine step_append_lies _ (by rfl) _ _ _ (by rfl) base 5 i0 (.int .u8 0) 1 1 Try.underlying25 hi hz0 hz1 hz2 rfl (by omega) _ L.length (bvs L) (by rfl) HOA.out ⟨w0.heap.size, 0, none⟩ 1 1 [bv 1] (by rfl) rfl (World.news_of_block (cs := #[bv 1]) (t := 5) (fr := (0, 0)) (heap_alloc_new w0 _)) (by intro u hu; simp at hu; subst hu; rfl) (by omega) (by simp only [maxLen]; omega) (by omega) hszA (w0.heap.size + 1) (by simp) ?_; intro g2 cap wa hown hgrow hat hlt; have HXW := Lib.hid (app_heap HOA.out HXA.out (by decide) hgrow); have HCW := Lib.hid (app_heap HOA.out HCA.out (by decide) hgrow); have ya := box_cells HXW.out 0 (.string (bs x.key)) rfl; have HOWN := Lib.hid (app_own hown); have HBWa := Lib.hid (HBA.out.trans ((Below.refl _ _).grown hgrow hszA (fun k hk => (HOA.out.lt k hk).1))); have hsza := Nat.le_trans hszA hgrow.size; clear hown hgrow hat hlt)
              | (go_simp; go_at_call 89; refine (fput_text _ (L ++ [1]) x.key _ (by have := HOWN.out.rd; simpa using this) (by simp; omega)).mono ?_; rintro e wd ⟨vd, rfl, hod, hbd⟩; have HOD := Lib.hid (Own.base hod hsza); have HXD := Lib.hid (heap_below HXW.out hbd); have HCD := Lib.hid (heap_below HCW.out hbd); have HBD := Lib.hid (HBWa.out.trans (hbd.mono hsza)); have hszd := Nat.le_trans hsza hbd.size; clear hod hbd)))
            all_goals
              go_wp2_with fail
              go_meet
              refine ⟨?_, HBD.out, HCD.out, hszd⟩
              have := HOD.out
              rw [HE.out]
              simpa [txt, List.append_assoc] using this
          | false =>
            have he : encW x = 0 :: (txt x.key ++ txt x.val) := by unfold encW; rw [hxg]; rfl
            have HE := Lib.hid he; clear he hxg y2
            go_upto_region 12 with fail
            go_cut [5] (fun v5 wx => Own wx base v5 (L ++ [0] ++ uvar x.key.length ++ x.key) ∧ Below base w wx ∧ wx.heap[H]? = some (.cells #[.int .i64 (n : Int), .slice (some ad) ws.length c] 64 (0, 0)) ∧ wx.heap[B]? = some (.cells #[.string (bs x.key), .string (bs x.val), .bool x.gone] 66 (0, 0)) ∧ base ≤ wx.heap.size)
            case first =>
              obtain ⟨i0, hi, hz0, hz1, hz2⟩ := info_parts info5
              have hbl : Below w0.heap.size w0 (w0.alloc (.cells #[.int .u8 0] 5)).drew := ((Below.refl _ _).alloc (Nat.le_refl _) _).drew
              have HOA := Lib.hid (World.ownsRow.drew (World.ownsRow.alloc HOW.out (.cells #[.int .u8 0] 5)))
              have HXA := Lib.hid (heap_below HXB.out hbl)
              have HCA := Lib.hid (heap_below HXC.out hbl)
              have HBA := Lib.hid (HBW.out.trans (hbl.mono hsz0))
              have hszA : base ≤ (w0.alloc (.cells #[.int .u8 0] 5)).drew.heap.size := Nat.le_trans hsz0 hbl.size
              have yA : (w0.alloc (.cells #[.int .u8 0] 5)).cell? ⟨B, 0, none⟩ = some (.string (bs x.key)) := box_cells HXA.out 0 (.string (bs x.key)) rfl
              clear hbl
              go_region_law ((first
                | (refine step_append_lies _ (by rfl) _ _ _ (by rfl) base 5 i0 (.int .u8 0) 1 1 Try.underlying25 hi hz0 hz1 hz2 rfl (by omega) _ L.length (bvs L) (by rfl) HOA.out ⟨w0.heap.size, 0, none⟩ 1 1 [bv 0] (by rfl) rfl (World.news_of_block (cs := #[bv 0]) (t := 5) (fr := (0, 0)) (heap_alloc_new w0 _)) (by intro u hu; simp at hu; subst hu; rfl) (by omega) (by simp only [maxLen]; omega) (by omega) hszA (w0.heap.size + 1) (by simp) ?_; intro g2 cap wa hown hgrow hat hlt; have HXW := Lib.hid (app_heap HOA.out HXA.out (by decide) hgrow); have HCW := Lib.hid (app_heap HOA.out HCA.out (by decide) hgrow); have ya := box_cells HXW.out 0 (.string (bs x.key)) rfl; have HOWN := Lib.hid (app_own hown); have HBWa := Lib.hid (HBA.out.trans ((Below.refl _ _).grown hgrow hszA (fun k hk => (HOA.out.lt k hk).1))); have hsza := Nat.le_trans hszA hgrow.size; clear hown hgrow hat hlt)
                | (go_simp; go_at_call 89; refine (fput_text _ (L ++ [0]) x.key _ (by have := HOWN.out.rd; simpa using this) (by simp; omega)).mono ?_; rintro e wd ⟨vd, rfl, hod, hbd⟩; have HOD := Lib.hid (Own.base hod hsza); have HXD := Lib.hid (heap_below HXW.out hbd); have HCD := Lib.hid (heap_below HCW.out hbd); have HBD := Lib.hid (HBWa.out.trans (hbd.mono hsza)); have hszd := Nat.le_trans hsza hbd.size; clear hod hbd)))
              all_goals
                go_wp2_with fail
                go_meet
                exact ⟨HOD.out, HBD.out, HCD.out, HXD.out, hszd⟩
            case rest =>
              obtain ⟨ho, hb, hc, hx, hz⟩ := hcut
              have HO7 := Lib.hid ho.rd
              have HB7 := Lib.hid hb
              have HC7 := Lib.hid hc
              have y7 := box_cells hx 1 (.string (bs x.val)) rfl
              have hu3 := uvar_len10 (n := x.key.length) (by omega)
              obtain ⟨L7, hL7⟩ : ∃ L', L' = L ++ [0] ++ uvar x.key.length ++ x.key := ⟨_, rfl⟩
              rw [← hL7] at HO7
              have hl7 : L7.length ≤ 1048700 := by rw [hL7]; simp; omega
              have HL7 := Lib.hid hL7; clear hL7
              obtain ⟨A7, c7, rfl, _, _, _⟩ := id HO7.out
              clear ho hb hc hx
              go_wp2_with fail
              refine (fput_text _ L7 x.val _ HO7.out (by omega)).mono ?_
              rintro e w8 ⟨v8, rfl, ho8, hb8⟩
              have HO8 := Lib.hid (Own.base ho8 hz)
              have HB8 := Lib.hid (HB7.out.trans (hb8.mono hz))
              have HC8 := Lib.hid (heap_below HC7.out hb8)
              have hz8 := Nat.le_trans hz hb8.size
              clear ho8 hb8
              go_wp2_with fail
              go_meet
              refine ⟨?_, HB8.out, HC8.out, hz8⟩
              have := HO8.out
              rw [HL7.out] at this
              rw [HE.out]
              simpa [txt, List.append_assoc] using this
        case rest =>
          obtain ⟨ho, hb, hc, hz⟩ := hcut
          rw [← HNX.out] at ho
          have HO9 := Lib.hid ho
          have HB9 := Lib.hid hb
          have HC9 := Lib.hid hc
          clear ho hb hc
          go_wp2_with fail
          go_roundw
          case rel => exact ⟨k + 1, by omega, by go_num, HO9.out, HB9.out, HC9.out, hz⟩
          case measure => simp [intOf]; omega
      · have t1 : decide ((k : Int) < (ws.length : Int)) = false := by simp; omega
        have hkk : ws.take k = ws := List.take_of_length_le (by omega)
        have HKK := Lib.hid hkk; clear hkk
        go_wp2_with fail
        go_ret2
        refine ⟨by have := HB.out; rwa [HBE.out] at this, .inr ⟨HOKK.out, _, rfl, ?_⟩⟩
        have := HO.out
        rw [HKK.out, HL3.out, HL2.out, HBE.out] at this
        simpa [encCom, List.append_assoc] using this
end Go.Proofs.Ytggjipfdfpdecaa
/- The walk of the document's PutManifest. -/
set_option linter.unusedVariables false
namespace Go.Proofs.Ytggjipfdfpdecaa
open Go.RowKit
attribute [local go_sem] bs_list bs_size

set_option maxRecDepth 100000 in
set_option maxHeartbeats 4000000 in
theorem putManF_any (t lo : Int) (v : Value) (ps : List Pai) (w : World) (hr : Rd3 w v (ps.map pV)) (hl : ps.length ≤ 1048576) :
    Calls Try.prog 66 #[.agg #[.int .i64 t, .int .i64 lo, v]] w (PutA w (manOk t lo ps) (encMan t.toNat lo.toNat ps)) := by
  obtain ⟨A, c, rfl, _, _, _⟩ := id hr
  rw [List.length_map] at hr ⊢
  obtain ⟨H, hH⟩ : ∃ H, H = w.heap.size := ⟨_, rfl⟩
  obtain ⟨w0, hw0⟩ : ∃ w0, w0 = w.alloc (.cells #[.int .i64 t, .int .i64 lo, .slice A ps.length c] 74) := ⟨_, rfl⟩
  have hb0 : Below w.heap.size w w0 := by rw [hw0]; exact (Below.refl _ _).alloc (Nat.le_refl _) _
  have hx0 : w0.heap[H]? = some (.cells #[.int .i64 t, .int .i64 lo, .slice A ps.length c] 74 (0, 0)) := by rw [hw0, hH]; exact heap_alloc_new w _
  have HB0 := Lib.hid hb0
  have HX0 := Lib.hid hx0
  have k1 := rightManF_any t lo _ ps w0 (hr.below hb0) hl
  have HK1 := Lib.hid k1
  have HR := Lib.hid hr
  have c0 := box_cells hx0 0 (.int .i64 t) rfl
  have c1 := box_cells hx0 1 (.int .i64 lo) rfl
  have c2 := box_cells hx0 2 (.slice A ps.length c) rfl
  clear hr hb0 hx0 k1
  go_enter Try.func66, Try.ntmps66
  go_wp2_with fail
  rw [← hw0, ← hH]
  have HH := Lib.hid hH
  clear hw0 hH
  refine HK1.out.mono ?_
  rintro e w1 ⟨rfl, hb1⟩
  have HX1 := Lib.hid (heap_below HX0.out hb1)
  have HB1 := Lib.hid (HB0.out.trans (hb1.mono HB0.out.size)); clear hb1 c0 c1 c2
  cases hok : manOk t lo ps with
  | false =>
    go_wp2_with fail
    go_ret2
    exact ⟨HB1.out, .inl ⟨hok, rfl⟩⟩
  | true =>
    have HOKK := Lib.hid hok
    obtain ⟨⟨ht1, ht2⟩, ⟨hg1, hg2⟩, hws, _, _, hwo'⟩ := manOk_bounds hok
    have hwo : ∀ k (hk : k < ps.length), pFit ps[k] := fun k hk => by obtain ⟨h1, h2, h3⟩ := hwo' k hk; exact ⟨by omega, h2, h3⟩
    clear hwo'
    obtain ⟨n, rfl⟩ := Int.eq_ofNat_of_zero_le ht1
    obtain ⟨lo, rfl⟩ := Int.eq_ofNat_of_zero_le (by omega : 0 ≤ lo)
    have hlo63 : lo < 9223372036854775808 := by omega
    have hu3 := uvar_len10 (n := lo) (by omega)
    have hn63 : n < 9223372036854775808 := by omega
    have HWO := Lib.hid hwo; clear hwo hok
    have hu1 := uvar_len10 (n := n) (by omega)
    have hu2 := uvar_len10 (n := ps.length) (by omega)
    have hbl : Below w1.heap.size w1 (w1.alloc (.cells #[.int .u8 77] 5)) := (Below.refl _ _).alloc (Nat.le_refl _) _
    have HX2 := Lib.hid (heap_below HX1.out hbl)
    have HB2 := Lib.hid (HB1.out.trans (hbl.mono HB1.out.size))
    have HL := Lib.hid (Own.rd (lit_own w1 77)); clear hbl
    have d0 := box_cells HX2.out 0 (.int .i64 n) rfl
    go_wp2_with fail
    refine (fput_num _ [77] n _ HL.out hn63 (by simp)).mono ?_
    rintro e w2 ⟨v2, rfl, ho, hb⟩
    obtain ⟨L2, hL2⟩ : ∃ L, L = [77] ++ uvar n := ⟨_, rfl⟩
    rw [← hL2] at ho
    have hl2 : L2.length ≤ 100 := by rw [hL2]; simp; omega
    have HL2 := Lib.hid hL2; clear hL2
    have HO2 := Lib.hid ho.rd
    have HX3 := Lib.hid (heap_below HX2.out hb)
    have HB3 := Lib.hid (HB2.out.trans (hb.mono HB2.out.size)); clear ho hb d0
    have d1 := box_cells HX3.out 1 (.int .i64 lo) rfl
    obtain ⟨A2, c2, rfl, g1, g2, g3⟩ := id HO2.out
    clear g1 g2 g3
    go_wp2_with fail
    refine (fput_num _ L2 lo _ HO2.out hlo63 (by omega)).mono ?_
    rintro e w2b ⟨v2b, rfl, ho, hb⟩
    obtain ⟨L2b, hL2b⟩ : ∃ L, L = L2 ++ uvar lo := ⟨_, rfl⟩
    rw [← hL2b] at ho
    have hl2b : L2b.length ≤ 150 := by rw [hL2b]; simp; omega
    have HL2b := Lib.hid hL2b; clear hL2b
    have HO2 := Lib.hid ho.rd
    have HX3 := Lib.hid (heap_below HX3.out hb)
    have HB3 := Lib.hid (HB3.out.trans (hb.mono HB3.out.size)); clear ho hb d1
    have d2 := box_cells HX3.out 2 (.slice A ps.length c) rfl
    obtain ⟨A2b, c2b, rfl, g1, g2, g3⟩ := id HO2.out
    clear g1 g2 g3
    go_wp2_with fail
    refine (fput_num _ L2b ps.length _ HO2.out (by omega) (by omega)).mono ?_
    rintro e w3 ⟨v3, rfl, ho, hb⟩
    obtain ⟨L3, hL3⟩ : ∃ L, L = L2b ++ uvar ps.length := ⟨_, rfl⟩
    rw [← hL3] at ho
    have hl3 : L3.length ≤ 200 := by rw [hL3]; simp; omega
    have HL3 := Lib.hid hL3; clear hL3
    have HO3 := Lib.hid (Own.base ho HB3.out.size)
    have HX4 := Lib.hid (heap_below HX3.out hb)
    have HB4 := Lib.hid (HB3.out.trans (hb.mono HB3.out.size)); clear ho hb d2
    obtain ⟨base, hbase⟩ : ∃ b, b = w.heap.size := ⟨_, rfl⟩
    rw [← hbase] at HO3
    have HBE := Lib.hid hbase
    go_wp2_with fail
    go_loopw [5, 6] (fun v5 v6 wr => ∃ (k : Nat), k ≤ ps.length ∧ v6 = .int .i64 (k : Int) ∧ Own wr base v5 (L3 ++ encPs (ps.take k)) ∧ Below base w wr ∧ wr.heap[H]? = some (.cells #[.int .i64 (n : Int), .int .i64 (lo : Int), .slice A ps.length c] 74 (0, 0)) ∧ base ≤ wr.heap.size) (fun _ v6 _ => ps.length - (intOf v6).toNat)
    case atStart => exact ⟨0, by omega, rfl, by simpa [encPs] using HO3.out, by rw [hbase]; exact HB4.out, HX4.out, by rw [hbase]; exact HB4.out.size⟩
    case round =>
      obtain ⟨k, hk, rfl, ho, hb, hx, hsz⟩ := hrel
      have HO := Lib.hid ho; clear ho
      have HB := Lib.hid hb; clear hb
      have HX := Lib.hid hx
      have c2 := box_cells hx 2 (.slice A ps.length c) rfl
      clear hx
      by_cases hlt : k < ps.length
      · obtain ⟨ad, c', he, _, _, hp0, hp1, hp2⟩ := (HR.out.below (by have := HB.out; rwa [HBE.out] at this)).elem (j := k) (by rw [List.length_map]; exact hlt)
        rw [List.length_map] at he
        injection he with e1 e2 e3
        subst e1
        rw [List.getElem_map] at hp0 hp1 hp2
        have hxo := HWO.out k hlt
        obtain ⟨x, hx⟩ : ∃ x, x = ps[k] := ⟨_, rfl⟩
        rw [← hx] at hp0 hp1 hp2 hxo
        simp only [pV] at hp0 hp1 hp2
        clear e2 e3
        have t1 : decide ((k : Int) < (ps.length : Int)) = true := by simp; omega
        have hnext : L3 ++ encPs (ps.take (k + 1)) = L3 ++ encPs (ps.take k) ++ encP x := by rw [encPs_take ps k hlt, hx]; simp only [List.append_assoc]
        obtain ⟨L, hL⟩ : ∃ L, L = L3 ++ encPs (ps.take k) := ⟨_, rfl⟩
        have hLl : L.length ≤ 1048576 := by
          have := encPs_le (ps := ps.take k) (fun j hj => by rw [List.getElem_take]; exact HWO.out j (by rw [List.length_take] at hj; omega))
          rw [hL]
          simp only [List.length_append]
          rw [List.length_take] at this
          omega
        have ho := HO.out
        rw [← hL] at ho hnext
        have HNX := Lib.hid hnext
        have HXE := Lib.hid hx
        have HAT := fun (W : World) (hW : Below base w W) => ((HR.out.below (by have := hW; rwa [HBE.out] at this)).elem (j := k) (by rw [List.length_map]; exact hlt))
        clear hL hx hnext
        obtain ⟨xa, xb, xc⟩ := x
        obtain ⟨⟨x1, x2⟩, ⟨x3, x4⟩, ⟨x5, x6⟩⟩ := hxo
        simp only at x1 x2 x3 x4 x5 x6 hp0 hp1 hp2
        obtain ⟨xa, rfl⟩ := Int.eq_ofNat_of_zero_le x1
        obtain ⟨xb, rfl⟩ := Int.eq_ofNat_of_zero_le x3
        obtain ⟨xc, rfl⟩ := Int.eq_ofNat_of_zero_le x5
        have u1 := uvar_len10 (n := xa) (by omega)
        have u2 := uvar_len10 (n := xb) (by omega)
        obtain ⟨A5, c5, rfl, g1, g2, g3⟩ := id ho.rd
        have HO5 := Lib.hid ho
        clear g1 g2 g3 hp1 hp2 ho
        go_wp2_with fail
        refine (fput_num _ L xa _ HO5.out.rd (by omega) (by omega)).mono ?_
        rintro e w6 ⟨v6, rfl, ho6, hb6⟩
        obtain ⟨L6, hL6⟩ : ∃ L6, L6 = L ++ uvar xa := ⟨_, rfl⟩
        rw [← hL6] at ho6
        have hl6 : L6.length ≤ 1048600 := by rw [hL6]; simp; omega
        have HL6 := Lib.hid hL6; clear hL6
        have HO6 := Lib.hid ho6
        have HX6 := Lib.hid (heap_below HX.out hb6)
        have HB6 := Lib.hid (HB.out.trans (hb6.mono hsz))
        have hsz6 := Nat.le_trans hsz hb6.size
        obtain ⟨A6, c6, rfl, g1, g2, g3⟩ := id ho6.rd
        clear ho6 hb6 g1 g2 g3 c2 hp0
        have c2 := box_cells HX6.out 2 (.slice (some ad) ps.length c) rfl
        obtain ⟨ad6, d6, he, _, _, _, q1, _⟩ := HAT w6 HB6.out
        rw [List.length_map] at he
        injection he with e1 e2 e3
        injection e1 with e1
        subst e1
        clear e2 e3
        rw [List.getElem_map, ← HXE.out] at q1
        simp only [pV] at q1
        go_wp2_with fail
        refine (fput_num _ L6 xb _ HO6.out.rd (by omega) (by omega)).mono ?_
        rintro e w7 ⟨v7, rfl, ho7, hb7⟩
        obtain ⟨L7, hL7⟩ : ∃ L7, L7 = L6 ++ uvar xb := ⟨_, rfl⟩
        rw [← hL7] at ho7
        have hl7 : L7.length ≤ 1048620 := by rw [hL7]; simp; omega
        have HL7 := Lib.hid hL7; clear hL7
        have HO7 := Lib.hid ho7
        have HX7 := Lib.hid (heap_below HX6.out hb7)
        have HB7 := Lib.hid (HB6.out.trans (hb7.mono hsz6))
        have hsz7 := Nat.le_trans hsz6 hb7.size
        obtain ⟨A7, c7, rfl, g1, g2, g3⟩ := id ho7.rd
        clear ho7 hb7 g1 g2 g3 c2 q1
        have c2 := box_cells HX7.out 2 (.slice (some ad) ps.length c) rfl
        obtain ⟨ad7, d7, he, _, _, _, _, q2⟩ := HAT w7 HB7.out
        rw [List.length_map] at he
        injection he with e1 e2 e3
        injection e1 with e1
        subst e1
        clear e2 e3
        rw [List.getElem_map, ← HXE.out] at q2
        simp only [pV] at q2
        go_wp2_with fail
        refine (fput_num _ L7 xc _ HO7.out.rd (by omega) (by omega)).mono ?_
        rintro e w8 ⟨v8, rfl, ho8, hb8⟩
        have HX8 := Lib.hid (heap_below HX7.out hb8)
        have HB8 := Lib.hid (HB7.out.trans (hb8.mono hsz7))
        have hsz8 := Nat.le_trans hsz7 hb8.size
        have ho9 := ho8.base hsz7
        rw [HL7.out, HL6.out] at ho9
        have HO9 := Lib.hid ho9
        clear ho8 hb8 ho9 c2 q2
        go_wp2_with fail
        go_roundw
        case rel => exact ⟨k + 1, by omega, by go_num, by rw [HNX.out]; simpa [encP, List.append_assoc] using HO9.out, HB8.out, HX8.out, hsz8⟩
        case measure => simp [intOf]; omega
      · have t1 : decide ((k : Int) < (ps.length : Int)) = false := by simp; omega
        have hkk : ps.take k = ps := List.take_of_length_le (by omega)
        have HKK := Lib.hid hkk; clear hkk
        go_wp2_with fail
        go_ret2
        refine ⟨by rw [← HBE.out]; exact HB.out, .inr ⟨HOKK.out, _, rfl, ?_⟩⟩
        have := HO.out
        rw [HKK.out, HL3.out, HL2b.out, HL2.out] at this
        rw [← HBE.out]
        simpa [encMan, List.append_assoc] using this
end Go.Proofs.Ytggjipfdfpdecaa
/- Words for a region that draws and appends elements of three cells. -/
set_option linter.unusedVariables false
namespace Go.Proofs.Ytggjipfdfpdecaa
open Go.RowKit

theorem add_step (ad : Addr) (m k : Nat) (hk : 0 < k) : ad.add (m + k) = ⟨(ad.add m).block, (ad.add m).off + k, none⟩ := by
  unfold Addr.add
  rw [if_neg (by omega)]
  split
  · rename_i h; subst h; simp
  · simp; omega
/-- The cells that a slice of such elements shows. -/
theorem At3.news {w : World} {ad : Addr} {xs : List V3} (h : ∀ j (hj : j < xs.length), At3 w (ad.add (j * 3)) xs[j]) (i : Nat) (u : Value) (hu : (flat3 xs)[i]? = some u) : w.cell? (ad.add i) = some u := by
  have hi : i < xs.length * 3 := by have := (List.getElem?_eq_some_iff.1 hu).1; rw [flat3_len] at this; exact this
  obtain ⟨j, k, rfl, hk⟩ : ∃ j k, i = j * 3 + k ∧ k < 3 := ⟨i / 3, i % 3, by omega, Nat.mod_lt _ (by omega)⟩
  have hj : j < xs.length := by omega
  obtain ⟨f0, f1, f2⟩ := flat3_get xs j hj
  obtain ⟨c0, c1, c2⟩ := h j hj
  rcases k with _ | _ | _ | k
  · rw [Nat.add_zero] at hu ⊢
    rw [f0] at hu
    rw [← Option.some.inj hu]
    exact c0
  · rw [f1] at hu
    rw [← Option.some.inj hu, add_step _ _ _ (by omega)]
    exact c1
  · rw [f2] at hu
    rw [← Option.some.inj hu, add_step _ _ _ (by omega)]
    exact c2
  · omega

section
variable {ops : Array Oper} {o : Oper} {a : Act} {K : Act → World → Prop} {Q : Exit → Act → World → Prop} {F : Prop}
/-- append(v, u...): v a row of the call's own, u elements that read; a step of a region that draws. -/
theorem step3 (W : World) (base H : Nat) (hH : W.heap.size = H) (T E nb : Nat) (z : Value) (hu : Try.prog.underlying T = some (.slice E)) (hinfo : (Try.prog.info? E).map (fun i => (i.zero, i.size, i.bytes)) = some (some z, 3, nb)) (hz1 : z.cells.size = 3)
    (hgd : o.guard = none) (s x : Operand) (ho : o.op = .call { callee := .builtin .append, args := #[s, x], argTypes := #[T, T] })
    (v : Value) (xs : List V3) (hs : a.eval s = v) (HO : Own3 W base E v xs) (hbase : base ≤ W.heap.size)
    (u : Value) (ys : List V3) (hx : a.eval x = u) (HR : Rd3 W u ys) (hy : ∀ y ∈ ys, ∀ c ∈ y.cells, c.oneCell' = true) (hpos : 0 < ys.length)
    (hl : (xs.length + ys.length) * nb ≤ 140737488355328) (hl2 : xs.length + ys.length ≤ 140737488355328)
    (h : ∀ g cap w1, Own3 w1 base E (.slice (some ⟨g, 0, none⟩) (xs.length + ys.length) cap) (xs ++ ys) → W.grownBy w1 v.ownBlock → (v.ownBlock = some g ∨ g = H) → g < w1.heap.size → K (a.put o.dst (.slice (some ⟨g, 0, none⟩) (xs.length + ys.length) cap)) w1) :
    if Region.wanted o (yielded ops a.tmps) = true then Oper.wp Try.prog o a W K Q else F := by
  obtain ⟨i0, hi, hz0, hz1', hz2⟩ := info_parts hinfo
  obtain ⟨A, c, rfl, hc1, hc2, hc3⟩ := HR
  obtain ⟨ad, rfl, hcell⟩ := hc3 hpos
  refine step_append_lies W hgd s x T ho base E i0 z 3 nb hu hi hz0 hz1' hz2 hz1 (by omega) v xs.length (flat3 xs) hs HO ad ys.length c (flat3 ys) hx (flat3_len ys) (At3.news hcell) ?_ hpos (by simp only [maxLen]; omega) hl hbase H hH ?_
  · intro c hc
    obtain ⟨y, hy1, hy2⟩ := List.mem_flatMap.1 hc
    exact hy y hy1 c hy2
  · intro g cap w' hown hg hat hlt
    refine h g cap w' ?_ hg hat hlt
    unfold Own3
    rw [flat3_append, List.length_append]
    exact hown
end
end Go.Proofs.Ytggjipfdfpdecaa
/- Words for the append of a whole slice of elements of three cells. -/
set_option linter.unusedVariables false
namespace Go.Proofs.Ytggjipfdfpdecaa
open Go.RowKit

section
variable {ops : Array Oper} {rest : List Oper} {o : Oper} {a : Act} {Q : Exit → Act → World → Prop}
/-- append(v, u...): v a row of the call's own, u elements that read. -/
theorem own3_append_row {W : World} (base : Nat) (T E nb : Nat) (z : Value) (hu : Try.prog.underlying T = some (.slice E)) (hinfo : (Try.prog.info? E).map (fun i => (i.zero, i.size, i.bytes)) = some (some z, 3, nb)) (hz1 : z.cells.size = 3)
    (hgd : o.guard = none) (s x : Operand) (ho : o.op = .call { callee := .builtin .append, args := #[s, x], argTypes := #[T, T] })
    (v u : Value) (xs ys : List V3) (hs : a.eval s = v) (hx : a.eval x = u) (HO : Own3 W base E v xs) (HR : Rd3 W u ys) (hy : ∀ y ∈ ys, ∀ c ∈ y.cells, c.oneCell' = true) (hbase : base ≤ W.heap.size)
    (hl : (xs.length + ys.length) * nb ≤ 140737488355328) (hl2 : xs.length + ys.length ≤ 140737488355328)
    (h : ∀ v1 w1, Own3 w1 base E v1 (xs ++ ys) → Below base W w1 → W.grownBy w1 v.ownBlock → wpList Try.prog ops Q rest (a.put o.dst v1) w1) :
    wpList Try.prog ops Q (o :: rest) a W := by
  obtain ⟨i0, hi, hz0, hz1', hz2⟩ := info_parts hinfo
  obtain ⟨A, c, rfl, hc1, hc2, hc3⟩ := HR
  have hrun : ∃ v1 w1, (Builtin.append_ #[T, T] o.type #[v, .slice A ys.length c]).run Try.prog W = .ok v1 w1 ∧ Own3 w1 base E v1 (xs ++ ys) ∧ W.grownBy w1 v.ownBlock := by
    rcases A with _ | ad
    · have h0 : ys.length = 0 := by
        rcases Nat.eq_zero_or_pos ys.length with h0 | h0
        · exact h0
        · obtain ⟨ad, h, _⟩ := hc3 h0
          cases h
      obtain rfl : ys = [] := List.eq_nil_of_length_eq_zero h0
      refine ⟨v, W, ?_, by simpa using HO, World.grownBy.refl W _⟩
      rcases HO.2 with ⟨rfl, hn⟩ | ⟨g, cap, cur, rfl, _, _, hnc, _⟩
      · simp [Builtin.append_, run_underlying hu, sizeOf, typeInfo, hi, Builtin.lenOf, Builtin.firstCells]
      · simp [Builtin.append_, run_underlying hu, sizeOf, typeInfo, hi, Builtin.lenOf, Builtin.firstCells, hnc, storeCells]
    · have hcell : ∀ j (hj : j < ys.length), At3 W (ad.add (j * 3)) ys[j] := by
        intro j hj
        obtain ⟨ad', h', hcc⟩ := hc3 (by omega)
        obtain rfl : ad = ad' := Option.some.inj h'
        exact hcc j hj
      obtain ⟨v', w', hr, h2, h3, _, _⟩ := run_append_own_at (P := Try.prog) W base T o.type E i0 z 3 nb hu hi hz0 hz1' hz2 hz1 (by omega) v xs.length (flat3 xs) HO ad ys.length c (flat3 ys) (flat3_len ys) (At3.news hcell)
        (by intro c hc; obtain ⟨y, hy1, hy2⟩ := List.mem_flatMap.1 hc; exact hy y hy1 c hy2) (by simp only [maxLen]; omega) hl hbase
      refine ⟨v', w', hr, ?_, h3⟩
      unfold Own3
      rw [flat3_append, List.length_append]
      exact h2
  obtain ⟨v1, w1, hr, hown, hg⟩ := hrun
  refine wpList_plain hgd fun K hK => ?_
  unfold Oper.wp execOp
  simp only [ho, resolve, invoke, builtin, Sem.run_bind, Sem.run_pure, Result.andThen_ok, List.map_toArray, List.map_cons, List.map_nil, hs, hx, hr]
  refine hK _ _ (h v1 w1 hown ((Below.refl base W).grown hg hbase ?_) hg)
  intro k hk
  exact (World.ownsRow.lt HO k hk).1
end
end Go.Proofs.Ytggjipfdfpdecaa
/- The walks of SameCommit and SameManifest, at what is the same. -/
set_option linter.unusedVariables false
namespace Go.Proofs.Ytggjipfdfpdecaa
open Go.RowKit
attribute [local go_sem] bs_list bs_size

set_option maxRecDepth 100000 in
set_option maxHeartbeats 2000000 in
theorem sameCom_any (t : Int) (v1 v2 : Value) (ws : List Wri) (w : World) (hr1 : Rd3 w v1 (ws.map wV)) (hr2 : Rd3 w v2 (ws.map wV)) (hl : ws.length ≤ 1048576) :
    Calls Try.prog 55 #[.agg #[.int .i64 t, v1], .agg #[.int .i64 t, v2]] w fun e w' => e = .returned (.bool true) ∧ Below w.heap.size w w' := by
  obtain ⟨A1, c1, rfl, g1, g2, g3⟩ := id hr1
  obtain ⟨A2, c2, rfl, g4, g5, g6⟩ := id hr2
  clear g1 g2 g3 g4 g5 g6
  rw [List.length_map] at hr1 hr2 ⊢
  obtain ⟨H, hH⟩ : ∃ H, H = w.heap.size := ⟨_, rfl⟩
  obtain ⟨wa, hwa⟩ : ∃ wa, wa = w.alloc (.cells #[.int .i64 t, .slice A1 ws.length c1] 64) := ⟨_, rfl⟩
  obtain ⟨wb, hwb⟩ : ∃ wb, wb = wa.alloc (.cells #[.int .i64 t, .slice A2 ws.length c2] 64) := ⟨_, rfl⟩
  have hza : wa.heap.size = H + 1 := by rw [hwa, hH]; simp
  have hba : Below w.heap.size w wa := by rw [hwa]; exact (Below.refl _ _).alloc (Nat.le_refl _) _
  have hbb : Below wa.heap.size wa wb := by rw [hwb]; exact (Below.refl _ _).alloc (Nat.le_refl _) _
  have hb : Below w.heap.size w wb := hba.trans (hbb.mono (by omega))
  have hx : wb.heap[H]? = some (.cells #[.int .i64 t, .slice A1 ws.length c1] 64 (0, 0)) := by
    refine heap_below ?_ hbb
    rw [hwa, hH]; exact heap_alloc_new w _
  have hy : wb.heap[H + 1]? = some (.cells #[.int .i64 t, .slice A2 ws.length c2] 64 (0, 0)) := by
    rw [hwb, ← hza]; exact heap_alloc_new wa _
  have HB := Lib.hid hb
  have HX := Lib.hid hx
  have HY := Lib.hid hy
  have HR1 := Lib.hid (hr1.below hb)
  have HR2 := Lib.hid (hr2.below hb)
  have x0 := box_cells hx 0 (.int .i64 t) rfl
  have x1 := box_cells hx 1 (.slice A1 ws.length c1) rfl
  have y0 := box_cells hy 0 (.int .i64 t) rfl
  have y1 := box_cells hy 1 (.slice A2 ws.length c2) rfl
  clear hr1 hr2 hza hba hbb hb hx hy
  go_enter Try.func55, Try.ntmps55
  go_upto_region 1 with fail
  rw [← hH]
  rw [← hwa, ← hwb]
  have HH := Lib.hid hH; clear hH
  have HWA := Lib.hid hwa; clear hwa
  have HWB := Lib.hid hwb; clear hwb
  go_wp2_with fail
  clear x1 y1
  go_loopw [5] (fun v5 wr => ∃ j : Nat, j ≤ ws.length ∧ v5 = .int .i64 (j : Int) ∧ Below wb.heap.size wb wr) (fun v5 _ => ws.length - (intOf v5).toNat)
  case atStart => exact ⟨0, by omega, rfl, Below.refl _ _⟩
  case round =>
    obtain ⟨j, hj, rfl, hbr⟩ := hrel
    have HBR := Lib.hid hbr
    have x1 := box_cells (heap_below HX.out hbr) 1 (.slice A1 ws.length c1) rfl
    have y1 := box_cells (heap_below HY.out hbr) 1 (.slice A2 ws.length c2) rfl
    have HR1 := Lib.hid (HR1.out.below hbr)
    have HR2 := Lib.hid (HR2.out.below hbr)
    clear hbr
    by_cases hlt : j < ws.length
    · obtain ⟨a1, d1, he1, _, _, p0, p1, p2⟩ := HR1.out.elem (j := j) (by rw [List.length_map]; exact hlt)
      obtain ⟨a2, d2, he2, _, _, q0, q1, q2⟩ := HR2.out.elem (j := j) (by rw [List.length_map]; exact hlt)
      injection he1 with e1 e3 e4
      injection he2 with e2 e5 e6
      subst e1 e2
      clear e3 e4 e5 e6
      rw [List.getElem_map] at p0 p1 p2 q0 q1 q2
      obtain ⟨x, hxj⟩ : ∃ x, x = ws[j] := ⟨_, rfl⟩
      rw [← hxj] at p0 p1 p2 q0 q1 q2
      simp only [wV] at p0 p1 p2 q0 q1 q2
      have t1 : decide ((j : Int) < (ws.length : Int)) = true := by simp; omega
      clear hxj
      go_wp2_with fail
      go_quiet (fail)
      go_wp2_with fail
      go_roundw
      case rel => exact ⟨j + 1, by omega, by go_num, below_drewN HBR.out _⟩
      case measure => simp [intOf]; omega
    · have t1 : decide ((j : Int) < (ws.length : Int)) = false := by simp; omega
      go_wp2_with fail
      go_ret
      exact ⟨rfl, HB.out.trans (HBR.out.mono HB.out.size)⟩
set_option maxRecDepth 100000 in
set_option maxHeartbeats 2000000 in
theorem sameMan_any (t lo : Int) (v1 v2 : Value) (ps : List Pai) (w : World) (hr1 : Rd3 w v1 (ps.map pV)) (hr2 : Rd3 w v2 (ps.map pV)) (hl : ps.length ≤ 1048576) :
    Calls Try.prog 60 #[.agg #[.int .i64 t, .int .i64 lo, v1], .agg #[.int .i64 t, .int .i64 lo, v2]] w fun e w' => e = .returned (.bool true) ∧ Below w.heap.size w w' := by
  obtain ⟨A1, c1, rfl, g1, g2, g3⟩ := id hr1
  obtain ⟨A2, c2, rfl, g4, g5, g6⟩ := id hr2
  clear g1 g2 g3 g4 g5 g6
  rw [List.length_map] at hr1 hr2 ⊢
  obtain ⟨H, hH⟩ : ∃ H, H = w.heap.size := ⟨_, rfl⟩
  obtain ⟨wa, hwa⟩ : ∃ wa, wa = w.alloc (.cells #[.int .i64 t, .int .i64 lo, .slice A1 ps.length c1] 74) := ⟨_, rfl⟩
  obtain ⟨wb, hwb⟩ : ∃ wb, wb = wa.alloc (.cells #[.int .i64 t, .int .i64 lo, .slice A2 ps.length c2] 74) := ⟨_, rfl⟩
  have hza : wa.heap.size = H + 1 := by rw [hwa, hH]; simp
  have hba : Below w.heap.size w wa := by rw [hwa]; exact (Below.refl _ _).alloc (Nat.le_refl _) _
  have hbb : Below wa.heap.size wa wb := by rw [hwb]; exact (Below.refl _ _).alloc (Nat.le_refl _) _
  have hb : Below w.heap.size w wb := hba.trans (hbb.mono (by omega))
  have hx : wb.heap[H]? = some (.cells #[.int .i64 t, .int .i64 lo, .slice A1 ps.length c1] 74 (0, 0)) := by
    refine heap_below ?_ hbb
    rw [hwa, hH]; exact heap_alloc_new w _
  have hy : wb.heap[H + 1]? = some (.cells #[.int .i64 t, .int .i64 lo, .slice A2 ps.length c2] 74 (0, 0)) := by
    rw [hwb, ← hza]; exact heap_alloc_new wa _
  have HB := Lib.hid hb
  have HX := Lib.hid hx
  have HY := Lib.hid hy
  have HR1 := Lib.hid (hr1.below hb)
  have HR2 := Lib.hid (hr2.below hb)
  have x0 := box_cells hx 0 (.int .i64 t) rfl
  have x1 := box_cells hx 1 (.int .i64 lo) rfl
  have x2 := box_cells hx 2 (.slice A1 ps.length c1) rfl
  have y0 := box_cells hy 0 (.int .i64 t) rfl
  have y1 := box_cells hy 1 (.int .i64 lo) rfl
  have y2 := box_cells hy 2 (.slice A2 ps.length c2) rfl
  clear hr1 hr2 hza hba hbb hb hx hy
  go_enter Try.func60, Try.ntmps60
  go_upto_region 1 with fail
  rw [← hH]
  rw [← hwa, ← hwb]
  have HH := Lib.hid hH; clear hH
  have HWA := Lib.hid hwa; clear hwa
  have HWB := Lib.hid hwb; clear hwb
  go_wp2_with fail
  clear x2 y2
  go_loopw [5] (fun v5 wr => ∃ j : Nat, j ≤ ps.length ∧ v5 = .int .i64 (j : Int) ∧ Below wb.heap.size wb wr) (fun v5 _ => ps.length - (intOf v5).toNat)
  case atStart => exact ⟨0, by omega, rfl, Below.refl _ _⟩
  case round =>
    obtain ⟨j, hj, rfl, hbr⟩ := hrel
    have HBR := Lib.hid hbr
    have x2 := box_cells (heap_below HX.out hbr) 2 (.slice A1 ps.length c1) rfl
    have y2 := box_cells (heap_below HY.out hbr) 2 (.slice A2 ps.length c2) rfl
    have HR1 := Lib.hid (HR1.out.below hbr)
    have HR2 := Lib.hid (HR2.out.below hbr)
    clear hbr
    by_cases hlt : j < ps.length
    · obtain ⟨a1, d1, he1, _, _, p0, p1, p2⟩ := HR1.out.elem (j := j) (by rw [List.length_map]; exact hlt)
      obtain ⟨a2, d2, he2, _, _, q0, q1, q2⟩ := HR2.out.elem (j := j) (by rw [List.length_map]; exact hlt)
      injection he1 with e1 e3 e4
      injection he2 with e2 e5 e6
      subst e1 e2
      clear e3 e4 e5 e6
      rw [List.getElem_map] at p0 p1 p2 q0 q1 q2
      obtain ⟨x, hxj⟩ : ∃ x, x = ps[j] := ⟨_, rfl⟩
      rw [← hxj] at p0 p1 p2 q0 q1 q2
      simp only [pV] at p0 p1 p2 q0 q1 q2
      have t1 : decide ((j : Int) < (ps.length : Int)) = true := by simp; omega
      clear hxj
      go_wp2_with fail
      go_quiet (fail)
      go_wp2_with fail
      go_roundw
      case rel => exact ⟨j + 1, by omega, by go_num, below_drewN HBR.out _⟩
      case measure => simp [intOf]; omega
    · have t1 : decide ((j : Int) < (ps.length : Int)) = false := by simp; omega
      go_wp2_with fail
      go_ret
      exact ⟨rfl, HB.out.trans (HBR.out.mono HB.out.size)⟩
end Go.Proofs.Ytggjipfdfpdecaa
