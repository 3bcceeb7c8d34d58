/- The walk of the law RecordBack: what is right is read from its bytes as it is, and from no beginning of them, nor with more behind. Condition: what comes in has together at most 1048576 values and letters. -/
import Derived.Test.YtggjipfdfpdecaaRcAr
set_option linter.unusedVariables false
namespace Go.Proofs.Ytggjipfdfpdecaa
open Go.RowKit
attribute [local go_sem] bs_list bs_size

theorem encCom_len {t : Nat} {ws : List Wri} (h : comOk t ws = true) : (encCom t ws).length ≤ 100000 ∧ 0 < (encCom t ws).length := by
  obtain ⟨ht, hw, ho⟩ := comOk_bounds h
  have h1 := encWs_le (ws := ws) (fun k hk => wsOk_bounds ho k hk)
  have u1 := uvar_len10 (n := t) (by omega)
  have u2 := uvar_len10 (n := ws.length) (by omega)
  unfold encCom
  simp only [List.length_cons, List.length_append]
  omega
theorem encRow_len {k v : List UInt8} {t : Nat} (hk : isKey k = true) (hv : isVal v = true) (ht : isTm t = true) : (encRow k v t).length ≤ 1000 := by
  have hk := (isKey_iff _).1 hk
  have hv := (isVal_iff _).1 hv
  have ht := (isTm_iff _).1 ht
  have u1 := uvar_len10 (n := t) (by omega)
  have u2 := uvar_len10 (n := k.length) (by omega)
  have u3 := uvar_len10 (n := v.length) (by omega)
  unfold encRow txt
  simp only [List.length_cons, List.length_append]
  omega
theorem encPs_len {ps : List Pai} (h : ∀ p ∈ ps, p.num.toNat < 18446744073709551616 ∧ p.from_.toNat < 18446744073709551616 ∧ p.to_.toNat < 18446744073709551616) : (encPs ps).length ≤ 30 * ps.length := by
  induction ps with
  | nil => simp [encPs]
  | cons p r ih =>
    obtain ⟨a, b, c⟩ := h p (by simp)
    have h1 := ih (fun q hq => h q (by simp [hq]))
    have u1 := uvar_len10 a
    have u2 := uvar_len10 b
    have u3 := uvar_len10 c
    simp only [encPs, List.flatMap_cons, List.length_append, List.length_cons, encP] at h1 ⊢
    omega
theorem encMan_len {t g : Nat} {ps : List Pai} (h : manOk t g ps = true) : (encMan t g ps).length ≤ 10000 := by
  obtain ⟨ht, hg, hw, _, _, ho⟩ := manOk_bounds h
  have h1 := encPs_len (ps := ps) (fun p hp => by
    obtain ⟨k, hk, rfl⟩ := List.getElem_of_mem hp
    have := ho k hk
    omega)
  have u1 := uvar_len10 (n := t) (by omega)
  have u2 := uvar_len10 (n := g) (by omega)
  have u3 := uvar_len10 (n := ps.length) (by omega)
  unfold encMan
  simp only [List.length_cons, List.length_append]
  omega
theorem int_back {t : Int} (h : 0 ≤ t) : ∃ n : Nat, t = (n : Int) := ⟨t.toNat, by omega⟩
theorem int_nat {x : Int} (h : 0 ≤ x) : Value.int .i64 x = Value.int .i64 ((x.toNat : Nat) : Int) := by rw [Int.toNat_of_nonneg h]
theorem isTm_back {t : Int} (h : isTm t = true) : ∃ n : Nat, t = (n : Int) := int_back ((isTm_iff _).1 h).1

set_option maxRecDepth 100000 in
set_option maxHeartbeats 8000000 in
theorem recordBack_list (t : Int) (v1 : Value) (ws : List Wri) (k u : List UInt8) (rt mt mlo : Int) (v3 : Value) (ps : List Pai) (n : Int) (w : World) (hr1 : Rd3 w v1 (ws.map wV)) (hl1 : ws.length ≤ 1048576) (hk1 : ∀ y ∈ ws, y.key.length ≤ 1048576 ∧ y.val.length ≤ 1048576)
    (hkr : k.length ≤ 140737488355328) (hr3 : Rd3 w v3 (ps.map pV)) (hl3 : ps.length ≤ 1048576) (hwf : ∀ p ∈ ps, (Lit.int .i64 p.num).wf = true) (hn : -9223372036854775808 ≤ n ∧ n ≤ 9223372036854775807) :
    Calls Try.prog 21 #[.agg #[.int .i64 t, v1], .agg #[.string (bs k), .string (bs u), .int .i64 rt], .agg #[.int .i64 mt, .int .i64 mlo, v3], .int .i64 n] w fun e w' => e = .returned (.bool true) ∧ Below w.heap.size w w' := by
  obtain ⟨A1, c1, rfl, g1, g2, g3⟩ := id hr1
  obtain ⟨A3, c3, rfl, g4, g5, g6⟩ := id hr3
  clear g1 g2 g3 g4 g5 g6
  rw [List.length_map] at hr1 hr3 ⊢
  rw [List.length_map]
  have HR1 := Lib.hid (fun (W : World) (h : Below w.heap.size w W) => hr1.below h)
  have HR3 := Lib.hid (fun (W : World) (h : Below w.heap.size w W) => hr3.below h)
  have HK1 := Lib.hid hk1
  have HWF := Lib.hid hwf
  clear hr1 hr3 hk1 hwf
  obtain ⟨wa, hwa⟩ : ∃ wa, wa = w.alloc (.cells #[.int .i64 t, .slice A1 ws.length c1] 64) := ⟨_, rfl⟩
  obtain ⟨wb, hwb⟩ : ∃ wb, wb = wa.alloc (.cells #[.string (bs k), .string (bs u), .int .i64 rt] 81) := ⟨_, rfl⟩
  obtain ⟨w0, hw0⟩ : ∃ w0, w0 = wb.alloc (.cells #[.int .i64 mt, .int .i64 mlo, .slice A3 ps.length c3] 74) := ⟨_, rfl⟩
  obtain ⟨X, hX⟩ : ∃ X, X = w.heap.size := ⟨_, rfl⟩
  obtain ⟨Y, hY⟩ : ∃ Y, Y = w.heap.size + 1 := ⟨_, rfl⟩
  obtain ⟨Z, hZ⟩ : ∃ Z, Z = w.heap.size + 1 + 1 := ⟨_, rfl⟩
  have hza : wa.heap.size = w.heap.size + 1 := by rw [hwa]; simp
  have hzb : wb.heap.size = w.heap.size + 1 + 1 := by rw [hwb, ← hza]; simp
  have hba : Below w.heap.size w wa := by rw [hwa]; exact (Below.refl _ _).alloc (Nat.le_refl _) _
  have hbb : Below wa.heap.size wa wb := by rw [hwb]; exact (Below.refl _ _).alloc (Nat.le_refl _) _
  have hbc : Below wb.heap.size wb w0 := by rw [hw0]; exact (Below.refl _ _).alloc (Nat.le_refl _) _
  have hX0 : w0.heap[X]? = some (.cells #[.int .i64 t, .slice A1 ws.length c1] 64 (0, 0)) := heap_below (heap_below (by rw [hwa, hX]; exact heap_alloc_new w _) hbb) hbc
  have hY0 : w0.heap[Y]? = some (.cells #[.string (bs k), .string (bs u), .int .i64 rt] 81 (0, 0)) := heap_below (by rw [hwb, hY, ← hza]; exact heap_alloc_new wa _) hbc
  have hZ0 : w0.heap[Z]? = some (.cells #[.int .i64 mt, .int .i64 mlo, .slice A3 ps.length c3] 74 (0, 0)) := by rw [hw0, hZ, ← hzb]; exact heap_alloc_new wb _
  have HB0 := Lib.hid (hba.trans ((hbb.trans (hbc.mono hbb.size)).mono hba.size))
  have HX := Lib.hid (fun (W : World) (h : Below w0.heap.size w0 W) => heap_below hX0 h)
  have HY := Lib.hid (fun (W : World) (h : Below w0.heap.size w0 W) => heap_below hY0 h)
  have HZ := Lib.hid (fun (W : World) (h : Below w0.heap.size w0 W) => heap_below hZ0 h)
  have hsz : w.heap.size ≤ w0.heap.size := HB0.out.size
  have HT := Lib.hid (fun (W : World) (h : Below w0.heap.size w0 W) => HB0.out.trans (h.mono hsz))
  clear hza hzb hba hbb hbc hX0 hY0 hZ0
  go_enter Try.func21, Try.ntmps21
  go_upto_region 1 with fail
  rw [← hZ, ← hY, ← hX]
  rw [← hwa, ← hwb, ← hw0]
  clear hX hY hZ hwa hwb hw0
  go_wp2_with fail
  refine (rshown_any w0).mono ?_
  rintro e w1 ⟨rfl, hb1⟩
  have HB1 := Lib.hid hb1; clear hb1
  -- a commit: written, read
  have x0 := box_cells (HX.out w1 HB1.out) 0 (.int .i64 t) rfl
  have x1 := box_cells (HX.out w1 HB1.out) 1 (.slice A1 ws.length c1) rfl
  obtain ⟨L, hL⟩ : ∃ L, L = (if comOk t ws = true then encCom t.toNat ws else []) := ⟨_, rfl⟩
  obtain ⟨C, hC⟩ : ∃ C : Int, C = (if comOk t ws = true then 0 else 60) := ⟨_, rfl⟩
  have hLl : L.length ≤ 100000 := by
    rw [hL]
    split
    · rename_i h
      obtain ⟨tn, rfl⟩ := int_back (comOk_bounds h).1.1
      rw [Int.toNat_natCast]
      exact (encCom_len h).1
    · simp
  have HL := Lib.hid hL
  have HC := Lib.hid hC
  clear hL hC
  go_wp2_with fail
  refine (putCom_any t _ ws w1 (HR1.out w1 (HT.out w1 HB1.out)) hl1 HK1.out).mono ?_
  intro e w2 h2
  obtain ⟨hb2, v2, rfl, hr2⟩ := h2.known
  rw [← HL.out] at hr2
  rw [← HC.out]
  have HB2 := Lib.hid (HB1.out.trans (hb2.mono HB1.out.size))
  have HR2 := Lib.hid hr2
  obtain ⟨A2, c2, rfl, hc2, g2, g3⟩ := id hr2
  clear g2 g3
  clear h2 hb2 hr2 x0 x1
  go_wp2_with fail
  refine (rcom_any _ L w2 HR2.out (by omega)).mono ?_
  rintro e w3 ⟨v4, rfl, ho4, hb3⟩
  obtain ⟨⟨⟨t4, ws4⟩, p4, C4⟩, hd4⟩ : ∃ d, d = decCom L := ⟨_, rfl⟩
  rw [← hd4] at ho4 ⊢
  simp only at ho4 ⊢
  obtain ⟨A4, c4, rfl, g1, g2, g3⟩ := id ho4.rd
  clear g1 g2 g3
  rw [List.length_map] at ho4 ⊢
  have HB3 := Lib.hid (HB2.out.trans (hb3.mono HB2.out.size))
  have HRL3 := Lib.hid (HR2.out.below hb3)
  obtain ⟨w5, hw5⟩ : ∃ w5, w5 = w3.alloc (.cells #[.int .i64 (t4 : Int), .slice A4 ws4.length c4] 64) := ⟨_, rfl⟩
  obtain ⟨X5, hX5⟩ : ∃ X, X = w3.heap.size := ⟨_, rfl⟩
  have hb5 : Below w3.heap.size w3 w5 := by rw [hw5]; exact (Below.refl _ _).alloc (Nat.le_refl _) _
  have HX5 := Lib.hid (show w5.heap[X5]? = some (.cells #[.int .i64 (t4 : Int), .slice A4 ws4.length c4] 64 (0, 0)) from by rw [hw5, hX5]; exact heap_alloc_new w3 _)
  have HO5 := Lib.hid (ho4.below hb5)
  have HB5 := Lib.hid (HB3.out.trans (hb5.mono HB3.out.size))
  have HRL5 := Lib.hid (HRL3.out.below hb5)
  have HD4 := Lib.hid hd4
  clear hd4 ho4 hb3 hb5
  go_upto_region 4 with fail
  rw [← hw5, ← hX5]
  clear hw5 hX5
  go_cut [61] (fun v61 wx => v61 = .bool false ∧ Below w5.heap.size w5 wx)
  case first =>
    cases hok : comOk t ws with
    | false =>
      have hC : C = 60 := by rw [HC.out, hok]; rfl
      have a1 : ((C : Int) == 0) = false := by rw [hC]; decide
      clear hok hC
      go_wp2_with fail
      go_meet
      exact ⟨rfl, Below.refl _ _⟩
    | true =>
      obtain ⟨tn, rfl⟩ := int_back (comOk_bounds hok).1.1
      have hC : C = 0 := by rw [HC.out, hok]; rfl
      have hLe : L = encCom tn ws := by rw [HL.out, if_pos hok, Int.toNat_natCast]
      have hd := HD4.out
      rw [hLe, decCom_put hok] at hd
      simp only [Prod.mk.injEq] at hd
      obtain ⟨⟨rfl, rfl⟩, rfl, rfl⟩ := hd
      subst hC
      have x0 := box_cells (HX.out w5 HB5.out) 0 (.int .i64 (t4 : Int)) rfl
      have x1 := box_cells (HX.out w5 HB5.out) 1 (.slice A1 ws4.length c1) rfl
      have y0 := box_cells HX5.out 0 (.int .i64 (t4 : Int)) rfl
      have y1 := box_cells HX5.out 1 (.slice A4 ws4.length c4) rfl
      clear hok hLe
      go_wp2_with fail
      refine (sameCom_any (t4 : Int) _ _ ws4 w5 (HR1.out w5 (HT.out w5 HB5.out)) HO5.out.rd hl1).mono ?_
      rintro e w6 ⟨rfl, hb6⟩
      have HB6 := Lib.hid hb6; clear hb6 x0 x1 y0 y1
      go_wp2_with fail
      go_meet
      exact ⟨rfl, HB6.out⟩
  case rest =>
    obtain ⟨rfl, hb7⟩ := hcut
    have HB7 := Lib.hid (HB5.out.trans (hb7.mono HB5.out.size))
    have HRL7 := Lib.hid (HRL5.out.below hb7)
    clear hb7
    -- a row: written, read
    have y0 := box_cells (HY.out wc HB7.out) 0 (.string (bs k)) rfl
    have y1 := box_cells (HY.out wc HB7.out) 1 (.string (bs u)) rfl
    have y2 := box_cells (HY.out wc HB7.out) 2 (.int .i64 rt) rfl
    obtain ⟨w7, hw7⟩ : ∃ x, x = wc := ⟨_, rfl⟩
    rw [← hw7] at HB7 HRL7 y0 y1 y2 ⊢
    clear hw7
    obtain ⟨M, hM⟩ : ∃ M, M = (if (isKey k && isVal u && isTm rt) = true then encRow k u rt.toNat else []) := ⟨_, rfl⟩
    obtain ⟨D, hD⟩ : ∃ D : Int, D = (if (isKey k && isVal u && isTm rt) = true then 0 else 60) := ⟨_, rfl⟩
    have hMl : M.length ≤ 100000 := by
      rw [hM]
      split
      · rename_i h
        simp only [Bool.and_eq_true] at h
        obtain ⟨tn, rfl⟩ := isTm_back h.2
        rw [Int.toNat_natCast]
        have := encRow_len h.1.1 h.1.2 h.2
        omega
      · simp
    have HM := Lib.hid hM
    have HD := Lib.hid hD
    clear hM hD
    go_wp2_with fail
    refine (putRow_any k u rt w7 hkr).mono ?_
    intro e w8 h8
    obtain ⟨hb8, v8, rfl, hr8⟩ := h8.known
    rw [← HM.out] at hr8
    rw [← HD.out]
    have HB8 := Lib.hid (HB7.out.trans (hb8.mono HB7.out.size))
    have HRL8 := Lib.hid (HRL7.out.below hb8)
    have HR8 := Lib.hid hr8
    obtain ⟨A8, c8, rfl, g1, g2, g3⟩ := id hr8
    clear g1 g2 g3
    clear h8 hb8 hr8 y0 y1 y2
    go_wp2_with fail
    refine (rrow_any _ M w8 HR8.out (by omega)).mono ?_
    rintro e w9 ⟨rfl, hb9⟩
    obtain ⟨⟨⟨k9, u9, t9⟩, p9, C9⟩, hd9⟩ : ∃ d, d = decRow M := ⟨_, rfl⟩
    unfold rowA
    rw [← hd9]
    simp only
    have HB9 := Lib.hid (HB8.out.trans (hb9.mono HB8.out.size))
    obtain ⟨w10, hw10⟩ : ∃ x, x = w9.alloc (.cells #[.string (bs k9), .string (bs u9), .int .i64 (t9 : Int)] 81) := ⟨_, rfl⟩
    obtain ⟨X10, hX10⟩ : ∃ X, X = w9.heap.size := ⟨_, rfl⟩
    have hb10 : Below w9.heap.size w9 w10 := by rw [hw10]; exact (Below.refl _ _).alloc (Nat.le_refl _) _
    have HX10 := Lib.hid (show w10.heap[X10]? = some (.cells #[.string (bs k9), .string (bs u9), .int .i64 (t9 : Int)] 81 (0, 0)) from by rw [hw10, hX10]; exact heap_alloc_new w9 _)
    have HB10 := Lib.hid (HB9.out.trans (hb10.mono HB9.out.size))
    have HRL10 := Lib.hid ((HRL8.out.below hb9).below hb10)
    have HD9 := Lib.hid hd9
    clear hd9 hb9 hb10
    go_upto_region 8 with fail
    rw [← hw10, ← hX10]
    clear hw10 hX10
    go_cut [83] (fun v83 wx => v83 = .bool false ∧ wx = w10)
    case first =>
      cases hok : (isKey k && isVal u && isTm rt) with
      | false =>
        have hC : D = 60 := by rw [HD.out, hok]; rfl
        have a1 : ((D : Int) == 0) = false := by rw [hC]; decide
        clear hok hC
        go_wp2_with fail
        go_meet
        exact ⟨rfl, rfl⟩
      | true =>
        have hok3 : isKey k = true ∧ isVal u = true ∧ isTm rt = true := by simpa [Bool.and_eq_true, and_assoc] using hok
        obtain ⟨tn, rfl⟩ := isTm_back hok3.2.2
        have hC : D = 0 := by rw [HD.out, hok]; rfl
        have hLe : M = encRow k u tn := by rw [HM.out, if_pos hok, Int.toNat_natCast]
        have hd := HD9.out
        rw [hLe, decRow_put hok3.1 hok3.2.1 hok3.2.2] at hd
        simp only [Prod.mk.injEq, RowP.mk.injEq] at hd
        obtain ⟨⟨rfl, rfl, rfl⟩, rfl, rfl⟩ := hd
        subst hC
        have y0 := box_cells (HY.out w10 HB10.out) 0 (.string (bs k9)) rfl
        have y1 := box_cells (HY.out w10 HB10.out) 1 (.string (bs u9)) rfl
        have y2 := box_cells (HY.out w10 HB10.out) 2 (.int .i64 (t9 : Int)) rfl
        have z0 := box_cells HX10.out 0 (.string (bs k9)) rfl
        have z1 := box_cells HX10.out 1 (.string (bs u9)) rfl
        have z2 := box_cells HX10.out 2 (.int .i64 (t9 : Int)) rfl
        clear hok hok3 hLe
        go_wp2_with fail
        go_meet
        exact ⟨by simp, rfl⟩
    case rest =>
      obtain ⟨rfl, rfl⟩ := hcut
      -- a manifest: written, read
      obtain ⟨w11, hw11⟩ : ∃ x, x = wc := ⟨_, rfl⟩
      rw [← hw11] at HB10 HRL10 ⊢
      clear hw11
      have y0 := box_cells (HZ.out w11 HB10.out) 0 (.int .i64 mt) rfl
      have y1 := box_cells (HZ.out w11 HB10.out) 1 (.int .i64 mlo) rfl
      have y2 := box_cells (HZ.out w11 HB10.out) 2 (.slice A3 ps.length c3) rfl
      obtain ⟨N, hN⟩ : ∃ N, N = (if manOk mt mlo ps = true then encMan mt.toNat mlo.toNat ps else []) := ⟨_, rfl⟩
      obtain ⟨E, hE⟩ : ∃ E : Int, E = (if manOk mt mlo ps = true then 0 else 60) := ⟨_, rfl⟩
      have hNl : N.length ≤ 100000 := by
        rw [hN]
        split
        · rename_i h
          obtain ⟨b1, b2, _⟩ := manOk_bounds h
          obtain ⟨tn, rfl⟩ := int_back b1.1
          obtain ⟨gn, rfl⟩ := int_back (show 0 ≤ mlo by omega)
          rw [Int.toNat_natCast, Int.toNat_natCast]
          have := encMan_len h
          omega
        · simp
      have HN := Lib.hid hN
      have HE := Lib.hid hE
      clear hN hE
      go_wp2_with fail
      refine (putMan_any mt mlo _ ps w11 (HR3.out w11 (HT.out w11 HB10.out)) HWF.out).mono ?_
      intro e w12 h12
      obtain ⟨hb12, v12, rfl, hr12⟩ := h12.known
      rw [← HN.out] at hr12
      rw [← HE.out]
      have HB12 := Lib.hid (HB10.out.trans (hb12.mono HB10.out.size))
      have HRL12 := Lib.hid (HRL10.out.below hb12)
      have HR12 := Lib.hid hr12
      obtain ⟨A12, c12, rfl, g1, g2, g3⟩ := id hr12
      clear g1 g2 g3
      clear h12 hb12 hr12 y0 y1 y2
      go_wp2_with fail
      refine (rman_any _ N w12 HR12.out (by omega)).mono ?_
      rintro e w13 ⟨v13, rfl, ho13, hb13⟩
      obtain ⟨⟨⟨t13, g13, ps13⟩, p13, C13⟩, hd13⟩ : ∃ d, d = decMan N := ⟨_, rfl⟩
      rw [← hd13] at ho13 ⊢
      simp only at ho13 ⊢
      obtain ⟨A13, c13, rfl, g1, g2, g3⟩ := id ho13.rd
      clear g1 g2 g3
      rw [List.length_map] at ho13 ⊢
      have HB13 := Lib.hid (HB12.out.trans (hb13.mono HB12.out.size))
      obtain ⟨w14, hw14⟩ : ∃ x, x = w13.alloc (.cells #[.int .i64 (t13 : Int), .int .i64 (g13 : Int), .slice A13 ps13.length c13] 74) := ⟨_, rfl⟩
      obtain ⟨X14, hX14⟩ : ∃ X, X = w13.heap.size := ⟨_, rfl⟩
      have hb14 : Below w13.heap.size w13 w14 := by rw [hw14]; exact (Below.refl _ _).alloc (Nat.le_refl _) _
      have HX14 := Lib.hid (show w14.heap[X14]? = some (.cells #[.int .i64 (t13 : Int), .int .i64 (g13 : Int), .slice A13 ps13.length c13] 74 (0, 0)) from by rw [hw14, hX14]; exact heap_alloc_new w13 _)
      have HO14 := Lib.hid (ho13.below hb14)
      have HB14 := Lib.hid (HB13.out.trans (hb14.mono HB13.out.size))
      have HRL14 := Lib.hid ((HRL12.out.below hb13).below hb14)
      have HD13 := Lib.hid hd13
      clear hd13 ho13 hb13 hb14
      go_upto_region 12 with fail
      rw [← hw14, ← hX14]
      clear hw14 hX14
      go_cut [106] (fun v106 wx => v106 = .bool false ∧ Below w14.heap.size w14 wx)
      case first =>
        cases hok : manOk mt mlo ps with
        | false =>
          have hC : E = 60 := by rw [HE.out, hok]; rfl
          have a1 : ((E : Int) == 0) = false := by rw [hC]; decide
          clear hok hC
          go_wp2_with fail
          go_meet
          exact ⟨rfl, Below.refl _ _⟩
        | true =>
          obtain ⟨b1, b2, _⟩ := manOk_bounds hok
          obtain ⟨tn, rfl⟩ := int_back b1.1
          obtain ⟨gn, rfl⟩ := int_back (show 0 ≤ mlo by omega)
          have hC : E = 0 := by rw [HE.out, hok]; rfl
          have hLe : N = encMan tn gn ps := by rw [HN.out, if_pos hok, Int.toNat_natCast, Int.toNat_natCast]
          have hd := HD13.out
          rw [hLe, decMan_put hok] at hd
          simp only [Prod.mk.injEq] at hd
          obtain ⟨⟨rfl, rfl, rfl⟩, rfl, rfl⟩ := hd
          subst hC
          have y0 := box_cells (HZ.out w14 HB14.out) 0 (.int .i64 (t13 : Int)) rfl
          have y1 := box_cells (HZ.out w14 HB14.out) 1 (.int .i64 (g13 : Int)) rfl
          have y2 := box_cells (HZ.out w14 HB14.out) 2 (.slice A3 ps13.length c3) rfl
          have z0 := box_cells HX14.out 0 (.int .i64 (t13 : Int)) rfl
          have z1 := box_cells HX14.out 1 (.int .i64 (g13 : Int)) rfl
          have z2 := box_cells HX14.out 2 (.slice A13 ps13.length c13) rfl
          clear hok hLe b1 b2
          go_wp2_with fail
          refine (sameMan_any (t13 : Int) (g13 : Int) _ _ ps13 w14 (HR3.out w14 (HT.out w14 HB14.out)) HO14.out.rd hl3).mono ?_
          rintro e w15 ⟨rfl, hb15⟩
          have HB15 := Lib.hid hb15; clear hb15 y0 y1 y2 z0 z1 z2
          go_wp2_with fail
          go_meet
          exact ⟨rfl, HB15.out⟩
      case rest =>
        obtain ⟨rfl, hb16⟩ := hcut
        obtain ⟨w16, hw16⟩ : ∃ x, x = wc := ⟨_, rfl⟩
        rw [← hw16] at hb16 ⊢
        clear hw16
        have HB16 := Lib.hid (HB14.out.trans (hb16.mono HB14.out.size))
        have HRL16 := Lib.hid (HRL14.out.below hb16)
        clear hb16
        cases hok : comOk t ws with
        | false =>
          have hC : C = 60 := by rw [HC.out, hok]; rfl
          have hLe : L = [] := by rw [HL.out, hok]; rfl
          have a1 : ((C : Int) != 0) = true := by rw [hC]; decide
          have a2 : ((L.length : Int) == 0) = true := by rw [hLe]; decide
          clear hok hC hLe
          go_wp2_with fail
          go_ret
          exact ⟨ret_bool (by simp), HT.out w16 HB16.out⟩
        | true =>
          obtain ⟨tn, rfl⟩ := int_back (comOk_bounds hok).1.1
          have hC : C = 0 := by rw [HC.out, hok]; rfl
          have hLe : L = encCom tn ws := by rw [HL.out, if_pos hok, Int.toNat_natCast]
          have hLp : 0 < L.length := by rw [hLe]; exact (encCom_len hok).2
          have HOK := Lib.hid hok
          have HLE := Lib.hid hLe
          have a1 : ((C : Int) != 0) = false := by rw [hC]; decide
          clear hok hC hLe
          go_upto_if 113 with fail
          go_cut [3] (fun v3 wx => ∃ m : Nat, v3 = .int .i64 (m : Int) ∧ m ≤ 9223372036854775807 ∧ wx = w16)
          case first =>
            by_cases hneg : n < 0
            · have b1 : decide (n < 0) = true := by simp; omega
              rw [b1]
              clear b1
              go_wp2_with fail
              go_meet
              exact ⟨_, int_nat (by omega), by omega, rfl⟩
            · have b1 : decide (n < 0) = false := by simp; omega
              rw [b1]
              clear b1
              go_wp2_with fail
              go_meet
              exact ⟨_, int_nat (by omega), by omega, rfl⟩
          case rest =>
            obtain ⟨m, rfl, hm, rfl⟩ := hcut
            obtain ⟨w17, hw17⟩ : ∃ x, x = wc := ⟨_, rfl⟩
            rw [← hw17] at HB16 HRL16 ⊢
            clear hw17
            -- a beginning of the bytes
            obtain ⟨kk, hkk⟩ : ∃ kk, kk = m % L.length := ⟨_, rfl⟩
            have hkl : kk < L.length := by rw [hkk]; exact Nat.mod_lt _ hLp
            obtain ⟨F, hF, hcutF, hrdF⟩ := cut_h A2 c2 L (kk : Int) (by omega) (by omega) hc2
            rw [Int.toNat_natCast] at hF
            have hrem : Int.tmod (m : Int) (L.length : Int) = (kk : Int) := by rw [hkk]; rfl
            have hLz : ((L.length : Int) == 0) = false := by rw [beq_eq_false_iff_ne]; omega
            have HF := Lib.hid hF
            have HRF := Lib.hid (hrdF w17 HRL16.out)
            have hFl : F.length ≤ 100000 := by rw [hF, List.length_take]; omega
            have hless : (decCom F).2.2 ≠ 0 := by rw [hF, HLE.out]; exact decCom_less HOK.out (by rw [← HLE.out]; exact hkl)
            have hmore : (decCom (L ++ [0])).2.2 = 61 := by rw [HLE.out]; exact decCom_more HOK.out 0
            have hrow : (decRow L).2.2 = 61 := by rw [HLE.out]; exact decRow_com tn ws
            have HLESS := Lib.hid hless; have HMORE := Lib.hid hmore; have HROW := Lib.hid hrow
            clear hF hkk hrdF hless hmore hrow
            go_wp2_with fail
            refine (rcom_any _ F w17 HRF.out (by omega)).mono ?_
            rintro e w18 ⟨v18, rfl, ho18, hb18⟩
            obtain ⟨⟨⟨t18, ws18⟩, p18, C18⟩, hd18⟩ : ∃ d, d = decCom F := ⟨_, rfl⟩
            have hc18 := HLESS.out
            rw [← hd18] at ho18 hc18 ⊢
            simp only at ho18 hc18 ⊢
            obtain ⟨A18, c18, rfl, g1, g2, g3⟩ := id ho18.rd
            clear g1 g2 g3
            rw [List.length_map]
            have HB18 := Lib.hid (HB16.out.trans (hb18.mono HB16.out.size))
            obtain ⟨w19, hw19⟩ : ∃ x, x = w18.alloc (.cells #[.int .i64 (t18 : Int), .slice A18 ws18.length c18] 64) := ⟨_, rfl⟩
            have hb19 : Below w18.heap.size w18 w19 := by rw [hw19]; exact (Below.refl _ _).alloc (Nat.le_refl _) _
            have HB19 := Lib.hid (HB18.out.trans (hb19.mono HB18.out.size))
            have HRL19 := Lib.hid ((HRL16.out.below hb18).below hb19)
            have z18 : ((C18 : Int) != 0) = true := by rw [bne_iff_ne]; omega
            clear ho18 hb18 hb19 hd18 hc18 hcutF hrem hLz
            go_upto_region 19 with fail
            rw [← hw19]
            clear hw19
            -- one more byte
            have HOL := Lib.hid (show Own (w19.alloc (.cells #[] 5)) w19.heap.size (.slice (some ⟨w19.heap.size, 0, none⟩) 0 0) [] from World.ownsRow_made w19 #[] 0 (Nat.le_refl _) (by simp [maxLen]) (by simp))
            have HBL := Lib.hid (show Below w19.heap.size w19 (w19.alloc (.cells #[] 5)) from (Below.refl _ _).alloc (Nat.le_refl _) _)
            have HRLL := Lib.hid (HRL19.out.below HBL.out)
            go_wp2_with (first
              | (at_builtin; refine own_append_row w19.heap.size rfl (.tmp 129) (.tmp 130) rfl _ _ [] L rfl rfl HOL.out HRLL.out ?hb ?hl ?_; (case hb => exact HBL.out.size); (case hl => simp only [List.length_nil]; omega); intro v20 w20 hown hb20 hg hat; rw [List.nil_append] at hown; have HO20 := Lib.hid hown; have HB20 := Lib.hid (HBL.out.trans hb20); clear hown hb20 hg hat)
              | (at_builtin; refine own_append1 w19.heap.size rfl (.tmp 131) (.tmp 132) rfl _ L 0 _ rfl rfl rfl HO20.out ?hb2 ?hl2 ?_; (case hb2 => exact HB20.out.size); (case hl2 => omega); intro v21 w21 hown hb21 hg hat; have HO21 := Lib.hid hown; have HB21 := Lib.hid (HB20.out.trans hb21); clear hown hb21 hg hat))
            have HRL21 := Lib.hid (HRL19.out.below HB21.out)
            have HT21 := Lib.hid (HB19.out.trans (HB21.out.mono HB19.out.size))
            refine (rcom_any _ (L ++ [0]) w21 HO21.out.rd (by rw [List.length_append, List.length_singleton]; omega)).mono ?_
            rintro e w22 ⟨v22, rfl, ho22, hb22⟩
            obtain ⟨⟨⟨t22, ws22⟩, p22, C22⟩, hd22⟩ : ∃ d, d = decCom (L ++ [0]) := ⟨_, rfl⟩
            have hc22 := HMORE.out
            rw [← hd22] at ho22 hc22 ⊢
            simp only at ho22 hc22 ⊢
            obtain ⟨A22, c22, rfl, g1, g2, g3⟩ := id ho22.rd
            clear g1 g2 g3
            rw [List.length_map]
            have HB22 := Lib.hid (HT21.out.trans (hb22.mono HT21.out.size))
            obtain ⟨w23, hw23⟩ : ∃ x, x = w22.alloc (.cells #[.int .i64 (t22 : Int), .slice A22 ws22.length c22] 64) := ⟨_, rfl⟩
            have hb23 : Below w22.heap.size w22 w23 := by rw [hw23]; exact (Below.refl _ _).alloc (Nat.le_refl _) _
            have HB23 := Lib.hid (HB22.out.trans (hb23.mono HB22.out.size))
            have HRL23 := Lib.hid ((HRL21.out.below hb22).below hb23)
            subst hc22
            clear ho22 hb22 hb23 hd22
            go_upto_region 20 with fail
            rw [← hw23]
            clear hw23
            -- no row
            go_wp2_with fail
            refine (rrow_any _ L w23 HRL23.out (by omega)).mono ?_
            rintro e w24 ⟨rfl, hb24⟩
            obtain ⟨⟨⟨k24, u24, t24⟩, p24, C24⟩, hd24⟩ : ∃ d, d = decRow L := ⟨_, rfl⟩
            have hc24 := HROW.out
            unfold rowA
            rw [← hd24] at hc24 ⊢
            simp only at hc24 ⊢
            have HB24 := Lib.hid (HB23.out.trans (hb24.mono HB23.out.size))
            obtain ⟨w25, hw25⟩ : ∃ x, x = w24.alloc (.cells #[.string (bs k24), .string (bs u24), .int .i64 (t24 : Int)] 81) := ⟨_, rfl⟩
            have hb25 : Below w24.heap.size w24 w25 := by rw [hw25]; exact (Below.refl _ _).alloc (Nat.le_refl _) _
            have HB25 := Lib.hid (HB24.out.trans (hb25.mono HB24.out.size))
            subst hc24
            clear hb24 hb25 hd24
            go_upto_region 21 with fail
            rw [← hw25]
            clear hw25
            go_wp2_with fail
            go_ret
            exact ⟨ret_bool (by simp), HT.out w25 HB25.out⟩

theorem recordBack_any (t : Int) (v1 : Value) (ws : List Wri) (k u : ByteArray) (rt mt mlo : Int) (v3 : Value) (ps : List Pai) (n : Int) (w : World) (hr1 : Rd3 w v1 (ws.map wV)) (hl1 : ws.length ≤ 1048576) (hk1 : ∀ y ∈ ws, y.key.length + y.val.length ≤ 1048576)
    (hkr : k.size ≤ 1048576) (hr3 : Rd3 w v3 (ps.map pV)) (hl3 : ps.length ≤ 1048576) (hwf : ∀ p ∈ ps, (Lit.int .i64 p.num).wf = true ∧ (Lit.int .i64 p.from_).wf = true ∧ (Lit.int .i64 p.to_).wf = true) (hn : (Lit.int .i64 n).wf = true) :
    Calls Try.prog 21 #[.agg #[.int .i64 t, v1], .agg #[.string k, .string u, .int .i64 rt], .agg #[.int .i64 mt, .int .i64 mlo, v3], .int .i64 n] w fun e w' => e = .returned (.bool true) ∧ Below w.heap.size w w' := by
  rw [bs_back k, bs_back u]
  refine recordBack_list t v1 ws _ _ rt mt mlo v3 ps n w hr1 hl1 (fun y hy => by have := hk1 y hy; omega) ?_ hr3 hl3 (fun p hp => (hwf p hp).1) (i64_of hn)
  rw [Array.length_toList]
  have : k.size = k.data.size := rfl
  omega
end Go.Proofs.Ytggjipfdfpdecaa
