/- The walk of the law RecordReads: the program and the document read any bytes alike, and what comes out is its owner's. Condition: the bytes' length is that of a slice of Go. -/
import Derived.Test.YtggjipfdfpdecaaZ14
import Derived.Test.YtggjipfdfpdecaaZ13
import Derived.Test.YtggjipfdfpdecaaZ11
set_option linter.unusedVariables false
namespace Go.Proofs.Ytggjipfdfpdecaa
open Go.RowKit
attribute [local go_sem] bs_list bs_size

/-- There is room for so many elements of three cells, behind a place. -/
def Room3 (w : World) (B E : Nat) (A : Option Addr) (n : Nat) : Prop := 0 < n → ∃ g cur, A = some ⟨g, 0, none⟩ ∧ B ≤ g ∧ w.heap[g]? = some (.cells cur E (0, 0)) ∧ n * 3 ≤ cur.size
theorem Own3.room {w : World} {base B E n c : Nat} {A : Option Addr} {xs : List V3} (h : Own3 w base E (.slice A n c) xs) (hn : n = xs.length) (hB : B ≤ base) : Room3 w B E A n := by
  intro hp
  rcases h.2 with ⟨_, h0⟩ | ⟨g, cap, cur, hv, hb, hg, hc, hm, hs, ht⟩
  · omega
  · injection hv with h1 h2 h3
    subst h1
    exact ⟨g, cur, rfl, by omega, hg, by rw [hs]; omega⟩
theorem Room3.below {w w' : World} {B E n : Nat} {A : Option Addr} (h : Room3 w B E A n) (hb : Below w.heap.size w w') : Room3 w' B E A n := by
  intro hp
  obtain ⟨g, cur, h1, h2, h3, h4⟩ := h hp
  exact ⟨g, cur, h1, h2, heap_below h3 hb, h4⟩
/-- Three cells in the midst are stored. -/
theorem sets3 {w : World} {g i j k : Nat} {cur : Array Value} {t : TypeId} (h : w.heap[g]? = some (.cells cur t (0, 0))) (x y z : Value) :
    (∃ cur', (((w.setCell ⟨g, i, none⟩ x).setCell ⟨g, j, none⟩ y).setCell ⟨g, k, none⟩ z).heap[g]? = some (.cells cur' t (0, 0)) ∧ cur'.size = cur.size) ∧ w.grownBy (((w.setCell ⟨g, i, none⟩ x).setCell ⟨g, j, none⟩ y).setCell ⟨g, k, none⟩ z) (some g) :=
  ⟨⟨_, set_at (set_at (set_at h i x) j y) k z, by simp⟩, ((only_one _ _ _ _).trans (only_one _ _ _ _)).trans (only_one _ _ _ _)⟩

theorem decCom_wlen (b : List UInt8) : (decCom b).1.2.length ≤ 64 := by
  unfold decCom ansC
  simp only
  split
  · exact Nat.le_trans (rList_len _ _ _) (rNum_le _ _ _)
  · simp
theorem decMan_plen (b : List UInt8) : (decMan b).1.2.2.length ≤ 16 := by
  unfold decMan ansC
  simp only
  split
  · exact Nat.le_trans (rList_len _ _ _) (rNum_le _ _ _)
  · simp

set_option maxRecDepth 100000 in
set_option maxHeartbeats 8000000 in
theorem recordReads_any (v : Value) (b : List UInt8) (w : World) (hr : RdB w v b) (hl : b.length * 1 ≤ 140737488351232) :
    Calls Try.prog 18 #[v] w fun e w' => e = .returned (.bool true) ∧ Below w.heap.size w w' := by
  obtain ⟨A, c, rfl, g1, g2, g3⟩ := id hr
  clear g1 g2 g3
  have HR := Lib.hid (fun (W : World) (h : Below w.heap.size w W) => hr.below h)
  have hb : b.length ≤ 140737488355328 := by omega
  clear hr hl
  go_enter Try.func18, Try.ntmps18
  go_wp2_with fail
  refine (rshown_any w).mono ?_
  rintro e w1 ⟨rfl, hb1⟩
  have HB1 := Lib.hid hb1; clear hb1
  -- the copy
  have HOL := Lib.hid (show Own (w1.alloc (.cells #[] 5)) w.heap.size (.slice (some ⟨w1.heap.size, 0, none⟩) 0 0) [] from World.ownsRow_made w1 #[] 0 HB1.out.size (by simp [maxLen]) (by simp))
  have HBL := Lib.hid (HB1.out.alloc HB1.out.size (.cells #[] 5))
  go_wp2_with (at_builtin; refine own_append_row w.heap.size rfl (.tmp 35) (.tmp 36) rfl _ _ [] b rfl rfl HOL.out (HR.out _ HBL.out) ?hb ?hl ?_; (case hb => exact HBL.out.size); (case hl => simp only [List.length_nil]; omega); intro v3 w3 hown hb3 hg hat; rw [List.nil_append] at hown; have HO2 := Lib.hid hown.rd; (obtain ⟨Ai, ci, rfl, _, _, _⟩ := id hown.rd); have HB2 := Lib.hid (HBL.out.trans hb3); clear hown hb3 hg hat)
  have HI := Lib.hid (fun (W : World) (h : Below w3.heap.size w3 W) => HO2.out.below h)
  have HBB := Lib.hid (fun (W : World) (h : Below w3.heap.size w3 W) => HR.out W (HB2.out.trans (h.mono HB2.out.size)))
  have hs3 : w.heap.size ≤ w3.heap.size := HB2.out.size
  obtain ⟨⟨⟨t, ws⟩, pc, cc⟩, hd⟩ : ∃ d, d = decCom b := ⟨_, rfl⟩
  have HDC := Lib.hid hd; clear hd
  obtain ⟨⟨⟨mt, mg, ps⟩, pm, cm⟩, hd⟩ : ∃ d, d = decMan b := ⟨_, rfl⟩
  have HDM := Lib.hid hd; clear hd
  have hwl : ws.length ≤ 64 := by have := decCom_wlen b; rw [← HDC.out] at this; exact this
  have hpl : ps.length ≤ 16 := by have := decMan_plen b; rw [← HDM.out] at this; exact this
  clear HOL HBL
  go_wp2_with fail
  go_loopw [5] (fun v5 wr => ∃ j : Nat, j ≤ 2 ∧ v5 = .int .i64 (j : Int) ∧ Below w3.heap.size w3 wr) (fun v5 _ => 2 - (intOf v5).toNat)
  case atStart => exact ⟨0, by omega, rfl, Below.refl _ _⟩
  case round =>
    obtain ⟨j, hj, rfl, hbr⟩ := hrel
    obtain ⟨w4, hw4⟩ : ∃ x, x = wr := ⟨_, rfl⟩
    rw [← hw4] at hbr ⊢
    clear hw4
    have HBR := Lib.hid hbr; clear hbr
    by_cases hlt : j < 2
    · have t1 : decide ((j : Int) < 2) = true := by simp; omega
      go_wp2_with fail
      refine (rcom_any _ b w4 (HI.out w4 HBR.out) hb).mono ?_
      rintro e k3 ⟨v3, rfl, ho3, hb3⟩
      rw [← HDC.out] at ho3 ⊢
      simp only at ho3 ⊢
      obtain ⟨A3, c3, rfl, g1, g2, g3⟩ := id ho3.rd
      clear g1 g2 g3
      rw [List.length_map] at ho3 ⊢
      have HK3 := Lib.hid (HBR.out.trans (hb3.mono HBR.out.size))
      obtain ⟨k4, hk4⟩ : ∃ x, x = k3.alloc (.cells #[.int .i64 (t : Int), .slice A3 ws.length c3] 64) := ⟨_, rfl⟩
      obtain ⟨X4, hX4⟩ : ∃ X, X = k3.heap.size := ⟨_, rfl⟩
      have hb4 : Below k3.heap.size k3 k4 := by rw [hk4]; exact (Below.refl _ _).alloc (Nat.le_refl _) _
      have HX4 := Lib.hid (show k4.heap[X4]? = some (.cells #[.int .i64 (t : Int), .slice A3 ws.length c3] 64 (0, 0)) from by rw [hk4, hX4]; exact heap_alloc_new k3 _)
      have HO4 := Lib.hid (ho3.below hb4)
      have HK4 := Lib.hid (HK3.out.trans (hb4.mono HK3.out.size))
      clear ho3 hb3 hb4
      go_upto_region 7 with fail
      rw [← hk4, ← hX4]
      clear hk4 hX4
      go_wp2_with fail
      refine (fcom_any _ b k4 (HBB.out k4 HK4.out) hb).mono ?_
      rintro e k5 ⟨v5, rfl, ho5, hb5⟩
      rw [← HDC.out] at ho5 ⊢
      simp only at ho5 ⊢
      obtain ⟨A5, c5, rfl, g1, g2, g3⟩ := id ho5.rd
      clear g1 g2 g3
      rw [List.length_map] at ho5 ⊢
      obtain ⟨k6, hk6⟩ : ∃ x, x = k5.alloc (.cells #[.int .i64 (t : Int), .slice A5 ws.length c5] 64) := ⟨_, rfl⟩
      obtain ⟨X6, hX6⟩ : ∃ X, X = k5.heap.size := ⟨_, rfl⟩
      have hb6 : Below k5.heap.size k5 k6 := by rw [hk6]; exact (Below.refl _ _).alloc (Nat.le_refl _) _
      have hb46 : Below k4.heap.size k4 k6 := hb5.trans (hb6.mono hb5.size)
      have HX6 := Lib.hid (show k6.heap[X6]? = some (.cells #[.int .i64 (t : Int), .slice A5 ws.length c5] 64 (0, 0)) from by rw [hk6, hX6]; exact heap_alloc_new k5 _)
      have HX46 := Lib.hid (heap_below HX4.out hb46)
      have HO6 := Lib.hid (ho5.below hb6)
      have HO46 := Lib.hid (HO4.out.below hb46)
      have HK6 := Lib.hid (HK4.out.trans (hb46.mono HK4.out.size))
      clear ho5 hb5 hb6 hb46
      go_upto_region 8 with fail
      rw [← hk6, ← hX6]
      clear hk6 hX6
      have x0 := box_cells HX46.out 0 (.int .i64 (t : Int)) rfl
      have x1 := box_cells HX46.out 1 (.slice A3 ws.length c3) rfl
      have y0 := box_cells HX6.out 0 (.int .i64 (t : Int)) rfl
      have y1 := box_cells HX6.out 1 (.slice A5 ws.length c5) rfl
      go_wp2_with fail
      refine (sameCom_any (t : Int) _ _ ws k6 HO46.out.rd HO6.out.rd (by omega)).mono ?_
      rintro e k7 ⟨rfl, hb7⟩
      have HX7 := Lib.hid (heap_below HX46.out hb7)
      have HO7 := Lib.hid (HO46.out.below hb7)
      have HK7 := Lib.hid (HK6.out.trans (hb7.mono HK6.out.size))
      have HRM := Lib.hid (HO7.out.room (B := w3.heap.size) (by rw [List.length_map]) HBR.out.size)
      clear x0 x1 y0 y1 hb7
      go_wp2_with fail
      go_loopw [13] (fun v13 wl => ∃ i : Nat, i ≤ ws.length ∧ v13 = .int .i64 (i : Int) ∧ Below w3.heap.size w3 wl ∧ wl.heap[X4]? = some (.cells #[.int .i64 (t : Int), .slice A3 ws.length c3] 64 (0, 0)) ∧ Room3 wl w3.heap.size 66 A3 ws.length) (fun v13 _ => ws.length - (intOf v13).toNat)
      case atStart => exact ⟨0, by omega, rfl, HK7.out, HX7.out, HRM.out⟩
      case round =>
        obtain ⟨i, hi, rfl, hbl, hxl, hrl⟩ := hrel
        obtain ⟨we, hwe⟩ : ∃ x, x = wr := ⟨_, rfl⟩
        rw [← hwe] at hbl hxl hrl ⊢
        clear hwe
        have HBLL := Lib.hid hbl
        have HXL := Lib.hid hxl
        have z1 := box_cells hxl 1 (.slice A3 ws.length c3) rfl
        clear hbl hxl
        by_cases hil : i < ws.length
        · have t2 : decide ((i : Int) < (ws.length : Int)) = true := by simp; omega
          obtain ⟨g, cur, hA, hg1, hg2, hg3⟩ := hrl (by omega)
          subst hA
          have c0 : we.cell? ⟨g, i * 3, none⟩ = some (cur[i * 3]'(by omega)) := by rw [cell_of_row we g (i * 3) cur 66 (0, 0) hg2, Array.getElem?_eq_getElem]
          have c1 : we.cell? ⟨g, i * 3 + 1, none⟩ = some (cur[i * 3 + 1]'(by omega)) := by rw [cell_of_row we g (i * 3 + 1) cur 66 (0, 0) hg2, Array.getElem?_eq_getElem]
          have c2 : we.cell? ⟨g, i * 3 + 2, none⟩ = some (cur[i * 3 + 2]'(by omega)) := by rw [cell_of_row we g (i * 3 + 2) cur 66 (0, 0) hg2, Array.getElem?_eq_getElem]
          have fz : ∀ o, we.frozen? ⟨g, o, none⟩ = false := by intro o; simp [World.frozen?, hg2]
          have hXg : X4 ≠ g := by rintro rfl; have := HXL.out; rw [hg2] at this; injection this with this; injection this with _ h _; exact absurd h (by decide)
          obtain ⟨⟨cur', hc1, hc2⟩, hgr⟩ := sets3 (i := i * 3) (j := i * 3 + 1) (k := i * 3 + 2) hg2 (.string (bs [])) (.string (bs [])) (.bool false)
          have HBN := Lib.hid (blw HBLL.out hgr hg1 (Nat.le_refl _))
          have HXN := Lib.hid (heap_grown HXL.out hgr hXg)
          have HRN := Lib.hid (show Room3 _ w3.heap.size 66 (some ⟨g, 0, none⟩) ws.length from fun _ => ⟨g, cur', rfl, hg1, hc1, by omega⟩)
          clear hrl hg2 hc1 hc2 hgr
          go_wp2_with fail
          go_roundw
          case rel => exact ⟨i + 1, by omega, by go_num, HBN.out, HXN.out, HRN.out⟩
          case measure => simp [intOf]; omega
        · have t2 : decide ((i : Int) < (ws.length : Int)) = false := by simp; omega
          clear hrl
          go_wp2_with fail
          refine (rman_any _ b we (HI.out we HBLL.out) hb).mono ?_
          rintro e k3m ⟨v3, rfl, ho3, hb3⟩
          rw [← HDM.out] at ho3 ⊢
          simp only at ho3 ⊢
          obtain ⟨A3m, c3m, rfl, g1, g2, g3⟩ := id ho3.rd
          clear g1 g2 g3
          rw [List.length_map] at ho3 ⊢
          have HK3m := Lib.hid (HBLL.out.trans (hb3.mono HBLL.out.size))
          obtain ⟨k4m, hk4⟩ : ∃ x, x = k3m.alloc (.cells #[.int .i64 (mt : Int), .int .i64 (mg : Int), .slice A3m ps.length c3m] 74) := ⟨_, rfl⟩
          obtain ⟨X4m, hX4⟩ : ∃ X, X = k3m.heap.size := ⟨_, rfl⟩
          have hb4 : Below k3m.heap.size k3m k4m := by rw [hk4]; exact (Below.refl _ _).alloc (Nat.le_refl _) _
          have HX4m := Lib.hid (show k4m.heap[X4m]? = some (.cells #[.int .i64 (mt : Int), .int .i64 (mg : Int), .slice A3m ps.length c3m] 74 (0, 0)) from by rw [hk4, hX4]; exact heap_alloc_new k3m _)
          have HO4m := Lib.hid (ho3.below hb4)
          have HK4m := Lib.hid (HK3m.out.trans (hb4.mono HK3m.out.size))
          clear ho3 hb3 hb4
          go_upto_region 14 with fail
          rw [← hk4, ← hX4]
          clear hk4 hX4
          go_wp2_with fail
          refine (fman_any _ b k4m (HBB.out k4m HK4m.out) hb).mono ?_
          rintro e k5m ⟨v5, rfl, ho5, hb5⟩
          rw [← HDM.out] at ho5 ⊢
          simp only at ho5 ⊢
          obtain ⟨A5m, c5m, rfl, g1, g2, g3⟩ := id ho5.rd
          clear g1 g2 g3
          rw [List.length_map] at ho5 ⊢
          obtain ⟨k6m, hk6⟩ : ∃ x, x = k5m.alloc (.cells #[.int .i64 (mt : Int), .int .i64 (mg : Int), .slice A5m ps.length c5m] 74) := ⟨_, rfl⟩
          obtain ⟨X6m, hX6⟩ : ∃ X, X = k5m.heap.size := ⟨_, rfl⟩
          have hb6 : Below k5m.heap.size k5m k6m := by rw [hk6]; exact (Below.refl _ _).alloc (Nat.le_refl _) _
          have hb46 : Below k4m.heap.size k4m k6m := hb5.trans (hb6.mono hb5.size)
          have HX6m := Lib.hid (show k6m.heap[X6m]? = some (.cells #[.int .i64 (mt : Int), .int .i64 (mg : Int), .slice A5m ps.length c5m] 74 (0, 0)) from by rw [hk6, hX6]; exact heap_alloc_new k5m _)
          have HX46m := Lib.hid (heap_below HX4m.out hb46)
          have HO6m := Lib.hid (ho5.below hb6)
          have HO46m := Lib.hid (HO4m.out.below hb46)
          have HK6m := Lib.hid (HK4m.out.trans (hb46.mono HK4m.out.size))
          clear ho5 hb5 hb6 hb46
          go_upto_region 15 with fail
          rw [← hk6, ← hX6]
          clear hk6 hX6
          have x0 := box_cells HX46m.out 0 (.int .i64 (mt : Int)) rfl
          have x1 := box_cells HX46m.out 1 (.int .i64 (mg : Int)) rfl
          have x2 := box_cells HX46m.out 2 (.slice A3m ps.length c3m) rfl
          have y0 := box_cells HX6m.out 0 (.int .i64 (mt : Int)) rfl
          have y1 := box_cells HX6m.out 1 (.int .i64 (mg : Int)) rfl
          have y2 := box_cells HX6m.out 2 (.slice A5m ps.length c5m) rfl
          go_wp2_with fail
          refine (sameMan_any (mt : Int) (mg : Int) _ _ ps k6m HO46m.out.rd HO6m.out.rd (by omega)).mono ?_
          rintro e k7m ⟨rfl, hb7⟩
          have HX7m := Lib.hid (heap_below HX46m.out hb7)
          have HO7m := Lib.hid (HO46m.out.below hb7)
          have HK7m := Lib.hid (HK6m.out.trans (hb7.mono HK6m.out.size))
          have HRMm := Lib.hid (HO7m.out.room (B := w3.heap.size) (by rw [List.length_map]) HBLL.out.size)
          clear x0 x1 x2 y0 y1 y2 hb7
          go_wp2_with fail
          go_loopw [21] (fun v13 wl => ∃ i : Nat, i ≤ ps.length ∧ v13 = .int .i64 (i : Int) ∧ Below w3.heap.size w3 wl ∧ wl.heap[X4m]? = some (.cells #[.int .i64 (mt : Int), .int .i64 (mg : Int), .slice A3m ps.length c3m] 74 (0, 0)) ∧ Room3 wl w3.heap.size 79 A3m ps.length) (fun v13 _ => ps.length - (intOf v13).toNat)
          case atStart => exact ⟨0, by omega, rfl, HK7m.out, HX7m.out, HRMm.out⟩
          case round =>
            obtain ⟨i, hi, rfl, hbl, hxl, hrl⟩ := hrel
            obtain ⟨wem, hwe⟩ : ∃ x, x = wr := ⟨_, rfl⟩
            rw [← hwe] at hbl hxl hrl ⊢
            clear hwe
            have HBLLm := Lib.hid hbl
            have HXL := Lib.hid hxl
            have z1 := box_cells hxl 2 (.slice A3m ps.length c3m) rfl
            clear hbl hxl
            by_cases hil : i < ps.length
            · have t2 : decide ((i : Int) < (ps.length : Int)) = true := by simp; omega
              obtain ⟨g, cur, hA, hg1, hg2, hg3⟩ := hrl (by omega)
              subst hA
              have c0 : wem.cell? ⟨g, i * 3, none⟩ = some (cur[i * 3]'(by omega)) := by rw [cell_of_row wem g (i * 3) cur 79 (0, 0) hg2, Array.getElem?_eq_getElem]
              have c1 : wem.cell? ⟨g, i * 3 + 1, none⟩ = some (cur[i * 3 + 1]'(by omega)) := by rw [cell_of_row wem g (i * 3 + 1) cur 79 (0, 0) hg2, Array.getElem?_eq_getElem]
              have c2 : wem.cell? ⟨g, i * 3 + 2, none⟩ = some (cur[i * 3 + 2]'(by omega)) := by rw [cell_of_row wem g (i * 3 + 2) cur 79 (0, 0) hg2, Array.getElem?_eq_getElem]
              have fz : ∀ o, wem.frozen? ⟨g, o, none⟩ = false := by intro o; simp [World.frozen?, hg2]
              have hXg : X4m ≠ g := by rintro rfl; have := HXL.out; rw [hg2] at this; injection this with this; injection this with _ h _; exact absurd h (by decide)
              obtain ⟨⟨cur', hc1, hc2⟩, hgr⟩ := sets3 (i := i * 3) (j := i * 3 + 1) (k := i * 3 + 2) hg2 (.int .i64 0) (.int .i64 0) (.int .i64 0)
              have HBN := Lib.hid (blw HBLLm.out hgr hg1 (Nat.le_refl _))
              have HXN := Lib.hid (heap_grown HXL.out hgr hXg)
              have HRN := Lib.hid (show Room3 _ w3.heap.size 79 (some ⟨g, 0, none⟩) ps.length from fun _ => ⟨g, cur', rfl, hg1, hc1, by omega⟩)
              clear hrl hg2 hc1 hc2 hgr
              go_wp2_with fail
              go_roundw
              case rel => exact ⟨i + 1, by omega, by go_num, HBN.out, HXN.out, HRN.out⟩
              case measure => simp [intOf]; omega
            · have t2 : decide ((i : Int) < (ps.length : Int)) = false := by simp; omega
              clear hrl
              go_wp2_with fail
              go_roundw
              case rel => exact ⟨j + 1, by omega, by go_num, HBLLm.out⟩
              case measure => simp [intOf]; omega
    · have t1 : decide ((j : Int) < 2) = false := by simp; omega
      go_wp2_with fail
      obtain ⟨⟨⟨rk, rv, rt⟩, pr, cr⟩, hdr⟩ : ∃ d, d = decRow b := ⟨_, rfl⟩
      obtain ⟨⟨⟨gk, gt⟩, pg, cg⟩, hdg⟩ : ∃ d, d = decGone b := ⟨_, rfl⟩
      have HDR := Lib.hid hdr; have HDG := Lib.hid hdg
      clear hdr hdg
      refine (rrow_any _ b w4 (HI.out w4 HBR.out) hb).mono ?_
      rintro e p1 ⟨rfl, hb1⟩
      unfold rowA
      rw [← HDR.out]
      simp only
      have HP1 := Lib.hid (HBR.out.trans (hb1.mono HBR.out.size))
      obtain ⟨p2, hp2⟩ : ∃ x, x = p1.alloc (.cells #[.string (bs rk), .string (bs rv), .int .i64 (rt : Int)] 81) := ⟨_, rfl⟩
      obtain ⟨X2, hX2⟩ : ∃ X, X = p1.heap.size := ⟨_, rfl⟩
      have hb2 : Below p1.heap.size p1 p2 := by rw [hp2]; exact (Below.refl _ _).alloc (Nat.le_refl _) _
      have HX2 := Lib.hid (show p2.heap[X2]? = some (.cells #[.string (bs rk), .string (bs rv), .int .i64 (rt : Int)] 81 (0, 0)) from by rw [hp2, hX2]; exact heap_alloc_new p1 _)
      have HP2 := Lib.hid (HP1.out.trans (hb2.mono HP1.out.size))
      clear hb1 hb2
      go_upto_region 23 with fail
      rw [← hp2, ← hX2]
      clear hp2 hX2
      go_wp2_with fail
      refine (frow_any _ b p2 (HBB.out p2 HP2.out) hb).mono ?_
      rintro e p3 ⟨rfl, hb3⟩
      unfold rowA
      rw [← HDR.out]
      simp only
      have HP3 := Lib.hid (HP2.out.trans (hb3.mono HP2.out.size))
      obtain ⟨p4, hp4⟩ : ∃ x, x = p3.alloc (.cells #[.string (bs rk), .string (bs rv), .int .i64 (rt : Int)] 81) := ⟨_, rfl⟩
      obtain ⟨X4, hX4⟩ : ∃ X, X = p3.heap.size := ⟨_, rfl⟩
      have hb4 : Below p3.heap.size p3 p4 := by rw [hp4]; exact (Below.refl _ _).alloc (Nat.le_refl _) _
      have hb24 : Below p2.heap.size p2 p4 := hb3.trans (hb4.mono hb3.size)
      have HX4 := Lib.hid (show p4.heap[X4]? = some (.cells #[.string (bs rk), .string (bs rv), .int .i64 (rt : Int)] 81 (0, 0)) from by rw [hp4, hX4]; exact heap_alloc_new p3 _)
      have HX24 := Lib.hid (heap_below HX2.out hb24)
      have HP4 := Lib.hid (HP3.out.trans (hb4.mono HP3.out.size))
      clear hb3 hb4 hb24
      go_upto_region 24 with fail
      rw [← hp4, ← hX4]
      clear hp4 hX4
      go_wp2_with fail
      refine (rgone_any _ b p4 (HI.out p4 HP4.out) hb).mono ?_
      rintro e p5 ⟨rfl, hb5⟩
      unfold goneA
      rw [← HDG.out]
      simp only
      have HP5 := Lib.hid (HP4.out.trans (hb5.mono HP4.out.size))
      obtain ⟨p6, hp6⟩ : ∃ x, x = p5.alloc (.cells #[.string (bs gk), .int .i64 (gt : Int)] 85) := ⟨_, rfl⟩
      obtain ⟨X6, hX6⟩ : ∃ X, X = p5.heap.size := ⟨_, rfl⟩
      have hb6 : Below p5.heap.size p5 p6 := by rw [hp6]; exact (Below.refl _ _).alloc (Nat.le_refl _) _
      have hb46 : Below p4.heap.size p4 p6 := hb5.trans (hb6.mono hb5.size)
      have HX6 := Lib.hid (show p6.heap[X6]? = some (.cells #[.string (bs gk), .int .i64 (gt : Int)] 85 (0, 0)) from by rw [hp6, hX6]; exact heap_alloc_new p5 _)
      have HX26 := Lib.hid (heap_below HX24.out hb46)
      have HX46 := Lib.hid (heap_below HX4.out hb46)
      have HP6 := Lib.hid (HP5.out.trans (hb6.mono HP5.out.size))
      clear hb5 hb6 hb46
      go_upto_region 25 with fail
      rw [← hp6, ← hX6]
      clear hp6 hX6
      go_wp2_with fail
      refine (fgone_any _ b p6 (HBB.out p6 HP6.out) hb).mono ?_
      rintro e p7 ⟨rfl, hb7⟩
      unfold goneA
      rw [← HDG.out]
      simp only
      have HP7 := Lib.hid (HP6.out.trans (hb7.mono HP6.out.size))
      obtain ⟨p8, hp8⟩ : ∃ x, x = p7.alloc (.cells #[.string (bs gk), .int .i64 (gt : Int)] 85) := ⟨_, rfl⟩
      obtain ⟨X8, hX8⟩ : ∃ X, X = p7.heap.size := ⟨_, rfl⟩
      have hb8 : Below p7.heap.size p7 p8 := by rw [hp8]; exact (Below.refl _ _).alloc (Nat.le_refl _) _
      have hb68 : Below p6.heap.size p6 p8 := hb7.trans (hb8.mono hb7.size)
      have hX8' : p8.heap[X8]? = some (.cells #[.string (bs gk), .int .i64 (gt : Int)] 85 (0, 0)) := by rw [hp8, hX8]; exact heap_alloc_new p7 _
      have hX28 := heap_below HX26.out hb68
      have hX48 := heap_below HX46.out hb68
      have hX68 := heap_below HX6.out hb68
      have HP8 := Lib.hid (HP7.out.trans (hb8.mono HP7.out.size))
      go_upto_region 26 with fail
      rw [← hp8, ← hX8]
      clear hp8 hX8 hb7 hb8 hb68
      have u0 := box_cells hX28 0 (.string (bs rk)) rfl
      have u1 := box_cells hX28 1 (.string (bs rv)) rfl
      have u2 := box_cells hX28 2 (.int .i64 (rt : Int)) rfl
      have v0 := box_cells hX48 0 (.string (bs rk)) rfl
      have v1 := box_cells hX48 1 (.string (bs rv)) rfl
      have v2 := box_cells hX48 2 (.int .i64 (rt : Int)) rfl
      have y0 := box_cells hX68 0 (.string (bs gk)) rfl
      have y1 := box_cells hX68 1 (.int .i64 (gt : Int)) rfl
      have z0 := box_cells hX8' 0 (.string (bs gk)) rfl
      have z1 := box_cells hX8' 1 (.int .i64 (gt : Int)) rfl
      have q1 := conv_rd (HI.out p8 HP8.out)
      have q2 := conv_rd (HBB.out p8 HP8.out)
      clear hX28 hX48 hX68 hX8'
      go_wp2_with fail
      go_ret
      exact ⟨ret_bool (by simp), HB2.out.trans (HP8.out.mono HB2.out.size)⟩
end Go.Proofs.Ytggjipfdfpdecaa
