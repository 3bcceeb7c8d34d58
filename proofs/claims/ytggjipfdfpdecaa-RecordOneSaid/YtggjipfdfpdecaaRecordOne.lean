/- The walk of the law RecordOne: bytes that are read are those of what is told; no bytes are read as two kinds of record. Condition: the bytes' length is that of a slice of Go. -/
import Derived.Test.YtggjipfdfpdecaaZ11
import Derived.Test.YtggjipfdfpdecaaZ12
import Derived.Test.YtggjipfdfpdecaaZ13
set_option linter.unusedVariables false
namespace Go.Proofs.Ytggjipfdfpdecaa
open Go.RowKit
attribute [local go_sem] bs_list bs_size

/-- At most one of the four reads. -/
theorem one_of {b : List UInt8} {p q r s : Nat} (h1 : p = 0 → b[0]? = some 67) (h2 : q = 0 → b[0]? = some 82) (h3 : r = 0 → b[0]? = some 71) (h4 : s = 0 → b[0]? = some 77) :
    (p ≠ 0 ∧ q ≠ 0 ∧ r ≠ 0 ∧ s ≠ 0) ∨ (p = 0 ∧ q ≠ 0 ∧ r ≠ 0 ∧ s ≠ 0) ∨ (p ≠ 0 ∧ q = 0 ∧ r ≠ 0 ∧ s ≠ 0) ∨ (p ≠ 0 ∧ q ≠ 0 ∧ r = 0 ∧ s ≠ 0) ∨ (p ≠ 0 ∧ q ≠ 0 ∧ r ≠ 0 ∧ s = 0) := by
  have n12 : ¬(p = 0 ∧ q = 0) := fun ⟨x, y⟩ => by rw [h1 x] at h2; exact absurd (h2 y) (by decide)
  have n13 : ¬(p = 0 ∧ r = 0) := fun ⟨x, y⟩ => by rw [h1 x] at h3; exact absurd (h3 y) (by decide)
  have n14 : ¬(p = 0 ∧ s = 0) := fun ⟨x, y⟩ => by rw [h1 x] at h4; exact absurd (h4 y) (by decide)
  have n23 : ¬(q = 0 ∧ r = 0) := fun ⟨x, y⟩ => by rw [h2 x] at h3; exact absurd (h3 y) (by decide)
  have n24 : ¬(q = 0 ∧ s = 0) := fun ⟨x, y⟩ => by rw [h2 x] at h4; exact absurd (h4 y) (by decide)
  have n34 : ¬(r = 0 ∧ s = 0) := fun ⟨x, y⟩ => by rw [h3 x] at h4; exact absurd (h4 y) (by decide)
  clear h1 h2 h3 h4
  omega

set_option maxRecDepth 100000 in
set_option maxHeartbeats 4000000 in
theorem recordOne_any (v : Value) (b : List UInt8) (w : World) (hr : RdB w v b) (hl : b.length * 1 ≤ 140737488351232) :
    Calls Try.prog 22 #[v] w fun e w' => e = .returned (.bool true) ∧ Below w.heap.size w w' := by
  obtain ⟨A, c, rfl, g1, g2, g3⟩ := id hr
  clear g1 g2 g3
  have HR := Lib.hid (fun (W : World) (h : Below w.heap.size w W) => hr.below h)
  have hb : b.length ≤ 140737488355328 := by omega
  clear hr hl
  obtain ⟨⟨⟨t, ws⟩, pc, cc⟩, hdc⟩ : ∃ d, d = decCom b := ⟨_, rfl⟩
  obtain ⟨⟨⟨rk, rv, rt⟩, pr, cr⟩, hdr⟩ : ∃ d, d = decRow b := ⟨_, rfl⟩
  obtain ⟨⟨⟨gk, gt⟩, pg, cg⟩, hdg⟩ : ∃ d, d = decGone b := ⟨_, rfl⟩
  obtain ⟨⟨⟨mt, mg, ps⟩, pm, cm⟩, hdm⟩ : ∃ d, d = decMan b := ⟨_, rfl⟩
  have hC : cc = 0 → comOk t ws = true ∧ encCom t ws = b := by
    intro h; have := decCom_got (b := b) (by rw [← hdc]; exact h); rw [← hdc] at this; exact this
  have hRo : cr = 0 → isKey rk = true ∧ isVal rv = true ∧ isTm rt = true ∧ encRow rk rv rt = b := by
    intro h; have := decRow_got (b := b) (by rw [← hdr]; exact h); rw [← hdr] at this; exact this
  have hG : cg = 0 → isKey gk = true ∧ isTm gt = true ∧ encGone gk gt = b := by
    intro h; have := decGone_got (b := b) (by rw [← hdg]; exact h); rw [← hdg] at this; exact this
  have hM : cm = 0 → manOk mt mg ps = true ∧ encMan mt mg ps = b := by
    intro h; have := decMan_got (b := b) (by rw [← hdm]; exact h); rw [← hdm] at this; exact this
  have HONE := Lib.hid (one_of (b := b) (p := cc) (q := cr) (r := cg) (s := cm) (fun h => first_com (by rw [← hdc]; exact h)) (fun h => first_row (by rw [← hdr]; exact h)) (fun h => first_gone (by rw [← hdg]; exact h)) (fun h => first_man (by rw [← hdm]; exact h)))
  have HC := Lib.hid hC; have HRO := Lib.hid hRo; have HG := Lib.hid hG; have HM := Lib.hid hM
  have HDC := Lib.hid hdc; have HDR := Lib.hid hdr; have HDG := Lib.hid hdg; have HDM := Lib.hid hdm
  clear hC hRo hG hM hdc hdr hdg hdm
  go_enter Try.func22, Try.ntmps22
  go_wp2_with fail
  refine (rshown_any w).mono ?_
  rintro e w1 ⟨rfl, hb1⟩
  have HB1 := Lib.hid hb1; clear hb1
  -- a commit?
  go_wp2_with fail
  refine (rcom_any _ b w1 (HR.out w1 HB1.out) hb).mono ?_
  rintro e w2 ⟨v2, rfl, ho2, hb2⟩
  rw [← HDC.out] at ho2 ⊢
  simp only at ho2 ⊢
  obtain ⟨A2, c2, rfl, g1, g2, g3⟩ := id ho2.rd
  clear g1 g2 g3
  rw [List.length_map] at ho2 ⊢
  have HB2 := Lib.hid (HB1.out.trans (hb2.mono HB1.out.size))
  obtain ⟨w3, hw3⟩ : ∃ w3, w3 = w2.alloc (.cells #[.int .i64 (t : Int), .slice A2 ws.length c2] 64) := ⟨_, rfl⟩
  obtain ⟨X3, hX3⟩ : ∃ X, X = w2.heap.size := ⟨_, rfl⟩
  have hb3 : Below w2.heap.size w2 w3 := by rw [hw3]; exact (Below.refl _ _).alloc (Nat.le_refl _) _
  have HX3 := Lib.hid (show w3.heap[X3]? = some (.cells #[.int .i64 (t : Int), .slice A2 ws.length c2] 64 (0, 0)) from by rw [hw3, hX3]; exact heap_alloc_new w2 _)
  have HO3 := Lib.hid (ho2.below hb3)
  have HB3 := Lib.hid (HB2.out.trans (hb3.mono HB2.out.size))
  clear ho2 hb2 hb3
  go_upto_region 3 with fail
  rw [← hw3, ← hX3]
  clear hw3 hX3
  -- a row?
  go_wp2_with fail
  refine (rrow_any _ b w3 (HR.out w3 HB3.out) hb).mono ?_
  rintro e w4 ⟨rfl, hb4⟩
  unfold rowA
  rw [← HDR.out]
  simp only
  have HB4 := Lib.hid (HB3.out.trans (hb4.mono HB3.out.size))
  obtain ⟨w5, hw5⟩ : ∃ w5, w5 = w4.alloc (.cells #[.string (bs rk), .string (bs rv), .int .i64 (rt : Int)] 81) := ⟨_, rfl⟩
  obtain ⟨X5, hX5⟩ : ∃ X, X = w4.heap.size := ⟨_, rfl⟩
  have hb5 : Below w4.heap.size w4 w5 := by rw [hw5]; exact (Below.refl _ _).alloc (Nat.le_refl _) _
  have HX5 := Lib.hid (show w5.heap[X5]? = some (.cells #[.string (bs rk), .string (bs rv), .int .i64 (rt : Int)] 81 (0, 0)) from by rw [hw5, hX5]; exact heap_alloc_new w4 _)
  have HB5 := Lib.hid (HB4.out.trans (hb5.mono HB4.out.size))
  have hb35 := hb4.trans (hb5.mono hb4.size)
  have HX35 := Lib.hid (heap_below HX3.out hb35)
  have HO5 := Lib.hid (HO3.out.below hb35)
  clear hb4 hb5 hb35
  go_upto_region 4 with fail
  rw [← hw5, ← hX5]
  clear hw5 hX5
  -- what is gone?
  go_wp2_with fail
  refine (rgone_any _ b w5 (HR.out w5 HB5.out) hb).mono ?_
  rintro e w6 ⟨rfl, hb6⟩
  unfold goneA
  rw [← HDG.out]
  simp only
  have HB6 := Lib.hid (HB5.out.trans (hb6.mono HB5.out.size))
  obtain ⟨w7, hw7⟩ : ∃ w7, w7 = w6.alloc (.cells #[.string (bs gk), .int .i64 (gt : Int)] 85) := ⟨_, rfl⟩
  obtain ⟨X7, hX7⟩ : ∃ X, X = w6.heap.size := ⟨_, rfl⟩
  have hb7 : Below w6.heap.size w6 w7 := by rw [hw7]; exact (Below.refl _ _).alloc (Nat.le_refl _) _
  have HX7 := Lib.hid (show w7.heap[X7]? = some (.cells #[.string (bs gk), .int .i64 (gt : Int)] 85 (0, 0)) from by rw [hw7, hX7]; exact heap_alloc_new w6 _)
  have HB7 := Lib.hid (HB6.out.trans (hb7.mono HB6.out.size))
  have hb57 := hb6.trans (hb7.mono hb6.size)
  have HX37 := Lib.hid (heap_below HX35.out hb57)
  have HX57 := Lib.hid (heap_below HX5.out hb57)
  have HO7 := Lib.hid (HO5.out.below hb57)
  clear hb6 hb7 hb57
  go_upto_region 5 with fail
  rw [← hw7, ← hX7]
  clear hw7 hX7
  -- a manifest?
  go_wp2_with fail
  refine (rman_any _ b w7 (HR.out w7 HB7.out) hb).mono ?_
  rintro e w8 ⟨v8, rfl, ho8, hb8⟩
  rw [← HDM.out] at ho8 ⊢
  simp only at ho8 ⊢
  obtain ⟨A8, c8, rfl, g1, g2, g3⟩ := id ho8.rd
  clear g1 g2 g3
  rw [List.length_map] at ho8 ⊢
  have HB8 := Lib.hid (HB7.out.trans (hb8.mono HB7.out.size))
  obtain ⟨w9, hw9⟩ : ∃ w9, w9 = w8.alloc (.cells #[.int .i64 (mt : Int), .int .i64 (mg : Int), .slice A8 ps.length c8] 74) := ⟨_, rfl⟩
  obtain ⟨X9, hX9⟩ : ∃ X, X = w8.heap.size := ⟨_, rfl⟩
  have hb9 : Below w8.heap.size w8 w9 := by rw [hw9]; exact (Below.refl _ _).alloc (Nat.le_refl _) _
  have HX9 := Lib.hid (show w9.heap[X9]? = some (.cells #[.int .i64 (mt : Int), .int .i64 (mg : Int), .slice A8 ps.length c8] 74 (0, 0)) from by rw [hw9, hX9]; exact heap_alloc_new w8 _)
  have HO89 := Lib.hid (ho8.below hb9)
  have HB9 := Lib.hid (HB8.out.trans (hb9.mono HB8.out.size))
  have hb79 := hb8.trans (hb9.mono hb8.size)
  have HX39 := Lib.hid (heap_below HX37.out hb79)
  have HX59 := Lib.hid (heap_below HX57.out hb79)
  have HX79 := Lib.hid (heap_below HX7.out hb79)
  have HO9 := Lib.hid (HO7.out.below hb79)
  have HR9 := Lib.hid (HR.out w9 HB9.out)
  clear ho8 hb8 hb9 hb79
  go_upto_region 6 with fail
  rw [← hw9, ← hX9]
  clear hw9 hX9
  rcases HONE.out with ⟨n1, n2, n3, n4⟩ | ⟨n1, n2, n3, n4⟩ | ⟨n1, n2, n3, n4⟩ | ⟨n1, n2, n3, n4⟩ | ⟨n1, n2, n3, n4⟩
  · have a1 : ((cc : Int) == 0) = false := by rw [beq_eq_false_iff_ne]; omega
    have a2 : ((cr : Int) == 0) = false := by rw [beq_eq_false_iff_ne]; omega
    have a3 : ((cg : Int) == 0) = false := by rw [beq_eq_false_iff_ne]; omega
    have a4 : ((cm : Int) == 0) = false := by rw [beq_eq_false_iff_ne]; omega
    clear n1 n2 n3 n4
    go_wp2_with fail
    go_ret
    exact ⟨rfl, HB9.out⟩
  · subst n1
    have a2 : ((cr : Int) == 0) = false := by rw [beq_eq_false_iff_ne]; omega
    have a3 : ((cg : Int) == 0) = false := by rw [beq_eq_false_iff_ne]; omega
    have a4 : ((cm : Int) == 0) = false := by rw [beq_eq_false_iff_ne]; omega
    clear n2 n3 n4
    obtain ⟨hok, hen⟩ := HC.out rfl
    obtain ⟨_, hwl, hwo⟩ := comOk_bounds hok
    have hkl : ∀ x ∈ ws, x.key.length ≤ 1048576 ∧ x.val.length ≤ 1048576 := by
      intro x hx
      obtain ⟨j, hj, rfl⟩ := List.getElem_of_mem hx
      have := wOk_bounds (wsOk_bounds hwo j hj)
      omega
    have HPUT := Lib.hid (putCom_any (t : Int) _ ws w9 HO9.out.rd (by omega) hkl)
    have x0 := box_cells HX39.out 0 (.int .i64 (t : Int)) rfl
    have x1 := box_cells HX39.out 1 (.slice A2 ws.length c2) rfl
    have hen : encCom (t : Int).toNat ws = b := by rw [Int.toNat_natCast]; exact hen
    clear hkl hwl hwo
    go_wp2_with fail
    refine HPUT.out.mono ?_
    intro e w10 h10
    obtain ⟨hb10, v10, rfl, hr10⟩ := h10.known
    rw [hok, hen] at hr10
    rw [hok]
    simp only [if_true] at hr10 ⊢
    have q1 := conv_rd (HR9.out.below hb10)
    have q2 := conv_rd hr10
    have HB10 := Lib.hid (HB9.out.trans (hb10.mono HB9.out.size))
    clear hb10 h10 hr10 hok hen
    go_wp2_with fail
    go_ret
    exact ⟨ret_bool (by simp), HB10.out⟩
  · subst n2
    have a1 : ((cc : Int) == 0) = false := by rw [beq_eq_false_iff_ne]; omega
    have a3 : ((cg : Int) == 0) = false := by rw [beq_eq_false_iff_ne]; omega
    have a4 : ((cm : Int) == 0) = false := by rw [beq_eq_false_iff_ne]; omega
    clear n1 n3 n4
    obtain ⟨hk, hv, ht, hen⟩ := HRO.out rfl
    have hok : (isKey rk && isVal rv && isTm (rt : Int)) = true := by rw [hk, hv, ht]; rfl
    have HPUT := Lib.hid (putRow_any rk rv (rt : Int) w9 (by have := (isKey_iff _).1 hk; omega))
    have x0 := box_cells HX59.out 0 (.string (bs rk)) rfl
    have x1 := box_cells HX59.out 1 (.string (bs rv)) rfl
    have x2 := box_cells HX59.out 2 (.int .i64 (rt : Int)) rfl
    have hen : encRow rk rv (rt : Int).toNat = b := by rw [Int.toNat_natCast]; exact hen
    clear hk hv ht
    go_wp2_with fail
    refine HPUT.out.mono ?_
    intro e w10 h10
    obtain ⟨hb10, v10, rfl, hr10⟩ := h10.known
    rw [hok, hen] at hr10
    rw [hok]
    simp only [if_true] at hr10 ⊢
    have q1 := conv_rd (HR9.out.below hb10)
    have q2 := conv_rd hr10
    have HB10 := Lib.hid (HB9.out.trans (hb10.mono HB9.out.size))
    clear hb10 h10 hr10 hok hen
    go_wp2_with fail
    go_ret
    exact ⟨ret_bool (by simp), HB10.out⟩
  · subst n3
    have a1 : ((cc : Int) == 0) = false := by rw [beq_eq_false_iff_ne]; omega
    have a2 : ((cr : Int) == 0) = false := by rw [beq_eq_false_iff_ne]; omega
    have a4 : ((cm : Int) == 0) = false := by rw [beq_eq_false_iff_ne]; omega
    clear n1 n2 n4
    obtain ⟨hk, ht, hen⟩ := HG.out rfl
    have hok : (isKey gk && isTm (gt : Int)) = true := by rw [hk, ht]; rfl
    have HPUT := Lib.hid (putGone_any gk (gt : Int) w9 (by have := (isKey_iff _).1 hk; omega))
    have x0 := box_cells HX79.out 0 (.string (bs gk)) rfl
    have x1 := box_cells HX79.out 1 (.int .i64 (gt : Int)) rfl
    have hen : encGone gk (gt : Int).toNat = b := by rw [Int.toNat_natCast]; exact hen
    clear hk ht
    go_wp2_with fail
    refine HPUT.out.mono ?_
    intro e w10 h10
    obtain ⟨hb10, v10, rfl, hr10⟩ := h10.known
    rw [hok, hen] at hr10
    rw [hok]
    simp only [if_true] at hr10 ⊢
    have q1 := conv_rd (HR9.out.below hb10)
    have q2 := conv_rd hr10
    have HB10 := Lib.hid (HB9.out.trans (hb10.mono HB9.out.size))
    clear hb10 h10 hr10 hok hen
    go_wp2_with fail
    go_ret
    exact ⟨ret_bool (by simp), HB10.out⟩
  · subst n4
    have a1 : ((cc : Int) == 0) = false := by rw [beq_eq_false_iff_ne]; omega
    have a2 : ((cr : Int) == 0) = false := by rw [beq_eq_false_iff_ne]; omega
    have a3 : ((cg : Int) == 0) = false := by rw [beq_eq_false_iff_ne]; omega
    clear n1 n2 n3
    obtain ⟨hok, hen⟩ := HM.out rfl
    obtain ⟨_, _, _, _, _, hwo⟩ := manOk_bounds hok
    have hwf : ∀ p ∈ ps, (Lit.int .i64 p.num).wf = true := by
      intro p hp
      obtain ⟨j, hj, rfl⟩ := List.getElem_of_mem hp
      have := (hwo j hj).1
      have e1 : IntKind.i64.min = -9223372036854775808 := by decide
      have e2 : IntKind.i64.max = 9223372036854775807 := by decide
      show (decide (IntKind.i64.min ≤ ps[j].num) && decide (ps[j].num ≤ IntKind.i64.max)) = true
      rw [e1, e2]
      simp only [Bool.and_eq_true, decide_eq_true_eq]
      omega
    have HPUT := Lib.hid (putMan_any (mt : Int) (mg : Int) _ ps w9 HO89.out.rd hwf)
    have x0 := box_cells HX9.out 0 (.int .i64 (mt : Int)) rfl
    have x1 := box_cells HX9.out 1 (.int .i64 (mg : Int)) rfl
    have x2 := box_cells HX9.out 2 (.slice A8 ps.length c8) rfl
    have hen : encMan (mt : Int).toNat (mg : Int).toNat ps = b := by rw [Int.toNat_natCast, Int.toNat_natCast]; exact hen
    clear hwf hwo
    go_wp2_with fail
    refine HPUT.out.mono ?_
    intro e w10 h10
    obtain ⟨hb10, v10, rfl, hr10⟩ := h10.known
    rw [hok, hen] at hr10
    rw [hok]
    simp only [if_true] at hr10 ⊢
    have q1 := conv_rd (HR9.out.below hb10)
    have q2 := conv_rd hr10
    have HB10 := Lib.hid (HB9.out.trans (hb10.mono HB9.out.size))
    clear hb10 h10 hr10 hok hen
    go_wp2_with fail
    go_ret
    exact ⟨ret_bool (by simp), HB10.out⟩
end Go.Proofs.Ytggjipfdfpdecaa
