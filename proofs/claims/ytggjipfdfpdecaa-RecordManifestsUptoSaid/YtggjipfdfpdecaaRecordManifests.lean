/- The walk of the law RecordManifests: the program and the document write manifests alike; what is handed in stays. Condition: what comes in has together at most 1048576 values and letters. -/
import Derived.Test.YtggjipfdfpdecaaZ11
import Derived.Test.YtggjipfdfpdecaaZ14
set_option linter.unusedVariables false
namespace Go.Proofs.Ytggjipfdfpdecaa
open Go.RowKit
attribute [local go_sem] bs_list bs_size

theorem turnY {w2 w3 : World} {X E : Nat} {cs : Array Value} {t : TypeId} (h : w2.heap[X]? = some (.cells cs t (0, 0))) (hg : (w2.alloc (.cells #[] E)).grownBy w3 (Value.slice (some ⟨w2.heap.size, 0, none⟩) 0 0).ownBlock) : w3.heap[X]? = some (.cells cs t (0, 0)) := by
  have hX := (Array.getElem?_eq_some_iff.1 h).1
  have h2 := heap_below h ((Below.refl _ _).alloc (Nat.le_refl _) (.cells #[] E))
  exact (hg.block X (Array.getElem?_eq_some_iff.1 h2).1 (fun e => by simp [Value.ownBlock] at e; omega)).trans h2
theorem exposed3 {w : World} {base E : Nat} {v : Value} {xs : List V3} (h : Own3 w base E v xs) : ∃ A c, v = .slice A xs.length c := by
  obtain ⟨A, c, hv, _⟩ := h.rd
  exact ⟨A, c, hv⟩

set_option maxRecDepth 100000 in
set_option maxHeartbeats 4000000 in
theorem recordManifests_any (t lo : Int) (v : Value) (ps : List Pai) (w : World) (hr : Rd3 w v (ps.map pV)) (hl : ps.length ≤ 1048576) (hwf : ∀ p ∈ ps, (Lit.int .i64 p.num).wf = true ∧ (Lit.int .i64 p.from_).wf = true ∧ (Lit.int .i64 p.to_).wf = true) :
    Calls Try.prog 19 #[.agg #[.int .i64 t, .int .i64 lo, v]] w fun e w' => e = .returned (.bool true) ∧ Below w.heap.size w w' := by
  obtain ⟨A, c, rfl, g1, g2, g3⟩ := id hr
  clear g1 g2 g3
  rw [List.length_map] at hr ⊢
  obtain ⟨H, hH⟩ : ∃ H, H = w.heap.size := ⟨_, rfl⟩
  obtain ⟨w0, hw0⟩ : ∃ w0, w0 = w.alloc (.cells #[.int .i64 t, .int .i64 lo, .slice A ps.length c] 74) := ⟨_, rfl⟩
  have hb0 : Below w.heap.size w w0 := by rw [hw0]; exact (Below.refl _ _).alloc (Nat.le_refl _) _
  have hx0 : w0.heap[H]? = some (.cells #[.int .i64 t, .int .i64 lo, .slice A ps.length c] 74 (0, 0)) := by rw [hw0, hH]; exact heap_alloc_new w _
  have HB0 := Lib.hid hb0; clear hb0
  have HX0 := Lib.hid hx0; clear hx0
  have HR := Lib.hid (fun (W : World) (h : Below w.heap.size w W) => hr.below h)
  have HWF := Lib.hid (fun (p : Pai) (hp : p ∈ ps) => (hwf p hp).1)
  clear hr hwf
  go_enter Try.func19, Try.ntmps19
  go_upto_region 1 with fail
  rw [← hw0, ← hH]
  have HH := Lib.hid hH; clear hw0 hH
  go_wp2_with fail
  refine (rshown_any w0).mono ?_
  rintro e w1 ⟨rfl, hb1⟩
  have HX1 := Lib.hid (heap_below HX0.out hb1)
  have HB1 := Lib.hid (HB0.out.trans (hb1.mono HB0.out.size)); clear hb1
  have x0 := box_cells HX1.out 0 (.int .i64 t) rfl
  have x1 := box_cells HX1.out 1 (.int .i64 lo) rfl
  have x2 := box_cells HX1.out 2 (.slice A ps.length c) rfl
  -- the copy's own variable
  obtain ⟨w2, hw2⟩ : ∃ w2, w2 = w1.alloc (.cells #[.int .i64 t, .int .i64 lo, .slice A ps.length c] 74) := ⟨_, rfl⟩
  obtain ⟨X, hX⟩ : ∃ X, X = w1.heap.size := ⟨_, rfl⟩
  have hb2 : Below w1.heap.size w1 w2 := by rw [hw2]; exact (Below.refl _ _).alloc (Nat.le_refl _) _
  have HY2 := Lib.hid (show w2.heap[X]? = some (.cells #[.int .i64 t, .int .i64 lo, .slice A ps.length c] 74 (0, 0)) from by rw [hw2, hX]; exact heap_alloc_new w1 _)
  have HX2 := Lib.hid (heap_below HX1.out hb2)
  have HB2 := Lib.hid (HB1.out.trans (hb2.mono HB1.out.size))
  have hHX : H ≠ X := by have := (Array.getElem?_eq_some_iff.1 HX1.out).1; omega
  have hwX : w.heap.size ≤ X := by rw [hX]; exact HB1.out.size
  clear hb2
  go_upto_region 3 with fail
  rw [← hw2, ← hX]
  have HW2 := Lib.hid hw2; clear hw2
  have HXE := Lib.hid hX; clear hX x0 x1 x2
  have x2 := box_cells HX2.out 2 (.slice A ps.length c) rfl
  obtain ⟨wl, hwl⟩ : ∃ wl, wl = w2.alloc (.cells #[] 79) := ⟨_, rfl⟩
  have hbl : Below w2.heap.size w2 wl := by rw [hwl]; exact (Below.refl _ _).alloc (Nat.le_refl _) _
  have hol : Own3 wl w2.heap.size 79 (.slice (some ⟨w2.heap.size, 0, none⟩) 0 0) [] := by rw [hwl]; exact World.ownsRow_made w2 #[] 0 (Nat.le_refl _) (by simp [maxLen]) (by simp)
  have HOL := Lib.hid hol
  have HXL := Lib.hid (heap_below HX2.out hbl)
  have HYL := Lib.hid (heap_below HY2.out hbl)
  have HBL := Lib.hid (HB2.out.trans (hbl.mono HB2.out.size))
  have hrl := HR.out wl HBL.out
  rw [hwl] at hrl hol
  have HRL := Lib.hid hrl
  have HOL2 := Lib.hid hol
  have HWL := Lib.hid hwl
  have xl := box_cells HXL.out 2 (.slice A ps.length c) rfl
  rw [hwl] at xl
  clear hbl hol hrl hwl
  go_wp2_with (at_builtin; refine own3_append_row w2.heap.size 72 79 24 _ Try.underlying72 info79 rfl rfl (.tmp 12) (.tmp 14) rfl _ _ [] (ps.map pV) rfl rfl HOL2.out HRL.out ?hy ?hb ?hl1 ?hl2 ?_; (case hy => intro y hy; obtain ⟨p, _, rfl⟩ := List.mem_map.1 hy; exact pV_one p); (case hb => simp); (case hl1 => simp; omega); (case hl2 => simp; omega); intro v3 w3 hown hb3 hg3; (have HO3 := Lib.hid hown); (have HGR := Lib.hid hg3); (have hy3 := turnY HY2.out hg3); (have HY3 := Lib.hid hy3); (have y3 := box_cells hy3 2 (.slice A ps.length c) rfl); (have y30 := box_cells hy3 0 (.int .i64 t) rfl); (have y31 := box_cells hy3 1 (.int .i64 lo) rfl); (have f3 : w3.frozen? ⟨X, 2, none⟩ = false := (by simp [World.frozen?, hy3])); (have HX3 := Lib.hid (turnY HX2.out hg3)); (have hbw3 := HB2.out.trans (((Below.refl w2.heap.size w2).alloc (Nat.le_refl _) _).trans hb3 |>.mono HB2.out.size)); (have HB3 := Lib.hid hbw3); (have hown := exposed3 hown); (obtain ⟨A3, c3, rfl⟩ := hown); clear hb3 hg3 hy3 hbw3)
  rw [List.nil_append] at HO3
  obtain ⟨w4, hw4⟩ : ∃ w4, w4 = w3.setCell ⟨X, 2, none⟩ (.slice A3 ps.length c3) := ⟨_, rfl⟩
  have hset : w3.grownBy w4 (some X) := by rw [hw4]; exact only_one _ _ _ _
  have HY4 := Lib.hid (show w4.heap[X]? = some (.cells #[.int .i64 t, .int .i64 lo, .slice A3 ps.length c3] 74 (0, 0)) from by rw [hw4]; exact set_at HY3.out 2 _)
  have HX4 := Lib.hid (heap_grown HX3.out hset hHX)
  have ho4 : Own3 w4 w2.heap.size 79 (.slice A3 ps.length c3) (ps.map pV) := by
    have h := HO3.out
    rw [List.length_map] at h
    exact h.grown hset (h.ne_ HY3.out (by decide))
  have HO4 := Lib.hid ho4
  have HB4 := Lib.hid (blw HB3.out hset hwX (Nat.le_refl _))
  rw [← hw4]
  clear hset ho4 hw4 y3 y30 y31 f3 x2 xl
  refine (putMan_any t lo _ ps w4 HO4.out.rd HWF.out).mono ?_
  intro e w5 h5
  obtain ⟨hb5, v5, rfl, hr5⟩ := h5.known
  obtain ⟨L, hL⟩ : ∃ L, L = (if manOk t lo ps = true then encMan t.toNat lo.toNat ps else []) := ⟨_, rfl⟩
  obtain ⟨C, hC⟩ : ∃ C : Int, C = (if manOk t lo ps = true then 0 else 60) := ⟨_, rfl⟩
  rw [← hL] at hr5
  rw [← hC]
  have HL := Lib.hid hL; have HC := Lib.hid hC
  have HX5 := Lib.hid (heap_below HX4.out hb5)
  have HY5 := Lib.hid (heap_below HY4.out hb5)
  have HB5 := Lib.hid (HB4.out.trans (hb5.mono HB4.out.size))
  have HO5 := Lib.hid (HO4.out.below hb5)
  have HR5 := Lib.hid hr5
  clear hL hC h5 hb5 hr5
  have x0 := box_cells HX5.out 0 (.int .i64 t) rfl
  have x1 := box_cells HX5.out 1 (.int .i64 lo) rfl
  have x2 := box_cells HX5.out 2 (.slice A ps.length c) rfl
  go_wp2_with fail
  refine (putManF_any t lo _ ps w5 (HR.out w5 HB5.out) hl).mono ?_
  intro e w6 h6
  obtain ⟨hb6, v6, rfl, hr6⟩ := h6.known
  rw [← HL.out] at hr6
  rw [← HC.out]
  have HX6 := Lib.hid (heap_below HX5.out hb6)
  have HY6 := Lib.hid (heap_below HY5.out hb6)
  have HB6 := Lib.hid (HB5.out.trans (hb6.mono HB5.out.size))
  have HO6 := Lib.hid (HO5.out.below hb6)
  have HR56 := Lib.hid (HR5.out.below hb6)
  have HR6 := Lib.hid hr6
  clear h6 hb6 hr6 x0 x1 x2
  have x0 := box_cells HX6.out 0 (.int .i64 t) rfl
  have x1 := box_cells HX6.out 1 (.int .i64 lo) rfl
  have x2 := box_cells HX6.out 2 (.slice A ps.length c) rfl
  have y0 := box_cells HY6.out 0 (.int .i64 t) rfl
  have y1 := box_cells HY6.out 1 (.int .i64 lo) rfl
  have y2 := box_cells HY6.out 2 (.slice A3 ps.length c3) rfl
  go_wp2_with fail
  refine (sameMan_any t lo _ _ ps w6 HO6.out.rd (HR.out w6 HB6.out) hl).mono ?_
  rintro e w7 ⟨rfl, hb7⟩
  have HB7 := Lib.hid (HB6.out.trans (hb7.mono HB6.out.size))
  have q5 := conv_rd (HR56.out.below hb7)
  have q6 := conv_rd (HR6.out.below hb7)
  clear hb7 x0 x1 x2 y0 y1 y2
  go_wp2_with fail
  go_ret
  exact ⟨ret_bool (by simp), HB7.out⟩
end Go.Proofs.Ytggjipfdfpdecaa
