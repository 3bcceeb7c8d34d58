/- The walk of PutCommit's inner function: a write is written. -/
import Derived.Test.YtggjipfdfpdecaaRcJ
import Derived.Deep.RegionLaw
import Derived.Deep.AppendLies
import Derived.Deep.DeepCutAuto
set_option linter.unusedVariables false
namespace Go.Proofs.Ytggjipfdfpdecaa
open Go.RowKit
attribute [local go_sem] bs_list bs_size

theorem app_heap {W w1 : World} {base g : Nat} {v : Value} {l : List UInt8} {cs : Array Value} {t : TypeId} {fr : Nat × Nat} (ho : Own W base v l) (hg : W.heap[g]? = some (.cells cs t fr)) (ht : t ≠ 5) (hgr : W.grownBy w1 v.ownBlock) : w1.heap[g]? = some (.cells cs t fr) := by
  refine (hgr.block g (Array.getElem?_eq_some_iff.1 hg).1 (fun e => ?_)).trans hg
  rcases ho.2 with ⟨rfl, _⟩ | ⟨g', cap, cur, rfl, _, hh, _⟩
  · simp [Value.ownBlock] at e
  · have : g' = g := by simpa [Value.ownBlock] using e.symm
    subst this
    rw [hg] at hh
    injection hh with hh
    injection hh with _ h2 _
    exact ht h2
theorem app_own {w1 : World} {base : Nat} {v : Value} {l : List UInt8} {n : Nat} {x : UInt8} (h : w1.ownsRow base 5 1 v n (bvs l ++ [bv x])) (hn : n = l.length + 1 := by rfl) : Own w1 base v (l ++ [x]) := by
  subst hn
  unfold Own
  rw [bvs_append, List.length_append]
  exact h

set_option maxRecDepth 100000 in
set_option maxHeartbeats 2000000 in
theorem pc1_gone (base g V : Nat) (l xk xv : List UInt8) (w : World) (hs : WrSt w base g l) (hv : w.heap[V]? = some (.cells #[.pointer (some ⟨g, 0, none⟩)] 104 (0, 0))) (hb : base ≤ w.heap.size) (hl : l.length ≤ 1048576) (hkl : xk.length ≤ 1048576) (hvl : xv.length ≤ 1048576) :
    Calls Try.prog 85 #[.agg #[.string (bs xk), .string (bs xv), .bool true], .pointer (some ⟨V, 0, none⟩)] w fun e w' => e = .returned (.tuple #[]) ∧ WrSt w' base g (l ++ 1 :: txt xk) ∧ Wr base g w w' := by
  obtain ⟨v, hg, ho⟩ := hs
  obtain ⟨w0, hw0⟩ : ∃ w0, w0 = w.alloc (.cells #[.string (bs xk), .string (bs xv), .bool true] 66) := ⟨_, rfl⟩
  obtain ⟨B, hB⟩ : ∃ B, B = w.heap.size := ⟨_, rfl⟩
  have hb0 : Below w.heap.size w w0 := by rw [hw0]; exact (Below.refl _ _).alloc (Nat.le_refl _) _
  have hx0 : w0.heap[B]? = some (.cells #[.string (bs xk), .string (bs xv), .bool true] 66 (0, 0)) := by rw [hw0, hB]; exact heap_alloc_new w _
  have hg0 := heap_below hg hb0
  have hv0 := heap_below hv hb0
  have ho0 := ho.below hb0
  have hVg : V ≠ g := by rintro rfl; rw [hg] at hv; injection hv with hv; injection hv with _ h _; exact absurd h (by decide)
  have hBg : B ≠ g := by intro e; rw [e, hg0] at hx0; injection hx0 with hx0; injection hx0 with _ h _; exact absurd h (by decide)
  have HX0 := Lib.hid hx0
  have HG0 := Lib.hid hg0
  have HV0 := Lib.hid hv0
  have HO0 := Lib.hid ho0
  have HW0 := Lib.hid (Wr.of_below (base := base) (g := g) hb0)
  have x0 := box_cells hx0 0 (.string (bs xk)) rfl
  have x1 := box_cells hx0 1 (.string (bs xv)) rfl
  have x2 := box_cells hx0 2 (.bool true) rfl
  have cv := box_cells hv0 0 (.pointer (some ⟨g, 0, none⟩)) rfl
  have cg := box_cells hg0 0 v rfl
  have fg := WrSt.froz hg0
  have hbs : base ≤ w0.heap.size := Nat.le_trans hb hb0.size
  obtain ⟨A, c, rfl, _, _, _⟩ := id ho.rd
  clear hg ho hv hx0 hg0 hv0 ho0 hb0
  go_enter Try.func85, Try.ntmps85
  go_upto_region 2 with fail
  rw [← hw0, ← hB]
  clear hw0 hB
  obtain ⟨i0, hi, hz0, hz1, hz2⟩ := info_parts info5
  have hbl : Below w0.heap.size w0 (w0.alloc (.cells #[.int .u8 1] 5)).drew := ((Below.refl _ _).alloc (Nat.le_refl _) _).drew
  have hoA := (World.ownsRow.drew (World.ownsRow.alloc HO0.out (.cells #[.int .u8 1] 5)))
  have hgA := heap_below HG0.out hbl
  have hwA : Wr base g w0 (w0.alloc (.cells #[.int .u8 1] 5)).drew := Wr.of_below hbl
  have HOA := Lib.hid hoA
  have HGA := Lib.hid hgA
  have HWA := Lib.hid hwA
  have cgA : (w0.alloc (.cells #[.int .u8 1] 5)).cell? ⟨g, 0, none⟩ = some (.slice A l.length c) := WrSt.cell hgA
  have HVA := Lib.hid (heap_below HV0.out hbl)
  have cvA : (w0.alloc (.cells #[.int .u8 1] 5)).cell? ⟨V, 0, none⟩ = some (.pointer (some ⟨g, 0, none⟩)) := box_cells (heap_below HV0.out hbl) 0 (.pointer (some ⟨g, 0, none⟩)) rfl
  clear hbl hoA hgA hwA
  go_cut [5] (fun v5 wx => WrSt wx base g (l ++ [1]) ∧ Wr base g w0 wx)
  case first =>
    go_region_law ((refine step_append_lies _ (by rfl) _ _ _ (by rfl) base 5 i0 (.int .u8 0) 1 1 Try.underlying25 hi hz0 hz1 hz2 rfl (by omega) _ l.length (bvs l) (by rfl) HOA.out ⟨w0.heap.size, 0, none⟩ 1 1 [bv 1] (by rfl) rfl (World.news_of_block (cs := #[bv 1]) (t := 5) (fr := (0, 0)) (heap_alloc_new w0 _)) (by intro u hu; simp at hu; subst hu; rfl) (by omega) (by simp only [maxLen]; omega) (by omega) (by simp; omega) (w0.heap.size + 1) (by simp) ?_; intro g2 cap w1 hown hgrow hat hlt; have hg1 := app_heap HOA.out HGA.out (by decide) hgrow; have cv1 := box_cells (app_heap HOA.out HVA.out (by decide) hgrow) 0 (.pointer (some ⟨g, 0, none⟩)) rfl; have cg1 := WrSt.cell hg1; have fg1 := WrSt.froz hg1; have HG1 := Lib.hid hg1; have HOWN := Lib.hid (app_own hown); have HW1 := Lib.hid (HWA.out.grown HOA.out hgrow); clear hg1 hown hgrow hat hlt))
    all_goals
      go_wp2_with fail
      go_meet
      exact ⟨WrSt.set_ HG1.out HOWN.out, HW1.out.set_ _⟩
  case rest =>
    obtain ⟨hs2, hw2⟩ := hcut
    have hx2 := hw2.cell HX0.out (by decide) hBg
    have hv2 := hw2.cell HV0.out (by decide) hVg
    have cv2 := box_cells hv2 0 (.pointer (some ⟨g, 0, none⟩)) rfl
    have x2 := box_cells hx2 0 (.string (bs xk)) rfl
    have hbs2 := Nat.le_trans hbs hw2.size
    have HS2 := Lib.hid hs2
    have HW2 := Lib.hid (HW0.out.trans hw2)
    clear hs2 hw2 hx2 hv2
    go_wp2_with fail
    refine (wtext_any base g (l ++ [1]) xk wc HS2.out (by simp; omega) hbs2).mono ?_
    rintro e w3 ⟨rfl, hs3, hw3⟩
    have HS3 := Lib.hid hs3
    have HW3 := Lib.hid (HW2.out.trans hw3)
    clear hs3 hw3
    go_wp2_with fail
    refine bodyPost_ret (v := .tuple #[]) (by simp [results, Try.results85, go_sem]) rfl ?_
    refine ⟨rfl, ?_, HW3.out⟩
    have := HS3.out
    simpa [txt, List.append_assoc] using this

set_option maxRecDepth 100000 in
set_option maxHeartbeats 2000000 in
theorem pc1_here (base g V : Nat) (l xk xv : List UInt8) (w : World) (hs : WrSt w base g l) (hv : w.heap[V]? = some (.cells #[.pointer (some ⟨g, 0, none⟩)] 104 (0, 0))) (hb : base ≤ w.heap.size) (hl : l.length ≤ 1048576) (hkl : xk.length ≤ 1048576) (hvl : xv.length ≤ 1048576) :
    Calls Try.prog 85 #[.agg #[.string (bs xk), .string (bs xv), .bool false], .pointer (some ⟨V, 0, none⟩)] w fun e w' => e = .returned (.tuple #[]) ∧ WrSt w' base g (l ++ 0 :: (txt xk ++ txt xv)) ∧ Wr base g w w' := by
  obtain ⟨v, hg, ho⟩ := hs
  obtain ⟨w0, hw0⟩ : ∃ w0, w0 = w.alloc (.cells #[.string (bs xk), .string (bs xv), .bool false] 66) := ⟨_, rfl⟩
  obtain ⟨B, hB⟩ : ∃ B, B = w.heap.size := ⟨_, rfl⟩
  have hb0 : Below w.heap.size w w0 := by rw [hw0]; exact (Below.refl _ _).alloc (Nat.le_refl _) _
  have hx0 : w0.heap[B]? = some (.cells #[.string (bs xk), .string (bs xv), .bool false] 66 (0, 0)) := by rw [hw0, hB]; exact heap_alloc_new w _
  have hg0 := heap_below hg hb0
  have hv0 := heap_below hv hb0
  have ho0 := ho.below hb0
  have hVg : V ≠ g := by rintro rfl; rw [hg] at hv; injection hv with hv; injection hv with _ h _; exact absurd h (by decide)
  have hBg : B ≠ g := by intro e; rw [e, hg0] at hx0; injection hx0 with hx0; injection hx0 with _ h _; exact absurd h (by decide)
  have HX0 := Lib.hid hx0
  have HG0 := Lib.hid hg0
  have HV0 := Lib.hid hv0
  have HO0 := Lib.hid ho0
  have HW0 := Lib.hid (Wr.of_below (base := base) (g := g) hb0)
  have x0 := box_cells hx0 0 (.string (bs xk)) rfl
  have x1 := box_cells hx0 1 (.string (bs xv)) rfl
  have x2 := box_cells hx0 2 (.bool false) rfl
  have cv := box_cells hv0 0 (.pointer (some ⟨g, 0, none⟩)) rfl
  have cg := box_cells hg0 0 v rfl
  have fg := WrSt.froz hg0
  have hbs : base ≤ w0.heap.size := Nat.le_trans hb hb0.size
  obtain ⟨A, c, rfl, _, _, _⟩ := id ho.rd
  clear hg ho hv hx0 hg0 hv0 ho0 hb0
  go_enter Try.func85, Try.ntmps85
  go_upto_region 4 with fail
  rw [← hw0, ← hB]
  clear hw0 hB
  obtain ⟨i0, hi, hz0, hz1, hz2⟩ := info_parts info5
  have hbl : Below w0.heap.size w0 (w0.alloc (.cells #[.int .u8 0] 5)).drew := ((Below.refl _ _).alloc (Nat.le_refl _) _).drew
  have hoA := (World.ownsRow.drew (World.ownsRow.alloc HO0.out (.cells #[.int .u8 0] 5)))
  have hgA := heap_below HG0.out hbl
  have hwA : Wr base g w0 (w0.alloc (.cells #[.int .u8 0] 5)).drew := Wr.of_below hbl
  have HOA := Lib.hid hoA
  have HGA := Lib.hid hgA
  have HWA := Lib.hid hwA
  have cgA : (w0.alloc (.cells #[.int .u8 0] 5)).cell? ⟨g, 0, none⟩ = some (.slice A l.length c) := WrSt.cell hgA
  have HVA := Lib.hid (heap_below HV0.out hbl)
  have cvA : (w0.alloc (.cells #[.int .u8 0] 5)).cell? ⟨V, 0, none⟩ = some (.pointer (some ⟨g, 0, none⟩)) := box_cells (heap_below HV0.out hbl) 0 (.pointer (some ⟨g, 0, none⟩)) rfl
  clear hbl hoA hgA hwA
  go_cut [18] (fun v18 wx => WrSt wx base g (l ++ [0]) ∧ Wr base g w0 wx)
  case first =>
    go_region_law ((refine step_append_lies _ (by rfl) _ _ _ (by rfl) base 5 i0 (.int .u8 0) 1 1 Try.underlying25 hi hz0 hz1 hz2 rfl (by omega) _ l.length (bvs l) (by rfl) HOA.out ⟨w0.heap.size, 0, none⟩ 1 1 [bv 0] (by rfl) rfl (World.news_of_block (cs := #[bv 0]) (t := 5) (fr := (0, 0)) (heap_alloc_new w0 _)) (by intro u hu; simp at hu; subst hu; rfl) (by omega) (by simp only [maxLen]; omega) (by omega) (by simp; omega) (w0.heap.size + 1) (by simp) ?_; intro g2 cap w1 hown hgrow hat hlt; have hg1 := app_heap HOA.out HGA.out (by decide) hgrow; have cv1 := box_cells (app_heap HOA.out HVA.out (by decide) hgrow) 0 (.pointer (some ⟨g, 0, none⟩)) rfl; have cg1 := WrSt.cell hg1; have fg1 := WrSt.froz hg1; have HG1 := Lib.hid hg1; have HOWN := Lib.hid (app_own hown); have HW1 := Lib.hid (HWA.out.grown HOA.out hgrow); clear hg1 hown hgrow hat hlt))
    all_goals
      go_wp2_with fail
      go_meet
      exact ⟨WrSt.set_ HG1.out HOWN.out, HW1.out.set_ _⟩
  case rest =>
    obtain ⟨hs2, hw2⟩ := hcut
    have hx2 := hw2.cell HX0.out (by decide) hBg
    have hv2 := hw2.cell HV0.out (by decide) hVg
    have cv2 := box_cells hv2 0 (.pointer (some ⟨g, 0, none⟩)) rfl
    have x2 := box_cells hx2 0 (.string (bs xk)) rfl
    have hbs2 := Nat.le_trans hbs hw2.size
    have HS2 := Lib.hid hs2
    have HW2 := Lib.hid (HW0.out.trans hw2)
    have HX2 := Lib.hid hx2
    have HV2 := Lib.hid hv2
    clear hs2 hw2 hx2 hv2
    go_wp2_with fail
    refine (wtext_any base g (l ++ [0]) xk wc HS2.out (by simp; omega) hbs2).mono ?_
    rintro e w3 ⟨rfl, hs3, hw3⟩
    have hx3 := hw3.cell HX2.out (by decide) hBg
    have hv3 := hw3.cell HV2.out (by decide) hVg
    have cv3 := box_cells hv3 0 (.pointer (some ⟨g, 0, none⟩)) rfl
    have x3 := box_cells hx3 1 (.string (bs xv)) rfl
    have hbs3 := Nat.le_trans hbs2 hw3.size
    have HS3 := Lib.hid hs3
    have HW3 := Lib.hid (HW2.out.trans hw3)
    clear hs3 hw3 hx3 hv3
    go_wp2_with fail
    refine (wtext_any base g (l ++ [0] ++ uvar xk.length ++ xk) xv w3 HS3.out (by have := uvar_len10 (n := xk.length) (by omega); simp; omega) hbs3).mono ?_
    rintro e w4 ⟨rfl, hs4, hw4⟩
    have HS4 := Lib.hid hs4
    have HW4 := Lib.hid (HW3.out.trans hw4)
    clear hs4 hw4
    go_wp2_with fail
    go_end0
    refine ⟨rfl, ?_, HW4.out⟩
    have := HS4.out
    simpa [txt, List.append_assoc] using this

theorem pc1_any (base g V : Nat) (l : List UInt8) (x : Wri) (w : World) (hs : WrSt w base g l) (hv : w.heap[V]? = some (.cells #[.pointer (some ⟨g, 0, none⟩)] 104 (0, 0))) (hb : base ≤ w.heap.size) (hl : l.length ≤ 1048576) (hkl : x.key.length ≤ 1048576) (hvl : x.val.length ≤ 1048576) :
    Calls Try.prog 85 #[.agg #[.string (bs x.key), .string (bs x.val), .bool x.gone], .pointer (some ⟨V, 0, none⟩)] w fun e w' => e = .returned (.tuple #[]) ∧ WrSt w' base g (l ++ encW x) ∧ Wr base g w w' := by
  obtain ⟨k, v, g2⟩ := x
  cases g2
  · exact pc1_here base g V l k v w hs hv hb hl hkl hvl
  · exact pc1_gone base g V l k v w hs hv hb hl hkl hvl
end Go.Proofs.Ytggjipfdfpdecaa
