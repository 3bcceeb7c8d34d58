/- The walk of record's Commit. -/
import Derived.Test.YtggjipfdfpdecaaRcCw
set_option linter.unusedVariables false
namespace Go.Proofs.Ytggjipfdfpdecaa
open Go.RowKit
attribute [local go_sem] bs_list bs_size

/-- What Commit's inner function answers. -/
def ComR (g : Nat) (A : Option Addr) (c : Nat) (b : List UInt8) (w : World) (r : (Nat × List Wri) × RS) (e : Ending) (w' : World) : Prop :=
  ∃ v, e = .returned (.agg #[.int .i64 (r.1.1 : Nat), v]) ∧ Own3 w' w.heap.size 66 v (r.1.2.map wV) ∧ RdSt w' g A c b r.2 ∧ w.grownBy w' (some g)

set_option maxRecDepth 100000 in
set_option maxHeartbeats 2000000 in
theorem com1_any (g : Nat) (A : Option Addr) (c : Nat) (b : List UInt8) (s : RS) (w : World) (hs : RdSt w g A c b s) (hl : b.length ≤ 140737488355328) (ha : s.at_ ≤ 140737488355328) :
    Calls Try.prog 91 #[.pointer (some ⟨g, 0, none⟩)] w (ComR g A c b w (rCom b s)) := by
  obtain ⟨R, hR⟩ : ∃ R, R = w.heap.size := ⟨_, rfl⟩
  have hgl : g < R := by rw [hR]; exact (Array.getElem?_eq_some_iff.1 hs.1).1
  obtain ⟨w0, hw0⟩ : ∃ w0, w0 = (w.alloc (.cells #[.pointer (some ⟨g, 0, none⟩)] 113)).alloc (.cells #[.int .i64 0, .slice none 0 0] 64) := ⟨_, rfl⟩
  have hb1 : Below w.heap.size w (w.alloc (.cells #[.pointer (some ⟨g, 0, none⟩)] 113)) := (Below.refl _ _).alloc (Nat.le_refl _) _
  have hb0 : Below w.heap.size w w0 := by rw [hw0]; exact hb1.alloc hb1.size _
  have hr0 : w0.heap[R]? = some (.cells #[.pointer (some ⟨g, 0, none⟩)] 113 (0, 0)) := by
    rw [hw0, hR]
    exact heap_below (heap_alloc_new w _) ((Below.refl _ _).alloc (Nat.le_refl _) _)
  have hx0 : w0.heap[R + 1]? = some (.cells #[.int .i64 0, .slice none 0 0] 64 (0, 0)) := by
    rw [hw0, hR]
    have := heap_alloc_new (w.alloc (.cells #[.pointer (some ⟨g, 0, none⟩)] 113)) (.cells #[.int .i64 0, .slice none 0 0] 64)
    rw [show (w.alloc (.cells #[.pointer (some ⟨g, 0, none⟩)] 113)).heap.size = w.heap.size + 1 from by simp] at this
    exact this
  have HS0 := Lib.hid (hs.keep hb0)
  have HG0 := Lib.hid (below_grown hb0 (some g))
  have HX0 := Lib.hid hx0
  have HR0 := Lib.hid hr0
  have cr := box_cells hr0 0 (.pointer (some ⟨g, 0, none⟩)) rfl
  clear hx0 hr0 hb0 hb1
  obtain ⟨⟨t, s1⟩, ht⟩ : ∃ p, p = rNum b 1099511627775 s := ⟨_, rfl⟩
  have ha1 : s1.at_ ≤ 140737488355328 := by have := rNum_at b 1099511627775 s; rw [← ht] at this; simp only at this; omega
  obtain ⟨⟨ws, s3⟩, hq⟩ : ∃ p, p = rList (rWri b) (rNum b 64 s1).1 (rNum b 64 s1).2 := ⟨_, rfl⟩
  have hres : rCom b s = ((t, ws), s3) := by unfold rCom; rw [← ht]; simp only; rw [← hq]
  rw [hres]
  have HT := Lib.hid ht; clear ht
  have HQ := Lib.hid hq; clear hq hres
  go_enter Try.func91, Try.ntmps91
  go_upto_region 1 with fail
  rw [← hR, ← hw0]
  have HRE := Lib.hid hR; clear hw0 hR
  go_wp2_with fail
  refine (rtime_any g A c b s w0 HS0.out hl).mono ?_
  rintro e w1 ⟨rfl, hs1, hg1⟩
  rw [← HT.out] at hs1 ⊢
  simp only at hs1 ⊢
  have HG1 := Lib.hid (HG0.out.trans hg1)
  have HX1 := Lib.hid (heap_grown HX0.out hg1 (by omega))
  have HR1 := Lib.hid (heap_grown HR0.out hg1 (by omega))
  have HS1 := Lib.hid hs1
  -- the commit's own variable
  obtain ⟨w2, hw2⟩ : ∃ w2, w2 = w1.alloc (.cells #[.int .i64 (t : Int), .slice none 0 0] 64) := ⟨_, rfl⟩
  obtain ⟨X, hX⟩ : ∃ X, X = w1.heap.size := ⟨_, rfl⟩
  have hb2 : Below w1.heap.size w1 w2 := by rw [hw2]; exact (Below.refl _ _).alloc (Nat.le_refl _) _
  have hx2 : w2.heap[X]? = some (.cells #[.int .i64 (t : Int), .slice none 0 0] 64 (0, 0)) := by rw [hw2, hX]; exact heap_alloc_new w1 _
  have hRX : R + 1 < X := by rw [hX]; exact (Array.getElem?_eq_some_iff.1 HX1.out).1
  have HY2 := Lib.hid hx2
  have HX2 := Lib.hid (heap_below HX1.out hb2)
  have HR2 := Lib.hid (heap_below HR1.out hb2)
  have HS2 := Lib.hid (HS1.out.keep hb2)
  have HG2 := Lib.hid (HG1.out.trans (below_grown hb2 (some g)))
  have cr2 := box_cells HR2.out 0 (.pointer (some ⟨g, 0, none⟩)) rfl
  clear hs1 hg1 hb2 hx2 cr
  go_upto_region 2 with fail
  rw [← hw2, ← hX]
  have HW2 := Lib.hid hw2; clear hw2
  have HXe := Lib.hid hX; clear hX
  go_wp2_with fail
  refine (listW_any g R A c b s1 w2 HS2.out HR2.out hl ha1).mono ?_
  rintro e w3 ⟨v, rfl, ho3, hs3, hg3⟩
  rw [← HQ.out] at ho3 hs3
  simp only at ho3 hs3
  have HY3 := Lib.hid (heap_grown HY2.out hg3 (by omega))
  have HX3 := Lib.hid (heap_grown HX2.out hg3 (by omega))
  have HG3 := Lib.hid (HG2.out.trans hg3)
  have HO3 := Lib.hid ho3
  have HS3 := Lib.hid hs3
  have hsz2 : w.heap.size ≤ w2.heap.size := HG2.out.size
  obtain ⟨A7, c7, rfl, hc7, hc8, _⟩ := id ho3.rd
  rw [List.length_map]
  clear hs3 hg3 ho3 hc7 hc8 cr2
  obtain ⟨V, hV⟩ : ∃ V, V = Value.slice A7 ws.length c7 := ⟨_, rfl⟩
  have hvb : ∀ x : UInt8, V ≠ bv x := by rw [hV]; exact slice_bv _ _ _
  have HO3' := Lib.hid (show Own3 w3 w2.heap.size 66 V (ws.map wV) from by rw [hV]; have := HO3.out; rwa [List.length_map] at this)
  have hy4 := set_at HY3.out 1 V
  have hx4 := heap_grown HX3.out (only_one w3 X 1 V) (by omega)
  have hs4 := HS3.out.other HY3.out (noByte2 (int_bv _) (slice_bv _ _ _)) (by omega) (only_one w3 X 1 V)
  have ho4 := HO3'.out.grown (only_one w3 X 1 V) (HO3'.out.ne_ HY3.out (by decide))
  have hg4 := grown_new HG3.out (only_one w3 X 1 V) (by have := HRE.out; omega)
  obtain ⟨-, hs8⟩ := set2 hx4 (.int .i64 (t : Int)) V
  have hs5 := hs4.other hx4 (noByte2 (int_bv _) (slice_bv _ _ _)) (by omega) hs8
  have ho5 := ho4.grown hs8 (ho4.ne_ hx4 (by decide))
  have hg5 := grown_new hg4 hs8 (by have := HRE.out; omega)
  have HS5 := Lib.hid hs5
  have HO5 := Lib.hid (ho5.base hsz2)
  have HG5 := Lib.hid hg5
  have y0 := box_cells HY3.out 0 (.int .i64 (t : Int)) rfl
  have y1 := box_cells HY3.out 1 (.slice none 0 0) rfl
  have f3 : ∀ i, w3.frozen? ⟨X, i, none⟩ = false := by intro i; have := HY3.out; simp [World.frozen?, this]
  have r3 : ∀ i, w3.frozen? ⟨R + 1, i, none⟩ = false := by intro i; have := HX3.out; simp [World.frozen?, this]
  have r0 := box_cells HX3.out 0 (.int .i64 0) rfl
  have r1 := box_cells HX3.out 1 (.slice none 0 0) rfl
  have hne3 : ¬ R + 1 = X := by omega
  have hne4 : ¬ X = R + 1 := by omega
  have HVV := Lib.hid hV
  clear hy4 hx4 hs4 ho4 hg4 hs8 hs5 ho5 hg5 hvb
  subst hV
  go_wp2_with fail
  refine bodyPost_ret (v := .agg #[.int .i64 (t : Int), .slice A7 ws.length c7]) (by simp [results, Try.results91, go_sem, *]) rfl ?_
  exact ⟨_, rfl, HO5.out, HS5.out, HG5.out⟩
end Go.Proofs.Ytggjipfdfpdecaa
