/- The walk of record's Manifest: a pair is read. -/
import Derived.Test.YtggjipfdfpdecaaRcMa
import Derived.Test.YtggjipfdfpdecaaRcCw
set_option linter.unusedVariables false
namespace Go.Proofs.Ytggjipfdfpdecaa
open Go.RowKit
attribute [local go_sem] bs_list bs_size

/-- A pair as cells. -/
def pV (p : Pai) : V3 := ⟨.int .i64 p.num, .int .i64 p.from_, .int .i64 p.to_⟩
theorem pV_one (x : Pai) : ∀ u ∈ (pV x).cells, u.oneCell' = true := by
  intro u hu
  simp [pV, V3.cells] at hu
  rcases hu with rfl | rfl | rfl <;> rfl

set_option maxRecDepth 100000 in
set_option maxHeartbeats 2000000 in
theorem rp1_any (g R : Nat) (A : Option Addr) (c : Nat) (b : List UInt8) (s : RS) (w : World) (hs : RdSt w g A c b s) (hR : w.heap[R]? = some (.cells #[.pointer (some ⟨g, 0, none⟩)] 113 (0, 0))) (hl : b.length ≤ 140737488355328) :
    Calls Try.prog 106 #[.pointer (some ⟨R, 0, none⟩)] w fun e w' => e = .returned (.agg #[.int .i64 (rPai b s).1.num, .int .i64 (rPai b s).1.from_, .int .i64 (rPai b s).1.to_]) ∧ RdSt w' g A c b (rPai b s).2 ∧ w.grownBy w' (some g) := by
  have hRg := hs.ne_ hR (by decide)
  have hgl : g < w.heap.size := (Array.getElem?_eq_some_iff.1 hs.1).1
  obtain ⟨w0, hw0⟩ : ∃ w0, w0 = w.alloc (.cells #[.int .i64 0, .int .i64 0, .int .i64 0] 79) := ⟨_, rfl⟩
  have hb0 : Below w.heap.size w w0 := by rw [hw0]; exact (Below.refl _ _).alloc (Nat.le_refl _) _
  have hx0 : w0.heap[w.heap.size]? = some (.cells #[.int .i64 0, .int .i64 0, .int .i64 0] 79 (0, 0)) := by rw [hw0]; exact heap_alloc_new w _
  obtain ⟨H, hH⟩ : ∃ H, H = w.heap.size := ⟨_, rfl⟩
  rw [← hH] at hx0
  have HS0 := Lib.hid (hs.keep hb0)
  have HG0 := Lib.hid (below_grown hb0 (some g))
  have HX0 := Lib.hid hx0
  have HR0 := Lib.hid (heap_below hR hb0)
  have cr := box_cells HR0.out 0 (.pointer (some ⟨g, 0, none⟩)) rfl
  have hHg : H ≠ g := by omega
  have hHR : H ≠ R := by have := (Array.getElem?_eq_some_iff.1 hR).1; omega
  clear hx0 hb0 hR
  obtain ⟨⟨f, s1⟩, hf⟩ : ∃ p, p = rNum b 2147483647 s := ⟨_, rfl⟩
  obtain ⟨⟨k, s2⟩, hk⟩ : ∃ p, p = rNum b 1099511627775 s1 := ⟨_, rfl⟩
  obtain ⟨⟨v, s3⟩, hv⟩ : ∃ p, p = rNum b 1099511627775 s2 := ⟨_, rfl⟩
  have hres : rPai b s = (⟨(f : Nat), (k : Nat), (v : Nat)⟩, s3) := by unfold rPai; rw [← hf]; simp only; rw [← hk]; simp only; rw [← hv]
  rw [hres]
  have HF := Lib.hid hf; clear hf
  have HK := Lib.hid hk; clear hk
  have HV := Lib.hid hv; clear hv hres
  go_enter Try.func106, Try.ntmps106
  go_upto_region 1 with fail
  rw [← hw0, ← hH]
  have HH := Lib.hid hH; clear hw0 hH
  go_wp2_with fail
  refine (rnum_any g A c b s 2147483647 w0 HS0.out hl (by omega)).mono ?_
  rintro e w1 ⟨rfl, hs1, hg1⟩
  rw [← HF.out] at hs1 ⊢
  simp only at hs1 ⊢
  have HG1 := Lib.hid (HG0.out.trans hg1)
  have HX1 := Lib.hid (heap_grown HX0.out hg1 hHg)
  have HR1 := Lib.hid (heap_grown HR0.out hg1 hRg)
  have HS1 := Lib.hid hs1; clear hs1 hg1
  -- the pair's own variable
  obtain ⟨w2, hw2⟩ : ∃ w2, w2 = w1.alloc (.cells #[.int .i64 (f : Int), .int .i64 0, .int .i64 0] 79) := ⟨_, rfl⟩
  obtain ⟨X, hX⟩ : ∃ X, X = w1.heap.size := ⟨_, rfl⟩
  have hb2 : Below w1.heap.size w1 w2 := by rw [hw2]; exact (Below.refl _ _).alloc (Nat.le_refl _) _
  have hx2 : w2.heap[X]? = some (.cells #[.int .i64 (f : Int), .int .i64 0, .int .i64 0] 79 (0, 0)) := by rw [hw2, hX]; exact heap_alloc_new w1 _
  have hHl : H < w1.heap.size := (Array.getElem?_eq_some_iff.1 HX1.out).1
  have hgl2 : g < w1.heap.size := (Array.getElem?_eq_some_iff.1 HS1.out.1).1
  have hRl : R < w1.heap.size := (Array.getElem?_eq_some_iff.1 HR1.out).1
  have hXg : X ≠ g := by omega
  have hHX : H ≠ X := by omega
  have hRX : R ≠ X := by omega
  have hwX : w.heap.size ≤ X := by rw [hX]; exact HG1.out.size
  have hwH : w.heap.size ≤ H := by rw [HH.out]; exact Nat.le_refl _
  have HY2 := Lib.hid hx2
  have HX2 := Lib.hid (heap_below HX1.out hb2)
  have HR2 := Lib.hid (heap_below HR1.out hb2)
  have HS2 := Lib.hid (HS1.out.keep hb2)
  have HG2 := Lib.hid (HG1.out.trans (below_grown hb2 (some g)))
  have cr2 := box_cells HR2.out 0 (.pointer (some ⟨g, 0, none⟩)) rfl
  clear hb2 hx2 hHl hgl2 hRl cr
  go_upto_region 2 with fail
  rw [← hw2, ← hX]
  have HW2 := Lib.hid hw2; clear hw2
  have HXe := Lib.hid hX; clear hX
  go_wp2_with fail
  refine (rtime_any g A c b s1 w2 HS2.out hl).mono ?_
  rintro e w3 ⟨rfl, hs3, hg3⟩
  rw [← HK.out] at hs3 ⊢
  simp only at hs3 ⊢
  have HY3 := Lib.hid (heap_grown HY2.out hg3 hXg)
  have HX3 := Lib.hid (heap_grown HX2.out hg3 hHg)
  have HR3 := Lib.hid (heap_grown HR2.out hg3 hRg)
  have HG3 := Lib.hid (HG2.out.trans hg3)
  obtain ⟨w4, hw4⟩ : ∃ w4, w4 = w3.setCell ⟨X, 1, none⟩ (.int .i64 (k : Int)) := ⟨_, rfl⟩
  have hg4 : w3.grownBy w4 (some X) := by rw [hw4]; exact only_one _ _ _ _
  have hy4 : w4.heap[X]? = some (.cells #[.int .i64 (f : Int), .int .i64 (k : Int), .int .i64 0] 79 (0, 0)) := by rw [hw4]; exact set_at HY3.out 1 _
  have HS4 := Lib.hid (hs3.other HY3.out (noByte3 (int_bv _) (int_bv _) (int_bv _)) (fun e => hXg e.symm) hg4)
  have HX4 := Lib.hid (heap_grown HX3.out hg4 hHX)
  have HR4 := Lib.hid (heap_grown HR3.out hg4 hRX)
  have HG4 := Lib.hid (grown_new HG3.out hg4 hwX)
  have HY4 := Lib.hid hy4
  have f3 : w3.frozen? ⟨X, 1, none⟩ = false := by have := HY3.out; simp [World.frozen?, this]
  have c3 := box_cells HY3.out 1 (.int .i64 0) rfl
  clear hs3 hg3 hg4 hy4 cr2
  go_upto_region 3 with fail
  rw [← hw4]
  have HW4 := Lib.hid hw4; clear hw4 f3 c3
  have cr4 := box_cells HR4.out 0 (.pointer (some ⟨g, 0, none⟩)) rfl
  go_wp2_with fail
  refine (rtime_any g A c b s2 w4 HS4.out hl).mono ?_
  rintro e w5 ⟨rfl, hs5, hg5⟩
  rw [← HV.out] at hs5 ⊢
  simp only at hs5 ⊢
  have HY5 := Lib.hid (heap_grown HY4.out hg5 hXg)
  have HX5 := Lib.hid (heap_grown HX4.out hg5 hHg)
  have HG5 := Lib.hid (HG4.out.trans hg5)
  have HY6 := Lib.hid (set_at HY5.out 2 (.int .i64 (v : Int)))
  have HX6 := Lib.hid (heap_grown HX5.out (only_one w5 X 2 (.int .i64 (v : Int))) hHX)
  have HS6 := Lib.hid (hs5.other HY5.out (noByte3 (int_bv _) (int_bv _) (int_bv _)) (fun e => hXg e.symm) (only_one w5 X 2 (.int .i64 (v : Int))))
  have HG6 := Lib.hid (grown_new HG5.out (only_one w5 X 2 (.int .i64 (v : Int))) hwX)
  obtain ⟨-, hs8⟩ := set3 HX6.out (.int .i64 (f : Int)) (.int .i64 (k : Int)) (.int .i64 (v : Int))
  have HS8 := Lib.hid (HS6.out.other HX6.out (noByte3 (int_bv _) (int_bv _) (int_bv _)) (fun e => hHg e.symm) hs8)
  have HG8 := Lib.hid (grown_new HG6.out hs8 hwH)
  have e5 := box_cells HY5.out 0 (.int .i64 (f : Int)) rfl
  have e6 := box_cells HY5.out 1 (.int .i64 (k : Int)) rfl
  have e7 := box_cells HY5.out 2 (.int .i64 0) rfl
  have f5 : ∀ i, w5.frozen? ⟨X, i, none⟩ = false := by intro i; have := HY5.out; simp [World.frozen?, this]
  have r5 : ∀ i, w5.frozen? ⟨H, i, none⟩ = false := by intro i; have := HX5.out; simp [World.frozen?, this]
  have r6 := box_cells HX5.out 0 (.int .i64 0) rfl
  have r7 := box_cells HX5.out 1 (.int .i64 0) rfl
  have r8 := box_cells HX5.out 2 (.int .i64 0) rfl
  have hne3 : ¬ H = X := hHX
  have hne4 : ¬ X = H := fun e => hHX e.symm
  clear hs8 hs5 hg5 cr4
  go_wp2_with fail
  refine bodyPost_ret (v := .agg #[.int .i64 (f : Int), .int .i64 (k : Int), .int .i64 (v : Int)]) (by simp [results, Try.results106, go_sem, *]) rfl ?_
  exact ⟨rfl, HS8.out, HG8.out⟩
end Go.Proofs.Ytggjipfdfpdecaa
