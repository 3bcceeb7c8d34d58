/- The walks of record's Row and Gone. -/
import Derived.Test.YtggjipfdfpdecaaRcH
import Derived.Test.YtggjipfdfpdecaaRcPr
set_option linter.unusedVariables false
namespace Go.Proofs.Ytggjipfdfpdecaa
open Go.RowKit
attribute [local go_sem] bs_list bs_size

theorem bs_nil : ({ data := #[] } : ByteArray) = bs [] := rfl
theorem RdSt.other {w w' : World} {g k : Nat} {A : Option Addr} {c : Nat} {b : List UInt8} {s : RS} {cs : Array Value} {t : TypeId} {fr : Nat × Nat} (h : RdSt w g A c b s) (hk : w.heap[k]? = some (.cells cs t fr)) (hn : NoByte cs) (hne : g ≠ k) (hw : w.grownBy w' (some k)) : RdSt w' g A c b s :=
  ⟨(hw.block g (Array.getElem?_eq_some_iff.1 h.1).1 (fun e => hne (Option.some.inj e))).trans h.1, h.2.far hk hn hw⟩
theorem noByte3 {a b c : Value} (ha : ∀ x : UInt8, a ≠ bv x) (hb : ∀ x : UInt8, b ≠ bv x) (hc : ∀ x : UInt8, c ≠ bv x) : NoByte #[a, b, c] := by
  intro i u h x
  match i, h with
  | 0, h => simp at h; rw [← h]; exact ha x
  | 1, h => simp at h; rw [← h]; exact hb x
  | 2, h => simp at h; rw [← h]; exact hc x
  | i + 3, h => simp at h
theorem str_bv (s : ByteArray) (x : UInt8) : Value.string s ≠ bv x := by simp [bv]
theorem int_bv (n : Int) (x : UInt8) : Value.int .i64 n ≠ bv x := by simp [bv]
theorem heap_grown {w w' : World} {g k : Nat} {o : Obj} (h : w.heap[k]? = some o) (hw : w.grownBy w' (some g)) (hne : k ≠ g) : w'.heap[k]? = some o :=
  (hw.block k (Array.getElem?_eq_some_iff.1 h).1 (fun e => hne (Option.some.inj e))).trans h
theorem below_grown {w w' : World} (h : Below w.heap.size w w') (row : Option Nat) : w.grownBy w' row := ⟨h.os, h.tape, h.output, h.size, fun k hk _ => h.block k hk⟩

/-- What is written into a block that is new counts as nothing. -/
theorem grown_new {w w1 w2 : World} {g H : Nat} (h : w.grownBy w1 (some g)) (h2 : w1.grownBy w2 (some H)) (hH : w.heap.size ≤ H) : w.grownBy w2 (some g) :=
  ⟨h2.os.trans h.os, h2.tape.trans h.tape, h2.output.trans h.output, Nat.le_trans h.size h2.size, fun k hk hne =>
    (h2.block k (Nat.lt_of_lt_of_le hk h.size) (fun e => by injection e with e; omega)).trans (h.block k hk hne)⟩
theorem set3 {w : World} {H : Nat} {a b c : Value} {t : TypeId} (h : w.heap[H]? = some (.cells #[a, b, c] t (0, 0))) (x y z : Value) :
    (((w.setCell ⟨H, 0, none⟩ x).setCell ⟨H, 1, none⟩ y).setCell ⟨H, 2, none⟩ z).heap[H]? = some (.cells #[x, y, z] t (0, 0)) ∧ w.grownBy (((w.setCell ⟨H, 0, none⟩ x).setCell ⟨H, 1, none⟩ y).setCell ⟨H, 2, none⟩ z) (some H) :=
  ⟨set_at (set_at (set_at h 0 x) 1 y) 2 z, ((only_one _ _ _ _).trans (only_one _ _ _ _)).trans (only_one _ _ _ _)⟩
theorem set2 {w : World} {H : Nat} {a b : Value} {t : TypeId} (h : w.heap[H]? = some (.cells #[a, b] t (0, 0))) (x y : Value) :
    ((w.setCell ⟨H, 0, none⟩ x).setCell ⟨H, 1, none⟩ y).heap[H]? = some (.cells #[x, y] t (0, 0)) ∧ w.grownBy ((w.setCell ⟨H, 0, none⟩ x).setCell ⟨H, 1, none⟩ y) (some H) :=
  ⟨set_at (set_at h 0 x) 1 y, (only_one _ _ _ _).trans (only_one _ _ _ _)⟩

set_option maxRecDepth 100000 in
set_option maxHeartbeats 1000000 in
theorem row1_any (g : Nat) (A : Option Addr) (c : Nat) (b : List UInt8) (s : RS) (w : World) (hs : RdSt w g A c b s) (hl : b.length ≤ 140737488355328) :
    Calls Try.prog 110 #[.pointer (some ⟨g, 0, none⟩)] w fun e w' => e = .returned (.agg #[.string (bs (rRow b s).1.key), .string (bs (rRow b s).1.val), .int .i64 ((rRow b s).1.time : Nat)]) ∧ RdSt w' g A c b (rRow b s).2 ∧ w.grownBy w' (some g) := by
  have hgl : g < w.heap.size := (Array.getElem?_eq_some_iff.1 hs.1).1
  obtain ⟨w0, hw0⟩ : ∃ w0, w0 = w.alloc (.cells #[.string (bs []), .string (bs []), .int .i64 0] 81) := ⟨_, rfl⟩
  have hb0 : Below w.heap.size w w0 := by rw [hw0]; exact (Below.refl _ _).alloc (Nat.le_refl _) _
  have hx0 : w0.heap[w.heap.size]? = some (.cells #[.string (bs []), .string (bs []), .int .i64 0] 81 (0, 0)) := by rw [hw0]; exact heap_alloc_new w _
  obtain ⟨H, hH⟩ : ∃ H, H = w.heap.size := ⟨_, rfl⟩
  rw [← hH] at hx0
  have HS0 := Lib.hid (hs.keep hb0)
  have HG0 := Lib.hid (below_grown hb0 (some g))
  have HX0 := Lib.hid hx0; clear hx0 hb0
  go_enter Try.func110, Try.ntmps110
  go_wp2_with fail
  simp only [bs_nil]
  rw [← hw0, ← hH]
  have HH := Lib.hid hH; clear hw0 hH
  refine (rtext_any g A c b s 16 w0 HS0.out hl (by omega)).mono ?_
  rintro e w1 ⟨rfl, hs1, hg1⟩
  have HG1 := Lib.hid (HG0.out.trans hg1)
  have hHg : H ≠ g := by have := HH.out; omega
  have HX1 := Lib.hid (heap_grown HX0.out hg1 hHg)
  obtain ⟨k, s1, hk⟩ : ∃ k s1, rTxt b 16 s = (k, s1) := ⟨_, _, rfl⟩
  rw [hk] at hs1 ⊢
  have HS1 := Lib.hid hs1; clear hs1 hg1
  simp only at HS1 ⊢
  have HK := Lib.hid hk; clear hk
  -- the row's own variable
  obtain ⟨w2, hw2⟩ : ∃ w2, w2 = w1.alloc (.cells #[.string (bs k), .string (bs []), .int .i64 0] 81) := ⟨_, rfl⟩
  obtain ⟨H2, hH2⟩ : ∃ H2, H2 = w1.heap.size := ⟨_, rfl⟩
  have hb2 : Below w1.heap.size w1 w2 := by rw [hw2]; exact (Below.refl _ _).alloc (Nat.le_refl _) _
  have hx2 : w2.heap[H2]? = some (.cells #[.string (bs k), .string (bs []), .int .i64 0] 81 (0, 0)) := by rw [hw2, hH2]; exact heap_alloc_new w1 _
  have hHl : H < w1.heap.size := (Array.getElem?_eq_some_iff.1 HX1.out).1
  have hgl2 : g < w1.heap.size := (Array.getElem?_eq_some_iff.1 HS1.out.1).1
  have hne1 : H2 ≠ g := by omega
  have hne2 : H ≠ H2 := by omega
  have HX2 := Lib.hid hx2; clear hx2
  have HR2 := Lib.hid (heap_below HX1.out hb2)
  have HS2 := Lib.hid (HS1.out.keep hb2)
  have HG2 := Lib.hid (HG1.out.trans (below_grown hb2 (some g))); clear hb2 hHl hgl2
  go_wp2_with fail
  simp only [bs_nil]
  rw [← hw2, ← hH2]
  have HW2 := Lib.hid hw2; clear hw2
  have HH2 := Lib.hid hH2; clear hH2
  refine (rtext_any g A c b s1 64 w2 HS2.out hl (by omega)).mono ?_
  rintro e w3 ⟨rfl, hs3, hg3⟩
  obtain ⟨v, s3, hv⟩ : ∃ v s3, rTxt b 64 s1 = (v, s3) := ⟨_, _, rfl⟩
  rw [hv] at hs3 ⊢
  simp only at hs3 ⊢
  have HV := Lib.hid hv; clear hv
  have HX3 := Lib.hid (heap_grown HX2.out hg3 hne1)
  have HR3 := Lib.hid (heap_grown HR2.out hg3 hHg)
  have HG3 := Lib.hid (HG2.out.trans hg3)
  obtain ⟨w4, hw4⟩ : ∃ w4, w4 = w3.setCell ⟨H2, 1, none⟩ (.string (bs v)) := ⟨_, rfl⟩
  have hg4 : w3.grownBy w4 (some H2) := by rw [hw4]; exact only_one _ _ _ _
  have hx4 : w4.heap[H2]? = some (.cells #[.string (bs k), .string (bs v), .int .i64 0] 81 (0, 0)) := by rw [hw4]; exact set_at HX3.out 1 _
  have HS4 := Lib.hid (hs3.other HX3.out (noByte3 (str_bv _) (str_bv _) (int_bv _)) (fun e => hne1 e.symm) hg4)
  have HR4 := Lib.hid (heap_grown HR3.out hg4 hne2)
  have HX4 := Lib.hid hx4; clear hx4
  have f3 : w3.frozen? ⟨H2, 1, none⟩ = false := by have := HX3.out; simp [World.frozen?, this]
  have c3 := box_cells HX3.out 1 (.string (bs [])) rfl
  clear hs3 hg3
  go_wp2_with fail
  rw [← hw4]
  have HW4 := Lib.hid hw4; clear hw4 c3 f3
  refine (rtime_any g A c b s3 w4 HS4.out hl).mono ?_
  rintro e w5 ⟨rfl, hs5, hg5⟩
  obtain ⟨t, s5, ht⟩ : ∃ t s5, rNum b 1099511627775 s3 = (t, s5) := ⟨_, _, rfl⟩
  rw [ht] at hs5 ⊢
  simp only at hs5 ⊢
  have hres : rRow b s = (⟨k, v, t⟩, s5) := by unfold rRow; rw [HK.out]; simp only; rw [HV.out]; simp only; rw [ht]
  have HRES := Lib.hid hres
  clear ht hres
  have HX5 := Lib.hid (heap_grown HX4.out hg5 hne1)
  have hH2l : w.heap.size ≤ H2 := by rw [HH2.out]; exact HG1.out.size
  have HG5 := Lib.hid ((grown_new HG3.out hg4 hH2l).trans hg5)
  have HR5 := Lib.hid (heap_grown HR4.out hg5 hHg)
  have e5 := box_cells HX5.out 0 (.string (bs k)) rfl
  have e6 := box_cells HX5.out 1 (.string (bs v)) rfl
  have e7 := box_cells HX5.out 2 (.int .i64 0) rfl
  have f5 : ∀ i, w5.frozen? ⟨H2, i, none⟩ = false := by intro i; have := HX5.out; simp [World.frozen?, this]
  have r5 : ∀ i, w5.frozen? ⟨H, i, none⟩ = false := by intro i; have := HR5.out; simp [World.frozen?, this]
  have r6 := box_cells HR5.out 0 (.string (bs [])) rfl
  have r7 := box_cells HR5.out 1 (.string (bs [])) rfl
  have r8 := box_cells HR5.out 2 (.int .i64 0) rfl
  have hne3 : ¬ H = H2 := hne2
  have hne4 : ¬ H2 = H := fun e => hne2 e.symm
  go_wp2_with fail
  have HR6 := heap_grown HR5.out (only_one w5 H2 2 (.int .i64 (t : Int))) hne2
  have hs6 := hs5.other HX5.out (noByte3 (str_bv _) (str_bv _) (int_bv _)) (fun e => hne1 e.symm) (only_one w5 H2 2 (.int .i64 (t : Int)))
  obtain ⟨-, hs8⟩ := set3 HR6 (.string (bs k)) (.string (bs v)) (.int .i64 (t : Int))
  have hs7 := hs6.other HR6 (noByte3 (str_bv _) (str_bv _) (int_bv _)) (fun e => hHg e.symm) hs8
  have hg7 := grown_new (grown_new HG5.out (only_one w5 H2 2 (.int .i64 (t : Int))) hH2l) hs8 (by rw [HH.out]; exact Nat.le_refl _)
  refine bodyPost_ret (v := .agg #[.string (bs k), .string (bs v), .int .i64 (t : Int)]) (by simp [results, Try.results110, go_sem, *]) rfl ?_
  rw [HRES.out]
  exact ⟨rfl, hs7, hg7⟩
end Go.Proofs.Ytggjipfdfpdecaa
