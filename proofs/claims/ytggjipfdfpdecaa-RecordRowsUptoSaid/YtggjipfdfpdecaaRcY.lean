/- The walks of record's Row and Gone, and of the document's. -/
import Derived.Test.YtggjipfdfpdecaaRcV
import Derived.Test.YtggjipfdfpdecaaRcQ
set_option linter.unusedVariables false
namespace Go.Proofs.Ytggjipfdfpdecaa
open Go.RowKit
attribute [local go_sem] bs_list bs_size

/-- What Row, Gone answer. -/
def rowA (d : RowP × Nat × Nat) : Value := .tuple #[.agg #[.string (bs d.1.key), .string (bs d.1.val), .int .i64 (d.1.time : Nat)], .int .i64 (d.2.1 : Nat), .int .i64 (d.2.2 : Nat)]
def goneA (d : GoneP × Nat × Nat) : Value := .tuple #[.agg #[.string (bs d.1.key), .int .i64 (d.1.time : Nat)], .int .i64 (d.2.1 : Nat), .int .i64 (d.2.2 : Nat)]

set_option maxRecDepth 100000 in
set_option maxHeartbeats 1000000 in
theorem rrow_any (v : Value) (b : List UInt8) (w : World) (hr : RdB w v b) (hl : b.length ≤ 140737488355328) :
    Calls Try.prog 61 #[v] w fun e w' => e = .returned (rowA (decRow b)) ∧ Below w.heap.size w w' := by
  obtain ⟨A, c, rfl, _, _, _⟩ := id hr
  obtain ⟨H, hH⟩ : ∃ H, H = w.heap.size := ⟨_, rfl⟩
  obtain ⟨w0, hw0⟩ : ∃ w0, w0 = w.alloc (.cells #[.string (bs []), .string (bs []), .int .i64 0] 81) := ⟨_, rfl⟩
  have hb0 : Below w.heap.size w w0 := by rw [hw0]; exact (Below.refl _ _).alloc (Nat.le_refl _) _
  have hx0 : w0.heap[H]? = some (.cells #[.string (bs []), .string (bs []), .int .i64 0] 81 (0, 0)) := by rw [hw0, hH]; exact heap_alloc_new w _
  have hrd := hr.below hb0
  obtain ⟨⟨⟨k, x, t⟩, at_, code⟩, hd⟩ : ∃ d, d = decRow b := ⟨_, rfl⟩
  have ht := takeRow_any A c b w0 hrd hl
  rw [← hd] at ht ⊢
  simp only at ht
  have HB0 := Lib.hid hb0; clear hb0
  have HX0 := Lib.hid hx0; clear hx0
  have HT := Lib.hid ht; clear ht hd
  go_enter Try.func61, Try.ntmps61
  go_wp2_with fail
  simp only [bs_nil]
  rw [← hH]
  rw [← hw0]
  have HH := Lib.hid hH; clear hw0 hH
  refine HT.out.mono ?_
  rintro e w1 ⟨rfl, hb1⟩
  have HX1 := Lib.hid (heap_below HX0.out hb1)
  have HB1 := Lib.hid (HB0.out.trans (hb1.mono HB0.out.size)); clear hb1
  have r0 := box_cells HX1.out 0 (.string (bs [])) rfl
  have r1 := box_cells HX1.out 1 (.string (bs [])) rfl
  have r2 := box_cells HX1.out 2 (.int .i64 0) rfl
  have rf : ∀ i, w1.frozen? ⟨H, i, none⟩ = false := by intro i; have := HX1.out; simp [World.frozen?, this]
  have hfin := set3 HX1.out (.string (bs k)) (.string (bs x)) (.int .i64 (t : Int))
  have hblw := blw HB1.out hfin.2 (by rw [HH.out]; exact Nat.le_refl _) (Nat.le_refl _)
  have HBL := Lib.hid hblw; clear hblw hfin
  go_wp2_with fail
  refine bodyPost_ret (v := .tuple #[.agg #[.string (bs k), .string (bs x), .int .i64 (t : Int)], .int .i64 at_, .int .i64 code]) (by simp [results, Try.results61, go_sem, *]) rfl ?_
  exact ⟨rfl, HBL.out⟩
set_option maxRecDepth 100000 in
set_option maxHeartbeats 1000000 in
theorem rgone_any (v : Value) (b : List UInt8) (w : World) (hr : RdB w v b) (hl : b.length ≤ 140737488355328) :
    Calls Try.prog 63 #[v] w fun e w' => e = .returned (goneA (decGone b)) ∧ Below w.heap.size w w' := by
  obtain ⟨A, c, rfl, _, _, _⟩ := id hr
  obtain ⟨H, hH⟩ : ∃ H, H = w.heap.size := ⟨_, rfl⟩
  obtain ⟨w0, hw0⟩ : ∃ w0, w0 = w.alloc (.cells #[.string (bs []), .int .i64 0] 85) := ⟨_, rfl⟩
  have hb0 : Below w.heap.size w w0 := by rw [hw0]; exact (Below.refl _ _).alloc (Nat.le_refl _) _
  have hx0 : w0.heap[H]? = some (.cells #[.string (bs []), .int .i64 0] 85 (0, 0)) := by rw [hw0, hH]; exact heap_alloc_new w _
  have hrd := hr.below hb0
  obtain ⟨⟨⟨k, t⟩, at_, code⟩, hd⟩ : ∃ d, d = decGone b := ⟨_, rfl⟩
  have ht := takeGone_any A c b w0 hrd hl
  rw [← hd] at ht ⊢
  simp only at ht
  have HB0 := Lib.hid hb0; clear hb0
  have HX0 := Lib.hid hx0; clear hx0
  have HT := Lib.hid ht; clear ht hd
  go_enter Try.func63, Try.ntmps63
  go_wp2_with fail
  simp only [bs_nil]
  rw [← hH]
  rw [← hw0]
  have HH := Lib.hid hH; clear hw0 hH
  refine HT.out.mono ?_
  rintro e w1 ⟨rfl, hb1⟩
  have HX1 := Lib.hid (heap_below HX0.out hb1)
  have HB1 := Lib.hid (HB0.out.trans (hb1.mono HB0.out.size)); clear hb1
  have r0 := box_cells HX1.out 0 (.string (bs [])) rfl
  have r1 := box_cells HX1.out 1 (.int .i64 0) rfl
  have rf : ∀ i, w1.frozen? ⟨H, i, none⟩ = false := by intro i; have := HX1.out; simp [World.frozen?, this]
  have hfin := set2 HX1.out (.string (bs k)) (.int .i64 (t : Int))
  have hblw := blw HB1.out hfin.2 (by rw [HH.out]; exact Nat.le_refl _) (Nat.le_refl _)
  have HBL := Lib.hid hblw; clear hblw hfin
  go_wp2_with fail
  refine bodyPost_ret (v := .tuple #[.agg #[.string (bs k), .int .i64 (t : Int)], .int .i64 at_, .int .i64 code]) (by simp [results, Try.results63, go_sem, *]) rfl ?_
  exact ⟨rfl, HBL.out⟩

theorem RfC.other {w w' : World} {g k : Nat} {A : Option Addr} {c : Nat} {b : List UInt8} {a bd : Int} {cs : Array Value} {t : TypeId} {fr : Nat × Nat} (h : RfC w g A c b a bd) (hk : w.heap[k]? = some (.cells cs t fr)) (hn : NoByte cs) (hne : g ≠ k) (hw : w.grownBy w' (some k)) : RfC w' g A c b a bd :=
  ⟨(hw.block g (Array.getElem?_eq_some_iff.1 h.1).1 (fun e => hne (Option.some.inj e))).trans h.1, h.2.far hk hn hw⟩
theorem RfSt.other {w w' : World} {g k : Nat} {A : Option Addr} {c : Nat} {b : List UInt8} {s : RS} {cs : Array Value} {t : TypeId} {fr : Nat × Nat} (h : RfSt w g A c b s) (hk : w.heap[k]? = some (.cells cs t fr)) (hn : NoByte cs) (hne : g ≠ k) (hw : w.grownBy w' (some k)) : RfSt w' g A c b s := by
  rcases h with ⟨h1, h2⟩ | ⟨h1, a, h3, h2⟩
  · exact .inl ⟨h1, h2.other hk hn hne hw⟩
  · exact .inr ⟨h1, a, h3, h2.other hk hn hne hw⟩
theorem RfSt.lt {w : World} {g : Nat} {A : Option Addr} {c : Nat} {b : List UInt8} {s : RS} (h : RfSt w g A c b s) : g < w.heap.size := by
  rcases h with ⟨h1, h2⟩ | ⟨h1, a, h3, h2⟩
  · exact (Array.getElem?_eq_some_iff.1 h2.1).1
  · exact (Array.getElem?_eq_some_iff.1 h2.1).1
theorem startC_at (b : List UInt8) (k : UInt8) : (startC b k).at_ ≤ 1 := by unfold startC; split <;> simp
theorem rRow_ok (b : List UInt8) (s : RS) : (isKey (rRow b s).1.key && isVal (rRow b s).1.val && isTm ((rRow b s).1.time : Nat)) = isKey (rRow b s).1.key := by
  have h1 : isVal (rRow b s).1.val = true := (isVal_iff _).2 (rTxt_le b 64 _)
  have h2 : isTm ((rRow b s).1.time : Nat) = true := by
    refine (isTm_iff _).2 ⟨by omega, ?_⟩
    have : (rRow b s).1.time ≤ 1099511627775 := rNum_le b _ _
    omega
  rw [h1, h2, Bool.and_true, Bool.and_true]
theorem rGone_ok (b : List UInt8) (s : RS) : (isKey (rGone b s).1.key && isTm ((rGone b s).1.time : Nat)) = isKey (rGone b s).1.key := by
  have h2 : isTm ((rGone b s).1.time : Nat) = true := by
    refine (isTm_iff _).2 ⟨by omega, ?_⟩
    have : (rGone b s).1.time ≤ 1099511627775 := rNum_le b _ _
    omega
  rw [h2, Bool.and_true]

set_option maxRecDepth 100000 in
set_option maxHeartbeats 2000000 in
theorem frow_any (v : Value) (b : List UInt8) (w : World) (hr : RdB w v b) (hl : b.length ≤ 140737488355328) :
    Calls Try.prog 62 #[v] w fun e w' => e = .returned (rowA (decRow b)) ∧ Below w.heap.size w w' := by
  obtain ⟨A, c, rfl, _, _, _⟩ := id hr
  obtain ⟨H, hH⟩ : ∃ H, H = w.heap.size := ⟨_, rfl⟩
  obtain ⟨w0, hw0⟩ : ∃ w0, w0 = w.alloc (.cells #[.string (bs []), .string (bs []), .int .i64 0] 81) := ⟨_, rfl⟩
  have hb0 : Below w.heap.size w w0 := by rw [hw0]; exact (Below.refl _ _).alloc (Nat.le_refl _) _
  have hx0 : w0.heap[H]? = some (.cells #[.string (bs []), .string (bs []), .int .i64 0] 81 (0, 0)) := by rw [hw0, hH]; exact heap_alloc_new w _
  have hrd := hr.below hb0
  have HB0 := Lib.hid hb0; clear hb0
  have HX0 := Lib.hid hx0; clear hx0
  have HRD := Lib.hid hrd; clear hrd
  obtain ⟨s0, hs0⟩ : ∃ s, s = startC b 82 := ⟨_, rfl⟩
  have ha0 : s0.at_ ≤ 140737488355328 := by rw [hs0]; have := startC_at b 82; omega
  obtain ⟨⟨k, s1⟩, hk⟩ : ∃ p, p = rTxt b 16 s0 := ⟨_, rfl⟩
  have ha1 : s1.at_ ≤ 140737488355328 := by have := rTxt_at b 16 s0; rw [← hk] at this; simp only at this; omega
  have hkl : k.length ≤ 16 := by have := rTxt_le b 16 s0; rw [← hk] at this; exact this
  obtain ⟨⟨x, s2⟩, hx⟩ : ∃ p, p = rTxt b 64 s1 := ⟨_, rfl⟩
  have ha2 : s2.at_ ≤ 140737488355328 := by have := rTxt_at b 64 s1; rw [← hx] at this; simp only at this; omega
  obtain ⟨⟨t, s3⟩, ht⟩ : ∃ p, p = rNum b 1099511627775 s2 := ⟨_, rfl⟩
  have ha3 : s3.at_ ≤ 140737488355328 := by have := rNum_at b 1099511627775 s2; rw [← ht] at this; simp only at this; omega
  have hq : rRow b s0 = (⟨k, x, t⟩, s3) := by unfold rRow; rw [← hk]; simp only; rw [← hx]; simp only; rw [← ht]
  have hok := rRow_ok b s0
  rw [hq] at hok
  simp only at hok
  have hd : decRow b = ansC ⟨[], [], 0⟩ ⟨k, x, t⟩ (endC b s3 (isKey k)) := by unfold decRow; rw [← hs0, hq]
  rw [hd]
  clear hd hq
  have HK := Lib.hid hk; clear hk
  have HXX := Lib.hid hx; clear hx
  have HT := Lib.hid ht; clear ht
  have HS0 := Lib.hid hs0; clear hs0
  have HOK := Lib.hid hok; clear hok
  go_enter Try.func62, Try.ntmps62
  go_wp2_with fail
  simp only [bs_nil]
  rw [← hH]
  rw [← hw0]
  have HH := Lib.hid hH; clear hw0 hH
  refine (begin_any A c b 82 w0 HRD.out hl).mono ?_
  rintro e w1 ⟨g, rfl, hg, hs, hb⟩
  rw [← HS0.out] at hs
  have hHg : H ≠ g := by have := (Array.getElem?_eq_some_iff.1 HX0.out).1; omega
  have hwg : w.heap.size ≤ g := by have := HB0.out.size; omega
  have HX1 := Lib.hid (heap_below HX0.out hb)
  have HB1 := Lib.hid (HB0.out.trans (hb.mono HB0.out.size))
  have HS1 := Lib.hid hs; clear hs hb hg
  have hle : w.heap.size ≤ w.heap.size := Nat.le_refl _
  go_wp2_with fail
  refine (ftext_any g A c b s0 16 w1 HS1.out hl (by omega) ha0).mono ?_
  rintro e w2 ⟨rfl, hs, hg2⟩
  rw [← HK.out] at hs ⊢
  simp only at hs ⊢
  have HX2 := Lib.hid (heap_grown HX1.out hg2 hHg)
  have HB2 := Lib.hid (blw HB1.out hg2 hwg hle)
  have HS2 := Lib.hid hs; clear hs hg2
  obtain ⟨w3, hw3⟩ : ∃ w3, w3 = w2.alloc (.cells #[.string (bs k), .string (bs []), .int .i64 0] 81) := ⟨_, rfl⟩
  obtain ⟨X, hX⟩ : ∃ X, X = w2.heap.size := ⟨_, rfl⟩
  have hb3 : Below w2.heap.size w2 w3 := by rw [hw3]; exact (Below.refl _ _).alloc (Nat.le_refl _) _
  have hx3 : w3.heap[X]? = some (.cells #[.string (bs k), .string (bs []), .int .i64 0] 81 (0, 0)) := by rw [hw3, hX]; exact heap_alloc_new w2 _
  have hXH : H ≠ X := by have := (Array.getElem?_eq_some_iff.1 HX2.out).1; omega
  have hXg : X ≠ g := by have := HS2.out.lt; omega
  have hwX : w.heap.size ≤ X := by rw [hX]; exact HB2.out.size
  have HY3 := Lib.hid hx3; clear hx3
  have HX3 := Lib.hid (heap_below HX2.out hb3)
  have HS3 := Lib.hid (HS2.out.keep hb3)
  have HB3 := Lib.hid (HB2.out.trans (hb3.mono HB2.out.size)); clear hb3
  go_wp2_with fail
  simp only [bs_nil]
  rw [← hw3, ← hX]
  have HW3 := Lib.hid hw3; clear hw3
  have HXe := Lib.hid hX; clear hX
  refine (ftext_any g A c b s1 64 w3 HS3.out hl (by omega) ha1).mono ?_
  rintro e w4 ⟨rfl, hs, hg4⟩
  rw [← HXX.out] at hs ⊢
  simp only at hs ⊢
  have HX4 := Lib.hid (heap_grown HX3.out hg4 hHg)
  have HY4 := Lib.hid (heap_grown HY3.out hg4 hXg)
  have HB4 := Lib.hid (blw HB3.out hg4 hwg hle)
  obtain ⟨w5, hw5⟩ : ∃ w5, w5 = w4.setCell ⟨X, 1, none⟩ (.string (bs x)) := ⟨_, rfl⟩
  have hg5 : w4.grownBy w5 (some X) := by rw [hw5]; exact only_one _ _ _ _
  have hy5 : w5.heap[X]? = some (.cells #[.string (bs k), .string (bs x), .int .i64 0] 81 (0, 0)) := by rw [hw5]; exact set_at HY4.out 1 _
  have HS5 := Lib.hid (hs.other HY4.out (noByte3 (str_bv _) (str_bv _) (int_bv _)) (fun e => hXg e.symm) hg5)
  have HX5 := Lib.hid (heap_grown HX4.out hg5 hXH)
  have HB5 := Lib.hid (blw HB4.out hg5 hwX hle)
  have HY5 := Lib.hid hy5; clear hy5 hs hg4 hg5
  have f4 : w4.frozen? ⟨X, 1, none⟩ = false := by have := HY4.out; simp [World.frozen?, this]
  have c4 := box_cells HY4.out 1 (.string (bs [])) rfl
  go_wp2_with fail
  rw [← hw5]
  have HW5 := Lib.hid hw5; clear hw5 f4 c4
  refine (fnum_any g A c b s2 1099511627775 w5 HS5.out hl (by omega) ha2).mono ?_
  rintro e w6 ⟨rfl, hs, hg6⟩
  rw [← HT.out] at hs ⊢
  simp only at hs ⊢
  have HX6 := Lib.hid (heap_grown HX5.out hg6 hHg)
  have HY6 := Lib.hid (heap_grown HY5.out hg6 hXg)
  have HB6 := Lib.hid (blw HB5.out hg6 hwg hle)
  obtain ⟨w7, hw7⟩ : ∃ w7, w7 = w6.setCell ⟨X, 2, none⟩ (.int .i64 (t : Int)) := ⟨_, rfl⟩
  have hg7 : w6.grownBy w7 (some X) := by rw [hw7]; exact only_one _ _ _ _
  have hy7 : w7.heap[X]? = some (.cells #[.string (bs k), .string (bs x), .int .i64 (t : Int)] 81 (0, 0)) := by rw [hw7]; exact set_at HY6.out 2 _
  have HS7 := Lib.hid (hs.other HY6.out (noByte3 (str_bv _) (str_bv _) (int_bv _)) (fun e => hXg e.symm) hg7)
  have HX7 := Lib.hid (heap_grown HX6.out hg7 hXH)
  have HB7 := Lib.hid (blw HB6.out hg7 hwX hle)
  have HY7 := Lib.hid hy7; clear hy7 hs hg6 hg7
  have f6 : w6.frozen? ⟨X, 2, none⟩ = false := by have := HY6.out; simp [World.frozen?, this]
  have c6 := box_cells HY6.out 2 (.int .i64 0) rfl
  have y0 := box_cells HY7.out 0 (.string (bs k)) rfl
  have y1 := box_cells HY7.out 1 (.string (bs x)) rfl
  have y2 := box_cells HY7.out 2 (.int .i64 (t : Int)) rfl
  have z0 := box_cells HY6.out 0 (.string (bs k)) rfl
  have z1 := box_cells HY6.out 1 (.string (bs x)) rfl
  go_upto_region 5 with fail
  rw [← hw7]
  have HW7 := Lib.hid hw7; clear hw7 f6 c6 z0 z1
  go_wp2_with fail
  refine (rightRow_any k x t w7 (by omega)).mono ?_
  rintro e w8 ⟨rfl, hb8⟩
  rw [HOK.out]
  have HS8 := Lib.hid (HS7.out.keep hb8)
  have HX8 := Lib.hid (heap_below HX7.out hb8)
  have HY8 := Lib.hid (heap_below HY7.out hb8)
  have HB8 := Lib.hid (HB7.out.trans (hb8.mono HB7.out.size)); clear hb8 y0 y1 y2
  go_wp2_with fail
  refine (end_any g A c b s3 (isKey k) w8 HS8.out hl ha3).mono ?_
  rintro e w9 ⟨rfl, hg9⟩
  have HX9 := Lib.hid (heap_grown HX8.out hg9 hHg)
  have HY9 := Lib.hid (heap_grown HY8.out hg9 hXg)
  have HB9 := Lib.hid (blw HB8.out hg9 hwg hle); clear hg9
  have r0 := box_cells HX9.out 0 (.string (bs [])) rfl
  have r1 := box_cells HX9.out 1 (.string (bs [])) rfl
  have r2 := box_cells HX9.out 2 (.int .i64 0) rfl
  have rf : ∀ i, w9.frozen? ⟨H, i, none⟩ = false := by intro i; have := HX9.out; simp [World.frozen?, this]
  have y0 := box_cells HY9.out 0 (.string (bs k)) rfl
  have y1 := box_cells HY9.out 1 (.string (bs x)) rfl
  have y2 := box_cells HY9.out 2 (.int .i64 (t : Int)) rfl
  obtain ⟨⟨ea, ec⟩, he⟩ : ∃ p, p = endC b s3 (isKey k) := ⟨_, rfl⟩
  have hea : ec = 0 → ea = 0 := by
    intro h
    unfold endC at he
    split at he
    · simp only [Prod.mk.injEq] at he; omega
    · split at he
      · simp only [Prod.mk.injEq] at he; omega
      · simp only [Prod.mk.injEq] at he; omega
  rw [← he]
  have HE := Lib.hid he; clear he
  by_cases hc : ec = 0
  · have ha : ea = 0 := hea hc
    subst hc ha
    have hfin := set3 HX9.out (.string (bs k)) (.string (bs x)) (.int .i64 (t : Int))
    have HBL := Lib.hid (blw HB9.out hfin.2 (by rw [HH.out]; exact hle) hle); clear hfin hea
    go_wp2_with fail
    refine bodyPost_ret (v := .tuple #[.agg #[.string (bs k), .string (bs x), .int .i64 (t : Int)], .int .i64 0, .int .i64 0]) (by simp [results, Try.results62, go_sem, *]) rfl ?_
    rw [← HE.out]
    exact ⟨rfl, HBL.out⟩
  · have t1 : ((ec : Int) != 0) = true := by rw [bne_iff_ne]; omega
    have hfin := set3 HX9.out (.string (bs [])) (.string (bs [])) (.int .i64 0)
    have HBL := Lib.hid (blw HB9.out hfin.2 (by rw [HH.out]; exact hle) hle); clear hfin hea
    go_wp2_with fail
    refine bodyPost_ret (v := .tuple #[.agg #[.string (bs []), .string (bs []), .int .i64 0], .int .i64 (ea : Nat), .int .i64 (ec : Nat)]) (by simp [results, Try.results62, go_sem, *]; rfl) rfl ?_
    rw [← HE.out]
    unfold ansC rowA
    simp only
    rw [if_neg hc]
    exact ⟨rfl, HBL.out⟩

set_option maxRecDepth 100000 in
set_option maxHeartbeats 2000000 in
theorem fgone_any (v : Value) (b : List UInt8) (w : World) (hr : RdB w v b) (hl : b.length ≤ 140737488355328) :
    Calls Try.prog 64 #[v] w fun e w' => e = .returned (goneA (decGone b)) ∧ Below w.heap.size w w' := by
  obtain ⟨A, c, rfl, _, _, _⟩ := id hr
  obtain ⟨H, hH⟩ : ∃ H, H = w.heap.size := ⟨_, rfl⟩
  obtain ⟨w0, hw0⟩ : ∃ w0, w0 = w.alloc (.cells #[.string (bs []), .int .i64 0] 85) := ⟨_, rfl⟩
  have hb0 : Below w.heap.size w w0 := by rw [hw0]; exact (Below.refl _ _).alloc (Nat.le_refl _) _
  have hx0 : w0.heap[H]? = some (.cells #[.string (bs []), .int .i64 0] 85 (0, 0)) := by rw [hw0, hH]; exact heap_alloc_new w _
  have hrd := hr.below hb0
  have HB0 := Lib.hid hb0; clear hb0
  have HX0 := Lib.hid hx0; clear hx0
  have HRD := Lib.hid hrd; clear hrd
  obtain ⟨s0, hs0⟩ : ∃ s, s = startC b 71 := ⟨_, rfl⟩
  have ha0 : s0.at_ ≤ 140737488355328 := by rw [hs0]; have := startC_at b 71; omega
  obtain ⟨⟨k, s1⟩, hk⟩ : ∃ p, p = rTxt b 16 s0 := ⟨_, rfl⟩
  have ha1 : s1.at_ ≤ 140737488355328 := by have := rTxt_at b 16 s0; rw [← hk] at this; simp only at this; omega
  have hkl : k.length ≤ 16 := by have := rTxt_le b 16 s0; rw [← hk] at this; exact this
  obtain ⟨⟨t, s3⟩, ht⟩ : ∃ p, p = rNum b 1099511627775 s1 := ⟨_, rfl⟩
  have ha3 : s3.at_ ≤ 140737488355328 := by have := rNum_at b 1099511627775 s1; rw [← ht] at this; simp only at this; omega
  have hq : rGone b s0 = (⟨k, t⟩, s3) := by unfold rGone; rw [← hk]; simp only; rw [← ht]
  have hok := rGone_ok b s0
  rw [hq] at hok
  simp only at hok
  have hd : decGone b = ansC ⟨[], 0⟩ ⟨k, t⟩ (endC b s3 (isKey k)) := by unfold decGone; rw [← hs0, hq]
  rw [hd]
  clear hd hq
  have HK := Lib.hid hk; clear hk
  have HT := Lib.hid ht; clear ht
  have HS0 := Lib.hid hs0; clear hs0
  have HOK := Lib.hid hok; clear hok
  go_enter Try.func64, Try.ntmps64
  go_wp2_with fail
  simp only [bs_nil]
  rw [← hH]
  rw [← hw0]
  have HH := Lib.hid hH; clear hw0 hH
  refine (begin_any A c b 71 w0 HRD.out hl).mono ?_
  rintro e w1 ⟨g, rfl, hg, hs, hb⟩
  rw [← HS0.out] at hs
  have hHg : H ≠ g := by have := (Array.getElem?_eq_some_iff.1 HX0.out).1; omega
  have hwg : w.heap.size ≤ g := by have := HB0.out.size; omega
  have HX1 := Lib.hid (heap_below HX0.out hb)
  have HB1 := Lib.hid (HB0.out.trans (hb.mono HB0.out.size))
  have HS1 := Lib.hid hs; clear hs hb hg
  have hle : w.heap.size ≤ w.heap.size := Nat.le_refl _
  go_wp2_with fail
  refine (ftext_any g A c b s0 16 w1 HS1.out hl (by omega) ha0).mono ?_
  rintro e w2 ⟨rfl, hs, hg2⟩
  rw [← HK.out] at hs ⊢
  simp only at hs ⊢
  have HX2 := Lib.hid (heap_grown HX1.out hg2 hHg)
  have HB2 := Lib.hid (blw HB1.out hg2 hwg hle)
  have HS2 := Lib.hid hs; clear hs hg2
  obtain ⟨w3, hw3⟩ : ∃ w3, w3 = w2.alloc (.cells #[.string (bs k), .int .i64 0] 85) := ⟨_, rfl⟩
  obtain ⟨X, hX⟩ : ∃ X, X = w2.heap.size := ⟨_, rfl⟩
  have hb3 : Below w2.heap.size w2 w3 := by rw [hw3]; exact (Below.refl _ _).alloc (Nat.le_refl _) _
  have hx3 : w3.heap[X]? = some (.cells #[.string (bs k), .int .i64 0] 85 (0, 0)) := by rw [hw3, hX]; exact heap_alloc_new w2 _
  have hXH : H ≠ X := by have := (Array.getElem?_eq_some_iff.1 HX2.out).1; omega
  have hXg : X ≠ g := by have := HS2.out.lt; omega
  have hwX : w.heap.size ≤ X := by rw [hX]; exact HB2.out.size
  have HY3 := Lib.hid hx3; clear hx3
  have HX3 := Lib.hid (heap_below HX2.out hb3)
  have HS3 := Lib.hid (HS2.out.keep hb3)
  have HB3 := Lib.hid (HB2.out.trans (hb3.mono HB2.out.size)); clear hb3
  go_wp2_with fail
  rw [← hw3, ← hX]
  have HW3 := Lib.hid hw3; clear hw3
  have HXe := Lib.hid hX; clear hX
  refine (fnum_any g A c b s1 1099511627775 w3 HS3.out hl (by omega) ha1).mono ?_
  rintro e w6 ⟨rfl, hs, hg6⟩
  rw [← HT.out] at hs ⊢
  simp only at hs ⊢
  have HX6 := Lib.hid (heap_grown HX3.out hg6 hHg)
  have HY6 := Lib.hid (heap_grown HY3.out hg6 hXg)
  have HB6 := Lib.hid (blw HB3.out hg6 hwg hle)
  obtain ⟨w7, hw7⟩ : ∃ w7, w7 = w6.setCell ⟨X, 1, none⟩ (.int .i64 (t : Int)) := ⟨_, rfl⟩
  have hg7 : w6.grownBy w7 (some X) := by rw [hw7]; exact only_one _ _ _ _
  have hy7 : w7.heap[X]? = some (.cells #[.string (bs k), .int .i64 (t : Int)] 85 (0, 0)) := by rw [hw7]; exact set_at HY6.out 1 _
  have HS7 := Lib.hid (hs.other HY6.out (noByte2 (str_bv _) (int_bv _)) (fun e => hXg e.symm) hg7)
  have HX7 := Lib.hid (heap_grown HX6.out hg7 hXH)
  have HB7 := Lib.hid (blw HB6.out hg7 hwX hle)
  have HY7 := Lib.hid hy7; clear hy7 hs hg6 hg7
  have f6 : w6.frozen? ⟨X, 1, none⟩ = false := by have := HY6.out; simp [World.frozen?, this]
  have c6 := box_cells HY6.out 1 (.int .i64 0) rfl
  have y0 := box_cells HY7.out 0 (.string (bs k)) rfl
  have y1 := box_cells HY7.out 1 (.int .i64 (t : Int)) rfl
  have z0 := box_cells HY6.out 0 (.string (bs k)) rfl
  go_upto_region 5 with fail
  rw [← hw7]
  have HW7 := Lib.hid hw7; clear hw7 f6 c6 z0
  go_wp2_with fail
  refine (rightGone_any k t w7 (by omega)).mono ?_
  rintro e w8 ⟨rfl, hb8⟩
  rw [HOK.out]
  have HS8 := Lib.hid (HS7.out.keep hb8)
  have HX8 := Lib.hid (heap_below HX7.out hb8)
  have HY8 := Lib.hid (heap_below HY7.out hb8)
  have HB8 := Lib.hid (HB7.out.trans (hb8.mono HB7.out.size)); clear hb8 y0 y1
  go_wp2_with fail
  refine (end_any g A c b s3 (isKey k) w8 HS8.out hl ha3).mono ?_
  rintro e w9 ⟨rfl, hg9⟩
  have HX9 := Lib.hid (heap_grown HX8.out hg9 hHg)
  have HY9 := Lib.hid (heap_grown HY8.out hg9 hXg)
  have HB9 := Lib.hid (blw HB8.out hg9 hwg hle); clear hg9
  have r0 := box_cells HX9.out 0 (.string (bs [])) rfl
  have r1 := box_cells HX9.out 1 (.int .i64 0) rfl
  have rf : ∀ i, w9.frozen? ⟨H, i, none⟩ = false := by intro i; have := HX9.out; simp [World.frozen?, this]
  have y0 := box_cells HY9.out 0 (.string (bs k)) rfl
  have y1 := box_cells HY9.out 1 (.int .i64 (t : Int)) rfl
  obtain ⟨⟨ea, ec⟩, he⟩ : ∃ p, p = endC b s3 (isKey k) := ⟨_, rfl⟩
  have hea : ec = 0 → ea = 0 := by
    intro h
    unfold endC at he
    split at he
    · simp only [Prod.mk.injEq] at he; omega
    · split at he
      · simp only [Prod.mk.injEq] at he; omega
      · simp only [Prod.mk.injEq] at he; omega
  rw [← he]
  have HE := Lib.hid he; clear he
  by_cases hc : ec = 0
  · have ha : ea = 0 := hea hc
    subst hc ha
    have hfin := set2 HX9.out (.string (bs k)) (.int .i64 (t : Int))
    have HBL := Lib.hid (blw HB9.out hfin.2 (by rw [HH.out]; exact hle) hle); clear hfin hea
    go_wp2_with fail
    refine bodyPost_ret (v := .tuple #[.agg #[.string (bs k), .int .i64 (t : Int)], .int .i64 0, .int .i64 0]) (by simp [results, Try.results64, go_sem, *]) rfl ?_
    rw [← HE.out]
    exact ⟨rfl, HBL.out⟩
  · have t1 : ((ec : Int) != 0) = true := by rw [bne_iff_ne]; omega
    have hfin := set2 HX9.out (.string (bs [])) (.int .i64 0)
    have HBL := Lib.hid (blw HB9.out hfin.2 (by rw [HH.out]; exact hle) hle); clear hfin hea
    go_wp2_with fail
    refine bodyPost_ret (v := .tuple #[.agg #[.string (bs []), .int .i64 0], .int .i64 (ea : Nat), .int .i64 (ec : Nat)]) (by simp [results, Try.results64, go_sem, *]; rfl) rfl ?_
    rw [← HE.out]
    unfold ansC goneA
    simp only
    rw [if_neg hc]
    exact ⟨rfl, HBL.out⟩
end Go.Proofs.Ytggjipfdfpdecaa
