/- Texts merged: RcY, RcM, RcI. Each says below what it proves. -/
import Derived.Test.YtggjipfdfpdecaaZ06
import Derived.Deep.DeepCutAuto
/- The walks of record's Row and Gone, and of the document's. -/
set_option linter.unusedVariables false
namespace Go.Proofs.Ytggjipfdfpdecaa
open Go.RowKit
attribute [local go_sem] bs_list bs_size

/-- What Row, Gone answer. -/
def rowA (d : RowP × Nat × Nat) : Value := .tuple #[.agg #[.string (bs d.1.key), .string (bs d.1.val), .int .i64 (d.1.time : Nat)], .int .i64 (d.2.1 : Nat), .int .i64 (d.2.2 : Nat)]
def goneA (d : GoneP × Nat × Nat) : Value := .tuple #[.agg #[.string (bs d.1.key), .int .i64 (d.1.time : Nat)], .int .i64 (d.2.1 : Nat), .int .i64 (d.2.2 : Nat)]

set_option maxRecDepth 100000 in
set_option maxHeartbeats 1000000 in
theorem rrow_any (v : Value) (b : List UInt8) (w : World) (hr : RdB w v b) (hl : b.length ≤ 140737488355328) :
    Calls Try.prog 61 #[v] w fun e w' => e = .returned (rowA (decRow b)) ∧ Below w.heap.size w w' := by
  obtain ⟨A, c, rfl, _, _, _⟩ := id hr
  obtain ⟨H, hH⟩ : ∃ H, H = w.heap.size := ⟨_, rfl⟩
  obtain ⟨w0, hw0⟩ : ∃ w0, w0 = w.alloc (.cells #[.string (bs []), .string (bs []), .int .i64 0] 81) := ⟨_, rfl⟩
  have hb0 : Below w.heap.size w w0 := by rw [hw0]; exact (Below.refl _ _).alloc (Nat.le_refl _) _
  have hx0 : w0.heap[H]? = some (.cells #[.string (bs []), .string (bs []), .int .i64 0] 81 (0, 0)) := by rw [hw0, hH]; exact heap_alloc_new w _
  have hrd := hr.below hb0
  obtain ⟨⟨⟨k, x, t⟩, at_, code⟩, hd⟩ : ∃ d, d = decRow b := ⟨_, rfl⟩
  have ht := takeRow_any A c b w0 hrd hl
  rw [← hd] at ht ⊢
  simp only at ht
  have HB0 := Lib.hid hb0; clear hb0
  have HX0 := Lib.hid hx0; clear hx0
  have HT := Lib.hid ht; clear ht hd
  go_enter Try.func61, Try.ntmps61
  go_wp2_with fail
  simp only [bs_nil]
  rw [← hH]
  rw [← hw0]
  have HH := Lib.hid hH; clear hw0 hH
  refine HT.out.mono ?_
  rintro e w1 ⟨rfl, hb1⟩
  have HX1 := Lib.hid (heap_below HX0.out hb1)
  have HB1 := Lib.hid (HB0.out.trans (hb1.mono HB0.out.size)); clear hb1
  have r0 := box_cells HX1.out 0 (.string (bs [])) rfl
  have r1 := box_cells HX1.out 1 (.string (bs [])) rfl
  have r2 := box_cells HX1.out 2 (.int .i64 0) rfl
  have rf : ∀ i, w1.frozen? ⟨H, i, none⟩ = false := by intro i; have := HX1.out; simp [World.frozen?, this]
  have hfin := set3 HX1.out (.string (bs k)) (.string (bs x)) (.int .i64 (t : Int))
  have hblw := blw HB1.out hfin.2 (by rw [HH.out]; exact Nat.le_refl _) (Nat.le_refl _)
  have HBL := Lib.hid hblw; clear hblw hfin
  go_wp2_with fail
  refine bodyPost_ret (v := .tuple #[.agg #[.string (bs k), .string (bs x), .int .i64 (t : Int)], .int .i64 at_, .int .i64 code]) (by simp [results, Try.results61, go_sem, *]) rfl ?_
  exact ⟨rfl, HBL.out⟩
set_option maxRecDepth 100000 in
set_option maxHeartbeats 1000000 in
theorem rgone_any (v : Value) (b : List UInt8) (w : World) (hr : RdB w v b) (hl : b.length ≤ 140737488355328) :
    Calls Try.prog 63 #[v] w fun e w' => e = .returned (goneA (decGone b)) ∧ Below w.heap.size w w' := by
  obtain ⟨A, c, rfl, _, _, _⟩ := id hr
  obtain ⟨H, hH⟩ : ∃ H, H = w.heap.size := ⟨_, rfl⟩
  obtain ⟨w0, hw0⟩ : ∃ w0, w0 = w.alloc (.cells #[.string (bs []), .int .i64 0] 85) := ⟨_, rfl⟩
  have hb0 : Below w.heap.size w w0 := by rw [hw0]; exact (Below.refl _ _).alloc (Nat.le_refl _) _
  have hx0 : w0.heap[H]? = some (.cells #[.string (bs []), .int .i64 0] 85 (0, 0)) := by rw [hw0, hH]; exact heap_alloc_new w _
  have hrd := hr.below hb0
  obtain ⟨⟨⟨k, t⟩, at_, code⟩, hd⟩ : ∃ d, d = decGone b := ⟨_, rfl⟩
  have ht := takeGone_any A c b w0 hrd hl
  rw [← hd] at ht ⊢
  simp only at ht
  have HB0 := Lib.hid hb0; clear hb0
  have HX0 := Lib.hid hx0; clear hx0
  have HT := Lib.hid ht; clear ht hd
  go_enter Try.func63, Try.ntmps63
  go_wp2_with fail
  simp only [bs_nil]
  rw [← hH]
  rw [← hw0]
  have HH := Lib.hid hH; clear hw0 hH
  refine HT.out.mono ?_
  rintro e w1 ⟨rfl, hb1⟩
  have HX1 := Lib.hid (heap_below HX0.out hb1)
  have HB1 := Lib.hid (HB0.out.trans (hb1.mono HB0.out.size)); clear hb1
  have r0 := box_cells HX1.out 0 (.string (bs [])) rfl
  have r1 := box_cells HX1.out 1 (.int .i64 0) rfl
  have rf : ∀ i, w1.frozen? ⟨H, i, none⟩ = false := by intro i; have := HX1.out; simp [World.frozen?, this]
  have hfin := set2 HX1.out (.string (bs k)) (.int .i64 (t : Int))
  have hblw := blw HB1.out hfin.2 (by rw [HH.out]; exact Nat.le_refl _) (Nat.le_refl _)
  have HBL := Lib.hid hblw; clear hblw hfin
  go_wp2_with fail
  refine bodyPost_ret (v := .tuple #[.agg #[.string (bs k), .int .i64 (t : Int)], .int .i64 at_, .int .i64 code]) (by simp [results, Try.results63, go_sem, *]) rfl ?_
  exact ⟨rfl, HBL.out⟩

theorem RfC.other {w w' : World} {g k : Nat} {A : Option Addr} {c : Nat} {b : List UInt8} {a bd : Int} {cs : Array Value} {t : TypeId} {fr : Nat × Nat} (h : RfC w g A c b a bd) (hk : w.heap[k]? = some (.cells cs t fr)) (hn : NoByte cs) (hne : g ≠ k) (hw : w.grownBy w' (some k)) : RfC w' g A c b a bd :=
  ⟨(hw.block g (Array.getElem?_eq_some_iff.1 h.1).1 (fun e => hne (Option.some.inj e))).trans h.1, h.2.far hk hn hw⟩
theorem RfSt.other {w w' : World} {g k : Nat} {A : Option Addr} {c : Nat} {b : List UInt8} {s : RS} {cs : Array Value} {t : TypeId} {fr : Nat × Nat} (h : RfSt w g A c b s) (hk : w.heap[k]? = some (.cells cs t fr)) (hn : NoByte cs) (hne : g ≠ k) (hw : w.grownBy w' (some k)) : RfSt w' g A c b s := by
  rcases h with ⟨h1, h2⟩ | ⟨h1, a, h3, h2⟩
  · exact .inl ⟨h1, h2.other hk hn hne hw⟩
  · exact .inr ⟨h1, a, h3, h2.other hk hn hne hw⟩
theorem RfSt.lt {w : World} {g : Nat} {A : Option Addr} {c : Nat} {b : List UInt8} {s : RS} (h : RfSt w g A c b s) : g < w.heap.size := by
  rcases h with ⟨h1, h2⟩ | ⟨h1, a, h3, h2⟩
  · exact (Array.getElem?_eq_some_iff.1 h2.1).1
  · exact (Array.getElem?_eq_some_iff.1 h2.1).1
theorem startC_at (b : List UInt8) (k : UInt8) : (startC b k).at_ ≤ 1 := by unfold startC; split <;> simp
theorem rRow_ok (b : List UInt8) (s : RS) : (isKey (rRow b s).1.key && isVal (rRow b s).1.val && isTm ((rRow b s).1.time : Nat)) = isKey (rRow b s).1.key := by
  have h1 : isVal (rRow b s).1.val = true := (isVal_iff _).2 (rTxt_le b 64 _)
  have h2 : isTm ((rRow b s).1.time : Nat) = true := by
    refine (isTm_iff _).2 ⟨by omega, ?_⟩
    have : (rRow b s).1.time ≤ 1099511627775 := rNum_le b _ _
    omega
  rw [h1, h2, Bool.and_true, Bool.and_true]
theorem rGone_ok (b : List UInt8) (s : RS) : (isKey (rGone b s).1.key && isTm ((rGone b s).1.time : Nat)) = isKey (rGone b s).1.key := by
  have h2 : isTm ((rGone b s).1.time : Nat) = true := by
    refine (isTm_iff _).2 ⟨by omega, ?_⟩
    have : (rGone b s).1.time ≤ 1099511627775 := rNum_le b _ _
    omega
  rw [h2, Bool.and_true]

set_option maxRecDepth 100000 in
set_option maxHeartbeats 2000000 in
theorem frow_any (v : Value) (b : List UInt8) (w : World) (hr : RdB w v b) (hl : b.length ≤ 140737488355328) :
    Calls Try.prog 62 #[v] w fun e w' => e = .returned (rowA (decRow b)) ∧ Below w.heap.size w w' := by
  obtain ⟨A, c, rfl, _, _, _⟩ := id hr
  obtain ⟨H, hH⟩ : ∃ H, H = w.heap.size := ⟨_, rfl⟩
  obtain ⟨w0, hw0⟩ : ∃ w0, w0 = w.alloc (.cells #[.string (bs []), .string (bs []), .int .i64 0] 81) := ⟨_, rfl⟩
  have hb0 : Below w.heap.size w w0 := by rw [hw0]; exact (Below.refl _ _).alloc (Nat.le_refl _) _
  have hx0 : w0.heap[H]? = some (.cells #[.string (bs []), .string (bs []), .int .i64 0] 81 (0, 0)) := by rw [hw0, hH]; exact heap_alloc_new w _
  have hrd := hr.below hb0
  have HB0 := Lib.hid hb0; clear hb0
  have HX0 := Lib.hid hx0; clear hx0
  have HRD := Lib.hid hrd; clear hrd
  obtain ⟨s0, hs0⟩ : ∃ s, s = startC b 82 := ⟨_, rfl⟩
  have ha0 : s0.at_ ≤ 140737488355328 := by rw [hs0]; have := startC_at b 82; omega
  obtain ⟨⟨k, s1⟩, hk⟩ : ∃ p, p = rTxt b 16 s0 := ⟨_, rfl⟩
  have ha1 : s1.at_ ≤ 140737488355328 := by have := rTxt_at b 16 s0; rw [← hk] at this; simp only at this; omega
  have hkl : k.length ≤ 16 := by have := rTxt_le b 16 s0; rw [← hk] at this; exact this
  obtain ⟨⟨x, s2⟩, hx⟩ : ∃ p, p = rTxt b 64 s1 := ⟨_, rfl⟩
  have ha2 : s2.at_ ≤ 140737488355328 := by have := rTxt_at b 64 s1; rw [← hx] at this; simp only at this; omega
  obtain ⟨⟨t, s3⟩, ht⟩ : ∃ p, p = rNum b 1099511627775 s2 := ⟨_, rfl⟩
  have ha3 : s3.at_ ≤ 140737488355328 := by have := rNum_at b 1099511627775 s2; rw [← ht] at this; simp only at this; omega
  have hq : rRow b s0 = (⟨k, x, t⟩, s3) := by unfold rRow; rw [← hk]; simp only; rw [← hx]; simp only; rw [← ht]
  have hok := rRow_ok b s0
  rw [hq] at hok
  simp only at hok
  have hd : decRow b = ansC ⟨[], [], 0⟩ ⟨k, x, t⟩ (endC b s3 (isKey k)) := by unfold decRow; rw [← hs0, hq]
  rw [hd]
  clear hd hq
  have HK := Lib.hid hk; clear hk
  have HXX := Lib.hid hx; clear hx
  have HT := Lib.hid ht; clear ht
  have HS0 := Lib.hid hs0; clear hs0
  have HOK := Lib.hid hok; clear hok
  go_enter Try.func62, Try.ntmps62
  go_wp2_with fail
  simp only [bs_nil]
  rw [← hH]
  rw [← hw0]
  have HH := Lib.hid hH; clear hw0 hH
  refine (begin_any A c b 82 w0 HRD.out hl).mono ?_
  rintro e w1 ⟨g, rfl, hg, hs, hb⟩
  rw [← HS0.out] at hs
  have hHg : H ≠ g := by have := (Array.getElem?_eq_some_iff.1 HX0.out).1; omega
  have hwg : w.heap.size ≤ g := by have := HB0.out.size; omega
  have HX1 := Lib.hid (heap_below HX0.out hb)
  have HB1 := Lib.hid (HB0.out.trans (hb.mono HB0.out.size))
  have HS1 := Lib.hid hs; clear hs hb hg
  have hle : w.heap.size ≤ w.heap.size := Nat.le_refl _
  go_wp2_with fail
  refine (ftext_any g A c b s0 16 w1 HS1.out hl (by omega) ha0).mono ?_
  rintro e w2 ⟨rfl, hs, hg2⟩
  rw [← HK.out] at hs ⊢
  simp only at hs ⊢
  have HX2 := Lib.hid (heap_grown HX1.out hg2 hHg)
  have HB2 := Lib.hid (blw HB1.out hg2 hwg hle)
  have HS2 := Lib.hid hs; clear hs hg2
  obtain ⟨w3, hw3⟩ : ∃ w3, w3 = w2.alloc (.cells #[.string (bs k), .string (bs []), .int .i64 0] 81) := ⟨_, rfl⟩
  obtain ⟨X, hX⟩ : ∃ X, X = w2.heap.size := ⟨_, rfl⟩
  have hb3 : Below w2.heap.size w2 w3 := by rw [hw3]; exact (Below.refl _ _).alloc (Nat.le_refl _) _
  have hx3 : w3.heap[X]? = some (.cells #[.string (bs k), .string (bs []), .int .i64 0] 81 (0, 0)) := by rw [hw3, hX]; exact heap_alloc_new w2 _
  have hXH : H ≠ X := by have := (Array.getElem?_eq_some_iff.1 HX2.out).1; omega
  have hXg : X ≠ g := by have := HS2.out.lt; omega
  have hwX : w.heap.size ≤ X := by rw [hX]; exact HB2.out.size
  have HY3 := Lib.hid hx3; clear hx3
  have HX3 := Lib.hid (heap_below HX2.out hb3)
  have HS3 := Lib.hid (HS2.out.keep hb3)
  have HB3 := Lib.hid (HB2.out.trans (hb3.mono HB2.out.size)); clear hb3
  go_wp2_with fail
  simp only [bs_nil]
  rw [← hw3, ← hX]
  have HW3 := Lib.hid hw3; clear hw3
  have HXe := Lib.hid hX; clear hX
  refine (ftext_any g A c b s1 64 w3 HS3.out hl (by omega) ha1).mono ?_
  rintro e w4 ⟨rfl, hs, hg4⟩
  rw [← HXX.out] at hs ⊢
  simp only at hs ⊢
  have HX4 := Lib.hid (heap_grown HX3.out hg4 hHg)
  have HY4 := Lib.hid (heap_grown HY3.out hg4 hXg)
  have HB4 := Lib.hid (blw HB3.out hg4 hwg hle)
  obtain ⟨w5, hw5⟩ : ∃ w5, w5 = w4.setCell ⟨X, 1, none⟩ (.string (bs x)) := ⟨_, rfl⟩
  have hg5 : w4.grownBy w5 (some X) := by rw [hw5]; exact only_one _ _ _ _
  have hy5 : w5.heap[X]? = some (.cells #[.string (bs k), .string (bs x), .int .i64 0] 81 (0, 0)) := by rw [hw5]; exact set_at HY4.out 1 _
  have HS5 := Lib.hid (hs.other HY4.out (noByte3 (str_bv _) (str_bv _) (int_bv _)) (fun e => hXg e.symm) hg5)
  have HX5 := Lib.hid (heap_grown HX4.out hg5 hXH)
  have HB5 := Lib.hid (blw HB4.out hg5 hwX hle)
  have HY5 := Lib.hid hy5; clear hy5 hs hg4 hg5
  have f4 : w4.frozen? ⟨X, 1, none⟩ = false := by have := HY4.out; simp [World.frozen?, this]
  have c4 := box_cells HY4.out 1 (.string (bs [])) rfl
  go_wp2_with fail
  rw [← hw5]
  have HW5 := Lib.hid hw5; clear hw5 f4 c4
  refine (fnum_any g A c b s2 1099511627775 w5 HS5.out hl (by omega) ha2).mono ?_
  rintro e w6 ⟨rfl, hs, hg6⟩
  rw [← HT.out] at hs ⊢
  simp only at hs ⊢
  have HX6 := Lib.hid (heap_grown HX5.out hg6 hHg)
  have HY6 := Lib.hid (heap_grown HY5.out hg6 hXg)
  have HB6 := Lib.hid (blw HB5.out hg6 hwg hle)
  obtain ⟨w7, hw7⟩ : ∃ w7, w7 = w6.setCell ⟨X, 2, none⟩ (.int .i64 (t : Int)) := ⟨_, rfl⟩
  have hg7 : w6.grownBy w7 (some X) := by rw [hw7]; exact only_one _ _ _ _
  have hy7 : w7.heap[X]? = some (.cells #[.string (bs k), .string (bs x), .int .i64 (t : Int)] 81 (0, 0)) := by rw [hw7]; exact set_at HY6.out 2 _
  have HS7 := Lib.hid (hs.other HY6.out (noByte3 (str_bv _) (str_bv _) (int_bv _)) (fun e => hXg e.symm) hg7)
  have HX7 := Lib.hid (heap_grown HX6.out hg7 hXH)
  have HB7 := Lib.hid (blw HB6.out hg7 hwX hle)
  have HY7 := Lib.hid hy7; clear hy7 hs hg6 hg7
  have f6 : w6.frozen? ⟨X, 2, none⟩ = false := by have := HY6.out; simp [World.frozen?, this]
  have c6 := box_cells HY6.out 2 (.int .i64 0) rfl
  have y0 := box_cells HY7.out 0 (.string (bs k)) rfl
  have y1 := box_cells HY7.out 1 (.string (bs x)) rfl
  have y2 := box_cells HY7.out 2 (.int .i64 (t : Int)) rfl
  have z0 := box_cells HY6.out 0 (.string (bs k)) rfl
  have z1 := box_cells HY6.out 1 (.string (bs x)) rfl
  go_upto_region 5 with fail
  rw [← hw7]
  have HW7 := Lib.hid hw7; clear hw7 f6 c6 z0 z1
  go_wp2_with fail
  refine (rightRow_any k x t w7 (by omega)).mono ?_
  rintro e w8 ⟨rfl, hb8⟩
  rw [HOK.out]
  have HS8 := Lib.hid (HS7.out.keep hb8)
  have HX8 := Lib.hid (heap_below HX7.out hb8)
  have HY8 := Lib.hid (heap_below HY7.out hb8)
  have HB8 := Lib.hid (HB7.out.trans (hb8.mono HB7.out.size)); clear hb8 y0 y1 y2
  go_wp2_with fail
  refine (end_any g A c b s3 (isKey k) w8 HS8.out hl ha3).mono ?_
  rintro e w9 ⟨rfl, hg9⟩
  have HX9 := Lib.hid (heap_grown HX8.out hg9 hHg)
  have HY9 := Lib.hid (heap_grown HY8.out hg9 hXg)
  have HB9 := Lib.hid (blw HB8.out hg9 hwg hle); clear hg9
  have r0 := box_cells HX9.out 0 (.string (bs [])) rfl
  have r1 := box_cells HX9.out 1 (.string (bs [])) rfl
  have r2 := box_cells HX9.out 2 (.int .i64 0) rfl
  have rf : ∀ i, w9.frozen? ⟨H, i, none⟩ = false := by intro i; have := HX9.out; simp [World.frozen?, this]
  have y0 := box_cells HY9.out 0 (.string (bs k)) rfl
  have y1 := box_cells HY9.out 1 (.string (bs x)) rfl
  have y2 := box_cells HY9.out 2 (.int .i64 (t : Int)) rfl
  obtain ⟨⟨ea, ec⟩, he⟩ : ∃ p, p = endC b s3 (isKey k) := ⟨_, rfl⟩
  have hea : ec = 0 → ea = 0 := by
    intro h
    unfold endC at he
    split at he
    · simp only [Prod.mk.injEq] at he; omega
    · split at he
      · simp only [Prod.mk.injEq] at he; omega
      · simp only [Prod.mk.injEq] at he; omega
  rw [← he]
  have HE := Lib.hid he; clear he
  by_cases hc : ec = 0
  · have ha : ea = 0 := hea hc
    subst hc ha
    have hfin := set3 HX9.out (.string (bs k)) (.string (bs x)) (.int .i64 (t : Int))
    have HBL := Lib.hid (blw HB9.out hfin.2 (by rw [HH.out]; exact hle) hle); clear hfin hea
    go_wp2_with fail
    refine bodyPost_ret (v := .tuple #[.agg #[.string (bs k), .string (bs x), .int .i64 (t : Int)], .int .i64 0, .int .i64 0]) (by simp [results, Try.results62, go_sem, *]) rfl ?_
    rw [← HE.out]
    exact ⟨rfl, HBL.out⟩
  · have t1 : ((ec : Int) != 0) = true := by rw [bne_iff_ne]; omega
    have hfin := set3 HX9.out (.string (bs [])) (.string (bs [])) (.int .i64 0)
    have HBL := Lib.hid (blw HB9.out hfin.2 (by rw [HH.out]; exact hle) hle); clear hfin hea
    go_wp2_with fail
    refine bodyPost_ret (v := .tuple #[.agg #[.string (bs []), .string (bs []), .int .i64 0], .int .i64 (ea : Nat), .int .i64 (ec : Nat)]) (by simp [results, Try.results62, go_sem, *]; rfl) rfl ?_
    rw [← HE.out]
    unfold ansC rowA
    simp only
    rw [if_neg hc]
    exact ⟨rfl, HBL.out⟩

set_option maxRecDepth 100000 in
set_option maxHeartbeats 2000000 in
theorem fgone_any (v : Value) (b : List UInt8) (w : World) (hr : RdB w v b) (hl : b.length ≤ 140737488355328) :
    Calls Try.prog 64 #[v] w fun e w' => e = .returned (goneA (decGone b)) ∧ Below w.heap.size w w' := by
  obtain ⟨A, c, rfl, _, _, _⟩ := id hr
  obtain ⟨H, hH⟩ : ∃ H, H = w.heap.size := ⟨_, rfl⟩
  obtain ⟨w0, hw0⟩ : ∃ w0, w0 = w.alloc (.cells #[.string (bs []), .int .i64 0] 85) := ⟨_, rfl⟩
  have hb0 : Below w.heap.size w w0 := by rw [hw0]; exact (Below.refl _ _).alloc (Nat.le_refl _) _
  have hx0 : w0.heap[H]? = some (.cells #[.string (bs []), .int .i64 0] 85 (0, 0)) := by rw [hw0, hH]; exact heap_alloc_new w _
  have hrd := hr.below hb0
  have HB0 := Lib.hid hb0; clear hb0
  have HX0 := Lib.hid hx0; clear hx0
  have HRD := Lib.hid hrd; clear hrd
  obtain ⟨s0, hs0⟩ : ∃ s, s = startC b 71 := ⟨_, rfl⟩
  have ha0 : s0.at_ ≤ 140737488355328 := by rw [hs0]; have := startC_at b 71; omega
  obtain ⟨⟨k, s1⟩, hk⟩ : ∃ p, p = rTxt b 16 s0 := ⟨_, rfl⟩
  have ha1 : s1.at_ ≤ 140737488355328 := by have := rTxt_at b 16 s0; rw [← hk] at this; simp only at this; omega
  have hkl : k.length ≤ 16 := by have := rTxt_le b 16 s0; rw [← hk] at this; exact this
  obtain ⟨⟨t, s3⟩, ht⟩ : ∃ p, p = rNum b 1099511627775 s1 := ⟨_, rfl⟩
  have ha3 : s3.at_ ≤ 140737488355328 := by have := rNum_at b 1099511627775 s1; rw [← ht] at this; simp only at this; omega
  have hq : rGone b s0 = (⟨k, t⟩, s3) := by unfold rGone; rw [← hk]; simp only; rw [← ht]
  have hok := rGone_ok b s0
  rw [hq] at hok
  simp only at hok
  have hd : decGone b = ansC ⟨[], 0⟩ ⟨k, t⟩ (endC b s3 (isKey k)) := by unfold decGone; rw [← hs0, hq]
  rw [hd]
  clear hd hq
  have HK := Lib.hid hk; clear hk
  have HT := Lib.hid ht; clear ht
  have HS0 := Lib.hid hs0; clear hs0
  have HOK := Lib.hid hok; clear hok
  go_enter Try.func64, Try.ntmps64
  go_wp2_with fail
  simp only [bs_nil]
  rw [← hH]
  rw [← hw0]
  have HH := Lib.hid hH; clear hw0 hH
  refine (begin_any A c b 71 w0 HRD.out hl).mono ?_
  rintro e w1 ⟨g, rfl, hg, hs, hb⟩
  rw [← HS0.out] at hs
  have hHg : H ≠ g := by have := (Array.getElem?_eq_some_iff.1 HX0.out).1; omega
  have hwg : w.heap.size ≤ g := by have := HB0.out.size; omega
  have HX1 := Lib.hid (heap_below HX0.out hb)
  have HB1 := Lib.hid (HB0.out.trans (hb.mono HB0.out.size))
  have HS1 := Lib.hid hs; clear hs hb hg
  have hle : w.heap.size ≤ w.heap.size := Nat.le_refl _
  go_wp2_with fail
  refine (ftext_any g A c b s0 16 w1 HS1.out hl (by omega) ha0).mono ?_
  rintro e w2 ⟨rfl, hs, hg2⟩
  rw [← HK.out] at hs ⊢
  simp only at hs ⊢
  have HX2 := Lib.hid (heap_grown HX1.out hg2 hHg)
  have HB2 := Lib.hid (blw HB1.out hg2 hwg hle)
  have HS2 := Lib.hid hs; clear hs hg2
  obtain ⟨w3, hw3⟩ : ∃ w3, w3 = w2.alloc (.cells #[.string (bs k), .int .i64 0] 85) := ⟨_, rfl⟩
  obtain ⟨X, hX⟩ : ∃ X, X = w2.heap.size := ⟨_, rfl⟩
  have hb3 : Below w2.heap.size w2 w3 := by rw [hw3]; exact (Below.refl _ _).alloc (Nat.le_refl _) _
  have hx3 : w3.heap[X]? = some (.cells #[.string (bs k), .int .i64 0] 85 (0, 0)) := by rw [hw3, hX]; exact heap_alloc_new w2 _
  have hXH : H ≠ X := by have := (Array.getElem?_eq_some_iff.1 HX2.out).1; omega
  have hXg : X ≠ g := by have := HS2.out.lt; omega
  have hwX : w.heap.size ≤ X := by rw [hX]; exact HB2.out.size
  have HY3 := Lib.hid hx3; clear hx3
  have HX3 := Lib.hid (heap_below HX2.out hb3)
  have HS3 := Lib.hid (HS2.out.keep hb3)
  have HB3 := Lib.hid (HB2.out.trans (hb3.mono HB2.out.size)); clear hb3
  go_wp2_with fail
  rw [← hw3, ← hX]
  have HW3 := Lib.hid hw3; clear hw3
  have HXe := Lib.hid hX; clear hX
  refine (fnum_any g A c b s1 1099511627775 w3 HS3.out hl (by omega) ha1).mono ?_
  rintro e w6 ⟨rfl, hs, hg6⟩
  rw [← HT.out] at hs ⊢
  simp only at hs ⊢
  have HX6 := Lib.hid (heap_grown HX3.out hg6 hHg)
  have HY6 := Lib.hid (heap_grown HY3.out hg6 hXg)
  have HB6 := Lib.hid (blw HB3.out hg6 hwg hle)
  obtain ⟨w7, hw7⟩ : ∃ w7, w7 = w6.setCell ⟨X, 1, none⟩ (.int .i64 (t : Int)) := ⟨_, rfl⟩
  have hg7 : w6.grownBy w7 (some X) := by rw [hw7]; exact only_one _ _ _ _
  have hy7 : w7.heap[X]? = some (.cells #[.string (bs k), .int .i64 (t : Int)] 85 (0, 0)) := by rw [hw7]; exact set_at HY6.out 1 _
  have HS7 := Lib.hid (hs.other HY6.out (noByte2 (str_bv _) (int_bv _)) (fun e => hXg e.symm) hg7)
  have HX7 := Lib.hid (heap_grown HX6.out hg7 hXH)
  have HB7 := Lib.hid (blw HB6.out hg7 hwX hle)
  have HY7 := Lib.hid hy7; clear hy7 hs hg6 hg7
  have f6 : w6.frozen? ⟨X, 1, none⟩ = false := by have := HY6.out; simp [World.frozen?, this]
  have c6 := box_cells HY6.out 1 (.int .i64 0) rfl
  have y0 := box_cells HY7.out 0 (.string (bs k)) rfl
  have y1 := box_cells HY7.out 1 (.int .i64 (t : Int)) rfl
  have z0 := box_cells HY6.out 0 (.string (bs k)) rfl
  go_upto_region 5 with fail
  rw [← hw7]
  have HW7 := Lib.hid hw7; clear hw7 f6 c6 z0
  go_wp2_with fail
  refine (rightGone_any k t w7 (by omega)).mono ?_
  rintro e w8 ⟨rfl, hb8⟩
  rw [HOK.out]
  have HS8 := Lib.hid (HS7.out.keep hb8)
  have HX8 := Lib.hid (heap_below HX7.out hb8)
  have HY8 := Lib.hid (heap_below HY7.out hb8)
  have HB8 := Lib.hid (HB7.out.trans (hb8.mono HB7.out.size)); clear hb8 y0 y1
  go_wp2_with fail
  refine (end_any g A c b s3 (isKey k) w8 HS8.out hl ha3).mono ?_
  rintro e w9 ⟨rfl, hg9⟩
  have HX9 := Lib.hid (heap_grown HX8.out hg9 hHg)
  have HY9 := Lib.hid (heap_grown HY8.out hg9 hXg)
  have HB9 := Lib.hid (blw HB8.out hg9 hwg hle); clear hg9
  have r0 := box_cells HX9.out 0 (.string (bs [])) rfl
  have r1 := box_cells HX9.out 1 (.int .i64 0) rfl
  have rf : ∀ i, w9.frozen? ⟨H, i, none⟩ = false := by intro i; have := HX9.out; simp [World.frozen?, this]
  have y0 := box_cells HY9.out 0 (.string (bs k)) rfl
  have y1 := box_cells HY9.out 1 (.int .i64 (t : Int)) rfl
  obtain ⟨⟨ea, ec⟩, he⟩ : ∃ p, p = endC b s3 (isKey k) := ⟨_, rfl⟩
  have hea : ec = 0 → ea = 0 := by
    intro h
    unfold endC at he
    split at he
    · simp only [Prod.mk.injEq] at he; omega
    · split at he
      · simp only [Prod.mk.injEq] at he; omega
      · simp only [Prod.mk.injEq] at he; omega
  rw [← he]
  have HE := Lib.hid he; clear he
  by_cases hc : ec = 0
  · have ha : ea = 0 := hea hc
    subst hc ha
    have hfin := set2 HX9.out (.string (bs k)) (.int .i64 (t : Int))
    have HBL := Lib.hid (blw HB9.out hfin.2 (by rw [HH.out]; exact hle) hle); clear hfin hea
    go_wp2_with fail
    refine bodyPost_ret (v := .tuple #[.agg #[.string (bs k), .int .i64 (t : Int)], .int .i64 0, .int .i64 0]) (by simp [results, Try.results64, go_sem, *]) rfl ?_
    rw [← HE.out]
    exact ⟨rfl, HBL.out⟩
  · have t1 : ((ec : Int) != 0) = true := by rw [bne_iff_ne]; omega
    have hfin := set2 HX9.out (.string (bs [])) (.int .i64 0)
    have HBL := Lib.hid (blw HB9.out hfin.2 (by rw [HH.out]; exact hle) hle); clear hfin hea
    go_wp2_with fail
    refine bodyPost_ret (v := .tuple #[.agg #[.string (bs []), .int .i64 0], .int .i64 (ea : Nat), .int .i64 (ec : Nat)]) (by simp [results, Try.results64, go_sem, *]; rfl) rfl ?_
    rw [← HE.out]
    unfold ansC goneA
    simp only
    rw [if_neg hc]
    exact ⟨rfl, HBL.out⟩
end Go.Proofs.Ytggjipfdfpdecaa
/- Words for slices whose elements have three cells: how they read, how one more is appended. -/
set_option linter.unusedVariables false
namespace Go.Proofs.Ytggjipfdfpdecaa
open Go.RowKit

/-- An element of three cells. -/
structure V3 where
  a : Value
  b : Value
  c : Value
def V3.cells (x : V3) : List Value := [x.a, x.b, x.c]
def flat3 (xs : List V3) : List Value := xs.flatMap V3.cells
theorem flat3_len (xs : List V3) : (flat3 xs).length = xs.length * 3 := by
  induction xs with
  | nil => rfl
  | cons x r ih => simp only [flat3, List.flatMap_cons, List.length_append, V3.cells, List.length_cons, List.length_nil] at ih ⊢; omega
theorem flat3_append (xs ys : List V3) : flat3 (xs ++ ys) = flat3 xs ++ flat3 ys := by simp [flat3]
theorem flat3_get (xs : List V3) : ∀ (j : Nat) (h : j < xs.length), (flat3 xs)[j * 3]? = some xs[j].a ∧ (flat3 xs)[j * 3 + 1]? = some xs[j].b ∧ (flat3 xs)[j * 3 + 2]? = some xs[j].c := by
  induction xs with
  | nil => intro j h; simp at h
  | cons x r ih =>
    intro j h
    rcases j with _ | j
    · exact ⟨rfl, rfl, rfl⟩
    · have := ih j (by simpa using h)
      have e : flat3 (x :: r) = x.a :: x.b :: x.c :: flat3 r := rfl
      rw [e]
      have e1 : (j + 1) * 3 = j * 3 + 3 := by omega
      rw [e1]
      simpa using this
/-- The cells of an element at an address. -/
def At3 (w : World) (p : Addr) (x : V3) : Prop := w.cell? p = some x.a ∧ w.cell? ⟨p.block, p.off + 1, none⟩ = some x.b ∧ w.cell? ⟨p.block, p.off + 2, none⟩ = some x.c
/-- The value v reads as these elements. -/
def Rd3 (w : World) (v : Value) (xs : List V3) : Prop :=
  ∃ A c, v = .slice A xs.length c ∧ xs.length ≤ c ∧ c ≤ maxLen ∧ (0 < xs.length → ∃ ad : Addr, A = some ad ∧ ∀ j (h : j < xs.length), At3 w (ad.add (j * 3)) xs[j])
theorem At3.keep {w w' : World} {p : Addr} {x : V3} (h : At3 w p x) (hc : ∀ q : Addr, q.block < w.heap.size → w'.cell? q = w.cell? q) : At3 w' p x := by
  obtain ⟨h1, h2, h3⟩ := h
  exact ⟨(hc _ (World.block_lt_of_cell? w _ h1)).trans h1, (hc _ (World.block_lt_of_cell? w _ h2)).trans h2, (hc _ (World.block_lt_of_cell? w _ h3)).trans h3⟩
theorem Rd3.keep {w w' : World} {v : Value} {xs : List V3} (h : Rd3 w v xs) (hc : ∀ q : Addr, q.block < w.heap.size → w'.cell? q = w.cell? q) : Rd3 w' v xs := by
  obtain ⟨A, c, hv, h1, h2, h3⟩ := h
  refine ⟨A, c, hv, h1, h2, fun hp => ?_⟩
  obtain ⟨ad, hA, hcell⟩ := h3 hp
  exact ⟨ad, hA, fun j hj => (hcell j hj).keep hc⟩
theorem Rd3.below {w w' : World} {v : Value} {xs : List V3} (h : Rd3 w v xs) (hb : Below w.heap.size w w') : Rd3 w' v xs := h.keep fun _ hp => hb.cell hp
theorem Rd3.drewN {w : World} {v : Value} {xs : List V3} (h : Rd3 w v xs) (n : Nat) : Rd3 (w.drewN n) v xs := h
theorem Rd3.nil (w : World) : Rd3 w (.slice none 0 0) [] := ⟨none, 0, rfl, Nat.le_refl _, by simp [maxLen], fun h => by simp at h⟩

/-- A row of such elements, of the call's own. -/
def Own3 (w : World) (base E : Nat) (v : Value) (xs : List V3) : Prop := w.ownsRow base E 3 v xs.length (flat3 xs)
theorem Own3.nil (w : World) (base E : Nat) : Own3 w base E (.slice none 0 0) [] := ⟨by simp [flat3], .inl ⟨rfl, rfl⟩⟩
theorem Own3.rd {w : World} {base E : Nat} {v : Value} {xs : List V3} (h : Own3 w base E v xs) : Rd3 w v xs := by
  have h0 := h
  rcases h.2 with ⟨rfl, hn⟩ | ⟨g, cap, cur, rfl, hb, hg, hn, hm, hs, ht⟩
  · obtain rfl : xs = [] := List.eq_nil_of_length_eq_zero hn
    exact Rd3.nil w
  · refine ⟨_, cap, rfl, hn, hm, fun _ => ⟨_, rfl, fun j hj => ?_⟩⟩
    obtain ⟨e1, e2, e3⟩ := flat3_get xs j hj
    rw [addp]
    have c1 := h0.cells (g := g) rfl _ _ e1
    have c2 := h0.cells (g := g) rfl _ _ e2
    have c3 := h0.cells (g := g) rfl _ _ e3
    rw [addp] at c1 c2 c3
    exact ⟨c1, c2, c3⟩
theorem Own3.below {w w' : World} {base E : Nat} {v : Value} {xs : List V3} (h : Own3 w base E v xs) (hb : Below w.heap.size w w') : Own3 w' base E v xs := by
  refine World.ownsRow.kept h (row := none) ⟨hb.os, hb.tape, hb.output, hb.size, fun k hk _ => hb.block k hk⟩ ?_
  cases v.ownBlock <;> simp
theorem Own3.base {w : World} {b1 b2 E : Nat} {v : Value} {xs : List V3} (h : Own3 w b2 E v xs) (hb : b1 ≤ b2) : Own3 w b1 E v xs := by
  refine ⟨h.1, ?_⟩
  rcases h.2 with h0 | ⟨g, cap, cur, h1, h2, h3⟩
  · exact .inl h0
  · exact .inr ⟨g, cap, cur, h1, Nat.le_trans hb h2, h3⟩
/-- A block of another element type is no such row. -/
theorem Own3.ne_ {w : World} {base E g : Nat} {v : Value} {xs : List V3} {cs : Array Value} {t : TypeId} {fr : Nat × Nat} (h : Own3 w base E v xs) (hg : w.heap[g]? = some (.cells cs t fr)) (ht : t ≠ E) : v.ownBlock ≠ some g := by
  rcases h.2 with ⟨rfl, _⟩ | ⟨g', cap, cur, rfl, _, hh, _⟩
  · simp [Value.ownBlock]
  · intro he
    have : g' = g := by simpa [Value.ownBlock] using he
    subst this
    rw [hg] at hh
    injection hh with hh
    injection hh with _ ht' _
    exact ht ht'
theorem Own3.grown {w w' : World} {base E g : Nat} {v : Value} {xs : List V3} (h : Own3 w base E v xs) (hw : w.grownBy w' (some g)) (hne : v.ownBlock ≠ some g) : Own3 w' base E v xs :=
  World.ownsRow.kept h hw (.inr hne)

theorem news3 (W : World) (x : V3) (E : Nat) : ∀ (j : Nat) (u : Value), x.cells[j]? = some u → (W.alloc (.cells #[x.a, x.b, x.c] E)).cell? ((⟨W.heap.size, 0, none⟩ : Addr).add j) = some u := by
  intro j u hu
  rw [addp, cell_of_row _ _ j #[x.a, x.b, x.c] E (0, 0) (heap_alloc_new W _)]
  rcases j with _ | _ | _ | j
  · simpa [V3.cells] using hu
  · simpa [V3.cells] using hu
  · simpa [V3.cells] using hu
  · simp [V3.cells] at hu

section
variable {ops : Array Oper} {rest : List Oper} {o : Oper} {a : Act} {Q : Exit → Act → World → Prop}
/-- append(v, x): v a row of the call's own, x an element of three cells. -/
theorem own3_append1 {W : World} (base H : Nat) (hH : W.heap.size = H) (T E nb : Nat) (z : Value) (hu : Try.prog.underlying T = some (.slice E)) (hinfo : (Try.prog.info? E).map (fun i => (i.zero, i.size, i.bytes)) = some (some z, 3, nb)) (hz1 : z.cells.size = 3)
    (hgd : o.guard = none) (s x : Operand) (ho : o.op = .call { callee := .builtin .append, args := #[s, x], argTypes := #[T, T] })
    (v : Value) (xs : List V3) (y : V3) (hy : ∀ u ∈ y.cells, u.oneCell' = true) (hs : a.eval s = v) (hx : a.eval x = .slice (some ⟨H, 0, none⟩) 1 1)
    (HO : Own3 W base E v xs) (hbase : base ≤ W.heap.size) (hl : (xs.length + 1) * nb ≤ 140737488355328) (hl2 : xs.length + 1 ≤ 140737488355328)
    (h : ∀ v1 w1, Own3 w1 base E v1 (xs ++ [y]) → Below base W w1 → W.grownBy w1 v.ownBlock → (v1.ownBlock = v.ownBlock ∨ ∃ k, v1.ownBlock = some k ∧ W.heap.size ≤ k) → wpList Try.prog ops Q rest (a.put o.dst v1) w1) :
    wpList Try.prog ops Q (o :: rest) a (W.alloc (.cells #[y.a, y.b, y.c] E)) := by
  subst hH
  obtain ⟨i0, hi, hz0, hz1', hz2⟩ := info_parts hinfo
  refine wpList_append_own_at (W.alloc (.cells #[y.a, y.b, y.c] E)) hgd s x T ho base E i0 z 3 nb hu hi hz0 hz1' hz2 hz1 (by omega) v xs.length (flat3 xs) hs (World.ownsRow.alloc HO _) ⟨W.heap.size, 0, none⟩ 1 1 y.cells hx rfl
    (news3 W y E) hy (by simp only [maxLen]; omega) hl (by simp; omega) ?_
  intro v1 w1 hown hg _ hat
  have hown' : Own3 w1 base E v1 (xs ++ [y]) := by
    unfold Own3
    rw [flat3_append, List.length_append]
    exact hown
  refine h v1 w1 hown' (((Below.refl base W).alloc hbase _).grown hg (by simp; omega) ?_) (World.grownBy.trans (World.grownBy_alloc W _ _) hg) ?_
  · intro k hk
    exact (World.ownsRow.lt HO k hk).1
  · rcases hat with hat | hat
    · exact .inl hat
    · exact .inr ⟨_, hat, by simp⟩
end
theorem info66 : (Try.prog.info? 66).map (fun i => (i.zero, i.size, i.bytes)) = some (some (.agg #[.string ByteArray.empty, .string ByteArray.empty, .bool false]), 3, 40) := by kernel_rfl
theorem info79 : (Try.prog.info? 79).map (fun i => (i.zero, i.size, i.bytes)) = some (some (.agg #[.int .i64 0, .int .i64 0, .int .i64 0]), 3, 24) := by kernel_rfl
end Go.Proofs.Ytggjipfdfpdecaa
/- The walks of record's rightCommit. -/
set_option linter.unusedVariables false
namespace Go.Proofs.Ytggjipfdfpdecaa
open Go.RowKit
attribute [local go_sem] bs_list bs_size

/-- A write as cells. -/
def wV (x : Wri) : V3 := ⟨.string (bs x.key), .string (bs x.val), .bool x.gone⟩
theorem bool_eq {a b : Bool} (h : a = b) : Value.bool a = Value.bool b := by rw [h]
theorem Rd3.elem {w : World} {v : Value} {xs : List V3} (h : Rd3 w v xs) {j : Nat} (hj : j < xs.length) : ∃ ad c, v = .slice (some ad) xs.length c ∧ xs.length ≤ c ∧ c ≤ maxLen ∧ At3 w (ad.add (j * 3)) xs[j] := by
  obtain ⟨A, c, hv, h1, h2, h3⟩ := h
  obtain ⟨ad, rfl, hc⟩ := h3 (by omega)
  exact ⟨ad, c, hv, h1, h2, hc j hj⟩

set_option maxRecDepth 100000 in
set_option maxHeartbeats 2000000 in
theorem rc1_any (H : Nat) (t : Int) (v : Value) (ws : List Wri) (k : Nat) (hk : k < ws.length) (w : World) (hc : w.heap[H]? = some (.cells #[.int .i64 t, v] 64 (0, 0))) (hr : Rd3 w v (ws.map wV)) (hl : ws.length ≤ 1048576) (hkl : ws[k].key.length ≤ 1048576) (hvl : ws[k].val.length ≤ 1048576) :
    Calls Try.prog 123 #[.int .i64 (k : Int), .agg #[.string (bs ws[k].key), .string (bs ws[k].val), .bool ws[k].gone], .pointer (some ⟨H, 0, none⟩)] w fun e w' => e = .returned (.bool (wAt ws k)) ∧ Below w.heap.size w w' := by
  obtain ⟨x, hx⟩ : ∃ x, x = ws[k] := ⟨_, rfl⟩
  obtain ⟨w0, hw0⟩ : ∃ w0, w0 = w.alloc (.cells #[.string (bs x.key), .string (bs x.val), .bool x.gone] 66) := ⟨_, rfl⟩
  obtain ⟨B, hB⟩ : ∃ B, B = w.heap.size := ⟨_, rfl⟩
  have hb0 : Below w.heap.size w w0 := by rw [hw0]; exact (Below.refl _ _).alloc (Nat.le_refl _) _
  have hx0 : w0.heap[B]? = some (.cells #[.string (bs x.key), .string (bs x.val), .bool x.gone] 66 (0, 0)) := by rw [hw0, hB]; exact heap_alloc_new w _
  have hc0 := heap_below hc hb0
  have hr0 := hr.below hb0
  have x0 := box_cells hx0 0 (.string (bs x.key)) rfl
  have x1 := box_cells hx0 1 (.string (bs x.val)) rfl
  have x2 := box_cells hx0 2 (.bool x.gone) rfl
  have y1 := box_cells hc0 1 v rfl
  have k1 := fun q => (isKey_any x.key (w0.drewN q) (by rw [hx]; omega)).mono (fun _ _ h => (⟨h.1, h.2.symm⟩ : _ ∧ _))
  have k2 := fun q => (isVal_any x.val (w0.drewN q)).mono (fun _ _ h => (⟨h.1, h.2.symm⟩ : _ ∧ _))
  have hwa : wAt ws k = (wOk x && (k == 0 || (match ws[k - 1]? with | none => true | some p => Op.bytesLess p.key x.key))) := by unfold wAt; rw [List.getElem?_eq_getElem hk, ← hx]; rfl
  have HWA := Lib.hid hwa
  have HR0 := Lib.hid hr0
  have HB0 := Lib.hid hb0
  rw [← hx]
  rw [← hx] at hkl hvl
  have HX := Lib.hid hx
  clear hx0 hc0 hr0 hb0 hx hwa hc hr
  go_enter Try.func123, Try.ntmps123
  go_wp2_with fail
  rw [← hw0, ← hB]
  have HB := Lib.hid hB
  clear hw0 hB
  cases h1 : isKey x.key
  · rw [h1] at k1
    have hf : wAt ws k = false := by rw [HWA.out]; unfold wOk; rw [h1]; simp
    have HF := Lib.hid hf; clear hf
    go_quiet ((first | (go_at_call 49; exact Calls.quiet_of_same (k1 _)) | (go_at_call 51; exact Calls.quiet_of_same (k2 _))))
    go_wp2_with fail
    go_ret
    exact ⟨ret_bool (by rw [HF.out]), below_drewN HB0.out _⟩
  · rw [h1] at k1
    cases h2 : isVal x.val
    · rw [h2] at k2
      have hf : wAt ws k = false := by rw [HWA.out]; unfold wOk; rw [h1, h2]; simp
      have HF := Lib.hid hf; clear hf
      go_quiet ((first | (go_at_call 49; exact Calls.quiet_of_same (k1 _)) | (go_at_call 51; exact Calls.quiet_of_same (k2 _))))
      go_wp2_with fail
      go_ret
      exact ⟨ret_bool (by rw [HF.out]), below_drewN HB0.out _⟩
    · rw [h2] at k2
      cases h3 : x.gone
      · rw [h3] at x2
        have hok : wOk x = true := by unfold wOk; rw [h1, h2, h3]; rfl
        rcases k with _ | j
        · have hf : wAt ws 0 = true := by rw [HWA.out]; rw [hok]; simp
          have HF := Lib.hid hf; clear hf
          go_quiet ((first | (go_at_call 49; exact Calls.quiet_of_same (k1 _)) | (go_at_call 51; exact Calls.quiet_of_same (k2 _))))
          go_wp2_with fail
          go_ret
          exact ⟨ret_bool (by rw [HF.out]), below_drewN HB0.out _⟩
        · obtain ⟨ad, c, rfl, hc1, hc2, hp0, hp1, hp2⟩ := HR0.out.elem (j := j) (by rw [List.length_map]; omega)
          rw [List.length_map] at hc1 y1
          have hj : j < ws.length := by omega
          obtain ⟨p, hp⟩ : ∃ p, p = ws[j] := ⟨_, rfl⟩
          have hpk : (ws.map wV)[j]'(by rw [List.length_map]; omega) = wV p := by rw [List.getElem_map, hp]
          rw [hpk] at hp0
          change w0.cell? (ad.add (j * 3)) = some (.string (bs p.key)) at hp0
          have hws : ws[j + 1 - 1]? = some p := by rw [Nat.add_sub_cancel, List.getElem?_eq_getElem hj, hp]
          have e1 : ((j + 1 : Nat) : Int) - 1 = (j : Int) := by omega
          have e0 : (((j + 1 : Nat) : Int) == 0) = false := by rw [beq_eq_false_iff_ne]; omega
          have e2 : ((j : Int) + 1 == 0) = false := by rw [beq_eq_false_iff_ne]; omega
          have HHP := Lib.hid hp; clear hp hpk hp1 hp2
          cases hlt : Op.bytesLess p.key x.key
          · have hf : wAt ws (j + 1) = false := by rw [HWA.out]; rw [hok, hws]; simp only; rw [hlt]; rfl
            have HF := Lib.hid hf; clear hf
            go_quiet ((first | (go_at_call 49; exact Calls.quiet_of_same (k1 _)) | (go_at_call 51; exact Calls.quiet_of_same (k2 _))))
            go_wp2_with fail
            go_ret
            exact ⟨ret_bool (by rw [HF.out]), below_drewN HB0.out _⟩
          · have hf : wAt ws (j + 1) = true := by rw [HWA.out]; rw [hok, hws]; simp only; rw [hlt]; rfl
            have HF := Lib.hid hf; clear hf
            go_quiet ((first | (go_at_call 49; exact Calls.quiet_of_same (k1 _)) | (go_at_call 51; exact Calls.quiet_of_same (k2 _))))
            go_wp2_with fail
            go_ret
            exact ⟨ret_bool (by rw [HF.out]), below_drewN HB0.out _⟩
      · rw [h3] at x2
        cases h4 : x.val.isEmpty
        · have hf : wAt ws k = false := by rw [HWA.out]; unfold wOk; rw [h1, h2, h3, h4]; simp
          have HF := Lib.hid hf; clear hf
          go_quiet ((first | (go_at_call 49; exact Calls.quiet_of_same (k1 _)) | (go_at_call 51; exact Calls.quiet_of_same (k2 _))))
          go_wp2_with fail
          go_ret
          exact ⟨ret_bool (by rw [HF.out]), below_drewN HB0.out _⟩
        · have hok : wOk x = true := by unfold wOk; rw [h1, h2, h3, h4]; rfl
          rcases k with _ | j
          · have hf : wAt ws 0 = true := by rw [HWA.out]; rw [hok]; simp
            have HF := Lib.hid hf; clear hf
            go_quiet ((first | (go_at_call 49; exact Calls.quiet_of_same (k1 _)) | (go_at_call 51; exact Calls.quiet_of_same (k2 _))))
            go_wp2_with fail
            go_ret
            exact ⟨ret_bool (by rw [HF.out]), below_drewN HB0.out _⟩
          · obtain ⟨ad, c, rfl, hc1, hc2, hp0, hp1, hp2⟩ := HR0.out.elem (j := j) (by rw [List.length_map]; omega)
            rw [List.length_map] at hc1 y1
            have hj : j < ws.length := by omega
            obtain ⟨p, hp⟩ : ∃ p, p = ws[j] := ⟨_, rfl⟩
            have hpk : (ws.map wV)[j]'(by rw [List.length_map]; omega) = wV p := by rw [List.getElem_map, hp]
            rw [hpk] at hp0
            change w0.cell? (ad.add (j * 3)) = some (.string (bs p.key)) at hp0
            have hws : ws[j + 1 - 1]? = some p := by rw [Nat.add_sub_cancel, List.getElem?_eq_getElem hj, hp]
            have e1 : ((j + 1 : Nat) : Int) - 1 = (j : Int) := by omega
            have e0 : (((j + 1 : Nat) : Int) == 0) = false := by rw [beq_eq_false_iff_ne]; omega
            have e2 : ((j : Int) + 1 == 0) = false := by rw [beq_eq_false_iff_ne]; omega
            have HHP := Lib.hid hp; clear hp hpk hp1 hp2
            cases hlt : Op.bytesLess p.key x.key
            · have hf : wAt ws (j + 1) = false := by rw [HWA.out]; rw [hok, hws]; simp only; rw [hlt]; rfl
              have HF := Lib.hid hf; clear hf
              go_quiet ((first | (go_at_call 49; exact Calls.quiet_of_same (k1 _)) | (go_at_call 51; exact Calls.quiet_of_same (k2 _))))
              go_wp2_with fail
              go_ret
              exact ⟨ret_bool (by rw [HF.out]), below_drewN HB0.out _⟩
            · have hf : wAt ws (j + 1) = true := by rw [HWA.out]; rw [hok, hws]; simp only; rw [hlt]; rfl
              have HF := Lib.hid hf; clear hf
              go_quiet ((first | (go_at_call 49; exact Calls.quiet_of_same (k1 _)) | (go_at_call 51; exact Calls.quiet_of_same (k2 _))))
              go_wp2_with fail
              go_ret
              exact ⟨ret_bool (by rw [HF.out]), below_drewN HB0.out _⟩

theorem At3.addr {w : World} {p : Addr} {x : V3} (h : At3 w p x) : w.cell? p = some x.a ∧ w.cell? ⟨p.block, p.off + 1, none⟩ = some x.b ∧ w.cell? ⟨p.block, p.off + 2, none⟩ = some x.c := h

set_option maxRecDepth 100000 in
set_option maxHeartbeats 2000000 in
theorem allW_any (H : Nat) (t : Int) (v : Value) (ws : List Wri) (w : World) (hc : w.heap[H]? = some (.cells #[.int .i64 t, v] 64 (0, 0))) (hr : Rd3 w v (ws.map wV)) (hl : ws.length ≤ 1048576) (hkl : ∀ x ∈ ws, x.key.length ≤ 1048576 ∧ x.val.length ≤ 1048576) :
    Calls Try.prog 122 #[v, .func (.func 123) #[] #[.pointer (some ⟨H, 0, none⟩)]] w fun e w' => e = .returned (.bool (wsOk ws)) ∧ Below w.heap.size w w' := by
  obtain ⟨A, c, rfl, hc1, hc2, _⟩ := id hr
  rw [List.length_map] at hc1 ⊢
  rw [List.length_map] at hc hr
  have HC := Lib.hid hc; clear hc
  have HR := Lib.hid hr; clear hr
  have HKL := Lib.hid hkl; clear hkl
  go_enter Try.func122, Try.ntmps122
  go_wp2_with fail
  go_loopw [9] (fun v9 wr => ∃ k : Nat, k ≤ ws.length ∧ v9 = .int .i64 (k : Int) ∧ Hid (∀ j, j < k → wAt ws j = true) ∧ Below w.heap.size w wr) (fun v9 _ => ws.length - (intOf v9).toNat)
  case atStart => exact ⟨0, by omega, rfl, Lib.hid (fun j h => by omega), Below.refl _ _⟩
  case round =>
    obtain ⟨k, hk, rfl, HJ, hb⟩ := hrel
    have HB := Lib.hid hb; clear hb
    by_cases hlt : k < ws.length
    · obtain ⟨ad, c', he, _, _, hp0, hp1, hp2⟩ := (HR.out.below HB.out).elem (j := k) (by rw [List.length_map]; exact hlt)
      rw [List.length_map] at he
      injection he with e1 e2 e3
      subst e1
      rw [List.getElem_map] at hp0 hp1 hp2
      obtain ⟨x, hx⟩ : ∃ x, x = ws[k] := ⟨_, rfl⟩
      rw [← hx] at hp0 hp1 hp2
      simp only [wV] at hp0 hp1 hp2
      clear e2 e3
      have t1 : decide ((k : Int) < (ws.length : Int)) = true := by simp; omega
      obtain ⟨w0, hw0⟩ : ∃ w0, w0 = wr.alloc (.cells #[.string (bs x.key), .string (bs x.val), .bool x.gone] 66) := ⟨_, rfl⟩
      have hb0 : Below wr.heap.size wr w0 := by rw [hw0]; exact (Below.refl _ _).alloc (Nat.le_refl _) _
      have HB0 := Lib.hid (HB.out.trans (hb0.mono HB.out.size)); clear hb0
      have hkl := HKL.out ws[k] (List.getElem_mem hlt)
      have hc := rc1_any H t (.slice (some ad) ws.length c) ws k hlt w0 (heap_below HC.out HB0.out) (HR.out.below HB0.out) hl hkl.1 hkl.2
      rw [← hx] at hc
      have HX := Lib.hid hx; clear hx hkl
      have HCA := Lib.hid hc; clear hc
      go_upto_region 4 with fail
      rw [← hw0]
      have HW0 := Lib.hid hw0; clear hw0
      have x0 : w0.heap[wr.heap.size]? = some (.cells #[.string (bs x.key), .string (bs x.val), .bool x.gone] 66 (0, 0)) := by rw [HW0.out]; exact heap_alloc_new wr _
      have y0 := box_cells x0 0 (.string (bs x.key)) rfl
      have y1 := box_cells x0 1 (.string (bs x.val)) rfl
      have y2 := box_cells x0 2 (.bool x.gone) rfl
      clear x0
      go_wp2_with fail
      refine HCA.out.mono ?_
      rintro e w1 ⟨rfl, hb1⟩
      have HB1 := Lib.hid (HB0.out.trans (hb1.mono HB0.out.size)); clear hb1
      cases hwk : wAt ws k with
      | true =>
        have HWK := Lib.hid hwk; clear hwk
        go_wp2_with fail
        go_roundw
        case rel => exact ⟨k + 1, by omega, by go_num, Lib.hid (fun j hj => by
          rcases Nat.lt_or_ge j k with h | h
          · exact HJ.out j h
          · rw [show j = k from by omega]; exact HWK.out), HB1.out⟩
        case measure => simp [intOf]; omega
      | false =>
        have hno := wsOk_no hlt hwk
        have HNO := Lib.hid hno; clear hno hwk
        go_wp2_with fail
        go_ret
        exact ⟨ret_bool HNO.out.symm, HB1.out⟩
    · have t1 : decide ((k : Int) < (ws.length : Int)) = false := by simp; omega
      have hok : wsOk ws = true := (wsOk_iff ws).2 (fun j hj => HJ.out j (by omega))
      have HOK := Lib.hid hok; clear hok
      go_wp2_with fail
      go_ret
      exact ⟨ret_bool HOK.out.symm, HB.out⟩

set_option maxRecDepth 100000 in
set_option maxHeartbeats 2000000 in
theorem rightCom_any (t : Int) (v : Value) (ws : List Wri) (w : World) (hr : Rd3 w v (ws.map wV)) (hl : ws.length ≤ 1048576) (hkl : ∀ x ∈ ws, x.key.length ≤ 1048576 ∧ x.val.length ≤ 1048576) :
    Calls Try.prog 82 #[.agg #[.int .i64 t, v]] w fun e w' => e = .returned (.bool (comOk t ws)) ∧ Below w.heap.size w w' := by
  obtain ⟨A, c, rfl, _, _, _⟩ := id hr
  rw [List.length_map] at hr ⊢
  obtain ⟨H, hH⟩ : ∃ H, H = w.heap.size := ⟨_, rfl⟩
  obtain ⟨w0, hw0⟩ : ∃ w0, w0 = w.alloc (.cells #[.int .i64 t, .slice A ws.length c] 64) := ⟨_, rfl⟩
  have hb0 : Below w.heap.size w w0 := by rw [hw0]; exact (Below.refl _ _).alloc (Nat.le_refl _) _
  have hx0 : w0.heap[H]? = some (.cells #[.int .i64 t, .slice A ws.length c] 64 (0, 0)) := by rw [hw0, hH]; exact heap_alloc_new w _
  have HB0 := Lib.hid hb0
  have k1 := isTime_any t w0
  have k2 := allW_any H t _ ws w0 hx0 (hr.below hb0) hl hkl
  have x0 := box_cells hx0 0 (.int .i64 t) rfl
  have x1 := box_cells hx0 1 (.slice A ws.length c) rfl
  have HK1 := Lib.hid k1
  have HK2 := Lib.hid k2
  clear hr hkl hb0 hx0 k1 k2
  go_enter Try.func82, Try.ntmps82
  go_wp2_with fail
  rw [← hw0, ← hH]
  clear hw0 hH
  refine HK1.out.mono ?_
  rintro e w' ⟨rfl, rfl⟩
  cases h1 : isTm t with
  | false =>
    have hf : comOk t ws = false := by unfold comOk; rw [h1]; simp
    have HF := Lib.hid hf; clear hf h1
    go_wp2_with fail
    go_ret
    exact ⟨ret_bool HF.out.symm, HB0.out⟩
  | true =>
    by_cases h2 : ws.length ≤ 64
    · have hf : comOk t ws = wsOk ws := by unfold comOk; rw [h1, decide_eq_true h2]; simp
      have HF := Lib.hid hf; clear hf h1
      have t2 : decide ((ws.length : Int) ≤ 64) = true := by simp; omega
      go_wp2_with fail
      refine HK2.out.mono ?_
      rintro e w1 ⟨rfl, hb1⟩
      have HB1 := Lib.hid (HB0.out.trans (hb1.mono HB0.out.size)); clear hb1
      go_wp2_with fail
      go_ret
      exact ⟨ret_bool (by rw [HF.out]), HB1.out⟩
    · have hf : comOk t ws = false := by unfold comOk; rw [decide_eq_false h2]; simp
      have HF := Lib.hid hf; clear hf h1
      have t2 : decide ((ws.length : Int) ≤ 64) = false := by simp; omega
      go_wp2_with fail
      go_ret
      exact ⟨ret_bool HF.out.symm, HB0.out⟩
end Go.Proofs.Ytggjipfdfpdecaa
