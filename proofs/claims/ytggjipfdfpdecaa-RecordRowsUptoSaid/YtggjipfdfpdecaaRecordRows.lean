/- The walk of the law RecordRows: the program and the document write rows, and what is gone, alike. -/
import Derived.Test.YtggjipfdfpdecaaRecordTexts
import Derived.Test.YtggjipfdfpdecaaRcQ
set_option linter.unusedVariables false
namespace Go.Proofs.Ytggjipfdfpdecaa
open Go.RowKit
attribute [local go_sem] bs_list bs_size

/-- What a writer has answered: bytes, a code. -/
theorem PutA.known {w w' : World} {ok : Bool} {l : List UInt8} {e : Ending} (h : PutA w ok l e w') : Below w.heap.size w w' ∧ ∃ v, e = .returned (.tuple #[v, .int .i64 (if ok = true then 0 else 60)]) ∧ RdB w' v (if ok = true then l else []) := by
  obtain ⟨hb, h⟩ := h
  refine ⟨hb, ?_⟩
  rcases h with ⟨rfl, rfl⟩ | ⟨rfl, v, rfl, ho⟩
  · exact ⟨_, rfl, RdB.nil _⟩
  · exact ⟨v, rfl, ho.rd⟩

set_option maxRecDepth 100000 in
set_option maxHeartbeats 4000000 in
theorem recordRows_list (k v : List UInt8) (t : Int) (w : World) (hk : k.length ≤ 140737488355328) :
    Calls Try.prog 20 #[.agg #[.string (bs k), .string (bs v), .int .i64 t]] w fun e w' => e = .returned (.bool true) ∧ Below w.heap.size w w' := by
  obtain ⟨H, hH⟩ : ∃ H, H = w.heap.size := ⟨_, rfl⟩
  obtain ⟨w0, hw0⟩ : ∃ w0, w0 = w.alloc (.cells #[.string (bs k), .string (bs v), .int .i64 t] 81) := ⟨_, rfl⟩
  have hb0 : Below w.heap.size w w0 := by rw [hw0]; exact (Below.refl _ _).alloc (Nat.le_refl _) _
  have hx0 : w0.heap[H]? = some (.cells #[.string (bs k), .string (bs v), .int .i64 t] 81 (0, 0)) := by rw [hw0, hH]; exact heap_alloc_new w _
  have HB0 := Lib.hid hb0; clear hb0
  have HX0 := Lib.hid hx0; clear hx0
  go_enter Try.func20, Try.ntmps20
  go_upto_region 1 with fail
  rw [← hw0, ← hH]
  have HH := Lib.hid hH; clear hw0 hH
  go_wp2_with fail
  refine (rshown_any w0).mono ?_
  rintro e w1 ⟨rfl, hb1⟩
  have HX1 := Lib.hid (heap_below HX0.out hb1)
  have HB1 := Lib.hid (HB0.out.trans (hb1.mono HB0.out.size)); clear hb1
  have x0 := box_cells HX1.out 0 (.string (bs k)) rfl
  have x1 := box_cells HX1.out 1 (.string (bs v)) rfl
  have x2 := box_cells HX1.out 2 (.int .i64 t) rfl
  obtain ⟨L, hL⟩ : ∃ L, L = (if (isKey k && isVal v && isTm t) = true then encRow k v t.toNat else []) := ⟨_, rfl⟩
  obtain ⟨M, hM⟩ : ∃ M, M = (if (isKey k && isTm t) = true then encGone k t.toNat else []) := ⟨_, rfl⟩
  obtain ⟨C, hC⟩ : ∃ C : Int, C = (if (isKey k && isVal v && isTm t) = true then 0 else 60) := ⟨_, rfl⟩
  obtain ⟨D, hD⟩ : ∃ D : Int, D = (if (isKey k && isTm t) = true then 0 else 60) := ⟨_, rfl⟩
  have HL := Lib.hid hL; have HM := Lib.hid hM; have HC := Lib.hid hC; have HD := Lib.hid hD
  clear hL hM hC hD
  go_wp2_with fail
  refine (putRow_any k v t w1 hk).mono ?_
  intro e w2 h2
  obtain ⟨hb2, v2, rfl, hr2⟩ := h2.known
  rw [← HL.out] at hr2
  rw [← HC.out]
  have HX2 := Lib.hid (heap_below HX1.out hb2)
  have HB2 := Lib.hid (HB1.out.trans (hb2.mono HB1.out.size))
  have HR2 := Lib.hid hr2
  clear h2 hb2 hr2 x0 x1 x2
  have x0 := box_cells HX2.out 0 (.string (bs k)) rfl
  have x1 := box_cells HX2.out 1 (.string (bs v)) rfl
  have x2 := box_cells HX2.out 2 (.int .i64 t) rfl
  go_wp2_with fail
  refine (refPutRow_any k v t w2 hk).mono ?_
  intro e w3 h3
  obtain ⟨hb3, v3, rfl, hr3⟩ := h3.known
  rw [← HL.out] at hr3
  rw [← HC.out]
  have HX3 := Lib.hid (heap_below HX2.out hb3)
  have HB3 := Lib.hid (HB2.out.trans (hb3.mono HB2.out.size))
  have HR3 := Lib.hid hr3
  have HR23 := Lib.hid (HR2.out.below hb3)
  clear h3 hb3 hr3 x0 x1 x2
  have x0 := box_cells HX3.out 0 (.string (bs k)) rfl
  have x1 := box_cells HX3.out 1 (.string (bs v)) rfl
  have x2 := box_cells HX3.out 2 (.int .i64 t) rfl
  obtain ⟨w4, hw4⟩ : ∃ w4, w4 = w3.alloc (.cells #[.string (bs k), .int .i64 t] 85) := ⟨_, rfl⟩
  obtain ⟨X, hX⟩ : ∃ X, X = w3.heap.size := ⟨_, rfl⟩
  have hb4 : Below w3.heap.size w3 w4 := by rw [hw4]; exact (Below.refl _ _).alloc (Nat.le_refl _) _
  have HY4 := Lib.hid (show w4.heap[X]? = some (.cells #[.string (bs k), .int .i64 t] 85 (0, 0)) from by rw [hw4, hX]; exact heap_alloc_new w3 _)
  have HB4 := Lib.hid (HB3.out.trans (hb4.mono HB3.out.size))
  have HR24 := Lib.hid (HR23.out.below hb4)
  have HR34 := Lib.hid (HR3.out.below hb4)
  clear hb4
  go_upto_region 5 with fail
  rw [← hw4, ← hX]
  clear hw4 hX x0 x1 x2
  have y0 := box_cells HY4.out 0 (.string (bs k)) rfl
  have y1 := box_cells HY4.out 1 (.int .i64 t) rfl
  go_wp2_with fail
  refine (putGone_any k t w4 hk).mono ?_
  intro e w5 h5
  obtain ⟨hb5, v5, rfl, hr5⟩ := h5.known
  rw [← HM.out] at hr5
  rw [← HD.out]
  have HY5 := Lib.hid (heap_below HY4.out hb5)
  have HB5 := Lib.hid (HB4.out.trans (hb5.mono HB4.out.size))
  have HR25 := Lib.hid (HR24.out.below hb5)
  have HR35 := Lib.hid (HR34.out.below hb5)
  have HR5 := Lib.hid hr5
  clear h5 hb5 hr5 y0 y1
  have y0 := box_cells HY5.out 0 (.string (bs k)) rfl
  have y1 := box_cells HY5.out 1 (.int .i64 t) rfl
  go_wp2_with fail
  refine (refPutGone_any k t w5 hk).mono ?_
  intro e w6 h6
  obtain ⟨hb6, v6, rfl, hr6⟩ := h6.known
  rw [← HM.out] at hr6
  rw [← HD.out]
  have HB6 := Lib.hid (HB5.out.trans (hb6.mono HB5.out.size))
  have q2 := conv_rd (HR25.out.below hb6)
  have q3 := conv_rd (HR35.out.below hb6)
  have q5 := conv_rd (HR5.out.below hb6)
  have q6 := conv_rd hr6
  clear h6 hb6 hr6 y0 y1
  go_wp2_with fail
  go_ret
  exact ⟨ret_bool (by simp), HB6.out⟩
theorem recordRows_any (k v : ByteArray) (t : Int) (w : World) (h : k.size ≤ 1048576) :
    Calls Try.prog 20 #[.agg #[.string k, .string v, .int .i64 t]] w fun e w' => e = .returned (.bool true) ∧ Below w.heap.size w w' := by
  rw [bs_back k, bs_back v]
  refine recordRows_list _ _ t w ?_
  rw [Array.length_toList]
  have : k.size = k.data.size := rfl
  omega
end Go.Proofs.Ytggjipfdfpdecaa
