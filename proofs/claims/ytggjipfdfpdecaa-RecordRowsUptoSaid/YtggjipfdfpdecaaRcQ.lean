/- The walks of the document's PutRow and PutGone. -/
import Derived.Test.YtggjipfdfpdecaaRcPr
set_option linter.unusedVariables false
namespace Go.Proofs.Ytggjipfdfpdecaa
open Go.RowKit
attribute [local go_sem] bs_list bs_size

theorem lit_own (w : World) (x : UInt8) : Own (w.alloc (.cells #[.int .u8 (x.toNat : Int)] 5)) w.heap.size (.slice (some ⟨w.heap.size, 0, none⟩) 1 1) [x] :=
  ⟨rfl, .inr ⟨w.heap.size, 1, #[.int .u8 (x.toNat : Int)], rfl, Nat.le_refl _, heap_alloc_new w _, Nat.le_refl _, by simp [maxLen], rfl, rfl⟩⟩
set_option maxHeartbeats 400000 in
theorem fput_num (v : Value) (l : List UInt8) (n : Nat) (w : World) (hr : RdB w v l) (hn : n < 9223372036854775808) (hl : l.length + 10 ≤ 140737488355328) :
    Calls Try.prog 88 #[v, .int .i64 n] w fun e w' => ∃ v', e = .returned v' ∧ Own w' w.heap.size v' (l ++ uvar n) ∧ Below w.heap.size w w' := by
  have hw : IntKind.u64.wrap (n : Int) = (n : Int) := by rw [IntKind.wrap_u64, Int.emod_eq_of_lt (by omega) (by omega)]
  have HR := Lib.hid hr; clear hr
  go_enter Try.func88, Try.ntmps88
  go_wp2_with fail
  refine (refPut_any v l n w HR.out (by omega) hl).mono ?_
  rintro e w1 ⟨v1, rfl, ho1, hb1⟩
  have HO1 := Lib.hid ho1; clear ho1
  have HB1 := Lib.hid hb1; clear hb1
  go_wp2_with fail
  go_ret
  exact ⟨_, rfl, HO1.out, HB1.out⟩
set_option maxHeartbeats 400000 in
theorem fput_text (v : Value) (l : List UInt8) (t : List UInt8) (w : World) (hr : RdB w v l) (hl : l.length + t.length + 10 ≤ 140737488355328) :
    Calls Try.prog 89 #[v, .string (bs t)] w fun e w' => ∃ v', e = .returned v' ∧ Own w' w.heap.size v' (l ++ uvar t.length ++ t) ∧ Below w.heap.size w w' := by
  have HR := Lib.hid hr; clear hr
  go_enter Try.func89, Try.ntmps89
  go_wp2_with fail
  refine (refPutText_any v l (bs t) w HR.out (by rw [bs_size]; exact hl)).mono ?_
  rintro e w1 ⟨v1, rfl, ho1, hb1⟩
  rw [bs_size, bs_data] at ho1
  have HO1 := Lib.hid ho1; clear ho1
  have HB1 := Lib.hid hb1; clear hb1
  go_wp2_with fail
  go_ret
  exact ⟨_, rfl, HO1.out, HB1.out⟩

set_option maxRecDepth 100000 in
set_option maxHeartbeats 1000000 in
theorem rightRow_any (k v : List UInt8) (t : Int) (w : World) (hk : k.length ≤ 140737488355328) :
    Calls Try.prog 112 #[.agg #[.string (bs k), .string (bs v), .int .i64 t]] w fun e w' => e = .returned (.bool (isKey k && isVal v && isTm t)) ∧ Below w.heap.size w w' := by
  have k1 := refIsKey_any k (w.alloc (.cells #[.string (bs k), .string (bs v), .int .i64 t] 81)) hk
  have k2 := refIsVal_any v (w.alloc (.cells #[.string (bs k), .string (bs v), .int .i64 t] 81))
  have k3 := timed_any t (w.alloc (.cells #[.string (bs k), .string (bs v), .int .i64 t] 81))
  have HB := Lib.hid ((Below.refl w.heap.size w).alloc (Nat.le_refl _) (.cells #[.string (bs k), .string (bs v), .int .i64 t] 81))
  cases h1 : isKey k
  · rw [h1] at k1
    go_enter Try.func112, Try.ntmps112
    go_wp2_with fail
    refine k1.mono ?_
    rintro e w' ⟨rfl, rfl⟩
    go_wp2_with fail
    go_ret
    exact ⟨rfl, HB.out⟩
  · rw [h1] at k1
    cases h2 : isVal v
    · rw [h2] at k2
      go_enter Try.func112, Try.ntmps112
      go_wp2_with fail
      refine k1.mono ?_
      rintro e w' ⟨rfl, rfl⟩
      go_wp2_with fail
      refine k2.mono ?_
      rintro e w' ⟨rfl, rfl⟩
      go_wp2_with fail
      go_ret
      exact ⟨rfl, HB.out⟩
    · rw [h2] at k2
      go_enter Try.func112, Try.ntmps112
      go_wp2_with fail
      refine k1.mono ?_
      rintro e w' ⟨rfl, rfl⟩
      go_wp2_with fail
      refine k2.mono ?_
      rintro e w' ⟨rfl, rfl⟩
      go_wp2_with fail
      refine k3.mono ?_
      rintro e w' ⟨rfl, rfl⟩
      go_wp2_with fail
      go_ret
      exact ⟨by simp, HB.out⟩
set_option maxRecDepth 100000 in
set_option maxHeartbeats 1000000 in
theorem rightGone_any (k : List UInt8) (t : Int) (w : World) (hk : k.length ≤ 140737488355328) :
    Calls Try.prog 116 #[.agg #[.string (bs k), .int .i64 t]] w fun e w' => e = .returned (.bool (isKey k && isTm t)) ∧ Below w.heap.size w w' := by
  have k1 := refIsKey_any k (w.alloc (.cells #[.string (bs k), .int .i64 t] 85)) hk
  have k3 := timed_any t (w.alloc (.cells #[.string (bs k), .int .i64 t] 85))
  have HB := Lib.hid ((Below.refl w.heap.size w).alloc (Nat.le_refl _) (.cells #[.string (bs k), .int .i64 t] 85))
  cases h1 : isKey k
  · rw [h1] at k1
    go_enter Try.func116, Try.ntmps116
    go_wp2_with fail
    refine k1.mono ?_
    rintro e w' ⟨rfl, rfl⟩
    go_wp2_with fail
    go_ret
    exact ⟨rfl, HB.out⟩
  · rw [h1] at k1
    go_enter Try.func116, Try.ntmps116
    go_wp2_with fail
    refine k1.mono ?_
    rintro e w' ⟨rfl, rfl⟩
    go_wp2_with fail
    refine k3.mono ?_
    rintro e w' ⟨rfl, rfl⟩
    go_wp2_with fail
    go_ret
    exact ⟨by simp, HB.out⟩

set_option maxRecDepth 100000 in
set_option maxHeartbeats 1000000 in
theorem refPutRow_any (k v : List UInt8) (t : Int) (w : World) (hk : k.length ≤ 140737488355328) :
    Calls Try.prog 68 #[.agg #[.string (bs k), .string (bs v), .int .i64 t]] w (PutA w (isKey k && isVal v && isTm t) (encRow k v t.toNat)) := by
  obtain ⟨wb, hwb⟩ : ∃ wb, wb = w.alloc (.cells #[.string (bs k), .string (bs v), .int .i64 t] 81) := ⟨_, rfl⟩
  have hbb : Below w.heap.size w wb := by rw [hwb]; exact (Below.refl _ _).alloc (Nat.le_refl _) _
  have hbx : wb.heap[w.heap.size]? = some (.cells #[.string (bs k), .string (bs v), .int .i64 t] 81 (0, 0)) := by rw [hwb]; exact heap_alloc_new w _
  have hbs : wb.heap.size = w.heap.size + 1 := by rw [hwb]; simp
  have kr := rightRow_any k v t wb hk
  have HBX := Lib.hid hbx; clear hbx
  have HBB := Lib.hid hbb; clear hbb
  have HBS := Lib.hid hbs; clear hbs
  cases ho : (isKey k && isVal v && isTm t)
  · rw [ho] at kr
    clear ho
    go_enter Try.func68, Try.ntmps68
    go_wp2_with fail
    rw [← hwb]
    clear hwb
    refine kr.mono ?_
    rintro e w1 ⟨rfl, hb1⟩
    have HB1 := Lib.hid (HBB.out.trans (hb1.mono HBB.out.size)); clear hb1
    go_wp2_with fail
    go_ret2
    exact ⟨HB1.out, .inl ⟨rfl, rfl⟩⟩
  · rw [ho] at kr
    simp only [Bool.and_eq_true] at ho
    obtain ⟨⟨h1, h2⟩, h3⟩ := ho
    obtain ⟨hk1, hk2⟩ := (isKey_iff k).1 h1
    have hv1 := (isVal_iff v).1 h2
    obtain ⟨n, rfl⟩ := Int.eq_ofNat_of_zero_le ((isTm_iff t).1 h3).1
    have hn := ((isTm_iff n).1 h3).2
    have hu1 := uvar_len10 (n := k.length) (by omega)
    have hu2 := uvar_len10 (n := v.length) (by omega)
    clear h1 h2 h3
    go_enter Try.func68, Try.ntmps68
    go_wp2_with fail
    rw [← hwb]
    clear hwb
    refine kr.mono ?_
    rintro e w1 ⟨rfl, hb1⟩
    have HBX1 := Lib.hid (heap_below HBX.out hb1)
    have HB1 := Lib.hid (HBB.out.trans (hb1.mono HBB.out.size)); clear hb1
    clear kr
    have hbl : Below w1.heap.size w1 (w1.alloc (.cells #[.int .u8 82] 5)) := (Below.refl _ _).alloc (Nat.le_refl _) _
    have HBX2 := Lib.hid (heap_below HBX1.out hbl)
    have HB2 := Lib.hid (HB1.out.trans (hbl.mono HB1.out.size))
    have HL := Lib.hid (Own.rd (lit_own w1 82)); clear hbl
    have d1 := box_cells HBX2.out 0 (.string (bs k)) rfl
    go_wp2_with fail
    refine (fput_text _ [82] k _ HL.out (by simp; omega)).mono ?_
    rintro e w2 ⟨v2, rfl, ho, hb⟩
    obtain ⟨L2, hL2⟩ : ∃ L, L = [82] ++ uvar k.length ++ k := ⟨_, rfl⟩
    rw [← hL2] at ho
    have hl2 : L2.length ≤ 100 := by rw [hL2]; simp; omega
    have HL2 := Lib.hid hL2; clear hL2
    have HO2 := Lib.hid ho.rd
    have HBX3 := Lib.hid (heap_below HBX2.out hb)
    have HB3 := Lib.hid (HB2.out.trans (hb.mono HB2.out.size)); clear ho hb
    have d2 := box_cells HBX3.out 1 (.string (bs v)) rfl
    obtain ⟨A2, c2, rfl, _, _, _⟩ := id HO2.out
    go_wp2_with fail
    refine (fput_text _ L2 v _ HO2.out (by omega)).mono ?_
    rintro e w3 ⟨v3, rfl, ho, hb⟩
    obtain ⟨L3, hL3⟩ : ∃ L, L = L2 ++ uvar v.length ++ v := ⟨_, rfl⟩
    rw [← hL3] at ho
    have hl3 : L3.length ≤ 200 := by rw [hL3]; simp; omega
    have HL3 := Lib.hid hL3; clear hL3
    have HO3 := Lib.hid ho.rd
    have HBX4 := Lib.hid (heap_below HBX3.out hb)
    have HB4 := Lib.hid (HB3.out.trans (hb.mono HB3.out.size)); clear ho hb
    have d3 := box_cells HBX4.out 2 (.int .i64 n) rfl
    obtain ⟨A3, c3, rfl, _, _, _⟩ := id HO3.out
    go_wp2_with fail
    refine (fput_num _ L3 n _ HO3.out (by omega) (by omega)).mono ?_
    rintro e w4 ⟨v4, rfl, ho, hb⟩
    have HO4 := Lib.hid (Own.base ho HB4.out.size)
    have HB5 := Lib.hid (HB4.out.trans (hb.mono HB4.out.size)); clear ho hb
    go_wp2_with fail
    go_ret2
    refine ⟨HB5.out, .inr ⟨rfl, v4, rfl, ?_⟩⟩
    have := HO4.out
    rw [HL3.out, HL2.out] at this
    simpa [encRow, txt, List.append_assoc] using this

set_option maxRecDepth 100000 in
set_option maxHeartbeats 1000000 in
theorem refPutGone_any (k : List UInt8) (t : Int) (w : World) (hk : k.length ≤ 140737488355328) :
    Calls Try.prog 70 #[.agg #[.string (bs k), .int .i64 t]] w (PutA w (isKey k && isTm t) (encGone k t.toNat)) := by
  obtain ⟨wb, hwb⟩ : ∃ wb, wb = w.alloc (.cells #[.string (bs k), .int .i64 t] 85) := ⟨_, rfl⟩
  have hbb : Below w.heap.size w wb := by rw [hwb]; exact (Below.refl _ _).alloc (Nat.le_refl _) _
  have hbx : wb.heap[w.heap.size]? = some (.cells #[.string (bs k), .int .i64 t] 85 (0, 0)) := by rw [hwb]; exact heap_alloc_new w _
  have kr := rightGone_any k t wb hk
  have HBX := Lib.hid hbx; clear hbx
  have HBB := Lib.hid hbb; clear hbb
  cases ho : (isKey k && isTm t)
  · rw [ho] at kr
    clear ho
    go_enter Try.func70, Try.ntmps70
    go_wp2_with fail
    rw [← hwb]
    clear hwb
    refine kr.mono ?_
    rintro e w1 ⟨rfl, hb1⟩
    have HB1 := Lib.hid (HBB.out.trans (hb1.mono HBB.out.size)); clear hb1
    go_wp2_with fail
    go_ret2
    exact ⟨HB1.out, .inl ⟨rfl, rfl⟩⟩
  · rw [ho] at kr
    simp only [Bool.and_eq_true] at ho
    obtain ⟨h1, h3⟩ := ho
    obtain ⟨hk1, hk2⟩ := (isKey_iff k).1 h1
    obtain ⟨n, rfl⟩ := Int.eq_ofNat_of_zero_le ((isTm_iff t).1 h3).1
    have hn := ((isTm_iff n).1 h3).2
    have hu1 := uvar_len10 (n := k.length) (by omega)
    clear h1 h3
    go_enter Try.func70, Try.ntmps70
    go_wp2_with fail
    rw [← hwb]
    clear hwb
    refine kr.mono ?_
    rintro e w1 ⟨rfl, hb1⟩
    have HBX1 := Lib.hid (heap_below HBX.out hb1)
    have HB1 := Lib.hid (HBB.out.trans (hb1.mono HBB.out.size)); clear hb1
    clear kr
    have hbl : Below w1.heap.size w1 (w1.alloc (.cells #[.int .u8 71] 5)) := (Below.refl _ _).alloc (Nat.le_refl _) _
    have HBX2 := Lib.hid (heap_below HBX1.out hbl)
    have HB2 := Lib.hid (HB1.out.trans (hbl.mono HB1.out.size))
    have HL := Lib.hid (Own.rd (lit_own w1 71)); clear hbl
    have d1 := box_cells HBX2.out 0 (.string (bs k)) rfl
    go_wp2_with fail
    refine (fput_text _ [71] k _ HL.out (by simp; omega)).mono ?_
    rintro e w2 ⟨v2, rfl, ho, hb⟩
    obtain ⟨L2, hL2⟩ : ∃ L, L = [71] ++ uvar k.length ++ k := ⟨_, rfl⟩
    rw [← hL2] at ho
    have hl2 : L2.length ≤ 100 := by rw [hL2]; simp; omega
    have HL2 := Lib.hid hL2; clear hL2
    have HO2 := Lib.hid ho.rd
    have HBX3 := Lib.hid (heap_below HBX2.out hb)
    have HB3 := Lib.hid (HB2.out.trans (hb.mono HB2.out.size)); clear ho hb
    have d2 := box_cells HBX3.out 1 (.int .i64 n) rfl
    obtain ⟨A2, c2, rfl, _, _, _⟩ := id HO2.out
    go_wp2_with fail
    refine (fput_num _ L2 n _ HO2.out (by omega) (by omega)).mono ?_
    rintro e w4 ⟨v4, rfl, ho, hb⟩
    have HO4 := Lib.hid (Own.base ho HB3.out.size)
    have HB5 := Lib.hid (HB3.out.trans (hb.mono HB3.out.size)); clear ho hb
    go_wp2_with fail
    go_ret2
    refine ⟨HB5.out, .inr ⟨rfl, v4, rfl, ?_⟩⟩
    have := HO4.out
    rw [HL2.out] at this
    simpa [encGone, txt, List.append_assoc] using this
end Go.Proofs.Ytggjipfdfpdecaa
