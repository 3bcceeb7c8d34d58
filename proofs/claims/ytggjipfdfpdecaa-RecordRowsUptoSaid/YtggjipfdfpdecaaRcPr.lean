/- The walks of PutRow and PutGone, of record and of the document. -/
import Derived.Test.YtggjipfdfpdecaaRcW
import Derived.Test.YtggjipfdfpdecaaRPut
import Derived.Test.YtggjipfdfpdecaaRcE
set_option linter.unusedVariables false
namespace Go.Proofs.Ytggjipfdfpdecaa
open Go.RowKit
attribute [local go_sem] bs_list bs_size

/-- What a writing answers. -/
def PutA (w : World) (ok : Bool) (l : List UInt8) (e : Ending) (w' : World) : Prop :=
  Below w.heap.size w w' ∧ ((ok = false ∧ e = .returned (.tuple #[.slice none 0 0, .int .i64 60])) ∨ (ok = true ∧ ∃ v, e = .returned (.tuple #[v, .int .i64 0]) ∧ Own w' w.heap.size v l))

def rowV (k v : List UInt8) (t : Int) : Array Value := #[.string (bs k), .string (bs v), .int .i64 t]
theorem start_wr (w : World) (H base : Nat) (hH : w.heap.size = H) (x : UInt8) (hb : base ≤ H) : WrSt ((w.alloc (.cells #[.int .u8 (x.toNat : Int)] 5)).alloc (.cells #[.slice (some ⟨H, 0, none⟩) 1 1] 106)) base (H + 1) [x] := by
  subst hH
  refine ⟨_, by have := heap_alloc_new (w.alloc (.cells #[.int .u8 (x.toNat : Int)] 5)) (.cells #[.slice (some ⟨w.heap.size, 0, none⟩) 1 1] 106); simpa using this, ?_⟩
  have h0 : Own (w.alloc (.cells #[.int .u8 (x.toNat : Int)] 5)) w.heap.size (.slice (some ⟨w.heap.size, 0, none⟩) 1 1) [x] := by
    refine ⟨rfl, .inr ⟨w.heap.size, 1, #[.int .u8 (x.toNat : Int)], rfl, Nat.le_refl _, heap_alloc_new w _, Nat.le_refl _, by simp [maxLen], rfl, rfl⟩⟩
  exact Own.base (h0.alloc _) hb
theorem box_cells {w : World} {g : Nat} {cs : Array Value} {t : TypeId} (h : w.heap[g]? = some (.cells cs t (0, 0))) (i : Nat) (u : Value) (hu : cs[i]? = some u) : w.cell? ⟨g, i, none⟩ = some u := by rw [cell_of_row w g i cs t (0, 0) h]; exact hu
theorem WrSt.open_ {w : World} {base g : Nat} {l : List UInt8} (h : WrSt w base g l) : ∃ v, w.cell? ⟨g, 0, none⟩ = some v ∧ Own w base v l := by
  obtain ⟨v, hg, ho⟩ := h
  exact ⟨v, WrSt.cell hg, ho⟩
theorem Wr.of_alloc {base g : Nat} {w w' : World} (h : Wr base g w w') (o : Obj) : Wr base g w (w'.alloc o) := h.trans (Wr.of_below ((Below.refl _ _).alloc (Nat.le_refl _) o))

set_option maxRecDepth 100000 in
set_option maxHeartbeats 1000000 in
theorem putRow_any (k v : List UInt8) (t : Int) (w : World) (hk : k.length ≤ 140737488355328) :
    Calls Try.prog 67 #[.agg #[.string (bs k), .string (bs v), .int .i64 t]] w (PutA w (isKey k && isVal v && isTm t) (encRow k v t.toNat)) := by
  by_cases h1 : isKey k = true
  · skip
    by_cases h2 : isVal v = true
    ·
      by_cases h3 : isTm t = true
      ·
        rw [h1, h2, h3]
        obtain ⟨hk1, hk2⟩ := (isKey_iff k).1 h1
        have hv1 := (isVal_iff v).1 h2
        obtain ⟨n, rfl⟩ := Int.eq_ofNat_of_zero_le ((isTm_iff t).1 h3).1
        have hn := ((isTm_iff n).1 h3).2
        have hu1 := uvar_len10 (n := k.length) (by omega)
        have hu2 := uvar_len10 (n := v.length) (by omega)
        have k1 := (isKey_any k (w.alloc (.cells #[.string (bs k), .string (bs v), .int .i64 n] 81)) hk)
        rw [h1] at k1
        have k2 := (isVal_any v (w.alloc (.cells #[.string (bs k), .string (bs v), .int .i64 n] 81)))
        rw [h2] at k2
        have k3 := (isTime_any n  (w.alloc (.cells #[.string (bs k), .string (bs v), .int .i64 n] 81)))
        rw [h3] at k3
        clear h1 h2 h3
        go_enter Try.func67, Try.ntmps67
        go_wp2_with fail
        refine k1.mono ?_
        rintro e w' ⟨rfl, rfl⟩
        go_wp2_with fail
        refine k2.mono ?_
        rintro e w' ⟨rfl, rfl⟩
        go_wp2_with fail
        refine k3.mono ?_
        rintro e w' ⟨rfl, rfl⟩
        go_wp2_with fail
        obtain ⟨wb, hwb⟩ : ∃ wb, wb = w.alloc (.cells #[.string (bs k), .string (bs v), .int .i64 n] 81) := ⟨_, rfl⟩
        have hbb : Below w.heap.size w wb := by rw [hwb]; exact (Below.refl _ _).alloc (Nat.le_refl _) _
        have hbx : wb.heap[w.heap.size]? = some (.cells #[.string (bs k), .string (bs v), .int .i64 n] 81 (0, 0)) := by rw [hwb]; exact heap_alloc_new w _
        have hbs : wb.heap.size = w.heap.size + 1 := by rw [hwb]; simp
        have hs0 := start_wr wb (w.heap.size + 1) w.heap.size hbs 82 (by omega)
        rw [← hwb]
        clear hwb
        obtain ⟨W0, hW0⟩ : ∃ W0, W0 = (wb.alloc (.cells #[.int .u8 (((82 : UInt8).toNat : Nat) : Int)] 5)).alloc (.cells #[.slice (some ⟨w.heap.size + 1, 0, none⟩) 1 1] 106) := ⟨_, rfl⟩
        rw [← hW0] at hs0
        have hb0 : Below w.heap.size w W0 := by rw [hW0]; exact (hbb.alloc hbb.size _).alloc (by simp; omega) _
        have hbx0 : W0.heap[w.heap.size]? = some (.cells #[.string (bs k), .string (bs v), .int .i64 n] 81 (0, 0)) := by
          rw [hW0]
          exact heap_below (heap_below hbx ((Below.refl _ _).alloc (Nat.le_refl _) _)) ((Below.refl _ _).alloc (Nat.le_refl _) _)
        change Calls Try.prog _ _ (World.alloc (World.alloc wb (.cells #[.int .u8 (((82 : UInt8).toNat : Nat) : Int)] 5)) _) _
        rw [← hW0]
        have HBX0 := Lib.hid hbx0; clear hbx0
        have HS0 := Lib.hid hs0; clear hs0
        have HB0 := Lib.hid hb0; clear hb0 hW0 hbb hbx hbs
        refine (wtext_any w.heap.size (w.heap.size + 1 + 1) [82] k W0 HS0.out (by simp; omega) HB0.out.size).mono ?_
        rintro e W1 ⟨rfl, hs, hw⟩
        have HBX1 := Lib.hid (hw.cell HBX0.out (by decide) (by omega))
        have HB1 := Lib.hid (HB0.out.trans (hw.below (by omega) HB0.out.size))
        have HS1 := Lib.hid hs; clear hs hw
        have c1 := box_cells HBX1.out 1 _ rfl
        go_wp2_with fail
        refine (wtext_any w.heap.size (w.heap.size + 1 + 1) _ v W1 HS1.out (by simp; omega) HB1.out.size).mono ?_
        rintro e W2 ⟨rfl, hs, hw⟩
        have HBX2 := Lib.hid (hw.cell HBX1.out (by decide) (by omega))
        have HB2 := Lib.hid (HB1.out.trans (hw.below (by omega) HB1.out.size))
        have HS2 := Lib.hid hs; clear hs hw
        have c2 := box_cells HBX2.out 2 _ rfl
        go_wp2_with fail
        refine (wnum_any w.heap.size (w.heap.size + 1 + 1) _ n W2 HS2.out (by omega) (by simp; omega) HB2.out.size).mono ?_
        rintro e W3 ⟨rfl, hs, hw⟩
        have HBX3 := Lib.hid (hw.cell HBX2.out (by decide) (by omega))
        have HB3 := Lib.hid (HB2.out.trans (hw.below (by omega) HB2.out.size))
        have HS3 := Lib.hid hs; clear hs hw
        obtain ⟨vv, hcv, hov⟩ := HS3.out.open_
        have HOV := Lib.hid hov; clear hov
        go_wp2_with fail
        go_ret2
        refine ⟨HB3.out, .inr ⟨rfl, vv, rfl, ?_⟩⟩
        have := HOV.out
        simpa [encRow, txt, List.append_assoc] using this
      · have hf : (isKey k && isVal v && isTm t) = false := by simp [h1, h2, h3]
        rw [hf]
        have h3' := bool_no h3
        have k1 := (isKey_any k (w.alloc (.cells #[.string (bs k), .string (bs v), .int .i64 t] 81)) hk)
        rw [h1] at k1
        have k2 := (isVal_any v (w.alloc (.cells #[.string (bs k), .string (bs v), .int .i64 t] 81)))
        rw [h2] at k2
        have k3 := (isTime_any t  (w.alloc (.cells #[.string (bs k), .string (bs v), .int .i64 t] 81)))
        rw [h3'] at k3
        clear hf h1 h2 h3 h3'
        go_enter Try.func67, Try.ntmps67
        go_wp2_with fail
        refine k1.mono ?_
        rintro e w' ⟨rfl, rfl⟩
        go_wp2_with fail
        refine k2.mono ?_
        rintro e w' ⟨rfl, rfl⟩
        go_wp2_with fail
        refine k3.mono ?_
        rintro e w' ⟨rfl, rfl⟩
        go_wp2_with fail
        go_ret2
        exact ⟨(Below.refl _ _).alloc (Nat.le_refl _) _, .inl ⟨rfl, rfl⟩⟩
    · have hf : (isKey k && isVal v && isTm t) = false := by simp [h1, h2]
      rw [hf]
      have h2' := bool_no h2
      have k1 := (isKey_any k (w.alloc (.cells #[.string (bs k), .string (bs v), .int .i64 t] 81)) hk)
      rw [h1] at k1
      have k2 := (isVal_any v (w.alloc (.cells #[.string (bs k), .string (bs v), .int .i64 t] 81)))
      rw [h2'] at k2
      clear hf h1 h2 h2'
      go_enter Try.func67, Try.ntmps67
      go_wp2_with fail
      refine k1.mono ?_
      rintro e w' ⟨rfl, rfl⟩
      go_wp2_with fail
      refine k2.mono ?_
      rintro e w' ⟨rfl, rfl⟩
      go_wp2_with fail
      go_ret2
      exact ⟨(Below.refl _ _).alloc (Nat.le_refl _) _, .inl ⟨rfl, rfl⟩⟩
  · have hf : (isKey k && isVal v && isTm t) = false := by simp [h1]
    rw [hf]
    have h1' := bool_no h1
    have k1 := (isKey_any k (w.alloc (.cells #[.string (bs k), .string (bs v), .int .i64 t] 81)) hk)
    rw [h1'] at k1
    clear hf h1 h1'
    go_enter Try.func67, Try.ntmps67
    go_wp2_with fail
    refine k1.mono ?_
    rintro e w' ⟨rfl, rfl⟩
    go_wp2_with fail
    go_ret2
    exact ⟨(Below.refl _ _).alloc (Nat.le_refl _) _, .inl ⟨rfl, rfl⟩⟩

set_option maxRecDepth 100000 in
set_option maxHeartbeats 1000000 in
theorem putGone_any (k : List UInt8) (t : Int) (w : World) (hk : k.length ≤ 140737488355328) :
    Calls Try.prog 69 #[.agg #[.string (bs k), .int .i64 t]] w (PutA w (isKey k && isTm t) (encGone k t.toNat)) := by
  by_cases h1 : isKey k = true
  · skip
    by_cases h2 : isTm t = true
    ·
      rw [h1, h2]
      obtain ⟨hk1, hk2⟩ := (isKey_iff k).1 h1
      obtain ⟨n, rfl⟩ := Int.eq_ofNat_of_zero_le ((isTm_iff t).1 h2).1
      have hn := ((isTm_iff n).1 h2).2
      have hu1 := uvar_len10 (n := k.length) (by omega)
      have k1 := (isKey_any k (w.alloc (.cells #[.string (bs k), .int .i64 n] 85)) hk)
      rw [h1] at k1
      have k2 := (isTime_any n  (w.alloc (.cells #[.string (bs k), .int .i64 n] 85)))
      rw [h2] at k2
      clear h1 h2
      go_enter Try.func69, Try.ntmps69
      go_wp2_with fail
      refine k1.mono ?_
      rintro e w' ⟨rfl, rfl⟩
      go_wp2_with fail
      refine k2.mono ?_
      rintro e w' ⟨rfl, rfl⟩
      go_wp2_with fail
      obtain ⟨wb, hwb⟩ : ∃ wb, wb = w.alloc (.cells #[.string (bs k), .int .i64 n] 85) := ⟨_, rfl⟩
      have hbb : Below w.heap.size w wb := by rw [hwb]; exact (Below.refl _ _).alloc (Nat.le_refl _) _
      have hbx : wb.heap[w.heap.size]? = some (.cells #[.string (bs k), .int .i64 n] 85 (0, 0)) := by rw [hwb]; exact heap_alloc_new w _
      have hbs : wb.heap.size = w.heap.size + 1 := by rw [hwb]; simp
      have hs0 := start_wr wb (w.heap.size + 1) w.heap.size hbs 71 (by omega)
      rw [← hwb]
      clear hwb
      obtain ⟨W0, hW0⟩ : ∃ W0, W0 = (wb.alloc (.cells #[.int .u8 (((71 : UInt8).toNat : Nat) : Int)] 5)).alloc (.cells #[.slice (some ⟨w.heap.size + 1, 0, none⟩) 1 1] 106) := ⟨_, rfl⟩
      rw [← hW0] at hs0
      have hb0 : Below w.heap.size w W0 := by rw [hW0]; exact (hbb.alloc hbb.size _).alloc (by simp; omega) _
      have hbx0 : W0.heap[w.heap.size]? = some (.cells #[.string (bs k), .int .i64 n] 85 (0, 0)) := by
        rw [hW0]
        exact heap_below (heap_below hbx ((Below.refl _ _).alloc (Nat.le_refl _) _)) ((Below.refl _ _).alloc (Nat.le_refl _) _)
      change Calls Try.prog _ _ (World.alloc (World.alloc wb (.cells #[.int .u8 (((71 : UInt8).toNat : Nat) : Int)] 5)) _) _
      rw [← hW0]
      have HBX0 := Lib.hid hbx0; clear hbx0
      have HS0 := Lib.hid hs0; clear hs0
      have HB0 := Lib.hid hb0; clear hb0 hW0 hbb hbx hbs
      refine (wtext_any w.heap.size (w.heap.size + 1 + 1) [71] k W0 HS0.out (by simp; omega) HB0.out.size).mono ?_
      rintro e W1 ⟨rfl, hs, hw⟩
      have HBX1 := Lib.hid (hw.cell HBX0.out (by decide) (by omega))
      have HB1 := Lib.hid (HB0.out.trans (hw.below (by omega) HB0.out.size))
      have HS1 := Lib.hid hs; clear hs hw
      have c1 := box_cells HBX1.out 1 _ rfl
      go_wp2_with fail
      refine (wnum_any w.heap.size (w.heap.size + 1 + 1) _ n W1 HS1.out (by omega) (by simp; omega) HB1.out.size).mono ?_
      rintro e W2 ⟨rfl, hs, hw⟩
      have HBX2 := Lib.hid (hw.cell HBX1.out (by decide) (by omega))
      have HB2 := Lib.hid (HB1.out.trans (hw.below (by omega) HB1.out.size))
      have HS2 := Lib.hid hs; clear hs hw
      obtain ⟨vv, hcv, hov⟩ := HS2.out.open_
      have HOV := Lib.hid hov; clear hov
      go_wp2_with fail
      go_ret2
      refine ⟨HB2.out, .inr ⟨rfl, vv, rfl, ?_⟩⟩
      have := HOV.out
      simpa [encGone, txt, List.append_assoc] using this
    · have hf : (isKey k && isTm t) = false := by simp [h1, h2]
      rw [hf]
      have h2' := bool_no h2
      have k1 := (isKey_any k (w.alloc (.cells #[.string (bs k), .int .i64 t] 85)) hk)
      rw [h1] at k1
      have k2 := (isTime_any t  (w.alloc (.cells #[.string (bs k), .int .i64 t] 85)))
      rw [h2'] at k2
      clear hf h1 h2 h2'
      go_enter Try.func69, Try.ntmps69
      go_wp2_with fail
      refine k1.mono ?_
      rintro e w' ⟨rfl, rfl⟩
      go_wp2_with fail
      refine k2.mono ?_
      rintro e w' ⟨rfl, rfl⟩
      go_wp2_with fail
      go_ret2
      exact ⟨(Below.refl _ _).alloc (Nat.le_refl _) _, .inl ⟨rfl, rfl⟩⟩
  · have hf : (isKey k && isTm t) = false := by simp [h1]
    rw [hf]
    have h1' := bool_no h1
    have k1 := (isKey_any k (w.alloc (.cells #[.string (bs k), .int .i64 t] 85)) hk)
    rw [h1'] at k1
    clear hf h1 h1'
    go_enter Try.func69, Try.ntmps69
    go_wp2_with fail
    refine k1.mono ?_
    rintro e w' ⟨rfl, rfl⟩
    go_wp2_with fail
    go_ret2
    exact ⟨(Below.refl _ _).alloc (Nat.le_refl _) _, .inl ⟨rfl, rfl⟩⟩

end Go.Proofs.Ytggjipfdfpdecaa
