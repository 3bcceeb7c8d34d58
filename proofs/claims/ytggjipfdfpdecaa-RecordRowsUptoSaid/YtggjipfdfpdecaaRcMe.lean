/- The walks of record's rightManifest. -/
import Derived.Test.YtggjipfdfpdecaaRcMd
import Derived.Carry
set_option linter.unusedVariables false
namespace Go.Proofs.Ytggjipfdfpdecaa
open Go.RowKit Go.Maps
attribute [local go_sem] bs_list bs_size

/-- The numbers of the first k pairs, the last ahead. -/
def seenL (ps : List Pai) (k : Nat) : List Int := ((ps.take k).map Pai.num).reverse
theorem seenL_len (ps : List Pai) (k : Nat) : (seenL ps k).length ≤ ps.length := by unfold seenL; simp; omega
theorem seenL_succ (ps : List Pai) (k : Nat) (hk : k < ps.length) : seenL ps (k + 1) = ps[k].num :: seenL ps k := by
  unfold seenL
  rw [List.take_succ_eq_append_getElem hk, List.map_append, List.reverse_append]
  rfl
theorem pOk_seenL (ps : List Pai) (k : Nat) (hk : k < ps.length) : pOk (seenL ps k) (atOf ps k) ps[k] = pAt ps k := by
  rw [pAt_eq ps k hk]
  unfold pOk seenL
  rw [show ((ps.take k).map Pai.num).reverse.contains ps[k].num = ((ps.take k).map Pai.num).contains ps[k].num from by
    rw [Bool.eq_iff_iff]
    simp]

set_option maxRecDepth 100000 in
set_option maxHeartbeats 2000000 in
theorem allP_any (S C B : Nat) (v : Value) (ps : List Pai) (we w : World) (hs : Seen w S C B [] 0) (hb : Below we.heap.size we w) (hr : Rd3 we v (ps.map pV)) (hbB : we.heap.size ≤ B) (hbC : we.heap.size ≤ C) (hl : ps.length < 1048576) (hwf : ∀ p ∈ ps, (Lit.int .i64 p.num).wf = true) :
    Calls Try.prog 127 #[v, .func (.func 128) #[] #[.pointer (some ⟨S, 0, none⟩), .pointer (some ⟨C, 0, none⟩)]] w fun e w' => e = .returned (.bool (psOk ps)) ∧ (psOk ps = true → Seen w' S C B (seenL ps ps.length) (atOf ps ps.length)) ∧ Below we.heap.size we w' := by
  obtain ⟨A, c, rfl, hc1, hc2, _⟩ := id hr
  rw [List.length_map] at hc1 ⊢
  rw [List.length_map] at hr
  have HS := Lib.hid hs; clear hs
  have HR := Lib.hid hr; clear hr
  have HB := Lib.hid hb; clear hb
  have HWF := Lib.hid hwf; clear hwf
  go_enter Try.func127, Try.ntmps127
  go_wp2_with fail
  go_loopw [9] (fun v9 wr => ∃ k : Nat, k ≤ ps.length ∧ v9 = .int .i64 (k : Int) ∧ Hid (∀ j, j < k → pAt ps j = true) ∧ Seen wr S C B (seenL ps k) (atOf ps k) ∧ Below we.heap.size we wr) (fun v9 _ => ps.length - (intOf v9).toNat)
  case atStart => exact ⟨0, by omega, rfl, Lib.hid (fun j h => by omega), HS.out, HB.out⟩
  case round =>
    obtain ⟨k, hk, rfl, HJ, hsk, hbk⟩ := hrel
    have HSK := Lib.hid hsk; clear hsk
    have HBK := Lib.hid hbk; clear hbk
    by_cases hlt : k < ps.length
    · obtain ⟨ad, c', he, _, _, hp0, hp1, hp2⟩ := (HR.out.below HBK.out).elem (j := k) (by rw [List.length_map]; exact hlt)
      rw [List.length_map] at he
      injection he with e1 e2 e3
      subst e1
      rw [List.getElem_map] at hp0 hp1 hp2
      obtain ⟨x, hx⟩ : ∃ x, x = ps[k] := ⟨_, rfl⟩
      rw [← hx] at hp0 hp1 hp2
      simp only [pV] at hp0 hp1 hp2
      clear e2 e3
      have t1 : decide ((k : Int) < (ps.length : Int)) = true := by simp; omega
      obtain ⟨w0, hw0⟩ : ∃ w0, w0 = wr.alloc (.cells #[.int .i64 x.num, .int .i64 x.from_, .int .i64 x.to_] 79) := ⟨_, rfl⟩
      have hb0 : Below wr.heap.size wr w0 := by rw [hw0]; exact (Below.refl _ _).alloc (Nat.le_refl _) _
      have HB0 := Lib.hid (HBK.out.trans (hb0.mono HBK.out.size))
      have hc := rm1_any S C B we.heap.size (k : Int) x (seenL ps k) (atOf ps k) w0 (HSK.out.below hb0) (by rw [hx]; exact HWF.out _ (List.getElem_mem hlt)) hbB hbC HB0.out.size (by have := seenL_len ps k; omega)
      rw [hx, pOk_seenL ps k hlt, ← hx] at hc
      have HX := Lib.hid hx
      have hsu := seenL_succ ps k hlt
      have hau := atOf_succ ps k hlt
      rw [← hx] at hsu hau
      have HSU := Lib.hid hsu
      have HAU := Lib.hid hau
      clear hx hsu hau hb0
      have HCA := Lib.hid hc; clear hc
      go_upto_region 4 with fail
      rw [← hw0]
      have HW0 := Lib.hid hw0; clear hw0
      have x0 : w0.heap[wr.heap.size]? = some (.cells #[.int .i64 x.num, .int .i64 x.from_, .int .i64 x.to_] 79 (0, 0)) := by rw [HW0.out]; exact heap_alloc_new wr _
      have y0 := box_cells x0 0 (.int .i64 x.num) rfl
      have y1 := box_cells x0 1 (.int .i64 x.from_) rfl
      have y2 := box_cells x0 2 (.int .i64 x.to_) rfl
      clear x0
      go_wp2_with fail
      refine HCA.out.mono ?_
      rintro e w1 ⟨rfl, hs1, hb1⟩
      have HB1 := Lib.hid (HB0.out.trans hb1); clear hb1
      have HS1 := Lib.hid hs1; clear hs1
      cases hwk : pAt ps k with
      | true =>
        have HWK := Lib.hid hwk; clear hwk
        go_wp2_with fail
        go_roundw
        case rel => exact ⟨k + 1, by omega, by go_num, Lib.hid (fun j hj => by
          rcases Nat.lt_or_ge j k with h | h
          · exact HJ.out j h
          · rw [show j = k from by omega]; exact HWK.out), by rw [HSU.out, HAU.out]; exact HS1.out, HB1.out⟩
        case measure => simp [intOf]; omega
      | false =>
        have hno := psOk_no hlt hwk
        have HNO := Lib.hid hno; clear hno hwk
        go_wp2_with fail
        go_ret
        exact ⟨ret_bool HNO.out.symm, (fun h => by rw [HNO.out] at h; cases h), HB1.out⟩
    · have t1 : decide ((k : Int) < (ps.length : Int)) = false := by simp; omega
      have hok : psOk ps = true := (psOk_iff ps).2 (fun j hj => HJ.out j (by omega))
      have HOK := Lib.hid hok; clear hok
      have hkk : k = ps.length := by omega
      have HKK := Lib.hid hkk; clear hkk
      go_wp2_with fail
      go_ret
      exact ⟨ret_bool HOK.out.symm, (fun _ => by rw [← HKK.out]; exact HSK.out), HBK.out⟩

set_option maxRecDepth 100000 in
set_option maxHeartbeats 2000000 in
theorem rightMan_any (t lo : Int) (v : Value) (ps : List Pai) (w : World) (hr : Rd3 w v (ps.map pV)) (hwf : ∀ p ∈ ps, (Lit.int .i64 p.num).wf = true) :
    Calls Try.prog 107 #[.agg #[.int .i64 t, .int .i64 lo, v]] w fun e w' => e = .returned (.bool (manOk t lo ps)) ∧ Below w.heap.size w w' := by
  obtain ⟨A, c, rfl, _, _, _⟩ := id hr
  rw [List.length_map] at hr ⊢
  obtain ⟨H, hH⟩ : ∃ H, H = w.heap.size := ⟨_, rfl⟩
  have HR := Lib.hid hr
  have HWF := Lib.hid hwf
  have hmm := @run_makeMap Try.prog
  obtain ⟨w1, hw1⟩ : ∃ w1, w1 = w.alloc (.cells #[.int .i64 t, .int .i64 lo, .slice A ps.length c] 74) := ⟨_, rfl⟩
  obtain ⟨w2, hw2⟩ : ∃ w2, w2 = w1.alloc (.cells #[.int .i64 0] 2) := ⟨_, rfl⟩
  obtain ⟨w3, hw3⟩ : ∃ w3, w3 = w2.alloc (.map #[] 0) := ⟨_, rfl⟩
  obtain ⟨w4, hw4⟩ : ∃ w4, w4 = w3.alloc (.cells #[.map (some (H + 2))] 152) := ⟨_, rfl⟩
  have z1 : w1.heap.size = H + 1 := by rw [hw1, hH]; simp
  have z2 : w2.heap.size = H + 2 := by rw [hw2]; simp [z1]
  have z3 : w3.heap.size = H + 3 := by rw [hw3]; simp [z2]
  have b1 : Below w.heap.size w w1 := by rw [hw1]; exact (Below.refl _ _).alloc (Nat.le_refl _) _
  have b2 : Below w1.heap.size w1 w2 := by rw [hw2]; exact (Below.refl _ _).alloc (Nat.le_refl _) _
  have b3 : Below w2.heap.size w2 w3 := by rw [hw3]; exact (Below.refl _ _).alloc (Nat.le_refl _) _
  have b4 : Below w3.heap.size w3 w4 := by rw [hw4]; exact (Below.refl _ _).alloc (Nat.le_refl _) _
  have hx4 : w4.heap[H]? = some (.cells #[.int .i64 t, .int .i64 lo, .slice A ps.length c] 74 (0, 0)) := by
    refine heap_below (heap_below (heap_below ?_ b2) b3) b4
    rw [hw1, hH]; exact heap_alloc_new w _
  have hc4 : w4.heap[H + 1]? = some (.cells #[.int .i64 0] 2 (0, 0)) := by
    refine heap_below (heap_below ?_ b3) b4
    rw [hw2, ← z1]; exact heap_alloc_new w1 _
  have hm4 : w4.ownsMap Try.prog 3 (plainElem (H := Unit) Try.prog 3) (H + 2) 0 (.map []) := by
    refine own_map_below ?_ b4
    rw [hw3, ← z2]; exact World.ownsMap_made _ _ _ _
  have hs4 : w4.heap[H + 3]? = some (.cells #[.map (some (H + 2))] 152 (0, 0)) := by
    rw [hw4, ← z3]; exact heap_alloc_new w3 _
  have hb4 : Below w.heap.size w w4 := ((b1.trans (b2.mono (by omega))).trans (b3.mono (by omega))).trans (b4.mono (by omega))
  have hx1 : w1.heap[H]? = some (.cells #[.int .i64 t, .int .i64 lo, .slice A ps.length c] 74 (0, 0)) := by rw [hw1, hH]; exact heap_alloc_new w _
  have HX1 := Lib.hid hx1
  have HB1 := Lib.hid b1
  have HZ1 := Lib.hid z1
  have HB14 := Lib.hid ((b2.trans (b3.mono (by omega))).trans (b4.mono (by omega)))
  have k1 := isTime_any t w4
  have k2 := isNumber_any lo w4
  have HK1 := Lib.hid k1
  have HK2 := Lib.hid k2
  have HB4 := Lib.hid hb4
  have HX4 := Lib.hid hx4
  have HS4 := Lib.hid (⟨hs4, hc4, hm4⟩ : Seen w4 (H + 3) (H + 1) (H + 2) [] 0)
  have x0 := box_cells hx4 0 (.int .i64 t) rfl
  have x1 := box_cells hx4 1 (.int .i64 lo) rfl
  have x2 := box_cells hx4 2 (.slice A ps.length c) rfl
  clear hr hwf b1 b2 b3 b4 z1 z2 z3 hx1 hx4 hc4 hm4 hs4 hb4 k1 k2
  go_enter Try.func107, Try.ntmps107
  go_upto_region 3 with fail
  rw [← hH]
  simp only [show H + 1 + 1 = H + 2 from rfl, show H + 2 + 1 = H + 3 from rfl]
  rw [← hw1, ← hw2, ← hw3, ← hw4]
  clear hw1 hw2 hw3 hw4 hmm
  have HH := Lib.hid hH; clear hH
  go_wp2_with fail
  refine HK1.out.mono ?_
  rintro e w5 ⟨rfl, rfl⟩
  cases h1 : isTm t with
  | false =>
    have hf : manOk t lo ps = false := by unfold manOk; rw [h1]; rfl
    have HF := Lib.hid hf; clear hf h1
    go_wp2_with fail
    go_ret
    exact ⟨ret_bool HF.out.symm, HB4.out⟩
  | true =>
    have H1 := Lib.hid h1; clear h1
    go_wp2_with fail
    refine HK2.out.mono ?_
    rintro e w6 ⟨rfl, rfl⟩
    cases h2 : isNo lo with
    | false =>
      have hf : manOk t lo ps = false := by unfold manOk; rw [H1.out, h2]; rfl
      have HF := Lib.hid hf; clear hf h2
      go_wp2_with fail
      go_ret
      exact ⟨ret_bool HF.out.symm, HB4.out⟩
    | true =>
      have H2 := Lib.hid h2; clear h2
      by_cases h3 : ps.length ≤ 16
      · have t2 : decide ((ps.length : Int) ≤ 16) = true := by simp; omega
        have k3 := allP_any (H + 3) (H + 1) (H + 2) (.slice A ps.length c) ps w1 w4 HS4.out HB14.out (HR.out.below HB1.out) (by rw [HZ1.out]; omega) (by rw [HZ1.out]; omega) (by omega) HWF.out
        have HK3 := Lib.hid k3; clear k3
        go_wp2_with fail
        refine HK3.out.mono ?_
        rintro e w7 ⟨rfl, hs7, hb7⟩
        have HS7 := Lib.hid hs7
        have HB7 := Lib.hid (HB1.out.trans (hb7.mono (by rw [HZ1.out]; have := HH.out; omega)))
        have hx7 : w7.heap[H]? = some (.cells #[.int .i64 t, .int .i64 lo, .slice A ps.length c] 74 (0, 0)) := heap_below HX1.out hb7
        clear hs7 hb7
        cases h4 : psOk ps with
        | false =>
          have hf : manOk t lo ps = false := by unfold manOk; rw [h4]; simp
          have HF := Lib.hid hf; clear hf h4
          go_wp2_with fail
          go_ret
          exact ⟨ret_bool HF.out.symm, HB7.out⟩
        | true =>
          have hs7 := HS7.out h4
          have hf : manOk t lo ps = (atOf ps ps.length == t) := by unfold manOk; rw [H1.out, H2.out, h4, decide_eq_true h3]; simp
          have HF := Lib.hid hf; clear hf h4
          have c7 := box_cells hs7.2.1 0 (.int .i64 (atOf ps ps.length)) rfl
          have x7 := box_cells hx7 0 (.int .i64 t) rfl
          clear hs7
          go_wp2_with fail
          go_ret
          exact ⟨ret_bool HF.out.symm, HB7.out⟩
      · have hf : manOk t lo ps = false := by unfold manOk; rw [decide_eq_false h3]; simp
        have HF := Lib.hid hf; clear hf
        have t2 : decide ((ps.length : Int) ≤ 16) = false := by simp; omega
        go_wp2_with fail
        go_ret
        exact ⟨ret_bool HF.out.symm, HB4.out⟩
end Go.Proofs.Ytggjipfdfpdecaa
