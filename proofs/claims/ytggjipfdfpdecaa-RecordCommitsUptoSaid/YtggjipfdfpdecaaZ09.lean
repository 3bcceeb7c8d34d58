/- Texts merged: RcMe, RcCx, RcCy, RcMf. Each says below what it proves. -/
import Derived.Test.YtggjipfdfpdecaaZ08
import Derived.Carry
import Derived.Test.YtggjipfdfpdecaaZ06
/- The walks of record's rightManifest. -/
set_option linter.unusedVariables false
namespace Go.Proofs.Ytggjipfdfpdecaa
open Go.RowKit Go.Maps
attribute [local go_sem] bs_list bs_size

/-- The numbers of the first k pairs, the last ahead. -/
def seenL (ps : List Pai) (k : Nat) : List Int := ((ps.take k).map Pai.num).reverse
theorem seenL_len (ps : List Pai) (k : Nat) : (seenL ps k).length ≤ ps.length := by unfold seenL; simp; omega
theorem seenL_succ (ps : List Pai) (k : Nat) (hk : k < ps.length) : seenL ps (k + 1) = ps[k].num :: seenL ps k := by
  unfold seenL
  rw [List.take_succ_eq_append_getElem hk, List.map_append, List.reverse_append]
  rfl
theorem pOk_seenL (ps : List Pai) (k : Nat) (hk : k < ps.length) : pOk (seenL ps k) (atOf ps k) ps[k] = pAt ps k := by
  rw [pAt_eq ps k hk]
  unfold pOk seenL
  rw [show ((ps.take k).map Pai.num).reverse.contains ps[k].num = ((ps.take k).map Pai.num).contains ps[k].num from by
    rw [Bool.eq_iff_iff]
    simp]

set_option maxRecDepth 100000 in
set_option maxHeartbeats 2000000 in
theorem allP_any (S C B : Nat) (v : Value) (ps : List Pai) (we w : World) (hs : Seen w S C B [] 0) (hb : Below we.heap.size we w) (hr : Rd3 we v (ps.map pV)) (hbB : we.heap.size ≤ B) (hbC : we.heap.size ≤ C) (hl : ps.length < 1048576) (hwf : ∀ p ∈ ps, (Lit.int .i64 p.num).wf = true) :
    Calls Try.prog 127 #[v, .func (.func 128) #[] #[.pointer (some ⟨S, 0, none⟩), .pointer (some ⟨C, 0, none⟩)]] w fun e w' => e = .returned (.bool (psOk ps)) ∧ (psOk ps = true → Seen w' S C B (seenL ps ps.length) (atOf ps ps.length)) ∧ Below we.heap.size we w' := by
  obtain ⟨A, c, rfl, hc1, hc2, _⟩ := id hr
  rw [List.length_map] at hc1 ⊢
  rw [List.length_map] at hr
  have HS := Lib.hid hs; clear hs
  have HR := Lib.hid hr; clear hr
  have HB := Lib.hid hb; clear hb
  have HWF := Lib.hid hwf; clear hwf
  go_enter Try.func127, Try.ntmps127
  go_wp2_with fail
  go_loopw [9] (fun v9 wr => ∃ k : Nat, k ≤ ps.length ∧ v9 = .int .i64 (k : Int) ∧ Hid (∀ j, j < k → pAt ps j = true) ∧ Seen wr S C B (seenL ps k) (atOf ps k) ∧ Below we.heap.size we wr) (fun v9 _ => ps.length - (intOf v9).toNat)
  case atStart => exact ⟨0, by omega, rfl, Lib.hid (fun j h => by omega), HS.out, HB.out⟩
  case round =>
    obtain ⟨k, hk, rfl, HJ, hsk, hbk⟩ := hrel
    have HSK := Lib.hid hsk; clear hsk
    have HBK := Lib.hid hbk; clear hbk
    by_cases hlt : k < ps.length
    · obtain ⟨ad, c', he, _, _, hp0, hp1, hp2⟩ := (HR.out.below HBK.out).elem (j := k) (by rw [List.length_map]; exact hlt)
      rw [List.length_map] at he
      injection he with e1 e2 e3
      subst e1
      rw [List.getElem_map] at hp0 hp1 hp2
      obtain ⟨x, hx⟩ : ∃ x, x = ps[k] := ⟨_, rfl⟩
      rw [← hx] at hp0 hp1 hp2
      simp only [pV] at hp0 hp1 hp2
      clear e2 e3
      have t1 : decide ((k : Int) < (ps.length : Int)) = true := by simp; omega
      obtain ⟨w0, hw0⟩ : ∃ w0, w0 = wr.alloc (.cells #[.int .i64 x.num, .int .i64 x.from_, .int .i64 x.to_] 79) := ⟨_, rfl⟩
      have hb0 : Below wr.heap.size wr w0 := by rw [hw0]; exact (Below.refl _ _).alloc (Nat.le_refl _) _
      have HB0 := Lib.hid (HBK.out.trans (hb0.mono HBK.out.size))
      have hc := rm1_any S C B we.heap.size (k : Int) x (seenL ps k) (atOf ps k) w0 (HSK.out.below hb0) (by rw [hx]; exact HWF.out _ (List.getElem_mem hlt)) hbB hbC HB0.out.size (by have := seenL_len ps k; omega)
      rw [hx, pOk_seenL ps k hlt, ← hx] at hc
      have HX := Lib.hid hx
      have hsu := seenL_succ ps k hlt
      have hau := atOf_succ ps k hlt
      rw [← hx] at hsu hau
      have HSU := Lib.hid hsu
      have HAU := Lib.hid hau
      clear hx hsu hau hb0
      have HCA := Lib.hid hc; clear hc
      go_upto_region 4 with fail
      rw [← hw0]
      have HW0 := Lib.hid hw0; clear hw0
      have x0 : w0.heap[wr.heap.size]? = some (.cells #[.int .i64 x.num, .int .i64 x.from_, .int .i64 x.to_] 79 (0, 0)) := by rw [HW0.out]; exact heap_alloc_new wr _
      have y0 := box_cells x0 0 (.int .i64 x.num) rfl
      have y1 := box_cells x0 1 (.int .i64 x.from_) rfl
      have y2 := box_cells x0 2 (.int .i64 x.to_) rfl
      clear x0
      go_wp2_with fail
      refine HCA.out.mono ?_
      rintro e w1 ⟨rfl, hs1, hb1⟩
      have HB1 := Lib.hid (HB0.out.trans hb1); clear hb1
      have HS1 := Lib.hid hs1; clear hs1
      cases hwk : pAt ps k with
      | true =>
        have HWK := Lib.hid hwk; clear hwk
        go_wp2_with fail
        go_roundw
        case rel => exact ⟨k + 1, by omega, by go_num, Lib.hid (fun j hj => by
          rcases Nat.lt_or_ge j k with h | h
          · exact HJ.out j h
          · rw [show j = k from by omega]; exact HWK.out), by rw [HSU.out, HAU.out]; exact HS1.out, HB1.out⟩
        case measure => simp [intOf]; omega
      | false =>
        have hno := psOk_no hlt hwk
        have HNO := Lib.hid hno; clear hno hwk
        go_wp2_with fail
        go_ret
        exact ⟨ret_bool HNO.out.symm, (fun h => by rw [HNO.out] at h; cases h), HB1.out⟩
    · have t1 : decide ((k : Int) < (ps.length : Int)) = false := by simp; omega
      have hok : psOk ps = true := (psOk_iff ps).2 (fun j hj => HJ.out j (by omega))
      have HOK := Lib.hid hok; clear hok
      have hkk : k = ps.length := by omega
      have HKK := Lib.hid hkk; clear hkk
      go_wp2_with fail
      go_ret
      exact ⟨ret_bool HOK.out.symm, (fun _ => by rw [← HKK.out]; exact HSK.out), HBK.out⟩

set_option maxRecDepth 100000 in
set_option maxHeartbeats 2000000 in
theorem rightMan_any (t lo : Int) (v : Value) (ps : List Pai) (w : World) (hr : Rd3 w v (ps.map pV)) (hwf : ∀ p ∈ ps, (Lit.int .i64 p.num).wf = true) :
    Calls Try.prog 107 #[.agg #[.int .i64 t, .int .i64 lo, v]] w fun e w' => e = .returned (.bool (manOk t lo ps)) ∧ Below w.heap.size w w' := by
  obtain ⟨A, c, rfl, _, _, _⟩ := id hr
  rw [List.length_map] at hr ⊢
  obtain ⟨H, hH⟩ : ∃ H, H = w.heap.size := ⟨_, rfl⟩
  have HR := Lib.hid hr
  have HWF := Lib.hid hwf
  have hmm := @run_makeMap Try.prog
  obtain ⟨w1, hw1⟩ : ∃ w1, w1 = w.alloc (.cells #[.int .i64 t, .int .i64 lo, .slice A ps.length c] 74) := ⟨_, rfl⟩
  obtain ⟨w2, hw2⟩ : ∃ w2, w2 = w1.alloc (.cells #[.int .i64 0] 2) := ⟨_, rfl⟩
  obtain ⟨w3, hw3⟩ : ∃ w3, w3 = w2.alloc (.map #[] 0) := ⟨_, rfl⟩
  obtain ⟨w4, hw4⟩ : ∃ w4, w4 = w3.alloc (.cells #[.map (some (H + 2))] 152) := ⟨_, rfl⟩
  have z1 : w1.heap.size = H + 1 := by rw [hw1, hH]; simp
  have z2 : w2.heap.size = H + 2 := by rw [hw2]; simp [z1]
  have z3 : w3.heap.size = H + 3 := by rw [hw3]; simp [z2]
  have b1 : Below w.heap.size w w1 := by rw [hw1]; exact (Below.refl _ _).alloc (Nat.le_refl _) _
  have b2 : Below w1.heap.size w1 w2 := by rw [hw2]; exact (Below.refl _ _).alloc (Nat.le_refl _) _
  have b3 : Below w2.heap.size w2 w3 := by rw [hw3]; exact (Below.refl _ _).alloc (Nat.le_refl _) _
  have b4 : Below w3.heap.size w3 w4 := by rw [hw4]; exact (Below.refl _ _).alloc (Nat.le_refl _) _
  have hx4 : w4.heap[H]? = some (.cells #[.int .i64 t, .int .i64 lo, .slice A ps.length c] 74 (0, 0)) := by
    refine heap_below (heap_below (heap_below ?_ b2) b3) b4
    rw [hw1, hH]; exact heap_alloc_new w _
  have hc4 : w4.heap[H + 1]? = some (.cells #[.int .i64 0] 2 (0, 0)) := by
    refine heap_below (heap_below ?_ b3) b4
    rw [hw2, ← z1]; exact heap_alloc_new w1 _
  have hm4 : w4.ownsMap Try.prog 3 (plainElem (H := Unit) Try.prog 3) (H + 2) 0 (.map []) := by
    refine own_map_below ?_ b4
    rw [hw3, ← z2]; exact World.ownsMap_made _ _ _ _
  have hs4 : w4.heap[H + 3]? = some (.cells #[.map (some (H + 2))] 152 (0, 0)) := by
    rw [hw4, ← z3]; exact heap_alloc_new w3 _
  have hb4 : Below w.heap.size w w4 := ((b1.trans (b2.mono (by omega))).trans (b3.mono (by omega))).trans (b4.mono (by omega))
  have hx1 : w1.heap[H]? = some (.cells #[.int .i64 t, .int .i64 lo, .slice A ps.length c] 74 (0, 0)) := by rw [hw1, hH]; exact heap_alloc_new w _
  have HX1 := Lib.hid hx1
  have HB1 := Lib.hid b1
  have HZ1 := Lib.hid z1
  have HB14 := Lib.hid ((b2.trans (b3.mono (by omega))).trans (b4.mono (by omega)))
  have k1 := isTime_any t w4
  have k2 := isNumber_any lo w4
  have HK1 := Lib.hid k1
  have HK2 := Lib.hid k2
  have HB4 := Lib.hid hb4
  have HX4 := Lib.hid hx4
  have HS4 := Lib.hid (⟨hs4, hc4, hm4⟩ : Seen w4 (H + 3) (H + 1) (H + 2) [] 0)
  have x0 := box_cells hx4 0 (.int .i64 t) rfl
  have x1 := box_cells hx4 1 (.int .i64 lo) rfl
  have x2 := box_cells hx4 2 (.slice A ps.length c) rfl
  clear hr hwf b1 b2 b3 b4 z1 z2 z3 hx1 hx4 hc4 hm4 hs4 hb4 k1 k2
  go_enter Try.func107, Try.ntmps107
  go_upto_region 3 with fail
  rw [← hH]
  simp only [show H + 1 + 1 = H + 2 from rfl, show H + 2 + 1 = H + 3 from rfl]
  rw [← hw1, ← hw2, ← hw3, ← hw4]
  clear hw1 hw2 hw3 hw4 hmm
  have HH := Lib.hid hH; clear hH
  go_wp2_with fail
  refine HK1.out.mono ?_
  rintro e w5 ⟨rfl, rfl⟩
  cases h1 : isTm t with
  | false =>
    have hf : manOk t lo ps = false := by unfold manOk; rw [h1]; rfl
    have HF := Lib.hid hf; clear hf h1
    go_wp2_with fail
    go_ret
    exact ⟨ret_bool HF.out.symm, HB4.out⟩
  | true =>
    have H1 := Lib.hid h1; clear h1
    go_wp2_with fail
    refine HK2.out.mono ?_
    rintro e w6 ⟨rfl, rfl⟩
    cases h2 : isNo lo with
    | false =>
      have hf : manOk t lo ps = false := by unfold manOk; rw [H1.out, h2]; rfl
      have HF := Lib.hid hf; clear hf h2
      go_wp2_with fail
      go_ret
      exact ⟨ret_bool HF.out.symm, HB4.out⟩
    | true =>
      have H2 := Lib.hid h2; clear h2
      by_cases h3 : ps.length ≤ 16
      · have t2 : decide ((ps.length : Int) ≤ 16) = true := by simp; omega
        have k3 := allP_any (H + 3) (H + 1) (H + 2) (.slice A ps.length c) ps w1 w4 HS4.out HB14.out (HR.out.below HB1.out) (by rw [HZ1.out]; omega) (by rw [HZ1.out]; omega) (by omega) HWF.out
        have HK3 := Lib.hid k3; clear k3
        go_wp2_with fail
        refine HK3.out.mono ?_
        rintro e w7 ⟨rfl, hs7, hb7⟩
        have HS7 := Lib.hid hs7
        have HB7 := Lib.hid (HB1.out.trans (hb7.mono (by rw [HZ1.out]; have := HH.out; omega)))
        have hx7 : w7.heap[H]? = some (.cells #[.int .i64 t, .int .i64 lo, .slice A ps.length c] 74 (0, 0)) := heap_below HX1.out hb7
        clear hs7 hb7
        cases h4 : psOk ps with
        | false =>
          have hf : manOk t lo ps = false := by unfold manOk; rw [h4]; simp
          have HF := Lib.hid hf; clear hf h4
          go_wp2_with fail
          go_ret
          exact ⟨ret_bool HF.out.symm, HB7.out⟩
        | true =>
          have hs7 := HS7.out h4
          have hf : manOk t lo ps = (atOf ps ps.length == t) := by unfold manOk; rw [H1.out, H2.out, h4, decide_eq_true h3]; simp
          have HF := Lib.hid hf; clear hf h4
          have c7 := box_cells hs7.2.1 0 (.int .i64 (atOf ps ps.length)) rfl
          have x7 := box_cells hx7 0 (.int .i64 t) rfl
          clear hs7
          go_wp2_with fail
          go_ret
          exact ⟨ret_bool HF.out.symm, HB7.out⟩
      · have hf : manOk t lo ps = false := by unfold manOk; rw [decide_eq_false h3]; simp
        have HF := Lib.hid hf; clear hf
        have t2 : decide ((ps.length : Int) ≤ 16) = false := by simp; omega
        go_wp2_with fail
        go_ret
        exact ⟨ret_bool HF.out.symm, HB4.out⟩
end Go.Proofs.Ytggjipfdfpdecaa
/- The walk of record's Commit. -/
set_option linter.unusedVariables false
namespace Go.Proofs.Ytggjipfdfpdecaa
open Go.RowKit
attribute [local go_sem] bs_list bs_size

/-- What Commit's inner function answers. -/
def ComR (g : Nat) (A : Option Addr) (c : Nat) (b : List UInt8) (w : World) (r : (Nat × List Wri) × RS) (e : Ending) (w' : World) : Prop :=
  ∃ v, e = .returned (.agg #[.int .i64 (r.1.1 : Nat), v]) ∧ Own3 w' w.heap.size 66 v (r.1.2.map wV) ∧ RdSt w' g A c b r.2 ∧ w.grownBy w' (some g)

set_option maxRecDepth 100000 in
set_option maxHeartbeats 2000000 in
theorem com1_any (g : Nat) (A : Option Addr) (c : Nat) (b : List UInt8) (s : RS) (w : World) (hs : RdSt w g A c b s) (hl : b.length ≤ 140737488355328) (ha : s.at_ ≤ 140737488355328) :
    Calls Try.prog 91 #[.pointer (some ⟨g, 0, none⟩)] w (ComR g A c b w (rCom b s)) := by
  obtain ⟨R, hR⟩ : ∃ R, R = w.heap.size := ⟨_, rfl⟩
  have hgl : g < R := by rw [hR]; exact (Array.getElem?_eq_some_iff.1 hs.1).1
  obtain ⟨w0, hw0⟩ : ∃ w0, w0 = (w.alloc (.cells #[.pointer (some ⟨g, 0, none⟩)] 113)).alloc (.cells #[.int .i64 0, .slice none 0 0] 64) := ⟨_, rfl⟩
  have hb1 : Below w.heap.size w (w.alloc (.cells #[.pointer (some ⟨g, 0, none⟩)] 113)) := (Below.refl _ _).alloc (Nat.le_refl _) _
  have hb0 : Below w.heap.size w w0 := by rw [hw0]; exact hb1.alloc hb1.size _
  have hr0 : w0.heap[R]? = some (.cells #[.pointer (some ⟨g, 0, none⟩)] 113 (0, 0)) := by
    rw [hw0, hR]
    exact heap_below (heap_alloc_new w _) ((Below.refl _ _).alloc (Nat.le_refl _) _)
  have hx0 : w0.heap[R + 1]? = some (.cells #[.int .i64 0, .slice none 0 0] 64 (0, 0)) := by
    rw [hw0, hR]
    have := heap_alloc_new (w.alloc (.cells #[.pointer (some ⟨g, 0, none⟩)] 113)) (.cells #[.int .i64 0, .slice none 0 0] 64)
    rw [show (w.alloc (.cells #[.pointer (some ⟨g, 0, none⟩)] 113)).heap.size = w.heap.size + 1 from by simp] at this
    exact this
  have HS0 := Lib.hid (hs.keep hb0)
  have HG0 := Lib.hid (below_grown hb0 (some g))
  have HX0 := Lib.hid hx0
  have HR0 := Lib.hid hr0
  have cr := box_cells hr0 0 (.pointer (some ⟨g, 0, none⟩)) rfl
  clear hx0 hr0 hb0 hb1
  obtain ⟨⟨t, s1⟩, ht⟩ : ∃ p, p = rNum b 1099511627775 s := ⟨_, rfl⟩
  have ha1 : s1.at_ ≤ 140737488355328 := by have := rNum_at b 1099511627775 s; rw [← ht] at this; simp only at this; omega
  obtain ⟨⟨ws, s3⟩, hq⟩ : ∃ p, p = rList (rWri b) (rNum b 64 s1).1 (rNum b 64 s1).2 := ⟨_, rfl⟩
  have hres : rCom b s = ((t, ws), s3) := by unfold rCom; rw [← ht]; simp only; rw [← hq]
  rw [hres]
  have HT := Lib.hid ht; clear ht
  have HQ := Lib.hid hq; clear hq hres
  go_enter Try.func91, Try.ntmps91
  go_upto_region 1 with fail
  rw [← hR, ← hw0]
  have HRE := Lib.hid hR; clear hw0 hR
  go_wp2_with fail
  refine (rtime_any g A c b s w0 HS0.out hl).mono ?_
  rintro e w1 ⟨rfl, hs1, hg1⟩
  rw [← HT.out] at hs1 ⊢
  simp only at hs1 ⊢
  have HG1 := Lib.hid (HG0.out.trans hg1)
  have HX1 := Lib.hid (heap_grown HX0.out hg1 (by omega))
  have HR1 := Lib.hid (heap_grown HR0.out hg1 (by omega))
  have HS1 := Lib.hid hs1
  -- the commit's own variable
  obtain ⟨w2, hw2⟩ : ∃ w2, w2 = w1.alloc (.cells #[.int .i64 (t : Int), .slice none 0 0] 64) := ⟨_, rfl⟩
  obtain ⟨X, hX⟩ : ∃ X, X = w1.heap.size := ⟨_, rfl⟩
  have hb2 : Below w1.heap.size w1 w2 := by rw [hw2]; exact (Below.refl _ _).alloc (Nat.le_refl _) _
  have hx2 : w2.heap[X]? = some (.cells #[.int .i64 (t : Int), .slice none 0 0] 64 (0, 0)) := by rw [hw2, hX]; exact heap_alloc_new w1 _
  have hRX : R + 1 < X := by rw [hX]; exact (Array.getElem?_eq_some_iff.1 HX1.out).1
  have HY2 := Lib.hid hx2
  have HX2 := Lib.hid (heap_below HX1.out hb2)
  have HR2 := Lib.hid (heap_below HR1.out hb2)
  have HS2 := Lib.hid (HS1.out.keep hb2)
  have HG2 := Lib.hid (HG1.out.trans (below_grown hb2 (some g)))
  have cr2 := box_cells HR2.out 0 (.pointer (some ⟨g, 0, none⟩)) rfl
  clear hs1 hg1 hb2 hx2 cr
  go_upto_region 2 with fail
  rw [← hw2, ← hX]
  have HW2 := Lib.hid hw2; clear hw2
  have HXe := Lib.hid hX; clear hX
  go_wp2_with fail
  refine (listW_any g R A c b s1 w2 HS2.out HR2.out hl ha1).mono ?_
  rintro e w3 ⟨v, rfl, ho3, hs3, hg3⟩
  rw [← HQ.out] at ho3 hs3
  simp only at ho3 hs3
  have HY3 := Lib.hid (heap_grown HY2.out hg3 (by omega))
  have HX3 := Lib.hid (heap_grown HX2.out hg3 (by omega))
  have HG3 := Lib.hid (HG2.out.trans hg3)
  have HO3 := Lib.hid ho3
  have HS3 := Lib.hid hs3
  have hsz2 : w.heap.size ≤ w2.heap.size := HG2.out.size
  obtain ⟨A7, c7, rfl, hc7, hc8, _⟩ := id ho3.rd
  rw [List.length_map]
  clear hs3 hg3 ho3 hc7 hc8 cr2
  obtain ⟨V, hV⟩ : ∃ V, V = Value.slice A7 ws.length c7 := ⟨_, rfl⟩
  have hvb : ∀ x : UInt8, V ≠ bv x := by rw [hV]; exact slice_bv _ _ _
  have HO3' := Lib.hid (show Own3 w3 w2.heap.size 66 V (ws.map wV) from by rw [hV]; have := HO3.out; rwa [List.length_map] at this)
  have hy4 := set_at HY3.out 1 V
  have hx4 := heap_grown HX3.out (only_one w3 X 1 V) (by omega)
  have hs4 := HS3.out.other HY3.out (noByte2 (int_bv _) (slice_bv _ _ _)) (by omega) (only_one w3 X 1 V)
  have ho4 := HO3'.out.grown (only_one w3 X 1 V) (HO3'.out.ne_ HY3.out (by decide))
  have hg4 := grown_new HG3.out (only_one w3 X 1 V) (by have := HRE.out; omega)
  obtain ⟨-, hs8⟩ := set2 hx4 (.int .i64 (t : Int)) V
  have hs5 := hs4.other hx4 (noByte2 (int_bv _) (slice_bv _ _ _)) (by omega) hs8
  have ho5 := ho4.grown hs8 (ho4.ne_ hx4 (by decide))
  have hg5 := grown_new hg4 hs8 (by have := HRE.out; omega)
  have HS5 := Lib.hid hs5
  have HO5 := Lib.hid (ho5.base hsz2)
  have HG5 := Lib.hid hg5
  have y0 := box_cells HY3.out 0 (.int .i64 (t : Int)) rfl
  have y1 := box_cells HY3.out 1 (.slice none 0 0) rfl
  have f3 : ∀ i, w3.frozen? ⟨X, i, none⟩ = false := by intro i; have := HY3.out; simp [World.frozen?, this]
  have r3 : ∀ i, w3.frozen? ⟨R + 1, i, none⟩ = false := by intro i; have := HX3.out; simp [World.frozen?, this]
  have r0 := box_cells HX3.out 0 (.int .i64 0) rfl
  have r1 := box_cells HX3.out 1 (.slice none 0 0) rfl
  have hne3 : ¬ R + 1 = X := by omega
  have hne4 : ¬ X = R + 1 := by omega
  have HVV := Lib.hid hV
  clear hy4 hx4 hs4 ho4 hg4 hs8 hs5 ho5 hg5 hvb
  subst hV
  go_wp2_with fail
  refine bodyPost_ret (v := .agg #[.int .i64 (t : Int), .slice A7 ws.length c7]) (by simp [results, Try.results91, go_sem, *]) rfl ?_
  exact ⟨_, rfl, HO5.out, HS5.out, HG5.out⟩
end Go.Proofs.Ytggjipfdfpdecaa
/- The walk of record's take, at a commit. -/
set_option linter.unusedVariables false
namespace Go.Proofs.Ytggjipfdfpdecaa
open Go.RowKit
attribute [local go_sem] bs_list bs_size

theorem rList_all {α : Type} (one : RS → α × RS) (P : α → Prop) (h : ∀ s, P (one s).1) : ∀ (n : Nat) (s : RS), ∀ x ∈ (rList one n s).1, P x
  | 0, s, x, hx => by simp [rList] at hx
  | n + 1, s, x, hx => by
    rw [rList] at hx
    split at hx
    · simp at hx
    · rcases List.mem_cons.1 hx with rfl | hx
      · exact h s
      · exact rList_all one P h n _ x hx
theorem rCom_bounds {b : List UInt8} {s s' : RS} {t : Nat} {ws : List Wri} (h : ((t, ws), s') = rCom b s) : ws.length ≤ 64 ∧ ∀ x ∈ ws, x.key.length ≤ 1048576 ∧ x.val.length ≤ 1048576 := by
  unfold rCom at h
  simp only [Prod.mk.injEq] at h
  obtain ⟨⟨_, rfl⟩, _⟩ := h
  refine ⟨Nat.le_trans (rList_len _ _ _) (rNum_le _ _ _), fun x hx => ?_⟩
  have := rList_all (rWri b) (fun x => x.key.length ≤ 16 ∧ x.val.length ≤ 64) (rWri_len b) _ _ x hx
  omega

set_option maxRecDepth 100000 in
set_option maxHeartbeats 2000000 in
theorem takeCom_any (A : Option Addr) (c : Nat) (b : List UInt8) (w : World) (hr : RdB w (.slice A b.length c) b) (hl : b.length ≤ 140737488355328) :
    Calls Try.prog 90 #[.agg #[.int .u8 67, .func (.func 91) #[] #[], .func (.func 82) #[] #[]], .slice A b.length c] w fun e w' => ∃ v, e = .returned (.tuple #[.agg #[.int .i64 ((decCom b).1.1 : Nat), v], .int .i64 ((decCom b).2.1 : Nat), .int .i64 ((decCom b).2.2 : Nat)]) ∧ Own3 w' w.heap.size 66 v ((decCom b).1.2.map wV) ∧ Below w.heap.size w w' := by
  obtain ⟨H, hH⟩ : ∃ H, H = w.heap.size := ⟨_, rfl⟩
  obtain ⟨w0, hw0⟩ : ∃ w0, w0 = ((w.alloc (.cells #[.int .u8 67, .func (.func 91) #[] #[], .func (.func 82) #[] #[]] 120)).alloc (.cells #[.int .i64 0, .slice none 0 0] 64)).alloc (.cells #[.int .i64 0, .slice none 0 0] 64) := ⟨_, rfl⟩
  have hb1 : Below w.heap.size w (w.alloc (.cells #[.int .u8 67, .func (.func 91) #[] #[], .func (.func 82) #[] #[]] 120)) := (Below.refl _ _).alloc (Nat.le_refl _) _
  have hb0 : Below w.heap.size w w0 := by rw [hw0]; exact (hb1.alloc hb1.size _).alloc (by simp; omega) _
  have hF : w0.heap[H]? = some (.cells #[.int .u8 67, .func (.func 91) #[] #[], .func (.func 82) #[] #[]] 120 (0, 0)) := by
    rw [hw0, hH]
    exact heap_below (heap_below (heap_alloc_new w _) ((Below.refl _ _).alloc (Nat.le_refl _) _)) ((Below.refl _ _).alloc (Nat.le_refl _) _)
  have hR : w0.heap[H + 1]? = some (.cells #[.int .i64 0, .slice none 0 0] 64 (0, 0)) := by
    rw [hw0, hH]
    have := heap_alloc_new (w.alloc (.cells #[.int .u8 67, .func (.func 91) #[] #[], .func (.func 82) #[] #[]] 120)) (.cells #[.int .i64 0, .slice none 0 0] 64)
    rw [show (w.alloc (.cells #[.int .u8 67, .func (.func 91) #[] #[], .func (.func 82) #[] #[]] 120)).heap.size = w.heap.size + 1 from by simp] at this
    exact heap_below this ((Below.refl _ _).alloc (Nat.le_refl _) _)
  have hN : w0.heap[H + 1 + 1]? = some (.cells #[.int .i64 0, .slice none 0 0] 64 (0, 0)) := by
    rw [hw0, hH]
    have := heap_alloc_new ((w.alloc (.cells #[.int .u8 67, .func (.func 91) #[] #[], .func (.func 82) #[] #[]] 120)).alloc (.cells #[.int .i64 0, .slice none 0 0] 64)) (.cells #[.int .i64 0, .slice none 0 0] 64)
    rw [show ((w.alloc (.cells #[.int .u8 67, .func (.func 91) #[] #[], .func (.func 82) #[] #[]] 120)).alloc (.cells #[.int .i64 0, .slice none 0 0] 64)).heap.size = w.heap.size + 1 + 1 from by simp] at this
    exact this
  have hsz : w0.heap.size = H + 3 := by rw [hw0, hH]; simp
  have hrd := hr.below hb0
  have HB0 := Lib.hid hb0; clear hb0 hb1
  have HF := Lib.hid hF; clear hF
  have HR := Lib.hid hR; clear hR
  have HN := Lib.hid hN; clear hN
  have HSZ := Lib.hid hsz; clear hsz
  have HRD := Lib.hid hrd; clear hrd
  have d0 := box_cells HF.out 0 (.int .u8 67) rfl
  have d1 := box_cells HF.out 1 (.func (.func 91) #[] #[]) rfl
  have d2 := box_cells HF.out 2 (.func (.func 82) #[] #[]) rfl
  have n0 := box_cells HN.out 0 (.int .i64 0) rfl
  have n1 := box_cells HN.out 1 (.slice none 0 0) rfl
  have r0 := box_cells HR.out 0 (.int .i64 0) rfl
  have r1 := box_cells HR.out 1 (.slice none 0 0) rfl
  have rf : ∀ i, w0.frozen? ⟨H + 1, i, none⟩ = false := by intro i; have := HR.out; simp [World.frozen?, this]
  go_enter Try.func90, Try.ntmps90
  go_wp2_with fail
  rw [← hH]
  rw [← hw0]
  have HH := Lib.hid hH
  clear hw0 hH
  by_cases hk : b[0]? = some 67
  · have hlt0 : 0 < b.length := (List.getElem?_eq_some_iff.1 hk).1
    have hx67 : b[0] = 67 := (List.getElem?_eq_some_iff.1 hk).2
    obtain ⟨A', c', he, hcc, hcm, hcell⟩ := HRD.out
    obtain ⟨ad, hA, hcells⟩ := hcell (by omega)
    have hcx := hcells 0 (by omega)
    rw [hx67] at hcx
    change w0.cell? (ad.add 0) = some (.int .u8 67) at hcx
    rw [show ad.add 0 = ad from by simp [Addr.add]] at hcx
    injection he with e1 e2 e3
    subst e1 hA
    have h0' : 0 < b.length := by omega
    have hn0 : ¬ b = [] := fun e => by rw [e] at hlt0; simp at hlt0
    have hv : decCom b = ansC (0, []) (rCom b ⟨1, false⟩).1 (endC b (rCom b ⟨1, false⟩).2 (comOk ((rCom b ⟨1, false⟩).1.1 : Nat) (rCom b ⟨1, false⟩).1.2)) := by unfold decCom; rw [startC_yes hk]
    have HV := Lib.hid hv; clear hv
    clear hcells hcell e2 e3 hk hx67
    go_quiet (fail)
    go_upto_region 5 with fail
    obtain ⟨w1, hw1⟩ : ∃ w1, w1 = (w0.drewN nq).alloc (.cells #[.slice (some ad) b.length c, .int .i64 1, .bool false] 151) := ⟨_, rfl⟩
    have hb1 : Below w0.heap.size w0 w1 := by rw [hw1]; exact (below_drewN (Below.refl _ _) nq).alloc (Nat.le_refl _) _
    have hs1 : RdSt w1 w0.heap.size (some ad) c b ⟨1, false⟩ := ⟨by rw [hw1]; exact heap_alloc_new (w0.drewN nq) _, HRD.out.below hb1⟩
    obtain ⟨G, hG⟩ : ∃ G, G = w0.heap.size := ⟨_, rfl⟩
    have hGH : G = H + 3 := by rw [hG, HSZ.out]
    have hGne1 : H ≠ G := by omega
    have hGne2 : H + 1 ≠ G := by omega
    have hGne3 : H + 1 + 1 ≠ G := by omega
    rw [← hw1, ← hG]
    rw [← hG] at hs1
    have HF1 := Lib.hid (heap_below HF.out hb1)
    have HR1 := Lib.hid (heap_below HR.out hb1)
    have HN1 := Lib.hid (heap_below HN.out hb1)
    have HB1 := Lib.hid (HB0.out.trans (hb1.mono HB0.out.size))
    have HS1 := Lib.hid hs1
    clear hw1 hG hs1 hb1 d0 d1 d2 n0 n1 r0 r1 rf
    have HGH := Lib.hid hGH; clear hGH
    have d1 := box_cells HF1.out 1 (.func (.func 91) #[] #[]) rfl
    go_wp2_with fail
    refine (com1_any G (some ad) c b ⟨1, false⟩ w1 HS1.out hl (by simp)).mono ?_
    rintro e w2 ⟨sv, rfl, ho2, hs2, hg2⟩
    obtain ⟨⟨⟨t, ws⟩, ⟨at2, bad2⟩⟩, hq⟩ : ∃ p, p = rCom b ⟨1, false⟩ := ⟨_, rfl⟩
    obtain ⟨hwl, hwb⟩ := rCom_bounds hq
    have hv2 := HV.out
    rw [← hq] at ho2 hs2 hv2 ⊢
    simp only at ho2 hs2 hv2 ⊢
    have HV2 := Lib.hid hv2; clear hv2 hq
    have HWB := Lib.hid hwb; clear hwb
    have HF2 := Lib.hid (heap_grown HF1.out hg2 hGne1)
    have HR2 := Lib.hid (heap_grown HR1.out hg2 hGne2)
    have HN2 := Lib.hid (heap_grown HN1.out hg2 hGne3)
    have HB2 := Lib.hid (blw HB1.out hg2 (by have := HGH.out; have := HH.out; omega) (Nat.le_refl _))
    have HO2 := Lib.hid (ho2.base HB1.out.size)
    obtain ⟨Av, cv, rfl, hcv1, hcv2, _⟩ := id ho2.rd
    rw [List.length_map] at ho2 ⊢
    have HO2 := Lib.hid (show Own3 w2 w.heap.size 66 (.slice Av ws.length cv) (ws.map wV) from by have := HO2.out; rwa [List.length_map] at this)
    clear ho2 hcv1 hcv2
    -- what was read
    obtain ⟨w3, hw3⟩ : ∃ w3, w3 = w2.alloc (.cells #[.int .i64 (t : Int), .slice Av ws.length cv] 64) := ⟨_, rfl⟩
    obtain ⟨X, hX⟩ : ∃ X, X = w2.heap.size := ⟨_, rfl⟩
    have hb3 : Below w2.heap.size w2 w3 := by rw [hw3]; exact (Below.refl _ _).alloc (Nat.le_refl _) _
    have hx3 : w3.heap[X]? = some (.cells #[.int .i64 (t : Int), .slice Av ws.length cv] 64 (0, 0)) := by rw [hw3, hX]; exact heap_alloc_new w2 _
    have HX3 := Lib.hid hx3; clear hx3
    have HF3 := Lib.hid (heap_below HF2.out hb3)
    have HR3 := Lib.hid (heap_below HR2.out hb3)
    have HN3 := Lib.hid (heap_below HN2.out hb3)
    have hs3 := hs2.keep hb3
    have HO3 := Lib.hid (HO2.out.below hb3)
    have HB3 := Lib.hid (HB2.out.trans (hb3.mono HB2.out.size))
    have c1 := hs3.c1
    have c2 := hs3.c2
    simp only at c1 c2
    clear hs2 hg2 hs3 hb3 d1
    have n0 := box_cells HN3.out 0 (.int .i64 0) rfl
    have n1 := box_cells HN3.out 1 (.slice none 0 0) rfl
    have r0 := box_cells HR3.out 0 (.int .i64 0) rfl
    have r1 := box_cells HR3.out 1 (.slice none 0 0) rfl
    have rf : ∀ i, w3.frozen? ⟨H + 1, i, none⟩ = false := by intro i; have := HR3.out; simp [World.frozen?, this]
    have hgeH : w.heap.size ≤ H + 1 := by rw [HH.out]; omega
    have hle : w.heap.size ≤ w.heap.size := Nat.le_refl _
    go_upto_region 6 with fail
    rw [← hw3, ← hX]
    have HW3 := Lib.hid hw3; clear hw3
    have HXX := Lib.hid hX; clear hX
    by_cases hbad : bad2 = true ∨ at2 < b.length
    · have hv3 := HV2.out
      rw [endC_lt b ⟨at2, bad2⟩ _ hbad] at hv3
      have HV3 := Lib.hid hv3; clear hv3
      have hfin := set2 HR3.out (.int .i64 0) (.slice none 0 0)
      have hblw := blw HB3.out hfin.2 hgeH hle
      have HBL := Lib.hid hblw; clear hblw hfin
      go_cut [29] (fun v29 wx => v29 = .bool true ∧ wx = w3)
      case first =>
        cases bad2 with
        | true =>
          go_wp2_with fail
          go_meet
          exact ⟨rfl, rfl⟩
        | false =>
          have hlt : at2 < b.length := hbad.resolve_left (by simp)
          have t1 : decide (at2 < b.length) = true := by simpa using hlt
          go_wp2_with fail
          go_meet
          exact ⟨rfl, rfl⟩
      case rest =>
        obtain ⟨rfl, hwx⟩ := hcut
        obtain rfl := hwx.symm
        go_wp2_with fail
        have hGne4 : ¬ G = H + 1 := fun e => hGne2 e.symm
        go_region_held3 (fun w' => w'.cell? ⟨H + 1 + 1, 0, none⟩ = some (.int .i64 0) ∧ w'.cell? ⟨H + 1 + 1, 1, none⟩ = some (.slice none 0 0) ∧ w'.cell? ⟨G, 1, none⟩ = some (.int .i64 (at2 : Int))) (go_keep) (fail)
        go_wp2_with fail
        refine bodyPost_ret (v := .tuple #[.agg #[.int .i64 0, .slice none 0 0], .int .i64 (at2 : Int), .int .i64 61]) (by simp [results, Try.results90, go_sem, *]) rfl ?_
        rw [HV3.out]
        exact ⟨_, rfl, Own3.nil _ _ _, below_drewN HBL.out 1⟩
    · have hv3 := HV2.out
      rw [endC_ok b ⟨at2, bad2⟩ _ hbad] at hv3
      have HV3 := Lib.hid hv3; clear hv3
      obtain rfl : bad2 = false := by cases bad2 <;> simp_all
      have t1 : decide (at2 < b.length) = false := by simp; omega
      have d2 := box_cells HF3.out 2 (.func (.func 82) #[] #[]) rfl
      have x0 := box_cells HX3.out 0 (.int .i64 (t : Int)) rfl
      have x1 := box_cells HX3.out 1 (.slice Av ws.length cv) rfl
      clear hbad
      go_wp2_with fail
      refine (rightCom_any (t : Int) _ ws w3 HO3.out.rd (by omega) HWB.out).mono ?_
      rintro e w4 ⟨rfl, hb4⟩
      have HR4 := Lib.hid (heap_below HR3.out hb4)
      have HN4 := Lib.hid (heap_below HN3.out hb4)
      have HX4 := Lib.hid (heap_below HX3.out hb4)
      have HO4 := Lib.hid (HO3.out.below hb4)
      have HB4 := Lib.hid (HB3.out.trans (hb4.mono HB3.out.size)); clear hb4
      clear n0 n1 r0 r1 rf d2 x0 x1 c1 c2
      have r0 := box_cells HR4.out 0 (.int .i64 0) rfl
      have r1 := box_cells HR4.out 1 (.slice none 0 0) rfl
      have rf : ∀ i, w4.frozen? ⟨H + 1, i, none⟩ = false := by intro i; have := HR4.out; simp [World.frozen?, this]
      cases hkk : comOk (t : Int) ws with
      | true =>
        have hv4 := HV3.out
        rw [hkk, if_neg (by simp)] at hv4
        have HV4 := Lib.hid hv4; clear hv4 hkk
        have x0 := box_cells HX4.out 0 (.int .i64 (t : Int)) rfl
        have x1 := box_cells HX4.out 1 (.slice Av ws.length cv) rfl
        have hfin := set2 HR4.out (.int .i64 (t : Int)) (.slice Av ws.length cv)
        have hblw := blw HB4.out hfin.2 hgeH hle
        have HBL := Lib.hid hblw; clear hblw
        have HFI := Lib.hid hfin; clear hfin
        go_wp2_with fail
        refine bodyPost_ret (v := .tuple #[.agg #[.int .i64 (t : Int), .slice Av ws.length cv], .int .i64 0, .int .i64 0]) (by simp [results, Try.results90, go_sem, *]) rfl ?_
        have ho5 := HO4.out.grown HFI.out.2 (HO4.out.ne_ HR4.out (by decide))
        rw [HV4.out]
        exact ⟨_, rfl, ho5, HBL.out⟩
      | false =>
        have hv4 := HV3.out
        rw [hkk, if_pos rfl] at hv4
        have HV4 := Lib.hid hv4; clear hv4 hkk
        have n0 := box_cells HN4.out 0 (.int .i64 0) rfl
        have n1 := box_cells HN4.out 1 (.slice none 0 0) rfl
        have hfin := set2 HR4.out (.int .i64 0) (.slice none 0 0)
        have hblw := blw HB4.out hfin.2 hgeH hle
        have HBL := Lib.hid hblw; clear hblw hfin
        go_wp2_with fail
        refine bodyPost_ret (v := .tuple #[.agg #[.int .i64 0, .slice none 0 0], .int .i64 0, .int .i64 60]) (by simp [results, Try.results90, go_sem, *]) rfl ?_
        rw [HV4.out]
        exact ⟨_, rfl, Own3.nil _ _ _, HBL.out⟩
  · have hv : decCom b = ((0, []), 0, 61) := by unfold decCom; rw [startC_no hk, rCom_bad]; simp only; rw [endC_bad]; rfl
    have HV := Lib.hid hv; clear hv
    have hfin := set2 HR.out (.int .i64 0) (.slice none 0 0)
    have hblw : Below w.heap.size w ((w0.setCell ⟨H + 1, 0, none⟩ (.int .i64 0)).setCell ⟨H + 1, 1, none⟩ (.slice none 0 0)) := blw HB0.out hfin.2 (by rw [HH.out]; omega) (Nat.le_refl _)
    have HBL := Lib.hid hblw; clear hblw hfin
    by_cases h0 : b.length = 0
    · have t1 : b = [] := List.eq_nil_of_length_eq_zero h0
      subst t1
      go_quiet (fail)
      go_wp2_with fail
      refine bodyPost_ret (v := .tuple #[.agg #[.int .i64 0, .slice none 0 0], .int .i64 0, .int .i64 61]) (by simp [results, Try.results90, go_sem, *]) rfl ?_
      rw [HV.out]
      exact ⟨_, rfl, Own3.nil _ _ _, below_drewN HBL.out nq⟩
    · obtain ⟨A', c', he, _, hcm, hcell⟩ := HRD.out
      obtain ⟨ad, hA, hcells⟩ := hcell (by omega)
      have hcx := hcells 0 (by omega)
      obtain ⟨x, hx⟩ : ∃ x, x = b[0]'(by omega) := ⟨_, rfl⟩
      rw [← hx, bv_nat] at hcx
      rw [show ad.add 0 = ad from by simp [Addr.add]] at hcx
      injection he with e1 e2 e3
      subst e1 hA
      have hne : x ≠ 67 := fun e => hk (by rw [List.getElem?_eq_getElem (by omega), ← hx, e])
      have t2 : ((x.toNat : Int) != 67) = true := by rw [bne_iff_ne]; intro e; exact hne (UInt8.toNat_inj.1 (by show x.toNat = 67; omega))
      have h0' : 0 < b.length := by omega
      have hn0 : ¬ b = [] := fun e => h0 (by rw [e]; rfl)
      clear hcells hcell e2 e3 hx hk hne
      go_quiet (fail)
      go_wp2_with fail
      refine bodyPost_ret (v := .tuple #[.agg #[.int .i64 0, .slice none 0 0], .int .i64 0, .int .i64 61]) (by simp [results, Try.results90, go_sem, *]) rfl ?_
      rw [HV.out]
      exact ⟨_, rfl, Own3.nil _ _ _, below_drewN HBL.out nq⟩
end Go.Proofs.Ytggjipfdfpdecaa
/- The walk of record's take, at a manifest; record's Manifest. -/
set_option linter.unusedVariables false
namespace Go.Proofs.Ytggjipfdfpdecaa
open Go.RowKit
attribute [local go_sem] bs_list bs_size

theorem rMan_bounds {b : List UInt8} {s s' : RS} {t g : Nat} {ps : List Pai} (h : ((t, g, ps), s') = rMan b s) : ps.length ≤ 16 ∧ ∀ p ∈ ps, (Lit.int .i64 p.num).wf = true := by
  refine ⟨rMan_len h, fun p hp => ?_⟩
  unfold rMan at h
  simp only [Prod.mk.injEq] at h
  obtain ⟨⟨_, _, rfl⟩, _⟩ := h
  have := rList_all (rPai b) (fun p => 0 ≤ p.num ∧ p.num ≤ 2147483647) (fun s => by
    have := rNum_le b 2147483647 s
    unfold rPai
    simp only
    omega) _ _ p hp
  exact WalkArith.wf_i64 (by omega)

set_option maxRecDepth 100000 in
set_option maxHeartbeats 2000000 in
theorem takeMan_any (A : Option Addr) (c : Nat) (b : List UInt8) (w : World) (hr : RdB w (.slice A b.length c) b) (hl : b.length ≤ 140737488355328) :
    Calls Try.prog 102 #[.agg #[.int .u8 77, .func (.func 103) #[] #[], .func (.func 107) #[] #[]], .slice A b.length c] w fun e w' => ∃ v, e = .returned (.tuple #[.agg #[.int .i64 ((decMan b).1.1 : Nat), .int .i64 ((decMan b).1.2.1 : Nat), v], .int .i64 ((decMan b).2.1 : Nat), .int .i64 ((decMan b).2.2 : Nat)]) ∧ Own3 w' w.heap.size 79 v ((decMan b).1.2.2.map pV) ∧ Below w.heap.size w w' := by
  obtain ⟨H, hH⟩ : ∃ H, H = w.heap.size := ⟨_, rfl⟩
  obtain ⟨w0, hw0⟩ : ∃ w0, w0 = ((w.alloc (.cells #[.int .u8 77, .func (.func 103) #[] #[], .func (.func 107) #[] #[]] 133)).alloc (.cells #[.int .i64 0, .int .i64 0, .slice none 0 0] 74)).alloc (.cells #[.int .i64 0, .int .i64 0, .slice none 0 0] 74) := ⟨_, rfl⟩
  have hb1 : Below w.heap.size w (w.alloc (.cells #[.int .u8 77, .func (.func 103) #[] #[], .func (.func 107) #[] #[]] 133)) := (Below.refl _ _).alloc (Nat.le_refl _) _
  have hb0 : Below w.heap.size w w0 := by rw [hw0]; exact (hb1.alloc hb1.size _).alloc (by simp; omega) _
  have hF : w0.heap[H]? = some (.cells #[.int .u8 77, .func (.func 103) #[] #[], .func (.func 107) #[] #[]] 133 (0, 0)) := by
    rw [hw0, hH]
    exact heap_below (heap_below (heap_alloc_new w _) ((Below.refl _ _).alloc (Nat.le_refl _) _)) ((Below.refl _ _).alloc (Nat.le_refl _) _)
  have hR : w0.heap[H + 1]? = some (.cells #[.int .i64 0, .int .i64 0, .slice none 0 0] 74 (0, 0)) := by
    rw [hw0, hH]
    have := heap_alloc_new (w.alloc (.cells #[.int .u8 77, .func (.func 103) #[] #[], .func (.func 107) #[] #[]] 133)) (.cells #[.int .i64 0, .int .i64 0, .slice none 0 0] 74)
    rw [show (w.alloc (.cells #[.int .u8 77, .func (.func 103) #[] #[], .func (.func 107) #[] #[]] 133)).heap.size = w.heap.size + 1 from by simp] at this
    exact heap_below this ((Below.refl _ _).alloc (Nat.le_refl _) _)
  have hN : w0.heap[H + 1 + 1]? = some (.cells #[.int .i64 0, .int .i64 0, .slice none 0 0] 74 (0, 0)) := by
    rw [hw0, hH]
    have := heap_alloc_new ((w.alloc (.cells #[.int .u8 77, .func (.func 103) #[] #[], .func (.func 107) #[] #[]] 133)).alloc (.cells #[.int .i64 0, .int .i64 0, .slice none 0 0] 74)) (.cells #[.int .i64 0, .int .i64 0, .slice none 0 0] 74)
    rw [show ((w.alloc (.cells #[.int .u8 77, .func (.func 103) #[] #[], .func (.func 107) #[] #[]] 133)).alloc (.cells #[.int .i64 0, .int .i64 0, .slice none 0 0] 74)).heap.size = w.heap.size + 1 + 1 from by simp] at this
    exact this
  have hsz : w0.heap.size = H + 3 := by rw [hw0, hH]; simp
  have hrd := hr.below hb0
  have HB0 := Lib.hid hb0; clear hb0 hb1
  have HF := Lib.hid hF; clear hF
  have HR := Lib.hid hR; clear hR
  have HN := Lib.hid hN; clear hN
  have HSZ := Lib.hid hsz; clear hsz
  have HRD := Lib.hid hrd; clear hrd
  have d0 := box_cells HF.out 0 (.int .u8 77) rfl
  have d1 := box_cells HF.out 1 (.func (.func 103) #[] #[]) rfl
  have d2 := box_cells HF.out 2 (.func (.func 107) #[] #[]) rfl
  have n0 := box_cells HN.out 0 (.int .i64 0) rfl
  have n1 := box_cells HN.out 1 (.int .i64 0) rfl
  have n2 := box_cells HN.out 2 (.slice none 0 0) rfl
  have r0 := box_cells HR.out 0 (.int .i64 0) rfl
  have r1 := box_cells HR.out 1 (.int .i64 0) rfl
  have r2 := box_cells HR.out 2 (.slice none 0 0) rfl
  have rf : ∀ i, w0.frozen? ⟨H + 1, i, none⟩ = false := by intro i; have := HR.out; simp [World.frozen?, this]
  go_enter Try.func102, Try.ntmps102
  go_wp2_with fail
  rw [← hH]
  rw [← hw0]
  have HH := Lib.hid hH
  clear hw0 hH
  by_cases hk : b[0]? = some 77
  · have hlt0 : 0 < b.length := (List.getElem?_eq_some_iff.1 hk).1
    have hx67 : b[0] = 77 := (List.getElem?_eq_some_iff.1 hk).2
    obtain ⟨A', c', he, hcc, hcm, hcell⟩ := HRD.out
    obtain ⟨ad, hA, hcells⟩ := hcell (by omega)
    have hcx := hcells 0 (by omega)
    rw [hx67] at hcx
    change w0.cell? (ad.add 0) = some (.int .u8 77) at hcx
    rw [show ad.add 0 = ad from by simp [Addr.add]] at hcx
    injection he with e1 e2 e3
    subst e1 hA
    have h0' : 0 < b.length := by omega
    have hn0 : ¬ b = [] := fun e => by rw [e] at hlt0; simp at hlt0
    have hv : decMan b = ansC (0, 0, []) (rMan b ⟨1, false⟩).1 (endC b (rMan b ⟨1, false⟩).2 (manOk ((rMan b ⟨1, false⟩).1.1 : Nat) ((rMan b ⟨1, false⟩).1.2.1 : Nat) (rMan b ⟨1, false⟩).1.2.2)) := by unfold decMan; rw [startC_yes hk]
    have HV := Lib.hid hv; clear hv
    clear hcells hcell e2 e3 hk hx67
    go_quiet (fail)
    go_upto_region 5 with fail
    obtain ⟨w1, hw1⟩ : ∃ w1, w1 = (w0.drewN nq).alloc (.cells #[.slice (some ad) b.length c, .int .i64 1, .bool false] 151) := ⟨_, rfl⟩
    have hb1 : Below w0.heap.size w0 w1 := by rw [hw1]; exact (below_drewN (Below.refl _ _) nq).alloc (Nat.le_refl _) _
    have hs1 : RdSt w1 w0.heap.size (some ad) c b ⟨1, false⟩ := ⟨by rw [hw1]; exact heap_alloc_new (w0.drewN nq) _, HRD.out.below hb1⟩
    obtain ⟨G, hG⟩ : ∃ G, G = w0.heap.size := ⟨_, rfl⟩
    have hGH : G = H + 3 := by rw [hG, HSZ.out]
    have hGne1 : H ≠ G := by omega
    have hGne2 : H + 1 ≠ G := by omega
    have hGne3 : H + 1 + 1 ≠ G := by omega
    rw [← hw1, ← hG]
    rw [← hG] at hs1
    have HF1 := Lib.hid (heap_below HF.out hb1)
    have HR1 := Lib.hid (heap_below HR.out hb1)
    have HN1 := Lib.hid (heap_below HN.out hb1)
    have HB1 := Lib.hid (HB0.out.trans (hb1.mono HB0.out.size))
    have HS1 := Lib.hid hs1
    clear hw1 hG hs1 hb1 d0 d1 d2 n0 n1 n2 r0 r1 r2 rf
    have HGH := Lib.hid hGH; clear hGH
    have d1 := box_cells HF1.out 1 (.func (.func 103) #[] #[]) rfl
    go_wp2_with fail
    refine (man1_any G (some ad) c b ⟨1, false⟩ w1 HS1.out hl (by simp)).mono ?_
    rintro e w2 ⟨sv, rfl, ho2, hs2, hg2⟩
    obtain ⟨⟨⟨t, lo, ps⟩, ⟨at2, bad2⟩⟩, hq⟩ : ∃ p, p = rMan b ⟨1, false⟩ := ⟨_, rfl⟩
    obtain ⟨hwl, hwb⟩ := rMan_bounds hq
    have hv2 := HV.out
    rw [← hq] at ho2 hs2 hv2 ⊢
    simp only at ho2 hs2 hv2 ⊢
    have HV2 := Lib.hid hv2; clear hv2 hq
    have HWB := Lib.hid hwb; clear hwb
    have HF2 := Lib.hid (heap_grown HF1.out hg2 hGne1)
    have HR2 := Lib.hid (heap_grown HR1.out hg2 hGne2)
    have HN2 := Lib.hid (heap_grown HN1.out hg2 hGne3)
    have HB2 := Lib.hid (blw HB1.out hg2 (by have := HGH.out; have := HH.out; omega) (Nat.le_refl _))
    have HO2 := Lib.hid (ho2.base HB1.out.size)
    obtain ⟨Av, cv, rfl, hcv1, hcv2, _⟩ := id ho2.rd
    rw [List.length_map] at ho2 ⊢
    have HO2 := Lib.hid (show Own3 w2 w.heap.size 79 (.slice Av ps.length cv) (ps.map pV) from by have := HO2.out; rwa [List.length_map] at this)
    clear ho2 hcv1 hcv2
    -- what was read
    obtain ⟨w3, hw3⟩ : ∃ w3, w3 = w2.alloc (.cells #[.int .i64 (t : Int), .int .i64 (lo : Int), .slice Av ps.length cv] 74) := ⟨_, rfl⟩
    obtain ⟨X, hX⟩ : ∃ X, X = w2.heap.size := ⟨_, rfl⟩
    have hb3 : Below w2.heap.size w2 w3 := by rw [hw3]; exact (Below.refl _ _).alloc (Nat.le_refl _) _
    have hx3 : w3.heap[X]? = some (.cells #[.int .i64 (t : Int), .int .i64 (lo : Int), .slice Av ps.length cv] 74 (0, 0)) := by rw [hw3, hX]; exact heap_alloc_new w2 _
    have HX3 := Lib.hid hx3; clear hx3
    have HF3 := Lib.hid (heap_below HF2.out hb3)
    have HR3 := Lib.hid (heap_below HR2.out hb3)
    have HN3 := Lib.hid (heap_below HN2.out hb3)
    have hs3 := hs2.keep hb3
    have HO3 := Lib.hid (HO2.out.below hb3)
    have HB3 := Lib.hid (HB2.out.trans (hb3.mono HB2.out.size))
    have c1 := hs3.c1
    have c2 := hs3.c2
    simp only at c1 c2
    clear hs2 hg2 hs3 hb3 d1
    have n0 := box_cells HN3.out 0 (.int .i64 0) rfl
    have n1 := box_cells HN3.out 1 (.int .i64 0) rfl
    have n2 := box_cells HN3.out 2 (.slice none 0 0) rfl
    have r0 := box_cells HR3.out 0 (.int .i64 0) rfl
    have r1 := box_cells HR3.out 1 (.int .i64 0) rfl
    have r2 := box_cells HR3.out 2 (.slice none 0 0) rfl
    have rf : ∀ i, w3.frozen? ⟨H + 1, i, none⟩ = false := by intro i; have := HR3.out; simp [World.frozen?, this]
    have hgeH : w.heap.size ≤ H + 1 := by rw [HH.out]; omega
    have hle : w.heap.size ≤ w.heap.size := Nat.le_refl _
    go_upto_region 6 with fail
    rw [← hw3, ← hX]
    have HW3 := Lib.hid hw3; clear hw3
    have HXX := Lib.hid hX; clear hX
    by_cases hbad : bad2 = true ∨ at2 < b.length
    · have hv3 := HV2.out
      rw [endC_lt b ⟨at2, bad2⟩ _ hbad] at hv3
      have HV3 := Lib.hid hv3; clear hv3
      have hfin := set3 HR3.out (.int .i64 0) (.int .i64 0) (.slice none 0 0)
      have hblw := blw HB3.out hfin.2 hgeH hle
      have HBL := Lib.hid hblw; clear hblw hfin
      go_cut [29] (fun v29 wx => v29 = .bool true ∧ wx = w3)
      case first =>
        cases bad2 with
        | true =>
          go_wp2_with fail
          go_meet
          exact ⟨rfl, rfl⟩
        | false =>
          have hlt : at2 < b.length := hbad.resolve_left (by simp)
          have t1 : decide (at2 < b.length) = true := by simpa using hlt
          go_wp2_with fail
          go_meet
          exact ⟨rfl, rfl⟩
      case rest =>
        obtain ⟨rfl, hwx⟩ := hcut
        obtain rfl := hwx.symm
        go_wp2_with fail
        have hGne4 : ¬ G = H + 1 := fun e => hGne2 e.symm
        go_region_held3 (fun w' => w'.cell? ⟨H + 1 + 1, 0, none⟩ = some (.int .i64 0) ∧ w'.cell? ⟨H + 1 + 1, 1, none⟩ = some (.int .i64 0) ∧ w'.cell? ⟨H + 1 + 1, 2, none⟩ = some (.slice none 0 0) ∧ w'.cell? ⟨G, 1, none⟩ = some (.int .i64 (at2 : Int))) (go_keep) (fail)
        go_wp2_with fail
        refine bodyPost_ret (v := .tuple #[.agg #[.int .i64 0, .int .i64 0, .slice none 0 0], .int .i64 (at2 : Int), .int .i64 61]) (by simp [results, Try.results102, go_sem, *]) rfl ?_
        rw [HV3.out]
        exact ⟨_, rfl, Own3.nil _ _ _, below_drewN HBL.out 1⟩
    · have hv3 := HV2.out
      rw [endC_ok b ⟨at2, bad2⟩ _ hbad] at hv3
      have HV3 := Lib.hid hv3; clear hv3
      obtain rfl : bad2 = false := by cases bad2 <;> simp_all
      have t1 : decide (at2 < b.length) = false := by simp; omega
      have d2 := box_cells HF3.out 2 (.func (.func 107) #[] #[]) rfl
      have x0 := box_cells HX3.out 0 (.int .i64 (t : Int)) rfl
      have x1 := box_cells HX3.out 1 (.int .i64 (lo : Int)) rfl
      have x2 := box_cells HX3.out 2 (.slice Av ps.length cv) rfl
      clear hbad
      go_wp2_with fail
      refine (rightMan_any (t : Int) (lo : Int) _ ps w3 HO3.out.rd HWB.out).mono ?_
      rintro e w4 ⟨rfl, hb4⟩
      have HR4 := Lib.hid (heap_below HR3.out hb4)
      have HN4 := Lib.hid (heap_below HN3.out hb4)
      have HX4 := Lib.hid (heap_below HX3.out hb4)
      have HO4 := Lib.hid (HO3.out.below hb4)
      have HB4 := Lib.hid (HB3.out.trans (hb4.mono HB3.out.size)); clear hb4
      clear n0 n1 n2 r0 r1 r2 rf d2 x0 x1 x2 c1 c2
      have r0 := box_cells HR4.out 0 (.int .i64 0) rfl
      have r1 := box_cells HR4.out 1 (.int .i64 0) rfl
      have r2 := box_cells HR4.out 2 (.slice none 0 0) rfl
      have rf : ∀ i, w4.frozen? ⟨H + 1, i, none⟩ = false := by intro i; have := HR4.out; simp [World.frozen?, this]
      cases hkk : manOk (t : Int) (lo : Int) ps with
      | true =>
        have hv4 := HV3.out
        rw [hkk, if_neg (by simp)] at hv4
        have HV4 := Lib.hid hv4; clear hv4 hkk
        have x0 := box_cells HX4.out 0 (.int .i64 (t : Int)) rfl
        have x1 := box_cells HX4.out 1 (.int .i64 (lo : Int)) rfl
        have x2 := box_cells HX4.out 2 (.slice Av ps.length cv) rfl
        have hfin := set3 HR4.out (.int .i64 (t : Int)) (.int .i64 (lo : Int)) (.slice Av ps.length cv)
        have hblw := blw HB4.out hfin.2 hgeH hle
        have HBL := Lib.hid hblw; clear hblw
        have HFI := Lib.hid hfin; clear hfin
        go_wp2_with fail
        refine bodyPost_ret (v := .tuple #[.agg #[.int .i64 (t : Int), .int .i64 (lo : Int), .slice Av ps.length cv], .int .i64 0, .int .i64 0]) (by simp [results, Try.results102, go_sem, *]) rfl ?_
        have ho5 := HO4.out.grown HFI.out.2 (HO4.out.ne_ HR4.out (by decide))
        rw [HV4.out]
        exact ⟨_, rfl, ho5, HBL.out⟩
      | false =>
        have hv4 := HV3.out
        rw [hkk, if_pos rfl] at hv4
        have HV4 := Lib.hid hv4; clear hv4 hkk
        have n0 := box_cells HN4.out 0 (.int .i64 0) rfl
        have n1 := box_cells HN4.out 1 (.int .i64 0) rfl
        have n2 := box_cells HN4.out 2 (.slice none 0 0) rfl
        have hfin := set3 HR4.out (.int .i64 0) (.int .i64 0) (.slice none 0 0)
        have hblw := blw HB4.out hfin.2 hgeH hle
        have HBL := Lib.hid hblw; clear hblw hfin
        go_wp2_with fail
        refine bodyPost_ret (v := .tuple #[.agg #[.int .i64 0, .int .i64 0, .slice none 0 0], .int .i64 0, .int .i64 60]) (by simp [results, Try.results102, go_sem, *]) rfl ?_
        rw [HV4.out]
        exact ⟨_, rfl, Own3.nil _ _ _, HBL.out⟩
  · have hv : decMan b = ((0, 0, []), 0, 61) := by unfold decMan; rw [startC_no hk, rMan_bad]; simp only; rw [endC_bad]; rfl
    have HV := Lib.hid hv; clear hv
    have hfin := set3 HR.out (.int .i64 0) (.int .i64 0) (.slice none 0 0)
    have hblw : Below w.heap.size w (((w0.setCell ⟨H + 1, 0, none⟩ (.int .i64 0)).setCell ⟨H + 1, 1, none⟩ (.int .i64 0)).setCell ⟨H + 1, 2, none⟩ (.slice none 0 0)) := blw HB0.out hfin.2 (by rw [HH.out]; omega) (Nat.le_refl _)
    have HBL := Lib.hid hblw; clear hblw hfin
    by_cases h0 : b.length = 0
    · have t1 : b = [] := List.eq_nil_of_length_eq_zero h0
      subst t1
      go_quiet (fail)
      go_wp2_with fail
      refine bodyPost_ret (v := .tuple #[.agg #[.int .i64 0, .int .i64 0, .slice none 0 0], .int .i64 0, .int .i64 61]) (by simp [results, Try.results102, go_sem, *]) rfl ?_
      rw [HV.out]
      exact ⟨_, rfl, Own3.nil _ _ _, below_drewN HBL.out nq⟩
    · obtain ⟨A', c', he, _, hcm, hcell⟩ := HRD.out
      obtain ⟨ad, hA, hcells⟩ := hcell (by omega)
      have hcx := hcells 0 (by omega)
      obtain ⟨x, hx⟩ : ∃ x, x = b[0]'(by omega) := ⟨_, rfl⟩
      rw [← hx, bv_nat] at hcx
      rw [show ad.add 0 = ad from by simp [Addr.add]] at hcx
      injection he with e1 e2 e3
      subst e1 hA
      have hne : x ≠ 77 := fun e => hk (by rw [List.getElem?_eq_getElem (by omega), ← hx, e])
      have t2 : ((x.toNat : Int) != 77) = true := by rw [bne_iff_ne]; intro e; exact hne (UInt8.toNat_inj.1 (by show x.toNat = 77; omega))
      have h0' : 0 < b.length := by omega
      have hn0 : ¬ b = [] := fun e => h0 (by rw [e]; rfl)
      clear hcells hcell e2 e3 hx hk hne
      go_quiet (fail)
      go_wp2_with fail
      refine bodyPost_ret (v := .tuple #[.agg #[.int .i64 0, .int .i64 0, .slice none 0 0], .int .i64 0, .int .i64 61]) (by simp [results, Try.results102, go_sem, *]) rfl ?_
      rw [HV.out]
      exact ⟨_, rfl, Own3.nil _ _ _, below_drewN HBL.out nq⟩

/-- What Manifest answers. -/
def ManA (w : World) (d : (Nat × Nat × List Pai) × Nat × Nat) (e : Ending) (w' : World) : Prop :=
  ∃ v, e = .returned (.tuple #[.agg #[.int .i64 (d.1.1 : Nat), .int .i64 (d.1.2.1 : Nat), v], .int .i64 (d.2.1 : Nat), .int .i64 (d.2.2 : Nat)]) ∧ Own3 w' w.heap.size 79 v (d.1.2.2.map pV) ∧ Below w.heap.size w w'

set_option maxRecDepth 100000 in
set_option maxHeartbeats 1000000 in
theorem rman_any (v : Value) (b : List UInt8) (w : World) (hr : RdB w v b) (hl : b.length ≤ 140737488355328) :
    Calls Try.prog 58 #[v] w (ManA w (decMan b)) := by
  obtain ⟨A, c, rfl, _, _, _⟩ := id hr
  obtain ⟨H, hH⟩ : ∃ H, H = w.heap.size := ⟨_, rfl⟩
  obtain ⟨w0, hw0⟩ : ∃ w0, w0 = w.alloc (.cells #[.int .i64 0, .int .i64 0, .slice none 0 0] 74) := ⟨_, rfl⟩
  have hb0 : Below w.heap.size w w0 := by rw [hw0]; exact (Below.refl _ _).alloc (Nat.le_refl _) _
  have hx0 : w0.heap[H]? = some (.cells #[.int .i64 0, .int .i64 0, .slice none 0 0] 74 (0, 0)) := by rw [hw0, hH]; exact heap_alloc_new w _
  have ht := takeMan_any A c b w0 (hr.below hb0) hl
  obtain ⟨⟨⟨t, lo, ps⟩, at_, code⟩, hd⟩ : ∃ d, d = decMan b := ⟨_, rfl⟩
  rw [← hd] at ht ⊢
  simp only at ht
  have HB0 := Lib.hid hb0; clear hb0
  have HX0 := Lib.hid hx0; clear hx0
  have HT := Lib.hid ht; clear ht hd
  go_enter Try.func58, Try.ntmps58
  go_wp2_with fail
  rw [← hH]
  rw [← hw0]
  have HH := Lib.hid hH; clear hw0 hH
  refine HT.out.mono ?_
  rintro e w1 ⟨v, rfl, ho1, hb1⟩
  have HX1 := Lib.hid (heap_below HX0.out hb1)
  have HB1 := Lib.hid (HB0.out.trans (hb1.mono HB0.out.size))
  obtain ⟨Av, cv, rfl, _, _, _⟩ := id ho1.rd
  rw [List.length_map] at ho1 ⊢
  have HO1 := Lib.hid (ho1.base HB0.out.size)
  clear ho1 hb1
  have r0 := box_cells HX1.out 0 (.int .i64 0) rfl
  have r1 := box_cells HX1.out 1 (.int .i64 0) rfl
  have r2 := box_cells HX1.out 2 (.slice none 0 0) rfl
  have rf : ∀ i, w1.frozen? ⟨H, i, none⟩ = false := by intro i; have := HX1.out; simp [World.frozen?, this]
  have hfin := set3 HX1.out (.int .i64 (t : Int)) (.int .i64 (lo : Int)) (.slice Av ps.length cv)
  have HBL := Lib.hid (blw HB1.out hfin.2 (by rw [HH.out]; exact Nat.le_refl _) (Nat.le_refl _))
  have HFI := Lib.hid hfin; clear hfin
  go_wp2_with fail
  refine bodyPost_ret (v := .tuple #[.agg #[.int .i64 (t : Int), .int .i64 (lo : Int), .slice Av ps.length cv], .int .i64 at_, .int .i64 code]) (by simp [results, Try.results58, go_sem, *]) rfl ?_
  have ho5 := HO1.out.grown HFI.out.2 (HO1.out.ne_ HX1.out (by decide))
  exact ⟨_, rfl, ho5, HBL.out⟩

end Go.Proofs.Ytggjipfdfpdecaa
