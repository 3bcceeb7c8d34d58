/- Texts merged: RcCw, RcMb, RcMc, RcMd. Each says below what it proves. -/
import Derived.Test.YtggjipfdfpdecaaZ07
import Derived.Test.YtggjipfdfpdecaaZ01
import Derived.Maps.OwnSet
import Derived.Maps.Views
/- The walks of record's Commit: a write is read, so many are read. -/
set_option linter.unusedVariables false
namespace Go.Proofs.Ytggjipfdfpdecaa
open Go.RowKit
attribute [local go_sem] bs_list bs_size

theorem bool_bv (p : Bool) (x : UInt8) : Value.bool p ≠ bv x := by simp [bv]
theorem RdSt.ne_ {w : World} {g R : Nat} {A : Option Addr} {c : Nat} {b : List UInt8} {s : RS} {cs : Array Value} {t : TypeId} {fr : Nat × Nat} (h : RdSt w g A c b s) (hR : w.heap[R]? = some (.cells cs t fr)) (ht : t ≠ 151) : R ≠ g := by
  rintro rfl
  rw [h.1] at hR
  injection hR with hR
  injection hR with _ h2 _
  exact ht h2.symm

set_option maxRecDepth 100000 in
set_option maxHeartbeats 2000000 in
theorem rw1_any (g R : Nat) (A : Option Addr) (c : Nat) (b : List UInt8) (s : RS) (w : World) (hs : RdSt w g A c b s) (hR : w.heap[R]? = some (.cells #[.pointer (some ⟨g, 0, none⟩)] 113 (0, 0))) (hl : b.length ≤ 140737488355328) (ha : s.at_ ≤ 140737488355328) :
    Calls Try.prog 94 #[.pointer (some ⟨R, 0, none⟩)] w fun e w' => e = .returned (.agg #[.string (bs (rWri b s).1.key), .string (bs (rWri b s).1.val), .bool (rWri b s).1.gone]) ∧ RdSt w' g A c b (rWri b s).2 ∧ w.grownBy w' (some g) := by
  have hRg := hs.ne_ hR (by decide)
  have hgl : g < w.heap.size := (Array.getElem?_eq_some_iff.1 hs.1).1
  obtain ⟨w0, hw0⟩ : ∃ w0, w0 = w.alloc (.cells #[.string (bs []), .string (bs []), .bool false] 66) := ⟨_, rfl⟩
  have hb0 : Below w.heap.size w w0 := by rw [hw0]; exact (Below.refl _ _).alloc (Nat.le_refl _) _
  have hx0 : w0.heap[w.heap.size]? = some (.cells #[.string (bs []), .string (bs []), .bool false] 66 (0, 0)) := by rw [hw0]; exact heap_alloc_new w _
  obtain ⟨H, hH⟩ : ∃ H, H = w.heap.size := ⟨_, rfl⟩
  rw [← hH] at hx0
  have HS0 := Lib.hid (hs.keep hb0)
  have HG0 := Lib.hid (below_grown hb0 (some g))
  have HX0 := Lib.hid hx0
  have HR0 := Lib.hid (heap_below hR hb0)
  have cr := box_cells HR0.out 0 (.pointer (some ⟨g, 0, none⟩)) rfl
  have hHg : H ≠ g := by omega
  have hHR : H ≠ R := by have := (Array.getElem?_eq_some_iff.1 hR).1; omega
  clear hx0 hb0 hR
  obtain ⟨⟨f, s1⟩, hf⟩ : ∃ p, p = rFlag b s := ⟨_, rfl⟩
  obtain ⟨⟨k, s2⟩, hk⟩ : ∃ p, p = rTxt b 16 s1 := ⟨_, rfl⟩
  obtain ⟨⟨v, s3⟩, hv⟩ : ∃ p, p = rTxt b 64 s2 := ⟨_, rfl⟩
  have hres : rWri b s = if f = true then (⟨k, [], true⟩, s2) else (⟨k, v, false⟩, s3) := by unfold rWri; rw [← hf]; simp only; rw [← hk]; simp only; rw [← hv]
  have HF := Lib.hid hf; clear hf
  have HK := Lib.hid hk; clear hk
  have HV := Lib.hid hv; clear hv
  have HRES := Lib.hid hres; clear hres
  go_enter Try.func94, Try.ntmps94
  go_upto_region 1 with fail
  simp only [bs_nil]
  rw [← hw0, ← hH]
  have HH := Lib.hid hH; clear hw0 hH
  go_wp2_with fail
  refine (rflag_any g A c b s w0 HS0.out hl ha).mono ?_
  rintro e w1 ⟨rfl, hs1, hg1⟩
  rw [← HF.out] at hs1 ⊢
  simp only at hs1 ⊢
  have HG1 := Lib.hid (HG0.out.trans hg1)
  have HX1 := Lib.hid (heap_grown HX0.out hg1 hHg)
  have HR1 := Lib.hid (heap_grown HR0.out hg1 hRg)
  have HS1 := Lib.hid hs1; clear hs1 hg1
  -- the write's own variable
  obtain ⟨w2, hw2⟩ : ∃ w2, w2 = w1.alloc (.cells #[.string (bs []), .string (bs []), .bool f] 66) := ⟨_, rfl⟩
  obtain ⟨X, hX⟩ : ∃ X, X = w1.heap.size := ⟨_, rfl⟩
  have hb2 : Below w1.heap.size w1 w2 := by rw [hw2]; exact (Below.refl _ _).alloc (Nat.le_refl _) _
  have hx2 : w2.heap[X]? = some (.cells #[.string (bs []), .string (bs []), .bool f] 66 (0, 0)) := by rw [hw2, hX]; exact heap_alloc_new w1 _
  have hHl : H < w1.heap.size := (Array.getElem?_eq_some_iff.1 HX1.out).1
  have hgl2 : g < w1.heap.size := (Array.getElem?_eq_some_iff.1 HS1.out.1).1
  have hRl : R < w1.heap.size := (Array.getElem?_eq_some_iff.1 HR1.out).1
  have hXg : X ≠ g := by omega
  have hHX : H ≠ X := by omega
  have hRX : R ≠ X := by omega
  have hwX : w.heap.size ≤ X := by rw [hX]; exact HG1.out.size
  have hwH : w.heap.size ≤ H := by rw [HH.out]; exact Nat.le_refl _
  have HY2 := Lib.hid hx2
  have HX2 := Lib.hid (heap_below HX1.out hb2)
  have HR2 := Lib.hid (heap_below HR1.out hb2)
  have HS2 := Lib.hid (HS1.out.keep hb2)
  have HG2 := Lib.hid (HG1.out.trans (below_grown hb2 (some g)))
  have cr2 := box_cells HR2.out 0 (.pointer (some ⟨g, 0, none⟩)) rfl
  clear hb2 hx2 hHl hgl2 hRl cr
  go_upto_region 2 with fail
  simp only [bs_nil]
  rw [← hw2, ← hX]
  have HW2 := Lib.hid hw2; clear hw2
  have HXe := Lib.hid hX; clear hX
  go_wp2_with fail
  refine (rtext_any g A c b s1 16 w2 HS2.out hl (by omega)).mono ?_
  rintro e w3 ⟨rfl, hs3, hg3⟩
  rw [← HK.out] at hs3 ⊢
  simp only at hs3 ⊢
  have HY3 := Lib.hid (heap_grown HY2.out hg3 hXg)
  have HX3 := Lib.hid (heap_grown HX2.out hg3 hHg)
  have HR3 := Lib.hid (heap_grown HR2.out hg3 hRg)
  have HG3 := Lib.hid (HG2.out.trans hg3)
  obtain ⟨w4, hw4⟩ : ∃ w4, w4 = w3.setCell ⟨X, 0, none⟩ (.string (bs k)) := ⟨_, rfl⟩
  have hg4 : w3.grownBy w4 (some X) := by rw [hw4]; exact only_one _ _ _ _
  have hy4 : w4.heap[X]? = some (.cells #[.string (bs k), .string (bs []), .bool f] 66 (0, 0)) := by rw [hw4]; exact set_at HY3.out 0 _
  have HS4 := Lib.hid (hs3.other HY3.out (noByte3 (str_bv _) (str_bv _) (bool_bv _)) (fun e => hXg e.symm) hg4)
  have HX4 := Lib.hid (heap_grown HX3.out hg4 hHX)
  have HR4 := Lib.hid (heap_grown HR3.out hg4 hRX)
  have HG4 := Lib.hid (grown_new HG3.out hg4 hwX)
  have HY4 := Lib.hid hy4
  have f3 : w3.frozen? ⟨X, 0, none⟩ = false := by have := HY3.out; simp [World.frozen?, this]
  have c3 := box_cells HY3.out 0 (.string (bs [])) rfl
  clear hs3 hg3 hg4 hy4 cr2
  go_upto_region 3 with fail
  rw [← hw4]
  have HW4 := Lib.hid hw4; clear hw4 f3 c3
  have cr4 := box_cells HR4.out 0 (.pointer (some ⟨g, 0, none⟩)) rfl
  have y0 := box_cells HY4.out 0 (.string (bs k)) rfl
  have y1 := box_cells HY4.out 1 (.string (bs [])) rfl
  have y2 := box_cells HY4.out 2 (.bool f) rfl
  cases f with
  | true =>
    have hr := HRES.out
    rw [if_pos rfl] at hr
    have HR9 := Lib.hid hr; clear hr
    have r4 : ∀ i, w4.frozen? ⟨H, i, none⟩ = false := by intro i; have := HX4.out; simp [World.frozen?, this]
    have r6 := box_cells HX4.out 0 (.string (bs [])) rfl
    have r7 := box_cells HX4.out 1 (.string (bs [])) rfl
    have r8 := box_cells HX4.out 2 (.bool false) rfl
    have hne3 : ¬ H = X := hHX
    have hne4 : ¬ X = H := fun e => hHX e.symm
    obtain ⟨-, hs8⟩ := set3 HX4.out (.string (bs k)) (.string (bs [])) (.bool true)
    have HS8 := Lib.hid (HS4.out.other HX4.out (noByte3 (str_bv _) (str_bv _) (bool_bv _)) (fun e => hHg e.symm) hs8)
    have HG8 := Lib.hid (grown_new HG4.out hs8 hwH)
    clear hs8
    go_wp2_with fail
    refine bodyPost_ret (v := .agg #[.string (bs k), .string (bs []), .bool true]) (by simp [results, Try.results94, go_sem, *]) rfl ?_
    rw [HR9.out]
    exact ⟨rfl, HS8.out, HG8.out⟩
  | false =>
    have hr := HRES.out
    rw [if_neg (by simp)] at hr
    have HR9 := Lib.hid hr; clear hr
    go_wp2_with fail
    refine (rtext_any g A c b s2 64 w4 HS4.out hl (by omega)).mono ?_
    rintro e w5 ⟨rfl, hs5, hg5⟩
    rw [← HV.out] at hs5 ⊢
    simp only at hs5 ⊢
    have HY5 := Lib.hid (heap_grown HY4.out hg5 hXg)
    have HX5 := Lib.hid (heap_grown HX4.out hg5 hHg)
    have HG5 := Lib.hid (HG4.out.trans hg5)
    have HY6 := Lib.hid (set_at HY5.out 1 (.string (bs v)))
    have HX6 := Lib.hid (heap_grown HX5.out (only_one w5 X 1 (.string (bs v))) hHX)
    have HS6 := Lib.hid (hs5.other HY5.out (noByte3 (str_bv _) (str_bv _) (bool_bv _)) (fun e => hXg e.symm) (only_one w5 X 1 (.string (bs v))))
    have HG6 := Lib.hid (grown_new HG5.out (only_one w5 X 1 (.string (bs v))) hwX)
    obtain ⟨-, hs8⟩ := set3 HX6.out (.string (bs k)) (.string (bs v)) (.bool false)
    have HS8 := Lib.hid (HS6.out.other HX6.out (noByte3 (str_bv _) (str_bv _) (bool_bv _)) (fun e => hHg e.symm) hs8)
    have HG8 := Lib.hid (grown_new HG6.out hs8 hwH)
    have e5 := box_cells HY5.out 0 (.string (bs k)) rfl
    have e6 := box_cells HY5.out 1 (.string (bs [])) rfl
    have e7 := box_cells HY5.out 2 (.bool false) rfl
    have f5 : ∀ i, w5.frozen? ⟨X, i, none⟩ = false := by intro i; have := HY5.out; simp [World.frozen?, this]
    have r5 : ∀ i, w5.frozen? ⟨H, i, none⟩ = false := by intro i; have := HX5.out; simp [World.frozen?, this]
    have r6 := box_cells HX5.out 0 (.string (bs [])) rfl
    have r7 := box_cells HX5.out 1 (.string (bs [])) rfl
    have r8 := box_cells HX5.out 2 (.bool false) rfl
    have hne3 : ¬ H = X := hHX
    have hne4 : ¬ X = H := fun e => hHX e.symm
    clear hs8 hs5 hg5 cr4 y0 y1 y2
    go_wp2_with fail
    refine bodyPost_ret (v := .agg #[.string (bs k), .string (bs v), .bool false]) (by simp [results, Try.results94, go_sem, *]) rfl ?_
    rw [HR9.out]
    exact ⟨rfl, HS8.out, HG8.out⟩

theorem rd_keep {w w2 w3 : World} {v : Value} {b : List UInt8} (h0 : RdB w v b) (h2 : RdB w2 v b) (hb : Below w.heap.size w2 w3) : RdB w3 v b := by
  obtain ⟨A, c, hv, h3, h4, h5⟩ := h0
  obtain ⟨A', c', hv', h3', h4', h5'⟩ := h2
  refine ⟨A', c', hv', h3', h4', fun hp => ?_⟩
  obtain ⟨ad, hA, hc⟩ := h5 hp
  obtain ⟨ad', hA', hc'⟩ := h5' hp
  rw [hv] at hv'
  injection hv' with e _ _
  rw [hA, hA'] at e
  injection e with e
  subst e
  exact ⟨ad, hA', fun j hj => (hb.cell (World.block_lt_of_cell? w _ (hc j hj))).trans (hc' j hj)⟩
theorem RdSt.under {w w2 w3 : World} {g : Nat} {A : Option Addr} {c : Nat} {b : List UInt8} {s s' : RS} (h : RdSt w2 g A c b s) (h0 : RdSt w g A c b s') (hb : Below w.heap.size w2 w3) : RdSt w3 g A c b s :=
  ⟨(hb.block g (Array.getElem?_eq_some_iff.1 h0.1).1).trans h.1, rd_keep h0.2 h.2 hb⟩
theorem grown_below {w w1 w2 : World} {row : Option Nat} (h : w.grownBy w1 row) (hb : Below w.heap.size w1 w2) : w.grownBy w2 row :=
  ⟨hb.os.trans h.os, hb.tape.trans h.tape, hb.output.trans h.output, Nat.le_trans h.size hb.size, fun k hk hne => (hb.block k hk).trans (h.block k hk hne)⟩
/-- What list answers. -/
def ListW (g : Nat) (A : Option Addr) (c : Nat) (b : List UInt8) (w : World) (r : List Wri × RS) (e : Ending) (w' : World) : Prop :=
  ∃ v, e = .returned v ∧ Own3 w' w.heap.size 66 v (r.1.map wV) ∧ RdSt w' g A c b r.2 ∧ w.grownBy w' (some g)

theorem wV_one (x : Wri) : ∀ u ∈ (wV x).cells, u.oneCell' = true := by
  intro u hu
  simp [wV, V3.cells] at hu
  rcases hu with rfl | rfl | rfl <;> rfl

set_option maxRecDepth 100000 in
set_option maxHeartbeats 2000000 in
theorem listW_any (g R : Nat) (A : Option Addr) (c : Nat) (b : List UInt8) (s : RS) (w : World) (hs : RdSt w g A c b s) (hR : w.heap[R]? = some (.cells #[.pointer (some ⟨g, 0, none⟩)] 113 (0, 0))) (hl : b.length ≤ 140737488355328) (ha : s.at_ ≤ 140737488355328) :
    Calls Try.prog 93 #[.pointer (some ⟨g, 0, none⟩), .int .i64 64, .func (.func 94) #[] #[.pointer (some ⟨R, 0, none⟩)]] w (ListW g A c b w (rList (rWri b) (rNum b 64 s).1 (rNum b 64 s).2)) := by
  have hRg := hs.ne_ hR (by decide)
  obtain ⟨⟨N, s1⟩, hN⟩ : ∃ p, p = rNum b 64 s := ⟨_, rfl⟩
  have hN64 : N ≤ 64 := by have := rNum_le b 64 s; rw [← hN] at this; exact this
  have ha1 : s1.at_ ≤ 140737488355328 := by have := rNum_at b 64 s; rw [← hN] at this; simp only at this; omega
  rw [← hN]
  simp only
  have HS := Lib.hid hs
  have HR := Lib.hid hR
  have HN := Lib.hid hN; clear hN hs hR
  obtain ⟨base, hbase⟩ : ∃ x, x = w.heap.size := ⟨_, rfl⟩
  have HBE := Lib.hid hbase
  have hwb : w.heap.size ≤ base := by omega
  clear hbase
  go_enter Try.func93, Try.ntmps93
  go_wp2_with fail
  refine (rnum_any g A c b s 64 w HS.out hl (by omega)).mono ?_
  rintro e w1 ⟨rfl, hs1, hg1⟩
  rw [← HN.out] at hs1 ⊢
  simp only at hs1 ⊢
  have HS1 := Lib.hid hs1
  have HR1 := Lib.hid (heap_grown HR.out hg1 hRg)
  have HG1 := Lib.hid hg1
  clear hs1 hg1
  go_wp2_with fail
  go_loopw [7, 8] (fun v7 v8 wr => ∃ j : Nat, j ≤ N ∧ v8 = .int .i64 ((N - j : Nat) : Int) ∧ Own3 wr base 66 v7 ((rList (rWri b) j s1).1.map wV) ∧ RdSt wr g A c b (rList (rWri b) j s1).2 ∧ w.grownBy wr (some g) ∧ wr.heap[R]? = some (.cells #[.pointer (some ⟨g, 0, none⟩)] 113 (0, 0))) (fun _ v8 _ => (intOf v8).toNat)
  case atStart => exact ⟨0, by omega, by simp, Own3.nil _ _ _, HS1.out, HG1.out, HR1.out⟩
  case round =>
    obtain ⟨j, hj, rfl, ho, hs, hg, hr⟩ := hrel
    obtain ⟨⟨xs, sj⟩, hq⟩ : ∃ p, p = rList (rWri b) j s1 := ⟨_, rfl⟩
    have hxl : xs.length ≤ 64 := by have := rList_len (rWri b) j s1; rw [← hq] at this; simp only at this; omega
    have haj : sj.at_ ≤ 140737488355328 := by have := rList_at b (rWri b) (rWri_at b) j s1; rw [← hq] at this; simp only at this; omega
    rw [← hq] at ho hs
    simp only at ho hs
    have hsn := rList_snoc (rWri b) j s1
    have hst := fun h => rList_stop (rWri b) N j s1 hj h
    rw [← hq] at hsn hst
    simp only at hsn hst
    have HSN := Lib.hid hsn
    have HST := Lib.hid hst
    have HQ := Lib.hid hq
    have c2 := hs.c2
    have hne := ho.ne_ hs.1 (by decide)
    have HO := Lib.hid ho
    have HSJ := Lib.hid hs
    have HGJ := Lib.hid hg
    have HRJ := Lib.hid hr
    have hsz : base ≤ wr.heap.size := by rw [HBE.out]; exact hg.size
    obtain ⟨A7, c7, rfl, hc7, hc8, _⟩ := id ho.rd
    rw [List.length_map]
    rw [List.length_map] at hne
    clear hsn hst hq ho hs hg hr hc7 hc8
    by_cases hjN : j < N
    · have t1 : decide ((0 : Int) < ((N - j : Nat) : Int)) = true := by simp; omega
      obtain ⟨aj, bj⟩ := sj
      cases bj with
      | true =>
        have hfin := HST.out rfl
        have HFIN := Lib.hid hfin; clear hfin
        simp only at c2
        go_wp2_with fail
        go_ret
        refine ⟨_, rfl, ?_, ?_, HGJ.out⟩
        · rw [HFIN.out, ← HBE.out]; have := HO.out; rwa [List.length_map] at this
        · rw [HFIN.out]; exact HSJ.out
      | false =>
        have hnx := HSN.out rfl
        have HNX := Lib.hid hnx; clear hnx
        simp only at c2
        go_wp2_with fail
        refine (rw1_any g R A c b ⟨aj, false⟩ wr HSJ.out HRJ.out hl haj).mono ?_
        rintro e w2 ⟨rfl, hs2, hg2⟩
        obtain ⟨⟨x, s2⟩, hx⟩ : ∃ p, p = rWri b ⟨aj, false⟩ := ⟨_, rfl⟩
        have hnx := HNX.out
        rw [← hx] at hs2 hnx ⊢
        simp only at hs2 hnx ⊢
        have HNX2 := Lib.hid hnx
        have ho2 := HO.out.grown hg2 (by rw [List.length_map]; exact hne)
        rw [List.length_map] at ho2
        have HO2 := Lib.hid ho2
        have HS2 := Lib.hid hs2
        have HG2 := Lib.hid (HGJ.out.trans hg2)
        have HR2 := Lib.hid (heap_grown HRJ.out hg2 hRg)
        have hsz2 := Nat.le_trans hsz hg2.size
        clear hx hs2 hg2 ho2 hnx
        go_wp2_with (at_builtin; refine own3_append1 base w2.heap.size rfl 62 66 40 _ Try.underlying62 info66 rfl rfl (.tmp 23) (.tmp 26) rfl _ (xs.map wV) (wV x) ?hy rfl rfl HO2.out ?hb ?hl1 ?hl2 ?_; (case hy => exact wV_one x); (case hb => exact hsz2); (case hl1 => rw [List.length_map]; omega); (case hl2 => rw [List.length_map]; omega); intro v3 w3 hown hb3 hg3 hat; have HO3 := Lib.hid hown; have HBL3 := Lib.hid hb3; have HGR3 := Lib.hid hg3; clear hown hb3 hg3 hat)
        have HBW : Below w.heap.size w2 w3 := by have := HBL3.out; rwa [HBE.out] at this
        refine ⟨⟨j + 1, by omega, ?_, ?_, ?_, grown_below HG2.out HBW, ?_⟩, ?_⟩
        · congr 1; omega
        · rw [HNX2.out, List.map_append]; exact HO3.out
        · rw [HNX2.out]; exact HS2.out.under HS.out HBW
        · exact (HBW.block R (Array.getElem?_eq_some_iff.1 HR.out).1).trans HR2.out
        · simp [intOf]; omega
    · have hjj : j = N := by omega
      have t1 : decide ((0 : Int) < ((N - j : Nat) : Int)) = false := by simp; omega
      have HJJ := Lib.hid hjj; clear hjj
      go_wp2_with fail
      go_ret
      have hq := HQ.out
      rw [HJJ.out] at hq
      refine ⟨_, rfl, ?_, ?_, HGJ.out⟩
      · rw [← hq, ← HBE.out]; have := HO.out; rwa [List.length_map] at this
      · rw [← hq]; exact HSJ.out
end Go.Proofs.Ytggjipfdfpdecaa
/- The walk of record's Manifest: a pair is read. -/
set_option linter.unusedVariables false
namespace Go.Proofs.Ytggjipfdfpdecaa
open Go.RowKit
attribute [local go_sem] bs_list bs_size

/-- A pair as cells. -/
def pV (p : Pai) : V3 := ⟨.int .i64 p.num, .int .i64 p.from_, .int .i64 p.to_⟩
theorem pV_one (x : Pai) : ∀ u ∈ (pV x).cells, u.oneCell' = true := by
  intro u hu
  simp [pV, V3.cells] at hu
  rcases hu with rfl | rfl | rfl <;> rfl

set_option maxRecDepth 100000 in
set_option maxHeartbeats 2000000 in
theorem rp1_any (g R : Nat) (A : Option Addr) (c : Nat) (b : List UInt8) (s : RS) (w : World) (hs : RdSt w g A c b s) (hR : w.heap[R]? = some (.cells #[.pointer (some ⟨g, 0, none⟩)] 113 (0, 0))) (hl : b.length ≤ 140737488355328) :
    Calls Try.prog 106 #[.pointer (some ⟨R, 0, none⟩)] w fun e w' => e = .returned (.agg #[.int .i64 (rPai b s).1.num, .int .i64 (rPai b s).1.from_, .int .i64 (rPai b s).1.to_]) ∧ RdSt w' g A c b (rPai b s).2 ∧ w.grownBy w' (some g) := by
  have hRg := hs.ne_ hR (by decide)
  have hgl : g < w.heap.size := (Array.getElem?_eq_some_iff.1 hs.1).1
  obtain ⟨w0, hw0⟩ : ∃ w0, w0 = w.alloc (.cells #[.int .i64 0, .int .i64 0, .int .i64 0] 79) := ⟨_, rfl⟩
  have hb0 : Below w.heap.size w w0 := by rw [hw0]; exact (Below.refl _ _).alloc (Nat.le_refl _) _
  have hx0 : w0.heap[w.heap.size]? = some (.cells #[.int .i64 0, .int .i64 0, .int .i64 0] 79 (0, 0)) := by rw [hw0]; exact heap_alloc_new w _
  obtain ⟨H, hH⟩ : ∃ H, H = w.heap.size := ⟨_, rfl⟩
  rw [← hH] at hx0
  have HS0 := Lib.hid (hs.keep hb0)
  have HG0 := Lib.hid (below_grown hb0 (some g))
  have HX0 := Lib.hid hx0
  have HR0 := Lib.hid (heap_below hR hb0)
  have cr := box_cells HR0.out 0 (.pointer (some ⟨g, 0, none⟩)) rfl
  have hHg : H ≠ g := by omega
  have hHR : H ≠ R := by have := (Array.getElem?_eq_some_iff.1 hR).1; omega
  clear hx0 hb0 hR
  obtain ⟨⟨f, s1⟩, hf⟩ : ∃ p, p = rNum b 2147483647 s := ⟨_, rfl⟩
  obtain ⟨⟨k, s2⟩, hk⟩ : ∃ p, p = rNum b 1099511627775 s1 := ⟨_, rfl⟩
  obtain ⟨⟨v, s3⟩, hv⟩ : ∃ p, p = rNum b 1099511627775 s2 := ⟨_, rfl⟩
  have hres : rPai b s = (⟨(f : Nat), (k : Nat), (v : Nat)⟩, s3) := by unfold rPai; rw [← hf]; simp only; rw [← hk]; simp only; rw [← hv]
  rw [hres]
  have HF := Lib.hid hf; clear hf
  have HK := Lib.hid hk; clear hk
  have HV := Lib.hid hv; clear hv hres
  go_enter Try.func106, Try.ntmps106
  go_upto_region 1 with fail
  rw [← hw0, ← hH]
  have HH := Lib.hid hH; clear hw0 hH
  go_wp2_with fail
  refine (rnum_any g A c b s 2147483647 w0 HS0.out hl (by omega)).mono ?_
  rintro e w1 ⟨rfl, hs1, hg1⟩
  rw [← HF.out] at hs1 ⊢
  simp only at hs1 ⊢
  have HG1 := Lib.hid (HG0.out.trans hg1)
  have HX1 := Lib.hid (heap_grown HX0.out hg1 hHg)
  have HR1 := Lib.hid (heap_grown HR0.out hg1 hRg)
  have HS1 := Lib.hid hs1; clear hs1 hg1
  -- the pair's own variable
  obtain ⟨w2, hw2⟩ : ∃ w2, w2 = w1.alloc (.cells #[.int .i64 (f : Int), .int .i64 0, .int .i64 0] 79) := ⟨_, rfl⟩
  obtain ⟨X, hX⟩ : ∃ X, X = w1.heap.size := ⟨_, rfl⟩
  have hb2 : Below w1.heap.size w1 w2 := by rw [hw2]; exact (Below.refl _ _).alloc (Nat.le_refl _) _
  have hx2 : w2.heap[X]? = some (.cells #[.int .i64 (f : Int), .int .i64 0, .int .i64 0] 79 (0, 0)) := by rw [hw2, hX]; exact heap_alloc_new w1 _
  have hHl : H < w1.heap.size := (Array.getElem?_eq_some_iff.1 HX1.out).1
  have hgl2 : g < w1.heap.size := (Array.getElem?_eq_some_iff.1 HS1.out.1).1
  have hRl : R < w1.heap.size := (Array.getElem?_eq_some_iff.1 HR1.out).1
  have hXg : X ≠ g := by omega
  have hHX : H ≠ X := by omega
  have hRX : R ≠ X := by omega
  have hwX : w.heap.size ≤ X := by rw [hX]; exact HG1.out.size
  have hwH : w.heap.size ≤ H := by rw [HH.out]; exact Nat.le_refl _
  have HY2 := Lib.hid hx2
  have HX2 := Lib.hid (heap_below HX1.out hb2)
  have HR2 := Lib.hid (heap_below HR1.out hb2)
  have HS2 := Lib.hid (HS1.out.keep hb2)
  have HG2 := Lib.hid (HG1.out.trans (below_grown hb2 (some g)))
  have cr2 := box_cells HR2.out 0 (.pointer (some ⟨g, 0, none⟩)) rfl
  clear hb2 hx2 hHl hgl2 hRl cr
  go_upto_region 2 with fail
  rw [← hw2, ← hX]
  have HW2 := Lib.hid hw2; clear hw2
  have HXe := Lib.hid hX; clear hX
  go_wp2_with fail
  refine (rtime_any g A c b s1 w2 HS2.out hl).mono ?_
  rintro e w3 ⟨rfl, hs3, hg3⟩
  rw [← HK.out] at hs3 ⊢
  simp only at hs3 ⊢
  have HY3 := Lib.hid (heap_grown HY2.out hg3 hXg)
  have HX3 := Lib.hid (heap_grown HX2.out hg3 hHg)
  have HR3 := Lib.hid (heap_grown HR2.out hg3 hRg)
  have HG3 := Lib.hid (HG2.out.trans hg3)
  obtain ⟨w4, hw4⟩ : ∃ w4, w4 = w3.setCell ⟨X, 1, none⟩ (.int .i64 (k : Int)) := ⟨_, rfl⟩
  have hg4 : w3.grownBy w4 (some X) := by rw [hw4]; exact only_one _ _ _ _
  have hy4 : w4.heap[X]? = some (.cells #[.int .i64 (f : Int), .int .i64 (k : Int), .int .i64 0] 79 (0, 0)) := by rw [hw4]; exact set_at HY3.out 1 _
  have HS4 := Lib.hid (hs3.other HY3.out (noByte3 (int_bv _) (int_bv _) (int_bv _)) (fun e => hXg e.symm) hg4)
  have HX4 := Lib.hid (heap_grown HX3.out hg4 hHX)
  have HR4 := Lib.hid (heap_grown HR3.out hg4 hRX)
  have HG4 := Lib.hid (grown_new HG3.out hg4 hwX)
  have HY4 := Lib.hid hy4
  have f3 : w3.frozen? ⟨X, 1, none⟩ = false := by have := HY3.out; simp [World.frozen?, this]
  have c3 := box_cells HY3.out 1 (.int .i64 0) rfl
  clear hs3 hg3 hg4 hy4 cr2
  go_upto_region 3 with fail
  rw [← hw4]
  have HW4 := Lib.hid hw4; clear hw4 f3 c3
  have cr4 := box_cells HR4.out 0 (.pointer (some ⟨g, 0, none⟩)) rfl
  go_wp2_with fail
  refine (rtime_any g A c b s2 w4 HS4.out hl).mono ?_
  rintro e w5 ⟨rfl, hs5, hg5⟩
  rw [← HV.out] at hs5 ⊢
  simp only at hs5 ⊢
  have HY5 := Lib.hid (heap_grown HY4.out hg5 hXg)
  have HX5 := Lib.hid (heap_grown HX4.out hg5 hHg)
  have HG5 := Lib.hid (HG4.out.trans hg5)
  have HY6 := Lib.hid (set_at HY5.out 2 (.int .i64 (v : Int)))
  have HX6 := Lib.hid (heap_grown HX5.out (only_one w5 X 2 (.int .i64 (v : Int))) hHX)
  have HS6 := Lib.hid (hs5.other HY5.out (noByte3 (int_bv _) (int_bv _) (int_bv _)) (fun e => hXg e.symm) (only_one w5 X 2 (.int .i64 (v : Int))))
  have HG6 := Lib.hid (grown_new HG5.out (only_one w5 X 2 (.int .i64 (v : Int))) hwX)
  obtain ⟨-, hs8⟩ := set3 HX6.out (.int .i64 (f : Int)) (.int .i64 (k : Int)) (.int .i64 (v : Int))
  have HS8 := Lib.hid (HS6.out.other HX6.out (noByte3 (int_bv _) (int_bv _) (int_bv _)) (fun e => hHg e.symm) hs8)
  have HG8 := Lib.hid (grown_new HG6.out hs8 hwH)
  have e5 := box_cells HY5.out 0 (.int .i64 (f : Int)) rfl
  have e6 := box_cells HY5.out 1 (.int .i64 (k : Int)) rfl
  have e7 := box_cells HY5.out 2 (.int .i64 0) rfl
  have f5 : ∀ i, w5.frozen? ⟨X, i, none⟩ = false := by intro i; have := HY5.out; simp [World.frozen?, this]
  have r5 : ∀ i, w5.frozen? ⟨H, i, none⟩ = false := by intro i; have := HX5.out; simp [World.frozen?, this]
  have r6 := box_cells HX5.out 0 (.int .i64 0) rfl
  have r7 := box_cells HX5.out 1 (.int .i64 0) rfl
  have r8 := box_cells HX5.out 2 (.int .i64 0) rfl
  have hne3 : ¬ H = X := hHX
  have hne4 : ¬ X = H := fun e => hHX e.symm
  clear hs8 hs5 hg5 cr4
  go_wp2_with fail
  refine bodyPost_ret (v := .agg #[.int .i64 (f : Int), .int .i64 (k : Int), .int .i64 (v : Int)]) (by simp [results, Try.results106, go_sem, *]) rfl ?_
  exact ⟨rfl, HS8.out, HG8.out⟩
end Go.Proofs.Ytggjipfdfpdecaa
/- The walks of record's Manifest: pairs are read; a manifest is read. -/
set_option linter.unusedVariables false
namespace Go.Proofs.Ytggjipfdfpdecaa
open Go.RowKit
attribute [local go_sem] bs_list bs_size

/-- What list answers, at pairs. -/
def ListP (g : Nat) (A : Option Addr) (c : Nat) (b : List UInt8) (w : World) (r : List Pai × RS) (e : Ending) (w' : World) : Prop :=
  ∃ v, e = .returned v ∧ Own3 w' w.heap.size 79 v (r.1.map pV) ∧ RdSt w' g A c b r.2 ∧ w.grownBy w' (some g)


set_option maxRecDepth 100000 in
set_option maxHeartbeats 2000000 in
theorem listP_any (g R : Nat) (A : Option Addr) (c : Nat) (b : List UInt8) (s : RS) (w : World) (hs : RdSt w g A c b s) (hR : w.heap[R]? = some (.cells #[.pointer (some ⟨g, 0, none⟩)] 113 (0, 0))) (hl : b.length ≤ 140737488355328) (ha : s.at_ ≤ 140737488355328) :
    Calls Try.prog 105 #[.pointer (some ⟨g, 0, none⟩), .int .i64 16, .func (.func 106) #[] #[.pointer (some ⟨R, 0, none⟩)]] w (ListP g A c b w (rList (rPai b) (rNum b 16 s).1 (rNum b 16 s).2)) := by
  have hRg := hs.ne_ hR (by decide)
  obtain ⟨⟨N, s1⟩, hN⟩ : ∃ p, p = rNum b 16 s := ⟨_, rfl⟩
  have hN16 : N ≤ 16 := by have := rNum_le b 16 s; rw [← hN] at this; exact this
  have ha1 : s1.at_ ≤ 140737488355328 := by have := rNum_at b 16 s; rw [← hN] at this; simp only at this; omega
  rw [← hN]
  simp only
  have HS := Lib.hid hs
  have HR := Lib.hid hR
  have HN := Lib.hid hN; clear hN hs hR
  obtain ⟨base, hbase⟩ : ∃ x, x = w.heap.size := ⟨_, rfl⟩
  have HBE := Lib.hid hbase
  have hwb : w.heap.size ≤ base := by omega
  clear hbase
  go_enter Try.func105, Try.ntmps105
  go_wp2_with fail
  refine (rnum_any g A c b s 16 w HS.out hl (by omega)).mono ?_
  rintro e w1 ⟨rfl, hs1, hg1⟩
  rw [← HN.out] at hs1 ⊢
  simp only at hs1 ⊢
  have HS1 := Lib.hid hs1
  have HR1 := Lib.hid (heap_grown HR.out hg1 hRg)
  have HG1 := Lib.hid hg1
  clear hs1 hg1
  go_wp2_with fail
  go_loopw [7, 8] (fun v7 v8 wr => ∃ j : Nat, j ≤ N ∧ v8 = .int .i64 ((N - j : Nat) : Int) ∧ Own3 wr base 79 v7 ((rList (rPai b) j s1).1.map pV) ∧ RdSt wr g A c b (rList (rPai b) j s1).2 ∧ w.grownBy wr (some g) ∧ wr.heap[R]? = some (.cells #[.pointer (some ⟨g, 0, none⟩)] 113 (0, 0))) (fun _ v8 _ => (intOf v8).toNat)
  case atStart => exact ⟨0, by omega, by simp, Own3.nil _ _ _, HS1.out, HG1.out, HR1.out⟩
  case round =>
    obtain ⟨j, hj, rfl, ho, hs, hg, hr⟩ := hrel
    obtain ⟨⟨xs, sj⟩, hq⟩ : ∃ p, p = rList (rPai b) j s1 := ⟨_, rfl⟩
    have hxl : xs.length ≤ 16 := by have := rList_len (rPai b) j s1; rw [← hq] at this; simp only at this; omega
    have haj : sj.at_ ≤ 140737488355328 := by have := rList_at b (rPai b) (rPai_at b) j s1; rw [← hq] at this; simp only at this; omega
    rw [← hq] at ho hs
    simp only at ho hs
    have hsn := rList_snoc (rPai b) j s1
    have hst := fun h => rList_stop (rPai b) N j s1 hj h
    rw [← hq] at hsn hst
    simp only at hsn hst
    have HSN := Lib.hid hsn
    have HST := Lib.hid hst
    have HQ := Lib.hid hq
    have c2 := hs.c2
    have hne := ho.ne_ hs.1 (by decide)
    have HO := Lib.hid ho
    have HSJ := Lib.hid hs
    have HGJ := Lib.hid hg
    have HRJ := Lib.hid hr
    have hsz : base ≤ wr.heap.size := by rw [HBE.out]; exact hg.size
    obtain ⟨A7, c7, rfl, hc7, hc8, _⟩ := id ho.rd
    rw [List.length_map]
    rw [List.length_map] at hne
    clear hsn hst hq ho hs hg hr hc7 hc8
    by_cases hjN : j < N
    · have t1 : decide ((0 : Int) < ((N - j : Nat) : Int)) = true := by simp; omega
      obtain ⟨aj, bj⟩ := sj
      cases bj with
      | true =>
        have hfin := HST.out rfl
        have HFIN := Lib.hid hfin; clear hfin
        simp only at c2
        go_wp2_with fail
        go_ret
        refine ⟨_, rfl, ?_, ?_, HGJ.out⟩
        · rw [HFIN.out, ← HBE.out]; have := HO.out; rwa [List.length_map] at this
        · rw [HFIN.out]; exact HSJ.out
      | false =>
        have hnx := HSN.out rfl
        have HNX := Lib.hid hnx; clear hnx
        simp only at c2
        go_wp2_with fail
        refine (rp1_any g R A c b ⟨aj, false⟩ wr HSJ.out HRJ.out hl).mono ?_
        rintro e w2 ⟨rfl, hs2, hg2⟩
        obtain ⟨⟨x, s2⟩, hx⟩ : ∃ p, p = rPai b ⟨aj, false⟩ := ⟨_, rfl⟩
        have hnx := HNX.out
        rw [← hx] at hs2 hnx ⊢
        simp only at hs2 hnx ⊢
        have HNX2 := Lib.hid hnx
        have ho2 := HO.out.grown hg2 (by rw [List.length_map]; exact hne)
        rw [List.length_map] at ho2
        have HO2 := Lib.hid ho2
        have HS2 := Lib.hid hs2
        have HG2 := Lib.hid (HGJ.out.trans hg2)
        have HR2 := Lib.hid (heap_grown HRJ.out hg2 hRg)
        have hsz2 := Nat.le_trans hsz hg2.size
        clear hx hs2 hg2 ho2 hnx
        go_wp2_with (at_builtin; refine own3_append1 base w2.heap.size rfl 72 79 24 _ Try.underlying72 info79 rfl rfl (.tmp 23) (.tmp 26) rfl _ (xs.map pV) (pV x) ?hy rfl rfl HO2.out ?hb ?hl1 ?hl2 ?_; (case hy => exact pV_one x); (case hb => exact hsz2); (case hl1 => rw [List.length_map]; omega); (case hl2 => rw [List.length_map]; omega); intro v3 w3 hown hb3 hg3 hat; have HO3 := Lib.hid hown; have HBL3 := Lib.hid hb3; have HGR3 := Lib.hid hg3; clear hown hb3 hg3 hat)
        have HBW : Below w.heap.size w2 w3 := by have := HBL3.out; rwa [HBE.out] at this
        refine ⟨⟨j + 1, by omega, ?_, ?_, ?_, grown_below HG2.out HBW, ?_⟩, ?_⟩
        · congr 1; omega
        · rw [HNX2.out, List.map_append]; exact HO3.out
        · rw [HNX2.out]; exact HS2.out.under HS.out HBW
        · exact (HBW.block R (Array.getElem?_eq_some_iff.1 HR.out).1).trans HR2.out
        · simp [intOf]; omega
    · have hjj : j = N := by omega
      have t1 : decide ((0 : Int) < ((N - j : Nat) : Int)) = false := by simp; omega
      have HJJ := Lib.hid hjj; clear hjj
      go_wp2_with fail
      go_ret
      have hq := HQ.out
      rw [HJJ.out] at hq
      refine ⟨_, rfl, ?_, ?_, HGJ.out⟩
      · rw [← hq, ← HBE.out]; have := HO.out; rwa [List.length_map] at this
      · rw [← hq]; exact HSJ.out

/-- What Manifest's inner function answers. -/
def ManR (g : Nat) (A : Option Addr) (c : Nat) (b : List UInt8) (w : World) (r : (Nat × Nat × List Pai) × RS) (e : Ending) (w' : World) : Prop :=
  ∃ v, e = .returned (.agg #[.int .i64 (r.1.1 : Nat), .int .i64 (r.1.2.1 : Nat), v]) ∧ Own3 w' w.heap.size 79 v (r.1.2.2.map pV) ∧ RdSt w' g A c b r.2 ∧ w.grownBy w' (some g)

set_option maxRecDepth 100000 in
set_option maxHeartbeats 2000000 in
theorem man1_any (g : Nat) (A : Option Addr) (c : Nat) (b : List UInt8) (s : RS) (w : World) (hs : RdSt w g A c b s) (hl : b.length ≤ 140737488355328) (ha : s.at_ ≤ 140737488355328) :
    Calls Try.prog 103 #[.pointer (some ⟨g, 0, none⟩)] w (ManR g A c b w (rMan b s)) := by
  obtain ⟨R, hR⟩ : ∃ R, R = w.heap.size := ⟨_, rfl⟩
  have hgl : g < R := by rw [hR]; exact (Array.getElem?_eq_some_iff.1 hs.1).1
  obtain ⟨w0, hw0⟩ : ∃ w0, w0 = (w.alloc (.cells #[.pointer (some ⟨g, 0, none⟩)] 113)).alloc (.cells #[.int .i64 0, .int .i64 0, .slice none 0 0] 74) := ⟨_, rfl⟩
  have hb1 : Below w.heap.size w (w.alloc (.cells #[.pointer (some ⟨g, 0, none⟩)] 113)) := (Below.refl _ _).alloc (Nat.le_refl _) _
  have hb0 : Below w.heap.size w w0 := by rw [hw0]; exact hb1.alloc hb1.size _
  have hr0 : w0.heap[R]? = some (.cells #[.pointer (some ⟨g, 0, none⟩)] 113 (0, 0)) := by
    rw [hw0, hR]
    exact heap_below (heap_alloc_new w _) ((Below.refl _ _).alloc (Nat.le_refl _) _)
  have hx0 : w0.heap[R + 1]? = some (.cells #[.int .i64 0, .int .i64 0, .slice none 0 0] 74 (0, 0)) := by
    rw [hw0, hR]
    have := heap_alloc_new (w.alloc (.cells #[.pointer (some ⟨g, 0, none⟩)] 113)) (.cells #[.int .i64 0, .int .i64 0, .slice none 0 0] 74)
    rw [show (w.alloc (.cells #[.pointer (some ⟨g, 0, none⟩)] 113)).heap.size = w.heap.size + 1 from by simp] at this
    exact this
  have HS0 := Lib.hid (hs.keep hb0)
  have HG0 := Lib.hid (below_grown hb0 (some g))
  have HX0 := Lib.hid hx0
  have HR0 := Lib.hid hr0
  have cr := box_cells hr0 0 (.pointer (some ⟨g, 0, none⟩)) rfl
  clear hx0 hr0 hb0 hb1
  obtain ⟨⟨t, s1⟩, ht⟩ : ∃ p, p = rNum b 1099511627775 s := ⟨_, rfl⟩
  have ha1 : s1.at_ ≤ 140737488355328 := by have := rNum_at b 1099511627775 s; rw [← ht] at this; simp only at this; omega
  obtain ⟨⟨lo, s2⟩, hlo⟩ : ∃ p, p = rNum b 2147483647 s1 := ⟨_, rfl⟩
  have ha2 : s2.at_ ≤ 140737488355328 := by have := rNum_at b 2147483647 s1; rw [← hlo] at this; simp only at this; omega
  obtain ⟨⟨ps, s3⟩, hq⟩ : ∃ p, p = rList (rPai b) (rNum b 16 s2).1 (rNum b 16 s2).2 := ⟨_, rfl⟩
  have hres : rMan b s = ((t, lo, ps), s3) := by unfold rMan; rw [← ht]; simp only; rw [← hlo]; simp only; rw [← hq]
  rw [hres]
  have HT := Lib.hid ht; clear ht
  have HLO := Lib.hid hlo; clear hlo
  have HQ := Lib.hid hq; clear hq hres
  go_enter Try.func103, Try.ntmps103
  go_upto_region 1 with fail
  rw [← hR, ← hw0]
  have HRE := Lib.hid hR; clear hw0 hR
  go_wp2_with fail
  refine (rtime_any g A c b s w0 HS0.out hl).mono ?_
  rintro e w1 ⟨rfl, hs1, hg1⟩
  rw [← HT.out] at hs1 ⊢
  simp only at hs1 ⊢
  have HG1 := Lib.hid (HG0.out.trans hg1)
  have HX1 := Lib.hid (heap_grown HX0.out hg1 (by omega))
  have HR1 := Lib.hid (heap_grown HR0.out hg1 (by omega))
  have HS1 := Lib.hid hs1
  -- the manifest's own variable
  obtain ⟨w2, hw2⟩ : ∃ w2, w2 = w1.alloc (.cells #[.int .i64 (t : Int), .int .i64 0, .slice none 0 0] 74) := ⟨_, rfl⟩
  obtain ⟨X, hX⟩ : ∃ X, X = w1.heap.size := ⟨_, rfl⟩
  have hb2 : Below w1.heap.size w1 w2 := by rw [hw2]; exact (Below.refl _ _).alloc (Nat.le_refl _) _
  have hx2 : w2.heap[X]? = some (.cells #[.int .i64 (t : Int), .int .i64 0, .slice none 0 0] 74 (0, 0)) := by rw [hw2, hX]; exact heap_alloc_new w1 _
  have hRX : R + 1 < X := by rw [hX]; exact (Array.getElem?_eq_some_iff.1 HX1.out).1
  have HY2 := Lib.hid hx2
  have HX2 := Lib.hid (heap_below HX1.out hb2)
  have HR2 := Lib.hid (heap_below HR1.out hb2)
  have HS2 := Lib.hid (HS1.out.keep hb2)
  have HG2 := Lib.hid (HG1.out.trans (below_grown hb2 (some g)))
  have cr2 := box_cells HR2.out 0 (.pointer (some ⟨g, 0, none⟩)) rfl
  clear hs1 hg1 hb2 hx2 cr
  go_upto_region 2 with fail
  rw [← hw2, ← hX]
  have HW2 := Lib.hid hw2; clear hw2
  have HXe := Lib.hid hX; clear hX
  go_wp2_with fail
  refine (rnum_any g A c b s1 2147483647 w2 HS2.out hl (by omega)).mono ?_
  rintro e w3 ⟨rfl, hs3, hg3⟩
  rw [← HLO.out] at hs3 ⊢
  simp only at hs3 ⊢
  have HY3 := Lib.hid (heap_grown HY2.out hg3 (by omega))
  have HX3 := Lib.hid (heap_grown HX2.out hg3 (by omega))
  have HR3 := Lib.hid (heap_grown HR2.out hg3 (by omega))
  have HG3 := Lib.hid (HG2.out.trans hg3)
  obtain ⟨w4, hw4⟩ : ∃ w4, w4 = w3.setCell ⟨X, 1, none⟩ (.int .i64 (lo : Int)) := ⟨_, rfl⟩
  have hg4 : w3.grownBy w4 (some X) := by rw [hw4]; exact only_one _ _ _ _
  have hy4 : w4.heap[X]? = some (.cells #[.int .i64 (t : Int), .int .i64 (lo : Int), .slice none 0 0] 74 (0, 0)) := by rw [hw4]; exact set_at HY3.out 1 _
  have HS4 := Lib.hid (hs3.other HY3.out (noByte3 (int_bv _) (int_bv _) (slice_bv _ _ _)) (by omega) hg4)
  have HX4 := Lib.hid (heap_grown HX3.out hg4 (by omega))
  have HR4 := Lib.hid (heap_grown HR3.out hg4 (by omega))
  have HG4 := Lib.hid (grown_new HG3.out hg4 (by have := HRE.out; omega))
  have HY4 := Lib.hid hy4
  have f3 : w3.frozen? ⟨X, 1, none⟩ = false := by have := HY3.out; simp [World.frozen?, this]
  have c3 := box_cells HY3.out 1 (.int .i64 0) rfl
  clear hs3 hg3 hg4 hy4 cr2
  go_upto_region 3 with fail
  rw [← hw4]
  have HW4 := Lib.hid hw4; clear hw4 f3 c3
  have cr4 := box_cells HR4.out 0 (.pointer (some ⟨g, 0, none⟩)) rfl
  go_wp2_with fail
  refine (listP_any g R A c b s2 w4 HS4.out HR4.out hl ha2).mono ?_
  rintro e w5 ⟨v, rfl, ho5, hs5, hg5⟩
  rw [← HQ.out] at ho5 hs5
  simp only at ho5 hs5
  have HY5 := Lib.hid (heap_grown HY4.out hg5 (by omega))
  have HX5 := Lib.hid (heap_grown HX4.out hg5 (by omega))
  have HG5 := Lib.hid (HG4.out.trans hg5)
  have HO5 := Lib.hid ho5
  have HS5 := Lib.hid hs5
  have hsz4 : w.heap.size ≤ w4.heap.size := HG4.out.size
  obtain ⟨A7, c7, rfl, hc7, hc8, _⟩ := id ho5.rd
  rw [List.length_map]
  clear hs5 hg5 ho5 hc7 hc8 cr4
  obtain ⟨V, hV⟩ : ∃ V, V = Value.slice A7 ps.length c7 := ⟨_, rfl⟩
  have HO5' := Lib.hid (show Own3 w5 w4.heap.size 79 V (ps.map pV) from by rw [hV]; have := HO5.out; rwa [List.length_map] at this)
  have hx6 := heap_grown HX5.out (only_one w5 X 2 V) (by omega)
  have hs6 := HS5.out.other HY5.out (noByte3 (int_bv _) (int_bv _) (slice_bv _ _ _)) (by omega) (only_one w5 X 2 V)
  have ho6 := HO5'.out.grown (only_one w5 X 2 V) (HO5'.out.ne_ HY5.out (by decide))
  have hg6 := grown_new HG5.out (only_one w5 X 2 V) (by have := HRE.out; omega)
  obtain ⟨-, hs8⟩ := set3 hx6 (.int .i64 (t : Int)) (.int .i64 (lo : Int)) V
  have HSF := Lib.hid (hs6.other hx6 (noByte3 (int_bv _) (int_bv _) (slice_bv _ _ _)) (by omega) hs8)
  have HOF := Lib.hid ((ho6.grown hs8 (ho6.ne_ hx6 (by decide))).base hsz4)
  have HGF := Lib.hid (grown_new hg6 hs8 (by have := HRE.out; omega))
  have y0 := box_cells HY5.out 0 (.int .i64 (t : Int)) rfl
  have y1 := box_cells HY5.out 1 (.int .i64 (lo : Int)) rfl
  have y2 := box_cells HY5.out 2 (.slice none 0 0) rfl
  have f5 : ∀ i, w5.frozen? ⟨X, i, none⟩ = false := by intro i; have := HY5.out; simp [World.frozen?, this]
  have r5 : ∀ i, w5.frozen? ⟨R + 1, i, none⟩ = false := by intro i; have := HX5.out; simp [World.frozen?, this]
  have r0 := box_cells HX5.out 0 (.int .i64 0) rfl
  have r1 := box_cells HX5.out 1 (.int .i64 0) rfl
  have r2 := box_cells HX5.out 2 (.slice none 0 0) rfl
  have hne3 : ¬ R + 1 = X := by omega
  have hne4 : ¬ X = R + 1 := by omega
  clear hx6 hs6 ho6 hg6 hs8
  subst hV
  go_wp2_with fail
  refine bodyPost_ret (v := .agg #[.int .i64 (t : Int), .int .i64 (lo : Int), .slice A7 ps.length c7]) (by simp [results, Try.results103, go_sem, *]) rfl ?_
  exact ⟨_, rfl, HOF.out, HSF.out, HGF.out⟩
end Go.Proofs.Ytggjipfdfpdecaa
/- The walk of record's rightManifest, at a pair: the numbers met lie in a map of the call's own. -/
set_option linter.unusedVariables false
namespace Go.Proofs.Ytggjipfdfpdecaa
open Go.RowKit Go.Maps
attribute [local go_sem] bs_list bs_size

/-- The numbers met, as the map that they are written into. -/
def seenD : List Int → DataW Unit
  | [] => .map []
  | n :: r => (seenD r).put (.int .i64 n) (.lit (.int .i64 1))
theorem put_isMap {D : DataW Unit} (h : IsMap D) (k : Lit) (d : DataW Unit) : IsMap (D.put k d) := by
  obtain ⟨es, rfl⟩ := h
  exact ⟨_, rfl⟩
theorem seenD_isMap : ∀ l, IsMap (seenD l)
  | [] => ⟨_, rfl⟩
  | _ :: r => put_isMap (seenD_isMap r) _ _
theorem seenD_at (n : Int) : ∀ l : List Int, (seenD l).atKey (.int .i64 n) (.lit (.int .i64 0)) = .lit (.int .i64 (if l.contains n = true then 1 else 0))
  | [] => rfl
  | m :: r => by
    unfold seenD
    by_cases h : n = m
    · subst h
      rw [atKey_put_same (seenD_isMap r) (by trivial)]
      simp
    · rw [atKey_put_other (by intro e; injection e with _ e; exact h e)]
      rw [seenD_at n r]
      have : (m :: r).contains n = r.contains n := by
        simp [h]
      rw [this]
theorem law3 : Keyed Try.prog 3 := int_keyed Try.underlying3
theorem zero3 (w : World) : (zeroValue 3).run Try.prog w = .ok (.int .i64 0) w := by kernel_rfl

/-- What the pairs met have left: the map, and where the next has to begin. -/
def Seen (w : World) (S C B : Nat) (l : List Int) (a : Int) : Prop :=
  w.heap[S]? = some (.cells #[.map (some B)] 152 (0, 0)) ∧ w.heap[C]? = some (.cells #[.int .i64 a] 2 (0, 0)) ∧ w.ownsMap Try.prog 3 (plainElem (H := Unit) Try.prog 3) B l.length (seenD l)
theorem map_ne {w : World} {B n : Nat} {D : DataW Unit} {R : Value → Option (DataW Unit × List MemPlace)} {k : TypeId} (h : w.ownsMap Try.prog k R B n D) {g : Nat} {cs : Array Value} {t : TypeId} {fr : Nat × Nat} (hg : w.heap[g]? = some (.cells cs t fr)) : g ≠ B := by
  rintro rfl
  obtain ⟨es, clock, hb, _⟩ := h
  rw [hb] at hg
  cases hg
theorem own_map_below {w w' : World} {B n : Nat} {D : DataW Unit} {R : Value → Option (DataW Unit × List MemPlace)} {k : TypeId} (h : w.ownsMap Try.prog k R B n D) (hb : Below w.heap.size w w') : w'.ownsMap Try.prog k R B n D :=
  h.kept (row := none) ⟨hb.os, hb.tape, hb.output, hb.size, fun k hk _ => hb.block k hk⟩ (by simp)
theorem Seen.below {w w' : World} {S C B : Nat} {l : List Int} {a : Int} (h : Seen w S C B l a) (hb : Below w.heap.size w w') : Seen w' S C B l a :=
  ⟨heap_below h.1 hb, heap_below h.2.1 hb, own_map_below h.2.2 hb⟩
theorem turned_heap {w w' : World} {B : Nat} (h : w.mapTurned w' B) {g : Nat} (hg : g ≠ B) {o : Obj} (ho : w.heap[g]? = some o) : w'.heap[g]? = some o :=
  (h.grown.block g (Array.getElem?_eq_some_iff.1 ho).1 (fun e => hg (Option.some.inj e))).trans ho

set_option maxRecDepth 100000 in
set_option maxHeartbeats 2000000 in
theorem rm1_any (S C B base : Nat) (k : Int) (p : Pai) (l : List Int) (a : Int) (w : World) (hs : Seen w S C B l a) (hwf : (Lit.int .i64 p.num).wf = true) (hbB : base ≤ B) (hbC : base ≤ C) (hbw : base ≤ w.heap.size) (hl : l.length < 1048576) :
    Calls Try.prog 128 #[.int .i64 k, .agg #[.int .i64 p.num, .int .i64 p.from_, .int .i64 p.to_], .pointer (some ⟨S, 0, none⟩), .pointer (some ⟨C, 0, none⟩)] w fun e w' => e = .returned (.bool (pOk l a p)) ∧ Seen w' S C B (p.num :: l) p.to_ ∧ Below base w w' := by
  obtain ⟨w0, hw0⟩ : ∃ w0, w0 = w.alloc (.cells #[.int .i64 p.num, .int .i64 p.from_, .int .i64 p.to_] 79) := ⟨_, rfl⟩
  obtain ⟨X, hX⟩ : ∃ X, X = w.heap.size := ⟨_, rfl⟩
  have hb0 : Below w.heap.size w w0 := by rw [hw0]; exact (Below.refl _ _).alloc (Nat.le_refl _) _
  have hx0 : w0.heap[X]? = some (.cells #[.int .i64 p.num, .int .i64 p.from_, .int .i64 p.to_] 79 (0, 0)) := by rw [hw0, hX]; exact heap_alloc_new w _
  have HS0 := Lib.hid (hs.below hb0)
  have HB0 := Lib.hid (hb0.mono hbw)
  have HX0 := Lib.hid hx0
  have hkey : keyOf Try.prog 3 (.int .i64 p.num) = some (.int .i64 p.num) := keyOf_int_mk Try.underlying3 hwf
  have HKEY := Lib.hid hkey
  have x0 := box_cells hx0 0 (.int .i64 p.num) rfl
  have x1 := box_cells hx0 1 (.int .i64 p.from_) rfl
  have x2 := box_cells hx0 2 (.int .i64 p.to_) rfl
  have s0 := box_cells HS0.out.1 0 (.map (some B)) rfl
  have c0 := box_cells HS0.out.2.1 0 (.int .i64 a) rfl
  obtain ⟨c, hrun, hat, _⟩ := HS0.out.2.2.lookup_int law3 Try.underlying152 Try.underlying3 (zero3 _) hkey
  rw [seenD_at] at hat
  have hc : c = if l.contains p.num = true then 1 else 0 := by injection hat with h; injection h with _ h; exact h.symm
  have HC := Lib.hid hc
  have k1 := isNumber_any p.num w0
  have HK1 := Lib.hid k1
  clear hs hb0 hx0 hat hc k1 hkey
  go_enter Try.func128, Try.ntmps128
  go_upto_region 1 with fail
  rw [← hw0, ← hX]
  have HW0 := Lib.hid hw0; clear hw0
  have HXE := Lib.hid hX; clear hX
  go_cut [7] (fun v7 wx => v7 = .bool (pOk l a p) ∧ wx = w0)
  case first =>
    go_wp2_with fail
    refine HK1.out.mono ?_
    rintro e w1 ⟨rfl, rfl⟩
    cases h1 : isNo p.num with
    | false =>
      have hf : pOk l a p = false := by unfold pOk; rw [h1]; rfl
      have HF := Lib.hid hf; clear hf h1
      go_wp2_with fail
      go_meet
      exact ⟨bool_eq HF.out.symm, rfl⟩
    | true =>
      cases h2 : l.contains p.num with
      | true =>
        have hf : pOk l a p = false := by unfold pOk; rw [h1, h2]; rfl
        have HF := Lib.hid hf
        have hc1 : c = 1 := by rw [HC.out, h2]; rfl
        subst hc1
        clear hf h1 h2
        go_wp2_with fail
        go_meet
        exact ⟨bool_eq HF.out.symm, rfl⟩
      | false =>
        have hc1 : c = 0 := by rw [HC.out, h2]; rfl
        subst hc1
        cases h3 : (p.from_ == a) with
        | false =>
          have hf : pOk l a p = false := by unfold pOk; rw [h1, h2, h3]; rfl
          have HF := Lib.hid hf
          clear hf h1 h2
          go_wp2_with fail
          go_meet
          exact ⟨bool_eq HF.out.symm, rfl⟩
        | true =>
          have hf : pOk l a p = decide (p.from_ < p.to_) := by unfold pOk; rw [h1, h2, h3]; rfl
          have HF := Lib.hid hf
          clear hf h1 h2
          go_wp2_with fail
          go_meet
          exact ⟨bool_eq HF.out.symm, rfl⟩
  case rest =>
    obtain ⟨rfl, hwx⟩ := hcut
    obtain rfl := hwx.symm
    have hCB := map_ne HS0.out.2.2 HS0.out.2.1
    have hSB := map_ne HS0.out.2.2 HS0.out.1
    have hXB := map_ne HS0.out.2.2 HX0.out
    have hd : w0.drew.ownsMap Try.prog 3 (plainElem (H := Unit) Try.prog 3) B l.length (seenD l) := HS0.out.2.2
    have hpe : plainElem (H := Unit) Try.prog 3 (.int .i64 1) = some (.lit (.int .i64 1), []) := plainElem_int Try.underlying3 (by decide)
    obtain ⟨wA, hrunA, hownA, hturnA⟩ := hd.store law3 Try.underlying152 (by unfold maxLen; omega) HKEY.out hpe
    have hSX : S ≠ X := by rintro rfl; have := HX0.out; rw [HS0.out.1] at this; cases this
    have hCX : C ≠ X := by rintro rfl; have := HX0.out; rw [HS0.out.2.1] at this; cases this
    have hSC : S ≠ C := by rintro rfl; have := HS0.out.2.1; rw [HS0.out.1] at this; cases this
    have hxA := turned_heap hturnA hXB HX0.out
    have hsA := turned_heap hturnA hSB HS0.out.1
    have hcA := turned_heap hturnA hCB HS0.out.2.1
    have a0 := box_cells hxA 0 (.int .i64 p.num) rfl
    have a2 := box_cells hxA 2 (.int .i64 p.to_) rfl
    have aS := box_cells hsA 0 (.map (some B)) rfl
    have aC := box_cells hcA 0 (.int .i64 a) rfl
    have fA : wA.frozen? ⟨C, 0, none⟩ = false := by simp [World.frozen?, hcA]
    have f0 : w0.frozen? ⟨C, 0, none⟩ = false := by simp [World.frozen?, HS0.out.2.1]
    have hn1 : ¬ X = C := fun e => hCX e.symm
    have hn2 : ¬ C = X := hCX
    have hn3 : ¬ S = C := hSC
    have HOA := Lib.hid hownA; clear hownA
    have HTA := Lib.hid hturnA; clear hturnA
    have HRUN := Lib.hid hrun; clear hrun
    have HSA := Lib.hid hsA
    have HCA := Lib.hid hcA
    clear hd hpe hxA hsA hcA x1
    go_wp2_with fail
    go_region
    go_wp2_with fail
    go_ret
    have hset := only_one wA C 0 (.int .i64 p.to_)
    have hbd : Below base w w0.drew := below_drewN HB0.out 1
    have hbA := hbd.grown HTA.out.grown (Nat.le_trans hbw HB0.out.size) (fun k hk => by cases hk; exact hbB)
    refine ⟨rfl, ⟨heap_grown HSA.out hset hSC, set_at HCA.out 0 _, ?_⟩, hbA.setCell hbC _⟩
    exact HOA.out.kept hset (fun e => hCB (Option.some.inj e).symm)
end Go.Proofs.Ytggjipfdfpdecaa
