/- The walks of record's Commit: a write is read, so many are read. -/
import Derived.Test.YtggjipfdfpdecaaRcI
set_option linter.unusedVariables false
namespace Go.Proofs.Ytggjipfdfpdecaa
open Go.RowKit
attribute [local go_sem] bs_list bs_size

theorem bool_bv (p : Bool) (x : UInt8) : Value.bool p ≠ bv x := by simp [bv]
theorem RdSt.ne_ {w : World} {g R : Nat} {A : Option Addr} {c : Nat} {b : List UInt8} {s : RS} {cs : Array Value} {t : TypeId} {fr : Nat × Nat} (h : RdSt w g A c b s) (hR : w.heap[R]? = some (.cells cs t fr)) (ht : t ≠ 151) : R ≠ g := by
  rintro rfl
  rw [h.1] at hR
  injection hR with hR
  injection hR with _ h2 _
  exact ht h2.symm

set_option maxRecDepth 100000 in
set_option maxHeartbeats 2000000 in
theorem rw1_any (g R : Nat) (A : Option Addr) (c : Nat) (b : List UInt8) (s : RS) (w : World) (hs : RdSt w g A c b s) (hR : w.heap[R]? = some (.cells #[.pointer (some ⟨g, 0, none⟩)] 113 (0, 0))) (hl : b.length ≤ 140737488355328) (ha : s.at_ ≤ 140737488355328) :
    Calls Try.prog 94 #[.pointer (some ⟨R, 0, none⟩)] w fun e w' => e = .returned (.agg #[.string (bs (rWri b s).1.key), .string (bs (rWri b s).1.val), .bool (rWri b s).1.gone]) ∧ RdSt w' g A c b (rWri b s).2 ∧ w.grownBy w' (some g) := by
  have hRg := hs.ne_ hR (by decide)
  have hgl : g < w.heap.size := (Array.getElem?_eq_some_iff.1 hs.1).1
  obtain ⟨w0, hw0⟩ : ∃ w0, w0 = w.alloc (.cells #[.string (bs []), .string (bs []), .bool false] 66) := ⟨_, rfl⟩
  have hb0 : Below w.heap.size w w0 := by rw [hw0]; exact (Below.refl _ _).alloc (Nat.le_refl _) _
  have hx0 : w0.heap[w.heap.size]? = some (.cells #[.string (bs []), .string (bs []), .bool false] 66 (0, 0)) := by rw [hw0]; exact heap_alloc_new w _
  obtain ⟨H, hH⟩ : ∃ H, H = w.heap.size := ⟨_, rfl⟩
  rw [← hH] at hx0
  have HS0 := Lib.hid (hs.keep hb0)
  have HG0 := Lib.hid (below_grown hb0 (some g))
  have HX0 := Lib.hid hx0
  have HR0 := Lib.hid (heap_below hR hb0)
  have cr := box_cells HR0.out 0 (.pointer (some ⟨g, 0, none⟩)) rfl
  have hHg : H ≠ g := by omega
  have hHR : H ≠ R := by have := (Array.getElem?_eq_some_iff.1 hR).1; omega
  clear hx0 hb0 hR
  obtain ⟨⟨f, s1⟩, hf⟩ : ∃ p, p = rFlag b s := ⟨_, rfl⟩
  obtain ⟨⟨k, s2⟩, hk⟩ : ∃ p, p = rTxt b 16 s1 := ⟨_, rfl⟩
  obtain ⟨⟨v, s3⟩, hv⟩ : ∃ p, p = rTxt b 64 s2 := ⟨_, rfl⟩
  have hres : rWri b s = if f = true then (⟨k, [], true⟩, s2) else (⟨k, v, false⟩, s3) := by unfold rWri; rw [← hf]; simp only; rw [← hk]; simp only; rw [← hv]
  have HF := Lib.hid hf; clear hf
  have HK := Lib.hid hk; clear hk
  have HV := Lib.hid hv; clear hv
  have HRES := Lib.hid hres; clear hres
  go_enter Try.func94, Try.ntmps94
  go_upto_region 1 with fail
  simp only [bs_nil]
  rw [← hw0, ← hH]
  have HH := Lib.hid hH; clear hw0 hH
  go_wp2_with fail
  refine (rflag_any g A c b s w0 HS0.out hl ha).mono ?_
  rintro e w1 ⟨rfl, hs1, hg1⟩
  rw [← HF.out] at hs1 ⊢
  simp only at hs1 ⊢
  have HG1 := Lib.hid (HG0.out.trans hg1)
  have HX1 := Lib.hid (heap_grown HX0.out hg1 hHg)
  have HR1 := Lib.hid (heap_grown HR0.out hg1 hRg)
  have HS1 := Lib.hid hs1; clear hs1 hg1
  -- the write's own variable
  obtain ⟨w2, hw2⟩ : ∃ w2, w2 = w1.alloc (.cells #[.string (bs []), .string (bs []), .bool f] 66) := ⟨_, rfl⟩
  obtain ⟨X, hX⟩ : ∃ X, X = w1.heap.size := ⟨_, rfl⟩
  have hb2 : Below w1.heap.size w1 w2 := by rw [hw2]; exact (Below.refl _ _).alloc (Nat.le_refl _) _
  have hx2 : w2.heap[X]? = some (.cells #[.string (bs []), .string (bs []), .bool f] 66 (0, 0)) := by rw [hw2, hX]; exact heap_alloc_new w1 _
  have hHl : H < w1.heap.size := (Array.getElem?_eq_some_iff.1 HX1.out).1
  have hgl2 : g < w1.heap.size := (Array.getElem?_eq_some_iff.1 HS1.out.1).1
  have hRl : R < w1.heap.size := (Array.getElem?_eq_some_iff.1 HR1.out).1
  have hXg : X ≠ g := by omega
  have hHX : H ≠ X := by omega
  have hRX : R ≠ X := by omega
  have hwX : w.heap.size ≤ X := by rw [hX]; exact HG1.out.size
  have hwH : w.heap.size ≤ H := by rw [HH.out]; exact Nat.le_refl _
  have HY2 := Lib.hid hx2
  have HX2 := Lib.hid (heap_below HX1.out hb2)
  have HR2 := Lib.hid (heap_below HR1.out hb2)
  have HS2 := Lib.hid (HS1.out.keep hb2)
  have HG2 := Lib.hid (HG1.out.trans (below_grown hb2 (some g)))
  have cr2 := box_cells HR2.out 0 (.pointer (some ⟨g, 0, none⟩)) rfl
  clear hb2 hx2 hHl hgl2 hRl cr
  go_upto_region 2 with fail
  simp only [bs_nil]
  rw [← hw2, ← hX]
  have HW2 := Lib.hid hw2; clear hw2
  have HXe := Lib.hid hX; clear hX
  go_wp2_with fail
  refine (rtext_any g A c b s1 16 w2 HS2.out hl (by omega)).mono ?_
  rintro e w3 ⟨rfl, hs3, hg3⟩
  rw [← HK.out] at hs3 ⊢
  simp only at hs3 ⊢
  have HY3 := Lib.hid (heap_grown HY2.out hg3 hXg)
  have HX3 := Lib.hid (heap_grown HX2.out hg3 hHg)
  have HR3 := Lib.hid (heap_grown HR2.out hg3 hRg)
  have HG3 := Lib.hid (HG2.out.trans hg3)
  obtain ⟨w4, hw4⟩ : ∃ w4, w4 = w3.setCell ⟨X, 0, none⟩ (.string (bs k)) := ⟨_, rfl⟩
  have hg4 : w3.grownBy w4 (some X) := by rw [hw4]; exact only_one _ _ _ _
  have hy4 : w4.heap[X]? = some (.cells #[.string (bs k), .string (bs []), .bool f] 66 (0, 0)) := by rw [hw4]; exact set_at HY3.out 0 _
  have HS4 := Lib.hid (hs3.other HY3.out (noByte3 (str_bv _) (str_bv _) (bool_bv _)) (fun e => hXg e.symm) hg4)
  have HX4 := Lib.hid (heap_grown HX3.out hg4 hHX)
  have HR4 := Lib.hid (heap_grown HR3.out hg4 hRX)
  have HG4 := Lib.hid (grown_new HG3.out hg4 hwX)
  have HY4 := Lib.hid hy4
  have f3 : w3.frozen? ⟨X, 0, none⟩ = false := by have := HY3.out; simp [World.frozen?, this]
  have c3 := box_cells HY3.out 0 (.string (bs [])) rfl
  clear hs3 hg3 hg4 hy4 cr2
  go_upto_region 3 with fail
  rw [← hw4]
  have HW4 := Lib.hid hw4; clear hw4 f3 c3
  have cr4 := box_cells HR4.out 0 (.pointer (some ⟨g, 0, none⟩)) rfl
  have y0 := box_cells HY4.out 0 (.string (bs k)) rfl
  have y1 := box_cells HY4.out 1 (.string (bs [])) rfl
  have y2 := box_cells HY4.out 2 (.bool f) rfl
  cases f with
  | true =>
    have hr := HRES.out
    rw [if_pos rfl] at hr
    have HR9 := Lib.hid hr; clear hr
    have r4 : ∀ i, w4.frozen? ⟨H, i, none⟩ = false := by intro i; have := HX4.out; simp [World.frozen?, this]
    have r6 := box_cells HX4.out 0 (.string (bs [])) rfl
    have r7 := box_cells HX4.out 1 (.string (bs [])) rfl
    have r8 := box_cells HX4.out 2 (.bool false) rfl
    have hne3 : ¬ H = X := hHX
    have hne4 : ¬ X = H := fun e => hHX e.symm
    obtain ⟨-, hs8⟩ := set3 HX4.out (.string (bs k)) (.string (bs [])) (.bool true)
    have HS8 := Lib.hid (HS4.out.other HX4.out (noByte3 (str_bv _) (str_bv _) (bool_bv _)) (fun e => hHg e.symm) hs8)
    have HG8 := Lib.hid (grown_new HG4.out hs8 hwH)
    clear hs8
    go_wp2_with fail
    refine bodyPost_ret (v := .agg #[.string (bs k), .string (bs []), .bool true]) (by simp [results, Try.results94, go_sem, *]) rfl ?_
    rw [HR9.out]
    exact ⟨rfl, HS8.out, HG8.out⟩
  | false =>
    have hr := HRES.out
    rw [if_neg (by simp)] at hr
    have HR9 := Lib.hid hr; clear hr
    go_wp2_with fail
    refine (rtext_any g A c b s2 64 w4 HS4.out hl (by omega)).mono ?_
    rintro e w5 ⟨rfl, hs5, hg5⟩
    rw [← HV.out] at hs5 ⊢
    simp only at hs5 ⊢
    have HY5 := Lib.hid (heap_grown HY4.out hg5 hXg)
    have HX5 := Lib.hid (heap_grown HX4.out hg5 hHg)
    have HG5 := Lib.hid (HG4.out.trans hg5)
    have HY6 := Lib.hid (set_at HY5.out 1 (.string (bs v)))
    have HX6 := Lib.hid (heap_grown HX5.out (only_one w5 X 1 (.string (bs v))) hHX)
    have HS6 := Lib.hid (hs5.other HY5.out (noByte3 (str_bv _) (str_bv _) (bool_bv _)) (fun e => hXg e.symm) (only_one w5 X 1 (.string (bs v))))
    have HG6 := Lib.hid (grown_new HG5.out (only_one w5 X 1 (.string (bs v))) hwX)
    obtain ⟨-, hs8⟩ := set3 HX6.out (.string (bs k)) (.string (bs v)) (.bool false)
    have HS8 := Lib.hid (HS6.out.other HX6.out (noByte3 (str_bv _) (str_bv _) (bool_bv _)) (fun e => hHg e.symm) hs8)
    have HG8 := Lib.hid (grown_new HG6.out hs8 hwH)
    have e5 := box_cells HY5.out 0 (.string (bs k)) rfl
    have e6 := box_cells HY5.out 1 (.string (bs [])) rfl
    have e7 := box_cells HY5.out 2 (.bool false) rfl
    have f5 : ∀ i, w5.frozen? ⟨X, i, none⟩ = false := by intro i; have := HY5.out; simp [World.frozen?, this]
    have r5 : ∀ i, w5.frozen? ⟨H, i, none⟩ = false := by intro i; have := HX5.out; simp [World.frozen?, this]
    have r6 := box_cells HX5.out 0 (.string (bs [])) rfl
    have r7 := box_cells HX5.out 1 (.string (bs [])) rfl
    have r8 := box_cells HX5.out 2 (.bool false) rfl
    have hne3 : ¬ H = X := hHX
    have hne4 : ¬ X = H := fun e => hHX e.symm
    clear hs8 hs5 hg5 cr4 y0 y1 y2
    go_wp2_with fail
    refine bodyPost_ret (v := .agg #[.string (bs k), .string (bs v), .bool false]) (by simp [results, Try.results94, go_sem, *]) rfl ?_
    rw [HR9.out]
    exact ⟨rfl, HS8.out, HG8.out⟩

theorem rd_keep {w w2 w3 : World} {v : Value} {b : List UInt8} (h0 : RdB w v b) (h2 : RdB w2 v b) (hb : Below w.heap.size w2 w3) : RdB w3 v b := by
  obtain ⟨A, c, hv, h3, h4, h5⟩ := h0
  obtain ⟨A', c', hv', h3', h4', h5'⟩ := h2
  refine ⟨A', c', hv', h3', h4', fun hp => ?_⟩
  obtain ⟨ad, hA, hc⟩ := h5 hp
  obtain ⟨ad', hA', hc'⟩ := h5' hp
  rw [hv] at hv'
  injection hv' with e _ _
  rw [hA, hA'] at e
  injection e with e
  subst e
  exact ⟨ad, hA', fun j hj => (hb.cell (World.block_lt_of_cell? w _ (hc j hj))).trans (hc' j hj)⟩
theorem RdSt.under {w w2 w3 : World} {g : Nat} {A : Option Addr} {c : Nat} {b : List UInt8} {s s' : RS} (h : RdSt w2 g A c b s) (h0 : RdSt w g A c b s') (hb : Below w.heap.size w2 w3) : RdSt w3 g A c b s :=
  ⟨(hb.block g (Array.getElem?_eq_some_iff.1 h0.1).1).trans h.1, rd_keep h0.2 h.2 hb⟩
theorem grown_below {w w1 w2 : World} {row : Option Nat} (h : w.grownBy w1 row) (hb : Below w.heap.size w1 w2) : w.grownBy w2 row :=
  ⟨hb.os.trans h.os, hb.tape.trans h.tape, hb.output.trans h.output, Nat.le_trans h.size hb.size, fun k hk hne => (hb.block k hk).trans (h.block k hk hne)⟩
/-- What list answers. -/
def ListW (g : Nat) (A : Option Addr) (c : Nat) (b : List UInt8) (w : World) (r : List Wri × RS) (e : Ending) (w' : World) : Prop :=
  ∃ v, e = .returned v ∧ Own3 w' w.heap.size 66 v (r.1.map wV) ∧ RdSt w' g A c b r.2 ∧ w.grownBy w' (some g)

theorem wV_one (x : Wri) : ∀ u ∈ (wV x).cells, u.oneCell' = true := by
  intro u hu
  simp [wV, V3.cells] at hu
  rcases hu with rfl | rfl | rfl <;> rfl

set_option maxRecDepth 100000 in
set_option maxHeartbeats 2000000 in
theorem listW_any (g R : Nat) (A : Option Addr) (c : Nat) (b : List UInt8) (s : RS) (w : World) (hs : RdSt w g A c b s) (hR : w.heap[R]? = some (.cells #[.pointer (some ⟨g, 0, none⟩)] 113 (0, 0))) (hl : b.length ≤ 140737488355328) (ha : s.at_ ≤ 140737488355328) :
    Calls Try.prog 93 #[.pointer (some ⟨g, 0, none⟩), .int .i64 64, .func (.func 94) #[] #[.pointer (some ⟨R, 0, none⟩)]] w (ListW g A c b w (rList (rWri b) (rNum b 64 s).1 (rNum b 64 s).2)) := by
  have hRg := hs.ne_ hR (by decide)
  obtain ⟨⟨N, s1⟩, hN⟩ : ∃ p, p = rNum b 64 s := ⟨_, rfl⟩
  have hN64 : N ≤ 64 := by have := rNum_le b 64 s; rw [← hN] at this; exact this
  have ha1 : s1.at_ ≤ 140737488355328 := by have := rNum_at b 64 s; rw [← hN] at this; simp only at this; omega
  rw [← hN]
  simp only
  have HS := Lib.hid hs
  have HR := Lib.hid hR
  have HN := Lib.hid hN; clear hN hs hR
  obtain ⟨base, hbase⟩ : ∃ x, x = w.heap.size := ⟨_, rfl⟩
  have HBE := Lib.hid hbase
  have hwb : w.heap.size ≤ base := by omega
  clear hbase
  go_enter Try.func93, Try.ntmps93
  go_wp2_with fail
  refine (rnum_any g A c b s 64 w HS.out hl (by omega)).mono ?_
  rintro e w1 ⟨rfl, hs1, hg1⟩
  rw [← HN.out] at hs1 ⊢
  simp only at hs1 ⊢
  have HS1 := Lib.hid hs1
  have HR1 := Lib.hid (heap_grown HR.out hg1 hRg)
  have HG1 := Lib.hid hg1
  clear hs1 hg1
  go_wp2_with fail
  go_loopw [7, 8] (fun v7 v8 wr => ∃ j : Nat, j ≤ N ∧ v8 = .int .i64 ((N - j : Nat) : Int) ∧ Own3 wr base 66 v7 ((rList (rWri b) j s1).1.map wV) ∧ RdSt wr g A c b (rList (rWri b) j s1).2 ∧ w.grownBy wr (some g) ∧ wr.heap[R]? = some (.cells #[.pointer (some ⟨g, 0, none⟩)] 113 (0, 0))) (fun _ v8 _ => (intOf v8).toNat)
  case atStart => exact ⟨0, by omega, by simp, Own3.nil _ _ _, HS1.out, HG1.out, HR1.out⟩
  case round =>
    obtain ⟨j, hj, rfl, ho, hs, hg, hr⟩ := hrel
    obtain ⟨⟨xs, sj⟩, hq⟩ : ∃ p, p = rList (rWri b) j s1 := ⟨_, rfl⟩
    have hxl : xs.length ≤ 64 := by have := rList_len (rWri b) j s1; rw [← hq] at this; simp only at this; omega
    have haj : sj.at_ ≤ 140737488355328 := by have := rList_at b (rWri b) (rWri_at b) j s1; rw [← hq] at this; simp only at this; omega
    rw [← hq] at ho hs
    simp only at ho hs
    have hsn := rList_snoc (rWri b) j s1
    have hst := fun h => rList_stop (rWri b) N j s1 hj h
    rw [← hq] at hsn hst
    simp only at hsn hst
    have HSN := Lib.hid hsn
    have HST := Lib.hid hst
    have HQ := Lib.hid hq
    have c2 := hs.c2
    have hne := ho.ne_ hs.1 (by decide)
    have HO := Lib.hid ho
    have HSJ := Lib.hid hs
    have HGJ := Lib.hid hg
    have HRJ := Lib.hid hr
    have hsz : base ≤ wr.heap.size := by rw [HBE.out]; exact hg.size
    obtain ⟨A7, c7, rfl, hc7, hc8, _⟩ := id ho.rd
    rw [List.length_map]
    rw [List.length_map] at hne
    clear hsn hst hq ho hs hg hr hc7 hc8
    by_cases hjN : j < N
    · have t1 : decide ((0 : Int) < ((N - j : Nat) : Int)) = true := by simp; omega
      obtain ⟨aj, bj⟩ := sj
      cases bj with
      | true =>
        have hfin := HST.out rfl
        have HFIN := Lib.hid hfin; clear hfin
        simp only at c2
        go_wp2_with fail
        go_ret
        refine ⟨_, rfl, ?_, ?_, HGJ.out⟩
        · rw [HFIN.out, ← HBE.out]; have := HO.out; rwa [List.length_map] at this
        · rw [HFIN.out]; exact HSJ.out
      | false =>
        have hnx := HSN.out rfl
        have HNX := Lib.hid hnx; clear hnx
        simp only at c2
        go_wp2_with fail
        refine (rw1_any g R A c b ⟨aj, false⟩ wr HSJ.out HRJ.out hl haj).mono ?_
        rintro e w2 ⟨rfl, hs2, hg2⟩
        obtain ⟨⟨x, s2⟩, hx⟩ : ∃ p, p = rWri b ⟨aj, false⟩ := ⟨_, rfl⟩
        have hnx := HNX.out
        rw [← hx] at hs2 hnx ⊢
        simp only at hs2 hnx ⊢
        have HNX2 := Lib.hid hnx
        have ho2 := HO.out.grown hg2 (by rw [List.length_map]; exact hne)
        rw [List.length_map] at ho2
        have HO2 := Lib.hid ho2
        have HS2 := Lib.hid hs2
        have HG2 := Lib.hid (HGJ.out.trans hg2)
        have HR2 := Lib.hid (heap_grown HRJ.out hg2 hRg)
        have hsz2 := Nat.le_trans hsz hg2.size
        clear hx hs2 hg2 ho2 hnx
        go_wp2_with (at_builtin; refine own3_append1 base w2.heap.size rfl 62 66 40 _ Try.underlying62 info66 rfl rfl (.tmp 23) (.tmp 26) rfl _ (xs.map wV) (wV x) ?hy rfl rfl HO2.out ?hb ?hl1 ?hl2 ?_; (case hy => exact wV_one x); (case hb => exact hsz2); (case hl1 => rw [List.length_map]; omega); (case hl2 => rw [List.length_map]; omega); intro v3 w3 hown hb3 hg3 hat; have HO3 := Lib.hid hown; have HBL3 := Lib.hid hb3; have HGR3 := Lib.hid hg3; clear hown hb3 hg3 hat)
        have HBW : Below w.heap.size w2 w3 := by have := HBL3.out; rwa [HBE.out] at this
        refine ⟨⟨j + 1, by omega, ?_, ?_, ?_, grown_below HG2.out HBW, ?_⟩, ?_⟩
        · congr 1; omega
        · rw [HNX2.out, List.map_append]; exact HO3.out
        · rw [HNX2.out]; exact HS2.out.under HS.out HBW
        · exact (HBW.block R (Array.getElem?_eq_some_iff.1 HR.out).1).trans HR2.out
        · simp [intOf]; omega
    · have hjj : j = N := by omega
      have t1 : decide ((0 : Int) < ((N - j : Nat) : Int)) = false := by simp; omega
      have HJJ := Lib.hid hjj; clear hjj
      go_wp2_with fail
      go_ret
      have hq := HQ.out
      rw [HJJ.out] at hq
      refine ⟨_, rfl, ?_, ?_, HGJ.out⟩
      · rw [← hq, ← HBE.out]; have := HO.out; rwa [List.length_map] at this
      · rw [← hq]; exact HSJ.out
end Go.Proofs.Ytggjipfdfpdecaa
