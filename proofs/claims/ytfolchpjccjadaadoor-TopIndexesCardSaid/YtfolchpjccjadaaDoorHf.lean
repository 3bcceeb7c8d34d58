/- The walk of the hash index's Step at its beginning. -/
import Derived.Test.YtfolchpjccjadaaDoorZ02
import Derived.WalkMore
import Derived.ScopeJumps
namespace Go.Proofs.YtfolchpjccjadaaDoor
open Go.RowKit
set_option linter.unusedVariables false
attribute [local go_sem] bs_list bs_size

def StepR (B o t a : Nat) (hd H L : List Nat) (E : List Ent) (s : Hop) (w : World) (e : Ending) (w' : World) : Prop :=
  ∃ H' L' E' s' d, e = .returned (.bool d) ∧ HStep hd H L E s H' L' E' s' d ∧ ArW w' B a H' L' ∧ TbW w' B t a hd E' ∧ HopW w' B o t s' ∧ Keep B [51, 48, 55, 77] (some o) w w'
/-- Where Step looks at an entry. -/
def JW (B o t a : Nat) (hd H L : List Nat) (E : List Ent) (s : Hop) (w w' : World) : Prop :=
  ∃ s1 : Hop, s1.own = s.own ∧ s1.cur ≤ E.length ∧ ArW w' B a H L ∧ TbW w' B t a hd E ∧ HopW w' B o t s1 ∧ Keep B [51, 48, 55, 77] (some o) w w' ∧ ∀ H' L' E' s' d, Look H L E s1 H' L' E' s' d → HStep hd H L E s H' L' E' s' d

theorem TbC.head {w : World} {B t a n c : Nat} {hd : List Nat} {E : List Ent} {hv ev : Value} (h : TbC w B t a hd E hv ev) (he : hd[n]? = some c) : ∃ g cap, hv = .slice (some ⟨g, 0, none⟩) hd.length cap ∧ w.cell? ⟨g, n, none⟩ = some (.int .i64 (c : Int)) := by
  obtain ⟨a1, a2, a3, a4⟩ := h
  have hlt := (List.getElem?_eq_some_iff.1 he).1
  have a5 := a3
  obtain ⟨g, cap, rfl, hc⟩ := row_some a3 (by omega)
  refine ⟨g, cap, rfl, ?_⟩
  have := a5.cells (g := g) rfl n (intv c) (by rw [List.getElem?_map, he]; rfl)
  rwa [addp] at this
theorem hop_next {w : World} {o t : Nat} {s : Hop} {ref : Int} {had : Bool} {code : Int} {v : Int} (hh : w.heap[o]? = some (.cells (hopCells t s ref had code) 70 (0, 0))) (h : (s.next : Int) = v) : w.cell? ⟨o, 4, none⟩ = some (.int .i64 v) := by
  subst h
  exact box_cells hh 4 _ rfl
theorem TabW.keepS {w w' : World} {B : Nat} {S : List TypeId} {x : Option Nat} (h : TabW w) (hB : 0 < B) (hk : Keep B S x w w') : TabW w' := h.keep hk hB

set_option maxRecDepth 100000 in
set_option maxHeartbeats 4000000 in
theorem hstep_begin (B o t a : Nat) (hd H L : List Nat) (E : List Ent) (s : Hop) (w : World) (hA : ArW w B a H L) (hT : TbW w B t a hd E) (hs : HopW w B o t s) (hz : TabW w) (hB : 0 < B) (hBs : B ≤ w.heap.size) (hp : HPre hd H L E s) (hk : isKey s.key = true) (h0 : s.next = 0) :
    Calls Tryd.prog 17 #[.pointer (some ⟨o, 0, none⟩)] w (StepR B o t a hd H L E s w) := by
  obtain ⟨nb, hnb⟩ : ∃ nb, nb = hd.length := ⟨_, rfl⟩
  have hbl : bk nb s.key < nb := by rw [hnb]; exact Nat.mod_lt _ hp.hd0
  obtain ⟨k, hkk⟩ : ∃ k, k = bk nb s.key := ⟨_, rfl⟩
  rw [← hkk] at hbl
  have hn0 := hp.hd0; have hn1 := hp.hd1
  obtain ⟨c, hcc⟩ : ∃ c, hd[k]? = some c := ⟨_, List.getElem?_eq_getElem (by omega)⟩
  obtain ⟨hcl, hcx⟩ := hp.hdl c (by rw [← hnb, ← hkk]; exact hcc)
  obtain ⟨x, hx⟩ := hA.get hcl
  have HXL := Lib.hid (hcx x hx)
  have HBK := Lib.hid (bucket_any B t a hd E s.key w.drew (hT.keep (Keep.refl B [] none w).drew rfl rfl rfl (by simp)) hk hn0 hn1)
  rw [← hnb, ← hkk] at HBK
  have HZ := Lib.hid hz
  clear hcx hz
  have hnx := hp.nx
  go_enter Tryd.func17, Tryd.ntmps17
  go_wp2
  refine wp_scope_jumps 0 (fun a' w' => JW B o t a hd H L E s w w' ∧ ∃ u3 u4 u5 u6 u7 u8 u9 u10 u11 u12 u13 u14 u15 u16 u17 u18 u19 u20 u21 u22 u23 u24 u25 u26 u27 u28 u29 u30 u31 u32 u33 u34 u35 u36 u37 u38 u39 u40 u41 u42 u43 u44 u45 u46 u47 u48 u49 u50 u51 u52 u53 u54 u55 u56 u57 u58 u59 u60 u61 u62 u63 u64 u65 u66 u67 u68 u69 u70 u71 u72 u73 u74 u75 u76 u77 u78 u79 u80 u81 u82 u83 u84 u85 u86 u87 u88 u89 u90 u91 u92 u93 u94 u95 u96 : Value, a' = ⟨#[.pointer (some ⟨o, 0, none⟩), undef, .bool false, u3, u4, u5, u6, u7, u8, u9, u10, u11, u12, u13, u14, u15, u16, u17, u18, u19, u20, u21, u22, u23, u24, u25, u26, u27, u28, u29, u30, u31, u32, u33, u34, u35, u36, u37, u38, u39, u40, u41, u42, u43, u44, u45, u46, u47, u48, u49, u50, u51, u52, u53, u54, u55, u56, u57, u58, u59, u60, u61, u62, u63, u64, u65, u66, u67, u68, u69, u70, u71, u72, u73, u74, u75, u76, u77, u78, u79, u80, u81, u82, u83, u84, u85, u86, u87, u88, u89, u90, u91, u92, u93, u94, u95, u96, undef, undef, undef, undef, undef, undef, undef, undef, undef, undef, undef, undef, undef, undef, undef, undef, undef, undef, undef, undef, undef, undef, undef, undef, undef, undef, undef, undef, undef, undef, undef, undef, undef, undef, undef, undef, undef, undef, undef, undef, undef, undef, undef, undef, undef, undef, undef, undef, undef, undef, undef, undef, undef, undef, undef, undef, undef, undef, undef, undef, undef, undef, undef, undef, undef, undef], []⟩) (fun _ _ => 0) rfl ?_ ?_
  · have HR := Lib.hid (refused_no B o t s w hs hk hp.kl)
    obtain ⟨hb, ref, had, code, hh⟩ := hs
    obtain ⟨hv, ev, hT⟩ := hT
    obtain ⟨g, cap, rfl, hg⟩ := hT.head hcc
    obtain ⟨ga, gc, hgc⟩ := row_slice hT.2.2.2
    subst hgc
    have x0 := box_cells hh 0 (.pointer (some ⟨t, 0, none⟩)) rfl
    have x1 := box_cells hh 1 (.string (bs s.key)) rfl
    have x4 : w.cell? ⟨o, 4, none⟩ = some (.int .i64 0) := by
      have := box_cells hh 4 (.int .i64 (s.next : Int)) rfl
      rw [h0] at this
      exact this
    have y0 := box_cells hT.1 0 (.pointer (some ⟨a, 0, none⟩)) rfl
    have y1 := box_cells hT.1 1 (.slice (some ⟨g, 0, none⟩) nb cap) (by rw [hnb]; rfl)
    have HS := Lib.hid hh
    have HT := Lib.hid hT
    have HA := Lib.hid hA
    have HN := Lib.hid hnb
    have HKK := Lib.hid hkk
    have HCC := Lib.hid hcc
    have HX := Lib.hid hx
    have HP := Lib.hid hp
    have HH0 := Lib.hid h0
    have HKY := Lib.hid hk
    have HCL := Lib.hid hcl
    have HBB := Lib.hid hBs
    have i1 : (0 : Int) ≤ (k : Int) := by omega
    have i2 : (k : Int) < (nb : Int) := by omega
    clear hh hT hA hnb hkk hcc hx hp h0 hcl hk hn0 hn1 hBs
    go_wp2_with fail
    refine HR.out.mono ?_
    rintro e w1 ⟨rfl, rfl⟩
    go_upto_region 5 with fail
    go_region_held3 (fun W => W.cell? ⟨o, 0, none⟩ = some (.pointer (some ⟨t, 0, none⟩)) ∧ W.cell? ⟨o, 1, none⟩ = some (.string (bs s.key)) ∧ W.cell? ⟨t, 0, none⟩ = some (.pointer (some ⟨a, 0, none⟩)) ∧ W.cell? ⟨t, 1, none⟩ = some (.slice (some ⟨g, 0, none⟩) nb cap) ∧ W.cell? ⟨g, k, none⟩ = some (.int .i64 (c : Int))) (simp [*]) ((go_at_call 26; refine HBK.out.mono ?_; rintro e w2 ⟨rfl, hb2'⟩; have hb2 : Below w.heap.size w w2 := ⟨hb2'.os, hb2'.tape, hb2'.output, hb2'.size, hb2'.block⟩; have hs2 := heap_below HS.out hb2; have hT2 := HT.out.keep (Keep.of_below (S := []) (x := none) hb2 HBB.out) rfl rfl rfl (by simp); have f2 := froz_all hs2; have q0 := box_cells hs2 0 (.pointer (some ⟨t, 0, none⟩)) rfl; have q1 := box_cells hs2 1 (.string (bs s.key)) rfl; have q2 := box_cells hs2 2 (.int .i64 ref) rfl; have q4 := hop_next hs2 (v := 0) (by have := HH0.out; omega); have q5 := box_cells hs2 5 (.int .u64 (s.head : Int)) rfl; have q6 := box_cells hs2 6 (.int .u64 (s.cur : Int)) rfl; have q7 := box_cells hs2 7 (.int .u64 (s.own : Int)) rfl; have p0 := box_cells hT2.1 0 (.pointer (some ⟨a, 0, none⟩)) rfl; have p1 := box_cells hT2.1 1 (.slice (some ⟨g, 0, none⟩) nb cap) (by rw [HN.out]; rfl); have p2 := box_cells hT2.1 2 (.slice ga E.length gc) rfl; have hg2 : w2.cell? ⟨g, k, none⟩ = some (.int .i64 (c : Int)) := (hb2.cell (World.block_lt_of_cell? w _ hg)).trans hg; have HS2 := Lib.hid hs2; have HT2 := Lib.hid hT2; have HA2 := Lib.hid (HA.out.keep (Keep.of_below (S := []) (x := none) hb2 HBB.out) rfl rfl (by simp)); have HK2 := Lib.hid (Keep.of_below (S := [51, 48, 55, 77]) (x := some o) hb2 HBB.out); clear hs2 hT2 hb2 hb2'))
    clear x0 x1 x4 y0 y1 hg
    have HL := Lib.hid (load_any B a c x H L w2 HA2.out HCL.out HX.out)
    go_wp2_with fail
    refine HL.out.mono ?_
    rintro e w3 ⟨rfl, hA3, hk3⟩
    have hs3 := hk3.rest o _ 70 HS2.out rfl (by simp)
    have hT3 := HT2.out.keep hk3 rfl rfl rfl (by simp)
    clear f2 q0 q1 q2 q4 q5 q6 q7 p0 p1 p2 hg2
    have f3 := froz_all hs3
    have q5 := box_cells hs3 5 (.int .u64 (s.head : Int)) rfl
    have q6 := box_cells hs3 6 (.int .u64 (s.cur : Int)) rfl
    have hlt3 := heap_lt hs3
    have h4 := set_at (set_at hs3 5 (.int .u64 (x : Int))) 6 (.int .u64 (x : Int))
    have hke : Keep B [] (some o) w3 ((w3.setCell ⟨o, 5, none⟩ (.int .u64 (x : Int))).setCell ⟨o, 6, none⟩ (.int .u64 (x : Int))) :=
      ((Keep.refl B [] (some o) w3).setOwn hlt3 hb 5 _).setOwn (by simpa [World.setCell] using hlt3) hb 6 _
    have HJ := Lib.hid (show JW B o t a hd H L E s w _ from ⟨{ s with head := x, cur := x }, rfl, HXL.out, hA3.keep hke rfl rfl (fun g cs t e h => by obtain rfl := only_type hs3 e h; decide), hT3.w.keep hke rfl rfl rfl (fun g cs t e h => by obtain rfl := only_type hs3 e h; decide), ⟨hb, ref, had, code, h4⟩, (HK2.out.trans (hk3.mono rfl)).trans (hke.more rfl), fun H' L' E' s' d h => .begin c x HH0.out HKY.out (by rw [← HN.out, ← HKK.out]; exact HCC.out) HX.out h⟩)
    clear hA3 hk3 hs3 hT3 h4 hke hlt3
    go_wp2_with fail
    go_step3
    exact ⟨rfl, HJ.out, _, _, _, _, _, _, _, _, _, _, _, _, _, _, _, _, _, _, _, _, _, _, _, _, _, _, _, _, _, _, _, _, _, _, _, _, _, _, _, _, _, _, _, _, _, _, _, _, _, _, _, _, _, _, _, _, _, _, _, _, _, _, _, _, _, _, _, _, _, _, _, _, _, _, _, _, _, _, _, _, _, _, _, _, _, _, _, _, _, _, _, _, _, _, rfl⟩
  · rintro a' w1 ⟨⟨s1, he1, hc1, hA1, hT1, hs1, hk1, hL1⟩, u3, u4, u5, u6, u7, u8, u9, u10, u11, u12, u13, u14, u15, u16, u17, u18, u19, u20, u21, u22, u23, u24, u25, u26, u27, u28, u29, u30, u31, u32, u33, u34, u35, u36, u37, u38, u39, u40, u41, u42, u43, u44, u45, u46, u47, u48, u49, u50, u51, u52, u53, u54, u55, u56, u57, u58, u59, u60, u61, u62, u63, u64, u65, u66, u67, u68, u69, u70, u71, u72, u73, u74, u75, u76, u77, u78, u79, u80, u81, u82, u83, u84, u85, u86, u87, u88, u89, u90, u91, u92, u93, u94, u95, u96, rfl⟩
    have hel := hp.el
    have hll := hp.ll
    have hsz1 : B ≤ w1.heap.size := Nat.le_trans hBs hk1.size
    have HF := Lib.hid (found_any B o t a hd H L E s1 w1 hA1 hT1 hs1 (by omega) hc1 (fun h => by rw [he1] at h ⊢; exact hp.own h))
    obtain ⟨hb, ref, had, code, hh⟩ := hs1
    have x6 := box_cells hh 6 (.int .u64 (s1.cur : Int)) rfl
    have HS1 := Lib.hid hh; have HA1 := Lib.hid hA1; have HT1 := Lib.hid hT1; have HK1 := Lib.hid hk1; have HLK := Lib.hid hL1; have HSZ := Lib.hid hsz1
    clear hh hA1 hT1 hk1 hL1 hsz1 hA hT hs hp hnb hkk hbl hn0 hn1 hcc hcl hx hk hnx
    go_wp2_with fail
    refine HF.out.mono ?_
    rintro e w2 (⟨L', rfl, hl, hA2, hs2, hk2⟩ | ⟨rfl, hl, q, hw2⟩)
    · have HJ := Lib.hid (show StepR B o t a hd H L E s w (.returned (.bool true)) w2 from ⟨_, _, _, _, _, rfl, HLK.out _ _ _ _ _ hl, hA2, HT1.out.keep hk2 rfl rfl rfl (fun g cs t e h => by obtain rfl := only_type HS1.out e h; decide), hs2, HK1.out.trans (hk2.more rfl)⟩)
      clear hl hA2 hs2 hk2
      go_wp2_with fail
      simp only [Exit.jump]
      go_ret
      exact HJ.out
    · have hk2 : Keep B [] none w1 w2 := by rw [hw2]; exact (Keep.refl B [] none w1).drewN _
      have hs2 := hk2.rest o _ 70 HS1.out rfl (by simp)
      have HA2 := Lib.hid (HA1.out.keep hk2 rfl rfl (by simp))
      have HT2 := Lib.hid (HT1.out.keep hk2 rfl rfl rfl (by simp))
      have HZ2 := Lib.hid ((HZ.out.keepS hB HK1.out).keepS hB hk2)
      have HK2 := Lib.hid (HK1.out.trans (hk2.mono (x := some o) (T := [51, 48, 55, 77]) rfl))
      clear hw2 x6
      have hsz2 : B ≤ w2.heap.size := Nat.le_trans HSZ.out hk2.size
      have y6 := box_cells hs2 6 (.int .u64 (s1.cur : Int)) rfl
      have f2 := froz_all hs2
      have hlt2 := heap_lt hs2
      rcases hl with hl | ⟨hl0, hl⟩
      · have HLA := Lib.hid (last_any B o t a hd H L E s1 w2 HA2.out HT2.out ⟨hb, ref, had, code, hs2⟩ HZ2.out hel hB hsz2 hll hl)
        have y6' : w2.cell? ⟨o, 6, none⟩ = some (.int .u64 0) := by rw [hl] at y6; exact y6
        clear y6 hs2 hk2 hl
        go_wp2_with fail
        refine HLA.out.mono ?_
        rintro e w3 ⟨rfl, H', L', E', s', hl3, hA3, hT3, hs3, hk3⟩
        have HJ := Lib.hid (show StepR B o t a hd H L E s w (.returned (.bool false)) w3 from ⟨_, _, _, _, _, rfl, HLK.out _ _ _ _ _ hl3, hA3, hT3, hs3, HK2.out.trans hk3⟩)
        clear hl3 hA3 hT3 hs3 hk3
        go_wp2_with fail
        simp only [Exit.jump]
        go_ret
        exact HJ.out
      · have n0 : ((s1.cur : Int) == 0) = false := by rw [beq_eq_false_iff_ne]; omega
        have n1 : ¬ s1.cur = 0 := by omega
        have y4 := box_cells hs2 4 (.int .i64 (s1.next : Int)) rfl
        have h4 := set_at hs2 4 (.int .i64 1)
        have hke : Keep B [] (some o) w2 (w2.setCell ⟨o, 4, none⟩ (.int .i64 1)) := (Keep.refl B [] (some o) w2).setOwn hlt2 hb 4 _
        have HJ := Lib.hid (show StepR B o t a hd H L E s w (.returned (.bool false)) _ from ⟨_, _, _, _, _, rfl, HLK.out _ _ _ _ _ hl, HA2.out.keep hke rfl rfl (fun g cs t e h => by obtain rfl := only_type hs2 e h; decide), HT2.out.keep hke rfl rfl rfl (fun g cs t e h => by obtain rfl := only_type hs2 e h; decide), ⟨hb, ref, had, code, h4⟩, HK2.out.trans (hke.more rfl)⟩)
        clear h4 hke hs2 hk2 hl
        go_wp2_with fail
        simp only [Exit.jump]
        go_ret
        exact HJ.out
end Go.Proofs.YtfolchpjccjadaaDoor
