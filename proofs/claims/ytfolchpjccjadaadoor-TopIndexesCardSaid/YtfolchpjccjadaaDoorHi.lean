/- The walk of the hash index's Step: where it swaps. -/
import Derived.Test.YtfolchpjccjadaaDoorHf
namespace Go.Proofs.YtfolchpjccjadaaDoor
open Go.RowKit
set_option linter.unusedVariables false
attribute [local go_sem] bs_list bs_size

set_option maxRecDepth 100000 in
set_option maxHeartbeats 4000000 in
theorem hstep_swap (B o t a : Nat) (hd H L : List Nat) (E : List Ent) (s : Hop) (w : World) (hA : ArW w B a H L) (hT : TbW w B t a hd E) (hs : HopW w B o t s) (hz : TabW w) (hB : 0 < B) (hBs : B ≤ w.heap.size) (hp : HPre hd H L E s) (hk : isKey s.key = true) (h0 : s.next = 3) :
    Calls Tryd.prog 17 #[.pointer (some ⟨o, 0, none⟩)] w (StepR B o t a hd H L E s w) := by
  obtain ⟨nb, hnb⟩ : ∃ nb, nb = hd.length := ⟨_, rfl⟩
  have hbl : bk nb s.key < nb := by rw [hnb]; exact Nat.mod_lt _ hp.hd0
  obtain ⟨k, hkk⟩ : ∃ k, k = bk nb s.key := ⟨_, rfl⟩
  rw [← hkk] at hbl
  have hn0 := hp.hd0; have hn1 := hp.hd1
  obtain ⟨c, hcc⟩ : ∃ c, hd[k]? = some c := ⟨_, List.getElem?_eq_getElem (by omega)⟩
  obtain ⟨hcl, hcx⟩ := hp.hdl c (by rw [← hnb, ← hkk]; exact hcc)
  obtain ⟨x, hx⟩ := hA.get hcl
  have HXL := Lib.hid (hcx x hx)
  have HBK := Lib.hid (bucket_any B t a hd E s.key w.drew (hT.keep (Keep.refl B [] none w).drew rfl rfl rfl (by simp)) hk hn0 hn1)
  rw [← hnb, ← hkk] at HBK
  have HZ := Lib.hid hz
  clear hcx hz
  have hnx := hp.nx
  go_enter Tryd.func17, Tryd.ntmps17
  go_wp2
  refine wp_scope_jumps 0 (fun _ _ => False) (fun _ _ => 0) rfl ?_ ?_
  · obtain ⟨ho0, hhl⟩ := hp.lay (by omega)
    obtain ⟨y, hy, hyc⟩ := hp.own ho0
    have hcl' := (List.getElem?_eq_some_iff.1 hy).1
    have hel := hp.el
    clear hy hyc
    obtain ⟨hb, ref, had, code, hh⟩ := hs
    obtain ⟨hv, ev, hT⟩ := hT
    obtain ⟨g, cap, rfl, hg⟩ := hT.head hcc
    obtain ⟨ga, gc, hgc⟩ := row_slice hT.2.2.2
    subst hgc
    have x0 := box_cells hh 0 (.pointer (some ⟨t, 0, none⟩)) rfl
    have x1 := box_cells hh 1 (.string (bs s.key)) rfl
    have x4 : w.cell? ⟨o, 4, none⟩ = some (.int .i64 3) := by
      have := box_cells hh 4 (.int .i64 (s.next : Int)) rfl
      rw [h0] at this
      exact this
    have y0 := box_cells hT.1 0 (.pointer (some ⟨a, 0, none⟩)) rfl
    have y1 := box_cells hT.1 1 (.slice (some ⟨g, 0, none⟩) nb cap) (by rw [hnb]; rfl)
    have HS := Lib.hid hh
    have HT := Lib.hid hT
    have HA := Lib.hid hA
    have HN := Lib.hid hnb
    have HKK := Lib.hid hkk
    have HCC := Lib.hid hcc
    have HX := Lib.hid hx
    have HP := Lib.hid hp
    have HH0 := Lib.hid h0
    have HKY := Lib.hid hk
    have HCL := Lib.hid hcl
    have HBB := Lib.hid hBs
    have i1 : (0 : Int) ≤ (k : Int) := by omega
    have i2 : (k : Int) < (nb : Int) := by omega
    clear hh hT hA hnb hkk hcc hx hp h0 hcl hk hn0 hn1 hBs
    go_wp2_with fail
    go_upto_region 5 with fail
    go_region_held3 (fun W => W.cell? ⟨o, 0, none⟩ = some (.pointer (some ⟨t, 0, none⟩)) ∧ W.cell? ⟨o, 1, none⟩ = some (.string (bs s.key)) ∧ W.cell? ⟨t, 0, none⟩ = some (.pointer (some ⟨a, 0, none⟩)) ∧ W.cell? ⟨t, 1, none⟩ = some (.slice (some ⟨g, 0, none⟩) nb cap) ∧ W.cell? ⟨g, k, none⟩ = some (.int .i64 (c : Int))) (simp [*]) ((go_at_call 26; refine HBK.out.mono ?_; rintro e w2 ⟨rfl, hb2'⟩; have hb2 : Below w.heap.size w w2 := ⟨hb2'.os, hb2'.tape, hb2'.output, hb2'.size, hb2'.block⟩; have hs2 := heap_below HS.out hb2; have hT2 := HT.out.keep (Keep.of_below (S := []) (x := none) hb2 HBB.out) rfl rfl rfl (by simp); have f2 := froz_all hs2; have q0 := box_cells hs2 0 (.pointer (some ⟨t, 0, none⟩)) rfl; have q1 := box_cells hs2 1 (.string (bs s.key)) rfl; have q2 := box_cells hs2 2 (.int .i64 ref) rfl; have q4 := hop_next hs2 (v := 3) (by have := HH0.out; omega); have q5 := box_cells hs2 5 (.int .u64 (s.head : Int)) rfl; have q6 := box_cells hs2 6 (.int .u64 (s.cur : Int)) rfl; have q7 := box_cells hs2 7 (.int .u64 (s.own : Int)) rfl; have p0 := box_cells hT2.1 0 (.pointer (some ⟨a, 0, none⟩)) rfl; have p1 := box_cells hT2.1 1 (.slice (some ⟨g, 0, none⟩) nb cap) (by rw [HN.out]; rfl); have p2 := box_cells hT2.1 2 (.slice ga E.length gc) rfl; have hg2 : w2.cell? ⟨g, k, none⟩ = some (.int .i64 (c : Int)) := (hb2.cell (World.block_lt_of_cell? w _ hg)).trans hg; have HS2 := Lib.hid hs2; have HT2 := Lib.hid hT2; have HA2 := Lib.hid (HA.out.keep (Keep.of_below (S := []) (x := none) hb2 HBB.out) rfl rfl (by simp)); have HK2 := Lib.hid (Keep.of_below (S := [51, 48, 55, 77]) (x := some o) hb2 HBB.out); clear hs2 hT2 hb2 hb2'))
    clear x0 x1 x4 y0 y1 hg
    have HL := Lib.hid (cas_any B a c x s.head s.own H L w2.drew (HA2.out.keep (Keep.refl B [] none w2).drew rfl rfl (by simp)) HCL.out HX.out (by omega))
    by_cases hxe : x = s.head
    · have hbe : (x == s.head) = true := by simpa using hxe
      have HXE := Lib.hid hxe
      clear hxe
      rw [hbe] at HL
      go_upto_region 16 with fail
      go_region_held3 (fun W => W.cell? ⟨o, 5, none⟩ = some (.int .u64 (s.head : Int)) ∧ W.cell? ⟨o, 7, none⟩ = some (.int .u64 (s.own : Int))) (simp [*]) ((go_at_call 28; refine HL.out.mono ?_; rintro e w3 ⟨rfl, hA3, hk3⟩; have hs3 := hk3.rest o _ 70 HS2.out rfl (by simp); have hT3 := HT2.out.keep ((Keep.refl B [51, 48] none w2).drew.trans hk3) rfl rfl rfl (by simp); have r2 := box_cells hs3 2 (.int .i64 ref) rfl; have r5 := box_cells hs3 5 (.int .u64 (s.head : Int)) rfl; have r7 := box_cells hs3 7 (.int .u64 (s.own : Int)) rfl; have HS3 := Lib.hid hs3; have HT3 := Lib.hid hT3; have HA3 := Lib.hid hA3; have HK3 := Lib.hid ((Keep.refl B [51, 48] none w2).drew.trans hk3); clear hs3 hT3 hA3 hk3))
      have HE := Lib.hid (ends_any B o t s ref false 0 w3 ⟨hb, ref, had, code, HS3.out⟩)
      go_wp2_with fail
      refine HE.out.mono ?_
      rintro e w4 ⟨rfl, h4, hke⟩
      have hs3 := HS3.out
      have hca : casH H c x s.head s.own = H.set c s.own := by unfold casH; rw [if_pos HXE.out]
      have HJ := Lib.hid (show StepR B o t a hd H L E s w (.returned (.bool true)) w4 from ⟨_, _, _, _, _, rfl, .swap c HH0.out (by rw [← HN.out, ← HKK.out]; exact HCC.out) (by rw [← HXE.out]; exact HX.out), hca ▸ HA3.out.keep hke rfl rfl (fun g cs t e h => by obtain rfl := only_type hs3 e h; decide), HT3.out.w.keep hke rfl rfl rfl (fun g cs t e h => by obtain rfl := only_type hs3 e h; decide), h4, (HK2.out.trans (HK3.out.mono rfl)).trans (hke.more rfl)⟩)
      clear h4 hke hs3 hca
      go_wp2_with fail
      simp only [Exit.jump]
      go_ret
      exact HJ.out
    · have hbe : (x == s.head) = false := by simpa using hxe
      have HXE := Lib.hid hxe
      clear hxe
      rw [hbe] at HL
      go_upto_region 16 with fail
      go_region_held3 (fun W => W.cell? ⟨o, 5, none⟩ = some (.int .u64 (s.head : Int)) ∧ W.cell? ⟨o, 7, none⟩ = some (.int .u64 (s.own : Int))) (simp [*]) ((go_at_call 28; refine HL.out.mono ?_; rintro e w3 ⟨rfl, hA3, hk3⟩; have hs3 := hk3.rest o _ 70 HS2.out rfl (by simp); have hT3 := HT2.out.keep ((Keep.refl B [51, 48] none w2).drew.trans hk3) rfl rfl rfl (by simp); have f3 := froz_all hs3; have r4 := box_cells hs3 4 (.int .i64 (s.next : Int)) rfl; have r5 := box_cells hs3 5 (.int .u64 (s.head : Int)) rfl; have r7 := box_cells hs3 7 (.int .u64 (s.own : Int)) rfl; have HS3 := Lib.hid hs3; have HT3 := Lib.hid hT3; have HA3 := Lib.hid hA3; have HK3 := Lib.hid ((Keep.refl B [51, 48] none w2).drew.trans hk3); clear hs3 hT3 hA3 hk3))
      have hs3 := HS3.out
      have hlt3 := heap_lt hs3
      have h4 := set_at hs3 4 (.int .i64 0)
      have hke : Keep B [] (some o) w3 (w3.setCell ⟨o, 4, none⟩ (.int .i64 0)) := (Keep.refl B [] (some o) w3).setOwn hlt3 hb 4 _
      have hca : casH H c x s.head s.own = H := by unfold casH; rw [if_neg HXE.out]
      have HJ := Lib.hid (show StepR B o t a hd H L E s w (.returned (.bool false)) _ from ⟨_, _, _, _, _, rfl, .fail c x HH0.out (by rw [← HN.out, ← HKK.out]; exact HCC.out) HX.out HXE.out, hca ▸ HA3.out.keep hke rfl rfl (fun g cs t e h => by obtain rfl := only_type hs3 e h; decide), HT3.out.w.keep hke rfl rfl rfl (fun g cs t e h => by obtain rfl := only_type hs3 e h; decide), ⟨hb, ref, had, code, h4⟩, (HK2.out.trans (HK3.out.mono rfl)).trans (hke.more rfl)⟩)
      clear hs3 hlt3 h4 hke hca
      go_wp2_with fail
      simp only [Exit.jump]
      go_ret
      exact HJ.out
  · rintro a' w1 h
    exact h.elim
end Go.Proofs.YtfolchpjccjadaaDoor
