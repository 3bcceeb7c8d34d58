/- The walks of the hash index's New and of the skip list's New. -/
import Derived.Test.YtfolchpjccjadaaDoorTh
namespace Go.Proofs.YtfolchpjccjadaaDoor
open Go.RowKit
set_option linter.unusedVariables false
attribute [local go_sem] bs_list bs_size

set_option maxRecDepth 100000 in
set_option maxHeartbeats 1000000 in
theorem hnew_bad (a : Nat) (z : Int) (w : World) (hz : z < 1 ∨ 256 < z) :
    Calls Tryd.prog 5 #[.pointer (some ⟨a, 0, none⟩), .int .i64 z] w fun e w' => e = .returned (.tuple #[.pointer none, .int .i64 2]) ∧ w = w' := by
  rcases hz with hz | hz
  · have t1 : decide (z < 1) = true := by simpa using hz
    go_enter Tryd.func5, Tryd.ntmps5
    go_wp2_with fail
    go_ret2
    exact ⟨rfl, rfl⟩
  · have t1 : ¬ z < 1 := by omega
    go_enter Tryd.func5, Tryd.ntmps5
    go_wp2_with fail
    go_ret2
    exact ⟨rfl, rfl⟩

set_option maxRecDepth 100000 in
set_option maxHeartbeats 2000000 in
theorem hnew_any (B a nb : Nat) (w : World) (hA : ArW w B a [] []) (hz : TabW w) (hB : 0 < B) (hBs : B ≤ w.heap.size) (h1 : 1 ≤ nb) (h2 : nb ≤ 256) :
    Calls Tryd.prog 5 #[.pointer (some ⟨a, 0, none⟩), .int .i64 (nb : Int)] w fun e w' => e = .returned (.tuple #[.pointer (some ⟨w.heap.size, 0, none⟩), .int .i64 0]) ∧ ∃ hd H L, Grow [] [] nb hd H L ∧ ArW w' B a H L ∧ TbW w' B w.heap.size a hd [] ∧ Keep B [51, 48, 3] none w w' := by
  obtain ⟨t, ht⟩ : ∃ t, t = w.heap.size := ⟨_, rfl⟩
  have hn0 : (w.alloc (.cells #[.pointer (some ⟨a, 0, none⟩), .slice none 0 0, .slice none 0 0] 55)).heap[t]? = some (.cells #[.pointer (some ⟨a, 0, none⟩), .slice none 0 0, .slice none 0 0] 55 (0, 0)) := by rw [ht]; exact heap_alloc_new w _
  have hk0 : Keep B [] none w (w.alloc (.cells #[.pointer (some ⟨a, 0, none⟩), .slice none 0 0, .slice none 0 0] 55)) := Keep.of_alloc w _ hBs
  obtain ⟨w0, hw0⟩ : ∃ w0, w0 = w.alloc (.cells #[.pointer (some ⟨a, 0, none⟩), .slice none 0 0, .slice none 0 0] 55) := ⟨_, rfl⟩
  rw [← hw0] at hn0 hk0
  have HA0 := Lib.hid (hA.keep hk0 rfl rfl (by simp))
  have HN0 := Lib.hid hn0; have HK0 := Lib.hid hk0; have HW0 := Lib.hid hw0; have HTT := Lib.hid ht; have HZ0 := Lib.hid (hz.keep hk0 hB)
  have hBt : B ≤ t := by omega
  have i1 : ¬ (nb : Int) < 1 := by omega
  have i2 : ¬ 256 < (nb : Int) := by omega
  clear hn0 hk0 hw0 ht hA hz
  go_enter Tryd.func5, Tryd.ntmps5
  go_upto_region 6 with fail
  rw [← HW0.out, ← HTT.out]
  go_wp2_with fail
  go_loopw [23] (fun i wr => ∃ (k : Nat) (cs H L : List Nat) (hv : Value), k ≤ nb ∧ i = .int .i64 (k : Int) ∧ Hid (Grow [] [] k cs H L) ∧ ArW wr B a H L ∧ Hid (wr.heap[t]? = some (.cells #[.pointer (some ⟨a, 0, none⟩), hv, .slice none 0 0] 55 (0, 0))) ∧ Hid (wr.ownsRow B 3 1 hv k (cs.map intv)) ∧ Keep B [51, 48, 3] (some t) w0 wr) (fun i _ => nb - (intOf i).toNat)
  case atStart => exact ⟨0, [], [], [], .slice none 0 0, by omega, rfl, Lib.hid .nil, HA0.out, HN0, Lib.hid ⟨rfl, .inl ⟨rfl, rfl⟩⟩, Keep.refl _ _ _ _⟩
  case round =>
    obtain ⟨k, cs, H, L, hv, hk, rfl, hg, hA1, hn1, hr1, hK1⟩ := hrel
    have HA1 := Lib.hid hA1
    have HK1 := Lib.hid hK1
    clear hA1 hK1
    by_cases hlt : k < nb
    · have HLEN := Lib.hid hg.out.len
      have HF := Lib.hid (alloc_any B a H L wr HA1.out (HZ0.out.keep HK1.out hB) hB (Nat.le_trans hBs (Nat.le_trans HK0.out.size HK1.out.size)) (by have := HLEN.out.2; simp at this; omega))
      go_wp2_with fail
      refine HF.out.mono ?_
      rintro e w2 ⟨c, rfl, hc1, hc2, hA2, hK2⟩
      have hn2 := hK2.rest t _ 55 hn1.out rfl (by simp)
      have hr2 := hK2.row hr1.out rfl (by simp)
      obtain ⟨A, ca, hsl⟩ := row_slice hr2
      subst hsl
      have y1 := box_cells hn2 1 (.slice A k ca) rfl
      have hbw2 : B ≤ w2.heap.size := Nat.le_trans hBs (Nat.le_trans HK0.out.size (Nat.le_trans HK1.out.size hK2.size))
      have HN2 := Lib.hid hn2; have HR2 := Lib.hid hr2; have HA2 := Lib.hid hA2; have HK2 := Lib.hid hK2
      have HG := Lib.hid (Grow.snoc c hg.out hc1 hc2)
      clear hn2 hr2 hA2 hK2 hc1 hc2
      go_wp2_with (at_builtin; refine append_one B w2.heap.size rfl 23 3 1 8 _ Tryd.underlying23 info3 rfl (by omega) rfl (.tmp 50) (.tmp 52) rfl _ k (cs.map intv) #[.int .i64 (c : Int)] rfl ?hy rfl rfl HR2.out ?hb ?hl1 ?hl2 ?_; (case hy => intro u hu; simp at hu; subst hu; rfl); (case hb => exact hbw2); (case hl1 => omega); (case hl2 => omega); intro v1 w3 ho3 hb3 hg3 hat3; (obtain ⟨A1, c1, hv1⟩ := row_slice ho3); subst hv1; have hn3 := heap_kept HN2.out hg3 (row_off HR2.out HN2.out (by decide)); have f3 := froz_all hn3; have q1 := box_cells hn3 1 (.slice A k ca) rfl; have HN3 := Lib.hid hn3; have HO3 := Lib.hid ho3; have HG3 := Lib.hid hg3; clear hn3 ho3 hg3 hat3 hb3)
      have hk3 : Keep B [51, 48, 3] (some t) w2 w3 := Keep.of_append HG3.out HR2.out hbw2 rfl
      have hA3 := HA2.out.keep (Keep.of_append (S := [3]) (x := none) HG3.out HR2.out hbw2 rfl) rfl rfl (by simp)
      have hn4 := set_at HN3.out 1 (.slice A1 (k + 1) c1)
      have hke : Keep B [] (some t) w3 (w3.setCell ⟨t, 1, none⟩ (.slice A1 (k + 1) c1)) := (Keep.refl B [] (some t) w3).setOwn (heap_lt HN3.out) hBt 1 _
      have hA4 := hA3.keep hke rfl rfl (fun g cs t' e h => by obtain rfl := only_type HN3.out e h; decide)
      have hr4 := hke.row HO3.out rfl (fun g e => by obtain rfl := Option.some.inj e; exact row_off HO3.out HN3.out (by decide))
      go_roundw
      case rel => exact ⟨k + 1, cs ++ [c], _, _, .slice A1 (k + 1) c1, by omega, by go_num, HG, hA4, Lib.hid hn4, Lib.hid (by rw [List.map_append]; exact hr4), (HK1.out.trans (HK2.out.mono rfl)).trans (hk3.trans (hke.more rfl))⟩
      case measure => simp [intOf]; omega
    · have hkk : k = nb := by omega
      subst hkk
      go_wp2_with fail
      go_ret2
      obtain rfl := HTT.out
      refine ⟨rfl, cs, H, L, hg.out, HA1.out, ⟨hv, .slice none 0 0, hn1.out, hBt, ?_, ⟨rfl, .inl ⟨rfl, rfl⟩⟩⟩, ?_⟩
      · rw [hg.out.len.1]; exact hr1.out
      · exact Keep.fresh (HK0.out.mono rfl) HK1.out (Nat.le_refl _)

theorem nod_first : nodCells ⟨[], List.replicate 8 0, 8⟩ 0 = #[.string ⟨#[]⟩, .int .u8 0, .int .u8 0, .int .u8 0, .int .u8 0, .int .u8 0, .int .u8 0, .int .u8 0, .int .u8 0, .int .u8 0, .int .u8 0, .int .u8 0, .int .u8 0, .int .u8 0, .int .u8 0, .int .u8 0, .int .u8 0, .int .u8 0, .int .i64 0, .int .i64 0, .int .i64 0, .int .i64 0, .int .i64 0, .int .i64 0, .int .i64 0, .int .i64 0, .int .i64 0, .int .i64 8] := rfl
set_option maxRecDepth 100000 in
set_option maxHeartbeats 2000000 in
theorem snew_any (B a : Nat) (H L : List Nat) (w : World) (hA : ArW w B a H L) (hz : TabW w) (hB : 0 < B) (hBs : B ≤ w.heap.size) (hL : L.length + 8 < 2000) :
    Calls Tryd.prog 6 #[.pointer (some ⟨a, 0, none⟩)] w fun e w' => e = .returned (.tuple #[.pointer (some ⟨w.heap.size, 0, none⟩), .int .i64 0]) ∧ ∃ cs H' L', Grow H L 8 cs H' L' ∧ ArW w' B a H' L' ∧ LsW w' B w.heap.size a [⟨[], cs, 8⟩] ∧ Keep B [51, 48, 61, 62] none w w' := by
  obtain ⟨l, hl⟩ : ∃ l, l = w.heap.size := ⟨_, rfl⟩
  obtain ⟨w0, hw0⟩ : ∃ w0, w0 = (w.alloc (.cells #[.pointer (some ⟨a, 0, none⟩), .slice none 0 0] 61)).alloc (.cells #[.string ⟨#[]⟩, .int .u8 0, .int .u8 0, .int .u8 0, .int .u8 0, .int .u8 0, .int .u8 0, .int .u8 0, .int .u8 0, .int .u8 0, .int .u8 0, .int .u8 0, .int .u8 0, .int .u8 0, .int .u8 0, .int .u8 0, .int .u8 0, .int .u8 0, .int .i64 0, .int .i64 0, .int .i64 0, .int .i64 0, .int .i64 0, .int .i64 0, .int .i64 0, .int .i64 0, .int .i64 0, .int .i64 8] 67) := ⟨_, rfl⟩
  have hl0 : w0.heap[l]? = some (.cells #[.pointer (some ⟨a, 0, none⟩), .slice none 0 0] 61 (0, 0)) := by rw [hw0, hl]; exact heap_alloc2_old w _ _
  have hn0 : w0.heap[l + 1]? = some (.cells (nodCells ⟨[], List.replicate 8 0, 8⟩ 0) 67 (0, 0)) := by rw [hw0, hl, nod_first]; exact heap_alloc2_new w _ _
  have hb0 : Below w.heap.size w w0 := by rw [hw0]; exact (((Below.refl _ _).alloc (Nat.le_refl _) _).alloc (by simp) _)
  have hk0 : Keep B [] none w w0 := Keep.of_below hb0 hBs
  have hsz0 : B ≤ w0.heap.size := Nat.le_trans hBs hk0.size
  have HG := Lib.hid (grow_any B l a (l + 1) H L [] 8 0 (.slice none 0 0) w0 (hA.keep hk0 rfl rfl (by simp)) (hz.keep hk0 hB) hB hsz0 hL hl0 (by omega) hn0 (by omega))
  have HL0 := Lib.hid hl0; have HK0 := Lib.hid hk0; have HW0 := Lib.hid hw0; have HLL := Lib.hid hl; have HS0 := Lib.hid hsz0
  have hBl : B ≤ l := by omega
  clear hl0 hn0 hb0 hk0 hw0 hl hA hz hsz0
  go_enter Tryd.func6, Tryd.ntmps6
  go_upto_region 5 with fail
  rw [← HW0.out, ← HLL.out]
  go_wp2_with fail
  refine HG.out.mono ?_
  rintro e w1 ⟨rfl, cs, H', L', hg, hA1, hn1, hk1⟩
  have hl1 := hk1.rest l _ 61 HL0.out rfl (by simp)
  have y1 := box_cells hl1 1 (.slice none 0 0) rfl
  have hT1 : LsC w1 B l a [] (.slice none 0 0) [] := ⟨hl1, hBl, rfl, ⟨rfl, .inl ⟨rfl, rfl⟩⟩, fun i x h => by simp at h⟩
  have hX1 : NodW w1 B (l + 1) ⟨[], cs, 8⟩ := ⟨by omega, hg.len.1, 0, by
    have := hn1
    rw [Nat.sub_self, List.replicate_zero, List.append_nil] at this
    exact this⟩
  have hsz1 : B ≤ w1.heap.size := Nat.le_trans HS0.out hk1.size
  have HX1 := Lib.hid hX1; have HA1 := Lib.hid hA1
  have HT1 := Lib.hid hT1; have HGR := Lib.hid hg; have HK1 := Lib.hid hk1
  clear hl1 hT1 hX1 hA1 hn1 hg hk1
  go_wp2_with (at_builtin; refine append_one B w1.heap.size rfl 59 62 1 8 _ Tryd.underlying59 info62 rfl (by omega) rfl (.tmp 24) (.tmp 26) rfl _ 0 [] #[.pointer (some ⟨l + 1, 0, none⟩)] rfl ?hy rfl rfl HT1.out.2.2.2.1 ?hb ?hl1 ?hl2 ?_; (case hy => intro u hu; simp at hu; subst hu; rfl); (case hb => exact hsz1); (case hl1 => omega); (case hl2 => omega); intro v1 w3 ho3 hb3 hg3 hat3; (obtain ⟨A1, c1, hv1⟩ := row_slice ho3); subst hv1; have hg4 : w1.grownBy w3 (Value.slice none 0 0).ownBlock := hg3; have hl3 := heap_kept HT1.out.1 hg4 (row_off HT1.out.2.2.2.1 HT1.out.1 (by decide)); have q1 := box_cells hl3 1 (.slice none 0 0) rfl; have f3 := froz_all hl3; have HL3 := Lib.hid hl3; have HO3 := Lib.hid ho3; have HG3 := Lib.hid hg4; clear ho3 hg3 hb3 hl3 hat3 hg4)
  obtain ⟨hT4, hk4⟩ := node_end HT1.out HX1.out hsz1 HL3.out HO3.out HG3.out
  go_ret2
  obtain rfl := HLL.out
  exact ⟨rfl, cs, H', L', HGR.out, HA1.out.keep hk4 rfl rfl (by simp), hT4, ((Keep.fresh (S := [51, 48, 61, 62]) (HK0.out.mono rfl) (HK1.out.more rfl) (by omega)).trans (hk4.mono rfl))⟩
end Go.Proofs.YtfolchpjccjadaaDoor
