/- The walks of the skip list's fell and grow. -/
import Derived.Test.YtfolchpjccjadaaDoorSt
namespace Go.Proofs.YtfolchpjccjadaaDoor
open Go.RowKit
set_option linter.unusedVariables false
attribute [local go_sem] bs_list bs_size

theorem foldl_take {cs L : List Nat} {k c : Nat} (h : cs[k]? = some c) : (cs.take (k + 1)).foldl List.erase L = ((cs.take k).foldl List.erase L).erase c := by
  rw [List.take_add_one, h]
  simp [List.foldl_append]
theorem mem_rest {cs L : List Nat} {k c : Nat} (hn : cs.Nodup) (hm : ∀ c, c ∈ cs → c ∈ L) (h : cs[k]? = some c) : c ∈ (cs.take k).foldl List.erase L := by
  refine erase_all_mem (hm c (List.mem_of_getElem? h)) fun hc => ?_
  have h1 : (cs.take k ++ cs.drop k).Nodup := by rw [List.take_append_drop]; exact hn
  have h2 : c ∈ cs.drop k := List.mem_of_getElem? (i := 0) (by rw [List.getElem?_drop]; exact h)
  exact (List.nodup_append.1 h1).2.2 c hc c h2 rfl

set_option maxRecDepth 100000 in
set_option maxHeartbeats 2000000 in
theorem fell_any (B l a p : Nat) (H L : List Nat) (y : Nod) (nv : Value) (w : World) (hA : ArW w B a H L) (hl : w.heap[l]? = some (.cells #[.pointer (some ⟨a, 0, none⟩), nv] 61 (0, 0))) (hy : NodW w B p y) (h8 : y.height ≤ 8) (hn : (y.tower.take y.height).Nodup) (hm : ∀ c, c ∈ y.tower.take y.height → c ∈ L) :
    Calls Tryd.prog 24 #[.pointer (some ⟨l, 0, none⟩), .pointer (some ⟨p, 0, none⟩)] w fun e w' => e = .returned (.tuple #[]) ∧ ArW w' B a H ((y.tower.take y.height).foldl List.erase L) ∧ Keep B [51] none w w' := by
  obtain ⟨hb, ht8, ref, hh⟩ := hy
  have x27 := box_cells hh 27 (.int .i64 (y.height : Int)) rfl
  have HA := Lib.hid hA
  have HL := Lib.hid hl
  have HH := Lib.hid hh
  have HN := Lib.hid hn
  have HM := Lib.hid hm
  obtain ⟨ht, hht⟩ : ∃ ht, ht = y.height := ⟨_, rfl⟩
  rw [← hht] at x27 h8
  have HHT := Lib.hid hht
  clear hA hl hh hn hm hht
  go_enter Tryd.func24, Tryd.ntmps24
  have i0 : (0 : Int) ≤ (ht : Int) := by omega
  have i1 : (ht : Int) ≤ 8 := by omega
  go_wp2_with fail
  go_region
  obtain ⟨w0, hw0⟩ : ∃ w0, w0 = w.drew := ⟨_, rfl⟩
  rw [← hw0]
  have HK0 := Lib.hid (show Keep B [] none w w0 by rw [hw0]; exact (Keep.refl _ _ _ _).drew)
  clear hw0 x27
  go_wp2_with fail
  go_loopw [15] (fun i wr => ∃ k : Nat, k ≤ ht ∧ i = .int .i64 (k : Int) ∧ ArW wr B a H (((y.tower.take ht).take k).foldl List.erase L) ∧ Keep B [51] none w wr) (fun i _ => ht - (intOf i).toNat)
  case atStart => exact ⟨0, by omega, rfl, HA.out.keep HK0.out rfl rfl (by simp), HK0.out.mono rfl⟩
  case round =>
    obtain ⟨k, hk, rfl, hA1, hK1⟩ := hrel
    have HA1 := Lib.hid hA1
    have HK1 := Lib.hid hK1
    clear hA1 hK1
    by_cases hlt : k < ht
    · have hkl : k < y.tower.length := by omega
      obtain ⟨c, hc⟩ : ∃ c, y.tower[k]? = some c := ⟨_, List.getElem?_eq_getElem hkl⟩
      have hct : (y.tower.take ht)[k]? = some c := by rw [List.getElem?_take, if_pos hlt]; exact hc
      have hl1 := HK1.out.rest l _ 61 HL.out rfl (by simp)
      have hh1 := HK1.out.rest p _ 67 HH.out rfl (by simp)
      have z0 := box_cells hl1 0 (.pointer (some ⟨a, 0, none⟩)) rfl
      have zc : wr.cell? ⟨p, 19 + k, none⟩ = some (.int .i64 (c : Int)) := box_cells hh1 (19 + k) _ (nod_tower_at (by omega) hc)
      have hmem := mem_rest (by rw [HHT.out]; exact HN.out) (by rw [HHT.out]; exact HM.out) hct
      have HF := Lib.hid (free_any B a c H _ wr HA1.out hmem)
      rw [← foldl_take hct] at HF
      clear hl1 hh1 hmem hc
      go_wp2_with fail
      refine HF.out.mono ?_
      rintro e w2 ⟨rfl, hA2, hK2⟩
      have HA2 := Lib.hid hA2
      have HK2 := Lib.hid hK2
      clear hA2 hK2
      go_wp2_with fail
      go_roundw
      case rel => exact ⟨k + 1, by omega, by go_num, HA2.out, HK1.out.trans HK2.out⟩
      case measure => simp [intOf]; omega
    · have hkk : k = ht := by omega
      subst hkk
      go_wp2_with fail
      go_end0
      refine ⟨rfl, ?_, HK1.out⟩
      have := HA1.out
      rw [List.take_take, Nat.min_self, HHT.out] at this
      exact this

theorem nod_tower_set {x : Nod} {ref : Int} (h8 : x.tower.length = 8) {j : Nat} (hj : j < 8) (c : Nat) : (nodCells x ref).setIfInBounds (19 + j) (intv c) = nodCells { x with tower := x.tower.set j c } ref := by
  obtain ⟨a0, a1, a2, a3, a4, a5, a6, a7, e⟩ := list8 h8
  cases x
  simp only at e
  subst e
  rcases upto8 hj with rfl | rfl | rfl | rfl | rfl | rfl | rfl | rfl <;> rfl
theorem tower_next {cs : List Nat} {k c : Nat} (hl : cs.length = k) (hk : k < 8) : (cs ++ List.replicate (8 - k) 0).set k c = (cs ++ [c]) ++ List.replicate (8 - (k + 1)) 0 := by
  obtain ⟨d, hd⟩ : ∃ d, 8 - k = d + 1 := ⟨8 - k - 1, by omega⟩
  have hd2 : 8 - (k + 1) = d := by omega
  rw [List.set_append_right _ _ (by omega), hl, Nat.sub_self, hd, hd2, List.replicate_succ, List.set_cons_zero, List.append_assoc]
  rfl
theorem Grow.len {H L : List Nat} {k : Nat} {cs H' L' : List Nat} (h : Grow H L k cs H' L') : cs.length = k ∧ L'.length = L.length + k := by
  induction h with
  | nil => exact ⟨rfl, rfl⟩
  | snoc c h h1 h2 ih => exact ⟨by rw [List.length_append, ih.1]; rfl, by rw [List.length_cons, ih.2]; omega⟩

set_option maxRecDepth 100000 in
set_option maxHeartbeats 2000000 in
theorem grow_any (B l a p : Nat) (H L : List Nat) (k : List UInt8) (h : Nat) (ref : Int) (nv : Value) (w : World) (hA : ArW w B a H L) (hz : TabW w) (hB : 0 < B) (hBs : B ≤ w.heap.size) (hL : L.length + 8 < 2000) (hl : w.heap[l]? = some (.cells #[.pointer (some ⟨a, 0, none⟩), nv] 61 (0, 0))) (hp : B ≤ p) (hh : w.heap[p]? = some (.cells (nodCells ⟨k, List.replicate 8 0, h⟩ ref) 67 (0, 0))) (h8 : h ≤ 8) :
    Calls Tryd.prog 15 #[.pointer (some ⟨l, 0, none⟩), .pointer (some ⟨p, 0, none⟩)] w fun e w' => e = .returned (.int .i64 0) ∧ ∃ cs H' L', Grow H L h cs H' L' ∧ ArW w' B a H' L' ∧ w'.heap[p]? = some (.cells (nodCells ⟨k, cs ++ List.replicate (8 - h) 0, h⟩ ref) 67 (0, 0)) ∧ Keep B [51, 48] (some p) w w' := by
  have x27 := box_cells hh 27 (.int .i64 (h : Int)) rfl
  have hlp : l ≠ p := fun e => by
    rw [e, hh] at hl
    injection hl with hl
    injection hl with _ hl _
    cases hl
  have HA := Lib.hid hA
  have HL := Lib.hid hl
  have HH := Lib.hid hh
  have HZ := Lib.hid hz
  clear hA hl hh hz
  go_enter Tryd.func15, Tryd.ntmps15
  go_wp2_with fail
  go_loopw [12] (fun i wr => ∃ (j : Nat) (cs Hj Lj : List Nat), j ≤ h ∧ i = .int .i64 (j : Int) ∧ Hid (Grow H L j cs Hj Lj) ∧ ArW wr B a Hj Lj ∧ Hid (wr.heap[p]? = some (.cells (nodCells ⟨k, cs ++ List.replicate (8 - j) 0, h⟩ ref) 67 (0, 0))) ∧ Keep B [51, 48] (some p) w wr) (fun i _ => h - (intOf i).toNat)
  case atStart => exact ⟨0, [], H, L, by omega, rfl, Lib.hid .nil, HA.out, HH, Keep.refl _ _ _ _⟩
  case round =>
    obtain ⟨j, cs, Hj, Lj, hj, rfl, hg, hA1, hh1, hK1⟩ := hrel
    have HA1 := Lib.hid hA1
    have HK1 := Lib.hid hK1
    clear hA1 hK1
    by_cases hlt : j < h
    · have hlen := hg.out.len
      have hl1 := HK1.out.rest l _ 61 HL.out rfl (by simpa using fun e => hlp e.symm)
      have z0 := box_cells hl1 0 (.pointer (some ⟨a, 0, none⟩)) rfl
      have HF := Lib.hid (alloc_any B a Hj Lj wr HA1.out (HZ.out.keep HK1.out hB) hB (Nat.le_trans hBs HK1.out.size) (by omega))
      have i0 : (0 : Int) ≤ (j : Int) := by omega
      have i1 : (j : Int) < 8 := by omega
      have HLEN := Lib.hid hlen
      clear hl1 hlen
      go_wp2_with fail
      refine HF.out.mono ?_
      rintro e w2 ⟨c, rfl, hc1, hc2, hA2, hK2⟩
      have hh2 := hK2.rest p _ 67 hh1.out rfl (by simp)
      have zj : w2.cell? ⟨p, 19 + j, none⟩ = some (.int .i64 0) := box_cells hh2 (19 + j) _ (nod_tower_at (by omega) (by
        show (cs ++ List.replicate (8 - j) 0)[j]? = some 0
        rw [List.getElem?_append_right (by have := HLEN.out.1; omega), HLEN.out.1, Nat.sub_self, List.getElem?_replicate, if_pos (by omega)]))
      have fz := froz_all hh2
      have hh3 := set_at hh2 (19 + j) (intv c)
      rw [nod_tower_set (by show (cs ++ List.replicate (8 - j) 0).length = 8; rw [List.length_append, List.length_replicate, HLEN.out.1]; omega) (by omega)] at hh3
      have hh3' : (w2.setCell ⟨p, 19 + j, none⟩ (intv c)).heap[p]? = some (.cells (nodCells ⟨k, (cs ++ [c]) ++ List.replicate (8 - (j + 1)) 0, h⟩ ref) 67 (0, 0)) := by
        rw [hh3, ← tower_next HLEN.out.1 (by omega)]
      have hK3 : Keep B [] (some p) w2 (w2.setCell ⟨p, 19 + j, none⟩ (intv c)) := (Keep.refl B [] (some p) w2).setOwn (heap_lt hh2) hp (19 + j) (intv c)
      have HA3 := Lib.hid (hA2.keep hK3 rfl rfl (fun g cs t e hh => by obtain rfl := only_type hh2 e hh; decide))
      have HK3 := Lib.hid ((HK1.out.trans (hK2.mono (x := some p) rfl)).trans (hK3.more rfl))
      have HH3 := Lib.hid hh3'
      have HG := Lib.hid (Grow.snoc c hg.out hc1 hc2)
      clear hh2 hh3 hh3' hK3 hA2 hK2 hc1 hc2
      go_wp2_with fail
      go_roundw
      case rel => exact ⟨j + 1, cs ++ [c], _, _, by omega, by go_num, HG, HA3.out, HH3, HK3.out⟩
      case measure => simp [intOf]; omega
    · have hkk : j = h := by omega
      subst hkk
      go_wp2_with fail
      go_ret
      exact ⟨rfl, cs, Hj, Lj, hg.out, HA1.out, hh1.out, HK1.out⟩
end Go.Proofs.YtfolchpjccjadaaDoor
