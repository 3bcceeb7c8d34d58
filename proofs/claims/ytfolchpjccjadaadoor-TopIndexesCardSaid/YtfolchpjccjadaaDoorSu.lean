/- The walks of the skip list's wordOf, Insert, of the hash index's Insert. -/
import Derived.Test.YtfolchpjccjadaaDoorSt
import Derived.Laws.CopyRow
import Derived.Laws.CopyOwn
import Derived.Deep.MidRow
namespace Go.Proofs.YtfolchpjccjadaaDoor
open Go.RowKit
set_option linter.unusedVariables false
attribute [local go_sem] bs_list bs_size

set_option maxRecDepth 100000 in
set_option maxHeartbeats 1000000 in
theorem hinsert_any (t : Nat) (k : List UInt8) (ref : Int) (w : World) :
    Calls Tryd.prog 7 #[.pointer (some ⟨t, 0, none⟩), .string (bs k), .int .i64 ref] w fun e w' => e = .returned (.pointer (some ⟨w.heap.size, 0, none⟩)) ∧ HopW w' w.heap.size w.heap.size t ⟨k, 0, 0, 0, 0⟩ ∧ Below w.heap.size w w' := by
  go_enter Tryd.func7, Tryd.ntmps7
  go_wp2_with fail
  go_ret
  exact ⟨rfl, ⟨Nat.le_refl _, ref, false, 0, heap_alloc_new w _⟩, (Below.refl _ _).alloc (Nat.le_refl _) _⟩

theorem info5 : (Tryd.prog.info? 5).map (·.size) = some 1 := by kernel_rfl
/-- copy(w[:16], s): at most sixteen of the text's bytes go over. -/
theorem copy16 (w : World) (g : Nat) (k : List UInt8) (cur : Array Value) (hg : w.heap[g]? = some (.cells cur 64 (0, 0))) (hz : cur.size = 17) :
    (Builtin.copy_ #[83, 9] 3 #[.slice (some ⟨g, 0, none⟩) 16 17, .string (bs k)]).run Tryd.prog w = .ok (.int .i64 ((min k.length 16 : Nat) : Int)) (w.setRow g ((k.take 16).map bv ++ cur.toList.drop (min k.length 16)).toArray) := by
  have hlen : ((k.take 16).map bv).length = min k.length 16 := by rw [List.length_map, List.length_take]; omega
  have hst := run_storeCells_at (P := Tryd.prog) g 0 64 ((k.take 16).map bv) 0 cur w hg (by rw [hlen, hz]; omega) (fun v hv => by
    obtain ⟨b, _, rfl⟩ := List.mem_map.1 hv
    rfl)
  rw [hlen] at hst
  simp only [Nat.add_zero, Nat.zero_add, List.take_zero, List.nil_append] at hst
  have htk : List.take (Nat.min k.length 16) (List.map (fun b : UInt8 => Value.int IntKind.u8 (b.toNat : Int)) k) = (k.take 16).map bv := by
    rw [← List.map_take]
    show ((k.take (min k.length 16)).map fun b : UInt8 => Value.int IntKind.u8 (b.toNat : Int)) = _
    rw [Nat.min_comm, ← List.take_take, List.take_of_length_le (Nat.le_refl k.length)]
    rfl
  cases hq : Tryd.prog.info? 5 with
  | none => have := info5; rw [hq] at this; cases this
  | some i =>
    simp only [List.map_take] at hst htk ⊢
    simp [Builtin.copy_, run_underlying Tryd.underlying83, Builtin.lenOf, Builtin.firstCells, sizeOf, typeInfo, hq]
    rw [bs_size, show (bs k).data.toList = k from rfl, htk, hst]
    rfl
def wordArr (k : List UInt8) : Array Value := #[wv k 0, wv k 1, wv k 2, wv k 3, wv k 4, wv k 5, wv k 6, wv k 7, wv k 8, wv k 9, wv k 10, wv k 11, wv k 12, wv k 13, wv k 14, wv k 15, wv k 16]
theorem wordArr_eq (k : List UInt8) : wordArr k = ((wdB k).map bv).toArray := by
  have h := wdB_len k
  obtain ⟨l, hl⟩ : ∃ l, l = wdB k := ⟨_, rfl⟩
  unfold wordArr wv
  rw [← hl] at h ⊢
  match l, h with
  | [_, _, _, _, _, _, _, _, _, _, _, _, _, _, _, _, _], _ => rfl
theorem word_copied (k : List UInt8) : (((k.take 16).map bv ++ (List.replicate 17 (Value.int .u8 0)).drop (min k.length 16)).toArray.setIfInBounds 16 (bv (UInt8.ofNat k.length))) = wordArr k := by
  rw [wordArr_eq]
  apply Array.ext'
  rw [Array.toList_setIfInBounds]
  show ((k.take 16).map bv ++ (List.replicate 17 (bv 0)).drop (min k.length 16)).set 16 (bv (UInt8.ofNat k.length)) = (wdB k).map bv
  rw [← List.map_replicate, ← List.map_drop, ← List.map_append, ← List.map_set]
  congr 1
  unfold wdB
  have hl : ((k.take 16 ++ List.replicate 16 (0 : UInt8)).take 16).length = 16 := by simp
  have e : k.take 16 ++ (List.replicate 17 (0 : UInt8)).drop (min k.length 16) = (k.take 16 ++ List.replicate 16 0).take 16 ++ [0] := by
    rw [List.take_append, List.length_take, List.take_take, Nat.min_self, List.append_assoc, List.drop_replicate, List.take_replicate]
    congr 1
    rw [show [(0 : UInt8)] = List.replicate 1 0 from rfl, List.replicate_append_replicate]
    congr 1
    omega
  rw [e, List.set_append_right _ _ (by rw [hl]; omega), hl]
  rfl
theorem u8_of_len (n : Nat) : (IntKind.u8.wrap (n : Int)) = (((UInt8.ofNat n).toNat : Nat) : Int) := by
  rw [UInt8.toNat_ofNat']
  have e : IntKind.u8.wrap (n : Int) = (n : Int) % 256 := by simp [IntKind.wrap, IntKind.bits, IntKind.signed]
  rw [e]
  omega
theorem info64 : (Tryd.prog.info? 64).map (·.size) = some 17 := by kernel_rfl
theorem word_one (k : List UInt8) : ∀ v ∈ (wordArr k).toList, v.oneCell' = true := by
  intro v hv
  rw [wordArr_eq] at hv
  obtain ⟨b, _, rfl⟩ := List.mem_map.1 hv
  rfl
theorem below_cells {B b : Nat} {a : World} (hb : B ≤ b) : ∀ (vs : List Value) (o : Nat) (w : World), Below B a w → Below B a (w.setCells b o vs)
  | [], _, _, h => h
  | v :: r, o, w, h => below_cells hb r (o + 1) _ (h.setCell (by exact hb) v)
set_option maxRecDepth 100000 in
set_option maxHeartbeats 4000000 in
theorem wordOf_any (k : List UInt8) (w : World) (hl : k.length ≤ 140737488355328) :
    Calls Tryd.prog 16 #[.string (bs k)] w fun e w' => e = .returned (.agg (wordArr k)) ∧ Below w.heap.size w w' := by
  obtain ⟨W2, hW2⟩ : ∃ W2, W2 = (w.alloc (.cells #[.int .u8 0, .int .u8 0, .int .u8 0, .int .u8 0, .int .u8 0, .int .u8 0, .int .u8 0, .int .u8 0, .int .u8 0, .int .u8 0, .int .u8 0, .int .u8 0, .int .u8 0, .int .u8 0, .int .u8 0, .int .u8 0, .int .u8 0] 64)).alloc (.cells #[.int .u8 0, .int .u8 0, .int .u8 0, .int .u8 0, .int .u8 0, .int .u8 0, .int .u8 0, .int .u8 0, .int .u8 0, .int .u8 0, .int .u8 0, .int .u8 0, .int .u8 0, .int .u8 0, .int .u8 0, .int .u8 0, .int .u8 0] 64) := ⟨_, rfl⟩
  have hg : W2.heap[w.heap.size + 1]? = some (.cells #[.int .u8 0, .int .u8 0, .int .u8 0, .int .u8 0, .int .u8 0, .int .u8 0, .int .u8 0, .int .u8 0, .int .u8 0, .int .u8 0, .int .u8 0, .int .u8 0, .int .u8 0, .int .u8 0, .int .u8 0, .int .u8 0, .int .u8 0] 64 (0, 0)) := by rw [hW2]; exact heap_alloc2_new w _ _
  have hg1 : W2.heap[w.heap.size]? = some (.cells #[.int .u8 0, .int .u8 0, .int .u8 0, .int .u8 0, .int .u8 0, .int .u8 0, .int .u8 0, .int .u8 0, .int .u8 0, .int .u8 0, .int .u8 0, .int .u8 0, .int .u8 0, .int .u8 0, .int .u8 0, .int .u8 0, .int .u8 0] 64 (0, 0)) := by rw [hW2]; exact heap_alloc2_old w _ _
  have hb2 : Below w.heap.size w W2 := by rw [hW2]; exact (((Below.refl _ _).alloc (Nat.le_refl _) _).alloc (by simp) _)
  have hcp := copy16 W2 (w.heap.size + 1) k _ hg rfl
  obtain ⟨A0, hA0⟩ : ∃ A0 : Array Value, A0 = ((k.take 16).map bv ++ (List.replicate 17 (Value.int .u8 0)).drop (min k.length 16)).toArray := ⟨_, rfl⟩
  have hcp : (Builtin.copy_ #[83, 9] 3 #[.slice (some ⟨w.heap.size + 1, 0, none⟩) 16 17, .string (bs k)]).run Tryd.prog W2 = .ok (.int .i64 ((min k.length 16 : Nat) : Int)) (W2.setRow (w.heap.size + 1) A0) := by rw [hA0]; exact hcp
  obtain ⟨W3, hW3⟩ : ∃ W3, W3 = W2.setRow (w.heap.size + 1) A0 := ⟨_, rfl⟩
  rw [← hW3] at hcp
  have h3 : W3.heap[w.heap.size + 1]? = some (.cells A0 64 (0, 0)) := by rw [hW3]; exact setRow_heap W2 _ _ _ 64 _ hg
  have h31 : W3.heap[w.heap.size]? = some (.cells #[.int .u8 0, .int .u8 0, .int .u8 0, .int .u8 0, .int .u8 0, .int .u8 0, .int .u8 0, .int .u8 0, .int .u8 0, .int .u8 0, .int .u8 0, .int .u8 0, .int .u8 0, .int .u8 0, .int .u8 0, .int .u8 0, .int .u8 0] 64 (0, 0)) := by rw [hW3, setRow_other _ _ _ _ (by omega)]; exact hg1
  have hb3 : Below w.heap.size W2 W3 := by rw [hW3]; exact below_setRow (Below.refl _ _) (by omega) _
  have hA16 : A0[16]? = some (.int .u8 0) := by
    rw [hA0]
    rw [List.getElem?_toArray]
    rw [List.getElem?_append_right (by rw [List.length_map, List.length_take]; omega), List.length_map, List.length_take, List.getElem?_drop, List.getElem?_replicate, if_pos (by omega)]
  have hset : A0.setIfInBounds 16 (.int .u8 ((k.length : Int) % 256)) = wordArr k := by
    rw [hA0, ← word_copied]
    congr 1
  have x16 := box_cells h3 16 _ hA16
  have f3 := froz_all h3
  obtain ⟨W4, hW4⟩ : ∃ W4, W4 = W3.setCell ⟨w.heap.size + 1, 16, none⟩ (.int .u8 ((k.length : Int) % 256)) := ⟨_, rfl⟩
  have H4 := Lib.hid (show W4.heap[w.heap.size + 1]? = some (.cells (wordArr k) 64 (0, 0)) by rw [hW4, set_at h3, hset])
  have H41 := Lib.hid (show W4.heap[w.heap.size]? = some (.cells #[.int .u8 0, .int .u8 0, .int .u8 0, .int .u8 0, .int .u8 0, .int .u8 0, .int .u8 0, .int .u8 0, .int .u8 0, .int .u8 0, .int .u8 0, .int .u8 0, .int .u8 0, .int .u8 0, .int .u8 0, .int .u8 0, .int .u8 0] 64 (0, 0)) by rw [hW4, Below.heap_setCell _ _ _ _ (by simp)]; exact h31)
  have HB4 := Lib.hid (show Below w.heap.size w W4 from by rw [hW4]; exact (hb2.trans (hb3.mono (by omega))).setCell (by simp) _)
  rw [hW2] at hcp
  have HW4 := Lib.hid hW4
  clear hg hg1 hW2 hb2 hW3 h3 h31 hb3 hA16 hset hA0 hW4
  go_enter Tryd.func16, Tryd.ntmps16
  go_upto_region 4 with fail
  rw [← HW4.out]
  clear x16 f3 hcp
  have hr4 : W4.rangeAt (w.heap.size + 1) 0 (wordArr k).toList := fun j v hv => by
    rw [Nat.zero_add]
    exact box_cells H4.out j v (by rw [← Array.getElem?_toList]; exact hv)
  have ht4 : W4.there w.heap.size 0 (wordArr k).size := fun j hj => by
    rw [Nat.zero_add]
    have hj : j < 17 := hj
    refine ⟨?_, froz_all H41.out j⟩
    rw [box_cells H41.out j (.int .u8 0) (by
      rw [show (#[.int .u8 0, .int .u8 0, .int .u8 0, .int .u8 0, .int .u8 0, .int .u8 0, .int .u8 0, .int .u8 0, .int .u8 0, .int .u8 0, .int .u8 0, .int .u8 0, .int .u8 0, .int .u8 0, .int .u8 0, .int .u8 0, .int .u8 0] : Array Value) = (List.replicate 17 (Value.int .u8 0)).toArray from rfl, List.getElem?_toArray, List.getElem?_replicate, if_pos hj])]
    rfl
  refine wp_region_lit ?_
  refine wpList_load_mid rfl 64 (.tmp 3) rfl (w.heap.size + 1) 0 rfl (wordArr k).toList _ hr4 Tryd.underlying64 rfl info64 ?_
  refine wpList_store_mid rfl 64 (.tmp 2) (.tmp 11) rfl w.heap.size 0 (wordArr k) rfl rfl ht4 info64 (all_oneCell_toArray (word_one k)) ?_
  obtain ⟨W5, hW5⟩ : ∃ W5, W5 = W4.setCells w.heap.size 0 (wordArr k).toList := ⟨_, rfl⟩
  have H5 := Lib.hid (show W5.rangeAt w.heap.size 0 (wordArr k).toList by rw [hW5]; exact World.rangeAt_setCells_same _ _ _ _ ht4)
  have HK5 := Lib.hid (show Below w.heap.size w W5 by rw [hW5]; exact below_cells (Nat.le_refl _) _ _ _ HB4.out)
  rw [← hW5]
  clear hW5 hr4 ht4
  go_wp2_with fail
  have q0 : W5.cell? ⟨w.heap.size, 0, none⟩ = some (wv k 0) := by simpa using H5.out 0 (wv k 0) rfl
  have q1 : W5.cell? ⟨w.heap.size, 1, none⟩ = some (wv k 1) := by simpa using H5.out 1 (wv k 1) rfl
  have q2 : W5.cell? ⟨w.heap.size, 2, none⟩ = some (wv k 2) := by simpa using H5.out 2 (wv k 2) rfl
  have q3 : W5.cell? ⟨w.heap.size, 3, none⟩ = some (wv k 3) := by simpa using H5.out 3 (wv k 3) rfl
  have q4 : W5.cell? ⟨w.heap.size, 4, none⟩ = some (wv k 4) := by simpa using H5.out 4 (wv k 4) rfl
  have q5 : W5.cell? ⟨w.heap.size, 5, none⟩ = some (wv k 5) := by simpa using H5.out 5 (wv k 5) rfl
  have q6 : W5.cell? ⟨w.heap.size, 6, none⟩ = some (wv k 6) := by simpa using H5.out 6 (wv k 6) rfl
  have q7 : W5.cell? ⟨w.heap.size, 7, none⟩ = some (wv k 7) := by simpa using H5.out 7 (wv k 7) rfl
  have q8 : W5.cell? ⟨w.heap.size, 8, none⟩ = some (wv k 8) := by simpa using H5.out 8 (wv k 8) rfl
  have q9 : W5.cell? ⟨w.heap.size, 9, none⟩ = some (wv k 9) := by simpa using H5.out 9 (wv k 9) rfl
  have q10 : W5.cell? ⟨w.heap.size, 10, none⟩ = some (wv k 10) := by simpa using H5.out 10 (wv k 10) rfl
  have q11 : W5.cell? ⟨w.heap.size, 11, none⟩ = some (wv k 11) := by simpa using H5.out 11 (wv k 11) rfl
  have q12 : W5.cell? ⟨w.heap.size, 12, none⟩ = some (wv k 12) := by simpa using H5.out 12 (wv k 12) rfl
  have q13 : W5.cell? ⟨w.heap.size, 13, none⟩ = some (wv k 13) := by simpa using H5.out 13 (wv k 13) rfl
  have q14 : W5.cell? ⟨w.heap.size, 14, none⟩ = some (wv k 14) := by simpa using H5.out 14 (wv k 14) rfl
  have q15 : W5.cell? ⟨w.heap.size, 15, none⟩ = some (wv k 15) := by simpa using H5.out 15 (wv k 15) rfl
  have q16 : W5.cell? ⟨w.heap.size, 16, none⟩ = some (wv k 16) := by simpa using H5.out 16 (wv k 16) rfl
  refine bodyPost_ret (v := .agg (wordArr k)) (by simp [results, Tryd.results16, go_sem, q0, q1, q2, q3, q4, q5, q6, q7, q8, q9, q10, q11, q12, q13, q14, q15, q16, wordArr]) rfl ?_
  exact ⟨rfl, HK5.out⟩
end Go.Proofs.YtfolchpjccjadaaDoor
