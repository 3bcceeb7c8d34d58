/- The walk of the skip list's arrived. -/
import Derived.Test.YtfolchpjccjadaaDoorSy
import Derived.Stop.BytesEq
namespace Go.Proofs.YtfolchpjccjadaaDoor
open Go.RowKit
set_option linter.unusedVariables false
attribute [local go_sem] bs_list bs_size

theorem key_is (w : World) (a b : List UInt8) : (binOp .eql 64 (.agg (wordArr a)) (.agg (wordArr b))).run Tryd.prog w = .ok (.bool (wdB a == wdB b)) w := by
  have h5 : ∀ w : World, (sizeOf 5).run Tryd.prog w = .ok 1 w := by
    intro w
    cases hq : Tryd.prog.info? 5 with
    | none => have := info5; rw [hq] at this; cases this
    | some i =>
      have hi : i.size = 1 := by have := info5; rw [hq] at this; exact Option.some.inj this
      simp [sizeOf, typeInfo, hq, hi]
  have h := run_eql_bytes (P := Tryd.prog) w 64 5 17 Tryd.underlying64 Tryd.underlying5 h5 (wdB a) (wdB b) (wdB_len a) (wdB_len b)
  rw [wordArr_eq, wordArr_eq]
  exact h
theorem word_range {w : World} {g i : Nat} {cs : Array Value} {t : TypeId} {k : List UInt8} (h : w.heap[g]? = some (.cells cs t (0, 0))) (hc : ∀ j v, (wordArr k).toList[j]? = some v → cs[i + j]? = some v) : w.rangeAt g i (wordArr k).toList := fun j v hv => box_cells h (i + j) v (hc j v hv)
theorem nod_word {x : Nod} {ref : Int} : ∀ j v, (wordArr x.key).toList[j]? = some v → (nodCells x ref)[1 + j]? = some v := by
  intro j v hv
  have hj : j < 17 := (List.getElem?_eq_some_iff.1 hv).1
  rw [← hv]
  rcases (show j = 0 ∨ j = 1 ∨ j = 2 ∨ j = 3 ∨ j = 4 ∨ j = 5 ∨ j = 6 ∨ j = 7 ∨ j = 8 ∨ j = 9 ∨ j = 10 ∨ j = 11 ∨ j = 12 ∨ j = 13 ∨ j = 14 ∨ j = 15 ∨ j = 16 by omega) with rfl | rfl | rfl | rfl | rfl | rfl | rfl | rfl | rfl | rfl | rfl | rfl | rfl | rfl | rfl | rfl | rfl <;> rfl
theorem sop_word {l : Nat} {s : Sop} {ref : Int} {found : ByteArray} {had : Bool} {code : Int} : ∀ j v, (wordArr s.key).toList[j]? = some v → (sopCells l s ref found had code)[3 + j]? = some v := by
  intro j v hv
  have hj : j < 17 := (List.getElem?_eq_some_iff.1 hv).1
  rw [← hv]
  rcases (show j = 0 ∨ j = 1 ∨ j = 2 ∨ j = 3 ∨ j = 4 ∨ j = 5 ∨ j = 6 ∨ j = 7 ∨ j = 8 ∨ j = 9 ∨ j = 10 ∨ j = 11 ∨ j = 12 ∨ j = 13 ∨ j = 14 ∨ j = 15 ∨ j = 16 by omega) with rfl | rfl | rfl | rfl | rfl | rfl | rfl | rfl | rfl | rfl | rfl | rfl | rfl | rfl | rfl | rfl | rfl <;> rfl

def SStepR (B o l a : Nat) (R : List Nat → List Nat → List Nod → Sop → Bool → Prop) (w : World) (e : Ending) (w' : World) : Prop :=
  ∃ H' L' N' s' d, e = .returned (.bool d) ∧ R H' L' N' s' d ∧ ArW w' B a H' L' ∧ LsW w' B l a N' ∧ SopW w' B o l s' ∧ Keep B [51, 48, 61, 62] (some o) w w'

theorem SopC.w {w : World} {B o l : Nat} {s : Sop} {ref : Int} {found : ByteArray} {had : Bool} {code : Int} (h : SopC w B o l s ref found had code) : SopW w B o l s := ⟨h.1, ref, found, had, code, h.2⟩
theorem nod_new (k : List UInt8) (h : Nat) (ref : Int) : nodCells ⟨k, List.replicate 8 0, h⟩ ref = #[.string (bs k), wv k 0, wv k 1, wv k 2, wv k 3, wv k 4, wv k 5, wv k 6, wv k 7, wv k 8, wv k 9, wv k 10, wv k 11, wv k 12, wv k 13, wv k 14, wv k 15, wv k 16, .int .i64 ref, .int .i64 0, .int .i64 0, .int .i64 0, .int .i64 0, .int .i64 0, .int .i64 0, .int .i64 0, .int .i64 0, .int .i64 (h : Int)] := rfl
theorem heap_new_drew (w : World) (o : Obj) : (w.alloc o).drew.heap[w.heap.size]? = some o := heap_alloc_new w o
theorem node_end {w2 w3 : World} {B l a p c1 : Nat} {N : List Nod} {x : Nod} {A1 : Option Addr} {nv : Value} {ps : List Nat} (hT : LsC w2 B l a N nv ps) (hx : NodW w2 B p x) (hB : B ≤ w2.heap.size) (hT3 : w3.heap[l]? = some (.cells #[.pointer (some ⟨a, 0, none⟩), nv] 61 (0, 0)))
    (ho : w3.ownsRow B 62 1 (.slice A1 (N.length + 1) c1) (N.length + 1) (ps.map ptrv ++ [ptrv p])) (hg : w2.grownBy w3 nv.ownBlock) :
    LsW (w3.setCell ⟨l, 1, none⟩ (.slice A1 (N.length + 1) c1)) B l a (N ++ [x]) ∧ Keep B [61, 62] none w2 (w3.setCell ⟨l, 1, none⟩ (.slice A1 (N.length + 1) c1)) := by
  obtain ⟨a1, a2, a3, a4, a5⟩ := hT
  have hK : Keep B [61, 62] none w2 (w3.setCell ⟨l, 1, none⟩ (.slice A1 (N.length + 1) c1)) := (Keep.of_append hg a4 hB rfl).set hT3 a2 rfl 1 _
  refine ⟨⟨_, ps ++ [p], set_at hT3 1 _, a2, by rw [List.length_append, List.length_append, a3]; rfl, ?_, fun i y hy => ?_⟩, hK⟩
  · rw [List.length_append, List.length_singleton, List.map_append]
    exact ho.kept (only_one w3 l 1 _) (.inr (row_off ho hT3 (by decide)))
  · rcases Nat.lt_or_ge i N.length with h | h
    · rw [List.getElem?_append_left h] at hy
      obtain ⟨q, hq, hn⟩ := a5 i y hy
      exact ⟨q, ext_get _ hq, hn.keep hK rfl (by simp)⟩
    · rw [List.getElem?_append_right h] at hy
      have hi : i - N.length = 0 := by
        have := (List.getElem?_eq_some_iff.1 hy).1
        simp at this
        omega
      rw [hi] at hy
      simp at hy
      subst hy
      refine ⟨p, ?_, hx.keep hK rfl (by simp)⟩
      rw [List.getElem?_append_right (by omega), a3, hi]
      rfl
/-- What is new is not what was. -/
theorem Keep.fresh {B p : Nat} {S : List TypeId} {x : Option Nat} {w w1 w2 : World} (h : Keep B S x w w1) (k : Keep B S (some p) w1 w2) (hp : w.heap.size ≤ p) : Keep B S x w w2 :=
  ⟨k.os.trans h.os, k.tape.trans h.tape, k.output.trans h.output, Nat.le_trans h.size k.size, fun i hi => (k.low i hi).trans (h.low i hi), fun i cs t hi ht hx => k.rest i cs t (h.rest i cs t hi ht hx) ht (by
    have := heap_lt hi
    intro e
    have := Option.some.inj e
    omega)⟩

theorem make_end {w w1 w3 w4 w5 w7 : World} {B o l a n : Nat} {H L H' L' cs : List Nat} {N : List Nod} {s : Sop} {ref : Int} {found : ByteArray} {had : Bool} {code : Int} (hb : B ≤ o) (hn : n = 0 ∨ ∃ x, N[n]? = some x ∧ x.key ≠ s.key) (ho : s.own = 0) (hg : Grow H L s.height cs H' L')
    (hK1 : Keep B [] none w w1) (hK3 : Keep B [51, 48] none w1 w3) (hK4 : Keep B [] (some o) w3 w4) (hK5 : Keep B [] none w4 w5) (hK7 : Keep B [61, 62] none w5 w7) (hA4 : ArW w4 B a H' L') (hT7 : LsW w7 B l a (N ++ [⟨s.key, cs ++ List.replicate (8 - s.height) 0, s.height⟩]))
    (hS7 : w7.heap[o]? = some (.cells ((sopCells l s ref found had code).setIfInBounds 42 (.int .i64 (N.length : Int))) 73 (0, 0))) :
    SStepR B o l a (Arr H L N s n) w (.returned (.bool false)) (w7.setCell ⟨o, 22, none⟩ (.int .i64 1)) := by
  have hke : Keep B [] (some o) w7 (w7.setCell ⟨o, 22, none⟩ (.int .i64 1)) := (Keep.refl B [] (some o) w7).setOwn (heap_lt hS7) hb 22 _
  have ot : ∀ g cs t, some o = some g → w7.heap[g]? = some (.cells cs t (0, 0)) → t = 73 := fun g cs t e h => only_type hS7 e h
  refine ⟨H', L', _, _, false, rfl, .make hn ho hg, ?_, hT7.keep hke rfl rfl rfl (fun g cs t e h => by obtain rfl := ot g cs t e h; decide), ⟨hb, ref, found, had, code, set_at hS7 22 (.int .i64 1)⟩, ?_⟩
  · exact ((hA4.keep hK5 rfl rfl (by simp)).keep hK7 rfl rfl (by simp)).keep hke rfl rfl (fun g cs t e h => by obtain rfl := ot g cs t e h; decide)
  · exact (((((hK1.mono rfl).trans (hK3.mono rfl)).trans (hK4.more rfl)).trans (hK5.mono rfl)).trans (hK7.mono rfl)).trans (hke.more rfl)

set_option maxRecDepth 100000 in
set_option maxHeartbeats 4000000 in
theorem arr_zero (B o l a : Nat) (H L : List Nat) (N : List Nod) (s : Sop) (w : World) (hA : ArW w B a H L) (hT : LsW w B l a N) (hs : SopW w B o l s) (hz : TabW w) (hB : 0 < B) (hBs : B ≤ w.heap.size) (hp : SPre H L N s) :
    Calls Tryd.prog 57 #[.pointer (some ⟨o, 0, none⟩), .int .i64 0] w (SStepR B o l a (Arr H L N s 0) w) := by
  obtain ⟨nv, ps, hT⟩ := hT
  obtain ⟨A, ca, hnv⟩ := row_slice hT.2.2.2.1
  subst hnv
  obtain ⟨hb, ref, found, had, code, hh⟩ := hs
  have x1 := box_cells hh 1 (.int .i64 0) rfl
  have HA := Lib.hid hA; have HT := Lib.hid hT; have HH := Lib.hid hh; have HP := Lib.hid hp; have HZ := Lib.hid hz
  clear hA hT hh hp hz
  go_enter Tryd.func57, Tryd.ntmps57
  go_wp2_with fail
  go_quiet (fail)
  obtain ⟨w1, hw1⟩ : ∃ w1, w1 = w.drewN nq := ⟨_, rfl⟩
  rw [← hw1]
  have HK1 := Lib.hid (show Keep B [] none w w1 by rw [hw1]; exact (Keep.refl B [] none w).drewN _)
  clear hw1 x1
  have HA1 := Lib.hid (HA.out.keep HK1.out rfl rfl (by simp))
  have HT1 := Lib.hid (HT.out.keep HK1.out rfl rfl rfl (by simp))
  have HH1 := Lib.hid (HK1.out.rest o _ 73 HH.out rfl (by simp))
  have x1 := box_cells HH1.out 1 (.int .i64 0) rfl
  have x42 := box_cells HH1.out 42 (.int .i64 (s.own : Int)) rfl
  have hcase : True := trivial
  · rcases Nat.eq_zero_or_pos s.own with ho | ho

    · have HO := Lib.hid ho
      rw [ho] at x42
      have x2 := box_cells HH1.out 2 (.string (bs s.key)) rfl
      have x20 := box_cells HH1.out 20 (.int .i64 ref) rfl
      have x21 := box_cells HH1.out 21 (.int .i64 (s.height : Int)) rfl
      have r3 : w1.rangeAt o 3 [wv s.key 0, wv s.key 1, wv s.key 2, wv s.key 3, wv s.key 4, wv s.key 5, wv s.key 6, wv s.key 7, wv s.key 8, wv s.key 9, wv s.key 10, wv s.key 11, wv s.key 12, wv s.key 13, wv s.key 14, wv s.key 15, wv s.key 16] := word_range HH1.out (k := s.key) sop_word
      have u64 := Tryd.underlying64
      have hi2 : (Tryd.prog.info? 64).map (·.size) = some ([wv s.key 0, wv s.key 1, wv s.key 2, wv s.key 3, wv s.key 4, wv s.key 5, wv s.key 6, wv s.key 7, wv s.key 8, wv s.key 9, wv s.key 10, wv s.key 11, wv s.key 12, wv s.key 13, wv s.key 14, wv s.key 15, wv s.key 16] : List Value).length := info64
      clear ho
      go_upto_region 12 with fail
      go_region_held3 (fun W => W.cell? ⟨o, 2, none⟩ = some (.string (bs s.key)) ∧ W.rangeAt o 3 [wv s.key 0, wv s.key 1, wv s.key 2, wv s.key 3, wv s.key 4, wv s.key 5, wv s.key 6, wv s.key 7, wv s.key 8, wv s.key 9, wv s.key 10, wv s.key 11, wv s.key 12, wv s.key 13, wv s.key 14, wv s.key 15, wv s.key 16] ∧ W.cell? ⟨o, 20, none⟩ = some (.int .i64 ref) ∧ W.cell? ⟨o, 21, none⟩ = some (.int .i64 (s.height : Int))) (refine ⟨?_, ?_, ?_, ?_⟩ <;> first | (simp [x2, x20, x21, World.cell?_alloc_some]; done) | (simp only [World.rangeAt_drew]; first | exact r3 | (apply World.rangeAt_alloc; exact r3))) (fail)
      rename_i hheld
      clear hheld
      obtain ⟨w2, hw2⟩ : ∃ w2, w2 = (w1.alloc (.cells #[.string (bs s.key), wv s.key 0, wv s.key 1, wv s.key 2, wv s.key 3, wv s.key 4, wv s.key 5, wv s.key 6, wv s.key 7, wv s.key 8, wv s.key 9, wv s.key 10, wv s.key 11, wv s.key 12, wv s.key 13, wv s.key 14, wv s.key 15, wv s.key 16, .int .i64 ref, .int .i64 0, .int .i64 0, .int .i64 0, .int .i64 0, .int .i64 0, .int .i64 0, .int .i64 0, .int .i64 0, .int .i64 (s.height : Int)] 67)).drew := ⟨_, rfl⟩
      obtain ⟨p, hpp⟩ : ∃ p, p = w1.heap.size := ⟨_, rfl⟩
      rw [← hw2, ← hpp]
      have hb2 : Below w1.heap.size w1 w2 := by rw [hw2]; exact ((Below.refl _ _).alloc (Nat.le_refl _) _).drew
      have hBp : B ≤ p := by rw [hpp]; exact Nat.le_trans hBs HK1.out.size
      have hk2 : Keep B [] none w1 w2 := Keep.of_below hb2 (by omega)
      have hn2 : w2.heap[p]? = some (.cells (nodCells ⟨s.key, List.replicate 8 0, s.height⟩ ref) 67 (0, 0)) := by rw [hw2, hpp, nod_new]; exact heap_new_drew w1 _
      have HH2 := Lib.hid (hk2.rest o _ 73 HH1.out rfl (by simp))
      have HT2 := Lib.hid (HT1.out.keep hk2 rfl rfl rfl (by simp))
      have HA2 := Lib.hid (HA1.out.keep hk2 rfl rfl (by simp))
      have HBP := Lib.hid hBp
      have HK2 := Lib.hid hk2
      have HG := Lib.hid (grow_any B l a p H L s.key s.height ref (.slice A N.length ca) w2 HA2.out ((HZ.out.keep HK1.out hB).keep hk2 hB) hB (Nat.le_trans (Nat.le_trans hBs HK1.out.size) hk2.size) HP.out.ll HT2.out.1 hBp hn2 HP.out.h8)
      have hpo : p ≠ o := fun e => by have := heap_lt HH1.out; omega
      have HPL := Lib.hid (show w1.heap.size ≤ p from by rw [hpp]; exact Nat.le_refl _)
      have HPX := Lib.hid (show w.heap.size ≤ p from by rw [hpp]; exact HK1.out.size)
      have HPO := Lib.hid hpo
      clear hb2 hBp hk2 hn2 hw2 hpp hpo x1 x2 x20 x21 x42 r3
      have x0 := box_cells HH2.out 0 (.pointer (some ⟨l, 0, none⟩)) rfl
      go_wp2_with fail
      refine HG.out.mono ?_
      rintro e w3 ⟨rfl, cs, H', L', hgr, hA3, hn3, hk3⟩
      have hK13 : Keep B [51, 48] none w1 w3 := Keep.fresh (HK2.out.mono rfl) hk3 (by have := HPL.out; omega)
      have hs3 := hK13.rest o _ 73 HH1.out rfl (by simp)
      have hT3 := HT1.out.keep hK13 rfl rfl rfl (by simp)
      have hx3 : NodW w3 B p ⟨s.key, cs ++ List.replicate (8 - s.height) 0, s.height⟩ := ⟨HBP.out, by rw [List.length_append, List.length_replicate, hgr.len.1]; have := HP.out.h8; omega, ref, hn3⟩
      have HK13 := Lib.hid hK13
      have HA3 := Lib.hid hA3
      have HGR := Lib.hid hgr
      clear hK13 hk3 hn3 hA3 hgr x0
      -- its number
      have hs4 := set_at hs3 42 (.int .i64 (N.length : Int))
      obtain ⟨w4, hw4⟩ : ∃ w4, w4 = w3.setCell ⟨o, 42, none⟩ (.int .i64 (N.length : Int)) := ⟨_, rfl⟩
      have hk4 : Keep B [] (some o) w3 w4 := by rw [hw4]; exact (Keep.refl B [] (some o) w3).setOwn (heap_lt hs3) hb 42 _
      rw [← hw4] at hs4
      have ot : ∀ g cs t, some o = some g → w3.heap[g]? = some (.cells cs t (0, 0)) → t = 73 := fun g cs t e h => only_type hs3 e h
      have hT4 := hT3.keep hk4 rfl rfl rfl (fun g cs t e h => by obtain rfl := ot g cs t e h; decide)
      have HX4 := Lib.hid (hx3.keep hk4 rfl (fun g cs t e h => by obtain rfl := ot g cs t e h; decide))
      have HA4 := Lib.hid (HA3.out.keep hk4 rfl rfl (fun g cs t e h => by obtain rfl := ot g cs t e h; decide))
      have HS4 := Lib.hid hs4
      have HT4 := Lib.hid hT4
      have HK4 := Lib.hid hk4
      have HW4 := Lib.hid hw4
      have x0 := box_cells hs3 0 (.pointer (some ⟨l, 0, none⟩)) rfl
      have x42 := box_cells hs3 42 (.int .i64 (s.own : Int)) rfl
      have f3 := froz_all hs3
      have y1 := box_cells hT3.1 1 (.slice A N.length ca) rfl
      clear hs3 hT3 hx3 hs4 hT4 hk4 hw4 ot
      go_upto_region 17 with fail
      rw [← HW4.out]
      clear x0 x42 f3 y1
      have hB4 : B ≤ w4.heap.size := Nat.le_trans (Nat.le_trans (Nat.le_trans hBs HK1.out.size) HK13.out.size) HK4.out.size
      obtain ⟨w5, hw5⟩ : ∃ w5, w5 = (w4.alloc (.cells #[.pointer (some ⟨p, 0, none⟩)] 62)).drew := ⟨_, rfl⟩
      have hb5 : Below w4.heap.size w4 w5 := by rw [hw5]; exact ((Below.refl _ _).alloc (Nat.le_refl _) _).drew
      have hk5 : Keep B [] none w4 w5 := Keep.of_below hb5 hB4
      have hn5 : w5.heap[w4.heap.size]? = some (.cells #[.pointer (some ⟨p, 0, none⟩)] 62 (0, 0)) := by rw [hw5]; exact heap_new_drew w4 _
      have hs5 := hk5.rest o _ 73 HS4.out rfl (by simp)
      have hT5 := HT4.out.keep hk5 rfl rfl rfl (by simp)
      have hr5 := hT5.2.2.2.1
      have HX5 := Lib.hid (HX4.out.keep hk5 rfl (by simp))
      have x0 := box_cells HS4.out 0 (.pointer (some ⟨l, 0, none⟩)) rfl
      have y1 := box_cells HT4.out.1 1 (.slice A N.length ca) rfl
      have x0b : (w4.alloc (.cells #[.pointer (some ⟨p, 0, none⟩)] 62)).cell? ⟨o, 0, none⟩ = some (.pointer (some ⟨l, 0, none⟩)) := by
        have := box_cells hs5 0 (.pointer (some ⟨l, 0, none⟩)) rfl
        rw [hw5] at this
        exact this
      have y1b : (w4.alloc (.cells #[.pointer (some ⟨p, 0, none⟩)] 62)).cell? ⟨l, 1, none⟩ = some (.slice A N.length ca) := by
        have := box_cells hT5.1 1 (.slice A N.length ca) rfl
        rw [hw5] at this
        exact this
      have hB5 : B ≤ w5.heap.size := Nat.le_trans hB4 hk5.size
      have HW5 := Lib.hid hw5; have HS5 := Lib.hid hs5; have HT5 := Lib.hid hT5; have HR5 := Lib.hid hr5; have HN5 := Lib.hid hn5; have HK5 := Lib.hid hk5
      clear hw5 hs5 hT5 hr5 hn5 hk5 hb5
      have hnl := HP.out.nl
      go_region_law ((refine step_one B w4.heap.size 59 62 1 8 (.pointer none) (by kernel_rfl) info62 rfl (by decide) (by rfl) _ _ (by rfl) (.slice A N.length ca) N.length (ps.map ptrv) #[.pointer (some ⟨p, 0, none⟩)] rfl (by intro u hu; simp at hu; subst hu; rfl) (by rfl) (by rfl) (by rw [← HW5.out]; exact HR5.out) (by rw [← HW5.out]; exact HN5.out) (by rw [← HW5.out]; exact hB5) (by omega) (by omega) ?_; rw [← HW5.out]; intro v1 w6 ho6 hb6 hg6 hat6; obtain ⟨A1, c1, hv1⟩ := row_slice ho6; subst hv1; have hT6 := heap_kept HT5.out.1 hg6 (row_off HR5.out HT5.out.1 (by decide)); have hs6 := heap_kept HS5.out hg6 (row_off HR5.out HS5.out (by decide)); have hl6 : w6.heap[l]? = some (.cells #[.pointer (some ⟨a, 0, none⟩), .slice A N.length ca] 61 (0, 0)) := hT6; have hse := node_end HT5.out HX5.out hB5 hl6 ho6 hg6; have hs7 := hse.2.rest o _ 73 HS5.out rfl (by simp); have HE := Lib.hid hse; have f7 := froz_all hs7; have q22 := box_cells hs7 22 (.int .i64 (s.does : Int)) rfl; have HS7 := Lib.hid hs7; clear hse hs7 hl6; have f6 := froz_all hT6; have q1 := box_cells hT6 1 (.slice A N.length ca) rfl; have q0 := box_cells hs6 0 (.pointer (some ⟨l, 0, none⟩)) rfl; have HT6 := Lib.hid hT6; have HO6 := Lib.hid ho6; have HG6 := Lib.hid hg6; clear hT6 hs6 ho6 hg6 hat6 hb6))
      all_goals
        have HJ := Lib.hid (make_end hb (.inl rfl) HO.out HGR.out HK1.out HK13.out HK4.out HK5.out HE.out.2 HA4.out HE.out.1 HS7.out)
        go_wp2_with fail
        go_ret
        exact HJ.out
    · have n0 : ((s.own : Int) == 0) = false := by rw [beq_eq_false_iff_ne]; omega
      have n1 : ¬ s.own = 0 := by omega
      have x22 := box_cells HH1.out 22 (.int .i64 (s.does : Int)) rfl
      have fz := froz_all HH1.out
      have h2 := set_at HH1.out 22 (.int .i64 1)
      have hke : Keep B [] (some o) w1 (w1.setCell ⟨o, 22, none⟩ (.int .i64 1)) := (Keep.refl B [] (some o) w1).setOwn (heap_lt HH1.out) hb 22 _
      have HJ := Lib.hid (show SStepR B o l a (Arr H L N s 0) w (.returned (.bool false)) _ from ⟨_, _, _, _, _, rfl, .keep (.inl rfl) ho, HA1.out.keep hke rfl rfl (fun g cs t e h => by obtain rfl := only_type HH1.out e h; decide), HT1.out.w.keep hke rfl rfl rfl (fun g cs t e h => by obtain rfl := only_type HH1.out e h; decide), ⟨hb, ref, found, had, code, h2⟩, (HK1.out.mono rfl).trans (hke.more rfl)⟩)
      clear h2 hke
      go_wp2_with fail
      go_ret
      exact HJ.out
end Go.Proofs.YtfolchpjccjadaaDoor
