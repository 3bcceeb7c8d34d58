/- The walk of the law. -/
import Derived.Test.YtfolchpjccjadaaDoorLm
namespace Go.Proofs.YtfolchpjccjadaaDoor
open Go.RowKit
set_option linter.unusedVariables false
attribute [local go_sem] bs_list bs_size

set_option maxRecDepth 100000 in
set_option maxHeartbeats 8000000 in
theorem law_any (z : Int) (A P : Option Addr) (ck np cp : Nat) (ks : List (List UInt8)) (B : Nat) (w : World) (hBw : B = w.heap.size) (hK : KeysR w B A ks) (hck : ks.length ≤ ck) (hkl : ∀ k, k ∈ ks → k.length ≤ 140737488355328) (hnk : ck ≤ 140737488355328) (hP : PicksR w B P np) (hnp : np ≤ 140737488355328) (hz : TabW w) (hB : 0 < B) :
    Calls Tryd.prog 3 #[.int .i64 z, .slice A ks.length ck, .slice P np cp] w fun e w' => e = .returned (.bool true) ∧ Below B w w' := by
  obtain ⟨K, hKK⟩ : ∃ K, K = ks.take 40 := ⟨_, rfl⟩
  have hKl : K.length ≤ 40 := by rw [hKK, List.length_take]; omega
  have HKR := Lib.hid (show KeysR w B A K by rw [hKK]; exact hK.take)
  have HPR := Lib.hid hP
  have HKL := Lib.hid (show ∀ k, k ∈ K → k.length ≤ 140737488355328 from fun k hk => hkl k (by rw [hKK] at hk; exact List.mem_of_mem_take hk))
  have HZ := Lib.hid hz
  have HBW := Lib.hid hBw
  have HKK := Lib.hid hKK
  clear hK hP hkl hz hBw hKK
  go_enter Tryd.func3, Tryd.ntmps3
  go_upto_if 28 with fail
  go_cut [1] (fun v1 wx => v1 = .slice A K.length ck ∧ wx = w)
  case first =>
    by_cases hn : 40 < ks.length
    · have e1 : K.length = 40 := by rw [HKK.out, List.length_take]; omega
      have i1 : (40 : Int) < (ks.length : Int) := by omega
      have i2 : (40 : Int) ≤ (ck : Int) := by omega
      go_wp2_with fail
      go_meet
      case rel => exact ⟨by rw [e1], rfl⟩
    · have e1 : K.length = ks.length := by rw [HKK.out, List.length_take]; omega
      have i1 : ¬ (40 : Int) < (ks.length : Int) := by omega
      go_wp2_with fail
      go_meet
      case rel => exact ⟨by rw [e1], rfl⟩
  case rest =>
    obtain ⟨hv1, hwc⟩ := hcut
    subst hwc hv1
    have HNW := Lib.hid (new_any wc)
    rw [← HBW.out] at HNW
    clear hck hnk
    go_wp2_with fail
    refine HNW.out.mono ?_
    rintro e w1 ⟨rfl, hA1, hb1⟩
    have hB1 : B ≤ w1.heap.size := by rw [HBW.out]; exact hb1.size
    have hb1' : Below wc.heap.size wc w1 := by rw [← HBW.out]; exact hb1
    have hk1 : Keep B [] none wc w1 := Keep.of_below hb1' (by rw [HBW.out]; exact Nat.le_refl _)
    have HZ1 := Lib.hid (HZ.out.keep hk1 hB)
    have HK1 := Lib.hid hk1
    clear hb1' hk1
    by_cases hzb : z < 1 ∨ 256 < z
    · have HHN := Lib.hid (hnew_bad B z w1 hzb)
      have HSN := Lib.hid (snew_any B B [] [] w1 hA1 HZ1.out hB hB1 (by simp))
      clear hb1 hA1
      go_wp2_with fail
      refine HHN.out.mono ?_
      rintro e w2 ⟨rfl, rfl⟩
      go_wp2_with fail
      refine HSN.out.mono ?_
      rintro e w3 ⟨rfl, cs, H2, L2, hg2, hA3, hT3, hk3⟩
      have HFIN := Lib.hid ((HK1.out.mono rfl).trans (hk3.mono rfl) : Keep B [51, 48, 3, 61, 62] none wc w3).below
      clear hg2 hA3 hT3 hk3
      by_cases h1 : z < 1
      · go_wp2_with fail
        go_ret
        exact ⟨rfl, HFIN.out⟩
      · have h2 : 256 < z := by omega
        go_wp2_with fail
        go_ret
        exact ⟨rfl, HFIN.out⟩
    · obtain ⟨nb, rfl, hn1, hn2⟩ : ∃ nb : Nat, z = (nb : Int) ∧ 1 ≤ nb ∧ nb ≤ 256 := ⟨z.toNat, by omega, by omega, by omega⟩
      obtain ⟨t, ht⟩ : ∃ t, t = w1.heap.size := ⟨_, rfl⟩
      have HHN := Lib.hid (hnew_any B B nb w1 hA1 HZ1.out hB hB1 hn1 hn2)
      rw [← ht] at HHN
      have HB1 := Lib.hid hb1
      have HTT := Lib.hid ht
      clear hb1 hA1 hzb ht
      go_wp2_with fail
      refine HHN.out.mono ?_
      rintro e w2 ⟨rfl, hd, H1, L1, hg1, hA2, hT2, hk2⟩
      have hB2 : B ≤ w2.heap.size := Nat.le_trans hB1 hk2.size
      have hll := hg1.len.2
      obtain ⟨l, hle⟩ : ∃ l, l = w2.heap.size := ⟨_, rfl⟩
      have HSN := Lib.hid (snew_any B B H1 L1 w2 hA2 (HZ1.out.keep hk2 hB) hB hB2 (by simp at hll; omega))
      rw [← hle] at HSN
      have HT2 := Lib.hid hT2; have HK2 := Lib.hid hk2; have HG1 := Lib.hid hg1; have HLE := Lib.hid hle
      clear hT2 hk2 hg1 hA2 hll hle
      go_wp2_with fail
      refine HSN.out.mono ?_
      rintro e w3 ⟨rfl, cs, H2, L2, hg2, hA3, hT3, hk3⟩
      obtain ⟨hdl, hL2, g0, hG0⟩ := glob_init K HG1.out hg2
      have hM3 : MemW w3 B B t l hd ⟨H2, L2, [], [⟨[], cs, 8⟩]⟩ := ⟨hA3, HT2.out.keep hk3 rfl rfl rfl (by simp), hT3⟩
      have hB3 : B ≤ w3.heap.size := Nat.le_trans hB2 hk3.size
      obtain ⟨q, hqe⟩ : ∃ q, q = w3.heap.size := ⟨_, rfl⟩
      obtain ⟨w4, hw4⟩ : ∃ w4, w4 = w3.alloc (.cells #[.slice none 0 0, .slice none 0 0] 35) := ⟨_, rfl⟩
      have hk4 : Keep B [] none w3 w4 := by rw [hw4]; exact Keep.of_alloc w3 _ hB3
      have hq4 : w4.heap[q]? = some (.cells #[.slice none 0 0, .slice none 0 0] 35 (0, 0)) := by rw [hw4, hqe]; exact heap_alloc_new w3 _
      have HM4 := Lib.hid (hM3.keep hk4 rfl (by simp))
      have HKA := Lib.hid (show Keep B [51, 48, 3, 61, 62] none w1 w4 from ((HK2.out.mono rfl).trans (hk3.mono rfl)).trans (hk4.mono rfl))
      have hB4 : B ≤ w4.heap.size := Nat.le_trans hB3 hk4.size
      have HL4 := Lib.hid (show Laid w4 B t l q K (fun _ => []) (fun _ => .slice none 0 0) from ⟨hq4, by omega, fun b => ⟨rfl, .inl ⟨rfl, rfl⟩⟩, fun b => .inl rfl, fun b x h => (by cases h), fun b x h => (by cases h), fun b => .nil, fun x y h => (by cases h)⟩)
      have HG0 := Lib.hid hG0; have HW4 := Lib.hid hw4; have HQE := Lib.hid hqe; have HDL := Lib.hid hdl; have HL2 := Lib.hid hL2
      clear hg2 hA3 hT3 hk3 hM3 hk4 hq4 hw4 hqe hG0 hdl hL2
      go_upto_region 11 with fail
      rw [← HW4.out, ← HQE.out]
      go_wp2_with fail
      go_loopw [14] (fun v14 wr => ∃ (k : Nat) (td : Bool → Todo) (vs : Bool → Value), k ≤ K.length ∧ v14 = .int .i64 (k : Int) ∧ Hid (Laid wr B t l q K td vs) ∧ Hid (AllIn K k td) ∧ Hid ((td false).length + (td true).length = 3 * k) ∧ Keep B [35, 40] none w4 wr) (fun v14 _ => K.length - (intOf v14).toNat)
      case atStart => exact ⟨0, fun _ => [], fun _ => .slice none 0 0, by omega, rfl, HL4, Lib.hid (fun j key h => absurd h (by omega)), Lib.hid rfl, Keep.refl _ _ _ _⟩
      case round =>
        obtain ⟨k, td, vs, hk, rfl, hl, hall, hlen, hK5⟩ := hrel
        have HK5 := Lib.hid hK5
        clear hK5
        by_cases hlt : k < K.length
        · obtain ⟨key, hkey⟩ : ∃ key, K[k]? = some key := ⟨_, List.getElem?_eq_getElem hlt⟩
          have hkw : Keep B [51, 48, 3, 61, 62, 35, 40] none wc wr := ((HK1.out.mono rfl).trans (HKA.out.mono rfl)).trans (HK5.out.mono rfl)
          obtain ⟨ad, hA, hadB, hcell⟩ := (HKR.out.below hkw.below) k key hkey
          have hkel := HKL.out key (List.mem_of_getElem? hkey)
          obtain ⟨r, hr⟩ : ∃ r, r = k % 2 := ⟨_, rfl⟩
          obtain ⟨b, hb⟩ : ∃ b : Bool, wkn b = r := ⟨decide (r = 1), by unfold wkn; split <;> rename_i h <;> simp at h <;> omega⟩
          obtain ⟨h9, hh9⟩ : ∃ h9, h9 = k % 9 := ⟨_, rfl⟩
          have m1 : Int.tmod (k : Int) 2 = (r : Int) := by rw [hr]; rfl
          have m2 : (k : Int) % 2 = (r : Int) := by omega
          have m3 : Int.tmod (k : Int) 9 = (h9 : Int) := by rw [hh9]; rfl
          have m4 : (k : Int) % 9 = (h9 : Int) := by omega
          have uk : IntKind.i64.wrap ((k : Int) + 1) = (k : Int) + 1 := IntWalk.i64_in _ (by omega)
          obtain ⟨s, hs⟩ : ∃ s, s = 1 - r := ⟨_, rfl⟩
          have m5 : Int.tmod ((k : Int) + 1) 2 = (s : Int) := by
            have : Int.tmod ((k : Int) + 1) 2 = (((k + 1) % 2 : Nat) : Int) := by rw [show (k : Int) + 1 = ((k + 1 : Nat) : Int) from by omega]; rfl
            rw [this]; omega
          have m6 : ((k : Int) + 1) % 2 = (s : Int) := by omega
          have hbn : wkn (!b) = s := by rw [hs, ← hb]; cases b <;> rfl
          have hs2 : s < 2 := by omega
          have i4 : (0 : Int) ≤ (s : Int) := by omega
          have i5 : (s : Int) < 2 := by omega
          have hvt : ∀ v : Bool → Value, (#[v false, v true] : Array Value)[s]? = some (v (!b)) := fun v => by rw [← hbn]; cases b <;> rfl
          have hr2 : r < 2 := by omega
          have i0 : (0 : Int) ≤ (r : Int) := by omega
          have i1 : (r : Int) < 2 := by omega
          have i2 : (0 : Int) ≤ (k : Int) := by omega
          have i3 : (k : Int) < (K.length : Int) := by omega
          have hvs : ∀ v : Bool → Value, (#[v false, v true] : Array Value)[r]? = some (v b) := fun v => by rw [← hb]; cases b <;> rfl
          have xq := box_cells hl.out.blk r _ (hvs vs)
          obtain ⟨Av, cv, hvv⟩ := row_slice (hl.out.row b)
          subst hA
          have HR := Lib.hid hr; have HB' := Lib.hid hb; have HBN := Lib.hid hbn; have HKEY := Lib.hid hkey; have HKW := Lib.hid hkw; have HVV := Lib.hid hvv; have HVS := Lib.hid hvs; have HVT := Lib.hid hvt; have H9 := Lib.hid hh9
          have HADB := Lib.hid hadB
          have hBr : B ≤ wr.heap.size := Nat.le_trans hB4 HK5.out.size
          rw [hvv] at xq
          clear hr hs hb hbn hkey hkw hvv hvs hvt hh9 hadB
          have HC7 := Lib.hid (hinsert_at (B := B) (t := t) key (k : Int) wr hBr)
          obtain ⟨o1, ho1⟩ : ∃ o1, o1 = wr.heap.size := ⟨_, rfl⟩
          rw [← ho1] at HC7
          have HC8 := Lib.hid (fun (W : World) (h : B ≤ W.heap.size) => sinsert_at' (B := B) (l := l) key (k : Int) h9 W h hkel)
          have HO1 := Lib.hid ho1
          clear ho1
          have hn1 : (td b).length ≤ 200 := by have := hlen.out; cases b <;> omega
          obtain ⟨n1, hnn⟩ : ∃ n, n = (td b).length := ⟨_, rfl⟩
          rw [← hnn] at xq hn1
          have HNN := Lib.hid hnn
          clear hnn
          go_upto_region 14 with fail
          go_cut [] (fun wx => ∃ (o1 o2 : Nat) (vs' : Bool → Value), Hid (Laid wx B t l q K (setW td b (td b ++ [(o1, .hash (freshHop key)), (o2, .skip (freshSop key h9))])) vs') ∧ Hid (Keep B [35, 40] none wr wx))
          case first =>
            have HCELL := Lib.hid hcell
            have HS0 := Lib.hid (show wr.drew.cell? (ad.add k) = some (.string (bs key)) from hcell)
            refine wp_region_held_drew (S := fun W => W.cell? (ad.add k) = some (.string (bs key))) (by kernel_rfl) HS0.out (fun hHeld => ?_)
            simp only [List.size_toArray, List.length_cons, List.length_nil, Nat.reduceAdd]
            refine' wpAnyH_take (i := 0) (v := _) (by simp only [List.getElem?_toArray, List.getElem?_cons_zero]; rfl) (by kernel_rfl) (by kernel_rfl) (by kernel_rfl) (by exact fun _ _ _ h => h) (Or.inl ⟨by rfl, ?_⟩) (by assumption) ?_
            rotate_left 1
            · intro w hSw; (try dsimp only at hSw); go_simp; try with_reducible rfl
            try simp only [Act.put, List.setIfInBounds_toArray, List.set_cons_zero, List.set_cons_succ]
            refine' wpAnyH_take (i := 1) (v := _) (by simp only [List.getElem?_toArray, List.getElem?_cons_succ, List.getElem?_cons_zero]; rfl) (by kernel_rfl) (by kernel_rfl) (by kernel_rfl) (by exact fun _ _ _ h => h) (Or.inl ⟨by rfl, ?_⟩) (by assumption) ?_
            rotate_left 1
            · intro w hSw; (try dsimp only at hSw); go_simp; try with_reducible rfl
            try simp only [Act.put, List.setIfInBounds_toArray, List.set_cons_zero, List.set_cons_succ]
            refine' wpAnyH_take (i := 2) (v := _) (by simp only [List.getElem?_toArray, List.getElem?_cons_succ, List.getElem?_cons_zero]; rfl) (by kernel_rfl) (by kernel_rfl) (by kernel_rfl) (by exact fun _ _ _ h => h) (Or.inl ⟨by rfl, ?_⟩) (by assumption) ?_
            rotate_left 1
            · intro w hSw; (try dsimp only at hSw); go_simp; try with_reducible rfl
            try simp only [Act.put, List.setIfInBounds_toArray, List.set_cons_zero, List.set_cons_succ]
            refine' wpAnyH_take (i := 3) (v := _) (by simp only [List.getElem?_toArray, List.getElem?_cons_succ, List.getElem?_cons_zero]; rfl) (by kernel_rfl) (by kernel_rfl) (by kernel_rfl) (by exact fun _ _ _ h => h) (Or.inl ⟨by rfl, ?_⟩) (by assumption) ?_
            rotate_left 1
            · intro w hSw; (try dsimp only at hSw); go_simp; try with_reducible rfl
            try simp only [Act.put, List.setIfInBounds_toArray, List.set_cons_zero, List.set_cons_succ]
            refine' wpAnyH_take (i := 4) (v := _) (by simp only [List.getElem?_toArray, List.getElem?_cons_succ, List.getElem?_cons_zero]; rfl) (by kernel_rfl) (by kernel_rfl) (by kernel_rfl) (by exact fun _ _ _ h => h) (Or.inl ⟨by rfl, ?_⟩) (by assumption) ?_
            rotate_left 1
            · intro w hSw; (try dsimp only at hSw); go_simp; try with_reducible rfl
            try simp only [Act.put, List.setIfInBounds_toArray, List.set_cons_zero, List.set_cons_succ]
            refine' wpAnyH_take (i := 6) (v := _) (by simp only [List.getElem?_toArray, List.getElem?_cons_succ, List.getElem?_cons_zero]; rfl) (by kernel_rfl) (by kernel_rfl) (by kernel_rfl) (by exact fun _ _ _ h => h) (Or.inl ⟨by rfl, ?_⟩) (by assumption) ?_
            rotate_left 1
            · intro w hSw; (try dsimp only at hSw); go_simp; try with_reducible rfl
            try simp only [Act.put, List.setIfInBounds_toArray, List.set_cons_zero, List.set_cons_succ]
            refine' wpAnyH_take (i := 7) (v := _) (by simp only [List.getElem?_toArray, List.getElem?_cons_succ, List.getElem?_cons_zero]; rfl) (by kernel_rfl) (by kernel_rfl) (by kernel_rfl) (by exact fun _ _ _ h => h) (Or.inl ⟨by rfl, ?_⟩) (by assumption) ?_
            rotate_left 1
            · intro w hSw; (try dsimp only at hSw); go_simp; try with_reducible rfl
            try simp only [Act.put, List.setIfInBounds_toArray, List.set_cons_zero, List.set_cons_succ]
            refine' wpAnyH_take (i := 8) (v := _) (by simp only [List.getElem?_toArray, List.getElem?_cons_succ, List.getElem?_cons_zero]; rfl) (by kernel_rfl) (by kernel_rfl) (by kernel_rfl) (by exact fun _ _ _ h => h) (Or.inl ⟨by rfl, ?_⟩) (by assumption) ?_
            rotate_left 1
            · intro w hSw; (try dsimp only at hSw); go_simp; try with_reducible rfl
            try simp only [Act.put, List.setIfInBounds_toArray, List.set_cons_zero, List.set_cons_succ]
            refine' wpAnyH_take (i := 9) (v := _) (by simp only [List.getElem?_toArray, List.getElem?_cons_succ, List.getElem?_cons_zero]; rfl) (by kernel_rfl) (by kernel_rfl) (by kernel_rfl) (by exact fun _ _ _ h => h) (Or.inl ⟨by rfl, ?_⟩) (by assumption) ?_
            rotate_left 1
            · intro w hSw; (try dsimp only at hSw); go_simp; try with_reducible rfl
            try simp only [Act.put, List.setIfInBounds_toArray, List.set_cons_zero, List.set_cons_succ]
            refine' wpAnyH_take (i := 10) (v := _) (by simp only [List.getElem?_toArray, List.getElem?_cons_succ, List.getElem?_cons_zero]; rfl) (by kernel_rfl) (by kernel_rfl) (by kernel_rfl) (by exact fun _ _ _ h => h) (Or.inl ⟨by rfl, ?_⟩) (by assumption) ?_
            rotate_left 1
            · intro w hSw; (try dsimp only at hSw); go_simp; try with_reducible rfl
            try simp only [Act.put, List.setIfInBounds_toArray, List.set_cons_zero, List.set_cons_succ]
            refine' wpAnyH_take (i := 11) (v := _) (by simp only [List.getElem?_toArray, List.getElem?_cons_succ, List.getElem?_cons_zero]; rfl) (by kernel_rfl) (by kernel_rfl) (by kernel_rfl) (by exact fun _ _ _ h => h) (Or.inl ⟨by rfl, ?_⟩) (by assumption) ?_
            rotate_left 1
            · intro w hSw; (try dsimp only at hSw); go_simp; try with_reducible rfl
            try simp only [Act.put, List.setIfInBounds_toArray, List.set_cons_zero, List.set_cons_succ]
            refine' wpAnyH_take (i := 14) (v := _) (by simp only [List.getElem?_toArray, List.getElem?_cons_succ, List.getElem?_cons_zero]; rfl) (by kernel_rfl) (by kernel_rfl) (by kernel_rfl) (by exact fun _ _ _ h => h) (Or.inl ⟨by rfl, ?_⟩) (by assumption) ?_
            rotate_left 1
            · intro w hSw; (try dsimp only at hSw); go_simp; try with_reducible rfl
            try simp only [Act.put, List.setIfInBounds_toArray, List.set_cons_zero, List.set_cons_succ]
            refine' wpAnyH_take (i := 15) (v := _) (by simp only [List.getElem?_toArray, List.getElem?_cons_succ, List.getElem?_cons_zero]; rfl) (by kernel_rfl) (by kernel_rfl) (by kernel_rfl) (by exact fun _ _ _ h => h) (Or.inl ⟨by rfl, ?_⟩) (by assumption) ?_
            rotate_left 1
            · intro w hSw; (try dsimp only at hSw); go_simp; try with_reducible rfl
            try simp only [Act.put, List.setIfInBounds_toArray, List.set_cons_zero, List.set_cons_succ]
            refine' wpAnyH_take (i := 16) (v := _) (by simp only [List.getElem?_toArray, List.getElem?_cons_succ, List.getElem?_cons_zero]; rfl) (by kernel_rfl) (by kernel_rfl) (by kernel_rfl) (by exact fun _ _ _ h => h) (Or.inl ⟨by rfl, ?_⟩) (by assumption) ?_
            rotate_left 1
            · intro w hSw; (try dsimp only at hSw); go_simp; try with_reducible rfl
            try simp only [Act.put, List.setIfInBounds_toArray, List.set_cons_zero, List.set_cons_succ]
            refine' wpAnyH_take (i := 17) (v := _) (by simp only [List.getElem?_toArray, List.getElem?_cons_succ, List.getElem?_cons_zero]; rfl) (by kernel_rfl) (by kernel_rfl) (by kernel_rfl) (by exact fun _ _ _ h => h) (Or.inl ⟨by rfl, ?_⟩) (by assumption) ?_
            rotate_left 1
            · intro w hSw; (try dsimp only at hSw); go_simp; try with_reducible rfl
            try simp only [Act.put, List.setIfInBounds_toArray, List.set_cons_zero, List.set_cons_succ]
            refine' wpAnyH_take (i := 18) (v := _) (by simp only [List.getElem?_toArray, List.getElem?_cons_succ, List.getElem?_cons_zero]; rfl) (by kernel_rfl) (by kernel_rfl) (by kernel_rfl) (by exact fun _ _ _ h => h) (Or.inl ⟨by rfl, ?_⟩) (by assumption) ?_
            rotate_left 1
            · intro w hSw; (try dsimp only at hSw); go_simp; try with_reducible rfl
            try simp only [Act.put, List.setIfInBounds_toArray, List.set_cons_zero, List.set_cons_succ]
            refine' wpAnyH_take (i := 19) (v := _) (by simp only [List.getElem?_toArray, List.getElem?_cons_succ, List.getElem?_cons_zero]; rfl) (by kernel_rfl) (by kernel_rfl) (by kernel_rfl) (by exact fun _ _ _ h => h) (Or.inl ⟨by rfl, ?_⟩) (by assumption) ?_
            rotate_left 1
            · intro w hSw; (try dsimp only at hSw); go_simp; try with_reducible rfl
            try simp only [Act.put, List.setIfInBounds_toArray, List.set_cons_zero, List.set_cons_succ]
            refine' wpAnyH_take (i := 20) (v := _) (by simp only [List.getElem?_toArray, List.getElem?_cons_succ, List.getElem?_cons_zero]; rfl) (by kernel_rfl) (by kernel_rfl) (by kernel_rfl) (by exact fun _ _ _ h => h) (Or.inl ⟨by rfl, ?_⟩) (by assumption) ?_
            rotate_left 1
            · intro w hSw; (try dsimp only at hSw); go_simp; try with_reducible rfl
            try simp only [Act.put, List.setIfInBounds_toArray, List.set_cons_zero, List.set_cons_succ]
            refine' wpAnyH_take (i := 21) (v := _) (by simp only [List.getElem?_toArray, List.getElem?_cons_succ, List.getElem?_cons_zero]; rfl) (by kernel_rfl) (by kernel_rfl) (by kernel_rfl) (by exact fun _ _ _ h => h) (Or.inl ⟨by rfl, ?_⟩) (by assumption) ?_
            rotate_left 1
            · intro w hSw; (try dsimp only at hSw); go_simp; try with_reducible rfl
            try simp only [Act.put, List.setIfInBounds_toArray, List.set_cons_zero, List.set_cons_succ]
            refine wpAnyH_ready (rs := [5, 12]) (by kernel_rfl) (by simp) ?_
            refine AllReadyH.cons (by simp only [List.getElem?_toArray, List.getElem?_cons_succ, List.getElem?_cons_zero]; rfl) (fun K' hK => ?_) (AllReadyH.cons (by simp only [List.getElem?_toArray, List.getElem?_cons_succ, List.getElem?_cons_zero]; rfl) (fun K' hK => ?_) AllReadyH.nil)
            ·
              go_simp
              refine hK.out _ _ HS0.out (fun hHeld => ?_)
              clear hK K'
              try simp only [Act.put, List.setIfInBounds_toArray, List.set_cons_zero, List.set_cons_succ]
              refine wpAnyH_ready (rs := [12]) (by kernel_rfl) (by simp) ?_
              refine AllReadyH.cons (by simp only [List.getElem?_toArray, List.getElem?_cons_succ, List.getElem?_cons_zero]; rfl) (fun K' hK => ?_) AllReadyH.nil
              go_simp
              refine HC7.out.mono ?_
              rintro e w5 ⟨rfl, hop5, hk5, hs5⟩
              have hB5 := Nat.le_trans hBr hk5.size
              have c5 : w5.cell? (ad.add k) = some (.string (bs key)) := (World.cell?_of_block (hk5.low _ HADB.out)).trans HCELL.out
              have q5 : w5.cell? ⟨q, r, none⟩ = some (.slice Av n1 cv) := box_cells (hk5.rest q _ 35 hl.out.blk rfl (by simp)) r _ (by rw [HVS.out, HVV.out, HNN.out])
              have HOP5 := Lib.hid hop5; have HK5' := Lib.hid hk5; have HS5 := Lib.hid hs5; have HSA := Lib.hid c5
              clear hop5 hk5 hs5
              refine hK.out _ _ HSA.out (fun hHeld => ?_)
              clear hK K'
              try simp only [Act.put, List.setIfInBounds_toArray, List.set_cons_zero, List.set_cons_succ]
              refine' wpAnyH_take (i := 13) (v := _) (by simp only [List.getElem?_toArray, List.getElem?_cons_succ, List.getElem?_cons_zero]; rfl) (by kernel_rfl) (by kernel_rfl) (by kernel_rfl) (by exact fun _ _ _ h => h) (Or.inl ⟨by rfl, ?_⟩) (by assumption) ?_
              rotate_left 1
              · intro w hSw; (try dsimp only at hSw); go_simp; try with_reducible rfl
              try simp only [Act.put, List.setIfInBounds_toArray, List.set_cons_zero, List.set_cons_succ]
              refine wpAnyH_ready (rs := [22]) (by kernel_rfl) (by simp) ?_
              refine AllReadyH.cons (by simp only [List.getElem?_toArray, List.getElem?_cons_succ, List.getElem?_cons_zero]; rfl) (fun K' hK => ?_) AllReadyH.nil
              go_simp
              refine (HC8.out _ hB5).mono ?_
              rintro e w6 ⟨o2, rfl, ho2, hop6, hk6⟩
              have hB6 := Nat.le_trans hB5 hk6.size
              have hq6 := hk6.rest q _ 35 (HK5'.out.rest q _ 35 hl.out.blk rfl (by simp)) rfl (by simp)
              have q6 : w6.cell? ⟨q, r, none⟩ = some (.slice Av n1 cv) := box_cells hq6 r _ (by rw [HVS.out, HVV.out, HNN.out])
              have c6 : w6.cell? (ad.add k) = some (.string (bs key)) := (World.cell?_of_block (hk6.low _ HADB.out)).trans c5
              obtain ⟨w7, hw7⟩ : ∃ w7, w7 = w6.alloc (.cells #[.pointer (some ⟨o1, 0, none⟩), .pointer none, .pointer none, .pointer (some ⟨o2, 0, none⟩)] 40) := ⟨_, rfl⟩
              have hk7 : Keep B [] none w6 w7 := by rw [hw7]; exact Keep.of_alloc w6 _ hB6
              have hn7 : w7.heap[w6.heap.size]? = some (.cells #[.pointer (some ⟨o1, 0, none⟩), .pointer none, .pointer none, .pointer (some ⟨o2, 0, none⟩)] 40 (0, 0)) := by rw [hw7]; exact heap_alloc_new w6 _
              have q7 : w7.cell? ⟨q, r, none⟩ = some (.slice Av n1 cv) := box_cells (hk7.rest q _ 35 hq6 rfl (by simp)) r _ (by rw [HVS.out, HVV.out, HNN.out])
              have c7 : w7.cell? (ad.add k) = some (.string (bs key)) := (World.cell?_of_block (hk7.low _ HADB.out)).trans c6
              have HW7 := Lib.hid hw7; have HN7 := Lib.hid hn7; have HK7 := Lib.hid ((HK5'.out.trans hk6).trans hk7); have HQ7 := Lib.hid (hk7.rest q _ 35 hq6 rfl (by simp)); have HB7 := Lib.hid (Nat.le_trans hB6 hk7.size)
              have HOA := Lib.hid (OpW.keep (d := .hash (freshHop key)) (l := l) HOP5.out (hk6.trans hk7) rfl rfl (by simp)); have HOB := Lib.hid (OpW.keep (d := .skip (freshSop key h9)) (t := t) hop6 hk7 rfl rfl (by simp)); have HO2 := Lib.hid ho2
              have HSB := Lib.hid c6; have HSC := Lib.hid c7
              clear hq6 hk6 hk7 hn7 hw7 hop6 ho2
              refine hK.out _ _ HSB.out (fun hHeld => ?_)
              clear hK K'
              try simp only [Act.put, List.setIfInBounds_toArray, List.set_cons_zero, List.set_cons_succ]
              refine' wpAnyH_take (i := 23) (v := _) (by simp only [List.getElem?_toArray, List.getElem?_cons_succ, List.getElem?_cons_zero]; rfl) (by kernel_rfl) (by kernel_rfl) (by kernel_rfl) (by exact fun _ _ _ h => h) (Or.inl ⟨by rfl, ?_⟩) (by assumption) ?_
              rotate_left 1
              · intro w hSw; (try dsimp only at hSw); go_simp; try with_reducible rfl
              try simp only [Act.put, List.setIfInBounds_toArray, List.set_cons_zero, List.set_cons_succ]
              refine wpAnyH_ready (rs := [24]) (by kernel_rfl) (by simp) ?_
              refine AllReadyH.cons (by simp only [List.getElem?_toArray, List.getElem?_cons_succ, List.getElem?_cons_zero]; rfl) (fun K' hK => ?_) AllReadyH.nil
              go_simp
              rw [← HW7.out]
              refine hK.out _ _ HSC.out (fun hHeld => ?_)
              clear hK K'
              try simp only [Act.put, List.setIfInBounds_toArray, List.set_cons_zero, List.set_cons_succ]
              refine wpAnyH_ready (rs := [25]) (by kernel_rfl) (by simp) ?_
              refine AllReadyH.cons (by simp only [List.getElem?_toArray, List.getElem?_cons_succ, List.getElem?_cons_zero]; rfl) (fun K' hK => ?_) AllReadyH.nil
              refine step_many B w6.heap.size 2 34 40 2 16 (.agg #[.pointer none, .pointer none]) (by kernel_rfl) info40 rfl (by decide) (by rfl) _ _ (by rfl) (.slice Av n1 cv) n1 (stepRow (td b)) #[.pointer (some ⟨o1, 0, none⟩), .pointer none, .pointer none, .pointer (some ⟨o2, 0, none⟩)] rfl (by intro u hu; simp at hu; rcases hu with rfl | rfl | rfl <;> rfl) (by rfl) (by rfl) (by rw [HNN.out, ← HVV.out]; exact HK7.out.row (hl.out.row b) rfl (by simp)) HN7.out HB7.out (by omega) (by omega) ?_
              intro v1 w8 ho8 hb8 hg8 hat8
              obtain ⟨A1, c1, hv1⟩ := row_slice ho8
              subst hv1
              have hgv : w7.grownBy w8 (vs b).ownBlock := by rw [HVV.out, ← HNN.out]; exact hg8
              have hl8 := Laid.add (m := 2) (b := b) (ns := [(o1, .hash (freshHop key)), (o2, .skip (freshSop key h9))]) hl.out HK7.out HB7.out (two_ops HOA.out HOB.out) (two_fresh (List.mem_of_getElem? HKEY.out) h9) (two_new (by rw [HO1.out]; exact Nat.le_refl _) (Nat.le_trans HK5'.out.size HO2.out)) (two_nd (by have := HS5.out; have := HO2.out; have := HO1.out; simp only; omega)) rfl (by rw [← HNN.out]; exact ho8) hgv (by rw [HVV.out, ← HNN.out]; exact hat8)
              have hq8 := heap_kept HQ7.out hgv (row_off (HK7.out.row (hl.out.row b) rfl (by simp)) HQ7.out (by decide))
              have q8 : w8.cell? ⟨q, r, none⟩ = some (.slice Av n1 cv) := box_cells hq8 r _ (by rw [HVS.out, HVV.out, HNN.out])
              have f8 := froz_all hq8
              have c8 : w8.cell? (ad.add k) = some (.string (bs key)) := (World.cell?_of_block (hb8.block _ HADB.out)).trans c7
              rw [HB'.out] at hl8
              have HSE := Lib.hid (show (w8.setCell ⟨q, r, none⟩ (.slice A1 (n1 + 2) c1)).cell? (ad.add k) = some (.string (bs key)) from (World.cell?_of_block (hl8.2.low _ HADB.out)).trans HCELL.out)
              have HL8 := Lib.hid hl8; have HSD := Lib.hid c8
              clear ho8 hb8 hg8 hat8 hgv hl8 hq8
              refine hK.out _ _ HSD.out (fun hHeld => ?_)
              clear hK K'
              try simp only [Act.put, List.setIfInBounds_toArray, List.set_cons_zero, List.set_cons_succ]
              refine' wpAnyH_take (i := 26) (v := _) (by simp only [List.getElem?_toArray, List.getElem?_cons_succ, List.getElem?_cons_zero]; rfl) (by kernel_rfl) (by kernel_rfl) (by kernel_rfl) (by exact fun _ _ _ h => h) (Or.inl ⟨by rfl, ?_⟩) (by assumption) ?_
              rotate_left 1
              · intro w hSw; (try dsimp only at hSw); go_simp; try with_reducible rfl
              try simp only [Act.put, List.setIfInBounds_toArray, List.set_cons_zero, List.set_cons_succ]
              refine wpAnyH_ready (rs := [27]) (by kernel_rfl) (by simp) ?_
              refine AllReadyH.cons (by simp only [List.getElem?_toArray, List.getElem?_cons_succ, List.getElem?_cons_zero]; rfl) (fun K' hK => ?_) AllReadyH.nil
              go_simp
              refine hK.out _ _ HSE.out (fun hHeld => ?_)
              clear hK K'
              try simp only [Act.put, List.setIfInBounds_toArray, List.set_cons_zero, List.set_cons_succ]
              refine wpAnyH_done (by kernel_rfl) ?_ _
              go_wp2_with fail
              go_meet
              case rel => exact ⟨_, _, _, Lib.hid HL8.out.1, Lib.hid HL8.out.2⟩
            ·
              go_simp
              refine HC7.out.mono ?_
              rintro e w5 ⟨rfl, hop5, hk5, hs5⟩
              have hB5 := Nat.le_trans hBr hk5.size
              have c5 : w5.cell? (ad.add k) = some (.string (bs key)) := (World.cell?_of_block (hk5.low _ HADB.out)).trans HCELL.out
              have q5 : w5.cell? ⟨q, r, none⟩ = some (.slice Av n1 cv) := box_cells (hk5.rest q _ 35 hl.out.blk rfl (by simp)) r _ (by rw [HVS.out, HVV.out, HNN.out])
              have HOP5 := Lib.hid hop5; have HK5' := Lib.hid hk5; have HS5 := Lib.hid hs5; have HSA := Lib.hid c5
              clear hop5 hk5 hs5
              refine hK.out _ _ HSA.out (fun hHeld => ?_)
              clear hK K'
              try simp only [Act.put, List.setIfInBounds_toArray, List.set_cons_zero, List.set_cons_succ]
              refine' wpAnyH_take (i := 13) (v := _) (by simp only [List.getElem?_toArray, List.getElem?_cons_succ, List.getElem?_cons_zero]; rfl) (by kernel_rfl) (by kernel_rfl) (by kernel_rfl) (by exact fun _ _ _ h => h) (Or.inl ⟨by rfl, ?_⟩) (by assumption) ?_
              rotate_left 1
              · intro w hSw; (try dsimp only at hSw); go_simp; try with_reducible rfl
              try simp only [Act.put, List.setIfInBounds_toArray, List.set_cons_zero, List.set_cons_succ]
              refine wpAnyH_ready (rs := [5, 22]) (by kernel_rfl) (by simp) ?_
              refine AllReadyH.cons (by simp only [List.getElem?_toArray, List.getElem?_cons_succ, List.getElem?_cons_zero]; rfl) (fun K' hK => ?_) (AllReadyH.cons (by simp only [List.getElem?_toArray, List.getElem?_cons_succ, List.getElem?_cons_zero]; rfl) (fun K' hK => ?_) AllReadyH.nil)
              ·
                go_simp
                refine hK.out _ _ HSA.out (fun hHeld => ?_)
                clear hK K'
                try simp only [Act.put, List.setIfInBounds_toArray, List.set_cons_zero, List.set_cons_succ]
                refine wpAnyH_ready (rs := [22]) (by kernel_rfl) (by simp) ?_
                refine AllReadyH.cons (by simp only [List.getElem?_toArray, List.getElem?_cons_succ, List.getElem?_cons_zero]; rfl) (fun K' hK => ?_) AllReadyH.nil
                go_simp
                refine (HC8.out _ hB5).mono ?_
                rintro e w6 ⟨o2, rfl, ho2, hop6, hk6⟩
                have hB6 := Nat.le_trans hB5 hk6.size
                have hq6 := hk6.rest q _ 35 (HK5'.out.rest q _ 35 hl.out.blk rfl (by simp)) rfl (by simp)
                have q6 : w6.cell? ⟨q, r, none⟩ = some (.slice Av n1 cv) := box_cells hq6 r _ (by rw [HVS.out, HVV.out, HNN.out])
                have c6 : w6.cell? (ad.add k) = some (.string (bs key)) := (World.cell?_of_block (hk6.low _ HADB.out)).trans c5
                obtain ⟨w7, hw7⟩ : ∃ w7, w7 = w6.alloc (.cells #[.pointer (some ⟨o1, 0, none⟩), .pointer none, .pointer none, .pointer (some ⟨o2, 0, none⟩)] 40) := ⟨_, rfl⟩
                have hk7 : Keep B [] none w6 w7 := by rw [hw7]; exact Keep.of_alloc w6 _ hB6
                have hn7 : w7.heap[w6.heap.size]? = some (.cells #[.pointer (some ⟨o1, 0, none⟩), .pointer none, .pointer none, .pointer (some ⟨o2, 0, none⟩)] 40 (0, 0)) := by rw [hw7]; exact heap_alloc_new w6 _
                have q7 : w7.cell? ⟨q, r, none⟩ = some (.slice Av n1 cv) := box_cells (hk7.rest q _ 35 hq6 rfl (by simp)) r _ (by rw [HVS.out, HVV.out, HNN.out])
                have c7 : w7.cell? (ad.add k) = some (.string (bs key)) := (World.cell?_of_block (hk7.low _ HADB.out)).trans c6
                have HW7 := Lib.hid hw7; have HN7 := Lib.hid hn7; have HK7 := Lib.hid ((HK5'.out.trans hk6).trans hk7); have HQ7 := Lib.hid (hk7.rest q _ 35 hq6 rfl (by simp)); have HB7 := Lib.hid (Nat.le_trans hB6 hk7.size)
                have HOA := Lib.hid (OpW.keep (d := .hash (freshHop key)) (l := l) HOP5.out (hk6.trans hk7) rfl rfl (by simp)); have HOB := Lib.hid (OpW.keep (d := .skip (freshSop key h9)) (t := t) hop6 hk7 rfl rfl (by simp)); have HO2 := Lib.hid ho2
                have HSB := Lib.hid c6; have HSC := Lib.hid c7
                clear hq6 hk6 hk7 hn7 hw7 hop6 ho2
                refine hK.out _ _ HSB.out (fun hHeld => ?_)
                clear hK K'
                try simp only [Act.put, List.setIfInBounds_toArray, List.set_cons_zero, List.set_cons_succ]
                refine' wpAnyH_take (i := 23) (v := _) (by simp only [List.getElem?_toArray, List.getElem?_cons_succ, List.getElem?_cons_zero]; rfl) (by kernel_rfl) (by kernel_rfl) (by kernel_rfl) (by exact fun _ _ _ h => h) (Or.inl ⟨by rfl, ?_⟩) (by assumption) ?_
                rotate_left 1
                · intro w hSw; (try dsimp only at hSw); go_simp; try with_reducible rfl
                try simp only [Act.put, List.setIfInBounds_toArray, List.set_cons_zero, List.set_cons_succ]
                refine wpAnyH_ready (rs := [24]) (by kernel_rfl) (by simp) ?_
                refine AllReadyH.cons (by simp only [List.getElem?_toArray, List.getElem?_cons_succ, List.getElem?_cons_zero]; rfl) (fun K' hK => ?_) AllReadyH.nil
                go_simp
                rw [← HW7.out]
                refine hK.out _ _ HSC.out (fun hHeld => ?_)
                clear hK K'
                try simp only [Act.put, List.setIfInBounds_toArray, List.set_cons_zero, List.set_cons_succ]
                refine wpAnyH_ready (rs := [25]) (by kernel_rfl) (by simp) ?_
                refine AllReadyH.cons (by simp only [List.getElem?_toArray, List.getElem?_cons_succ, List.getElem?_cons_zero]; rfl) (fun K' hK => ?_) AllReadyH.nil
                refine step_many B w6.heap.size 2 34 40 2 16 (.agg #[.pointer none, .pointer none]) (by kernel_rfl) info40 rfl (by decide) (by rfl) _ _ (by rfl) (.slice Av n1 cv) n1 (stepRow (td b)) #[.pointer (some ⟨o1, 0, none⟩), .pointer none, .pointer none, .pointer (some ⟨o2, 0, none⟩)] rfl (by intro u hu; simp at hu; rcases hu with rfl | rfl | rfl <;> rfl) (by rfl) (by rfl) (by rw [HNN.out, ← HVV.out]; exact HK7.out.row (hl.out.row b) rfl (by simp)) HN7.out HB7.out (by omega) (by omega) ?_
                intro v1 w8 ho8 hb8 hg8 hat8
                obtain ⟨A1, c1, hv1⟩ := row_slice ho8
                subst hv1
                have hgv : w7.grownBy w8 (vs b).ownBlock := by rw [HVV.out, ← HNN.out]; exact hg8
                have hl8 := Laid.add (m := 2) (b := b) (ns := [(o1, .hash (freshHop key)), (o2, .skip (freshSop key h9))]) hl.out HK7.out HB7.out (two_ops HOA.out HOB.out) (two_fresh (List.mem_of_getElem? HKEY.out) h9) (two_new (by rw [HO1.out]; exact Nat.le_refl _) (Nat.le_trans HK5'.out.size HO2.out)) (two_nd (by have := HS5.out; have := HO2.out; have := HO1.out; simp only; omega)) rfl (by rw [← HNN.out]; exact ho8) hgv (by rw [HVV.out, ← HNN.out]; exact hat8)
                have hq8 := heap_kept HQ7.out hgv (row_off (HK7.out.row (hl.out.row b) rfl (by simp)) HQ7.out (by decide))
                have q8 : w8.cell? ⟨q, r, none⟩ = some (.slice Av n1 cv) := box_cells hq8 r _ (by rw [HVS.out, HVV.out, HNN.out])
                have f8 := froz_all hq8
                have c8 : w8.cell? (ad.add k) = some (.string (bs key)) := (World.cell?_of_block (hb8.block _ HADB.out)).trans c7
                rw [HB'.out] at hl8
                have HSE := Lib.hid (show (w8.setCell ⟨q, r, none⟩ (.slice A1 (n1 + 2) c1)).cell? (ad.add k) = some (.string (bs key)) from (World.cell?_of_block (hl8.2.low _ HADB.out)).trans HCELL.out)
                have HL8 := Lib.hid hl8; have HSD := Lib.hid c8
                clear ho8 hb8 hg8 hat8 hgv hl8 hq8
                refine hK.out _ _ HSD.out (fun hHeld => ?_)
                clear hK K'
                try simp only [Act.put, List.setIfInBounds_toArray, List.set_cons_zero, List.set_cons_succ]
                refine' wpAnyH_take (i := 26) (v := _) (by simp only [List.getElem?_toArray, List.getElem?_cons_succ, List.getElem?_cons_zero]; rfl) (by kernel_rfl) (by kernel_rfl) (by kernel_rfl) (by exact fun _ _ _ h => h) (Or.inl ⟨by rfl, ?_⟩) (by assumption) ?_
                rotate_left 1
                · intro w hSw; (try dsimp only at hSw); go_simp; try with_reducible rfl
                try simp only [Act.put, List.setIfInBounds_toArray, List.set_cons_zero, List.set_cons_succ]
                refine wpAnyH_ready (rs := [27]) (by kernel_rfl) (by simp) ?_
                refine AllReadyH.cons (by simp only [List.getElem?_toArray, List.getElem?_cons_succ, List.getElem?_cons_zero]; rfl) (fun K' hK => ?_) AllReadyH.nil
                go_simp
                refine hK.out _ _ HSE.out (fun hHeld => ?_)
                clear hK K'
                try simp only [Act.put, List.setIfInBounds_toArray, List.set_cons_zero, List.set_cons_succ]
                refine wpAnyH_done (by kernel_rfl) ?_ _
                go_wp2_with fail
                go_meet
                case rel => exact ⟨_, _, _, Lib.hid HL8.out.1, Lib.hid HL8.out.2⟩
              ·
                go_simp
                refine (HC8.out _ hB5).mono ?_
                rintro e w6 ⟨o2, rfl, ho2, hop6, hk6⟩
                have hB6 := Nat.le_trans hB5 hk6.size
                have hq6 := hk6.rest q _ 35 (HK5'.out.rest q _ 35 hl.out.blk rfl (by simp)) rfl (by simp)
                have q6 : w6.cell? ⟨q, r, none⟩ = some (.slice Av n1 cv) := box_cells hq6 r _ (by rw [HVS.out, HVV.out, HNN.out])
                have c6 : w6.cell? (ad.add k) = some (.string (bs key)) := (World.cell?_of_block (hk6.low _ HADB.out)).trans c5
                obtain ⟨w7, hw7⟩ : ∃ w7, w7 = w6.alloc (.cells #[.pointer (some ⟨o1, 0, none⟩), .pointer none, .pointer none, .pointer (some ⟨o2, 0, none⟩)] 40) := ⟨_, rfl⟩
                have hk7 : Keep B [] none w6 w7 := by rw [hw7]; exact Keep.of_alloc w6 _ hB6
                have hn7 : w7.heap[w6.heap.size]? = some (.cells #[.pointer (some ⟨o1, 0, none⟩), .pointer none, .pointer none, .pointer (some ⟨o2, 0, none⟩)] 40 (0, 0)) := by rw [hw7]; exact heap_alloc_new w6 _
                have q7 : w7.cell? ⟨q, r, none⟩ = some (.slice Av n1 cv) := box_cells (hk7.rest q _ 35 hq6 rfl (by simp)) r _ (by rw [HVS.out, HVV.out, HNN.out])
                have c7 : w7.cell? (ad.add k) = some (.string (bs key)) := (World.cell?_of_block (hk7.low _ HADB.out)).trans c6
                have HW7 := Lib.hid hw7; have HN7 := Lib.hid hn7; have HK7 := Lib.hid ((HK5'.out.trans hk6).trans hk7); have HQ7 := Lib.hid (hk7.rest q _ 35 hq6 rfl (by simp)); have HB7 := Lib.hid (Nat.le_trans hB6 hk7.size)
                have HOA := Lib.hid (OpW.keep (d := .hash (freshHop key)) (l := l) HOP5.out (hk6.trans hk7) rfl rfl (by simp)); have HOB := Lib.hid (OpW.keep (d := .skip (freshSop key h9)) (t := t) hop6 hk7 rfl rfl (by simp)); have HO2 := Lib.hid ho2
                have HSB := Lib.hid c6; have HSC := Lib.hid c7
                clear hq6 hk6 hk7 hn7 hw7 hop6 ho2
                refine hK.out _ _ HSB.out (fun hHeld => ?_)
                clear hK K'
                try simp only [Act.put, List.setIfInBounds_toArray, List.set_cons_zero, List.set_cons_succ]
                refine' wpAnyH_take (i := 23) (v := _) (by simp only [List.getElem?_toArray, List.getElem?_cons_succ, List.getElem?_cons_zero]; rfl) (by kernel_rfl) (by kernel_rfl) (by kernel_rfl) (by exact fun _ _ _ h => h) (Or.inl ⟨by rfl, ?_⟩) (by assumption) ?_
                rotate_left 1
                · intro w hSw; (try dsimp only at hSw); go_simp; try with_reducible rfl
                try simp only [Act.put, List.setIfInBounds_toArray, List.set_cons_zero, List.set_cons_succ]
                refine wpAnyH_ready (rs := [5, 24]) (by kernel_rfl) (by simp) ?_
                refine AllReadyH.cons (by simp only [List.getElem?_toArray, List.getElem?_cons_succ, List.getElem?_cons_zero]; rfl) (fun K' hK => ?_) (AllReadyH.cons (by simp only [List.getElem?_toArray, List.getElem?_cons_succ, List.getElem?_cons_zero]; rfl) (fun K' hK => ?_) AllReadyH.nil)
                ·
                  go_simp
                  refine hK.out _ _ HSB.out (fun hHeld => ?_)
                  clear hK K'
                  try simp only [Act.put, List.setIfInBounds_toArray, List.set_cons_zero, List.set_cons_succ]
                  refine wpAnyH_ready (rs := [24]) (by kernel_rfl) (by simp) ?_
                  refine AllReadyH.cons (by simp only [List.getElem?_toArray, List.getElem?_cons_succ, List.getElem?_cons_zero]; rfl) (fun K' hK => ?_) AllReadyH.nil
                  go_simp
                  rw [← HW7.out]
                  refine hK.out _ _ HSC.out (fun hHeld => ?_)
                  clear hK K'
                  try simp only [Act.put, List.setIfInBounds_toArray, List.set_cons_zero, List.set_cons_succ]
                  refine wpAnyH_ready (rs := [25]) (by kernel_rfl) (by simp) ?_
                  refine AllReadyH.cons (by simp only [List.getElem?_toArray, List.getElem?_cons_succ, List.getElem?_cons_zero]; rfl) (fun K' hK => ?_) AllReadyH.nil
                  refine step_many B w6.heap.size 2 34 40 2 16 (.agg #[.pointer none, .pointer none]) (by kernel_rfl) info40 rfl (by decide) (by rfl) _ _ (by rfl) (.slice Av n1 cv) n1 (stepRow (td b)) #[.pointer (some ⟨o1, 0, none⟩), .pointer none, .pointer none, .pointer (some ⟨o2, 0, none⟩)] rfl (by intro u hu; simp at hu; rcases hu with rfl | rfl | rfl <;> rfl) (by rfl) (by rfl) (by rw [HNN.out, ← HVV.out]; exact HK7.out.row (hl.out.row b) rfl (by simp)) HN7.out HB7.out (by omega) (by omega) ?_
                  intro v1 w8 ho8 hb8 hg8 hat8
                  obtain ⟨A1, c1, hv1⟩ := row_slice ho8
                  subst hv1
                  have hgv : w7.grownBy w8 (vs b).ownBlock := by rw [HVV.out, ← HNN.out]; exact hg8
                  have hl8 := Laid.add (m := 2) (b := b) (ns := [(o1, .hash (freshHop key)), (o2, .skip (freshSop key h9))]) hl.out HK7.out HB7.out (two_ops HOA.out HOB.out) (two_fresh (List.mem_of_getElem? HKEY.out) h9) (two_new (by rw [HO1.out]; exact Nat.le_refl _) (Nat.le_trans HK5'.out.size HO2.out)) (two_nd (by have := HS5.out; have := HO2.out; have := HO1.out; simp only; omega)) rfl (by rw [← HNN.out]; exact ho8) hgv (by rw [HVV.out, ← HNN.out]; exact hat8)
                  have hq8 := heap_kept HQ7.out hgv (row_off (HK7.out.row (hl.out.row b) rfl (by simp)) HQ7.out (by decide))
                  have q8 : w8.cell? ⟨q, r, none⟩ = some (.slice Av n1 cv) := box_cells hq8 r _ (by rw [HVS.out, HVV.out, HNN.out])
                  have f8 := froz_all hq8
                  have c8 : w8.cell? (ad.add k) = some (.string (bs key)) := (World.cell?_of_block (hb8.block _ HADB.out)).trans c7
                  rw [HB'.out] at hl8
                  have HSE := Lib.hid (show (w8.setCell ⟨q, r, none⟩ (.slice A1 (n1 + 2) c1)).cell? (ad.add k) = some (.string (bs key)) from (World.cell?_of_block (hl8.2.low _ HADB.out)).trans HCELL.out)
                  have HL8 := Lib.hid hl8; have HSD := Lib.hid c8
                  clear ho8 hb8 hg8 hat8 hgv hl8 hq8
                  refine hK.out _ _ HSD.out (fun hHeld => ?_)
                  clear hK K'
                  try simp only [Act.put, List.setIfInBounds_toArray, List.set_cons_zero, List.set_cons_succ]
                  refine' wpAnyH_take (i := 26) (v := _) (by simp only [List.getElem?_toArray, List.getElem?_cons_succ, List.getElem?_cons_zero]; rfl) (by kernel_rfl) (by kernel_rfl) (by kernel_rfl) (by exact fun _ _ _ h => h) (Or.inl ⟨by rfl, ?_⟩) (by assumption) ?_
                  rotate_left 1
                  · intro w hSw; (try dsimp only at hSw); go_simp; try with_reducible rfl
                  try simp only [Act.put, List.setIfInBounds_toArray, List.set_cons_zero, List.set_cons_succ]
                  refine wpAnyH_ready (rs := [27]) (by kernel_rfl) (by simp) ?_
                  refine AllReadyH.cons (by simp only [List.getElem?_toArray, List.getElem?_cons_succ, List.getElem?_cons_zero]; rfl) (fun K' hK => ?_) AllReadyH.nil
                  go_simp
                  refine hK.out _ _ HSE.out (fun hHeld => ?_)
                  clear hK K'
                  try simp only [Act.put, List.setIfInBounds_toArray, List.set_cons_zero, List.set_cons_succ]
                  refine wpAnyH_done (by kernel_rfl) ?_ _
                  go_wp2_with fail
                  go_meet
                  case rel => exact ⟨_, _, _, Lib.hid HL8.out.1, Lib.hid HL8.out.2⟩
                ·
                  go_simp
                  rw [← HW7.out]
                  refine hK.out _ _ HSC.out (fun hHeld => ?_)
                  clear hK K'
                  try simp only [Act.put, List.setIfInBounds_toArray, List.set_cons_zero, List.set_cons_succ]
                  refine wpAnyH_ready (rs := [5]) (by kernel_rfl) (by simp) ?_
                  refine AllReadyH.cons (by simp only [List.getElem?_toArray, List.getElem?_cons_succ, List.getElem?_cons_zero]; rfl) (fun K' hK => ?_) AllReadyH.nil
                  go_simp
                  refine hK.out _ _ HSC.out (fun hHeld => ?_)
                  clear hK K'
                  try simp only [Act.put, List.setIfInBounds_toArray, List.set_cons_zero, List.set_cons_succ]
                  refine wpAnyH_ready (rs := [25]) (by kernel_rfl) (by simp) ?_
                  refine AllReadyH.cons (by simp only [List.getElem?_toArray, List.getElem?_cons_succ, List.getElem?_cons_zero]; rfl) (fun K' hK => ?_) AllReadyH.nil
                  refine step_many B w6.heap.size 2 34 40 2 16 (.agg #[.pointer none, .pointer none]) (by kernel_rfl) info40 rfl (by decide) (by rfl) _ _ (by rfl) (.slice Av n1 cv) n1 (stepRow (td b)) #[.pointer (some ⟨o1, 0, none⟩), .pointer none, .pointer none, .pointer (some ⟨o2, 0, none⟩)] rfl (by intro u hu; simp at hu; rcases hu with rfl | rfl | rfl <;> rfl) (by rfl) (by rfl) (by rw [HNN.out, ← HVV.out]; exact HK7.out.row (hl.out.row b) rfl (by simp)) HN7.out HB7.out (by omega) (by omega) ?_
                  intro v1 w8 ho8 hb8 hg8 hat8
                  obtain ⟨A1, c1, hv1⟩ := row_slice ho8
                  subst hv1
                  have hgv : w7.grownBy w8 (vs b).ownBlock := by rw [HVV.out, ← HNN.out]; exact hg8
                  have hl8 := Laid.add (m := 2) (b := b) (ns := [(o1, .hash (freshHop key)), (o2, .skip (freshSop key h9))]) hl.out HK7.out HB7.out (two_ops HOA.out HOB.out) (two_fresh (List.mem_of_getElem? HKEY.out) h9) (two_new (by rw [HO1.out]; exact Nat.le_refl _) (Nat.le_trans HK5'.out.size HO2.out)) (two_nd (by have := HS5.out; have := HO2.out; have := HO1.out; simp only; omega)) rfl (by rw [← HNN.out]; exact ho8) hgv (by rw [HVV.out, ← HNN.out]; exact hat8)
                  have hq8 := heap_kept HQ7.out hgv (row_off (HK7.out.row (hl.out.row b) rfl (by simp)) HQ7.out (by decide))
                  have q8 : w8.cell? ⟨q, r, none⟩ = some (.slice Av n1 cv) := box_cells hq8 r _ (by rw [HVS.out, HVV.out, HNN.out])
                  have f8 := froz_all hq8
                  have c8 : w8.cell? (ad.add k) = some (.string (bs key)) := (World.cell?_of_block (hb8.block _ HADB.out)).trans c7
                  rw [HB'.out] at hl8
                  have HSE := Lib.hid (show (w8.setCell ⟨q, r, none⟩ (.slice A1 (n1 + 2) c1)).cell? (ad.add k) = some (.string (bs key)) from (World.cell?_of_block (hl8.2.low _ HADB.out)).trans HCELL.out)
                  have HL8 := Lib.hid hl8; have HSD := Lib.hid c8
                  clear ho8 hb8 hg8 hat8 hgv hl8 hq8
                  refine hK.out _ _ HSD.out (fun hHeld => ?_)
                  clear hK K'
                  try simp only [Act.put, List.setIfInBounds_toArray, List.set_cons_zero, List.set_cons_succ]
                  refine' wpAnyH_take (i := 26) (v := _) (by simp only [List.getElem?_toArray, List.getElem?_cons_succ, List.getElem?_cons_zero]; rfl) (by kernel_rfl) (by kernel_rfl) (by kernel_rfl) (by exact fun _ _ _ h => h) (Or.inl ⟨by rfl, ?_⟩) (by assumption) ?_
                  rotate_left 1
                  · intro w hSw; (try dsimp only at hSw); go_simp; try with_reducible rfl
                  try simp only [Act.put, List.setIfInBounds_toArray, List.set_cons_zero, List.set_cons_succ]
                  refine wpAnyH_ready (rs := [27]) (by kernel_rfl) (by simp) ?_
                  refine AllReadyH.cons (by simp only [List.getElem?_toArray, List.getElem?_cons_succ, List.getElem?_cons_zero]; rfl) (fun K' hK => ?_) AllReadyH.nil
                  go_simp
                  refine hK.out _ _ HSE.out (fun hHeld => ?_)
                  clear hK K'
                  try simp only [Act.put, List.setIfInBounds_toArray, List.set_cons_zero, List.set_cons_succ]
                  refine wpAnyH_done (by kernel_rfl) ?_ _
                  go_wp2_with fail
                  go_meet
                  case rel => exact ⟨_, _, _, Lib.hid HL8.out.1, Lib.hid HL8.out.2⟩
          case rest =>
            obtain ⟨wx, hwx⟩ : ∃ wx, wx = wc := ⟨_, rfl⟩
            subst hwx
            obtain ⟨p1, p2, vs', hl', hk'⟩ := hcut
            obtain ⟨td', htd⟩ : ∃ td', td' = setW td b (td b ++ [(p1, .hash (freshHop key)), (p2, .skip (freshSop key h9))]) := ⟨_, rfl⟩
            rw [← htd] at hl'
            have etd : td' (!b) = td (!b) := by rw [htd, setW_not]
            have hB2r : B ≤ wx.heap.size := Nat.le_trans hBr hk'.out.size
            have hcell' : wx.cell? (ad.add k) = some (.string (bs key)) := (World.cell?_of_block (hk'.out.low _ HADB.out)).trans hcell
            have xq' := box_cells hl'.out.blk s _ (HVT.out vs')
            obtain ⟨Aw, cw, hvw⟩ := row_slice (hl'.out.row (!b))
            have hn2 : (td' (!b)).length ≤ 200 := by rw [etd]; have := hlen.out; cases b <;> simp only [Bool.not_true, Bool.not_false] <;> omega
            obtain ⟨n2, hnn⟩ : ∃ n, n = (td' (!b)).length := ⟨_, rfl⟩
            rw [hvw, ← hnn] at xq'
            rw [← hnn] at hn2
            have HTD := Lib.hid htd; have HVW := Lib.hid hvw; have HNW := Lib.hid hnn
            clear htd etd hvw hnn hcell xq
            have HC9 := Lib.hid (sinsert_one (B := B) (l := l) key (k : Int) wx hB2r hkel)
            go_upto_region 15 with fail
            have HCELL := Lib.hid hcell'
            have HS0 := Lib.hid (show wx.drew.cell? (ad.add k) = some (.string (bs key)) from hcell')
            refine wp_region_held_drew (S := fun W => W.cell? (ad.add k) = some (.string (bs key))) (by kernel_rfl) HS0.out (fun hHeld => ?_)
            simp only [List.size_toArray, List.length_cons, List.length_nil, Nat.reduceAdd]
            refine' wpAnyH_take (i := 0) (v := _) (by simp only [List.getElem?_toArray, List.getElem?_cons_zero]; rfl) (by kernel_rfl) (by kernel_rfl) (by kernel_rfl) (by exact fun _ _ _ h => h) (Or.inl ⟨by rfl, ?_⟩) (by assumption) ?_
            rotate_left 1
            · intro w hSw; (try dsimp only at hSw); go_simp; try with_reducible rfl
            try simp only [Act.put, List.setIfInBounds_toArray, List.set_cons_zero, List.set_cons_succ]
            refine' wpAnyH_take (i := 1) (v := _) (by simp only [List.getElem?_toArray, List.getElem?_cons_succ, List.getElem?_cons_zero]; rfl) (by kernel_rfl) (by kernel_rfl) (by kernel_rfl) (by exact fun _ _ _ h => h) (Or.inl ⟨by rfl, ?_⟩) (by assumption) ?_
            rotate_left 1
            · intro w hSw; (try dsimp only at hSw); go_simp; try with_reducible rfl
            try simp only [Act.put, List.setIfInBounds_toArray, List.set_cons_zero, List.set_cons_succ]
            refine' wpAnyH_take (i := 2) (v := _) (by simp only [List.getElem?_toArray, List.getElem?_cons_succ, List.getElem?_cons_zero]; rfl) (by kernel_rfl) (by kernel_rfl) (by kernel_rfl) (by exact fun _ _ _ h => h) (Or.inl ⟨by rfl, ?_⟩) (by assumption) ?_
            rotate_left 1
            · intro w hSw; (try dsimp only at hSw); go_simp; try with_reducible rfl
            try simp only [Act.put, List.setIfInBounds_toArray, List.set_cons_zero, List.set_cons_succ]
            refine' wpAnyH_take (i := 3) (v := _) (by simp only [List.getElem?_toArray, List.getElem?_cons_succ, List.getElem?_cons_zero]; rfl) (by kernel_rfl) (by kernel_rfl) (by kernel_rfl) (by exact fun _ _ _ h => h) (Or.inl ⟨by rfl, ?_⟩) (by assumption) ?_
            rotate_left 1
            · intro w hSw; (try dsimp only at hSw); go_simp; try with_reducible rfl
            try simp only [Act.put, List.setIfInBounds_toArray, List.set_cons_zero, List.set_cons_succ]
            refine' wpAnyH_take (i := 4) (v := _) (by simp only [List.getElem?_toArray, List.getElem?_cons_succ, List.getElem?_cons_zero]; rfl) (by kernel_rfl) (by kernel_rfl) (by kernel_rfl) (by exact fun _ _ _ h => h) (Or.inl ⟨by rfl, ?_⟩) (by assumption) ?_
            rotate_left 1
            · intro w hSw; (try dsimp only at hSw); go_simp; try with_reducible rfl
            try simp only [Act.put, List.setIfInBounds_toArray, List.set_cons_zero, List.set_cons_succ]
            refine' wpAnyH_take (i := 5) (v := _) (by simp only [List.getElem?_toArray, List.getElem?_cons_succ, List.getElem?_cons_zero]; rfl) (by kernel_rfl) (by kernel_rfl) (by kernel_rfl) (by exact fun _ _ _ h => h) (Or.inl ⟨by rfl, ?_⟩) (by assumption) ?_
            rotate_left 1
            · intro w hSw; (try dsimp only at hSw); go_simp; try with_reducible rfl
            try simp only [Act.put, List.setIfInBounds_toArray, List.set_cons_zero, List.set_cons_succ]
            refine' wpAnyH_take (i := 6) (v := _) (by simp only [List.getElem?_toArray, List.getElem?_cons_succ, List.getElem?_cons_zero]; rfl) (by kernel_rfl) (by kernel_rfl) (by kernel_rfl) (by exact fun _ _ _ h => h) (Or.inl ⟨by rfl, ?_⟩) (by assumption) ?_
            rotate_left 1
            · intro w hSw; (try dsimp only at hSw); go_simp; try with_reducible rfl
            try simp only [Act.put, List.setIfInBounds_toArray, List.set_cons_zero, List.set_cons_succ]
            refine' wpAnyH_take (i := 8) (v := _) (by simp only [List.getElem?_toArray, List.getElem?_cons_succ, List.getElem?_cons_zero]; rfl) (by kernel_rfl) (by kernel_rfl) (by kernel_rfl) (by exact fun _ _ _ h => h) (Or.inl ⟨by rfl, ?_⟩) (by assumption) ?_
            rotate_left 1
            · intro w hSw; (try dsimp only at hSw); go_simp; try with_reducible rfl
            try simp only [Act.put, List.setIfInBounds_toArray, List.set_cons_zero, List.set_cons_succ]
            refine' wpAnyH_take (i := 9) (v := _) (by simp only [List.getElem?_toArray, List.getElem?_cons_succ, List.getElem?_cons_zero]; rfl) (by kernel_rfl) (by kernel_rfl) (by kernel_rfl) (by exact fun _ _ _ h => h) (Or.inl ⟨by rfl, ?_⟩) (by assumption) ?_
            rotate_left 1
            · intro w hSw; (try dsimp only at hSw); go_simp; try with_reducible rfl
            try simp only [Act.put, List.setIfInBounds_toArray, List.set_cons_zero, List.set_cons_succ]
            refine' wpAnyH_take (i := 10) (v := _) (by simp only [List.getElem?_toArray, List.getElem?_cons_succ, List.getElem?_cons_zero]; rfl) (by kernel_rfl) (by kernel_rfl) (by kernel_rfl) (by exact fun _ _ _ h => h) (Or.inl ⟨by rfl, ?_⟩) (by assumption) ?_
            rotate_left 1
            · intro w hSw; (try dsimp only at hSw); go_simp; try with_reducible rfl
            try simp only [Act.put, List.setIfInBounds_toArray, List.set_cons_zero, List.set_cons_succ]
            refine' wpAnyH_take (i := 11) (v := _) (by simp only [List.getElem?_toArray, List.getElem?_cons_succ, List.getElem?_cons_zero]; rfl) (by kernel_rfl) (by kernel_rfl) (by kernel_rfl) (by exact fun _ _ _ h => h) (Or.inl ⟨by rfl, ?_⟩) (by assumption) ?_
            rotate_left 1
            · intro w hSw; (try dsimp only at hSw); go_simp; try with_reducible rfl
            try simp only [Act.put, List.setIfInBounds_toArray, List.set_cons_zero, List.set_cons_succ]
            refine' wpAnyH_take (i := 12) (v := _) (by simp only [List.getElem?_toArray, List.getElem?_cons_succ, List.getElem?_cons_zero]; rfl) (by kernel_rfl) (by kernel_rfl) (by kernel_rfl) (by exact fun _ _ _ h => h) (Or.inl ⟨by rfl, ?_⟩) (by assumption) ?_
            rotate_left 1
            · intro w hSw; (try dsimp only at hSw); go_simp; try with_reducible rfl
            try simp only [Act.put, List.setIfInBounds_toArray, List.set_cons_zero, List.set_cons_succ]
            refine' wpAnyH_take (i := 13) (v := _) (by simp only [List.getElem?_toArray, List.getElem?_cons_succ, List.getElem?_cons_zero]; rfl) (by kernel_rfl) (by kernel_rfl) (by kernel_rfl) (by exact fun _ _ _ h => h) (Or.inl ⟨by rfl, ?_⟩) (by assumption) ?_
            rotate_left 1
            · intro w hSw; (try dsimp only at hSw); go_simp; try with_reducible rfl
            try simp only [Act.put, List.setIfInBounds_toArray, List.set_cons_zero, List.set_cons_succ]
            refine wpAnyH_ready (rs := [7, 14]) (by kernel_rfl) (by simp) ?_
            refine AllReadyH.cons (by simp only [List.getElem?_toArray, List.getElem?_cons_succ, List.getElem?_cons_zero]; rfl) (fun K' hK => ?_) (AllReadyH.cons (by simp only [List.getElem?_toArray, List.getElem?_cons_succ, List.getElem?_cons_zero]; rfl) (fun K' hK => ?_) AllReadyH.nil)
            ·
              go_simp
              refine hK.out _ _ HS0.out (fun hHeld => ?_)
              clear hK K'
              try simp only [Act.put, List.setIfInBounds_toArray, List.set_cons_zero, List.set_cons_succ]
              refine wpAnyH_ready (rs := [14]) (by kernel_rfl) (by simp) ?_
              refine AllReadyH.cons (by simp only [List.getElem?_toArray, List.getElem?_cons_succ, List.getElem?_cons_zero]; rfl) (fun K' hK => ?_) AllReadyH.nil
              go_simp
              refine HC9.out.mono ?_
              rintro e w6 ⟨o3, rfl, ho2, hop6, hk6⟩
              have hB6 := Nat.le_trans hB2r hk6.size
              have hq6 := hk6.rest q _ 35 hl'.out.blk rfl (by simp)
              have q6 : w6.cell? ⟨q, s, none⟩ = some (.slice Aw n2 cw) := box_cells hq6 s _ (by rw [HVT.out, HVW.out, HNW.out])
              have c6 : w6.cell? (ad.add k) = some (.string (bs key)) := (World.cell?_of_block (hk6.low _ HADB.out)).trans HCELL.out
              obtain ⟨w7, hw7⟩ : ∃ w7, w7 = w6.alloc (.cells #[.pointer none, .pointer (some ⟨o3, 0, none⟩)] 40) := ⟨_, rfl⟩
              have hk7 : Keep B [] none w6 w7 := by rw [hw7]; exact Keep.of_alloc w6 _ hB6
              have hn7 : w7.heap[w6.heap.size]? = some (.cells #[.pointer none, .pointer (some ⟨o3, 0, none⟩)] 40 (0, 0)) := by rw [hw7]; exact heap_alloc_new w6 _
              have q7 : w7.cell? ⟨q, s, none⟩ = some (.slice Aw n2 cw) := box_cells (hk7.rest q _ 35 hq6 rfl (by simp)) s _ (by rw [HVT.out, HVW.out, HNW.out])
              have c7 : w7.cell? (ad.add k) = some (.string (bs key)) := (World.cell?_of_block (hk7.low _ HADB.out)).trans c6
              have HW7 := Lib.hid hw7; have HN7 := Lib.hid hn7; have HK7 := Lib.hid (hk6.trans hk7); have HQ7 := Lib.hid (hk7.rest q _ 35 hq6 rfl (by simp)); have HB7 := Lib.hid (Nat.le_trans hB6 hk7.size)
              have HOB := Lib.hid (OpW.keep (d := .skip (freshSop key 1)) (t := t) hop6 hk7 rfl rfl (by simp)); have HO2 := Lib.hid ho2
              have HSB := Lib.hid c6; have HSC := Lib.hid c7
              clear hq6 hk6 hk7 hn7 hw7 hop6 ho2
              refine hK.out _ _ HSB.out (fun hHeld => ?_)
              clear hK K'
              try simp only [Act.put, List.setIfInBounds_toArray, List.set_cons_zero, List.set_cons_succ]
              refine' wpAnyH_take (i := 15) (v := _) (by simp only [List.getElem?_toArray, List.getElem?_cons_succ, List.getElem?_cons_zero]; rfl) (by kernel_rfl) (by kernel_rfl) (by kernel_rfl) (by exact fun _ _ _ h => h) (Or.inl ⟨by rfl, ?_⟩) (by assumption) ?_
              rotate_left 1
              · intro w hSw; (try dsimp only at hSw); go_simp; try with_reducible rfl
              try simp only [Act.put, List.setIfInBounds_toArray, List.set_cons_zero, List.set_cons_succ]
              refine wpAnyH_ready (rs := [16]) (by kernel_rfl) (by simp) ?_
              refine AllReadyH.cons (by simp only [List.getElem?_toArray, List.getElem?_cons_succ, List.getElem?_cons_zero]; rfl) (fun K' hK => ?_) AllReadyH.nil
              go_simp
              rw [← HW7.out]
              refine hK.out _ _ HSC.out (fun hHeld => ?_)
              clear hK K'
              try simp only [Act.put, List.setIfInBounds_toArray, List.set_cons_zero, List.set_cons_succ]
              refine wpAnyH_ready (rs := [17]) (by kernel_rfl) (by simp) ?_
              refine AllReadyH.cons (by simp only [List.getElem?_toArray, List.getElem?_cons_succ, List.getElem?_cons_zero]; rfl) (fun K' hK => ?_) AllReadyH.nil
              refine step_many B w6.heap.size 1 34 40 2 16 (.agg #[.pointer none, .pointer none]) (by kernel_rfl) info40 rfl (by decide) (by rfl) _ _ (by rfl) (.slice Aw n2 cw) n2 (stepRow (td' (!b))) #[.pointer none, .pointer (some ⟨o3, 0, none⟩)] rfl (by intro u hu; simp at hu; rcases hu with rfl | rfl <;> rfl) (by rfl) (by rfl) (by rw [HNW.out, ← HVW.out]; exact HK7.out.row (hl'.out.row (!b)) rfl (by simp)) HN7.out HB7.out (by omega) (by omega) ?_
              intro v1 w8 ho8 hb8 hg8 hat8
              obtain ⟨A1, c1, hv1⟩ := row_slice ho8
              subst hv1
              have hgv : w7.grownBy w8 (vs' (!b)).ownBlock := by rw [HVW.out, ← HNW.out]; exact hg8
              have hl8 := Laid.add (m := 1) (b := !b) (ns := [(o3, .skip (freshSop key 1))]) hl'.out HK7.out HB7.out (two_one (P := fun z => OpW w7 B t l z.1 z.2) HOB.out) (two_one (P := fun z => Fresh K z.2) (show Fresh K (.skip (freshSop key 1)) from ⟨List.mem_of_getElem? HKEY.out, 1, rfl⟩)) (two_one (P := fun z => wx.heap.size ≤ z.1) HO2.out) (by simp) rfl (by rw [← HNW.out]; exact ho8) hgv (by rw [HVW.out, ← HNW.out]; exact hat8)
              have hq8 := heap_kept HQ7.out hgv (row_off (HK7.out.row (hl'.out.row (!b)) rfl (by simp)) HQ7.out (by decide))
              have q8 : w8.cell? ⟨q, s, none⟩ = some (.slice Aw n2 cw) := box_cells hq8 s _ (by rw [HVT.out, HVW.out, HNW.out])
              have f8 := froz_all hq8
              have c8 : w8.cell? (ad.add k) = some (.string (bs key)) := (World.cell?_of_block (hb8.block _ HADB.out)).trans c7
              rw [HBN.out] at hl8
              have HSE := Lib.hid (show (w8.setCell ⟨q, s, none⟩ (.slice A1 (n2 + 1) c1)).cell? (ad.add k) = some (.string (bs key)) from (World.cell?_of_block (hl8.2.low _ HADB.out)).trans HCELL.out)
              have HL8 := Lib.hid hl8; have HSD := Lib.hid c8
              clear ho8 hb8 hg8 hat8 hgv hl8 hq8
              refine hK.out _ _ HSD.out (fun hHeld => ?_)
              clear hK K'
              try simp only [Act.put, List.setIfInBounds_toArray, List.set_cons_zero, List.set_cons_succ]
              refine' wpAnyH_take (i := 18) (v := _) (by simp only [List.getElem?_toArray, List.getElem?_cons_succ, List.getElem?_cons_zero]; rfl) (by kernel_rfl) (by kernel_rfl) (by kernel_rfl) (by exact fun _ _ _ h => h) (Or.inl ⟨by rfl, ?_⟩) (by assumption) ?_
              rotate_left 1
              · intro w hSw; (try dsimp only at hSw); go_simp; try with_reducible rfl
              try simp only [Act.put, List.setIfInBounds_toArray, List.set_cons_zero, List.set_cons_succ]
              refine wpAnyH_ready (rs := [19]) (by kernel_rfl) (by simp) ?_
              refine AllReadyH.cons (by simp only [List.getElem?_toArray, List.getElem?_cons_succ, List.getElem?_cons_zero]; rfl) (fun K' hK => ?_) AllReadyH.nil
              go_simp
              refine hK.out _ _ HSE.out (fun hHeld => ?_)
              clear hK K'
              try simp only [Act.put, List.setIfInBounds_toArray, List.set_cons_zero, List.set_cons_succ]
              refine wpAnyH_done (by kernel_rfl) ?_ _
              have hl2 := HL8.out.1
              rw [HTD.out] at hl2
              have hk3 := (HK5.out.trans hk'.out).trans HL8.out.2
              go_wp2_with fail
              go_roundw
              case rel => exact ⟨k + 1, _, _, hlt, by simp, Lib.hid hl2, Lib.hid (hall.out.next HKEY.out), Lib.hid (td_len hlen.out), hk3⟩
              case measure => simp [intOf]; omega
            ·
              go_simp
              refine HC9.out.mono ?_
              rintro e w6 ⟨o3, rfl, ho2, hop6, hk6⟩
              have hB6 := Nat.le_trans hB2r hk6.size
              have hq6 := hk6.rest q _ 35 hl'.out.blk rfl (by simp)
              have q6 : w6.cell? ⟨q, s, none⟩ = some (.slice Aw n2 cw) := box_cells hq6 s _ (by rw [HVT.out, HVW.out, HNW.out])
              have c6 : w6.cell? (ad.add k) = some (.string (bs key)) := (World.cell?_of_block (hk6.low _ HADB.out)).trans HCELL.out
              obtain ⟨w7, hw7⟩ : ∃ w7, w7 = w6.alloc (.cells #[.pointer none, .pointer (some ⟨o3, 0, none⟩)] 40) := ⟨_, rfl⟩
              have hk7 : Keep B [] none w6 w7 := by rw [hw7]; exact Keep.of_alloc w6 _ hB6
              have hn7 : w7.heap[w6.heap.size]? = some (.cells #[.pointer none, .pointer (some ⟨o3, 0, none⟩)] 40 (0, 0)) := by rw [hw7]; exact heap_alloc_new w6 _
              have q7 : w7.cell? ⟨q, s, none⟩ = some (.slice Aw n2 cw) := box_cells (hk7.rest q _ 35 hq6 rfl (by simp)) s _ (by rw [HVT.out, HVW.out, HNW.out])
              have c7 : w7.cell? (ad.add k) = some (.string (bs key)) := (World.cell?_of_block (hk7.low _ HADB.out)).trans c6
              have HW7 := Lib.hid hw7; have HN7 := Lib.hid hn7; have HK7 := Lib.hid (hk6.trans hk7); have HQ7 := Lib.hid (hk7.rest q _ 35 hq6 rfl (by simp)); have HB7 := Lib.hid (Nat.le_trans hB6 hk7.size)
              have HOB := Lib.hid (OpW.keep (d := .skip (freshSop key 1)) (t := t) hop6 hk7 rfl rfl (by simp)); have HO2 := Lib.hid ho2
              have HSB := Lib.hid c6; have HSC := Lib.hid c7
              clear hq6 hk6 hk7 hn7 hw7 hop6 ho2
              refine hK.out _ _ HSB.out (fun hHeld => ?_)
              clear hK K'
              try simp only [Act.put, List.setIfInBounds_toArray, List.set_cons_zero, List.set_cons_succ]
              refine' wpAnyH_take (i := 15) (v := _) (by simp only [List.getElem?_toArray, List.getElem?_cons_succ, List.getElem?_cons_zero]; rfl) (by kernel_rfl) (by kernel_rfl) (by kernel_rfl) (by exact fun _ _ _ h => h) (Or.inl ⟨by rfl, ?_⟩) (by assumption) ?_
              rotate_left 1
              · intro w hSw; (try dsimp only at hSw); go_simp; try with_reducible rfl
              try simp only [Act.put, List.setIfInBounds_toArray, List.set_cons_zero, List.set_cons_succ]
              refine wpAnyH_ready (rs := [7, 16]) (by kernel_rfl) (by simp) ?_
              refine AllReadyH.cons (by simp only [List.getElem?_toArray, List.getElem?_cons_succ, List.getElem?_cons_zero]; rfl) (fun K' hK => ?_) (AllReadyH.cons (by simp only [List.getElem?_toArray, List.getElem?_cons_succ, List.getElem?_cons_zero]; rfl) (fun K' hK => ?_) AllReadyH.nil)
              ·
                go_simp
                refine hK.out _ _ HSB.out (fun hHeld => ?_)
                clear hK K'
                try simp only [Act.put, List.setIfInBounds_toArray, List.set_cons_zero, List.set_cons_succ]
                refine wpAnyH_ready (rs := [16]) (by kernel_rfl) (by simp) ?_
                refine AllReadyH.cons (by simp only [List.getElem?_toArray, List.getElem?_cons_succ, List.getElem?_cons_zero]; rfl) (fun K' hK => ?_) AllReadyH.nil
                go_simp
                rw [← HW7.out]
                refine hK.out _ _ HSC.out (fun hHeld => ?_)
                clear hK K'
                try simp only [Act.put, List.setIfInBounds_toArray, List.set_cons_zero, List.set_cons_succ]
                refine wpAnyH_ready (rs := [17]) (by kernel_rfl) (by simp) ?_
                refine AllReadyH.cons (by simp only [List.getElem?_toArray, List.getElem?_cons_succ, List.getElem?_cons_zero]; rfl) (fun K' hK => ?_) AllReadyH.nil
                refine step_many B w6.heap.size 1 34 40 2 16 (.agg #[.pointer none, .pointer none]) (by kernel_rfl) info40 rfl (by decide) (by rfl) _ _ (by rfl) (.slice Aw n2 cw) n2 (stepRow (td' (!b))) #[.pointer none, .pointer (some ⟨o3, 0, none⟩)] rfl (by intro u hu; simp at hu; rcases hu with rfl | rfl <;> rfl) (by rfl) (by rfl) (by rw [HNW.out, ← HVW.out]; exact HK7.out.row (hl'.out.row (!b)) rfl (by simp)) HN7.out HB7.out (by omega) (by omega) ?_
                intro v1 w8 ho8 hb8 hg8 hat8
                obtain ⟨A1, c1, hv1⟩ := row_slice ho8
                subst hv1
                have hgv : w7.grownBy w8 (vs' (!b)).ownBlock := by rw [HVW.out, ← HNW.out]; exact hg8
                have hl8 := Laid.add (m := 1) (b := !b) (ns := [(o3, .skip (freshSop key 1))]) hl'.out HK7.out HB7.out (two_one (P := fun z => OpW w7 B t l z.1 z.2) HOB.out) (two_one (P := fun z => Fresh K z.2) (show Fresh K (.skip (freshSop key 1)) from ⟨List.mem_of_getElem? HKEY.out, 1, rfl⟩)) (two_one (P := fun z => wx.heap.size ≤ z.1) HO2.out) (by simp) rfl (by rw [← HNW.out]; exact ho8) hgv (by rw [HVW.out, ← HNW.out]; exact hat8)
                have hq8 := heap_kept HQ7.out hgv (row_off (HK7.out.row (hl'.out.row (!b)) rfl (by simp)) HQ7.out (by decide))
                have q8 : w8.cell? ⟨q, s, none⟩ = some (.slice Aw n2 cw) := box_cells hq8 s _ (by rw [HVT.out, HVW.out, HNW.out])
                have f8 := froz_all hq8
                have c8 : w8.cell? (ad.add k) = some (.string (bs key)) := (World.cell?_of_block (hb8.block _ HADB.out)).trans c7
                rw [HBN.out] at hl8
                have HSE := Lib.hid (show (w8.setCell ⟨q, s, none⟩ (.slice A1 (n2 + 1) c1)).cell? (ad.add k) = some (.string (bs key)) from (World.cell?_of_block (hl8.2.low _ HADB.out)).trans HCELL.out)
                have HL8 := Lib.hid hl8; have HSD := Lib.hid c8
                clear ho8 hb8 hg8 hat8 hgv hl8 hq8
                refine hK.out _ _ HSD.out (fun hHeld => ?_)
                clear hK K'
                try simp only [Act.put, List.setIfInBounds_toArray, List.set_cons_zero, List.set_cons_succ]
                refine' wpAnyH_take (i := 18) (v := _) (by simp only [List.getElem?_toArray, List.getElem?_cons_succ, List.getElem?_cons_zero]; rfl) (by kernel_rfl) (by kernel_rfl) (by kernel_rfl) (by exact fun _ _ _ h => h) (Or.inl ⟨by rfl, ?_⟩) (by assumption) ?_
                rotate_left 1
                · intro w hSw; (try dsimp only at hSw); go_simp; try with_reducible rfl
                try simp only [Act.put, List.setIfInBounds_toArray, List.set_cons_zero, List.set_cons_succ]
                refine wpAnyH_ready (rs := [19]) (by kernel_rfl) (by simp) ?_
                refine AllReadyH.cons (by simp only [List.getElem?_toArray, List.getElem?_cons_succ, List.getElem?_cons_zero]; rfl) (fun K' hK => ?_) AllReadyH.nil
                go_simp
                refine hK.out _ _ HSE.out (fun hHeld => ?_)
                clear hK K'
                try simp only [Act.put, List.setIfInBounds_toArray, List.set_cons_zero, List.set_cons_succ]
                refine wpAnyH_done (by kernel_rfl) ?_ _
                have hl2 := HL8.out.1
                rw [HTD.out] at hl2
                have hk3 := (HK5.out.trans hk'.out).trans HL8.out.2
                go_wp2_with fail
                go_roundw
                case rel => exact ⟨k + 1, _, _, hlt, by simp, Lib.hid hl2, Lib.hid (hall.out.next HKEY.out), Lib.hid (td_len hlen.out), hk3⟩
                case measure => simp [intOf]; omega
              ·
                go_simp
                rw [← HW7.out]
                refine hK.out _ _ HSC.out (fun hHeld => ?_)
                clear hK K'
                try simp only [Act.put, List.setIfInBounds_toArray, List.set_cons_zero, List.set_cons_succ]
                refine wpAnyH_ready (rs := [7]) (by kernel_rfl) (by simp) ?_
                refine AllReadyH.cons (by simp only [List.getElem?_toArray, List.getElem?_cons_succ, List.getElem?_cons_zero]; rfl) (fun K' hK => ?_) AllReadyH.nil
                go_simp
                refine hK.out _ _ HSC.out (fun hHeld => ?_)
                clear hK K'
                try simp only [Act.put, List.setIfInBounds_toArray, List.set_cons_zero, List.set_cons_succ]
                refine wpAnyH_ready (rs := [17]) (by kernel_rfl) (by simp) ?_
                refine AllReadyH.cons (by simp only [List.getElem?_toArray, List.getElem?_cons_succ, List.getElem?_cons_zero]; rfl) (fun K' hK => ?_) AllReadyH.nil
                refine step_many B w6.heap.size 1 34 40 2 16 (.agg #[.pointer none, .pointer none]) (by kernel_rfl) info40 rfl (by decide) (by rfl) _ _ (by rfl) (.slice Aw n2 cw) n2 (stepRow (td' (!b))) #[.pointer none, .pointer (some ⟨o3, 0, none⟩)] rfl (by intro u hu; simp at hu; rcases hu with rfl | rfl <;> rfl) (by rfl) (by rfl) (by rw [HNW.out, ← HVW.out]; exact HK7.out.row (hl'.out.row (!b)) rfl (by simp)) HN7.out HB7.out (by omega) (by omega) ?_
                intro v1 w8 ho8 hb8 hg8 hat8
                obtain ⟨A1, c1, hv1⟩ := row_slice ho8
                subst hv1
                have hgv : w7.grownBy w8 (vs' (!b)).ownBlock := by rw [HVW.out, ← HNW.out]; exact hg8
                have hl8 := Laid.add (m := 1) (b := !b) (ns := [(o3, .skip (freshSop key 1))]) hl'.out HK7.out HB7.out (two_one (P := fun z => OpW w7 B t l z.1 z.2) HOB.out) (two_one (P := fun z => Fresh K z.2) (show Fresh K (.skip (freshSop key 1)) from ⟨List.mem_of_getElem? HKEY.out, 1, rfl⟩)) (two_one (P := fun z => wx.heap.size ≤ z.1) HO2.out) (by simp) rfl (by rw [← HNW.out]; exact ho8) hgv (by rw [HVW.out, ← HNW.out]; exact hat8)
                have hq8 := heap_kept HQ7.out hgv (row_off (HK7.out.row (hl'.out.row (!b)) rfl (by simp)) HQ7.out (by decide))
                have q8 : w8.cell? ⟨q, s, none⟩ = some (.slice Aw n2 cw) := box_cells hq8 s _ (by rw [HVT.out, HVW.out, HNW.out])
                have f8 := froz_all hq8
                have c8 : w8.cell? (ad.add k) = some (.string (bs key)) := (World.cell?_of_block (hb8.block _ HADB.out)).trans c7
                rw [HBN.out] at hl8
                have HSE := Lib.hid (show (w8.setCell ⟨q, s, none⟩ (.slice A1 (n2 + 1) c1)).cell? (ad.add k) = some (.string (bs key)) from (World.cell?_of_block (hl8.2.low _ HADB.out)).trans HCELL.out)
                have HL8 := Lib.hid hl8; have HSD := Lib.hid c8
                clear ho8 hb8 hg8 hat8 hgv hl8 hq8
                refine hK.out _ _ HSD.out (fun hHeld => ?_)
                clear hK K'
                try simp only [Act.put, List.setIfInBounds_toArray, List.set_cons_zero, List.set_cons_succ]
                refine' wpAnyH_take (i := 18) (v := _) (by simp only [List.getElem?_toArray, List.getElem?_cons_succ, List.getElem?_cons_zero]; rfl) (by kernel_rfl) (by kernel_rfl) (by kernel_rfl) (by exact fun _ _ _ h => h) (Or.inl ⟨by rfl, ?_⟩) (by assumption) ?_
                rotate_left 1
                · intro w hSw; (try dsimp only at hSw); go_simp; try with_reducible rfl
                try simp only [Act.put, List.setIfInBounds_toArray, List.set_cons_zero, List.set_cons_succ]
                refine wpAnyH_ready (rs := [19]) (by kernel_rfl) (by simp) ?_
                refine AllReadyH.cons (by simp only [List.getElem?_toArray, List.getElem?_cons_succ, List.getElem?_cons_zero]; rfl) (fun K' hK => ?_) AllReadyH.nil
                go_simp
                refine hK.out _ _ HSE.out (fun hHeld => ?_)
                clear hK K'
                try simp only [Act.put, List.setIfInBounds_toArray, List.set_cons_zero, List.set_cons_succ]
                refine wpAnyH_done (by kernel_rfl) ?_ _
                have hl2 := HL8.out.1
                rw [HTD.out] at hl2
                have hk3 := (HK5.out.trans hk'.out).trans HL8.out.2
                go_wp2_with fail
                go_roundw
                case rel => exact ⟨k + 1, _, _, hlt, by simp, Lib.hid hl2, Lib.hid (hall.out.next HKEY.out), Lib.hid (td_len hlen.out), hk3⟩
                case measure => simp [intOf]; omega
        · obtain rfl : k = K.length := by omega
          have hBr : B ≤ wr.heap.size := Nat.le_trans hB4 HK5.out.size
          have HBE := Lib.hid (show Below B wc wr from ((((HK1.out.mono rfl).trans (HKA.out.mono rfl)).trans (HK5.out.mono rfl) : Keep B [51, 48, 3, 61, 62, 35, 40] none wc wr)).below)
          have HM5 := Lib.hid (HM4.out.keep HK5.out rfl (by simp))
          have hhd1 : 0 < hd.length := by rw [HDL.out]; omega
          have hhd2 : hd.length ≤ 256 := by rw [HDL.out]; omega
          have HLL := Lib.hid (show L2.length = hd.length + 8 by rw [HL2.out, HDL.out])
          go_upto_region 16 with fail
          exact tail16 A P K ck np cp B t l q hd H2 L2 cs td vs g0 wc wr _ _ _ _ _ _ _ _ _ _ _ _ _ _ _ _ _ _ _ _ _ _ _ _ _ _ _ _ _ _ _ _ _ _ _ _ _ _ _ _ _ _ _ _ _ _ _ _ _ _ _ _ _ _ _ _ _ _ _ _ _ _ _ _ _ _ _ _ _ _ _ _ _ _ _ _ _ _ _ _ _ _ _ _ _ _ _ _ _ _ _ _ _ _ _ _ _ _ _ _ _ _ _ _ _ _ _ _ _ _ _ _ _ _ _ _ _ _ _ _ _ _ _ _ _ _ _ _ _ _ _ _ _ _ _ _ _ _ _ _ _ _ _ _ _ _ _ _ _ _ _ _ _ _ _ _ _ _ _ _ _ _ _ _ _ _ _ _ _ _ _ _ _ _ _ _ _ _ _ _ _ _ _ _ _ _ _ _ _ _ _ _ _ _ _ _ _ _ _ _ _ _ _ _ _ _ _ _ _ _ _ _ _ _ _ _ _ _ _ _ _ _ _ _ _ _ _ _ _ _ _ _ _ _ _ _ _ hl.out hall.out hlen.out HM5.out HG0.out HLL.out HBE.out hBr HKR.out HPR.out hnp hKl HKL.out HZ.out hB hhd1 hhd2 _ (by assumption)
end Go.Proofs.YtfolchpjccjadaaDoor
