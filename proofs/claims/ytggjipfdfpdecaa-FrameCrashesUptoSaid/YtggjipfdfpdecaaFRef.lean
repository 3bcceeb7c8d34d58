/- The walks of varveref04's Frame and Put: the document's frame. -/
import Derived.Test.YtggjipfdfpdecaaFrA
import Derived.Test.YtggjipfdfpdecaaWhole
import Derived.Test.YtggjipfdfpdecaaNumC
import Derived.StillTailTactics
namespace Go.Proofs.Ytggjipfdfpdecaa
open Go.RowKit

/-- The first j blocks. -/
def outJ (P : List UInt8) (j : Nat) : List UInt8 := (lay 0 (P.take (31 * j))).set 0 0xA1

theorem outJ_next (P : List UInt8) (j m : Nat) (hm : P.length = 31 * m) (hj : j < m) : outJ P (j + 1) = outJ P j ++ (if j = 0 then 0xA1 else 0xB2) :: (P.drop (31 * j)).take 31 := by
  have h1 : ((P.drop (31 * j)).take 31).length = 31 := by rw [List.length_take, List.length_drop]; omega
  have h2 : (P.take (31 * j)).length = 31 * j := by rw [List.length_take]; omega
  have e : P.take (31 * (j + 1)) = P.take (31 * j) ++ (P.drop (31 * j)).take 31 := by rw [Nat.mul_add, Nat.mul_one, List.take_add]
  unfold outJ
  have h3 : lay (0 + (P.take (31 * j)).length) ((P.drop (31 * j)).take 31) = 0xB2 :: (P.drop (31 * j)).take 31 := lay_block _ _ (by omega) (by omega) (by omega)
  rw [e, lay_append, h3]
  by_cases h0 : j = 0
  · subst h0
    simp [lay]
  · rw [if_neg h0, List.set_append_left _ _ (by rw [lay_len j _ h2]; omega)]

theorem outJ_len (P : List UInt8) (j m : Nat) (hm : P.length = 31 * m) (hj : j ≤ m) : (outJ P j).length = 32 * j := by
  unfold outJ
  rw [List.length_set, lay_len j _ (by rw [List.length_take]; omega)]

theorem chunk_pad (s : List UInt8) (n j : Nat) (hs : s.length = 20 + n) (hj : j < bl n) :
    ((padded s).drop (31 * j)).take 31 = (s.drop (31 * j)).take 31 ++ List.replicate (31 - ((s.drop (31 * j)).take 31).length) 0 := by
  have hp := pads_bl n
  have hjs : 31 * j ≤ s.length := by unfold bl at hj; omega
  unfold padded
  rw [hs, List.drop_append_of_le_length hjs, List.take_append, List.length_take, List.length_drop, hs, List.take_replicate]
  congr 2
  omega

theorem piece_eq (s : List UInt8) (i : Nat) : (s.take (min (i + 31) s.length)).drop i = (s.drop i).take 31 := by
  rw [List.drop_take, List.take_eq_take_iff, List.length_drop]
  omega

theorem outJ_row (s : List UInt8) (n j m : Nat) (hs : s.length = 20 + n) (hm : m = bl n) (hP : (padded s).length = 31 * m) (hj : j < m) (i d : Nat) (hi : i = 31 * j) (hd : d = min (i + 31) s.length) (r : List UInt8)
    (hr : r = (s.take (d : Int).toNat).drop (i : Int).toNat) (mk : UInt8) (hmk : mk = if j = 0 then 0xA1 else 0xB2) :
    outJ (padded s) (j + 1) = outJ (padded s) j ++ ((mk :: List.replicate 31 0).take 1 ++ r ++ (mk :: List.replicate 31 0).drop (1 + r.length)).take 32 := by
  have hr' : r = (s.drop (31 * j)).take 31 := by
    rw [hr, Int.toNat_natCast, Int.toNat_natCast, hd, piece_eq, hi]
  rw [outJ_next _ j m hP hj, ← hmk, chunk_pad s n j hs (by omega), ← hr']
  have hrl : r.length ≤ 31 := by rw [hr', List.length_take]; omega
  congr 1
  rw [List.take_of_length_le]
  · have e : 1 + r.length = r.length + 1 := by omega
    rw [e, List.drop_succ_cons, List.drop_replicate]
    rfl
  · simp only [List.length_append, List.length_take, List.length_drop, List.length_cons, List.length_replicate]
    omega

theorem outJ_all (s : List UInt8) (m : Nat) (hP : (padded s).length = 31 * m) : outJ (padded s) m = (lay 0 (padded s)).set 0 0xA1 := by
  unfold outJ
  rw [List.take_of_length_le (by omega)]

theorem Own.mono {w : World} {b1 b2 : Nat} {v : Value} {l : List UInt8} (h : Own w b2 v l) (hb : b1 ≤ b2) : Own w b1 v l := by
  refine ⟨h.1, ?_⟩
  rcases h.2 with h2 | ⟨g, cap, cur, h1, h2, h3⟩
  · exact .inl h2
  · exact .inr ⟨g, cap, cur, h1, Nat.le_trans hb h2, h3⟩

theorem Whole.new (w : World) (cs : Array Value) (l : List UInt8) (h : cs = (bvs l).toArray) : Whole (w.alloc (.cells cs 5)) w.heap.size l := by
  subst h
  exact heap_alloc_new w _
theorem made_one : (madeCells #[.int .u8 0] 32).setIfInBounds 0 (.int .u8 178) = (bvs (0xB2 :: List.replicate 31 0)).toArray := by kernel_rfl
theorem made_two : (madeCells #[.int .u8 0] 32).setIfInBounds 0 (.int .u8 161) = (bvs (0xA1 :: List.replicate 31 0)).toArray := by kernel_rfl

theorem make32_run (W : World) : (Instr.makeSlice 25 (.int .i64 32) (.int .i64 32)).run Try.prog W = .ok (.slice (some ⟨W.heap.size, 0, none⟩) 32 32) (W.alloc (.cells (madeCells #[.int .u8 0] 32) 5)) := by
  obtain ⟨i0, hi, hz0, hz1, hz2⟩ := info_parts info5
  have h := run_make (P := Try.prog) W 25 5 i0 (.int .u8 0) Try.underlying25 hi hz0 .i64 .i64 32 32 (by omega) (by omega) (by rw [hz2]; omega) (by omega)
  simpa [hz1, Value.cells] using h
theorem cut1_run (W : World) (g : Nat) : (Instr.slice 25 (.slice (some ⟨g, 0, none⟩) 32 32) (some (.int .i64 1)) none none).run Try.prog W = .ok (.slice (some ⟨g, 1, none⟩) 31 31) W := by
  obtain ⟨i0, hi0, _, hsz, _⟩ := info_parts info5
  have hel : Try.prog.elem 25 = 5 := by simp [Program.elem, Try.underlying25]
  have hu : Try.prog.underlying 25 = some (.slice (Try.prog.elem 25)) := by rw [hel]; exact Try.underlying25
  rw [run_slice_l W 25 _ 32 32 hu .i64 1 (by omega) (by omega), hel]
  simp [sizeOf, typeInfo, hi0, hsz, sliced, Result.andThen, Addr.add]

set_option maxRecDepth 100000 in
set_option maxHeartbeats 2000000 in
theorem refFrame_any (vb : Value) (body : List UInt8) (seq : Nat) (w : World) (hbody : RdB w vb body) (hseq : seq < 18446744073709551616) (hl : body.length ≤ 65536) :
    Calls Try.prog 76 #[.int .u64 seq, vb] w fun e w' => ∃ v', e = .returned v' ∧ Own w' w.heap.size v' (frameOf seq body) ∧ Below w.heap.size w w' := by
  obtain ⟨A, c, rfl, _, _, _⟩ := id hbody
  have HD := Lib.hid hbody; clear hbody
  have HSQ := Lib.hid hseq; clear hseq
  go_enter Try.func76, Try.ntmps76
  go_wp2_with fail
  refine (rnumber_any seq 8 w (by omega) HSQ.out).mono ?_
  rintro e w1 ⟨v1, rfl, ho1, hb1⟩
  have HO1 := Lib.hid ho1; clear ho1
  have HB1 := Lib.hid hb1; clear hb1
  go_wp2_with fail
  refine (rnumber_any body.length 4 w1 (by omega) (by omega)).mono ?_
  rintro e w2 ⟨v2, rfl, ho2, hb2⟩
  have HO1b := Lib.hid (HO1.out.below hb2); clear HO1
  have HB2 := Lib.hid (HB1.out.trans (hb2.mono HB1.out.size)); clear HB1 hb2
  have HO2 := Lib.hid ho2.rd; clear ho2
  go_wp2_with (at_builtin; refine own_append_row w.heap.size rfl (.tmp 10) (.tmp 14) rfl _ _ (le seq 8) (le body.length 4) rfl rfl HO1b.out HO2.out ?hb ?hl ?_; (case hb => exact HB2.out.size); (case hl => rw [le_len, le_len]; omega); intro v3 w3 hown hb3 hg hat; obtain ⟨s1, hs1⟩ : ∃ s, s = le seq 8 ++ le body.length 4 := ⟨_, rfl⟩; rw [← hs1] at hown; have HS1 := Lib.hid hs1; clear hs1; have HO3 := Lib.hid hown; clear hown; have HB3 := Lib.hid (HB2.out.trans hb3); clear hb3 hg hat HB2; obtain ⟨A3, c3, rfl, _, _, _⟩ := HO3.out.rd; clear HO1b HO2)
  refine (refCrc_any _ s1 w3 HO3.out.rd).mono ?_
  rintro e w' ⟨rfl, rfl⟩
  obtain ⟨q1, hq1⟩ : ∃ q, q = (crc s1).toNat := ⟨_, rfl⟩
  have hq1l : q1 < 4294967296 := by rw [hq1]; exact (crc s1).isLt
  rw [← hq1]
  have HQ1 := Lib.hid hq1; clear hq1
  go_wp2_with fail
  refine (rnumber_any q1 4 w3 (by omega) (by omega)).mono ?_
  rintro e w4 ⟨v4, rfl, ho4, hb4⟩
  have HO3b := Lib.hid (HO3.out.below hb4); clear HO3
  have HB4 := Lib.hid (HB3.out.trans (hb4.mono HB3.out.size)); clear HB3 hb4
  have HO4 := Lib.hid ho4.rd; clear ho4
  go_wp2_with (first
    | (at_builtin; refine own_append_row w.heap.size rfl (.tmp 16) (.tmp 20) rfl _ _ s1 (le q1 4) rfl rfl HO3b.out HO4.out ?hb2 ?hl2 ?_; (case hb2 => exact HB4.out.size); (case hl2 => rw [HS1.out, List.length_append, le_len, le_len, le_len]; omega); intro v5 w5 hown hb5 hg hat; obtain ⟨s2, hs2⟩ : ∃ s, s = s1 ++ le q1 4 := ⟨_, rfl⟩; rw [← hs2] at hown; have hhd : s2 = hdc seq body.length := (by rw [hs2, HQ1.out, HS1.out]; rfl); clear hs2; have HO5 := Lib.hid hown; clear hown; have HB5 := Lib.hid (HB4.out.trans hb5); clear hb5 hg hat HB4; clear HO3b HO4 HS1 HQ1; obtain ⟨A5, c5, rfl, _, _, _⟩ := HO5.out.rd; have hs2l : s2.length ≤ 16 := (by rw [hhd, hdc_len]; omega); have HHD := Lib.hid hhd; clear hhd)
    | (at_builtin; refine own_append_row w.heap.size rfl (.tmp 22) (.tmp 23) rfl _ _ s2 body rfl rfl HO5.out (HD.out.below (HB5.out.mono (Nat.le_refl _))) ?hb3 ?hl3 ?_; (case hb3 => exact HB5.out.size); (case hl3 => omega); intro v6 w6 hown hb6 hg hat; obtain ⟨s3, hs3⟩ : ∃ s, s = s2 ++ body := ⟨_, rfl⟩; rw [← hs3] at hown; have hs3l : s3.length ≤ 70000 := (by rw [hs3, List.length_append]; omega); have HS3 := Lib.hid hs3; clear hs3; have HO6 := Lib.hid hown; clear hown; have HB6 := Lib.hid (HB5.out.trans hb6); clear hb6 hg hat HB5; clear HO5; obtain ⟨A6, c6, rfl, _, _, _⟩ := HO6.out.rd))
  refine (refCrc_any _ s3 w6 HO6.out.rd).mono ?_
  rintro e w' ⟨rfl, rfl⟩
  obtain ⟨q2, hq2⟩ : ∃ q, q = (crc s3).toNat := ⟨_, rfl⟩
  have hq2l : q2 < 4294967296 := by rw [hq2]; exact (crc s3).isLt
  rw [← hq2]
  have HQ2 := Lib.hid hq2; clear hq2
  go_wp2_with fail
  refine (rnumber_any q2 4 w6 (by omega) (by omega)).mono ?_
  rintro e w7 ⟨v7, rfl, ho7, hb7⟩
  have HO6b := Lib.hid (HO6.out.below hb7); clear HO6
  have HB7 := Lib.hid (HB6.out.trans (hb7.mono HB6.out.size)); clear HB6 hb7
  have HO7 := Lib.hid ho7.rd; clear ho7
  go_wp2_with (at_builtin; refine own_append_row w.heap.size rfl (.tmp 25) (.tmp 29) rfl _ _ s3 (le q2 4) rfl rfl HO6b.out HO7.out ?hb4 ?hl4 ?_; (case hb4 => exact HB7.out.size); (case hl4 => (rw [le_len]; omega)); intro v8 ws hown hb8 hg hat; obtain ⟨s, hs⟩ : ∃ s, s = s3 ++ le q2 4 := ⟨_, rfl⟩; rw [← hs] at hown; have HST := Lib.hid (show s = stream seq body from (by rw [hs, HQ2.out, HS3.out, HHD.out]; rfl)); clear hs; have HO8 := Lib.hid hown; clear hown; have HB8 := Lib.hid (HB7.out.trans hb8); clear hb8 hg hat HB7; clear HO6b HO7 HS3 HQ2 HHD; obtain ⟨A8, c8, rfl, _, _, _⟩ := HO8.out.rd)
  have hsl : s.length = 20 + body.length := by rw [HST.out, stream_len]
  have hbl : bl body.length = (body.length + 50) / 31 := rfl
  obtain ⟨m, hm⟩ : ∃ m, m = bl body.length := ⟨_, rfl⟩
  rw [← hm] at hbl
  have hPl : (padded s).length = 31 * m := by rw [HST.out, padded_len, hm]
  obtain ⟨n, hn⟩ : ∃ n, n = body.length := ⟨_, rfl⟩
  rw [← hn] at hbl hsl hl
  have HPL := Lib.hid hPl; clear hPl
  have HM := Lib.hid hm; clear hm
  have HN := Lib.hid hn; clear hn
  have HBL := Lib.hid hbl; clear hbl
  have HSL := Lib.hid hsl; clear hsl
  clear HD HSQ
  go_loopw [6, 7] (fun v6 v7 wr => ∃ j : Nat, j ≤ m ∧ v7 = .int .i64 ((31 * j : Nat) : Int) ∧ Own wr ws.heap.size v6 (outJ (padded s) j) ∧ Below ws.heap.size ws wr) (fun _ v7 _ => 140000 - (intOf v7).toNat)
  case atStart => exact ⟨0, by omega, rfl, Own.nil _ _, Below.refl _ _⟩
  case round =>
    obtain ⟨j, hj, rfl, ho, hb⟩ := hrel
    obtain ⟨out, hout⟩ : ∃ out, out = outJ (padded s) j := ⟨_, rfl⟩
    rw [← hout] at ho
    have HOUT := Lib.hid hout; clear hout
    have HO := Lib.hid ho; clear ho
    have HB := Lib.hid hb; clear hb
    obtain ⟨i, hi⟩ : ∃ i, i = 31 * j := ⟨_, rfl⟩
    rw [← hi]
    have hb1 := HBL.out
    have hs1 := HSL.out
    by_cases h : j < m
    · have hlt : i < s.length := by omega
      have hilo : i + 31 ≤ 140000 := by omega
      clear hb1 hs1
      have HI := Lib.hid hi; clear hi
      obtain ⟨d, hd⟩ : ∃ d : Nat, d = min (i + 31) s.length := ⟨_, rfl⟩
      have hmin : (if (s.length : Int) < (i : Int) + 31 then (s.length : Int) else (i : Int) + 31) = (d : Int) := by rw [hd]; split <;> omega
      have hwr31 : IntKind.i64.wrap ((i : Int) + 31) = (i : Int) + 31 := IntWalk.i64_in _ (by omega)
      have hdl : d ≤ s.length := by omega
      have hid : i ≤ d := by omega
      obtain ⟨r, A', c', hr, hsl2, hrd2⟩ := cut_lh A8 c8 s i d (by omega) (by omega) (by omega) (by omega)
      have HRD2 := Lib.hid (hrd2 ws HO8.out.rd); clear hrd2
      have HR := Lib.hid hr; clear hr
      have HD := Lib.hid hd; clear hd
      have hmk := make32_run
      have hc1 := fun W => cut1_run W wr.heap.size
      have hw0 := Whole.made wr 32
      have hb0 : ∀ cs, Below wr.heap.size wr (wr.alloc (.cells cs 5)) := fun cs => (Below.refl _ _).alloc (Nat.le_refl _) _
      have HB0 := Lib.hid hb0; clear hb0
      have hx0 : (wr.alloc (.cells (madeCells #[.int .u8 0] 32) 5)).cell? ⟨wr.heap.size, 0, none⟩ = some (.int .u8 0) := hw0.cell 0 (by simp)
      have hf0 := hw0.frozen 0
      have hw1 := Whole.new wr _ _ made_one
      have hf1 := hw1.frozen 0
      have hx1 : (wr.alloc (.cells ((madeCells #[.int .u8 0] 32).setIfInBounds 0 (.int .u8 178)) 5)).cell? ⟨wr.heap.size, 0, none⟩ = some (.int .u8 178) := hw1.cell 0 (by simp)
      have HW1 := Lib.hid hw1; clear hw1
      have HW2 := Lib.hid (Whole.new wr _ _ made_two); clear hw0
      have hrl : r.length ≤ 31 := by rw [HR.out, List.length_drop, List.length_take]; have := HD.out; omega
      by_cases h0 : i = 0
      · have t1 : ((i : Int) == 0) = true := by simp; omega
        have H0 := Lib.hid h0; clear h0
        go_wp2
        go_still_tail 10, (by kernel_rfl)
        change wpList _ _ _ _ _ (World.drew _)
        refine copy_whole wr.heap.size wr rfl (.tmp 45) (.tmp 53) rfl wr.heap.size 1 31 31 (0xA1 :: List.replicate 31 0) r (.slice A' r.length c') rfl rfl HW2.out ((HRD2.out.below HB.out).below (HB0.out _)).drew hrl (by simp; omega) (below_drewN (HB0.out _) 1) (Nat.le_refl _) ?_
        intro w2 hw2 hb2
        have hrow := outJ_row s n j m HSL.out (by rw [HM.out, HN.out]) HPL.out h i d HI.out HD.out r HR.out 0xA1 (by rw [if_pos (by have := HI.out; have := H0.out; omega)])
        obtain ⟨X, hX⟩ : ∃ X, X = (0xA1 :: List.replicate 31 0).take 1 ++ r ++ (0xA1 :: List.replicate 31 0).drop (1 + r.length) := ⟨_, rfl⟩
        rw [← hX] at hw2 hrow
        have hXl : X.length = 32 := by rw [hX]; simp; omega
        have HR2 := Lib.hid (hw2.rd (n := 32) (c := 32) (by omega) (Nat.le_refl _) (by simp [maxLen]))
        obtain ⟨Y, hY⟩ : ∃ Y, Y = X.take 32 := ⟨_, rfl⟩
        have hYl : Y.length = 32 := by rw [hY, List.length_take]; omega
        rw [← hY] at HR2 hrow
        clear hX hXl hw2 hY
        have HROW := Lib.hid hrow; clear hrow
        have HYL := Lib.hid hYl; clear hYl
        have HB2 := Lib.hid hb2; clear hb2
        have HO2 := Lib.hid (HO.out.below HB2.out)
        have hol : out.length ≤ 140000 := by
          have := HOUT.out
          have h1 := outJ_len (padded s) j m HPL.out hj
          rw [← this] at h1
          have := HBL.out
          omega
        have HOL := Lib.hid hol; clear hol
        clear HR hrl
        go_wp2_with (at_builtin; refine own_append_row ws.heap.size rfl (.tmp 55) (.tmp 56) rfl _ _ out Y rfl rfl HO2.out HR2.out ?hb5a ?hl5a ?_; (case hb5a => exact Nat.le_trans HB.out.size HB2.out.size); (case hl5a => have := HYL.out; have := HOL.out; omega); intro v3 w3 hown hb3 hg hat; have HO3 := Lib.hid hown; clear hown; have HB3 := Lib.hid hb3; clear hb3 hg hat)
        go_roundw
        case rel => exact ⟨j + 1, by omega, by have := HI.out; congr 1; omega, by rw [HROW.out, ← HOUT.out]; exact HO3.out, (HB.out.trans (HB2.out.mono HB.out.size)).trans HB3.out⟩
        case measure => simp [intOf]; omega
      · have t1 : ((i : Int) == 0) = false := by simp; omega
        have H0 := Lib.hid h0; clear h0
        go_wp2
        go_still_tail 10, (by kernel_rfl)
        change wpList _ _ _ _ _ (World.drew _)
        refine copy_whole wr.heap.size wr rfl (.tmp 45) (.tmp 53) rfl wr.heap.size 1 31 31 (0xB2 :: List.replicate 31 0) r (.slice A' r.length c') rfl rfl HW1.out ((HRD2.out.below HB.out).below (HB0.out _)).drew hrl (by simp; omega) (below_drewN (HB0.out _) 1) (Nat.le_refl _) ?_
        intro w2 hw2 hb2
        have hrow := outJ_row s n j m HSL.out (by rw [HM.out, HN.out]) HPL.out h i d HI.out HD.out r HR.out 0xB2 (by rw [if_neg (by have := HI.out; have := H0.out; omega)])
        obtain ⟨X, hX⟩ : ∃ X, X = (0xB2 :: List.replicate 31 0).take 1 ++ r ++ (0xB2 :: List.replicate 31 0).drop (1 + r.length) := ⟨_, rfl⟩
        rw [← hX] at hw2 hrow
        have hXl : X.length = 32 := by rw [hX]; simp; omega
        have HR2 := Lib.hid (hw2.rd (n := 32) (c := 32) (by omega) (Nat.le_refl _) (by simp [maxLen]))
        obtain ⟨Y, hY⟩ : ∃ Y, Y = X.take 32 := ⟨_, rfl⟩
        have hYl : Y.length = 32 := by rw [hY, List.length_take]; omega
        rw [← hY] at HR2 hrow
        clear hX hXl hw2 hY
        have HROW := Lib.hid hrow; clear hrow
        have HYL := Lib.hid hYl; clear hYl
        have HB2 := Lib.hid hb2; clear hb2
        have HO2 := Lib.hid (HO.out.below HB2.out)
        have hol : out.length ≤ 140000 := by
          have := HOUT.out
          have h1 := outJ_len (padded s) j m HPL.out hj
          rw [← this] at h1
          have := HBL.out
          omega
        have HOL := Lib.hid hol; clear hol
        clear HR hrl
        go_wp2_with (at_builtin; refine own_append_row ws.heap.size rfl (.tmp 55) (.tmp 56) rfl _ _ out Y rfl rfl HO2.out HR2.out ?hb5b ?hl5b ?_; (case hb5b => exact Nat.le_trans HB.out.size HB2.out.size); (case hl5b => have := HYL.out; have := HOL.out; omega); intro v3 w3 hown hb3 hg hat; have HO3 := Lib.hid hown; clear hown; have HB3 := Lib.hid hb3; clear hb3 hg hat)
        go_roundw
        case rel => exact ⟨j + 1, by omega, by have := HI.out; congr 1; omega, by rw [HROW.out, ← HOUT.out]; exact HO3.out, (HB.out.trans (HB2.out.mono HB.out.size)).trans HB3.out⟩
        case measure => simp [intOf]; omega
    · have hjm : j = m := by omega
      have hge : s.length ≤ i := by omega
      have hfin : out = frameOf seq body := by rw [HOUT.out, hjm, outJ_all _ _ HPL.out, HST.out]; rfl
      clear hb1 hs1 hi hjm
      have HF := Lib.hid hfin; clear hfin
      go_wp2
      go_ret
      exact ⟨_, rfl, by rw [← HF.out]; exact HO.out.mono HB8.out.size, HB8.out.trans (HB.out.mono HB8.out.size)⟩
end Go.Proofs.Ytggjipfdfpdecaa
