/- The walk of the law FramePokes: one byte that is another one is told. Condition: what comes in has together at most 1048576 values. -/
import Derived.Test.YtggjipfdfpdecaaFrCw
import Derived.Deep.DeepCutAuto
import Derived.Deep.CutBlock
set_option linter.unusedVariables false
namespace Go.Proofs.Ytggjipfdfpdecaa
open Go.RowKit

set_option maxRecDepth 100000 in
set_option maxHeartbeats 4000000 in
theorem framePokes_nat (f : Nat) (v : Value) (ls : List (List UInt8)) (at_ : Int) (b : UInt8) (w : World) (hf : f < two64) (hr : RdBs w v ls) (h1 : -9223372036854775808 ≤ at_) (h2 : at_ ≤ 9223372036854775807) (hl : ls.flatten.length + ls.length ≤ 1048576) :
    Calls Try.prog 14 #[.int .u64 f, v, .int .i64 at_, .int .u8 (b.toNat : Int)] w fun e w' => e = .returned (.bool true) ∧ Below w.heap.size w w' := by
  obtain ⟨A, c, rfl, _, _, _⟩ := id hr
  have HR := Lib.hid hr; clear hr
  have HF := Lib.hid hf
  unfold two64 at hf
  have HL := Lib.hid hl
  have hll : ls.length ≤ 1048576 := by omega
  clear hl
  go_enter Try.func14, Try.ntmps14
  go_wp2_with fail
  refine (fshown_any w).mono ?_
  rintro e w1 ⟨rfl, hb1⟩
  have HB1 := Lib.hid hb1; clear hb1
  have HR1 := Lib.hid (HR.out.below HB1.out)
  go_upto_block 0 with fail
  go_cut [10] (fun v10 wx => ∃ s : Nat, v10 = .int .i64 (s : Int) ∧ s ≤ 1200000 ∧ Hid (SumOf ls s) ∧ wx = w1)
  case first =>
    go_wp2_with fail
    go_loop [10, 11] (fun v10 v11 => ∃ k s : Nat, k ≤ ls.length ∧ k ≤ 12 ∧ v11 = .int .i64 (k : Int) ∧ v10 = .int .i64 (s : Int) ∧ s ≤ 100000 * k ∧ Hid (∀ l ∈ ls.take k, min l.length 100000 ≤ s)) (fun _ v11 => 12 - (intOf v11).toNat)
    case atStart => exact ⟨0, 0, by omega, by omega, rfl, rfl, by omega, Lib.hid (by simp)⟩
    case round =>
      obtain ⟨k, s, hk1, hk2, rfl, rfl, hs, HS⟩ := hrel
      by_cases hlt : k < ls.length
      · by_cases hlt2 : k < 12
        · have t1 : decide ((k : Int) < (ls.length : Int)) = true := by simp; omega
          have t2 : decide ((k : Int) < 12) = true := by simp; omega
          obtain ⟨A', c', he, _, _, hcell⟩ := HR1.out
          injection he with e1 e2 e3
          subst e1
          obtain ⟨ad, rfl, hcells⟩ := hcell (by omega)
          obtain ⟨u, hcu, hru⟩ := hcells k hlt
          clear hcell hcells e2 e3
          obtain ⟨body, hbody⟩ : ∃ l, l = ls[k] := ⟨_, rfl⟩
          rw [← hbody] at hru
          obtain ⟨Au, cu, rfl, _, _, _⟩ := hru
          have hbl : body.length ≤ 1048576 := by
            have h1 := HL.out
            have h2 : body ∈ ls := by rw [hbody]; exact List.getElem_mem hlt
            have := (List.sublist_flatten_of_mem h2).length_le
            omega
          have HBD := Lib.hid hbody; clear hbody
          have HN := Lib.hid (show ∀ l ∈ ls.take (k + 1), min l.length 100000 ≤ s + min body.length 100000 from by
            intro l hl
            rw [List.take_succ_eq_append_getElem hlt, List.mem_append] at hl
            rcases hl with hl | hl
            · have := HS.out l hl; omega
            · simp at hl; rw [hl, ← HBD.out]; omega)
          go_wp2_with fail
          refine ⟨⟨k + 1, s + min body.length 100000, by omega, by omega, by go_num, ?_, by omega, HN⟩, by simp [intOf]; omega⟩
          congr 1
          split <;> omega
        · have t1 : decide ((k : Int) < (ls.length : Int)) = true := by simp; omega
          have t2 : decide ((k : Int) < 12) = false := by simp; omega
          go_wp2_with fail
          go_meet
          refine ⟨s, rfl, by omega, Lib.hid (fun l hl => HS.out l ?_), rfl⟩
          rwa [show k = 12 from by omega]
      · have t1 : decide ((k : Int) < (ls.length : Int)) = false := by simp; omega
        go_wp2_with fail
        go_meet
        refine ⟨s, rfl, by omega, Lib.hid (fun l hl => HS.out l ?_), rfl⟩
        rw [List.take_of_length_le (by omega)]
        exact List.mem_of_mem_take hl
  case rest =>
    obtain ⟨s, rfl, hs, HS, hw1⟩ := hcut
    obtain rfl := hw1.symm
    by_cases hbig : 5000 < s
    · go_wp2_with fail
      go_ret
      exact ⟨rfl, HB1.out⟩
    by_cases hbig2 : 4611686018427387904 < f
    · go_wp2_with fail
      go_ret
      exact ⟨rfl, HB1.out⟩
    go_wp2_with fail
    refine (putL_any _ ls f 12 w1 HR1.out HF.out (by omega) HL.out).mono ?_
    intro e w2 h2
    obtain ⟨hb2, h2⟩ := h2
    have hsm : ∀ l ∈ ls.take 12, l.length ≤ 65536 := fun l hl => by have := HS.out l hl; omega
    obtain ⟨-, vb, ve, rfl, hvb, hve⟩ := h2.resolve_left (fun h => h.1 hsm)
    obtain ⟨T, hT⟩ : ∃ T, T = ls.take 12 := ⟨_, rfl⟩
    have hTl : T.length ≤ 12 := by rw [hT, List.length_take]; omega
    have hTT : T = ls.take T.length := by rw [hT]; exact take_self ls 12
    rw [← hT] at hsm hvb hve
    obtain ⟨X, hX⟩ : ∃ X, X = laid f T := ⟨_, rfl⟩
    have hXl : X.length ≤ 840000 := by have := laid_le T f hsm; rw [← hX] at this; omega
    rw [← hX] at hvb
    have HB2 := Lib.hid (HB1.out.trans (hb2.mono HB1.out.size)); clear hb2 h2 hT
    have hel : ((endsOf f T).map intv).length = T.length := by rw [List.length_map, endsOf_len]
    obtain ⟨A4, c4, hve2⟩ := row_shape hve
    rw [hel] at hve2
    subst hve2
    have HVE := Lib.hid hve; clear hve hel
    obtain ⟨A3, c3, rfl, _, hc3, _⟩ := id hvb.rd
    have HVB := Lib.hid hvb; clear hvb
    have HX := Lib.hid hX; clear hX
    have HSM := Lib.hid hsm; clear hsm
    have HTT := Lib.hid hTT; clear hTT
    by_cases hb0 : b = 0
    · have t0 : ((b.toNat : Int) == 0) = true := by subst hb0; rfl
      go_wp2_with fail
      all_goals
        go_ret
        exact ⟨by simp, HB2.out⟩
    have t0 : ((b.toNat : Int) == 0) = false := by
      rw [beq_eq_false_iff_ne]
      intro e
      apply hb0
      apply UInt8.toNat_inj.1
      show b.toNat = 0
      omega
    by_cases hX0 : X.length = 0
    · have hT0 : T.length = 0 := laid_none (f := f) (by rw [← HX.out]; exact hX0)
      obtain rfl : X = [] := List.eq_nil_of_length_eq_zero hX0
      obtain rfl : T = [] := List.eq_nil_of_length_eq_zero hT0
      go_wp2_with fail
      go_ret
      exact ⟨by simp, HB2.out⟩
    have hXn : ¬ X = [] := fun e => hX0 (by rw [e]; rfl)
    go_upto_if 79 with fail
    go_cut [2] (fun v2 wx => ∃ a : Nat, v2 = .int .i64 (a : Int) ∧ a ≤ 9223372036854775807 ∧ wx = w2)
    case first =>
      by_cases hneg : at_ < 0
      · go_wp2_with fail
        go_meet
        exact ⟨(-(at_ + 1)).toNat, by congr 1; omega, by omega, rfl⟩
      · go_wp2_with fail
        go_meet
        exact ⟨at_.toNat, by congr 1; omega, by omega, rfl⟩
    case rest =>
      obtain ⟨a, rfl, ha, hw2⟩ := hcut
      obtain rfl := hw2.symm
      have hXp : 0 < (X.length : Int) := by omega
      obtain ⟨i, hi⟩ : ∃ i : Nat, (a : Int) % (X.length : Int) = (i : Int) := ⟨a % X.length, by omega⟩
      have hiX : i < X.length := by have := Int.emod_lt_of_pos (a : Int) hXp; omega
      have hTp : 0 < T.length := by
        rcases Nat.eq_zero_or_pos T.length with h | h
        · exact absurd (by rw [HX.out, List.eq_nil_of_length_eq_zero h, laid]) hXn
        · exact h
      obtain ⟨g, cap, hg1, hg2, hg3, hg4, -, hcells⟩ := ends_cell HVE.out hTp
      injection hg1 with hg1 _ hg5
      subst hg1 hg5
      have HCE := Lib.hid hcells; clear hcells
      obtain ⟨gx, capx, hx1, _, hx2, hx3, hx4⟩ := HVB.out.form (by omega)
      injection hx1 with hx1 _ hx5
      subst hx1 hx5
      have hgx : gx ≠ g := by
        intro e
        subst e
        obtain ⟨cs, h5⟩ := own_heap HVB.out (g := gx) rfl
        rcases HVE.out.2 with ⟨h6, _⟩ | ⟨g', cap', cur, h6, _, h7, _⟩
        · cases h6
        · injection h6 with h6 _ _
          injection h6 with h6
          injection h6 with h6 _ _
          subst h6
          rw [h5] at h7
          injection h7 with h7
          injection h7 with _ h7 _
          exact absurd h7 (by decide)
      have hgx1 : ¬ gx = g := hgx
      have hgx2 : ¬ g = gx := fun e => hgx e.symm
      obtain ⟨hci, hfi⟩ := HVB.out.at_ i hiX
      rw [bv_nat] at hci
      have hset := HVB.out.set_ i (X[i] ^^^ b)
      obtain ⟨x, hx⟩ : ∃ x, x = X[i] := ⟨_, rfl⟩
      have hpk := pokes f T HSM.out i
      rw [← HX.out] at hpk
      have hyx : X[i]? ≠ some (x ^^^ b) := by
        rw [List.getElem?_eq_getElem hiX, ← hx]
        intro e
        exact xor_ne x b hb0 (Option.some.inj e).symm
      rw [← hx] at hset hci
      obtain ⟨X2, hX2⟩ : ∃ X2, X2 = X.set i (x ^^^ b) := ⟨_, rfl⟩
      rw [← xor_bv, ← hX2] at hset
      have HPK := Lib.hid (fun m hm h1 h2 => hX2 ▸ hpk m hm h1 h2 (x ^^^ b) hyx); clear hpk hyx
      have hX2l : X2.length = X.length := by rw [hX2, List.length_set]
      have HSET := Lib.hid hset; clear hset hX2 hx
      have HX2L := Lib.hid hX2l; clear hX2l
      go_wp2_with fail
      have HI := Lib.hid hi; clear hi
      go_loop [15] (fun v15 => ∃ k : Nat, k < T.length ∧ v15 = .int .i64 (k : Int) ∧ (laid f (T.take k)).length ≤ i) (fun v15 => T.length - (intOf v15).toNat)
      case atStart => exact ⟨0, hTp, rfl, by simp [laid]⟩
      case round =>
        obtain ⟨k, hk, rfl, hke⟩ := hrel
        have hck := HCE.out k hk
        obtain ⟨E, hE⟩ : ∃ E, E = (laid f (T.take (k + 1))).length := ⟨_, rfl⟩
        obtain ⟨P, hP⟩ : ∃ P, P = (laid f (T.take k)).length := ⟨_, rfl⟩
        rw [← hE] at hck
        rw [← hP] at hke
        by_cases hEi : E ≤ i
        · have hk1 : k + 1 < T.length := by
            rcases Nat.lt_or_ge (k + 1) T.length with h | h
            · exact h
            · rw [List.take_of_length_le (by omega), ← HX.out] at hE
              omega
          have HE := Lib.hid hE; clear hE hP
          have t1 : decide ((E : Int) ≤ (i : Int)) = true := by simp; omega
          go_wp2_with fail
          go_round
          case rel => exact ⟨k + 1, hk1, by go_num, by rw [← HE.out]; exact hEi⟩
          case measure => simp [intOf]; omega
        · have t1 : decide ((E : Int) ≤ (i : Int)) = false := by simp; omega
          have hp0 : P = 0 ∨ 0 < k := by
            rcases Nat.eq_zero_or_pos k with h | h
            · subst h; exact .inl (by rw [hP]; rfl)
            · exact .inr h
          have hprev : 0 < k → w2.cell? ⟨g, k - 1, none⟩ = some (.int .i64 (P : Int)) := by
            intro h
            have := HCE.out (k - 1) (by omega)
            rw [Nat.sub_add_cancel h, ← hP] at this
            exact this
          obtain ⟨hpre, hnone, hlate⟩ := HPK.out k hk (by rw [← hP]; exact hke) (by rw [← hE]; omega)
          rw [← hP] at hpre hnone hlate
          rw [Nat.mod_eq_of_lt HF.out] at hpre
          have HPRE := Lib.hid hpre; clear hpre
          have HNONE := Lib.hid hnone; clear hnone
          have HLATE := Lib.hid hlate; clear hlate
          have HPV := Lib.hid hprev; clear hprev
          have HE := Lib.hid hE; clear hE
          have HP := Lib.hid hP; clear hP
          have hPX : P ≤ 840000 := by omega
          go_upto_if 105 with fail
          go_cut [16] (fun v16 wx => v16 = .int .i64 (P : Int) ∧ wx = w2.setCell ⟨gx, i, none⟩ (.int .u8 (bits .xor .u8 (x.toNat : Int) (b.toNat : Int))))
          case first =>
            by_cases hk0 : 0 < k
            · have t2 : decide ((0 : Int) < (k : Int)) = true := by simp; omega
              have hpv := HPV.out hk0
              have hkk : (k : Int) - 1 = ((k - 1 : Nat) : Int) := by omega
              have hkn : ((k : Int) - 1).toNat = k - 1 := by omega
              go_wp2_with fail
              go_meet
              exact ⟨rfl, rfl⟩
            · have t2 : decide ((0 : Int) < (k : Int)) = false := by simp; omega
              have hP0 : P = 0 := by omega
              go_wp2_with fail
              go_meet
              exact ⟨by rw [hP0]; rfl, rfl⟩
          case rest =>
            obtain ⟨rfl, hwx⟩ := hcut
            have hs := HSET.out
            rw [← hwx] at hs
            clear hwx
            obtain ⟨ho3, hb3⟩ := hs
            have HO3 := Lib.hid ho3; clear ho3
            have HB3 := Lib.hid (HB2.out.trans (hb3.mono HB1.out.size)); clear hb3
            have hX2l : X2.length ≤ 840000 := by rw [HX2L.out]; exact hXl
            go_wp2_with fail
            have ht := ftake_any _ X2 (P : Int) wc HO3.out.rd (by omega)
            rw [HNONE.out] at ht
            refine ht.mono ?_
            rintro e w4 ⟨rfl, hb4⟩
            clear ht
            have HO4 := Lib.hid (HO3.out.below hb4)
            have HB4 := Lib.hid (HB3.out.trans (hb4.mono HB3.out.size)); clear hb4
            simp only [noF]
            go_wp2_with fail
            refine (fall_any _ X2 f w4 HO4.out.rd (by omega) HF.out).mono ?_
            intro e w5 h5
            obtain ⟨hb5, h5⟩ := h5.known HPRE.out (fun body h => by rw [HNONE.out] at h; cases h)
            have HB5 := Lib.hid (HB4.out.trans (hb5.mono HB4.out.size)); clear hb5
            rcases h5 with ⟨-, rfl⟩ | ⟨hnl, v5, us, rfl, hrow⟩
            · go_wp2_with fail
              go_ret
              exact ⟨rfl, HB5.out⟩
            · have hk1 : k + 1 = T.length := by
                rcases Nat.lt_or_ge (k + 1) T.length with h | h
                · exact absurd (HLATE.out h (by unfold two64; omega)) hnl
                · omega
              have hTk : T.take k = ls.take (T.take k).length := by
                rw [List.length_take, Nat.min_eq_left (by omega)]
                conv => lhs; rw [HTT.out]
                rw [List.take_take, Nat.min_eq_left (by omega)]
              have hkl : (T.take k).length = k := by rw [List.length_take]; omega
              have HTK := Lib.hid hTk; clear hTk
              have HROW := Lib.hid hrow
              obtain ⟨A5, c5, rfl, _, _⟩ := hrow.form
              rw [hkl]
              have HKL := Lib.hid hkl
              clear hrow hnl hkl
              go_wp2_with fail
              refine (fbegin_any _ _ (T.take k) ls w5 (by rw [← HTK.out]; have := HROW.out.rds; rwa [HKL.out] at this) (HR.out.below HB5.out) HTK.out).mono ?_
              rintro e w6 ⟨rfl, hb6⟩
              have HB6 := Lib.hid (HB5.out.trans (hb6.mono HB5.out.size)); clear hb6
              have t3 : ((k : Int) == (T.length : Int) - 1) = true := by rw [beq_iff_eq]; omega
              have t4 : (k : Int) = (T.length : Int) - 1 := by omega
              go_wp2_with fail
              go_ret
              exact ⟨by simp, HB6.out⟩

theorem framePokes_any (f : Int) (v : Value) (ls : List (List UInt8)) (at_ : Int) (b : Int) (w : World) (hf : (Lit.int .u64 f).wf = true) (hr : RdBs w v ls) (h1 : (Lit.int .i64 at_).wf = true) (hb : (Lit.int .u8 b).wf = true) (hl : ls.flatten.length + ls.length ≤ 1048576) :
    Calls Try.prog 14 #[.int .u64 f, v, .int .i64 at_, .int .u8 b] w fun e w' => e = .returned (.bool true) ∧ Below w.heap.size w w' := by
  obtain ⟨n, rfl, hn'⟩ := u64_of hf
  obtain ⟨b, rfl⟩ := u8_of hb
  exact framePokes_nat n v ls at_ b w hn' hr (i64_of h1).1 (i64_of h1).2 hl
end Go.Proofs.Ytggjipfdfpdecaa
