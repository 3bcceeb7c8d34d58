/- The walk of the law FrameCrashes: of frames whose end is cut off, or turned, just those are told that lie ahead of that. Condition: what comes in has together at most 1048576 values. -/
import Derived.Test.YtggjipfdfpdecaaFrCw
import Derived.Deep.DeepCutAuto
import Derived.Deep.CutBlock
set_option linter.unusedVariables false
namespace Go.Proofs.Ytggjipfdfpdecaa
open Go.RowKit

/-- The first n bytes, turned from p on up to k. -/
def Tur (X : List UInt8) (p n k : Nat) (L : List UInt8) : Prop := L.length = n ∧ ∀ i, i < n → L[i]? = if p ≤ i ∧ i < k then (X[i]?).map flip else X[i]?
theorem Tur.start (X : List UInt8) (p n : Nat) (h : n ≤ X.length) : Tur X p n p (X.take n) := by
  refine ⟨by rw [List.length_take]; omega, fun i hi => ?_⟩
  rw [if_neg (by omega), List.getElem?_take, if_pos hi]
theorem Tur.step {X L : List UInt8} {p n k : Nat} (h : Tur X p n k L) (hp : p ≤ k) (hk : k < n) (hl : k < L.length) : Tur X p n (k + 1) (L.set k (L[k] ^^^ 255)) := by
  refine ⟨by rw [List.length_set]; exact h.1, fun i hi => ?_⟩
  have h2 := h.2 i hi
  by_cases e : i = k
  · subst e
    rw [if_neg (by omega)] at h2
    rw [List.getElem?_set_self hl, if_pos (by omega), ← h2, List.getElem?_eq_getElem hl]
    rfl
  · rw [List.getElem?_set_ne (fun h => e h.symm), h2]
    by_cases hc : p ≤ i ∧ i < k
    · rw [if_pos hc, if_pos (by omega)]
    · rw [if_neg hc, if_neg (by omega)]
theorem Tur.done {X L : List UInt8} {p n : Nat} (h : Tur X p n n L) (hn : n ≤ X.length) : L = turned X p n := by
  apply List.ext_getElem?
  intro i
  by_cases hi : i < n
  · rw [h.2 i hi]
    by_cases hp : p ≤ i
    · rw [if_pos ⟨hp, hi⟩, turned_high X p n i hp hi hn]
    · rw [if_neg (by omega), turned_low X p n i (by omega) hi]
  · rw [List.getElem?_eq_none (by rw [h.1]; omega), List.getElem?_eq_none (by rw [turned_len X p n hn]; omega)]

set_option maxRecDepth 100000 in
set_option maxHeartbeats 4000000 in
theorem frameCrashes_nat (f : Nat) (v : Value) (ls : List (List UInt8)) (cut turn : Int) (w : World) (hf : f < two64) (hr : RdBs w v ls) (h1 : -9223372036854775808 ≤ cut ∧ cut ≤ 9223372036854775807) (h2 : -9223372036854775808 ≤ turn ∧ turn ≤ 9223372036854775807) (hl : ls.flatten.length + ls.length ≤ 1048576) :
    Calls Try.prog 13 #[.int .u64 f, v, .int .i64 cut, .int .i64 turn] w fun e w' => e = .returned (.bool true) ∧ Below w.heap.size w w' := by
  obtain ⟨A, c, rfl, _, _, _⟩ := id hr
  have HR := Lib.hid hr; clear hr
  have HF := Lib.hid hf
  unfold two64 at hf
  have HL := Lib.hid hl
  have hll : ls.length ≤ 1048576 := by omega
  clear hl
  go_enter Try.func13, Try.ntmps13
  go_wp2_with fail
  refine (fshown_any w).mono ?_
  rintro e w1 ⟨rfl, hb1⟩
  have HB1 := Lib.hid hb1; clear hb1
  have HR1 := Lib.hid (HR.out.below HB1.out)
  go_upto_block 0 with fail
  go_cut [10] (fun v10 wx => ∃ s : Nat, v10 = .int .i64 (s : Int) ∧ s ≤ 1200000 ∧ Hid (SumOf ls s) ∧ wx = w1)
  case first =>
    go_wp2_with fail
    go_loop [10, 11] (fun v10 v11 => ∃ k s : Nat, k ≤ ls.length ∧ k ≤ 12 ∧ v11 = .int .i64 (k : Int) ∧ v10 = .int .i64 (s : Int) ∧ s ≤ 100000 * k ∧ Hid (∀ l ∈ ls.take k, min l.length 100000 ≤ s)) (fun _ v11 => 12 - (intOf v11).toNat)
    case atStart => exact ⟨0, 0, by omega, by omega, rfl, rfl, by omega, Lib.hid (by simp)⟩
    case round =>
      obtain ⟨k, s, hk1, hk2, rfl, rfl, hs, HS⟩ := hrel
      by_cases hlt : k < ls.length
      · by_cases hlt2 : k < 12
        · have t1 : decide ((k : Int) < (ls.length : Int)) = true := by simp; omega
          have t2 : decide ((k : Int) < 12) = true := by simp; omega
          obtain ⟨A', c', he, _, _, hcell⟩ := HR1.out
          injection he with e1 e2 e3
          subst e1
          obtain ⟨ad, rfl, hcells⟩ := hcell (by omega)
          obtain ⟨u, hcu, hru⟩ := hcells k hlt
          clear hcell hcells e2 e3
          obtain ⟨body, hbody⟩ : ∃ l, l = ls[k] := ⟨_, rfl⟩
          rw [← hbody] at hru
          obtain ⟨Au, cu, rfl, _, _, _⟩ := hru
          have hbl : body.length ≤ 1048576 := by
            have h1 := HL.out
            have h2 : body ∈ ls := by rw [hbody]; exact List.getElem_mem hlt
            have := (List.sublist_flatten_of_mem h2).length_le
            omega
          have HBD := Lib.hid hbody; clear hbody
          have HN := Lib.hid (show ∀ l ∈ ls.take (k + 1), min l.length 100000 ≤ s + min body.length 100000 from by
            intro l hl
            rw [List.take_succ_eq_append_getElem hlt, List.mem_append] at hl
            rcases hl with hl | hl
            · have := HS.out l hl; omega
            · simp at hl; rw [hl, ← HBD.out]; omega)
          go_wp2_with fail
          refine ⟨⟨k + 1, s + min body.length 100000, by omega, by omega, by go_num, ?_, by omega, HN⟩, by simp [intOf]; omega⟩
          congr 1
          split <;> omega
        · have t1 : decide ((k : Int) < (ls.length : Int)) = true := by simp; omega
          have t2 : decide ((k : Int) < 12) = false := by simp; omega
          go_wp2_with fail
          go_meet
          refine ⟨s, rfl, by omega, Lib.hid (fun l hl => HS.out l ?_), rfl⟩
          rwa [show k = 12 from by omega]
      · have t1 : decide ((k : Int) < (ls.length : Int)) = false := by simp; omega
        go_wp2_with fail
        go_meet
        refine ⟨s, rfl, by omega, Lib.hid (fun l hl => HS.out l ?_), rfl⟩
        rw [List.take_of_length_le (by omega)]
        exact List.mem_of_mem_take hl
  case rest =>
    obtain ⟨s, rfl, hs, HS, hw1⟩ := hcut
    obtain rfl := hw1.symm
    by_cases hbig : 5000 < s
    · go_wp2_with fail
      go_ret
      exact ⟨rfl, HB1.out⟩
    go_wp2_with fail
    refine (putL_any _ ls f 12 w1 HR1.out HF.out (by omega) HL.out).mono ?_
    intro e w2 h2
    obtain ⟨hb2, h2⟩ := h2
    have hsm : ∀ l ∈ ls.take 12, l.length ≤ 65536 := fun l hl => by have := HS.out l hl; omega
    obtain ⟨-, vb, ve, rfl, hvb, hve⟩ := h2.resolve_left (fun h => h.1 hsm)
    obtain ⟨T, hT⟩ : ∃ T, T = ls.take 12 := ⟨_, rfl⟩
    have hTl : T.length ≤ 12 := by rw [hT, List.length_take]; omega
    have hTT : T = ls.take T.length := by rw [hT]; exact take_self ls 12
    rw [← hT] at hsm hvb hve
    obtain ⟨X, hX⟩ : ∃ X, X = laid f T := ⟨_, rfl⟩
    have hXl : X.length ≤ 840000 := by have := laid_le T f hsm; rw [← hX] at this; omega
    rw [← hX] at hvb
    have HB2 := Lib.hid (HB1.out.trans (hb2.mono HB1.out.size)); clear hb2 h2 hT
    have hel : ((endsOf f T).map intv).length = T.length := by rw [List.length_map, endsOf_len]
    obtain ⟨A4, c4, hve2⟩ := row_shape hve
    rw [hel] at hve2
    subst hve2
    have HVE := Lib.hid hve; clear hve hel
    obtain ⟨A3, c3, rfl, hc3x, hc3, _⟩ := id hvb.rd
    have HVB := Lib.hid hvb; clear hvb
    have HX := Lib.hid hX; clear hX
    have HSM := Lib.hid hsm; clear hsm
    have HTT := Lib.hid hTT; clear hTT
    obtain ⟨n, hn⟩ : ∃ n : Nat, n = if 0 ≤ cut ∧ cut < X.length then cut.toNat else X.length := ⟨_, rfl⟩
    have hnX : n ≤ X.length := by rw [hn]; split <;> omega
    have HN := Lib.hid hn; clear hn
    obtain ⟨t, ht⟩ : ∃ t : Nat, (t : Int) = min (max turn 0) n := ⟨(min (max turn 0) n).toNat, by omega⟩
    have htn : t ≤ n := by omega
    have HT := Lib.hid ht; clear ht
    go_upto_region 13 with fail
    go_cut [69] (fun v69 wx => v69 = .bool (decide (0 ≤ cut ∧ cut < X.length)) ∧ wx = w2)
    case first =>
      by_cases hc1 : 0 ≤ cut
      · have t1 : decide (0 ≤ cut) = true := by simpa using hc1
        go_wp2_with fail
        go_meet
        exact ⟨by simp [hc1], rfl⟩
      · have t1 : decide (0 ≤ cut) = false := by simpa using hc1
        go_wp2_with fail
        go_meet
        exact ⟨by simp; intro h; omega, rfl⟩
    case rest =>
      obtain ⟨rfl, hw2⟩ := hcut
      obtain rfl := hw2.symm
      go_upto_if 69 with fail
      go_cut [15] (fun v15 wx => v15 = .int .i64 (n : Int) ∧ wx = w2)
      case first =>
        by_cases hc : 0 ≤ cut ∧ cut < X.length
        · have e1 : n = cut.toNat := by rw [HN.out, if_pos hc]
          have t1 : decide (0 ≤ cut ∧ cut < (X.length : Int)) = true := by simpa using hc
          go_wp2_with fail
          go_meet
          exact ⟨by congr 1; omega, rfl⟩
        · have e1 : n = X.length := by rw [HN.out, if_neg hc]
          have t1 : decide (0 ≤ cut ∧ cut < (X.length : Int)) = false := by simpa using hc
          go_wp2_with fail
          go_meet
          exact ⟨by rw [e1], rfl⟩
      case rest =>
        obtain ⟨rfl, hw2⟩ := hcut
        obtain rfl := hw2.symm
        go_upto_region 15 with fail
        go_cut [16] (fun v16 wx => v16 = .int .i64 (t : Int) ∧ wx = w2)
        case first =>
          by_cases hc1 : turn < 0
          · have e1 : (if turn < 0 then 0 else turn) = 0 := if_pos hc1
            have e2 : t = 0 := by have := HT.out; omega
            go_wp2_with fail
            all_goals
              go_meet
              refine ⟨?_, rfl⟩
              congr 1
              omega
          · have e1 : (if turn < 0 then 0 else turn) = turn := if_neg hc1
            by_cases hc2 : (n : Int) < turn
            · have e2 : t = n := by have := HT.out; omega
              go_wp2_with fail
              all_goals
                go_meet
                refine ⟨?_, rfl⟩
                congr 1
                omega
            · have e2 : (t : Int) = turn := by have := HT.out; omega
              go_wp2_with fail
              all_goals
                go_meet
                refine ⟨?_, rfl⟩
                congr 1
                omega
        case rest =>
          obtain ⟨rfl, hw2⟩ := hcut
          obtain rfl := hw2.symm
          obtain ⟨F, hF, hcutF, hrdF⟩ : ∃ F : List UInt8, F = X.take n ∧ (∀ W : World, (Instr.slice 25 (.slice A3 X.length c3) none (some (.int .i64 (n : Int))) none).run Try.prog W = .ok (.slice A3 F.length c3) W) ∧ (∀ w : World, RdB w (.slice A3 X.length c3) X → RdB w (.slice A3 F.length c3) F) := by
            obtain ⟨r, h1, h2, h3⟩ := cut_h A3 c3 X (n : Int) (by omega) (by omega) hc3x
            exact ⟨r, by rw [h1]; rfl, h2, h3⟩
          have hFl : F.length = n := by rw [hF, List.length_take]; omega
          have hz : RdB (w2.alloc (.cells #[] 5)) (.slice A3 F.length c3) F := (hrdF w2 HVB.out.rd).below ((Below.refl _ _).alloc (Nat.le_refl _) _)
          have ho : Own (w2.alloc (.cells #[] 5)) w2.heap.size (.slice (some ⟨w2.heap.size, 0, none⟩) 0 0) [] := World.ownsRow_made w2 #[] 0 (Nat.le_refl _) (by simp [maxLen]) (by simp)
          have hba : Below w2.heap.size w2 (w2.alloc (.cells #[] 5)) := (Below.refl _ _).alloc (Nat.le_refl _) _
          have HBA := Lib.hid hba; clear hba
          rw [hFl] at hz hcutF
          have HZ := Lib.hid hz; clear hz
          have HO := Lib.hid ho; clear ho
          have HF2 := Lib.hid hF; clear hF hrdF
          have HFL := Lib.hid hFl; clear hFl
          have hnl : n ≤ 840000 := by omega
          go_wp2_with (at_builtin; refine own_append_row w2.heap.size rfl (.tmp 75) (.tmp 78) rfl _ _ [] F rfl rfl HO.out HZ.out ?hb ?hl ?_; (case hb => simp); (case hl => have := HFL.out; simp; omega); intro v1 w3 hown hb3 hg hat; simp only [List.nil_append] at hown; have HOW := Lib.hid hown; have HB3 := Lib.hid (HBA.out.trans hb3); clear hown hb3 hg hat)
          obtain ⟨A1, k1, hv1, _, _, _⟩ := id HOW.out.rd
          rw [HFL.out] at hv1
          subst hv1
          obtain ⟨p, hp⟩ : ∃ p, p = n - t := ⟨_, rfl⟩
          have hpi : (n : Int) - (t : Int) = (p : Int) := by omega
          have hpn : p ≤ n := by omega
          have HTU := Lib.hid (show Tur X p n p F from by rw [HF2.out]; exact Tur.start X p n hnX)
          rw [hpi]
          have HPI := Lib.hid hpi; clear hpi
          have HP := Lib.hid hp; clear hp
          go_loopw [18] (fun v18 wr => ∃ (k : Nat) (L : List UInt8), p ≤ k ∧ k ≤ n ∧ v18 = .int .i64 (k : Int) ∧ Hid (Tur X p n k L) ∧ Own wr w2.heap.size (.slice A1 n k1) L ∧ Below w2.heap.size w2 wr) (fun v18 _ => n - (intOf v18).toNat)
          case atStart => exact ⟨p, F, Nat.le_refl _, hpn, rfl, HTU, HOW.out, HB3.out⟩
          case round =>
            obtain ⟨k, L, hk1, hk2, rfl, hT, hO, hB⟩ := hrel
            have HO4 := Lib.hid hO; clear hO
            have HB4 := Lib.hid hB; clear hB
            by_cases hkn : k < n
            · have hLl : L.length = n := hT.out.1
              obtain ⟨gx, capx, hx1, _, hx2, hx3, hx4⟩ := HO4.out.form (by omega)
              injection hx1 with hx1 _ hx5
              subst hx1 hx5
              obtain ⟨hci, hfi⟩ := HO4.out.at_ k (by omega)
              rw [bv_nat] at hci
              have hset := HO4.out.set_ k (L[k] ^^^ 255)
              have hstep := hT.out.step hk1 hkn (by omega)
              obtain ⟨x, hx⟩ : ∃ x, x = L[k] := ⟨_, rfl⟩
              rw [← hx] at hset hci hstep
              obtain ⟨L2, hL2⟩ : ∃ L2, L2 = L.set k (x ^^^ 255) := ⟨_, rfl⟩
              rw [← xor_bv, ← hL2] at hset
              rw [← hL2] at hstep
              rw [show ((255 : UInt8).toNat : Int) = 255 from rfl] at hset
              have HSET := Lib.hid hset; clear hset hL2 hx
              have HST := Lib.hid hstep; clear hstep hLl
              have t1 : decide ((k : Int) < (n : Int)) = true := by simp; omega
              go_wp2_with fail
              go_roundw
              case rel => exact ⟨k + 1, L2, by omega, by omega, by go_num, HST, HSET.out.1, HB4.out.trans HSET.out.2⟩
              case measure => simp [intOf]; omega
            · have t1 : decide ((k : Int) < (n : Int)) = false := by simp; omega
              obtain rfl : n = k := by omega
              have hLX : L = turned X p n := hT.out.done hnX
              have hLl : L.length = n := hT.out.1
              have HLX := Lib.hid hLX; clear hLX
              have HLL := Lib.hid hLl; clear hLl
              clear hT
              go_upto_block 4 with fail
              go_cut [19] (fun v19 wx => ∃ m : Nat, v19 = .int .i64 (m : Int) ∧ m ≤ T.length ∧ Hid ((laid f (T.take m)).length ≤ p) ∧ Hid (m < T.length → p < (laid f (T.take (m + 1))).length) ∧ wx = wr)
              case first =>
                go_wp2_with fail
                go_loop [19, 20] (fun v19 v20 => ∃ m : Nat, v19 = .int .i64 (m : Int) ∧ v20 = .int .i64 (m : Int) ∧ m ≤ T.length ∧ Hid ((laid f (T.take m)).length ≤ p)) (fun v19 _ => T.length - (intOf v19).toNat)
                case atStart => exact ⟨0, rfl, rfl, by omega, Lib.hid (by simp [laid])⟩
                case round =>
                  obtain ⟨m, rfl, rfl, hm, hme⟩ := hrel
                  by_cases hmT : m < T.length
                  · obtain ⟨g, cap, hg1, hg2, hg3, hg4, -, hcells⟩ := ends_cell HVE.out (by omega)
                    injection hg1 with hg1 _ hg5
                    subst hg1 hg5
                    have hck : wr.cell? ⟨g, m, none⟩ = _ := (HB4.out.cell (p := ⟨g, m, none⟩) hg2).trans (hcells m hmT)
                    obtain ⟨E, hE⟩ : ∃ E, E = (laid f (T.take (m + 1))).length := ⟨_, rfl⟩
                    rw [← hE] at hck
                    have HE := Lib.hid hE; clear hE hcells
                    have hpi := HPI.out
                    have t2 : decide ((m : Int) < (T.length : Int)) = true := by simp; omega
                    by_cases hEp : E ≤ p
                    · have t3 : decide ((E : Int) ≤ (p : Int)) = true := by simp; omega
                      go_wp2_with fail
                      go_round
                      case rel => exact ⟨m + 1, by go_num, by go_num, by omega, Lib.hid (by rw [← HE.out]; exact hEp)⟩
                      case measure => simp [intOf]; omega
                    · have t3 : decide ((E : Int) ≤ (p : Int)) = false := by simp; omega
                      go_wp2_with fail
                      go_meet
                      exact ⟨m, rfl, hm, hme, Lib.hid (fun _ => by rw [← HE.out]; omega), rfl⟩
                  · have t2 : decide ((m : Int) < (T.length : Int)) = false := by simp; omega
                    go_wp2_with fail
                    go_meet
                    exact ⟨m, rfl, hm, hme, Lib.hid (fun h => absurd h hmT), rfl⟩
              case rest =>
                obtain ⟨m, rfl, hm, hme, hmx, hwr⟩ := hcut
                obtain rfl := hwr.symm
                have hcr := crashed f T HSM.out n t m htn (by rw [← HX.out]; exact hnX) hm (by rw [← HP.out]; exact hme.out) (by rw [← HP.out]; exact hmx.out)
                rw [← HX.out, ← HP.out, ← HLX.out, Nat.mod_eq_of_lt HF.out] at hcr
                obtain ⟨hpre, hnone⟩ := hcr
                obtain ⟨E, hE⟩ : ∃ E, E = (laid f (T.take m)).length := ⟨_, rfl⟩
                rw [← hE] at hpre hnone
                have hEp : E ≤ p := by rw [hE]; exact hme.out
                have HE := Lib.hid hE; clear hE hme hmx
                have HNO := Lib.hid hnone; clear hnone
                have HPRE := Lib.hid hpre; clear hpre
                have HRD := Lib.hid HO4.out.rd
                go_wp2_with fail
                refine (fall_any _ L f wr HRD.out (by rw [HLL.out]; omega) HF.out).mono ?_
                intro e w5 h5
                obtain ⟨hb5, h5⟩ := h5.known HPRE.out (fun body h => by rw [HNO.out _ (Nat.le_refl _)] at h; cases h)
                obtain ⟨-, v5, us, rfl, hrow⟩ := h5.resolve_left (fun h => by obtain ⟨k, s, body, -, h2, -⟩ := h.1; rw [HNO.out _ (by omega)] at h2; cases h2)
                have HB5 := Lib.hid (HB4.out.trans (hb5.mono HB4.out.size)); clear hb5 h5
                have HB5w := Lib.hid (HB2.out.trans (HB5.out.mono HB2.out.size))
                have hTk : T.take m = ls.take (T.take m).length := by
                  rw [List.length_take, Nat.min_eq_left (by omega)]
                  conv => lhs; rw [HTT.out]
                  rw [List.take_take, Nat.min_eq_left (by omega)]
                have hkl : (T.take m).length = m := by rw [List.length_take]; omega
                have HTK := Lib.hid hTk; clear hTk
                have HROW := Lib.hid hrow
                obtain ⟨A5, c5, rfl, _, _⟩ := hrow.form
                rw [hkl]
                have HKL := Lib.hid hkl
                clear hrow hkl
                go_wp2_with fail
                refine (fbegin_any _ _ (T.take m) ls w5 (by rw [← HTK.out]; have := HROW.out.rds; rwa [HKL.out] at this) (HR.out.below HB5w.out) HTK.out).mono ?_
                rintro e w6 ⟨rfl, hb6⟩
                have HB6 := Lib.hid (HB5.out.trans (hb6.mono HB5.out.size))
                have HB6w := Lib.hid (HB5w.out.trans (hb6.mono HB5w.out.size)); clear hb6
                by_cases hm0 : 0 < m
                · obtain ⟨g, cap, hg1, hg2, hg3, hg4, -, hcells⟩ := ends_cell HVE.out (by omega)
                  injection hg1 with hg1 _ hg5
                  subst hg1 hg5
                  have hck := hcells (m - 1) (by omega)
                  rw [Nat.sub_add_cancel hm0, ← HE.out] at hck
                  have hck2 : w6.cell? ⟨g, m - 1, none⟩ = _ := (HB6.out.cell (p := ⟨g, m - 1, none⟩) hg2).trans hck
                  have hkn : ((m : Int) - 1).toNat = m - 1 := by omega
                  have t2 : decide ((0 : Int) < (m : Int)) = true := by simp; omega
                  clear hck hcells
                  go_wp2_with fail
                  go_ret
                  exact ⟨by simp, HB6w.out⟩
                · have t2 : decide ((0 : Int) < (m : Int)) = false := by simp; omega
                  obtain rfl : m = 0 := by omega
                  have e0 : E = 0 := by rw [HE.out]; simp [laid]
                  subst e0
                  go_wp2_with fail
                  go_ret
                  exact ⟨by simp, HB6w.out⟩

theorem frameCrashes_any (f : Int) (v : Value) (ls : List (List UInt8)) (cut turn : Int) (w : World) (hf : (Lit.int .u64 f).wf = true) (hr : RdBs w v ls) (h1 : (Lit.int .i64 cut).wf = true) (h2 : (Lit.int .i64 turn).wf = true) (hl : ls.flatten.length + ls.length ≤ 1048576) :
    Calls Try.prog 13 #[.int .u64 f, v, .int .i64 cut, .int .i64 turn] w fun e w' => e = .returned (.bool true) ∧ Below w.heap.size w w' := by
  obtain ⟨n, rfl, hn'⟩ := u64_of hf
  exact frameCrashes_nat n v ls cut turn w hn' hr (i64_of h1) (i64_of h2) hl
end Go.Proofs.Ytggjipfdfpdecaa
