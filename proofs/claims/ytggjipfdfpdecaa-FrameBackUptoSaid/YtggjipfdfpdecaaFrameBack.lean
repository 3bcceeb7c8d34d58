/- The walk of the law FrameBack: bodies are told as they were put; bytes that are told are the frames of what is told. Condition: what comes in has together at most 1048576 values. -/
import Derived.Test.YtggjipfdfpdecaaFBeg
import Derived.Test.YtggjipfdfpdecaaFSh
namespace Go.Proofs.Ytggjipfdfpdecaa
open Go.RowKit
attribute [local go_sem] bs_list

/-- What put answers, of both kinds. -/
theorem PutR.both {w w' : World} {f : Nat} {ls : List (List UInt8)} {e : Ending} (h : PutR w f ls e w') : ∃ (T : List (List UInt8)) (vb ve : Value) (ok : Bool), e = .returned (.tuple #[vb, ve, .bool ok]) ∧ T = ls.take T.length ∧ (∀ l ∈ T, l.length ≤ 65536) ∧
    Own w' w.heap.size vb (laid f T) ∧ w'.ownsRow w.heap.size 3 1 ve ((endsOf f T).map intv).length ((endsOf f T).map intv) ∧ Below w.heap.size w w' := by
  obtain ⟨hb, ⟨_, rfl⟩ | ⟨h1, vb, ve, rfl, h2, h3⟩⟩ := h
  · exact ⟨[], _, _, false, rfl, by simp, by simp, by simpa [laid] using Own.nil w' w.heap.size, ⟨rfl, .inl ⟨rfl, rfl⟩⟩, hb⟩
  · exact ⟨ls, vb, ve, true, rfl, by simp, h1, h2, h3, hb⟩
theorem row_form {w : World} {base E : Nat} {v : Value} {us : List Value} (h : w.ownsRow base E 1 v us.length us) : ∃ A c, v = .slice A us.length c := by
  rcases h.2 with ⟨rfl, h0⟩ | ⟨g, cap, cur, rfl, _⟩
  · exact ⟨none, 0, by rw [h0]⟩
  · exact ⟨_, cap, rfl⟩

set_option maxRecDepth 100000 in
set_option maxHeartbeats 4000000 in
theorem frameBack_nat (f : Nat) (v : Value) (ls : List (List UInt8)) (vr : Value) (raw : List UInt8) (w : World) (hf : f < two64) (hr : RdBs w v ls) (hraw : RdB w vr raw) (hl : (ls.flatten.length + ls.length) + raw.length ≤ 1048576) :
    Calls Try.prog 15 #[.int .u64 f, v, vr] w fun e w' => e = .returned (.bool true) ∧ Below w.heap.size w w' := by
  obtain ⟨A, c, rfl, _, _, _⟩ := id hr
  obtain ⟨A2, c2, rfl, hc2, _, _⟩ := id hraw
  have HR := Lib.hid hr; clear hr
  have HRAW := Lib.hid hraw; clear hraw
  have HF := Lib.hid hf; clear hf
  have hl1 : raw.length ≤ 1048576 := by omega
  have HL := Lib.hid (show ls.flatten.length + ls.length ≤ 1048576 from by omega); clear hl
  go_enter Try.func15, Try.ntmps15
  go_wp2_with fail
  refine (fshown_any w).mono ?_
  rintro e w1 ⟨rfl, hb1⟩
  have HB1 := Lib.hid hb1; clear hb1
  go_wp2_with fail
  refine (putL_any _ ls f 20 w1 (HR.out.below HB1.out) HF.out (by omega) HL.out).mono ?_
  intro e w2 h2
  obtain ⟨T, vb, ve, ok, rfl, hT, hTs, hvb, hve, hb2⟩ := h2.both
  have HB2 := Lib.hid (HB1.out.trans (hb2.mono HB1.out.size)); clear hb2 h2
  obtain ⟨X, hX⟩ : ∃ X, X = laid f T := ⟨_, rfl⟩
  have hTl : T.length ≤ 20 := by have := congrArg List.length hT; rw [List.length_take, List.length_take] at this; omega
  have hXl : X.length ≤ 1400000 := by have := laid_le T f hTs; rw [← hX] at this; omega
  have hpre := pre_laid T f [] [] rfl hTs
  rw [List.append_nil, List.nil_append, ← hX, Nat.mod_eq_of_lt HF.out, List.length_nil, Nat.zero_add] at hpre
  have hT2 : T = ls.take T.length := by
    have := hT
    rw [List.take_take] at this
    rw [this]
    simp
  rw [← hX] at hvb
  have hel : ((endsOf f T).map intv).length = T.length := by rw [List.length_map, endsOf_len]
  obtain ⟨A3, c3, rfl, _, _, _⟩ := id hvb.rd
  obtain ⟨A4, c4, hve2⟩ := row_form hve
  rw [hel] at hve2
  subst hve2
  have HT2 := Lib.hid hT2; clear hT2 hT hTs hve hel hX
  have HPRE := Lib.hid hpre; clear hpre
  have HVB := Lib.hid hvb; clear hvb
  go_wp2_with fail
  refine (fall_any _ X f w2 HVB.out.rd (by omega) HF.out).mono ?_
  intro e w3 h3
  obtain ⟨hb3, h3⟩ := h3.known HPRE.out (stop_end X _)
  obtain ⟨-, v3, us, rfl, hrow⟩ := h3.resolve_left (fun h => late_end X _ h.1)
  have HB3 := Lib.hid (HB2.out.trans (hb3.mono HB2.out.size)); clear hb3 h3
  have HROW := Lib.hid hrow
  obtain ⟨A5, c5, rfl, _, _⟩ := hrow.form
  clear hrow
  cases ok
  all_goals
    go_wp2_with fail
    refine (fbegin_any _ _ T ls w3 (by rw [← HT2.out]; exact HROW.out.rds) (HR.out.below HB3.out) HT2.out).mono ?_
    rintro e w4 ⟨rfl, hb4⟩
    have HB4 := Lib.hid (HB3.out.trans (hb4.mono HB3.out.size)); clear hb4
    go_wp2_with fail
    have ht := ftake_any _ raw (0 : Nat) w4 (HRAW.out.below HB4.out) (by omega)
    have e00 : (((0 : Nat) : Int)) = 0 := rfl
    rw [e00] at ht
    cases hk : frAt raw (0 : Int) with
    | none =>
      rw [hk] at ht
      refine ht.mono ?_
      rintro e w5 ⟨rfl, hb5⟩
      have HB5 := Lib.hid (HB4.out.trans (hb5.mono HB4.out.size)); clear hb5 ht hk
      simp only [noF]
      go_wp2_with fail
      go_ret
      exact ⟨rfl, HB5.out⟩
    | some p =>
      obtain ⟨s, body⟩ := p
      obtain ⟨_, _, hroom, hs64, hbl, hfr⟩ := frAt_some hk
      simp only at hroom hs64 hbl hfr
      rw [hk] at ht
      refine ht.mono ?_
      rintro e w5 ⟨v5, rfl, ho5, hb5⟩
      have HB5 := Lib.hid (HB4.out.trans (hb5.mono HB4.out.size)); clear hb5 ht hk
      have HO5 := Lib.hid ho5; clear ho5
      obtain ⟨nx, hnx⟩ : ∃ nx, nx = 32 * bl body.length := ⟨_, rfl⟩
      have hFr : frameOf s body = raw.take nx := by rw [hnx]; have := hfr.2.2.1; rwa [show ((0 : Int)).toNat = 0 from rfl, List.drop_zero] at this
      have hnl : nx ≤ raw.length := by rw [hnx]; have := hfr.2.2.2; rwa [show ((0 : Int)).toNat = 0 from rfl, List.drop_zero] at this
      have HFR := Lib.hid hFr; clear hFr hfr hroom
      simp only
      rw [← hnx]
      have HNX := Lib.hid hnx; clear hnx
      go_wp2_with fail
      refine (fput_any _ _ [] body s w5 (RdB.nil _) HO5.out.rd hs64 (by simp) rfl hbl).mono ?_
      rintro e w6 ⟨v6, rfl, ho6, hb6⟩
      rw [List.nil_append, HFR.out] at ho6
      obtain ⟨F, cF, hF, hcutF, hrdF⟩ : ∃ (F : List UInt8) (cF : Nat), F = raw.take nx ∧ (∀ W : World, (Instr.slice 25 (.slice A2 raw.length c2) none (some (.int .i64 (nx : Int))) none).run Try.prog W = .ok (.slice A2 F.length c2) W) ∧ (∀ w : World, RdB w (.slice A2 raw.length c2) raw → RdB w (.slice A2 F.length c2) F) := by
        obtain ⟨r, h1, h2, h3⟩ := cut_h A2 c2 raw (nx : Int) (by omega) (by omega) hc2
        exact ⟨r, 0, by rw [h1]; rfl, h2, h3⟩
      rw [← hF] at ho6
      have hFl : F.length = nx := by rw [hF, List.length_take]; omega
      have HB6 := Lib.hid (HB5.out.trans (hb6.mono HB5.out.size)); clear hb6
      have k1 := fun q => conv_rd (ho6.rd.drewN q)
      have k2 := fun q => conv_rd ((hrdF w6 (HRAW.out.below HB6.out)).drewN q)
      obtain ⟨A6, c6, rfl, _, _, _⟩ := id ho6.rd
      rw [hFl] at k1 k2 hcutF ⊢
      have HFL := Lib.hid hFl; clear hFl ho6 hrdF hF
      go_wp2_with fail
      go_quiet (fail)
      go_wp2_with fail
      go_ret
      exact ⟨rfl, below_drewN HB6.out _⟩

theorem frameBack_any (f : Int) (v : Value) (ls : List (List UInt8)) (vr : Value) (raw : List UInt8) (w : World) (hf : (Lit.int .u64 f).wf = true) (hr : RdBs w v ls) (hraw : RdB w vr raw) (hl : (ls.flatten.length + ls.length) + raw.length ≤ 1048576) :
    Calls Try.prog 15 #[.int .u64 f, v, vr] w fun e w' => e = .returned (.bool true) ∧ Below w.heap.size w w' := by
  obtain ⟨n, rfl, hn'⟩ := u64_of hf
  exact frameBack_nat n v ls vr raw w hn' hr hraw hl
end Go.Proofs.Ytggjipfdfpdecaa
