/- The walks of frame.All and varveref04.All: which frames stand one behind the other, and what no crash leaves. -/
import Derived.Test.YtggjipfdfpdecaaRow
import Derived.Test.YtggjipfdfpdecaaFrL
namespace Go.Proofs.Ytggjipfdfpdecaa
open Go.RowKit

/-- What an All answers. -/
def AllR (R : World → Nat → Value → List Value → List (List UInt8) → Prop) (w : World) (b : List UInt8) (first : Nat) (e : Ending) (w' : World) : Prop :=
  ∃ (ls : List (List UInt8)) (at' f' : Nat), Pre b 0 first ls at' f' ∧ Stop b at' f' ∧ Below w.heap.size w w' ∧
    ((Late b at' f' ∧ e = .returned (.tuple #[.slice none 0 0, .int .i64 0, .int .i64 41])) ∨ (¬ Late b at' f' ∧ ∃ v us, e = .returned (.tuple #[v, .int .i64 at', .int .i64 0]) ∧ R w' w.heap.size v us ls))

set_option maxRecDepth 100000 in
set_option maxHeartbeats 4000000 in
theorem fall_any (v : Value) (b : List UInt8) (first : Nat) (w : World) (hr : RdB w v b) (hl : b.length ≤ 140737480000000) (hf : first < two64) :
    Calls Try.prog 44 #[v, .int .u64 first] w (AllR RowsO w b first) := by
  obtain ⟨A, c, rfl, _, _, _⟩ := id hr
  have HR := Lib.hid hr; clear hr
  have HL := Lib.hid hl
  unfold two64 at hf
  go_enter Try.func44, Try.ntmps44
  go_wp2_with fail
  go_step3
  go_wp2_with fail
  go_step3
  go_wp2_with fail
  go_loopw [1, 7, 8] (fun v1 v7 v8 wr => ∃ (ls : List (List UInt8)) (us : List Value) (at' f' : Nat), v1 = .int .u64 f' ∧ v8 = .int .i64 at' ∧ Hid (Pre b 0 first ls at' f') ∧ RowsO wr w.heap.size v7 us ls ∧ Below w.heap.size w wr) (fun _ _ v8 _ => b.length + 64 - (intOf v8).toNat)
  case atStart => exact ⟨[], [], 0, first, rfl, rfl, Lib.hid ⟨rfl, rfl⟩, RowsO.nil _ _, Below.refl _ _⟩
  case round =>
    obtain ⟨ls, us, at', f', rfl, rfl, hpre, hrow, hb⟩ := hrel
    have hfl := hpre.out.f_lt hf
    unfold two64 at hfl
    obtain ⟨hal, hab⟩ := hpre.out.len (by omega)
    have HROW := Lib.hid hrow; clear hrow
    have HB := Lib.hid hb; clear hb
    have HPRE := hpre
    go_wp2_with fail
    have ht := ftake_any _ b (at' : Int) wr (HR.out.below HB.out) HL.out
    cases hk : frAt b (at' : Int) with
    | none =>
      rw [hk] at ht
      refine ht.mono ?_
      rintro e wx ⟨rfl, hbx⟩
      have HSTOP := Lib.hid (show Stop b at' f' from fun body hh => by rw [hk] at hh; cases hh)
      have HROWX := Lib.hid (HROW.out.below hbx)
      have HBX := Lib.hid (HB.out.trans (hbx.mono HB.out.size))
      clear hbx ht hk
      simp only [noF]
      go_wp2_with fail
      go_loopw [13] (fun v13 WQ => ∃ k : Nat, v13 = .int .i64 ((at' + 32 * k : Nat) : Int) ∧ at' + 32 * k ≤ b.length + 32 ∧ Hid (∀ j, j < k → ∀ s body, frAt b ((at' + 32 * j : Nat) : Int) = some (s, body) → s < f') ∧ Below wx.heap.size wx WQ) (fun v13 _ => b.length + 64 - (intOf v13).toNat)
      case atStart => exact ⟨0, by simp, by omega, Lib.hid (fun j hj => absurd hj (by omega)), Below.refl _ _⟩
      case round =>
        obtain ⟨k, rfl, hkl, hno, hbq⟩ := hrel
        have HBQ := Lib.hid hbq; clear hbq
        obtain ⟨q, hq⟩ : ∃ q, q = at' + 32 * k := ⟨_, rfl⟩
        rw [← hq] at hkl ⊢
        by_cases hql : q < b.length
        · have hw32 : IntKind.i64.wrap ((q : Int) + 32) = (q : Int) + 32 := IntWalk.i64_in _ (by omega)
          have HQ := Lib.hid hq; clear hq
          go_wp2_with fail
          have hin := HBX.out.trans (HBQ.out.mono HBX.out.size)
          have ht2 := ftake_any _ b (q : Int) wr (HR.out.below hin) HL.out
          have HIN := Lib.hid hin; clear hin
          cases hk2 : frAt b (q : Int) with
          | none =>
            rw [hk2] at ht2
            refine ht2.mono ?_
            rintro e w3 ⟨rfl, hb3⟩
            have HK2 := Lib.hid hk2; clear hk2 ht2
            have HB3 := Lib.hid (HBQ.out.trans (hb3.mono HBQ.out.size)); clear hb3
            simp only [noF]
            go_wp2_with fail
            go_roundw
            case rel =>
              refine ⟨k + 1, by have := HQ.out; congr 1; omega, by have := HQ.out; omega, Lib.hid ?_, HB3.out⟩
              intro j hj s body hjs
              by_cases e : j = k
              · subst e
                rw [← HQ.out, HK2.out] at hjs
                cases hjs
              · exact hno.out j (by omega) s body hjs
            case measure => simp [intOf]; omega
          | some p =>
            obtain ⟨s2, body2⟩ := p
            rw [hk2] at ht2
            refine ht2.mono ?_
            rintro e w3 ⟨vb2, rfl, hob, hb3⟩
            have HK2 := Lib.hid hk2; clear hk2 ht2 hob
            have HIN3 := Lib.hid (HIN.out.trans (hb3.mono HIN.out.size))
            have HB3 := Lib.hid (HBQ.out.trans (hb3.mono HBQ.out.size)); clear hb3
            by_cases hlate : f' ≤ s2
            · go_wp2_with fail
              (try rw [Exit.noGoto_ret])
              go_ret3
              refine ⟨ls, at', f', HPRE.out, HSTOP.out, HIN3.out, .inl ⟨⟨k, s2, body2, ?_, ?_, hlate⟩, rfl⟩⟩
              · rw [← HQ.out]; exact hql
              · rw [← HQ.out]; exact HK2.out
            · go_wp2_with fail
              go_roundw
              case rel =>
                refine ⟨k + 1, by have := HQ.out; congr 1; omega, by have := HQ.out; omega, Lib.hid ?_, HB3.out⟩
                intro j hj s body hjs
                by_cases e : j = k
                · subst e
                  rw [← HQ.out, HK2.out] at hjs
                  injection hjs with hjs
                  injection hjs with h1 h2
                  omega
                · exact hno.out j (by omega) s body hjs
              case measure => simp [intOf]; omega
        · have HQ := Lib.hid hq; clear hq
          go_wp2_with fail
          (try rw [Exit.noGoto_ret])
          go_ret3
          refine ⟨ls, at', f', HPRE.out, HSTOP.out, HBX.out.trans (HBQ.out.mono HBX.out.size), .inr ⟨?_, _, us, rfl, HROWX.out.below HBQ.out⟩⟩
          rintro ⟨j, s, body, hj1, hj2, hj3⟩
          have h1 := HQ.out
          have := hno.out j (by omega) s body hj2
          omega
    | some p =>
      obtain ⟨s, body⟩ := p
      rw [hk] at ht
      refine ht.mono ?_
      rintro e wx ⟨vb, rfl, hob, hbx⟩
      obtain ⟨_, _, hroom, hs64, hbl, _⟩ := frAt_some hk
      simp only at hroom hs64 hbl
      obtain ⟨m, hm⟩ : ∃ m, m = 32 * bl body.length := ⟨_, rfl⟩
      have hbp := bl_pos body.length
      rw [← hm]
      have hroom2 : at' + m ≤ b.length ∧ 32 ≤ m := by omega
      clear hroom
      have HM := Lib.hid hm; clear hm hbp
      have HROWX := Lib.hid (HROW.out.below hbx)
      have HBX := Lib.hid (HB.out.trans (hbx.mono HB.out.size))
      have HOB := Lib.hid hob; clear hob ht
      by_cases hsf : s = f'
      · have hpre2 := Pre.snoc HPRE.out (by rw [← hsf]; exact hk)
        rw [← HM.out] at hpre2
        have HP2 := Lib.hid hpre2; clear hpre2 hk
        have t : ((s : Int) != (f' : Int)) = false := by rw [hsf]; simp
        have HROW2 := HROWX
        have hul : us.length * 32 ≤ b.length := by rw [HROW.out.2.1]; omega
        have hlast : us.length ≤ 4398046250000 := by omega
        have hs0 := hbx.size
        have HSF := Lib.hid hsf; clear hsf hbx hal hul
        obtain ⟨A5, c5, rfl, _, _, _⟩ := id HOB.out.rd
        go_wp2_with (at_builtin; refine row_append1 w.heap.size _ ?hH 22 25 24 (.slice none 0 0) Try.underlying22 info25 rfl rfl (.tmp 33) (.tmp 35) rfl _ us _ ?hy1 rfl rfl HROWX.out.1 ?hb1 ?hl1 ?hl2 ?_; (case hH => rfl); (case hy1 => rfl); (case hb1 => exact HBX.out.size); (case hl1 => omega); (case hl2 => omega); intro v1 w1 hown hb1 hg hat; have HN := Lib.hid (HROW2.out.snoc HB.out.size (fun j u kk hj hu => (World.ownsRow.lt (HROW.out.2.2.1 j u (ls[j]'(by have := get_lt hj; have := HROW.out.2.1; omega)) hj (List.getElem?_eq_getElem _)) kk hu).2) HOB.out hg hown); have HB1 := Lib.hid (HBX.out.trans hb1); clear hown hb1 hg hat)
        go_roundw
        case rel => exact ⟨ls ++ [body], us ++ [.slice A5 body.length c5], at' + m, (f' + 1) % two64, by unfold two64; simp [IntKind.wrap_u64], by simp, HP2, HN.out, HB1.out⟩
        case measure => simp [intOf]; omega
      · have t : ((s : Int) != (f' : Int)) = true := by rw [bne_iff_ne]; omega
        have HSTOP := Lib.hid (show Stop b at' f' from fun body' hh => by rw [hk] at hh; injection hh with hh; injection hh with h1 _; exact hsf h1)
        have HSF := Lib.hid hsf; clear hsf hbx hk
        go_wp2_with fail
        go_loopw [13] (fun v13 WQ => ∃ k : Nat, v13 = .int .i64 ((at' + 32 * k : Nat) : Int) ∧ at' + 32 * k ≤ b.length + 32 ∧ Hid (∀ j, j < k → ∀ s body, frAt b ((at' + 32 * j : Nat) : Int) = some (s, body) → s < f') ∧ Below wx.heap.size wx WQ) (fun v13 _ => b.length + 64 - (intOf v13).toNat)
        case atStart => exact ⟨0, by simp, by omega, Lib.hid (fun j hj => absurd hj (by omega)), Below.refl _ _⟩
        case round =>
          obtain ⟨k, rfl, hkl, hno, hbq⟩ := hrel
          have HBQ := Lib.hid hbq; clear hbq
          obtain ⟨q, hq⟩ : ∃ q, q = at' + 32 * k := ⟨_, rfl⟩
          rw [← hq] at hkl ⊢
          by_cases hql : q < b.length
          · have hw32 : IntKind.i64.wrap ((q : Int) + 32) = (q : Int) + 32 := IntWalk.i64_in _ (by omega)
            have HQ := Lib.hid hq; clear hq
            go_wp2_with fail
            have hin := HBX.out.trans (HBQ.out.mono HBX.out.size)
            have ht2 := ftake_any _ b (q : Int) wr (HR.out.below hin) HL.out
            have HIN := Lib.hid hin; clear hin
            cases hk2 : frAt b (q : Int) with
            | none =>
              rw [hk2] at ht2
              refine ht2.mono ?_
              rintro e w3 ⟨rfl, hb3⟩
              have HK2 := Lib.hid hk2; clear hk2 ht2
              have HB3 := Lib.hid (HBQ.out.trans (hb3.mono HBQ.out.size)); clear hb3
              simp only [noF]
              go_wp2_with fail
              go_roundw
              case rel =>
                refine ⟨k + 1, by have := HQ.out; congr 1; omega, by have := HQ.out; omega, Lib.hid ?_, HB3.out⟩
                intro j hj s body hjs
                by_cases e : j = k
                · subst e
                  rw [← HQ.out, HK2.out] at hjs
                  cases hjs
                · exact hno.out j (by omega) s body hjs
              case measure => simp [intOf]; omega
            | some p =>
              obtain ⟨s2, body2⟩ := p
              rw [hk2] at ht2
              refine ht2.mono ?_
              rintro e w3 ⟨vb2, rfl, hob, hb3⟩
              have HK2 := Lib.hid hk2; clear hk2 ht2 hob
              have HIN3 := Lib.hid (HIN.out.trans (hb3.mono HIN.out.size))
              have HB3 := Lib.hid (HBQ.out.trans (hb3.mono HBQ.out.size)); clear hb3
              by_cases hlate : f' ≤ s2
              · go_wp2_with fail
                (try rw [Exit.noGoto_ret])
                go_ret3
                refine ⟨ls, at', f', HPRE.out, HSTOP.out, HIN3.out, .inl ⟨⟨k, s2, body2, ?_, ?_, hlate⟩, rfl⟩⟩
                · rw [← HQ.out]; exact hql
                · rw [← HQ.out]; exact HK2.out
              · go_wp2_with fail
                go_roundw
                case rel =>
                  refine ⟨k + 1, by have := HQ.out; congr 1; omega, by have := HQ.out; omega, Lib.hid ?_, HB3.out⟩
                  intro j hj s body hjs
                  by_cases e : j = k
                  · subst e
                    rw [← HQ.out, HK2.out] at hjs
                    injection hjs with hjs
                    injection hjs with h1 h2
                    omega
                  · exact hno.out j (by omega) s body hjs
                case measure => simp [intOf]; omega
          · have HQ := Lib.hid hq; clear hq
            go_wp2_with fail
            (try rw [Exit.noGoto_ret])
            go_ret3
            refine ⟨ls, at', f', HPRE.out, HSTOP.out, HBX.out.trans (HBQ.out.mono HBX.out.size), .inr ⟨?_, _, us, rfl, HROWX.out.below HBQ.out⟩⟩
            rintro ⟨j, s, body, hj1, hj2, hj3⟩
            have h1 := HQ.out
            have := hno.out j (by omega) s body hj2
            omega
end Go.Proofs.Ytggjipfdfpdecaa
