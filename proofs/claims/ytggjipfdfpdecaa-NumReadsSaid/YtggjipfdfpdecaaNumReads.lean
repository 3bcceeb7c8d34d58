/- The walk of the law NumReads: at any place of any bytes a number, a text is read, or none is, as the document says. -/
import Derived.Test.YtggjipfdfpdecaaLent
import Derived.Test.YtggjipfdfpdecaaTText
namespace Go.Proofs.Ytggjipfdfpdecaa
open Go.RowKit
attribute [local go_sem] bs_list

set_option maxRecDepth 100000 in
set_option maxHeartbeats 2000000 in
theorem numReads_nat (v : Value) (l : List UInt8) (at_ most : Int) (w : World) (hr : RdB w v l) (hl : l.length ≤ 140737488351232) (hm1 : -9223372036854775808 ≤ most) (hm2 : most ≤ 9223372036854775807) :
    Calls Try.prog 8 #[v, .int .i64 at_, .int .i64 most] w fun e w' => e = .returned (.bool true) ∧ Below w.heap.size w w' := by
  obtain ⟨A, c, rfl, hc1, hc2, _⟩ := id hr
  have HR := Lib.hid hr; clear hr
  obtain ⟨q, hq⟩ : ∃ q, tkAt l at_ = q := ⟨_, rfl⟩
  obtain ⟨s, hs⟩ : ∃ s, ttAt l at_ most = s := ⟨_, rfl⟩
  have HQ := Lib.hid hq; clear hq
  have HS := Lib.hid hs; clear hs
  have hlm : l.length + 16 ≤ maxLen := by simp only [maxLen]; omega
  have HLM := Lib.hid hlm; clear hlm hc1 hc2
  rcases q with _ | ⟨n, nx⟩ <;> rcases s with _ | ⟨tx, en⟩
  all_goals
    go_enter Try.func8, Try.ntmps8
    go_wp2_with fail
    refine (shown_any w).mono ?_
    rintro e w1 ⟨rfl, hb1⟩
    have HB1 := Lib.hid hb1; clear hb1
    go_wp2_with fail
    refine (lent_any _ l _ (HR.out.below HB1.out) (by omega)).mono ?_
    rintro e w2 ⟨g, rfl, hwh, hg, hb2⟩
    have hrg := hwh.rd (n := l.length) (c := l.length + 16) (by simp) (by omega) HLM.out
    rw [List.take_left] at hrg
    have hrv := HR.out.below (HB1.out.trans (hb2.mono HB1.out.size))
    have hfin := HB1.out.trans (hb2.mono HB1.out.size)
    have HG := Lib.hid hrg; clear hrg
    have HV := Lib.hid hrv; clear hrv
    have HF := Lib.hid hfin; clear hfin
    have HW := Lib.hid hwh; clear hwh hb2 hg
    have c1 := take_any _ l at_ _ HG.out (by omega)
    have c2 := refTake_any _ l at_ _ HV.out (by omega)
    have c3 := takeText_any _ l at_ most _ HG.out (by omega) hm1 hm2
    have c4 := refTakeText_any _ l at_ most _ HV.out (by omega) hm1 hm2
    rw [HQ.out] at c1 c2
    rw [HS.out] at c3 c4
    simp only [tkVal, ttVal] at c1 c2 c3 c4
    have C1 := Lib.hid c1; clear c1
    have C2 := Lib.hid c2; clear c2
    have C3 := Lib.hid c3; clear c3
    have C4 := Lib.hid c4; clear c4
    go_wp2_with fail
    refine C1.out.mono ?_
    rintro e w' ⟨rfl, rfl⟩
    go_wp2_with fail
    refine C2.out.mono ?_
    rintro e w' ⟨rfl, rfl⟩
    go_wp2_with fail
    refine C3.out.mono ?_
    rintro e w' ⟨rfl, rfl⟩
    go_wp2_with fail
    refine C4.out.mono ?_
    rintro e w' ⟨rfl, rfl⟩
    go_wp2_with fail
    refine (still_any g _ _ _ l _ rfl rfl HW.out HV.out (by omega)).mono ?_
    rintro e w3 ⟨rfl, hb3⟩
    have HB3 := Lib.hid hb3; clear hb3
    go_wp2_with fail
    go_ret
    exact ⟨rfl, HF.out.trans (HB3.out.mono HF.out.size)⟩

theorem numReads_any (v : Value) (l : List UInt8) (at_ most : Int) (w : World) (hr : RdB w v l) (hl : l.length * 1 ≤ 140737488351232) (_ha : (Lit.int .i64 at_).wf = true) (hm : (Lit.int .i64 most).wf = true) :
    Calls Try.prog 8 #[v, .int .i64 at_, .int .i64 most] w fun e w' => e = .returned (.bool true) ∧ Below w.heap.size w w' :=
  numReads_nat v l at_ most w hr (by omega) (i64_of hm).1 (i64_of hm).2
end Go.Proofs.Ytggjipfdfpdecaa
