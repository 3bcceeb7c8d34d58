/- The walks of num.TakeText and varveref01.TakeText: a text is read at a place of any bytes, or none is. -/
import Derived.Test.YtggjipfdfpdecaaRTake
import Derived.IntWalk
namespace Go.Proofs.Ytggjipfdfpdecaa
open Go.RowKit

/-- The text at a place, and the place behind it. -/
def ttAt (l : List UInt8) (at_ most : Int) : Option (List UInt8 × Nat) :=
  match tkAt l at_ with
  | some (n, nx) => if 0 ≤ most ∧ n ≤ most.toNat ∧ n ≤ l.length - nx then some ((l.drop nx).take n, nx + n) else none
  | none => none
def ttVal : Option (List UInt8 × Nat) → Value
  | none => .tuple #[.string (bs []), .int .i64 0, .bool false]
  | some (s, k) => .tuple #[.string (bs s), .int .i64 (k : Int), .bool true]

set_option maxRecDepth 100000 in
set_option maxHeartbeats 1000000 in
theorem takeText_any (v : Value) (l : List UInt8) (at_ most : Int) (w : World) (hr : RdB w v l) (hl : l.length ≤ 140737488355328) (hm1 : -9223372036854775808 ≤ most) (hm2 : most ≤ 9223372036854775807) :
    Calls Try.prog 34 #[v, .int .i64 at_, .int .i64 most] w fun e w' => e = .returned (ttVal (ttAt l at_ most)) ∧ w = w' := by
  obtain ⟨A, c, rfl, hc1, hc2, _⟩ := id hr
  have ht := take_any _ l at_ w hr hl
  cases hk : tkAt l at_ with
  | none =>
    have hv : ttAt l at_ most = none := by unfold ttAt; rw [hk]
    rw [hv]
    rw [hk] at ht
    have HT := Lib.hid ht; clear ht
    go_enter Try.func34, Try.ntmps34
    go_wp2_with fail
    refine HT.out.mono ?_
    rintro e w' ⟨rfl, rfl⟩
    simp only [tkVal]
    go_wp2_with fail
    go_ret3
    exact ⟨rfl, rfl⟩
  | some p =>
    obtain ⟨n, nx⟩ := p
    rw [hk] at ht
    have HT := Lib.hid ht; clear ht
    obtain ⟨hn, h0, h1, h2, -, -⟩ := tkAt_one l at_ n nx hk
    have HN := Lib.hid hn; clear hn
    by_cases hneg : most < 0
    · have hv : ttAt l at_ most = none := by unfold ttAt; rw [hk]; simp only; rw [if_neg (by omega)]
      rw [hv]
      clear hv hk
      go_enter Try.func34, Try.ntmps34
      go_wp2_with fail
      refine HT.out.mono ?_
      rintro e w' ⟨rfl, rfl⟩
      simp only [tkVal]
      go_wp2_with fail
      go_ret3
      exact ⟨rfl, rfl⟩
    obtain ⟨m, rfl⟩ := Int.eq_ofNat_of_zero_le (by omega : 0 ≤ most)
    by_cases hbig : m < n
    · have hv : ttAt l at_ m = none := by unfold ttAt; rw [hk]; simp only; rw [if_neg (by omega)]
      rw [hv]
      clear hv hk
      go_enter Try.func34, Try.ntmps34
      go_wp2_with fail
      refine HT.out.mono ?_
      rintro e w' ⟨rfl, rfl⟩
      simp only [tkVal]
      go_wp2_with fail
      go_ret3
      exact ⟨rfl, rfl⟩
    by_cases hlen : l.length - nx < n
    · have hv : ttAt l at_ m = none := by unfold ttAt; rw [hk]; simp only; rw [if_neg (by omega)]
      have e0 : ((l.length : Int) - (nx : Int)) < (n : Int) := by omega
      rw [hv]
      clear hv hk
      go_enter Try.func34, Try.ntmps34
      go_wp2_with fail
      refine HT.out.mono ?_
      rintro e w' ⟨rfl, rfl⟩
      simp only [tkVal]
      go_wp2_with fail
      go_ret3
      exact ⟨rfl, rfl⟩
    · have hv : ttAt l at_ m = some ((l.drop nx).take n, nx + n) := by unfold ttAt; rw [hk]; simp only; rw [if_pos (by omega)]
      rw [hv]
      obtain ⟨r, A', c', hrr, hcut, hcr⟩ := cut_lh A c l nx (nx + n) (by omega) (by omega) (by omega) hc1
      have hr2 : r = (l.drop nx).take n := by
        have e1 : ((nx : Int) + (n : Int)).toNat = nx + n := by omega
        rw [hrr, e1, Int.toNat_natCast, List.drop_take, Nat.add_sub_cancel_left]
      rw [← hr2]
      have kr := conv_rd (hcr _ hr)
      have hw : IntKind.i64.wrap (n : Int) = (n : Int) := IntWalk.i64_in _ (by omega)
      clear hrr hr2 hcr hk hv
      have hn2 : n ≤ l.length := by omega
      have hb2 : ¬ (m : Int) < (n : Int) := by omega
      have hl2 : ¬ (l.length : Int) - (nx : Int) < (n : Int) := by omega
      clear hbig hlen
      go_enter Try.func34, Try.ntmps34
      go_wp2_with fail
      refine HT.out.mono ?_
      rintro e w' ⟨rfl, rfl⟩
      simp only [tkVal]
      go_wp2_with fail
      go_ret3
      exact ⟨rfl, rfl⟩

set_option maxRecDepth 100000 in
set_option maxHeartbeats 1000000 in
theorem refTakeText_any (v : Value) (l : List UInt8) (at_ most : Int) (w : World) (hr : RdB w v l) (hl : l.length ≤ 140737488355328) (hm1 : -9223372036854775808 ≤ most) (hm2 : most ≤ 9223372036854775807) :
    Calls Try.prog 35 #[v, .int .i64 at_, .int .i64 most] w fun e w' => e = .returned (ttVal (ttAt l at_ most)) ∧ w = w' := by
  obtain ⟨A, c, rfl, hc1, hc2, _⟩ := id hr
  have ht := refTake_any _ l at_ w hr hl
  cases hk : tkAt l at_ with
  | none =>
    have hv : ttAt l at_ most = none := by unfold ttAt; rw [hk]
    rw [hv]
    rw [hk] at ht
    have HT := Lib.hid ht; clear ht
    go_enter Try.func35, Try.ntmps35
    go_wp2_with fail
    refine HT.out.mono ?_
    rintro e w' ⟨rfl, rfl⟩
    simp only [tkVal]
    go_wp2_with fail
    go_ret3
    exact ⟨rfl, rfl⟩
  | some p =>
    obtain ⟨n, nx⟩ := p
    rw [hk] at ht
    have HT := Lib.hid ht; clear ht
    obtain ⟨hn, h0, h1, h2, -, -⟩ := tkAt_one l at_ n nx hk
    have HN := Lib.hid hn; clear hn
    by_cases hneg : most < 0
    · have hv : ttAt l at_ most = none := by unfold ttAt; rw [hk]; simp only; rw [if_neg (by omega)]
      rw [hv]
      clear hv hk
      go_enter Try.func35, Try.ntmps35
      go_wp2_with fail
      refine HT.out.mono ?_
      rintro e w' ⟨rfl, rfl⟩
      simp only [tkVal]
      go_wp2_with fail
      go_ret3
      exact ⟨rfl, rfl⟩
    obtain ⟨m, rfl⟩ := Int.eq_ofNat_of_zero_le (by omega : 0 ≤ most)
    by_cases hbig : m < n
    · have hv : ttAt l at_ m = none := by unfold ttAt; rw [hk]; simp only; rw [if_neg (by omega)]
      rw [hv]
      clear hv hk
      go_enter Try.func35, Try.ntmps35
      go_wp2_with fail
      refine HT.out.mono ?_
      rintro e w' ⟨rfl, rfl⟩
      simp only [tkVal]
      go_wp2_with fail
      go_ret3
      exact ⟨rfl, rfl⟩
    by_cases hlen : l.length - nx < n
    · have hv : ttAt l at_ m = none := by unfold ttAt; rw [hk]; simp only; rw [if_neg (by omega)]
      have e0 : ((l.length : Int) - (nx : Int)) < (n : Int) := by omega
      rw [hv]
      clear hv hk
      go_enter Try.func35, Try.ntmps35
      go_wp2_with fail
      refine HT.out.mono ?_
      rintro e w' ⟨rfl, rfl⟩
      simp only [tkVal]
      go_wp2_with fail
      go_ret3
      exact ⟨rfl, rfl⟩
    · have hv : ttAt l at_ m = some ((l.drop nx).take n, nx + n) := by unfold ttAt; rw [hk]; simp only; rw [if_pos (by omega)]
      rw [hv]
      obtain ⟨r, A', c', hrr, hcut, hcr⟩ := cut_lh A c l nx (nx + n) (by omega) (by omega) (by omega) hc1
      have hr2 : r = (l.drop nx).take n := by
        have e1 : ((nx : Int) + (n : Int)).toNat = nx + n := by omega
        rw [hrr, e1, Int.toNat_natCast, List.drop_take, Nat.add_sub_cancel_left]
      rw [← hr2]
      have kr := conv_rd (hcr _ hr)
      have hw : IntKind.i64.wrap (n : Int) = (n : Int) := IntWalk.i64_in _ (by omega)
      clear hrr hr2 hcr hk hv
      have hn2 : n ≤ l.length := by omega
      have hb2 : ¬ (m : Int) < (n : Int) := by omega
      have hl2 : ¬ (l.length : Int) - (nx : Int) < (n : Int) := by omega
      clear hbig hlen
      go_enter Try.func35, Try.ntmps35
      go_wp2_with fail
      refine HT.out.mono ?_
      rintro e w' ⟨rfl, rfl⟩
      simp only [tkVal]
      go_wp2_with fail
      go_ret3
      exact ⟨rfl, rfl⟩
end Go.Proofs.Ytggjipfdfpdecaa
