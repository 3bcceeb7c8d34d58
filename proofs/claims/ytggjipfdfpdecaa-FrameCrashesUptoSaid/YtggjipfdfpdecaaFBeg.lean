/- The walk of varvelaw04's begin: are these the first of those? -/
import Derived.Test.YtggjipfdfpdecaaFPutL
import Derived.Deep.QuietTactic
import Derived.BigQuiet
namespace Go.Proofs.Ytggjipfdfpdecaa
open Go.RowKit
attribute [local go_sem] bs_list

theorem take_get {ls rs : List (List UInt8)} (h : ls = rs.take ls.length) (k : Nat) (hk : k < ls.length) (hk2 : k < rs.length) : rs[k] = ls[k] := by
  have h1 : ls[k]? = (rs.take ls.length)[k]? := congrArg (fun l : List (List UInt8) => l[k]?) h
  rw [List.getElem?_take, if_pos hk, List.getElem?_eq_getElem hk, List.getElem?_eq_getElem hk2] at h1
  exact (Option.some.inj h1).symm

theorem RowsO.rds {w : World} {base : Nat} {v : Value} {us : List Value} {ls : List (List UInt8)} (h : RowsO w base v us ls) : RdBs w v ls := by
  have hlen := h.2.1
  rcases Nat.eq_zero_or_pos us.length with h0 | hp
  · obtain rfl : ls = [] := List.eq_nil_of_length_eq_zero (by omega)
    rcases h.1.2 with ⟨rfl, _⟩ | ⟨g, cap, cur, rfl, _, _, h1, h2, _⟩
    · exact ⟨none, 0, rfl, by simp, by simp [maxLen], fun h => by simp at h⟩
    · exact ⟨_, cap, by rw [h0]; rfl, by simp, h2, fun h => by simp at h⟩
  · obtain ⟨g, cap, hv, _, _, h1, h2, hc⟩ := row_one h.1 hp
    refine ⟨_, cap, by rw [hv, hlen], by omega, h2, fun _ => ⟨_, rfl, fun j hj => ?_⟩⟩
    have hju : us[j]? = some us[j] := List.getElem?_eq_getElem (by omega)
    exact ⟨us[j], by rw [addp]; exact hc j _ hju, (h.2.2.1 j _ _ hju (List.getElem?_eq_getElem hj)).rd⟩

set_option maxRecDepth 100000 in
set_option maxHeartbeats 2000000 in
theorem fbegin_any (v v2 : Value) (ls rs : List (List UInt8)) (w : World) (hr : RdBs w v (rs.take ls.length)) (hr2 : RdBs w v2 rs) (hls : ls = rs.take ls.length) :
    Calls Try.prog 47 #[v, v2] w fun e w' => e = .returned (.bool true) ∧ Below w.heap.size w w' := by
  rw [← hls] at hr
  obtain ⟨A, c, rfl, _, hm, _⟩ := id hr
  obtain ⟨A2, c2, rfl, _, hm2, _⟩ := id hr2
  have hle : ls.length ≤ rs.length := by have := congrArg List.length hls; rw [List.length_take] at this; omega
  simp only [maxLen] at hm hm2
  have HR := Lib.hid hr; clear hr
  have HR2 := Lib.hid hr2; clear hr2
  have HLS := Lib.hid hls; clear hls
  have hlb : ls.length ≤ 9223372036854775807 := by omega
  clear hm hm2
  go_enter Try.func47, Try.ntmps47
  go_wp2_with fail
  go_loopw [5] (fun i wr => ∃ k m : Nat, k ≤ ls.length ∧ i = .int .i64 (k : Int) ∧ wr = w.drewN m) (fun i _ => ls.length - (intOf i).toNat)
  case atStart => exact ⟨0, 0, by omega, rfl, rfl⟩
  case round =>
    obtain ⟨k, m, hk, rfl, rfl⟩ := hrel
    by_cases hlt : k < ls.length
    · obtain ⟨A', c', he, _, _, hcell⟩ := HR.out
      injection he with e1 e2 e3
      subst e1
      obtain ⟨ad, rfl, hcells⟩ := hcell (by omega)
      obtain ⟨u, hcu, hru⟩ := hcells k hlt
      obtain ⟨A4, c4, he2, _, _, hcell2⟩ := HR2.out
      injection he2 with e4 e5 e6
      subst e4
      obtain ⟨ad2, rfl, hcells2⟩ := hcell2 (by omega)
      obtain ⟨u2, hcu2, hru2⟩ := hcells2 k (by omega)
      have heq : rs[k]'(by omega) = ls[k] := take_get HLS.out k hlt (by omega)
      rw [heq] at hru2
      obtain ⟨l, hl⟩ : ∃ l, l = ls[k] := ⟨_, rfl⟩
      rw [← hl] at hru hru2
      clear hcells hcell hcells2 hcell2 e2 e3 e5 e6 heq hl
      have hc1 := fun q => (show (w.drewN q).cell? (ad.add k) = _ from hcu)
      have hc2 := fun q => (show (w.drewN q).cell? (ad2.add k) = _ from hcu2)
      have k1 := fun q => conv_rd (hru.drewN q)
      have k2 := fun q => conv_rd (hru2.drewN q)
      have t1 : decide ((k : Int) < (ls.length : Int)) = true := by simp; omega
      have t2 : decide ((k : Int) < (rs.length : Int)) = true := by simp; omega
      clear hru hru2 hcu hcu2
      go_wp2_with fail
      go_quiet (fail)
      go_wp2_with fail
      go_roundw
      case rel => exact ⟨k + 1, _, by omega, by go_num, rfl⟩
      case measure => simp [intOf]; omega
    · have t1 : decide ((k : Int) < (ls.length : Int)) = false := by simp; omega
      go_wp2_with fail
      go_ret
      exact ⟨by simp, below_drewN (Below.refl _ _) _⟩
end Go.Proofs.Ytggjipfdfpdecaa
