/- The walk of varvelaw04's put: bodies as frames, and where each ends. -/
import Derived.Test.YtggjipfdfpdecaaFrN
import Derived.Test.YtggjipfdfpdecaaRow
import Derived.Test.YtggjipfdfpdecaaFPut
set_option linter.unusedVariables false
namespace Go.Proofs.Ytggjipfdfpdecaa
open Go.RowKit

def intv (n : Nat) : Value := .int .i64 (n : Int)
/-- What put answers. -/
def PutR (w : World) (f : Nat) (ls : List (List UInt8)) (e : Ending) (w' : World) : Prop :=
  Below w.heap.size w w' ∧ ((¬ (∀ l ∈ ls, l.length ≤ 65536) ∧ e = .returned (.tuple #[.slice none 0 0, .slice none 0 0, .bool false])) ∨
    ((∀ l ∈ ls, l.length ≤ 65536) ∧ ∃ vb ve, e = .returned (.tuple #[vb, ve, .bool true]) ∧ Own w' w.heap.size vb (laid f ls) ∧ w'.ownsRow w.heap.size 3 1 ve ((endsOf f ls).map intv).length ((endsOf f ls).map intv)))

theorem own_after {w w1 : World} {base b2 E : Nat} {u : Value} {l : List UInt8} (h : Own w b2 u l) {v : Value} {us : List Value} (hE : E ≠ 5) (hr : w.ownsRow base E 1 v us.length us) (hg : w.grownBy w1 v.ownBlock) : Own w1 b2 u l := by
  refine World.ownsRow.kept h hg ?_
  cases e : u.ownBlock with
  | none => exact .inl rfl
  | some k =>
    obtain ⟨cs, hh⟩ := own_heap h e
    refine .inr (fun e2 => ?_)
    rcases hr.2 with ⟨rfl, _⟩ | ⟨g', cap, cur, rfl, _, hh2, _⟩
    · simp [Value.ownBlock] at e2
    · have : g' = k := by simpa [Value.ownBlock] using e2.symm
      subst this
      rw [hh] at hh2
      injection hh2 with hh2
      injection hh2 with _ ht' _
      exact hE ht'.symm

set_option maxRecDepth 100000 in
set_option maxHeartbeats 4000000 in
theorem putL_any (v : Value) (ls : List (List UInt8)) (f most : Nat) (w : World) (hr : RdBs w v ls) (hf : f < two64) (hm : most ≤ 20) (hl : ls.flatten.length + ls.length ≤ 1048576) :
    Calls Try.prog 46 #[.int .u64 f, v, .int .i64 most] w (PutR w f (ls.take most)) := by
  obtain ⟨A, c, rfl, _, _, _⟩ := id hr
  have HR := Lib.hid hr; clear hr
  have HL := Lib.hid hl
  have hll : ls.length ≤ 1048576 := by omega
  clear hl
  unfold two64 at hf
  go_enter Try.func46, Try.ntmps46
  go_wp2_with fail
  go_loopw [9, 10, 11] (fun v9 v10 v11 wr => ∃ k : Nat, k ≤ ls.length ∧ k ≤ most ∧ v11 = .int .i64 (k : Int) ∧ Hid (∀ l ∈ ls.take k, l.length ≤ 65536) ∧ Own wr w.heap.size v9 (laid f (ls.take k)) ∧ wr.ownsRow w.heap.size 3 1 v10 ((endsOf f (ls.take k)).map intv).length ((endsOf f (ls.take k)).map intv) ∧ Below w.heap.size w wr) (fun _ _ v11 _ => most - (intOf v11).toNat)
  case atStart => exact ⟨0, by omega, by omega, rfl, Lib.hid (by simp), by simpa [laid] using Own.nil w w.heap.size, ⟨rfl, .inl ⟨rfl, rfl⟩⟩, Below.refl _ _⟩
  case round =>
    obtain ⟨k, hk1, hk2, rfl, hsm, ho, hrow, hb⟩ := hrel
    have HO := Lib.hid ho; clear ho
    have HROW := Lib.hid hrow; clear hrow
    have HB := Lib.hid hb; clear hb
    by_cases hlt : k < ls.length
    · by_cases hlt2 : k < most
      · have t1 : decide ((k : Int) < (ls.length : Int)) = true := by simp; omega
        have t2 : decide ((k : Int) < (most : Int)) = true := by simp; omega
        obtain ⟨A', c', he, _, _, hcell⟩ := HR.out.below HB.out
        injection he with e1 e2 e3
        subst e1
        obtain ⟨ad, rfl, hcells⟩ := hcell (by omega)
        obtain ⟨u, hcu, hru⟩ := hcells k hlt
        clear hcell hcells e2 e3
        obtain ⟨body, hbody⟩ : ∃ l, l = ls[k] := ⟨_, rfl⟩
        rw [← hbody] at hru
        have hbl : body.length ≤ 1048576 := by
          have h1 := HL.out
          have h2 : body ∈ ls := by rw [hbody]; exact List.getElem_mem hlt
          have := (List.sublist_flatten_of_mem h2).length_le
          omega
        have hkw : IntKind.u64.wrap (k : Int) = (k : Int) := by rw [IntKind.wrap_u64, Int.emod_eq_of_lt (by omega) (by omega)]
        have hfw : IntKind.u64.wrap ((f : Int) + (k : Int)) = (((f + k) % two64 : Nat) : Int) := by rw [IntKind.wrap_u64]; unfold two64; omega
        have HFW := Lib.hid hfw
        obtain ⟨sq, hsq⟩ : ∃ s, s = (f + k) % two64 := ⟨_, rfl⟩
        have hsql : sq < 18446744073709551616 := by rw [hsq]; exact Nat.mod_lt _ (by decide)
        rw [← hsq] at hfw
        obtain ⟨Lk, hLk⟩ : ∃ L, L = laid f (ls.take k) := ⟨_, rfl⟩
        have hLkm : Lk.length % 32 = 0 := by rw [hLk]; exact laid_mod _ _
        have hLkl : Lk.length ≤ 1400000 := by
          have := laid_le (ls.take k) f hsm.out
          rw [hLk]
          rw [List.length_take] at this
          omega
        rw [← hLk] at HO
        have hnext : laid f (ls.take (k + 1)) = Lk ++ frameOf sq body := by rw [laid_take f ls k hlt, hLk, hsq, hbody]
        have HNX := Lib.hid hnext; clear hnext
        have HRU := Lib.hid hru; clear hru
        have HBD := Lib.hid hbody; clear hbody
        have hmod := Lib.hid hLkm; clear hLkm hLk hsq
        obtain ⟨Au, cu, rfl, _, _, _⟩ := id HRU.out
        go_wp2_with fail
        by_cases h65 : body.length ≤ 65536
        · refine (fput_any _ _ Lk body sq wr HO.out.rd HRU.out hsql (by omega) hmod.out h65).mono ?_
          rintro e w1 ⟨v1, rfl, ho1, hb1⟩
          rw [← HNX.out] at ho1
          obtain ⟨X, hX⟩ : ∃ X, X = laid f (ls.take (k + 1)) := ⟨_, rfl⟩
          rw [← hX] at ho1
          have HX := Lib.hid hX; clear hX
          obtain ⟨A1, c1, rfl, _, _, _⟩ := id ho1.rd
          have HO1 := Lib.hid (ho1.mono HB.out.size); clear ho1
          have HROW1 := Lib.hid (row_below HROW.out hb1)
          have HB1 := Lib.hid (HB.out.trans (hb1.mono HB.out.size)); clear hb1
          have hel : ((endsOf f (ls.take k)).map intv).length ≤ 20 := by rw [List.length_map, endsOf_len, List.length_take]; omega
          have HEN := Lib.hid (show (endsOf f (ls.take (k + 1))).map intv = (endsOf f (ls.take k)).map intv ++ [intv X.length] from by
            rw [HX.out, List.take_succ_eq_append_getElem hlt, endsOf_snoc, List.map_append]; rfl)
          have HSM := Lib.hid (show ∀ l ∈ ls.take (k + 1), l.length ≤ 65536 from by
            intro l hl
            rw [List.take_succ_eq_append_getElem hlt, List.mem_append] at hl
            rcases hl with hl | hl
            · exact hsm.out l hl
            · simp at hl; rw [hl, ← HBD.out]; exact h65)
          obtain ⟨es, hes⟩ : ∃ es, es = (endsOf f (ls.take k)).map intv := ⟨_, rfl⟩
          rw [← hes] at HROW1 HEN hel
          clear hes
          go_wp2_with (at_builtin; refine row_append1 w.heap.size _ ?hH 54 3 8 (.int .i64 0) Try.underlying54 info3 rfl rfl (.tmp 41) (.tmp 44) rfl _ es _ ?hy1 rfl rfl HROW1.out ?hb1 ?hl1 ?hl2 ?_; (case hH => rfl); (case hy1 => rfl); (case hb1 => exact HB1.out.size); (case hl1 => omega); (case hl2 => omega); intro v2 w2 hown hb2 hg hat; have HO2 := Lib.hid (own_after HO1.out (by decide) HROW1.out hg); have HR2 := Lib.hid hown; have HB2 := Lib.hid (HB1.out.trans hb2); clear hown hb2 hg hat)
          go_roundw
          case rel => exact ⟨k + 1, by omega, by omega, by go_num, HSM, by rw [← HX.out]; exact HO2.out, by rw [HEN.out]; exact HR2.out, HB2.out⟩
          case measure => simp [intOf]; omega
        · refine (fput_bad _ _ Lk body sq wr HO.out.rd HRU.out (by omega) (by omega) (.inr (by omega))).mono ?_
          rintro e w1 ⟨rfl, rfl⟩
          rw [if_neg (by have := hmod.out; omega)]
          go_wp2_with fail
          go_ret3
          refine ⟨HB.out, .inl ⟨fun h => h65 (h body ?_), rfl⟩⟩
          rw [HBD.out]
          exact List.mem_take_iff_getElem.2 ⟨k, by omega, rfl⟩
      · have t1 : decide ((k : Int) < (ls.length : Int)) = true := by simp; omega
        have t2 : decide ((k : Int) < (most : Int)) = false := by simp; omega
        have hkm : ls.take most = ls.take k := by congr 1; omega
        have HKM := Lib.hid hkm; clear hkm
        go_wp2_with fail
        go_ret3
        exact ⟨HB.out, .inr ⟨by rw [HKM.out]; exact hsm.out, _, _, rfl, by rw [HKM.out]; exact HO.out, by rw [HKM.out]; exact HROW.out⟩⟩
    · have t1 : decide ((k : Int) < (ls.length : Int)) = false := by simp; omega
      have hkm : ls.take most = ls.take k := by rw [List.take_of_length_le (by omega), List.take_of_length_le (by omega)]
      have HKM := Lib.hid hkm; clear hkm
      go_wp2_with fail
      go_ret3
      exact ⟨HB.out, .inr ⟨by rw [HKM.out]; exact hsm.out, _, _, rfl, by rw [HKM.out]; exact HO.out, by rw [HKM.out]; exact HROW.out⟩⟩
end Go.Proofs.Ytggjipfdfpdecaa
