/- The walk of the law FrameAlls: which frames stand one behind the other, and which bytes no crash leaves. Condition: what comes in has at most 1048576 values. -/
import Derived.Test.YtggjipfdfpdecaaFrameTakes
namespace Go.Proofs.Ytggjipfdfpdecaa
open Go.RowKit
attribute [local go_sem] bs_list

/-- The blocks of these rows alone may have turned. -/
def OnlyOf (us : List Value) (k : Nat) (w w' : World) : Prop :=
  w'.os = w.os ∧ w'.tape = w.tape ∧ w'.output = w.output ∧ w.heap.size ≤ w'.heap.size ∧ ∀ g, g < w.heap.size → (∀ (j : Nat) (u : Value), j < k → us[j]? = some u → u.ownBlock ≠ some g) → w'.heap[g]? = w.heap[g]?
theorem OnlyOf.refl (us : List Value) (w : World) : OnlyOf us 0 w w := ⟨rfl, rfl, rfl, Nat.le_refl _, fun _ _ _ => rfl⟩
theorem OnlyOf.draw {us : List Value} {k : Nat} {w w' : World} (h : OnlyOf us k w w') (n : Nat) : OnlyOf us k w (w'.drewN n) := h
theorem OnlyOf.next {us : List Value} {k : Nat} {w w1 w2 : World} {u : Value} (h : OnlyOf us k w w1) (hu : us[k]? = some u) (hg : w1.grownBy w2 u.ownBlock) : OnlyOf us (k + 1) w w2 := by
  obtain ⟨h1, h2, h3, h4, h5⟩ := h
  refine ⟨hg.os.trans h1, hg.tape.trans h2, hg.output.trans h3, Nat.le_trans h4 hg.size, fun g hlt hn => ?_⟩
  rw [hg.block g (Nat.lt_of_lt_of_le hlt h4) (fun e => hn k u (by omega) hu e.symm), h5 g hlt (fun j u' hj hu' => hn j u' (by omega) hu')]
/-- What lies apart from those blocks is as it was. -/
theorem OnlyOf.cell {us : List Value} {k : Nat} {w w' : World} (h : OnlyOf us k w w') {p : Addr} {v : Value} (hc : w.cell? p = some v) (hn : ∀ (j : Nat) (u : Value), j < k → us[j]? = some u → u.ownBlock ≠ some p.block) : w'.cell? p = some v := by
  rw [World.cell?_of_block (w := w) (h.2.2.2.2 p.block (World.block_lt_of_cell? w _ hc) hn), hc]
theorem OnlyOf.own {us : List Value} {k : Nat} {w w' : World} (h : OnlyOf us k w w') {base : Nat} {v : Value} {l : List UInt8} (ho : Own w base v l) (hn : ∀ (j : Nat) (u : Value), j < k → us[j]? = some u → v.ownBlock = none ∨ u.ownBlock ≠ v.ownBlock) : Own w' base v l := by
  rcases ho.2 with h0 | ⟨g, cap, cur, hv, hb, hg, r⟩
  · exact ⟨ho.1, .inl h0⟩
  · refine ⟨ho.1, .inr ⟨g, cap, cur, hv, hb, ?_, r⟩⟩
    rw [h.2.2.2.2 g (Array.getElem?_eq_some_iff.1 hg).1 (fun j u hj hu e => ?_), hg]
    rcases hn j u hj hu with h1 | h1
    · rw [hv] at h1; simp [Value.ownBlock] at h1
    · exact h1 (by rw [e, hv]; rfl)
theorem OnlyOf.in_ {us : List Value} {k : Nat} {w w' : World} (h : OnlyOf us k w w') {g : Nat} {v : Value} {l : List UInt8} (hr : RdIn w g v l) (hn : ∀ (j : Nat) (u : Value), j < k → us[j]? = some u → u.ownBlock ≠ some g) : RdIn w' g v l :=
  hr.keep (fun hg => h.2.2.2.2 g hg hn)
theorem OnlyOf.below {us : List Value} {k B : Nat} {w w' : World} (h : OnlyOf us k w w') (hB : B ≤ w.heap.size) (hn : ∀ (j : Nat) (u : Value) (g : Nat), us[j]? = some u → u.ownBlock = some g → B ≤ g) : Below B w w' :=
  ⟨h.1, h.2.1, h.2.2.1, h.2.2.2.1, fun g hg => h.2.2.2.2 g (by omega) (fun j u _ hu e => by have := hn j u g hu e; omega)⟩

set_option maxRecDepth 100000 in
set_option maxHeartbeats 4000000 in
theorem frameAlls_nat (vb : Value) (b : List UInt8) (first : Nat) (w : World) (hb : RdB w vb b) (hf : first < 18446744073709551616) (hl : b.length ≤ 1048576) :
    Calls Try.prog 12 #[vb, .int .u64 first] w fun e w' => e = .returned (.bool true) ∧ Below w.heap.size w w' := by
  obtain ⟨A, c, rfl, _, _, _⟩ := id hb
  have HB := Lib.hid hb; clear hb
  have HF := Lib.hid (show first < two64 from hf); clear hf
  go_enter Try.func12, Try.ntmps12
  go_wp2_with fail
  refine (fshown_any w).mono ?_
  rintro e w1 ⟨rfl, hb1⟩
  have HB1 := Lib.hid hb1; clear hb1
  go_wp2_with fail
  refine (flent_any _ b _ (HB.out.below HB1.out) (by omega)).mono ?_
  rintro e w2 ⟨vx, rfl, hx2, hb2⟩
  have HX := Lib.hid hx2; clear hx2
  have HB2 := Lib.hid (HB1.out.trans (hb2.mono HB1.out.size)); clear hb2
  go_wp2_with fail
  refine (fall_any _ b first _ HX.out.rd (by omega) HF.out).mono ?_
  intro e w3 h3
  obtain ⟨ls, at', f', hp, hs, hb3, h3⟩ := h3
  have hal : at' ≤ 1048576 := by have := (hp.len (by omega)).2; omega
  have hll : ls.length ≤ 1048576 := by have := (hp.len (by omega)).1; omega
  have HLB := Lib.hid hp.body
  have HP := Lib.hid hp; clear hp
  have HS := Lib.hid hs; clear hs
  have HB3 := Lib.hid hb3; clear hb3
  have hin3 := HB2.out.trans (HB3.out.mono HB2.out.size)
  have HR2 := Lib.hid (rall_any _ b first w3 (HB.out.below hin3) (by omega) HF.out); clear hin3
  rcases h3 with ⟨hlate, rfl⟩ | ⟨hlate, v3, us, rfl, hrow⟩
  · have HLATE := Lib.hid hlate; clear hlate
    go_wp2_with fail
    refine HR2.out.mono ?_
    intro e w4 h4
    obtain ⟨hb4, h4⟩ := h4.known HP.out HS.out
    obtain ⟨-, rfl⟩ := h4.resolve_right (fun h => h.1 HLATE.out)
    have HB4 := Lib.hid (HB3.out.trans (hb4.mono HB3.out.size)); clear hb4 h4 HR2
    go_wp2_with fail
    go_loopw [13] (fun v13 wr => v13 = .int .i64 0 ∧ wr = w4) (fun _ _ => 0)
    case atStart => exact ⟨rfl, rfl⟩
    case round =>
      obtain ⟨rfl, rfl⟩ := hrel
      go_wp2_with fail
      have hin6 := HB2.out.trans (HB4.out.mono HB2.out.size)
      refine (fkept_any _ _ _ b _ (HX.out.below HB4.out) (HB.out.below hin6) (by omega)).mono ?_
      rintro e w7 ⟨rfl, hb7⟩
      have HB7 := Lib.hid (HB4.out.trans (hb7.mono HB4.out.size)); clear hb7 hin6
      go_wp2_with fail
      go_ret
      exact ⟨rfl, HB2.out.trans (HB7.out.mono HB2.out.size)⟩
  · have HLATE := Lib.hid hlate; clear hlate
    have HROW := Lib.hid hrow
    obtain ⟨A3, c3, rfl, _, _⟩ := hrow.form
    clear hrow
    go_wp2_with fail
    refine HR2.out.mono ?_
    intro e w4 h4
    obtain ⟨hb4, h4⟩ := h4.known HP.out HS.out
    obtain ⟨-, v4, us2, rfl, hrow2⟩ := h4.resolve_left (fun h => HLATE.out h.1)
    have HROW2 := Lib.hid hrow2
    obtain ⟨A4, c4, rfl, _, _⟩ := hrow2.form
    have HB4 := Lib.hid (HB3.out.trans (hb4.mono HB3.out.size))
    have HROW4 := Lib.hid (HROW.out.below hb4)
    have HS34 := Lib.hid hb4.size
    have hult : ∀ (j : Nat) (u : Value) (g : Nat), us[j]? = some u → u.ownBlock = some g → w2.heap.size ≤ g ∧ g < w3.heap.size := by
      intro j u g hu hg
      have h1 : ls[j]? = some (ls[j]'(by have := get_lt hu; have := HROW.out.2.1; omega)) := List.getElem?_eq_getElem _
      exact World.ownsRow.lt (HROW.out.2.2.1 j u _ hu h1) g hg
    have HULT := Lib.hid hult; clear hult
    have hlate2 := hrow2; clear hlate2 hrow2 hb4 h4 HR2 HROW
    go_wp2_with fail
    go_loopw [13] (fun v13 wr => ∃ k : Nat, k ≤ ls.length ∧ v13 = .int .i64 (k : Int) ∧ OnlyOf us k w4 wr) (fun v13 _ => ls.length - (intOf v13).toNat)
    case atStart => exact ⟨0, by omega, rfl, OnlyOf.refl _ _⟩
    case round =>
      obtain ⟨k, hk, rfl, honly⟩ := hrel
      have HO := Lib.hid honly; clear honly
      by_cases hlt : k < ls.length
      · have hus := HROW4.out.2.1
        have hus2 := HROW2.out.2.1
        obtain ⟨u, hu⟩ : ∃ u, us[k]? = some u := ⟨_, List.getElem?_eq_getElem (by omega)⟩
        obtain ⟨u2, hu2⟩ : ∃ u, us2[k]? = some u := ⟨_, List.getElem?_eq_getElem (by omega)⟩
        obtain ⟨l, hlk⟩ : ∃ l, ls[k]? = some l := ⟨_, List.getElem?_eq_getElem hlt⟩
        have hlb : l.length ≤ 65536 := HLB.out l (List.mem_of_getElem? hlk)
        have hown := HROW4.out.2.2.1 k u l hu hlk
        have hown' : Own wr _ u l := HO.out.own hown (fun j u' hj hu' => by
          rcases HROW4.out.2.2.2 j k u' u hj hu' hu with h1 | h1
          · exact .inl h1
          · exact .inr h1)
        obtain ⟨g2, cs2, fr2, hg2, hin2, hh2⟩ := HROW2.out.2.2 k u2 l hu2 hlk
        have hin2' : RdIn wr g2 u2 l := HO.out.in_ hin2 (fun j u' hj hu' e => by have := (HULT.out j u' g2 hu' e).2; omega)
        obtain ⟨gr, cr, hrv, hrb, hrlt, hrc, hrm, hrcell⟩ := row_one HROW4.out.1 (by omega)
        obtain ⟨gr2, cr2, hrv2, hrb2, hrlt2, hrc2, hrm2, hrcell2⟩ := row_one HROW2.out.1 (by omega)
        injection hrv with e1 e2 e3
        injection hrv2 with e4 e5 e6
        subst e1 e4
        have hc1 : wr.cell? ⟨gr, k, none⟩ = some u := HO.out.cell (hrcell k u hu) (fun j u' hj hu' e => by
          have h1 : ls[j]? = some (ls[j]'(by omega)) := List.getElem?_eq_getElem _
          obtain ⟨cs, hh⟩ := own_heap (HROW4.out.2.2.1 j u' _ hu' h1) e
          exact row_ne HROW4.out.1 hh rfl)
        have hc2 : wr.cell? ⟨gr2, k, none⟩ = some u2 := HO.out.cell (hrcell2 k u2 hu2) (fun j u' hj hu' e => by
          have := (HULT.out j u' gr2 hu' e).2
          omega)
        have hc1' := fun m => (show (wr.drewN m).cell? ⟨gr, k, none⟩ = _ from hc1)
        have hc2' := fun m => (show (wr.drewN m).cell? ⟨gr2, k, none⟩ = _ from hc2)
        have k1 := fun q => conv_rd (hown'.rd.drewN q)
        have k2 := fun q => conv_rd (hin2'.rd.drewN q)
        obtain ⟨Au, cu, hue, _, _, _⟩ := id hown'.rd
        obtain ⟨Au2, cu2, hue2, _, _, _⟩ := id hin2'.rd
        have HU := Lib.hid hu; clear hu
        have HOWN := Lib.hid hown'; clear hown' hown hin2' hin2 hh2 hrcell hrcell2 hu2 hlk
        subst hue hue2
        clear e2 e3 e5 e6 hus hus2
        go_wp2_with fail
        go_quiet (fail)
        go_wp2_with fail
        refine (spoil_any _ _ l _ (show Own (wr.drewN nq) _ _ l from HOWN.out) (by omega)).mono ?_
        rintro e w5 ⟨rfl, hg5⟩
        have HG5 := Lib.hid hg5; clear hg5
        go_wp2_with fail
        go_roundw
        case rel => exact ⟨k + 1, by omega, by go_num, (HO.out.draw nq).next HU.out HG5.out⟩
        case measure => simp [intOf]; omega
      · have hkl : k = ls.length := by omega
        have hfin : Below w2.heap.size w4 wr := HO.out.below HB4.out.size (fun j u g hu hg => (HULT.out j u g hu hg).1)
        have HFIN := Lib.hid (HB4.out.trans hfin); clear hfin
        go_wp2_with fail
        have hin6 := HB2.out.trans (HFIN.out.mono HB2.out.size)
        refine (fkept_any _ _ _ b _ (HX.out.below HFIN.out) (HB.out.below hin6) (by omega)).mono ?_
        rintro e w7 ⟨rfl, hb7⟩
        have HB7 := Lib.hid (HFIN.out.trans (hb7.mono HFIN.out.size)); clear hb7 hin6
        go_wp2_with fail
        go_ret
        exact ⟨rfl, HB2.out.trans (HB7.out.mono HB2.out.size)⟩

theorem frameAlls_any (vb : Value) (b : List UInt8) (first : Int) (w : World) (hb : RdB w vb b) (hf : (Lit.int .u64 first).wf = true) (hl : b.length ≤ 1048576) :
    Calls Try.prog 12 #[vb, .int .u64 first] w fun e w' => e = .returned (.bool true) ∧ Below w.heap.size w w' := by
  obtain ⟨n, rfl, hn'⟩ := u64_of hf
  exact frameAlls_nat vb b n w hb hn' hl
end Go.Proofs.Ytggjipfdfpdecaa
