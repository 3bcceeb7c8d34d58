/- The walk of the skip list's Step, whole. -/
import Derived.Test.YtfolchpjccjadaaDoorTf
import Derived.Test.YtfolchpjccjadaaDoorTg
namespace Go.Proofs.YtfolchpjccjadaaDoor
open Go.RowKit
set_option linter.unusedVariables false

theorem SStepR.mono {B o l a : Nat} {R R' : List Nat → List Nat → List Nod → Sop → Bool → Prop} {w : World} {e : Ending} {w' : World} (h : SStepR B o l a R w e w') (hR : ∀ H' L' N' s' d, R H' L' N' s' d → R' H' L' N' s' d) : SStepR B o l a R' w e w' := by
  obtain ⟨H', L', N', s', d, h1, h2, h3⟩ := h
  exact ⟨H', L', N', s', d, h1, hR _ _ _ _ _ h2, h3⟩
theorem SPre.recorded {H L : List Nat} {N : List Nod} {s : Sop} (h : SPre H L N s) (hb : s.begun = true) (h0 : s.does = 0) (n x : Nat) : SPre H L N { s with preds := s.preds.set s.level n, succs := s.succs.set s.level x } where
  nl := h.nl
  ll := h.ll
  kl := h.kl
  h0 := h.h0
  h8 := h.h8
  p8 := by simpa using h.p8
  s8 := by simpa using h.s8
  dx := h.dx
  bk := h.bk
  own := h.own
  walk := fun _ _ => by
    have := h.walk (fun e => absurd hb (by rw [e]; simp)) (by rw [start_begun hb]; exact h0)
    rw [start_begun hb] at this
    rw [start_begun (s := { s with preds := s.preds.set s.level n, succs := s.succs.set s.level x }) hb]
    exact this
  lay := fun _ e => absurd (h0.symm.trans e) (by simp)
  link := fun _ e => absurd (h0.symm.trans e) (by simp)
theorem SPre.started {H L : List Nat} {N : List Nod} {s : Sop} (h : SPre H L N s) (hk : s.begun = false → isKey s.key = true) : SPre H L N s.start := by
  cases hb : s.begun with
  | true => rw [start_begun hb]; exact h
  | false =>
    have hw := h.walk hk (by rw [start_fresh hb])
    have e := start_fresh hb
    have e2 : s.start.start = s.start := start_begun (by rw [e])
    exact { nl := h.nl, ll := h.ll, kl := by rw [e]; exact h.kl, h0 := by rw [e]; exact h.h0, h8 := by rw [e]; exact h.h8, p8 := by rw [e]; exact h.p8, s8 := by rw [e]; exact h.s8, dx := by rw [e]; exact Nat.zero_le _, bk := fun _ => by rw [e]; exact hk hb, own := by rw [e]; exact h.own,
            walk := fun _ _ => by rw [e2]; exact hw, lay := fun _ e1 => (by rw [e] at e1; exact absurd e1 (by simp)), link := fun _ e1 => (by rw [e] at e1; exact absurd e1 (by simp)) }

/-- The search's step. -/
theorem swalk_any (B o l a : Nat) (H L : List Nat) (N : List Nod) (s : Sop) (P : Nod) (c x : Nat) (w : World) (hA : ArW w B a H L) (hT : LsW w B l a N) (hs : SopW w B o l s) (hz : TabW w) (hB : 0 < B) (hBs : B ≤ w.heap.size) (hp : SPre H L N s) (hb : s.begun = true) (h0 : s.does = 0) (hlv : s.level < 8) (hP : N[s.pred]? = some P) (hc : P.tower[s.level]? = some c) (hcl : c ∈ L) (hx : H[c]? = some x) (hxl : x < N.length) (hxk : 0 < x → ∀ X, N[x]? = some X → isKey X.key = true) :
    Calls Tryd.prog 42 #[.pointer (some ⟨o, 0, none⟩)] w (SStepR B o l a (WStep H L N s x) w) := by
  have hks := hp.bk hb
  rcases Nat.eq_zero_or_pos x with hx0 | hx0
  · rcases Nat.eq_zero_or_pos s.level with hl | hl
    · exact swalk_arr0 B o l a H L N s P c x w hA hT hs hz hB hBs hp hks hlv hP hc hcl hx hxl hx0 hl (hp.recorded hb h0 _ _)
    · exact swalk_down0 B o l a H L N s P c x w hA hT hs hz hB hBs hp hks hlv hP hc hcl hx hxl hx0 hl
  · have hX := List.getElem?_eq_getElem hxl
    by_cases hless : (N[x]'hxl).key < s.key
    · exact swalk_pass B o l a H L N s P c x w hA hT hs hz hB hBs hp hks hlv hP hc hcl hx hxl _ hx0 hX hless
    · rcases Nat.eq_zero_or_pos s.level with hl | hl
      · exact swalk_arrx B o l a H L N s P c x w hA hT hs hz hB hBs hp hks hlv hP hc hcl hx hxl _ hx0 hX hless hl (hp.recorded hb h0 _ _) (hxk hx0 _ hX)
      · exact swalk_downx B o l a H L N s P c x w hA hT hs hz hB hBs hp hks hlv hP hc hcl hx hxl _ hx0 hX hless hl

theorem sstep_any (B o l a : Nat) (H L : List Nat) (N : List Nod) (s : Sop) (w : World) (hA : ArW w B a H L) (hT : LsW w B l a N) (hs : SopW w B o l s) (hz : TabW w) (hB : 0 < B) (hBs : B ≤ w.heap.size) (hp : SPre H L N s) :
    Calls Tryd.prog 18 #[.pointer (some ⟨o, 0, none⟩)] w (SStepR B o l a (SStep H L N s) w) := by
  cases hb : s.begun with
  | false =>
    cases hk : isKey s.key with
    | false => exact sstep_refuse B o l a H L N s w hA hT hs hb hp.dx hk hp.kl
    | true =>
      have hkk : s.begun = false → isKey s.key = true := fun _ => hk
      have e := start_fresh hb
      have h0 : s.start.does = 0 := by rw [e]
      obtain ⟨hlv, P, c, hP, hc, hcl, hxs⟩ := hp.walk hkk h0
      obtain ⟨x, hx⟩ := hA.get hcl
      obtain ⟨hxl, hxk⟩ := hxs x hx
      refine (sstep_fresh B o l a H L N s (WStep H L N s.start x) w hA hT hs hb hp.dx hBs hk hp.kl ?_).mono fun _ w' h => h.mono ?_
      · intro w' hA' hT' hs' hk'
        exact swalk_any B o l a H L N s.start P c x w' hA' hT' hs' (hz.keep hk' hB) hB (Nat.le_trans hBs hk'.size) (hp.started hkk) (by rw [e]) h0 hlv hP hc hcl hx hxl hxk
      · intro H' L' N' s' d hR
        obtain ⟨z1, z2, z3, z4, z5, z6, z7⟩ := start_same s
        cases hR with
        | pass X q1 q2 q3 => exact .pass P X c x hkk h0 hP hc hx q1 q2 (by rw [← z1]; exact q3)
        | down q1 q2 =>
          rw [z3, z4]
          exact .down P c x hkk h0 hP hc hx (by rw [← z1]; exact q1) q2
        | arrive q1 q2 q3 => rw [e] at q2; cases q2
  | true =>
    have e := start_begun hb
    rcases (show s.does = 0 ∨ s.does = 1 ∨ s.does = 2 by have := hp.dx; omega) with h0 | h0 | h0
    · have hkk : s.begun = false → isKey s.key = true := fun h => absurd hb (by rw [h]; simp)
      obtain ⟨hlv, P, c, hP, hc, hcl, hxs⟩ := hp.walk hkk (by rw [e]; exact h0)
      rw [e] at hlv hP hc
      obtain ⟨x, hx⟩ := hA.get hcl
      obtain ⟨hxl, hxk⟩ := hxs x hx
      refine (sstep_does0 B o l a H L N s (WStep H L N s x) w hA hT hs hBs hb h0 ?_).mono fun _ w' h => h.mono ?_
      · intro w' hA' hT' hs' hk'
        exact swalk_any B o l a H L N s P c x w' hA' hT' hs' (hz.keep hk' hB) hB (Nat.le_trans hBs hk'.size) hp hb h0 hlv hP hc hcl hx hxl hxk
      · intro H' L' N' s' d hR
        cases hR with
        | pass X q1 q2 q3 =>
          have := SStep.pass (H := H) (L := L) (N := N) (s := s) P X c x hkk (by rw [e]; exact h0) (by rw [e]; exact hP) (by rw [e]; exact hc) hx q1 q2 q3
          rw [e] at this
          exact this
        | down q1 q2 =>
          have := SStep.down (H := H) (L := L) (N := N) (s := s) P c x hkk (by rw [e]; exact h0) (by rw [e]; exact hP) (by rw [e]; exact hc) hx q1 (by rw [e]; exact q2)
          rw [e] at this
          exact this
        | arrive q1 q2 q3 => exact .arrive P c x hb h0 hP hc hx q1 q2 q3
    · obtain ⟨h1, h2, y, c, v, hy, hc, hcl, hv, hvl⟩ := hp.lay hb h0
      refine (sstep_does1 B o l a H L N s (fun H' L' N' s' d => H' = H.set c v ∧ L' = L ∧ N' = N ∧ s' = { s with does := 2 } ∧ d = false) w hA hT hs hBs hb h0 ?_).mono fun _ w' h => h.mono ?_
      · intro w' hA' hT' hs' hk'
        exact slay_any B o l a H L N s y c v w' hA' hT' hs' hy h2 hc hcl hv (by have := hp.nl; omega)
      · rintro H' L' N' s' d ⟨rfl, rfl, rfl, rfl, rfl⟩
        exact .lay y c v hb h0 hy hc hv
    · obtain ⟨h1, h1b, h2, n, P, c, v, hn, hP, hc, hcl, hv, hvl⟩ := hp.link hb h0
      obtain ⟨x, hx⟩ := hA.get hcl
      have hnl := hp.nl
      by_cases hxv : x = v
      · subst hxv
        by_cases hh : s.linked + 1 = s.height
        · refine (sstep_does2 B o l a H L N s (fun H' L' N' s' d => H' = H.set c s.own ∧ L' = L ∧ N' = N ∧ s' = { s with linked := s.linked + 1, does := 3 } ∧ d = true) w hA hT hs hBs hb h0 ?_).mono fun _ w' h => h.mono ?_
          · intro w' hA' hT' hs' hk'
            exact slink_last B o l a H L N s P n c x w' hA' hT' hs' h2 hn hP hc hcl hx hv (by omega) (by omega) hp.h8 hh
          · rintro H' L' N' s' d ⟨rfl, rfl, rfl, rfl, rfl⟩
            exact .last P n c x hb h0 hn hP hc hx hv hh
        · refine (sstep_does2 B o l a H L N s (fun H' L' N' s' d => H' = H.set c s.own ∧ L' = L ∧ N' = N ∧ s' = { s with linked := s.linked + 1, does := 1 } ∧ d = false) w hA hT hs hBs hb h0 ?_).mono fun _ w' h => h.mono ?_
          · intro w' hA' hT' hs' hk'
            exact slink_more B o l a H L N s P n c x w' hA' hT' hs' h2 hn hP hc hcl hx hv (by omega) (by omega) hp.h8 hh
          · rintro H' L' N' s' d ⟨rfl, rfl, rfl, rfl, rfl⟩
            exact .more P n c x hb h0 hn hP hc hx hv hh
      · refine (sstep_does2 B o l a H L N s (fun H' L' N' s' d => H' = H ∧ L' = L ∧ N' = N ∧ s' = s.again ∧ d = false) w hA hT hs hBs hb h0 ?_).mono fun _ w' h => h.mono ?_
        · intro w' hA' hT' hs' hk'
          exact slink_fail B o l a H L N s P n c x v w' hA' hT' hs' h2 hn hP hc hcl hx hv (by omega) (by omega) hxv
        · rintro H' L' N' s' d ⟨rfl, rfl, rfl, rfl, rfl⟩
          exact .fail P n c x v hb h0 hn hP hc hx hv hxv
end Go.Proofs.YtfolchpjccjadaaDoor
