/- The walk of the skip list's Keys. -/
import Derived.Test.YtfolchpjccjadaaDoorTh
import Derived.Test.YtfolchpjccjadaaDoorZ03
namespace Go.Proofs.YtfolchpjccjadaaDoor
open Go.RowKit
set_option linter.unusedVariables false
attribute [local go_sem] bs_list bs_size

def strv (k : List UInt8) : Value := .string (bs k)
/-- The keys up to a node, rising. -/
structure UpTo (m : PM) (g : Gh) (n : Nat) (us : List (List UInt8)) : Prop where
  at_ : n = 0 ∨ g.M 0 n
  up : us.Pairwise (· < ·)
  mem : ∀ k, k ∈ us ↔ ∃ j, g.M 0 j ∧ nK m.N j = k ∧ ¬ nK m.N n < k
section
variable {K : List (List UInt8)} {hd : List Nat} {m : PM} {g : Gh}
theorem UpTo.first (hG : Glob K hd m g) : UpTo m g 0 [] := by
  refine ⟨.inl rfl, .nil, fun k => ⟨fun h => (by cases h), ?_⟩⟩
  rintro ⟨j, h1, h2, h3⟩
  have := (hG.mn 0 j h1).2.2.2.1
  rw [hG.n0.1, ← h2] at h3
  exact absurd (nil_lt this) h3
theorem UpTo.next {n x : Nat} {us : List (List UInt8)} (hG : Glob K hd m g) (h : UpTo m g n us) (hx : nx m.H m.N 0 n = some x) (h0 : 0 < x) : UpTo m g x (us ++ [nK m.N x]) ∧ rank K (nK m.N x) < rank K (nK m.N n) := by
  obtain ⟨v, h1, h2, h3⟩ := hG.mx 0 n (by omega) h.at_
  obtain rfl := Option.some.inj (hx.symm.trans h1)
  rcases h2 with h2 | ⟨h2, h4⟩
  · omega
  refine ⟨⟨.inr h2, ?_, fun k => ?_⟩, rank_lt h4 (hG.mn 0 x h2).2.2.2.2⟩
  · rw [List.pairwise_append]
    refine ⟨h.up, List.pairwise_singleton _ _, fun a ha b hb => ?_⟩
    simp at hb
    subst hb
    obtain ⟨j, q1, q2, q3⟩ := (h.mem a).1 ha
    exact le_lt q3 h4
  · rw [List.mem_append, h.mem]
    constructor
    · rintro (⟨j, q1, q2, q3⟩ | hk)
      · exact ⟨j, q1, q2, fun hlt => List.lt_irrefl _ (List.lt_trans (le_lt q3 h4) hlt)⟩
      · simp at hk
        exact ⟨x, h2, hk.symm, by rw [hk]; exact List.lt_irrefl _⟩
    · rintro ⟨j, q1, q2, q3⟩
      by_cases hlt : nK m.N n < k
      · right
        have := (h3 j q1 (by rw [q2]; exact hlt)).2
        rw [q2] at this
        simp
        apply Classical.byContradiction
        intro hne
        exact q3 (key_tri this hne)
      · exact .inl ⟨j, q1, q2, hlt⟩
theorem UpTo.all {n : Nat} {us : List (List UInt8)} (hG : Glob K hd m g) (h : UpTo m g n us) (hx : nx m.H m.N 0 n = some 0) : ∀ k, k ∈ us ↔ ∃ j, g.M 0 j ∧ nK m.N j = k := by
  obtain ⟨v, h1, h2, h3⟩ := hG.mx 0 n (by omega) h.at_
  obtain rfl := Option.some.inj (hx.symm.trans h1)
  intro k
  rw [h.mem]
  constructor
  · rintro ⟨j, q1, q2, _⟩; exact ⟨j, q1, q2⟩
  · rintro ⟨j, q1, q2⟩
    refine ⟨j, q1, q2, fun hlt => ?_⟩
    exact (h3 j q1 (by rw [q2]; exact hlt)).1 rfl
theorem UpTo.len {n : Nat} {us : List (List UInt8)} (hG : Glob K hd m g) (h : UpTo m g n us) : us.length ≤ K.length :=
  nodup_len us K (h.up.imp fun hlt e => by rw [e] at hlt; exact List.lt_irrefl _ hlt) fun k hk => by
    obtain ⟨j, q1, q2, _⟩ := (h.mem k).1 hk
    rw [← q2]
    exact (hG.mn 0 j q1).2.2.2.2
end

/-- Blocks of texts that were there are as they were. -/
def Old9 (w w' : World) : Prop := ∀ (k : Nat) (cs : Array Value), w.heap[k]? = some (.cells cs 9 (0, 0)) → w'.heap[k]? = some (.cells cs 9 (0, 0))
theorem Old9.keep {B : Nat} {w w1 w2 : World} (h : Old9 w w1) (hk : Keep B [51] none w1 w2) : Old9 w w2 := fun k cs hc => hk.rest k cs 9 (h k cs hc) rfl (by simp)
theorem Old9.append {N n : Nat} {v : Value} {us : List Value} {w w1 w2 : World} (h : Old9 w w1) (hN : w.heap.size ≤ N) (hg : w1.grownBy w2 v.ownBlock) (hr : w1.ownsRow N 9 1 v n us) : Old9 w w2 := fun k cs hc =>
  (hg.block k (heap_lt (h k cs hc)) (fun e => by
    have h1 := heap_lt hc
    have h2 := (World.ownsRow.lt hr k (by first | exact e | exact e.symm)).1
    omega)).trans (h k cs hc)
theorem Old9.row {w w' : World} {b n : Nat} {v : Value} {xs : List Value} (h : Old9 w w') (hr : w.ownsRow b 9 1 v n xs) : w'.ownsRow b 9 1 v n xs := by
  refine ⟨hr.1, ?_⟩
  rcases hr.2 with h0 | ⟨g, cap, cur, rfl, h1, h2, h3, h4, h5, h6⟩
  · exact .inl h0
  · exact .inr ⟨g, cap, cur, rfl, h1, h g cur h2, h3, h4, h5, h6⟩

theorem ownsRow_low {w : World} {b c e size n : Nat} {v : Value} {xs : List Value} (h : w.ownsRow c e size v n xs) (hbc : b ≤ c) : w.ownsRow b e size v n xs := by
  refine ⟨h.1, ?_⟩
  rcases h.2 with h0 | ⟨g, cap, cur, rfl, h1, h2⟩
  · exact .inl h0
  · exact .inr ⟨g, cap, cur, rfl, Nat.le_trans hbc h1, h2⟩

set_option maxRecDepth 100000 in
set_option maxHeartbeats 4000000 in
theorem skeys_any (B l a : Nat) (K : List (List UInt8)) (hd : List Nat) (m : PM) (g : Gh) (w : World) (hA : ArW w B a m.H m.L) (hT : LsW w B l a m.N) (hG : Glob K hd m g) (hK : K.length ≤ 40) (hBs : B ≤ w.heap.size) (N : Nat) (hNe : N = w.heap.size) (hnl : m.N.length < 100000) :
    Calls Tryd.prog 11 #[.pointer (some ⟨l, 0, none⟩)] w fun e w' => ∃ (v : Value) (us : List (List UInt8)), e = .returned v ∧ w'.ownsRow N 9 1 v us.length (us.map strv) ∧ us.Pairwise (· < ·) ∧ (∀ k, k ∈ us ↔ ∃ j, g.M 0 j ∧ nK m.N j = k) ∧ Keep B [51, 9] none w w' ∧ Old9 w w' := by
  have HA := Lib.hid hA; have HT := Lib.hid hT; have HG := Lib.hid hG; have HNE := Lib.hid hNe
  clear hA hT hG hNe
  go_enter Tryd.func11, Tryd.ntmps11
  go_wp2_with fail
  go_loopw [3, 4] (fun v3 v4 wr => ∃ (n : Nat) (us : List (List UInt8)), v4 = .int .i64 (n : Int) ∧ Hid (UpTo m g n us) ∧ Hid (wr.ownsRow N 9 1 v3 us.length (us.map strv)) ∧ ArW wr B a m.H m.L ∧ LsW wr B l a m.N ∧ Keep B [51, 9] none w wr ∧ Hid (Old9 w wr)) (fun _ v4 _ => rank K (nK m.N (intOf v4).toNat))
  case atStart => exact ⟨0, [], rfl, Lib.hid (UpTo.first HG.out), Lib.hid ⟨rfl, .inl ⟨rfl, rfl⟩⟩, HA.out, HT.out, Keep.refl _ _ _ _, Lib.hid (fun _ _ h => h)⟩
  case round =>
    obtain ⟨n, us, rfl, hu, hr, hA1, hT1, hK1, hO1⟩ := hrel
    obtain ⟨P, c, hP, hc, hcl, hxs⟩ := HG.out.place (i := 0) (by omega) hu.out.at_
    obtain ⟨x, hx⟩ := hA1.get hcl
    have hnx := HG.out.nx_at hP hc hx
    obtain ⟨nv, ps, hT1⟩ := hT1
    obtain ⟨g1, cap, p, hnv, hcap, hp, hN, hcell⟩ := hT1.at hP
    subst hnv
    have hnlt := (List.getElem?_eq_some_iff.1 hP).1
    have HF := Lib.hid (load_any B a c x m.H m.L wr.drew (hA1.keep (Keep.refl B [] none wr).drew rfl rfl (by simp)) hcl hx)
    have y0 := box_cells hT1.1 0 (.pointer (some ⟨a, 0, none⟩)) rfl
    have y1 := box_cells hT1.1 1 (.slice (some ⟨g1, 0, none⟩) m.N.length cap) rfl
    have yp : wr.cell? ⟨g1, n, none⟩ = some (.pointer (some ⟨p, 0, none⟩)) := hcell
    have yc : wr.cell? ⟨p, 19, none⟩ = some (.int .i64 (c : Int)) := hN.cell (j := 0) (by omega) hc
    have i0 : (0 : Int) ≤ (n : Int) := by omega
    have i1 : (n : Int) < (m.N.length : Int) := by omega
    have HN := Lib.hid hN; have HA1 := Lib.hid hA1; have HT1 := Lib.hid hT1; have HK1 := Lib.hid hK1; have HX := Lib.hid hnx; have HXS := Lib.hid (hxs x hx)
    have HP := Lib.hid hP; have HPS := Lib.hid hp; have HC := Lib.hid hc
    clear hP hc hcl hxs hx hnx hp hN hcell hA1 hT1 hK1
    go_upto_region 5 with fail
    go_region_held3 (fun W => W.cell? ⟨l, 0, none⟩ = some (.pointer (some ⟨a, 0, none⟩)) ∧ W.cell? ⟨l, 1, none⟩ = some (.slice (some ⟨g1, 0, none⟩) m.N.length cap) ∧ W.cell? ⟨g1, n, none⟩ = some (.pointer (some ⟨p, 0, none⟩)) ∧ W.cell? ⟨p, 19, none⟩ = some (.int .i64 (c : Int))) (simp [*]) ((go_at_call 19; refine HF.out.mono ?_; rintro e w2 ⟨rfl, hA2, hk2⟩; have hk3 : Keep B [51] none wr w2 := (Keep.refl B [51] none wr).drew.trans hk2; have hT2 := HT1.out.keep hk3 rfl rfl rfl (by simp); have r0 := box_cells hT2.1 0 (.pointer (some ⟨a, 0, none⟩)) rfl; have r1 := box_cells hT2.1 1 (.slice (some ⟨g1, 0, none⟩) m.N.length cap) rfl; have rp : w2.cell? ⟨g1, n, none⟩ = some (.pointer (some ⟨p, 0, none⟩)) := row_cell hT2.2.2.2.1 n (ptrv p) (by rw [List.getElem?_map, HPS.out]; rfl); have hN2 := HN.out.keep hk3 rfl (by simp); have rc : w2.cell? ⟨p, 19, none⟩ = some (.int .i64 (c : Int)) := hN2.cell (j := 0) (by omega) HC.out; have HA2 := Lib.hid hA2; have HT2 := Lib.hid hT2; have HK2 := Lib.hid hk3; clear hA2 hk2 hk3 hT2 hN2))
    rename_i hheld
    clear hheld y0 y1 yp yc r0 r1 rp rc
    rcases Nat.eq_zero_or_pos x with hx0 | hx0
    · subst hx0
      have hr2 := HK2.out.row hr.out rfl (by simp)
      have HR2 := Lib.hid hr2
      clear hr2
      go_wp2_with fail
      go_ret
      exact ⟨_, us, rfl, HR2.out, hu.out.up, hu.out.all HG.out HX.out, HK1.out.trans (HK2.out.mono rfl), hO1.out.keep HK2.out⟩
    · have tx : ((x : Int) == 0) = false := by rw [beq_eq_false_iff_ne]; omega
      obtain ⟨hxl, hxk⟩ := HXS.out
      have ux : IntKind.i64.wrap (x : Int) = (x : Int) := IntWalk.i64_in _ (by omega)
      have hXX := List.getElem?_eq_getElem hxl
      obtain ⟨X, hX⟩ : ∃ X, m.N[x]? = some X := ⟨_, hXX⟩
      obtain ⟨hu2, hrk⟩ := hu.out.next HG.out HX.out hx0
      have hul := hu2.len HG.out
      obtain ⟨q, hq⟩ : ∃ q, ps[x]? = some q ∧ NodW w2 B q X := by obtain ⟨_, _, q, _, _, h1, h2, _⟩ := HT2.out.at hX; exact ⟨q, h1, h2⟩
      have y1 := box_cells HT2.out.1 1 (.slice (some ⟨g1, 0, none⟩) m.N.length cap) rfl
      have yq : w2.cell? ⟨g1, x, none⟩ = some (.pointer (some ⟨q, 0, none⟩)) := row_cell HT2.out.2.2.2.1 x (ptrv q) (by rw [List.getElem?_map, hq.1]; rfl)
      have yk : w2.cell? ⟨q, 0, none⟩ = some (.string (bs X.key)) := by obtain ⟨_, _, rf, hh⟩ := hq.2; exact box_cells hh 0 _ rfl
      have j0 : (0 : Int) ≤ (x : Int) := by omega
      have j1 : (x : Int) < (m.N.length : Int) := by omega
      have hr2 := HK2.out.row hr.out rfl (by simp)
      obtain ⟨A, ca, hsl⟩ := row_slice hr2
      subst hsl
      have hbw2 : B ≤ w2.heap.size := Nat.le_trans (Nat.le_trans hBs HK1.out.size) HK2.out.size
      have hnw2 : N ≤ w2.heap.size := by rw [HNE.out]; exact Nat.le_trans HK1.out.size HK2.out.size
      have HR2 := Lib.hid hr2
      have HU2 := Lib.hid hu2
      have HXK := Lib.hid (nK_some hX)
      have HRK := Lib.hid hrk
      clear hXX hX hq hr2 hu2 hrk hxl hxk
      rw [List.length_append, List.length_singleton] at hul
      obtain ⟨un, hun⟩ : ∃ un, un = us.length := ⟨_, rfl⟩
      rw [← hun] at hul
      have HUN := Lib.hid hun
      rw [← hun] at HR2 ⊢
      clear hun
      go_wp2_with (at_builtin; refine append_one N w2.heap.size rfl 22 9 1 16 _ Tryd.underlying22 info9 rfl (by omega) rfl (.tmp 33) (.tmp 44) rfl _ un (us.map strv) #[.string (bs X.key)] rfl ?hy rfl rfl HR2.out ?hb ?hl1 ?hl2 ?_; (case hy => intro u hu; simp at hu; subst hu; rfl); (case hb => exact hnw2); (case hl1 => omega); (case hl2 => omega); intro v1 w3 ho3 hb3 hg3 hat3; have HO3 := Lib.hid ho3; have HG3 := Lib.hid hg3; clear ho3 hg3 hat3 hb3)
      have hk3 : Keep B [9] none w2 w3 := Keep.of_append HG3.out (ownsRow_low HR2.out (by rw [HNE.out]; exact hBs)) hbw2 rfl
      have hO3 : Old9 w w3 := (hO1.out.keep HK2.out).append (Nat.le_of_eq HNE.out.symm) HG3.out HR2.out
      go_roundw
      case rel => exact ⟨x, us ++ [X.key], rfl, Lib.hid (by rw [← HXK.out]; exact HU2.out), Lib.hid (by rw [List.length_append, List.length_singleton, List.map_append, ← HUN.out]; exact HO3.out), HA2.out.keep hk3 rfl rfl (by simp), ⟨_, _, HT2.out.keep hk3 rfl rfl rfl (by simp)⟩, (HK1.out.trans (HK2.out.mono rfl)).trans (hk3.mono rfl), Lib.hid hO3⟩
      case measure => simpa [intOf] using HRK.out
end Go.Proofs.YtfolchpjccjadaaDoor
