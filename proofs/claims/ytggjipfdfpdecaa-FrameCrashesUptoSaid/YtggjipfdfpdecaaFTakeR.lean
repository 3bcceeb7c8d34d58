/- The walk of varveref04's Take: the document's word on which frame stands at a place. -/
import Derived.Test.YtggjipfdfpdecaaFTake
import Derived.Test.YtggjipfdfpdecaaFPut
namespace Go.Proofs.Ytggjipfdfpdecaa
open Go.RowKit
attribute [local go_sem] bs_list

theorem ftake_any (v : Value) (b : List UInt8) (at_ : Int) (w : World) (hr : RdB w v b) (hl : b.length ≤ 140737480000000) : Calls Try.prog 42 #[v, .int .i64 at_] w (TakeR w at_ (frAt b at_)) := by
  by_cases h : place b at_
  · obtain ⟨a, rfl⟩ := Int.eq_ofNat_of_zero_le h.1
    unfold frAt
    rw [if_pos (show 0 ≤ (a : Int) ∧ (a : Int) % 32 = 0 ∧ (a : Int) + 32 ≤ b.length from h)]
    exact ftake_in v b a w hr hl h
  · unfold frAt
    rw [if_neg (show ¬ (0 ≤ at_ ∧ at_ % 32 = 0 ∧ at_ + 32 ≤ b.length) from h)]
    refine (ftake_place v b at_ w hr (by omega) h).mono ?_
    rintro e w' ⟨rfl, rfl⟩
    exact ⟨rfl, Below.refl _ _⟩

/-- v reads as l, all in one block of the call's own. -/
def RdN (w : World) (base : Nat) (v : Value) (l : List UInt8) : Prop := ∃ g cs fr, base ≤ g ∧ RdIn w g v l ∧ w.heap[g]? = some (.cells cs 5 fr)
theorem RdN.rd {w : World} {base : Nat} {v : Value} {l : List UInt8} (h : RdN w base v l) : RdB w v l := by
  obtain ⟨g, _, _, _, h, _⟩ := h
  exact h.rd
theorem RdN.below {w w' : World} {base : Nat} {v : Value} {l : List UInt8} (h : RdN w base v l) (hb : Below w.heap.size w w') : RdN w' base v l := by
  obtain ⟨g, cs, fr, h1, h2, h3⟩ := h
  exact ⟨g, cs, fr, h1, h2.keep (fun hg => hb.block g hg), (hb.block g (Array.getElem?_eq_some_iff.1 h3).1).trans h3⟩

def TakeN (w : World) (at_ : Int) (o : Option (Nat × List UInt8)) (e : Ending) (w' : World) : Prop :=
  match o with
  | none => e = .returned noF ∧ Below w.heap.size w w'
  | some p => ∃ vb, e = .returned (.tuple #[.int .u64 (p.1 : Nat), vb, .int .i64 (at_ + ((32 * bl p.2.length : Nat) : Int)), .bool true]) ∧ RdN w' w.heap.size vb p.2 ∧ Below w.heap.size w w'
theorem taken_no {w w' : World} {at_ : Int} {X : List UInt8} (h : tkF X = none) (hb : Below w.heap.size w w') : TakeN w at_ (tkF X) (.returned noF) w' := by
  rw [h]
  exact ⟨rfl, hb⟩

/-- A cut lies in the block of what is cut. -/
theorem cut_in {w : World} {g : Nat} (A : Option Addr) (c : Nat) (l : List UInt8) (lo hi : Int) (h0 : 0 ≤ lo) (h1 : lo ≤ hi) (h2 : hi ≤ l.length) (v : Value) (r : List UInt8) (hr : r = (l.take hi.toNat).drop lo.toNat)
    (hcut : ∀ W : World, (Instr.slice 25 (.slice A l.length c) (some (.int .i64 lo)) (some (.int .i64 hi)) none).run Try.prog W = .ok v W) (h : RdIn w g (.slice A l.length c) l) : RdIn w g v r := by
  obtain ⟨A1, c1, he, hc1, hm, hcell⟩ := h
  injection he with e1 e2 e3
  subst e1; subst e3
  have hrl : r.length = hi.toNat - lo.toNat := by rw [hr, List.length_drop, List.length_take]; omega
  obtain ⟨i0, hi0, _, hsz, _⟩ := info_parts info5
  have hel : Try.prog.elem 25 = 5 := by simp [Program.elem, Try.underlying25]
  have hu : Try.prog.underlying 25 = some (.slice (Try.prog.elem 25)) := by rw [hel]; exact Try.underlying25
  have hv := hcut w
  rw [run_slice_lh w 25 A l.length c hu .i64 .i64 lo hi h0 h1 (by omega), hel] at hv
  simp [sizeOf, typeInfo, hi0, hsz, sliced, Result.andThen] at hv
  subst hv
  rw [← hrl]
  have q0 : r.length = 0 ∨ lo.toNat + r.length = hi.toNat := by omega
  have q1 : hi.toNat ≤ l.length := by omega
  have q2 : lo.toNat ≤ hi.toNat := by omega
  clear h0 h1 h2 hu hi0 hsz hel hcut hrl
  generalize lo.toNat = p at *
  generalize hi.toNat = q at *
  refine ⟨_, _, rfl, by omega, by omega, fun hp => ?_⟩
  obtain ⟨ad, rfl, hb, hcells⟩ := hcell (by omega)
  rw [if_neg (by omega)]
  refine ⟨ad.add p, rfl, by rw [add_block, hb], fun j hj => ?_⟩
  rw [add_of_add, hcells (p + j) (by omega)]
  simp [hr]

set_option maxRecDepth 100000 in
set_option maxHeartbeats 1000000 in
theorem rtake_place (v : Value) (b : List UInt8) (at_ : Int) (w : World) (hr : RdB w v b) (hl : b.length ≤ 140737488355328) (h : ¬ place b at_) :
    Calls Try.prog 43 #[v, .int .i64 at_] w fun e w' => e = .returned noF ∧ w = w' := by
  obtain ⟨A, c, rfl, _, _, _⟩ := id hr
  unfold place at h
  clear hr
  by_cases h0 : at_ < 0
  · go_enter Try.func43, Try.ntmps43
    go_wp2_with fail
    exact ret4 rfl rfl ⟨rfl, rfl⟩
  · by_cases h1 : at_ % 32 = 0
    · by_cases h2 : (b.length : Int) ≤ at_
      · clear h
        go_enter Try.func43, Try.ntmps43
        go_wp2_with fail
        exact ret4 rfl rfl ⟨rfl, rfl⟩
      · have h3 : (b.length : Int) - at_ < 32 := by omega
        have hw : IntKind.i64.wrap ((b.length : Int) - at_) = (b.length : Int) - at_ := IntWalk.i64_in _ (by omega)
        clear h
        go_enter Try.func43, Try.ntmps43
        go_wp2_with fail
        exact ret4 rfl rfl ⟨rfl, rfl⟩
    · go_enter Try.func43, Try.ntmps43
      go_wp2_with fail
      exact ret4 rfl rfl ⟨rfl, rfl⟩

set_option maxRecDepth 100000 in
set_option maxHeartbeats 2000000 in
theorem rtake_in (v : Value) (b : List UInt8) (a : Nat) (w : World) (hr : RdB w v b) (hl : b.length ≤ 140737480000000) (h : place b a) :
    Calls Try.prog 43 #[v, .int .i64 a] w (TakeN w a (tkF (b.drop a))) := by
  obtain ⟨A, c, rfl, hc1, hc2, hcell⟩ := id hr
  obtain ⟨-, h1, h2⟩ := h
  have hlt : a < b.length := by omega
  obtain ⟨ad, rfl, hcells⟩ := hcell (by omega)
  have hck := hcells a hlt
  rw [bv_nat] at hck
  obtain ⟨x, hx⟩ : ∃ x, x = b[a] := ⟨_, rfl⟩
  rw [← hx] at hck
  obtain ⟨X, hX⟩ : ∃ X, X = b.drop a := ⟨_, rfl⟩
  rw [← hX]
  have hXl : X.length = b.length - a := by rw [hX, List.length_drop]
  have hx0 : X[0]? = some x := by rw [hX, List.getElem?_drop, hx]; simp [hlt]
  have HX0 := Lib.hid hx0; clear hx0 hx hcells hcell
  have hw0 : IntKind.i64.wrap ((b.length : Int) - (a : Int)) = (b.length : Int) - (a : Int) := IntWalk.i64_in _ (by omega)
  have t0 : ¬ (b.length : Int) - (a : Int) < 32 := by omega
  by_cases hx1 : x = 0xA1
  · have hx1' : x.toNat = 161 := by rw [hx1]; rfl
    rw [hx1'] at hck
    have HX1 := Lib.hid hx1; clear hx1 hx1'
    obtain ⟨r2, A2, c2, hr2, hcut2, hrd2⟩ := cut_lh (some ad) c b ((a : Int) + 9) ((a : Int) + 13) (by omega) (by omega) (by omega) hc1
    have hnX : unle r2 = nof X := by rw [hr2, nof_cut, hX]; rfl
    have hr2l : r2.length = 4 := by rw [hr2, List.length_drop, List.length_take]; omega
    rw [hr2l] at hcut2 hrd2
    have hn := unle_lt r2
    rw [hr2l] at hn
    obtain ⟨n, hnn⟩ : ∃ n, n = unle r2 := ⟨_, rfl⟩
    rw [← hnn] at hn hnX
    have hwn : IntKind.i64.wrap (n : Int) = (n : Int) := IntWalk.i64_in _ (by omega)
    have hw9 : IntKind.i64.wrap ((a : Int) + 9) = (a : Int) + 9 := IntWalk.i64_in _ (by omega)
    have hw13 : IntKind.i64.wrap ((a : Int) + 13) = (a : Int) + 13 := IntWalk.i64_in _ (by omega)
    have EX := Lib.hid hX; clear hX
    have XL := Lib.hid hXl; clear hXl
    have EN := Lib.hid hnn; clear hnn
    have NX := Lib.hid hnX; clear hnX
    have L2 := Lib.hid hr2l; clear hr2l hr2
    have HR := Lib.hid hr; clear hr
    have R2 := Lib.hid (hrd2 w HR.out); clear hrd2
    by_cases hn6 : 65536 < n
    · go_enter Try.func43, Try.ntmps43
      go_wp2_with fail
      refine (value_any _ r2 w R2.out (by rw [L2.out]; omega)).mono ?_
      rintro e w' ⟨rfl, rfl⟩
      rw [← EN.out]
      go_wp2_with fail
      refine ret4 rfl rfl ?_
      exact taken_no (tk_no (fun hh => by have := hh.2.2.1; rw [← NX.out] at this; omega)) (Below.refl _ _)
    · obtain ⟨m, hm⟩ : ∃ m, m = bl n := ⟨_, rfl⟩
      have hm2 : m ≤ 4000 := by rw [hm]; unfold bl; omega
      have hmq : ((n : Int) + 20 + 31 - 1) / 31 = (m : Int) := by rw [hm]; unfold bl; omega
      have HM := Lib.hid hm; clear hm
      have hw1 : IntKind.i64.wrap ((m : Int) * 32) = (m : Int) * 32 := IntWalk.i64_in _ (by omega)
      by_cases hroom : b.length - a < m * 32
      · go_enter Try.func43, Try.ntmps43
        go_wp2_with fail
        refine (value_any _ r2 w R2.out (by rw [L2.out]; omega)).mono ?_
        rintro e w' ⟨rfl, rfl⟩
        rw [← EN.out]
        go_wp2_with fail
        refine ret4 rfl rfl ?_
        exact taken_no (tk_no (fun hh => by have := hh.2.2.2; rw [← NX.out, ← HM.out, XL.out] at this; omega)) (Below.refl _ _)
      · have hroom2 : 32 * bl (nof X) ≤ X.length := by rw [← NX.out, ← HM.out, XL.out]; omega
        have hpb := pads_bl n
        rw [← HM.out] at hpb
        have hn20 : n + 20 ≤ 31 * m := by omega
        clear hpb
        have hb1 : 1 ≤ m := by omega
        have HROOM := Lib.hid hroom2; clear hroom2
        have hseqX := seq_sof X HROOM.out
        have HSX := Lib.hid hseqX; clear hseqX
        have hbl := body_len X HROOM.out
        rw [← NX.out] at hbl
        have HBL := Lib.hid hbl; clear hbl
        go_enter Try.func43, Try.ntmps43
        go_wp2_with fail
        refine (value_any _ r2 w R2.out (by rw [L2.out]; omega)).mono ?_
        rintro e w' ⟨rfl, rfl⟩
        rw [← EN.out]
        go_wp2_with fail
        rw [hmq]
        clear hmq
        go_loopw [10, 11] (fun v10 v11 wr => ∃ k : Nat, k ≤ m ∧ v11 = .int .i64 (k : Int) ∧ Own wr w.heap.size v10 (pieces k X) ∧ Below w.heap.size w wr) (fun _ v11 _ => m - (intOf v11).toNat)
        case atStart => exact ⟨0, by omega, rfl, Own.nil _ _, Below.refl _ _⟩
        case round =>
          obtain ⟨k, hk, rfl, ho, hb⟩ := hrel
          have HO := Lib.hid ho; clear ho
          have HB := Lib.hid hb; clear hb
          by_cases hkm : k < m
          · obtain ⟨r, Ar, cr, hr, hcutr, hrdr⟩ := cut_lh (some ad) c b ((a : Int) + (k : Int) * 32 + 1) ((a : Int) + ((k : Int) + 1) * 32) (by omega) (by omega) (by omega) hc1
            have hrr : r = (X.drop (32 * k + 1)).take 31 := by
              rw [hr, EX.out, show ((a : Int) + ((k : Int) + 1) * 32).toNat = a + 32 * k + 32 from by omega, show ((a : Int) + (k : Int) * 32 + 1).toNat = a + 32 * k + 1 from by omega, List.drop_take, List.drop_drop]
              congr 1
              omega
            have hpl : (pieces k X).length ≤ 140000 := by rw [pieces_len k X (by have := XL.out; omega)]; omega
            have hrl : r.length ≤ 31 := by rw [hrr, List.length_take]; omega
            have hnext : pieces (k + 1) X = pieces k X ++ r := by rw [pieces_snoc, hrr]
            have HNX := Lib.hid hnext; clear hnext
            obtain ⟨pk, hpk⟩ : ∃ p, p = pieces k X := ⟨_, rfl⟩
            rw [← hpk] at HO HNX hpl
            have RR := Lib.hid (hrdr wr (HR.out.below HB.out)); clear hrdr hpk hr hrr
            have hwA : IntKind.i64.wrap ((k : Int) * 32) = (k : Int) * 32 := IntWalk.i64_in _ (by omega)
            have hwB : IntKind.i64.wrap ((a : Int) + (k : Int) * 32) = (a : Int) + (k : Int) * 32 := IntWalk.i64_in _ (by omega)
            have hwC : IntKind.i64.wrap ((a : Int) + (k : Int) * 32 + 1) = (a : Int) + (k : Int) * 32 + 1 := IntWalk.i64_in _ (by omega)
            have hwD : IntKind.i64.wrap ((k : Int) + 1) = (k : Int) + 1 := IntWalk.i64_in _ (by omega)
            have hwE : IntKind.i64.wrap (((k : Int) + 1) * 32) = ((k : Int) + 1) * 32 := IntWalk.i64_in _ (by omega)
            have hwF : IntKind.i64.wrap ((a : Int) + ((k : Int) + 1) * 32) = (a : Int) + ((k : Int) + 1) * 32 := IntWalk.i64_in _ (by omega)
            go_wp2_with (at_builtin; refine own_append_row w.heap.size rfl (.tmp 69) (.tmp 81) rfl _ _ pk r rfl rfl HO.out RR.out ?hb1 ?hl1 ?_; (case hb1 => exact HB.out.size); (case hl1 => omega); intro v1 w1 hown hb1 hg hat; have HO1 := Lib.hid hown; have HB1 := Lib.hid (HB.out.trans hb1); clear hown hb1 hg hat)
            go_roundw
            case rel => exact ⟨k + 1, by omega, by go_num, by rw [HNX.out]; exact HO1.out, HB1.out⟩
            case measure => simp [intOf]; omega
          · have hkm2 : k = m := by omega
            obtain ⟨S, hS⟩ : ∃ S, S = pieces k X := ⟨_, rfl⟩
            have hSl : S.length = 31 * m := by rw [hS, hkm2]; exact pieces_len m X (by have := XL.out; omega)
            have hSo : S = sof X := by rw [hS, hkm2, HM.out]; unfold sof; rw [← NX.out]
            rw [← hS] at HO
            have HSO := Lib.hid hSo; clear hSo hS
            obtain ⟨AS, cS, rfl, hcS, hcS2, _⟩ := HO.out.rd
            have hn20' : n + 20 ≤ S.length := by omega
            have hwA : IntKind.i64.wrap (16 + (n : Int)) = 16 + (n : Int) := IntWalk.i64_in _ (by omega)
            have hwG : IntKind.i64.wrap ((a : Int) + (m : Int) * 32) = (a : Int) + (m : Int) * 32 := IntWalk.i64_in _ (by omega)
            obtain ⟨r10, A10, c10, hr10, hcut10, hrd10⟩ := cut_lh AS cS S 16 (16 + (n : Int)) (by omega) (by omega) (by omega) hcS
            obtain ⟨g, cs, fr, hg1, hg2, hg3⟩ : ∃ g cs fr, w.heap.size ≤ g ∧ RdIn wr g (.slice AS S.length cS) S ∧ wr.heap[g]? = some (.cells cs 5 fr) := by
              rcases HO.out.2 with ⟨_, h0⟩ | ⟨g, cap, cur, hv, hb', hh, _⟩
              · omega
              · exact ⟨g, cur, (0, 0), hb', HO.out.in_ g (.inl (by rw [hv]; rfl)), hh⟩
            have HG3 := Lib.hid hg3; clear hg3
            have hin10 := cut_in AS cS S 16 (16 + (n : Int)) (by omega) (by omega) (by omega) _ r10 hr10 hcut10 hg2
            obtain ⟨r9, hr9, hcut9, hrd9⟩ := cut_h AS cS S 8 (by omega) (by omega) hcS
            obtain ⟨r11, A11, c11, hr11, hcut11, hrd11⟩ := cut_lh (some ad) c b (a : Int) ((a : Int) + (m : Int) * 32) (by omega) (by omega) (by omega) hc1
            have hr9l : r9.length = 8 := by rw [hr9, List.length_take]; omega
            rw [hr9l] at hcut9 hrd9
            have hbody : r10 = bodyof X := by
              have e2 : (16 + (n : Int)).toNat = 16 + n := by omega
              unfold bodyof
              rw [← HSO.out, ← NX.out, hr10, e2]
              rfl
            have hr10l : r10.length ≤ 65536 := by rw [hbody, HBL.out]; omega
            have hseq : unle r9 = seqof X := by rw [hr9, HSO.out]; exact HSX.out
            have hwhole : r11 = X.take (32 * m) := by
              rw [hr11, EX.out, show ((a : Int) + (m : Int) * 32).toNat = a + 32 * m from by omega, Int.toNat_natCast, List.drop_take]
              congr 1
              omega
            have hsq : seqof X < 18446744073709551616 := by
              have := unle_lt r9
              rw [hr9l, hseq] at this
              omega
            have BO := Lib.hid hbody; clear hbody
            have SQ := Lib.hid hseq; clear hseq
            have WH := Lib.hid hwhole; clear hwhole
            have L9 := Lib.hid hr9l; clear hr9l hr9 hr10 hr11 hn20'
            have HSL := Lib.hid hSl; clear hSl
            have HKM := Lib.hid hkm2; clear hkm2
            have R9 := Lib.hid (hrd9 wr HO.out.rd); clear hrd9
            have R10 := Lib.hid hin10; clear hin10 hrd10 hg2
            have RD11 := Lib.hid hrd11; clear hrd11
            go_wp2_with fail
            refine (value_any _ r9 wr R9.out (by rw [L9.out]; omega)).mono ?_
            rintro e w' ⟨rfl, rfl⟩
            rw [SQ.out]
            obtain ⟨sq, hsqd⟩ : ∃ s, s = seqof X := ⟨_, rfl⟩
            rw [← hsqd] at hsq ⊢
            have SQD := Lib.hid hsqd; clear hsqd
            go_wp2_with fail
            refine (refFrame_any _ r10 sq wr R10.out.rd hsq hr10l).mono ?_
            rintro e w4 ⟨v4, rfl, ho4, hb4⟩
            have HB4 := Lib.hid (HB.out.trans (hb4.mono HB.out.size))
            have R10b := Lib.hid (R10.out.keep (fun hg => hb4.block g hg))
            have HG4 := Lib.hid ((hb4.block g (Array.getElem?_eq_some_iff.1 HG3.out).1).trans HG3.out)
            have k1 := fun q => conv_rd (ho4.rd.drewN q)
            have k2 := fun q => conv_rd ((RD11.out w4 (HR.out.below HB4.out)).drewN q)
            clear ho4 hb4
            obtain ⟨F, hF⟩ : ∃ F, F = frameOf sq r10 := ⟨_, rfl⟩
            rw [← hF] at k1
            have HF := Lib.hid hF; clear hF
            by_cases heq : F = r11
            · have t : (F == r11) = true := by simp [heq]
              have tt : (F != r11) = false := by simp [heq]
              have HEQ := Lib.hid heq; clear heq
              go_wp2_with fail
              go_quiet (fail)
              go_wp2_with fail
              refine ret4 rfl rfl ?_
              have hyes := (reftk X (by rw [← NX.out]; omega) HROOM.out).1 (by rw [← BO.out, ← SQD.out, ← HF.out, HEQ.out, WH.out, ← NX.out, ← HM.out])
              rw [hyes, ← BO.out, ← SQD.out]
              have hbl : r10.length = n := by rw [BO.out, HBL.out]
              refine ⟨_, ?_, ⟨g, cs, fr, hg1, R10b.out, HG4.out⟩, below_drewN HB4.out nq⟩
              have e : (a : Int) + ((32 * bl r10.length : Nat) : Int) = (a : Int) + (m : Int) * 32 := by rw [hbl, ← HM.out]; omega
              show _ = Ending.returned (Value.tuple #[_, _, .int .i64 ((a : Int) + ((32 * bl r10.length : Nat) : Int)), _])
              rw [e]
              rfl
            · have t : (F == r11) = false := by simp [heq]
              have tt : (F != r11) = true := by simp [heq]
              have HEQ := Lib.hid heq; clear heq
              go_wp2_with fail
              go_quiet (fail)
              go_wp2_with fail
              refine ret4 rfl rfl ?_
              refine taken_no ((reftk X (by rw [← NX.out]; omega) HROOM.out).2 ?_) (below_drewN HB4.out nq)
              intro h
              apply HEQ.out
              rw [HF.out, SQD.out, BO.out, h, WH.out, ← NX.out, ← HM.out]
  · have hx1' : x.toNat ≠ 161 := fun h => hx1 (by apply UInt8.toNat.inj; rw [h]; rfl)
    have t1 : ((x.toNat : Int) != 161) = true := by rw [bne_iff_ne]; omega
    have HX1 := Lib.hid hx1; clear hx1 hx1' hX hXl
    go_enter Try.func43, Try.ntmps43
    go_wp2_with fail
    refine ret4 rfl rfl ?_
    exact taken_no (tk_no (fun hh => by have := hh.1; rw [HX0.out] at this; injection this with e; exact HX1.out e)) (Below.refl _ _)

theorem rtake_any (v : Value) (b : List UInt8) (at_ : Int) (w : World) (hr : RdB w v b) (hl : b.length ≤ 140737480000000) : Calls Try.prog 43 #[v, .int .i64 at_] w (TakeN w at_ (frAt b at_)) := by
  by_cases h : place b at_
  · obtain ⟨a, rfl⟩ := Int.eq_ofNat_of_zero_le h.1
    unfold frAt
    rw [if_pos (show 0 ≤ (a : Int) ∧ (a : Int) % 32 = 0 ∧ (a : Int) + 32 ≤ b.length from h)]
    exact rtake_in v b a w hr hl h
  · unfold frAt
    rw [if_neg (show ¬ (0 ≤ at_ ∧ at_ % 32 = 0 ∧ at_ + 32 ≤ b.length) from h)]
    refine (rtake_place v b at_ w hr (by omega) h).mono ?_
    rintro e w' ⟨rfl, rfl⟩
    exact ⟨rfl, Below.refl _ _⟩
end Go.Proofs.Ytggjipfdfpdecaa
