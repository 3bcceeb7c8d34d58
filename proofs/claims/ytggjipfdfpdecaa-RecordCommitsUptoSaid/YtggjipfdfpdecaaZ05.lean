/- Texts merged: RcH, RPut, RcPr, RcT. Each says below what it proves. -/
import Derived.Test.YtggjipfdfpdecaaZ04
import Derived.Test.YtggjipfdfpdecaaZ01
import Derived.Test.YtggjipfdfpdecaaZ03
/- The walks of the document's reader: a flag, its beginning and its end. -/
set_option linter.unusedVariables false
namespace Go.Proofs.Ytggjipfdfpdecaa
open Go.RowKit
attribute [local go_sem] bs_list bs_size

set_option maxRecDepth 100000 in
set_option maxHeartbeats 1000000 in
theorem fflag_any (g : Nat) (A : Option Addr) (c : Nat) (b : List UInt8) (s : RS) (w : World) (hs : RfSt w g A c b s) (hl : b.length ≤ 140737488355328) (ha : s.at_ ≤ 140737488355328) :
    Calls Try.prog 99 #[.pointer (some ⟨g, 0, none⟩)] w fun e w' => e = .returned (.bool (rFlag b s).1) ∧ RfSt w' g A c b (rFlag b s).2 ∧ w.grownBy w' (some g) := by
  obtain ⟨at_, bad⟩ := s
  simp only at ha
  rcases hs with ⟨h1, h2⟩ | ⟨h1, a, h3, h2⟩
  · simp only at h1 h2
    subst h1
    have c0 := h2.c0
    have c1 := h2.c1
    have c2 := h2.c2
    have f2 := h2.f 2
    have f1 := h2.f 1
    have HS := Lib.hid h2; clear h2
    cases hx : b[at_]? with
    | none =>
      have hv : rFlag b ⟨at_, false⟩ = (false, ⟨at_, true⟩) := by unfold rFlag; rw [hx]
      rw [hv]
      have hla : b.length ≤ at_ := List.getElem?_eq_none_iff.1 hx
      have t1 : decide (b.length ≤ at_) = true := by simp; omega
      clear hv hx
      go_enter Try.func99, Try.ntmps99
      go_wp2_with fail
      go_quiet (fail)
      go_wp2_with fail
      refine (wrong_any g A c b ⟨at_, false⟩ _ (.inl ⟨rfl, HS.out.drew nq⟩) ha).mono ?_
      rintro e w' ⟨rfl, h1, h2⟩
      have H1 := Lib.hid h1; clear h1
      have H2 := Lib.hid ((grown_drew w nq _).trans h2); clear h2
      go_wp2_with fail
      go_ret
      exact ⟨rfl, H1.out, H2.out⟩
    | some x =>
      have hlt : at_ < b.length := (List.getElem?_eq_some_iff.1 hx).1
      have hxe : b[at_] = x := (List.getElem?_eq_some_iff.1 hx).2
      have t1 : decide (b.length ≤ at_) = false := by simp; omega
      obtain ⟨A', c', he, _, hcm, hcell⟩ := HS.out.2
      obtain ⟨ad, hA, hcells⟩ := hcell (by omega)
      have hcx := hcells at_ hlt
      rw [hxe, bv_nat] at hcx
      injection he with e1 e2 e3
      subst e1 hA
      clear hcells hcell e2 e3
      by_cases hx1 : 1 < x.toNat
      · have hv : rFlag b ⟨at_, false⟩ = (false, ⟨at_, true⟩) := by unfold rFlag; rw [hx]; simp [hx1]
        rw [hv]
        have t2 : decide ((1 : Int) < (x.toNat : Int)) = true := by simp; omega
        clear hv hx hxe
        go_enter Try.func99, Try.ntmps99
        go_wp2_with fail
        go_quiet (fail)
        go_wp2_with fail
        refine (wrong_any g (some ad) c b ⟨at_, false⟩ _ (.inl ⟨rfl, HS.out.drew nq⟩) ha).mono ?_
        rintro e w' ⟨rfl, h1, h2⟩
        have H1 := Lib.hid h1; clear h1
        have H2 := Lib.hid ((grown_drew w nq _).trans h2); clear h2
        go_wp2_with fail
        go_ret
        exact ⟨rfl, H1.out, H2.out⟩
      · have hv : rFlag b ⟨at_, false⟩ = (x == 1, ⟨at_ + 1, false⟩) := by unfold rFlag; rw [hx]; simp [hx1]
        rw [hv]
        have t2 : decide ((1 : Int) < (x.toNat : Int)) = false := by simp; omega
        have hw1 : IntKind.i64.wrap ((at_ : Int) + 1) = ((at_ + 1 : Nat) : Int) := by rw [IntWalk.i64_in _ (by omega)]; omega
        clear hv hx
        go_enter Try.func99, Try.ntmps99
        go_wp2_with fail
        go_quiet (fail)
        have HS2 := Lib.hid ((HS.out.drew nq).setAt ((at_ + 1 : Nat) : Int))
        have hq : ((w.drewN nq).setCell ⟨g, 1, none⟩ (.int .i64 ((at_ + 1 : Nat) : Int))).cell? (ad.add at_) = some (.int .u8 (x.toNat : Int)) := by
          obtain ⟨A5, c5, he5, _, _, hcell5⟩ := HS2.out.2
          obtain ⟨ad5, hA5, hcells5⟩ := hcell5 (by omega)
          injection he5 with e6 e7 e8
          subst e6
          injection hA5 with hA5
          subst hA5
          have := hcells5 at_ (by omega)
          rwa [hxe, bv_nat] at this
        have HQ := Lib.hid hq; clear hq hxe
        go_upto_region 4 with fail
        go_cut [2] (fun v2 wx => v2 = .bool false ∧ Hid (RfC wx g (some ad) c b ((at_ + 1 : Nat) : Int) (-1)) ∧ Hid (w.grownBy wx (some g)) ∧ wx.cell? (ad.add at_) = some (.int .u8 (x.toNat : Int)))
        case first =>
          go_wp2_with fail
          go_meet
          exact ⟨rfl, HS2, Lib.hid ((grown_drew w nq _).trans (only_one _ _ _ _)), HQ.out⟩
        case rest =>
          obtain ⟨rfl, H1, H2, hcx2⟩ := hcut
          have d0 := H1.out.c0
          have d1 := H1.out.c1
          have e1 : ((at_ + 1 : Nat) : Int) - 1 = (at_ : Int) := by omega
          have e2 : (at_ : Int) + 1 - 1 = (at_ : Int) := by omega
          go_wp2_with fail
          go_quiet (fail)
          go_wp2_with fail
          go_ret
          refine ⟨ret_bool ?_, .inl ⟨rfl, H1.out.drew _⟩, H2.out.trans (grown_drew _ _ _)⟩
          rw [Bool.eq_iff_iff, beq_iff_eq, beq_iff_eq]
          constructor
          · intro h
            apply UInt8.toNat_inj.1
            show x.toNat = 1
            omega
          · intro h
            rw [h]
            rfl
  · simp only at h1 h2
    subst h1
    have hv : rFlag b ⟨at_, true⟩ = (false, ⟨at_, true⟩) := by unfold rFlag; cases b[at_]? <;> simp
    rw [hv]
    clear hv
    have c0 := h2.c0
    have c1 := h2.c1
    have c2 := h2.c2
    have HS := Lib.hid h2; clear h2
    go_enter Try.func99, Try.ntmps99
    go_wp2_with fail
    go_quiet (fail)
    go_wp2_with fail
    refine (wrong_any g A c b ⟨at_, true⟩ _ (.inr ⟨rfl, a, h3, HS.out.drew nq⟩) ha).mono ?_
    rintro e w' ⟨rfl, h1, h2⟩
    have H1 := Lib.hid h1; clear h1
    have H2 := Lib.hid ((grown_drew w nq _).trans h2); clear h2
    go_wp2_with fail
    go_ret
    exact ⟨rfl, H1.out, H2.out⟩

theorem blw {B g : Nat} {w w1 w2 : World} (h : Below B w w1) (hg : w1.grownBy w2 (some g)) (hB : B ≤ g) (hs : B ≤ w.heap.size) : Below B w w2 := h.grown hg (Nat.le_trans hs h.size) (fun k hk => by injection hk with hk; omega)

set_option maxRecDepth 100000 in
set_option maxHeartbeats 1000000 in
theorem end_any (g : Nat) (A : Option Addr) (c : Nat) (b : List UInt8) (s : RS) (right : Bool) (w : World) (hs : RfSt w g A c b s) (hl : b.length ≤ 140737488355328) (ha : s.at_ ≤ 140737488355328) :
    Calls Try.prog 101 #[.pointer (some ⟨g, 0, none⟩), .bool right] w fun e w' => e = .returned (.tuple #[.int .i64 ((endC b s right).1 : Nat), .int .i64 ((endC b s right).2 : Nat)]) ∧ w.grownBy w' (some g) := by
  obtain ⟨at_, bad⟩ := s
  simp only at ha
  rcases hs with ⟨h1, h2⟩ | ⟨h1, a, h3, h2⟩
  · simp only at h1 h2
    subst h1
    have c0 := h2.c0
    have c1 := h2.c1
    have c2 := h2.c2
    have HS := Lib.hid h2; clear h2
    by_cases hlt : at_ < b.length
    · have hv : endC b ⟨at_, false⟩ right = (at_, 61) := by unfold endC; rw [if_pos (.inr hlt)]
      rw [hv]
      have t1 : decide (at_ < b.length) = true := by simp; omega
      clear hv
      go_enter Try.func101, Try.ntmps101
      go_wp2_with fail
      go_quiet (fail)
      go_wp2_with fail
      refine (wrong_any g A c b ⟨at_, false⟩ _ (.inl ⟨rfl, HS.out.drew nq⟩) ha).mono ?_
      rintro e w' ⟨rfl, h1, h2⟩
      obtain ⟨-, a, -, h4⟩ := h1.resolve_left (fun h => by cases h.1)
      have d2 := h4.c2
      simp only at d2
      have H2 := Lib.hid ((grown_drew w nq _).trans h2); clear h2 h4 h1
      go_wp2_with fail
      go_ret2
      exact ⟨rfl, H2.out⟩
    · have t1 : decide (at_ < b.length) = false := by simp; omega
      cases hr : right with
      | true =>
        subst hr
        have hv : endC b ⟨at_, false⟩ true = (0, 0) := by unfold endC; rw [if_neg (by simp; omega), if_neg (by simp)]
        rw [hv]
        clear hv
        go_enter Try.func101, Try.ntmps101
        go_wp2_with fail
        go_quiet (fail)
        go_wp2_with fail
        go_ret2
        exact ⟨rfl, grown_drew w nq _⟩
      | false =>
        subst hr
        have hv : endC b ⟨at_, false⟩ false = (0, 60) := by unfold endC; rw [if_neg (by simp; omega), if_pos rfl]
        rw [hv]
        clear hv
        go_enter Try.func101, Try.ntmps101
        go_wp2_with fail
        go_quiet (fail)
        go_wp2_with fail
        go_ret2
        exact ⟨rfl, grown_drew w nq _⟩
  · simp only at h1 h2
    subst h1
    have hv : endC b ⟨at_, true⟩ right = (at_, 61) := by unfold endC; rw [if_pos (.inl rfl)]
    rw [hv]
    clear hv
    have c0 := h2.c0
    have c1 := h2.c1
    have c2 := h2.c2
    have HS := Lib.hid h2; clear h2
    by_cases hlt : a < b.length
    · have t1 : decide (a < b.length) = true := by simp; omega
      go_enter Try.func101, Try.ntmps101
      go_wp2_with fail
      go_quiet (fail)
      go_wp2_with fail
      refine (wrong_any g A c b ⟨at_, true⟩ _ (.inr ⟨rfl, a, h3, HS.out.drew nq⟩) ha).mono ?_
      rintro e w' ⟨rfl, h1, h2⟩
      obtain ⟨-, a2, -, h4⟩ := h1.resolve_left (fun h => by cases h.1)
      have d2 := h4.c2
      simp only at d2
      have H2 := Lib.hid ((grown_drew w nq _).trans h2); clear h2 h4 h1
      go_wp2_with fail
      go_ret2
      exact ⟨rfl, H2.out⟩
    · have t1 : decide (a < b.length) = false := by simp; omega
      go_enter Try.func101, Try.ntmps101
      go_wp2_with fail
      go_quiet (fail)
      go_wp2_with fail
      go_ret2
      exact ⟨rfl, grown_drew w nq _⟩

set_option maxRecDepth 100000 in
set_option maxHeartbeats 1000000 in
theorem begin_any (A : Option Addr) (c : Nat) (b : List UInt8) (k : UInt8) (w : World) (hr : RdB w (.slice A b.length c) b) (hl : b.length ≤ 140737488355328) :
    Calls Try.prog 97 #[.slice A b.length c, .int .u8 (k.toNat : Int)] w fun e w' => ∃ g, e = .returned (.pointer (some ⟨g, 0, none⟩)) ∧ w.heap.size ≤ g ∧ RfSt w' g A c b (startC b k) ∧ Below w.heap.size w w' := by
  have hb0 : Below w.heap.size w (w.alloc (.cells #[.slice A b.length c, .int .i64 0, .int .i64 (-1)] 125)) := (Below.refl _ _).alloc (Nat.le_refl _) _
  have hs0 : RfC (w.alloc (.cells #[.slice A b.length c, .int .i64 0, .int .i64 (-1)] 125)) w.heap.size A c b 0 (-1) := ⟨heap_alloc_new w _, hr.below hb0⟩
  have hb1 : Below w.heap.size w (w.alloc (.cells #[.slice A b.length c, .int .i64 1, .int .i64 (-1)] 125)) := (Below.refl _ _).alloc (Nat.le_refl _) _
  have hs1 : RfC (w.alloc (.cells #[.slice A b.length c, .int .i64 1, .int .i64 (-1)] 125)) w.heap.size A c b 1 (-1) := ⟨heap_alloc_new w _, hr.below hb1⟩
  have HS1 := Lib.hid hs1; clear hs1
  have HB1 := Lib.hid hb1; clear hb1
  have c0 := hs0.c0
  have c1 := hs0.c1
  have c2 := hs0.c2
  have HS := Lib.hid hs0; clear hs0
  have HB := Lib.hid hb0; clear hb0
  by_cases h0 : b.length = 0
  · have hv : startC b k = ⟨0, true⟩ := by unfold startC; rw [if_neg]; rw [List.eq_nil_of_length_eq_zero h0]; simp
    rw [hv]
    have t2 : b = [] := List.eq_nil_of_length_eq_zero h0
    clear hv
    subst t2
    go_enter Try.func97, Try.ntmps97
    go_wp2_with fail
    refine (wrong_any w.heap.size A c [] ⟨0, false⟩ _ (.inl ⟨rfl, HS.out⟩) (by simp)).mono ?_
    rintro e w' ⟨rfl, h1, h2⟩
    obtain ⟨-, a, ha, h4⟩ := h1.resolve_left (fun h => by cases h.1)
    have d1 := h4.c1
    have f1 := h4.f 1
    have H4 := Lib.hid (h4.setAt 1)
    have H2 := Lib.hid ((blw HB.out h2 (Nat.le_refl _) (Nat.le_refl _)).setCell (p := ⟨w.heap.size, 1, none⟩) (Nat.le_refl _) (.int .i64 1))
    clear h4 h1 h2
    go_wp2_with fail
    go_ret
    exact ⟨_, rfl, Nat.le_refl _, .inr ⟨rfl, 1, by omega, H4.out⟩, H2.out⟩
  · obtain ⟨A', c', he, _, hcm, hcell⟩ := HS.out.2
    obtain ⟨ad, hA, hcells⟩ := hcell (by omega)
    have hcx := hcells 0 (by omega)
    obtain ⟨x, hx⟩ : ∃ x, x = b[0]'(by omega) := ⟨_, rfl⟩
    rw [← hx, bv_nat] at hcx
    rw [show ad.add 0 = ad from by simp [Addr.add]] at hcx
    injection he with e1 e2 e3
    subst e1 hA
    have h0' : 0 < b.length := by omega
    have hb0 : b[0]? = some x := by rw [hx]; exact List.getElem?_eq_getElem h0'
    have hn0 : ¬ b = [] := fun e => h0 (by rw [e]; rfl)
    clear hcells hcell e2 e3 hx
    by_cases hk : x = k
    · have hv : startC b k = ⟨1, false⟩ := by unfold startC; rw [hb0, hk, if_pos rfl]
      rw [hv]
      have t2 : ((x.toNat : Int) != (k.toNat : Int)) = false := by subst hk; simp
      clear hv hb0
      subst hk
      go_enter Try.func97, Try.ntmps97
      go_wp2_with fail
      go_ret
      exact ⟨_, rfl, Nat.le_refl _, .inl ⟨rfl, HS1.out⟩, HB1.out⟩
    · have hv : startC b k = ⟨0, true⟩ := by unfold startC; rw [hb0, if_neg (fun e => hk (Option.some.inj e))]
      rw [hv]
      have t2 : ((x.toNat : Int) != (k.toNat : Int)) = true := by rw [bne_iff_ne]; intro e; exact hk (UInt8.toNat_inj.1 (by omega))
      clear hv hb0
      go_enter Try.func97, Try.ntmps97
      go_wp2_with fail
      refine (wrong_any w.heap.size (some ad) c b ⟨0, false⟩ _ (.inl ⟨rfl, HS.out⟩) (by simp)).mono ?_
      rintro e w' ⟨rfl, h1, h2⟩
      obtain ⟨-, a, ha, h4⟩ := h1.resolve_left (fun h => by cases h.1)
      have d1 := h4.c1
      have f1 := h4.f 1
      have H4 := Lib.hid (h4.setAt 1)
      have H2 := Lib.hid ((blw HB.out h2 (Nat.le_refl _) (Nat.le_refl _)).setCell (p := ⟨w.heap.size, 1, none⟩) (Nat.le_refl _) (.int .i64 1))
      clear h4 h1 h2
      go_wp2_with fail
      go_ret
      exact ⟨_, rfl, Nat.le_refl _, .inr ⟨rfl, 1, by omega, H4.out⟩, H2.out⟩
end Go.Proofs.Ytggjipfdfpdecaa
/- The walks of varveref01's Number, Put, PutText: what the document lays behind bytes. -/
namespace Go.Proofs.Ytggjipfdfpdecaa
open Go.RowKit

theorem add128 (k : Nat) : Value.int .u8 (((k : Int) % 128 + 128)) = bv (UInt8.ofNat (k % 128 + 128)) := by
  have h : ((k : Int) % 128 + 128) = ((k % 128 + 128 : Nat) : Int) := by omega
  rw [h]
  exact bv_of _ (by omega)

set_option maxRecDepth 100000 in
set_option maxHeartbeats 400000 in
theorem refNumber_any (n : Nat) (w : World) (hn : n < 18446744073709551616) :
    Calls Try.prog 73 #[.int .u64 n] w fun e w' => ∃ v', e = .returned v' ∧ Own w' w.heap.size v' (uvar n) ∧ Below w.heap.size w w' := by
  have HN := Lib.hid hn; clear hn
  go_enter Try.func73, Try.ntmps73
  go_wp2
  go_loopw [3, 0] (fun v0 v1 wr => ∃ (k : Nat) (l1 : List UInt8), v1 = .int .u64 k ∧ k ≤ n ∧ l1 ++ uvar k = uvar n ∧ Own wr w.heap.size v0 l1 ∧ Below w.heap.size w wr) (fun _ v1 _ => (intOf v1).toNat)
  case atStart => exact ⟨n, [], rfl, Nat.le_refl _, rfl, Own.nil _ _, Below.refl _ _⟩
  case round =>
    obtain ⟨k, l1, rfl, hk, heq, ho, hb⟩ := hrel
    have hlen : l1.length + 1 ≤ 140737488355328 := by
      have h1 := congrArg List.length heq
      rw [List.length_append] at h1
      have := uvar_len10 HN.out
      omega
    have HLen := Lib.hid hlen; clear hlen
    have HE := Lib.hid heq; clear heq
    have HO := Lib.hid ho; clear ho
    have HB := Lib.hid hb; clear hb
    by_cases h : k < 128
    · go_wp2_with (at_builtin; refine own_append1 w.heap.size rfl (.tmp 15) (.tmp 18) rfl _ l1 (UInt8.ofNat k) _ ?hy rfl rfl HO.out ?hb ?hl ?_; (case hy => exact bv_of _ (by omega)); (case hb => exact HB.out.size); (case hl => exact HLen.out); intro v1 w1 hown hb1 hg hat)
      go_ret
      have e := HE.out
      rw [uvar_lt h] at e
      exact ⟨v1, rfl, by rw [← e]; exact hown, HB.out.trans hb1⟩
    · have hwd : IntKind.u64.wrap ((k : Int) / 128) = (k : Int) / 128 := by have := HN.out; rw [IntKind.wrap_u64, Int.emod_eq_of_lt (by omega) (by omega)]
      go_wp2_with (at_builtin; refine own_append1 w.heap.size rfl (.tmp 6) (.tmp 11) rfl _ l1 (UInt8.ofNat (k % 128 + 128)) _ ?hy rfl rfl HO.out ?hb ?hl ?_; (case hy => first | exact add128 k | (rw [← add128 k]; congr 1; simp; omega)); (case hb => exact HB.out.size); (case hl => exact HLen.out); intro v1 w1 hown hb1 hg hat)
      have e := HE.out
      rw [uvar_ge h] at e
      go_roundw
      case rel => exact ⟨k / 128, l1 ++ [UInt8.ofNat (k % 128 + 128)], by simp, by omega, by rw [← e]; simp, hown, HB.out.trans hb1⟩
      case measure => simp [intOf]; omega

set_option maxHeartbeats 400000 in
theorem refPut_any (v : Value) (l : List UInt8) (n : Nat) (w : World) (hr : RdB w v l) (hn : n < 18446744073709551616) (hl : l.length + 10 ≤ 140737488355328) :
    Calls Try.prog 29 #[v, .int .u64 n] w fun e w' => ∃ v', e = .returned v' ∧ Own w' w.heap.size v' (l ++ uvar n) ∧ Below w.heap.size w w' := by
  have HN := Lib.hid hn; clear hn
  have HL := Lib.hid hl; clear hl
  have HR := Lib.hid hr; clear hr
  have ho0 : Own w w.heap.size (.slice none 0 0) [] := Own.nil _ _
  have HO0 := Lib.hid ho0; clear ho0
  go_enter Try.func29, Try.ntmps29
  go_wp2_with (at_builtin; refine own_append_row w.heap.size rfl (.tmp 6) (.tmp 7) rfl _ _ [] l rfl rfl HO0.out HR.out ?hb ?hl ?_; (case hb => exact Nat.le_refl _); (case hl => have := HL.out; simp; omega); intro v1 w1 hown hb1 hg hat; simp only [List.nil_append] at hown; have HO1 := Lib.hid hown; clear hown; have HB1 := Lib.hid hb1; clear hb1 hg hat)
  refine (refNumber_any n _ HN.out).mono ?_
  rintro e w2 ⟨v2, rfl, ho2, hb2⟩
  have ho1' := HO1.out.below hb2
  have hlen := uvar_len10 HN.out
  have HLN := Lib.hid hlen; clear hlen
  have HO2 := Lib.hid ho2; clear ho2
  have HB2 := Lib.hid (hb2.mono HB1.out.size); clear hb2
  have HO1' := Lib.hid ho1'; clear ho1'
  go_wp2_with (at_builtin; refine own_append_row w.heap.size rfl (.tmp 9) (.tmp 11) rfl _ _ l (uvar n) rfl rfl HO1'.out HO2.out.rd ?hb2 ?hl2 ?_; (case hb2 => exact Nat.le_trans HB1.out.size HB2.out.size); (case hl2 => have := HL.out; have := HLN.out; omega); intro v3 w3 hown hb3 hg hat)
  go_ret
  exact ⟨_, rfl, hown, (HB1.out.trans HB2.out).trans hb3⟩

set_option maxHeartbeats 400000 in
theorem refPutText_any (v : Value) (l : List UInt8) (s : ByteArray) (w : World) (hr : RdB w v l) (hl : l.length + s.size + 10 ≤ 140737488355328) :
    Calls Try.prog 30 #[v, .string s] w fun e w' => ∃ v', e = .returned v' ∧ Own w' w.heap.size v' (l ++ uvar s.size ++ s.data.toList) ∧ Below w.heap.size w w' := by
  have hs : s.size ≤ 140737488355328 := by omega
  have HL := Lib.hid hl; clear hl
  have HR := Lib.hid hr; clear hr
  go_enter Try.func30, Try.ntmps30
  go_wp2_with fail
  refine (refPut_any v l s.size _ HR.out (by omega) (by have := HL.out; omega)).mono ?_
  rintro e w2 ⟨v2, rfl, ho2, hb2⟩
  have HO2 := Lib.hid ho2; clear ho2
  have HB2 := Lib.hid hb2; clear hb2
  go_wp2_with (at_builtin; refine own_append_str w.heap.size rfl (.tmp 11) (.tmp 12) rfl _ (l ++ uvar s.size) s rfl rfl HO2.out ?hb ?hl ?_; (case hb => exact HB2.out.size); (case hl => have h1 := HL.out; have h2 := uvar_len10 (n := s.size) (by omega); simp; omega); intro v3 w3 hown hb3 hg)
  go_ret
  exact ⟨_, rfl, hown, HB2.out.trans hb3⟩
end Go.Proofs.Ytggjipfdfpdecaa
/- The walks of PutRow and PutGone, of record and of the document. -/
set_option linter.unusedVariables false
namespace Go.Proofs.Ytggjipfdfpdecaa
open Go.RowKit
attribute [local go_sem] bs_list bs_size

/-- What a writing answers. -/
def PutA (w : World) (ok : Bool) (l : List UInt8) (e : Ending) (w' : World) : Prop :=
  Below w.heap.size w w' ∧ ((ok = false ∧ e = .returned (.tuple #[.slice none 0 0, .int .i64 60])) ∨ (ok = true ∧ ∃ v, e = .returned (.tuple #[v, .int .i64 0]) ∧ Own w' w.heap.size v l))

def rowV (k v : List UInt8) (t : Int) : Array Value := #[.string (bs k), .string (bs v), .int .i64 t]
theorem start_wr (w : World) (H base : Nat) (hH : w.heap.size = H) (x : UInt8) (hb : base ≤ H) : WrSt ((w.alloc (.cells #[.int .u8 (x.toNat : Int)] 5)).alloc (.cells #[.slice (some ⟨H, 0, none⟩) 1 1] 106)) base (H + 1) [x] := by
  subst hH
  refine ⟨_, by have := heap_alloc_new (w.alloc (.cells #[.int .u8 (x.toNat : Int)] 5)) (.cells #[.slice (some ⟨w.heap.size, 0, none⟩) 1 1] 106); simpa using this, ?_⟩
  have h0 : Own (w.alloc (.cells #[.int .u8 (x.toNat : Int)] 5)) w.heap.size (.slice (some ⟨w.heap.size, 0, none⟩) 1 1) [x] := by
    refine ⟨rfl, .inr ⟨w.heap.size, 1, #[.int .u8 (x.toNat : Int)], rfl, Nat.le_refl _, heap_alloc_new w _, Nat.le_refl _, by simp [maxLen], rfl, rfl⟩⟩
  exact Own.base (h0.alloc _) hb
theorem box_cells {w : World} {g : Nat} {cs : Array Value} {t : TypeId} (h : w.heap[g]? = some (.cells cs t (0, 0))) (i : Nat) (u : Value) (hu : cs[i]? = some u) : w.cell? ⟨g, i, none⟩ = some u := by rw [cell_of_row w g i cs t (0, 0) h]; exact hu
theorem WrSt.open_ {w : World} {base g : Nat} {l : List UInt8} (h : WrSt w base g l) : ∃ v, w.cell? ⟨g, 0, none⟩ = some v ∧ Own w base v l := by
  obtain ⟨v, hg, ho⟩ := h
  exact ⟨v, WrSt.cell hg, ho⟩
theorem Wr.of_alloc {base g : Nat} {w w' : World} (h : Wr base g w w') (o : Obj) : Wr base g w (w'.alloc o) := h.trans (Wr.of_below ((Below.refl _ _).alloc (Nat.le_refl _) o))

set_option maxRecDepth 100000 in
set_option maxHeartbeats 1000000 in
theorem putRow_any (k v : List UInt8) (t : Int) (w : World) (hk : k.length ≤ 140737488355328) :
    Calls Try.prog 67 #[.agg #[.string (bs k), .string (bs v), .int .i64 t]] w (PutA w (isKey k && isVal v && isTm t) (encRow k v t.toNat)) := by
  by_cases h1 : isKey k = true
  · skip
    by_cases h2 : isVal v = true
    ·
      by_cases h3 : isTm t = true
      ·
        rw [h1, h2, h3]
        obtain ⟨hk1, hk2⟩ := (isKey_iff k).1 h1
        have hv1 := (isVal_iff v).1 h2
        obtain ⟨n, rfl⟩ := Int.eq_ofNat_of_zero_le ((isTm_iff t).1 h3).1
        have hn := ((isTm_iff n).1 h3).2
        have hu1 := uvar_len10 (n := k.length) (by omega)
        have hu2 := uvar_len10 (n := v.length) (by omega)
        have k1 := (isKey_any k (w.alloc (.cells #[.string (bs k), .string (bs v), .int .i64 n] 81)) hk)
        rw [h1] at k1
        have k2 := (isVal_any v (w.alloc (.cells #[.string (bs k), .string (bs v), .int .i64 n] 81)))
        rw [h2] at k2
        have k3 := (isTime_any n  (w.alloc (.cells #[.string (bs k), .string (bs v), .int .i64 n] 81)))
        rw [h3] at k3
        clear h1 h2 h3
        go_enter Try.func67, Try.ntmps67
        go_wp2_with fail
        refine k1.mono ?_
        rintro e w' ⟨rfl, rfl⟩
        go_wp2_with fail
        refine k2.mono ?_
        rintro e w' ⟨rfl, rfl⟩
        go_wp2_with fail
        refine k3.mono ?_
        rintro e w' ⟨rfl, rfl⟩
        go_wp2_with fail
        obtain ⟨wb, hwb⟩ : ∃ wb, wb = w.alloc (.cells #[.string (bs k), .string (bs v), .int .i64 n] 81) := ⟨_, rfl⟩
        have hbb : Below w.heap.size w wb := by rw [hwb]; exact (Below.refl _ _).alloc (Nat.le_refl _) _
        have hbx : wb.heap[w.heap.size]? = some (.cells #[.string (bs k), .string (bs v), .int .i64 n] 81 (0, 0)) := by rw [hwb]; exact heap_alloc_new w _
        have hbs : wb.heap.size = w.heap.size + 1 := by rw [hwb]; simp
        have hs0 := start_wr wb (w.heap.size + 1) w.heap.size hbs 82 (by omega)
        rw [← hwb]
        clear hwb
        obtain ⟨W0, hW0⟩ : ∃ W0, W0 = (wb.alloc (.cells #[.int .u8 (((82 : UInt8).toNat : Nat) : Int)] 5)).alloc (.cells #[.slice (some ⟨w.heap.size + 1, 0, none⟩) 1 1] 106) := ⟨_, rfl⟩
        rw [← hW0] at hs0
        have hb0 : Below w.heap.size w W0 := by rw [hW0]; exact (hbb.alloc hbb.size _).alloc (by simp; omega) _
        have hbx0 : W0.heap[w.heap.size]? = some (.cells #[.string (bs k), .string (bs v), .int .i64 n] 81 (0, 0)) := by
          rw [hW0]
          exact heap_below (heap_below hbx ((Below.refl _ _).alloc (Nat.le_refl _) _)) ((Below.refl _ _).alloc (Nat.le_refl _) _)
        change Calls Try.prog _ _ (World.alloc (World.alloc wb (.cells #[.int .u8 (((82 : UInt8).toNat : Nat) : Int)] 5)) _) _
        rw [← hW0]
        have HBX0 := Lib.hid hbx0; clear hbx0
        have HS0 := Lib.hid hs0; clear hs0
        have HB0 := Lib.hid hb0; clear hb0 hW0 hbb hbx hbs
        refine (wtext_any w.heap.size (w.heap.size + 1 + 1) [82] k W0 HS0.out (by simp; omega) HB0.out.size).mono ?_
        rintro e W1 ⟨rfl, hs, hw⟩
        have HBX1 := Lib.hid (hw.cell HBX0.out (by decide) (by omega))
        have HB1 := Lib.hid (HB0.out.trans (hw.below (by omega) HB0.out.size))
        have HS1 := Lib.hid hs; clear hs hw
        have c1 := box_cells HBX1.out 1 _ rfl
        go_wp2_with fail
        refine (wtext_any w.heap.size (w.heap.size + 1 + 1) _ v W1 HS1.out (by simp; omega) HB1.out.size).mono ?_
        rintro e W2 ⟨rfl, hs, hw⟩
        have HBX2 := Lib.hid (hw.cell HBX1.out (by decide) (by omega))
        have HB2 := Lib.hid (HB1.out.trans (hw.below (by omega) HB1.out.size))
        have HS2 := Lib.hid hs; clear hs hw
        have c2 := box_cells HBX2.out 2 _ rfl
        go_wp2_with fail
        refine (wnum_any w.heap.size (w.heap.size + 1 + 1) _ n W2 HS2.out (by omega) (by simp; omega) HB2.out.size).mono ?_
        rintro e W3 ⟨rfl, hs, hw⟩
        have HBX3 := Lib.hid (hw.cell HBX2.out (by decide) (by omega))
        have HB3 := Lib.hid (HB2.out.trans (hw.below (by omega) HB2.out.size))
        have HS3 := Lib.hid hs; clear hs hw
        obtain ⟨vv, hcv, hov⟩ := HS3.out.open_
        have HOV := Lib.hid hov; clear hov
        go_wp2_with fail
        go_ret2
        refine ⟨HB3.out, .inr ⟨rfl, vv, rfl, ?_⟩⟩
        have := HOV.out
        simpa [encRow, txt, List.append_assoc] using this
      · have hf : (isKey k && isVal v && isTm t) = false := by simp [h1, h2, h3]
        rw [hf]
        have h3' := bool_no h3
        have k1 := (isKey_any k (w.alloc (.cells #[.string (bs k), .string (bs v), .int .i64 t] 81)) hk)
        rw [h1] at k1
        have k2 := (isVal_any v (w.alloc (.cells #[.string (bs k), .string (bs v), .int .i64 t] 81)))
        rw [h2] at k2
        have k3 := (isTime_any t  (w.alloc (.cells #[.string (bs k), .string (bs v), .int .i64 t] 81)))
        rw [h3'] at k3
        clear hf h1 h2 h3 h3'
        go_enter Try.func67, Try.ntmps67
        go_wp2_with fail
        refine k1.mono ?_
        rintro e w' ⟨rfl, rfl⟩
        go_wp2_with fail
        refine k2.mono ?_
        rintro e w' ⟨rfl, rfl⟩
        go_wp2_with fail
        refine k3.mono ?_
        rintro e w' ⟨rfl, rfl⟩
        go_wp2_with fail
        go_ret2
        exact ⟨(Below.refl _ _).alloc (Nat.le_refl _) _, .inl ⟨rfl, rfl⟩⟩
    · have hf : (isKey k && isVal v && isTm t) = false := by simp [h1, h2]
      rw [hf]
      have h2' := bool_no h2
      have k1 := (isKey_any k (w.alloc (.cells #[.string (bs k), .string (bs v), .int .i64 t] 81)) hk)
      rw [h1] at k1
      have k2 := (isVal_any v (w.alloc (.cells #[.string (bs k), .string (bs v), .int .i64 t] 81)))
      rw [h2'] at k2
      clear hf h1 h2 h2'
      go_enter Try.func67, Try.ntmps67
      go_wp2_with fail
      refine k1.mono ?_
      rintro e w' ⟨rfl, rfl⟩
      go_wp2_with fail
      refine k2.mono ?_
      rintro e w' ⟨rfl, rfl⟩
      go_wp2_with fail
      go_ret2
      exact ⟨(Below.refl _ _).alloc (Nat.le_refl _) _, .inl ⟨rfl, rfl⟩⟩
  · have hf : (isKey k && isVal v && isTm t) = false := by simp [h1]
    rw [hf]
    have h1' := bool_no h1
    have k1 := (isKey_any k (w.alloc (.cells #[.string (bs k), .string (bs v), .int .i64 t] 81)) hk)
    rw [h1'] at k1
    clear hf h1 h1'
    go_enter Try.func67, Try.ntmps67
    go_wp2_with fail
    refine k1.mono ?_
    rintro e w' ⟨rfl, rfl⟩
    go_wp2_with fail
    go_ret2
    exact ⟨(Below.refl _ _).alloc (Nat.le_refl _) _, .inl ⟨rfl, rfl⟩⟩

set_option maxRecDepth 100000 in
set_option maxHeartbeats 1000000 in
theorem putGone_any (k : List UInt8) (t : Int) (w : World) (hk : k.length ≤ 140737488355328) :
    Calls Try.prog 69 #[.agg #[.string (bs k), .int .i64 t]] w (PutA w (isKey k && isTm t) (encGone k t.toNat)) := by
  by_cases h1 : isKey k = true
  · skip
    by_cases h2 : isTm t = true
    ·
      rw [h1, h2]
      obtain ⟨hk1, hk2⟩ := (isKey_iff k).1 h1
      obtain ⟨n, rfl⟩ := Int.eq_ofNat_of_zero_le ((isTm_iff t).1 h2).1
      have hn := ((isTm_iff n).1 h2).2
      have hu1 := uvar_len10 (n := k.length) (by omega)
      have k1 := (isKey_any k (w.alloc (.cells #[.string (bs k), .int .i64 n] 85)) hk)
      rw [h1] at k1
      have k2 := (isTime_any n  (w.alloc (.cells #[.string (bs k), .int .i64 n] 85)))
      rw [h2] at k2
      clear h1 h2
      go_enter Try.func69, Try.ntmps69
      go_wp2_with fail
      refine k1.mono ?_
      rintro e w' ⟨rfl, rfl⟩
      go_wp2_with fail
      refine k2.mono ?_
      rintro e w' ⟨rfl, rfl⟩
      go_wp2_with fail
      obtain ⟨wb, hwb⟩ : ∃ wb, wb = w.alloc (.cells #[.string (bs k), .int .i64 n] 85) := ⟨_, rfl⟩
      have hbb : Below w.heap.size w wb := by rw [hwb]; exact (Below.refl _ _).alloc (Nat.le_refl _) _
      have hbx : wb.heap[w.heap.size]? = some (.cells #[.string (bs k), .int .i64 n] 85 (0, 0)) := by rw [hwb]; exact heap_alloc_new w _
      have hbs : wb.heap.size = w.heap.size + 1 := by rw [hwb]; simp
      have hs0 := start_wr wb (w.heap.size + 1) w.heap.size hbs 71 (by omega)
      rw [← hwb]
      clear hwb
      obtain ⟨W0, hW0⟩ : ∃ W0, W0 = (wb.alloc (.cells #[.int .u8 (((71 : UInt8).toNat : Nat) : Int)] 5)).alloc (.cells #[.slice (some ⟨w.heap.size + 1, 0, none⟩) 1 1] 106) := ⟨_, rfl⟩
      rw [← hW0] at hs0
      have hb0 : Below w.heap.size w W0 := by rw [hW0]; exact (hbb.alloc hbb.size _).alloc (by simp; omega) _
      have hbx0 : W0.heap[w.heap.size]? = some (.cells #[.string (bs k), .int .i64 n] 85 (0, 0)) := by
        rw [hW0]
        exact heap_below (heap_below hbx ((Below.refl _ _).alloc (Nat.le_refl _) _)) ((Below.refl _ _).alloc (Nat.le_refl _) _)
      change Calls Try.prog _ _ (World.alloc (World.alloc wb (.cells #[.int .u8 (((71 : UInt8).toNat : Nat) : Int)] 5)) _) _
      rw [← hW0]
      have HBX0 := Lib.hid hbx0; clear hbx0
      have HS0 := Lib.hid hs0; clear hs0
      have HB0 := Lib.hid hb0; clear hb0 hW0 hbb hbx hbs
      refine (wtext_any w.heap.size (w.heap.size + 1 + 1) [71] k W0 HS0.out (by simp; omega) HB0.out.size).mono ?_
      rintro e W1 ⟨rfl, hs, hw⟩
      have HBX1 := Lib.hid (hw.cell HBX0.out (by decide) (by omega))
      have HB1 := Lib.hid (HB0.out.trans (hw.below (by omega) HB0.out.size))
      have HS1 := Lib.hid hs; clear hs hw
      have c1 := box_cells HBX1.out 1 _ rfl
      go_wp2_with fail
      refine (wnum_any w.heap.size (w.heap.size + 1 + 1) _ n W1 HS1.out (by omega) (by simp; omega) HB1.out.size).mono ?_
      rintro e W2 ⟨rfl, hs, hw⟩
      have HBX2 := Lib.hid (hw.cell HBX1.out (by decide) (by omega))
      have HB2 := Lib.hid (HB1.out.trans (hw.below (by omega) HB1.out.size))
      have HS2 := Lib.hid hs; clear hs hw
      obtain ⟨vv, hcv, hov⟩ := HS2.out.open_
      have HOV := Lib.hid hov; clear hov
      go_wp2_with fail
      go_ret2
      refine ⟨HB2.out, .inr ⟨rfl, vv, rfl, ?_⟩⟩
      have := HOV.out
      simpa [encGone, txt, List.append_assoc] using this
    · have hf : (isKey k && isTm t) = false := by simp [h1, h2]
      rw [hf]
      have h2' := bool_no h2
      have k1 := (isKey_any k (w.alloc (.cells #[.string (bs k), .int .i64 t] 85)) hk)
      rw [h1] at k1
      have k2 := (isTime_any t  (w.alloc (.cells #[.string (bs k), .int .i64 t] 85)))
      rw [h2'] at k2
      clear hf h1 h2 h2'
      go_enter Try.func69, Try.ntmps69
      go_wp2_with fail
      refine k1.mono ?_
      rintro e w' ⟨rfl, rfl⟩
      go_wp2_with fail
      refine k2.mono ?_
      rintro e w' ⟨rfl, rfl⟩
      go_wp2_with fail
      go_ret2
      exact ⟨(Below.refl _ _).alloc (Nat.le_refl _) _, .inl ⟨rfl, rfl⟩⟩
  · have hf : (isKey k && isTm t) = false := by simp [h1]
    rw [hf]
    have h1' := bool_no h1
    have k1 := (isKey_any k (w.alloc (.cells #[.string (bs k), .int .i64 t] 85)) hk)
    rw [h1'] at k1
    clear hf h1 h1'
    go_enter Try.func69, Try.ntmps69
    go_wp2_with fail
    refine k1.mono ?_
    rintro e w' ⟨rfl, rfl⟩
    go_wp2_with fail
    go_ret2
    exact ⟨(Below.refl _ _).alloc (Nat.le_refl _) _, .inl ⟨rfl, rfl⟩⟩

end Go.Proofs.Ytggjipfdfpdecaa
/- The walks of record's Row and Gone. -/
set_option linter.unusedVariables false
namespace Go.Proofs.Ytggjipfdfpdecaa
open Go.RowKit
attribute [local go_sem] bs_list bs_size

theorem bs_nil : ({ data := #[] } : ByteArray) = bs [] := rfl
theorem RdSt.other {w w' : World} {g k : Nat} {A : Option Addr} {c : Nat} {b : List UInt8} {s : RS} {cs : Array Value} {t : TypeId} {fr : Nat × Nat} (h : RdSt w g A c b s) (hk : w.heap[k]? = some (.cells cs t fr)) (hn : NoByte cs) (hne : g ≠ k) (hw : w.grownBy w' (some k)) : RdSt w' g A c b s :=
  ⟨(hw.block g (Array.getElem?_eq_some_iff.1 h.1).1 (fun e => hne (Option.some.inj e))).trans h.1, h.2.far hk hn hw⟩
theorem noByte3 {a b c : Value} (ha : ∀ x : UInt8, a ≠ bv x) (hb : ∀ x : UInt8, b ≠ bv x) (hc : ∀ x : UInt8, c ≠ bv x) : NoByte #[a, b, c] := by
  intro i u h x
  match i, h with
  | 0, h => simp at h; rw [← h]; exact ha x
  | 1, h => simp at h; rw [← h]; exact hb x
  | 2, h => simp at h; rw [← h]; exact hc x
  | i + 3, h => simp at h
theorem str_bv (s : ByteArray) (x : UInt8) : Value.string s ≠ bv x := by simp [bv]
theorem int_bv (n : Int) (x : UInt8) : Value.int .i64 n ≠ bv x := by simp [bv]
theorem heap_grown {w w' : World} {g k : Nat} {o : Obj} (h : w.heap[k]? = some o) (hw : w.grownBy w' (some g)) (hne : k ≠ g) : w'.heap[k]? = some o :=
  (hw.block k (Array.getElem?_eq_some_iff.1 h).1 (fun e => hne (Option.some.inj e))).trans h
theorem below_grown {w w' : World} (h : Below w.heap.size w w') (row : Option Nat) : w.grownBy w' row := ⟨h.os, h.tape, h.output, h.size, fun k hk _ => h.block k hk⟩

/-- What is written into a block that is new counts as nothing. -/
theorem grown_new {w w1 w2 : World} {g H : Nat} (h : w.grownBy w1 (some g)) (h2 : w1.grownBy w2 (some H)) (hH : w.heap.size ≤ H) : w.grownBy w2 (some g) :=
  ⟨h2.os.trans h.os, h2.tape.trans h.tape, h2.output.trans h.output, Nat.le_trans h.size h2.size, fun k hk hne =>
    (h2.block k (Nat.lt_of_lt_of_le hk h.size) (fun e => by injection e with e; omega)).trans (h.block k hk hne)⟩
theorem set3 {w : World} {H : Nat} {a b c : Value} {t : TypeId} (h : w.heap[H]? = some (.cells #[a, b, c] t (0, 0))) (x y z : Value) :
    (((w.setCell ⟨H, 0, none⟩ x).setCell ⟨H, 1, none⟩ y).setCell ⟨H, 2, none⟩ z).heap[H]? = some (.cells #[x, y, z] t (0, 0)) ∧ w.grownBy (((w.setCell ⟨H, 0, none⟩ x).setCell ⟨H, 1, none⟩ y).setCell ⟨H, 2, none⟩ z) (some H) :=
  ⟨set_at (set_at (set_at h 0 x) 1 y) 2 z, ((only_one _ _ _ _).trans (only_one _ _ _ _)).trans (only_one _ _ _ _)⟩
theorem set2 {w : World} {H : Nat} {a b : Value} {t : TypeId} (h : w.heap[H]? = some (.cells #[a, b] t (0, 0))) (x y : Value) :
    ((w.setCell ⟨H, 0, none⟩ x).setCell ⟨H, 1, none⟩ y).heap[H]? = some (.cells #[x, y] t (0, 0)) ∧ w.grownBy ((w.setCell ⟨H, 0, none⟩ x).setCell ⟨H, 1, none⟩ y) (some H) :=
  ⟨set_at (set_at h 0 x) 1 y, (only_one _ _ _ _).trans (only_one _ _ _ _)⟩

set_option maxRecDepth 100000 in
set_option maxHeartbeats 1000000 in
theorem row1_any (g : Nat) (A : Option Addr) (c : Nat) (b : List UInt8) (s : RS) (w : World) (hs : RdSt w g A c b s) (hl : b.length ≤ 140737488355328) :
    Calls Try.prog 110 #[.pointer (some ⟨g, 0, none⟩)] w fun e w' => e = .returned (.agg #[.string (bs (rRow b s).1.key), .string (bs (rRow b s).1.val), .int .i64 ((rRow b s).1.time : Nat)]) ∧ RdSt w' g A c b (rRow b s).2 ∧ w.grownBy w' (some g) := by
  have hgl : g < w.heap.size := (Array.getElem?_eq_some_iff.1 hs.1).1
  obtain ⟨w0, hw0⟩ : ∃ w0, w0 = w.alloc (.cells #[.string (bs []), .string (bs []), .int .i64 0] 81) := ⟨_, rfl⟩
  have hb0 : Below w.heap.size w w0 := by rw [hw0]; exact (Below.refl _ _).alloc (Nat.le_refl _) _
  have hx0 : w0.heap[w.heap.size]? = some (.cells #[.string (bs []), .string (bs []), .int .i64 0] 81 (0, 0)) := by rw [hw0]; exact heap_alloc_new w _
  obtain ⟨H, hH⟩ : ∃ H, H = w.heap.size := ⟨_, rfl⟩
  rw [← hH] at hx0
  have HS0 := Lib.hid (hs.keep hb0)
  have HG0 := Lib.hid (below_grown hb0 (some g))
  have HX0 := Lib.hid hx0; clear hx0 hb0
  go_enter Try.func110, Try.ntmps110
  go_wp2_with fail
  simp only [bs_nil]
  rw [← hw0, ← hH]
  have HH := Lib.hid hH; clear hw0 hH
  refine (rtext_any g A c b s 16 w0 HS0.out hl (by omega)).mono ?_
  rintro e w1 ⟨rfl, hs1, hg1⟩
  have HG1 := Lib.hid (HG0.out.trans hg1)
  have hHg : H ≠ g := by have := HH.out; omega
  have HX1 := Lib.hid (heap_grown HX0.out hg1 hHg)
  obtain ⟨k, s1, hk⟩ : ∃ k s1, rTxt b 16 s = (k, s1) := ⟨_, _, rfl⟩
  rw [hk] at hs1 ⊢
  have HS1 := Lib.hid hs1; clear hs1 hg1
  simp only at HS1 ⊢
  have HK := Lib.hid hk; clear hk
  -- the row's own variable
  obtain ⟨w2, hw2⟩ : ∃ w2, w2 = w1.alloc (.cells #[.string (bs k), .string (bs []), .int .i64 0] 81) := ⟨_, rfl⟩
  obtain ⟨H2, hH2⟩ : ∃ H2, H2 = w1.heap.size := ⟨_, rfl⟩
  have hb2 : Below w1.heap.size w1 w2 := by rw [hw2]; exact (Below.refl _ _).alloc (Nat.le_refl _) _
  have hx2 : w2.heap[H2]? = some (.cells #[.string (bs k), .string (bs []), .int .i64 0] 81 (0, 0)) := by rw [hw2, hH2]; exact heap_alloc_new w1 _
  have hHl : H < w1.heap.size := (Array.getElem?_eq_some_iff.1 HX1.out).1
  have hgl2 : g < w1.heap.size := (Array.getElem?_eq_some_iff.1 HS1.out.1).1
  have hne1 : H2 ≠ g := by omega
  have hne2 : H ≠ H2 := by omega
  have HX2 := Lib.hid hx2; clear hx2
  have HR2 := Lib.hid (heap_below HX1.out hb2)
  have HS2 := Lib.hid (HS1.out.keep hb2)
  have HG2 := Lib.hid (HG1.out.trans (below_grown hb2 (some g))); clear hb2 hHl hgl2
  go_wp2_with fail
  simp only [bs_nil]
  rw [← hw2, ← hH2]
  have HW2 := Lib.hid hw2; clear hw2
  have HH2 := Lib.hid hH2; clear hH2
  refine (rtext_any g A c b s1 64 w2 HS2.out hl (by omega)).mono ?_
  rintro e w3 ⟨rfl, hs3, hg3⟩
  obtain ⟨v, s3, hv⟩ : ∃ v s3, rTxt b 64 s1 = (v, s3) := ⟨_, _, rfl⟩
  rw [hv] at hs3 ⊢
  simp only at hs3 ⊢
  have HV := Lib.hid hv; clear hv
  have HX3 := Lib.hid (heap_grown HX2.out hg3 hne1)
  have HR3 := Lib.hid (heap_grown HR2.out hg3 hHg)
  have HG3 := Lib.hid (HG2.out.trans hg3)
  obtain ⟨w4, hw4⟩ : ∃ w4, w4 = w3.setCell ⟨H2, 1, none⟩ (.string (bs v)) := ⟨_, rfl⟩
  have hg4 : w3.grownBy w4 (some H2) := by rw [hw4]; exact only_one _ _ _ _
  have hx4 : w4.heap[H2]? = some (.cells #[.string (bs k), .string (bs v), .int .i64 0] 81 (0, 0)) := by rw [hw4]; exact set_at HX3.out 1 _
  have HS4 := Lib.hid (hs3.other HX3.out (noByte3 (str_bv _) (str_bv _) (int_bv _)) (fun e => hne1 e.symm) hg4)
  have HR4 := Lib.hid (heap_grown HR3.out hg4 hne2)
  have HX4 := Lib.hid hx4; clear hx4
  have f3 : w3.frozen? ⟨H2, 1, none⟩ = false := by have := HX3.out; simp [World.frozen?, this]
  have c3 := box_cells HX3.out 1 (.string (bs [])) rfl
  clear hs3 hg3
  go_wp2_with fail
  rw [← hw4]
  have HW4 := Lib.hid hw4; clear hw4 c3 f3
  refine (rtime_any g A c b s3 w4 HS4.out hl).mono ?_
  rintro e w5 ⟨rfl, hs5, hg5⟩
  obtain ⟨t, s5, ht⟩ : ∃ t s5, rNum b 1099511627775 s3 = (t, s5) := ⟨_, _, rfl⟩
  rw [ht] at hs5 ⊢
  simp only at hs5 ⊢
  have hres : rRow b s = (⟨k, v, t⟩, s5) := by unfold rRow; rw [HK.out]; simp only; rw [HV.out]; simp only; rw [ht]
  have HRES := Lib.hid hres
  clear ht hres
  have HX5 := Lib.hid (heap_grown HX4.out hg5 hne1)
  have hH2l : w.heap.size ≤ H2 := by rw [HH2.out]; exact HG1.out.size
  have HG5 := Lib.hid ((grown_new HG3.out hg4 hH2l).trans hg5)
  have HR5 := Lib.hid (heap_grown HR4.out hg5 hHg)
  have e5 := box_cells HX5.out 0 (.string (bs k)) rfl
  have e6 := box_cells HX5.out 1 (.string (bs v)) rfl
  have e7 := box_cells HX5.out 2 (.int .i64 0) rfl
  have f5 : ∀ i, w5.frozen? ⟨H2, i, none⟩ = false := by intro i; have := HX5.out; simp [World.frozen?, this]
  have r5 : ∀ i, w5.frozen? ⟨H, i, none⟩ = false := by intro i; have := HR5.out; simp [World.frozen?, this]
  have r6 := box_cells HR5.out 0 (.string (bs [])) rfl
  have r7 := box_cells HR5.out 1 (.string (bs [])) rfl
  have r8 := box_cells HR5.out 2 (.int .i64 0) rfl
  have hne3 : ¬ H = H2 := hne2
  have hne4 : ¬ H2 = H := fun e => hne2 e.symm
  go_wp2_with fail
  have HR6 := heap_grown HR5.out (only_one w5 H2 2 (.int .i64 (t : Int))) hne2
  have hs6 := hs5.other HX5.out (noByte3 (str_bv _) (str_bv _) (int_bv _)) (fun e => hne1 e.symm) (only_one w5 H2 2 (.int .i64 (t : Int)))
  obtain ⟨-, hs8⟩ := set3 HR6 (.string (bs k)) (.string (bs v)) (.int .i64 (t : Int))
  have hs7 := hs6.other HR6 (noByte3 (str_bv _) (str_bv _) (int_bv _)) (fun e => hHg e.symm) hs8
  have hg7 := grown_new (grown_new HG5.out (only_one w5 H2 2 (.int .i64 (t : Int))) hH2l) hs8 (by rw [HH.out]; exact Nat.le_refl _)
  refine bodyPost_ret (v := .agg #[.string (bs k), .string (bs v), .int .i64 (t : Int)]) (by simp [results, Try.results110, go_sem, *]) rfl ?_
  rw [HRES.out]
  exact ⟨rfl, hs7, hg7⟩
end Go.Proofs.Ytggjipfdfpdecaa
