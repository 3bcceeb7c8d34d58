/- The walks of the document's reader: a flag, its beginning and its end. -/
import Derived.Test.YtggjipfdfpdecaaRcG
set_option linter.unusedVariables false
namespace Go.Proofs.Ytggjipfdfpdecaa
open Go.RowKit
attribute [local go_sem] bs_list bs_size

set_option maxRecDepth 100000 in
set_option maxHeartbeats 1000000 in
theorem fflag_any (g : Nat) (A : Option Addr) (c : Nat) (b : List UInt8) (s : RS) (w : World) (hs : RfSt w g A c b s) (hl : b.length ≤ 140737488355328) (ha : s.at_ ≤ 140737488355328) :
    Calls Try.prog 99 #[.pointer (some ⟨g, 0, none⟩)] w fun e w' => e = .returned (.bool (rFlag b s).1) ∧ RfSt w' g A c b (rFlag b s).2 ∧ w.grownBy w' (some g) := by
  obtain ⟨at_, bad⟩ := s
  simp only at ha
  rcases hs with ⟨h1, h2⟩ | ⟨h1, a, h3, h2⟩
  · simp only at h1 h2
    subst h1
    have c0 := h2.c0
    have c1 := h2.c1
    have c2 := h2.c2
    have f2 := h2.f 2
    have f1 := h2.f 1
    have HS := Lib.hid h2; clear h2
    cases hx : b[at_]? with
    | none =>
      have hv : rFlag b ⟨at_, false⟩ = (false, ⟨at_, true⟩) := by unfold rFlag; rw [hx]
      rw [hv]
      have hla : b.length ≤ at_ := List.getElem?_eq_none_iff.1 hx
      have t1 : decide (b.length ≤ at_) = true := by simp; omega
      clear hv hx
      go_enter Try.func99, Try.ntmps99
      go_wp2_with fail
      go_quiet (fail)
      go_wp2_with fail
      refine (wrong_any g A c b ⟨at_, false⟩ _ (.inl ⟨rfl, HS.out.drew nq⟩) ha).mono ?_
      rintro e w' ⟨rfl, h1, h2⟩
      have H1 := Lib.hid h1; clear h1
      have H2 := Lib.hid ((grown_drew w nq _).trans h2); clear h2
      go_wp2_with fail
      go_ret
      exact ⟨rfl, H1.out, H2.out⟩
    | some x =>
      have hlt : at_ < b.length := (List.getElem?_eq_some_iff.1 hx).1
      have hxe : b[at_] = x := (List.getElem?_eq_some_iff.1 hx).2
      have t1 : decide (b.length ≤ at_) = false := by simp; omega
      obtain ⟨A', c', he, _, hcm, hcell⟩ := HS.out.2
      obtain ⟨ad, hA, hcells⟩ := hcell (by omega)
      have hcx := hcells at_ hlt
      rw [hxe, bv_nat] at hcx
      injection he with e1 e2 e3
      subst e1 hA
      clear hcells hcell e2 e3
      by_cases hx1 : 1 < x.toNat
      · have hv : rFlag b ⟨at_, false⟩ = (false, ⟨at_, true⟩) := by unfold rFlag; rw [hx]; simp [hx1]
        rw [hv]
        have t2 : decide ((1 : Int) < (x.toNat : Int)) = true := by simp; omega
        clear hv hx hxe
        go_enter Try.func99, Try.ntmps99
        go_wp2_with fail
        go_quiet (fail)
        go_wp2_with fail
        refine (wrong_any g (some ad) c b ⟨at_, false⟩ _ (.inl ⟨rfl, HS.out.drew nq⟩) ha).mono ?_
        rintro e w' ⟨rfl, h1, h2⟩
        have H1 := Lib.hid h1; clear h1
        have H2 := Lib.hid ((grown_drew w nq _).trans h2); clear h2
        go_wp2_with fail
        go_ret
        exact ⟨rfl, H1.out, H2.out⟩
      · have hv : rFlag b ⟨at_, false⟩ = (x == 1, ⟨at_ + 1, false⟩) := by unfold rFlag; rw [hx]; simp [hx1]
        rw [hv]
        have t2 : decide ((1 : Int) < (x.toNat : Int)) = false := by simp; omega
        have hw1 : IntKind.i64.wrap ((at_ : Int) + 1) = ((at_ + 1 : Nat) : Int) := by rw [IntWalk.i64_in _ (by omega)]; omega
        clear hv hx
        go_enter Try.func99, Try.ntmps99
        go_wp2_with fail
        go_quiet (fail)
        have HS2 := Lib.hid ((HS.out.drew nq).setAt ((at_ + 1 : Nat) : Int))
        have hq : ((w.drewN nq).setCell ⟨g, 1, none⟩ (.int .i64 ((at_ + 1 : Nat) : Int))).cell? (ad.add at_) = some (.int .u8 (x.toNat : Int)) := by
          obtain ⟨A5, c5, he5, _, _, hcell5⟩ := HS2.out.2
          obtain ⟨ad5, hA5, hcells5⟩ := hcell5 (by omega)
          injection he5 with e6 e7 e8
          subst e6
          injection hA5 with hA5
          subst hA5
          have := hcells5 at_ (by omega)
          rwa [hxe, bv_nat] at this
        have HQ := Lib.hid hq; clear hq hxe
        go_upto_region 4 with fail
        go_cut [2] (fun v2 wx => v2 = .bool false ∧ Hid (RfC wx g (some ad) c b ((at_ + 1 : Nat) : Int) (-1)) ∧ Hid (w.grownBy wx (some g)) ∧ wx.cell? (ad.add at_) = some (.int .u8 (x.toNat : Int)))
        case first =>
          go_wp2_with fail
          go_meet
          exact ⟨rfl, HS2, Lib.hid ((grown_drew w nq _).trans (only_one _ _ _ _)), HQ.out⟩
        case rest =>
          obtain ⟨rfl, H1, H2, hcx2⟩ := hcut
          have d0 := H1.out.c0
          have d1 := H1.out.c1
          have e1 : ((at_ + 1 : Nat) : Int) - 1 = (at_ : Int) := by omega
          have e2 : (at_ : Int) + 1 - 1 = (at_ : Int) := by omega
          go_wp2_with fail
          go_quiet (fail)
          go_wp2_with fail
          go_ret
          refine ⟨ret_bool ?_, .inl ⟨rfl, H1.out.drew _⟩, H2.out.trans (grown_drew _ _ _)⟩
          rw [Bool.eq_iff_iff, beq_iff_eq, beq_iff_eq]
          constructor
          · intro h
            apply UInt8.toNat_inj.1
            show x.toNat = 1
            omega
          · intro h
            rw [h]
            rfl
  · simp only at h1 h2
    subst h1
    have hv : rFlag b ⟨at_, true⟩ = (false, ⟨at_, true⟩) := by unfold rFlag; cases b[at_]? <;> simp
    rw [hv]
    clear hv
    have c0 := h2.c0
    have c1 := h2.c1
    have c2 := h2.c2
    have HS := Lib.hid h2; clear h2
    go_enter Try.func99, Try.ntmps99
    go_wp2_with fail
    go_quiet (fail)
    go_wp2_with fail
    refine (wrong_any g A c b ⟨at_, true⟩ _ (.inr ⟨rfl, a, h3, HS.out.drew nq⟩) ha).mono ?_
    rintro e w' ⟨rfl, h1, h2⟩
    have H1 := Lib.hid h1; clear h1
    have H2 := Lib.hid ((grown_drew w nq _).trans h2); clear h2
    go_wp2_with fail
    go_ret
    exact ⟨rfl, H1.out, H2.out⟩

theorem blw {B g : Nat} {w w1 w2 : World} (h : Below B w w1) (hg : w1.grownBy w2 (some g)) (hB : B ≤ g) (hs : B ≤ w.heap.size) : Below B w w2 := h.grown hg (Nat.le_trans hs h.size) (fun k hk => by injection hk with hk; omega)

set_option maxRecDepth 100000 in
set_option maxHeartbeats 1000000 in
theorem end_any (g : Nat) (A : Option Addr) (c : Nat) (b : List UInt8) (s : RS) (right : Bool) (w : World) (hs : RfSt w g A c b s) (hl : b.length ≤ 140737488355328) (ha : s.at_ ≤ 140737488355328) :
    Calls Try.prog 101 #[.pointer (some ⟨g, 0, none⟩), .bool right] w fun e w' => e = .returned (.tuple #[.int .i64 ((endC b s right).1 : Nat), .int .i64 ((endC b s right).2 : Nat)]) ∧ w.grownBy w' (some g) := by
  obtain ⟨at_, bad⟩ := s
  simp only at ha
  rcases hs with ⟨h1, h2⟩ | ⟨h1, a, h3, h2⟩
  · simp only at h1 h2
    subst h1
    have c0 := h2.c0
    have c1 := h2.c1
    have c2 := h2.c2
    have HS := Lib.hid h2; clear h2
    by_cases hlt : at_ < b.length
    · have hv : endC b ⟨at_, false⟩ right = (at_, 61) := by unfold endC; rw [if_pos (.inr hlt)]
      rw [hv]
      have t1 : decide (at_ < b.length) = true := by simp; omega
      clear hv
      go_enter Try.func101, Try.ntmps101
      go_wp2_with fail
      go_quiet (fail)
      go_wp2_with fail
      refine (wrong_any g A c b ⟨at_, false⟩ _ (.inl ⟨rfl, HS.out.drew nq⟩) ha).mono ?_
      rintro e w' ⟨rfl, h1, h2⟩
      obtain ⟨-, a, -, h4⟩ := h1.resolve_left (fun h => by cases h.1)
      have d2 := h4.c2
      simp only at d2
      have H2 := Lib.hid ((grown_drew w nq _).trans h2); clear h2 h4 h1
      go_wp2_with fail
      go_ret2
      exact ⟨rfl, H2.out⟩
    · have t1 : decide (at_ < b.length) = false := by simp; omega
      cases hr : right with
      | true =>
        subst hr
        have hv : endC b ⟨at_, false⟩ true = (0, 0) := by unfold endC; rw [if_neg (by simp; omega), if_neg (by simp)]
        rw [hv]
        clear hv
        go_enter Try.func101, Try.ntmps101
        go_wp2_with fail
        go_quiet (fail)
        go_wp2_with fail
        go_ret2
        exact ⟨rfl, grown_drew w nq _⟩
      | false =>
        subst hr
        have hv : endC b ⟨at_, false⟩ false = (0, 60) := by unfold endC; rw [if_neg (by simp; omega), if_pos rfl]
        rw [hv]
        clear hv
        go_enter Try.func101, Try.ntmps101
        go_wp2_with fail
        go_quiet (fail)
        go_wp2_with fail
        go_ret2
        exact ⟨rfl, grown_drew w nq _⟩
  · simp only at h1 h2
    subst h1
    have hv : endC b ⟨at_, true⟩ right = (at_, 61) := by unfold endC; rw [if_pos (.inl rfl)]
    rw [hv]
    clear hv
    have c0 := h2.c0
    have c1 := h2.c1
    have c2 := h2.c2
    have HS := Lib.hid h2; clear h2
    by_cases hlt : a < b.length
    · have t1 : decide (a < b.length) = true := by simp; omega
      go_enter Try.func101, Try.ntmps101
      go_wp2_with fail
      go_quiet (fail)
      go_wp2_with fail
      refine (wrong_any g A c b ⟨at_, true⟩ _ (.inr ⟨rfl, a, h3, HS.out.drew nq⟩) ha).mono ?_
      rintro e w' ⟨rfl, h1, h2⟩
      obtain ⟨-, a2, -, h4⟩ := h1.resolve_left (fun h => by cases h.1)
      have d2 := h4.c2
      simp only at d2
      have H2 := Lib.hid ((grown_drew w nq _).trans h2); clear h2 h4 h1
      go_wp2_with fail
      go_ret2
      exact ⟨rfl, H2.out⟩
    · have t1 : decide (a < b.length) = false := by simp; omega
      go_enter Try.func101, Try.ntmps101
      go_wp2_with fail
      go_quiet (fail)
      go_wp2_with fail
      go_ret2
      exact ⟨rfl, grown_drew w nq _⟩

set_option maxRecDepth 100000 in
set_option maxHeartbeats 1000000 in
theorem begin_any (A : Option Addr) (c : Nat) (b : List UInt8) (k : UInt8) (w : World) (hr : RdB w (.slice A b.length c) b) (hl : b.length ≤ 140737488355328) :
    Calls Try.prog 97 #[.slice A b.length c, .int .u8 (k.toNat : Int)] w fun e w' => ∃ g, e = .returned (.pointer (some ⟨g, 0, none⟩)) ∧ w.heap.size ≤ g ∧ RfSt w' g A c b (startC b k) ∧ Below w.heap.size w w' := by
  have hb0 : Below w.heap.size w (w.alloc (.cells #[.slice A b.length c, .int .i64 0, .int .i64 (-1)] 125)) := (Below.refl _ _).alloc (Nat.le_refl _) _
  have hs0 : RfC (w.alloc (.cells #[.slice A b.length c, .int .i64 0, .int .i64 (-1)] 125)) w.heap.size A c b 0 (-1) := ⟨heap_alloc_new w _, hr.below hb0⟩
  have hb1 : Below w.heap.size w (w.alloc (.cells #[.slice A b.length c, .int .i64 1, .int .i64 (-1)] 125)) := (Below.refl _ _).alloc (Nat.le_refl _) _
  have hs1 : RfC (w.alloc (.cells #[.slice A b.length c, .int .i64 1, .int .i64 (-1)] 125)) w.heap.size A c b 1 (-1) := ⟨heap_alloc_new w _, hr.below hb1⟩
  have HS1 := Lib.hid hs1; clear hs1
  have HB1 := Lib.hid hb1; clear hb1
  have c0 := hs0.c0
  have c1 := hs0.c1
  have c2 := hs0.c2
  have HS := Lib.hid hs0; clear hs0
  have HB := Lib.hid hb0; clear hb0
  by_cases h0 : b.length = 0
  · have hv : startC b k = ⟨0, true⟩ := by unfold startC; rw [if_neg]; rw [List.eq_nil_of_length_eq_zero h0]; simp
    rw [hv]
    have t2 : b = [] := List.eq_nil_of_length_eq_zero h0
    clear hv
    subst t2
    go_enter Try.func97, Try.ntmps97
    go_wp2_with fail
    refine (wrong_any w.heap.size A c [] ⟨0, false⟩ _ (.inl ⟨rfl, HS.out⟩) (by simp)).mono ?_
    rintro e w' ⟨rfl, h1, h2⟩
    obtain ⟨-, a, ha, h4⟩ := h1.resolve_left (fun h => by cases h.1)
    have d1 := h4.c1
    have f1 := h4.f 1
    have H4 := Lib.hid (h4.setAt 1)
    have H2 := Lib.hid ((blw HB.out h2 (Nat.le_refl _) (Nat.le_refl _)).setCell (p := ⟨w.heap.size, 1, none⟩) (Nat.le_refl _) (.int .i64 1))
    clear h4 h1 h2
    go_wp2_with fail
    go_ret
    exact ⟨_, rfl, Nat.le_refl _, .inr ⟨rfl, 1, by omega, H4.out⟩, H2.out⟩
  · obtain ⟨A', c', he, _, hcm, hcell⟩ := HS.out.2
    obtain ⟨ad, hA, hcells⟩ := hcell (by omega)
    have hcx := hcells 0 (by omega)
    obtain ⟨x, hx⟩ : ∃ x, x = b[0]'(by omega) := ⟨_, rfl⟩
    rw [← hx, bv_nat] at hcx
    rw [show ad.add 0 = ad from by simp [Addr.add]] at hcx
    injection he with e1 e2 e3
    subst e1 hA
    have h0' : 0 < b.length := by omega
    have hb0 : b[0]? = some x := by rw [hx]; exact List.getElem?_eq_getElem h0'
    have hn0 : ¬ b = [] := fun e => h0 (by rw [e]; rfl)
    clear hcells hcell e2 e3 hx
    by_cases hk : x = k
    · have hv : startC b k = ⟨1, false⟩ := by unfold startC; rw [hb0, hk, if_pos rfl]
      rw [hv]
      have t2 : ((x.toNat : Int) != (k.toNat : Int)) = false := by subst hk; simp
      clear hv hb0
      subst hk
      go_enter Try.func97, Try.ntmps97
      go_wp2_with fail
      go_ret
      exact ⟨_, rfl, Nat.le_refl _, .inl ⟨rfl, HS1.out⟩, HB1.out⟩
    · have hv : startC b k = ⟨0, true⟩ := by unfold startC; rw [hb0, if_neg (fun e => hk (Option.some.inj e))]
      rw [hv]
      have t2 : ((x.toNat : Int) != (k.toNat : Int)) = true := by rw [bne_iff_ne]; intro e; exact hk (UInt8.toNat_inj.1 (by omega))
      clear hv hb0
      go_enter Try.func97, Try.ntmps97
      go_wp2_with fail
      refine (wrong_any w.heap.size (some ad) c b ⟨0, false⟩ _ (.inl ⟨rfl, HS.out⟩) (by simp)).mono ?_
      rintro e w' ⟨rfl, h1, h2⟩
      obtain ⟨-, a, ha, h4⟩ := h1.resolve_left (fun h => by cases h.1)
      have d1 := h4.c1
      have f1 := h4.f 1
      have H4 := Lib.hid (h4.setAt 1)
      have H2 := Lib.hid ((blw HB.out h2 (Nat.le_refl _) (Nat.le_refl _)).setCell (p := ⟨w.heap.size, 1, none⟩) (Nat.le_refl _) (.int .i64 1))
      clear h4 h1 h2
      go_wp2_with fail
      go_ret
      exact ⟨_, rfl, Nat.le_refl _, .inr ⟨rfl, 1, by omega, H4.out⟩, H2.out⟩
end Go.Proofs.Ytggjipfdfpdecaa
