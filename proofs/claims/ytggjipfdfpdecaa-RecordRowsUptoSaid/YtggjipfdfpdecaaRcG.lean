/- The walks of the document's reader: a number, a text, a flag, the end. -/
import Derived.Test.YtggjipfdfpdecaaRcF
set_option linter.unusedVariables false
namespace Go.Proofs.Ytggjipfdfpdecaa
open Go.RowKit
attribute [local go_sem] bs_list bs_size

/-- The document's reader in block g: no fault so far; a fault. -/
def RfC (w : World) (g : Nat) (A : Option Addr) (c : Nat) (b : List UInt8) (a bd : Int) : Prop :=
  w.heap[g]? = some (.cells #[.slice A b.length c, .int .i64 a, .int .i64 bd] 125 (0, 0)) ∧ RdB w (.slice A b.length c) b
def RfSt (w : World) (g : Nat) (A : Option Addr) (c : Nat) (b : List UInt8) (s : RS) : Prop :=
  (s.bad = false ∧ RfC w g A c b s.at_ (-1)) ∨ (s.bad = true ∧ ∃ a : Nat, a ≤ 140737488355328 ∧ RfC w g A c b a s.at_)
theorem noByte_rf (v : Value) (hv : ∀ x : UInt8, v ≠ bv x) (n p : Int) : NoByte #[v, .int .i64 n, .int .i64 p] := by
  intro i u h x
  match i, h with
  | 0, h => simp at h; rw [← h]; exact hv x
  | 1, h => simp at h; rw [← h]; simp [bv]
  | 2, h => simp at h; rw [← h]; simp [bv]
  | i + 3, h => simp at h
section
variable {w w' : World} {g : Nat} {A : Option Addr} {c : Nat} {b : List UInt8} {a bd : Int}
theorem RfC.c0 (h : RfC w g A c b a bd) : w.cell? ⟨g, 0, none⟩ = some (.slice A b.length c) := by rw [cell_of_row w g 0 _ 125 (0, 0) h.1]; rfl
theorem RfC.c1 (h : RfC w g A c b a bd) : w.cell? ⟨g, 1, none⟩ = some (.int .i64 a) := by rw [cell_of_row w g 1 _ 125 (0, 0) h.1]; rfl
theorem RfC.c2 (h : RfC w g A c b a bd) : w.cell? ⟨g, 2, none⟩ = some (.int .i64 bd) := by rw [cell_of_row w g 2 _ 125 (0, 0) h.1]; rfl
theorem RfC.f (h : RfC w g A c b a bd) (i : Nat) : w.frozen? ⟨g, i, none⟩ = false := by have := h.1; simp [World.frozen?, this]
theorem RfC.drew (h : RfC w g A c b a bd) (n : Nat) : RfC (w.drewN n) g A c b a bd := ⟨h.1, h.2.drewN n⟩
theorem RfC.setBad (h : RfC w g A c b a bd) (p : Int) : RfC (w.setCell ⟨g, 2, none⟩ (.int .i64 p)) g A c b a p :=
  ⟨set_at h.1 2 _, h.2.far h.1 (noByte_rf _ (slice_bv _ _ _) _ _) (only_one _ _ _ _)⟩
theorem RfC.setAt (h : RfC w g A c b a bd) (n : Int) : RfC (w.setCell ⟨g, 1, none⟩ (.int .i64 n)) g A c b n bd :=
  ⟨set_at h.1 1 _, h.2.far h.1 (noByte_rf _ (slice_bv _ _ _) _ _) (only_one _ _ _ _)⟩
end
theorem RfSt.drew {w : World} {g : Nat} {A : Option Addr} {c : Nat} {b : List UInt8} {s : RS} (h : RfSt w g A c b s) (n : Nat) : RfSt (w.drewN n) g A c b s := by
  rcases h with ⟨h1, h2⟩ | ⟨h1, a, h3, h2⟩
  · exact .inl ⟨h1, h2.drew n⟩
  · exact .inr ⟨h1, a, h3, h2.drew n⟩
theorem RfSt.keep {w w' : World} {g : Nat} {A : Option Addr} {c : Nat} {b : List UInt8} {s : RS} (h : RfSt w g A c b s) (hb : Below w.heap.size w w') : RfSt w' g A c b s := by
  rcases h with ⟨h1, h2⟩ | ⟨h1, a, h3, h2⟩
  · exact .inl ⟨h1, heap_below h2.1 hb, h2.2.below hb⟩
  · exact .inr ⟨h1, a, h3, heap_below h2.1 hb, h2.2.below hb⟩

set_option maxHeartbeats 400000 in
theorem wrong_any (g : Nat) (A : Option Addr) (c : Nat) (b : List UInt8) (s : RS) (w : World) (hs : RfSt w g A c b s) (ha : s.at_ ≤ 140737488355328) :
    Calls Try.prog 125 #[.pointer (some ⟨g, 0, none⟩)] w fun e w' => e = .returned (.tuple #[]) ∧ RfSt w' g A c b ⟨s.at_, true⟩ ∧ w.grownBy w' (some g) := by
  obtain ⟨at_, bad⟩ := s
  simp only at ha
  rcases hs with ⟨h1, h2⟩ | ⟨h1, a, h3, h2⟩
  · simp only at h1 h2
    have c1 := h2.c1
    have c2 := h2.c2
    have f2 := h2.f 2
    have HS := Lib.hid h2; clear h2 h1
    go_enter Try.func125, Try.ntmps125
    go_wp2_with fail
    go_end0
    exact ⟨rfl, .inr ⟨rfl, at_, ha, HS.out.setBad _⟩, only_one _ _ _ _⟩
  · simp only at h1 h2
    have c1 := h2.c1
    have c2 := h2.c2
    have f2 := h2.f 2
    have HS := Lib.hid h2; clear h2 h1
    go_enter Try.func125, Try.ntmps125
    go_wp2_with fail
    go_end0
    exact ⟨rfl, .inr ⟨rfl, a, h3, HS.out⟩, World.grownBy.refl _ _⟩

set_option maxRecDepth 100000 in
set_option maxHeartbeats 1000000 in
theorem fnum_any (g : Nat) (A : Option Addr) (c : Nat) (b : List UInt8) (s : RS) (most : Nat) (w : World) (hs : RfSt w g A c b s) (hl : b.length ≤ 140737488355328) (hm : most < 9223372036854775808) (ha : s.at_ ≤ 140737488355328) :
    Calls Try.prog 98 #[.pointer (some ⟨g, 0, none⟩), .int .i64 most] w fun e w' => e = .returned (.int .i64 ((rNum b most s).1 : Nat)) ∧ RfSt w' g A c b (rNum b most s).2 ∧ w.grownBy w' (some g) := by
  obtain ⟨at_, bad⟩ := s
  simp only at ha
  have hw : IntKind.u64.wrap (most : Int) = (most : Int) := by rw [IntKind.wrap_u64, Int.emod_eq_of_lt (by omega) (by omega)]
  rcases hs with ⟨h1, h2⟩ | ⟨h1, a, h3, h2⟩
  · simp only at h1 h2
    subst h1
    have c0 := h2.c0
    have c1 := h2.c1
    have c2 := h2.c2
    have f2 := h2.f 2
    have f1 := h2.f 1
    have ht := fun q => (refTake_any _ b (at_ : Int) (w.drewN q) (h2.2.drewN q) hl).mono (fun _ _ h => (⟨h.1, h.2.symm⟩ : _ ∧ _))
    have HS := Lib.hid h2; clear h2
    cases hk : tkAt b (at_ : Int) with
    | none =>
      have hv : rNum b most ⟨at_, false⟩ = (0, ⟨at_, true⟩) := by unfold rNum; rw [hk]
      rw [hv]
      rw [hk] at ht
      simp only [tkVal] at ht
      clear hk hv
      go_enter Try.func98, Try.ntmps98
      go_wp2_with fail
      go_quiet ((go_at_call 33; exact Calls.quiet_of_same (ht _)))
      go_wp2_with fail
      refine (wrong_any g A c b ⟨at_, false⟩ _ (.inl ⟨rfl, HS.out.drew nq⟩) ha).mono ?_
      rintro e w' ⟨rfl, h1, h2⟩
      have H1 := Lib.hid h1; clear h1
      have H2 := Lib.hid ((grown_drew w nq _).trans h2); clear h2
      go_wp2_with fail
      go_ret
      exact ⟨rfl, H1.out, H2.out⟩
    | some p =>
      obtain ⟨n, nx⟩ := p
      rw [hk] at ht
      simp only [tkVal] at ht
      obtain ⟨hn, -, -, hnx, -, -⟩ := tkAt_one b at_ n nx hk
      by_cases hb : most < n
      · have hv : rNum b most ⟨at_, false⟩ = (0, ⟨at_, true⟩) := by unfold rNum; rw [hk]; simp only; rw [if_pos (.inr hb)]
        rw [hv]
        clear hk hv
        go_enter Try.func98, Try.ntmps98
        go_wp2_with fail
        go_quiet ((go_at_call 33; exact Calls.quiet_of_same (ht _)))
        go_wp2_with fail
        refine (wrong_any g A c b ⟨at_, false⟩ _ (.inl ⟨rfl, HS.out.drew nq⟩) ha).mono ?_
        rintro e w' ⟨rfl, h1, h2⟩
        have H1 := Lib.hid h1; clear h1
        have H2 := Lib.hid ((grown_drew w nq _).trans h2); clear h2
        go_wp2_with fail
        go_ret
        exact ⟨rfl, H1.out, H2.out⟩
      · have hv : rNum b most ⟨at_, false⟩ = (n, ⟨nx, false⟩) := by unfold rNum; rw [hk]; simp only; rw [if_neg (by simp; omega)]
        rw [hv]
        clear hk hv
        have hw2 : IntKind.i64.wrap (n : Int) = (n : Int) := IntWalk.i64_in _ (by omega)
        go_enter Try.func98, Try.ntmps98
        go_wp2_with fail
        go_quiet ((go_at_call 33; exact Calls.quiet_of_same (ht _)))
        have HS2 := Lib.hid ((HS.out.drew nq).setAt nx)
        go_wp2_with fail
        go_ret
        exact ⟨rfl, .inl ⟨rfl, HS2.out⟩, (grown_drew w nq _).trans (only_one _ _ _ _)⟩
  · simp only at h1 h2
    subst h1
    have hv : rNum b most ⟨at_, true⟩ = (0, ⟨at_, true⟩) := by unfold rNum; cases tkAt b (at_ : Int) <;> simp
    rw [hv]
    clear hv
    have c2 := h2.c2
    have HS := Lib.hid h2; clear h2
    go_enter Try.func98, Try.ntmps98
    go_wp2_with fail
    go_ret
    exact ⟨rfl, .inr ⟨rfl, a, h3, HS.out⟩, World.grownBy.refl _ _⟩

set_option maxRecDepth 100000 in
set_option maxHeartbeats 1000000 in
theorem ftext_any (g : Nat) (A : Option Addr) (c : Nat) (b : List UInt8) (s : RS) (most : Nat) (w : World) (hs : RfSt w g A c b s) (hl : b.length ≤ 140737488355328) (hm : most < 9223372036854775808) (ha : s.at_ ≤ 140737488355328) :
    Calls Try.prog 100 #[.pointer (some ⟨g, 0, none⟩), .int .i64 most] w fun e w' => e = .returned (.string (bs (rTxt b most s).1)) ∧ RfSt w' g A c b (rTxt b most s).2 ∧ w.grownBy w' (some g) := by
  obtain ⟨at_, bad⟩ := s
  simp only at ha
  rcases hs with ⟨h1, h2⟩ | ⟨h1, a, h3, h2⟩
  · simp only at h1 h2
    subst h1
    have c0 := h2.c0
    have c1 := h2.c1
    have c2 := h2.c2
    have f2 := h2.f 2
    have f1 := h2.f 1
    have ht := fun q => (refTakeText_any _ b (at_ : Int) (most : Int) (w.drewN q) (h2.2.drewN q) hl (by omega) (by omega)).mono (fun _ _ h => (⟨h.1, h.2.symm⟩ : _ ∧ _))
    have HS := Lib.hid h2; clear h2
    have htx : ttAt b (at_ : Int) (most : Int) = txAt b at_ most := rfl
    rw [htx] at ht
    cases hk : txAt b (at_ : Int) (most : Int) with
    | none =>
      have hv : rTxt b most ⟨at_, false⟩ = ([], ⟨at_, true⟩) := by unfold rTxt; rw [hk]
      rw [hv]
      rw [hk] at ht
      simp only [ttVal] at ht
      clear hk hv htx
      go_enter Try.func100, Try.ntmps100
      go_wp2_with fail
      go_quiet ((go_at_call 35; exact Calls.quiet_of_same (ht _)))
      go_wp2_with fail
      refine (wrong_any g A c b ⟨at_, false⟩ _ (.inl ⟨rfl, HS.out.drew nq⟩) ha).mono ?_
      rintro e w' ⟨rfl, h1, h2⟩
      have H1 := Lib.hid h1; clear h1
      have H2 := Lib.hid ((grown_drew w nq _).trans h2); clear h2
      go_wp2_with fail
      go_ret
      exact ⟨rfl, H1.out, H2.out⟩
    | some p =>
      obtain ⟨t, nx⟩ := p
      rw [hk] at ht
      simp only [ttVal] at ht
      have hv : rTxt b most ⟨at_, false⟩ = (t, ⟨nx, false⟩) := by unfold rTxt; rw [hk]; simp
      rw [hv]
      clear hk hv htx
      go_enter Try.func100, Try.ntmps100
      go_wp2_with fail
      go_quiet ((go_at_call 35; exact Calls.quiet_of_same (ht _)))
      have HS2 := Lib.hid ((HS.out.drew nq).setAt nx)
      go_wp2_with fail
      go_ret
      exact ⟨rfl, .inl ⟨rfl, HS2.out⟩, (grown_drew w nq _).trans (only_one _ _ _ _)⟩
  · simp only at h1 h2
    subst h1
    have hv : rTxt b most ⟨at_, true⟩ = ([], ⟨at_, true⟩) := by unfold rTxt; cases txAt b (at_ : Int) most <;> simp
    rw [hv]
    clear hv
    have c2 := h2.c2
    have HS := Lib.hid h2; clear h2
    go_enter Try.func100, Try.ntmps100
    go_wp2_with fail
    go_ret
    exact ⟨rfl, .inr ⟨rfl, a, h3, HS.out⟩, World.grownBy.refl _ _⟩
end Go.Proofs.Ytggjipfdfpdecaa
