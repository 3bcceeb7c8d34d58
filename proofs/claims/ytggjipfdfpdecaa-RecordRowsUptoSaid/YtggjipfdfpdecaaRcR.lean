/- The walks of record's reader: a number, a time, a text, a flag. -/
import Derived.Test.YtggjipfdfpdecaaRcW
import Derived.Test.YtggjipfdfpdecaaRcD
import Derived.Test.YtggjipfdfpdecaaTText
import Derived.Deep.QuietTactic
import Derived.BigQuiet
namespace Go.Proofs.Ytggjipfdfpdecaa
open Go.RowKit
attribute [local go_sem] bs_list bs_size

/-- No cell of this is a byte. -/
def NoByte (cs : Array Value) : Prop := ∀ (i : Nat) (u : Value), cs[i]? = some u → ∀ x : UInt8, u ≠ bv x
theorem RdB.far {w w' : World} {v : Value} {l : List UInt8} {g : Nat} {cs : Array Value} {t : TypeId} {fr : Nat × Nat} (h : RdB w v l) (hg : w.heap[g]? = some (.cells cs t fr)) (hc : NoByte cs) (hw : w.grownBy w' (some g)) : RdB w' v l := by
  obtain ⟨A, c, hv, h1, h2, h3⟩ := h
  refine ⟨A, c, hv, h1, h2, fun hp => ?_⟩
  obtain ⟨ad, hA, hcell⟩ := h3 hp
  refine ⟨ad, hA, fun j hj => ?_⟩
  have h0 := hcell j hj
  have hlt := World.block_lt_of_cell? w _ h0
  rw [World.cell?_of_block (w := w) (hw.block _ hlt ?_), h0]
  intro e
  injection e with e
  unfold World.cell? at h0
  rw [e, hg] at h0
  simp only at h0
  split at h0
  · cases h0
  · exact hc _ _ h0 _ rfl

/-- The reader in block g, of these bytes. -/
def RdSt (w : World) (g : Nat) (A : Option Addr) (c : Nat) (b : List UInt8) (s : RS) : Prop :=
  w.heap[g]? = some (.cells #[.slice A b.length c, .int .i64 (s.at_ : Int), .bool s.bad] 151 (0, 0)) ∧ RdB w (.slice A b.length c) b
theorem noByte_rd (v : Value) (hv : ∀ x : UInt8, v ≠ bv x) (n : Int) (p : Bool) : NoByte #[v, .int .i64 n, .bool p] := by
  intro i u h x
  match i, h with
  | 0, h => simp at h; rw [← h]; exact hv x
  | 1, h => simp at h; rw [← h]; simp [bv]
  | 2, h => simp at h; rw [← h]; simp [bv]
  | i + 3, h => simp at h
theorem slice_bv (A : Option Addr) (n c : Nat) (x : UInt8) : Value.slice A n c ≠ bv x := by simp [bv]
section
variable {w w' : World} {g : Nat} {A : Option Addr} {c : Nat} {b : List UInt8} {s : RS}
theorem RdSt.c0 (h : RdSt w g A c b s) : w.cell? ⟨g, 0, none⟩ = some (.slice A b.length c) := by rw [cell_of_row w g 0 _ 151 (0, 0) h.1]; rfl
theorem RdSt.c1 (h : RdSt w g A c b s) : w.cell? ⟨g, 1, none⟩ = some (.int .i64 (s.at_ : Int)) := by rw [cell_of_row w g 1 _ 151 (0, 0) h.1]; rfl
theorem RdSt.c2 (h : RdSt w g A c b s) : w.cell? ⟨g, 2, none⟩ = some (.bool s.bad) := by rw [cell_of_row w g 2 _ 151 (0, 0) h.1]; rfl
theorem RdSt.f (h : RdSt w g A c b s) (i : Nat) : w.frozen? ⟨g, i, none⟩ = false := by have := h.1; simp [World.frozen?, this]
theorem RdSt.drew (h : RdSt w g A c b s) (n : Nat) : RdSt (w.drewN n) g A c b s := ⟨h.1, h.2.drewN n⟩
theorem RdSt.keep (h : RdSt w g A c b s) (hb : Below w.heap.size w w') : RdSt w' g A c b s := ⟨heap_below h.1 hb, h.2.below hb⟩
theorem only_one (w : World) (g i : Nat) (u : Value) : w.grownBy (w.setCell ⟨g, i, none⟩ u) (some g) :=
  ⟨rfl, rfl, rfl, by simp [World.setCell], fun k _ hk => Below.heap_setCell w ⟨g, i, none⟩ u k (fun e => hk (by rw [e]))⟩
theorem set_at {cs : Array Value} {t : TypeId} (h : w.heap[g]? = some (.cells cs t (0, 0))) (i : Nat) (u : Value) : (w.setCell ⟨g, i, none⟩ u).heap[g]? = some (.cells (cs.setIfInBounds i u) t (0, 0)) := heap_setCell_same w g i cs t u h
theorem RdSt.setBad (h : RdSt w g A c b s) (p : Bool) : RdSt (w.setCell ⟨g, 2, none⟩ (.bool p)) g A c b ⟨s.at_, p⟩ :=
  ⟨set_at h.1 2 _, h.2.far h.1 (noByte_rd _ (slice_bv _ _ _) _ _) (only_one _ _ _ _)⟩
theorem RdSt.setAt (h : RdSt w g A c b s) (n : Nat) : RdSt (w.setCell ⟨g, 1, none⟩ (.int .i64 (n : Int))) g A c b ⟨n, s.bad⟩ :=
  ⟨set_at h.1 1 _, h.2.far h.1 (noByte_rd _ (slice_bv _ _ _) _ _) (only_one _ _ _ _)⟩
end
theorem grown_drew (w : World) (n : Nat) (row : Option Nat) : w.grownBy (w.drewN n) row := ⟨rfl, rfl, rfl, Nat.le_refl _, fun _ _ _ => rfl⟩

set_option maxRecDepth 100000 in
set_option maxHeartbeats 1000000 in
theorem rnum_any (g : Nat) (A : Option Addr) (c : Nat) (b : List UInt8) (s : RS) (most : Nat) (w : World) (hs : RdSt w g A c b s) (hl : b.length ≤ 140737488355328) (hm : most < 9223372036854775808) :
    Calls Try.prog 104 #[.pointer (some ⟨g, 0, none⟩), .int .i64 most] w fun e w' => e = .returned (.int .i64 ((rNum b most s).1 : Nat)) ∧ RdSt w' g A c b (rNum b most s).2 ∧ w.grownBy w' (some g) := by
  obtain ⟨at_, bad⟩ := s
  have c0 := hs.c0
  have c1 := hs.c1
  have c2 := hs.c2
  have f2 := hs.f 2
  have f1 := hs.f 1
  have ht := fun q => (take_any _ b (at_ : Int) (w.drewN q) (hs.2.drewN q) hl).mono (fun _ _ h => (⟨h.1, h.2.symm⟩ : _ ∧ _))
  have hw : IntKind.u64.wrap (most : Int) = (most : Int) := by rw [IntKind.wrap_u64, Int.emod_eq_of_lt (by omega) (by omega)]
  have HS := Lib.hid hs; clear hs
  cases hk : tkAt b (at_ : Int) with
  | none =>
    have hv : rNum b most ⟨at_, bad⟩ = (0, ⟨at_, true⟩) := by unfold rNum; rw [hk]
    rw [hv]
    rw [hk] at ht
    simp only [tkVal] at ht
    clear hk hv
    go_enter Try.func104, Try.ntmps104
    go_wp2_with fail
    go_quiet ((go_at_call 32; exact Calls.quiet_of_same (ht _)))
    have HS2 := Lib.hid ((HS.out.drew nq).setBad true)
    cases bad
    all_goals
      go_wp2_with fail
      go_ret
      exact ⟨rfl, HS2.out, (grown_drew w nq _).trans (only_one _ _ _ _)⟩
  | some p =>
    obtain ⟨n, nx⟩ := p
    rw [hk] at ht
    simp only [tkVal] at ht
    obtain ⟨hn, -, -, hnx, -, -⟩ := tkAt_one b at_ n nx hk
    by_cases hb : bad = true ∨ most < n
    · have hv : rNum b most ⟨at_, bad⟩ = (0, ⟨at_, true⟩) := by unfold rNum; rw [hk]; simp only; rw [if_pos hb]
      rw [hv]
      clear hk hv
      go_enter Try.func104, Try.ntmps104
      go_wp2_with fail
      go_quiet ((go_at_call 32; exact Calls.quiet_of_same (ht _)))
      have HS2 := Lib.hid ((HS.out.drew nq).setBad true)
      cases bad
      · have hb2 : most < n := by simpa using hb
        clear hb
        go_wp2_with fail
        go_ret
        exact ⟨rfl, HS2.out, (grown_drew w nq _).trans (only_one _ _ _ _)⟩
      · clear hb
        go_wp2_with fail
        go_ret
        exact ⟨rfl, HS2.out, (grown_drew w nq _).trans (only_one _ _ _ _)⟩
    · have hv : rNum b most ⟨at_, bad⟩ = (n, ⟨nx, false⟩) := by unfold rNum; rw [hk]; simp only; rw [if_neg hb]
      rw [hv]
      clear hk hv
      have hb1 : bad = false := by cases bad <;> simp_all
      have hb2 : n ≤ most := by
        rcases Nat.lt_or_ge most n with h | h
        · exact absurd (.inr h) hb
        · exact h
      subst hb1
      clear hb
      have hw2 : IntKind.i64.wrap (n : Int) = (n : Int) := IntWalk.i64_in _ (by omega)
      go_enter Try.func104, Try.ntmps104
      go_wp2_with fail
      go_quiet ((go_at_call 32; exact Calls.quiet_of_same (ht _)))
      have HS2 := Lib.hid (((HS.out.drew nq).setBad false).setAt nx)
      go_wp2_with fail
      go_ret
      exact ⟨rfl, HS2.out, ((grown_drew w nq _).trans (only_one _ _ _ _)).trans (only_one _ _ _ _)⟩

theorem rtime_any (g : Nat) (A : Option Addr) (c : Nat) (b : List UInt8) (s : RS) (w : World) (hs : RdSt w g A c b s) (hl : b.length ≤ 140737488355328) :
    Calls Try.prog 92 #[.pointer (some ⟨g, 0, none⟩)] w fun e w' => e = .returned (.int .i64 ((rNum b 1099511627775 s).1 : Nat)) ∧ RdSt w' g A c b (rNum b 1099511627775 s).2 ∧ w.grownBy w' (some g) := by
  have h := rnum_any g A c b s 1099511627775 w hs hl (by omega)
  obtain ⟨N, hN⟩ : ∃ N, N = rNum b 1099511627775 s := ⟨_, rfl⟩
  rw [← hN] at h ⊢
  clear hN
  obtain ⟨n, s'⟩ := N
  go_enter Try.func92, Try.ntmps92
  go_wp2_with fail
  refine h.mono ?_
  rintro e w' ⟨rfl, h1, h2⟩
  have H1 := Lib.hid h1; clear h1
  have H2 := Lib.hid h2; clear h2
  go_wp2_with fail
  go_ret
  exact ⟨rfl, H1.out, H2.out⟩

set_option maxRecDepth 100000 in
set_option maxHeartbeats 1000000 in
theorem rtext_any (g : Nat) (A : Option Addr) (c : Nat) (b : List UInt8) (s : RS) (most : Nat) (w : World) (hs : RdSt w g A c b s) (hl : b.length ≤ 140737488355328) (hm : most < 9223372036854775808) :
    Calls Try.prog 96 #[.pointer (some ⟨g, 0, none⟩), .int .i64 most] w fun e w' => e = .returned (.string (bs (rTxt b most s).1)) ∧ RdSt w' g A c b (rTxt b most s).2 ∧ w.grownBy w' (some g) := by
  obtain ⟨at_, bad⟩ := s
  have c0 := hs.c0
  have c1 := hs.c1
  have c2 := hs.c2
  have f2 := hs.f 2
  have f1 := hs.f 1
  have ht := fun q => (takeText_any _ b (at_ : Int) (most : Int) (w.drewN q) (hs.2.drewN q) hl (by omega) (by omega)).mono (fun _ _ h => (⟨h.1, h.2.symm⟩ : _ ∧ _))
  have HS := Lib.hid hs; clear hs
  have htx : ttAt b (at_ : Int) (most : Int) = txAt b at_ most := rfl
  rw [htx] at ht
  cases hk : txAt b (at_ : Int) (most : Int) with
  | none =>
    have hv : rTxt b most ⟨at_, bad⟩ = ([], ⟨at_, true⟩) := by unfold rTxt; rw [hk]
    rw [hv]
    rw [hk] at ht
    simp only [ttVal] at ht
    clear hk hv htx
    go_enter Try.func96, Try.ntmps96
    go_wp2_with fail
    go_quiet ((go_at_call 34; exact Calls.quiet_of_same (ht _)))
    have HS2 := Lib.hid ((HS.out.drew nq).setBad true)
    cases bad
    all_goals
      go_wp2_with fail
      go_ret
      exact ⟨rfl, HS2.out, (grown_drew w nq _).trans (only_one _ _ _ _)⟩
  | some p =>
    obtain ⟨t, nx⟩ := p
    rw [hk] at ht
    simp only [ttVal] at ht
    cases hb : bad with
    | true =>
      subst hb
      have hv : rTxt b most ⟨at_, true⟩ = ([], ⟨at_, true⟩) := by unfold rTxt; rw [hk]; simp
      rw [hv]
      clear hk hv htx
      go_enter Try.func96, Try.ntmps96
      go_wp2_with fail
      go_quiet ((go_at_call 34; exact Calls.quiet_of_same (ht _)))
      have HS2 := Lib.hid ((HS.out.drew nq).setBad true)
      go_wp2_with fail
      go_ret
      exact ⟨rfl, HS2.out, (grown_drew w nq _).trans (only_one _ _ _ _)⟩
    | false =>
      subst hb
      have hv : rTxt b most ⟨at_, false⟩ = (t, ⟨nx, false⟩) := by unfold rTxt; rw [hk]; simp
      rw [hv]
      clear hk hv htx
      go_enter Try.func96, Try.ntmps96
      go_wp2_with fail
      go_quiet ((go_at_call 34; exact Calls.quiet_of_same (ht _)))
      have HS2 := Lib.hid (((HS.out.drew nq).setBad false).setAt nx)
      go_wp2_with fail
      go_ret
      exact ⟨rfl, HS2.out, ((grown_drew w nq _).trans (only_one _ _ _ _)).trans (only_one _ _ _ _)⟩

end Go.Proofs.Ytggjipfdfpdecaa
