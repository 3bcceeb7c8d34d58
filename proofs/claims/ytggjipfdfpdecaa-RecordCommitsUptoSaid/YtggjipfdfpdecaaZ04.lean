/- Texts merged: RcR, RcF, RcG. Each says below what it proves. -/
import Derived.Test.YtggjipfdfpdecaaZ03
import Derived.Test.YtggjipfdfpdecaaZ01
import Derived.Deep.QuietTactic
import Derived.BigQuiet
import Derived.StillTailTactics
import Derived.Deep.DeepCutAuto
/- The walks of record's reader: a number, a time, a text, a flag. -/
namespace Go.Proofs.Ytggjipfdfpdecaa
open Go.RowKit
attribute [local go_sem] bs_list bs_size

/-- No cell of this is a byte. -/
def NoByte (cs : Array Value) : Prop := ∀ (i : Nat) (u : Value), cs[i]? = some u → ∀ x : UInt8, u ≠ bv x
theorem RdB.far {w w' : World} {v : Value} {l : List UInt8} {g : Nat} {cs : Array Value} {t : TypeId} {fr : Nat × Nat} (h : RdB w v l) (hg : w.heap[g]? = some (.cells cs t fr)) (hc : NoByte cs) (hw : w.grownBy w' (some g)) : RdB w' v l := by
  obtain ⟨A, c, hv, h1, h2, h3⟩ := h
  refine ⟨A, c, hv, h1, h2, fun hp => ?_⟩
  obtain ⟨ad, hA, hcell⟩ := h3 hp
  refine ⟨ad, hA, fun j hj => ?_⟩
  have h0 := hcell j hj
  have hlt := World.block_lt_of_cell? w _ h0
  rw [World.cell?_of_block (w := w) (hw.block _ hlt ?_), h0]
  intro e
  injection e with e
  unfold World.cell? at h0
  rw [e, hg] at h0
  simp only at h0
  split at h0
  · cases h0
  · exact hc _ _ h0 _ rfl

/-- The reader in block g, of these bytes. -/
def RdSt (w : World) (g : Nat) (A : Option Addr) (c : Nat) (b : List UInt8) (s : RS) : Prop :=
  w.heap[g]? = some (.cells #[.slice A b.length c, .int .i64 (s.at_ : Int), .bool s.bad] 151 (0, 0)) ∧ RdB w (.slice A b.length c) b
theorem noByte_rd (v : Value) (hv : ∀ x : UInt8, v ≠ bv x) (n : Int) (p : Bool) : NoByte #[v, .int .i64 n, .bool p] := by
  intro i u h x
  match i, h with
  | 0, h => simp at h; rw [← h]; exact hv x
  | 1, h => simp at h; rw [← h]; simp [bv]
  | 2, h => simp at h; rw [← h]; simp [bv]
  | i + 3, h => simp at h
theorem slice_bv (A : Option Addr) (n c : Nat) (x : UInt8) : Value.slice A n c ≠ bv x := by simp [bv]
section
variable {w w' : World} {g : Nat} {A : Option Addr} {c : Nat} {b : List UInt8} {s : RS}
theorem RdSt.c0 (h : RdSt w g A c b s) : w.cell? ⟨g, 0, none⟩ = some (.slice A b.length c) := by rw [cell_of_row w g 0 _ 151 (0, 0) h.1]; rfl
theorem RdSt.c1 (h : RdSt w g A c b s) : w.cell? ⟨g, 1, none⟩ = some (.int .i64 (s.at_ : Int)) := by rw [cell_of_row w g 1 _ 151 (0, 0) h.1]; rfl
theorem RdSt.c2 (h : RdSt w g A c b s) : w.cell? ⟨g, 2, none⟩ = some (.bool s.bad) := by rw [cell_of_row w g 2 _ 151 (0, 0) h.1]; rfl
theorem RdSt.f (h : RdSt w g A c b s) (i : Nat) : w.frozen? ⟨g, i, none⟩ = false := by have := h.1; simp [World.frozen?, this]
theorem RdSt.drew (h : RdSt w g A c b s) (n : Nat) : RdSt (w.drewN n) g A c b s := ⟨h.1, h.2.drewN n⟩
theorem RdSt.keep (h : RdSt w g A c b s) (hb : Below w.heap.size w w') : RdSt w' g A c b s := ⟨heap_below h.1 hb, h.2.below hb⟩
theorem only_one (w : World) (g i : Nat) (u : Value) : w.grownBy (w.setCell ⟨g, i, none⟩ u) (some g) :=
  ⟨rfl, rfl, rfl, by simp [World.setCell], fun k _ hk => Below.heap_setCell w ⟨g, i, none⟩ u k (fun e => hk (by rw [e]))⟩
theorem set_at {cs : Array Value} {t : TypeId} (h : w.heap[g]? = some (.cells cs t (0, 0))) (i : Nat) (u : Value) : (w.setCell ⟨g, i, none⟩ u).heap[g]? = some (.cells (cs.setIfInBounds i u) t (0, 0)) := heap_setCell_same w g i cs t u h
theorem RdSt.setBad (h : RdSt w g A c b s) (p : Bool) : RdSt (w.setCell ⟨g, 2, none⟩ (.bool p)) g A c b ⟨s.at_, p⟩ :=
  ⟨set_at h.1 2 _, h.2.far h.1 (noByte_rd _ (slice_bv _ _ _) _ _) (only_one _ _ _ _)⟩
theorem RdSt.setAt (h : RdSt w g A c b s) (n : Nat) : RdSt (w.setCell ⟨g, 1, none⟩ (.int .i64 (n : Int))) g A c b ⟨n, s.bad⟩ :=
  ⟨set_at h.1 1 _, h.2.far h.1 (noByte_rd _ (slice_bv _ _ _) _ _) (only_one _ _ _ _)⟩
end
theorem grown_drew (w : World) (n : Nat) (row : Option Nat) : w.grownBy (w.drewN n) row := ⟨rfl, rfl, rfl, Nat.le_refl _, fun _ _ _ => rfl⟩

set_option maxRecDepth 100000 in
set_option maxHeartbeats 1000000 in
theorem rnum_any (g : Nat) (A : Option Addr) (c : Nat) (b : List UInt8) (s : RS) (most : Nat) (w : World) (hs : RdSt w g A c b s) (hl : b.length ≤ 140737488355328) (hm : most < 9223372036854775808) :
    Calls Try.prog 104 #[.pointer (some ⟨g, 0, none⟩), .int .i64 most] w fun e w' => e = .returned (.int .i64 ((rNum b most s).1 : Nat)) ∧ RdSt w' g A c b (rNum b most s).2 ∧ w.grownBy w' (some g) := by
  obtain ⟨at_, bad⟩ := s
  have c0 := hs.c0
  have c1 := hs.c1
  have c2 := hs.c2
  have f2 := hs.f 2
  have f1 := hs.f 1
  have ht := fun q => (take_any _ b (at_ : Int) (w.drewN q) (hs.2.drewN q) hl).mono (fun _ _ h => (⟨h.1, h.2.symm⟩ : _ ∧ _))
  have hw : IntKind.u64.wrap (most : Int) = (most : Int) := by rw [IntKind.wrap_u64, Int.emod_eq_of_lt (by omega) (by omega)]
  have HS := Lib.hid hs; clear hs
  cases hk : tkAt b (at_ : Int) with
  | none =>
    have hv : rNum b most ⟨at_, bad⟩ = (0, ⟨at_, true⟩) := by unfold rNum; rw [hk]
    rw [hv]
    rw [hk] at ht
    simp only [tkVal] at ht
    clear hk hv
    go_enter Try.func104, Try.ntmps104
    go_wp2_with fail
    go_quiet ((go_at_call 32; exact Calls.quiet_of_same (ht _)))
    have HS2 := Lib.hid ((HS.out.drew nq).setBad true)
    cases bad
    all_goals
      go_wp2_with fail
      go_ret
      exact ⟨rfl, HS2.out, (grown_drew w nq _).trans (only_one _ _ _ _)⟩
  | some p =>
    obtain ⟨n, nx⟩ := p
    rw [hk] at ht
    simp only [tkVal] at ht
    obtain ⟨hn, -, -, hnx, -, -⟩ := tkAt_one b at_ n nx hk
    by_cases hb : bad = true ∨ most < n
    · have hv : rNum b most ⟨at_, bad⟩ = (0, ⟨at_, true⟩) := by unfold rNum; rw [hk]; simp only; rw [if_pos hb]
      rw [hv]
      clear hk hv
      go_enter Try.func104, Try.ntmps104
      go_wp2_with fail
      go_quiet ((go_at_call 32; exact Calls.quiet_of_same (ht _)))
      have HS2 := Lib.hid ((HS.out.drew nq).setBad true)
      cases bad
      · have hb2 : most < n := by simpa using hb
        clear hb
        go_wp2_with fail
        go_ret
        exact ⟨rfl, HS2.out, (grown_drew w nq _).trans (only_one _ _ _ _)⟩
      · clear hb
        go_wp2_with fail
        go_ret
        exact ⟨rfl, HS2.out, (grown_drew w nq _).trans (only_one _ _ _ _)⟩
    · have hv : rNum b most ⟨at_, bad⟩ = (n, ⟨nx, false⟩) := by unfold rNum; rw [hk]; simp only; rw [if_neg hb]
      rw [hv]
      clear hk hv
      have hb1 : bad = false := by cases bad <;> simp_all
      have hb2 : n ≤ most := by
        rcases Nat.lt_or_ge most n with h | h
        · exact absurd (.inr h) hb
        · exact h
      subst hb1
      clear hb
      have hw2 : IntKind.i64.wrap (n : Int) = (n : Int) := IntWalk.i64_in _ (by omega)
      go_enter Try.func104, Try.ntmps104
      go_wp2_with fail
      go_quiet ((go_at_call 32; exact Calls.quiet_of_same (ht _)))
      have HS2 := Lib.hid (((HS.out.drew nq).setBad false).setAt nx)
      go_wp2_with fail
      go_ret
      exact ⟨rfl, HS2.out, ((grown_drew w nq _).trans (only_one _ _ _ _)).trans (only_one _ _ _ _)⟩

theorem rtime_any (g : Nat) (A : Option Addr) (c : Nat) (b : List UInt8) (s : RS) (w : World) (hs : RdSt w g A c b s) (hl : b.length ≤ 140737488355328) :
    Calls Try.prog 92 #[.pointer (some ⟨g, 0, none⟩)] w fun e w' => e = .returned (.int .i64 ((rNum b 1099511627775 s).1 : Nat)) ∧ RdSt w' g A c b (rNum b 1099511627775 s).2 ∧ w.grownBy w' (some g) := by
  have h := rnum_any g A c b s 1099511627775 w hs hl (by omega)
  obtain ⟨N, hN⟩ : ∃ N, N = rNum b 1099511627775 s := ⟨_, rfl⟩
  rw [← hN] at h ⊢
  clear hN
  obtain ⟨n, s'⟩ := N
  go_enter Try.func92, Try.ntmps92
  go_wp2_with fail
  refine h.mono ?_
  rintro e w' ⟨rfl, h1, h2⟩
  have H1 := Lib.hid h1; clear h1
  have H2 := Lib.hid h2; clear h2
  go_wp2_with fail
  go_ret
  exact ⟨rfl, H1.out, H2.out⟩

set_option maxRecDepth 100000 in
set_option maxHeartbeats 1000000 in
theorem rtext_any (g : Nat) (A : Option Addr) (c : Nat) (b : List UInt8) (s : RS) (most : Nat) (w : World) (hs : RdSt w g A c b s) (hl : b.length ≤ 140737488355328) (hm : most < 9223372036854775808) :
    Calls Try.prog 96 #[.pointer (some ⟨g, 0, none⟩), .int .i64 most] w fun e w' => e = .returned (.string (bs (rTxt b most s).1)) ∧ RdSt w' g A c b (rTxt b most s).2 ∧ w.grownBy w' (some g) := by
  obtain ⟨at_, bad⟩ := s
  have c0 := hs.c0
  have c1 := hs.c1
  have c2 := hs.c2
  have f2 := hs.f 2
  have f1 := hs.f 1
  have ht := fun q => (takeText_any _ b (at_ : Int) (most : Int) (w.drewN q) (hs.2.drewN q) hl (by omega) (by omega)).mono (fun _ _ h => (⟨h.1, h.2.symm⟩ : _ ∧ _))
  have HS := Lib.hid hs; clear hs
  have htx : ttAt b (at_ : Int) (most : Int) = txAt b at_ most := rfl
  rw [htx] at ht
  cases hk : txAt b (at_ : Int) (most : Int) with
  | none =>
    have hv : rTxt b most ⟨at_, bad⟩ = ([], ⟨at_, true⟩) := by unfold rTxt; rw [hk]
    rw [hv]
    rw [hk] at ht
    simp only [ttVal] at ht
    clear hk hv htx
    go_enter Try.func96, Try.ntmps96
    go_wp2_with fail
    go_quiet ((go_at_call 34; exact Calls.quiet_of_same (ht _)))
    have HS2 := Lib.hid ((HS.out.drew nq).setBad true)
    cases bad
    all_goals
      go_wp2_with fail
      go_ret
      exact ⟨rfl, HS2.out, (grown_drew w nq _).trans (only_one _ _ _ _)⟩
  | some p =>
    obtain ⟨t, nx⟩ := p
    rw [hk] at ht
    simp only [ttVal] at ht
    cases hb : bad with
    | true =>
      subst hb
      have hv : rTxt b most ⟨at_, true⟩ = ([], ⟨at_, true⟩) := by unfold rTxt; rw [hk]; simp
      rw [hv]
      clear hk hv htx
      go_enter Try.func96, Try.ntmps96
      go_wp2_with fail
      go_quiet ((go_at_call 34; exact Calls.quiet_of_same (ht _)))
      have HS2 := Lib.hid ((HS.out.drew nq).setBad true)
      go_wp2_with fail
      go_ret
      exact ⟨rfl, HS2.out, (grown_drew w nq _).trans (only_one _ _ _ _)⟩
    | false =>
      subst hb
      have hv : rTxt b most ⟨at_, false⟩ = (t, ⟨nx, false⟩) := by unfold rTxt; rw [hk]; simp
      rw [hv]
      clear hk hv htx
      go_enter Try.func96, Try.ntmps96
      go_wp2_with fail
      go_quiet ((go_at_call 34; exact Calls.quiet_of_same (ht _)))
      have HS2 := Lib.hid (((HS.out.drew nq).setBad false).setAt nx)
      go_wp2_with fail
      go_ret
      exact ⟨rfl, HS2.out, ((grown_drew w nq _).trans (only_one _ _ _ _)).trans (only_one _ _ _ _)⟩

end Go.Proofs.Ytggjipfdfpdecaa
/- The walk of record's reader's flag. -/
namespace Go.Proofs.Ytggjipfdfpdecaa
open Go.RowKit
attribute [local go_sem] bs_list bs_size

theorem wpStill_want {P : Program} {ops : Array Oper} {w : World} {Q : Act → Prop} {a : Act} {o : Oper} {rest : List Oper} (hw : Region.wanted o (yielded ops a.tmps) = true) (h : ∀ K : Act → Prop, (∀ a, wpStill P ops w Q rest a → K a) → o.still P a w K) : wpStill P ops w Q (o :: rest) a :=
  wpStill_step fun K hK => by rw [if_pos hw]; exact h K hK
theorem wpStill_skip {P : Program} {ops : Array Oper} {w : World} {Q : Act → Prop} {a : Act} {o : Oper} {rest : List Oper} (hw : Region.wanted o (yielded ops a.tmps) = false) (h : wpStill P ops w Q rest (a.put o.dst undef)) : wpStill P ops w Q (o :: rest) a :=
  wpStill_step fun K hK => by rw [if_neg (by rw [hw]; exact Bool.false_ne_true)]; exact hK _ h

attribute [local irreducible] wpStill
set_option maxRecDepth 100000 in
set_option maxHeartbeats 1000000 in
theorem rflag_any (g : Nat) (A : Option Addr) (c : Nat) (b : List UInt8) (s : RS) (w : World) (hs : RdSt w g A c b s) (hl : b.length ≤ 140737488355328) (ha : s.at_ ≤ 140737488355328) :
    Calls Try.prog 95 #[.pointer (some ⟨g, 0, none⟩)] w fun e w' => e = .returned (.bool (rFlag b s).1) ∧ RdSt w' g A c b (rFlag b s).2 ∧ w.grownBy w' (some g) := by
  obtain ⟨at_, bad⟩ := s
  simp only at ha
  have c0 := hs.c0
  have c1 := hs.c1
  have c2 := hs.c2
  have f2 := hs.f 2
  have f1 := hs.f 1
  have HS := Lib.hid hs; clear hs
  cases hb : bad with
  | true =>
    subst hb
    have hv : rFlag b ⟨at_, true⟩ = (false, ⟨at_, true⟩) := by unfold rFlag; cases b[at_]? <;> simp
    rw [hv]
    clear hv
    go_enter Try.func95, Try.ntmps95
    go_wp2_with fail
    refine wp_region_still_tail 30 (by kernel_rfl) (by kernel_rfl) ?_
    simp only [List.take_succ_cons, List.take_zero, List.drop_succ_cons, List.drop_zero]
    refine wpStill_want (by kernel_rfl) (fun K hK => ?_)
    go_simp
    refine hK _ ?_
    clear hK K
    refine wpStill_want (by kernel_rfl) (fun K hK => ?_)
    go_simp
    refine hK _ ?_
    clear hK K
    refine wpStill_want (by kernel_rfl) (fun K hK => ?_)
    go_simp
    refine hK _ ?_
    clear hK K
    refine wpStill_want (by kernel_rfl) (fun K hK => ?_)
    go_simp
    refine hK _ ?_
    clear hK K
    refine wpStill_want (by kernel_rfl) (fun K hK => ?_)
    go_simp
    refine hK _ ?_
    clear hK K
    refine wpStill_want (by kernel_rfl) (fun K hK => ?_)
    go_simp
    refine hK _ ?_
    clear hK K
    refine wpStill_skip (by rfl) ?_
    try simp only [Act.put, List.setIfInBounds_toArray, List.set_cons_zero, List.set_cons_succ]
    refine wpStill_skip (by rfl) ?_
    try simp only [Act.put, List.setIfInBounds_toArray, List.set_cons_zero, List.set_cons_succ]
    refine wpStill_skip (by rfl) ?_
    try simp only [Act.put, List.setIfInBounds_toArray, List.set_cons_zero, List.set_cons_succ]
    refine wpStill_skip (by rfl) ?_
    try simp only [Act.put, List.setIfInBounds_toArray, List.set_cons_zero, List.set_cons_succ]
    refine wpStill_skip (by rfl) ?_
    try simp only [Act.put, List.setIfInBounds_toArray, List.set_cons_zero, List.set_cons_succ]
    refine wpStill_skip (by rfl) ?_
    try simp only [Act.put, List.setIfInBounds_toArray, List.set_cons_zero, List.set_cons_succ]
    refine wpStill_skip (by rfl) ?_
    try simp only [Act.put, List.setIfInBounds_toArray, List.set_cons_zero, List.set_cons_succ]
    refine wpStill_skip (by rfl) ?_
    try simp only [Act.put, List.setIfInBounds_toArray, List.set_cons_zero, List.set_cons_succ]
    refine wpStill_skip (by rfl) ?_
    try simp only [Act.put, List.setIfInBounds_toArray, List.set_cons_zero, List.set_cons_succ]
    refine wpStill_skip (by rfl) ?_
    try simp only [Act.put, List.setIfInBounds_toArray, List.set_cons_zero, List.set_cons_succ]
    refine wpStill_want (by kernel_rfl) (fun K hK => ?_)
    go_simp
    refine hK _ ?_
    clear hK K
    refine wpStill_want (by kernel_rfl) (fun K hK => ?_)
    go_simp
    refine hK _ ?_
    clear hK K
    refine wpStill_skip (by rfl) ?_
    try simp only [Act.put, List.setIfInBounds_toArray, List.set_cons_zero, List.set_cons_succ]
    refine wpStill_skip (by rfl) ?_
    try simp only [Act.put, List.setIfInBounds_toArray, List.set_cons_zero, List.set_cons_succ]
    refine wpStill_skip (by rfl) ?_
    try simp only [Act.put, List.setIfInBounds_toArray, List.set_cons_zero, List.set_cons_succ]
    refine wpStill_skip (by rfl) ?_
    try simp only [Act.put, List.setIfInBounds_toArray, List.set_cons_zero, List.set_cons_succ]
    refine wpStill_skip (by rfl) ?_
    try simp only [Act.put, List.setIfInBounds_toArray, List.set_cons_zero, List.set_cons_succ]
    refine wpStill_skip (by rfl) ?_
    try simp only [Act.put, List.setIfInBounds_toArray, List.set_cons_zero, List.set_cons_succ]
    refine wpStill_skip (by rfl) ?_
    try simp only [Act.put, List.setIfInBounds_toArray, List.set_cons_zero, List.set_cons_succ]
    refine wpStill_skip (by rfl) ?_
    try simp only [Act.put, List.setIfInBounds_toArray, List.set_cons_zero, List.set_cons_succ]
    refine wpStill_skip (by rfl) ?_
    try simp only [Act.put, List.setIfInBounds_toArray, List.set_cons_zero, List.set_cons_succ]
    refine wpStill_skip (by rfl) ?_
    try simp only [Act.put, List.setIfInBounds_toArray, List.set_cons_zero, List.set_cons_succ]
    refine wpStill_skip (by rfl) ?_
    try simp only [Act.put, List.setIfInBounds_toArray, List.set_cons_zero, List.set_cons_succ]
    refine wpStill_want (by kernel_rfl) (fun K hK => ?_)
    go_simp
    refine hK _ ?_
    clear hK K
    refine wpStill_nil ?_
    change wpList _ _ _ _ _ (World.drew _)
    have HS2 := Lib.hid ((HS.out.drew 1).setBad true)
    go_wp2_with fail
    go_ret
    exact ⟨rfl, HS2.out, (grown_drew w 1 _).trans (only_one _ _ _ _)⟩
  | false =>
    subst hb
    cases hx : b[at_]? with
    | none =>
      have hv : rFlag b ⟨at_, false⟩ = (false, ⟨at_, true⟩) := by unfold rFlag; rw [hx]
      rw [hv]
      have hla : b.length ≤ at_ := List.getElem?_eq_none_iff.1 hx
      have t1 : decide (b.length ≤ at_) = true := by simp; omega
      clear hv hx
      go_enter Try.func95, Try.ntmps95
      go_wp2_with fail
      refine wp_region_still_tail 30 (by kernel_rfl) (by kernel_rfl) ?_
      simp only [List.take_succ_cons, List.take_zero, List.drop_succ_cons, List.drop_zero]
      refine wpStill_want (by kernel_rfl) (fun K hK => ?_)
      go_simp
      refine hK _ ?_
      clear hK K
      refine wpStill_want (by kernel_rfl) (fun K hK => ?_)
      go_simp
      refine hK _ ?_
      clear hK K
      refine wpStill_want (by kernel_rfl) (fun K hK => ?_)
      go_simp
      refine hK _ ?_
      clear hK K
      refine wpStill_want (by kernel_rfl) (fun K hK => ?_)
      go_simp
      refine hK _ ?_
      clear hK K
      refine wpStill_want (by kernel_rfl) (fun K hK => ?_)
      go_simp
      refine hK _ ?_
      clear hK K
      refine wpStill_want (by kernel_rfl) (fun K hK => ?_)
      go_simp
      refine hK _ ?_
      clear hK K
      refine wpStill_want (by kernel_rfl) (fun K hK => ?_)
      go_simp
      refine hK _ ?_
      clear hK K
      refine wpStill_want (by kernel_rfl) (fun K hK => ?_)
      go_simp
      refine hK _ ?_
      clear hK K
      refine wpStill_want (by kernel_rfl) (fun K hK => ?_)
      go_simp
      refine hK _ ?_
      clear hK K
      refine wpStill_want (by kernel_rfl) (fun K hK => ?_)
      go_simp
      refine hK _ ?_
      clear hK K
      refine wpStill_want (by kernel_rfl) (fun K hK => ?_)
      go_simp
      refine hK _ ?_
      clear hK K
      refine wpStill_want (by kernel_rfl) (fun K hK => ?_)
      go_simp
      refine hK _ ?_
      clear hK K
      refine wpStill_want (by kernel_rfl) (fun K hK => ?_)
      go_simp
      refine hK _ ?_
      clear hK K
      refine wpStill_want (by kernel_rfl) (fun K hK => ?_)
      go_simp
      refine hK _ ?_
      clear hK K
      refine wpStill_want (by kernel_rfl) (fun K hK => ?_)
      go_simp
      refine hK _ ?_
      clear hK K
      refine wpStill_want (by kernel_rfl) (fun K hK => ?_)
      go_simp
      refine hK _ ?_
      clear hK K
      refine wpStill_want (by kernel_rfl) (fun K hK => ?_)
      go_simp
      refine hK _ ?_
      clear hK K
      refine wpStill_want (by kernel_rfl) (fun K hK => ?_)
      go_simp
      refine hK _ ?_
      clear hK K
      refine wpStill_skip (by rfl) ?_
      try simp only [Act.put, List.setIfInBounds_toArray, List.set_cons_zero, List.set_cons_succ]
      refine wpStill_skip (by rfl) ?_
      try simp only [Act.put, List.setIfInBounds_toArray, List.set_cons_zero, List.set_cons_succ]
      refine wpStill_skip (by rfl) ?_
      try simp only [Act.put, List.setIfInBounds_toArray, List.set_cons_zero, List.set_cons_succ]
      refine wpStill_skip (by rfl) ?_
      try simp only [Act.put, List.setIfInBounds_toArray, List.set_cons_zero, List.set_cons_succ]
      refine wpStill_skip (by rfl) ?_
      try simp only [Act.put, List.setIfInBounds_toArray, List.set_cons_zero, List.set_cons_succ]
      refine wpStill_skip (by rfl) ?_
      try simp only [Act.put, List.setIfInBounds_toArray, List.set_cons_zero, List.set_cons_succ]
      refine wpStill_skip (by rfl) ?_
      try simp only [Act.put, List.setIfInBounds_toArray, List.set_cons_zero, List.set_cons_succ]
      refine wpStill_skip (by rfl) ?_
      try simp only [Act.put, List.setIfInBounds_toArray, List.set_cons_zero, List.set_cons_succ]
      refine wpStill_skip (by rfl) ?_
      try simp only [Act.put, List.setIfInBounds_toArray, List.set_cons_zero, List.set_cons_succ]
      refine wpStill_skip (by rfl) ?_
      try simp only [Act.put, List.setIfInBounds_toArray, List.set_cons_zero, List.set_cons_succ]
      refine wpStill_skip (by rfl) ?_
      try simp only [Act.put, List.setIfInBounds_toArray, List.set_cons_zero, List.set_cons_succ]
      refine wpStill_want (by kernel_rfl) (fun K hK => ?_)
      go_simp
      refine hK _ ?_
      clear hK K
      refine wpStill_nil ?_
      change wpList _ _ _ _ _ (World.drew _)
      have HS2 := Lib.hid ((HS.out.drew 1).setBad true)
      go_wp2_with fail
      go_ret
      exact ⟨rfl, HS2.out, (grown_drew w 1 _).trans (only_one _ _ _ _)⟩
    | some x =>
      have hlt : at_ < b.length := (List.getElem?_eq_some_iff.1 hx).1
      have hxe : b[at_] = x := (List.getElem?_eq_some_iff.1 hx).2
      have t1 : decide (b.length ≤ at_) = false := by simp; omega
      obtain ⟨A', c', he, _, hcm, hcell⟩ := HS.out.2
      obtain ⟨ad, hA, hcells⟩ := hcell (by omega)
      have hcx := hcells at_ hlt
      rw [hxe, bv_nat] at hcx
      injection he with e1 e2 e3
      subst e1 hA
      clear hcells hcell e2 e3
      by_cases hx1 : 1 < x.toNat
      · have hv : rFlag b ⟨at_, false⟩ = (false, ⟨at_, true⟩) := by unfold rFlag; rw [hx]; simp [hx1]
        rw [hv]
        have t2 : decide ((1 : Int) < (x.toNat : Int)) = true := by simp; omega
        clear hv hx
        go_enter Try.func95, Try.ntmps95
        go_wp2_with fail
        refine wp_region_still_tail 30 (by kernel_rfl) (by kernel_rfl) ?_
        simp only [List.take_succ_cons, List.take_zero, List.drop_succ_cons, List.drop_zero]
        refine wpStill_want (by kernel_rfl) (fun K hK => ?_)
        go_simp
        refine hK _ ?_
        clear hK K
        refine wpStill_want (by kernel_rfl) (fun K hK => ?_)
        go_simp
        refine hK _ ?_
        clear hK K
        refine wpStill_want (by kernel_rfl) (fun K hK => ?_)
        go_simp
        refine hK _ ?_
        clear hK K
        refine wpStill_want (by kernel_rfl) (fun K hK => ?_)
        go_simp
        refine hK _ ?_
        clear hK K
        refine wpStill_want (by kernel_rfl) (fun K hK => ?_)
        go_simp
        refine hK _ ?_
        clear hK K
        refine wpStill_want (by kernel_rfl) (fun K hK => ?_)
        go_simp
        refine hK _ ?_
        clear hK K
        refine wpStill_want (by kernel_rfl) (fun K hK => ?_)
        go_simp
        refine hK _ ?_
        clear hK K
        refine wpStill_want (by kernel_rfl) (fun K hK => ?_)
        go_simp
        refine hK _ ?_
        clear hK K
        refine wpStill_want (by kernel_rfl) (fun K hK => ?_)
        go_simp
        refine hK _ ?_
        clear hK K
        refine wpStill_want (by kernel_rfl) (fun K hK => ?_)
        go_simp
        refine hK _ ?_
        clear hK K
        refine wpStill_want (by kernel_rfl) (fun K hK => ?_)
        go_simp
        refine hK _ ?_
        clear hK K
        refine wpStill_want (by kernel_rfl) (fun K hK => ?_)
        go_simp
        refine hK _ ?_
        clear hK K
        refine wpStill_want (by kernel_rfl) (fun K hK => ?_)
        go_simp
        refine hK _ ?_
        clear hK K
        refine wpStill_want (by kernel_rfl) (fun K hK => ?_)
        go_simp
        refine hK _ ?_
        clear hK K
        refine wpStill_want (by kernel_rfl) (fun K hK => ?_)
        go_simp
        refine hK _ ?_
        clear hK K
        refine wpStill_want (by kernel_rfl) (fun K hK => ?_)
        go_simp
        refine hK _ ?_
        clear hK K
        refine wpStill_want (by kernel_rfl) (fun K hK => ?_)
        go_simp
        refine hK _ ?_
        clear hK K
        refine wpStill_want (by kernel_rfl) (fun K hK => ?_)
        go_simp
        refine hK _ ?_
        clear hK K
        refine wpStill_want (by kernel_rfl) (fun K hK => ?_)
        go_simp
        refine hK _ ?_
        clear hK K
        refine wpStill_want (by kernel_rfl) (fun K hK => ?_)
        go_simp
        refine hK _ ?_
        clear hK K
        refine wpStill_want (by kernel_rfl) (fun K hK => ?_)
        go_simp
        refine hK _ ?_
        clear hK K
        refine wpStill_want (by kernel_rfl) (fun K hK => ?_)
        go_simp
        refine hK _ ?_
        clear hK K
        refine wpStill_want (by kernel_rfl) (fun K hK => ?_)
        go_simp
        refine hK _ ?_
        clear hK K
        refine wpStill_want (by kernel_rfl) (fun K hK => ?_)
        go_simp
        refine hK _ ?_
        clear hK K
        refine wpStill_want (by kernel_rfl) (fun K hK => ?_)
        go_simp
        refine hK _ ?_
        clear hK K
        refine wpStill_want (by kernel_rfl) (fun K hK => ?_)
        go_simp
        refine hK _ ?_
        clear hK K
        refine wpStill_want (by kernel_rfl) (fun K hK => ?_)
        go_simp
        refine hK _ ?_
        clear hK K
        refine wpStill_want (by kernel_rfl) (fun K hK => ?_)
        go_simp
        refine hK _ ?_
        clear hK K
        refine wpStill_want (by kernel_rfl) (fun K hK => ?_)
        go_simp
        refine hK _ ?_
        clear hK K
        refine wpStill_want (by kernel_rfl) (fun K hK => ?_)
        go_simp
        refine hK _ ?_
        clear hK K
        refine wpStill_nil ?_
        change wpList _ _ _ _ _ (World.drew _)
        have HS2 := Lib.hid ((HS.out.drew 1).setBad true)
        go_wp2_with fail
        go_ret
        exact ⟨rfl, HS2.out, (grown_drew w 1 _).trans (only_one _ _ _ _)⟩
      · have hv : rFlag b ⟨at_, false⟩ = (x == 1, ⟨at_ + 1, false⟩) := by unfold rFlag; rw [hx]; simp [hx1]
        rw [hv]
        have t2 : decide ((1 : Int) < (x.toNat : Int)) = false := by simp; omega
        clear hv hx
        go_enter Try.func95, Try.ntmps95
        go_wp2_with fail
        refine wp_region_still_tail 30 (by kernel_rfl) (by kernel_rfl) ?_
        simp only [List.take_succ_cons, List.take_zero, List.drop_succ_cons, List.drop_zero]
        refine wpStill_want (by kernel_rfl) (fun K hK => ?_)
        go_simp
        refine hK _ ?_
        clear hK K
        refine wpStill_want (by kernel_rfl) (fun K hK => ?_)
        go_simp
        refine hK _ ?_
        clear hK K
        refine wpStill_want (by kernel_rfl) (fun K hK => ?_)
        go_simp
        refine hK _ ?_
        clear hK K
        refine wpStill_want (by kernel_rfl) (fun K hK => ?_)
        go_simp
        refine hK _ ?_
        clear hK K
        refine wpStill_want (by kernel_rfl) (fun K hK => ?_)
        go_simp
        refine hK _ ?_
        clear hK K
        refine wpStill_want (by kernel_rfl) (fun K hK => ?_)
        go_simp
        refine hK _ ?_
        clear hK K
        refine wpStill_want (by kernel_rfl) (fun K hK => ?_)
        go_simp
        refine hK _ ?_
        clear hK K
        refine wpStill_want (by kernel_rfl) (fun K hK => ?_)
        go_simp
        refine hK _ ?_
        clear hK K
        refine wpStill_want (by kernel_rfl) (fun K hK => ?_)
        go_simp
        refine hK _ ?_
        clear hK K
        refine wpStill_want (by kernel_rfl) (fun K hK => ?_)
        go_simp
        refine hK _ ?_
        clear hK K
        refine wpStill_want (by kernel_rfl) (fun K hK => ?_)
        go_simp
        refine hK _ ?_
        clear hK K
        refine wpStill_want (by kernel_rfl) (fun K hK => ?_)
        go_simp
        refine hK _ ?_
        clear hK K
        refine wpStill_want (by kernel_rfl) (fun K hK => ?_)
        go_simp
        refine hK _ ?_
        clear hK K
        refine wpStill_want (by kernel_rfl) (fun K hK => ?_)
        go_simp
        refine hK _ ?_
        clear hK K
        refine wpStill_want (by kernel_rfl) (fun K hK => ?_)
        go_simp
        refine hK _ ?_
        clear hK K
        refine wpStill_want (by kernel_rfl) (fun K hK => ?_)
        go_simp
        refine hK _ ?_
        clear hK K
        refine wpStill_want (by kernel_rfl) (fun K hK => ?_)
        go_simp
        refine hK _ ?_
        clear hK K
        refine wpStill_want (by kernel_rfl) (fun K hK => ?_)
        go_simp
        refine hK _ ?_
        clear hK K
        refine wpStill_want (by kernel_rfl) (fun K hK => ?_)
        go_simp
        refine hK _ ?_
        clear hK K
        refine wpStill_want (by kernel_rfl) (fun K hK => ?_)
        go_simp
        refine hK _ ?_
        clear hK K
        refine wpStill_want (by kernel_rfl) (fun K hK => ?_)
        go_simp
        refine hK _ ?_
        clear hK K
        refine wpStill_want (by kernel_rfl) (fun K hK => ?_)
        go_simp
        refine hK _ ?_
        clear hK K
        refine wpStill_want (by kernel_rfl) (fun K hK => ?_)
        go_simp
        refine hK _ ?_
        clear hK K
        refine wpStill_want (by kernel_rfl) (fun K hK => ?_)
        go_simp
        refine hK _ ?_
        clear hK K
        refine wpStill_want (by kernel_rfl) (fun K hK => ?_)
        go_simp
        refine hK _ ?_
        clear hK K
        refine wpStill_want (by kernel_rfl) (fun K hK => ?_)
        go_simp
        refine hK _ ?_
        clear hK K
        refine wpStill_want (by kernel_rfl) (fun K hK => ?_)
        go_simp
        refine hK _ ?_
        clear hK K
        refine wpStill_want (by kernel_rfl) (fun K hK => ?_)
        go_simp
        refine hK _ ?_
        clear hK K
        refine wpStill_want (by kernel_rfl) (fun K hK => ?_)
        go_simp
        refine hK _ ?_
        clear hK K
        refine wpStill_want (by kernel_rfl) (fun K hK => ?_)
        go_simp
        refine hK _ ?_
        clear hK K
        refine wpStill_nil ?_
        change wpList _ _ _ _ _ (World.drew _)
        have HS2 := Lib.hid (((HS.out.drew 1).setBad false).setAt (at_ + 1))
        have hw1 : IntKind.i64.wrap ((at_ : Int) + 1) = ((at_ + 1 : Nat) : Int) := by rw [IntWalk.i64_in _ (by omega)]; omega
        have hq : (((w.drewN 1).setCell ⟨g, 2, none⟩ (.bool false)).setCell ⟨g, 1, none⟩ (.int .i64 ((at_ + 1 : Nat) : Int))).cell? (ad.add at_) = some (.int .u8 (x.toNat : Int)) := by
          obtain ⟨A5, c5, he5, _, _, hcell5⟩ := HS2.out.2
          obtain ⟨ad5, hA5, hcells5⟩ := hcell5 (by omega)
          injection he5 with e6 e7 e8
          subst e6
          injection hA5 with hA5
          subst hA5
          have := hcells5 at_ (by omega)
          rwa [hxe, bv_nat] at this
        have HQ := Lib.hid hq; clear hq hxe
        go_upto_region 4 with fail
        go_cut [2] (fun v2 wx => v2 = .bool false ∧ Hid (RdSt wx g (some ad) c b ⟨at_ + 1, false⟩) ∧ Hid (w.grownBy wx (some g)) ∧ wx.cell? (ad.add at_) = some (.int .u8 (x.toNat : Int)))
        case first =>
          go_wp2_with fail
          go_meet
          exact ⟨rfl, HS2, Lib.hid (((grown_drew w 1 _).trans (only_one _ _ _ _)).trans (only_one _ _ _ _)), HQ.out⟩
        case rest =>
          obtain ⟨rfl, H1, H2, hcx2⟩ := hcut
          have d0 := H1.out.c0
          have d1 := H1.out.c1
          simp only at d1
          have e1 : ((at_ + 1 : Nat) : Int) - 1 = (at_ : Int) := by omega
          have e2 : (at_ : Int) + 1 - 1 = (at_ : Int) := by omega
          go_wp2_with fail
          go_quiet (fail)
          go_wp2_with fail
          go_ret
          refine ⟨ret_bool ?_, H1.out.drew _, H2.out.trans (grown_drew _ _ _)⟩
          rw [Bool.eq_iff_iff, beq_iff_eq, beq_iff_eq]
          constructor
          · intro h
            apply UInt8.toNat_inj.1
            show x.toNat = 1
            omega
          · intro h
            rw [h]
            rfl
end Go.Proofs.Ytggjipfdfpdecaa
/- The walks of the document's reader: a number, a text, a flag, the end. -/
set_option linter.unusedVariables false
namespace Go.Proofs.Ytggjipfdfpdecaa
open Go.RowKit
attribute [local go_sem] bs_list bs_size

/-- The document's reader in block g: no fault so far; a fault. -/
def RfC (w : World) (g : Nat) (A : Option Addr) (c : Nat) (b : List UInt8) (a bd : Int) : Prop :=
  w.heap[g]? = some (.cells #[.slice A b.length c, .int .i64 a, .int .i64 bd] 125 (0, 0)) ∧ RdB w (.slice A b.length c) b
def RfSt (w : World) (g : Nat) (A : Option Addr) (c : Nat) (b : List UInt8) (s : RS) : Prop :=
  (s.bad = false ∧ RfC w g A c b s.at_ (-1)) ∨ (s.bad = true ∧ ∃ a : Nat, a ≤ 140737488355328 ∧ RfC w g A c b a s.at_)
theorem noByte_rf (v : Value) (hv : ∀ x : UInt8, v ≠ bv x) (n p : Int) : NoByte #[v, .int .i64 n, .int .i64 p] := by
  intro i u h x
  match i, h with
  | 0, h => simp at h; rw [← h]; exact hv x
  | 1, h => simp at h; rw [← h]; simp [bv]
  | 2, h => simp at h; rw [← h]; simp [bv]
  | i + 3, h => simp at h
section
variable {w w' : World} {g : Nat} {A : Option Addr} {c : Nat} {b : List UInt8} {a bd : Int}
theorem RfC.c0 (h : RfC w g A c b a bd) : w.cell? ⟨g, 0, none⟩ = some (.slice A b.length c) := by rw [cell_of_row w g 0 _ 125 (0, 0) h.1]; rfl
theorem RfC.c1 (h : RfC w g A c b a bd) : w.cell? ⟨g, 1, none⟩ = some (.int .i64 a) := by rw [cell_of_row w g 1 _ 125 (0, 0) h.1]; rfl
theorem RfC.c2 (h : RfC w g A c b a bd) : w.cell? ⟨g, 2, none⟩ = some (.int .i64 bd) := by rw [cell_of_row w g 2 _ 125 (0, 0) h.1]; rfl
theorem RfC.f (h : RfC w g A c b a bd) (i : Nat) : w.frozen? ⟨g, i, none⟩ = false := by have := h.1; simp [World.frozen?, this]
theorem RfC.drew (h : RfC w g A c b a bd) (n : Nat) : RfC (w.drewN n) g A c b a bd := ⟨h.1, h.2.drewN n⟩
theorem RfC.setBad (h : RfC w g A c b a bd) (p : Int) : RfC (w.setCell ⟨g, 2, none⟩ (.int .i64 p)) g A c b a p :=
  ⟨set_at h.1 2 _, h.2.far h.1 (noByte_rf _ (slice_bv _ _ _) _ _) (only_one _ _ _ _)⟩
theorem RfC.setAt (h : RfC w g A c b a bd) (n : Int) : RfC (w.setCell ⟨g, 1, none⟩ (.int .i64 n)) g A c b n bd :=
  ⟨set_at h.1 1 _, h.2.far h.1 (noByte_rf _ (slice_bv _ _ _) _ _) (only_one _ _ _ _)⟩
end
theorem RfSt.drew {w : World} {g : Nat} {A : Option Addr} {c : Nat} {b : List UInt8} {s : RS} (h : RfSt w g A c b s) (n : Nat) : RfSt (w.drewN n) g A c b s := by
  rcases h with ⟨h1, h2⟩ | ⟨h1, a, h3, h2⟩
  · exact .inl ⟨h1, h2.drew n⟩
  · exact .inr ⟨h1, a, h3, h2.drew n⟩
theorem RfSt.keep {w w' : World} {g : Nat} {A : Option Addr} {c : Nat} {b : List UInt8} {s : RS} (h : RfSt w g A c b s) (hb : Below w.heap.size w w') : RfSt w' g A c b s := by
  rcases h with ⟨h1, h2⟩ | ⟨h1, a, h3, h2⟩
  · exact .inl ⟨h1, heap_below h2.1 hb, h2.2.below hb⟩
  · exact .inr ⟨h1, a, h3, heap_below h2.1 hb, h2.2.below hb⟩

set_option maxHeartbeats 400000 in
theorem wrong_any (g : Nat) (A : Option Addr) (c : Nat) (b : List UInt8) (s : RS) (w : World) (hs : RfSt w g A c b s) (ha : s.at_ ≤ 140737488355328) :
    Calls Try.prog 125 #[.pointer (some ⟨g, 0, none⟩)] w fun e w' => e = .returned (.tuple #[]) ∧ RfSt w' g A c b ⟨s.at_, true⟩ ∧ w.grownBy w' (some g) := by
  obtain ⟨at_, bad⟩ := s
  simp only at ha
  rcases hs with ⟨h1, h2⟩ | ⟨h1, a, h3, h2⟩
  · simp only at h1 h2
    have c1 := h2.c1
    have c2 := h2.c2
    have f2 := h2.f 2
    have HS := Lib.hid h2; clear h2 h1
    go_enter Try.func125, Try.ntmps125
    go_wp2_with fail
    go_end0
    exact ⟨rfl, .inr ⟨rfl, at_, ha, HS.out.setBad _⟩, only_one _ _ _ _⟩
  · simp only at h1 h2
    have c1 := h2.c1
    have c2 := h2.c2
    have f2 := h2.f 2
    have HS := Lib.hid h2; clear h2 h1
    go_enter Try.func125, Try.ntmps125
    go_wp2_with fail
    go_end0
    exact ⟨rfl, .inr ⟨rfl, a, h3, HS.out⟩, World.grownBy.refl _ _⟩

set_option maxRecDepth 100000 in
set_option maxHeartbeats 1000000 in
theorem fnum_any (g : Nat) (A : Option Addr) (c : Nat) (b : List UInt8) (s : RS) (most : Nat) (w : World) (hs : RfSt w g A c b s) (hl : b.length ≤ 140737488355328) (hm : most < 9223372036854775808) (ha : s.at_ ≤ 140737488355328) :
    Calls Try.prog 98 #[.pointer (some ⟨g, 0, none⟩), .int .i64 most] w fun e w' => e = .returned (.int .i64 ((rNum b most s).1 : Nat)) ∧ RfSt w' g A c b (rNum b most s).2 ∧ w.grownBy w' (some g) := by
  obtain ⟨at_, bad⟩ := s
  simp only at ha
  have hw : IntKind.u64.wrap (most : Int) = (most : Int) := by rw [IntKind.wrap_u64, Int.emod_eq_of_lt (by omega) (by omega)]
  rcases hs with ⟨h1, h2⟩ | ⟨h1, a, h3, h2⟩
  · simp only at h1 h2
    subst h1
    have c0 := h2.c0
    have c1 := h2.c1
    have c2 := h2.c2
    have f2 := h2.f 2
    have f1 := h2.f 1
    have ht := fun q => (refTake_any _ b (at_ : Int) (w.drewN q) (h2.2.drewN q) hl).mono (fun _ _ h => (⟨h.1, h.2.symm⟩ : _ ∧ _))
    have HS := Lib.hid h2; clear h2
    cases hk : tkAt b (at_ : Int) with
    | none =>
      have hv : rNum b most ⟨at_, false⟩ = (0, ⟨at_, true⟩) := by unfold rNum; rw [hk]
      rw [hv]
      rw [hk] at ht
      simp only [tkVal] at ht
      clear hk hv
      go_enter Try.func98, Try.ntmps98
      go_wp2_with fail
      go_quiet ((go_at_call 33; exact Calls.quiet_of_same (ht _)))
      go_wp2_with fail
      refine (wrong_any g A c b ⟨at_, false⟩ _ (.inl ⟨rfl, HS.out.drew nq⟩) ha).mono ?_
      rintro e w' ⟨rfl, h1, h2⟩
      have H1 := Lib.hid h1; clear h1
      have H2 := Lib.hid ((grown_drew w nq _).trans h2); clear h2
      go_wp2_with fail
      go_ret
      exact ⟨rfl, H1.out, H2.out⟩
    | some p =>
      obtain ⟨n, nx⟩ := p
      rw [hk] at ht
      simp only [tkVal] at ht
      obtain ⟨hn, -, -, hnx, -, -⟩ := tkAt_one b at_ n nx hk
      by_cases hb : most < n
      · have hv : rNum b most ⟨at_, false⟩ = (0, ⟨at_, true⟩) := by unfold rNum; rw [hk]; simp only; rw [if_pos (.inr hb)]
        rw [hv]
        clear hk hv
        go_enter Try.func98, Try.ntmps98
        go_wp2_with fail
        go_quiet ((go_at_call 33; exact Calls.quiet_of_same (ht _)))
        go_wp2_with fail
        refine (wrong_any g A c b ⟨at_, false⟩ _ (.inl ⟨rfl, HS.out.drew nq⟩) ha).mono ?_
        rintro e w' ⟨rfl, h1, h2⟩
        have H1 := Lib.hid h1; clear h1
        have H2 := Lib.hid ((grown_drew w nq _).trans h2); clear h2
        go_wp2_with fail
        go_ret
        exact ⟨rfl, H1.out, H2.out⟩
      · have hv : rNum b most ⟨at_, false⟩ = (n, ⟨nx, false⟩) := by unfold rNum; rw [hk]; simp only; rw [if_neg (by simp; omega)]
        rw [hv]
        clear hk hv
        have hw2 : IntKind.i64.wrap (n : Int) = (n : Int) := IntWalk.i64_in _ (by omega)
        go_enter Try.func98, Try.ntmps98
        go_wp2_with fail
        go_quiet ((go_at_call 33; exact Calls.quiet_of_same (ht _)))
        have HS2 := Lib.hid ((HS.out.drew nq).setAt nx)
        go_wp2_with fail
        go_ret
        exact ⟨rfl, .inl ⟨rfl, HS2.out⟩, (grown_drew w nq _).trans (only_one _ _ _ _)⟩
  · simp only at h1 h2
    subst h1
    have hv : rNum b most ⟨at_, true⟩ = (0, ⟨at_, true⟩) := by unfold rNum; cases tkAt b (at_ : Int) <;> simp
    rw [hv]
    clear hv
    have c2 := h2.c2
    have HS := Lib.hid h2; clear h2
    go_enter Try.func98, Try.ntmps98
    go_wp2_with fail
    go_ret
    exact ⟨rfl, .inr ⟨rfl, a, h3, HS.out⟩, World.grownBy.refl _ _⟩

set_option maxRecDepth 100000 in
set_option maxHeartbeats 1000000 in
theorem ftext_any (g : Nat) (A : Option Addr) (c : Nat) (b : List UInt8) (s : RS) (most : Nat) (w : World) (hs : RfSt w g A c b s) (hl : b.length ≤ 140737488355328) (hm : most < 9223372036854775808) (ha : s.at_ ≤ 140737488355328) :
    Calls Try.prog 100 #[.pointer (some ⟨g, 0, none⟩), .int .i64 most] w fun e w' => e = .returned (.string (bs (rTxt b most s).1)) ∧ RfSt w' g A c b (rTxt b most s).2 ∧ w.grownBy w' (some g) := by
  obtain ⟨at_, bad⟩ := s
  simp only at ha
  rcases hs with ⟨h1, h2⟩ | ⟨h1, a, h3, h2⟩
  · simp only at h1 h2
    subst h1
    have c0 := h2.c0
    have c1 := h2.c1
    have c2 := h2.c2
    have f2 := h2.f 2
    have f1 := h2.f 1
    have ht := fun q => (refTakeText_any _ b (at_ : Int) (most : Int) (w.drewN q) (h2.2.drewN q) hl (by omega) (by omega)).mono (fun _ _ h => (⟨h.1, h.2.symm⟩ : _ ∧ _))
    have HS := Lib.hid h2; clear h2
    have htx : ttAt b (at_ : Int) (most : Int) = txAt b at_ most := rfl
    rw [htx] at ht
    cases hk : txAt b (at_ : Int) (most : Int) with
    | none =>
      have hv : rTxt b most ⟨at_, false⟩ = ([], ⟨at_, true⟩) := by unfold rTxt; rw [hk]
      rw [hv]
      rw [hk] at ht
      simp only [ttVal] at ht
      clear hk hv htx
      go_enter Try.func100, Try.ntmps100
      go_wp2_with fail
      go_quiet ((go_at_call 35; exact Calls.quiet_of_same (ht _)))
      go_wp2_with fail
      refine (wrong_any g A c b ⟨at_, false⟩ _ (.inl ⟨rfl, HS.out.drew nq⟩) ha).mono ?_
      rintro e w' ⟨rfl, h1, h2⟩
      have H1 := Lib.hid h1; clear h1
      have H2 := Lib.hid ((grown_drew w nq _).trans h2); clear h2
      go_wp2_with fail
      go_ret
      exact ⟨rfl, H1.out, H2.out⟩
    | some p =>
      obtain ⟨t, nx⟩ := p
      rw [hk] at ht
      simp only [ttVal] at ht
      have hv : rTxt b most ⟨at_, false⟩ = (t, ⟨nx, false⟩) := by unfold rTxt; rw [hk]; simp
      rw [hv]
      clear hk hv htx
      go_enter Try.func100, Try.ntmps100
      go_wp2_with fail
      go_quiet ((go_at_call 35; exact Calls.quiet_of_same (ht _)))
      have HS2 := Lib.hid ((HS.out.drew nq).setAt nx)
      go_wp2_with fail
      go_ret
      exact ⟨rfl, .inl ⟨rfl, HS2.out⟩, (grown_drew w nq _).trans (only_one _ _ _ _)⟩
  · simp only at h1 h2
    subst h1
    have hv : rTxt b most ⟨at_, true⟩ = ([], ⟨at_, true⟩) := by unfold rTxt; cases txAt b (at_ : Int) most <;> simp
    rw [hv]
    clear hv
    have c2 := h2.c2
    have HS := Lib.hid h2; clear h2
    go_enter Try.func100, Try.ntmps100
    go_wp2_with fail
    go_ret
    exact ⟨rfl, .inr ⟨rfl, a, h3, HS.out⟩, World.grownBy.refl _ _⟩
end Go.Proofs.Ytggjipfdfpdecaa
