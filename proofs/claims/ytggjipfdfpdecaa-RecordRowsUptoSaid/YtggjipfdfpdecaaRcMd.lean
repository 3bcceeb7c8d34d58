/- The walk of record's rightManifest, at a pair: the numbers met lie in a map of the call's own. -/
import Derived.Test.YtggjipfdfpdecaaRcMb
import Derived.Maps.OwnSet
import Derived.Maps.Views
set_option linter.unusedVariables false
namespace Go.Proofs.Ytggjipfdfpdecaa
open Go.RowKit Go.Maps
attribute [local go_sem] bs_list bs_size

/-- The numbers met, as the map that they are written into. -/
def seenD : List Int → DataW Unit
  | [] => .map []
  | n :: r => (seenD r).put (.int .i64 n) (.lit (.int .i64 1))
theorem put_isMap {D : DataW Unit} (h : IsMap D) (k : Lit) (d : DataW Unit) : IsMap (D.put k d) := by
  obtain ⟨es, rfl⟩ := h
  exact ⟨_, rfl⟩
theorem seenD_isMap : ∀ l, IsMap (seenD l)
  | [] => ⟨_, rfl⟩
  | _ :: r => put_isMap (seenD_isMap r) _ _
theorem seenD_at (n : Int) : ∀ l : List Int, (seenD l).atKey (.int .i64 n) (.lit (.int .i64 0)) = .lit (.int .i64 (if l.contains n = true then 1 else 0))
  | [] => rfl
  | m :: r => by
    unfold seenD
    by_cases h : n = m
    · subst h
      rw [atKey_put_same (seenD_isMap r) (by trivial)]
      simp
    · rw [atKey_put_other (by intro e; injection e with _ e; exact h e)]
      rw [seenD_at n r]
      have : (m :: r).contains n = r.contains n := by
        simp [h]
      rw [this]
theorem law3 : Keyed Try.prog 3 := int_keyed Try.underlying3
theorem zero3 (w : World) : (zeroValue 3).run Try.prog w = .ok (.int .i64 0) w := by kernel_rfl

/-- What the pairs met have left: the map, and where the next has to begin. -/
def Seen (w : World) (S C B : Nat) (l : List Int) (a : Int) : Prop :=
  w.heap[S]? = some (.cells #[.map (some B)] 152 (0, 0)) ∧ w.heap[C]? = some (.cells #[.int .i64 a] 2 (0, 0)) ∧ w.ownsMap Try.prog 3 (plainElem (H := Unit) Try.prog 3) B l.length (seenD l)
theorem map_ne {w : World} {B n : Nat} {D : DataW Unit} {R : Value → Option (DataW Unit × List MemPlace)} {k : TypeId} (h : w.ownsMap Try.prog k R B n D) {g : Nat} {cs : Array Value} {t : TypeId} {fr : Nat × Nat} (hg : w.heap[g]? = some (.cells cs t fr)) : g ≠ B := by
  rintro rfl
  obtain ⟨es, clock, hb, _⟩ := h
  rw [hb] at hg
  cases hg
theorem own_map_below {w w' : World} {B n : Nat} {D : DataW Unit} {R : Value → Option (DataW Unit × List MemPlace)} {k : TypeId} (h : w.ownsMap Try.prog k R B n D) (hb : Below w.heap.size w w') : w'.ownsMap Try.prog k R B n D :=
  h.kept (row := none) ⟨hb.os, hb.tape, hb.output, hb.size, fun k hk _ => hb.block k hk⟩ (by simp)
theorem Seen.below {w w' : World} {S C B : Nat} {l : List Int} {a : Int} (h : Seen w S C B l a) (hb : Below w.heap.size w w') : Seen w' S C B l a :=
  ⟨heap_below h.1 hb, heap_below h.2.1 hb, own_map_below h.2.2 hb⟩
theorem turned_heap {w w' : World} {B : Nat} (h : w.mapTurned w' B) {g : Nat} (hg : g ≠ B) {o : Obj} (ho : w.heap[g]? = some o) : w'.heap[g]? = some o :=
  (h.grown.block g (Array.getElem?_eq_some_iff.1 ho).1 (fun e => hg (Option.some.inj e))).trans ho

set_option maxRecDepth 100000 in
set_option maxHeartbeats 2000000 in
theorem rm1_any (S C B base : Nat) (k : Int) (p : Pai) (l : List Int) (a : Int) (w : World) (hs : Seen w S C B l a) (hwf : (Lit.int .i64 p.num).wf = true) (hbB : base ≤ B) (hbC : base ≤ C) (hbw : base ≤ w.heap.size) (hl : l.length < 1048576) :
    Calls Try.prog 128 #[.int .i64 k, .agg #[.int .i64 p.num, .int .i64 p.from_, .int .i64 p.to_], .pointer (some ⟨S, 0, none⟩), .pointer (some ⟨C, 0, none⟩)] w fun e w' => e = .returned (.bool (pOk l a p)) ∧ Seen w' S C B (p.num :: l) p.to_ ∧ Below base w w' := by
  obtain ⟨w0, hw0⟩ : ∃ w0, w0 = w.alloc (.cells #[.int .i64 p.num, .int .i64 p.from_, .int .i64 p.to_] 79) := ⟨_, rfl⟩
  obtain ⟨X, hX⟩ : ∃ X, X = w.heap.size := ⟨_, rfl⟩
  have hb0 : Below w.heap.size w w0 := by rw [hw0]; exact (Below.refl _ _).alloc (Nat.le_refl _) _
  have hx0 : w0.heap[X]? = some (.cells #[.int .i64 p.num, .int .i64 p.from_, .int .i64 p.to_] 79 (0, 0)) := by rw [hw0, hX]; exact heap_alloc_new w _
  have HS0 := Lib.hid (hs.below hb0)
  have HB0 := Lib.hid (hb0.mono hbw)
  have HX0 := Lib.hid hx0
  have hkey : keyOf Try.prog 3 (.int .i64 p.num) = some (.int .i64 p.num) := keyOf_int_mk Try.underlying3 hwf
  have HKEY := Lib.hid hkey
  have x0 := box_cells hx0 0 (.int .i64 p.num) rfl
  have x1 := box_cells hx0 1 (.int .i64 p.from_) rfl
  have x2 := box_cells hx0 2 (.int .i64 p.to_) rfl
  have s0 := box_cells HS0.out.1 0 (.map (some B)) rfl
  have c0 := box_cells HS0.out.2.1 0 (.int .i64 a) rfl
  obtain ⟨c, hrun, hat, _⟩ := HS0.out.2.2.lookup_int law3 Try.underlying152 Try.underlying3 (zero3 _) hkey
  rw [seenD_at] at hat
  have hc : c = if l.contains p.num = true then 1 else 0 := by injection hat with h; injection h with _ h; exact h.symm
  have HC := Lib.hid hc
  have k1 := isNumber_any p.num w0
  have HK1 := Lib.hid k1
  clear hs hb0 hx0 hat hc k1 hkey
  go_enter Try.func128, Try.ntmps128
  go_upto_region 1 with fail
  rw [← hw0, ← hX]
  have HW0 := Lib.hid hw0; clear hw0
  have HXE := Lib.hid hX; clear hX
  go_cut [7] (fun v7 wx => v7 = .bool (pOk l a p) ∧ wx = w0)
  case first =>
    go_wp2_with fail
    refine HK1.out.mono ?_
    rintro e w1 ⟨rfl, rfl⟩
    cases h1 : isNo p.num with
    | false =>
      have hf : pOk l a p = false := by unfold pOk; rw [h1]; rfl
      have HF := Lib.hid hf; clear hf h1
      go_wp2_with fail
      go_meet
      exact ⟨bool_eq HF.out.symm, rfl⟩
    | true =>
      cases h2 : l.contains p.num with
      | true =>
        have hf : pOk l a p = false := by unfold pOk; rw [h1, h2]; rfl
        have HF := Lib.hid hf
        have hc1 : c = 1 := by rw [HC.out, h2]; rfl
        subst hc1
        clear hf h1 h2
        go_wp2_with fail
        go_meet
        exact ⟨bool_eq HF.out.symm, rfl⟩
      | false =>
        have hc1 : c = 0 := by rw [HC.out, h2]; rfl
        subst hc1
        cases h3 : (p.from_ == a) with
        | false =>
          have hf : pOk l a p = false := by unfold pOk; rw [h1, h2, h3]; rfl
          have HF := Lib.hid hf
          clear hf h1 h2
          go_wp2_with fail
          go_meet
          exact ⟨bool_eq HF.out.symm, rfl⟩
        | true =>
          have hf : pOk l a p = decide (p.from_ < p.to_) := by unfold pOk; rw [h1, h2, h3]; rfl
          have HF := Lib.hid hf
          clear hf h1 h2
          go_wp2_with fail
          go_meet
          exact ⟨bool_eq HF.out.symm, rfl⟩
  case rest =>
    obtain ⟨rfl, hwx⟩ := hcut
    obtain rfl := hwx.symm
    have hCB := map_ne HS0.out.2.2 HS0.out.2.1
    have hSB := map_ne HS0.out.2.2 HS0.out.1
    have hXB := map_ne HS0.out.2.2 HX0.out
    have hd : w0.drew.ownsMap Try.prog 3 (plainElem (H := Unit) Try.prog 3) B l.length (seenD l) := HS0.out.2.2
    have hpe : plainElem (H := Unit) Try.prog 3 (.int .i64 1) = some (.lit (.int .i64 1), []) := plainElem_int Try.underlying3 (by decide)
    obtain ⟨wA, hrunA, hownA, hturnA⟩ := hd.store law3 Try.underlying152 (by unfold maxLen; omega) HKEY.out hpe
    have hSX : S ≠ X := by rintro rfl; have := HX0.out; rw [HS0.out.1] at this; cases this
    have hCX : C ≠ X := by rintro rfl; have := HX0.out; rw [HS0.out.2.1] at this; cases this
    have hSC : S ≠ C := by rintro rfl; have := HS0.out.2.1; rw [HS0.out.1] at this; cases this
    have hxA := turned_heap hturnA hXB HX0.out
    have hsA := turned_heap hturnA hSB HS0.out.1
    have hcA := turned_heap hturnA hCB HS0.out.2.1
    have a0 := box_cells hxA 0 (.int .i64 p.num) rfl
    have a2 := box_cells hxA 2 (.int .i64 p.to_) rfl
    have aS := box_cells hsA 0 (.map (some B)) rfl
    have aC := box_cells hcA 0 (.int .i64 a) rfl
    have fA : wA.frozen? ⟨C, 0, none⟩ = false := by simp [World.frozen?, hcA]
    have f0 : w0.frozen? ⟨C, 0, none⟩ = false := by simp [World.frozen?, HS0.out.2.1]
    have hn1 : ¬ X = C := fun e => hCX e.symm
    have hn2 : ¬ C = X := hCX
    have hn3 : ¬ S = C := hSC
    have HOA := Lib.hid hownA; clear hownA
    have HTA := Lib.hid hturnA; clear hturnA
    have HRUN := Lib.hid hrun; clear hrun
    have HSA := Lib.hid hsA
    have HCA := Lib.hid hcA
    clear hd hpe hxA hsA hcA x1
    go_wp2_with fail
    go_region
    go_wp2_with fail
    go_ret
    have hset := only_one wA C 0 (.int .i64 p.to_)
    have hbd : Below base w w0.drew := below_drewN HB0.out 1
    have hbA := hbd.grown HTA.out.grown (Nat.le_trans hbw HB0.out.size) (fun k hk => by cases hk; exact hbB)
    refine ⟨rfl, ⟨heap_grown HSA.out hset hSC, set_at HCA.out 0 _, ?_⟩, hbA.setCell hbC _⟩
    exact HOA.out.kept hset (fun e => hCB (Option.some.inj e).symm)
end Go.Proofs.Ytggjipfdfpdecaa
