/- The row of the law FramePuts: for every input the call returns true, and each argument reads as before. Condition: together at most 1048576 values and letters come in. -/
import Derived.Test.YtggjipfdfpdecaaOpen
import Derived.Test.YtggjipfdfpdecaaFramePuts
import Derived.ChangeOld
namespace Go.Proofs.Ytggjipfdfpdecaa.framePuts
open Go.ChangeShapes Go.WideShapes Go.ChangeAt Go.RowKit
open Go.ChangeMaps (open_string shut_string)
set_option linter.unusedVariables false
set_option maxRecDepth 100000 in
theorem lifted (os : Os) (started : os.Started) (H : Type) (enc : TypeId × Value → H) (F : Stop.Interp) :
    ReturnsInHanded {} Try.checked os 10 .any ((Rows.OpenSpec.upto Rows.framePutsSpec).pre6 enc Try.prog Try.f10 Rows.framePutsUptoRow.domain false) (((Rows.OpenSpec.upto Rows.framePutsSpec).at F).post enc Try.prog Try.f10 false true false false) := by
  refine returnsInHanded_of_cond_sized (C := Try.checked) (s := Rows.OpenSpec.upto Rows.framePutsSpec) (k := Rows.uptoSmall) rfl own started (by kernel_rfl) Try.func10
    (OpenSpec.witness (enc := enc) (C := Try.checked) (s := Rows.OpenSpec.upto Rows.framePutsSpec) (k := Rows.uptoSmall) rfl false ⟨#[], #[.slice none 0 0, .int .u64 0, .slice none 0 0], []⟩ 8 (by kernel_rfl) (by kernel_rfl) (by kernel_rfl)
      (x := ([.nil, .lit (.int .u64 0), .nil], [], [])) (by kernel_rfl) rfl (by kernel_rfl)) ?_
  intro W base args ds gs before hval0 hW _ hk hsz0 _
  have hsz : (DataW.weightsEach Try.prog (Try.f10.params.toList ++ Rows.framePutsSpec.plain.varTypes Try.prog) (ds ++ gs)).all (· ≤ reachBytes) = true := hsz0
  have hval : ∀ (j : Nat) t v, Try.f10.params[j]? = some t → args[j]? = some v → Value.okWide Try.prog W .any base t v := hval0
  have hW' := hW
  obtain ⟨p, q, hA0, hV, rfl, hfz, hnd⟩ := hW
  have hA : DataW.TrodAll enc Try.prog W 0 (fun _ => true) true Try.f10.params.toList args.toList ds p := hA0
  rw [Try.params10] at hA hval hsz
  obtain ⟨v0, vs0, d0, ds0, p0, q0, hargs, rfl, rfl, h0, r0⟩ := trodAll_cons hA
  obtain ⟨v1, vs1, d1, ds1, p1, q1, rfl, rfl, rfl, h1, r1⟩ := trodAll_cons r0
  obtain ⟨v2, vs2, d2, ds2, p2, q2, rfl, rfl, rfl, h2, r2⟩ := trodAll_cons r1
  obtain ⟨rfl, rfl, rfl⟩ := trodAll_nil r2
  obtain rfl : args = #[v0, v1, v2] := by cases args; simp_all
  obtain ⟨rfl, rfl⟩ := trodVars_none hV
  have hbulk := bulk_bound hk
  rw [List.append_nil] at hbulk
  simp only [bulk_cons] at hbulk
  have k0 := h0
  have lt0 : ∀ x ∈ p0, x.block < W.heap.size := by obtain ⟨m, hm⟩ := k0; exact DataW.trod_lt m _ _ _ hm
  obtain ⟨a0, b0, c0, e0⟩ := okWide_slice Try.underlying25 (hval 0 25 v0 rfl rfl)
  subst e0
  obtain ⟨f0, t0⟩ := h0
  obtain ⟨u0, l0, hu0, hr0, hb0, hl0⟩ := bytes_of t0
  obtain rfl : (Value.slice a0 b0 c0) = u0 := by simpa [Value.cells] using hu0
  simp only at hb0 hl0
  have y0 : l0.length * 1 ≤ 140737488351232 := by
    rcases hl0 with hl | ⟨e, s, rfl, hle⟩
    · rw [hl]; omega
    · have z := sized_slice hsz (j := 0) (t := 25) rfl rfl Try.underlying25
      have zb : Try.prog.bytesOf 5 = 1 := by kernel_rfl
      have zr : reachBytes = 140737488351232 := rfl
      rw [zb, zr] at z
      omega
  obtain ⟨a1, rfl, rfl, rfl, w1⟩ := open_int Try.underlying28 (hval 1 28 v1 rfl rfl) h1
  have k2 := h2
  have lt2 : ∀ x ∈ p2, x.block < W.heap.size := by obtain ⟨m, hm⟩ := k2; exact DataW.trod_lt m _ _ _ hm
  obtain ⟨a2, b2, c2, e2⟩ := okWide_slice Try.underlying25 (hval 2 25 v2 rfl rfl)
  subst e2
  obtain ⟨f2, t2⟩ := h2
  obtain ⟨u2, l2, hu2, hr2, hb2, hl2⟩ := bytes_of t2
  obtain rfl : (Value.slice a2 b2 c2) = u2 := by simpa [Value.cells] using hu2
  simp only at hb2 hl2
  have y2 : l2.length * 1 ≤ 140737488351232 := by
    rcases hl2 with hl | ⟨e, s, rfl, hle⟩
    · rw [hl]; omega
    · have z := sized_slice hsz (j := 2) (t := 25) rfl rfl Try.underlying25
      have zb : Try.prog.bytesOf 5 = 1 := by kernel_rfl
      have zr : reachBytes = 140737488351232 := rfl
      rw [zb, zr] at z
      omega
  clear hA0 hval0 hsz0 hsz
  refine (framePuts_any _ l0 a1 _ l2 W hr0 w1 hr2 (by omega)).mono fun e W' ⟨he, bel⟩ => ?_
  subst he
  exact ⟨_, rfl, _, _, _, [], _, [], hW', trodAll_mk1 (shut_bool Try.underlying4 _), (trodAll_cons_mk (Below.trod laidOut (by kernel_rfl) (of_decide_eq_true (by kernel_rfl)) k0 bel lt0) (trodAll_cons_mk (shut_int Try.underlying28 w1) (trodAll_cons_mk (Below.trod laidOut (by kernel_rfl) (of_decide_eq_true (by kernel_rfl)) k2 bel lt2) trodAll_mk0))), rfl, bel.frame _, fun h => by cases h⟩
theorem over : Rows.framePutsUptoRow.holds Try.pinned (Rows.OpenSpec.upto Rows.framePutsSpec) :=
  OpenClaim.holds_of_cond 10 Try.f10 rfl rfl rfl rfl rfl rfl rfl ⟨rfl, rfl, rfl, rfl, rfl⟩ rfl rfl rfl rfl rfl (by kernel_rfl) Try.func10 (by kernel_rfl)
    (of_decide_eq_true (by kernel_rfl)) (by unfold Func.isWrapper; first | (rw [if_pos (by decide +kernel)]; kernel_rfl) | (rw [if_neg (by decide +kernel)]; exact ⟨rfl, rfl⟩))
    (fun os started H enc _ F => lifted os started H enc F)
end Go.Proofs.Ytggjipfdfpdecaa.framePuts
namespace Go.Proofs.Ytggjipfdfpdecaa
theorem framePuts_holds : Rows.FramePutsUptoSaid := framePuts.over
#print axioms framePuts_holds
end Go.Proofs.Ytggjipfdfpdecaa
