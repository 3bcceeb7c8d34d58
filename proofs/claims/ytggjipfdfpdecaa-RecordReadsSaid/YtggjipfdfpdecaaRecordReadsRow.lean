/- The row of the law RecordReads: for every input the call returns true, and each argument reads as before. Condition: none. -/
import Derived.Test.YtggjipfdfpdecaaZ15
import Derived.Test.YtggjipfdfpdecaaRecordReads
import Derived.ChangeOld
namespace Go.Proofs.Ytggjipfdfpdecaa.recordReads
open Go.ChangeShapes Go.WideShapes Go.ChangeAt Go.RowKit
open Go.ChangeMaps (open_string shut_string)
set_option linter.unusedVariables false
set_option maxRecDepth 100000 in
theorem lifted (os : Os) (started : os.Started) (H : Type) (enc : TypeId × Value → H) :
    ReturnsInHanded {} Try.checked os 18 .any (Rows.recordReadsSpec.pre6 enc Try.prog Try.f18 Rows.recordReadsRow.domain false) (Rows.recordReadsSpec.post enc Try.prog Try.f18 false true false false) := by
  refine returnsInHanded_of_change_sized (C := Try.checked) own started (by kernel_rfl) Try.func18
    (ChangeSpec.witness6 (enc := enc) (C := Try.checked) false ⟨#[], #[.slice none 0 0], []⟩ 8 (by kernel_rfl) (by kernel_rfl) (by kernel_rfl) (by kernel_rfl)) ?_
  intro W base args ds gs before hval0 hW hcnd hsz0 _
  have hsz : (DataW.weightsEach Try.prog (Try.f18.params.toList ++ Rows.recordReadsSpec.plain.varTypes Try.prog) (ds ++ gs)).all (· ≤ reachBytes) = true := hsz0
  have hval : ∀ (j : Nat) t v, Try.f18.params[j]? = some t → args[j]? = some v → Value.okWide Try.prog W .any base t v := hval0
  have hW' := hW
  obtain ⟨p, q, hA0, hV, rfl, hfz, hnd⟩ := hW
  have hA : DataW.TrodAll enc Try.prog W 0 (fun _ => true) true Try.f18.params.toList args.toList ds p := hA0
  rw [Try.params18] at hA hval hsz
  obtain ⟨v0, vs0, d0, ds0, p0, q0, hargs, rfl, rfl, h0, r0⟩ := trodAll_cons hA
  obtain ⟨rfl, rfl, rfl⟩ := trodAll_nil r0
  obtain rfl : args = #[v0] := by cases args; simp_all
  obtain ⟨rfl, rfl⟩ := trodVars_none hV
  have k0 := h0
  have lt0 : ∀ x ∈ p0, x.block < W.heap.size := by obtain ⟨m, hm⟩ := k0; exact DataW.trod_lt m _ _ _ hm
  obtain ⟨a0, b0, c0, e0⟩ := okWide_slice Try.underlying25 (hval 0 25 v0 rfl rfl)
  subst e0
  obtain ⟨f0, t0⟩ := h0
  obtain ⟨u0, l0, hu0, hr0, hb0, hl0⟩ := bytes_of t0
  obtain rfl : (Value.slice a0 b0 c0) = u0 := by simpa [Value.cells] using hu0
  simp only at hb0 hl0
  have y0 : l0.length * 1 ≤ 140737488351232 := by
    rcases hl0 with hl | ⟨e, s, rfl, hle⟩
    · rw [hl]; omega
    · have z := sized_slice hsz (j := 0) (t := 25) rfl rfl Try.underlying25
      have zb : Try.prog.bytesOf 5 = 1 := by kernel_rfl
      have zr : reachBytes = 140737488351232 := rfl
      rw [zb, zr] at z
      omega
  clear hA0 hval0 hsz0 hsz
  refine (recordReads_any _ l0 W hr0 y0).mono fun e W' ⟨he, bel⟩ => ?_
  subst he
  exact ⟨_, rfl, _, _, _, [], _, [], hW', trodAll_mk1 (shut_bool Try.underlying4 _), (trodAll_cons_mk (Below.trod laidOut (by kernel_rfl) (of_decide_eq_true (by kernel_rfl)) k0 bel lt0) trodAll_mk0), rfl, bel.frame _, fun h => by cases h⟩
theorem over : Rows.recordReadsRow.holds Try.pinned (OpenSpec.ofChange Rows.recordReadsSpec) :=
  OpenClaim.holds_of_wide 18 Try.f18 rfl rfl rfl rfl rfl rfl rfl ⟨rfl, rfl, rfl, rfl, rfl⟩ rfl rfl rfl rfl rfl (by kernel_rfl) Try.func18 (by kernel_rfl)
    (of_decide_eq_true (by kernel_rfl)) (by unfold Func.isWrapper; first | (rw [if_pos (by decide +kernel)]; kernel_rfl) | (rw [if_neg (by decide +kernel)]; exact ⟨rfl, rfl⟩))
    (fun os started H enc _ => lifted os started H enc)
end Go.Proofs.Ytggjipfdfpdecaa.recordReads
namespace Go.Proofs.Ytggjipfdfpdecaa
theorem recordReads_holds : Rows.RecordReadsSaid := recordReads.over
#print axioms recordReads_holds
end Go.Proofs.Ytggjipfdfpdecaa
