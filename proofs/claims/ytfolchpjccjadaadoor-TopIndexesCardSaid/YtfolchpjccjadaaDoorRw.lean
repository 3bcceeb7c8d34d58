/- The row of the law TopIndexes: for every input the call returns true, and each argument reads as before; the one listed variable, math/bits' table, reads as the program's text lays it. Condition: none beyond the row's own. -/
import Derived.Test.YtfolchpjccjadaaDoorLc
import Derived.ProofKit
import Derived.LaidMore
import Derived.OpenShut
import Derived.ShutString
import Derived.Stop.Joined
import Derived.Deep.Slices
namespace Go.Proofs.YtfolchpjccjadaaDoor
open Go.ChangeShapes Go.WideShapes Go.ChangeAt Go.RowKit Go.Deep
open Go.ChangeMaps (open_string shut_string)
set_option linter.unusedVariables false

theorem ownKnob3 : ownKnob Tryd.prog.godebug = none := by kernel_rfl
theorem laidOut3 : laidOutB Tryd.prog = true := by kernel_rfl
theorem tTab : (Tryd.prog.globals[0]?).map (·.type) = some 100 := by kernel_rfl
theorem cellsU8 : Tryd.prog.cellsOf 5 = 1 := by kernel_rfl
theorem cellsStr : Tryd.prog.cellsOf 9 = 1 := by kernel_rfl
theorem cellsInt : Tryd.prog.cellsOf 3 = 1 := by kernel_rfl
theorem bytesStr : Tryd.prog.bytesOf 9 = 16 := by kernel_rfl
theorem bytesInt : Tryd.prog.bytesOf 3 = 8 := by kernel_rfl
theorem take_one {l : List Value} {j : Nat} {v : Value} (h : (l.drop j).take 1 = [v]) : l[j]? = some v := by
  have := congrArg (fun l => l[0]?) h
  simpa using this
theorem gTab : Tryd.prog.globalNamed "math/bits.deBruijn64tab" = some 0 := by kernel_rfl

/-- The door's own heap meets the condition: three closed facts. -/
theorem door_met (os : Os) (args : Array Value) : laidMetH Tryd.prog Rows.topIndexesRow.laid ((World.doorLaid Tryd.prog 400 os).forCall (fun _ _ => 0) ⟨#[], args, []⟩).memory :=
  laidMetH_of_parts3 (fuel := 8) (laidMet_of_run' 8 (by kernel_rfl) (by kernel_rfl)) (by kernel_rfl) (by kernel_rfl)
theorem tab_datum {H : Type} : (Rows.laid_math_bits_deBruijn64tab : DataW H) = .agg (deB.map fun (n : Nat) => DataW.lit (Lit.int .u8 (n : Int))) := rfl

/-- What the condition gives the walk: the table's cells. -/
theorem of_laid {W : World} (h : laidMetH Tryd.prog Rows.topIndexesRow.laid W) : TabW W := by
  rw [MakeChecks.laidMetH_plain _ _ _ (by kernel_rfl)] at h
  obtain ⟨ps, ⟨g0, t0, cs0, f0, p0, q0, hg0, ht0, hv0, hd0, _, _⟩, _, _⟩ := h
  obtain rfl := Option.some.inj (gTab.symm.trans hg0)
  obtain rfl := Option.some.inj (tTab.symm.trans ht0)
  obtain ⟨xs, m, rfl, hx, hlen, hn, hel⟩ := DataW.trod_array Tryd.underlying100 hd0
  intro j n hj
  have hj64 : j < 64 := by
    have := (List.getElem?_eq_some_iff.1 hj).1
    rw [deB_len] at this
    exact this
  have h0 := hel j hj64
  rw [cellsU8, Nat.mul_one] at h0
  obtain ⟨x, hxj⟩ : ∃ x, xs[j]? = some x := ⟨_, List.getElem?_eq_getElem (by omega)⟩
  rw [hxj] at h0
  obtain ⟨k, e1, e2, _⟩ := DataW.trod_int Tryd.underlying5 h0
  have hx1 : (Rows.laid_math_bits_deBruijn64tab : DataW Unit) = .agg (xs.map (·.1)) := congrArg Prod.fst hx
  rw [tab_datum, DataW.agg.injEq] at hx1
  have hg := congrArg (fun l => l[j]?) hx1
  simp only [List.getElem?_map, hj, hxj, e2, Option.map_some, Option.some.injEq, DataW.lit.injEq, Lit.int.injEq, true_and] at hg
  have hc := World.var?_cell hg0 hv0 j
  rw [hc, hg, ← Array.getElem?_toList]
  exact take_one e1
section
variable {H : Type} {enc : TypeId × Value → H} {w : World} {base : Nat} {spare : Nat → Bool} {held : Bool}
theorem rows_fold {p : Nat → List UInt8 → Prop} : ∀ (n : Nat), (∀ i, i < n → ∃ l, p i l) → ∃ ls : List (List UInt8), ls.length = n ∧ ∀ j l, ls[j]? = some l → p j l
  | 0, _ => ⟨[], rfl, fun j l h => by simp at h⟩
  | n + 1, h => by
    obtain ⟨ls, hl, hp⟩ := rows_fold n (fun i hi => h i (by omega))
    obtain ⟨l, hl'⟩ := h n (by omega)
    refine ⟨ls ++ [l], by simp [hl], fun j x hj => ?_⟩
    by_cases e : j < ls.length
    · rw [List.getElem?_append_left e] at hj; exact hp j x hj
    · have hlt := (List.getElem?_eq_some_iff.1 hj).1
      obtain rfl : j = ls.length := by simp at hlt; omega
      rw [List.getElem?_append_right (Nat.le_refl _)] at hj
      simp at hj
      rw [← hj, hl]
      exact hl'
/-- A slice of texts comes in. -/
theorem keys_of {fuel : Nat} {cs : List Value} {x : DataW H × List MemPlace} (h : DataW.trod enc Tryd.prog w base (fun _ => true) held fuel 22 cs = some x) :
    ∃ A ks ck, cs = [.slice A ks.length ck] ∧ KeysR w w.heap.size A ks ∧ ks.length ≤ ck ∧ ((ck = 0 ∧ ks = []) ∨ ∃ e s, x.1 = .slice e s ∧ ck ≤ e.length + s.length ∧ ∀ k, k ∈ ks → DataW.lit (.string k) ∈ e) := by
  rcases open_slice1 Tryd.underlying22 cellsStr h with ⟨rfl, rfl⟩ | ⟨a, len, cap, m, n, V, D, Pl, rfl, _, hl, hcap, hm, rfl, hx⟩
  · exact ⟨none, [], 0, rfl, fun j k hj => by simp at hj, Nat.le_refl _, .inl ⟨rfl, rfl⟩⟩
  · rw [if_pos rfl] at hm
    obtain ⟨ls, hls, hp⟩ := rows_fold (p := fun j l => w.cell? (a.add j) = some (.string (bs l)) ∧ D j = .lit (.string l)) len (fun i hi => by
      obtain ⟨hc, ht⟩ := hx i (by omega)
      obtain ⟨s, hs, hd, _⟩ := DataW.trod_string Tryd.underlying9 ht
      have hs : V i = .string s := by simpa using hs
      refine ⟨s.data.toList, ?_, congrArg Prod.fst hd⟩
      rw [hc, hs, bs_of])
    subst hls
    refine ⟨some a, ls, cap, rfl, fun j k hj => ?_, hl, .inr ⟨_, _, rfl, ?_, fun k hk => ?_⟩⟩
    · obtain ⟨h1, _⟩ := hp j k hj
      exact ⟨a, rfl, World.block_lt_of_cell? w _ h1, h1⟩
    · simp
      omega
    · obtain ⟨j, hj⟩ := List.mem_iff_getElem?.1 hk
      exact List.mem_map.2 ⟨j, List.mem_range.2 (List.getElem?_eq_some_iff.1 hj).1, (hp j k hj).2⟩
/-- A slice of numbers comes in. -/
theorem picks_of {fuel : Nat} {cs : List Value} {x : DataW H × List MemPlace} (h : DataW.trod enc Tryd.prog w base (fun _ => true) held fuel 23 cs = some x) :
    ∃ A n c, cs = [.slice A n c] ∧ PicksR w w.heap.size A n ∧ (n = 0 ∨ ∃ e s, x.1 = .slice e s ∧ n ≤ e.length + s.length) := by
  rcases open_ints Tryd.underlying23 Tryd.underlying3 cellsInt h with ⟨rfl, rfl⟩ | ⟨a, len, cap, zs, rfl, _, hl, hcap, hz, rfl, hc, hwf⟩
  · exact ⟨none, 0, 0, rfl, fun j hj => by omega, .inl rfl⟩
  · rw [if_pos rfl] at hz
    refine ⟨some a, len, cap, rfl, fun j hj => ?_, .inr ⟨_, _, rfl, ?_⟩⟩
    · have hcj := hc j (by omega)
      have hw := hwf (zs[j]'(by omega)) (List.getElem_mem _)
      have hb := (by simpa [Lit.wf, IntKind.min, IntKind.max, IntKind.signed, IntKind.bits] using hw : -9223372036854775808 ≤ zs[j] ∧ zs[j] ≤ 9223372036854775807)
      have hgd : zs.getD j 0 = zs[j]'(by omega) := by simp [List.getD, List.getElem?_eq_getElem (show j < zs.length by omega)]
      rw [hgd] at hcj
      exact ⟨a, _, rfl, World.block_lt_of_cell? w _ hcj, hcj, hb.1, hb.2⟩
    · simp [lits]
      omega
theorem weightsAll_mem {P : Program} {e : TypeId} : ∀ {l : List (DataW H)} {d : DataW H}, d ∈ l → ∀ n ∈ d.weights P e, n ∈ DataW.weightsAll P e l
  | [], _, h, _, _ => by cases h
  | x :: r, d, h, n, hn => by
    simp only [DataW.weightsAll, List.mem_append]
    rcases List.mem_cons.1 h with rfl | h
    · exact .inl hn
    · exact .inr (weightsAll_mem h n hn)
theorem sized_text {ts : List TypeId} {ds : List (DataW H)} (h : (DataW.weightsEach Tryd.prog ts ds).all (· ≤ reachBytes) = true) {j : Nat} {elems spare : List (DataW H)} {k : List UInt8} (ht : ts[j]? = some 22) (hd : ds[j]? = some (.slice elems spare)) (hk : DataW.lit (.string k) ∈ elems) : k.length ≤ 140737488351232 := by
  have h1 : k.length ∈ DataW.weightsAll Tryd.prog 9 elems := weightsAll_mem hk _ (by simp [DataW.weights])
  have := List.all_eq_true.1 h _ (DataW.weights_mem_each ht hd k.length (by simp only [DataW.weights, Tryd.underlying22, List.mem_cons, List.mem_append]; exact .inr (.inl h1)))
  exact of_decide_eq_true this
end

set_option maxRecDepth 100000 in
theorem lifted (os : Os) (started : os.Started) (H : Type) (enc : TypeId × Value → H) :
    ReturnsInHanded {} Tryd.checked os 3 .any (fun w args => (Rows.topIndexesSpec.pre enc Tryd.prog Tryd.f3 [] false w args ∧ laidMetH Tryd.prog Rows.topIndexesRow.laid w) ∧ sizedMet enc Tryd.prog Tryd.f3 (OpenSpec.ofChange Rows.topIndexesSpec) false w args)
      (Rows.topIndexesSpec.post enc Tryd.prog Tryd.f3 false true false false) := by
  refine returnsInHanded_of_change_and (C := Tryd.checked) (X := fun w _ => laidMetH Tryd.prog Rows.topIndexesRow.laid w) (fun _ _ _ hh h => h.of_heap hh) ownKnob3 started (by kernel_rfl) Tryd.func3
    (ChangeSpec.witness_shaped (enc := enc) (C := Tryd.checked) (os := os) (X := fun w _ => laidMetH Tryd.prog Rows.topIndexesRow.laid w) false (World.doorLaid Tryd.prog 400 os) #[.int .i64 0, .slice none 0 0, .slice none 0 0] 8 rfl (World.shaped_of_RefB (by kernel_rfl) (by kernel_rfl)) (by kernel_rfl) (by kernel_rfl) (by kernel_rfl) (door_met os _)) ?_
  intro W base args ds gs before hval0 hW _ hsz0 hL _
  have hsz : (DataW.weightsEach Tryd.prog (Tryd.f3.params.toList ++ Rows.topIndexesSpec.plain.varTypes Tryd.prog) (ds ++ gs)).all (· ≤ reachBytes) = true := hsz0
  have hval : ∀ (j : Nat) t v, Tryd.f3.params[j]? = some t → args[j]? = some v → Value.okWide Tryd.prog W .any base t v := hval0
  have hW' := hW
  obtain ⟨p, q, hA0, hV, rfl, hfz, hnd⟩ := hW
  have hA : DataW.TrodAll enc Tryd.prog W 0 (fun _ => true) true Tryd.f3.params.toList args.toList ds p := hA0
  rw [Tryd.params3] at hA hval hsz
  obtain ⟨v0, vs0, d0, ds0, p0, q0, hargs, rfl, rfl, h0, r0⟩ := trodAll_cons hA
  obtain ⟨v1, vs1, d1, ds1, p1, q1, rfl, rfl, rfl, h1, r1⟩ := trodAll_cons r0
  obtain ⟨v2, vs2, d2, ds2, p2, q2, rfl, rfl, rfl, h2, r2⟩ := trodAll_cons r1
  obtain ⟨rfl, rfl, rfl⟩ := trodAll_nil r2
  obtain rfl : args = #[v0, v1, v2] := by cases args; simp_all
  obtain ⟨rfl, rfl⟩ := trodVars_none hV
  obtain ⟨z, rfl, rfl, rfl, wz⟩ := open_int Tryd.underlying3 (hval 0 3 v0 rfl rfl) h0
  have k1 := h1
  have lt1 : ∀ x ∈ p1, x.block < W.heap.size := by obtain ⟨m, hm⟩ := k1; exact DataW.trod_lt m _ _ _ hm
  have k2 := h2
  have lt2 : ∀ x ∈ p2, x.block < W.heap.size := by obtain ⟨m, hm⟩ := k2; exact DataW.trod_lt m _ _ _ hm
  obtain ⟨a1, b1, c1, e1⟩ := okWide_slice Tryd.underlying22 (hval 1 22 v1 rfl rfl)
  subst e1
  obtain ⟨a2, b2, c2, e2⟩ := okWide_slice Tryd.underlying23 (hval 2 23 v2 rfl rfl)
  subst e2
  obtain ⟨f1, t1⟩ := h1
  obtain ⟨f2, t2⟩ := h2
  obtain ⟨A, ks, ck, u1, hK, hck, hs1⟩ := keys_of t1
  obtain ⟨P, np, cp, u2, hP, hs2⟩ := picks_of t2
  obtain ⟨rfl, rfl, rfl⟩ : a1 = A ∧ b1 = ks.length ∧ c1 = ck := by simpa [Value.cells] using u1
  obtain ⟨rfl, rfl, rfl⟩ : a2 = P ∧ b2 = np ∧ c2 = cp := by simpa [Value.cells] using u2
  have zr : reachBytes = 140737488351232 := rfl
  have hnk : c1 ≤ 140737488355328 := by
    rcases hs1 with ⟨h, _⟩ | ⟨e, s, he, hle, _⟩
    · omega
    · simp only at he
      subst he
      have z := sized_slice hsz (j := 1) (t := 22) rfl rfl Tryd.underlying22
      rw [bytesStr, zr] at z
      omega
  have hkl : ∀ k, k ∈ ks → k.length ≤ 140737488355328 := fun k hk => by
    rcases hs1 with ⟨_, h⟩ | ⟨e, s, he, _, hm⟩
    · rw [h] at hk; cases hk
    · simp only at he
      subst he
      have z := sized_text hsz (j := 1) rfl rfl (hm k hk)
      omega
  have hnp : b2 ≤ 140737488355328 := by
    rcases hs2 with h | ⟨e, s, he, hle⟩
    · omega
    · simp only at he
      subst he
      have z := sized_slice hsz (j := 2) (t := 23) rfl rfl Tryd.underlying23
      rw [bytesInt, zr] at z
      omega
  have hT := of_laid hL
  have hB : 0 < W.heap.size := by
    have := World.block_lt_of_cell? W _ (hT 0 0 rfl)
    exact this
  clear hA0 hval0 hsz0 hsz
  refine (law_any z a1 a2 c1 b2 c2 ks W.heap.size W rfl hK hck hkl hnk hP hnp hT hB).mono fun e W' ⟨he, bel⟩ => ?_
  subst he
  exact ⟨_, rfl, _, _, _, [], _, [], hW', trodAll_mk1 (shut_bool Tryd.underlying4 _), (trodAll_cons_mk (shut_int Tryd.underlying3 wz) (trodAll_cons_mk (Below.trod laidOut3 (by kernel_rfl) (of_decide_eq_true (by kernel_rfl)) k1 bel lt1) (trodAll_cons_mk (Below.trod laidOut3 (by kernel_rfl) (of_decide_eq_true (by kernel_rfl)) k2 bel lt2) trodAll_mk0))), rfl, bel.frame _, fun h => by cases h⟩

theorem topIndexes_row_holds : Rows.TopIndexesSaid :=
  OpenClaim.holds_of_wide 3 Tryd.f3 rfl rfl rfl rfl rfl rfl rfl ⟨rfl, rfl, rfl, rfl, rfl⟩ rfl rfl rfl rfl rfl (by kernel_rfl) Tryd.func3 (by kernel_rfl)
    (of_decide_eq_true (by kernel_rfl)) (by unfold Func.isWrapper; first | (rw [if_pos (by decide +kernel)]; kernel_rfl) | (rw [if_neg (by decide +kernel)]; exact ⟨rfl, rfl⟩))
    (fun os started H enc _ => lifted os started H enc)
end Go.Proofs.YtfolchpjccjadaaDoor
