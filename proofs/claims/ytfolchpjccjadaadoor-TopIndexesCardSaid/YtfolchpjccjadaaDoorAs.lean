/- Words: one element appended, as a step of a region that draws. -/
import Derived.Test.YtfolchpjccjadaaDoorZ01
import Derived.Deep.RegionLaw
namespace Go.Proofs.YtfolchpjccjadaaDoor
open Go.RowKit
set_option linter.unusedVariables false
section
variable {ops : Array Oper} {o : Oper} {a : Act} {K : Act → World → Prop} {Q : Exit → Act → World → Prop} {F : Prop}
theorem step_one {W : World} (base H : Nat) (T E size nb : Nat) (z : Value) (hu : Tryd.prog.underlying T = some (.slice E)) (hinfo : (Tryd.prog.info? E).map (fun i => (i.zero, i.size, i.bytes)) = some (some z, size, nb)) (hz1 : z.cells.size = size) (hpos : 0 < size)
    (hgd : o.guard = none) (s x : Operand) (ho : o.op = .call { callee := .builtin .append, args := #[s, x], argTypes := #[T, T] })
    (v : Value) (n : Nat) (us : List Value) (ys : Array Value) (hys : ys.toList.length = 1 * size) (hy : ∀ u ∈ ys.toList, u.oneCell' = true) (hs : a.eval s = v) (hx : a.eval x = .slice (some ⟨H, 0, none⟩) 1 1)
    (HO : W.ownsRow base E size v n us) (HH : W.heap[H]? = some (.cells ys E (0, 0))) (hbase : base ≤ W.heap.size) (hl : (n + 1) * nb ≤ 140737488355328) (hl2 : n + 1 ≤ 140737488355328)
    (h : ∀ v1 w1, w1.ownsRow base E size v1 (n + 1) (us ++ ys.toList) → Below base W w1 → W.grownBy w1 v.ownBlock → (v1.ownBlock = v.ownBlock ∨ v1.ownBlock = some W.heap.size) → K (a.put o.dst v1) w1) :
    if Region.wanted o (yielded ops a.tmps) = true then Oper.wp Tryd.prog o a W K Q else F := by
  obtain ⟨i0, hi, hz0, hz1', hz2⟩ := info_parts hinfo
  have hcell : ∀ j u, ys.toList[j]? = some u → W.cell? ((⟨H, 0, none⟩ : Addr).add j) = some u := by
    intro j u hj
    rw [addp]
    exact box_cells HH j u (by simpa using hj)
  obtain ⟨v1, w1, hr, hown, hg, _, hat⟩ := run_append_own_at (P := Tryd.prog) W base T o.type E i0 z size nb hu hi hz0 hz1' hz2 hz1 hpos v n us HO ⟨H, 0, none⟩ 1 1 ys.toList hys hcell hy (by simp only [maxLen]; omega) hl hbase
  have hw : Region.wanted o (yielded ops a.tmps) = true := by simp [Region.wanted, hgd]
  rw [if_pos hw]
  unfold Oper.wp execOp
  simp only [ho, resolve, invoke, builtin, Sem.run_bind, Sem.run_pure, Result.andThen_ok, List.map_toArray, List.map_cons, List.map_nil, hs, hx, hr]
  exact h v1 w1 hown ((Below.refl base W).grown hg hbase fun k hk => (World.ownsRow.lt HO k hk).1) hg hat
end
end Go.Proofs.YtfolchpjccjadaaDoor
