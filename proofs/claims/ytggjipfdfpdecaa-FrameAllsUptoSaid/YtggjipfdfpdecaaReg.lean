/- Steps through a region that draws its order, operation by operation, by the library's laws (wpAnyH_take, AllReadyH.cons). -/
import Derived.Test.YtggjipfdfpdecaaBase
import Derived.Deep.RegionHeld3
namespace Go.Proofs.Ytggjipfdfpdecaa
open Go.RowKit

/-- The listed operation, as the array says it. -/
macro "rt_at" : tactic => `(tactic| (simp only [List.getElem?_toArray, List.getElem?_cons_succ, List.getElem?_cons_zero]; rfl))
macro "rt_put" : tactic => `(tactic| (try simp only [Act.put, List.setIfInBounds_toArray, List.set_cons_zero, List.set_cons_succ]))
/-- Take number i first: it yields its value wherever S holds. -/
macro "rt_take " i:num : tactic => `(tactic| (
  refine' wpAnyH_take (i := $i) (v := _) (by rt_at) (by kernel_rfl) (by kernel_rfl) (by kernel_rfl) (by exact fun _ _ _ h => h) (Or.inl ⟨by rfl, ?_⟩) (by assumption) ?_
  rotate_left 1
  · intro w hSw; (try dsimp only at hSw); go_simp; try with_reducible rfl
  rt_put))
/-- Take number i first: it is not wanted. -/
macro "rt_skip " i:num : tactic => `(tactic| (
  refine' wpAnyH_take (i := $i) (v := undef) (by rt_at) (by kernel_rfl) (by kernel_rfl) (by kernel_rfl) (by exact fun _ _ _ h => h) (Or.inr ⟨by rfl, rfl⟩) (by assumption) ?_
  rt_put))
macro "rt_takes " "[" is:num,* "]" : tactic => do
  let ts ← is.getElems.mapM fun i => `(tactic| rt_take $i)
  `(tactic| ($[$ts:tactic];*))
macro "rt_skips " "[" is:num,* "]" : tactic => do
  let ts ← is.getElems.mapM fun i => `(tactic| rt_skip $i)
  `(tactic| ($[$ts:tactic];*))
/-- Number i alone comes up; 'tac' leads through it to 'K ..', which 'hK' answers. -/
macro "rt_alone " i:num : tactic => `(tactic| (
  refine wpAnyH_ready (rs := [$i]) (by kernel_rfl) (by simp) ?_
  refine AllReadyH.cons (by rt_at) (fun $(Lean.mkIdent `K) $(Lean.mkIdent `hK) => ?_) AllReadyH.nil
  go_simp))
macro "rt_two " i:num j:num : tactic => `(tactic| (
  refine wpAnyH_ready (rs := [$i, $j]) (by kernel_rfl) (by simp) ?_
  refine AllReadyH.cons (by rt_at) (fun $(Lean.mkIdent `K) $(Lean.mkIdent `hK) => ?_) (AllReadyH.cons (by rt_at) (fun $(Lean.mkIdent `K) $(Lean.mkIdent `hK) => ?_) AllReadyH.nil)
  all_goals go_simp))
macro "rt_back " h:term : tactic => `(tactic| (
  refine $(Lean.mkIdent `hK).out _ _ $h (fun $(Lean.mkIdent `hHeld) => ?_)
  clear $(Lean.mkIdent `hK) $(Lean.mkIdent `K)
  rt_put))
end Go.Proofs.Ytggjipfdfpdecaa
