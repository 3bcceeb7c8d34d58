/- The card of the law TopIndexes: for every input the call returns true, and each argument reads as before; the one listed variable, math/bits' table, is tied to the program's text. Condition: none. -/
import Derived.Test.YtfolchpjccjadaaDoorRw
import Derived.Test.YtfolchpjccjadaaDoorCards
import Derived.Test.YtfolchpjccjadaaDoorTie
import Derived.SevenTiedAt
namespace Go.Proofs.YtfolchpjccjadaaDoor
open Go

theorem topIndexes_holds : Rows.TopIndexesCardSaid :=
  Claim7.holds_tied_plain_at .later [] [.data] true (true, "c7884237e35993ec17540b255532e47cbfaa76246076d1e764e8c3afca7497f1") false
    topIndexes_row_holds (fun _ h => by cases h) (by kernel_rfl) (fun _ h => by cases h) topIndexes_row_tie rfl ⟨rfl, rfl⟩ (by kernel_rfl) rfl
    (fun f fn hf hfn => by
      obtain rfl : f = 3 := Option.some.inj ((show Tryd.prog.funcNamed "varve/varvetop.TopIndexes" = some 3 by kernel_rfl).symm.trans hf) |>.symm
      obtain rfl : fn = Tryd.f3 := (Option.some.inj (Tryd.func3.symm.trans hfn)).symm
      exact ⟨by kernel_rfl, fun j t ht => by
        rw [Tryd.params3] at ht
        have hm : t ∈ [3, 22, 23] := by simpa using Array.mem_of_getElem? ht
        have hall : ([3, 22, 23].all fun u => !Tryd.prog.wantsStandIn u) = true := by kernel_rfl
        exact (show Tryd.prog.wantsStandIn t = false by simpa using List.all_eq_true.1 hall t hm)⟩)
    (by kernel_rfl)
#print axioms topIndexes_holds
end Go.Proofs.YtfolchpjccjadaaDoor
