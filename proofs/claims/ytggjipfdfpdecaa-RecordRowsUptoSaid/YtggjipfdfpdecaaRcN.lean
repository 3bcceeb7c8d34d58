/- Plain: the document's examples of records. -/
import Derived.Test.YtggjipfdfpdecaaRcMa
import Derived.WalkKit
namespace Go.Proofs.Ytggjipfdfpdecaa

def exW : List Wri := [⟨[97], [120], false⟩, ⟨[98], [], true⟩]
theorem exW_ok : comOk 300 exW = true := by rfl
theorem exW_enc : encCom (300 : Int).toNat exW = [67, 172, 2, 2, 0, 1, 97, 1, 120, 1, 1, 98] := by kernel_rfl
theorem exC_dec : decCom [67, 0, 1, 2] = ((0, []), 3, 61) := by rfl
theorem exM_dec : decMan [77, 5, 2, 1, 1, 0, 5] = ((5, 2, [⟨1, 0, 5⟩]), 0, 0) := by kernel_rfl
theorem exR_dec : decRow [82, 0, 0, 0] = (⟨[], [], 0⟩, 0, 60) := by rfl
end Go.Proofs.Ytggjipfdfpdecaa
