/- The walk of the hash index's Step, whole. -/
import Derived.Test.YtfolchpjccjadaaDoorHg
import Derived.Test.YtfolchpjccjadaaDoorHh
import Derived.Test.YtfolchpjccjadaaDoorHi
namespace Go.Proofs.YtfolchpjccjadaaDoor
open Go.RowKit
set_option linter.unusedVariables false
attribute [local go_sem] bs_list bs_size

set_option maxRecDepth 100000 in
set_option maxHeartbeats 1000000 in
theorem hstep_refuse (B o t a : Nat) (hd H L : List Nat) (E : List Ent) (s : Hop) (w : World) (hA : ArW w B a H L) (hT : TbW w B t a hd E) (hs : HopW w B o t s) (hl : s.key.length ≤ 140737488355328) (hk : isKey s.key = false) (h0 : s.next = 0) :
    Calls Tryd.prog 17 #[.pointer (some ⟨o, 0, none⟩)] w (StepR B o t a hd H L E s w) := by
  have HR := Lib.hid (refused_yes B o t s w hs hk hl)
  obtain ⟨hb, ref, had, code, hh⟩ := hs
  have x4 : w.cell? ⟨o, 4, none⟩ = some (.int .i64 0) := by
    have := box_cells hh 4 (.int .i64 (s.next : Int)) rfl
    rw [h0] at this
    exact this
  have HH := Lib.hid hh
  have HH0 := Lib.hid h0
  have HK := Lib.hid hk
  have HA := Lib.hid hA
  have HT := Lib.hid hT
  clear hh h0 hk hA hT
  go_enter Tryd.func17, Tryd.ntmps17
  go_wp2
  refine wp_scope_jumps 0 (fun _ _ => False) (fun _ _ => 0) rfl ?_ ?_
  · go_wp2_with fail
    refine HR.out.mono ?_
    rintro e w1 ⟨rfl, hs1, hk1⟩
    have HJ := Lib.hid (show StepR B o t a hd H L E s w (.returned (.bool true)) w1 from ⟨_, _, _, _, _, rfl, .refuse HH0.out HK.out, HA.out.keep hk1 rfl rfl (fun g cs t e h => by obtain rfl := only_type HH.out e h; decide), HT.out.keep hk1 rfl rfl rfl (fun g cs t e h => by obtain rfl := only_type HH.out e h; decide), hs1, hk1.more rfl⟩)
    clear hs1 hk1
    go_wp2_with fail
    simp only [Exit.jump]
    go_ret
    exact HJ.out
  · rintro a' w1 h
    exact h.elim

theorem hstep_any (B o t a : Nat) (hd H L : List Nat) (E : List Ent) (s : Hop) (w : World) (hA : ArW w B a H L) (hT : TbW w B t a hd E) (hs : HopW w B o t s) (hz : TabW w) (hB : 0 < B) (hBs : B ≤ w.heap.size) (hp : HPre hd H L E s) :
    Calls Tryd.prog 17 #[.pointer (some ⟨o, 0, none⟩)] w (StepR B o t a hd H L E s w) := by
  have hnx := hp.nx
  cases hk : isKey s.key with
  | false =>
    have h0 : s.next = 0 := by
      apply Classical.byContradiction
      intro h
      rw [hp.key h] at hk
      cases hk
    exact hstep_refuse B o t a hd H L E s w hA hT hs hp.kl hk h0
  | true =>
    rcases (show s.next = 0 ∨ s.next = 1 ∨ s.next = 2 ∨ s.next = 3 by omega) with h0 | h0 | h0 | h0
    · exact hstep_begin B o t a hd H L E s w hA hT hs hz hB hBs hp hk h0
    · exact hstep_walk B o t a hd H L E s w hA hT hs hz hB hBs hp hk h0
    · exact hstep_lay B o t a hd H L E s w hA hT hs hz hB hBs hp hk h0
    · exact hstep_swap B o t a hd H L E s w hA hT hs hz hB hBs hp hk h0
end Go.Proofs.YtfolchpjccjadaaDoor
