/- The walk of the law's stepper. -/
import Derived.Test.YtfolchpjccjadaaDoorTh
import Derived.Test.YtfolchpjccjadaaDoorZ03
namespace Go.Proofs.YtfolchpjccjadaaDoor
open Go.RowKit
set_option linter.unusedVariables false

/-- The arena, the table, the list in memory. -/
def MemW (w : World) (B a t l : Nat) (hd : List Nat) (m : PM) : Prop := ArW w B a m.H m.L ∧ TbW w B t a hd m.E ∧ LsW w B l a m.N
def OpW (w : World) (B t l o : Nat) : OpD → Prop
  | .hash s => HopW w B o t s
  | .skip s => SopW w B o l s
def stepV (o : Nat) (kind : Bool) : Value := if kind = true then .agg #[.pointer (some ⟨o, 0, none⟩), .pointer none] else .agg #[.pointer none, .pointer (some ⟨o, 0, none⟩)]
theorem MemW.keep {w w' : World} {B B' a t l : Nat} {hd : List Nat} {m : PM} {S : List TypeId} {x : Option Nat} (h : MemW w B a t l hd m) (hk : Keep B' S x w w') (hS : [51, 48, 55, 3, 77, 61, 62, 67].all (fun t => !S.contains t) = true) (hx : ∀ g cs t', x = some g → w.heap[g]? = some (.cells cs t' (0, 0)) → [51, 48, 55, 3, 77, 61, 62, 67].contains t' = false) : MemW w' B a t l hd m := by
  have h1 : ∀ t, [51, 48, 55, 3, 77, 61, 62, 67].contains t = true → S.contains t = false := fun t ht => by
    have := List.all_eq_true.1 hS t (by simpa using ht)
    simpa using this
  have h2 : ∀ g cs t', x = some g → w.heap[g]? = some (.cells cs t' (0, 0)) → ∀ u, [51, 48, 55, 3, 77, 61, 62, 67].contains u = true → t' ≠ u := fun g cs t' e hh u hu he => by
    have := hx g cs t' e hh
    rw [he, hu] at this
    cases this
  obtain ⟨a1, a2, a3⟩ := h
  refine ⟨a1.keep hk (h1 51 rfl) (h1 48 rfl) (fun g cs t e hh => ⟨h2 g cs t e hh 51 rfl, h2 g cs t e hh 48 rfl⟩), a2.keep hk (h1 55 rfl) (h1 3 rfl) (h1 77 rfl) (fun g cs t e hh => ⟨h2 g cs t e hh 55 rfl, h2 g cs t e hh 3 rfl, h2 g cs t e hh 77 rfl⟩), a3.keep hk (h1 61 rfl) (h1 62 rfl) (h1 67 rfl) (fun g cs t e hh => ⟨h2 g cs t e hh 61 rfl, h2 g cs t e hh 62 rfl, h2 g cs t e hh 67 rfl⟩)⟩
theorem OpW.keep {w w' : World} {B B' t l o : Nat} {d : OpD} {S : List TypeId} {x : Option Nat} (h : OpW w B t l o d) (hk : Keep B' S x w w') (h1 : S.contains 70 = false) (h2 : S.contains 73 = false) (hx : x ≠ some o) : OpW w' B t l o d := by
  cases d with
  | hash s => exact HopW.keep h hk h1 hx
  | skip s => exact SopW.keep h hk h2 hx
theorem OpW.lt {w : World} {B t l o : Nat} {d : OpD} (h : OpW w B t l o d) : o < w.heap.size := by
  cases d with
  | hash s => exact HopW.lt h
  | skip s => exact SopW.lt h

set_option maxRecDepth 100000 in
set_option maxHeartbeats 1000000 in
theorem stepper_hash (o : Nat) (w : World) (R : Bool → World → Prop) (hC : Calls Tryd.prog 17 #[.pointer (some ⟨o, 0, none⟩)] (w.alloc (.cells #[.pointer (some ⟨o, 0, none⟩), .pointer none] 40)) fun e w' => ∃ d, e = .returned (.bool d) ∧ R d w') :
    Calls Tryd.prog 9 #[.agg #[.pointer (some ⟨o, 0, none⟩), .pointer none]] w fun e w' => ∃ d, e = .returned (.bool d) ∧ R d w' := by
  have HC := Lib.hid hC
  clear hC
  go_enter Tryd.func9, Tryd.ntmps9
  go_wp2_with fail
  refine HC.out.mono ?_
  rintro e w1 ⟨d, rfl, hR⟩
  have HR := Lib.hid hR
  clear hR
  go_wp2_with fail
  go_ret
  exact ⟨d, rfl, HR.out⟩
set_option maxRecDepth 100000 in
set_option maxHeartbeats 1000000 in
theorem stepper_skip (o : Nat) (w : World) (R : Bool → World → Prop) (hC : Calls Tryd.prog 18 #[.pointer (some ⟨o, 0, none⟩)] (w.alloc (.cells #[.pointer none, .pointer (some ⟨o, 0, none⟩)] 40)) fun e w' => ∃ d, e = .returned (.bool d) ∧ R d w') :
    Calls Tryd.prog 9 #[.agg #[.pointer none, .pointer (some ⟨o, 0, none⟩)]] w fun e w' => ∃ d, e = .returned (.bool d) ∧ R d w' := by
  have HC := Lib.hid hC
  clear hC
  go_enter Tryd.func9, Tryd.ntmps9
  go_wp2_with fail
  refine HC.out.mono ?_
  rintro e w1 ⟨d, rfl, hR⟩
  have HR := Lib.hid hR
  clear hR
  go_wp2_with fail
  go_ret
  exact ⟨d, rfl, HR.out⟩

theorem dstep_any {B a t l o : Nat} {K : List (List UInt8)} {hd : List Nat} {wk : Nat} {fl : Bool} {p : Nat} {m : PM} {g : Gh} {x : OpD} {w : World} (hM : MemW w B a t l hd m) (hO : OpW w B t l o x) (hz : TabW w) (hB : 0 < B) (hBs : B ≤ w.heap.size) (hG : Glob K hd m g) (hS : OpOk K hd wk fl p m g x) (hd0 : 0 < hd.length) (hd1 : hd.length ≤ 256) (hl : m.L.length + 8 < 2000) (he : m.E.length + m.N.length < 100000) (hkl : ∀ k, k ∈ K → k.length ≤ 140737488355328) :
    Calls Tryd.prog 9 #[stepV o x.kind] w fun e w' => ∃ d, e = .returned (.bool d) ∧ ∃ m' x', DStep hd m x m' x' d ∧ MemW w' B a t l hd m' ∧ OpW w' B t l o x' ∧ Keep B [51, 48, 55, 77, 61, 62] (some o) w w' := by
  cases x with
  | hash s =>
    have e0 : stepV o (OpD.hash s).kind = .agg #[.pointer (some ⟨o, 0, none⟩), .pointer none] := rfl
    rw [e0]
    have hk : Keep B [] none w (w.alloc (.cells #[.pointer (some ⟨o, 0, none⟩), .pointer none] 40)) := Keep.of_alloc w _ hBs
    obtain ⟨a1, a2, a3⟩ := hM.keep hk rfl (by simp)
    refine stepper_hash o w _ ((hstep_any B o t a hd m.H m.L m.E s _ a1 a2 (HopW.keep hO hk rfl (by simp)) (hz.keep hk hB) hB (Nat.le_trans hBs hk.size) (hop_pre hG hS hd0 hd1 (by omega) (by omega) hkl)).mono ?_)
    rintro e w' ⟨H', L', E', s', d, rfl, h1, h2, h3, h4, h5⟩
    refine ⟨d, rfl, { m with H := H', L := L', E := E' }, .hash s', .inl ⟨s, s', H', L', E', rfl, rfl, rfl, h1⟩, ⟨h2, h3, ?_⟩, h4, (hk.mono rfl).trans (h5.more rfl)⟩
    exact a3.keep h5 rfl rfl rfl (fun g cs t e hh => by
      obtain ⟨_, _, _, _, hh2⟩ := HopW.keep hO hk rfl (by simp)
      obtain rfl := only_type hh2 e hh
      decide)
  | skip s =>
    have e0 : stepV o (OpD.skip s).kind = .agg #[.pointer none, .pointer (some ⟨o, 0, none⟩)] := rfl
    rw [e0]
    have hk : Keep B [] none w (w.alloc (.cells #[.pointer none, .pointer (some ⟨o, 0, none⟩)] 40)) := Keep.of_alloc w _ hBs
    obtain ⟨a1, a2, a3⟩ := hM.keep hk rfl (by simp)
    refine stepper_skip o w _ ((sstep_any B o l a m.H m.L m.N s _ a1 a3 (SopW.keep hO hk rfl (by simp)) (hz.keep hk hB) hB (Nat.le_trans hBs hk.size) (sop_pre hG hS (by omega) hl hkl)).mono ?_)
    rintro e w' ⟨H', L', N', s', d, rfl, h1, h2, h3, h4, h5⟩
    refine ⟨d, rfl, { m with H := H', L := L', N := N' }, .skip s', .inr ⟨s, s', H', L', N', rfl, rfl, rfl, h1⟩, ⟨h2, ?_, h3⟩, h4, (hk.mono rfl).trans (h5.more rfl)⟩
    exact a2.keep h5 rfl rfl rfl (fun g cs t e hh => by
      obtain ⟨_, _, _, _, _, hh2⟩ := SopW.keep hO hk rfl (by simp)
      obtain rfl := only_type hh2 e hh
      decide)
end Go.Proofs.YtfolchpjccjadaaDoor
