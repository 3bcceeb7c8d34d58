/- Small walks of layer 4's statements: the document's Put; lent, kept and spoil; is there a byte that is not nothing? -/
import Derived.Test.YtggjipfdfpdecaaFRef
import Derived.Test.YtggjipfdfpdecaaNumPuts
namespace Go.Proofs.Ytggjipfdfpdecaa
open Go.RowKit

set_option maxRecDepth 100000 in
set_option maxHeartbeats 1000000 in
theorem rput_bad (v vb : Value) (b body : List UInt8) (seq : Int) (w : World) (hb : RdB w v b) (hbody : RdB w vb body) (hl : b.length ≤ 140737488355328) (hl2 : body.length ≤ 140737488355328) (hbad : b.length % 32 ≠ 0 ∨ 65536 < body.length) :
    Calls Try.prog 39 #[v, .int .u64 seq, vb] w fun e w' => e = .returned (.tuple #[.slice none 0 0, .int .i64 (if b.length % 32 ≠ 0 then 2 else 40)]) ∧ w = w' := by
  obtain ⟨A, c, rfl, _, _, _⟩ := id hb
  obtain ⟨A2, c2, rfl, _, _, _⟩ := id hbody
  by_cases h1 : b.length % 32 ≠ 0
  · have t1 : (((b.length : Int) % 32) != 0) = true := by rw [bne_iff_ne]; omega
    rw [if_pos h1]
    go_enter Try.func39, Try.ntmps39
    go_wp2_with fail
    go_ret2
    exact ⟨rfl, rfl⟩
  · have t1 : (((b.length : Int) % 32) != 0) = false := by rw [bne_eq_false_iff_eq]; omega
    have t2 : (65536 : Int) < (body.length : Int) := by omega
    rw [if_neg h1]
    go_enter Try.func39, Try.ntmps39
    go_wp2_with fail
    go_ret2
    exact ⟨rfl, rfl⟩

set_option maxRecDepth 100000 in
set_option maxHeartbeats 1000000 in
theorem rput_any (v vb : Value) (b body : List UInt8) (seq : Nat) (w : World) (hb : RdB w v b) (hbody : RdB w vb body) (hseq : seq < 18446744073709551616) (hl : b.length ≤ 140737400000000) (h1 : b.length % 32 = 0) (h2 : body.length ≤ 65536) :
    Calls Try.prog 39 #[v, .int .u64 seq, vb] w fun e w' => ∃ v', e = .returned (.tuple #[v', .int .i64 0]) ∧ Own w' w.heap.size v' (b ++ frameOf seq body) ∧ Below w.heap.size w w' := by
  obtain ⟨A, c, rfl, _, _, _⟩ := id hb
  obtain ⟨A2, c2, rfl, _, _, _⟩ := id hbody
  have t1 : (((b.length : Int) % 32) != 0) = false := by rw [bne_eq_false_iff_eq]; omega
  have t2 : ¬ (65536 : Int) < (body.length : Int) := by omega
  have HB := Lib.hid hb; clear hb
  have HD := Lib.hid hbody; clear hbody
  have HSQ := Lib.hid hseq; clear hseq
  clear h1
  go_enter Try.func39, Try.ntmps39
  go_wp2_with (at_builtin; refine own_append_row w.heap.size rfl (.tmp 16) (.tmp 17) rfl _ _ [] b rfl rfl (Own.nil _ _) HB.out ?hb ?hl ?_; (case hb => exact Nat.le_refl _); (case hl => simp only [List.length_nil]; omega); intro v3 w3 hown hb3 hg hat; rw [List.nil_append] at hown; have HO3 := Lib.hid hown; clear hown; have HB3 := Lib.hid hb3; clear hb3 hg hat; clear t1)
  refine (refFrame_any _ body seq w3 (HD.out.below HB3.out) HSQ.out h2).mono ?_
  rintro e w4 ⟨v4, rfl, ho4, hb4⟩
  have HO3b := Lib.hid (HO3.out.below hb4); clear HO3
  have HB4 := Lib.hid (HB3.out.trans (hb4.mono HB3.out.size)); clear HB3 hb4
  have HO4 := Lib.hid ho4.rd; clear ho4
  have hfl : (frameOf seq body).length ≤ 80000 := by rw [frameOf_len]; unfold bl; omega
  obtain ⟨F, hF⟩ : ∃ F, F = frameOf seq body := ⟨_, rfl⟩
  rw [← hF] at HO4 hfl
  have HF := Lib.hid hF; clear hF
  go_wp2_with (at_builtin; refine own_append_row w.heap.size rfl (.tmp 19) (.tmp 22) rfl _ _ b F rfl rfl HO3b.out HO4.out ?hb2 ?hl2 ?_; (case hb2 => exact HB4.out.size); (case hl2 => omega); intro v5 w5 hown hb5 hg hat; have HO5 := Lib.hid hown; clear hown; have HB5 := Lib.hid (HB4.out.trans hb5); clear hb5 hg hat)
  go_ret2
  exact ⟨_, rfl, by rw [← HF.out]; exact HO5.out, HB5.out⟩

theorem cut_to (W : World) (A : Option Addr) (n cap hi : Nat) (h : hi ≤ cap) : (Instr.slice 25 (.slice A n cap) none (some (.int .i64 (hi : Int))) none).run Try.prog W = .ok (.slice A hi cap) W := by
  obtain ⟨i0, hi0, _, hsz, _⟩ := info_parts info5
  have hel : Try.prog.elem 25 = 5 := by simp [Program.elem, Try.underlying25]
  have hu : Try.prog.underlying 25 = some (.slice (Try.prog.elem 25)) := by rw [hel]; exact Try.underlying25
  have ha : (A.map fun x => x.add 0) = A := by cases A <;> simp [Addr.add]
  rw [run_slice_h W 25 A n cap hu .i64 hi (by omega) (by omega), hel]
  simp [sizeOf, typeInfo, hi0, hsz, sliced, Result.andThen, ha]

/-- What lent answers: bytes with a mark behind them. -/
def Lent (w : World) (base : Nat) (v : Value) (l : List UInt8) : Prop :=
  ∃ g cap, v = .slice (some ⟨g, 0, none⟩) l.length cap ∧ Own w base (.slice (some ⟨g, 0, none⟩) (l.length + 1) cap) (l ++ [77])
theorem Lent.rd {w : World} {base : Nat} {v : Value} {l : List UInt8} (h : Lent w base v l) : RdB w v l := by
  obtain ⟨g, cap, rfl, ho⟩ := h
  obtain ⟨A, c, he, h1, h2, h3⟩ := ho.rd
  injection he with e1 e2 e3
  subst e1 e3
  simp only [List.length_append, List.length_cons, List.length_nil] at h1 h3
  refine ⟨_, _, rfl, by omega, h2, fun hp => ?_⟩
  obtain ⟨ad, hA, hc⟩ := h3 (by omega)
  refine ⟨ad, hA, fun j hj => ?_⟩
  rw [hc j (by omega), List.getElem_append_left hj]
theorem Lent.below {w w' : World} {base : Nat} {v : Value} {l : List UInt8} (h : Lent w base v l) (hb : Below w.heap.size w w') : Lent w' base v l := by
  obtain ⟨g, cap, rfl, ho⟩ := h
  exact ⟨g, cap, rfl, ho.below hb⟩

set_option maxRecDepth 100000 in
set_option maxHeartbeats 1000000 in
theorem flent_any (v : Value) (l : List UInt8) (w : World) (hr : RdB w v l) (hl : l.length ≤ 140737488355320) :
    Calls Try.prog 37 #[v] w fun e w' => ∃ v', e = .returned v' ∧ Lent w' w.heap.size v' l ∧ Below w.heap.size w w' := by
  obtain ⟨A, c, rfl, hc1, hc2, _⟩ := id hr
  have hw1 : IntKind.i64.wrap ((l.length : Int) + 1) = (l.length : Int) + 1 := IntWalk.i64_in _ (by omega)
  have hmk : ∀ W : World, (Instr.makeSlice 25 (.int .i64 0) (.int .i64 ((l.length : Int) + 1))).run Try.prog W = .ok (.slice (some ⟨W.heap.size, 0, none⟩) 0 (l.length + 1)) (W.alloc (.cells (madeCells #[.int .u8 0] (l.length + 1)) 5)) := make_run (l.length + 1) (by omega)
  have HR := Lib.hid (hr.below ((Below.refl _ _).alloc (Nat.le_refl _) (.cells (madeCells #[.int .u8 0] (l.length + 1)) 5))); clear hr
  have HO := Lib.hid (make_own w w.heap.size (l.length + 1) (Nat.le_refl _) (by omega))
  have HB := Lib.hid ((Below.refl w.heap.size w).alloc (Nat.le_refl _) (.cells (madeCells #[.int .u8 0] (l.length + 1)) 5))
  go_enter Try.func37, Try.ntmps37
  go_wp2_with (first
    | (at_builtin; refine own_append_row w.heap.size rfl (.tmp 7) (.tmp 8) rfl _ _ [] l rfl rfl HO.out HR.out ?hb ?hl ?_; (case hb => exact HB.out.size); (case hl => simp only [List.length_nil]; omega); intro v3 w3 hown hb3 hg hat; rw [List.nil_append] at hown; have HO3 := Lib.hid hown; clear hown; have HB3 := Lib.hid (HB.out.trans hb3); clear hb3 hg hat HO HR HB)
    | (at_builtin; refine own_append1 w.heap.size rfl (.tmp 9) (.tmp 10) rfl _ l 77 _ rfl rfl rfl HO3.out ?hb2 ?hl2 ?_; (case hb2 => exact HB3.out.size); (case hl2 => omega); intro v4 w4 hown hb4 hg hat; obtain ⟨g, cap, hv4, _, _, hcap, hcm⟩ := hown.form (by simp); subst hv4; rw [List.length_append] at hown hcap ⊢; simp only [List.length_cons, List.length_nil, Nat.zero_add] at hown hcap ⊢; have HO4 := Lib.hid hown; clear hown; have HB4 := Lib.hid (HB3.out.trans hb4); clear hb4 hg hat; have hcut := fun W => cut_to W (some ⟨g, 0, none⟩) (l.length + 1) cap l.length (by omega)))
  go_ret
  exact ⟨_, rfl, ⟨g, cap, rfl, HO4.out⟩, HB4.out⟩

set_option maxRecDepth 100000 in
set_option maxHeartbeats 1000000 in
theorem fkept_any (base : Nat) (v vb : Value) (l : List UInt8) (w : World) (hv : Lent w base v l) (hr : RdB w vb l) (hl : l.length ≤ 140737488355320) :
    Calls Try.prog 41 #[v, vb] w fun e w' => e = .returned (.bool true) ∧ Below w.heap.size w w' := by
  have k1 := conv_rd hv.rd
  have k2 := conv_rd hr
  obtain ⟨g, cap, rfl, ho⟩ := hv
  obtain ⟨A, c, rfl, hc1, hc2, _⟩ := id hr
  have hcap : l.length + 1 ≤ cap := by
    obtain ⟨A', c', he, h1, _⟩ := ho.rd
    injection he with e1 e2 e3
    subst e3
    simpa using h1
  have hw1 : IntKind.i64.wrap ((l.length : Int) + 1) = (l.length : Int) + 1 := IntWalk.i64_in _ (by omega)
  have hcut : ∀ W : World, (Instr.slice 25 (.slice (some ⟨g, 0, none⟩) l.length cap) none (some (.int .i64 ((l.length : Int) + 1))) none).run Try.prog W = .ok (.slice (some ⟨g, 0, none⟩) (l.length + 1) cap) W := fun W => cut_to W (some ⟨g, 0, none⟩) l.length cap (l.length + 1) hcap
  obtain ⟨hcl, hfr⟩ := ho.at_ l.length (by simp)
  have hcl2 : w.cell? ⟨g, l.length, none⟩ = some (.int .u8 77) := by rw [hcl]; simp; rfl
  clear ho hr hcl
  go_enter Try.func41, Try.ntmps41
  go_wp2_with fail
  go_ret
  exact ⟨rfl, Below.refl _ _⟩

set_option maxRecDepth 100000 in
set_option maxHeartbeats 1000000 in
theorem spoil_any (base : Nat) (v : Value) (l : List UInt8) (w : World) (ho : Own w base v l) (hl : l.length ≤ 140737488355320) :
    Calls Try.prog 40 #[v] w fun e w' => e = .returned (.tuple #[]) ∧ w.grownBy w' v.ownBlock := by
  by_cases hp : 0 < l.length
  · obtain ⟨g, cap, rfl, _, _, hcap, hcm⟩ := ho.form hp
    go_enter Try.func40, Try.ntmps40
    go_wp2
    go_loopw [2] (fun i wr => ∃ (k : Nat) (L : List UInt8), k ≤ l.length ∧ i = .int .i64 (k : Int) ∧ L.length = l.length ∧ Own wr base (.slice (some ⟨g, 0, none⟩) l.length cap) L ∧ w.grownBy wr (some g)) (fun i _ => l.length - (intOf i).toNat)
    case atStart => exact ⟨0, l, by omega, rfl, rfl, ho, World.grownBy.refl _ _⟩
    case round =>
      obtain ⟨k, L, hk, rfl, hL, hown, hgr⟩ := hrel
      have HGR := Lib.hid hgr; clear hgr
      by_cases hlt : k < l.length
      · obtain ⟨z, hcell⟩ : ∃ z : UInt8, wr.cell? ⟨g, k, none⟩ = some (.int .u8 (z.toNat : Int)) := ⟨_, (hown.at_ k (by omega)).1⟩
        have hfr := (hown.at_ k (by omega)).2
        have hs := (hown.set_ k 78).1
        have HL2 := Lib.hid hL; clear hL
        have HW := Lib.hid hs; clear hs hown
        go_wp2_with fail
        go_roundw
        case rel => exact ⟨k + 1, L.set k 78, by omega, by go_num, by rw [List.length_set]; exact HL2.out, HW.out, only_set HGR.out _ _⟩
        case measure => simp [intOf]; omega
      · clear hL hown
        go_wp2_with fail
        go_end0
        exact ⟨rfl, HGR.out⟩
  · obtain rfl : l = [] := List.eq_nil_of_length_eq_zero (by omega)
    obtain ⟨A, c, rfl, _, _, _⟩ := ho.rd
    clear ho
    go_enter Try.func40, Try.ntmps40
    go_wp2
    go_loopw [2] (fun i wr => i = .int .i64 0 ∧ wr = w) (fun i _ => 0)
    case atStart => exact ⟨rfl, rfl⟩
    case round =>
      obtain ⟨rfl, rfl⟩ := hrel
      go_wp2_with fail
      go_end0
      exact ⟨rfl, World.grownBy.refl _ _⟩

/-! ### is there a byte that is not nothing? -/
set_option maxHeartbeats 400000 in
theorem isNot_any (n : Nat) (w : World) : Calls Try.prog 80 #[.int .u8 n] w fun e w' => e = .returned (.bool (decide (n ≠ 0))) ∧ w = w' := by
  go_enter Try.func80, Try.ntmps80
  go_wp2_with fail
  go_ret
  refine ⟨?_, rfl⟩
  show _ = Ending.returned (Value.bool (decide (n ≠ 0)))
  congr 1
  change Value.bool _ = Value.bool _
  congr 1
  rw [Bool.eq_iff_iff]
  simp
end Go.Proofs.Ytggjipfdfpdecaa
