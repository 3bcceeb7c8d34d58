/- Cuts of a slice of bytes, and a slice of bytes as a string. -/
import Derived.Test.YtggjipfdfpdecaaNumA
import Derived.Laws.BytesArg
import Derived.Deep.QuietTactic
import Derived.BigQuiet
import Derived.Laws.MakeOwn
import Derived.Laws.OwnMore
namespace Go.Proofs.Ytggjipfdfpdecaa
open Go.RowKit

/-- Bytes as a string. -/
def bs (l : List UInt8) : ByteArray := ⟨l.toArray⟩
theorem bs_inj {l r : List UInt8} (h : bs l = bs r) : l = r := by
  have := congrArg (fun s : ByteArray => s.data.toList) h
  simpa [bs] using this
theorem bs_data (l : List UInt8) : (bs l).data.toList = l := rfl
theorem bs_size (l : List UInt8) : (bs l).size = l.length := by simp [bs, ByteArray.size]
theorem bs_list (l : List UInt8) : (bs l).toList = l := (ByteArray.toList_eq _).trans rfl
theorem bs_of (s : ByteArray) : bs s.data.toList = s := rfl

theorem conv_rd {w : World} {v : Value} {l : List UInt8} (h : RdB w v l) : (convert 25 9 v).run Try.prog w = .ok (.string (bs l)) w := by
  obtain ⟨A, c, rfl, h1, h2, h3⟩ := h
  rcases A with _ | ad
  · have : l = [] := by
      rcases l with _ | ⟨x, l⟩
      · rfl
      · obtain ⟨ad, hA, _⟩ := h3 (by simp)
        cases hA
    subst this
    exact run_convert_bytes_nil w 25 5 Try.underlying25 Try.underlying5 0 c 9 Try.underlying9
  · have hl : (loadCells ad l.length).run Try.prog w = .ok ((l.map fun b => (b.toNat : Int)).map (Value.int .u8)).toArray w := by
      have := run_loadCells_list (P := Try.prog) w ad ((l.map fun b => (b.toNat : Int)).map (Value.int .u8)) (fun j v hj => by
        have hjl : j < l.length := by
          rcases Nat.lt_or_ge j l.length with h | h
          · exact h
          · simp [List.getElem?_eq_none h] at hj
        obtain ⟨ad', hA, hc⟩ := h3 (by omega)
        obtain rfl : ad = ad' := Option.some.inj hA
        rw [hc j hjl]
        simp [List.getElem?_eq_getElem hjl] at hj
        subst hj
        rfl)
      simpa using this
    rw [run_convert_bytes_string w 25 9 5 _ l.length c Try.underlying25 Try.underlying5 Try.underlying9, run_bytesToString w _ l.length c _ hl, foldl_push_bytes]
    congr 2
    simp [bs, ByteArray.empty, ByteArray.emptyWithCapacity, Function.comp_def]
    rfl

theorem add_of_add (a : Addr) (i j : Nat) : (a.add i).add j = a.add (i + j) := by
  unfold Addr.add
  by_cases h1 : i = 0 <;> by_cases h2 : j = 0 <;> simp [h1, h2, Nat.add_assoc]

theorem cut_lh (A : Option Addr) (c : Nat) (l : List UInt8) (lo hi : Int) (h0 : 0 ≤ lo) (h1 : lo ≤ hi) (h2 : hi ≤ l.length) (hc : l.length ≤ c) :
    ∃ (r : List UInt8) (A' : Option Addr) (c' : Nat), r = (l.take hi.toNat).drop lo.toNat ∧
      (∀ W : World, (Instr.slice 25 (.slice A l.length c) (some (.int .i64 lo)) (some (.int .i64 hi)) none).run Try.prog W = .ok (.slice A' r.length c') W) ∧
      (∀ w : World, RdB w (.slice A l.length c) l → RdB w (.slice A' r.length c') r) := by
  have hr : ((l.take hi.toNat).drop lo.toNat).length = hi.toNat - lo.toNat := by rw [List.length_drop, List.length_take]; omega
  refine ⟨_, if c = lo.toNat then A else A.map (·.add lo.toNat), c - lo.toNat, rfl, fun W => ?_, fun w h => ?_⟩
  · obtain ⟨i0, hi0, _, hsz, _⟩ := info_parts info5
    have hel : Try.prog.elem 25 = 5 := by simp [Program.elem, Try.underlying25]
    have hu : Try.prog.underlying 25 = some (.slice (Try.prog.elem 25)) := by rw [hel]; exact Try.underlying25
    rw [run_slice_lh W 25 A l.length c hu .i64 .i64 lo hi h0 h1 (by omega), hel, hr]
    simp [sizeOf, typeInfo, hi0, hsz, sliced, Result.andThen]
  · obtain ⟨A1, c1, he, hc1, hm, hcell⟩ := h
    injection he with e1 e2 e3
    subst e1; subst e3
    refine ⟨_, _, rfl, by rw [hr]; omega, by omega, fun hp => ?_⟩
    rw [hr] at hp
    obtain ⟨ad, rfl, hcells⟩ := hcell (by omega)
    rw [if_neg (by omega)]
    refine ⟨ad.add lo.toNat, rfl, fun j hj => ?_⟩
    rw [hr] at hj
    rw [add_of_add, hcells (lo.toNat + j) (by omega)]
    simp

theorem cut_h (A : Option Addr) (c : Nat) (l : List UInt8) (hi : Int) (h1 : 0 ≤ hi) (h2 : hi ≤ l.length) (hc : l.length ≤ c) :
    ∃ (r : List UInt8), r = l.take hi.toNat ∧
      (∀ W : World, (Instr.slice 25 (.slice A l.length c) none (some (.int .i64 hi)) none).run Try.prog W = .ok (.slice A r.length c) W) ∧
      (∀ w : World, RdB w (.slice A l.length c) l → RdB w (.slice A r.length c) r) := by
  have hr : (l.take hi.toNat).length = hi.toNat := by rw [List.length_take]; omega
  refine ⟨_, rfl, fun W => ?_, fun w h => ?_⟩
  · obtain ⟨i0, hi0, _, hsz, _⟩ := info_parts info5
    have hel : Try.prog.elem 25 = 5 := by simp [Program.elem, Try.underlying25]
    have hu : Try.prog.underlying 25 = some (.slice (Try.prog.elem 25)) := by rw [hel]; exact Try.underlying25
    have ha : (A.map fun x => x.add 0) = A := by cases A <;> simp [Addr.add]
    rw [run_slice_h W 25 A l.length c hu .i64 hi h1 (by omega), hel, hr]
    simp [sizeOf, typeInfo, hi0, hsz, sliced, Result.andThen, ha]
  · obtain ⟨A1, c1, he, hc1, hm, hcell⟩ := h
    injection he with e1 e2 e3
    subst e1; subst e3
    refine ⟨_, _, rfl, by rw [hr]; omega, by omega, fun hp => ?_⟩
    rw [hr] at hp
    obtain ⟨ad, rfl, hcells⟩ := hcell (by omega)
    refine ⟨ad, rfl, fun j hj => ?_⟩
    rw [hr] at hj
    rw [hcells j (by omega)]
    simp

theorem cut_l (A : Option Addr) (c : Nat) (l : List UInt8) (lo : Int) (h0 : 0 ≤ lo) (h2 : lo ≤ l.length) (hc : l.length ≤ c) :
    ∃ (r : List UInt8) (A' : Option Addr) (c' : Nat), r = l.drop lo.toNat ∧
      (∀ W : World, (Instr.slice 25 (.slice A l.length c) (some (.int .i64 lo)) none none).run Try.prog W = .ok (.slice A' r.length c') W) ∧
      (∀ w : World, RdB w (.slice A l.length c) l → RdB w (.slice A' r.length c') r) := by
  have hr : (l.drop lo.toNat).length = l.length - lo.toNat := by rw [List.length_drop]
  refine ⟨_, if c = lo.toNat then A else A.map (·.add lo.toNat), c - lo.toNat, rfl, fun W => ?_, fun w h => ?_⟩
  · obtain ⟨i0, hi0, _, hsz, _⟩ := info_parts info5
    have hel : Try.prog.elem 25 = 5 := by simp [Program.elem, Try.underlying25]
    have hu : Try.prog.underlying 25 = some (.slice (Try.prog.elem 25)) := by rw [hel]; exact Try.underlying25
    rw [run_slice_l W 25 A l.length c hu .i64 lo h0 (by omega), hel, hr]
    simp [sizeOf, typeInfo, hi0, hsz, sliced, Result.andThen]
  · obtain ⟨A1, c1, he, hc1, hm, hcell⟩ := h
    injection he with e1 e2 e3
    subst e1; subst e3
    refine ⟨_, _, rfl, by rw [hr]; omega, by omega, fun hp => ?_⟩
    rw [hr] at hp
    obtain ⟨ad, rfl, hcells⟩ := hcell (by omega)
    rw [if_neg (by omega)]
    refine ⟨ad.add lo.toNat, rfl, fun j hj => ?_⟩
    rw [hr] at hj
    rw [add_of_add, hcells (lo.toNat + j) (by omega)]
    simp

theorem below_drewN {B : Nat} {w w' : World} (h : Below B w w') (n : Nat) : Below B w (w'.drewN n) := ⟨h.os, h.tape, h.output, h.size, h.block⟩
theorem u64_of {n : Int} (h : (Lit.int .u64 n).wf = true) : ∃ k : Nat, n = (k : Int) ∧ k < 18446744073709551616 := by
  simp [Lit.wf, IntKind.min, IntKind.max, IntKind.signed, IntKind.bits] at h
  exact ⟨n.toNat, by omega, by omega⟩
theorem u8_of {n : Int} (h : (Lit.int .u8 n).wf = true) : ∃ b : UInt8, n = (b.toNat : Int) := by
  simp [Lit.wf, IntKind.min, IntKind.max, IntKind.signed, IntKind.bits] at h
  refine ⟨UInt8.ofNat n.toNat, ?_⟩
  rw [UInt8.toNat_ofNat']
  omega
theorem i64_of {n : Int} (h : (Lit.int .i64 n).wf = true) : -9223372036854775808 ≤ n ∧ n ≤ 9223372036854775807 := by
  simp [Lit.wf, IntKind.min, IntKind.max, IntKind.signed, IntKind.bits] at h
  omega

theorem xor_bv (a b : UInt8) : Value.int .u8 (bits .xor .u8 (a.toNat : Int) (b.toNat : Int)) = bv (a ^^^ b) := by
  rw [u8_xor_nat a.toNat b.toNat a.toNat_lt b.toNat_lt, bv, UInt8.toNat_xor]

/-! a row of the call's own: its shape, its cells, a store -/
theorem Own.form {w : World} {base : Nat} {v : Value} {l : List UInt8} (h : Own w base v l) (hp : 0 < l.length) : ∃ g cap, v = .slice (some ⟨g, 0, none⟩) l.length cap ∧ base ≤ g ∧ g < w.heap.size ∧ l.length ≤ cap ∧ cap ≤ maxLen := by
  rcases h.2 with ⟨_, h0⟩ | ⟨g, cap, cur, hv, hb, hg, h1, h2, _⟩
  · omega
  · exact ⟨g, cap, hv, hb, (Array.getElem?_eq_some_iff.1 hg).1, h1, h2⟩
theorem Own.at_ {w : World} {base g n cap : Nat} {l : List UInt8} (h : Own w base (.slice (some ⟨g, 0, none⟩) n cap) l) (i : Nat) (hi : i < l.length) :
    w.cell? ⟨g, i, none⟩ = some (bv l[i]) ∧ w.frozen? ⟨g, i, none⟩ = false := by
  constructor
  · have := World.ownsRow.cells h (g := g) rfl i _ (bvs_get l i hi)
    rwa [addp] at this
  · rcases h.2 with ⟨h', _⟩ | ⟨g', cap', cur, h', _, hh, _⟩
    · cases h'
    · have : g = g' := by injection h' with h'; injection h' with h'; injection h' with h'
      subst this
      simp [World.frozen?, hh]
theorem Own.set_ {w : World} {base g n cap : Nat} {l : List UInt8} (h : Own w base (.slice (some ⟨g, 0, none⟩) n cap) l) (i : Nat) (b : UInt8) :
    Own (w.setCell ⟨g, i, none⟩ (bv b)) base (.slice (some ⟨g, 0, none⟩) n cap) (l.set i b) ∧ Below base w (w.setCell ⟨g, i, none⟩ (bv b)) := by
  have hg := World.ownsRow.lt h g rfl
  have hn : n = l.length := by
    rcases h.2 with ⟨h', _⟩ | ⟨g', cap', cur, h', _⟩
    · cases h'
    · injection h'
  subst hn
  have hs := World.ownsRow.stored h i (bv b)
  refine ⟨?_, (Below.refl base w).setCell hg.1 _⟩
  unfold Own
  have he : (bvs l).set i (bv b) = bvs (l.set i b) := by simp [bvs, List.map_set]
  rw [List.length_set, ← he]
  exact hs.1
/-- make([]byte, 0, n) -/
theorem make_run (n : Nat) (hn : n ≤ 281474976710656) (W : World) :
    (Instr.makeSlice 25 (.int .i64 0) (.int .i64 (n : Int))).run Try.prog W = .ok (.slice (some ⟨W.heap.size, 0, none⟩) 0 n) (W.alloc (.cells (madeCells #[.int .u8 0] n) 5)) := by
  obtain ⟨i0, hi, hz0, hz1, hz2⟩ := info_parts info5
  have h := run_make (P := Try.prog) W 25 5 i0 (.int .u8 0) Try.underlying25 hi hz0 .i64 .i64 0 (n : Int) (by omega) (by omega) (by rw [hz2]; omega) (by omega)
  simpa [hz1, Value.cells] using h
theorem make_own (W : World) (base n : Nat) (hb : base ≤ W.heap.size) (hn : n ≤ 281474976710656) :
    Own (W.alloc (.cells (madeCells #[.int .u8 0] n) 5)) base (.slice (some ⟨W.heap.size, 0, none⟩) 0 n) [] :=
  World.ownsRow_made W _ n hb (by simp only [maxLen]; omega) (by simp [size_madeCells])

theorem RdB.drew {w : World} {v : Value} {l : List UInt8} (h : RdB w v l) : RdB w.drew v l := h
theorem RdB.drewN {w : World} {v : Value} {l : List UInt8} (h : RdB w v l) (n : Nat) : RdB (w.drewN n) v l := h

theorem lit_rd' (w : World) (l : List UInt8) (fr : Nat × Nat) (hl : l.length ≤ maxLen) : RdB (w.alloc (.cells (bvs l).toArray 5 fr)) (.slice (some ⟨w.heap.size, 0, none⟩) l.length l.length) l := by
  refine ⟨_, _, rfl, Nat.le_refl _, hl, fun _ => ⟨_, rfl, fun j hj => ?_⟩⟩
  rw [addp, World.cell?_alloc_mark]
  simpa using bvs_get l j hj

/-- The example at the head of the statements of layer 1. -/
theorem uvar_300 : ([7] : List UInt8) ++ uvar 300 = [7, 172, 2] := by
  rw [uvar_ge (by omega), uvar_lt (by omega)]
  rfl

set_option maxHeartbeats 400000 in
theorem shown_any (w : World) : Calls Try.prog 25 #[] w fun e w' => e = .returned (.bool true) ∧ Below w.heap.size w w' := by
  have h0 := put_any _ [7] 300 _ (lit_rd' w [7] (0, 0) (by simp [maxLen])) (by omega) (by simp)
  have h1 : (bvs [7]).toArray = #[.int .u8 7] := rfl
  rw [h1, uvar_300, World.size_alloc] at h0
  have H0 := Lib.hid h0; clear h0 h1
  go_enter Try.func25, Try.ntmps25
  go_wp2_with fail
  refine H0.out.mono ?_
  rintro e w1 ⟨v1, rfl, ho1, hb1⟩
  have hc := conv_rd ho1.rd
  have HB := Lib.hid hb1; clear hb1 ho1
  go_wp2_with fail
  go_ret
  exact ⟨by rw [bs_list]; rfl, ((Below.refl _ _).alloc (Nat.le_refl _) _).trans (HB.out.mono (by simp))⟩
end Go.Proofs.Ytggjipfdfpdecaa
