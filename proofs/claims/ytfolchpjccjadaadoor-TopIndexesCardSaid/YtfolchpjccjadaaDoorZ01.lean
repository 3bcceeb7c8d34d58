/- Texts of this proof, merged: Ba, Tz, Ar, Al, Af, Ap, Aa, An. Each part says at its head what it proves. -/
import Derived.Test.YtfolchpjccjadaaDoorRows
import Derived.WalkKit
import Derived.WalkSpells
import Derived.WalkLawsBesides
import Derived.Lib.Hide
import Derived.Maps.AppendAt
import Derived.Deep.AppendLies
import Derived.Deep.CutBlock
import Derived.StillTailTactics
import Derived.IntWalk
import Derived.Deep.RegionHeld3
import Derived.Deep.DeepCutAuto
import Derived.Deep.QuietTactic
import Derived.Laws.BitsAllLaws
import Derived.Laws.BitsLemmas
/- The words of this seat's proofs: which blocks of memory have turned; cells of a block; rows of the call's own. -/
namespace Go.Proofs.YtfolchpjccjadaaDoor
open Go.RowKit
set_option linter.unusedVariables false

theorem box_cells {w : World} {g : Nat} {cs : Array Value} {t : TypeId} (h : w.heap[g]? = some (.cells cs t (0, 0))) (i : Nat) (u : Value) (hu : cs[i]? = some u) : w.cell? ⟨g, i, none⟩ = some u := by rw [cell_of_row w g i cs t (0, 0) h]; exact hu
theorem froz_all {w : World} {g : Nat} {cs : Array Value} {t : TypeId} (h : w.heap[g]? = some (.cells cs t (0, 0))) : ∀ o, w.frozen? ⟨g, o, none⟩ = false := by intro o; simp [World.frozen?, h]
theorem heap_lt {w : World} {g : Nat} {o : Obj} (h : w.heap[g]? = some o) : g < w.heap.size := (Array.getElem?_eq_some_iff.1 h).1
theorem heap_below {w w' : World} {g : Nat} {o : Obj} (h : w.heap[g]? = some o) (hb : Below w.heap.size w w') : w'.heap[g]? = some o := (hb.block g (heap_lt h)).trans h
theorem only_one (w : World) (g i : Nat) (u : Value) : w.grownBy (w.setCell ⟨g, i, none⟩ u) (some g) :=
  ⟨rfl, rfl, rfl, by simp [World.setCell], fun k _ hk => Below.heap_setCell w ⟨g, i, none⟩ u k (fun e => hk (by rw [e]))⟩
theorem set_at {w : World} {g : Nat} {cs : Array Value} {t : TypeId} (h : w.heap[g]? = some (.cells cs t (0, 0))) (i : Nat) (u : Value) : (w.setCell ⟨g, i, none⟩ u).heap[g]? = some (.cells (cs.setIfInBounds i u) t (0, 0)) := heap_setCell_same w g i cs t u h
theorem heap_new {W : World} {o : Obj} {H : Nat} (hH : W.heap.size = H) : (W.alloc o).heap[H]? = some o := by subst hH; exact heap_alloc_new W o
theorem addp (g j : Nat) : (⟨g, 0, none⟩ : Addr).add j = ⟨g, j, none⟩ := by unfold Addr.add; split <;> simp_all

/-- Blocks below B are as they were, and so is each block but those of the types S and the block x. -/
structure Keep (B : Nat) (S : List TypeId) (x : Option Nat) (w w' : World) : Prop where
  os : w'.os = w.os
  tape : w'.tape = w.tape
  output : w'.output = w.output
  size : w.heap.size ≤ w'.heap.size
  low : ∀ k, k < B → w'.heap[k]? = w.heap[k]?
  rest : ∀ k cs t, w.heap[k]? = some (.cells cs t (0, 0)) → S.contains t = false → x ≠ some k → w'.heap[k]? = some (.cells cs t (0, 0))
section
variable {B : Nat} {S T : List TypeId} {x : Option Nat} {w w1 w2 : World}
theorem Keep.refl (B : Nat) (S : List TypeId) (x : Option Nat) (w : World) : Keep B S x w w := ⟨rfl, rfl, rfl, Nat.le_refl _, fun _ _ => rfl, fun _ _ _ h _ _ => h⟩
theorem Keep.trans (h : Keep B S x w w1) (k : Keep B S x w1 w2) : Keep B S x w w2 :=
  ⟨k.os.trans h.os, k.tape.trans h.tape, k.output.trans h.output, Nat.le_trans h.size k.size, fun i hi => (k.low i hi).trans (h.low i hi), fun i cs t hi ht hx => k.rest i cs t (h.rest i cs t hi ht hx) ht hx⟩
theorem sub_not {S T : List TypeId} (hS : S.all (fun t => T.contains t) = true) (t : TypeId) (ht : T.contains t = false) : S.contains t = false := by
  cases h : S.contains t with
  | false => rfl
  | true =>
    have h1 := List.all_eq_true.1 hS t (by simpa using h)
    rw [ht] at h1
    cases h1
theorem Keep.mono (h : Keep B S none w w1) (hS : S.all (fun t => T.contains t) = true) : Keep B T x w w1 :=
  ⟨h.os, h.tape, h.output, h.size, h.low, fun i cs t hi ht _ => h.rest i cs t hi (sub_not hS t ht) (by simp)⟩
theorem Keep.more (h : Keep B S x w w1) (hS : S.all (fun t => T.contains t) = true) : Keep B T x w w1 :=
  ⟨h.os, h.tape, h.output, h.size, h.low, fun i cs t hi ht hx => h.rest i cs t hi (sub_not hS t ht) hx⟩
/-- What a block of type t was written in. -/
theorem Keep.of_grown {g : Nat} {cs : Array Value} {t : TypeId} (hg : w.grownBy w1 (some g)) (hh : w.heap[g]? = some (.cells cs t (0, 0))) (hB : B ≤ g) (ht : S.contains t = true) : Keep B S x w w1 :=
  ⟨hg.os, hg.tape, hg.output, hg.size, fun k hk => by
      by_cases hlt : k < w.heap.size
      · exact hg.block k hlt (fun e => by have := Option.some.inj e; omega)
      · have := heap_lt hh; omega,
    fun k cs' t' hk ht' _ => (hg.block k (heap_lt hk) (fun e => by
      obtain rfl := Option.some.inj e
      rw [hh] at hk
      injection hk with hk
      injection hk with _ e2 _
      subst e2
      rw [ht] at ht'
      cases ht')).trans hk⟩
/-- What the block x was written in. -/
theorem Keep.of_own {g : Nat} (hg : w.grownBy w1 (some g)) (hB : B ≤ g) (hlt : g < w.heap.size) : Keep B S (some g) w w1 :=
  ⟨hg.os, hg.tape, hg.output, hg.size, fun k hk => hg.block k (by omega) (fun e => by have := Option.some.inj e; omega),
    fun k cs' t' hk _ hx => (hg.block k (heap_lt hk) (fun e => hx e.symm)).trans hk⟩
theorem Keep.of_below (h : Below w.heap.size w w1) (hB : B ≤ w.heap.size) : Keep B S x w w1 :=
  ⟨h.os, h.tape, h.output, h.size, fun k hk => h.block k (by omega), fun k cs t hk _ _ => heap_below hk h⟩
theorem Keep.of_alloc (w : World) (o : Obj) (hB : B ≤ w.heap.size) : Keep B S x w (w.alloc o) := Keep.of_below ((Below.refl _ _).alloc (Nat.le_refl _) o) hB
theorem Keep.drew (h : Keep B S x w w1) : Keep B S x w w1.drew := ⟨h.os, h.tape, h.output, h.size, h.low, h.rest⟩
theorem Keep.drewN (h : Keep B S x w w1) (n : Nat) : Keep B S x w (w1.drewN n) := ⟨h.os, h.tape, h.output, h.size, h.low, h.rest⟩
theorem Keep.below (h : Keep B S x w w1) : Below B w w1 := ⟨h.os, h.tape, h.output, h.size, h.low⟩
theorem Keep.set {g : Nat} {cs : Array Value} {t : TypeId} (h : Keep B S x w w1) (hh : w1.heap[g]? = some (.cells cs t (0, 0))) (hB : B ≤ g) (ht : S.contains t = true) (i : Nat) (u : Value) : Keep B S x w (w1.setCell ⟨g, i, none⟩ u) :=
  h.trans (Keep.of_grown (only_one w1 g i u) hh hB ht)
theorem Keep.setOwn {g : Nat} (h : Keep B S (some g) w w1) (hlt : g < w1.heap.size) (hB : B ≤ g) (i : Nat) (u : Value) : Keep B S (some g) w (w1.setCell ⟨g, i, none⟩ u) :=
  h.trans (Keep.of_own (only_one w1 g i u) hB hlt)
/-- A row of the call's own, of a type that is kept. -/
theorem Keep.row {b e n size : Nat} {v : Value} {xs : List Value} (h : Keep B S x w w1) (hr : w.ownsRow b e size v n xs) (ht : S.contains e = false) (hx : ∀ g, x = some g → v.ownBlock ≠ some g) : w1.ownsRow b e size v n xs := by
  refine ⟨hr.1, ?_⟩
  rcases hr.2 with h0 | ⟨g, cap, cur, rfl, h1, h2, h3, h4, h5, h6⟩
  · exact .inl h0
  · exact .inr ⟨g, cap, cur, rfl, h1, h.rest g cur e h2 ht (fun e => hx g e rfl), h3, h4, h5, h6⟩
end
end Go.Proofs.YtfolchpjccjadaaDoor
/- The least bit of a word: plain, and the walk of math/bits' TrailingZeros64, over the table that the program's text lays. -/
namespace Go.Proofs.YtfolchpjccjadaaDoor
open Go.RowKit
set_option linter.unusedVariables false

theorem low_split {x k : Nat} (hk : x.testBit k = true) (hlow : ∀ i, i < k → x.testBit i = false) : ∃ m, x = 2 ^ k * (2 * m + 1) := by
  have h0 : x % 2 ^ k = 0 := by
    apply Nat.eq_of_testBit_eq
    intro i
    rw [Nat.testBit_mod_two_pow, Nat.zero_testBit]
    by_cases hi : i < k
    · rw [hlow i hi]; simp
    · simp [hi]
  have h1 : x / 2 ^ k % 2 = 1 := by
    rw [Nat.testBit_eq_decide_div_mod_eq] at hk
    exact of_decide_eq_true hk
  refine ⟨x / 2 ^ k / 2, ?_⟩
  have h2 := Nat.div_add_mod x (2 ^ k)
  have h3 := Nat.div_add_mod (x / 2 ^ k) 2
  rw [h1] at h3
  rw [h3]
  omega
theorem low_pred {x k : Nat} (hk : x.testBit k = true) (hlow : ∀ i, i < k → x.testBit i = false) : (x - 1).testBit k = false ∧ ∀ i, k < i → (x - 1).testBit i = x.testBit i := by
  obtain ⟨m, hm⟩ := low_split hk hlow
  have hp : 0 < 2 ^ k := Nat.pow_pos (by omega)
  have e0 : x = 2 ^ k * (2 * m) + 2 ^ k := by rw [hm, Nat.mul_add, Nat.mul_one]
  have e1 : x - 1 = 2 ^ k * (2 * m) + (2 ^ k - 1) := by omega
  have d1 : (x - 1) / 2 ^ k = 2 * m := by
    rw [e1, Nat.mul_add_div hp, Nat.div_eq_of_lt (by omega), Nat.add_zero]
  have d2 : x / 2 ^ k = 2 * m + 1 := by rw [hm, Nat.mul_div_cancel_left _ hp]
  refine ⟨?_, fun i hi => ?_⟩
  · rw [Nat.testBit_eq_decide_div_mod_eq, d1]
    simp
  · obtain ⟨d, rfl⟩ : ∃ d, i = k + (1 + d) := ⟨i - k - 1, by omega⟩
    rw [Nat.testBit_eq_decide_div_mod_eq, Nat.testBit_eq_decide_div_mod_eq, Nat.pow_add, ← Nat.div_div_eq_div_mul, ← Nat.div_div_eq_div_mul, d1, d2, Nat.pow_add, ← Nat.div_div_eq_div_mul, ← Nat.div_div_eq_div_mul]
    have e3 : 2 * m / 2 ^ 1 = m := by omega
    have e4 : (2 * m + 1) / 2 ^ 1 = m := by omega
    rw [e3, e4]
theorem low_and {x k : Nat} (hx : x < 18446744073709551616) (hk : x.testBit k = true) (hlow : ∀ i, i < k → x.testBit i = false) : x &&& (18446744073709551616 - x) = 2 ^ k ∧ k < 64 := by
  have h64 : k < 64 := by
    rcases Nat.lt_or_ge k 64 with h | h
    · exact h
    · have : x < 2 ^ k := Nat.lt_of_lt_of_le hx (Nat.pow_le_pow_right (n := 2) (by omega) h)
      rw [Nat.testBit_lt_two_pow this] at hk
      cases hk
  have hpos : 0 < x := by
    rcases Nat.eq_zero_or_pos x with h | h
    · rw [h, Nat.zero_testBit] at hk; cases hk
    · exact h
  obtain ⟨p1, p2⟩ := low_pred hk hlow
  refine ⟨?_, h64⟩
  apply Nat.eq_of_testBit_eq
  intro i
  have e : 18446744073709551616 - x = 2 ^ 64 - ((x - 1) + 1) := by omega
  rw [Nat.testBit_and, Nat.testBit_two_pow, e, Nat.testBit_two_pow_sub_succ (by omega)]
  rcases Nat.lt_trichotomy i k with h | h | h
  · rw [hlow i h]
    simp
    omega
  · subst h
    rw [hk, p1]
    simp [h64]
  · rw [p2 i h]
    have : decide (k = i) = false := by simp; omega
    rw [this]
    cases x.testBit i <;> simp

/-- math/bits' table. -/
def deB : List Nat := [0, 1, 56, 2, 57, 49, 28, 3, 61, 58, 42, 50, 38, 29, 17, 4, 62, 47, 59, 36, 45, 43, 51, 22, 53, 39, 33, 30, 24, 18, 12, 5, 63, 55, 48, 27, 60, 41, 37, 16, 46, 35, 44, 21, 52, 32, 23, 11, 54, 26, 40, 15, 34, 20, 31, 10, 25, 14, 19, 9, 13, 8, 7, 6]
theorem deB_len : deB.length = 64 := by decide
def deI (k : Nat) : Nat := 2 ^ k * 285870213051353865 % 18446744073709551616 / 288230376151711744
theorem deB_all : ∀ k, k < 64 → deI k < 64 ∧ deB[deI k]? = some k := by
  have h : (List.range 64).all (fun k => decide (deI k < 64) && (deB[deI k]? == some k)) = true := by decide +kernel
  intro k hk
  have := List.all_eq_true.1 h k (List.mem_range.2 hk)
  simpa using this
/-- The table lies in block 0. -/
def TabW (w : World) : Prop := ∀ (j n : Nat), deB[j]? = some n → w.cell? ⟨0, j, none⟩ = some (.int .u8 (n : Int))
theorem TabW.keep {B : Nat} {S : List TypeId} {x : Option Nat} {w w' : World} (h : TabW w) (hb : Keep B S x w w') (hB : 0 < B) : TabW w' := by
  intro j n hj
  have e : w'.cell? ⟨0, j, none⟩ = w.cell? ⟨0, j, none⟩ := World.cell?_of_block (hb.low 0 hB)
  rw [e]
  exact h j n hj
theorem neg64 {x : Nat} (h0 : 0 < x) (hx : x < 18446744073709551616) : IntKind.u64.wrap (-(x : Int)) = ((18446744073709551616 - x : Nat) : Int) := by
  have e : IntKind.u64.wrap (-(x : Int)) = (-(x : Int)) % 18446744073709551616 := by simp [IntKind.wrap, IntKind.bits, IntKind.signed]
  rw [e]
  omega
theorem mul64 (a b : Nat) : IntKind.u64.wrap ((a : Int) * (b : Int)) = ((a * b % 18446744073709551616 : Nat) : Int) := by
  have e : IntKind.u64.wrap ((a : Int) * (b : Int)) = ((a : Int) * (b : Int)) % 18446744073709551616 := by simp [IntKind.wrap, IntKind.bits, IntKind.signed]
  rw [e]
  simp

set_option maxRecDepth 100000 in
set_option maxHeartbeats 1000000 in
theorem tz_any (x k : Nat) (w : World) (ht : TabW w) (hx : x < 18446744073709551616) (hk : x.testBit k = true) (hlow : ∀ i, i < k → x.testBit i = false) :
    Calls Tryd.prog 22 #[.int .u64 x] w fun e w' => e = .returned (.int .i64 (k : Nat)) ∧ w = w' := by
  obtain ⟨ha, h64⟩ := low_and hx hk hlow
  have hpos : 0 < x := by
    rcases Nat.eq_zero_or_pos x with h | h
    · rw [h, Nat.zero_testBit] at hk; cases hk
    · exact h
  obtain ⟨D, hD⟩ : ∃ D, D = deI k := ⟨_, rfl⟩
  have hall := deB_all k h64
  rw [← hD] at hall
  have hc : w.cell? ⟨0, D, none⟩ = some (.int .u8 (k : Int)) := ht D k hall.2
  have hD64 : D < 64 := hall.1
  have e1 : bits .and .u64 (x : Int) (IntKind.u64.wrap (-(x : Int))) = ((2 ^ k : Nat) : Int) := by
    rw [neg64 hpos hx, u64_and_nat x _ hx (by omega), ha]
  have e2 : IntKind.u64.wrap (bits .and .u64 (x : Int) (IntKind.u64.wrap (-(x : Int))) * 285870213051353865) / 288230376151711744 = (D : Int) := by
    rw [e1, show (285870213051353865 : Int) = ((285870213051353865 : Nat) : Int) from rfl, mul64, hD]
    unfold deI
    rfl
  have t1 : ((x : Int) == 0) = false := by rw [beq_eq_false_iff_ne]; omega
  have hk8 : (k : Int) < 256 := by omega
  clear e1 hall hD ha hk hlow ht
  go_enter Tryd.func22, Tryd.ntmps22
  go_wp2_with fail
  go_ret
  exact ⟨rfl, rfl⟩
end Go.Proofs.YtfolchpjccjadaaDoor
/- The arena of cells: what it is in memory; the walks of there, step, Load, Store, CAS. -/
namespace Go.Proofs.YtfolchpjccjadaaDoor
open Go.RowKit
set_option linter.unusedVariables false

def u64v (x : Nat) : Value := .int .u64 (x : Int)
/-- H: what the cells have; L: which are taken; wd: the words of bits; lo: no word below it has room. -/
structure ArP (H L : List Nat) (wd : Nat → Nat) (lo : Nat) : Prop where
  nd : L.Nodup
  lt : ∀ c, c ∈ L → c < H.length
  len : H.length ≤ 2000
  val : ∀ x, x ∈ H → x < 18446744073709551616
  wlt : ∀ j, wd j < 18446744073709551616
  bit : ∀ j i, i < 64 → (wd j).testBit i = decide (64 * j + i ∈ L)
  low : ∀ c, c < 64 * lo → c ∈ L
/-- The arena's own block. -/
structure ArM (w : World) (B a : Nat) (cs : Array Value) (hv : Value) (wd : Nat → Nat) (lo u : Nat) (st : Int) : Prop where
  hp : w.heap[a]? = some (.cells cs 51 (0, 0))
  ba : B ≤ a
  sz : cs.size = 1029
  c0 : cs[0]? = some (.int .i64 2000)
  c1 : cs[1]? = some hv
  c2 : ∀ j : Nat, j < 1024 → cs[2 + j]? = some (.int .u64 (wd j : Int))
  c3 : cs[1026]? = some (.int .i64 (lo : Int))
  c4 : cs[1027]? = some (.int .i64 (u : Int))
  c5 : cs[1028]? = some (.int .i64 st)
section
variable {w w' : World} {B a : Nat} {cs : Array Value} {hv : Value} {wd : Nat → Nat} {lo u : Nat} {st : Int}
theorem ArM.same (h : ArM w B a cs hv wd lo u st) (hh : w'.heap[a]? = w.heap[a]?) : ArM w' B a cs hv wd lo u st := ⟨hh.trans h.hp, h.ba, h.sz, h.c0, h.c1, h.c2, h.c3, h.c4, h.c5⟩
theorem setne {cs : Array Value} {i j : Nat} {v u : Value} (h : cs[j]? = some u) (hne : i ≠ j) : (cs.setIfInBounds i v)[j]? = some u := by rw [Array.getElem?_setIfInBounds_ne hne]; exact h
theorem seteq {cs : Array Value} {i : Nat} {v : Value} (h : i < cs.size) : (cs.setIfInBounds i v)[i]? = some v := by rw [Array.getElem?_setIfInBounds_self_of_lt h]
theorem ArM.setSt (h : ArM w B a cs hv wd lo u st) (n : Int) : ArM (w.setCell ⟨a, 1028, none⟩ (.int .i64 n)) B a (cs.setIfInBounds 1028 (.int .i64 n)) hv wd lo u n :=
  ⟨set_at h.hp _ _, h.ba, by rw [Array.size_setIfInBounds]; exact h.sz, setne h.c0 (by omega), setne h.c1 (by omega), fun j hj => setne (h.c2 j hj) (by omega), setne h.c3 (by omega), setne h.c4 (by omega), seteq (by rw [h.sz]; omega)⟩
theorem ArM.setU (h : ArM w B a cs hv wd lo u st) (n : Nat) : ArM (w.setCell ⟨a, 1027, none⟩ (.int .i64 (n : Int))) B a (cs.setIfInBounds 1027 (.int .i64 (n : Int))) hv wd lo n st :=
  ⟨set_at h.hp _ _, h.ba, by rw [Array.size_setIfInBounds]; exact h.sz, setne h.c0 (by omega), setne h.c1 (by omega), fun j hj => setne (h.c2 j hj) (by omega), setne h.c3 (by omega), seteq (by rw [h.sz]; omega), setne h.c5 (by omega)⟩
theorem ArM.setLo (h : ArM w B a cs hv wd lo u st) (n : Nat) : ArM (w.setCell ⟨a, 1026, none⟩ (.int .i64 (n : Int))) B a (cs.setIfInBounds 1026 (.int .i64 (n : Int))) hv wd n u st :=
  ⟨set_at h.hp _ _, h.ba, by rw [Array.size_setIfInBounds]; exact h.sz, setne h.c0 (by omega), setne h.c1 (by omega), fun j hj => setne (h.c2 j hj) (by omega), seteq (by rw [h.sz]; omega), setne h.c4 (by omega), setne h.c5 (by omega)⟩
theorem ArM.setHv (h : ArM w B a cs hv wd lo u st) (v : Value) : ArM (w.setCell ⟨a, 1, none⟩ v) B a (cs.setIfInBounds 1 v) v wd lo u st :=
  ⟨set_at h.hp _ _, h.ba, by rw [Array.size_setIfInBounds]; exact h.sz, setne h.c0 (by omega), seteq (by rw [h.sz]; omega), fun j hj => setne (h.c2 j hj) (by omega), setne h.c3 (by omega), setne h.c4 (by omega), setne h.c5 (by omega)⟩
theorem ArM.setWd (h : ArM w B a cs hv wd lo u st) (k n : Nat) (hk : k < 1024) : ArM (w.setCell ⟨a, 2 + k, none⟩ (.int .u64 (n : Int))) B a (cs.setIfInBounds (2 + k) (.int .u64 (n : Int))) hv (fun j => if j = k then n else wd j) lo u st :=
  ⟨set_at h.hp _ _, h.ba, by rw [Array.size_setIfInBounds]; exact h.sz, setne h.c0 (by omega), setne h.c1 (by omega), fun j hj => by
    by_cases e : j = k
    · subst e
      rw [if_pos rfl]
      exact seteq (by rw [h.sz]; omega)
    · rw [if_neg e]
      exact setne (h.c2 j hj) (by omega), setne h.c3 (by omega), setne h.c4 (by omega), setne h.c5 (by omega)⟩
end
/-- The arena at block a. -/
def ArC (w : World) (B a g cap : Nat) (H L : List Nat) : Prop := ∃ cs wd lo st, ArM w B a cs (.slice (some ⟨g, 0, none⟩) H.length cap) wd lo L.length st ∧ w.ownsRow B 48 1 (.slice (some ⟨g, 0, none⟩) H.length cap) H.length (H.map u64v) ∧ ArP H L wd lo
def ArW (w : World) (B a : Nat) (H L : List Nat) : Prop := ∃ cs hv wd lo st, ArM w B a cs hv wd lo L.length st ∧ w.ownsRow B 48 1 hv H.length (H.map u64v) ∧ ArP H L wd lo
theorem ArC.w {w : World} {B a g cap : Nat} {H L : List Nat} (h : ArC w B a g cap H L) : ArW w B a H L := by
  obtain ⟨cs, wd, lo, st, h⟩ := h
  exact ⟨cs, _, wd, lo, st, h⟩
theorem ArW.c {w : World} {B a c : Nat} {H L : List Nat} (h : ArW w B a H L) (hc : c ∈ L) : ∃ g cap, ArC w B a g cap H L := by
  obtain ⟨cs, hv, wd, lo, st, hm, hr, hp⟩ := h
  rcases hr.2 with ⟨_, h0⟩ | ⟨g, cap, cur, rfl, _⟩
  · have := hp.lt c hc; omega
  · exact ⟨g, cap, cs, wd, lo, st, hm, hr, hp⟩
theorem ArW.at_lt {w : World} {B a : Nat} {H L : List Nat} (h : ArW w B a H L) : B ≤ a ∧ a < w.heap.size := by
  obtain ⟨cs, hv, wd, lo, st, hm, _⟩ := h
  exact ⟨hm.ba, heap_lt hm.hp⟩
theorem ArW.keep {w w' : World} {B B' a : Nat} {S : List TypeId} {x : Option Nat} {H L : List Nat} (h : ArW w B a H L) (hk : Keep B' S x w w') (h1 : S.contains 51 = false) (h2 : S.contains 48 = false) (hx : ∀ g cs t, x = some g → w.heap[g]? = some (.cells cs t (0, 0)) → t ≠ 51 ∧ t ≠ 48) : ArW w' B a H L := by
  obtain ⟨cs, hv, wd, lo, st, hm, hr, hp⟩ := h
  refine ⟨cs, hv, wd, lo, st, hm.same ((hk.rest a cs 51 hm.hp h1 (fun e => (hx a cs 51 e hm.hp).1 rfl)).trans hm.hp.symm), hk.row hr h2 (fun g e e2 => ?_), hp⟩
  rcases hr.2 with ⟨rfl, h0⟩ | ⟨g', cap, cur, rfl, _, hg, _⟩
  · simp [Value.ownBlock] at e2
  · have : g' = g := by simpa [Value.ownBlock] using e2
    subst this
    exact (hx g' cur 48 e hg).2 rfl
theorem row_ne {w : World} {B g n size e t : Nat} {v : Value} {xs : List Value} {cs : Array Value} (h : w.ownsRow B e size v n xs) (hg : w.heap[g]? = some (.cells cs t (0, 0))) (ht : t ≠ e) : v.ownBlock ≠ some g := by
  rcases h.2 with ⟨rfl, _⟩ | ⟨g', cap, cur, rfl, _, hh, _⟩
  · simp [Value.ownBlock]
  · intro he
    have : g' = g := by simpa [Value.ownBlock] using he
    subst this
    rw [hg] at hh
    injection hh with hh
    injection hh with _ ht' _
    exact ht ht'
theorem row_cell {w : World} {B e g n cap : Nat} {xs : List Value} (h : w.ownsRow B e 1 (.slice (some ⟨g, 0, none⟩) n cap) n xs) (j : Nat) (u : Value) (hj : xs[j]? = some u) : w.cell? ⟨g, j, none⟩ = some u := by
  have := h.cells (g := g) rfl j u hj
  rwa [addp] at this

theorem testBit_shift (x k : Nat) : (x / 2 ^ k) &&& 1 = if x.testBit k = true then 1 else 0 := by
  rw [Nat.and_one_is_mod, Nat.testBit_eq_decide_div_mod_eq]
  have : x / 2 ^ k % 2 < 2 := Nat.mod_lt _ (by omega)
  split
  · rename_i h; exact of_decide_eq_true h
  · rename_i h
    have : ¬ x / 2 ^ k % 2 = 1 := fun e => h (decide_eq_true e)
    omega
theorem bit_taken {x k : Nat} (hx : x < 18446744073709551616) (hk : x.testBit k = true) : (bits .and .u64 ((x : Int) / 2 ^ k) 1 == 0) = false := by
  have e : (x : Int) / 2 ^ k = ((x / 2 ^ k : Nat) : Int) := by
    rw [Int.natCast_ediv]
    simp
  rw [e, show (1 : Int) = ((1 : Nat) : Int) from rfl, u64_and_nat _ _ (Nat.lt_of_le_of_lt (Nat.div_le_self _ _) hx) (by omega), testBit_shift, if_pos hk]
  rfl

set_option maxRecDepth 100000 in
set_option maxHeartbeats 1000000 in
theorem there_any (B a c : Nat) (H L : List Nat) (w : World) (hA : ArW w B a H L) (hc : c ∈ L) :
    Calls Tryd.prog 23 #[.pointer (some ⟨a, 0, none⟩), .int .i64 (c : Int)] w fun e w' => e = .returned (.int .i64 0) ∧ w = w' := by
  obtain ⟨g, cap, cs, wd, lo, st, hM, hR, hP⟩ := hA.c hc
  have hlt := hP.lt c hc
  have hlen := hP.len
  have x1 := box_cells hM.hp 1 _ hM.c1
  have x2 := box_cells hM.hp (2 + c / 64) _ (hM.c2 (c / 64) (by omega))
  have hb := hP.bit (c / 64) (c % 64) (Nat.mod_lt _ (by omega))
  rw [show 64 * (c / 64) + c % 64 = c from by omega, decide_eq_true hc] at hb
  have hw := hP.wlt (c / 64)
  obtain ⟨W, hW⟩ : ∃ W, W = wd (c / 64) := ⟨_, rfl⟩
  rw [← hW] at x2 hb hw
  have t3 := bit_taken hw hb
  clear hW hM hR hP hA hb hw
  have t0 : decide ((c : Int) < 0) = false := by simp
  have t1 : decide (H.length ≤ c) = false := by simp; omega
  go_enter Tryd.func23, Tryd.ntmps23
  go_wp2_with fail
  go_ret
  exact ⟨rfl, rfl⟩

set_option maxRecDepth 100000 in
set_option maxHeartbeats 1000000 in
/-- step: the pointer to a taken cell; only the count of steps turns. -/
theorem step_any (B a g cap c : Nat) (H L : List Nat) (w : World) (hA : ArC w B a g cap H L) (hc : c ∈ L) :
    Calls Tryd.prog 36 #[.pointer (some ⟨a, 0, none⟩), .int .i64 (c : Int)] w fun e w' => e = .returned (.tuple #[.pointer (some ⟨g, c, none⟩), .int .i64 0]) ∧ ArC w' B a g cap H L ∧ Keep B [51] none w w' := by
  have HT := Lib.hid (there_any B a c H L w hA.w hc)
  obtain ⟨cs, wd, lo, st, hM, hR, hP⟩ := hA
  have hlt := hP.lt c hc
  have hlen := hP.len
  have x1 := box_cells hM.hp 1 _ hM.c1
  have x5 := box_cells hM.hp 1028 _ hM.c5
  have fz := froz_all hM.hp
  have hcap : H.length ≤ cap := by
    rcases hR.2 with ⟨h0, _⟩ | ⟨g', cap', cur, hv, _, _, h3, _⟩
    · cases h0
    · injection hv with _ _ e; omega
  have hfin := hM.setSt (wrap64 (st + 1))
  have hgr := only_one w a 1028 (.int .i64 (wrap64 (st + 1)))
  have HR2 := Lib.hid (World.ownsRow.kept hR hgr (.inr (row_ne hR hM.hp (by decide))))
  have HK := Lib.hid (Keep.of_grown (S := [51]) (x := none) hgr hM.hp hM.ba rfl)
  have HF := Lib.hid hfin
  have HP := Lib.hid hP
  have y1 := box_cells hfin.hp 1 _ hfin.c1
  clear hM hR hP hfin hgr
  go_enter Tryd.func36, Tryd.ntmps36
  go_wp2_with fail
  refine HT.out.mono ?_
  rintro e w1 ⟨rfl, rfl⟩
  go_wp2_with fail
  go_ret2
  exact ⟨rfl, ⟨_, wd, lo, _, HF.out, HR2.out, HP.out⟩, HK.out⟩
end Go.Proofs.YtfolchpjccjadaaDoor
/- The walks of the arena's Load, Store, CAS at a cell that is taken. -/
namespace Go.Proofs.YtfolchpjccjadaaDoor
open Go.RowKit
set_option linter.unusedVariables false

theorem ArP.set {H L : List Nat} {wd : Nat → Nat} {lo : Nat} (h : ArP H L wd lo) (c v : Nat) (hv : v < 18446744073709551616) : ArP (H.set c v) L wd lo :=
  ⟨h.nd, fun k hk => by rw [List.length_set]; exact h.lt k hk, by rw [List.length_set]; exact h.len, fun x hx => by
    rcases List.mem_or_eq_of_mem_set hx with h1 | h1
    · exact h.val x h1
    · rw [h1]; exact hv, h.wlt, h.bit, h.low⟩
theorem map_set_u64 (H : List Nat) (c v : Nat) : (H.map u64v).set c (u64v v) = (H.set c v).map u64v := by rw [List.map_set]
/-- What lies in the arena's own row is written. -/
theorem ArC.store {w : World} {B a g cap : Nat} {H L : List Nat} (h : ArC w B a g cap H L) (c v : Nat) (hv : v < 18446744073709551616) : ArC (w.setCell ⟨g, c, none⟩ (u64v v)) B a g cap (H.set c v) L ∧ Keep B [51, 48] none w (w.setCell ⟨g, c, none⟩ (u64v v)) := by
  obtain ⟨cs, wd, lo, st, hM, hR, hP⟩ := h
  have hs := World.ownsRow.stored hR c (u64v v)
  have hne := row_ne hR hM.hp (by decide)
  have hlt := World.ownsRow.lt hR g rfl
  have h1 : (w.setCell ⟨g, c, none⟩ (u64v v)).heap[a]? = w.heap[a]? := (only_one w g c (u64v v)).block a (heap_lt hM.hp) (fun e => hne (show some g = some a from e.symm))
  constructor
  · refine ⟨cs, wd, lo, st, ?_, ?_, hP.set c v hv⟩
    · rw [List.length_set]; exact hM.same h1
    · rw [List.length_set, ← map_set_u64]; exact hs.1
  · obtain ⟨cur, hcur⟩ : ∃ cur, w.heap[g]? = some (.cells cur 48 (0, 0)) := by
      rcases hR.2 with ⟨h0, _⟩ | ⟨g', cap', cur, hv', _, hh, _⟩
      · cases h0
      · injection hv' with e1 _ _
        injection e1 with e1
        injection e1 with e1 _ _
        subst e1
        exact ⟨cur, hh⟩
    exact Keep.of_grown (only_one w g c (u64v v)) hcur hlt.1 rfl
theorem ArC.cell {w : World} {B a g cap c x : Nat} {H L : List Nat} (h : ArC w B a g cap H L) (hx : H[c]? = some x) : w.cell? ⟨g, c, none⟩ = some (.int .u64 (x : Int)) ∧ w.frozen? ⟨g, c, none⟩ = false := by
  obtain ⟨cs, wd, lo, st, hM, hR, hP⟩ := h
  refine ⟨row_cell hR c (u64v x) (by rw [List.getElem?_map, hx]; rfl), ?_⟩
  rcases hR.2 with ⟨h0, _⟩ | ⟨g', cap', cur, hv', _, hh, _⟩
  · cases h0
  · injection hv' with e1 _ _
    injection e1 with e1
    injection e1 with e1 _ _
    subst e1
    exact froz_all hh c
theorem ArW.val {w : World} {B a c x : Nat} {H L : List Nat} (h : ArW w B a H L) (hx : H[c]? = some x) : x < 18446744073709551616 := by
  obtain ⟨cs, hv, wd, lo, st, hM, hR, hP⟩ := h
  exact hP.val x (List.mem_of_getElem? hx)
theorem ArW.get {w : World} {B a c : Nat} {H L : List Nat} (h : ArW w B a H L) (hc : c ∈ L) : ∃ x, H[c]? = some x := by
  obtain ⟨cs, hv, wd, lo, st, hM, hR, hP⟩ := h
  exact ⟨_, List.getElem?_eq_getElem (hP.lt c hc)⟩

set_option maxRecDepth 100000 in
set_option maxHeartbeats 1000000 in
theorem load_any (B a c x : Nat) (H L : List Nat) (w : World) (hA : ArW w B a H L) (hc : c ∈ L) (hx : H[c]? = some x) :
    Calls Tryd.prog 19 #[.pointer (some ⟨a, 0, none⟩), .int .i64 (c : Int)] w fun e w' => e = .returned (.tuple #[.int .u64 (x : Int), .int .i64 0]) ∧ ArW w' B a H L ∧ Keep B [51] none w w' := by
  obtain ⟨g, cap, hC⟩ := hA.c hc
  have HT := Lib.hid (step_any B a g cap c H L w hC hc)
  have HX := Lib.hid hx
  clear hA hC hx
  go_enter Tryd.func19, Tryd.ntmps19
  go_wp2_with fail
  refine HT.out.mono ?_
  rintro e w1 ⟨rfl, hc1, hk1⟩
  have x1 := (hc1.cell HX.out).1
  have HC1 := Lib.hid hc1
  have HK1 := Lib.hid hk1
  clear hc1 hk1
  go_wp2_with fail
  go_ret2
  exact ⟨rfl, HC1.out.w, HK1.out⟩

set_option maxRecDepth 100000 in
set_option maxHeartbeats 1000000 in
theorem store_any (B a c v : Nat) (H L : List Nat) (w : World) (hA : ArW w B a H L) (hc : c ∈ L) (hv : v < 18446744073709551616) :
    Calls Tryd.prog 27 #[.pointer (some ⟨a, 0, none⟩), .int .i64 (c : Int), .int .u64 (v : Int)] w fun e w' => e = .returned (.int .i64 0) ∧ ArW w' B a (H.set c v) L ∧ Keep B [51, 48] none w w' := by
  obtain ⟨g, cap, hC⟩ := hA.c hc
  obtain ⟨x, hx⟩ := hA.get hc
  have HT := Lib.hid (step_any B a g cap c H L w hC hc)
  have HX := Lib.hid hx
  clear hA hC hx
  go_enter Tryd.func27, Tryd.ntmps27
  go_wp2_with fail
  refine HT.out.mono ?_
  rintro e w1 ⟨rfl, hc1, hk1⟩
  have x1 := (hc1.cell HX.out).1
  have f1 := (hc1.cell HX.out).2
  have hs := hc1.store c v hv
  have HS := Lib.hid hs
  have HK1 := Lib.hid ((hk1.more (T := [51, 48]) rfl).trans hs.2)
  clear hc1 hk1 hs
  go_wp2_with fail
  go_ret
  exact ⟨rfl, HS.out.1.w, HK1.out⟩

/-- What the cells have behind a CAS. -/
def casH (H : List Nat) (c x old now : Nat) : List Nat := if x = old then H.set c now else H
set_option maxRecDepth 100000 in
set_option maxHeartbeats 1000000 in
theorem cas_any (B a c x old now : Nat) (H L : List Nat) (w : World) (hA : ArW w B a H L) (hc : c ∈ L) (hx : H[c]? = some x) (hv : now < 18446744073709551616) :
    Calls Tryd.prog 28 #[.pointer (some ⟨a, 0, none⟩), .int .i64 (c : Int), .int .u64 (old : Int), .int .u64 (now : Int)] w fun e w' => e = .returned (.tuple #[.bool (x == old), .int .i64 0]) ∧ ArW w' B a (casH H c x old now) L ∧ Keep B [51, 48] none w w' := by
  obtain ⟨g, cap, hC⟩ := hA.c hc
  have HT := Lib.hid (step_any B a g cap c H L w hC hc)
  have HX := Lib.hid hx
  clear hA hC hx
  go_enter Tryd.func28, Tryd.ntmps28
  go_wp2_with fail
  refine HT.out.mono ?_
  rintro e w1 ⟨rfl, hc1, hk1⟩
  have x1 := (hc1.cell HX.out).1
  have f1 := (hc1.cell HX.out).2
  have hs := hc1.store c now hv
  have HS := Lib.hid hs
  have HC1 := Lib.hid hc1
  have hk2 := hk1.more (T := [51, 48]) rfl
  have HK1 := Lib.hid hk2
  have HK2 := Lib.hid (hk2.trans hs.2)
  clear hc1 hk1 hk2 hs
  by_cases he : x = old
  · subst he
    have t1 : ((x : Int) != (x : Int)) = false := by simp
    go_wp2_with fail
    go_ret2
    exact ⟨by simp, by unfold casH; rw [if_pos rfl]; exact HS.out.1.w, HK2.out⟩
  · have t1 : ((x : Int) != (old : Int)) = true := by rw [bne_iff_ne]; omega
    have HE := Lib.hid he
    clear he
    go_wp2_with fail
    go_ret2
    exact ⟨by simp [HE.out], by unfold casH; rw [if_neg HE.out]; exact HC1.out.w, HK1.out⟩
end Go.Proofs.YtfolchpjccjadaaDoor
/- The walk of the arena's Free at a cell that is taken. -/
namespace Go.Proofs.YtfolchpjccjadaaDoor
open Go.RowKit
set_option linter.unusedVariables false

theorem pow64 {k : Nat} (h : k < 64) : IntKind.u64.wrap (2 ^ k) = ((2 ^ k : Nat) : Int) := by
  have e : IntKind.u64.wrap (2 ^ k) = (2 ^ k : Int) % 18446744073709551616 := by simp [IntKind.wrap, IntKind.bits, IntKind.signed]
  have h2 : (2 : Nat) ^ k < 2 ^ 64 := Nat.pow_lt_pow_right (by omega) h
  have h3 : ((2 : Int) ^ k) = ((2 ^ k : Nat) : Int) := by simp
  obtain ⟨n, hn⟩ : ∃ n, n = (2 : Nat) ^ k := ⟨_, rfl⟩
  rw [e, h3, ← hn]
  rw [← hn] at h2
  clear e h3 hn
  omega
theorem pow_lt64 {k : Nat} (h : k < 64) : (2 : Nat) ^ k < 18446744073709551616 := by
  have h2 : (2 : Nat) ^ k < 2 ^ 64 := Nat.pow_lt_pow_right (by omega) h
  omega
/-- A word whose bit k is taken away. -/
def wOff (W k : Nat) : Nat := W &&& (18446744073709551615 - 2 ^ k)
theorem wOff_lt {W k : Nat} (h : W < 18446744073709551616) : wOff W k < 18446744073709551616 := Nat.lt_of_le_of_lt Nat.and_le_left h
theorem wOff_bit {W k i : Nat} (hk : k < 64) (hi : i < 64) : (wOff W k).testBit i = (W.testBit i && !decide (k = i)) := by
  have e : 18446744073709551615 - 2 ^ k = 2 ^ 64 - (2 ^ k + 1) := by have := pow_lt64 hk; omega
  unfold wOff
  rw [Nat.testBit_and, e, Nat.testBit_two_pow_sub_succ (pow_lt64 hk), Nat.testBit_two_pow]
  simp [hi]
theorem off_val {W k : Nat} (hW : W < 18446744073709551616) (hk : k < 64) : bits .andNot .u64 (W : Int) (IntKind.u64.wrap (2 ^ k)) = ((wOff W k : Nat) : Int) := by
  rw [pow64 hk, u64_andNot_nat W _ hW (pow_lt64 hk)]
  rfl
theorem nodup_le : ∀ (n : Nat) (L : List Nat), L.Nodup → (∀ c, c ∈ L → c < n) → L.length ≤ n
  | 0, L, _, h => by
    cases L with
    | nil => simp
    | cons x r => have := h x (by simp); omega
  | n + 1, L, hn, h => by
    have h1 := nodup_le n (L.erase n) (hn.erase n) (fun c hc => by
      have h2 := (hn.mem_erase_iff).1 hc
      have := h c h2.2
      have := h2.1
      omega)
    by_cases hm : n ∈ L
    · have := List.length_erase_of_mem hm
      omega
    · rw [List.erase_of_not_mem hm] at h1
      omega
theorem range_le : ∀ (c : Nat) (L : List Nat), (∀ k, k < c → k ∈ L) → c ≤ L.length
  | 0, L, _ => by omega
  | c + 1, L, h => by
    have hc := h c (by omega)
    have h1 := range_le c (L.erase c) (fun k hk => (List.mem_erase_of_ne (by omega)).2 (h k (by omega)))
    have := List.length_erase_of_mem hc
    have := List.length_pos_of_mem hc
    omega
theorem ArP.cnt {H L : List Nat} {wd : Nat → Nat} {lo : Nat} (h : ArP H L wd lo) : L.length ≤ 2000 := Nat.le_trans (nodup_le _ _ h.nd h.lt) h.len
theorem ArP.erase {H L : List Nat} {wd : Nat → Nat} {lo c : Nat} (h : ArP H L wd lo) (hc : c ∈ L) : ArP H (L.erase c) (fun j => if j = c / 64 then wOff (wd (c / 64)) (c % 64) else wd j) (min lo (c / 64)) where
  nd := h.nd.erase c
  lt := fun k hk => h.lt k (List.mem_of_mem_erase hk)
  len := h.len
  val := h.val
  wlt := fun j => by
    split
    · exact wOff_lt (h.wlt _)
    · exact h.wlt j
  bit := fun j i hi => by
    have hm : (64 * j + i ∈ L.erase c) ↔ (64 * j + i ≠ c ∧ 64 * j + i ∈ L) := h.nd.mem_erase_iff
    have hd : decide (64 * j + i ∈ L.erase c) = (decide (64 * j + i ≠ c) && decide (64 * j + i ∈ L)) := by
      rw [Bool.eq_iff_iff]
      simp [hm]
    rw [hd]
    split
    · rename_i e
      subst e
      rw [wOff_bit (Nat.mod_lt _ (by omega)) hi, h.bit _ i hi]
      by_cases e2 : c % 64 = i
      · have : 64 * (c / 64) + i = c := by omega
        simp [e2, this]
      · have : 64 * (c / 64) + i ≠ c := by omega
        simp [e2, this]
    · rename_i e
      rw [h.bit j i hi]
      have : 64 * j + i ≠ c := by omega
      simp [this]
  low := fun k hk => by
    refine (h.nd.mem_erase_iff).2 ⟨by omega, h.low k (by omega)⟩

set_option maxRecDepth 100000 in
set_option maxHeartbeats 1000000 in
theorem free_any (B a c : Nat) (H L : List Nat) (w : World) (hA : ArW w B a H L) (hc : c ∈ L) :
    Calls Tryd.prog 14 #[.pointer (some ⟨a, 0, none⟩), .int .i64 (c : Int)] w fun e w' => e = .returned (.int .i64 0) ∧ ArW w' B a H (L.erase c) ∧ Keep B [51] none w w' := by
  have HT := Lib.hid (there_any B a c H L w hA hc)
  obtain ⟨g, cap, cs, wd, lo, st, hM, hR, hP⟩ := hA.c hc
  have hlt := hP.lt c hc
  have hlen := hP.len
  have hcnt := hP.cnt
  have hul := List.length_erase_of_mem hc
  have hpos := List.length_pos_of_mem hc
  have x2 := box_cells hM.hp (2 + c / 64) _ (hM.c2 (c / 64) (by omega))
  have fz := froz_all hM.hp
  have hwl := hP.wlt (c / 64)
  obtain ⟨W, hW⟩ : ∃ W, W = wd (c / 64) := ⟨_, rfl⟩
  rw [← hW] at x2 hwl
  have e1 := off_val hwl (k := c % 64) (Nat.mod_lt _ (by omega))
  obtain ⟨w2, hw2⟩ : ∃ w2, w2 = (w.setCell ⟨a, 2 + c / 64, none⟩ (.int .u64 ((wOff W (c % 64) : Nat) : Int))).drew := ⟨_, rfl⟩
  have hM2 := hM.setWd (c / 64) (wOff W (c % 64)) (by omega)
  have hM3 := ArM.same (w' := w2) hM2 (by rw [hw2]; rfl)
  have hg2 : w.grownBy w2 (some a) := by
    have hg0 := only_one w a (2 + c / 64) (.int .u64 ((wOff W (c % 64) : Nat) : Int))
    rw [hw2]
    exact ⟨hg0.os, hg0.tape, hg0.output, hg0.size, hg0.block⟩
  have HK2 := Lib.hid (Keep.of_grown (S := [51]) (x := none) hg2 hM.hp hM.ba rfl)
  have HR2 := Lib.hid (World.ownsRow.kept hR hg2 (.inr (row_ne hR hM.hp (by decide))))
  have HPE := Lib.hid (hP.erase hc)
  have hpe := HPE.out
  rw [← hW] at hpe
  have HPE := Lib.hid hpe
  clear hpe
  have HM3 := Lib.hid hM3
  have y3 := box_cells hM3.hp 1026 _ hM3.c3
  have fy := froz_all hM3.hp
  have HW2 := Lib.hid hw2
  have HUL := Lib.hid hul
  clear hw2 hM hM2 hM3 hR hP hA hg2 hW hul
  go_enter Tryd.func14, Tryd.ntmps14
  go_wp2_with fail
  refine HT.out.mono ?_
  rintro e w1 ⟨rfl, rfl⟩
  go_upto_region 4 with fail
  go_region
  rw [← HW2.out]
  clear x2 fz e1
  go_upto_region 6 with fail
  have e3 : (if (c : Int) / 64 < (lo : Int) then (c : Int) / 64 else (lo : Int)) = ((min lo (c / 64) : Nat) : Int) := by
    split <;> omega
  rw [e3]
  clear e3
  obtain ⟨w3, hw3⟩ : ∃ w3, w3 = w2.setCell ⟨a, 1026, none⟩ (.int .i64 ((min lo (c / 64) : Nat) : Int)) := ⟨_, rfl⟩
  have hM4 := HM3.out.setLo (min lo (c / 64))
  rw [← hw3] at hM4
  have hg4 : w2.grownBy w3 (some a) := by rw [hw3]; exact only_one _ _ _ _
  have HR4 := Lib.hid (World.ownsRow.kept HR2.out hg4 (.inr (row_ne HR2.out HM3.out.hp (by decide))))
  have HK4 := Lib.hid (HK2.out.trans (Keep.of_grown (S := [51]) (x := none) hg4 HM3.out.hp HM3.out.ba rfl))
  have HM4 := Lib.hid hM4
  have z4 := box_cells hM4.hp 1027 _ hM4.c4
  have fz4 := froz_all hM4.hp
  have hM5 := hM4.setU (L.length - 1)
  have e5 : ((L.length - 1 : Nat) : Int) = (L.length : Int) - 1 := by omega
  rw [e5] at hM5
  have hg5 := only_one w3 a 1027 (.int .i64 ((L.length : Int) - 1))
  have HR5 := Lib.hid (World.ownsRow.kept HR4.out hg5 (.inr (row_ne HR4.out HM4.out.hp (by decide))))
  have HK5 := Lib.hid (HK4.out.trans (Keep.of_grown (S := [51]) (x := none) hg5 HM4.out.hp HM4.out.ba rfl))
  have HM5 := Lib.hid hM5
  rw [← hw3]
  clear hw3 hM4 hg4 hM5 hg5 e5 y3 fy
  go_wp2_with fail
  go_ret
  exact ⟨rfl, ⟨_, _, _, _, _, by rw [HUL.out]; exact HM5.out, HR5.out, HPE.out⟩, HK5.out⟩
end Go.Proofs.YtfolchpjccjadaaDoor
/- Words: one element appended to a row of the call's own, of elements of any number of cells. -/
namespace Go.Proofs.YtfolchpjccjadaaDoor
open Go.RowKit
set_option linter.unusedVariables false

theorem info48 : (Tryd.prog.info? 48).map (fun i => (i.zero, i.size, i.bytes)) = some (some (.int .u64 0), 1, 8) := by kernel_rfl
theorem info3 : (Tryd.prog.info? 3).map (fun i => (i.zero, i.size, i.bytes)) = some (some (.int .i64 0), 1, 8) := by kernel_rfl
theorem info9 : (Tryd.prog.info? 9).map (fun i => (i.zero, i.size, i.bytes)) = some (some (.string ByteArray.empty), 1, 16) := by kernel_rfl
theorem info62 : (Tryd.prog.info? 62).map (fun i => (i.zero, i.size, i.bytes)) = some (some (.pointer none), 1, 8) := by kernel_rfl
theorem info77 : (Tryd.prog.info? 77).map (fun i => (i.zero, i.size, i.bytes)) = some (some (.agg #[.string ByteArray.empty, .int .i64 0, .int .i64 0]), 3, 32) := by kernel_rfl
theorem info40 : (Tryd.prog.info? 40).map (fun i => (i.zero, i.size, i.bytes)) = some (some (.agg #[.pointer none, .pointer none]), 2, 16) := by kernel_rfl

section
variable {ops : Array Oper} {rest : List Oper} {o : Oper} {a : Act} {Q : Exit → Act → World → Prop}
/-- append(v, y): v a row of the call's own. -/
theorem append_one {W : World} (base H : Nat) (hH : W.heap.size = H) (T E size nb : Nat) (z : Value) (hu : Tryd.prog.underlying T = some (.slice E)) (hinfo : (Tryd.prog.info? E).map (fun i => (i.zero, i.size, i.bytes)) = some (some z, size, nb)) (hz1 : z.cells.size = size) (hpos : 0 < size)
    (hgd : o.guard = none) (s x : Operand) (ho : o.op = .call { callee := .builtin .append, args := #[s, x], argTypes := #[T, T] })
    (v : Value) (n : Nat) (us : List Value) (ys : Array Value) (hys : ys.toList.length = 1 * size) (hy : ∀ u ∈ ys.toList, u.oneCell' = true) (hs : a.eval s = v) (hx : a.eval x = .slice (some ⟨H, 0, none⟩) 1 1)
    (HO : W.ownsRow base E size v n us) (hbase : base ≤ W.heap.size) (hl : (n + 1) * nb ≤ 140737488355328) (hl2 : n + 1 ≤ 140737488355328)
    (h : ∀ v1 w1, w1.ownsRow base E size v1 (n + 1) (us ++ ys.toList) → Below base W w1 → W.grownBy w1 v.ownBlock → (v1.ownBlock = v.ownBlock ∨ v1.ownBlock = some (W.heap.size + 1)) → wpList Tryd.prog ops Q rest (a.put o.dst v1) w1) :
    wpList Tryd.prog ops Q (o :: rest) a (W.alloc (.cells ys E)) := by
  subst hH
  obtain ⟨i0, hi, hz0, hz1', hz2⟩ := info_parts hinfo
  refine wpList_append_own_at (W.alloc (.cells ys E)) hgd s x T ho base E i0 z size nb hu hi hz0 hz1' hz2 hz1 hpos v n us hs (HO.alloc _) ⟨W.heap.size, 0, none⟩ 1 1 ys.toList hx hys
    (World.news_of_block (heap_alloc_new W _)) hy (by simp only [maxLen]; omega) hl (by simp; omega) ?_
  intro v1 w1 hown hg _ hat
  refine h v1 w1 hown (((Below.refl base W).alloc hbase _).grown hg (by simp; omega) ?_) (World.grownBy.trans (World.grownBy_alloc W _ _) hg) ?_
  · intro k hk
    exact (HO.lt k hk).1
  · rcases hat with hat | hat
    · exact .inl hat
    · exact .inr (by rw [hat]; simp)
end
/-- Behind an append: the blocks of other types are as they were. -/
theorem Keep.of_append {B : Nat} {S : List TypeId} {x : Option Nat} {w w1 : World} {E size n : Nat} {v : Value} {us : List Value} (hg : w.grownBy w1 v.ownBlock) (hr : w.ownsRow B E size v n us) (hB : B ≤ w.heap.size) (hE : S.contains E = true) : Keep B S x w w1 := by
  rcases hr.2 with ⟨rfl, _⟩ | ⟨g, cap, cur, rfl, hb, hh, _⟩
  · exact ⟨hg.os, hg.tape, hg.output, hg.size, fun k hk => hg.block k (by omega) (by simp [Value.ownBlock]), fun k cs t hk _ _ => (hg.block k (heap_lt hk) (by simp [Value.ownBlock])).trans hk⟩
  · exact Keep.of_grown hg hh hb hE
end Go.Proofs.YtfolchpjccjadaaDoor
/- The walk of the arena's Alloc: the least free cell is taken, and has nought. Condition: fewer than 2000 are taken. -/
namespace Go.Proofs.YtfolchpjccjadaaDoor
open Go.RowKit
set_option linter.unusedVariables false

theorem first_zero (W : Nat) : ∀ n, (∀ i, i < n → W.testBit i = true) ∨ ∃ k, k < n ∧ W.testBit k = false ∧ ∀ i, i < k → W.testBit i = true
  | 0 => .inl (fun i hi => by omega)
  | n + 1 => by
    rcases first_zero W n with h | ⟨k, hk, h1, h2⟩
    · cases hb : W.testBit n with
      | true =>
        left
        intro i hi
        by_cases e : i = n
        · rw [e]; exact hb
        · exact h i (by omega)
      | false => exact .inr ⟨n, by omega, hb, h⟩
    · exact .inr ⟨k, by omega, h1, h2⟩
theorem all_ones {W : Nat} (hW : W < 18446744073709551616) (h : ∀ i, i < 64 → W.testBit i = true) : W = 18446744073709551615 := by
  apply Nat.eq_of_testBit_eq
  intro i
  rw [show (18446744073709551615 : Nat) = 2 ^ 64 - 1 from by decide, Nat.testBit_two_pow_sub_one]
  by_cases hi : i < 64
  · rw [h i hi]; simp [hi]
  · rw [Nat.testBit_lt_two_pow (Nat.lt_of_lt_of_le (show W < 2 ^ 64 from hW) (Nat.pow_le_pow_right (by omega) (by omega)))]
    simp [hi]
theorem ones_bit {i : Nat} (hi : i < 64) : (18446744073709551615 : Nat).testBit i = true := by
  rw [show (18446744073709551615 : Nat) = 2 ^ 64 - 1 from by decide, Nat.testBit_two_pow_sub_one]
  simp [hi]
theorem compl_bit {W i : Nat} (hW : W < 18446744073709551616) (hi : i < 64) : (18446744073709551615 - W).testBit i = !W.testBit i := by
  have e : 18446744073709551615 - W = 2 ^ 64 - (W + 1) := by omega
  rw [e, Nat.testBit_two_pow_sub_succ hW]
  simp [hi]
theorem xor_compl {W : Nat} (hW : W < 18446744073709551616) : (18446744073709551615 : Nat) ^^^ W = 18446744073709551615 - W := by
  apply Nat.eq_of_testBit_eq
  intro i
  rw [Nat.testBit_xor]
  by_cases hi : i < 64
  · rw [ones_bit hi, compl_bit hW hi]
    simp
  · have hp : (2 : Nat) ^ 64 ≤ 2 ^ i := Nat.pow_le_pow_right (by omega) (by omega)
    have h1 : (18446744073709551615 : Nat).testBit i = false := Nat.testBit_lt_two_pow (by omega)
    have h2 : W.testBit i = false := Nat.testBit_lt_two_pow (by omega)
    have h3 : (18446744073709551615 - W).testBit i = false := Nat.testBit_lt_two_pow (by omega)
    rw [h1, h2, h3]
    rfl
theorem compl_val {W : Nat} (hW : W < 18446744073709551616) : bits .xor .u64 (if IntKind.u64.signed = true then -1 else IntKind.u64.max) (W : Int) = ((18446744073709551615 - W : Nat) : Int) := by
  have e : (if IntKind.u64.signed = true then (-1 : Int) else IntKind.u64.max) = ((18446744073709551615 : Nat) : Int) := by decide
  rw [e, u64_xor_nat _ W (by omega) hW, xor_compl hW]
def wOn (W k : Nat) : Nat := W ||| 2 ^ k
theorem wOn_bit (W k i : Nat) : (wOn W k).testBit i = (W.testBit i || decide (k = i)) := by
  unfold wOn
  rw [Nat.testBit_or, Nat.testBit_two_pow]
theorem wOn_lt {W k : Nat} (hW : W < 18446744073709551616) (hk : k < 64) : wOn W k < 18446744073709551616 := by
  have h1 : W < 2 ^ 64 := hW
  have h2 : 2 ^ k < 2 ^ 64 := pow_lt64 hk
  exact Nat.or_lt_two_pow h1 h2
theorem on_val {W k : Nat} (hW : W < 18446744073709551616) (hk : k < 64) : bits .or .u64 (W : Int) (IntKind.u64.wrap (2 ^ k)) = ((wOn W k : Nat) : Int) := by
  rw [pow64 hk, u64_or_nat W _ hW (pow_lt64 hk)]
  rfl
/-- What the cells have behind an Alloc. -/
def newH (H : List Nat) (c : Nat) : List Nat := if c = H.length then H ++ [0] else H.set c 0
theorem newH_len {H : List Nat} {c : Nat} (hc : c ≤ H.length) : c < (newH H c).length ∧ H.length ≤ (newH H c).length ∧ (newH H c).length ≤ max H.length (c + 1) := by
  unfold newH
  split
  · rw [List.length_append, List.length_singleton]; omega
  · rw [List.length_set]; omega
theorem ArP.alloc {H L : List Nat} {wd : Nat → Nat} {lo k : Nat} (h : ArP H L wd lo) (hk : k < 64) (h0 : (wd lo).testBit k = false) (h1 : ∀ i, i < k → (wd lo).testBit i = true) (hL : L.length < 2000) :
    64 * lo + k ≤ L.length ∧ 64 * lo + k ≤ H.length ∧ 64 * lo + k ∉ L ∧ ArP (newH H (64 * lo + k)) ((64 * lo + k) :: L) (fun j => if j = lo then wOn (wd lo) k else wd j) lo := by
  have hm : ∀ c, c < 64 * lo + k → c ∈ L := by
    intro c hc
    by_cases e : c < 64 * lo
    · exact h.low c e
    · have := h.bit lo (c - 64 * lo) (by omega)
      rw [h1 _ (by omega), show 64 * lo + (c - 64 * lo) = c from by omega] at this
      exact of_decide_eq_true this.symm
  have hn : 64 * lo + k ∉ L := by
    have := h.bit lo k hk
    rw [h0] at this
    exact of_decide_eq_false this.symm
  have hle : 64 * lo + k ≤ L.length := range_le _ _ hm
  have hH : 64 * lo + k ≤ H.length := by
    rcases Nat.lt_or_ge H.length (64 * lo + k) with e | e
    · have := h.lt _ (hm _ e); omega
    · exact e
  obtain ⟨n1, n2, n3⟩ := newH_len hH
  refine ⟨hle, hH, hn, ⟨List.nodup_cons.2 ⟨hn, h.nd⟩, fun c hc => ?_, by have := h.len; omega, fun x hx => ?_, fun j => ?_, fun j i hi => ?_, fun c hc => List.mem_cons_of_mem _ (h.low c hc)⟩⟩
  · rcases List.mem_cons.1 hc with rfl | hc
    · exact n1
    · have := h.lt c hc; omega
  · unfold newH at hx
    split at hx
    · rcases List.mem_append.1 hx with hx | hx
      · exact h.val x hx
      · rw [List.mem_singleton.1 hx]; omega
    · rcases List.mem_or_eq_of_mem_set hx with hx | hx
      · exact h.val x hx
      · rw [hx]; omega
  · split
    · exact wOn_lt (h.wlt _) hk
    · exact h.wlt j
  · have hd : decide (64 * j + i ∈ (64 * lo + k) :: L) = (decide (64 * j + i = 64 * lo + k) || decide (64 * j + i ∈ L)) := by
      rw [Bool.eq_iff_iff]
      simp
    rw [hd]
    split
    · rename_i e
      subst e
      rw [wOn_bit, h.bit _ i hi]
      by_cases e2 : k = i
      · subst e2; simp
      · have e3 : ¬ i = k := fun e => e2 e.symm
        simp [e2, e3]
    · rename_i e
      rw [h.bit j i hi]
      have : ¬ (64 * j + i = 64 * lo + k) := by omega
      simp [this]
theorem ArP.up {H L : List Nat} {wd : Nat → Nat} {lo : Nat} (h : ArP H L wd lo) (hw : wd lo = 18446744073709551615) : ArP H L wd (lo + 1) :=
  ⟨h.nd, h.lt, h.len, h.val, h.wlt, h.bit, fun c hc => by
    by_cases e : c < 64 * lo
    · exact h.low c e
    · have := h.bit lo (c - 64 * lo) (by omega)
      rw [hw, ones_bit (by omega), show 64 * lo + (c - 64 * lo) = c from by omega] at this
      exact of_decide_eq_true this.symm⟩
theorem ArP.low_le {H L : List Nat} {wd : Nat → Nat} {lo : Nat} (h : ArP H L wd lo) : 64 * lo ≤ L.length := range_le _ _ h.low

theorem ArW.of {w : World} {B a : Nat} {H L : List Nat} {cs : Array Value} {hv : Value} {wd : Nat → Nat} {lo u : Nat} {st : Int} (hm : ArM w B a cs hv wd lo u st) (hu : u = L.length) (hr : w.ownsRow B 48 1 hv H.length (H.map u64v)) (hp : ArP H L wd lo) : ArW w B a H L := by
  subst hu
  exact ⟨cs, hv, wd, lo, st, hm, hr, hp⟩
/-- What Alloc answers. -/
def AllocR (B a : Nat) (H L : List Nat) (w : World) (e : Ending) (w' : World) : Prop :=
  ∃ c : Nat, e = .returned (.tuple #[.int .i64 (c : Int), .int .i64 0]) ∧ c ≤ H.length ∧ c ∉ L ∧ ArW w' B a (newH H c) (c :: L) ∧ Keep B [51, 48] none w w'
def lowOf (a : Nat) (w : World) : Nat := match w.cell? ⟨a, 1026, none⟩ with
  | some (.int _ n) => n.toNat
  | _ => 0

theorem newH_end {H : List Nat} {c : Nat} (h : c = H.length) : (H.map u64v ++ [Value.int .u64 0]).set c (.int .u64 0) = (newH H c).map u64v ∧ (newH H c).length = H.length + 1 := by
  subst h
  unfold newH
  rw [if_pos rfl]
  constructor
  · rw [List.set_append_right _ _ (by rw [List.length_map]; omega), List.length_map, Nat.sub_self, List.map_append]
    rfl
  · simp
theorem newH_mid {H : List Nat} {c : Nat} (h : c ≠ H.length) : (H.map u64v).set c (.int .u64 0) = (newH H c).map u64v ∧ (newH H c).length = H.length := by
  unfold newH
  rw [if_neg h]
  exact ⟨map_set_u64 H c 0, by simp⟩
theorem row_slice {w : World} {B e size n : Nat} {v : Value} {xs : List Value} (h : w.ownsRow B e size v n xs) : ∃ A cap, v = .slice A n cap := by
  rcases h.2 with ⟨rfl, h0⟩ | ⟨g, cap, cur, rfl, _⟩
  · exact ⟨none, 0, by rw [h0]⟩
  · exact ⟨_, cap, rfl⟩
theorem row_some {w : World} {B e size n : Nat} {v : Value} {xs : List Value} (h : w.ownsRow B e size v n xs) (hn : 0 < n) : ∃ g cap, v = .slice (some ⟨g, 0, none⟩) n cap ∧ n ≤ cap := by
  rcases h.2 with ⟨rfl, h0⟩ | ⟨g, cap, cur, rfl, _, _, h3, _⟩
  · omega
  · exact ⟨g, cap, rfl, h3⟩
theorem row_block {w : World} {B e size n g cap : Nat} {xs : List Value} (h : w.ownsRow B e size (.slice (some ⟨g, 0, none⟩) n cap) n xs) : ∃ cur, w.heap[g]? = some (.cells cur e (0, 0)) := by
  rcases h.2 with ⟨h0, _⟩ | ⟨g', cap', cur, hv', _, hh, _⟩
  · cases h0
  · injection hv' with e1 _ _
    injection e1 with e1
    injection e1 with e1 _ _
    subst e1
    exact ⟨cur, hh⟩
theorem lowOf_of {a : Nat} {w : World} {n : Int} (h : w.cell? ⟨a, 1026, none⟩ = some (.int .i64 n)) : lowOf a w = n.toNat := by unfold lowOf; rw [h]

set_option maxRecDepth 100000 in
set_option maxHeartbeats 2000000 in
theorem alloc_any (B a : Nat) (H L : List Nat) (w : World) (hA : ArW w B a H L) (ht : TabW w) (hB : 0 < B) (hBs : B ≤ w.heap.size) (hL : L.length < 2000) :
    Calls Tryd.prog 13 #[.pointer (some ⟨a, 0, none⟩)] w (AllocR B a H L w) := by
  obtain ⟨cs, hv, wd, lo, st, hM, hR, hP⟩ := hA
  obtain ⟨A, cap, rfl⟩ := row_slice hR
  have x0 := box_cells hM.hp 0 _ hM.c0
  have x4 := box_cells hM.hp 1027 _ hM.c4
  have t0 : ((L.length : Int) == 2000) = false := by rw [beq_eq_false_iff_ne]; omega
  have HM := Lib.hid hM
  have HR := Lib.hid hR
  have HP := Lib.hid hP
  have HT := Lib.hid ht
  clear hM hR hP ht
  go_enter Tryd.func13, Tryd.ntmps13
  go_wp2_with fail
  go_quiet (fail)
  go_wp2_with fail
  clear x0 x4
  have hM' : ArM (w.drewN nq) B a cs (.slice A H.length cap) wd lo L.length st := HM.out.same rfl
  go_loopw [] (fun wr => ∃ lo' cs', ArM wr B a cs' (.slice A H.length cap) wd lo' L.length st ∧ wr.ownsRow B 48 1 (.slice A H.length cap) H.length (H.map u64v) ∧ ArP H L wd lo' ∧ Keep B [51] none w wr) (fun wr => 32 - lowOf a wr)
  case atStart => exact ⟨lo, cs, HM.out.same rfl, HR.out, HP.out, (Keep.refl _ _ _ _).drewN _⟩
  case round =>
    obtain ⟨lo', cs', hm, hr, hp, hk⟩ := hrel
    have hlo := hp.low_le
    have y3 := box_cells hm.hp 1026 _ hm.c3
    have y2 := box_cells hm.hp (2 + lo') _ (hm.c2 lo' (by omega))
    have fz := froz_all hm.hp
    obtain ⟨W, hW⟩ : ∃ W, W = wd lo' := ⟨_, rfl⟩
    have hwl := hp.wlt lo'
    rw [← hW] at y2 hwl
    have HM1 := Lib.hid hm
    have HR1 := Lib.hid hr
    have HP1 := Lib.hid hp
    have HK1 := Lib.hid hk
    have HWW := Lib.hid hW
    have hl31 : (lo' : Int) < 1024 := by omega
    clear hm hr hp hk hW
    by_cases hfull : W = 18446744073709551615
    · have t1 : ((W : Int) == 18446744073709551615) = true := by rw [beq_iff_eq]; omega
      have hp2 := HP1.out.up (by rw [← HWW.out]; exact hfull)
      have hlo2 := hp2.low_le
      have HP2 := Lib.hid hp2
      have HF := Lib.hid hfull
      clear hp2 hfull
      have hm3 := HM1.out.setLo (lo' + 1)
      have e5 : ((lo' + 1 : Nat) : Int) = (lo' : Int) + 1 := by omega
      rw [e5] at hm3
      have hg5 := only_one wr a 1026 (.int .i64 ((lo' : Int) + 1))
      have HR5 := Lib.hid (World.ownsRow.kept HR1.out hg5 (.inr (row_ne HR1.out HM1.out.hp (by decide))))
      have HK5 := Lib.hid (HK1.out.trans (Keep.of_grown (S := [51]) (x := none) hg5 HM1.out.hp HM1.out.ba rfl))
      have HM5 := Lib.hid hm3
      have HY3 := Lib.hid y3
      clear hm3 e5 hg5
      go_wp2_with fail
      go_quiet (fail)
      go_wp2_with fail
      refine ⟨⟨lo' + 1, _, HM5.out.same rfl, HR5.out, HP2.out, ⟨HK5.out.os, HK5.out.tape, HK5.out.output, HK5.out.size, HK5.out.low, HK5.out.rest⟩⟩, ?_⟩
      have q1 := lowOf_of (w := (wr.drewN nq).setCell ⟨a, 1026, none⟩ (.int .i64 ((lo' : Int) + 1))) (box_cells HM5.out.hp 1026 _ HM5.out.c3)
      rw [q1, lowOf_of HY3.out]
      omega
    · have t1 : ((W : Int) == 18446744073709551615) = false := by rw [beq_eq_false_iff_ne]; omega
      obtain ⟨k, hk64, hk0, hk1⟩ : ∃ k, k < 64 ∧ W.testBit k = false ∧ ∀ i, i < k → W.testBit i = true := by
        rcases first_zero W 64 with h | ⟨k, h1, h2, h3⟩
        · exact absurd (all_ones hwl h) hfull
        · exact ⟨k, h1, h2, h3⟩
      have hal := HP1.out.alloc hk64 (by rw [← HWW.out]; exact hk0) (by rw [← HWW.out]; exact hk1) hL
      rw [← HWW.out] at hal
      obtain ⟨hcl, hcH, hcn, hpn⟩ := hal
      obtain ⟨c, hc⟩ : ∃ c, c = 64 * lo' + k := ⟨_, rfl⟩
      rw [← hc] at hcl hcH hcn hpn
      have HPN := Lib.hid hpn
      have HTZ := Lib.hid (fun (W' : World) (h : Keep B [51] none w W') => tz_any (18446744073709551615 - W) k W' (HT.out.keep h hB) (by omega) (by rw [compl_bit hwl hk64, hk0]; rfl) (fun i hi => by rw [compl_bit hwl (by omega), hk1 i hi]; rfl))
      have hH2000 := HP1.out.len
      clear hfull hk0 hk1 hpn
      go_wp2_with fail
      go_quiet (fail)
      go_wp2_with fail
      clear y3 y2 fz
      obtain ⟨w5, hw5⟩ : ∃ x, x = wr.drewN nq := ⟨_, rfl⟩
      have hm5 : ArM w5 B a cs' (.slice A H.length cap) wd lo' L.length st := by rw [hw5]; exact HM1.out.same rfl
      have hr5 : w5.ownsRow B 48 1 (.slice A H.length cap) H.length (H.map u64v) := by rw [hw5]; exact HR1.out
      have hk5 : Keep B [51] none w w5 := by rw [hw5]; exact HK1.out.drewN _
      rw [← hw5]
      have y3 := box_cells hm5.hp 1026 _ hm5.c3
      have y2 := box_cells hm5.hp (2 + lo') _ (hm5.c2 lo' (by omega))
      rw [← HWW.out] at y2
      have HM5 := Lib.hid hm5
      have HR5 := Lib.hid hr5
      have HK5 := Lib.hid hk5
      have hz : ∀ q, Calls Tryd.prog 22 #[.int .u64 ((18446744073709551615 - W : Nat) : Int)] (w5.drewN q) fun e w' => e = .returned (.int .i64 (k : Nat)) ∧ w' = w5.drewN q := fun q => (HTZ.out (w5.drewN q) (hk5.drewN q)).mono fun e w' ⟨h1, h2⟩ => ⟨h1, h2.symm⟩
      have HZ := Lib.hid hz
      clear hm5 hr5 hk5 hz hw5
      have e7 := compl_val hwl
      go_quiet ((go_at_call 22; exact Calls.quiet_of_same (HZ.out _)))
      clear e7
      go_wp2_with fail
      have e9 : IntKind.i64.wrap ((lo' : Int) * 64) = (lo' : Int) * 64 := IntWalk.i64_in _ (by omega)
      have e8 : IntKind.i64.wrap ((lo' : Int) * 64 + (k : Int)) = (c : Int) := (IntWalk.i64_in _ (by omega)).trans (by omega)
      rw [e9, e8]
      clear e9 e8 y3 y2
      obtain ⟨w6, hw6⟩ : ∃ x, x = w5.drewN nq := ⟨_, rfl⟩
      have hm6 : ArM w6 B a cs' (.slice A H.length cap) wd lo' L.length st := by rw [hw6]; exact HM5.out.same rfl
      have hr6 : w6.ownsRow B 48 1 (.slice A H.length cap) H.length (H.map u64v) := by rw [hw6]; exact HR5.out
      have hk6 : Keep B [51] none w w6 := by rw [hw6]; exact HK5.out.drewN _
      rw [← hw6]
      have y3 := box_cells hm6.hp 1026 _ hm6.c3
      have y2 := box_cells hm6.hp (2 + lo') _ (hm6.c2 lo' (by omega))
      rw [← HWW.out] at y2
      have fz := froz_all hm6.hp
      have hck : c % 64 = k := by omega
      have e10 := on_val hwl (k := c % 64) (by omega)
      -- the bit
      obtain ⟨w7, hw7⟩ : ∃ x, x = (w6.setCell ⟨a, 2 + lo', none⟩ (.int .u64 ((wOn W (c % 64) : Nat) : Int))).drew := ⟨_, rfl⟩
      have hg7 : w6.grownBy w7 (some a) := by
        have hg0 := only_one w6 a (2 + lo') (.int .u64 ((wOn W (c % 64) : Nat) : Int))
        rw [hw7]
        exact ⟨hg0.os, hg0.tape, hg0.output, hg0.size, hg0.block⟩
      have hm7 := ArM.same (w' := w7) (hm6.setWd lo' (wOn W (c % 64)) (by omega)) (by rw [hw7]; rfl)
      have hr7 := World.ownsRow.kept hr6 hg7 (.inr (row_ne hr6 hm6.hp (by decide)))
      have hk7 := hk6.trans (Keep.of_grown (S := [51]) (x := none) hg7 hm6.hp hm6.ba rfl)
      have z4 := box_cells hm7.hp 1027 _ hm7.c4
      have fz7 := froz_all hm7.hp
      -- the count
      obtain ⟨w8, hw8⟩ : ∃ x, x = w7.setCell ⟨a, 1027, none⟩ (.int .i64 ((L.length : Int) + 1)) := ⟨_, rfl⟩
      have hm8 := hm7.setU (L.length + 1)
      have e11 : ((L.length + 1 : Nat) : Int) = (L.length : Int) + 1 := by omega
      rw [e11] at hm8
      rw [← hw8] at hm8
      have hg8 : w7.grownBy w8 (some a) := by rw [hw8]; exact only_one _ _ _ _
      have hr8 := World.ownsRow.kept hr7 hg8 (.inr (row_ne hr7 hm7.hp (by decide)))
      have hk8 := hk7.trans (Keep.of_grown (S := [51]) (x := none) hg8 hm7.hp hm7.ba rfl)
      have HM7 := Lib.hid hm7; have HM8 := Lib.hid hm8
      have HR8 := Lib.hid hr8
      have HK8 := Lib.hid hk8
      have HCK := Lib.hid hck
      have HW7 := Lib.hid hw7; have HW8 := Lib.hid hw8
      clear hm6 hr6 hk6 hw6 hm7 hr7 hk7 hg7 hw7 hm8 hr8 hk8 hg8 hw8 e11 hck
      have HCC := Lib.hid hc; clear hc
      go_region
      rw [← HW7.out]
      clear y3 y2 fz e10
      go_upto_region 10 with fail
      rw [← HW8.out]
      clear z4 fz7
      have x1 := box_cells HM8.out.hp 1 _ HM8.out.c1
      have hpn := HPN.out
      rw [← HCK.out] at hpn
      have HPN2 := Lib.hid hpn
      clear hpn
      have f1 := froz_all HM8.out.hp
      by_cases hcl2 : c = H.length
      · have t2 : ((c : Int) == (H.length : Int)) = true := by rw [beq_iff_eq]; omega
        obtain ⟨hn1, hn2⟩ := newH_end hcl2
        have HN1 := Lib.hid hn1
        have HN2 := Lib.hid hn2
        have hBs8 : B ≤ w8.heap.size := Nat.le_trans hBs HK8.out.size
        have hcl3 : c < H.length + 1 := by omega
        have HC2 := Lib.hid hcl2
        clear hn1 hn2 hcl2
        go_upto_region 12 with (at_builtin; refine append_one B w8.heap.size rfl 47 48 1 8 _ Tryd.underlying47 info48 rfl (by omega) rfl (.tmp 84) (.tmp 85) rfl _ H.length (H.map u64v) #[.int .u64 0] rfl ?hy rfl rfl HR8.out ?hb ?hl1 ?hl2 ?_; (case hy => intro u hu; simp at hu; subst hu; rfl); (case hb => exact hBs8); (case hl1 => omega); (case hl2 => omega); intro v1 w9 hown hb9 hg9 hat; have HK9 := Lib.hid (HK8.out.more (T := [51, 48]) rfl |>.trans (Keep.of_append (S := [51, 48]) (x := none) hg9 HR8.out hBs8 rfl)); have hm9 := HM8.out.same (hg9.block a (heap_lt HM8.out.hp) (fun e => row_ne HR8.out HM8.out.hp (by decide) e.symm)); have HM9 := Lib.hid hm9; have x9 := box_cells hm9.hp 1 _ hm9.c1; have f9 := froz_all hm9.hp; clear hb9 hg9 hat hm9; (obtain ⟨g1, cap1, rfl, hgc⟩ := row_some hown (by omega)); have HO9 := Lib.hid hown; clear hown)
        have hm10 := HM9.out.setHv (.slice (some ⟨g1, 0, none⟩) (H.length + 1) cap1)
        have hg10 := only_one w9 a 1 (.slice (some ⟨g1, 0, none⟩) (H.length + 1) cap1)
        obtain ⟨w10, hw10⟩ : ∃ x, x = w9.setCell ⟨a, 1, none⟩ (.slice (some ⟨g1, 0, none⟩) (H.length + 1) cap1) := ⟨_, rfl⟩
        rw [← hw10] at hm10 hg10
        have hr10 := World.ownsRow.kept HO9.out hg10 (.inr (row_ne HO9.out HM9.out.hp (by decide)))
        have hk10 := HK9.out.trans (Keep.of_grown (S := [51, 48]) (x := none) hg10 HM9.out.hp HM9.out.ba rfl)
        rw [← hw10]
        clear hw10 x9 f9
        have x10 := box_cells hm10.hp 1 _ hm10.c1
        have hs10 := World.ownsRow.stored hr10 c (.int .u64 0)
        obtain ⟨cur, hcur⟩ := row_block hr10
        have hlt := World.ownsRow.lt hr10 g1 rfl
        have z10 : w10.cell? ⟨g1, c, none⟩ = some (.int .u64 0) := row_cell hr10 c _ (by rw [HC2.out]; simp)
        have fz10 := froz_all hcur c
        have hne := row_ne hr10 hm10.hp (by decide)
        have hm11 := hm10.same ((only_one w10 g1 c (.int .u64 0)).block a (heap_lt hm10.hp) (fun e => hne (show some g1 = some a from e.symm)))
        have HK11 := Lib.hid (hk10.trans (Keep.of_grown (S := [51, 48]) (x := none) (only_one w10 g1 c (.int .u64 0)) hcur hlt.1 rfl))
        have hr11 := hs10.1
        have HM11 := Lib.hid hm11
        have HR11 := Lib.hid hr11
        clear hm10 hg10 hr10 hk10 hs10 hcur hne hm11 hr11
        go_wp2_with fail
        refine bodyPost_ret (v := .tuple #[.int .i64 (c : Int), .int .i64 0]) (by simp [results, Tryd.results13, go_sem]) rfl ?_
        exact ⟨c, rfl, hcH, hcn, ArW.of HM11.out rfl (by rw [HN2.out, ← HN1.out]; exact HR11.out) HPN2.out, HK11.out⟩
      · have t2 : ((c : Int) == (H.length : Int)) = false := by rw [beq_eq_false_iff_ne]; omega
        obtain ⟨hn1, hn2⟩ := newH_mid hcl2
        have hlt0 : c < H.length := by omega
        obtain ⟨g1, cap1, hsl, hgc⟩ := row_some HR8.out (by omega)
        injection hsl with hA1 hA2 hA3
        subst hA1 hA3
        clear hA2
        have hr10 := HR8.out
        have hm10 := HM8.out
        have hs10 := World.ownsRow.stored hr10 c (.int .u64 0)
        obtain ⟨cur, hcur⟩ := row_block hr10
        have hlt := World.ownsRow.lt hr10 g1 rfl
        have z10 : w8.cell? ⟨g1, c, none⟩ = some (u64v H[c]) := row_cell hr10 c _ (by rw [List.getElem?_map, List.getElem?_eq_getElem hlt0]; rfl)
        have fz10 := froz_all hcur c
        have hne := row_ne hr10 hm10.hp (by decide)
        have hm11 := hm10.same ((only_one w8 g1 c (.int .u64 0)).block a (heap_lt hm10.hp) (fun e => hne (show some g1 = some a from e.symm)))
        have HK11 := Lib.hid ((HK8.out.more (T := [51, 48]) rfl).trans (Keep.of_grown (S := [51, 48]) (x := none) (only_one w8 g1 c (.int .u64 0)) hcur hlt.1 rfl))
        have hr11 := hs10.1
        have HM11 := Lib.hid hm11
        have HR11 := Lib.hid hr11
        have HN1 := Lib.hid hn1
        have HN2 := Lib.hid hn2
        clear hm10 hr10 hs10 hcur hne hm11 hr11 hn1 hn2 hcl2
        go_wp2_with fail
        refine bodyPost_ret (v := .tuple #[.int .i64 (c : Int), .int .i64 0]) (by simp [results, Tryd.results13, go_sem]) rfl ?_
        exact ⟨c, rfl, hcH, hcn, ArW.of HM11.out rfl (by rw [HN2.out, ← HN1.out]; exact HR11.out) HPN2.out, HK11.out⟩
end Go.Proofs.YtfolchpjccjadaaDoor
/- The walk of the arena's New: 2000 cells, all free. -/
namespace Go.Proofs.YtfolchpjccjadaaDoor
open Go.RowKit
set_option linter.unusedVariables false

set_option maxRecDepth 100000 in
theorem z51 : Tryd.zeroCells51.toList = Value.int .i64 0 :: Value.slice none 0 0 :: (List.replicate 1024 (Value.int .u64 0) ++ [Value.int .i64 0, Value.int .i64 0, Value.int .i64 0]) := by kernel_rfl
theorem z51_get (i : Nat) : Tryd.zeroCells51[i]? = (Value.int .i64 0 :: Value.slice none 0 0 :: (List.replicate 1024 (Value.int .u64 0) ++ [Value.int .i64 0, Value.int .i64 0, Value.int .i64 0]))[i]? := by
  rw [← z51, Array.getElem?_toList]
theorem z51_size : Tryd.zeroCells51.size = 1029 := Tryd.zeroCells51_size
theorem z51_word (j : Nat) (hj : j < 1024) : Tryd.zeroCells51[2 + j]? = some (.int .u64 0) := by
  rw [z51_get, show 2 + j = j + 1 + 1 from by omega, List.getElem?_cons_succ, List.getElem?_cons_succ, List.getElem?_append_left (by rw [List.length_replicate]; exact hj), List.getElem?_replicate_of_lt hj]
theorem z51_tail (j : Nat) (hj : j < 3) : Tryd.zeroCells51[1026 + j]? = some (.int .i64 0) := by
  rw [z51_get, show 1026 + j = (1024 + j) + 1 + 1 from by omega, List.getElem?_cons_succ, List.getElem?_cons_succ, List.getElem?_append_right (by rw [List.length_replicate]; omega), List.length_replicate, Nat.add_sub_cancel_left]
  rcases j with _ | _ | _ | j
  · rfl
  · rfl
  · rfl
  · omega
theorem ArP.none : ArP [] [] (fun _ => 0) 0 := ⟨List.nodup_nil, (fun c hc => by cases hc), (by simp), (fun x hx => by cases hx), (fun j => by omega), (fun j i hi => by rw [Nat.zero_testBit]; simp), (fun c hc => by omega)⟩

set_option maxRecDepth 100000 in
set_option maxHeartbeats 1000000 in
theorem new_any (w : World) : Calls Tryd.prog 4 #[.int .i64 2000] w fun e w' => e = .returned (.tuple #[.pointer (some ⟨w.heap.size, 0, none⟩), .int .i64 0]) ∧ ArW w' w.heap.size w.heap.size [] [] ∧ Below w.heap.size w w' := by
  have hA : ArW (w.alloc (.cells (Tryd.zeroCells51.setIfInBounds 0 (.int .i64 2000)) 51)) w.heap.size w.heap.size [] [] := by
    refine ⟨_, .slice none 0 0, fun _ => 0, 0, 0, ⟨heap_alloc_new w _, Nat.le_refl _, by rw [Array.size_setIfInBounds, z51_size], seteq (by rw [z51_size]; omega), setne (by rw [z51_get]; rfl) (by omega), fun j hj => setne (z51_word j hj) (by omega), setne (z51_tail 0 (by omega)) (by omega), setne (z51_tail 1 (by omega)) (by omega), setne (z51_tail 2 (by omega)) (by omega)⟩, ⟨rfl, .inl ⟨rfl, rfl⟩⟩, ArP.none⟩
  have HA := Lib.hid hA
  clear hA
  go_enter Tryd.func4, Tryd.ntmps4
  go_wp2_with fail
  go_ret2
  exact ⟨rfl, HA.out, (Below.refl _ _).alloc (Nat.le_refl _) _⟩
end Go.Proofs.YtfolchpjccjadaaDoor
