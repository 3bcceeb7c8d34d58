/- The skip list in memory: its nodes, an operation; the walks of ends, again, at, isKey. -/
import Derived.Test.YtfolchpjccjadaaDoorHj
import Derived.Test.YtfolchpjccjadaaDoorZ03
namespace Go.Proofs.YtfolchpjccjadaaDoor
open Go.RowKit
set_option linter.unusedVariables false
attribute [local go_sem] bs_list bs_size

/-- A key as the list bears it: its bytes, noughts behind, and how many they are. -/
def wdB (k : List UInt8) : List UInt8 := (k.take 16 ++ List.replicate 16 0).take 16 ++ [UInt8.ofNat k.length]
theorem wdB_len (k : List UInt8) : (wdB k).length = 17 := by simp [wdB]
theorem wdB_inj {a b : List UInt8} (ha : isKey a = true) (hb : isKey b = true) (h : wdB a = wdB b) : a = b := by
  have h1 := (isKey_iff a).1 ha
  have h2 := (isKey_iff b).1 hb
  unfold wdB at h
  have hl : ∀ k : List UInt8, ((k.take 16 ++ List.replicate 16 0).take 16).length = 16 := by intro k; simp
  obtain ⟨e1, e2⟩ := List.append_inj h (by rw [hl, hl])
  have e3 : UInt8.ofNat a.length = UInt8.ofNat b.length := by simpa using e2
  have e4 : a.length = b.length := by
    have := congrArg UInt8.toNat e3
    simp only [UInt8.toNat_ofNat'] at this
    omega
  have e5 : ∀ k : List UInt8, k.length ≤ 16 → ((k.take 16 ++ List.replicate 16 0).take 16).take k.length = k := by
    intro k hk
    rw [List.take_of_length_le hk, List.take_take, Nat.min_eq_left hk, List.take_left]
  rw [← e5 a h1.2, e1, e4, e5 b h2.2]
def wn (k : List UInt8) (j : Nat) : Int := (((wdB k).getD j 0).toNat : Int)
def wv (k : List UInt8) (j : Nat) : Value := bv ((wdB k).getD j 0)
/-- A node's cells. -/
def nodCells (x : Nod) (ref : Int) : Array Value :=
  #[.string (bs x.key), wv x.key 0, wv x.key 1, wv x.key 2, wv x.key 3, wv x.key 4, wv x.key 5, wv x.key 6, wv x.key 7, wv x.key 8, wv x.key 9, wv x.key 10, wv x.key 11, wv x.key 12, wv x.key 13, wv x.key 14, wv x.key 15, wv x.key 16, .int .i64 ref,
    intv (x.tower.getD 0 0), intv (x.tower.getD 1 0), intv (x.tower.getD 2 0), intv (x.tower.getD 3 0), intv (x.tower.getD 4 0), intv (x.tower.getD 5 0), intv (x.tower.getD 6 0), intv (x.tower.getD 7 0), intv x.height]
/-- An operation's cells. -/
def sopCells (l : Nat) (s : Sop) (ref : Int) (found : ByteArray) (had : Bool) (code : Int) : Array Value :=
  #[.pointer (some ⟨l, 0, none⟩), .int .i64 0, .string (bs s.key), wv s.key 0, wv s.key 1, wv s.key 2, wv s.key 3, wv s.key 4, wv s.key 5, wv s.key 6, wv s.key 7, wv s.key 8, wv s.key 9, wv s.key 10, wv s.key 11, wv s.key 12, wv s.key 13, wv s.key 14, wv s.key 15, wv s.key 16, .int .i64 ref,
    intv s.height, intv s.does, .bool s.begun, intv s.level, intv s.pred,
    intv (s.preds.getD 0 0), intv (s.preds.getD 1 0), intv (s.preds.getD 2 0), intv (s.preds.getD 3 0), intv (s.preds.getD 4 0), intv (s.preds.getD 5 0), intv (s.preds.getD 6 0), intv (s.preds.getD 7 0),
    intv (s.succs.getD 0 0), intv (s.succs.getD 1 0), intv (s.succs.getD 2 0), intv (s.succs.getD 3 0), intv (s.succs.getD 4 0), intv (s.succs.getD 5 0), intv (s.succs.getD 6 0), intv (s.succs.getD 7 0),
    intv s.own, intv s.linked, .string found, .bool had, .int .i64 code]
def SopC (w : World) (B o l : Nat) (s : Sop) (ref : Int) (found : ByteArray) (had : Bool) (code : Int) : Prop := B ≤ o ∧ w.heap[o]? = some (.cells (sopCells l s ref found had code) 73 (0, 0))
def SopW (w : World) (B o l : Nat) (s : Sop) : Prop := B ≤ o ∧ ∃ ref found had code, w.heap[o]? = some (.cells (sopCells l s ref found had code) 73 (0, 0))
theorem SopW.keep {w w' : World} {B B' o l : Nat} {s : Sop} {S : List TypeId} {x : Option Nat} (h : SopW w B o l s) (hk : Keep B' S x w w') (h1 : S.contains 73 = false) (hx : x ≠ some o) : SopW w' B o l s := by
  obtain ⟨hb, ref, found, had, code, hh⟩ := h
  exact ⟨hb, ref, found, had, code, hk.rest o _ 73 hh h1 hx⟩
theorem SopW.lt {w : World} {B o l : Nat} {s : Sop} (h : SopW w B o l s) : o < w.heap.size := by
  obtain ⟨hb, ref, found, had, code, hh⟩ := h
  exact heap_lt hh
theorem list8 {α : Type} {l : List α} (h : l.length = 8) : ∃ a0 a1 a2 a3 a4 a5 a6 a7, l = [a0, a1, a2, a3, a4, a5, a6, a7] := by
  match l, h with
  | [a0, a1, a2, a3, a4, a5, a6, a7], _ => exact ⟨a0, a1, a2, a3, a4, a5, a6, a7, rfl⟩
theorem upto8 {j : Nat} (h : j < 8) : j = 0 ∨ j = 1 ∨ j = 2 ∨ j = 3 ∨ j = 4 ∨ j = 5 ∨ j = 6 ∨ j = 7 := by omega
theorem sop_preds_set {l : Nat} {s : Sop} {ref : Int} {found : ByteArray} {had : Bool} {code : Int} (h8 : s.preds.length = 8) {j : Nat} (hj : j < 8) (x : Nat) :
    (sopCells l s ref found had code).setIfInBounds (26 + j) (intv x) = sopCells l { s with preds := s.preds.set j x } ref found had code := by
  obtain ⟨a0, a1, a2, a3, a4, a5, a6, a7, e⟩ := list8 h8
  cases s
  simp only at e
  subst e
  rcases upto8 hj with rfl | rfl | rfl | rfl | rfl | rfl | rfl | rfl <;> rfl
theorem sop_succs_set {l : Nat} {s : Sop} {ref : Int} {found : ByteArray} {had : Bool} {code : Int} (h8 : s.succs.length = 8) {j : Nat} (hj : j < 8) (x : Nat) :
    (sopCells l s ref found had code).setIfInBounds (34 + j) (intv x) = sopCells l { s with succs := s.succs.set j x } ref found had code := by
  obtain ⟨a0, a1, a2, a3, a4, a5, a6, a7, e⟩ := list8 h8
  cases s
  simp only at e
  subst e
  rcases upto8 hj with rfl | rfl | rfl | rfl | rfl | rfl | rfl | rfl <;> rfl
theorem sop_preds_at {l : Nat} {s : Sop} {ref : Int} {found : ByteArray} {had : Bool} {code : Int} {j x : Nat} (hj : j < 8) (h : s.preds[j]? = some x) : (sopCells l s ref found had code)[26 + j]? = some (intv x) := by
  have e : s.preds.getD j 0 = x := by rw [List.getD_eq_getElem?_getD, h]; rfl
  rw [← e]
  rcases upto8 hj with rfl | rfl | rfl | rfl | rfl | rfl | rfl | rfl <;> rfl
theorem sop_succs_at {l : Nat} {s : Sop} {ref : Int} {found : ByteArray} {had : Bool} {code : Int} {j x : Nat} (hj : j < 8) (h : s.succs[j]? = some x) : (sopCells l s ref found had code)[34 + j]? = some (intv x) := by
  have e : s.succs.getD j 0 = x := by rw [List.getD_eq_getElem?_getD, h]; rfl
  rw [← e]
  rcases upto8 hj with rfl | rfl | rfl | rfl | rfl | rfl | rfl | rfl <;> rfl
theorem nod_tower_at {x : Nod} {ref : Int} {j c : Nat} (hj : j < 8) (h : x.tower[j]? = some c) : (nodCells x ref)[19 + j]? = some (intv c) := by
  have e : x.tower.getD j 0 = c := by rw [List.getD_eq_getElem?_getD, h]; rfl
  rw [← e]
  rcases upto8 hj with rfl | rfl | rfl | rfl | rfl | rfl | rfl | rfl <;> rfl

def ptrv (p : Nat) : Value := .pointer (some ⟨p, 0, none⟩)
/-- A node's block. -/
def NodW (w : World) (B p : Nat) (x : Nod) : Prop := B ≤ p ∧ x.tower.length = 8 ∧ ∃ ref, w.heap[p]? = some (.cells (nodCells x ref) 67 (0, 0))
/-- The list at block l, over the arena at block a: its nodes. -/
def LsC (w : World) (B l a : Nat) (N : List Nod) (nv : Value) (ps : List Nat) : Prop :=
  w.heap[l]? = some (.cells #[.pointer (some ⟨a, 0, none⟩), nv] 61 (0, 0)) ∧ B ≤ l ∧ ps.length = N.length ∧ w.ownsRow B 62 1 nv N.length (ps.map ptrv) ∧ ∀ (i : Nat) (x : Nod), N[i]? = some x → ∃ p, ps[i]? = some p ∧ NodW w B p x
def LsW (w : World) (B l a : Nat) (N : List Nod) : Prop := ∃ nv ps, LsC w B l a N nv ps
theorem NodW.keep {w w' : World} {B B' p : Nat} {x : Nod} {S : List TypeId} {y : Option Nat} (h : NodW w B p x) (hk : Keep B' S y w w') (h1 : S.contains 67 = false) (hx : ∀ g cs t', y = some g → w.heap[g]? = some (.cells cs t' (0, 0)) → t' ≠ 67) : NodW w' B p x := by
  obtain ⟨hb, h8, ref, hh⟩ := h
  exact ⟨hb, h8, ref, hk.rest p _ 67 hh h1 (fun e => hx p _ 67 e hh rfl)⟩
theorem LsC.keep {w w' : World} {B B' l a : Nat} {N : List Nod} {nv : Value} {ps : List Nat} {S : List TypeId} {x : Option Nat} (h : LsC w B l a N nv ps) (hk : Keep B' S x w w') (h1 : S.contains 61 = false) (h2 : S.contains 62 = false) (h3 : S.contains 67 = false) (hx : ∀ g cs t', x = some g → w.heap[g]? = some (.cells cs t' (0, 0)) → t' ≠ 61 ∧ t' ≠ 62 ∧ t' ≠ 67) : LsC w' B l a N nv ps := by
  obtain ⟨a1, a2, a3, a4, a5⟩ := h
  refine ⟨hk.rest l _ 61 a1 h1 (fun e => (hx l _ 61 e a1).1 rfl), a2, a3, hk.row a4 h2 (fun g e e2 => ?_), fun i y hy => ?_⟩
  · rcases a4.2 with ⟨rfl, h0⟩ | ⟨g', cap, cur, rfl, _, hg, _⟩
    · simp [Value.ownBlock] at e2
    · have : g' = g := by simpa [Value.ownBlock] using e2
      subst this
      exact (hx g' cur 62 e hg).2.1 rfl
  · obtain ⟨p, hp, hn⟩ := a5 i y hy
    exact ⟨p, hp, hn.keep hk h3 (fun g cs t' e hh => (hx g cs t' e hh).2.2)⟩
theorem LsC.w {w : World} {B l a : Nat} {N : List Nod} {nv : Value} {ps : List Nat} (h : LsC w B l a N nv ps) : LsW w B l a N := ⟨nv, ps, h⟩
theorem LsW.keep {w w' : World} {B B' l a : Nat} {N : List Nod} {S : List TypeId} {x : Option Nat} (h : LsW w B l a N) (hk : Keep B' S x w w') (h1 : S.contains 61 = false) (h2 : S.contains 62 = false) (h3 : S.contains 67 = false) (hx : ∀ g cs t', x = some g → w.heap[g]? = some (.cells cs t' (0, 0)) → t' ≠ 61 ∧ t' ≠ 62 ∧ t' ≠ 67) : LsW w' B l a N := by
  obtain ⟨nv, ps, h⟩ := h
  exact ⟨nv, ps, h.keep hk h1 h2 h3 hx⟩

set_option maxRecDepth 100000 in
set_option maxHeartbeats 1000000 in
theorem sends_any (B o l : Nat) (s : Sop) (k : ByteArray) (r : Int) (hadn : Bool) (c : Int) (w : World) (hs : SopW w B o l s) :
    Calls Tryd.prog 32 #[.pointer (some ⟨o, 0, none⟩), .string k, .int .i64 r, .bool hadn, .int .i64 c] w fun e w' => e = .returned (.bool true) ∧ SopW w' B o l { s with does := 3 } ∧ Keep B [] (some o) w w' := by
  obtain ⟨hb, ref, found, had, code, hh⟩ := hs
  have hlt := heap_lt hh
  have fz := froz_all hh
  have x20 := box_cells hh 20 (.int .i64 ref) rfl
  have x22 := box_cells hh 22 (intv s.does) rfl
  have x44 := box_cells hh 44 (.string found) rfl
  have x45 := box_cells hh 45 (.bool had) rfl
  have x46 := box_cells hh 46 (.int .i64 code) rfl
  have h1 := set_at (set_at (set_at (set_at (set_at hh 44 (.string k)) 20 (.int .i64 r)) 45 (.bool hadn)) 46 (.int .i64 c)) 22 (.int .i64 3)
  have HF := Lib.hid h1
  have HK := Lib.hid ((((((Keep.refl B [] (some o) w).setOwn hlt hb 44 (.string k)).setOwn (by simpa [World.setCell] using hlt) hb 20 (.int .i64 r)).setOwn (by simpa [World.setCell] using hlt) hb 45 (.bool hadn)).setOwn (by simpa [World.setCell] using hlt) hb 46 (.int .i64 c)).setOwn (by simpa [World.setCell] using hlt) hb 22 (.int .i64 3))
  clear h1 hh
  go_enter Tryd.func32, Tryd.ntmps32
  go_wp2_with fail
  go_ret
  exact ⟨rfl, ⟨hb, r, k, hadn, c, HF.out⟩, HK.out⟩

set_option maxRecDepth 100000 in
set_option maxHeartbeats 1000000 in
theorem again_any (B o l : Nat) (s : Sop) (w : World) (hs : SopW w B o l s) :
    Calls Tryd.prog 34 #[.pointer (some ⟨o, 0, none⟩)] w fun e w' => e = .returned (.tuple #[]) ∧ SopW w' B o l s.again ∧ Keep B [] (some o) w w' := by
  obtain ⟨hb, ref, found, had, code, hh⟩ := hs
  have hlt := heap_lt hh
  have fz := froz_all hh
  have x22 := box_cells hh 22 (intv s.does) rfl
  have x24 := box_cells hh 24 (intv s.level) rfl
  have x25 := box_cells hh 25 (intv s.pred) rfl
  have h1 := set_at (set_at (set_at hh 22 (.int .i64 0)) 24 (.int .i64 7)) 25 (.int .i64 0)
  have HF := Lib.hid h1
  have HK := Lib.hid ((((Keep.refl B [] (some o) w).setOwn hlt hb 22 (.int .i64 0)).setOwn (by simpa [World.setCell] using hlt) hb 24 (.int .i64 7)).setOwn (by simpa [World.setCell] using hlt) hb 25 (.int .i64 0))
  clear h1 hh
  go_enter Tryd.func34, Tryd.ntmps34
  go_wp2_with fail
  go_end0
  exact ⟨rfl, ⟨hb, ref, found, had, code, HF.out⟩, HK.out⟩
end Go.Proofs.YtfolchpjccjadaaDoor
