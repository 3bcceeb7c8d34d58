/- The hash index in memory: the table, its entries, an operation; the walks of ends, refused, at. -/
import Derived.Test.YtfolchpjccjadaaDoorCr
namespace Go.Proofs.YtfolchpjccjadaaDoor
open Go.RowKit
set_option linter.unusedVariables false
attribute [local go_sem] bs_list bs_size

def intv (n : Nat) : Value := .int .i64 (n : Int)
/-- An entry: its key, what it names, the cell with the next one's number. -/
structure Ent where
  key : List UInt8
  ref : Int
  cell : Nat
def entV (e : Ent) : List Value := [.string (bs e.key), .int .i64 e.ref, .int .i64 (e.cell : Int)]
def flatE (E : List Ent) : List Value := E.flatMap entV
theorem flatE_len (E : List Ent) : (flatE E).length = E.length * 3 := by
  induction E with
  | nil => rfl
  | cons x r ih => simp only [flatE, List.flatMap_cons, List.length_append, entV, List.length_cons, List.length_nil] at ih ⊢; omega
theorem flatE_get (E : List Ent) : ∀ (j : Nat) (e : Ent), E[j]? = some e → (flatE E)[j * 3]? = some (.string (bs e.key)) ∧ (flatE E)[j * 3 + 1]? = some (.int .i64 e.ref) ∧ (flatE E)[j * 3 + 2]? = some (.int .i64 (e.cell : Int)) := by
  induction E with
  | nil => intro j e h; simp at h
  | cons x r ih =>
    intro j e h
    rcases j with _ | j
    · simp at h
      subst h
      exact ⟨rfl, rfl, rfl⟩
    · have := ih j e (by simpa using h)
      have e1 : flatE (x :: r) = .string (bs x.key) :: .int .i64 x.ref :: .int .i64 (x.cell : Int) :: flatE r := rfl
      rw [e1, show (j + 1) * 3 = j * 3 + 3 from by omega]
      simpa using this
/-- The table at block t, over the arena at block a: hd: the buckets' cells; E: the entries. -/
def TbC (w : World) (B t a : Nat) (hd : List Nat) (E : List Ent) (hv ev : Value) : Prop :=
  w.heap[t]? = some (.cells #[.pointer (some ⟨a, 0, none⟩), hv, ev] 55 (0, 0)) ∧ B ≤ t ∧ w.ownsRow B 3 1 hv hd.length (hd.map intv) ∧ w.ownsRow B 77 3 ev E.length (flatE E)
def TbW (w : World) (B t a : Nat) (hd : List Nat) (E : List Ent) : Prop := ∃ hv ev, TbC w B t a hd E hv ev
theorem TbC.keep {w w' : World} {B B' t a : Nat} {hd : List Nat} {E : List Ent} {hv ev : Value} {S : List TypeId} {x : Option Nat} (h : TbC w B t a hd E hv ev) (hk : Keep B' S x w w') (h1 : S.contains 55 = false) (h2 : S.contains 3 = false) (h3 : S.contains 77 = false) (hx : ∀ g cs t', x = some g → w.heap[g]? = some (.cells cs t' (0, 0)) → t' ≠ 55 ∧ t' ≠ 3 ∧ t' ≠ 77) : TbC w' B t a hd E hv ev := by
  obtain ⟨a1, a2, a3, a4⟩ := h
  refine ⟨hk.rest t _ 55 a1 h1 (fun e => (hx t _ 55 e a1).1 rfl), a2, hk.row a3 h2 (fun g e e2 => ?_), hk.row a4 h3 (fun g e e2 => ?_)⟩
  · rcases a3.2 with ⟨rfl, h0⟩ | ⟨g', cap, cur, rfl, _, hg, _⟩
    · simp [Value.ownBlock] at e2
    · have : g' = g := by simpa [Value.ownBlock] using e2
      subst this
      exact (hx g' cur 3 e hg).2.1 rfl
  · rcases a4.2 with ⟨rfl, h0⟩ | ⟨g', cap, cur, rfl, _, hg, _⟩
    · simp [Value.ownBlock] at e2
    · have : g' = g := by simpa [Value.ownBlock] using e2
      subst this
      exact (hx g' cur 77 e hg).2.2 rfl
theorem TbW.keep {w w' : World} {B B' t a : Nat} {hd : List Nat} {E : List Ent} {S : List TypeId} {x : Option Nat} (h : TbW w B t a hd E) (hk : Keep B' S x w w') (h1 : S.contains 55 = false) (h2 : S.contains 3 = false) (h3 : S.contains 77 = false) (hx : ∀ g cs t', x = some g → w.heap[g]? = some (.cells cs t' (0, 0)) → t' ≠ 55 ∧ t' ≠ 3 ∧ t' ≠ 77) : TbW w' B t a hd E := by
  obtain ⟨hv, ev, h⟩ := h
  exact ⟨hv, ev, h.keep hk h1 h2 h3 hx⟩

/-- An Insert: its key, what it does next, what the bucket had, where it looks, its own entry. -/
structure Hop where
  key : List UInt8
  next : Nat
  head : Nat
  cur : Nat
  own : Nat
def hopCells (t : Nat) (s : Hop) (ref : Int) (had : Bool) (code : Int) : Array Value :=
  #[.pointer (some ⟨t, 0, none⟩), .string (bs s.key), .int .i64 ref, .bool true, .int .i64 (s.next : Int), .int .u64 (s.head : Int), .int .u64 (s.cur : Int), .int .u64 (s.own : Int), .bool had, .int .i64 code]
def HopW (w : World) (B o t : Nat) (s : Hop) : Prop := B ≤ o ∧ ∃ ref had code, w.heap[o]? = some (.cells (hopCells t s ref had code) 70 (0, 0))
theorem HopW.keep {w w' : World} {B B' o t : Nat} {s : Hop} {S : List TypeId} {x : Option Nat} (h : HopW w B o t s) (hk : Keep B' S x w w') (h1 : S.contains 70 = false) (hx : x ≠ some o) : HopW w' B o t s := by
  obtain ⟨hb, ref, had, code, hh⟩ := h
  exact ⟨hb, ref, had, code, hk.rest o _ 70 hh h1 hx⟩
theorem HopW.lt {w : World} {B o t : Nat} {s : Hop} (h : HopW w B o t s) : o < w.heap.size := by
  obtain ⟨hb, ref, had, code, hh⟩ := h
  exact heap_lt hh

set_option maxRecDepth 100000 in
set_option maxHeartbeats 1000000 in
theorem ends_any (B o t : Nat) (s : Hop) (r : Int) (hadn : Bool) (c : Int) (w : World) (hs : HopW w B o t s) :
    Calls Tryd.prog 29 #[.pointer (some ⟨o, 0, none⟩), .int .i64 r, .bool hadn, .int .i64 c] w fun e w' => e = .returned (.bool true) ∧ HopW w' B o t { s with next := 4 } ∧ Keep B [] (some o) w w' := by
  obtain ⟨hb, ref, had, code, hh⟩ := hs
  have hlt := heap_lt hh
  have fz := froz_all hh
  have x2 := box_cells hh 2 (.int .i64 ref) rfl
  have x4 := box_cells hh 4 (.int .i64 (s.next : Int)) rfl
  have x8 := box_cells hh 8 (.bool had) rfl
  have x9 := box_cells hh 9 (.int .i64 code) rfl
  have h1 := set_at (set_at (set_at (set_at hh 2 (.int .i64 r)) 8 (.bool hadn)) 9 (.int .i64 c)) 4 (.int .i64 4)
  have HF := Lib.hid h1
  have HK := Lib.hid ((((((Keep.refl B [] (some o) w).setOwn hlt hb 2 (.int .i64 r)).setOwn (by simpa [World.setCell] using hlt) hb 8 (.bool hadn)).setOwn (by simpa [World.setCell] using hlt) hb 9 (.int .i64 c))).setOwn (by simpa [World.setCell] using hlt) hb 4 (.int .i64 4))
  clear h1 hh
  go_enter Tryd.func29, Tryd.ntmps29
  go_wp2_with fail
  go_ret
  exact ⟨rfl, ⟨hb, r, hadn, c, HF.out⟩, HK.out⟩
end Go.Proofs.YtfolchpjccjadaaDoor
