/- A block that is known whole: the bytes that a call has lent, with spare room behind them. -/
import Derived.Test.YtggjipfdfpdecaaCuts
import Derived.Laws.CopyOwn
import Derived.Laws.CopyRow
namespace Go.Proofs.Ytggjipfdfpdecaa
open Go.RowKit

def Whole (w : World) (g : Nat) (l : List UInt8) : Prop := w.heap[g]? = some (.cells (bvs l).toArray 5 (0, 0))

theorem Whole.lt {w : World} {g : Nat} {l : List UInt8} (h : Whole w g l) : g < w.heap.size := (Array.getElem?_eq_some_iff.1 h).1
theorem Whole.cell {w : World} {g : Nat} {l : List UInt8} (h : Whole w g l) (i : Nat) (hi : i < l.length) : w.cell? ⟨g, i, none⟩ = some (bv l[i]) := by
  rw [cell_of_row w g i _ 5 (0, 0) h]
  simpa using bvs_get l i hi
theorem Whole.frozen {w : World} {g : Nat} {l : List UInt8} (h : Whole w g l) (i : Nat) : w.frozen? ⟨g, i, none⟩ = false := by
  unfold Whole at h
  simp [World.frozen?, h]
theorem Whole.set_ {w : World} {g : Nat} {l : List UInt8} (h : Whole w g l) (i : Nat) (b : UInt8) : Whole (w.setCell ⟨g, i, none⟩ (bv b)) g (l.set i b) := by
  have hs := heap_setCell_same w g i (bvs l).toArray 5 (bv b) h
  unfold Whole
  rw [hs]
  simp [bvs, List.map_set]
theorem Whole.keep {w w' : World} {g : Nat} {l : List UInt8} (h : Whole w g l) (hb : Below w.heap.size w w') : Whole w' g l := (hb.block g h.lt).trans h
theorem Whole.drewN {w : World} {g : Nat} {l : List UInt8} (h : Whole w g l) (n : Nat) : Whole (w.drewN n) g l := h
theorem Whole.rd {w : World} {g n c : Nat} {l : List UInt8} (h : Whole w g l) (hn : n ≤ l.length) (hc : n ≤ c) (hm : c ≤ maxLen) : RdB w (.slice (some ⟨g, 0, none⟩) n c) (l.take n) := by
  have hl : (l.take n).length = n := by rw [List.length_take]; omega
  refine ⟨_, c, by rw [hl], by omega, hm, fun _ => ⟨_, rfl, fun j hj => ?_⟩⟩
  rw [addp, h.cell j (by omega)]
  simp
theorem Whole.made (w : World) (n : Nat) : Whole (w.alloc (.cells (madeCells #[.int .u8 0] n) 5)) w.heap.size (List.replicate n 0) := by
  unfold Whole
  rw [heap_alloc_new w _]
  congr 2
  apply Array.ext'
  apply List.ext_getElem
  · simp [madeCells, bvs]
  · intro i h1 h2
    simp [madeCells, bvs, Nat.mod_one, bv]

theorem splice_bvs (cur cs : List UInt8) (off : Nat) : splice (bvs cur) off (bvs cs) = bvs (cur.take off ++ cs ++ cur.drop (off + cs.length)) := by
  simp [splice, bvs, List.map_take, List.map_drop]

section
variable {ops : Array Oper} {rest : List Oper} {o : Oper} {a : Act} {Q : Exit → Act → World → Prop}
/-- copy(d, s): d a cut of a block that is known whole, s a slice that reads. -/
theorem copy_whole {W : World} (B : Nat) (w0 : World) (hgd : o.guard = none) (d s : Operand)
    (ho : o.op = .call { callee := .builtin .copy, args := #[d, s], argTypes := #[25, 25] })
    (g off dLen dCap : Nat) (L l : List UInt8) (u : Value) (hd : a.eval d = .slice (some ⟨g, off, none⟩) dLen dCap) (hs : a.eval s = u)
    (hw : Whole W g L) (hr : RdB W u l) (hle : l.length ≤ dLen) (hfit : off + l.length ≤ L.length) (hb : Below B w0 W) (hBg : B ≤ g)
    (h : ∀ w', Whole w' g (L.take off ++ l ++ L.drop (off + l.length)) → Below B w0 w' → wpList Try.prog ops Q rest (a.put o.dst (goInt l.length)) w') :
    wpList Try.prog ops Q (o :: rest) a W := by
  obtain ⟨A, c, rfl, h1, h2, h3⟩ := hr
  obtain ⟨i0, hi, hz0, hz1, hz2⟩ := info_parts info5
  have hlen : (bvs l).length = l.length := bvs_length l
  refine wpList_copy_splice hgd d s 25 25 ho 5 Try.underlying25 (by rw [hi]; simp [hz1]) (some ⟨g, off, none⟩) A dLen dCap l.length c hd hs g off (bvs L) 5 hw (bvs l) (by rw [hlen]; exact (Nat.min_eq_left hle).symm) ?_ (by rw [hlen, bvs_length]; exact hfit) (bvs_one l) B w0 hb hBg ?_
  · intro hp
    rw [hlen] at hp
    obtain ⟨ad, hA, hc⟩ := h3 hp
    refine ⟨rfl, ad, hA, fun j v hj => ?_⟩
    have hjl : j < l.length := by
      rcases Nat.lt_or_ge j l.length with h | h
      · exact h
      · simp [bvs, List.getElem?_eq_none h] at hj
    rw [bvs_get l j hjl] at hj
    rw [hc j hjl, hj]
  · intro w' hw' hb'
    have := hw'.out
    rw [splice_bvs] at this
    rw [hlen]
    exact h w' this hb'
end
end Go.Proofs.Ytggjipfdfpdecaa
