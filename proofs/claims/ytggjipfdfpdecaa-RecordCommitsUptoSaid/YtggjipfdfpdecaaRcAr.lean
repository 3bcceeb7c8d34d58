/- Words for a region that draws and appends slices of three-cell elements, of any length. -/
import Derived.Test.YtggjipfdfpdecaaZ14
import Derived.Test.YtggjipfdfpdecaaZ11
set_option linter.unusedVariables false
namespace Go.Proofs.Ytggjipfdfpdecaa
open Go.RowKit

section
variable {ops : Array Oper} {o : Oper} {a : Act} {K : Act → World → Prop} {Q : Exit → Act → World → Prop} {F : Prop}
/-- append(v, u...): v a row of the call's own, u elements that read, perhaps none; a step of a region that draws. -/
theorem step3v {W : World} (base : Nat) (T E nb : Nat) (z : Value) (hu : Try.prog.underlying T = some (.slice E)) (hinfo : (Try.prog.info? E).map (fun i => (i.zero, i.size, i.bytes)) = some (some z, 3, nb)) (hz1 : z.cells.size = 3)
    (hgd : o.guard = none) (s x : Operand) (ho : o.op = .call { callee := .builtin .append, args := #[s, x], argTypes := #[T, T] })
    (v u : Value) (xs ys : List V3) (hs : a.eval s = v) (hx : a.eval x = u) (HO : Own3 W base E v xs) (HR : Rd3 W u ys) (hy : ∀ y ∈ ys, ∀ c ∈ y.cells, c.oneCell' = true) (hbase : base ≤ W.heap.size)
    (hl : (xs.length + ys.length) * nb ≤ 140737488355328) (hl2 : xs.length + ys.length ≤ 140737488355328)
    (h : ∀ v1 w1, Own3 w1 base E v1 (xs ++ ys) → Below base W w1 → W.grownBy w1 v.ownBlock → K (a.put o.dst v1) w1) :
    if Region.wanted o (yielded ops a.tmps) = true then Oper.wp Try.prog o a W K Q else F := by
  obtain ⟨i0, hi, hz0, hz1', hz2⟩ := info_parts hinfo
  obtain ⟨A, c, rfl, hc1, hc2, hc3⟩ := HR
  have hrun : ∃ v1 w1, (Builtin.append_ #[T, T] o.type #[v, .slice A ys.length c]).run Try.prog W = .ok v1 w1 ∧ Own3 w1 base E v1 (xs ++ ys) ∧ W.grownBy w1 v.ownBlock := by
    rcases A with _ | ad
    · have h0 : ys.length = 0 := by
        rcases Nat.eq_zero_or_pos ys.length with h0 | h0
        · exact h0
        · obtain ⟨ad, h, _⟩ := hc3 h0
          cases h
      obtain rfl : ys = [] := List.eq_nil_of_length_eq_zero h0
      refine ⟨v, W, ?_, by simpa using HO, World.grownBy.refl W _⟩
      rcases HO.2 with ⟨rfl, hn⟩ | ⟨g, cap, cur, rfl, _, _, hnc, _⟩
      · simp [Builtin.append_, run_underlying hu, sizeOf, typeInfo, hi, Builtin.lenOf, Builtin.firstCells]
      · simp [Builtin.append_, run_underlying hu, sizeOf, typeInfo, hi, Builtin.lenOf, Builtin.firstCells, hnc, storeCells]
    · have hcell : ∀ j (hj : j < ys.length), At3 W (ad.add (j * 3)) ys[j] := by
        intro j hj
        obtain ⟨ad', h', hcc⟩ := hc3 (by omega)
        obtain rfl : ad = ad' := Option.some.inj h'
        exact hcc j hj
      obtain ⟨v', w', hr, h2, h3, _, _⟩ := run_append_own_at (P := Try.prog) W base T o.type E i0 z 3 nb hu hi hz0 hz1' hz2 hz1 (by omega) v xs.length (flat3 xs) HO ad ys.length c (flat3 ys) (flat3_len ys) (At3.news hcell)
        (by intro c hc; obtain ⟨y, hy1, hy2⟩ := List.mem_flatMap.1 hc; exact hy y hy1 c hy2) (by simp only [maxLen]; omega) hl hbase
      refine ⟨v', w', hr, ?_, h3⟩
      unfold Own3
      rw [flat3_append, List.length_append]
      exact h2
  obtain ⟨v1, w1, hr, hown, hg⟩ := hrun
  have hw : Region.wanted o (yielded ops a.tmps) = true := by simp [Region.wanted, hgd]
  rw [if_pos hw]
  unfold Oper.wp execOp
  simp only [ho, resolve, invoke, builtin, Sem.run_bind, Sem.run_pure, Result.andThen_ok, List.map_toArray, List.map_cons, List.map_nil, hs, hx, hr]
  exact h v1 w1 hown ((Below.refl base W).grown hg hbase fun k hk => (World.ownsRow.lt HO k hk).1) hg
end

/-- An empty slice that was just made. -/
theorem made3 (W : World) (base E H : Nat) (hH : W.heap.size = H) (hb : base ≤ H) : Own3 (W.alloc (.cells #[] E)) base E (.slice (some ⟨H, 0, none⟩) 0 0) [] := by
  subst hH
  exact World.ownsRow_made W #[] 0 hb (by simp [maxLen]) (by simp)
/-- A slice of one element that was just made. -/
theorem one3 (W : World) (E H : Nat) (hH : W.heap.size = H) (x : V3) : Rd3 (W.alloc (.cells #[x.a, x.b, x.c] E)) (.slice (some ⟨H, 0, none⟩) 1 1) [x] := by
  subst hH
  refine ⟨_, 1, rfl, Nat.le_refl _, by decide, fun _ => ⟨_, rfl, fun j hj => ?_⟩⟩
  obtain rfl : j = 0 := by simp at hj; omega
  have hh := heap_alloc_new W (.cells #[x.a, x.b, x.c] E)
  rw [addp]
  exact ⟨box_cells hh 0 _ rfl, box_cells hh 1 _ rfl, box_cells hh 2 _ rfl⟩
theorem Rd3.alloc {w : World} {v : Value} {xs : List V3} (h : Rd3 w v xs) (o : Obj) : Rd3 (w.alloc o) v xs := h.below ((Below.refl _ _).alloc (Nat.le_refl _) o)
theorem Rd3.drew {w : World} {v : Value} {xs : List V3} (h : Rd3 w v xs) : Rd3 w.drew v xs := h
theorem Own3.alloc {w : World} {base E : Nat} {v : Value} {xs : List V3} (h : Own3 w base E v xs) (o : Obj) : Own3 (w.alloc o) base E v xs := World.ownsRow.alloc h o
theorem Own3.drew {w : World} {base E : Nat} {v : Value} {xs : List V3} (h : Own3 w base E v xs) : Own3 w.drew base E v xs := World.ownsRow.drew h
theorem Rd3.kept {W wa : World} {r : Option Nat} (k : Nat) (x : V3) (h : Rd3 W (.slice (some ⟨k, 0, none⟩) 1 1) [x]) (hg : W.grownBy wa r) (hne : r ≠ some k) : Rd3 wa (.slice (some ⟨k, 0, none⟩) 1 1) [x] := by
  obtain ⟨A, c, hv, h1, h2, h3⟩ := h
  obtain ⟨ad, hA, hc⟩ := h3 (by simp)
  subst hA
  injection hv with hv1 hv2 hv3
  injection hv1 with hv1
  subst hv1 hv3
  refine ⟨_, _, rfl, h1, h2, fun _ => ⟨_, rfl, fun j hj => ?_⟩⟩
  obtain rfl : j = 0 := by simp at hj; omega
  obtain ⟨c0, c1, c2⟩ := hc 0 (by simp)
  rw [addp] at c0 c1 c2 ⊢
  have hlt : k < W.heap.size := World.block_lt_of_cell? W _ c0
  have hn : some k ≠ r := fun e => hne e.symm
  exact ⟨(hg.cell_far _ hlt hn).trans c0, (hg.cell_far _ hlt hn).trans c1, (hg.cell_far _ hlt hn).trans c2⟩
theorem heap_new {W : World} {o : Obj} {H : Nat} (hH : W.heap.size = H) : (W.alloc o).heap[H]? = some o := by subst hH; exact heap_alloc_new W o
theorem heap_more {W : World} {o : Obj} {k : Nat} (h : W.heap[k]? = some o) (o' : Obj) : (W.alloc o').heap[k]? = some o := heap_below h ((Below.refl _ _).alloc (Nat.le_refl _) o')
theorem heap_kept {W wa : World} {r : Option Nat} {k : Nat} {o : Obj} (h : W.heap[k]? = some o) (hg : W.grownBy wa r) (hne : r ≠ some k) : wa.heap[k]? = some o :=
  (hg.block k (Array.getElem?_eq_some_iff.1 h).1 (fun e => hne e.symm)).trans h
theorem below_alloc {base : Nat} {w w' : World} (h : Below base w w') (hs : base ≤ w.heap.size) (o : Obj) : Below base w (w'.alloc o) := h.alloc (Nat.le_trans hs h.size) o
theorem below_drew {base : Nat} {w w' : World} (h : Below base w w') : Below base w w'.drew := h.drew
end Go.Proofs.Ytggjipfdfpdecaa
