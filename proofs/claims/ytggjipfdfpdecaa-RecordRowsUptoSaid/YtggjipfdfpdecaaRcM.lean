/- Words for slices whose elements have three cells: how they read, how one more is appended. -/
import Derived.Test.YtggjipfdfpdecaaRcY
set_option linter.unusedVariables false
namespace Go.Proofs.Ytggjipfdfpdecaa
open Go.RowKit

/-- An element of three cells. -/
structure V3 where
  a : Value
  b : Value
  c : Value
def V3.cells (x : V3) : List Value := [x.a, x.b, x.c]
def flat3 (xs : List V3) : List Value := xs.flatMap V3.cells
theorem flat3_len (xs : List V3) : (flat3 xs).length = xs.length * 3 := by
  induction xs with
  | nil => rfl
  | cons x r ih => simp only [flat3, List.flatMap_cons, List.length_append, V3.cells, List.length_cons, List.length_nil] at ih ⊢; omega
theorem flat3_append (xs ys : List V3) : flat3 (xs ++ ys) = flat3 xs ++ flat3 ys := by simp [flat3]
theorem flat3_get (xs : List V3) : ∀ (j : Nat) (h : j < xs.length), (flat3 xs)[j * 3]? = some xs[j].a ∧ (flat3 xs)[j * 3 + 1]? = some xs[j].b ∧ (flat3 xs)[j * 3 + 2]? = some xs[j].c := by
  induction xs with
  | nil => intro j h; simp at h
  | cons x r ih =>
    intro j h
    rcases j with _ | j
    · exact ⟨rfl, rfl, rfl⟩
    · have := ih j (by simpa using h)
      have e : flat3 (x :: r) = x.a :: x.b :: x.c :: flat3 r := rfl
      rw [e]
      have e1 : (j + 1) * 3 = j * 3 + 3 := by omega
      rw [e1]
      simpa using this
/-- The cells of an element at an address. -/
def At3 (w : World) (p : Addr) (x : V3) : Prop := w.cell? p = some x.a ∧ w.cell? ⟨p.block, p.off + 1, none⟩ = some x.b ∧ w.cell? ⟨p.block, p.off + 2, none⟩ = some x.c
/-- The value v reads as these elements. -/
def Rd3 (w : World) (v : Value) (xs : List V3) : Prop :=
  ∃ A c, v = .slice A xs.length c ∧ xs.length ≤ c ∧ c ≤ maxLen ∧ (0 < xs.length → ∃ ad : Addr, A = some ad ∧ ∀ j (h : j < xs.length), At3 w (ad.add (j * 3)) xs[j])
theorem At3.keep {w w' : World} {p : Addr} {x : V3} (h : At3 w p x) (hc : ∀ q : Addr, q.block < w.heap.size → w'.cell? q = w.cell? q) : At3 w' p x := by
  obtain ⟨h1, h2, h3⟩ := h
  exact ⟨(hc _ (World.block_lt_of_cell? w _ h1)).trans h1, (hc _ (World.block_lt_of_cell? w _ h2)).trans h2, (hc _ (World.block_lt_of_cell? w _ h3)).trans h3⟩
theorem Rd3.keep {w w' : World} {v : Value} {xs : List V3} (h : Rd3 w v xs) (hc : ∀ q : Addr, q.block < w.heap.size → w'.cell? q = w.cell? q) : Rd3 w' v xs := by
  obtain ⟨A, c, hv, h1, h2, h3⟩ := h
  refine ⟨A, c, hv, h1, h2, fun hp => ?_⟩
  obtain ⟨ad, hA, hcell⟩ := h3 hp
  exact ⟨ad, hA, fun j hj => (hcell j hj).keep hc⟩
theorem Rd3.below {w w' : World} {v : Value} {xs : List V3} (h : Rd3 w v xs) (hb : Below w.heap.size w w') : Rd3 w' v xs := h.keep fun _ hp => hb.cell hp
theorem Rd3.drewN {w : World} {v : Value} {xs : List V3} (h : Rd3 w v xs) (n : Nat) : Rd3 (w.drewN n) v xs := h
theorem Rd3.nil (w : World) : Rd3 w (.slice none 0 0) [] := ⟨none, 0, rfl, Nat.le_refl _, by simp [maxLen], fun h => by simp at h⟩

/-- A row of such elements, of the call's own. -/
def Own3 (w : World) (base E : Nat) (v : Value) (xs : List V3) : Prop := w.ownsRow base E 3 v xs.length (flat3 xs)
theorem Own3.nil (w : World) (base E : Nat) : Own3 w base E (.slice none 0 0) [] := ⟨by simp [flat3], .inl ⟨rfl, rfl⟩⟩
theorem Own3.rd {w : World} {base E : Nat} {v : Value} {xs : List V3} (h : Own3 w base E v xs) : Rd3 w v xs := by
  have h0 := h
  rcases h.2 with ⟨rfl, hn⟩ | ⟨g, cap, cur, rfl, hb, hg, hn, hm, hs, ht⟩
  · obtain rfl : xs = [] := List.eq_nil_of_length_eq_zero hn
    exact Rd3.nil w
  · refine ⟨_, cap, rfl, hn, hm, fun _ => ⟨_, rfl, fun j hj => ?_⟩⟩
    obtain ⟨e1, e2, e3⟩ := flat3_get xs j hj
    rw [addp]
    have c1 := h0.cells (g := g) rfl _ _ e1
    have c2 := h0.cells (g := g) rfl _ _ e2
    have c3 := h0.cells (g := g) rfl _ _ e3
    rw [addp] at c1 c2 c3
    exact ⟨c1, c2, c3⟩
theorem Own3.below {w w' : World} {base E : Nat} {v : Value} {xs : List V3} (h : Own3 w base E v xs) (hb : Below w.heap.size w w') : Own3 w' base E v xs := by
  refine World.ownsRow.kept h (row := none) ⟨hb.os, hb.tape, hb.output, hb.size, fun k hk _ => hb.block k hk⟩ ?_
  cases v.ownBlock <;> simp
theorem Own3.base {w : World} {b1 b2 E : Nat} {v : Value} {xs : List V3} (h : Own3 w b2 E v xs) (hb : b1 ≤ b2) : Own3 w b1 E v xs := by
  refine ⟨h.1, ?_⟩
  rcases h.2 with h0 | ⟨g, cap, cur, h1, h2, h3⟩
  · exact .inl h0
  · exact .inr ⟨g, cap, cur, h1, Nat.le_trans hb h2, h3⟩
/-- A block of another element type is no such row. -/
theorem Own3.ne_ {w : World} {base E g : Nat} {v : Value} {xs : List V3} {cs : Array Value} {t : TypeId} {fr : Nat × Nat} (h : Own3 w base E v xs) (hg : w.heap[g]? = some (.cells cs t fr)) (ht : t ≠ E) : v.ownBlock ≠ some g := by
  rcases h.2 with ⟨rfl, _⟩ | ⟨g', cap, cur, rfl, _, hh, _⟩
  · simp [Value.ownBlock]
  · intro he
    have : g' = g := by simpa [Value.ownBlock] using he
    subst this
    rw [hg] at hh
    injection hh with hh
    injection hh with _ ht' _
    exact ht ht'
theorem Own3.grown {w w' : World} {base E g : Nat} {v : Value} {xs : List V3} (h : Own3 w base E v xs) (hw : w.grownBy w' (some g)) (hne : v.ownBlock ≠ some g) : Own3 w' base E v xs :=
  World.ownsRow.kept h hw (.inr hne)

theorem news3 (W : World) (x : V3) (E : Nat) : ∀ (j : Nat) (u : Value), x.cells[j]? = some u → (W.alloc (.cells #[x.a, x.b, x.c] E)).cell? ((⟨W.heap.size, 0, none⟩ : Addr).add j) = some u := by
  intro j u hu
  rw [addp, cell_of_row _ _ j #[x.a, x.b, x.c] E (0, 0) (heap_alloc_new W _)]
  rcases j with _ | _ | _ | j
  · simpa [V3.cells] using hu
  · simpa [V3.cells] using hu
  · simpa [V3.cells] using hu
  · simp [V3.cells] at hu

section
variable {ops : Array Oper} {rest : List Oper} {o : Oper} {a : Act} {Q : Exit → Act → World → Prop}
/-- append(v, x): v a row of the call's own, x an element of three cells. -/
theorem own3_append1 {W : World} (base H : Nat) (hH : W.heap.size = H) (T E nb : Nat) (z : Value) (hu : Try.prog.underlying T = some (.slice E)) (hinfo : (Try.prog.info? E).map (fun i => (i.zero, i.size, i.bytes)) = some (some z, 3, nb)) (hz1 : z.cells.size = 3)
    (hgd : o.guard = none) (s x : Operand) (ho : o.op = .call { callee := .builtin .append, args := #[s, x], argTypes := #[T, T] })
    (v : Value) (xs : List V3) (y : V3) (hy : ∀ u ∈ y.cells, u.oneCell' = true) (hs : a.eval s = v) (hx : a.eval x = .slice (some ⟨H, 0, none⟩) 1 1)
    (HO : Own3 W base E v xs) (hbase : base ≤ W.heap.size) (hl : (xs.length + 1) * nb ≤ 140737488355328) (hl2 : xs.length + 1 ≤ 140737488355328)
    (h : ∀ v1 w1, Own3 w1 base E v1 (xs ++ [y]) → Below base W w1 → W.grownBy w1 v.ownBlock → (v1.ownBlock = v.ownBlock ∨ ∃ k, v1.ownBlock = some k ∧ W.heap.size ≤ k) → wpList Try.prog ops Q rest (a.put o.dst v1) w1) :
    wpList Try.prog ops Q (o :: rest) a (W.alloc (.cells #[y.a, y.b, y.c] E)) := by
  subst hH
  obtain ⟨i0, hi, hz0, hz1', hz2⟩ := info_parts hinfo
  refine wpList_append_own_at (W.alloc (.cells #[y.a, y.b, y.c] E)) hgd s x T ho base E i0 z 3 nb hu hi hz0 hz1' hz2 hz1 (by omega) v xs.length (flat3 xs) hs (World.ownsRow.alloc HO _) ⟨W.heap.size, 0, none⟩ 1 1 y.cells hx rfl
    (news3 W y E) hy (by simp only [maxLen]; omega) hl (by simp; omega) ?_
  intro v1 w1 hown hg _ hat
  have hown' : Own3 w1 base E v1 (xs ++ [y]) := by
    unfold Own3
    rw [flat3_append, List.length_append]
    exact hown
  refine h v1 w1 hown' (((Below.refl base W).alloc hbase _).grown hg (by simp; omega) ?_) (World.grownBy.trans (World.grownBy_alloc W _ _) hg) ?_
  · intro k hk
    exact (World.ownsRow.lt HO k hk).1
  · rcases hat with hat | hat
    · exact .inl hat
    · exact .inr ⟨_, hat, by simp⟩
end
theorem info66 : (Try.prog.info? 66).map (fun i => (i.zero, i.size, i.bytes)) = some (some (.agg #[.string ByteArray.empty, .string ByteArray.empty, .bool false]), 3, 40) := by kernel_rfl
theorem info79 : (Try.prog.info? 79).map (fun i => (i.zero, i.size, i.bytes)) = some (some (.agg #[.int .i64 0, .int .i64 0, .int .i64 0]), 3, 24) := by kernel_rfl
end Go.Proofs.Ytggjipfdfpdecaa
