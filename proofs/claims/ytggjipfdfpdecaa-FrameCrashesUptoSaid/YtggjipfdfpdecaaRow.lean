/- Rows of the call's own whose elements are one cell: append of one element; rows of rows of bytes. -/
import Derived.Test.YtggjipfdfpdecaaFTakeR
namespace Go.Proofs.Ytggjipfdfpdecaa
open Go.RowKit

theorem info25 : (Try.prog.info? 25).map (fun i => (i.zero, i.size, i.bytes)) = some (some (.slice none 0 0), 1, 24) := by kernel_rfl
theorem info3 : (Try.prog.info? 3).map (fun i => (i.zero, i.size, i.bytes)) = some (some (.int .i64 0), 1, 8) := by kernel_rfl

section
variable {ops : Array Oper} {rest : List Oper} {o : Oper} {a : Act} {Q : Exit → Act → World → Prop}
/-- append(v, y): v a row of the call's own, of elements of one cell. -/
theorem row_append1 {W : World} (base H : Nat) (hH : W.heap.size = H) (T E nb : Nat) (z : Value) (hu : Try.prog.underlying T = some (.slice E)) (hinfo : (Try.prog.info? E).map (fun i => (i.zero, i.size, i.bytes)) = some (some z, 1, nb)) (hz1 : z.cells.size = 1)
    (hgd : o.guard = none) (s x : Operand) (ho : o.op = .call { callee := .builtin .append, args := #[s, x], argTypes := #[T, T] })
    (v : Value) (us : List Value) (y : Value) (hy : y.oneCell' = true) (hs : a.eval s = v) (hx : a.eval x = .slice (some ⟨H, 0, none⟩) 1 1)
    (HO : W.ownsRow base E 1 v us.length us) (hbase : base ≤ W.heap.size) (hl : (us.length + 1) * nb ≤ 140737488355328) (hl2 : us.length + 1 ≤ 140737488355328)
    (h : ∀ v1 w1, w1.ownsRow base E 1 v1 (us ++ [y]).length (us ++ [y]) → Below base W w1 → W.grownBy w1 v.ownBlock → (v1.ownBlock = v.ownBlock ∨ ∃ k, v1.ownBlock = some k ∧ W.heap.size ≤ k) → wpList Try.prog ops Q rest (a.put o.dst v1) w1) :
    wpList Try.prog ops Q (o :: rest) a (W.alloc (.cells #[y] E)) := by
  subst hH
  obtain ⟨i0, hi, hz0, hz1', hz2⟩ := info_parts hinfo
  refine wpList_append_own_at (W.alloc (.cells #[y] E)) hgd s x T ho base E i0 z 1 nb hu hi hz0 hz1' hz2 hz1 (by omega) v us.length us hs (HO.alloc _) ⟨W.heap.size, 0, none⟩ 1 1 [y] hx rfl
    (cell_one_new W y E) (by intro u hu; simp at hu; subst hu; exact hy) (by simp only [maxLen]; omega) hl (by simp; omega) ?_
  intro v1 w1 hown hg _ hat
  have hown' : w1.ownsRow base E 1 v1 (us ++ [y]).length (us ++ [y]) := by
    rw [List.length_append]
    exact hown
  refine h v1 w1 hown' (((Below.refl base W).alloc hbase _).grown hg (by simp; omega) ?_) (World.grownBy.trans (World.grownBy_alloc W _ _) hg) ?_
  · intro k hk
    exact (HO.lt k hk).1
  · rcases hat with hat | hat
    · exact .inl hat
    · exact .inr ⟨_, hat, by simp⟩
end

/-- A row of rows of bytes, each in a block of the call's own. -/
def RowsN (w : World) (base : Nat) (v : Value) (us : List Value) (ls : List (List UInt8)) : Prop :=
  w.ownsRow base 25 1 v us.length us ∧ us.length = ls.length ∧ ∀ (j : Nat) (u : Value) (l : List UInt8), us[j]? = some u → ls[j]? = some l → RdN w base u l
/-- .. each a row of the call's own that no other one is. -/
def RowsO (w : World) (base : Nat) (v : Value) (us : List Value) (ls : List (List UInt8)) : Prop :=
  w.ownsRow base 25 1 v us.length us ∧ us.length = ls.length ∧ (∀ (j : Nat) (u : Value) (l : List UInt8), us[j]? = some u → ls[j]? = some l → Own w base u l) ∧ ∀ (j k : Nat) (u u' : Value), j < k → us[j]? = some u → us[k]? = some u' → u'.ownBlock = none ∨ u.ownBlock ≠ u'.ownBlock

theorem row_ne {w : World} {base g : Nat} {v : Value} {us : List Value} {cs : Array Value} {fr : Nat × Nat} (h : w.ownsRow base 25 1 v us.length us) (hg : w.heap[g]? = some (.cells cs 5 fr)) : v.ownBlock ≠ some g := by
  rcases h.2 with ⟨rfl, _⟩ | ⟨g', cap, cur, rfl, _, hh, _⟩
  · simp [Value.ownBlock]
  · intro he
    have : g' = g := by simpa [Value.ownBlock] using he
    subst this
    rw [hg] at hh
    injection hh with hh
    injection hh with _ ht' _
    cases ht'
theorem own_heap {w : World} {base g : Nat} {u : Value} {l : List UInt8} (h : Own w base u l) (hg : u.ownBlock = some g) : ∃ cs, w.heap[g]? = some (.cells cs 5 (0, 0)) := by
  rcases h.2 with ⟨rfl, _⟩ | ⟨g', cap, cur, rfl, _, hh, _⟩
  · simp [Value.ownBlock] at hg
  · have : g' = g := by simpa [Value.ownBlock] using hg
    subst this
    exact ⟨_, hh⟩
theorem row_below {w w' : World} {base E : Nat} {v : Value} {us : List Value} (h : w.ownsRow base E 1 v us.length us) (hb : Below w.heap.size w w') : w'.ownsRow base E 1 v us.length us := by
  refine h.kept (row := none) ⟨hb.os, hb.tape, hb.output, hb.size, fun k hk _ => hb.block k hk⟩ ?_
  cases v.ownBlock <;> simp
theorem row_one {w : World} {base E : Nat} {v : Value} {us : List Value} (h : w.ownsRow base E 1 v us.length us) (hp : 0 < us.length) : ∃ g cap, v = .slice (some ⟨g, 0, none⟩) us.length cap ∧ base ≤ g ∧ g < w.heap.size ∧ us.length ≤ cap ∧ cap ≤ maxLen ∧ ∀ (j : Nat) (u : Value), us[j]? = some u → w.cell? ⟨g, j, none⟩ = some u := by
  have h0 := h
  rcases h.2 with ⟨_, h'⟩ | ⟨g, cap, cur, hv, hb, hg, h1, h2, _⟩
  · omega
  · refine ⟨g, cap, hv, hb, (Array.getElem?_eq_some_iff.1 hg).1, h1, h2, fun j u hj => ?_⟩
    have := World.ownsRow.cells h0 (g := g) (by rw [hv]; rfl) j u hj
    rwa [addp] at this

theorem RowsN.nil (w : World) (base : Nat) : RowsN w base (.slice none 0 0) [] [] := ⟨⟨rfl, .inl ⟨rfl, rfl⟩⟩, rfl, fun j u l h _ => by simp at h⟩
theorem RowsO.nil (w : World) (base : Nat) : RowsO w base (.slice none 0 0) [] [] := ⟨⟨rfl, .inl ⟨rfl, rfl⟩⟩, rfl, fun j u l h _ => by simp at h, fun j k u u' _ h _ => by simp at h⟩
theorem RowsN.below {w w' : World} {base : Nat} {v : Value} {us : List Value} {ls : List (List UInt8)} (h : RowsN w base v us ls) (hb : Below w.heap.size w w') : RowsN w' base v us ls :=
  ⟨row_below h.1 hb, h.2.1, fun j u l h1 h2 => (h.2.2 j u l h1 h2).below hb⟩
theorem RowsO.below {w w' : World} {base : Nat} {v : Value} {us : List Value} {ls : List (List UInt8)} (h : RowsO w base v us ls) (hb : Below w.heap.size w w') : RowsO w' base v us ls :=
  ⟨row_below h.1 hb, h.2.1, fun j u l h1 h2 => (h.2.2.1 j u l h1 h2).below hb, h.2.2.2⟩

theorem snoc_get {α : Type} (us : List α) (y : α) (j : Nat) (u : α) (h : (us ++ [y])[j]? = some u) : us[j]? = some u ∨ j = us.length ∧ u = y := by
  by_cases e : j < us.length
  · rw [List.getElem?_append_left e] at h; exact .inl h
  · rw [List.getElem?_append_right (by omega)] at h
    by_cases e2 : j = us.length
    · subst e2; simp at h; exact .inr ⟨rfl, h.symm⟩
    · rw [List.getElem?_eq_none (by simp; omega)] at h; cases h
theorem get_lt {α : Type} {us : List α} {j : Nat} {u : α} (h : us[j]? = some u) : j < us.length := by
  rcases Nat.lt_or_ge j us.length with h' | h'
  · exact h'
  · rw [List.getElem?_eq_none h'] at h; cases h

theorem RdN.grown {w w1 : World} {base : Nat} {u : Value} {l : List UInt8} (h : RdN w base u l) {v : Value} {us : List Value} (hr : w.ownsRow base 25 1 v us.length us) (hg : w.grownBy w1 v.ownBlock) : RdN w1 base u l := by
  obtain ⟨g, cs, fr, h1, h2, h3⟩ := h
  have hlt := (Array.getElem?_eq_some_iff.1 h3).1
  have hb := hg.block g hlt (fun e => row_ne hr h3 e.symm)
  exact ⟨g, cs, fr, h1, h2.keep (fun _ => hb), hb.trans h3⟩
theorem own_grown {w w1 : World} {base b2 : Nat} {u : Value} {l : List UInt8} (h : Own w b2 u l) {v : Value} {us : List Value} (hr : w.ownsRow base 25 1 v us.length us) (hg : w.grownBy w1 v.ownBlock) : Own w1 b2 u l := by
  refine World.ownsRow.kept h hg ?_
  cases e : u.ownBlock with
  | none => exact .inl rfl
  | some k =>
    obtain ⟨cs, hh⟩ := own_heap h e
    exact .inr (fun e2 => row_ne hr hh e2.symm)

theorem RowsN.snoc {w w1 : World} {base : Nat} {v v1 y : Value} {us : List Value} {ls : List (List UInt8)} {l : List UInt8} (h : RowsN w base v us ls) (hy : RdN w base y l) (hg : w.grownBy w1 v.ownBlock) (ho : w1.ownsRow base 25 1 v1 (us ++ [y]).length (us ++ [y])) : RowsN w1 base v1 (us ++ [y]) (ls ++ [l]) := by
  refine ⟨ho, by simp [h.2.1], fun j u l' h1 h2 => ?_⟩
  rcases snoc_get us y j u h1 with h1 | ⟨rfl, rfl⟩
  · rcases snoc_get ls l j l' h2 with h2 | ⟨e, rfl⟩
    · exact (h.2.2 j u l' h1 h2).grown h.1 hg
    · have := get_lt h1; have := h.2.1; omega
  · rcases snoc_get ls l _ l' h2 with h2 | ⟨e, rfl⟩
    · have := get_lt h2; have := h.2.1; omega
    · exact hy.grown h.1 hg
theorem RowsO.snoc {w w1 : World} {base B : Nat} {v v1 y : Value} {us : List Value} {ls : List (List UInt8)} {l : List UInt8} (h : RowsO w base v us ls) (hB : base ≤ B) (hlt : ∀ (j : Nat) (u : Value) (k : Nat), us[j]? = some u → u.ownBlock = some k → k < B) (hy : Own w B y l) (hg : w.grownBy w1 v.ownBlock) (ho : w1.ownsRow base 25 1 v1 (us ++ [y]).length (us ++ [y])) : RowsO w1 base v1 (us ++ [y]) (ls ++ [l]) := by
  refine ⟨ho, by simp [h.2.1], fun j u l' h1 h2 => ?_, fun j k u u' hjk h1 h2 => ?_⟩
  · rcases snoc_get us y j u h1 with h1 | ⟨rfl, rfl⟩
    · rcases snoc_get ls l j l' h2 with h2 | ⟨e, rfl⟩
      · exact own_grown (h.2.2.1 j u l' h1 h2) h.1 hg
      · have := get_lt h1; have := h.2.1; omega
    · rcases snoc_get ls l _ l' h2 with h2 | ⟨e, rfl⟩
      · have := get_lt h2; have := h.2.1; omega
      · exact (own_grown hy h.1 hg).mono hB
  · rcases snoc_get us y k u' h2 with h5 | ⟨hk, hy'⟩
    · rcases snoc_get us y j u h1 with h6 | ⟨hj, hu'⟩
      · exact h.2.2.2 j k u u' hjk h6 h5
      · have := get_lt h5; omega
    · subst hy'
      rcases snoc_get us _ j u h1 with h6 | ⟨hj, hu'⟩
      · cases e : u'.ownBlock with
        | none => exact .inl rfl
        | some g =>
          right
          intro e2
          have h3 := hlt j u g h6 e2
          have h4 := (World.ownsRow.lt hy g e).1
          omega
      · omega
end Go.Proofs.Ytggjipfdfpdecaa
