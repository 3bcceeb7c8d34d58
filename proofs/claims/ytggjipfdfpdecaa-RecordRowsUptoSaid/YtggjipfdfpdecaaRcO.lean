/- What comes in: a row, a commit, a manifest, read as lists. -/
import Derived.Test.YtggjipfdfpdecaaOpen
import Derived.Test.YtggjipfdfpdecaaRcMb
import Derived.Lib.SmallJoins
import Derived.Deep.Strs
set_option linter.unusedVariables false
namespace Go.Proofs.Ytggjipfdfpdecaa
open Go.ChangeShapes Go.WideShapes Go.ChangeAt Go.RowKit Go.Deep Go.Joins

theorem cells66 : Try.prog.cellsOf 66 = 3 := by kernel_rfl
theorem cells81 : Try.prog.cellsOf 81 = 3 := by kernel_rfl
theorem cells64 : Try.prog.cellsOf 64 = 2 := by kernel_rfl
theorem cells74 : Try.prog.cellsOf 74 = 3 := by kernel_rfl
theorem cells79 : Try.prog.cellsOf 79 = 3 := by kernel_rfl

theorem fold_of {α : Type} {p : Nat → α → Prop} : ∀ (n : Nat), (∀ i, i < n → ∃ l, p i l) → ∃ ls : List α, ls.length = n ∧ ∀ j (h : j < ls.length), p j ls[j]
  | 0, _ => ⟨[], rfl, fun j h => by simp at h⟩
  | n + 1, h => by
    obtain ⟨ls, hl, hp⟩ := fold_of n (fun i hi => h i (by omega))
    obtain ⟨l, hl'⟩ := h n (by omega)
    refine ⟨ls ++ [l], by simp [hl], fun j hj => ?_⟩
    by_cases e : j < ls.length
    · rw [List.getElem_append_left e]; exact hp j e
    · have : j = ls.length := by simp at hj; omega
      subst this
      rw [List.getElem_append_right (Nat.le_refl _)]
      simp only [Nat.sub_self, List.getElem_cons_zero]
      rw [hl]
      exact hl'
theorem bulk_mem {H : Type} {d : DataW H} {l : List (DataW H)} (h : d ∈ l) : Rows.uptoBulk d + l.length ≤ Rows.uptoBulkAll l + 1 := by
  induction l with
  | nil => cases h
  | cons x r ih =>
    simp only [Rows.uptoBulkAll, List.length_cons]
    rcases List.mem_cons.1 h with rfl | h
    · have := bulk_len r; omega
    · have := ih h; have := bulk_one x; omega

section
variable {H : Type} {enc : TypeId × Value → H} {w : World} {base : Nat} {spare : Nat → Bool} {held : Bool}

/-- A slice of structs of three fields, each of one cell. -/
theorem open_three {t e : TypeId} {f0 f1 f2 : Field} {fuel : Nat} {cs : List Value} {x : DataW H × List MemPlace} (ht : Try.prog.underlying t = some (.slice e)) (he : Try.prog.underlying e = some (.struct #[f0, f1, f2])) (hone : oneCellFields Try.prog #[f0, f1, f2] = true) (hC : Try.prog.cellsOf e = 3)
    (h : DataW.trod enc Try.prog w base spare held fuel t cs = some x) :
    (cs = [.slice none 0 0] ∧ x = (.nil, [])) ∨
    ∃ (a : Addr) (len cap : Nat) (D : Nat → DataW H) (rest : List (DataW H)), cs = [.slice (some a) len cap] ∧ len ≤ cap ∧ cap ≤ maxLen ∧ x.1 = .slice ((List.range len).map D) rest ∧
      ∀ i, i < len → ∃ (n : Nat) (v : V3) (y0 y1 y2 : DataW H × List MemPlace), At3 w (a.add (i * 3)) v ∧ D i = .agg [y0.1, y1.1, y2.1] ∧
        DataW.trod enc Try.prog w base spare held n f0.type [v.a] = some y0 ∧ DataW.trod enc Try.prog w base spare held n f1.type [v.b] = some y1 ∧ DataW.trod enc Try.prog w base spare held n f2.type [v.c] = some y2 := by
  rcases open_slice ht h with h0 | ⟨a, len, cap, m, n, D, Pl, rfl, _, hl, hcap, hm, rfl, hx⟩
  · exact .inl h0
  · refine .inr ⟨a, len, cap, D, _, rfl, hl, hcap, rfl, fun i hi => ?_⟩
    obtain ⟨cs', hc, ht'⟩ := hx i (by rw [hm]; split <;> omega)
    rw [hC] at hc
    obtain ⟨_, hcl, hat⟩ := World.cells?_some hc
    match cs', hcl with
    | [c0, c1, c2], _ =>
      obtain ⟨y0, y1, y2, k, hy, _, h0, h1, h2⟩ := trod_struct3 he ht'
      obtain ⟨o0, k0⟩ := hone_of hone 0 f0 rfl
      obtain ⟨o1, k1⟩ := hone_of hone 1 f1 rfl
      obtain ⟨o2, k2⟩ := hone_of hone 2 f2 rfl
      simp only [Prod.mk.injEq] at hy
      refine ⟨k, ⟨c0, c1, c2⟩, y0, y1, y2, ⟨?_, ?_, ?_⟩, hy.1, by simpa [o0, k0] using h0, by simpa [o1, k1] using h1, by simpa [o2, k2] using h2⟩
      · have := hat 0 (by omega); simpa [Addr.add] using this
      · have := hat 1 (by omega); simpa [Addr.add] using this
      · have := hat 2 (by omega); simpa [Addr.add] using this

/-- Writes that come in. -/
theorem writes_of {fuel : Nat} {cs : List Value} {x : DataW H × List MemPlace} (h : DataW.trod enc Try.prog w base spare held fuel 62 cs = some x) :
    ∃ (v : Value) (ws : List Wri), cs = [v] ∧ Rd3 w v (ws.map wV) ∧ ws.length + 1 ≤ Rows.uptoBulk x.1 ∧ ∀ y ∈ ws, y.key.length + y.val.length ≤ Rows.uptoBulk x.1 := by
  rcases open_three Try.underlying62 Try.underlying66 (by kernel_rfl) cells66 h with ⟨rfl, rfl⟩ | ⟨a, len, cap, D, rest, rfl, hl, hcap, hx, hi⟩
  · exact ⟨_, [], rfl, Rd3.nil w, by simp [Rows.uptoBulk], fun y hy => by cases hy⟩
  · obtain ⟨ws, hws, hp⟩ := fold_of (p := fun j (y : Wri) => At3 w (a.add (j * 3)) (wV y) ∧ y.key.length + y.val.length + 1 ≤ Rows.uptoBulk (D j)) len (fun i hlt => by
      obtain ⟨n, v, y0, y1, y2, hat, hD, h0, h1, h2⟩ := hi i hlt
      obtain ⟨s0, hs0, rfl, _⟩ := DataW.trod_string (by kernel_rfl) h0
      obtain ⟨s1, hs1, rfl, _⟩ := DataW.trod_string (by kernel_rfl) h1
      obtain ⟨g, hg, rfl⟩ := DataW.trod_bool (by kernel_rfl) h2
      obtain ⟨va, vb, vc⟩ := v
      simp only [List.cons.injEq, and_true] at hs0 hs1 hg
      subst hs0 hs1 hg
      refine ⟨⟨s0.data.toList, s1.data.toList, g⟩, hat, ?_⟩
      rw [hD]
      simp only [Rows.uptoBulk, Rows.uptoBulkAll]
      omega)
    subst hws
    rw [hx]
    have h1 := bulk_len ((List.range ws.length).map D)
    have h2 := bulk_slice ((List.range ws.length).map D) rest
    rw [List.length_map, List.length_range] at h1
    refine ⟨_, ws, rfl, ⟨some a, cap, by rw [List.length_map], by rw [List.length_map]; exact hl, hcap, fun _ => ⟨a, rfl, fun j hj => ?_⟩⟩, by omega, fun y hy => ?_⟩
    · rw [List.length_map] at hj
      rw [List.getElem_map]
      exact (hp j hj).1
    · obtain ⟨j, hj, rfl⟩ := List.getElem_of_mem hy
      have h3 := (hp j hj).2
      have h4 := bulk_mem (H := H) (d := D j) (l := (List.range ws.length).map D) (List.mem_map.2 ⟨j, List.mem_range.2 hj, rfl⟩)
      rw [List.length_map, List.length_range] at h4
      omega

/-- Pairs that come in. -/
theorem pairs_of {fuel : Nat} {cs : List Value} {x : DataW H × List MemPlace} (h : DataW.trod enc Try.prog w base spare held fuel 72 cs = some x) :
    ∃ (v : Value) (ps : List Pai), cs = [v] ∧ Rd3 w v (ps.map pV) ∧ ps.length + 1 ≤ Rows.uptoBulk x.1 ∧ ∀ p ∈ ps, (Lit.int .i64 p.num).wf = true ∧ (Lit.int .i64 p.from_).wf = true ∧ (Lit.int .i64 p.to_).wf = true := by
  rcases open_three Try.underlying72 Try.underlying79 (by kernel_rfl) cells79 h with ⟨rfl, rfl⟩ | ⟨a, len, cap, D, rest, rfl, hl, hcap, hx, hi⟩
  · exact ⟨_, [], rfl, Rd3.nil w, by simp [Rows.uptoBulk], fun y hy => by cases hy⟩
  · obtain ⟨ps, hps, hp⟩ := fold_of (p := fun j (y : Pai) => At3 w (a.add (j * 3)) (pV y) ∧ ((Lit.int .i64 y.num).wf = true ∧ (Lit.int .i64 y.from_).wf = true ∧ (Lit.int .i64 y.to_).wf = true)) len (fun i hlt => by
      obtain ⟨n, v, y0, y1, y2, hat, hD, h0, h1, h2⟩ := hi i hlt
      obtain ⟨s0, hs0, rfl, g0⟩ := DataW.trod_int (k := .i64) (by kernel_rfl) h0
      obtain ⟨s1, hs1, rfl, g1⟩ := DataW.trod_int (k := .i64) (by kernel_rfl) h1
      obtain ⟨s2, hs2, rfl, g2⟩ := DataW.trod_int (k := .i64) (by kernel_rfl) h2
      obtain ⟨va, vb, vc⟩ := v
      simp only [List.cons.injEq, and_true] at hs0 hs1 hs2
      subst hs0 hs1 hs2
      exact ⟨⟨s0, s1, s2⟩, hat, g0, g1, g2⟩)
    subst hps
    rw [hx]
    have h1 := bulk_len ((List.range ps.length).map D)
    have h2 := bulk_slice ((List.range ps.length).map D) rest
    rw [List.length_map, List.length_range] at h1
    refine ⟨_, ps, rfl, ⟨some a, cap, by rw [List.length_map], by rw [List.length_map]; exact hl, hcap, fun _ => ⟨a, rfl, fun j hj => ?_⟩⟩, by omega, fun y hy => ?_⟩
    · rw [List.length_map] at hj
      rw [List.getElem_map]
      exact (hp j hj).1
    · obtain ⟨j, hj, rfl⟩ := List.getElem_of_mem hy
      exact (hp j hj).2

set_option maxRecDepth 100000 in
/-- A row that comes in. -/
theorem row_of {r : Reach} {b0 : Nat} {v : Value} {d : DataW H} {p : List MemPlace} (hv : Value.okWide Try.prog w r b0 81 v) (h : DataW.Trod enc Try.prog w base spare held 81 v d p) :
    ∃ (k u : ByteArray) (t : Int), v = .agg #[.string k, .string u, .int .i64 t] ∧ (Lit.int .i64 t).wf = true ∧ k.size + u.size + 2 ≤ Rows.uptoBulk d := by
  obtain ⟨c0, c1, c2, y0, y1, y2, n, rfl, rfl, rfl, h0, h1, h2⟩ := open_agg3 Try.underlying81 (by kernel_rfl) cells81 hv h
  obtain ⟨s0, hs0, rfl, _⟩ := DataW.trod_string (by kernel_rfl) h0
  obtain ⟨s1, hs1, rfl, _⟩ := DataW.trod_string (by kernel_rfl) h1
  obtain ⟨t, hs2, rfl, g2⟩ := DataW.trod_int (k := .i64) (by kernel_rfl) h2
  simp only [List.cons.injEq, and_true] at hs0 hs1 hs2
  subst hs0 hs1 hs2
  refine ⟨s0, s1, t, rfl, g2, ?_⟩
  simp only [Rows.uptoBulk, Rows.uptoBulkAll, Array.length_toList]
  have : s0.size = s0.data.size := rfl
  have : s1.size = s1.data.size := rfl
  omega
set_option maxRecDepth 100000 in
/-- A commit that comes in. -/
theorem commit_of {r : Reach} {b0 : Nat} {v : Value} {d : DataW H} {p : List MemPlace} (hv : Value.okWide Try.prog w r b0 64 v) (h : DataW.Trod enc Try.prog w base spare held 64 v d p) :
    ∃ (t : Int) (u : Value) (ws : List Wri), v = .agg #[.int .i64 t, u] ∧ (Lit.int .i64 t).wf = true ∧ Rd3 w u (ws.map wV) ∧ ws.length + 1 ≤ Rows.uptoBulk d ∧ ∀ y ∈ ws, y.key.length + y.val.length ≤ Rows.uptoBulk d := by
  obtain ⟨c0, c1, y0, y1, n, rfl, rfl, rfl, h0, h1⟩ := open_agg2 Try.underlying64 (by kernel_rfl) cells64 hv h
  obtain ⟨t, hs0, rfl, g0⟩ := DataW.trod_int (k := .i64) (by kernel_rfl) h0
  obtain ⟨u, ws, hs1, hr, hb, hm⟩ := writes_of h1
  simp only [List.cons.injEq, and_true] at hs0 hs1
  subst hs0 hs1
  refine ⟨t, _, ws, rfl, g0, hr, ?_, fun y hy => ?_⟩
  · simp only [Rows.uptoBulk, Rows.uptoBulkAll]; omega
  · have := hm y hy
    simp only [Rows.uptoBulk, Rows.uptoBulkAll]; omega
set_option maxRecDepth 100000 in
/-- A manifest that comes in. -/
theorem manifest_of {r : Reach} {b0 : Nat} {v : Value} {d : DataW H} {p : List MemPlace} (hv : Value.okWide Try.prog w r b0 74 v) (h : DataW.Trod enc Try.prog w base spare held 74 v d p) :
    ∃ (t g : Int) (u : Value) (ps : List Pai), v = .agg #[.int .i64 t, .int .i64 g, u] ∧ (Lit.int .i64 t).wf = true ∧ (Lit.int .i64 g).wf = true ∧ Rd3 w u (ps.map pV) ∧ ps.length + 1 ≤ Rows.uptoBulk d ∧ ∀ p ∈ ps, (Lit.int .i64 p.num).wf = true ∧ (Lit.int .i64 p.from_).wf = true ∧ (Lit.int .i64 p.to_).wf = true := by
  obtain ⟨c0, c1, c2, y0, y1, y2, n, rfl, rfl, rfl, h0, h1, h2⟩ := open_agg3 Try.underlying74 (by kernel_rfl) cells74 hv h
  obtain ⟨t, hs0, rfl, g0⟩ := DataW.trod_int (k := .i64) (by kernel_rfl) h0
  obtain ⟨g, hs1, rfl, g1⟩ := DataW.trod_int (k := .i64) (by kernel_rfl) h1
  obtain ⟨u, ps, hs2, hr, hb, hm⟩ := pairs_of h2
  simp only [List.cons.injEq, and_true] at hs0 hs1 hs2
  subst hs0 hs1 hs2
  refine ⟨t, g, _, ps, rfl, g0, g1, hr, ?_, hm⟩
  simp only [Rows.uptoBulk, Rows.uptoBulkAll]; omega
end
end Go.Proofs.Ytggjipfdfpdecaa
