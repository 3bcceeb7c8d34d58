/- The law's words: what the two workers have to do, in memory. -/
import Derived.Test.YtfolchpjccjadaaDoorTi
import Derived.Test.YtfolchpjccjadaaDoorNa
namespace Go.Proofs.YtfolchpjccjadaaDoor
open Go.RowKit
set_option linter.unusedVariables false

section
variable {ops : Array Oper} {o : Oper} {a : Act} {K : Act → World → Prop} {Q : Exit → Act → World → Prop} {F : Prop}
/-- append(v, m elements), as a step of a region that draws. -/
theorem step_many {W : World} (base H m : Nat) (T E size nb : Nat) (z : Value) (hu : Tryd.prog.underlying T = some (.slice E)) (hinfo : (Tryd.prog.info? E).map (fun i => (i.zero, i.size, i.bytes)) = some (some z, size, nb)) (hz1 : z.cells.size = size) (hpos : 0 < size)
    (hgd : o.guard = none) (s x : Operand) (ho : o.op = .call { callee := .builtin .append, args := #[s, x], argTypes := #[T, T] })
    (v : Value) (n : Nat) (us : List Value) (ys : Array Value) (hys : ys.toList.length = m * size) (hy : ∀ u ∈ ys.toList, u.oneCell' = true) (hs : a.eval s = v) (hx : a.eval x = .slice (some ⟨H, 0, none⟩) m m)
    (HO : W.ownsRow base E size v n us) (HH : W.heap[H]? = some (.cells ys E (0, 0))) (hbase : base ≤ W.heap.size) (hl : (n + m) * nb ≤ 140737488355328) (hl2 : n + m ≤ 140737488355328)
    (h : ∀ v1 w1, w1.ownsRow base E size v1 (n + m) (us ++ ys.toList) → Below base W w1 → W.grownBy w1 v.ownBlock → (v1.ownBlock = v.ownBlock ∨ v1.ownBlock = some W.heap.size) → K (a.put o.dst v1) w1) :
    if Region.wanted o (yielded ops a.tmps) = true then Oper.wp Tryd.prog o a W K Q else F := by
  obtain ⟨i0, hi, hz0, hz1', hz2⟩ := info_parts hinfo
  have hcell : ∀ j u, ys.toList[j]? = some u → W.cell? ((⟨H, 0, none⟩ : Addr).add j) = some u := by
    intro j u hj
    rw [addp]
    exact box_cells HH j u (by simpa using hj)
  obtain ⟨v1, w1, hr, hown, hg, _, hat⟩ := run_append_own_at (P := Tryd.prog) W base T o.type E i0 z size nb hu hi hz0 hz1' hz2 hz1 hpos v n us HO ⟨H, 0, none⟩ m m ys.toList hys hcell hy (by simp only [maxLen]; omega) hl hbase
  have hw : Region.wanted o (yielded ops a.tmps) = true := by simp [Region.wanted, hgd]
  rw [if_pos hw]
  unfold Oper.wp execOp
  simp only [ho, resolve, invoke, builtin, Sem.run_bind, Sem.run_pure, Result.andThen_ok, List.map_toArray, List.map_cons, List.map_nil, hs, hx, hr]
  exact h v1 w1 hown ((Below.refl base W).grown hg hbase fun k hk => (World.ownsRow.lt HO k hk).1) hg hat
end
def stepCells (x : Nat × OpD) : List Value := if x.2.kind = true then [.pointer (some ⟨x.1, 0, none⟩), .pointer none] else [.pointer none, .pointer (some ⟨x.1, 0, none⟩)]
def stepRow (l : Todo) : List Value := l.flatMap stepCells
theorem stepRow_len (l : Todo) : (stepRow l).length = l.length * 2 := by
  induction l with
  | nil => rfl
  | cons x r ih =>
    have : (stepCells x).length = 2 := by unfold stepCells; split <;> rfl
    simp only [stepRow, List.flatMap_cons, List.length_append, List.length_cons] at ih ⊢
    omega
theorem stepRow_get : ∀ (l : Todo) (j : Nat) (x : Nat × OpD), l[j]? = some x → (stepRow l)[j * 2]? = (stepCells x)[0]? ∧ (stepRow l)[j * 2 + 1]? = (stepCells x)[1]?
  | [], j, x, h => by simp at h
  | y :: l, 0, x, h => by
    simp at h
    subst h
    unfold stepRow
    rw [List.flatMap_cons]
    have : (stepCells y).length = 2 := by unfold stepCells; split <;> rfl
    rw [List.getElem?_append_left (by omega), List.getElem?_append_left (by omega)]
    exact ⟨rfl, rfl⟩
  | y :: l, j + 1, x, h => by
    have ih := stepRow_get l j x (by simpa using h)
    have : (stepCells y).length = 2 := by unfold stepCells; split <;> rfl
    unfold stepRow at ih ⊢
    rw [List.flatMap_cons, List.getElem?_append_right (by omega), List.getElem?_append_right (by omega), this]
    rw [show (j + 1) * 2 - 2 = j * 2 from by omega, show (j + 1) * 2 + 1 - 2 = j * 2 + 1 from by omega]
    exact ih
theorem two_one {P : Nat × OpD → Prop} {x : Nat × OpD} (h : P x) : ∀ z, z ∈ [x] → P z := by
  intro z hz
  simp at hz
  rw [hz]
  exact h
/-- All keys so far are in somebody's list, each with both kinds. -/
def AllIn (K : List (List UInt8)) (k : Nat) (td : Bool → Todo) : Prop := ∀ (j : Nat) (key : List UInt8), j < k → K[j]? = some key → ∀ kind, ∃ b o, (o, kind, key) ∈ (td b).map desc
theorem mem_more {td : Bool → Todo} {b c : Bool} {ns : Todo} {d : Desc} (h : d ∈ (td c).map desc) : d ∈ (setW td b (td b ++ ns) c).map desc := by
  by_cases e : c = b
  · subst e
    rw [setW_same, List.map_append]
    exact List.mem_append.2 (.inl h)
  · have : setW td b (td b ++ ns) c = td c := if_neg e
    rw [this]
    exact h
theorem AllIn.next {K : List (List UInt8)} {k : Nat} {td : Bool → Todo} {b : Bool} {key : List UInt8} {o1 o2 h9 : Nat} {ms : Todo} (h : AllIn K k td) (hk : K[k]? = some key) :
    AllIn K (k + 1) (setW (setW td b (td b ++ [(o1, .hash (freshHop key)), (o2, .skip (freshSop key h9))])) (!b) (setW td b (td b ++ [(o1, .hash (freshHop key)), (o2, .skip (freshSop key h9))]) (!b) ++ ms)) := fun j key' hj hkj kind => by
  by_cases e : j = k
  · subst e
    obtain rfl := Option.some.inj (hk.symm.trans hkj)
    cases kind with
    | true =>
      refine ⟨b, o1, mem_more ?_⟩
      rw [setW_same, List.map_append]
      exact List.mem_append.2 (.inr (by simp [desc, OpD.kind, OpD.key, freshHop]))
    | false =>
      refine ⟨b, o2, mem_more ?_⟩
      rw [setW_same, List.map_append]
      exact List.mem_append.2 (.inr (by simp [desc, OpD.kind, OpD.key, freshSop]))
  · obtain ⟨c, o, ho⟩ := h j key' (by omega) hkj kind
    exact ⟨c, o, mem_more (mem_more ho)⟩
theorem td_len {td : Bool → Todo} {b : Bool} {x y z : Nat × OpD} {n : Nat} (h : (td false).length + (td true).length = 3 * n) :
    (setW (setW td b (td b ++ [x, y])) (!b) (setW td b (td b ++ [x, y]) (!b) ++ [z]) false).length + (setW (setW td b (td b ++ [x, y])) (!b) (setW td b (td b ++ [x, y]) (!b) ++ [z]) true).length = 3 * (n + 1) := by
  cases b <;> simp [setW] <;> omega
/-- The two lists of what is to be done, in the block q; each operation where it was made. -/
structure Laid (w : World) (B t l q : Nat) (K : List (List UInt8)) (td : Bool → Todo) (vs : Bool → Value) : Prop where
  blk : w.heap[q]? = some (.cells #[vs false, vs true] 35 (0, 0))
  qB : B ≤ q
  row : ∀ b, w.ownsRow B 40 2 (vs b) (td b).length (stepRow (td b))
  ap : ∀ b, (vs b).ownBlock = none ∨ (vs b).ownBlock ≠ (vs (!b)).ownBlock
  op : ∀ b x, x ∈ td b → OpW w B t l x.1 x.2
  fresh : ∀ b x, x ∈ td b → Fresh K x.2
  nd : ∀ b, ((td b).map Prod.fst).Nodup
  dj : ∀ x y, x ∈ td false → y ∈ td true → x.1 ≠ y.1
theorem Laid.keep {w w' : World} {B t l q : Nat} {K : List (List UInt8)} {td : Bool → Todo} {vs : Bool → Value} {S : List TypeId} (h : Laid w B t l q K td vs) (hk : Keep B S none w w') (h1 : S.contains 35 = false) (h2 : S.contains 40 = false) (h3 : S.contains 70 = false) (h4 : S.contains 73 = false) : Laid w' B t l q K td vs :=
  ⟨hk.rest q _ 35 h.blk h1 (by simp), h.qB, fun b => hk.row (h.row b) h2 (by simp), h.ap, fun b x hx => (h.op b x hx).keep hk h3 h4 (by simp), h.fresh, h.nd, h.dj⟩
theorem wkn_set (vs : Bool → Value) (b : Bool) (v : Value) : (#[vs false, vs true] : Array Value).setIfInBounds (wkn b) v = #[setW vs b v false, setW vs b v true] := by cases b <;> rfl
theorem stepRow_append (a b : Todo) : stepRow (a ++ b) = stepRow a ++ stepRow b := by unfold stepRow; rw [List.flatMap_append]
theorem Laid.add {w W W1 : World} {B t l q m : Nat} {K : List (List UInt8)} {td : Bool → Todo} {vs : Bool → Value} {b : Bool} {ns : Todo} {v1 : Value} (h : Laid w B t l q K td vs) (hk : Keep B [] none w W) (hB : B ≤ W.heap.size)
    (hop : ∀ x, x ∈ ns → OpW W B t l x.1 x.2) (hfr : ∀ x, x ∈ ns → Fresh K x.2) (hnew : ∀ x, x ∈ ns → w.heap.size ≤ x.1) (hnd : (ns.map Prod.fst).Nodup) (hm : ns.length = m)
    (hrow : W1.ownsRow B 40 2 v1 ((td b).length + m) (stepRow (td b) ++ stepRow ns)) (hg : W.grownBy W1 (vs b).ownBlock) (hat : v1.ownBlock = (vs b).ownBlock ∨ v1.ownBlock = some W.heap.size) :
    Laid (W1.setCell ⟨q, wkn b, none⟩ v1) B t l q K (setW td b (td b ++ ns)) (setW vs b v1) ∧ Keep B [35, 40] none w (W1.setCell ⟨q, wkn b, none⟩ v1) := by
  have hblk := hk.rest q _ 35 h.blk rfl (by simp)
  have hrow0 : ∀ c, W.ownsRow B 40 2 (vs c) (td c).length (stepRow (td c)) := fun c => hk.row (h.row c) rfl (by simp)
  have hblk1 : W1.heap[q]? = some (.cells #[vs false, vs true] 35 (0, 0)) := heap_kept hblk hg (row_off (hrow0 b) hblk (by decide))
  have hk1 : Keep B [35, 40] none W W1 := Keep.of_append hg (hrow0 b) hB rfl
  have hK : Keep B [35, 40] none w (W1.setCell ⟨q, wkn b, none⟩ v1) := ((hk.mono rfl).trans hk1).set hblk1 h.qB rfl _ _
  have hK2 : Keep B [35, 40] none W (W1.setCell ⟨q, wkn b, none⟩ v1) := hk1.set hblk1 h.qB rfl _ _
  have hapart : (vs (!b)).ownBlock = none ∨ (vs (!b)).ownBlock ≠ (vs b).ownBlock := by
    have := h.ap (!b)
    rwa [Bool.not_not] at this
  have hold : ∀ g, (vs (!b)).ownBlock = some g → g < W.heap.size := fun g hg => (World.ownsRow.lt (hrow0 (!b)) g hg).2
  refine ⟨⟨?_, h.qB, both (w := b) ?_ ?_, both (w := b) ?_ ?_, both (w := b) ?_ ?_, both (w := b) ?_ ?_, both (w := b) ?_ ?_, ?_⟩, hK⟩
  · rw [set_at hblk1, wkn_set]
  · rw [setW_same, setW_same, List.length_append, hm, stepRow_append]
    exact hrow.kept (only_one W1 q _ _) (.inr (row_off hrow hblk1 (by decide)))
  · rw [setW_not, setW_not]
    have hr1 : W1.ownsRow B 40 2 (vs (!b)) (td (!b)).length (stepRow (td (!b))) := (hrow0 (!b)).kept hg hapart
    exact hr1.kept (only_one W1 q _ _) (.inr (row_off hr1 hblk1 (by decide)))
  · rw [setW_same, setW_not]
    rcases hat with hat | hat
    · rw [hat]; exact h.ap b
    · right
      rw [hat]
      intro e
      have := hold _ e.symm
      omega
  · rw [setW_not, Bool.not_not, setW_same]
    rcases hat with hat | hat
    · rw [hat]; exact hapart
    · right
      rw [hat]
      intro e
      have := hold _ e
      omega
  · intro x hx
    rw [setW_same] at hx
    rcases List.mem_append.1 hx with hx | hx
    · exact (h.op b x hx).keep hK rfl rfl (by simp)
    · exact (hop x hx).keep hK2 rfl rfl (by simp)
  · intro x hx
    rw [setW_not] at hx
    exact (h.op _ x hx).keep hK rfl rfl (by simp)
  · intro x hx
    rw [setW_same] at hx
    rcases List.mem_append.1 hx with hx | hx
    · exact h.fresh b x hx
    · exact hfr x hx
  · intro x hx
    rw [setW_not] at hx
    exact h.fresh _ x hx
  · rw [setW_same, List.map_append, List.nodup_append]
    refine ⟨h.nd b, hnd, fun i hi j hj e => ?_⟩
    obtain ⟨x, hx, rfl⟩ := List.mem_map.1 hi
    obtain ⟨y, hy, rfl⟩ := List.mem_map.1 hj
    have h1 := (h.op b x hx).lt
    have h2 := hnew y hy
    omega
  · rw [setW_not]
    exact h.nd _
  · intro x y hx hy
    cases b with
    | false =>
      have hx : x ∈ td false ++ ns := hx
      have hy : y ∈ td true := hy
      rcases List.mem_append.1 hx with hx | hx
      · exact h.dj x y hx hy
      · have h1 := (h.op true y hy).lt
        have h2 := hnew x hx
        omega
    | true =>
      have hx : x ∈ td false := hx
      have hy : y ∈ td true ++ ns := hy
      rcases List.mem_append.1 hy with hy | hy
      · exact h.dj x y hx hy
      · have h1 := (h.op false x hx).lt
        have h2 := hnew y hy
        omega
theorem hinsert_at {B t : Nat} (key : List UInt8) (ref : Int) (w : World) (hB : B ≤ w.heap.size) :
    Calls Tryd.prog 7 #[.pointer (some ⟨t, 0, none⟩), .string (bs key), .int .i64 ref] w.drew fun e w' => e = .returned (.pointer (some ⟨w.heap.size, 0, none⟩)) ∧ HopW w' B w.heap.size t (freshHop key) ∧ Keep B [] none w w' ∧ w.heap.size < w'.heap.size := by
  refine (hinsert_any t key ref w.drew).mono ?_
  rintro e w' ⟨rfl, h1, h2⟩
  have hlt := h1.lt
  obtain ⟨_, rf, had, code, hh⟩ := h1
  have h2' : Below w.heap.size w w' := ⟨h2.os, h2.tape, h2.output, h2.size, h2.block⟩
  exact ⟨rfl, ⟨hB, rf, had, code, hh⟩, Keep.of_below h2' hB, hlt⟩
theorem sinsert_at' {B l : Nat} (key : List UInt8) (ref : Int) (h : Nat) (w : World) (hB : B ≤ w.heap.size) (hkl : key.length ≤ 140737488355328) :
    Calls Tryd.prog 8 #[.pointer (some ⟨l, 0, none⟩), .string (bs key), .int .i64 ref, .int .i64 (h : Int)] w fun e w' => ∃ o, e = .returned (.pointer (some ⟨o, 0, none⟩)) ∧ w.heap.size ≤ o ∧ SopW w' B o l (freshSop key h) ∧ Keep B [] none w w' := by
  refine (sinsert_any l key ref h w hkl).mono ?_
  rintro e w' ⟨o, rfl, h0, h1, h2⟩
  obtain ⟨_, rf, found, had, code, hh⟩ := h1
  exact ⟨o, rfl, h0, ⟨by omega, rf, found, had, code, hh⟩, Keep.of_below h2 hB⟩
theorem sinsert_one {B l : Nat} (key : List UInt8) (ref : Int) (w : World) (hB : B ≤ w.heap.size) (hkl : key.length ≤ 140737488355328) :
    Calls Tryd.prog 8 #[.pointer (some ⟨l, 0, none⟩), .string (bs key), .int .i64 ref, .int .i64 1] w.drew fun e w' => ∃ o, e = .returned (.pointer (some ⟨o, 0, none⟩)) ∧ w.heap.size ≤ o ∧ SopW w' B o l (freshSop key 1) ∧ Keep B [] none w w' := by
  refine (sinsert_any l key ref 1 w.drew hkl).mono ?_
  rintro e w' ⟨o, rfl, h0, h1, h2⟩
  have h0 : w.heap.size ≤ o := h0
  have h2' : Below w.heap.size w w' := ⟨h2.os, h2.tape, h2.output, h2.size, h2.block⟩
  obtain ⟨_, rf, found, had, code, hh⟩ := h1
  exact ⟨o, rfl, h0, ⟨by omega, rf, found, had, code, hh⟩, Keep.of_below h2' hB⟩
theorem two_ops {w : World} {B t l : Nat} {x y : Nat × OpD} (h1 : OpW w B t l x.1 x.2) (h2 : OpW w B t l y.1 y.2) : ∀ z, z ∈ [x, y] → OpW w B t l z.1 z.2 := by
  intro z hz
  simp at hz
  rcases hz with rfl | rfl
  · exact h1
  · exact h2
theorem two_fresh {K : List (List UInt8)} {key : List UInt8} (hk : key ∈ K) (h9 : Nat) {o1 o2 : Nat} : ∀ z, z ∈ [(o1, OpD.hash (freshHop key)), (o2, .skip (freshSop key h9))] → Fresh K z.2 := by
  intro z hz
  simp at hz
  rcases hz with rfl | rfl
  · exact ⟨hk, rfl⟩
  · exact ⟨hk, h9, rfl⟩
theorem two_new {n : Nat} {x y : Nat × OpD} (h1 : n ≤ x.1) (h2 : n ≤ y.1) : ∀ z, z ∈ [x, y] → n ≤ z.1 := by
  intro z hz
  simp at hz
  rcases hz with rfl | rfl
  · exact h1
  · exact h2
theorem two_nd {x y : Nat × OpD} (h : x.1 ≠ y.1) : ([x, y].map Prod.fst).Nodup := by simpa using h
end Go.Proofs.YtfolchpjccjadaaDoor
