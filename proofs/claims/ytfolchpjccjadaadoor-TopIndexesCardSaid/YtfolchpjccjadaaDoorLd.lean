/- The law's words: the workers under way. -/
import Derived.Test.YtfolchpjccjadaaDoorLb
namespace Go.Proofs.YtfolchpjccjadaaDoor
open Go.RowKit
set_option linter.unusedVariables false

def descs (td : Bool → Todo) : Bool → List Desc := fun b => (td b).map desc
/-- How many the worker has done. -/
def ndone (td todo : Bool → Todo) (b : Bool) : Nat := (td b).length - (todo b).length
def atC (td todo : Bool → Todo) : Array Value := #[.int .i64 (ndone td todo false : Int), .int .i64 (ndone td todo true : Int)]
/-- Both workers under way: the plain machine, and memory that says it. -/
structure Run (w : World) (B t l q a2 : Nat) (K : List (List UInt8)) (hd : List Nat) (td : Bool → Todo) (vs : Bool → Value) (m : PM) (g : Gh) (todo : Bool → Todo) (fl : Bool → Bool) (p : Bool → Nat) : Prop where
  inv : PInv K hd (descs td) m g todo fl p
  mem : MemW w B B t l hd m
  op : ∀ b x, x ∈ todo b → OpW w B t l x.1 x.2
  blk : w.heap[q]? = some (.cells #[vs false, vs true] 35 (0, 0))
  qB : B ≤ q
  row : ∀ b, w.ownsRow B 40 2 (vs b) (td b).length (stepRow (td b))
  cnt : w.heap[a2]? = some (.cells (atC td todo) 42 (0, 0))
  aB : B ≤ a2
  nd : ∀ b, ((td b).map Prod.fst).Nodup
  dj : ∀ x y, x ∈ td false → y ∈ td true → x.1 ≠ y.1

theorem fst_desc (td : Todo) : (td.map desc).map Prod.fst = td.map Prod.fst := by
  rw [List.map_map]
  rfl
theorem todo_len {td todo : Todo} {dn : List Desc} (h : td.map desc = dn ++ todo.map desc) : dn.length + todo.length = td.length := by
  have := congrArg List.length h
  simp at this
  omega
theorem tail_nd {td todo : Todo} {dn : List Desc} (h : td.map desc = dn ++ todo.map desc) (hn : (td.map Prod.fst).Nodup) : (todo.map Prod.fst).Nodup := by
  rw [← fst_desc, h, List.map_append, List.nodup_append] at hn
  rw [← fst_desc]
  exact hn.2.1
theorem tail_mem {td todo : Todo} {dn : List Desc} (h : td.map desc = dn ++ todo.map desc) {x : Nat × OpD} (hx : x ∈ todo) : ∃ y, y ∈ td ∧ y.1 = x.1 := by
  have : desc x ∈ td.map desc := by rw [h]; exact List.mem_append.2 (.inr (List.mem_map_of_mem hx))
  obtain ⟨y, hy, he⟩ := List.mem_map.1 this
  exact ⟨y, hy, show (desc y).1 = (desc x).1 by rw [he]⟩
theorem head_at {td : Todo} {dn : List Desc} {x : Nat × OpD} {r : Todo} (h : td.map desc = dn ++ (x :: r).map desc) : ∃ y, td[td.length - (r.length + 1)]? = some y ∧ desc y = desc x := by
  have hl := todo_len h
  have e : td.length - (r.length + 1) = dn.length := by simp at hl; omega
  rw [e]
  have h1 : (td.map desc)[dn.length]? = some (desc x) := by rw [h]; simp
  rw [List.getElem?_map] at h1
  cases hy : td[dn.length]? with
  | none => rw [hy] at h1; cases h1
  | some y => rw [hy] at h1; exact ⟨y, rfl, Option.some.inj h1⟩
theorem stepCells_desc {x y : Nat × OpD} (h : desc y = desc x) : stepCells y = stepCells x := by
  have h1 : y.1 = x.1 := show (desc y).1 = (desc x).1 by rw [h]
  have h2 : y.2.kind = x.2.kind := show (desc y).2.1 = (desc x).2.1 by rw [h]
  unfold stepCells
  rw [h1, h2]
theorem OpW.blk {w : World} {B t l o : Nat} {d : OpD} (h : OpW w B t l o d) : B ≤ o ∧ ∃ cs ty, w.heap[o]? = some (.cells cs ty (0, 0)) ∧ (ty = 70 ∨ ty = 73) := by
  cases d with
  | hash s =>
    obtain ⟨h1, _, _, _, hh⟩ := h
    exact ⟨h1, _, _, hh, .inl rfl⟩
  | skip s =>
    obtain ⟨h1, _, _, _, _, hh⟩ := h
    exact ⟨h1, _, _, hh, .inr rfl⟩
section
variable {w w' : World} {B t l q a2 : Nat} {K : List (List UInt8)} {hd : List Nat} {td : Bool → Todo} {vs : Bool → Value} {m m' : PM} {g : Gh} {todo : Bool → Todo} {fl : Bool → Bool} {p : Bool → Nat}
theorem Run.len (h : Run w B t l q a2 K hd td vs m g todo fl p) (b : Bool) : (todo b).length ≤ (td b).length := by
  obtain ⟨dn, e, _⟩ := h.inv.tail b
  have := todo_len e
  omega
theorem Run.start (hl : Laid w B t l q K td vs) (hm : MemW w B B t l hd m) (hG : Glob K hd m g) (hc : w.heap[a2]? = some (.cells #[.int .i64 0, .int .i64 0] 42 (0, 0))) (ha : B ≤ a2)
    (hn : (td false).length + (td true).length ≤ 120) (hL : m.L.length ≤ 264) (hE : m.E.length + m.N.length ≤ 1) : Run w B t l q a2 K hd td vs m g td (fun _ => false) (fun _ => 2000) := by
  have hcr : ∀ b, cred (td b) = (td b).length := fun b => by
    cases he : td b with
    | nil => rfl
    | cons x r =>
      have hf := hl.fresh b x (by rw [he]; simp)
      show c1 x.2.own + r.length = r.length + 1
      rw [(Fresh.ok (hd := hd) (w := 0) (m := m) (g := g) hf).2]
      simp [c1]
      omega
  refine ⟨⟨hG, fun b => ?_, fun b => ⟨[], rfl, fun x h => by cases h⟩, ?_, ?_⟩, hm, hl.op, hl.blk, hl.qB, hl.row, ?_, ha, hl.nd, hl.dj⟩
  · cases he : td b with
    | nil => exact trivial
    | cons x r => exact ⟨(Fresh.ok (hl.fresh b x (by rw [he]; simp))).1, fun y hy => hl.fresh b y (by rw [he]; simp [hy])⟩
  · rw [hcr, hcr]; omega
  · rw [hcr, hcr]; omega
  · have : atC td td = #[.int .i64 0, .int .i64 0] := by unfold atC ndone; simp
    rw [this]
    exact hc
theorem row_cell2 {B e g n cap size : Nat} {xs : List Value} (h : w.ownsRow B e size (.slice (some ⟨g, 0, none⟩) n cap) n xs) (j : Nat) (u : Value) (hj : xs[j]? = some u) : w.cell? ⟨g, j, none⟩ = some u := by
  have := h.cells (g := g) rfl j u hj
  rwa [addp] at this
theorem Run.kept (h : Run w B t l q a2 K hd td vs m g todo fl p) (hk : Keep B [] none w w') : Run w' B t l q a2 K hd td vs m g todo fl p :=
  ⟨h.inv, h.mem.keep hk rfl (by simp), fun b x hx => (h.op b x hx).keep hk rfl rfl (by simp), hk.rest q _ 35 h.blk rfl (by simp), h.qB, fun b => hk.row (h.row b) rfl (by simp), hk.rest a2 _ 42 h.cnt rfl (by simp), h.aB, h.nd, h.dj⟩
theorem Run.head {x : OpD} {o : Nat} {r : Todo} {b : Bool} (h : Run w B t l q a2 K hd td vs m g todo fl p) (ht : todo b = (o, x) :: r) :
    ∃ ge cv v0 v1, vs b = .slice (some ⟨ge, 0, none⟩) (td b).length cv ∧ w.cell? ⟨ge, ndone td todo b * 2, none⟩ = some v0 ∧ w.cell? ⟨ge, ndone td todo b * 2 + 1, none⟩ = some v1 ∧ stepV o x.kind = .agg #[v0, v1] ∧ ndone td todo b < (td b).length := by
  have hlen := h.len b
  rw [ht, List.length_cons] at hlen
  have hn : ndone td todo b = (td b).length - (r.length + 1) := by unfold ndone; rw [ht, List.length_cons]
  obtain ⟨dn, e, _⟩ := h.inv.tail b
  rw [ht] at e
  obtain ⟨y, hy, hd'⟩ := head_at e
  rw [← hn] at hy
  obtain ⟨ge, cv, hv, _⟩ := row_some (h.row b) (by omega)
  have hrow := h.row b
  rw [hv] at hrow
  obtain ⟨c0, c1⟩ := stepRow_get (td b) _ y hy
  rw [stepCells_desc hd'] at c0 c1
  have hsv : ∃ v0 v1, stepCells (o, x) = [v0, v1] ∧ stepV o x.kind = .agg #[v0, v1] := by
    unfold stepCells stepV
    by_cases hk : x.kind = true
    · rw [if_pos hk, if_pos hk]; exact ⟨_, _, rfl, rfl⟩
    · rw [if_neg hk, if_neg hk]; exact ⟨_, _, rfl, rfl⟩
  obtain ⟨v0, v1, e1, e2⟩ := hsv
  rw [e1] at c0 c1
  exact ⟨ge, cv, v0, v1, hv, row_cell2 hrow _ _ c0, row_cell2 hrow _ _ c1, e2, by omega⟩
theorem ndone_all {b : Bool} (h : todo b = []) : ndone td todo b = (td b).length := by unfold ndone; rw [h]; rfl
theorem ndone_not {b : Bool} (h : Run w B t l q a2 K hd td vs m g todo fl p) (hn : todo b ≠ []) : ndone td todo b < (td b).length := by
  have := h.len b
  have : 0 < (todo b).length := by cases he : todo b with
    | nil => exact absurd he hn
    | cons x r => simp
  unfold ndone
  omega
theorem Run.after {x : OpD} {o : Nat} {r : Todo} {b : Bool} (h : Run w B t l q a2 K hd td vs m g todo fl p) (ht : todo b = (o, x) :: r) (hk : Keep B [51, 48, 55, 77, 61, 62] (some o) w w') :
    w'.heap[q]? = some (.cells #[vs false, vs true] 35 (0, 0)) ∧ w'.heap[a2]? = some (.cells (atC td todo) 42 (0, 0)) ∧ ∀ c, w'.ownsRow B 40 2 (vs c) (td c).length (stepRow (td c)) := by
  obtain ⟨hoB, cs, ty, hoc, hty⟩ := (h.op b (o, x) (by rw [ht]; simp)).blk
  have hne : ∀ k cs' ty', w.heap[k]? = some (.cells cs' ty' (0, 0)) → ty' ≠ 70 → ty' ≠ 73 → some o ≠ some k := fun k cs' ty' hk h1 h2 e => by
    obtain rfl := Option.some.inj e
    have hh := hoc.symm.trans hk
    injection hh with hh
    injection hh with _ hh _
    rcases hty with e | e
    · exact h1 (hh.symm.trans e)
    · exact h2 (hh.symm.trans e)
  exact ⟨hk.rest q _ 35 h.blk rfl (hne q _ _ h.blk (by decide) (by decide)), hk.rest a2 _ 42 h.cnt rfl (hne a2 _ _ h.cnt (by decide) (by decide)), fun c => hk.row (h.row c) rfl (fun k e => by
    obtain rfl := Option.some.inj e
    exact row_off (h.row c) hoc (by rcases hty with rfl | rfl <;> decide))⟩
/-- What lies about: the rest stays as a step leaves it. -/
theorem Run.step {x x' : OpD} {o : Nat} {r : Todo} {d : Bool} {b : Bool} (h : Run w B t l q a2 K hd td vs m g todo fl p) (hK : K.length ≤ 40) (hd0 : 0 < hd.length) (ht : todo b = (o, x) :: r) (hst : DStep hd m x m' x' d) (hm : MemW w' B B t l hd m') (ho : OpW w' B t l o x') (hk : Keep B [51, 48, 55, 77, 61, 62] (some o) w w') :
    ∃ g' fl' p', (if d = true then Run (w'.setCell ⟨a2, wkn b, none⟩ (.int .i64 ((ndone td todo b : Nat) + 1 : Int))) B t l q a2 K hd td vs m' g' (setW todo b r) fl' p' else Run w' B t l q a2 K hd td vs m' g' (setW todo b ((o, x') :: r)) fl' p') ∧
      pot (p' false) (setW todo b (if d = true then r else (o, x') :: r) false) + pot (p' true) (setW todo b (if d = true then r else (o, x') :: r) true) + 1 ≤ pot (p false) (todo false) + pot (p true) (todo true) := by
  obtain ⟨g', fl', p', hI, hp⟩ := turn_step h.inv hK hd0 b ht hst
  obtain ⟨hoB, cs, ty, hoc, hty⟩ := (h.op b (o, x) (by rw [ht]; simp)).blk
  have hne : ∀ k cs' ty', w.heap[k]? = some (.cells cs' ty' (0, 0)) → ty' ≠ 70 → ty' ≠ 73 → some o ≠ some k := fun k cs' ty' hk h1 h2 e => by
    obtain rfl := Option.some.inj e
    have hh := hoc.symm.trans hk
    injection hh with hh
    injection hh with _ hh _
    rcases hty with e | e
    · exact h1 (hh.symm.trans e)
    · exact h2 (hh.symm.trans e)
  obtain ⟨dnb, eb, _⟩ := h.inv.tail b
  obtain ⟨dnn, en, _⟩ := h.inv.tail (!b)
  have hndb := tail_nd eb (h.nd b)
  rw [ht, List.map_cons, List.nodup_cons] at hndb
  have hopr : ∀ y, y ∈ r → OpW w' B t l y.1 y.2 := fun y hy => (h.op b y (by rw [ht]; simp [hy])).keep hk rfl rfl (fun e => hndb.1 (by rw [show (o, x).1 = y.1 from Option.some.inj e]; exact List.mem_map_of_mem hy))
  have hopn : ∀ y, y ∈ todo (!b) → OpW w' B t l y.1 y.2 := fun y hy => (h.op (!b) y hy).keep hk rfl rfl (fun e => by
    have e : o = y.1 := Option.some.inj e
    obtain ⟨y', hy', e'⟩ := tail_mem en hy
    obtain ⟨x', hx', e''⟩ := tail_mem (x := (o, x)) eb (by rw [ht]; simp)
    have e'' : x'.1 = o := e''
    cases b with
    | false => exact h.dj x' y' hx' hy' (by omega)
    | true => exact h.dj y' x' hy' hx' (by omega))
  have hblk := hk.rest q _ 35 h.blk rfl (hne q _ _ h.blk (by decide) (by decide))
  have hcnt := hk.rest a2 _ 42 h.cnt rfl (hne a2 _ _ h.cnt (by decide) (by decide))
  have hrow : ∀ c, w'.ownsRow B 40 2 (vs c) (td c).length (stepRow (td c)) := fun c => hk.row (h.row c) rfl (fun k e => by
    obtain rfl := Option.some.inj e
    exact row_off (h.row c) hoc (by rcases hty with rfl | rfl <;> decide))
  refine ⟨g', fl', p', ?_, hp⟩
  cases d with
  | false =>
    rw [if_neg (by simp)] at hI ⊢
    refine ⟨hI, hm, both (w := b) ?_ ?_, hblk, h.qB, hrow, ?_, h.aB, h.nd, h.dj⟩
    · rw [setW_same]
      intro y hy
      rcases List.mem_cons.1 hy with rfl | hy
      · exact ho
      · exact hopr y hy
    · rw [setW_not]; exact hopn
    · have : atC td (setW todo b ((o, x') :: r)) = atC td todo := by
        have e : ∀ c, (setW todo b ((o, x') :: r) c).length = (todo c).length := both (w := b) (by rw [setW_same, ht]; rfl) (by rw [setW_not])
        unfold atC ndone
        rw [e, e]
      rw [this]
      exact hcnt
  | true =>
    rw [if_pos rfl] at hI ⊢
    have hset : Keep B [42] none w' (w'.setCell ⟨a2, wkn b, none⟩ (.int .i64 ((ndone td todo b : Nat) + 1 : Int))) := (Keep.refl B [42] none w').set hcnt h.aB rfl _ _
    refine ⟨hI, hm.keep hset rfl (by simp), both (w := b) ?_ ?_, hset.rest q _ 35 hblk rfl (by simp), h.qB, fun c => hset.row (hrow c) rfl (by simp), ?_, h.aB, h.nd, h.dj⟩
    · rw [setW_same]
      exact fun y hy => (hopr y hy).keep hset rfl rfl (by simp)
    · rw [setW_not]
      exact fun y hy => (hopn y hy).keep hset rfl rfl (by simp)
    · rw [set_at hcnt]
      have hle := h.len b
      rw [ht, List.length_cons] at hle
      have e1 : ndone td (setW todo b r) b = ndone td todo b + 1 := by unfold ndone; rw [setW_same, ht, List.length_cons]; omega
      have e2 : ndone td (setW todo b r) (!b) = ndone td todo (!b) := by unfold ndone; rw [setW_not]
      have : (atC td todo).setIfInBounds (wkn b) (.int .i64 ((ndone td todo b : Nat) + 1 : Int)) = atC td (setW todo b r) := by
        cases b with
        | false =>
          have e2 : ndone td (setW todo false r) true = ndone td todo true := e2
          unfold atC
          rw [e1, e2]
          rfl
        | true =>
          have e2 : ndone td (setW todo true r) false = ndone td todo false := e2
          unfold atC
          rw [e1, e2]
          rfl
      rw [this]
end
/-- What may still be spent, ahead of turn i. -/
def Budget (F i f : Nat) (todo : Bool → Todo) : Prop :=
  (i ≤ 10000 → f ≤ F) ∧ (10000 < i → i % 2 = 0 → f + (i - 10000) / 2 ≤ F) ∧ (10000 < i → i % 2 = 1 → f + (i - 10001) / 2 + 1 ≤ F ∨ (todo false = [] ∧ f + (i - 10001) / 2 ≤ F))
theorem Budget.next {F i f f' : Nat} {todo todo' : Bool → Todo} {b : Bool} (h : Budget F i f todo) (hb : 10000 ≤ i → wkn b = i % 2) (hne : 0 < i → ¬ ∀ b, todo b = []) (hs : (todo b = [] ∧ todo' = todo ∧ f' = f) ∨ (f' + 1 ≤ f ∧ todo' (!b) = todo (!b))) : Budget F (i + 1) f' todo' := by
  obtain ⟨h1, h2, h3⟩ := h
  have hle : f' ≤ f := by rcases hs with ⟨_, _, h⟩ | ⟨h, _⟩ <;> omega
  refine ⟨fun hi => by have := h1 (by omega); omega, fun hi he => ?_, fun hi he => ?_⟩
  · have hb := hb (by omega)
    have hbt : b = true := by cases b with
      | true => rfl
      | false => simp [wkn] at hb; omega
    subst hbt
    rcases h3 (by omega) (by omega) with h3 | ⟨h3, h4⟩
    · omega
    · rcases hs with ⟨e1, _, _⟩ | ⟨e1, _⟩
      · exact absurd (fun b => by cases b <;> assumption) (hne (by omega))
      · omega
  · have hb := hb (by omega)
    have hbt : b = false := by cases b with
      | false => rfl
      | true => simp [wkn] at hb; omega
    subst hbt
    have hF : f + (i - 10000) / 2 ≤ F := by
      by_cases h10 : i ≤ 10000
      · have := h1 h10; omega
      · exact h2 (by omega) (by omega)
    rcases hs with ⟨e1, e2, e3⟩ | ⟨e1, _⟩
    · right
      rw [e2]
      exact ⟨e1, by omega⟩
    · left
      omega
/-- The budget does not last to the loop's end. -/
theorem Budget.over {F f : Nat} {todo : Bool → Todo} (h : Budget F 2000000 f todo) (hF : F ≤ 240000) : False := by
  have := h.2.1 (by omega) (by omega)
  omega
theorem TabW.below {B : Nat} {w w' : World} (h : TabW w) (hb : Below B w w') (hB : 0 < B) : TabW w' := by
  intro j n hj
  have e : w'.cell? ⟨0, j, none⟩ = w.cell? ⟨0, j, none⟩ := World.cell?_of_block (hb.block 0 hB)
  rw [e]
  exact h j n hj
theorem pick_two (z : Int) : ∃ (y : Int) (b : Bool), Int.tmod z 2 = y ∧ -1 ≤ y ∧ y ≤ 1 ∧ Int.tmod (y + 2) 2 = ((wkn b : Nat) : Int) := by
  have h : ∀ n : Nat, Int.tmod (n : Int) 2 = ((n % 2 : Nat) : Int) := fun n => rfl
  have hb : -1 ≤ Int.tmod z 2 ∧ Int.tmod z 2 ≤ 1 := by
    by_cases hz : z < 0
    · obtain ⟨n, rfl⟩ : ∃ n : Nat, z = -(n : Int) := ⟨z.natAbs, by omega⟩
      rw [Int.neg_tmod, h]
      omega
    · obtain ⟨n, rfl⟩ : ∃ n : Nat, z = (n : Int) := ⟨z.natAbs, by omega⟩
      rw [h]
      omega
  obtain ⟨y, hy⟩ : ∃ y, y = Int.tmod z 2 := ⟨_, rfl⟩
  rw [← hy] at hb ⊢
  refine ⟨y, decide ((y + 2) % 2 = 1), rfl, hb.1, hb.2, ?_⟩
  obtain ⟨n, hn⟩ : ∃ n : Nat, y + 2 = (n : Int) := ⟨(y + 2).natAbs, by omega⟩
  rw [hn, h]
  unfold wkn
  split <;> rename_i h1 <;> simp at h1 <;> omega
theorem pot_le (l : Todo) : pot 2000 l = 2000 * l.length := by
  cases l with
  | nil => rfl
  | cons x r => show 2000 + 2000 * r.length = 2000 * (r.length + 1); omega
end Go.Proofs.YtfolchpjccjadaaDoor
