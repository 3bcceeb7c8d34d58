/- Texts of this proof, merged: Sw, Pa, Pb, Pc, Pd, Pe, Pf, Pg, Ph, Pi, Pj. Each part says at its head what it proves. -/
import Derived.Test.YtfolchpjccjadaaDoorZ02
/- The skip list's step, as a relation, without memory. -/
namespace Go.Proofs.YtfolchpjccjadaaDoor
open Go.RowKit
set_option linter.unusedVariables false

/-- A node: its key, the cells of its tower, how many levels it has. -/
structure Nod where
  key : List UInt8
  tower : List Nat
  height : Nat
/-- An Insert into the list. -/
structure Sop where
  key : List UInt8
  height : Nat
  does : Nat
  begun : Bool
  level : Nat
  pred : Nat
  preds : List Nat
  succs : List Nat
  own : Nat
  linked : Nat
def Sop.again (s : Sop) : Sop := { s with does := 0, level := 7, pred := 0 }
def Sop.start (s : Sop) : Sop := if s.begun = true then s else { s with begun := true, does := 0, level := 7, pred := 0 }

/-- Cells taken one behind the other. -/
inductive Grow (H L : List Nat) : Nat → List Nat → List Nat → List Nat → Prop
  | nil : Grow H L 0 [] H L
  | snoc {k : Nat} {cs H1 L1 : List Nat} (c : Nat) : Grow H L k cs H1 L1 → c ≤ H1.length → c ∉ L1 → Grow H L (k + 1) (cs ++ [c]) (newH H1 c) (c :: L1)

/-- An operation has come to where its key stands, or would. -/
inductive Arr (H L : List Nat) (N : List Nod) (s : Sop) (n : Nat) : List Nat → List Nat → List Nod → Sop → Bool → Prop
  | hit0 (x : Nod) : 0 < n → N[n]? = some x → x.key = s.key → n ≠ s.own → s.own = 0 → Arr H L N s n H L N { s with does := 3 } true
  | hit1 (x y : Nod) : 0 < n → N[n]? = some x → x.key = s.key → n ≠ s.own → 0 < s.own → N[s.own]? = some y → Arr H L N s n H ((y.tower.take y.height).foldl List.erase L) N { s with does := 3 } true
  | make {cs H' L' : List Nat} : (n = 0 ∨ ∃ x, N[n]? = some x ∧ x.key ≠ s.key) → s.own = 0 → Grow H L s.height cs H' L' → Arr H L N s n H' L' (N ++ [⟨s.key, cs ++ List.replicate (8 - s.height) 0, s.height⟩]) { s with own := N.length, does := 1 } false
  | keep : (n = 0 ∨ n = s.own ∨ ∃ x, N[n]? = some x ∧ x.key ≠ s.key) → 0 < s.own → Arr H L N s n H L N { s with does := 1 } false

/-- A step of an Insert into the list. -/
inductive SStep (H L : List Nat) (N : List Nod) (s : Sop) : List Nat → List Nat → List Nod → Sop → Bool → Prop
  | refuse : s.begun = false → isKey s.key = false → SStep H L N s H L N { s with begun := true, does := 3 } true
  | pass (P X : Nod) (c x : Nat) : (s.begun = false → isKey s.key = true) → s.start.does = 0 → N[s.start.pred]? = some P → P.tower[s.start.level]? = some c → H[c]? = some x → 0 < x → N[x]? = some X → X.key < s.key → SStep H L N s H L N { s.start with pred := x } false
  | down (P : Nod) (c x : Nat) : (s.begun = false → isKey s.key = true) → s.start.does = 0 → N[s.start.pred]? = some P → P.tower[s.start.level]? = some c → H[c]? = some x → (x = 0 ∨ ∃ X, N[x]? = some X ∧ ¬ X.key < s.key) → 0 < s.start.level →
      SStep H L N s H L N { s.start with preds := s.preds.set s.start.level s.start.pred, succs := s.succs.set s.start.level x, level := s.start.level - 1 } false
  | arrive (P : Nod) (c x : Nat) {H' L' : List Nat} {N' : List Nod} {s' : Sop} {d : Bool} : s.begun = true → s.does = 0 → N[s.pred]? = some P → P.tower[s.level]? = some c → H[c]? = some x → (x = 0 ∨ ∃ X, N[x]? = some X ∧ ¬ X.key < s.key) → s.level = 0 →
      Arr H L N { s with preds := s.preds.set s.level s.pred, succs := s.succs.set s.level x } x H' L' N' s' d → SStep H L N s H' L' N' s' d
  | lay (y : Nod) (c v : Nat) : s.begun = true → s.does = 1 → N[s.own]? = some y → y.tower[s.linked]? = some c → s.succs[s.linked]? = some v → SStep H L N s (H.set c v) L N { s with does := 2 } false
  | fail (P : Nod) (n c x v : Nat) : s.begun = true → s.does = 2 → s.preds[s.linked]? = some n → N[n]? = some P → P.tower[s.linked]? = some c → H[c]? = some x → s.succs[s.linked]? = some v → x ≠ v → SStep H L N s H L N s.again false
  | more (P : Nod) (n c v : Nat) : s.begun = true → s.does = 2 → s.preds[s.linked]? = some n → N[n]? = some P → P.tower[s.linked]? = some c → H[c]? = some v → s.succs[s.linked]? = some v → s.linked + 1 ≠ s.height → SStep H L N s (H.set c s.own) L N { s with linked := s.linked + 1, does := 1 } false
  | last (P : Nod) (n c v : Nat) : s.begun = true → s.does = 2 → s.preds[s.linked]? = some n → N[n]? = some P → P.tower[s.linked]? = some c → H[c]? = some v → s.succs[s.linked]? = some v → s.linked + 1 = s.height → SStep H L N s (H.set c s.own) L N { s with linked := s.linked + 1, does := 3 } true

/-- What a step needs. -/
structure SPre (H L : List Nat) (N : List Nod) (s : Sop) : Prop where
  nl : N.length < 100000
  ll : L.length + 8 < 2000
  kl : s.key.length ≤ 140737488355328
  h0 : 0 < s.height
  h8 : s.height ≤ 8
  p8 : s.preds.length = 8
  s8 : s.succs.length = 8
  dx : s.does ≤ 2
  bk : s.begun = true → isKey s.key = true
  own : 0 < s.own → ∃ y, N[s.own]? = some y ∧ y.height ≤ 8 ∧ (y.tower.take y.height).Nodup ∧ ∀ c, c ∈ y.tower.take y.height → c ∈ L
  walk : (s.begun = false → isKey s.key = true) → s.start.does = 0 → s.start.level < 8 ∧ ∃ P c, N[s.start.pred]? = some P ∧ P.tower[s.start.level]? = some c ∧ c ∈ L ∧ ∀ x, H[c]? = some x → x < N.length ∧ (0 < x → ∀ X, N[x]? = some X → isKey X.key = true)
  lay : s.begun = true → s.does = 1 → 0 < s.own ∧ s.linked < 8 ∧ ∃ y c v, N[s.own]? = some y ∧ y.tower[s.linked]? = some c ∧ c ∈ L ∧ s.succs[s.linked]? = some v ∧ v < N.length
  link : s.begun = true → s.does = 2 → 0 < s.own ∧ s.own < N.length ∧ s.linked < 8 ∧ ∃ n P c v, s.preds[s.linked]? = some n ∧ N[n]? = some P ∧ P.tower[s.linked]? = some c ∧ c ∈ L ∧ s.succs[s.linked]? = some v ∧ v < N.length
end Go.Proofs.YtfolchpjccjadaaDoor
/- The plain machine of the two indexes: who owns which cell; the chains; what a step of one worker leaves to the other. -/
namespace Go.Proofs.YtfolchpjccjadaaDoor
open Go.RowKit
set_option linter.unusedVariables false

inductive Own where
  | bucket (b : Nat)
  | entry (n : Nat)
  | tower (n i : Nat)
  | mineE (w : Nat)
  | mineT (w i : Nat)
def Own.pub : Own → Bool
  | .mineE _ => false
  | .mineT _ _ => false
  | _ => true
def Own.mine (w : Nat) : Own → Bool
  | .mineE v => v == w
  | .mineT v _ => v == w
  | _ => false
theorem Own.not_mine {w v : Nat} (h : w ≠ v) : (Own.mineE v).mine w = false ∧ ∀ i, (Own.mineT v i).mine w = false := by
  have : (v == w) = false := by simpa using fun e => h e.symm
  exact ⟨this, fun _ => this⟩
/-- The arena's cells, the entries, the nodes. -/
structure PM where
  H : List Nat
  L : List Nat
  E : List Ent
  N : List Nod
/-- What is known besides: each bucket's chain, who is linked at a level, each cell's owner. -/
structure Gh where
  C : Nat → List Nat
  M : Nat → Nat → Prop
  ow : Nat → Option Own
def eK (E : List Ent) (n : Nat) : List UInt8 := (E[n - 1]?.map Ent.key).getD []
def nK (N : List Nod) (n : Nat) : List UInt8 := (N[n]?.map Nod.key).getD []
def tc (N : List Nod) (n i : Nat) : Option Nat := N[n]?.bind fun x => x.tower[i]?
def nx (H : List Nat) (N : List Nod) (i n : Nat) : Option Nat := (tc N n i).bind fun c => H[c]?
/-- v is the first entry of the chain l. -/
def Spell (H : List Nat) (E : List Ent) : Nat → List Nat → Prop
  | v, [] => v = 0
  | v, n :: l => v = n ∧ 0 < n ∧ ∃ e x, E[n - 1]? = some e ∧ H[e.cell]? = some x ∧ Spell H E x l
theorem Spell.head {H : List Nat} {E : List Ent} {v : Nat} {l : List Nat} (h : Spell H E v l) : v = l.headD 0 := by
  cases l with
  | nil => exact h
  | cons n r => exact h.1
theorem Spell.tail {H : List Nat} {E : List Ent} : ∀ {v : Nat} {l : List Nat} (a r : List Nat), l = a ++ r → Spell H E v l → ∃ x, Spell H E x r
  | v, _, [], r, rfl, h => ⟨v, h⟩
  | v, _, n :: a, r, rfl, h => by
    obtain ⟨_, _, e, x, _, _, h3⟩ := h
    exact Spell.tail a r rfl h3
theorem Spell.keep {H H' : List Nat} {E E' : List Ent} : ∀ {v : Nat} {l : List Nat}, Spell H E v l → (∀ n, n ∈ l → ∀ e, E[n - 1]? = some e → E'[n - 1]? = some e ∧ H'[e.cell]? = H[e.cell]?) → Spell H' E' v l
  | v, [], h, _ => h
  | v, n :: l, ⟨h1, h2, e, x, h3, h4, h5⟩, hk => by
    obtain ⟨k1, k2⟩ := hk n (by simp) e h3
    exact ⟨h1, h2, e, x, k1, by rw [k2]; exact h4, h5.keep fun m hm => hk m (by simp [hm])⟩
theorem eK_some {E : List Ent} {n : Nat} {e : Ent} (h : E[n - 1]? = some e) : eK E n = e.key := by unfold eK; rw [h]; rfl
theorem nK_some {N : List Nod} {n : Nat} {x : Nod} (h : N[n]? = some x) : nK N n = x.key := by unfold nK; rw [h]; rfl
theorem tc_some {N : List Nod} {n i : Nat} {x : Nod} (h : N[n]? = some x) : tc N n i = x.tower[i]? := by unfold tc; rw [h]; rfl

/-- What holds of the whole, whoever is at work. K: the keys; hd: the buckets' cells. -/
structure Glob (K : List (List UInt8)) (hd : List Nat) (m : PM) (g : Gh) : Prop where
  ol : ∀ c, g.ow c ≠ none → c ∈ m.L
  lt : ∀ c, c ∈ m.L → c < m.H.length
  hb : ∀ b c, hd[b]? = some c → g.ow c = some (.bucket b)
  ch : ∀ b c, hd[b]? = some c → ∃ v, m.H[c]? = some v ∧ Spell m.H m.E v (g.C b)
  ce : ∀ b n, n ∈ g.C b → 0 < n ∧ ∃ e, m.E[n - 1]? = some e ∧ g.ow e.cell = some (.entry n) ∧ bk hd.length e.key = b ∧ isKey e.key = true ∧ e.key ∈ K
  cn : ∀ b, ((g.C b).map (eK m.E)).Nodup
  n0 : nK m.N 0 = [] ∧ 0 < m.N.length
  nt : ∀ i n, i < 8 → (n = 0 ∨ g.M i n) → ∃ c, tc m.N n i = some c ∧ g.ow c = some (.tower n i)
  mn : ∀ i n, g.M i n → i < 8 ∧ 0 < n ∧ n < m.N.length ∧ isKey (nK m.N n) = true ∧ nK m.N n ∈ K
  md : ∀ i n, g.M (i + 1) n → g.M i n
  mj : ∀ n n', g.M 0 n → g.M 0 n' → nK m.N n = nK m.N n' → n = n'
  mx : ∀ i n, i < 8 → (n = 0 ∨ g.M i n) → ∃ v, nx m.H m.N i n = some v ∧ (v = 0 ∨ g.M i v ∧ nK m.N n < nK m.N v) ∧ ∀ k, g.M i k → nK m.N n < nK m.N k → v ≠ 0 ∧ ¬ nK m.N k < nK m.N v

/-- What a step of worker w leaves to the other; b: it was a swap that came through. -/
structure Eff (w : Nat) (b : Bool) (m : PM) (g : Gh) (m' : PM) (g' : Gh) : Prop where
  E : ∀ (n : Nat) (e : Ent), m.E[n]? = some e → m'.E[n]? = some e
  N : ∀ (n : Nat) (x : Nod), m.N[n]? = some x → m'.N[n]? = some x
  C : ∀ k, g.C k <:+ g'.C k
  M : ∀ i n, g.M i n → g'.M i n
  ow : ∀ c X, g.ow c = some X → X.mine w = false → g'.ow c = some X
  keep : ∀ c X, g.ow c = some X → X.mine w = false → (X.pub = true → b = false) → m'.H[c]? = m.H[c]?
  Cs : b = false → g'.C = g.C
  Ms : b = false → g'.M = g.M
  Mn : ∀ i n, g'.M i n → ¬ g.M i n → ∃ c, tc m.N n i = some c ∧ g.ow c = some (.mineT w i)
theorem Eff.refl (w : Nat) (m : PM) (g : Gh) : Eff w false m g m g :=
  ⟨fun _ _ h => h, fun _ _ h => h, fun _ => List.suffix_refl _, fun _ _ h => h, fun _ _ h _ => h, fun _ _ _ _ _ => rfl, fun _ => rfl, fun _ => rfl, fun _ _ h h' => absurd h h'⟩
section
variable {w : Nat} {b : Bool} {m m' : PM} {g g' : Gh}
theorem Eff.ek (h : Eff w b m g m' g') {n : Nat} {e : Ent} (he : m.E[n - 1]? = some e) : eK m'.E n = eK m.E n := by rw [eK_some he, eK_some (h.E _ _ he)]
theorem Eff.nk (h : Eff w b m g m' g') {n : Nat} (hn : n < m.N.length) : nK m'.N n = nK m.N n := by
  have he := List.getElem?_eq_getElem hn
  rw [nK_some he, nK_some (h.N _ _ he)]
theorem Eff.tc' (h : Eff w b m g m' g') {n i c : Nat} (hn : tc m.N n i = some c) : tc m'.N n i = some c := by
  unfold tc at hn ⊢
  cases he : m.N[n]? with
  | none => rw [he] at hn; cases hn
  | some x => rw [he] at hn; rw [h.N _ _ he]; exact hn
theorem Eff.nx' (h : Eff w b m g m' g') {n i c : Nat} (hn : tc m.N n i = some c) (hc : m'.H[c]? = m.H[c]?) : nx m'.H m'.N i n = nx m.H m.N i n := by
  unfold nx
  rw [h.tc' hn, hn]
  exact hc
theorem Glob.nlt {K : List (List UInt8)} {hd : List Nat} (hG : Glob K hd m g) {i n : Nat} (h : n = 0 ∨ g.M i n) : n < m.N.length := by
  rcases h with rfl | h
  · exact hG.n0.2
  · exact (hG.mn i n h).2.2.1
end

/-- An Insert into the hash index under way. fl: nobody's swap came through since it began to search; p: what it may still cost. -/
structure HopOk (K : List (List UInt8)) (hd : List Nat) (w : Nat) (fl : Bool) (p : Nat) (m : PM) (g : Gh) (s : Hop) : Prop where
  key : s.key ∈ K
  nxt : s.next ≤ 3
  ik : (s.next ≠ 0 ∨ 0 < s.own) → isKey s.key = true
  own : 0 < s.own → ∃ e, m.E[s.own - 1]? = some e ∧ e.key = s.key ∧ g.ow e.cell = some (.mineE w) ∧ (s.next = 3 → m.H[e.cell]? = some s.head)
  at0 : s.next = 0 → 200 ≤ p
  seg : s.next ≠ 0 → ∃ S, S <:+ g.C (bk hd.length s.key) ∧ s.head = S.headD 0 ∧ (fl = true → S = g.C (bk hd.length s.key)) ∧
    (s.next = 1 → ∃ mid rest, S = mid ++ s.cur :: rest ∧ (∀ n, n ∈ mid → eK m.E n ≠ s.key) ∧ eK m.E s.cur ≠ s.key ∧ rest.length + 110 + (if fl = true then 0 else 100) ≤ p) ∧
    (2 ≤ s.next → 0 < s.own ∧ ∀ n, n ∈ S → eK m.E n ≠ s.key) ∧
    (s.next = 2 → 106 + (if fl = true then 0 else 100) ≤ p) ∧ (s.next = 3 → 104 + (if fl = true then 0 else 100) ≤ p)

/-- How many keys are above a key. -/
def rank (K : List (List UInt8)) (k : List UInt8) : Nat := K.countP fun x => decide (k < x)
/-- What an operation has recorded of a level. -/
def Rec (m : PM) (g : Gh) (fl : Bool) (s : Sop) (j : Nat) : Prop :=
  ∃ a v, s.preds[j]? = some a ∧ s.succs[j]? = some v ∧ (a = 0 ∨ g.M j a) ∧ nK m.N a < s.key ∧ (v = 0 ∨ g.M j v ∧ ¬ nK m.N v < s.key) ∧ (fl = true → nx m.H m.N j a = some v)
structure SopOk (K : List (List UInt8)) (w : Nat) (fl : Bool) (p : Nat) (m : PM) (g : Gh) (s : Sop) : Prop where
  key : s.key ∈ K
  h0 : 0 < s.height
  h8 : s.height ≤ 8
  p8 : s.preds.length = 8
  s8 : s.succs.length = 8
  dx : s.does ≤ 2
  nob : s.begun = false → s.own = 0 ∧ s.does = 0 ∧ 2000 ≤ p
  ik : s.begun = true → isKey s.key = true
  lk : s.linked < s.height
  own0 : s.own = 0 → s.linked = 0
  own : 0 < s.own → ∃ y, m.N[s.own]? = some y ∧ y.key = s.key ∧ y.height = s.height ∧ y.tower.length = 8 ∧
    (∀ i, i < s.height → ∃ c, y.tower[i]? = some c ∧ (s.linked ≤ i → g.ow c = some (.mineT w i)) ∧ (s.does = 2 → i = s.linked → m.H[c]? = s.succs[i]?)) ∧
    (∀ i, i < s.linked → g.M i s.own) ∧ (∀ i, s.linked ≤ i → i < s.height → ¬ g.M i s.own)
  walk : s.begun = true → s.does = 0 → s.level < 8 ∧ (s.pred = 0 ∨ g.M s.level s.pred) ∧ nK m.N s.pred < s.key ∧ (∀ j, s.level < j → j < 8 → Rec m g fl s j) ∧
    s.level + rank K (nK m.N s.pred) + 25 + (s.height - s.linked) * 101 + (if fl = true then 0 else 100) ≤ p
  lay : s.does ≠ 0 → 0 < s.own ∧ (∀ j, s.linked ≤ j → j < 8 → Rec m g fl s j) ∧ (s.linked = 0 → ∀ v, s.succs[0]? = some v → v = 0 ∨ s.key < nK m.N v) ∧
    2 * (s.height - s.linked) + (if s.does = 1 then 1 else 0) + (s.height - s.linked) * 101 + (if fl = true then 0 else 100) ≤ p

theorem eff_flag {fl b : Bool} {x p : Nat} (h : x + (if fl = true then 0 else 100) ≤ p) : x + (if (fl && !b) = true then 0 else 100) ≤ (if b = true then p + 100 else p) := by
  cases fl <;> cases b <;> simp at h ⊢ <;> omega
theorem eff_more {b : Bool} {x p : Nat} (h : x ≤ p) : x ≤ (if b = true then p + 100 else p) := by
  cases b <;> simp <;> omega

theorem hop_stable {K : List (List UInt8)} {hd : List Nat} {w v : Nat} {b fl : Bool} {p : Nat} {m m' : PM} {g g' : Gh} {s : Hop} (hG : Glob K hd m g) (h : HopOk K hd v fl p m g s) (hE : Eff w b m g m' g') (hw : w ≠ v) :
    HopOk K hd v (fl && !b) (if b = true then p + 100 else p) m' g' s where
  key := h.key
  nxt := h.nxt
  ik := h.ik
  own := fun ho => by
    obtain ⟨e, h1, h2, h3, h4⟩ := h.own ho
    refine ⟨e, hE.E _ _ h1, h2, hE.ow _ _ h3 (Own.not_mine hw).1, fun hn => ?_⟩
    rw [hE.keep _ _ h3 (Own.not_mine hw).1 (fun hp => by cases hp)]
    exact h4 hn
  at0 := fun h0 => eff_more (h.at0 h0)
  seg := fun hn => by
    obtain ⟨S, h1, h2, h3, h4, h5, h6, h7⟩ := h.seg hn
    have hk : ∀ n, n ∈ S → eK m'.E n = eK m.E n := by
      intro n hm
      obtain ⟨_, e, he, _⟩ := hG.ce _ n (h1.subset hm)
      exact hE.ek he
    refine ⟨S, h1.trans (hE.C _), h2, fun hf => ?_, fun e1 => ?_, fun e2 => ?_, fun e2 => eff_flag (h6 e2), fun e3 => eff_flag (h7 e3)⟩
    · simp only [Bool.and_eq_true, Bool.not_eq_true'] at hf
      rw [hE.Cs hf.2]
      exact h3 hf.1
    · obtain ⟨mid, rest, k1, k2, k3, k4⟩ := h4 e1
      refine ⟨mid, rest, k1, fun n hm => ?_, ?_, eff_flag k4⟩
      · rw [hk n (by rw [k1]; simp [hm])]
        exact k2 n hm
      · rw [hk _ (by rw [k1]; simp)]
        exact k3
    · refine ⟨(h5 e2).1, fun n hm => ?_⟩
      rw [hk n hm]
      exact (h5 e2).2 n hm

theorem rec_stable {K : List (List UInt8)} {hd : List Nat} {w : Nat} {b fl : Bool} {m m' : PM} {g g' : Gh} {s : Sop} {j : Nat} (hj : j < 8) (hG : Glob K hd m g) (h : Rec m g fl s j) (hE : Eff w b m g m' g') : Rec m' g' (fl && !b) s j := by
  obtain ⟨a, v, h1, h2, h3, h4, h5, h6⟩ := h
  have ha := hE.nk (hG.nlt h3)
  refine ⟨a, v, h1, h2, h3.imp id (hE.M _ _), by rw [ha]; exact h4, ?_, fun hf => ?_⟩
  · rcases h5 with h5 | ⟨k1, k2⟩
    · exact .inl h5
    · right
      refine ⟨hE.M _ _ k1, ?_⟩
      rw [hE.nk (hG.nlt (.inr k1))]
      exact k2
  · simp only [Bool.and_eq_true, Bool.not_eq_true'] at hf
    obtain ⟨c, hc, ho⟩ := hG.nt j a hj h3
    rw [hE.nx' hc (hE.keep c _ ho rfl fun _ => hf.2)]
    exact h6 hf.1

theorem sop_stable {K : List (List UInt8)} {hd : List Nat} {w v : Nat} {b fl : Bool} {p : Nat} {m m' : PM} {g g' : Gh} {s : Sop} (hG : Glob K hd m g) (h : SopOk K v fl p m g s) (hE : Eff w b m g m' g') (hw : w ≠ v) :
    SopOk K v (fl && !b) (if b = true then p + 100 else p) m' g' s where
  key := h.key
  h0 := h.h0
  h8 := h.h8
  p8 := h.p8
  s8 := h.s8
  dx := h.dx
  nob := fun hb => ⟨(h.nob hb).1, (h.nob hb).2.1, eff_more (h.nob hb).2.2⟩
  ik := h.ik
  lk := h.lk
  own0 := h.own0
  own := fun ho => by
    obtain ⟨y, h1, h2, h3, h3b, h4, h5, h6⟩ := h.own ho
    refine ⟨y, hE.N _ _ h1, h2, h3, h3b, fun i hi => ?_, fun i hi => hE.M _ _ (h5 i hi), fun i hi hih hm => ?_⟩
    rotate_left
    · obtain ⟨c, k1, k2⟩ := hE.Mn i _ hm (h6 i hi hih)
      rw [tc_some h1] at k1
      obtain ⟨c', k3, k4, _⟩ := h4 i hih
      obtain rfl := Option.some.inj (k1.symm.trans k3)
      rw [k4 hi] at k2
      injection k2 with k2
      injection k2 with k2
      exact hw k2.symm
    obtain ⟨c, k1, k2, k3⟩ := h4 i hi
    refine ⟨c, k1, fun hl => hE.ow _ _ (k2 hl) ((Own.not_mine hw).2 i), fun e2 el => ?_⟩
    rw [hE.keep _ _ (k2 (by omega)) ((Own.not_mine hw).2 i) (fun hp => by cases hp)]
    exact k3 e2 el
  walk := fun hb h0 => by
    obtain ⟨h1, h2, h3, h4, h5⟩ := h.walk hb h0
    have ha := hE.nk (hG.nlt h2)
    refine ⟨h1, h2.imp id (hE.M _ _), by rw [ha]; exact h3, fun j hj h8 => rec_stable h8 hG (h4 j hj h8) hE, ?_⟩
    rw [ha]
    exact eff_flag h5
  lay := fun h0 => by
    obtain ⟨h1, h2, h3, h4⟩ := h.lay h0
    refine ⟨h1, fun j hj h8 => rec_stable h8 hG (h2 j hj h8) hE, fun hl v hv => ?_, eff_flag h4⟩
    rcases h3 hl v hv with k | k
    · exact .inl k
    · obtain ⟨a, v', r1, r2, r3, r4, r5, r6⟩ := h2 0 (by omega) (by omega)
      obtain rfl : v = v' := Option.some.inj (hv.symm.trans r2)
      rcases r5 with r5 | r5
      · exact .inl r5
      · right
        rw [hE.nk (hG.nlt (.inr r5.1))]
        exact k
end Go.Proofs.YtfolchpjccjadaaDoor
/- The plain machine: a step of an Insert into the hash index. -/
namespace Go.Proofs.YtfolchpjccjadaaDoor
open Go.RowKit
set_option linter.unusedVariables false

theorem Own.pub_mine {X : Own} (h : X.pub = true) (w : Nat) : X.mine w = false := by cases X <;> first | rfl | cases h
/-- Another owner of a cell. -/
def up (ow : Nat → Option Own) (c : Nat) (X : Option Own) : Nat → Option Own := fun k => if k = c then X else ow k
theorem up_same (ow : Nat → Option Own) (c : Nat) (X : Option Own) : up ow c X c = X := if_pos rfl
theorem up_ne {ow : Nat → Option Own} {c k : Nat} {X : Option Own} (h : k ≠ c) : up ow c X k = ow k := if_neg h
def c1 (own : Nat) : Nat := if own = 0 then 1 else 0
section
variable {K : List (List UInt8)} {hd : List Nat} {w : Nat} {m m' : PM} {g g' : Gh}
theorem Glob.free (hG : Glob K hd m g) {c : Nat} (hc : c ∉ m.L) : g.ow c = none := by
  cases h : g.ow c with
  | none => rfl
  | some X => exact absurd (hG.ol c (by rw [h]; exact fun e => by cases e)) hc
theorem Glob.ent (hG : Glob K hd m g) {b n : Nat} {e : Ent} (hn : n ∈ g.C b) (he : m.E[n - 1]? = some e) : g.ow e.cell = some (.entry n) := by
  obtain ⟨_, e', h1, h2, _⟩ := hG.ce b n hn
  rw [he] at h1
  obtain rfl := Option.some.inj h1
  exact h2
/-- A step in which no swap comes through. -/
theorem quiet_step (hG : Glob K hd m g) (hE : ∀ (n : Nat) (e : Ent), m.E[n]? = some e → m'.E[n]? = some e) (hN : ∀ (n : Nat) (x : Nod), m.N[n]? = some x → m'.N[n]? = some x)
    (hk : ∀ c X, g.ow c = some X → X.mine w = false → g'.ow c = some X ∧ m'.H[c]? = m.H[c]?) (hC : g'.C = g.C) (hM : g'.M = g.M) (hol : ∀ c, g'.ow c ≠ none → c ∈ m'.L) (hlt : ∀ c, c ∈ m'.L → c < m'.H.length) :
    Eff w false m g m' g' ∧ Glob K hd m' g' := by
  have hF : Eff w false m g m' g' := ⟨hE, hN, fun k => by rw [hC]; exact List.suffix_refl _, fun i n h => by rw [hM]; exact h, fun c X h h2 => (hk c X h h2).1, fun c X h h2 _ => (hk c X h h2).2, fun _ => hC, fun _ => hM, fun i n h h' => absurd (by rw [hM] at h; exact h) h'⟩
  refine ⟨hF, ?_⟩
  have hn : ∀ {n : Nat}, n < m.N.length → nK m'.N n = nK m.N n := hF.nk
  constructor
  · exact hol
  · exact hlt
  · exact fun b c h => (hk c _ (hG.hb b c h) rfl).1
  · intro b c h
    obtain ⟨v, h1, h2⟩ := hG.ch b c h
    refine ⟨v, by rw [(hk c _ (hG.hb b c h) rfl).2]; exact h1, ?_⟩
    rw [hC]
    exact h2.keep fun n hn e he => ⟨hE _ _ he, (hk _ _ (hG.ent hn he) rfl).2⟩
  · intro b n hn
    rw [hC] at hn
    obtain ⟨h0, e, h1, h2, h3⟩ := hG.ce b n hn
    exact ⟨h0, e, hE _ _ h1, (hk _ _ h2 rfl).1, h3⟩
  · intro b
    rw [hC]
    have : (g.C b).map (eK m'.E) = (g.C b).map (eK m.E) := List.map_congr_left fun n hn => by
      obtain ⟨_, e, h1, _⟩ := hG.ce b n hn
      exact hF.ek h1
    rw [this]
    exact hG.cn b
  · refine ⟨(hn hG.n0.2).trans hG.n0.1, ?_⟩
    have := hN 0 _ (List.getElem?_eq_getElem hG.n0.2)
    exact (List.getElem?_eq_some_iff.1 this).1
  · intro i n hi h
    rw [hM] at h
    obtain ⟨c, h1, h2⟩ := hG.nt i n hi h
    exact ⟨c, hF.tc' h1, (hk _ _ h2 rfl).1⟩
  · intro i n h
    rw [hM] at h
    obtain ⟨h1, h2, h3, h4, h5⟩ := hG.mn i n h
    have := hN n _ (List.getElem?_eq_getElem h3)
    exact ⟨h1, h2, (List.getElem?_eq_some_iff.1 this).1, by rw [hn h3]; exact h4, by rw [hn h3]; exact h5⟩
  · intro i n h
    rw [hM] at h ⊢
    exact hG.md i n h
  · intro n n' h h' e
    rw [hM] at h h'
    rw [hn (hG.mn 0 n h).2.2.1, hn (hG.mn 0 n' h').2.2.1] at e
    exact hG.mj n n' h h' e
  · intro i n hi h
    rw [hM] at h
    obtain ⟨v, h1, h2, h3⟩ := hG.mx i n hi h
    obtain ⟨c, k1, k2⟩ := hG.nt i n hi h
    refine ⟨v, by rw [hF.nx' k1 (hk _ _ k2 rfl).2]; exact h1, ?_, fun k hm => ?_⟩
    · rw [hM]
      rcases h2 with h2 | ⟨h2, h4⟩
      · exact .inl h2
      · right
        rw [hn (hG.nlt h), hn (hG.nlt (.inr h2))]
        exact ⟨h2, h4⟩
    · rw [hM] at hm
      rw [hn (hG.nlt h), hn (hG.nlt (.inr hm))]
      intro hlt
      obtain ⟨h5, h6⟩ := h3 k hm hlt
      rcases h2 with h2 | ⟨h2, _⟩
      · exact absurd h2 h5
      · rw [hn (hG.nlt (.inr h2))]
        exact ⟨h5, h6⟩
end
theorem newH_other {H : List Nat} {c k : Nat} (hk : k ≠ c) (hl : k < H.length) : (newH H c)[k]? = H[k]? := by
  unfold newH
  split
  · rw [List.getElem?_append_left hl]
  · rw [List.getElem?_set_ne (fun e => hk e.symm)]
theorem ext_get {α : Type} {l : List α} (r : List α) {n : Nat} {x : α} (h : l[n]? = some x) : (l ++ r)[n]? = some x := by
  rw [List.getElem?_append_left (List.getElem?_eq_some_iff.1 h).1]
  exact h
theorem new_lt {H L : List Nat} {c : Nat} (hc : c ≤ H.length) (hl : ∀ k, k ∈ L → k < H.length) : ∀ k, k ∈ c :: L → k < (newH H c).length := by
  intro k hk
  have := newH_len hc
  rcases List.mem_cons.1 hk with rfl | hk
  · exact this.1
  · exact Nat.lt_of_lt_of_le (hl k hk) this.2.1

/-- What is said of a step of a worker's operation. -/
def HopAfter (K : List (List UInt8)) (hd : List Nat) (w p : Nat) (m : PM) (g : Gh) (s : Hop) (m' : PM) (s' : Hop) (d : Bool) : Prop :=
  ∃ (b : Bool) (g' : Gh) (fl' : Bool) (p' : Nat), Eff w b m g m' g' ∧ Glob K hd m' g' ∧ (d = false → HopOk K hd w fl' p' m' g' s') ∧ (d = true → isKey s.key = true → ∃ n, n ∈ g'.C (bk hd.length s.key) ∧ eK m'.E n = s.key) ∧
    p' + (if b = true then 101 else 1) ≤ p ∧ m'.L.length + 8 * c1 s'.own ≤ m.L.length + 8 * c1 s.own ∧ m'.E.length + c1 s'.own ≤ m.E.length + c1 s.own ∧ s'.key = s.key

theorem look_step {K : List (List UInt8)} {hd : List Nat} {w : Nat} {fl : Bool} {p : Nat} {m : PM} {g : Gh} {s s' : Hop} {H' L' : List Nat} {E' : List Ent} {d : Bool} {S mid rest : List Nat}
    (hG : Glob K hd m g) (hK : s.key ∈ K) (hk : isKey s.key = true) (ho : 0 < s.own → ∃ e, m.E[s.own - 1]? = some e ∧ e.key = s.key ∧ g.ow e.cell = some (.mineE w))
    (h1 : S <:+ g.C (bk hd.length s.key)) (h2 : s.head = S.headD 0) (h3 : fl = true → S = g.C (bk hd.length s.key)) (h4 : S = mid ++ rest) (h5 : ∀ n, n ∈ mid → eK m.E n ≠ s.key) (h6 : s.cur = rest.headD 0)
    (hp : rest.length + 110 + (if fl = true then 0 else 100) ≤ p) (hst : Look m.H m.L m.E s H' L' E' s' d) : HopAfter K hd w p m g s { m with H := H', L := L', E := E' } s' d := by
  have hpos : ∀ n, n ∈ S → 0 < n := fun n hn => (hG.ce _ n (h1.subset hn)).1
  have hnil : s.cur = 0 → rest = [] := by
    intro h0
    cases rest with
    | nil => rfl
    | cons a r =>
      have := hpos a (by rw [h4]; simp)
      simp at h6
      omega
  have hcur : 0 < s.cur → ∃ r, rest = s.cur :: r := by
    intro h0
    cases rest with
    | nil => simp at h6; omega
    | cons a r => exact ⟨r, by simp at h6; rw [h6]⟩
  cases hst with
  | hit0 x k1 k2 k3 k4 =>
    refine ⟨false, g, fl, 0, Eff.refl _ _ _, hG, fun e => (by cases e), fun _ _ => ?_, (by simp; omega), Nat.le_refl _, Nat.le_refl _, rfl⟩
    obtain ⟨r, hr⟩ := hcur k1
    exact ⟨s.cur, h1.subset (by rw [h4, hr]; simp), (eK_some k2).trans k3⟩
  | hit1 x y k1 k2 k3 k4 k5 =>
    obtain ⟨e, e1, e2, e3⟩ := ho k4
    rw [k5] at e1
    obtain rfl := Option.some.inj e1
    obtain ⟨q1, q2⟩ := quiet_step (w := w) (m' := { m with L := m.L.erase y.cell }) (g' := { g with ow := up g.ow y.cell none }) hG (fun _ _ h => h) (fun _ _ h => h) (fun c X h h' => by
        refine ⟨?_, rfl⟩
        rw [← h]
        refine up_ne fun ec => ?_
        rw [ec, e3] at h
        obtain rfl := Option.some.inj h
        simp [Own.mine] at h') rfl rfl (fun c hc => by
        have hne : c ≠ y.cell := fun ec => hc (by rw [ec]; exact up_same _ _ _)
        exact (List.mem_erase_of_ne hne).2 (hG.ol c (by have : up g.ow y.cell none c = g.ow c := up_ne hne
                                                        rw [← this]; exact hc))) (fun c hc => hG.lt c (List.mem_of_mem_erase hc))
    refine ⟨false, _, fl, 0, q1, q2, fun e => (by cases e), fun _ _ => ?_, (by simp; omega), ?_, Nat.le_refl _, rfl⟩
    · obtain ⟨r, hr⟩ := hcur k1
      exact ⟨s.cur, h1.subset (by rw [h4, hr]; simp), (eK_some k2).trans k3⟩
    · have := List.length_erase_le (a := y.cell) (l := m.L)
      show (m.L.erase y.cell).length + 8 * c1 s.own ≤ m.L.length + 8 * c1 s.own
      omega
  | end1 k1 k2 =>
    have hr := hnil k1
    subst hr
    simp at h4
    refine ⟨false, g, fl, p - 1, Eff.refl _ _ _, hG, fun _ => ?_, fun e => (by cases e), (by simp; omega), Nat.le_refl _, Nat.le_refl _, rfl⟩
    refine ⟨hK, (by simp), fun _ => hk, fun h0 => ?_, fun e => (by simp at e), fun _ => ⟨S, h1, h2, h3, fun e => (by simp at e), fun _ => ⟨k2, by rw [h4]; exact h5⟩, fun _ => ?_, fun e => (by simp at e)⟩⟩
    · obtain ⟨e, e1, e2, e3⟩ := ho h0
      exact ⟨e, e1, e2, e3, fun e => by simp at e⟩
    · simp at hp
      omega
  | end0 c ref k1 k2 k3 k4 =>
    have hr := hnil k1
    subst hr
    simp at h4
    have hfree := hG.free k4
    obtain ⟨q1, q2⟩ := quiet_step (w := w) (m' := { m with H := newH m.H c, L := c :: m.L, E := m.E ++ [⟨s.key, ref, c⟩] }) (g' := { g with ow := up g.ow c (some (.mineE w)) }) hG (fun _ _ h => ext_get _ h) (fun _ _ h => h) (fun k X h h' => by
        have hne : k ≠ c := fun e => by rw [e, hfree] at h; cases h
        exact ⟨(up_ne hne).trans h, newH_other hne (hG.lt k (hG.ol k (by rw [h]; exact fun e => by cases e)))⟩) rfl rfl (fun k hc => by
        by_cases hne : k = c
        · rw [hne]; simp
        · refine List.mem_cons_of_mem _ (hG.ol k ?_)
          have : up g.ow c (some (.mineE w)) k = g.ow k := up_ne hne
          rw [← this]; exact hc) (new_lt k3 hG.lt)
    refine ⟨false, _, fl, p - 1, q1, q2, fun _ => ?_, fun e => (by cases e), (by simp; omega), ?_, ?_, rfl⟩
    · have hek : ∀ n, n ∈ S → eK (m.E ++ [⟨s.key, ref, c⟩]) n = eK m.E n := by
        intro n hn
        obtain ⟨_, e, he, _⟩ := hG.ce _ n (h1.subset hn)
        exact q1.ek he
      refine ⟨hK, (by simp), fun _ => hk, fun h0 => ⟨⟨s.key, ref, c⟩, by simp, rfl, up_same _ _ _, fun e => by simp at e⟩, fun e => (by simp at e), fun _ => ⟨S, h1, h2, h3, fun e => (by simp at e), fun _ => ⟨by simp, fun n hn => ?_⟩, fun _ => ?_, fun e => (by simp at e)⟩⟩
      · show eK (m.E ++ [⟨s.key, ref, c⟩]) n ≠ s.key
        rw [hek n hn]
        exact h5 n (by rw [← h4]; exact hn)
      · simp at hp
        omega
    · show (c :: m.L).length + 8 * c1 (m.E.length + 1) ≤ m.L.length + 8 * c1 s.own
      simp [c1, k2]
    · show (m.E ++ [_]).length + c1 (m.E.length + 1) ≤ m.E.length + c1 s.own
      simp [c1, k2]
  | go x k1 k2 k3 =>
    obtain ⟨r, hr⟩ := hcur k1
    refine ⟨false, g, fl, p - 1, Eff.refl _ _ _, hG, fun _ => ?_, fun e => (by cases e), (by simp; omega), Nat.le_refl _, Nat.le_refl _, rfl⟩
    refine ⟨hK, (by simp), fun _ => hk, fun h0 => ?_, fun e => (by simp at e), fun _ => ⟨S, h1, h2, h3, fun _ => ⟨mid, r, by rw [h4, hr], h5, ?_, ?_⟩, fun e => (by simp at e), fun e => (by simp at e), fun e => (by simp at e)⟩⟩
    · obtain ⟨e, e1, e2, e3⟩ := ho h0
      exact ⟨e, e1, e2, e3, fun e => by simp at e⟩
    · rw [show ({ s with next := 1 } : Hop).cur = s.cur from rfl, eK_some k2]
      exact k3
    · rw [hr, List.length_cons] at hp
      omega
end Go.Proofs.YtfolchpjccjadaaDoor
/- The plain machine: a step of an Insert into the hash index, whole. -/
namespace Go.Proofs.YtfolchpjccjadaaDoor
open Go.RowKit
set_option linter.unusedVariables false

section
variable {K : List (List UInt8)} {hd : List Nat} {w : Nat} {m m' : PM} {g g' : Gh}
/-- What is said of the list alone. -/
theorem skip_part (hG : Glob K hd m g) (hN : m'.N = m.N) (hM : g'.M = g.M) (hk : ∀ n i c, g.ow c = some (.tower n i) → g'.ow c = some (.tower n i) ∧ m'.H[c]? = m.H[c]?) :
    (nK m'.N 0 = [] ∧ 0 < m'.N.length) ∧ (∀ i n, i < 8 → (n = 0 ∨ g'.M i n) → ∃ c, tc m'.N n i = some c ∧ g'.ow c = some (.tower n i)) ∧
    (∀ i n, g'.M i n → i < 8 ∧ 0 < n ∧ n < m'.N.length ∧ isKey (nK m'.N n) = true ∧ nK m'.N n ∈ K) ∧ (∀ i n, g'.M (i + 1) n → g'.M i n) ∧
    (∀ n n', g'.M 0 n → g'.M 0 n' → nK m'.N n = nK m'.N n' → n = n') ∧
    (∀ i n, i < 8 → (n = 0 ∨ g'.M i n) → ∃ v, nx m'.H m'.N i n = some v ∧ (v = 0 ∨ g'.M i v ∧ nK m'.N n < nK m'.N v) ∧ ∀ k, g'.M i k → nK m'.N n < nK m'.N k → v ≠ 0 ∧ ¬ nK m'.N k < nK m'.N v) := by
  rw [hN, hM]
  refine ⟨hG.n0, fun i n hi h => ?_, hG.mn, hG.md, hG.mj, fun i n hi h => ?_⟩
  · obtain ⟨c, h1, h2⟩ := hG.nt i n hi h
    exact ⟨c, h1, (hk _ _ _ h2).1⟩
  · obtain ⟨c, k1, k2⟩ := hG.nt i n hi h
    obtain ⟨v, h1, h2⟩ := hG.mx i n hi h
    refine ⟨v, ?_, h2⟩
    unfold nx at h1 ⊢
    rw [k1] at h1 ⊢
    exact (hk _ _ _ k2).2.trans h1
/-- What is said of the hash index alone. -/
theorem hash_part (hG : Glob K hd m g) (hE : m'.E = m.E) (hC : g'.C = g.C) (hk : ∀ c X, g.ow c = some X → ((∃ b, X = .bucket b) ∨ ∃ n, X = .entry n) → g'.ow c = some X ∧ m'.H[c]? = m.H[c]?) :
    (∀ b c, hd[b]? = some c → g'.ow c = some (.bucket b)) ∧ (∀ b c, hd[b]? = some c → ∃ v, m'.H[c]? = some v ∧ Spell m'.H m'.E v (g'.C b)) ∧
    (∀ b n, n ∈ g'.C b → 0 < n ∧ ∃ e, m'.E[n - 1]? = some e ∧ g'.ow e.cell = some (.entry n) ∧ bk hd.length e.key = b ∧ isKey e.key = true ∧ e.key ∈ K) ∧
    (∀ b, ((g'.C b).map (eK m'.E)).Nodup) := by
  rw [hE, hC]
  refine ⟨fun b c h => (hk _ _ (hG.hb b c h) (.inl ⟨b, rfl⟩)).1, fun b c h => ?_, fun b n hn => ?_, hG.cn⟩
  · obtain ⟨v, h1, h2⟩ := hG.ch b c h
    exact ⟨v, (hk _ _ (hG.hb b c h) (.inl ⟨b, rfl⟩)).2.trans h1, h2.keep fun n hn e he => ⟨he, (hk _ _ (hG.ent hn he) (.inr ⟨n, rfl⟩)).2⟩⟩
  · obtain ⟨h0, e, h1, h2, h3⟩ := hG.ce b n hn
    exact ⟨h0, e, h1, (hk _ _ h2 (.inr ⟨n, rfl⟩)).1, h3⟩
end
theorem suffix_head {α : Type} {S C : List α} {x : α} {t : List α} (h : S <:+ C) (hS : S = x :: t) (hC : C.head? = some x) (hn : C.Nodup) : S = C := by
  obtain ⟨a, ha⟩ := h
  cases a with
  | nil => exact ha
  | cons y r =>
    subst ha
    simp at hC
    subst hC
    rw [hS] at hn
    simp at hn
/-- The beginning of a chain is what it was only if nobody was put ahead of it. -/
theorem chain_same {K : List (List UInt8)} {hd : List Nat} {m : PM} {g : Gh} (hG : Glob K hd m g) {b c v : Nat} {S : List Nat} (hc : hd[b]? = some c) (hv : m.H[c]? = some v) (h1 : S <:+ g.C b) (h2 : v = S.headD 0) : S = g.C b := by
  obtain ⟨v', k1, k2⟩ := hG.ch b c hc
  obtain rfl : v = v' := Option.some.inj (hv.symm.trans k1)
  have hv := k2.head
  have hnd : (g.C b).Nodup := by
    have := hG.cn b
    exact List.Pairwise.of_map (eK m.E) (fun a b h e => h (by rw [e])) this
  cases hC : g.C b with
  | nil => rw [hC] at h1; exact List.suffix_nil.1 h1
  | cons a r =>
    have ha : 0 < a := (hG.ce b a (by rw [hC]; simp)).1
    rw [hC] at hv
    simp at hv
    cases S with
    | nil => simp at h2; omega
    | cons x t =>
      simp at h2
      rw [← hC]
      exact suffix_head h1 rfl (by rw [hC, ← h2, hv]; rfl) hnd

theorem nodup_len {α : Type} [DecidableEq α] : ∀ (l r : List α), l.Nodup → (∀ x, x ∈ l → x ∈ r) → l.length ≤ r.length
  | [], r, _, _ => by simp
  | x :: l, r, hn, h => by
    obtain ⟨h1, h2⟩ := List.nodup_cons.1 hn
    have := nodup_len l (r.erase x) h2 fun y hy => (List.mem_erase_of_ne (fun e => h1 (by rw [← e]; exact hy))).2 (h y (by simp [hy]))
    have h3 := List.length_erase_of_mem (h x (by simp))
    have h4 := List.length_pos_of_mem (h x (by simp))
    rw [List.length_cons]
    omega
theorem chain_len {K : List (List UInt8)} {hd : List Nat} {m : PM} {g : Gh} (hG : Glob K hd m g) (b : Nat) : (g.C b).length ≤ K.length := by
  have := nodup_len _ K (hG.cn b) (fun x hx => by
    obtain ⟨n, hn, rfl⟩ := List.mem_map.1 hx
    obtain ⟨_, e, h1, _, _, _, h2⟩ := hG.ce b n hn
    rw [eK_some h1]
    exact h2)
  rwa [List.length_map] at this

theorem hop_step {K : List (List UInt8)} {hd : List Nat} {w : Nat} {fl : Bool} {p : Nat} {m : PM} {g : Gh} {s s' : Hop} {H' L' : List Nat} {E' : List Ent} {d : Bool}
    (hG : Glob K hd m g) (hS : HopOk K hd w fl p m g s) (hK : K.length ≤ 40) (hd0 : 0 < hd.length) (hst : HStep hd m.H m.L m.E s H' L' E' s' d) : HopAfter K hd w p m g s { m with H := H', L := L', E := E' } s' d := by
  cases hst with
  | refuse h0 hk =>
    refine ⟨false, g, fl, 0, Eff.refl _ _ _, hG, fun e => (by cases e), fun _ h => absurd h (by rw [hk]; simp), ?_, Nat.le_refl _, Nat.le_refl _, rfl⟩
    have := hS.at0 h0
    simp; omega
  | begin c x h0 hk hc hx hl =>
    have hp := hS.at0 h0
    obtain ⟨v, h1, h2⟩ := hG.ch _ c hc
    obtain rfl : x = v := Option.some.inj (hx.symm.trans h1)
    have hlen := chain_len hG (bk hd.length s.key)
    exact look_step (s := { s with head := x, cur := x }) (fl := true) (S := g.C (bk hd.length s.key)) (mid := []) (rest := g.C (bk hd.length s.key)) hG hS.key hk
      (fun ho => by obtain ⟨e, e1, e2, e3, _⟩ := hS.own ho; exact ⟨e, e1, e2, e3⟩) (List.suffix_refl _) h2.head (fun _ => rfl) rfl (fun n hn => by cases hn) h2.head (by simp; omega) hl
  | walk y x h0 hy hx hl =>
    obtain ⟨S, h1, h2, h3, h4, _⟩ := hS.seg (by omega)
    obtain ⟨mid, rest, k1, k2, k3, k4⟩ := h4 h0
    have hsp : x = rest.headD 0 := by
      obtain ⟨a, ha⟩ := h1
      have hcur : s.cur ∈ g.C (bk hd.length s.key) := by rw [← ha, k1]; simp
      obtain ⟨v, q1, q2⟩ := hG.ch _ _ (List.getElem?_eq_getElem (show bk hd.length s.key < hd.length from Nat.mod_lt _ hd0))
      obtain ⟨u, q3⟩ := q2.tail (a ++ mid) (s.cur :: rest) (by rw [← ha, k1]; simp)
      obtain ⟨_, _, e, x', q4, q5, q6⟩ := q3
      rw [hy] at q4
      obtain rfl := Option.some.inj q4
      obtain rfl : x = x' := Option.some.inj (hx.symm.trans q5)
      exact q6.head
    exact look_step (s := { s with cur := x }) (fl := fl) (S := S) (mid := mid ++ [s.cur]) (rest := rest) hG hS.key (hS.ik (.inl (by omega)))
      (fun ho => by obtain ⟨e, e1, e2, e3, _⟩ := hS.own ho; exact ⟨e, e1, e2, e3⟩) h1 h2 h3 (by rw [k1]; simp) (fun n hn => by
        rcases List.mem_append.1 hn with hn | hn
        · exact k2 n hn
        · simp at hn; rw [hn]; exact k3) hsp (by omega) hl
  | lay y h0 hy =>
    obtain ⟨S, h1, h2, h3, _, h5, h6, _⟩ := hS.seg (by omega)
    obtain ⟨ho, hks⟩ := h5 (by omega)
    obtain ⟨e, e1, e2, e3, _⟩ := hS.own ho
    rw [hy] at e1
    obtain rfl := Option.some.inj e1
    have hyl := hG.lt _ (hG.ol y.cell (by rw [e3]; exact fun e => by cases e))
    obtain ⟨q1, q2⟩ := quiet_step (w := w) (m' := { m with H := m.H.set y.cell s.head }) (g' := g) hG (fun _ _ h => h) (fun _ _ h => h) (fun c X h h' => by
        refine ⟨h, List.getElem?_set_ne fun ec => ?_⟩
        rw [← ec, e3] at h
        obtain rfl := Option.some.inj h
        simp [Own.mine] at h') rfl rfl hG.ol (fun c hc => by
        show c < (m.H.set y.cell s.head).length
        rw [List.length_set]; exact hG.lt c hc)
    refine ⟨false, g, fl, p - 1, q1, q2, fun _ => ?_, fun e => (by cases e), ?_, Nat.le_refl _, Nat.le_refl _, rfl⟩
    · refine ⟨hS.key, (by simp), fun _ => hS.ik (.inl (by omega)), fun _ => ⟨y, hy, e2, e3, fun _ => List.getElem?_set_self hyl⟩, fun e => (by simp at e), fun _ => ⟨S, h1, h2, h3, fun e => (by simp at e), fun _ => ⟨ho, hks⟩, fun e => (by simp at e), fun _ => ?_⟩⟩
      have := h6 h0
      omega
    · have := h6 h0
      simp; omega
  | swap c h0 hc hx =>
    obtain ⟨S, h1, h2, h3, _, h5, _, h7⟩ := hS.seg (by omega)
    obtain ⟨ho, hks⟩ := h5 (by omega)
    obtain ⟨y, hy, e2, e3, e4⟩ := hS.own ho
    have hp := h7 h0
    have hik := hS.ik (.inl (by omega))
    obtain rfl := chain_same hG hc hx h1 h2
    obtain ⟨b, hb⟩ : ∃ b, b = bk hd.length s.key := ⟨_, rfl⟩
    rw [← hb] at hc h1 h2 h3 hks
    obtain ⟨v, q1, q2⟩ := hG.ch b c hc
    obtain rfl : s.head = v := Option.some.inj (hx.symm.trans q1)
    have hcb := hG.hb b c hc
    have hcl := hG.lt _ (hG.ol c (by rw [hcb]; exact fun e => by cases e))
    have hyc : y.cell ≠ c := fun e => by rw [e, hcb] at e3; cases e3
    have hne : ∀ k X, g.ow k = some X → X.mine w = false → k ≠ y.cell := fun k X h h' e => by
      rw [e, e3] at h
      obtain rfl := Option.some.inj h
      simp [Own.mine] at h'
    obtain ⟨g', hg'⟩ : ∃ g' : Gh, g' = { C := fun k => if k = b then s.own :: g.C k else g.C k, M := g.M, ow := up g.ow y.cell (some (.entry s.own)) } := ⟨_, rfl⟩
    obtain ⟨m', hm'⟩ : ∃ m' : PM, m' = { m with H := m.H.set c s.own } := ⟨_, rfl⟩
    have hH : ∀ k, k ≠ c → m'.H[k]? = m.H[k]? := fun k hk => by rw [hm']; exact List.getElem?_set_ne fun e => hk e.symm
    have how : ∀ k X, g.ow k = some X → X.mine w = false → g'.ow k = some X := fun k X h h' => by rw [hg']; exact (up_ne (hne k X h h')).trans h
    have hE : m'.E = m.E := by rw [hm']
    have hN : m'.N = m.N := by rw [hm']
    have hL : m'.L = m.L := by rw [hm']
    have hCb : g'.C b = s.own :: g.C b := by rw [hg']; exact if_pos rfl
    have hCo : ∀ k, k ≠ b → g'.C k = g.C k := fun k hk => by rw [hg']; exact if_neg hk
    have hF : Eff w true m g m' g' := ⟨fun _ _ h => by rw [hE]; exact h, fun _ _ h => by rw [hN]; exact h, fun k => by
        by_cases hk : k = b
        · rw [hk, hCb]; exact List.suffix_cons _ _
        · rw [hCo k hk]; exact List.suffix_refl _, fun i n h => by rw [hg']; exact h, how, fun k X h h' hp => by
        refine hH k fun e => ?_
        rw [e, hcb] at h
        obtain rfl := Option.some.inj h
        exact absurd (hp rfl) (by simp), fun e => (by cases e), fun e => (by cases e), fun i n h h' => absurd (by rw [hg'] at h; exact h) h'⟩
    obtain ⟨s1, s2, s3, s4, s5, s6⟩ := skip_part (m' := m') (g' := g') hG hN (by rw [hg']) (fun n i k h => ⟨how _ _ h rfl, hH k fun e => by rw [e, hcb] at h; cases h⟩)
    have hspo : ∀ v b', Spell m.H m.E v (g.C b') → Spell m'.H m'.E v (g.C b') := fun v b' h => h.keep fun n hn e he => ⟨by rw [hE]; exact he, hH _ fun ec => by have := hG.ent hn he; rw [ec, hcb] at this; cases this⟩
    have hey : eK m.E s.own = s.key := (eK_some hy).trans e2
    have hG' : Glob K hd m' g' := by
      refine ⟨fun k hk => ?_, fun k hk => ?_, fun b' c' h => how _ _ (hG.hb b' c' h) rfl, fun b' c' h => ?_, fun b' n hn => ?_, fun b' => ?_, s1, s2, s3, s4, s5, s6⟩
      · rw [hL]
        by_cases e : k = y.cell
        · rw [e]; exact hG.ol _ (by rw [e3]; exact fun e => by cases e)
        · refine hG.ol k ?_
          have : g'.ow k = g.ow k := by rw [hg']; exact up_ne e
          rw [← this]; exact hk
      · rw [hL] at hk
        rw [hm']
        show k < (m.H.set c s.own).length
        rw [List.length_set]
        exact hG.lt k hk
      · by_cases hb' : b' = b
        · subst hb'
          obtain rfl : c = c' := Option.some.inj (hc.symm.trans h)
          refine ⟨s.own, by rw [hm']; exact List.getElem?_set_self hcl, ?_⟩
          rw [hCb]
          exact ⟨rfl, ho, y, s.head, by rw [hE]; exact hy, by rw [hH _ hyc]; exact e4 h0, hspo _ _ q2⟩
        · obtain ⟨v, r1, r2⟩ := hG.ch b' c' h
          rw [hCo b' hb']
          have hcc : c' ≠ c := fun e => by
            have := hG.hb b' c' h
            rw [e, hcb] at this
            injection this with this
            injection this with this
            exact hb' this.symm
          exact ⟨v, by rw [hH c' hcc]; exact r1, hspo _ _ r2⟩
      · rw [hE]
        by_cases hb' : b' = b
        · subst hb'
          rw [hCb] at hn
          rcases List.mem_cons.1 hn with rfl | hn
          · exact ⟨ho, y, hy, by rw [hg']; exact up_same _ _ _, by rw [e2, hb], by rw [e2]; exact hik, by rw [e2]; exact hS.key⟩
          · obtain ⟨r0, e, r1, r2, r3⟩ := hG.ce _ n hn
            exact ⟨r0, e, r1, how _ _ r2 rfl, r3⟩
        · rw [hCo b' hb'] at hn
          obtain ⟨r0, e, r1, r2, r3⟩ := hG.ce _ n hn
          exact ⟨r0, e, r1, how _ _ r2 rfl, r3⟩
      · rw [hE]
        by_cases hb' : b' = b
        · subst hb'
          rw [hCb, List.map_cons, List.nodup_cons]
          refine ⟨fun hmem => ?_, hG.cn _⟩
          obtain ⟨n, hn, he⟩ := List.mem_map.1 hmem
          rw [hey] at he
          exact hks n hn he
        · rw [hCo b' hb']
          exact hG.cn b'
    rw [← hm']
    refine ⟨true, g', fl, 0, hF, hG', fun e => (by cases e), fun _ _ => ⟨s.own, ?_, by rw [hE]; exact hey⟩, (by simp; omega), by rw [hL]; exact Nat.le_refl _, by rw [hE]; exact Nat.le_refl _, rfl⟩
    rw [← hb, hCb]
    simp
  | fail c x h0 hc hx hne =>
    obtain ⟨S, h1, h2, h3, _, h5, _, h7⟩ := hS.seg (by omega)
    have hp := h7 h0
    have hfl : fl = false := by
      cases fl with
      | false => rfl
      | true =>
        exfalso
        have hSC := h3 rfl
        obtain ⟨v, q1, q2⟩ := hG.ch _ c hc
        obtain rfl : x = v := Option.some.inj (hx.symm.trans q1)
        exact hne (q2.head.trans (by rw [h2, hSC]))
    rw [hfl] at hp
    simp at hp
    refine ⟨false, g, fl, 200, Eff.refl _ _ _, hG, fun _ => ?_, fun e => (by cases e), (by simp; omega), Nat.le_refl _, Nat.le_refl _, rfl⟩
    refine ⟨hS.key, (by simp), fun h => hS.ik (.inl (by omega)), fun ho => ?_, fun _ => Nat.le_refl _, fun e => absurd rfl e⟩
    obtain ⟨e, e1, e2, e3, _⟩ := hS.own ho
    exact ⟨e, e1, e2, e3, fun e => by simp at e⟩
end Go.Proofs.YtfolchpjccjadaaDoor
/- The plain machine: small laws for a step of an Insert into the skip list. -/
namespace Go.Proofs.YtfolchpjccjadaaDoor
open Go.RowKit
set_option linter.unusedVariables false

theorem key_tri {a b : List UInt8} (h : ¬ a < b) (hne : a ≠ b) : b < a := by
  have h1 : b ≤ a := List.not_lt.1 h
  apply Classical.byContradiction
  intro h2
  exact hne (List.le_antisymm (List.not_lt.1 h2) h1)
theorem nil_lt {a : List UInt8} (h : isKey a = true) : ([] : List UInt8) < a := by
  cases a with
  | nil => have := (isKey_iff []).1 h; simp at this
  | cons x r => exact List.nil_lt_cons x r
theorem not_lt_nil (a : List UInt8) : ¬ a < [] := List.not_lt_nil a
theorem le_lt {a b c : List UInt8} (h1 : ¬ b < a) (h2 : b < c) : a < c := by
  rcases Classical.em (a = b) with rfl | hne
  · exact h2
  · exact List.lt_trans (key_tri h1 (fun e => hne e.symm)) h2
theorem lt_le {a b c : List UInt8} (h1 : a < b) (h2 : ¬ c < b) : a < c := by
  rcases Classical.em (b = c) with rfl | hne
  · exact h1
  · exact List.lt_trans h1 (key_tri h2 (fun e => hne e.symm))

theorem rank_le (K : List (List UInt8)) (k : List UInt8) : rank K k ≤ K.length := List.countP_le_length
theorem rank_lt : ∀ {K : List (List UInt8)} {a b : List UInt8}, a < b → b ∈ K → rank K b < rank K a := by
  intro K
  induction K with
  | nil => intro a b _ h; cases h
  | cons x K ih =>
    intro a b h hb
    have hmono : rank K b ≤ rank K a := List.countP_mono_left fun y _ hy => by
      simp only [decide_eq_true_eq] at hy ⊢
      exact List.lt_trans h hy
    unfold rank at hmono ih ⊢
    rw [List.countP_cons, List.countP_cons]
    rcases List.mem_cons.1 hb with rfl | hb
    · rw [if_neg (by simp [List.lt_irrefl]), if_pos (by simpa using h)]
      omega
    · have := ih h hb
      split <;> split
      · omega
      · rename_i h1 h2
        simp only [decide_eq_true_eq] at h1 h2
        exact absurd (List.lt_trans h h1) h2
      · omega
      · omega

theorem erase_all_mem : ∀ {cs L : List Nat} {c : Nat}, c ∈ L → c ∉ cs → c ∈ cs.foldl List.erase L
  | [], L, c, h, _ => h
  | x :: cs, L, c, h, hn => erase_all_mem (L := L.erase x) ((List.mem_erase_of_ne fun e => hn (by simp [e])).2 h) fun h => hn (by simp [h])
theorem mem_of_erase_all : ∀ {cs L : List Nat} {c : Nat}, c ∈ cs.foldl List.erase L → c ∈ L
  | [], L, c, h => h
  | x :: cs, L, c, h => List.mem_of_mem_erase (mem_of_erase_all (cs := cs) h)
theorem erase_all_len : ∀ (cs L : List Nat), (cs.foldl List.erase L).length ≤ L.length
  | [], L => Nat.le_refl _
  | x :: cs, L => Nat.le_trans (erase_all_len cs (L.erase x)) List.length_erase_le

theorem newH_self {H : List Nat} {c : Nat} (h : c ≤ H.length) : (newH H c)[c]? = some 0 := by
  unfold newH
  split
  · rename_i e; rw [e]; simp
  · rw [List.getElem?_set_self (by omega)]
/-- Cells taken one behind the other: whose they are. -/
theorem Grow.owns {H L : List Nat} {k : Nat} {cs H' L' : List Nat} (w : Nat) (h : Grow H L k cs H' L') {ow : Nat → Option Own} (ho : ∀ c, ow c ≠ none → c ∈ L) (hl : ∀ c, c ∈ L → c < H.length) :
    cs.length = k ∧ L'.length = L.length + k ∧ ∃ ow' : Nat → Option Own, (∀ c X, ow c = some X → ow' c = some X ∧ H'[c]? = H[c]?) ∧ (∀ i, i < k → ∃ c, cs[i]? = some c ∧ ow' c = some (.mineT w i)) ∧ (∀ c, ow' c ≠ none → c ∈ L') ∧ (∀ c, c ∈ L' → c < H'.length) := by
  induction h with
  | nil => exact ⟨rfl, rfl, ow, fun c X h => ⟨h, rfl⟩, fun i hi => absurd hi (by omega), ho, hl⟩
  | @snoc k cs H1 L1 c h h1 h2 ih =>
    obtain ⟨e0, e1, ow1, q1, q2, q3, q4⟩ := ih
    have hf : ow1 c = none := by
      cases hc : ow1 c with
      | none => rfl
      | some X => exact absurd (q3 c (by rw [hc]; exact fun e => by cases e)) h2
    refine ⟨by rw [List.length_append, e0]; rfl, by rw [List.length_cons, e1]; omega, up ow1 c (some (.mineT w k)), fun d X hd => ?_, fun i hi => ?_, fun d hd => ?_, new_lt h1 q4⟩
    · obtain ⟨r1, r2⟩ := q1 d X hd
      have hne : d ≠ c := fun e => by rw [e, hf] at r1; cases r1
      refine ⟨(up_ne hne).trans r1, (newH_other hne (q4 d (q3 d (by rw [r1]; exact fun e => by cases e)))).trans r2⟩
    · by_cases e : i = k
      · exact ⟨c, by rw [e, ← e0]; simp, by rw [e]; exact up_same _ _ _⟩
      · obtain ⟨d, r1, r2⟩ := q2 i (by omega)
        refine ⟨d, ext_get _ r1, (up_ne fun e => ?_).trans r2⟩
        rw [e, hf] at r2
        cases r2
    · by_cases e : d = c
      · rw [e]; simp
      · refine List.mem_cons_of_mem _ (q3 d ?_)
        have : up ow1 c (some (.mineT w k)) d = ow1 d := up_ne e
        rw [← this]; exact hd

section
variable {K : List (List UInt8)} {hd : List Nat} {m : PM} {g : Gh}
theorem Glob.m0 (hG : Glob K hd m g) {n : Nat} : ∀ i, g.M i n → g.M 0 n
  | 0, h => h
  | i + 1, h => hG.m0 i (hG.md i n h)
theorem Glob.same_key (hG : Glob K hd m g) {i j a b : Nat} (ha : a = 0 ∨ g.M i a) (hb : b = 0 ∨ g.M j b) (h : nK m.N a = nK m.N b) : a = b := by
  rcases ha with rfl | ha <;> rcases hb with rfl | hb
  · rfl
  · have := (hG.mn _ _ hb).2.2.2.1
    rw [← h, hG.n0.1] at this
    exact absurd (nil_lt this) (List.lt_irrefl _)
  · have := (hG.mn _ _ ha).2.2.2.1
    rw [h, hG.n0.1] at this
    exact absurd (nil_lt this) (List.lt_irrefl _)
  · exact hG.mj a b (hG.m0 i ha) (hG.m0 j hb) h
theorem Glob.nx_at (hG : Glob K hd m g) {P : Nod} {i n c x : Nat} (hP : m.N[n]? = some P) (hc : P.tower[i]? = some c) (hx : m.H[c]? = some x) : nx m.H m.N i n = some x := by
  unfold nx
  rw [tc_some hP, hc]
  exact hx
end
/-- What is said of a step of a worker's operation. -/
def SopAfter (K : List (List UInt8)) (hd : List Nat) (w p : Nat) (m : PM) (g : Gh) (s : Sop) (m' : PM) (s' : Sop) (d : Bool) : Prop :=
  ∃ (b : Bool) (g' : Gh) (fl' : Bool) (p' : Nat), Eff w b m g m' g' ∧ Glob K hd m' g' ∧ (d = false → SopOk K w fl' p' m' g' s') ∧ (d = true → isKey s.key = true → ∃ n, g'.M 0 n ∧ nK m'.N n = s.key) ∧
    p' + (if b = true then 101 else 1) ≤ p ∧ m'.L.length + 8 * c1 s'.own ≤ m.L.length + 8 * c1 s.own ∧ m'.N.length + c1 s'.own ≤ m.N.length + c1 s.own ∧ s'.key = s.key
end Go.Proofs.YtfolchpjccjadaaDoor
/- The plain machine: steps of an Insert into the skip list that search, arrive, lay, or fail. -/
namespace Go.Proofs.YtfolchpjccjadaaDoor
open Go.RowKit
set_option linter.unusedVariables false

section
variable {K : List (List UInt8)} {hd : List Nat} {w : Nat} {fl : Bool} {p : Nat} {m : PM} {g : Gh} {s s' : Sop}
theorem start_begun (h : s.begun = true) : s.start = s := if_pos h
theorem start_fresh (h : s.begun = false) : s.start = { s with begun := true, does := 0, level := 7, pred := 0 } := if_neg (by rw [h]; simp)
theorem start_same (s : Sop) : s.start.key = s.key ∧ s.start.height = s.height ∧ s.start.preds = s.preds ∧ s.start.succs = s.succs ∧ s.start.own = s.own ∧ s.start.linked = s.linked ∧ s.start.begun = true := by
  cases h : s.begun with
  | true => rw [start_begun h]; exact ⟨rfl, rfl, rfl, rfl, rfl, rfl, h⟩
  | false => rw [start_fresh h]; exact ⟨rfl, rfl, rfl, rfl, rfl, rfl, rfl⟩
theorem sop_start (hG : Glob K hd m g) (hS : SopOk K w fl p m g s) (hK : K.length ≤ 40) (hb : s.begun = false → isKey s.key = true) : ∃ fl' p', p' ≤ p ∧ SopOk K w fl' p' m g s.start := by
  cases h : s.begun with
  | true => rw [start_begun h]; exact ⟨fl, p, Nat.le_refl _, hS⟩
  | false =>
    rw [start_fresh h]
    obtain ⟨h1, h2, h3⟩ := hS.nob h
    refine ⟨true, 1000, by omega, hS.key, hS.h0, hS.h8, hS.p8, hS.s8, (by simp), fun e => (by cases e), fun _ => hb h, hS.lk, hS.own0, fun ho => absurd h1 (by simp at ho; omega), fun _ _ => ⟨(by simp), .inl rfl, ?_, fun j hj h8 => ?_, ?_⟩, fun e => absurd rfl e⟩
    · show nK m.N 0 < s.key
      rw [hG.n0.1]
      exact nil_lt (hb h)
    · simp at hj; omega
    · have h4 := hS.own0 h1
      have h5 := rank_le K (nK m.N 0)
      have h6 := hS.h8
      simp only [h4]
      simp
      omega

/-- What the search sees at a level. -/
theorem seen (hG : Glob K hd m g) (hS : SopOk K w fl p m g s) (hb : s.begun = true) (h0 : s.does = 0) {P : Nod} {c x : Nat} (hP : m.N[s.pred]? = some P) (hc : P.tower[s.level]? = some c) (hx : m.H[c]? = some x) :
    nx m.H m.N s.level s.pred = some x ∧ (x = 0 ∨ g.M s.level x ∧ nK m.N s.pred < nK m.N x) ∧ ∀ k, g.M s.level k → nK m.N s.pred < nK m.N k → x ≠ 0 ∧ ¬ nK m.N k < nK m.N x := by
  obtain ⟨h1, h2, _⟩ := hS.walk hb h0
  obtain ⟨v, k1, k2, k3⟩ := hG.mx _ _ h1 h2
  have hn := hG.nx_at hP hc hx
  obtain rfl : x = v := Option.some.inj (hn.symm.trans k1)
  exact ⟨hn, k2, k3⟩

/-- What has been recorded when the search goes down a level. -/
theorem rec_all (hG : Glob K hd m g) (hS : SopOk K w fl p m g s) (hb : s.begun = true) (h0 : s.does = 0) {P : Nod} {c x : Nat} (hP : m.N[s.pred]? = some P) (hc : P.tower[s.level]? = some c) (hx : m.H[c]? = some x) (hx2 : x = 0 ∨ ∃ X, m.N[x]? = some X ∧ ¬ X.key < s.key)
    {s' : Sop} (hk : s'.key = s.key) (hp : s'.preds = s.preds.set s.level s.pred) (hq : s'.succs = s.succs.set s.level x) : ∀ j, s.level ≤ j → j < 8 → Rec m g fl s' j := by
  obtain ⟨h1, h2, h3, h4, _⟩ := hS.walk hb h0
  obtain ⟨k1, k2, k3⟩ := seen hG hS hb h0 hP hc hx
  intro j hj h8
  by_cases e : j = s.level
  · subst e
    refine ⟨s.pred, x, by rw [hp]; exact List.getElem?_set_self (by rw [hS.p8]; exact h8), by rw [hq]; exact List.getElem?_set_self (by rw [hS.s8]; exact h8), h2, by rw [hk]; exact h3, ?_, fun _ => k1⟩
    rcases k2 with k2 | ⟨k2, _⟩
    · exact .inl k2
    · right
      refine ⟨k2, ?_⟩
      rcases hx2 with hx2 | ⟨X, hX, hX2⟩
      · have := (hG.mn _ _ k2).2.1; omega
      · rw [nK_some hX, hk]
        exact hX2
  · obtain ⟨a, v, r1, r2, r3⟩ := h4 j (by omega) h8
    refine ⟨a, v, by rw [hp, List.getElem?_set_ne (by omega)]; exact r1, by rw [hq, List.getElem?_set_ne (by omega)]; exact r2, ?_⟩
    rw [hk]
    exact r3

theorem sop_pass (hG : Glob K hd m g) (hS : SopOk K w fl p m g s) (hb : s.begun = true) (h0 : s.does = 0) {P X : Nod} {c x : Nat} (hP : m.N[s.pred]? = some P) (hc : P.tower[s.level]? = some c) (hx : m.H[c]? = some x) (hx0 : 0 < x) (hX : m.N[x]? = some X) (hX2 : X.key < s.key) :
    SopOk K w fl (p - 1) m g { s with pred := x } ∧ 1 ≤ p := by
  obtain ⟨h1, h2, h3, h4, h5⟩ := hS.walk hb h0
  obtain ⟨k1, k2, k3⟩ := seen hG hS hb h0 hP hc hx
  rcases k2 with k2 | ⟨k2, k4⟩
  · omega
  have hr := rank_lt k4 (hG.mn _ _ k2).2.2.2.2
  refine ⟨⟨hS.key, hS.h0, hS.h8, hS.p8, hS.s8, hS.dx, fun e => absurd hb (by simp at e; rw [e]; simp), hS.ik, hS.lk, hS.own0, hS.own, fun _ _ => ⟨h1, .inr k2, ?_, h4, ?_⟩, fun e => absurd h0 e⟩, by omega⟩
  · show nK m.N x < s.key
    rw [nK_some hX]; exact hX2
  · show s.level + rank K (nK m.N x) + 25 + (s.height - s.linked) * 101 + (if fl = true then 0 else 100) ≤ p - 1
    omega

theorem sop_down (hG : Glob K hd m g) (hS : SopOk K w fl p m g s) (hb : s.begun = true) (h0 : s.does = 0) {P : Nod} {c x : Nat} (hP : m.N[s.pred]? = some P) (hc : P.tower[s.level]? = some c) (hx : m.H[c]? = some x) (hx2 : x = 0 ∨ ∃ X, m.N[x]? = some X ∧ ¬ X.key < s.key) (hl : 0 < s.level) :
    SopOk K w fl (p - 1) m g { s with preds := s.preds.set s.level s.pred, succs := s.succs.set s.level x, level := s.level - 1 } ∧ 1 ≤ p := by
  obtain ⟨h1, h2, h3, h4, h5⟩ := hS.walk hb h0
  have hr := rec_all hG hS hb h0 hP hc hx hx2 (s' := { s with preds := s.preds.set s.level s.pred, succs := s.succs.set s.level x, level := s.level - 1 }) rfl rfl rfl
  refine ⟨⟨hS.key, hS.h0, hS.h8, by simpa using hS.p8, by simpa using hS.s8, hS.dx, fun e => absurd hb (by simp at e; rw [e]; simp), hS.ik, hS.lk, hS.own0, fun ho => ?_, fun _ _ => ⟨(by show s.level - 1 < 8; omega), ?_, h3, fun j hj h8 => hr j (by simp at hj; omega) h8, ?_⟩, fun e => absurd h0 e⟩, by omega⟩
  · obtain ⟨y, q1, q2, q3, q3b, q4, q5, q6⟩ := hS.own ho
    exact ⟨y, q1, q2, q3, q3b, fun i hi => by obtain ⟨d, r1, r2, r3⟩ := q4 i hi; exact ⟨d, r1, r2, fun e => by simp at e; omega⟩, q5, q6⟩
  · rcases h2 with h2 | h2
    · exact .inl h2
    · right
      obtain ⟨l, hl2⟩ : ∃ l, s.level = l + 1 := ⟨s.level - 1, by omega⟩
      show g.M (s.level - 1) s.pred
      rw [hl2] at h2 ⊢
      exact hG.md _ _ h2
  · show (s.level - 1) + rank K (nK m.N s.pred) + 25 + (s.height - s.linked) * 101 + (if fl = true then 0 else 100) ≤ p - 1
    omega

theorem sop_fail (hG : Glob K hd m g) (hS : SopOk K w fl p m g s) (hK : K.length ≤ 40) (hb : s.begun = true) (h2 : s.does = 2) {P : Nod} {n c x v : Nat} (hn : s.preds[s.linked]? = some n) (hP : m.N[n]? = some P) (hc : P.tower[s.linked]? = some c) (hx : m.H[c]? = some x) (hv : s.succs[s.linked]? = some v) (hne : x ≠ v) :
    ∃ p', SopOk K w true p' m g s.again ∧ p' + 1 ≤ p := by
  obtain ⟨h3, h4, h5, h6⟩ := hS.lay (by omega)
  have hlk := hS.lk
  have hh8 := hS.h8
  obtain ⟨a, v', r1, r2, r3, r4, r5, r6⟩ := h4 s.linked (Nat.le_refl _) (by omega)
  obtain rfl := Option.some.inj (hn.symm.trans r1)
  obtain rfl := Option.some.inj (hv.symm.trans r2)
  have hfl : fl = false := by
    cases fl with
    | false => rfl
    | true =>
      have := r6 rfl
      rw [hG.nx_at hP hc hx] at this
      exact absurd (Option.some.inj this) hne
  rw [hfl, if_neg (by omega), if_neg (by simp)] at h6
  have hr := rank_le K (nK m.N 0)
  refine ⟨72 + (s.height - s.linked) * 101, ⟨hS.key, hS.h0, hS.h8, hS.p8, hS.s8, (by simp [Sop.again]), fun e => absurd hb (by simp [Sop.again] at e; rw [e]; simp), hS.ik, hS.lk, hS.own0, fun ho => ?_, fun _ _ => ⟨(by simp [Sop.again]), .inl rfl, ?_, fun j hj h8 => ?_, ?_⟩, fun e => absurd rfl e⟩, by omega⟩
  · obtain ⟨y, q1, q2, q3, q3b, q4, q5, q6⟩ := hS.own ho
    exact ⟨y, q1, q2, q3, q3b, fun i hi => by obtain ⟨d, r1, r2, r3⟩ := q4 i hi; exact ⟨d, r1, r2, fun e => by simp [Sop.again] at e⟩, q5, q6⟩
  · show nK m.N 0 < s.key
    rw [hG.n0.1]
    exact nil_lt (hS.ik hb)
  · simp [Sop.again] at hj; omega
  · show 7 + rank K (nK m.N 0) + 25 + (s.height - s.linked) * 101 + (if true = true then 0 else 100) ≤ 72 + (s.height - s.linked) * 101
    simp
    omega

theorem sop_lay (hG : Glob K hd m g) (hS : SopOk K w fl p m g s) (hb : s.begun = true) (h1 : s.does = 1) {y : Nod} {c v : Nat} (hy : m.N[s.own]? = some y) (hc : y.tower[s.linked]? = some c) (hv : s.succs[s.linked]? = some v) :
    SopAfter K hd w p m g s { m with H := m.H.set c v } { s with does := 2 } false := by
  obtain ⟨h3, h4, h5, h6⟩ := hS.lay (by omega)
  have hlk := hS.lk
  have hh8 := hS.h8
  obtain ⟨y', q1, q2, q3, q3b, q4, q5, q6⟩ := hS.own h3
  rw [hy] at q1
  obtain rfl := Option.some.inj q1
  obtain ⟨c', k1, k2, _⟩ := q4 s.linked hlk
  obtain rfl := Option.some.inj (hc.symm.trans k1)
  have k2 := k2 (Nat.le_refl _)
  have hcl := hG.lt _ (hG.ol c (by rw [k2]; exact fun e => by cases e))
  have hH : ∀ d, d ≠ c → (m.H.set c v)[d]? = m.H[d]? := fun d hd => List.getElem?_set_ne fun e => hd e.symm
  obtain ⟨e1, e2⟩ := quiet_step (w := w) (m' := { m with H := m.H.set c v }) (g' := g) hG (fun _ _ h => h) (fun _ _ h => h) (fun d X h h' => by
      refine ⟨h, hH d fun ec => ?_⟩
      rw [ec, k2] at h
      obtain rfl := Option.some.inj h
      simp [Own.mine] at h') rfl rfl hG.ol (fun d hd => by
      show d < (m.H.set c v).length
      rw [List.length_set]; exact hG.lt d hd)
  rw [if_pos h1] at h6
  refine ⟨false, g, fl, p - 1, e1, e2, fun _ => ⟨hS.key, hS.h0, hS.h8, hS.p8, hS.s8, (by simp), fun e => absurd hb (by simp at e; rw [e]; simp), hS.ik, hS.lk, hS.own0, fun ho => ?_, fun _ e => (by simp at e), fun _ => ⟨h3, fun j hj h8 => ?_, h5, ?_⟩⟩, fun e => (by cases e), (by simp; omega), Nat.le_refl _, Nat.le_refl _, rfl⟩
  · refine ⟨y, hy, q2, q3, q3b, fun i hi => ?_, q5, q6⟩
    obtain ⟨d, r1, r2, _⟩ := q4 i hi
    refine ⟨d, r1, r2, fun _ ei => ?_⟩
    have ei : i = s.linked := ei
    subst ei
    obtain rfl := Option.some.inj (hc.symm.trans r1)
    exact (List.getElem?_set_self hcl).trans hv.symm
  · have hr := rec_stable h8 hG (h4 j hj h8) e1
    rw [show (fl && !false) = fl from by simp] at hr
    exact hr
  · show 2 * (s.height - s.linked) + (if (2 : Nat) = 1 then 1 else 0) + (s.height - s.linked) * 101 + (if fl = true then 0 else 100) ≤ p - 1
    rw [if_neg (by omega)]
    omega
end
end Go.Proofs.YtfolchpjccjadaaDoor
/- The plain machine: an Insert into the skip list comes to where its key stands, or would. -/
namespace Go.Proofs.YtfolchpjccjadaaDoor
open Go.RowKit
set_option linter.unusedVariables false

section
variable {K : List (List UInt8)} {hd : List Nat} {w : Nat} {fl : Bool} {p : Nat} {m : PM} {g : Gh} {s : Sop}
theorem sop_arr (hG : Glob K hd m g) (hS : SopOk K w fl p m g s) (hb : s.begun = true) (h0 : s.does = 0) (hl0 : s.level = 0) {P : Nod} {c n : Nat} (hP : m.N[s.pred]? = some P) (hc : P.tower[s.level]? = some c) (hx : m.H[c]? = some n) (hx2 : n = 0 ∨ ∃ X, m.N[n]? = some X ∧ ¬ X.key < s.key)
    {s1 s' : Sop} (hs1 : s1 = { s with preds := s.preds.set s.level s.pred, succs := s.succs.set s.level n }) {H' L' : List Nat} {N' : List Nod} {d : Bool} (hA : Arr m.H m.L m.N s1 n H' L' N' s' d) :
    SopAfter K hd w p m g s { m with H := H', L := L', N := N' } s' d := by
  obtain ⟨h1, h2, h3, h4, h5⟩ := hS.walk hb h0
  obtain ⟨k1, k2, k3⟩ := seen hG hS hb h0 hP hc hx
  have hr := rec_all hG hS hb h0 hP hc hx hx2 (s' := s1) (by rw [hs1]) (by rw [hs1]) (by rw [hs1])
  rw [hl0] at hr k2
  have hM : 0 < n → g.M 0 n := fun h => by
    rcases k2 with k2 | ⟨k2, _⟩
    · omega
    · exact k2
  have hlk := hS.lk
  have hh8 := hS.h8
  have hik := hS.ik hb
  have hsc : s1.succs[0]? = some n := by
    rw [hs1, hl0]
    exact List.getElem?_set_self (by rw [hS.s8]; omega)
  -- one who has a node of its own, and no level of it linked, sees no node of its key
  have hlin : ∀ x : Nod, 0 < n → m.N[n]? = some x → x.key = s.key → n ≠ s.own → s.linked = 0 := by
    intro x hn hxx hxk hne
    rcases Nat.eq_zero_or_pos s.own with ho | ho
    · exact hS.own0 ho
    · obtain ⟨y, q1, q2, q3, q3b, q4, q5, q6⟩ := hS.own ho
      apply Nat.eq_zero_of_not_pos
      intro hl
      exact hne (hG.same_key (i := 0) (j := 0) (.inr (hM hn)) (.inr (q5 0 hl)) (by rw [nK_some hxx, nK_some q1, hxk, q2]))
  have hafter : ∀ (fl' : Bool) (p' : Nat) (m' : PM) (g' : Gh) (o : Nat), (∀ j, j < 8 → Rec m' g' fl' s1 j) → (0 < o → s.own = o ∨ s.linked = 0) → 0 < o → (s.linked = 0 → n = 0 ∨ s.key < nK m'.N n) →
      (∃ y, m'.N[o]? = some y ∧ y.key = s.key ∧ y.height = s.height ∧ y.tower.length = 8 ∧ (∀ i, i < s.height → ∃ c, y.tower[i]? = some c ∧ (s.linked ≤ i → g'.ow c = some (.mineT w i))) ∧ (∀ i, i < s.linked → g'.M i o) ∧ (∀ i, s.linked ≤ i → i < s.height → ¬ g'.M i o)) →
      2 * (s.height - s.linked) + 1 + (s.height - s.linked) * 101 + (if fl' = true then 0 else 100) ≤ p' → SopOk K w fl' p' m' g' { s1 with own := o, does := 1 } := by
    intro fl' p' m' g' o hr' ho ho2 hk' hy hp'
    subst hs1
    refine ⟨hS.key, hS.h0, hS.h8, by simpa using hS.p8, by simpa using hS.s8, (by simp), fun e => absurd hb (by simp at e; rw [e]; simp), fun _ => hik, hlk, fun e => absurd ho2 (by simp at e; omega), fun _ => ?_, fun _ e => (by simp at e), fun _ => ⟨ho2, fun j _ h8 => hr' j h8, fun hl v hv => ?_, ?_⟩⟩
    · obtain ⟨y, q1, q2, q3, q3b, q4, q5, q6⟩ := hy
      exact ⟨y, q1, q2, q3, q3b, fun i hi => by obtain ⟨d, r1, r2⟩ := q4 i hi; exact ⟨d, r1, r2, fun e => by simp at e⟩, q5, q6⟩
    · obtain rfl : n = v := Option.some.inj (hsc.symm.trans hv)
      exact hk' hl
    · show 2 * (s.height - s.linked) + (if (1 : Nat) = 1 then 1 else 0) + (s.height - s.linked) * 101 + (if fl' = true then 0 else 100) ≤ p'
      rw [if_pos rfl]
      exact hp'
  have hpot : 2 * (s.height - s.linked) + 1 + (s.height - s.linked) * 101 + (if fl = true then 0 else 100) ≤ p - 1 := by omega
  have hkey : (n = 0 ∨ ∃ x, m.N[n]? = some x ∧ x.key ≠ s.key) → n = 0 ∨ s.key < nK m.N n := by
    rintro (h | ⟨x, q1, q2⟩)
    · exact .inl h
    · rcases hx2 with hx2 | ⟨X, r1, r2⟩
      · exact .inl hx2
      · right
        rw [q1] at r1
        obtain rfl := Option.some.inj r1
        rw [nK_some q1]
        exact key_tri r2 q2
  cases hA with
  | hit0 x e1 e2 e3 e4 e5 =>
    refine ⟨false, g, fl, 0, Eff.refl _ _ _, hG, fun e => (by cases e), fun _ _ => ⟨n, hM e1, (nK_some e2).trans (by rw [e3, hs1])⟩, (by simp; omega), by rw [hs1]; exact Nat.le_refl _, by rw [hs1]; exact Nat.le_refl _, by rw [hs1]⟩
  | hit1 x y e1 e2 e3 e4 e5 e6 =>
    have hk1 : s1.key = s.key := by rw [hs1]
    have ho1 : s1.own = s.own := by rw [hs1]
    rw [ho1] at e4 e5 e6
    rw [hk1] at e3
    have hl := hlin x e1 e2 e3 e4
    obtain ⟨y', q1, q2, q3, q3b, q4, q5, q6⟩ := hS.own e5
    rw [e6] at q1
    obtain rfl := Option.some.inj q1
    have hmine : ∀ c, c ∈ y.tower.take y.height → ∃ i, g.ow c = some (.mineT w i) := by
      intro c hc
      obtain ⟨i, hi⟩ := List.getElem?_of_mem hc
      rw [List.getElem?_take] at hi
      split at hi
      · rename_i hih
        rw [q3] at hih
        obtain ⟨c', r1, r2, _⟩ := q4 i hih
        obtain rfl := Option.some.inj (hi.symm.trans r1)
        exact ⟨i, r2 (by omega)⟩
      · cases hi
    obtain ⟨f1, f2⟩ := quiet_step (w := w) (m' := { m with L := (y.tower.take y.height).foldl List.erase m.L }) (g' := { g with ow := fun c => if c ∈ y.tower.take y.height then none else g.ow c }) hG (fun _ _ h => h) (fun _ _ h => h) (fun c X h h' => by
        refine ⟨?_, rfl⟩
        rw [← h]
        refine if_neg fun hc => ?_
        obtain ⟨i, hi⟩ := hmine c hc
        rw [hi] at h
        obtain rfl := Option.some.inj h
        simp [Own.mine] at h') rfl rfl (fun c hc => by
        by_cases hm : c ∈ y.tower.take y.height
        · exact absurd (if_pos hm) hc
        · refine erase_all_mem (hG.ol c ?_) hm
          intro e
          exact hc ((if_neg hm).trans e)) (fun c hc => hG.lt c (mem_of_erase_all hc))
    refine ⟨false, _, fl, 0, f1, f2, fun e => (by cases e), fun _ _ => ⟨n, hM e1, (nK_some e2).trans e3⟩, (by simp; omega), ?_, ?_, hk1⟩
    · show (List.foldl List.erase m.L (y.tower.take y.height)).length + 8 * c1 s1.own ≤ m.L.length + 8 * c1 s.own
      have := erase_all_len (y.tower.take y.height) m.L
      rw [ho1]
      omega
    · show m.N.length + c1 s1.own ≤ m.N.length + c1 s.own
      rw [ho1]
      exact Nat.le_refl _
  | @make cs _ _ e1 e2 e3 =>
    have hk1 : s1.key = s.key := by rw [hs1]
    have ho1 : s1.own = s.own := by rw [hs1]
    have hh1 : s1.height = s.height := by rw [hs1]
    rw [ho1] at e2
    rw [hh1] at e3
    have hl := hS.own0 e2
    obtain ⟨r0, r1, ow', r2, r3, r4, r5⟩ := e3.owns w (fun c hc => hG.ol c hc) hG.lt
    obtain ⟨Y, hY⟩ : ∃ Y : Nod, Y = ⟨s1.key, cs ++ List.replicate (8 - s1.height) 0, s1.height⟩ := ⟨_, rfl⟩
    rw [← hY]
    obtain ⟨f1, f2⟩ := quiet_step (w := w) (m' := { m with H := H', L := L', N := m.N ++ [Y] }) (g' := { g with ow := ow' }) hG (fun _ _ h => h) (fun _ _ h => ext_get _ h) (fun c X h _ => r2 c X h) rfl rfl r4 r5
    have hY1 : Y.key = s.key := by rw [hY, ← hk1]
    have hY2 : Y.height = s.height := by rw [hY, ← hh1]
    have hget : ({ m with H := H', L := L', N := m.N ++ [Y] } : PM).N[m.N.length]? = some Y := by simp
    refine ⟨false, _, fl, p - 1, f1, f2, fun _ => ?_, fun e => (by cases e), (by simp; omega), ?_, ?_, hk1⟩
    · refine hafter fl (p - 1) _ _ m.N.length (fun j h8 => ?_) (fun _ => .inr hl) hG.n0.2 (fun _ => ?_) ⟨Y, hget, hY1, hY2, ?_, fun i hi => ?_, fun i hi => absurd hi (by omega), fun i _ _ hm => ?_⟩ hpot
      · have hr2 := rec_stable h8 hG (hr j (by omega) h8) f1
        rw [show (fl && !false) = fl from by simp] at hr2
        exact hr2
      · rcases hkey (by rw [← hk1]; exact e1) with h | h
        · exact .inl h
        · rcases Nat.eq_zero_or_pos n with h' | h'
          · exact .inl h'
          · right
            rw [f1.nk (hG.nlt (.inr (hM h')))]
            exact h
      · rw [hY, hh1]
        simp [r0]
        omega
      · obtain ⟨c', u1, u2⟩ := r3 i hi
        exact ⟨c', by rw [hY]; exact ext_get _ u1, fun _ => u2⟩
      · have := (hG.mn _ _ hm).2.2.1
        omega
    · show L'.length + 8 * c1 m.N.length ≤ m.L.length + 8 * c1 s.own
      have h0 := hG.n0.2
      have u0 : c1 m.N.length = 0 := if_neg (by omega)
      have u1 : c1 s.own = 1 := if_pos e2
      rw [r1, u0, u1]
      omega
    · show (m.N ++ [Y]).length + c1 m.N.length ≤ m.N.length + c1 s.own
      have h0 := hG.n0.2
      have u0 : c1 m.N.length = 0 := if_neg (by omega)
      have u1 : c1 s.own = 1 := if_pos e2
      rw [u0, u1, List.length_append]
      exact Nat.le_refl _
  | keep e1 e2 =>
    have hk1 : s1.key = s.key := by rw [hs1]
    have ho1 : s1.own = s.own := by rw [hs1]
    rw [ho1] at e1 e2
    rw [hk1] at e1
    obtain ⟨y, q1, q2, q3, q3b, q4, q5, q6⟩ := hS.own e2
    refine ⟨false, g, fl, p - 1, Eff.refl _ _ _, hG, fun _ => ?_, fun e => (by cases e), (by simp; omega), by rw [hs1]; exact Nat.le_refl _, by rw [hs1]; exact Nat.le_refl _, hk1⟩
    have := hafter fl (p - 1) m g s.own (fun j h8 => hr j (by omega) h8) (fun _ => .inl rfl) e2 (fun hl => ?_) ⟨y, q1, q2, q3, q3b, fun i hi => by obtain ⟨d, u1, u2, _⟩ := q4 i hi; exact ⟨d, u1, u2⟩, q5, q6⟩ hpot
    · rw [← ho1] at this
      exact this
    · rcases e1 with h | h | h
      · exact .inl h
      · rcases Nat.eq_zero_or_pos n with h' | h'
        · exact .inl h'
        · have := hM h'
          rw [h] at this
          exact absurd this (q6 0 (by omega) hS.h0)
      · exact hkey (.inr h)
end
end Go.Proofs.YtfolchpjccjadaaDoor
/- The plain machine: a level of a node is linked; a step of an Insert into the skip list, whole. -/
namespace Go.Proofs.YtfolchpjccjadaaDoor
open Go.RowKit
set_option linter.unusedVariables false

section
variable {K : List (List UInt8)} {hd : List Nat} {w : Nat} {fl : Bool} {p : Nat} {m : PM} {g : Gh} {s : Sop}
theorem sop_link (hG : Glob K hd m g) (hS : SopOk K w fl p m g s) (hb : s.begun = true) (h2 : s.does = 2) {P : Nod} {a c v : Nat} (hn : s.preds[s.linked]? = some a) (hP : m.N[a]? = some P) (hc : P.tower[s.linked]? = some c) (hx : m.H[c]? = some v) (hv : s.succs[s.linked]? = some v)
    {s' : Sop} {d : Bool} (hs' : (s.linked + 1 ≠ s.height ∧ s' = { s with linked := s.linked + 1, does := 1 } ∧ d = false) ∨ (s.linked + 1 = s.height ∧ s' = { s with linked := s.linked + 1, does := 3 } ∧ d = true)) :
    SopAfter K hd w p m g s { m with H := m.H.set c s.own } s' d := by
  obtain ⟨h3, h4, h5, h6⟩ := hS.lay (by omega)
  have hlk := hS.lk
  have hh8 := hS.h8
  have hik := hS.ik hb
  obtain ⟨i, hi⟩ : ∃ i, i = s.linked := ⟨_, rfl⟩
  rw [← hi] at hn hc hv hlk h4 hs'
  have hi8 : i < 8 := by omega
  obtain ⟨a', v', r1, r2, r3, r4, r5, r6⟩ := h4 i (Nat.le_refl _) hi8
  obtain rfl := Option.some.inj (hn.symm.trans r1)
  obtain rfl := Option.some.inj (hv.symm.trans r2)
  obtain ⟨y, q1, q2, q3, q3b, q4, q5, q6⟩ := hS.own h3
  obtain ⟨cy, y1, y2, y3⟩ := q4 i hlk
  have y2 := y2 (by omega)
  have y3 := y3 h2 hi
  have hyK : nK m.N s.own = s.key := (nK_some q1).trans q2
  have hown := (List.getElem?_eq_some_iff.1 q1).1
  -- whose the cell is
  obtain ⟨c', t1, t2⟩ := hG.nt i a hi8 r3
  rw [tc_some hP, hc] at t1
  obtain rfl := Option.some.inj t1
  have hcl := hG.lt _ (hG.ol c (by rw [t2]; exact fun e => by cases e))
  have hcc : cy ≠ c := fun e => by rw [e, t2] at y2; cases y2
  have hnx := hG.nx_at hP hc hx
  obtain ⟨u, u1, u2, u3⟩ := hG.mx i a hi8 r3
  obtain rfl := Option.some.inj (hnx.symm.trans u1)
  have hnew : ¬ g.M i s.own := q6 i (by omega) hlk
  -- what comes behind is above the key
  have hvs : v = 0 ∨ g.M i v ∧ s.key < nK m.N v := by
    rcases r5 with r5 | ⟨r5, r7⟩
    · exact .inl r5
    · right
      refine ⟨r5, key_tri r7 fun e => ?_⟩
      rcases Nat.eq_zero_or_pos s.linked with hl | hl
      · rcases h5 hl v (by rw [hi, hl] at hv; exact hv) with h | h
        · have := (hG.mn _ _ r5).2.1; omega
        · rw [e] at h; exact List.lt_irrefl _ h
      · have := hG.same_key (i := i) (j := 0) (.inr r5) (.inr (q5 0 hl)) (by rw [hyK, e])
        rw [this] at r5
        exact hnew r5
  -- nobody at this level has the key
  have hnone : ∀ k, g.M i k → nK m.N k ≠ s.key := fun k hk e => by
    obtain ⟨b1, b2⟩ := u3 k hk (by rw [e]; exact r4)
    rcases hvs with hvs | ⟨_, hvs⟩
    · exact b1 hvs
    · rw [e] at b2; exact b2 hvs
  obtain ⟨g', hg'⟩ : ∃ g' : Gh, g' = { C := g.C, M := fun j n => g.M j n ∨ (j = i ∧ n = s.own), ow := up g.ow cy (some (.tower s.own i)) } := ⟨_, rfl⟩
  obtain ⟨m', hm'⟩ : ∃ m' : PM, m' = { m with H := m.H.set c s.own } := ⟨_, rfl⟩
  have hH : ∀ k, k ≠ c → m'.H[k]? = m.H[k]? := fun k hk => by rw [hm']; exact List.getElem?_set_ne fun e => hk e.symm
  have hHc : m'.H[c]? = some s.own := by rw [hm']; exact List.getElem?_set_self hcl
  have hE : m'.E = m.E := by rw [hm']
  have hN : m'.N = m.N := by rw [hm']
  have hL : m'.L = m.L := by rw [hm']
  have hM : ∀ j n, g'.M j n ↔ g.M j n ∨ (j = i ∧ n = s.own) := fun j n => by rw [hg']
  have hC : g'.C = g.C := by rw [hg']
  have how : ∀ k X, g.ow k = some X → X.mine w = false → g'.ow k = some X := fun k X h h' => by
    rw [hg']
    refine (up_ne fun e => ?_).trans h
    rw [e, y2] at h
    obtain rfl := Option.some.inj h
    simp [Own.mine] at h'
  have howi : ∀ j k, j ≠ i → g.ow k = some (.mineT w j) → g'.ow k = some (.mineT w j) := fun j k hj h => by
    rw [hg']
    refine (up_ne fun e => ?_).trans h
    rw [e, y2] at h
    injection h with h
    injection h with _ h
    exact hj h.symm
  have hcy : g'.ow cy = some (.tower s.own i) := by rw [hg']; exact up_same _ _ _
  have hF : Eff w true m g m' g' := ⟨fun _ _ h => by rw [hE]; exact h, fun _ _ h => by rw [hN]; exact h, fun k => by rw [hC]; exact List.suffix_refl _, fun j n h => (hM j n).2 (.inl h), how, fun k X h h' hp => by
      refine hH k fun e => ?_
      rw [e, t2] at h
      obtain rfl := Option.some.inj h
      exact absurd (hp rfl) (by simp), fun e => (by cases e), fun e => (by cases e), fun j n h h' => by
      rcases (hM j n).1 h with h | ⟨rfl, rfl⟩
      · exact absurd h h'
      · exact ⟨cy, by rw [tc_some q1]; exact y1, y2⟩⟩
  obtain ⟨s1, s2, s3, s4⟩ := hash_part (m' := m') (g' := g') hG hE hC (fun k X h hX => by
    refine ⟨how _ _ h ?_, hH k fun e => ?_⟩
    · rcases hX with ⟨b, rfl⟩ | ⟨b, rfl⟩ <;> rfl
    · rw [e, t2] at h
      obtain rfl := Option.some.inj h
      rcases hX with ⟨b, hX⟩ | ⟨b, hX⟩ <;> cases hX)
  have hmem : ∀ {j n : Nat}, n = 0 ∨ g.M j n → n ≠ s.own ∨ j ≠ i := fun {j n} h => by
    rcases Classical.em (j = i) with rfl | hj
    · left
      intro e
      rcases h with h | h
      · omega
      · rw [e] at h; exact hnew h
    · exact .inr hj
  -- the other cells of towers
  have hother : ∀ j n, j < 8 → (n = 0 ∨ g.M j n) → (j ≠ i ∨ n ≠ a) → nx m'.H m'.N j n = nx m.H m.N j n := fun j n hj h hne => by
    obtain ⟨k, k1, k2⟩ := hG.nt j n hj h
    unfold nx
    rw [hN, k1]
    refine hH k fun e => ?_
    rw [e, t2] at k2
    injection k2 with k2
    injection k2 with k3 k4
    rcases hne with hne | hne
    · exact hne k4.symm
    · exact hne k3.symm
  have hG' : Glob K hd m' g' := by
    refine ⟨fun k hk => ?_, fun k hk => ?_, s1, s2, s3, s4, by rw [hN]; exact hG.n0, fun j n hj h => ?_, fun j n h => ?_, fun j n h => ?_, fun n n' h h' e => ?_, fun j n hj h => ?_⟩
    · rw [hL]
      by_cases e : k = cy
      · rw [e]; exact hG.ol _ (by rw [y2]; exact fun e => by cases e)
      · refine hG.ol k ?_
        have : g'.ow k = g.ow k := by rw [hg']; exact up_ne e
        rw [← this]; exact hk
    · rw [hL] at hk
      rw [hm']
      show k < (m.H.set c s.own).length
      rw [List.length_set]
      exact hG.lt k hk
    · rw [hN]
      have hold : (n = 0 ∨ g.M j n) → ∃ c, tc m.N n j = some c ∧ g'.ow c = some (.tower n j) := fun h => by
        obtain ⟨k, k1, k2⟩ := hG.nt j n hj h
        exact ⟨k, k1, how _ _ k2 rfl⟩
      rcases h with h | h
      · exact hold (.inl h)
      · rcases (hM j n).1 h with h | ⟨rfl, rfl⟩
        · exact hold (.inr h)
        · exact ⟨cy, by rw [tc_some q1]; exact y1, hcy⟩
    · rw [hN]
      rcases (hM j n).1 h with h | ⟨rfl, rfl⟩
      · exact hG.mn j n h
      · exact ⟨hi8, h3, hown, by rw [hyK]; exact hik, by rw [hyK]; exact hS.key⟩
    · rcases (hM (j + 1) n).1 h with h | ⟨e1, rfl⟩
      · exact (hM j n).2 (.inl (hG.md j n h))
      · exact (hM j _).2 (.inl (q5 j (by omega)))
    · rw [hN] at e
      rcases (hM 0 n).1 h with h | ⟨e1, rfl⟩ <;> rcases (hM 0 n').1 h' with h' | ⟨e2, rfl⟩
      · exact hG.mj n n' h h' e
      · subst e2
        rw [hyK] at e
        exact absurd e (hnone n h)
      · subst e1
        rw [hyK] at e
        exact absurd e.symm (hnone n' h')
      · rfl
    · rcases Classical.em (j = i) with rfl | hji
      · rw [hN]
        rcases Classical.em (n = s.own) with rfl | hno
        · -- behind the new node
          refine ⟨v, ?_, ?_, fun k hk hlt => ?_⟩
          · unfold nx
            rw [tc_some q1, y1]
            exact (hH _ hcc).trans (y3.trans hv)
          · rw [hyK]
            rcases hvs with h | ⟨h, h'⟩
            · exact .inl h
            · exact .inr ⟨(hM _ _).2 (.inl h), h'⟩
          · rw [hyK] at hlt
            rcases (hM _ _).1 hk with hk | ⟨_, rfl⟩
            · exact u3 k hk (List.lt_trans r4 hlt)
            · rw [hyK] at hlt; exact absurd hlt (List.lt_irrefl _)
        · have hold : n = 0 ∨ g.M j n := by
            rcases h with h | h
            · exact .inl h
            · rcases (hM _ _).1 h with h | ⟨_, h⟩
              · exact .inr h
              · exact absurd h hno
          rcases Classical.em (n = a) with rfl | hna
          · -- ahead of the new node
            refine ⟨s.own, ?_, .inr ⟨(hM _ _).2 (.inr ⟨rfl, rfl⟩), by rw [hyK]; exact r4⟩, fun k hk hlt => ⟨by omega, ?_⟩⟩
            · unfold nx
              rw [tc_some hP, hc]
              exact hHc
            · rw [hyK]
              intro hlt2
              rcases (hM _ _).1 hk with hk | ⟨_, rfl⟩
              · obtain ⟨b1, b2⟩ := u3 k hk hlt
                rcases hvs with hvs | ⟨_, hvs⟩
                · exact b1 hvs
                · exact b2 (List.lt_trans hlt2 hvs)
              · rw [hyK] at hlt2; exact List.lt_irrefl _ hlt2
          · obtain ⟨z, z1, z2, z3⟩ := hG.mx j n hj hold
            refine ⟨z, ?_, ?_, fun k hk hlt => ?_⟩
            · have := hother j n hj hold (.inr hna)
              rw [hN] at this
              rw [this]
              exact z1
            · rcases z2 with z2 | ⟨z2, z4⟩
              · exact .inl z2
              · exact .inr ⟨(hM _ _).2 (.inl z2), z4⟩
            · rcases (hM _ _).1 hk with hk | ⟨_, rfl⟩
              · exact z3 k hk hlt
              · rw [hyK] at hlt ⊢
                rcases Classical.em (nK m.N n < nK m.N a) with hlta | hlta
                · have ha : g.M j a := by
                    rcases r3 with r3 | r3
                    · rw [r3, hG.n0.1] at hlta; exact absurd hlta (not_lt_nil _)
                    · exact r3
                  obtain ⟨b1, b2⟩ := z3 a ha hlta
                  refine ⟨b1, fun hlt2 => b2 (List.lt_trans r4 hlt2)⟩
                · have hlt3 : nK m.N a < nK m.N n := key_tri hlta fun e => hna (hG.same_key hold r3 e)
                  have hn' : g.M j n := by
                    rcases hold with h | h
                    · rw [h, hG.n0.1] at hlt3; exact absurd hlt3 (not_lt_nil _)
                    · exact h
                  obtain ⟨b1, b2⟩ := u3 n hn' hlt3
                  rcases hvs with hvs | ⟨_, hvs⟩
                  · exact absurd hvs b1
                  · exact absurd (List.lt_trans hlt hvs) b2
      · have hMj : ∀ n, g'.M j n ↔ g.M j n := fun n => by
          rw [hM]
          exact ⟨fun h => h.elim id fun h => absurd h.1 hji, .inl⟩
        rw [hMj] at h
        obtain ⟨z, z1, z2, z3⟩ := hG.mx j n hj h
        refine ⟨z, (hother j n hj h (.inl hji)).trans z1, by rw [hN, hMj]; exact z2, fun k hk => ?_⟩
        rw [hMj] at hk
        rw [hN]
        exact z3 k hk
  have hrec : ∀ j, i + 1 ≤ j → j < 8 → Rec m' g' fl s' j := fun j hj h8 => by
    obtain ⟨b, z, z1, z2, z3, z4, z5, z6⟩ := h4 j (by omega) h8
    have e1 : s'.preds = s.preds ∧ s'.succs = s.succs ∧ s'.key = s.key := by rcases hs' with ⟨_, rfl, _⟩ | ⟨_, rfl, _⟩ <;> exact ⟨rfl, rfl, rfl⟩
    unfold Rec
    rw [e1.1, e1.2.1, e1.2.2]
    refine ⟨b, z, z1, z2, z3.imp id fun h => (hM _ _).2 (.inl h), by rw [hN]; exact z4, ?_, fun hf => ?_⟩
    · rcases z5 with z5 | ⟨z5, z7⟩
      · exact .inl z5
      · exact .inr ⟨(hM _ _).2 (.inl z5), by rw [hN]; exact z7⟩
    · rw [hother j b h8 z3 (.inl (by omega))]
      exact z6 hf
  have hown0 : s'.own = s.own ∧ s'.key = s.key := by rcases hs' with ⟨_, rfl, _⟩ | ⟨_, rfl, _⟩ <;> exact ⟨rfl, rfl⟩
  have hsub : s.height - s.linked = (s.height - (i + 1)) + 1 := by omega
  rw [if_neg (by omega), hsub] at h6
  rw [← hm']
  refine ⟨true, g', fl, p - 101, hF, hG', fun e => ?_, fun e _ => ⟨s.own, ?_, by rw [hN]; exact hyK⟩, by rw [if_pos rfl]; omega, by rw [hL, hown0.1]; exact Nat.le_refl _, by rw [hN, hown0.1]; exact Nat.le_refl _, hown0.2⟩
  · rcases hs' with ⟨hne, rfl, _⟩ | ⟨_, _, rfl⟩
    · refine ⟨hS.key, hS.h0, hS.h8, hS.p8, hS.s8, (by simp), fun e => absurd hb (by simp at e; rw [e]; simp), hS.ik, ?_, fun e => absurd h3 (by simp at e; omega), fun _ => ?_, fun _ e => (by simp at e), fun _ => ⟨h3, hrec, fun e => (by simp at e), ?_⟩⟩
      · show i + 1 < s.height
        omega
      · refine ⟨y, by rw [hN]; exact q1, q2, q3, q3b, fun j hj => ?_, fun j hj => ?_, fun j hj hj2 => ?_⟩
        · obtain ⟨k, k1, k2, _⟩ := q4 j hj
          refine ⟨k, k1, fun hl => howi _ _ ?_ (k2 ?_), fun e => (by simp at e)⟩
          · have : i + 1 ≤ j := hl
            omega
          · have : i + 1 ≤ j := hl
            omega
        · have hj : j < i + 1 := hj
          rcases Classical.em (j = i) with rfl | hji
          · exact (hM _ _).2 (.inr ⟨rfl, rfl⟩)
          · exact (hM _ _).2 (.inl (q5 j (by omega)))
        · have hj : i + 1 ≤ j := hj
          intro h
          rcases (hM _ _).1 h with h | ⟨h, _⟩
          · exact q6 j (by omega) hj2 h
          · omega
      · show 2 * (s.height - (i + 1)) + (if (1 : Nat) = 1 then 1 else 0) + (s.height - (i + 1)) * 101 + (if fl = true then 0 else 100) ≤ p - 101
        rw [if_pos rfl]
        omega
    · cases e
  · rcases Nat.eq_zero_or_pos i with h0 | h0
    · exact (hM _ _).2 (.inr ⟨h0.symm, rfl⟩)
    · exact (hM _ _).2 (.inl (q5 0 (by omega)))

theorem sop_step {s' : Sop} {H' L' : List Nat} {N' : List Nod} {d : Bool} (hG : Glob K hd m g) (hS : SopOk K w fl p m g s) (hK : K.length ≤ 40) (hst : SStep m.H m.L m.N s H' L' N' s' d) :
    SopAfter K hd w p m g s { m with H := H', L := L', N := N' } s' d := by
  obtain ⟨z1, z2, z3, z4, z5, z6, z7⟩ := start_same s
  cases hst with
  | refuse h0 hk =>
    refine ⟨false, g, fl, 0, Eff.refl _ _ _, hG, fun e => (by cases e), fun _ h => absurd h (by rw [hk]; simp), ?_, Nat.le_refl _, Nat.le_refl _, rfl⟩
    have := (hS.nob h0).2.2
    simp; omega
  | pass P X c x hb h0 hP hc hx hx0 hX hX2 =>
    obtain ⟨fl', p', hp, hS'⟩ := sop_start hG hS hK hb
    obtain ⟨h1, h2⟩ := sop_pass hG hS' z7 h0 hP hc hx hx0 hX (by rw [z1]; exact hX2)
    refine ⟨false, g, fl', p' - 1, Eff.refl _ _ _, hG, fun _ => h1, fun e => (by cases e), (by simp; omega), ?_, ?_, z1⟩
    · show m.L.length + 8 * c1 s.start.own ≤ _
      rw [z5]; exact Nat.le_refl _
    · show m.N.length + c1 s.start.own ≤ _
      rw [z5]; exact Nat.le_refl _
  | down P c x hb h0 hP hc hx hx2 hl =>
    obtain ⟨fl', p', hp, hS'⟩ := sop_start hG hS hK hb
    obtain ⟨h1, h2⟩ := sop_down hG hS' z7 h0 hP hc hx (by rw [z1]; exact hx2) hl
    refine ⟨false, g, fl', p' - 1, Eff.refl _ _ _, hG, fun _ => ?_, fun e => (by cases e), (by simp; omega), ?_, ?_, z1⟩
    · rw [z3, z4] at h1
      exact h1
    · show m.L.length + 8 * c1 s.start.own ≤ _
      rw [z5]; exact Nat.le_refl _
    · show m.N.length + c1 s.start.own ≤ _
      rw [z5]; exact Nat.le_refl _
  | arrive P c x hb h0 hP hc hx hx2 hl hA => exact sop_arr hG hS hb h0 hl hP hc hx hx2 rfl hA
  | lay y c v hb h1 hy hc hv => exact sop_lay hG hS hb h1 hy hc hv
  | fail P n c x v hb h2 hn hP hc hx hv hne =>
    obtain ⟨p', h1, h2⟩ := sop_fail hG hS hK hb h2 hn hP hc hx hv hne
    exact ⟨false, g, true, p', Eff.refl _ _ _, hG, fun _ => h1, fun e => (by cases e), (by simp; omega), Nat.le_refl _, Nat.le_refl _, rfl⟩
  | more P n c v hb h2 hn hP hc hx hv hne => exact sop_link hG hS hb h2 hn hP hc hx hv (.inl ⟨hne, rfl, rfl⟩)
  | last P n c v hb h2 hn hP hc hx hv he => exact sop_link hG hS hb h2 hn hP hc hx hv (.inr ⟨he, rfl, rfl⟩)
end
end Go.Proofs.YtfolchpjccjadaaDoor
/- The plain machine: what a step needs is there. -/
namespace Go.Proofs.YtfolchpjccjadaaDoor
open Go.RowKit
set_option linter.unusedVariables false

section
variable {K : List (List UInt8)} {hd : List Nat} {w : Nat} {fl : Bool} {p : Nat} {m : PM} {g : Gh}
theorem Glob.entry_le (hG : Glob K hd m g) {b n : Nat} (h : n ∈ g.C b) : 0 < n ∧ n ≤ m.E.length := by
  obtain ⟨h0, e, h1, _⟩ := hG.ce b n h
  have := (List.getElem?_eq_some_iff.1 h1).1
  omega
theorem Glob.spell_le (hG : Glob K hd m g) {b v : Nat} {S : List Nat} (hS : S <:+ g.C b) (h : Spell m.H m.E v S) : v ≤ m.E.length := by
  cases S with
  | nil => have : v = 0 := h; omega
  | cons n r =>
    have : v = n := h.1
    subst this
    exact (hG.entry_le (hS.subset (by simp))).2
theorem hop_pre {s : Hop} (hG : Glob K hd m g) (hS : HopOk K hd w fl p m g s) (hd0 : 0 < hd.length) (hd1 : hd.length ≤ 256) (he : m.E.length < 100000) (hl : m.L.length < 2000) (hkl : ∀ k, k ∈ K → k.length ≤ 140737488355328) : HPre hd m.H m.L m.E s where
  hd0 := hd0
  hd1 := hd1
  el := he
  ll := hl
  nx := hS.nxt
  hdl := fun c hc => by
    have h1 := hG.hb _ c hc
    refine ⟨hG.ol c (by rw [h1]; exact fun e => by cases e), fun x hx => ?_⟩
    obtain ⟨v, h2, h3⟩ := hG.ch _ c hc
    obtain rfl := Option.some.inj (hx.symm.trans h2)
    exact hG.spell_le (List.suffix_refl _) h3
  own := fun ho => by
    obtain ⟨e, h1, h2, h3, _⟩ := hS.own ho
    exact ⟨e, h1, hG.ol _ (by rw [h3]; exact fun e => by cases e)⟩
  walk := fun h1 => by
    obtain ⟨S, k1, k2, k3, k4, _⟩ := hS.seg (by omega)
    obtain ⟨mid, rest, q1, q2, q3, q4⟩ := k4 h1
    have hcur : s.cur ∈ g.C (bk hd.length s.key) := k1.subset (by rw [q1]; simp)
    obtain ⟨h0, e, e1, e2, _⟩ := hG.ce _ _ hcur
    refine ⟨h0, e, e1, hG.ol _ (by rw [e2]; exact fun e => by cases e), fun x hx => ?_⟩
    obtain ⟨a, ha⟩ := k1
    obtain ⟨v, r1, r2⟩ := hG.ch _ _ (List.getElem?_eq_getElem (show bk hd.length s.key < hd.length from Nat.mod_lt _ hd0))
    obtain ⟨u, r3⟩ := r2.tail (a ++ mid) (s.cur :: rest) (by rw [← ha, q1]; simp)
    obtain ⟨_, _, e', x', r4, r5, r6⟩ := r3
    rw [e1] at r4
    obtain rfl := Option.some.inj r4
    obtain rfl := Option.some.inj (hx.symm.trans r5)
    exact hG.spell_le (b := bk hd.length s.key) ⟨a ++ mid ++ [s.cur], by rw [← ha, q1]; simp⟩ r6
  lay := fun h2 => by
    obtain ⟨S, k1, k2, k3, k4, k5, _⟩ := hS.seg (by omega)
    refine ⟨(k5 h2).1, ?_⟩
    rw [k2]
    cases S with
    | nil => simp
    | cons n r => exact (hG.entry_le (k1.subset (by simp))).2
  key := fun h => hS.ik (.inl h)
  kl := hkl _ hS.key

theorem tc_node {N : List Nod} {n i c : Nat} (h : tc N n i = some c) : ∃ x, N[n]? = some x ∧ x.tower[i]? = some c := by
  unfold tc at h
  cases hx : N[n]? with
  | none => rw [hx] at h; cases h
  | some x => rw [hx] at h; exact ⟨x, rfl, h⟩
/-- The cell that names what is behind a node at a level. -/
theorem Glob.place (hG : Glob K hd m g) {i n : Nat} (hi : i < 8) (h : n = 0 ∨ g.M i n) : ∃ P c, m.N[n]? = some P ∧ P.tower[i]? = some c ∧ c ∈ m.L ∧ ∀ x, m.H[c]? = some x → x < m.N.length ∧ (0 < x → ∀ X, m.N[x]? = some X → isKey X.key = true) := by
  obtain ⟨c, h1, h2⟩ := hG.nt i n hi h
  obtain ⟨P, h3, h4⟩ := tc_node h1
  refine ⟨P, c, h3, h4, hG.ol c (by rw [h2]; exact fun e => by cases e), fun x hx => ?_⟩
  obtain ⟨v, k1, k2, _⟩ := hG.mx i n hi h
  have := hG.nx_at h3 h4 hx
  obtain rfl := Option.some.inj (this.symm.trans k1)
  rcases k2 with k2 | ⟨k2, _⟩
  · exact ⟨by rw [k2]; exact hG.n0.2, fun h => by omega⟩
  · obtain ⟨_, _, q1, q2, _⟩ := hG.mn _ _ k2
    exact ⟨q1, fun _ X hX => by rw [nK_some hX] at q2; exact q2⟩
theorem sop_pre {s : Sop} (hG : Glob K hd m g) (hS : SopOk K w fl p m g s) (hn : m.N.length < 100000) (hl : m.L.length + 8 < 2000) (hkl : ∀ k, k ∈ K → k.length ≤ 140737488355328) : SPre m.H m.L m.N s where
  nl := hn
  ll := hl
  kl := hkl _ hS.key
  h0 := hS.h0
  h8 := hS.h8
  p8 := hS.p8
  s8 := hS.s8
  dx := hS.dx
  bk := hS.ik
  own := fun ho => by
    obtain ⟨y, h1, h2, h3, h4, h5, h6, h7⟩ := hS.own ho
    have hh8 := hS.h8
    have hcell : ∀ i, i < s.height → ∃ c X, y.tower[i]? = some c ∧ g.ow c = some X ∧ (X = .tower s.own i ∨ X = .mineT w i) := by
      intro i hi
      obtain ⟨c, k1, k2, _⟩ := h5 i hi
      rcases Nat.lt_or_ge i s.linked with hlk | hlk
      · obtain ⟨c', q1, q2⟩ := hG.nt i s.own (by omega) (.inr (h6 i hlk))
        rw [tc_some h1, k1] at q1
        obtain rfl := Option.some.inj q1
        exact ⟨c, _, k1, q2, .inl rfl⟩
      · exact ⟨c, _, k1, k2 hlk, .inr rfl⟩
    refine ⟨y, h1, by omega, ?_, fun c hc => ?_⟩
    · rw [h3]
      refine List.pairwise_iff_getElem.2 fun i j hi hj hij e => ?_
      rw [List.length_take] at hi hj
      rw [List.getElem_take, List.getElem_take] at e
      obtain ⟨c, X, k1, k2, k3⟩ := hcell i (by omega)
      obtain ⟨d, Y, q1, q2, q3⟩ := hcell j (by omega)
      have e1 : y.tower[i]'(by omega) = c := (List.getElem?_eq_some_iff.1 k1).2
      have e2 : y.tower[j]'(by omega) = d := (List.getElem?_eq_some_iff.1 q1).2
      rw [e1, e2] at e
      subst e
      rw [k2] at q2
      injection q2 with q2
      subst q2
      rcases k3 with rfl | rfl <;> rcases q3 with q3 | q3
      · injection q3 with _ q3; omega
      · cases q3
      · cases q3
      · injection q3 with _ q3; omega
    · obtain ⟨i, hi⟩ := List.getElem?_of_mem hc
      rw [List.getElem?_take] at hi
      split at hi
      · rename_i hih
        obtain ⟨d, X, k1, k2, _⟩ := hcell i (by omega)
        rw [k1] at hi
        obtain rfl := Option.some.inj hi
        exact hG.ol _ (by rw [k2]; exact fun e => by cases e)
      · cases hi
  walk := fun hk h0 => by
    cases hb : s.begun with
    | true =>
      rw [start_begun hb] at h0 ⊢
      obtain ⟨h1, h2, _⟩ := hS.walk hb h0
      exact ⟨h1, hG.place h1 h2⟩
    | false =>
      rw [start_fresh hb]
      exact ⟨by simp, hG.place (by simp) (.inl rfl)⟩
  lay := fun hb h1 => by
    obtain ⟨h2, h3, h4, _⟩ := hS.lay (by omega)
    have hlk := hS.lk
    have hh8 := hS.h8
    obtain ⟨y, q1, q2, q3, q4, q5, _⟩ := hS.own h2
    obtain ⟨c, k1, k2, _⟩ := q5 s.linked hlk
    obtain ⟨a, v, r1, r2, r3, r4, r5, r6⟩ := h3 s.linked (Nat.le_refl _) (by omega)
    refine ⟨h2, by omega, y, c, v, q1, k1, hG.ol _ (by rw [k2 (Nat.le_refl _)]; exact fun e => by cases e), r2, ?_⟩
    rcases r5 with r5 | ⟨r5, _⟩
    · rw [r5]; exact hG.n0.2
    · exact hG.nlt (.inr r5)
  link := fun hb h1 => by
    obtain ⟨h2, h3, h4, _⟩ := hS.lay (by omega)
    have hlk := hS.lk
    have hh8 := hS.h8
    obtain ⟨y, q1, q2, q3, q4, q5, _⟩ := hS.own h2
    obtain ⟨a, v, r1, r2, r3, r4, r5, r6⟩ := h3 s.linked (Nat.le_refl _) (by omega)
    obtain ⟨P, c, k1, k2, k3, _⟩ := hG.place (by omega) r3
    refine ⟨h2, (List.getElem?_eq_some_iff.1 q1).1, by omega, a, P, c, v, r1, k1, k2, k3, r2, ?_⟩
    rcases r5 with r5 | ⟨r5, _⟩
    · rw [r5]; exact hG.n0.2
    · exact hG.nlt (.inr r5)
end
end Go.Proofs.YtfolchpjccjadaaDoor
/- The plain machine: two workers, each with operations of both kinds to do. -/
namespace Go.Proofs.YtfolchpjccjadaaDoor
open Go.RowKit
set_option linter.unusedVariables false

inductive OpD where
  | hash (s : Hop)
  | skip (s : Sop)
def OpD.kind : OpD → Bool
  | .hash _ => true
  | .skip _ => false
def OpD.key : OpD → List UInt8
  | .hash s => s.key
  | .skip s => s.key
def OpD.own : OpD → Nat
  | .hash s => s.own
  | .skip s => s.own
def freshSop (k : List UInt8) (h : Nat) : Sop := ⟨k, min (max h 1) 8, 0, false, 0, 0, List.replicate 8 0, List.replicate 8 0, 0, 0⟩
def freshHop (k : List UInt8) : Hop := ⟨k, 0, 0, 0, 0⟩
def OpOk (K : List (List UInt8)) (hd : List Nat) (w : Nat) (fl : Bool) (p : Nat) (m : PM) (g : Gh) : OpD → Prop
  | .hash s => HopOk K hd w fl p m g s
  | .skip s => SopOk K w fl p m g s
def Fresh (K : List (List UInt8)) : OpD → Prop
  | .hash s => s.key ∈ K ∧ s = freshHop s.key
  | .skip s => s.key ∈ K ∧ ∃ h, s = freshSop s.key h
/-- A key is where it belongs. -/
def Done (hd : List Nat) (m : PM) (g : Gh) (kind : Bool) (k : List UInt8) : Prop :=
  isKey k = true → if kind = true then ∃ n, n ∈ g.C (bk hd.length k) ∧ eK m.E n = k else ∃ n, g.M 0 n ∧ nK m.N n = k
/-- A step of an operation. -/
def DStep (hd : List Nat) (m : PM) (x : OpD) (m' : PM) (x' : OpD) (d : Bool) : Prop :=
  (∃ s s' H' L' E', x = .hash s ∧ x' = .hash s' ∧ m' = { m with H := H', L := L', E := E' } ∧ HStep hd m.H m.L m.E s H' L' E' s' d) ∨
  (∃ s s' H' L' N', x = .skip s ∧ x' = .skip s' ∧ m' = { m with H := H', L := L', N := N' } ∧ SStep m.H m.L m.N s H' L' N' s' d)
section
variable {K : List (List UInt8)} {hd : List Nat} {w v : Nat} {b fl : Bool} {p : Nat} {m m' : PM} {g g' : Gh} {x : OpD}
theorem Done.keep {kind : Bool} {k : List UInt8} (hG : Glob K hd m g) (h : Done hd m g kind k) (hE : Eff w b m g m' g') : Done hd m' g' kind k := by
  intro hk
  have := h hk
  cases kind with
  | true =>
    rw [if_pos rfl] at this ⊢
    obtain ⟨n, h1, h2⟩ := this
    obtain ⟨_, e, he, _⟩ := hG.ce _ n h1
    exact ⟨n, (hE.C _).subset h1, by rw [hE.ek he]; exact h2⟩
  | false =>
    rw [if_neg (by simp)] at this ⊢
    obtain ⟨n, h1, h2⟩ := this
    exact ⟨n, hE.M _ _ h1, by rw [hE.nk (hG.nlt (.inr h1))]; exact h2⟩
theorem op_stable (hG : Glob K hd m g) (h : OpOk K hd v fl p m g x) (hE : Eff w b m g m' g') (hw : w ≠ v) : OpOk K hd v (fl && !b) (if b = true then p + 100 else p) m' g' x := by
  cases x with
  | hash s => exact hop_stable hG h hE hw
  | skip s => exact sop_stable hG h hE hw
theorem Fresh.ok (h : Fresh K x) : OpOk K hd w false 2000 m g x ∧ x.own = 0 := by
  cases x with
  | hash s =>
    obtain ⟨h1, h2⟩ := h
    have e1 : s.next = 0 := by rw [h2]; rfl
    have e2 : s.own = 0 := by rw [h2]; rfl
    refine ⟨⟨h1, by omega, fun h => ?_, fun h => absurd h (by omega), fun _ => by omega, fun h => absurd e1 h⟩, e2⟩
    rcases h with h | h
    · exact absurd e1 h
    · omega
  | skip s =>
    obtain ⟨h1, h, h2⟩ := h
    have e1 : s.begun = false := by rw [h2]; rfl
    have e2 : s.own = 0 := by rw [h2]; rfl
    have e3 : s.does = 0 := by rw [h2]; rfl
    have e4 : s.linked = 0 := by rw [h2]; rfl
    have e5 : s.height = min (max h 1) 8 := by rw [h2]; rfl
    refine ⟨⟨h1, by omega, by omega, by rw [h2]; rfl, by rw [h2]; rfl, by omega, fun _ => ⟨e2, e3, Nat.le_refl _⟩, fun h => absurd (e1.symm.trans h) (by simp), by omega, fun _ => e4, fun h => absurd h (by omega), fun h => absurd (e1.symm.trans h) (by simp), fun h => absurd e3 h⟩, e2⟩
theorem op_step {x' : OpD} {d : Bool} (hG : Glob K hd m g) (h : OpOk K hd w fl p m g x) (hK : K.length ≤ 40) (hd0 : 0 < hd.length) (hst : DStep hd m x m' x' d) :
    ∃ (b : Bool) (g' : Gh) (fl' : Bool) (p' : Nat), Eff w b m g m' g' ∧ Glob K hd m' g' ∧ (d = false → OpOk K hd w fl' p' m' g' x') ∧ (d = true → Done hd m' g' x.kind x.key) ∧
      p' + (if b = true then 101 else 1) ≤ p ∧ m'.L.length + 8 * c1 x'.own ≤ m.L.length + 8 * c1 x.own ∧ m'.E.length + m'.N.length + c1 x'.own ≤ m.E.length + m.N.length + c1 x.own ∧ x'.key = x.key ∧ x'.kind = x.kind := by
  rcases hst with ⟨s, s', H', L', E', rfl, rfl, rfl, hst⟩ | ⟨s, s', H', L', N', rfl, rfl, rfl, hst⟩
  · obtain ⟨b, g', fl', p', h1, h2, h3, h4, h5, h6, h7, h8⟩ := hop_step hG h hK hd0 hst
    exact ⟨b, g', fl', p', h1, h2, h3, fun e hk => by rw [if_pos (show (OpD.hash s).kind = true from rfl)]; exact h4 e hk, h5, h6, by show E'.length + m.N.length + c1 s'.own ≤ m.E.length + m.N.length + c1 s.own; have h7 : E'.length + c1 s'.own ≤ m.E.length + c1 s.own := h7; omega, h8, rfl⟩
  · obtain ⟨b, g', fl', p', h1, h2, h3, h4, h5, h6, h7, h8⟩ := sop_step hG h hK hst
    exact ⟨b, g', fl', p', h1, h2, h3, fun e hk => by rw [if_neg (by simp [OpD.kind])]; exact h4 e hk, h5, h6, by show m.E.length + N'.length + c1 s'.own ≤ m.E.length + m.N.length + c1 s.own; have h7 : N'.length + c1 s'.own ≤ m.N.length + c1 s.own := h7; omega, h8, rfl⟩
end
/-- What a worker has still to do: the first of it is under way. -/
abbrev Todo := List (Nat × OpD)
def TodoOk (K : List (List UInt8)) (hd : List Nat) (w : Nat) (fl : Bool) (p : Nat) (m : PM) (g : Gh) : Todo → Prop
  | [] => True
  | x :: r => OpOk K hd w fl p m g x.2 ∧ ∀ y, y ∈ r → Fresh K y.2
def cred : Todo → Nat
  | [] => 0
  | x :: r => c1 x.2.own + r.length
def pot (p : Nat) : Todo → Nat
  | [] => 0
  | x :: r => p + 2000 * r.length
abbrev Desc := Nat × Bool × List UInt8
def desc (x : Nat × OpD) : Desc := (x.1, x.2.kind, x.2.key)
def wkn (w : Bool) : Nat := if w = true then 1 else 0
theorem wkn_ne {w : Bool} : wkn w ≠ wkn (!w) := by cases w <;> simp [wkn]
structure PInv (K : List (List UInt8)) (hd : List Nat) (ops : Bool → List Desc) (m : PM) (g : Gh) (todo : Bool → Todo) (fl : Bool → Bool) (p : Bool → Nat) : Prop where
  glob : Glob K hd m g
  ok : ∀ w, TodoOk K hd (wkn w) (fl w) (p w) m g (todo w)
  tail : ∀ w, ∃ dn, ops w = dn ++ (todo w).map desc ∧ ∀ x, x ∈ dn → Done hd m g x.2.1 x.2.2
  room : m.L.length + 8 * (cred (todo false) + cred (todo true)) ≤ 1300
  size : m.E.length + m.N.length + cred (todo false) + cred (todo true) ≤ 200
def setW {α : Type} (f : Bool → α) (w : Bool) (x : α) : Bool → α := fun v => if v = w then x else f v
theorem setW_same {α : Type} (f : Bool → α) (w : Bool) (x : α) : setW f w x w = x := if_pos rfl
theorem setW_not {α : Type} (f : Bool → α) (w : Bool) (x : α) : setW f w x (!w) = f (!w) := if_neg (by cases w <;> simp)
theorem both {P : Bool → Prop} {w : Bool} (h1 : P w) (h2 : P (!w)) : ∀ v, P v := by
  intro v
  cases w <;> cases v <;> first | exact h1 | exact h2
theorem sum_two (f : Bool → Nat) (w : Bool) : f false + f true = f w + f (!w) := by cases w <;> simp <;> omega

theorem turn_step {K : List (List UInt8)} {hd : List Nat} {ops : Bool → List Desc} {m m' : PM} {g : Gh} {todo : Bool → Todo} {fl : Bool → Bool} {p : Bool → Nat} (hI : PInv K hd ops m g todo fl p) (hK : K.length ≤ 40) (hd0 : 0 < hd.length) (w : Bool) {o : Nat} {x x' : OpD} {r : Todo} {d : Bool} (ht : todo w = (o, x) :: r) (hst : DStep hd m x m' x' d) :
    ∃ g' fl' p', PInv K hd ops m' g' (setW todo w (if d = true then r else (o, x') :: r)) fl' p' ∧
      pot (p' false) (setW todo w (if d = true then r else (o, x') :: r) false) + pot (p' true) (setW todo w (if d = true then r else (o, x') :: r) true) + 1 ≤ pot (p false) (todo false) + pot (p true) (todo true) := by
  have hok := hI.ok w
  rw [ht] at hok
  obtain ⟨h1, h2⟩ := hok
  have h1 : OpOk K hd (wkn w) (fl w) (p w) m g x := h1
  obtain ⟨b, g', fl', p', hE, hG, hnd, hdn, hp, hL, hN, hkey, hkind⟩ := op_step hI.glob h1 hK hd0 hst
  have hother := hI.ok (!w)
  obtain ⟨T, hT⟩ : ∃ T, T = (if d = true then r else (o, x') :: r) := ⟨_, rfl⟩
  rw [← hT]
  obtain ⟨q, hq⟩ : ∃ q, q = (if d = true then 2000 else p') := ⟨_, rfl⟩
  obtain ⟨f, hf⟩ : ∃ f, f = (if d = true then false else fl') := ⟨_, rfl⟩
  have hTok : TodoOk K hd (wkn w) f q m' g' T := by
    cases d with
    | true =>
      rw [hT, hq, hf, if_pos rfl, if_pos rfl, if_pos rfl]
      cases r with
      | nil => exact trivial
      | cons y r => exact ⟨(Fresh.ok (h2 y (by simp))).1, fun z hz => h2 z (by simp [hz])⟩
    | false =>
      rw [hT, hq, hf, if_neg (by simp), if_neg (by simp), if_neg (by simp)]
      exact ⟨hnd rfl, h2⟩
  have hcr : m'.L.length + 8 * cred T ≤ m.L.length + 8 * cred (todo w) ∧ m'.E.length + m'.N.length + cred T ≤ m.E.length + m.N.length + cred (todo w) := by
    rw [ht]
    cases d with
    | true =>
      rw [hT, if_pos rfl]
      have : cred r = r.length := by
        cases r with
        | nil => rfl
        | cons y r =>
          show c1 y.2.own + r.length = r.length + 1
          rw [(Fresh.ok (hd := hd) (w := 0) (m := m) (g := g) (h2 y (by simp))).2]
          simp [c1]
          omega
      rw [this]
      show m'.L.length + 8 * r.length ≤ m.L.length + 8 * (c1 x.own + r.length) ∧ m'.E.length + m'.N.length + r.length ≤ m.E.length + m.N.length + (c1 x.own + r.length)
      omega
    | false =>
      rw [hT, if_neg (by simp)]
      show m'.L.length + 8 * (c1 x'.own + r.length) ≤ m.L.length + 8 * (c1 x.own + r.length) ∧ m'.E.length + m'.N.length + (c1 x'.own + r.length) ≤ m.E.length + m.N.length + (c1 x.own + r.length)
      omega
  have hpt : pot q T + (if b = true then 101 else 1) ≤ pot (p w) (todo w) := by
    rw [ht]
    cases d with
    | true =>
      rw [hT, if_pos rfl, hq, if_pos rfl]
      show pot 2000 r + (if b = true then 101 else 1) ≤ p w + 2000 * r.length
      cases r with
      | nil => show 0 + _ ≤ _; omega
      | cons y r => show 2000 + 2000 * r.length + _ ≤ p w + 2000 * (r.length + 1); omega
    | false =>
      rw [hT, if_neg (by simp), hq, if_neg (by simp)]
      show p' + 2000 * r.length + (if b = true then 101 else 1) ≤ p w + 2000 * r.length
      omega
  have hpo : pot (if b = true then p (!w) + 100 else p (!w)) (todo (!w)) ≤ pot (p (!w)) (todo (!w)) + (if b = true then 100 else 0) := by
    cases hto : todo (!w) with
    | nil => exact Nat.zero_le _
    | cons y r' =>
      show (if b = true then p (!w) + 100 else p (!w)) + 2000 * r'.length ≤ p (!w) + 2000 * r'.length + (if b = true then 100 else 0)
      split <;> omega
  have hroom := hI.room
  have hsize := hI.size
  rw [sum_two (fun v => cred (todo v)) w] at hroom
  have hsize : m.E.length + m.N.length + (cred (todo w) + cred (todo (!w))) ≤ 200 := by
    have := sum_two (fun v => cred (todo v)) w
    omega
  refine ⟨g', setW (setW fl (!w) (fl (!w) && !b)) w f, setW (setW p (!w) (if b = true then p (!w) + 100 else p (!w))) w q, ⟨hG, both (w := w) ?_ ?_, both (w := w) ?_ ?_, ?_, ?_⟩, ?_⟩
  · rw [setW_same, setW_same, setW_same]
    exact hTok
  · rw [setW_not, setW_not, setW_not]
    have e1 : setW fl (!w) (fl (!w) && !b) (!w) = (fl (!w) && !b) := setW_same _ _ _
    have e2 : setW p (!w) (if b = true then p (!w) + 100 else p (!w)) (!w) = (if b = true then p (!w) + 100 else p (!w)) := setW_same _ _ _
    rw [e1, e2]
    cases hto : todo (!w) with
    | nil => exact trivial
    | cons y r' =>
      rw [hto] at hother
      exact ⟨op_stable hI.glob hother.1 hE wkn_ne, hother.2⟩
  · obtain ⟨dn, e1, e2⟩ := hI.tail w
    rw [ht] at e1
    rw [setW_same]
    cases d with
    | true =>
      rw [hT, if_pos rfl]
      refine ⟨dn ++ [desc (o, x)], by rw [e1]; simp, fun y hy => ?_⟩
      rcases List.mem_append.1 hy with hy | hy
      · exact (e2 y hy).keep hI.glob hE
      · simp at hy
        subst hy
        exact hdn rfl
    | false =>
      rw [hT, if_neg (by simp)]
      refine ⟨dn, ?_, fun y hy => (e2 y hy).keep hI.glob hE⟩
      rw [e1, List.map_cons, List.map_cons]
      congr 2
      unfold desc
      simp only
      rw [hkey, hkind]
  · obtain ⟨dn, e1, e2⟩ := hI.tail (!w)
    rw [setW_not]
    exact ⟨dn, e1, fun y hy => (e2 y hy).keep hI.glob hE⟩
  · have := sum_two (fun v => cred (setW todo w T v)) w
    simp only [setW_same, setW_not] at this
    omega
  · have := sum_two (fun v => cred (setW todo w T v)) w
    simp only [setW_same, setW_not] at this
    omega
  · have h1 := sum_two (fun v => pot (setW (setW p (!w) (if b = true then p (!w) + 100 else p (!w))) w q v) (setW todo w T v)) w
    have h2 := sum_two (fun v => pot (p v) (todo v)) w
    simp only [setW_same, setW_not] at h1
    rw [h1, h2]
    cases b <;> simp at hpt hpo ⊢ <;> omega
end Go.Proofs.YtfolchpjccjadaaDoor
/- The plain machine at its beginning and at its end. -/
namespace Go.Proofs.YtfolchpjccjadaaDoor
open Go.RowKit
set_option linter.unusedVariables false

theorem Grow.lays {H L : List Nat} {k : Nat} {cs H' L' : List Nat} (f : Nat → Own) (h : Grow H L k cs H' L') {ow : Nat → Option Own} (ho : ∀ c, ow c ≠ none → c ∈ L) (hl : ∀ c, c ∈ L → c < H.length) :
    cs.length = k ∧ L'.length = L.length + k ∧ ∃ ow' : Nat → Option Own, (∀ c X, ow c = some X → ow' c = some X ∧ H'[c]? = H[c]?) ∧ (∀ i, i < k → ∃ c, cs[i]? = some c ∧ ow' c = some (f i) ∧ H'[c]? = some 0) ∧ (∀ c, ow' c ≠ none → c ∈ L') ∧ (∀ c, c ∈ L' → c < H'.length) := by
  induction h with
  | nil => exact ⟨rfl, rfl, ow, fun c X h => ⟨h, rfl⟩, fun i hi => absurd hi (by omega), ho, hl⟩
  | @snoc k cs H1 L1 c h h1 h2 ih =>
    obtain ⟨e0, e1, ow1, q1, q2, q3, q4⟩ := ih
    have hf : ow1 c = none := by
      cases hc : ow1 c with
      | none => rfl
      | some X => exact absurd (q3 c (by rw [hc]; exact fun e => by cases e)) h2
    refine ⟨by rw [List.length_append, e0]; rfl, by rw [List.length_cons, e1]; omega, up ow1 c (some (f k)), fun d X hd => ?_, fun i hi => ?_, fun d hd => ?_, new_lt h1 q4⟩
    · obtain ⟨r1, r2⟩ := q1 d X hd
      have hne : d ≠ c := fun e => by rw [e, hf] at r1; cases r1
      refine ⟨(up_ne hne).trans r1, (newH_other hne (q4 d (q3 d (by rw [r1]; exact fun e => by cases e)))).trans r2⟩
    · by_cases e : i = k
      · exact ⟨c, by rw [e, ← e0]; simp, by rw [e]; exact up_same _ _ _, newH_self h1⟩
      · obtain ⟨d, r1, r2, r3⟩ := q2 i (by omega)
        have hne : d ≠ c := fun e => by rw [e, hf] at r2; cases r2
        exact ⟨d, ext_get _ r1, (up_ne hne).trans r2, (newH_other hne (q4 d (q3 d (by rw [r2]; exact fun e => by cases e)))).trans r3⟩
    · by_cases e : d = c
      · rw [e]; simp
      · refine List.mem_cons_of_mem _ (q3 d ?_)
        have : up ow1 c (some (f k)) d = ow1 d := up_ne e
        rw [← this]; exact hd

theorem glob_init (K : List (List UInt8)) {nb : Nat} {hd H1 L1 cs H2 L2 : List Nat} (h1 : Grow [] [] nb hd H1 L1) (h2 : Grow H1 L1 8 cs H2 L2) : hd.length = nb ∧ L2.length = nb + 8 ∧ ∃ g, Glob K hd ⟨H2, L2, [], [⟨[], cs, 8⟩]⟩ g := by
  obtain ⟨e1, e2, ow1, q1, q2, q3, q4⟩ := h1.lays (f := .bucket) (ow := fun _ => none) (fun c h => absurd rfl h) (fun c h => by cases h)
  obtain ⟨e3, e4, ow2, r1, r2, r3, r4⟩ := h2.lays (f := .tower 0) q3 q4
  refine ⟨e1, by rw [e4, e2]; simp, { C := fun _ => [], M := fun _ _ => False, ow := ow2 }, ?_⟩
  have htc : ∀ i, tc [(⟨[], cs, 8⟩ : Nod)] 0 i = cs[i]? := fun i => rfl
  have hb : ∀ b c, hd[b]? = some c → ow1 c = some (.bucket b) ∧ H1[c]? = some 0 := fun b c h => by
    have hlt := (List.getElem?_eq_some_iff.1 h).1
    obtain ⟨c', k1, k2⟩ := q2 b (by omega)
    obtain rfl := Option.some.inj (h.symm.trans k1)
    exact k2
  refine ⟨r3, r4, fun b c h => (r1 _ _ (hb b c h).1).1, fun b c h => ⟨0, (r1 _ _ (hb b c h).1).2.trans (hb b c h).2, rfl⟩, fun b n h => (by cases h), fun b => List.Pairwise.nil, ⟨rfl, by simp⟩, fun i n hi h => ?_, fun i n h => h.elim, fun i n h => h.elim, fun n n' h => h.elim, fun i n hi h => ?_⟩
  · rcases h with rfl | h
    · obtain ⟨c, k1, k2, _⟩ := r2 i hi
      exact ⟨c, by rw [htc]; exact k1, k2⟩
    · exact h.elim
  · rcases h with rfl | h
    · obtain ⟨c, k1, k2, k3⟩ := r2 i hi
      refine ⟨0, ?_, .inl rfl, fun k h => h.elim⟩
      unfold nx
      rw [htc, k1]
      exact k3
    · exact h.elim

/-- Two rising lists of the same keys are one. -/
theorem rising_eq : ∀ {a b : List (List UInt8)}, a.Pairwise (· < ·) → b.Pairwise (· < ·) → (∀ k, k ∈ a ↔ k ∈ b) → a = b
  | [], [], _, _, _ => rfl
  | [], y :: b, _, _, h => absurd ((h y).2 (by simp)) (by simp)
  | x :: a, [], _, _, h => absurd ((h x).1 (by simp)) (by simp)
  | x :: a, y :: b, ha, hb, h => by
    obtain ⟨ha1, ha2⟩ := List.pairwise_cons.1 ha
    obtain ⟨hb1, hb2⟩ := List.pairwise_cons.1 hb
    have hxy : x = y := by
      rcases List.mem_cons.1 ((h x).1 (by simp)) with e | h1
      · exact e
      · rcases List.mem_cons.1 ((h y).2 (by simp)) with e | h2
        · exact e.symm
        · exact absurd (List.lt_trans (ha1 y h2) (hb1 x h1)) (List.lt_irrefl _)
    subst hxy
    congr 1
    refine rising_eq ha2 hb2 fun k => ⟨fun hk => ?_, fun hk => ?_⟩
    · rcases List.mem_cons.1 ((h k).1 (by simp [hk])) with e | h1
      · subst e; exact absurd (ha1 _ hk) (List.lt_irrefl _)
      · exact h1
    · rcases List.mem_cons.1 ((h k).2 (by simp [hk])) with e | h1
      · subst e; exact absurd (hb1 _ hk) (List.lt_irrefl _)
      · exact h1

/-- The end: nobody has anything left to do. -/
theorem all_there {K : List (List UInt8)} {hd : List Nat} {ops : Bool → List Desc} {m : PM} {g : Gh} {todo : Bool → Todo} {fl : Bool → Bool} {p : Bool → Nat} (hI : PInv K hd ops m g todo fl p) (h0 : ∀ w, todo w = [])
    (hops : ∀ k, k ∈ K → ∀ kind, ∃ w o, (o, kind, k) ∈ ops w) {one two : List (List UInt8)} (h1 : one.Pairwise (· < ·)) (h2 : two.Pairwise (· < ·))
    (h3 : ∀ k, k ∈ one ↔ ∃ b n, b < hd.length ∧ n ∈ g.C b ∧ eK m.E n = k) (h4 : ∀ k, k ∈ two ↔ ∃ j, g.M 0 j ∧ nK m.N j = k) (hd0 : 0 < hd.length) :
    one = two ∧ ∀ k, k ∈ K → (k ∈ one ↔ isKey k = true) := by
  have hdone : ∀ k, k ∈ K → ∀ kind, Done hd m g kind k := fun k hk kind => by
    obtain ⟨w, o, ho⟩ := hops k hk kind
    obtain ⟨dn, e1, e2⟩ := hI.tail w
    rw [h0 w, List.map_nil, List.append_nil] at e1
    rw [e1] at ho
    exact e2 _ ho
  have hone : ∀ k, k ∈ one ↔ k ∈ K ∧ isKey k = true := fun k => by
    rw [h3]
    constructor
    · rintro ⟨b, n, _, hn, rfl⟩
      obtain ⟨_, e, he, _, _, hk, hK⟩ := hI.glob.ce b n hn
      rw [eK_some he]
      exact ⟨hK, hk⟩
    · rintro ⟨hk, hkk⟩
      have := hdone k hk true hkk
      rw [if_pos rfl] at this
      obtain ⟨n, hn, he⟩ := this
      exact ⟨_, n, Nat.mod_lt _ hd0, hn, he⟩
  have htwo : ∀ k, k ∈ two ↔ k ∈ K ∧ isKey k = true := fun k => by
    rw [h4]
    constructor
    · rintro ⟨j, hj, rfl⟩
      obtain ⟨_, _, _, q1, q2⟩ := hI.glob.mn 0 j hj
      exact ⟨q2, q1⟩
    · rintro ⟨hk, hkk⟩
      have := hdone k hk false hkk
      rw [if_neg (by simp)] at this
      exact this
  refine ⟨rising_eq h1 h2 fun k => by rw [hone, htwo], fun k hk => ?_⟩
  rw [hone]
  exact ⟨fun h => h.2, fun h => ⟨hk, h⟩⟩
end Go.Proofs.YtfolchpjccjadaaDoor
