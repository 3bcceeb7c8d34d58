/- Plain: manifests: which are right, as which bytes they are written, how they are read; no program in sight. -/
import Derived.Test.YtggjipfdfpdecaaRcE
namespace Go.Proofs.Ytggjipfdfpdecaa

/-- A pair: its number, from where, to where. -/
structure Pai where
  num : Int
  from_ : Int
  to_ : Int
instance : Inhabited Pai := ⟨⟨0, 0, 0⟩⟩
/-- Where the k-th pair has to begin. -/
def atOf (ps : List Pai) (k : Nat) : Int := if k = 0 then 0 else match ps[k - 1]? with | none => 0 | some p => p.to_
def pOk (seen : List Int) (at_ : Int) (p : Pai) : Bool := isNo p.num && !seen.contains p.num && (p.from_ == at_) && decide (p.from_ < p.to_)
/-- Is the k-th pair right, behind those ahead of it? -/
def pAt (ps : List Pai) (k : Nat) : Bool := match ps[k]? with | none => true | some p => pOk ((ps.take k).map Pai.num) (atOf ps k) p
def psOk (ps : List Pai) : Bool := (List.range ps.length).all (pAt ps)
def manOk (t log : Int) (ps : List Pai) : Bool := isTm t && isNo log && decide (ps.length ≤ 16) && psOk ps && (atOf ps ps.length == t)
def encP (p : Pai) : List UInt8 := uvar p.num.toNat ++ (uvar p.from_.toNat ++ uvar p.to_.toNat)
def encPs (ps : List Pai) : List UInt8 := ps.flatMap encP
def encMan (t log : Nat) (ps : List Pai) : List UInt8 := 77 :: (uvar t ++ uvar log ++ uvar ps.length ++ encPs ps)

theorem psOk_iff (ps : List Pai) : psOk ps = true ↔ ∀ k, k < ps.length → pAt ps k = true := by
  unfold psOk
  rw [List.all_eq_true]
  constructor
  · intro h k hk; exact h k (List.mem_range.2 hk)
  · intro h k hk; exact h k (List.mem_range.1 hk)
theorem psOk_no {ps : List Pai} {k : Nat} (hk : k < ps.length) (h : pAt ps k = false) : psOk ps = false := by
  apply bool_no
  intro h2
  rw [(psOk_iff ps).1 h2 k hk] at h
  cases h
theorem encPs_take (ps : List Pai) (k : Nat) (hk : k < ps.length) : encPs (ps.take (k + 1)) = encPs (ps.take k) ++ encP ps[k] := by
  unfold encPs
  rw [List.take_succ_eq_append_getElem hk, List.flatMap_append, List.flatMap_singleton]
theorem atOf_zero (ps : List Pai) : atOf ps 0 = 0 := by unfold atOf; rw [if_pos rfl]
theorem atOf_succ (ps : List Pai) (k : Nat) (hk : k < ps.length) : atOf ps (k + 1) = ps[k].to_ := by
  unfold atOf
  rw [if_neg (by omega), Nat.add_sub_cancel, List.getElem?_eq_getElem hk]
theorem pAt_eq (ps : List Pai) (k : Nat) (hk : k < ps.length) : pAt ps k = pOk ((ps.take k).map Pai.num) (atOf ps k) ps[k] := by
  unfold pAt
  rw [List.getElem?_eq_getElem hk]
theorem pOk_bounds {l : List Int} {a : Int} {p : Pai} (h : pOk l a p = true) : (1 ≤ p.num ∧ p.num ≤ 2147483647) ∧ p.from_ = a ∧ p.from_ < p.to_ := by
  unfold pOk at h
  simp only [Bool.and_eq_true, beq_iff_eq, decide_eq_true_eq] at h
  exact ⟨(isNo_iff _).1 h.1.1.1, h.1.2, h.2⟩
/-- What is right begins behind what is right: no place is below nothing. -/
theorem atOf_nonneg {ps : List Pai} (h : psOk ps = true) : ∀ k, k ≤ ps.length → 0 ≤ atOf ps k
  | 0, _ => by rw [atOf_zero]; omega
  | k + 1, hk => by
    have h0 := atOf_nonneg h k (by omega)
    have h1 := (psOk_iff ps).1 h k (by omega)
    rw [pAt_eq ps k (by omega)] at h1
    have h2 := pOk_bounds h1
    rw [atOf_succ ps k (by omega)]
    omega
theorem atOf_mono {ps : List Pai} (h : psOk ps = true) (k j : Nat) (hj : k + j ≤ ps.length) : atOf ps k ≤ atOf ps (k + j) := by
  induction j with
  | zero => exact Int.le_refl _
  | succ j ih =>
    have h0 := ih (by omega)
    have h1 := (psOk_iff ps).1 h (k + j) (by omega)
    rw [pAt_eq ps (k + j) (by omega)] at h1
    have h2 := pOk_bounds h1
    rw [show k + (j + 1) = (k + j) + 1 from by omega, atOf_succ ps (k + j) (by omega)]
    omega
/-- What a right manifest holds. -/
theorem manOk_bounds {t log : Int} {ps : List Pai} (h : manOk t log ps = true) : (0 ≤ t ∧ t < 1099511627776) ∧ (1 ≤ log ∧ log ≤ 2147483647) ∧ ps.length ≤ 16 ∧ psOk ps = true ∧ atOf ps ps.length = t ∧ ∀ k (hk : k < ps.length), (1 ≤ ps[k].num ∧ ps[k].num ≤ 2147483647) ∧ (0 ≤ ps[k].from_ ∧ ps[k].from_ < 1099511627776) ∧ (0 ≤ ps[k].to_ ∧ ps[k].to_ < 1099511627776) := by
  unfold manOk at h
  simp only [Bool.and_eq_true, beq_iff_eq, decide_eq_true_eq] at h
  obtain ⟨⟨⟨⟨h1, h2⟩, h3⟩, h4⟩, h5⟩ := h
  have ht := (isTm_iff _).1 h1
  refine ⟨ht, (isNo_iff _).1 h2, h3, h4, h5, fun k hk => ?_⟩
  have h6 := (psOk_iff ps).1 h4 k hk
  rw [pAt_eq ps k hk] at h6
  have h7 := pOk_bounds h6
  have h8 := atOf_nonneg h4 k (by omega)
  have h9 := atOf_mono h4 (k + 1) (ps.length - (k + 1)) (by omega)
  rw [show k + 1 + (ps.length - (k + 1)) = ps.length from by omega, h5, atOf_succ ps k hk] at h9
  refine ⟨h7.1, ?_, ?_⟩ <;> omega

/-! ### reading -/
def rPai (b : List UInt8) (s : RS) : Pai × RS :=
  let n := rNum b 2147483647 s
  let f := rNum b 1099511627775 n.2
  let t := rNum b 1099511627775 f.2
  (⟨(n.1 : Nat), (f.1 : Nat), (t.1 : Nat)⟩, t.2)
def rMan (b : List UInt8) (s : RS) : (Nat × Nat × List Pai) × RS :=
  let t := rNum b 1099511627775 s
  let g := rNum b 2147483647 t.2
  let n := rNum b 16 g.2
  let l := rList (rPai b) n.1 n.2
  ((t.1, g.1, l.1), l.2)
def decMan (b : List UInt8) : (Nat × Nat × List Pai) × Nat × Nat :=
  let q := rMan b (startC b 77)
  ansC (0, 0, []) q.1 (endC b q.2 (manOk q.1.1 q.1.2.1 q.1.2.2))
theorem rPai_at (b : List UInt8) (s : RS) : (rPai b s).2.at_ ≤ max s.at_ b.length := by
  have h1 := rNum_at b 2147483647 s
  have h2 := rNum_at b 1099511627775 (rNum b 2147483647 s).2
  have h3 := rNum_at b 1099511627775 (rNum b 1099511627775 (rNum b 2147483647 s).2).2
  unfold rPai
  simp only
  omega
theorem rPai_bad (b : List UInt8) (a : Nat) : (rPai b ⟨a, true⟩).2 = ⟨a, true⟩ := by unfold rPai; simp only [rNum_bad]
theorem rMan_bad (b : List UInt8) (a : Nat) : rMan b ⟨a, true⟩ = ((0, 0, []), ⟨a, true⟩) := by unfold rMan; simp only [rNum_bad, rList_bad]
theorem rMan_len {b : List UInt8} {s s' : RS} {t g : Nat} {ps : List Pai} (h : ((t, g, ps), s') = rMan b s) : ps.length ≤ 16 := by
  unfold rMan at h
  simp only [Prod.mk.injEq] at h
  obtain ⟨⟨_, _, rfl⟩, _⟩ := h
  exact Nat.le_trans (rList_len _ _ _) (rNum_le _ _ _)
end Go.Proofs.Ytggjipfdfpdecaa
