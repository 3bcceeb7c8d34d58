/- Plain: commits and manifests: which are right, as which bytes they are written, how they are read; no program in sight. -/
import Derived.Test.YtggjipfdfpdecaaRcD
namespace Go.Proofs.Ytggjipfdfpdecaa

/-- A text's bytes, its length ahead. -/
def txt (t : List UInt8) : List UInt8 := uvar t.length ++ t
def encRow (k v : List UInt8) (t : Nat) : List UInt8 := 82 :: (txt k ++ txt v ++ uvar t)
def encGone (k : List UInt8) (t : Nat) : List UInt8 := 71 :: (txt k ++ uvar t)

/-! ### commits -/
structure Wri where
  key : List UInt8
  val : List UInt8
  gone : Bool
instance : Inhabited Wri := ⟨⟨[], [], false⟩⟩
def wOk (x : Wri) : Bool := isKey x.key && isVal x.val && !(x.gone && !x.val.isEmpty)
/-- Is the k-th write right, and behind the one ahead of it? -/
def wAt (ws : List Wri) (k : Nat) : Bool :=
  match ws[k]? with
  | none => true
  | some x => wOk x && (k == 0 || (match ws[k - 1]? with | none => true | some p => Op.bytesLess p.key x.key))
def wsOk (ws : List Wri) : Bool := (List.range ws.length).all (wAt ws)
def comOk (t : Int) (ws : List Wri) : Bool := isTm t && decide (ws.length ≤ 64) && wsOk ws
def encW (x : Wri) : List UInt8 := if x.gone then 1 :: txt x.key else 0 :: (txt x.key ++ txt x.val)
def encWs (ws : List Wri) : List UInt8 := ws.flatMap encW
def encCom (t : Nat) (ws : List Wri) : List UInt8 := 67 :: (uvar t ++ uvar ws.length ++ encWs ws)

theorem wsOk_iff (ws : List Wri) : wsOk ws = true ↔ ∀ k, k < ws.length → wAt ws k = true := by
  unfold wsOk
  rw [List.all_eq_true]
  constructor
  · intro h k hk; exact h k (List.mem_range.2 hk)
  · intro h k hk; exact h k (List.mem_range.1 hk)
theorem wsOk_no {ws : List Wri} {k : Nat} (hk : k < ws.length) (h : wAt ws k = false) : wsOk ws = false := by
  apply bool_no
  intro h2
  rw [(wsOk_iff ws).1 h2 k hk] at h
  cases h
theorem encWs_take (ws : List Wri) (k : Nat) (hk : k < ws.length) : encWs (ws.take (k + 1)) = encWs (ws.take k) ++ encW ws[k] := by
  unfold encWs
  rw [List.take_succ_eq_append_getElem hk, List.flatMap_append, List.flatMap_singleton]
theorem wOk_bounds {x : Wri} (h : wOk x = true) : x.key.length ≤ 16 ∧ x.val.length ≤ 64 ∧ 1 ≤ x.key.length ∧ (x.gone = true → x.val = []) := by
  unfold wOk at h
  simp only [Bool.and_eq_true] at h
  obtain ⟨⟨h1, h2⟩, h3⟩ := h
  have k := (isKey_iff _).1 h1
  have v := (isVal_iff _).1 h2
  refine ⟨k.2, v, k.1, fun hg => ?_⟩
  rw [hg] at h3
  simpa using h3
theorem wsOk_bounds {ws : List Wri} (h : wsOk ws = true) (k : Nat) (hk : k < ws.length) : wOk ws[k] = true := by
  have := (wsOk_iff ws).1 h k hk
  unfold wAt at this
  rw [List.getElem?_eq_getElem hk] at this
  simp only [Bool.and_eq_true] at this
  exact this.1
theorem encW_le {x : Wri} (h : wOk x = true) : (encW x).length ≤ 101 := by
  obtain ⟨h1, h2, _, _⟩ := wOk_bounds h
  have u1 := uvar_len10 (n := x.key.length) (by omega)
  have u2 := uvar_len10 (n := x.val.length) (by omega)
  unfold encW txt
  split <;> simp <;> omega
theorem encWs_le {ws : List Wri} (h : ∀ k (hk : k < ws.length), wOk ws[k] = true) : (encWs ws).length ≤ 101 * ws.length := by
  induction ws with
  | nil => simp [encWs]
  | cons x r ih =>
    have h0 := encW_le (h 0 (by simp))
    have h1 := ih (fun k hk => h (k + 1) (by simpa using hk))
    simp only [encWs, List.flatMap_cons, List.length_append, List.length_cons] at h1 ⊢
    simp only [List.getElem_cons_zero] at h0
    omega

/-! ### reading -/
def rWri (b : List UInt8) (s : RS) : Wri × RS :=
  let f := rFlag b s
  let k := rTxt b 16 f.2
  if f.1 = true then (⟨k.1, [], true⟩, k.2) else
    let v := rTxt b 64 k.2
    (⟨k.1, v.1, false⟩, v.2)
/-- So many things, one behind the other, as long as there is no fault. -/
def rList {α : Type} (one : RS → α × RS) : Nat → RS → List α × RS
  | 0, s => ([], s)
  | n + 1, s => if s.bad = true then ([], s) else
    let x := one s
    let r := rList one n x.2
    (x.1 :: r.1, r.2)
def rCom (b : List UInt8) (s : RS) : (Nat × List Wri) × RS :=
  let t := rNum b 1099511627775 s
  let n := rNum b 64 t.2
  let l := rList (rWri b) n.1 n.2
  ((t.1, l.1), l.2)
def decCom (b : List UInt8) : (Nat × List Wri) × Nat × Nat :=
  let q := rCom b (startC b 67)
  ansC (0, []) q.1 (endC b q.2 (comOk q.1.1 q.1.2))

theorem rList_snoc {α : Type} (one : RS → α × RS) : ∀ (n : Nat) (s : RS), (rList one n s).2.bad = false → rList one (n + 1) s = ((rList one n s).1 ++ [(one (rList one n s).2).1], (one (rList one n s).2).2)
  | 0, s, h => by
    simp only [rList] at h ⊢
    rw [if_neg (by rw [h]; simp)]
    rfl
  | n + 1, s, h => by
    by_cases hb : s.bad = true
    · rw [rList, if_pos hb] at h
      rw [hb] at h; cases h
    · have e : rList one (n + 1) s = ((one s).1 :: (rList one n (one s).2).1, (rList one n (one s).2).2) := by rw [rList, if_neg hb]
      have e2 : rList one (n + 1 + 1) s = ((one s).1 :: (rList one (n + 1) (one s).2).1, (rList one (n + 1) (one s).2).2) := by rw [rList, if_neg hb]
      rw [e] at h ⊢
      rw [e2, rList_snoc one n (one s).2 h]
      rfl
theorem rList_stop {α : Type} (one : RS → α × RS) : ∀ (n k : Nat) (s : RS), k ≤ n → (rList one k s).2.bad = true → rList one n s = rList one k s
  | n, 0, s, _, h => by
    simp only [rList] at h
    rcases n with _ | n
    · rfl
    · show rList one (n + 1) s = ([], s)
      simp [rList, h]
  | 0, k + 1, s, hk, _ => by omega
  | n + 1, k + 1, s, hk, h => by
    by_cases hb : s.bad = true
    · rw [rList, if_pos hb, rList, if_pos hb]
    · have e : rList one (k + 1) s = ((one s).1 :: (rList one k (one s).2).1, (rList one k (one s).2).2) := by rw [rList, if_neg hb]
      rw [e] at h ⊢
      rw [rList, if_neg hb]
      simp only at h ⊢
      rw [rList_stop one n k (one s).2 (by omega) h]
theorem rList_len {α : Type} (one : RS → α × RS) : ∀ (n : Nat) (s : RS), (rList one n s).1.length ≤ n
  | 0, s => by simp [rList]
  | n + 1, s => by
    rw [rList]
    split
    · simp
    · have := rList_len one n (one s).2
      simp only [List.length_cons]
      omega
theorem rWri_at (b : List UInt8) (s : RS) : (rWri b s).2.at_ ≤ max s.at_ b.length := by
  have h1 := rFlag_at b s
  have h2 := rTxt_at b 16 (rFlag b s).2
  have h3 := rTxt_at b 64 (rTxt b 16 (rFlag b s).2).2
  unfold rWri
  simp only
  split
  · simp only; omega
  · simp only; omega
theorem rList_at {α : Type} (b : List UInt8) (one : RS → α × RS) (h : ∀ s, (one s).2.at_ ≤ max s.at_ b.length) : ∀ (n : Nat) (s : RS), (rList one n s).2.at_ ≤ max s.at_ b.length
  | 0, s => by simp only [rList]; omega
  | n + 1, s => by
    rw [rList]
    split
    · simp only; omega
    · have h1 := rList_at b one h n (one s).2
      have h2 := h s
      simp only
      omega
theorem rWri_bad (b : List UInt8) (a : Nat) : (rWri b ⟨a, true⟩).2 = ⟨a, true⟩ := by unfold rWri; simp only [rFlag_bad, rTxt_bad]; simp
theorem rList_bad {α : Type} (one : RS → α × RS) (n a : Nat) : rList one n ⟨a, true⟩ = ([], ⟨a, true⟩) := by cases n <;> simp [rList]
theorem rCom_bad (b : List UInt8) (a : Nat) : rCom b ⟨a, true⟩ = ((0, []), ⟨a, true⟩) := by unfold rCom; simp only [rNum_bad, rList_bad]
theorem rWri_len (b : List UInt8) (s : RS) : (rWri b s).1.key.length ≤ 16 ∧ (rWri b s).1.val.length ≤ 64 := by
  have h2 := rTxt_le b 16 (rFlag b s).2
  have h3 := rTxt_le b 64 (rTxt b 16 (rFlag b s).2).2
  unfold rWri
  simp only
  split
  · exact ⟨h2, by simp⟩
  · exact ⟨h2, h3⟩
end Go.Proofs.Ytggjipfdfpdecaa
