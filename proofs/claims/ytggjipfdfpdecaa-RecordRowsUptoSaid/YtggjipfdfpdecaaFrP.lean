/- Plain: frames as bytes: how they are laid, how they are read; no program in sight. -/
import Derived.Test.YtggjipfdfpdecaaCrc
namespace Go.Proofs.Ytggjipfdfpdecaa

def le : Nat → Nat → List UInt8
  | _, 0 => []
  | n, k + 1 => UInt8.ofNat (n % 256) :: le (n / 256) k
def unle : List UInt8 → Nat
  | [] => 0
  | c :: r => c.toNat + 256 * unle r

theorem le_len : ∀ (k n : Nat), (le n k).length = k
  | 0, _ => rfl
  | k + 1, n => by simp [le, le_len k]
theorem unle_le : ∀ (k n : Nat), n < 256 ^ k → unle (le n k) = n
  | 0, n, h => by simp [le, unle] at *; omega
  | k + 1, n, h => by
    rw [Nat.pow_succ] at h
    simp only [le, unle]
    rw [unle_le k (n / 256) (by omega), UInt8.toNat_ofNat']
    omega
theorem le_unle : ∀ (l : List UInt8), le (unle l) l.length = l
  | [] => rfl
  | c :: r => by
    have hc := c.toNat_lt
    simp only [List.length_cons, le, unle]
    have e1 : (c.toNat + 256 * unle r) % 256 = c.toNat := by omega
    have e2 : (c.toNat + 256 * unle r) / 256 = unle r := by omega
    rw [e1, e2, le_unle r, UInt8.ofNat_toNat]
theorem unle_lt : ∀ (l : List UInt8), unle l < 256 ^ l.length
  | [] => by simp [unle]
  | c :: r => by
    have hc := c.toNat_lt
    have := unle_lt r
    simp only [unle, List.length_cons, Nat.pow_succ]
    omega
theorem unle_append : ∀ (l r : List UInt8), unle (l ++ r) = unle l + 256 ^ l.length * unle r
  | [], r => by simp [unle]
  | c :: l, r => by
    simp only [List.cons_append, unle, List.length_cons, unle_append l r, Nat.pow_succ, Nat.mul_add]
    rw [Nat.mul_comm (256 ^ l.length) 256, Nat.mul_assoc]
    omega

/-! ### blocks -/
/-- The stream's bytes, a mark ahead of each 31 of them; k: how many stand ahead. -/
def lay : Nat → List UInt8 → List UInt8
  | _, [] => []
  | k, c :: r => if k % 31 = 0 then 0xB2 :: c :: lay (k + 1) r else c :: lay (k + 1) r

theorem lay_append : ∀ (l r : List UInt8) (k : Nat), lay k (l ++ r) = lay k l ++ lay (k + l.length) r
  | [], r, k => by simp [lay]
  | c :: l, r, k => by
    have e : k + (l.length + 1) = k + 1 + l.length := by omega
    simp only [List.cons_append, lay, lay_append l r (k + 1), List.length_cons, e]
    split <;> simp

theorem lay_plain : ∀ (l : List UInt8) (k : Nat), 1 ≤ k % 31 → k % 31 + l.length ≤ 31 → lay k l = l
  | [], _, _, _ => rfl
  | c :: r, k, h1, h2 => by
    simp only [lay, List.length_cons] at *
    rw [if_neg (by omega)]
    by_cases hr : r = []
    · subst hr; rfl
    · have : 1 ≤ r.length := by
        rcases r with _ | ⟨x, r⟩
        · exact absurd rfl hr
        · simp
      rw [lay_plain r (k + 1) (by omega) (by omega)]

theorem lay_block (k : Nat) (l : List UInt8) (hk : k % 31 = 0) (h1 : 1 ≤ l.length) (h2 : l.length ≤ 31) : lay k l = 0xB2 :: l := by
  rcases l with _ | ⟨c, r⟩
  · simp at h1
  · simp only [lay, if_pos hk]
    simp only [List.length_cons] at h2
    rw [lay_plain r (k + 1) (by omega) (by omega)]

theorem lay_mod : ∀ (l : List UInt8) (a b : Nat), a % 31 = b % 31 → lay a l = lay b l
  | [], _, _, _ => rfl
  | c :: r, a, b, h => by
    simp only [lay]
    rw [lay_mod r (a + 1) (b + 1) (by omega), h]

/-- How many bytes of nothing a stream of n bytes ends in. -/
def pads (n : Nat) : Nat := (31 - n % 31) % 31
def bl (n : Nat) : Nat := (n + 50) / 31
theorem pads_bl (n : Nat) : 20 + n + pads (20 + n) = 31 * bl n := by unfold pads bl; omega
theorem bl_pos (n : Nat) : 1 ≤ bl n := by unfold bl; omega
def padded (s : List UInt8) : List UInt8 := s ++ List.replicate (pads s.length) 0

theorem lay_len : ∀ (j : Nat) (l : List UInt8), l.length = 31 * j → (lay 0 l).length = 32 * j
  | 0, l, h => by
    obtain rfl := List.eq_nil_of_length_eq_zero (by omega : l.length = 0)
    rfl
  | j + 1, l, h => by
    have e : l = l.take (31 * j) ++ l.drop (31 * j) := by simp
    rw [e, lay_append]
    have h1 : (l.take (31 * j)).length = 31 * j := by rw [List.length_take]; omega
    have h2 : (l.drop (31 * j)).length = 31 := by rw [List.length_drop]; omega
    rw [List.length_append, lay_len j _ h1, lay_block _ _ (by omega) (by omega) (by omega)]
    simp [h2]; omega

/-! ### a frame -/
def hd (seq n : Nat) : List UInt8 := le seq 8 ++ le n 4
def hdc (seq n : Nat) : List UInt8 := hd seq n ++ le (crc (hd seq n)).toNat 4
def stream (seq : Nat) (body : List UInt8) : List UInt8 := hdc seq body.length ++ body ++ le (crc (hdc seq body.length ++ body)).toNat 4
def frameOf (seq : Nat) (body : List UInt8) : List UInt8 := (lay 0 (padded (stream seq body))).set 0 0xA1

theorem hd_len (seq n : Nat) : (hd seq n).length = 12 := by simp [hd, le_len]
theorem hdc_len (seq n : Nat) : (hdc seq n).length = 16 := by simp [hdc, hd_len, le_len]
theorem stream_len (seq : Nat) (body : List UInt8) : (stream seq body).length = 20 + body.length := by simp [stream, hdc_len, le_len]; omega
theorem padded_len (seq : Nat) (body : List UInt8) : (padded (stream seq body)).length = 31 * bl body.length := by
  rw [padded, List.length_append, List.length_replicate, stream_len, pads_bl]
theorem frameOf_len (seq : Nat) (body : List UInt8) : (frameOf seq body).length = 32 * bl body.length := by
  rw [frameOf, List.length_set, lay_len _ _ (padded_len seq body)]

/-! ### what stands in bytes -/
/-- The stream of so many blocks. -/
def pieces : Nat → List UInt8 → List UInt8
  | 0, _ => []
  | k + 1, X => (X.drop 1).take 31 ++ pieces k (X.drop 32)
/-- Has each of so many blocks the mark? -/
def marked : Nat → List UInt8 → Bool
  | 0, _ => true
  | k + 1, X => X[0]? == some 0xB2 && marked k (X.drop 32)

theorem pieces_lay : ∀ (j : Nat) (l r : List UInt8), l.length = 31 * j → pieces j (lay 0 l ++ r) = l
  | 0, l, r, h => by
    obtain rfl := List.eq_nil_of_length_eq_zero (by omega : l.length = 0)
    rfl
  | j + 1, l, r, h => by
    have h1 : (l.take 31).length = 31 := by rw [List.length_take]; omega
    have h2 : (l.drop 31).length = 31 * j := by rw [List.length_drop]; omega
    have e : lay 0 l = 0xB2 :: l.take 31 ++ lay 0 (l.drop 31) := by
      conv => lhs; rw [← List.take_append_drop 31 l]
      rw [lay_append, lay_block 0 _ rfl (by omega) (by omega), h1]
      congr 1
      exact lay_mod _ 31 0 rfl
    rw [e, pieces, List.append_assoc, List.cons_append, List.drop_succ_cons, List.drop_zero]
    have e2 : (0xB2 :: (l.take 31 ++ (lay 0 (l.drop 31) ++ r))).drop 32 = lay 0 (l.drop 31) ++ r := by
      rw [List.drop_succ_cons, List.drop_append_of_le_length (by omega)]
      rw [List.drop_eq_nil_of_le (by omega)]
      rfl
    rw [e2, pieces_lay j _ r h2, List.take_append_of_le_length (by omega), List.take_of_length_le (by omega), List.take_append_drop]

theorem marked_lay : ∀ (j : Nat) (l r : List UInt8), l.length = 31 * j → marked j (lay 0 l ++ r) = true
  | 0, _, _, _ => rfl
  | j + 1, l, r, h => by
    have h1 : (l.take 31).length = 31 := by rw [List.length_take]; omega
    have h2 : (l.drop 31).length = 31 * j := by rw [List.length_drop]; omega
    have e : lay 0 l = 0xB2 :: l.take 31 ++ lay 0 (l.drop 31) := by
      conv => lhs; rw [← List.take_append_drop 31 l]
      rw [lay_append, lay_block 0 _ rfl (by omega) (by omega), h1]
      congr 1
      exact lay_mod _ 31 0 rfl
    rw [e, List.append_assoc, List.cons_append, marked]
    have e2 : (0xB2 :: (l.take 31 ++ (lay 0 (l.drop 31) ++ r))).drop 32 = lay 0 (l.drop 31) ++ r := by
      rw [List.drop_succ_cons, List.drop_append_of_le_length (by omega)]
      rw [List.drop_eq_nil_of_le (by omega)]
      rfl
    rw [e2, marked_lay j _ r h2]
    rfl

theorem lay_pieces : ∀ (j : Nat) (X : List UInt8), 32 * j ≤ X.length → marked j X = true → lay 0 (pieces j X) = X.take (32 * j)
  | 0, _, _, _ => rfl
  | j + 1, X, hl, hm => by
    rcases X with _ | ⟨c, X⟩
    · simp at hl
    simp only [marked, Bool.and_eq_true] at hm
    obtain ⟨hc, hm⟩ := hm
    simp only [List.length_cons] at hl
    have hc' : c = 0xB2 := by simpa using hc
    subst hc'
    have h1 : (X.take 31).length = 31 := by rw [List.length_take]; omega
    rw [pieces, List.drop_succ_cons, List.drop_zero, lay_append, lay_block 0 _ rfl (by omega) (by omega), h1]
    rw [Nat.zero_add, lay_mod _ 31 0 rfl, lay_pieces j _ (by simp; omega) hm]
    have e : 32 * (j + 1) = 31 + 32 * j + 1 := by omega
    rw [e, List.take_succ_cons, List.cons_append, List.drop_succ_cons]
    congr 1
    rw [List.take_add]

theorem pieces_len : ∀ (j : Nat) (X : List UInt8), 32 * j ≤ X.length → (pieces j X).length = 31 * j
  | 0, _, _ => rfl
  | j + 1, X, h => by
    rw [pieces, List.length_append, pieces_len j _ (by simp; omega), List.length_take, List.length_drop]
    omega

/-- The first block's beginning. -/
theorem pieces_take (j : Nat) (X : List UInt8) (m : Nat) (hm : m ≤ 31) (h : 32 * (j + 1) ≤ X.length) : (pieces (j + 1) X).take m = (X.drop 1).take m := by
  rw [pieces, List.take_append_of_le_length (by rw [List.length_take, List.length_drop]; omega), List.take_take, Nat.min_eq_left hm]

/-! ### reading a frame -/
def hof (X : List UInt8) : List UInt8 := (X.drop 1).take 16
def nof (X : List UInt8) : Nat := unle (((hof X).take 12).drop 8)
def seqof (X : List UInt8) : Nat := unle ((hof X).take 8)
/-- Is the beginning of X the head of a frame that has room? -/
def headOk (X : List UInt8) : Prop := X[0]? = some 0xA1 ∧ unle (((hof X).take 16).drop 12) = (crc ((hof X).take 12)).toNat ∧ nof X ≤ 65536 ∧ bl (nof X) * 32 ≤ X.length
def sof (X : List UInt8) : List UInt8 := pieces (bl (nof X)) X
/-- Are the marks behind the first there, and are the sum and what is behind right? -/
def marksOk (X : List UInt8) : Prop := marked (bl (nof X) - 1) (X.drop 32) = true
def sumOk (X : List UInt8) : Prop := unle (((sof X).take (16 + nof X + 4)).drop (16 + nof X)) = (crc ((sof X).take (16 + nof X))).toNat
def restOk (X : List UInt8) : Prop := ∀ c ∈ (sof X).drop (16 + nof X + 4), c = 0
def bodyof (X : List UInt8) : List UInt8 := ((sof X).take (16 + nof X)).drop 16

/-- X begins with the frame of this. -/
def Fr (X : List UInt8) (seq : Nat) (body : List UInt8) : Prop := seq < 18446744073709551616 ∧ body.length ≤ 65536 ∧ frameOf seq body = X.take (32 * bl body.length) ∧ 32 * bl body.length ≤ X.length

theorem take_drop_split (s : List UInt8) (i j : Nat) (h : i ≤ j) : s.take i ++ ((s.take j).drop i) = s.take j := by
  have : s.take i = (s.take j).take i := by rw [List.take_take, Nat.min_eq_left h]
  rw [this, List.take_append_drop]

theorem fr_of (X : List UInt8) (h1 : headOk X) (h2 : marksOk X) (h3 : sumOk X) (h4 : restOk X) : Fr X (seqof X) (bodyof X) ∧ (bodyof X).length = nof X := by
  obtain ⟨ha, hc, hn, hroom⟩ := h1
  have hb1 := bl_pos (nof X)
  obtain ⟨j, hj⟩ : ∃ j, bl (nof X) = j + 1 := ⟨bl (nof X) - 1, by omega⟩
  have hX32 : 32 * (j + 1) ≤ X.length := by omega
  have hhl : (hof X).length = 16 := by unfold hof; rw [List.length_take, List.length_drop]; omega
  have hsl : (sof X).length = 31 * bl (nof X) := by unfold sof; exact pieces_len _ _ (by omega)
  have hpb := pads_bl (nof X)
  have hbl : (bodyof X).length = nof X := by
    unfold bodyof
    rw [List.length_drop, List.length_take]
    omega
  refine ⟨⟨?_, by omega, ?_, by rw [hbl]; omega⟩, hbl⟩
  · have := unle_lt ((hof X).take 8)
    have e : ((hof X).take 8).length = 8 := by rw [List.length_take]; omega
    rw [e] at this
    exact this
  · -- the head's twelve bytes
    have hseq : le (seqof X) 8 = (hof X).take 8 := by
      have := le_unle ((hof X).take 8)
      rwa [show ((hof X).take 8).length = 8 from by rw [List.length_take]; omega] at this
    have hnn : le (nof X) 4 = ((hof X).take 12).drop 8 := by
      have := le_unle (((hof X).take 12).drop 8)
      rwa [show (((hof X).take 12).drop 8).length = 4 from by rw [List.length_drop, List.length_take]; omega] at this
    have hhd : hd (seqof X) (nof X) = (hof X).take 12 := by
      unfold hd
      rw [hseq, hnn]
      exact take_drop_split _ 8 12 (by omega)
    have hcc : le (crc (hd (seqof X) (nof X))).toNat 4 = ((hof X).take 16).drop 12 := by
      rw [hhd, ← hc]
      have := le_unle (((hof X).take 16).drop 12)
      rwa [show (((hof X).take 16).drop 12).length = 4 from by rw [List.length_drop, List.length_take]; omega] at this
    have hhdc : hdc (seqof X) (nof X) = hof X := by
      unfold hdc
      rw [hcc, hhd, take_drop_split _ 12 16 (by omega), List.take_of_length_le (by omega)]
    have hs16 : (sof X).take 16 = hof X := by
      unfold sof hof
      rw [hj, pieces_take j X 16 (by omega) hX32]
    have hst : hdc (seqof X) (bodyof X).length ++ bodyof X = (sof X).take (16 + nof X) := by
      rw [hbl, hhdc, ← hs16]
      unfold bodyof
      exact take_drop_split _ 16 (16 + nof X) (by omega)
    have hsum : le (crc ((sof X).take (16 + nof X))).toNat 4 = ((sof X).take (16 + nof X + 4)).drop (16 + nof X) := by
      rw [← h3]
      have := le_unle (((sof X).take (16 + nof X + 4)).drop (16 + nof X))
      rwa [show (((sof X).take (16 + nof X + 4)).drop (16 + nof X)).length = 4 from by rw [List.length_drop, List.length_take]; omega] at this
    have hstr : stream (seqof X) (bodyof X) = (sof X).take (16 + nof X + 4) := by
      unfold stream
      rw [hst, hsum, take_drop_split _ _ _ (by omega)]
    have hpad : padded (stream (seqof X) (bodyof X)) = sof X := by
      unfold padded
      rw [stream_len, hbl, hstr]
      have e : List.replicate (pads (20 + nof X)) (0 : UInt8) = (sof X).drop (16 + nof X + 4) := by
        apply List.ext_getElem
        · rw [List.length_replicate, List.length_drop]; omega
        · intro i hi hi2
          rw [List.getElem_replicate]
          exact (h4 _ (List.getElem_mem hi2)).symm
      rw [e, List.take_append_drop]
    unfold frameOf
    rw [hpad, hbl]
    -- the marks
    have hX0 : X = 0xA1 :: X.drop 1 := by
      rcases X with _ | ⟨c, X⟩
      · simp at ha
      · simp at ha; subst ha; rfl
    have hX2 : pieces (bl (nof X)) X = pieces (bl (nof X)) (X.set 0 0xB2) := by
      rw [hj]
      conv => lhs; rw [hX0]
      conv => rhs; rw [hX0]
      rfl
    have hm : marked (bl (nof X)) (X.set 0 0xB2) = true := by
      rw [hj]
      unfold marksOk at h2
      rw [hj, Nat.add_sub_cancel] at h2
      conv => lhs; arg 2; rw [hX0]
      rw [List.set_cons_zero, marked]
      have e : (0xB2 :: X.drop 1).drop 32 = X.drop 32 := by rw [List.drop_succ_cons, List.drop_drop]
      rw [e, h2]
      rfl
    unfold sof
    rw [hX2, lay_pieces _ _ (by rw [List.length_set]; omega) hm]
    have hset : X.set 0 0xB2 = 0xB2 :: X.drop 1 := by conv => lhs; rw [hX0, List.set_cons_zero]
    rw [hset, hj, show 32 * (j + 1) = (32 * j + 31) + 1 from by omega, List.take_succ_cons, List.set_cons_zero]
    conv => rhs; rw [hX0, List.take_succ_cons]

theorem fr_back (X : List UInt8) (seq : Nat) (body : List UInt8) (h : Fr X seq body) : headOk X ∧ marksOk X ∧ sumOk X ∧ restOk X ∧ seqof X = seq ∧ bodyof X = body ∧ nof X = body.length := by
  obtain ⟨hs, hb, hf, hl⟩ := h
  have hb1 := bl_pos body.length
  obtain ⟨j, hj⟩ : ∃ j, bl body.length = j + 1 := ⟨bl body.length - 1, by omega⟩
  have hpb := pads_bl body.length
  have hP := padded_len seq body
  obtain ⟨P, hPd⟩ : ∃ P, P = padded (stream seq body) := ⟨_, rfl⟩
  rw [← hPd] at hP
  have hf' : frameOf seq body = (lay 0 P).set 0 0xA1 := by unfold frameOf; rw [hPd]
  -- X in parts
  have hXs : X = (lay 0 P).set 0 0xA1 ++ X.drop (32 * bl body.length) := by
    conv => lhs; rw [← List.take_append_drop (32 * bl body.length) X, ← hf, hf']
  have h31 : (P.take 31).length = 31 := by rw [List.length_take]; omega
  have hP2 : (P.drop 31).length = 31 * j := by rw [List.length_drop]; omega
  have hlay : lay 0 P = 0xB2 :: P.take 31 ++ lay 0 (P.drop 31) := by
    conv => lhs; rw [← List.take_append_drop 31 P]
    rw [lay_append, lay_block 0 _ rfl (by omega) (by omega), h31]
    congr 1
    exact lay_mod _ 31 0 rfl
  obtain ⟨R, hR⟩ : ∃ R, R = X.drop (32 * bl body.length) := ⟨_, rfl⟩
  have hX : X = 0xA1 :: (P.take 31 ++ (lay 0 (P.drop 31) ++ R)) := by
    rw [hXs, hlay, ← hR]
    simp
  have hd1 : X.drop 1 = P.take 31 ++ (lay 0 (P.drop 31) ++ R) := by rw [hX]; rfl
  have hd32 : X.drop 32 = lay 0 (P.drop 31) ++ R := by
    rw [hX, List.drop_succ_cons, List.drop_append_of_le_length (by omega), List.drop_eq_nil_of_le (by omega)]
    rfl
  have hof' : hof X = P.take 16 := by
    unfold hof
    rw [hd1, List.take_append_of_le_length (by omega), List.take_take]
    rfl
  have hst : P.take (20 + body.length) = stream seq body := by
    rw [hPd, padded, List.take_append_of_le_length (by rw [stream_len]; omega), List.take_of_length_le (by rw [stream_len]; omega)]
  have hst16 : P.take 16 = hdc seq body.length := by
    have : P.take 16 = (P.take (20 + body.length)).take 16 := by rw [List.take_take, Nat.min_eq_left (by omega)]
    rw [this, hst, stream, List.append_assoc, List.take_append_of_le_length (by rw [hdc_len]; omega), List.take_of_length_le (by rw [hdc_len]; omega)]
  have hh12 : (hof X).take 12 = hd seq body.length := by
    rw [hof', hst16, hdc, List.take_append_of_le_length (by rw [hd_len]; omega), List.take_of_length_le (by rw [hd_len]; omega)]
  have hn : nof X = body.length := by
    unfold nof
    rw [hh12, hd, List.drop_append_of_le_length (by rw [le_len]; omega), List.drop_eq_nil_of_le (by rw [le_len]; omega), List.nil_append, unle_le 4 _ (by omega)]
  have hsq : seqof X = seq := by
    unfold seqof
    have : (hof X).take 8 = ((hof X).take 12).take 8 := by rw [List.take_take]; rfl
    rw [this, hh12, hd, List.take_append_of_le_length (by rw [le_len]; omega), List.take_of_length_le (by rw [le_len]; omega), unle_le 8 _ (by omega)]
  have hsof : sof X = P := by
    unfold sof
    rw [hn, hj, pieces, hd1, hd32, pieces_lay j _ R hP2, List.take_append_of_le_length (by omega), List.take_take, Nat.min_self, List.take_append_drop]
  have hst2 : P.take (16 + body.length) = hdc seq body.length ++ body := by
    have : P.take (16 + body.length) = (P.take (20 + body.length)).take (16 + body.length) := by rw [List.take_take, Nat.min_eq_left (by omega)]
    rw [this, hst, stream, List.take_append_of_le_length (by rw [List.length_append, hdc_len]; omega), List.take_of_length_le (by rw [List.length_append, hdc_len]; omega)]
  refine ⟨⟨by rw [hX]; rfl, ?_, by omega, by rw [hn]; omega⟩, ?_, ?_, ?_, hsq, ?_, hn⟩
  · rw [hh12]
    rw [hof', hst16, List.take_of_length_le (by rw [hdc_len]; omega), hdc, List.drop_append_of_le_length (by rw [hd_len]; omega), List.drop_eq_nil_of_le (by rw [hd_len]; omega), List.nil_append, unle_le 4 _ (by have := (crc (hd seq body.length)).isLt; omega)]
  · unfold marksOk
    rw [hn, hj, Nat.add_sub_cancel, hd32]
    exact marked_lay j _ R hP2
  · unfold sumOk
    rw [hsof, hn, hst2]
    have e : 16 + body.length + 4 = 20 + body.length := by omega
    rw [e, hst, stream, List.drop_append_of_le_length (by rw [List.length_append, hdc_len]; omega), List.drop_eq_nil_of_le (by rw [List.length_append, hdc_len]; omega), List.nil_append, unle_le 4 _ (by have := (crc (hdc seq body.length ++ body)).isLt; omega)]
  · unfold restOk
    rw [hsof, hn]
    have e : 16 + body.length + 4 = (stream seq body).length := by rw [stream_len]; omega
    rw [e, hPd, padded, List.drop_left]
    intro c hc
    exact List.eq_of_mem_replicate hc
  · unfold bodyof
    rw [hsof, hn, hst2, List.drop_append_of_le_length (by rw [hdc_len]; omega), List.drop_eq_nil_of_le (by rw [hdc_len]; omega), List.nil_append]

/-! ### the frame at a place -/
open Classical in
/-- The number and the body of the frame that X begins with. -/
noncomputable def tkF (X : List UInt8) : Option (Nat × List UInt8) := if headOk X ∧ marksOk X ∧ sumOk X ∧ restOk X then some (seqof X, bodyof X) else none
theorem tkF_some {X : List UInt8} {p : Nat × List UInt8} : tkF X = some p ↔ Fr X p.1 p.2 := by
  unfold tkF
  constructor
  · intro h
    split at h
    · rename_i hc
      obtain ⟨h1, h2, h3, h4⟩ := hc
      cases h
      exact (fr_of X h1 h2 h3 h4).1
    · cases h
  · intro h
    obtain ⟨h1, h2, h3, h4, h5, h6, _⟩ := fr_back X p.1 p.2 h
    rw [if_pos ⟨h1, h2, h3, h4⟩, h5, h6]
theorem tkF_none {X : List UInt8} : tkF X = none ↔ ∀ seq body, ¬ Fr X seq body := by
  constructor
  · intro h seq body hf
    have := (tkF_some (X := X) (p := (seq, body))).2 hf
    rw [h] at this
    cases this
  · intro h
    cases e : tkF X with
    | none => rfl
    | some p => exact absurd (tkF_some.1 e) (h _ _)
/-- The frame at a place of bytes. -/
noncomputable def frAt (b : List UInt8) (at_ : Int) : Option (Nat × List UInt8) := if 0 ≤ at_ ∧ at_ % 32 = 0 ∧ at_ + 32 ≤ b.length then tkF (b.drop at_.toNat) else none
theorem frAt_some {b : List UInt8} {at_ : Int} {p : Nat × List UInt8} (h : frAt b at_ = some p) : 0 ≤ at_ ∧ at_ % 32 = 0 ∧ at_ + 32 * bl p.2.length ≤ b.length ∧ p.1 < 18446744073709551616 ∧ p.2.length ≤ 65536 ∧ Fr (b.drop at_.toNat) p.1 p.2 := by
  unfold frAt at h
  split at h
  · rename_i hc
    have hf := tkF_some.1 h
    have := hf.2.2.2
    rw [List.length_drop] at this
    exact ⟨hc.1, hc.2.1, by omega, hf.1, hf.2.1, hf⟩
  · cases h

end Go.Proofs.Ytggjipfdfpdecaa
