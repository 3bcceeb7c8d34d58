/- Plain: one byte of a frame that is another one is told. -/
import Derived.Test.YtggjipfdfpdecaaFrN
namespace Go.Proofs.Ytggjipfdfpdecaa

theorem crc_set (l : List UInt8) (i : Nat) (h : i < l.length) (y : UInt8) (hy : y ≠ l[i]) : crc (l.set i y) ≠ crc l := by
  have e1 : l = l.take i ++ l[i] :: l.drop (i + 1) := by rw [List.getElem_cons_drop, List.take_append_drop]
  have e2 : l.set i y = l.take i ++ y :: l.drop (i + 1) := by rw [List.set_eq_take_append_cons_drop, if_pos h]
  rw [e2]
  conv => rhs; rw [e1]
  exact crc_turn _ _ _ _ hy
theorem unle_inj {l r : List UInt8} (hl : l.length = r.length) (h : unle l = unle r) : l = r := by
  rw [← le_unle l, ← le_unle r, hl, h]
theorem set_ne (l : List UInt8) (i : Nat) (h : i < l.length) (y : UInt8) (hy : y ≠ l[i]) : l.set i y ≠ l := by
  intro e
  have : (l.set i y)[i]? = l[i]? := by rw [e]
  rw [List.getElem?_set_self h, List.getElem?_eq_getElem h] at this
  exact hy (Option.some.inj this)
/-- Behind a sum and its field as they were: one other byte is told. -/
theorem sum_set (S : List UInt8) (k : Nat) (hk : k + 4 ≤ S.length) (i : Nat) (hi : i < k + 4) (y : UInt8) (hy : y ≠ S[i]'(by omega)) (h1 : unle ((S.take (k + 4)).drop k) = (crc (S.take k)).toNat) :
    unle (((S.set i y).take (k + 4)).drop k) ≠ (crc ((S.set i y).take k)).toNat := by
  intro h2
  by_cases hik : i < k
  · have e1 : ((S.set i y).take (k + 4)).drop k = (S.take (k + 4)).drop k := by
      rw [List.take_set, List.drop_set_of_lt hik]
    have e2 : (S.set i y).take k = (S.take k).set i y := by rw [List.take_set]
    rw [e1, h1, e2] at h2
    have h3 := BitVec.eq_of_toNat_eq h2
    refine crc_set (S.take k) i (by rw [List.length_take]; omega) y ?_ h3.symm
    rw [List.getElem_take]
    exact hy
  · have e2 : (S.set i y).take k = S.take k := by rw [List.take_set_of_le (by omega)]
    rw [e2, ← h1] at h2
    have h3 := unle_inj (by simp) h2
    have e3 : ((S.set i y).take (k + 4)).drop k = ((S.take (k + 4)).drop k).set (i - k) y := by
      rw [List.take_set, List.drop_set, if_neg (by omega)]
    rw [e3] at h3
    refine set_ne _ (i - k) (by rw [List.length_drop, List.length_take]; omega) y ?_ h3
    rw [List.getElem_drop, List.getElem_take]
    have e : k + (i - k) = i := by omega
    simp only [e]
    exact hy

theorem set_drop_low (X : List UInt8) (m i : Nat) (y : UInt8) (h : i < m) : (X.set i y).drop m = X.drop m := List.drop_set_of_lt h
theorem set_drop_high (X : List UInt8) (m i : Nat) (y : UInt8) (h : m ≤ i) : (X.set i y).drop m = (X.drop m).set (i - m) y := by
  rw [List.drop_set, if_neg (by omega)]
/-- A byte of a block, where it stands in the stream. -/
theorem pieces_set : ∀ (m : Nat) (X : List UInt8) (i : Nat) (y : UInt8), i % 32 ≠ 0 → i < 32 * m → pieces m (X.set i y) = (pieces m X).set (31 * (i / 32) + (i % 32 - 1)) y
  | 0, _, _, _, _, h => absurd h (by omega)
  | m + 1, X, i, y, h, hi => by
    by_cases h32 : i < 32
    · have e : 31 * (i / 32) + (i % 32 - 1) = i - 1 := by omega
      rw [pieces, pieces, set_drop_low X 32 i y h32, set_drop_high X 1 i y (by omega), List.take_set, e]
      by_cases hl : i - 1 < ((X.drop 1).take 31).length
      · rw [List.set_append_left _ _ hl]
      · have h1 : X.length ≤ i := by rw [List.length_take, List.length_drop] at hl; omega
        have h2 : X.drop 32 = [] := List.drop_eq_nil_of_le (by omega)
        have h3 : ∀ k, pieces k ([] : List UInt8) = [] := by intro k; induction k with | zero => rfl | succ k ih => simp [pieces, ih]
        rw [h2, h3, List.append_nil, List.append_nil]
    · rw [pieces, pieces, set_drop_high X 32 i y (by omega), pieces_set m (X.drop 32) (i - 32) y (by omega) (by omega), set_drop_high X 1 i y (by omega)]
      have e1 : ((X.drop 1).set (i - 1) y).take 31 = (X.drop 1).take 31 := List.take_set_of_le (by omega)
      rw [e1]
      by_cases hl : ((X.drop 1).take 31).length = 31
      · rw [List.set_append_right _ _ (by omega)]
        congr 2
        omega
      · have h1 : X.length < 32 := by rw [List.length_take, List.length_drop] at hl; omega
        have h2 : X.drop 32 = [] := List.drop_eq_nil_of_le (by omega)
        have h3 : ∀ k, pieces k ([] : List UInt8) = [] := by intro k; induction k with | zero => rfl | succ k ih => simp [pieces, ih]
        rw [h2, h3, List.append_nil, List.set_nil, List.append_nil, List.set_eq_of_length_le (by rw [List.length_take, List.length_drop]; omega)]
theorem pieces_get : ∀ (m : Nat) (X : List UInt8) (i : Nat), i % 32 ≠ 0 → i < 32 * m → i < X.length → (32 * m ≤ X.length) → (pieces m X)[31 * (i / 32) + (i % 32 - 1)]? = X[i]?
  | 0, _, _, _, h, _, _ => absurd h (by omega)
  | m + 1, X, i, h, hi, hl, hm => by
    have h31 : ((X.drop 1).take 31).length = 31 := by rw [List.length_take, List.length_drop]; omega
    rw [pieces]
    by_cases h32 : i < 32
    · have e : 31 * (i / 32) + (i % 32 - 1) = i - 1 := by omega
      rw [e, List.getElem?_append_left (by omega), List.getElem?_take, if_pos (by omega), List.getElem?_drop]
      congr 1
      omega
    · rw [List.getElem?_append_right (by omega), h31]
      have := pieces_get m (X.drop 32) (i - 32) (by omega) (by omega) (by rw [List.length_drop]; omega) (by rw [List.length_drop]; omega)
      rw [List.getElem?_drop] at this
      have e1 : 32 + (i - 32) = i := by omega
      rw [e1] at this
      rw [← this]
      congr 1
      omega
theorem marked_get : ∀ (m : Nat) (X : List UInt8) (k : Nat), marked m X = true → k < m → (X.drop (32 * k))[0]? = some 0xB2
  | 0, _, _, _, h => absurd h (by omega)
  | m + 1, X, k, h, hk => by
    rw [marked_snoc, Bool.and_eq_true] at h
    by_cases e : k = m
    · subst e; simpa using h.2
    · exact marked_get m X k h.1 (by omega)

theorem poked (seq : Nat) (body R : List UInt8) (hs : seq < two64) (hb : body.length ≤ 65536) (i : Nat) (hi : i < 32 * bl body.length) (y : UInt8) (X : List UInt8) (hX : X = frameOf seq body ++ R) (hl : i < X.length) (hy : y ≠ X[i]) :
    ¬ (headOk (X.set i y) ∧ marksOk (X.set i y) ∧ sumOk (X.set i y) ∧ restOk (X.set i y)) := by
  have hfr := fr_self seq body R hs hb
  rw [← hX] at hfr
  obtain ⟨g1, g2, g3, g4, _, _, g7⟩ := fr_back X seq body hfr
  have hroom := g1.2.2.2
  have hbp := bl_pos (nof X)
  rintro ⟨h1, h2, h3, h4⟩
  have hhl : (hof X).length = 16 := by unfold hof; rw [List.length_take, List.length_drop]; omega
  by_cases h0 : i = 0
  · subst h0
    have e1 := h1.1
    rw [List.getElem?_set_self hl] at e1
    have e2 := g1.1
    rw [List.getElem?_eq_getElem hl] at e2
    exact hy ((Option.some.inj e1).trans (Option.some.inj e2).symm)
  by_cases h17 : i < 17
  · have e : hof (X.set i y) = (hof X).set (i - 1) y := by
      unfold hof
      rw [set_drop_high X 1 i y (by omega), List.take_set]
    have e1 := h1.2.1
    rw [e] at e1
    refine sum_set (hof X) 12 (by omega) (i - 1) (by omega) y ?_ g1.2.1 e1
    unfold hof
    rw [List.getElem_take, List.getElem_drop]
    have e3 : 1 + (i - 1) = i := by omega
    simp only [e3]
    exact hy
  have e : hof (X.set i y) = hof X := by
    unfold hof
    rw [set_drop_high X 1 i y (by omega), List.take_set_of_le (by omega)]
  have en : nof (X.set i y) = nof X := by unfold nof; rw [e]
  obtain ⟨n, hn⟩ : ∃ n, n = nof X := ⟨_, rfl⟩
  rw [← g7, ← hn] at hi
  rw [← hn] at hroom hbp
  by_cases h32 : i % 32 = 0
  · unfold marksOk at h2 g2
    rw [en, ← hn] at h2
    rw [← hn] at g2
    have hk : i / 32 - 1 < bl n - 1 := by omega
    have e1 := marked_get _ _ _ h2 hk
    have e2 := marked_get _ _ _ g2 hk
    rw [List.drop_drop, List.getElem?_drop] at e1 e2
    have e3 : 32 + 32 * (i / 32 - 1) + 0 = i := by omega
    rw [e3, List.getElem?_set_self hl] at e1
    rw [e3, List.getElem?_eq_getElem hl] at e2
    exact hy ((Option.some.inj e1).trans (Option.some.inj e2).symm)
  · obtain ⟨S, hS⟩ : ∃ S, S = sof X := ⟨_, rfl⟩
    obtain ⟨j, hj⟩ : ∃ j, j = 31 * (i / 32) + (i % 32 - 1) := ⟨_, rfl⟩
    have hSl : S.length = 31 * bl n := by rw [hS]; unfold sof; rw [← hn]; exact pieces_len _ _ (by omega)
    have eS : sof (X.set i y) = S.set j y := by
      rw [hS]
      unfold sof
      rw [en, ← hn, pieces_set _ X i y h32 hi, hj]
    have hpb := pads_bl n
    have hjl : j < S.length := by rw [hSl, hj]; omega
    have hyj : y ≠ S[j] := by
      have h5 := pieces_get (bl n) X i h32 hi hl (by omega)
      have h6 : pieces (bl n) X = S := by rw [hS]; unfold sof; rw [← hn]
      rw [h6, ← hj, List.getElem?_eq_getElem hjl, List.getElem?_eq_getElem hl] at h5
      rw [Option.some.inj h5]
      exact hy
    unfold sumOk at h3 g3
    rw [eS, en, ← hn] at h3
    rw [← hS, ← hn] at g3
    by_cases hj20 : j < 16 + n + 4
    · exact sum_set S (16 + n) (by omega) j hj20 y hyj g3 h3
    · unfold restOk at h4 g4
      rw [eS, en, ← hn] at h4
      rw [← hS, ← hn] at g4
      have e5 : S[j] = 0 := g4 _ (by
        rw [List.mem_drop_iff_getElem]
        exact ⟨j - (16 + n + 4), by omega, by congr 1; omega⟩)
      have e6 : y = 0 := h4 _ (by
        rw [set_drop_high S _ j y (by omega)]
        exact List.mem_set (by rw [List.length_drop]; omega) _)
      exact hyj (e6.trans e5.symm)
end Go.Proofs.Ytggjipfdfpdecaa
