/- Plain: of frames whose end is cut off, or turned, nothing torn is taken for a frame. -/
import Derived.Test.YtggjipfdfpdecaaFrPk
namespace Go.Proofs.Ytggjipfdfpdecaa

/-- A turned byte. -/
def flip (c : UInt8) : UInt8 := c ^^^ 255
theorem flip_nat (c : UInt8) : (flip c).toNat = 255 - c.toNat := by
  have h : ∀ n : Fin 256, (flip (UInt8.ofNat n.val)).toNat = 255 - n.val := by decide +kernel
  have hc := c.toNat_lt
  have := h ⟨c.toNat, hc⟩
  simpa using this
theorem flip_ne (c : UInt8) : flip c ≠ c := by
  intro h
  have h1 := flip_nat c
  rw [h] at h1
  omega

/-! the sum of turned bytes -/
theorem crcByte_xor (c d : BitVec 32) (a : UInt8) : crcByte (c ^^^ d) (flip a) = crcByte c a ^^^ crcByte d 255 := by
  unfold crcByte
  rw [← crcBits_xor]
  congr 1
  have h : (flip a).toBitVec.zeroExtend 32 = a.toBitVec.zeroExtend 32 ^^^ (255 : UInt8).toBitVec.zeroExtend 32 := by
    unfold flip
    rw [UInt8.toBitVec_xor]
    apply BitVec.eq_of_getLsbD_eq
    intro i hi
    simp only [BitVec.truncate_eq_setWidth, BitVec.getLsbD_setWidth, BitVec.getLsbD_xor]
    by_cases h8 : i < 32 <;> simp [h8]
  rw [h]
  ac_rfl
theorem crcGo_xor : ∀ (l : List UInt8) (c d : BitVec 32), crcGo (c ^^^ d) (l.map flip) = crcGo c l ^^^ crcGo d (List.replicate l.length 255)
  | [], _, _ => rfl
  | a :: l, c, d => by
    have := crcGo_xor l (crcByte c a) (crcByte d 255)
    simp only [crcGo, List.map_cons, List.foldl_cons, List.length_cons, List.replicate_succ] at this ⊢
    rw [crcByte_xor, this]
theorem crc_tail : ∀ m : Fin 28, m.val = 0 ∨ crcGo 0#32 (List.replicate m.val 255) ≠ BitVec.allOnes 32 := by decide +kernel
/-- The last bytes turned, up to 27: the sum is not turned whole. -/
theorem crc_flips (l r : List UInt8) (h1 : 1 ≤ r.length) (h2 : r.length ≤ 27) : crc (l ++ r.map flip) ≠ ~~~ (crc (l ++ r)) := by
  intro h
  unfold crc at h
  have h3 := crc_not_inj h
  rw [crcGo_append, crcGo_append] at h3
  have h4 := crcGo_xor r (crcGo crcInit l) 0#32
  rw [BitVec.xor_zero] at h4
  rw [h4] at h3
  have h5 : ~~~ (crcGo (crcGo crcInit l) r) = crcGo (crcGo crcInit l) r ^^^ BitVec.allOnes 32 := by
    rw [BitVec.xor_allOnes]
  rw [h5] at h3
  have h6 := xor_cancel_left h3
  rcases crc_tail ⟨r.length, by omega⟩ with h7 | h7
  · simp only at h7; omega
  · exact h7 h6

/-! bytes, the end turned -/
/-- The first N bytes, turned from p on. -/
def turned (Z : List UInt8) (p N : Nat) : List UInt8 := (Z.take N).take p ++ ((Z.take N).drop p).map flip
theorem turned_len (Z : List UInt8) (p N : Nat) (h : N ≤ Z.length) : (turned Z p N).length = N := by
  unfold turned
  rw [List.length_append, List.length_map, List.length_take, List.length_drop, List.length_take]
  omega
theorem turned_low (Z : List UInt8) (p N i : Nat) (h : i < p) (hN : i < N) : (turned Z p N)[i]? = Z[i]? := by
  unfold turned
  by_cases hl : i < Z.length
  · rw [List.getElem?_append_left (by rw [List.length_take, List.length_take]; omega), List.getElem?_take, if_pos h, List.getElem?_take, if_pos hN]
  · rw [List.getElem?_eq_none (by omega : Z.length ≤ i), List.getElem?_eq_none]
    rw [List.length_append, List.length_map, List.length_take, List.length_drop, List.length_take]
    omega
theorem turned_high (Z : List UInt8) (p N i : Nat) (h : p ≤ i) (hN : i < N) (hl : N ≤ Z.length) : (turned Z p N)[i]? = (Z[i]?).map flip := by
  unfold turned
  have h1 : ((Z.take N).take p).length = p := by rw [List.length_take, List.length_take]; omega
  rw [List.getElem?_append_right (by omega), h1, List.getElem?_map, List.getElem?_drop, List.getElem?_take]
  have e : p + (i - p) = i := by omega
  rw [e, if_pos hN]

theorem unle_top (l : List UInt8) (h : l.length = 4) (c : UInt8) (hc : l[3]? = some c) : 16777216 * c.toNat ≤ unle l ∧ unle l < 16777216 * c.toNat + 16777216 := by
  match l, h with
  | [x, y, z, t], _ =>
    simp at hc
    subst hc
    have := x.toNat_lt
    have := y.toNat_lt
    have := z.toNat_lt
    simp only [unle]
    omega
theorem unle_flip (l : List UInt8) : unle (l.map flip) + unle l + 1 = 256 ^ l.length := by
  induction l with
  | nil => rfl
  | cons c r ih =>
    have h1 := flip_nat c
    have h2 := c.toNat_lt
    simp only [List.map_cons, unle, List.length_cons, Nat.pow_succ]
    rw [h1]
    omega

theorem hof_get (X : List UInt8) (i : Nat) (h : i < 16) : (hof X)[i]? = X[i + 1]? := by
  unfold hof
  rw [List.getElem?_take, if_pos h, List.getElem?_drop, Nat.add_comm]

theorem nf_get (X : List UInt8) : (((hof X).take 12).drop 8)[3]? = X[12]? := by
  rw [List.getElem?_drop, List.getElem?_take, if_pos (by omega), hof_get _ _ (by omega)]

/-- The block marks of frames that are laid: what stands at each multiple of 32. -/
def Marks (Z : List UInt8) : Prop := ∀ k c, Z[32 * k]? = some c → c = 0xA1 ∨ c = 0xB2

/-- A frame whose end is turned, or cut off: none stands at any place from its beginning on. -/
theorem torn_none (seq : Nat) (body R Z : List UInt8) (hs : seq < two64) (hb : body.length ≤ 65536) (hZ : Z = frameOf seq body ++ R) (hM : Marks Z) (p N : Nat) (hp : p < 32 * bl body.length) (hpN : p ≤ N) (hN : N ≤ Z.length) (j : Nat) :
    ¬ (headOk ((turned Z p N).drop (32 * j)) ∧ marksOk ((turned Z p N).drop (32 * j)) ∧ sumOk ((turned Z p N).drop (32 * j)) ∧ restOk ((turned Z p N).drop (32 * j))) := by
  have hfr := fr_self seq body R hs hb
  rw [← hZ] at hfr
  obtain ⟨g1, g2, g3, g4, _, _, g7⟩ := fr_back Z seq body hfr
  have hbp := bl_pos body.length
  have hZl : 32 * bl body.length ≤ Z.length := by have := g1.2.2.2; rw [g7] at this; omega
  -- the marks within the frame
  have hB2 : ∀ k, 1 ≤ k → k < bl body.length → Z[32 * k]? = some 0xB2 := by
    intro k h1 h2
    have g2' := g2
    unfold marksOk at g2'
    rw [g7] at g2'
    have := marked_get _ _ (k - 1) g2' (by omega)
    rw [List.drop_drop, List.getElem?_drop] at this
    rw [← this]
    congr 1
    omega
  obtain ⟨Y, hY⟩ : ∃ Y, Y = turned Z p N := ⟨_, rfl⟩
  have hYl : Y.length = N := by rw [hY]; exact turned_len Z p N hN
  rw [← hY]
  rintro ⟨h1, h2, h3, h4⟩
  by_cases hj : 1 ≤ j ∨ p = 0
  · have e1 := h1.1
    rw [List.getElem?_drop, Nat.add_zero] at e1
    have hlt : 32 * j < N := by
      rcases Nat.lt_or_ge (32 * j) N with h | h
      · exact h
      · rw [List.getElem?_eq_none (by omega)] at e1; cases e1
    by_cases hpi : p ≤ 32 * j
    · rw [hY, turned_high Z p N _ hpi hlt hN] at e1
      obtain ⟨c, hc⟩ : ∃ c, Z[32 * j]? = some c := ⟨_, List.getElem?_eq_getElem (by omega)⟩
      rw [hc] at e1
      rcases hM j c hc with rfl | rfl
      · exact absurd (Option.some.inj e1) (by decide)
      · exact absurd (Option.some.inj e1) (by decide)
    · rw [hY, turned_low Z p N _ (by omega) hlt, hB2 j (by omega) (by omega)] at e1
      exact absurd (Option.some.inj e1) (by decide)
  obtain rfl : j = 0 := by omega
  rw [Nat.mul_zero, List.drop_zero] at h1 h2 h3 h4
  have hp0 : 1 ≤ p := by omega
  have hroom := h1.2.2.2
  have hbp' := bl_pos (nof Y)
  have low : ∀ i, i < p → i < N → Y[i]? = Z[i]? := fun i a b => by rw [hY]; exact turned_low Z p N i a b
  have high : ∀ i, p ≤ i → i < N → Y[i]? = (Z[i]?).map flip := fun i a b => by rw [hY]; exact turned_high Z p N i a b hN
  by_cases h12 : p ≤ 12
  · have e1 := unle_top _ (by rw [List.length_drop, List.length_take]; unfold hof; rw [List.length_take, List.length_drop]; omega) Z[12] (by rw [nf_get]; exact List.getElem?_eq_getElem (by omega) : (((hof Z).take 12).drop 8)[3]? = _)
    have e2 := unle_top _ (by rw [List.length_drop, List.length_take]; unfold hof; rw [List.length_take, List.length_drop]; omega) (flip Z[12]) (by rw [nf_get, high 12 h12 (by omega), List.getElem?_eq_getElem (by omega : 12 < Z.length)]; rfl : (((hof Y).take 12).drop 8)[3]? = _)
    have e3 : nof Z ≤ 65536 := g1.2.2.1
    have e4 : nof Y ≤ 65536 := h1.2.2.1
    have e5 := flip_nat Z[12]
    unfold nof at e3 e4
    omega
  have h12' : ∀ i, i < 12 → (hof Y)[i]? = (hof Z)[i]? := fun i hi => by rw [hof_get _ _ (by omega), hof_get _ _ (by omega), low _ (by omega) (by omega)]
  have hYh : (hof Y).length = 16 := by unfold hof; rw [List.length_take, List.length_drop]; omega
  have hZh : (hof Z).length = 16 := by unfold hof; rw [List.length_take, List.length_drop]; omega
  have et : (hof Y).take 12 = (hof Z).take 12 := by
    apply List.ext_getElem?
    intro i
    by_cases hi : i < 12
    · rw [List.getElem?_take, List.getElem?_take, if_pos hi, if_pos hi, h12' i hi]
    · rw [List.getElem?_eq_none (by rw [List.length_take]; omega), List.getElem?_eq_none (by rw [List.length_take]; omega)]
  by_cases h16 : p ≤ 16
  · have e1 := h1.2.1
    rw [et, ← g1.2.1] at e1
    have e2 := unle_inj (by rw [List.length_drop, List.length_take, List.length_drop, List.length_take]; omega) e1
    have e3 : (((hof Y).take 16).drop 12)[3]? = (((hof Z).take 16).drop 12)[3]? := by rw [e2]
    rw [List.getElem?_drop, List.getElem?_drop, List.getElem?_take, List.getElem?_take, if_pos (by omega), hof_get _ _ (by omega), hof_get _ _ (by omega), high 16 h16 (by omega), List.getElem?_eq_getElem (by omega : 12 + 3 + 1 < Z.length)] at e3
    exact flip_ne _ (Option.some.inj e3)
  have eh : hof Y = hof Z := by
    apply List.ext_getElem?
    intro i
    by_cases hi : i < 16
    · rw [hof_get _ _ hi, hof_get _ _ hi, low _ (by omega) (by omega)]
    · rw [List.getElem?_eq_none (by omega), List.getElem?_eq_none (by omega)]
  have en : nof Y = body.length := by rw [← g7]; unfold nof; rw [eh]
  obtain ⟨n, hn⟩ : ∃ n, n = body.length := ⟨_, rfl⟩
  rw [← hn] at en g7 hZl hbp hB2 hp
  rw [en] at hroom hbp'
  by_cases hm : p ≤ 32 * (bl n - 1)
  · have e2 := h2
    unfold marksOk at e2
    rw [en] at e2
    have e1 := marked_get _ _ (bl n - 2) e2 (by omega)
    rw [List.drop_drop, List.getElem?_drop] at e1
    have e3 : 32 + 32 * (bl n - 2) + 0 = 32 * (bl n - 1) := by omega
    rw [e3, high _ hm (by omega), hB2 _ (by omega) (by omega)] at e1
    exact absurd (Option.some.inj e1) (by decide)
  -- the stream
  obtain ⟨S, hS⟩ : ∃ S, S = sof Z := ⟨_, rfl⟩
  obtain ⟨S', hS'⟩ : ∃ S', S' = sof Y := ⟨_, rfl⟩
  have hSl : S.length = 31 * bl n := by rw [hS]; unfold sof; rw [g7]; exact pieces_len _ _ (by omega)
  have hSl' : S'.length = 31 * bl n := by rw [hS']; unfold sof; rw [en]; exact pieces_len _ _ (by omega)
  have hSg : ∀ j, j < 31 * bl n → S[j]? = Z[32 * (j / 31) + (j % 31 + 1)]? := by
    intro j hj
    have := pieces_get (bl n) Z (32 * (j / 31) + (j % 31 + 1)) (by omega) (by omega) (by omega) (by omega)
    rw [← this, hS]
    unfold sof
    rw [g7]
    congr 1
    omega
  have hSg' : ∀ j, j < 31 * bl n → S'[j]? = Y[32 * (j / 31) + (j % 31 + 1)]? := by
    intro j hj
    have := pieces_get (bl n) Y (32 * (j / 31) + (j % 31 + 1)) (by omega) (by omega) (by omega) (by omega)
    rw [← this, hS']
    unfold sof
    rw [en]
    congr 1
    omega
  obtain ⟨q, hq⟩ : ∃ q, q = 31 * (bl n - 1) + (p - 32 * (bl n - 1) - 1) := ⟨_, rfl⟩
  have hqlt : q < 31 * bl n := by omega
  have hlow : ∀ j, j < q → S'[j]? = S[j]? := by
    intro j hj
    rw [hSg' j (by omega), hSg j (by omega), low _ (by omega) (by omega)]
  have hhigh : ∀ j, q ≤ j → j < 31 * bl n → S'[j]? = (S[j]?).map flip := by
    intro j hj hj2
    rw [hSg' j hj2, hSg j hj2, high _ (by omega) (by omega)]
  have htk : S'.take q = S.take q := by
    apply List.ext_getElem?
    intro i
    by_cases hi : i < q
    · rw [List.getElem?_take, List.getElem?_take, if_pos hi, if_pos hi, hlow i hi]
    · rw [List.getElem?_eq_none (by rw [List.length_take]; omega), List.getElem?_eq_none (by rw [List.length_take]; omega)]
  have hdr : S'.drop q = (S.drop q).map flip := by
    apply List.ext_getElem?
    intro i
    rw [List.getElem?_map, List.getElem?_drop, List.getElem?_drop]
    by_cases hi : q + i < 31 * bl n
    · exact hhigh _ (by omega) hi
    · rw [List.getElem?_eq_none (by omega), List.getElem?_eq_none (by omega)]
      rfl
  have hpb := pads_bl n
  have hpd : pads (20 + n) < 31 := by unfold pads; omega
  unfold restOk at h4 g4
  rw [en, ← hS'] at h4
  rw [g7, ← hS] at g4
  unfold sumOk at h3 g3
  rw [en, ← hS'] at h3
  rw [g7, ← hS] at g3
  by_cases hpad : 16 + n + 4 < 31 * bl n
  · have e1 : S[31 * bl n - 1]'(by omega) = 0 := g4 _ (by
      rw [List.mem_drop_iff_getElem]
      exact ⟨31 * bl n - 1 - (16 + n + 4), by omega, by congr 1; omega⟩)
    have e2 : S'[31 * bl n - 1]'(by omega) = 0 := h4 _ (by
      rw [List.mem_drop_iff_getElem]
      exact ⟨31 * bl n - 1 - (16 + n + 4), by omega, by congr 1; omega⟩)
    have e3 := hhigh (31 * bl n - 1) (by omega) (by omega)
    rw [List.getElem?_eq_getElem (by omega), List.getElem?_eq_getElem (by omega), e1, e2] at e3
    exact absurd (Option.some.inj e3) (by decide)
  · have hk : 31 * bl n = 16 + n + 4 := by omega
    have hk4 : S.take (16 + n + 4) = S := List.take_of_length_le (by omega)
    have hk4' : S'.take (16 + n + 4) = S' := List.take_of_length_le (by omega)
    rw [hk4] at g3
    rw [hk4'] at h3
    by_cases hqk : 16 + n ≤ q
    · have e1 : S'.take (16 + n) = S.take (16 + n) := by
        have := congrArg (List.take (16 + n)) htk
        rwa [List.take_take, List.take_take, Nat.min_eq_left hqk] at this
      rw [e1, ← g3] at h3
      have e2 := unle_inj (by rw [List.length_drop, List.length_drop]; omega) h3
      have e3 : (S'.drop (16 + n))[3]? = (S.drop (16 + n))[3]? := by rw [e2]
      rw [List.getElem?_drop, List.getElem?_drop, hhigh _ (by omega) (by omega), List.getElem?_eq_getElem (by omega)] at e3
      exact flip_ne _ (Option.some.inj e3)
    · have e1 : S'.drop (16 + n) = (S.drop (16 + n)).map flip := by
        have := congrArg (List.drop (16 + n - q)) hdr
        rw [List.drop_drop, ← List.map_drop, List.drop_drop] at this
        rwa [show q + (16 + n - q) = 16 + n from by omega] at this
      have e2 : S'.take (16 + n) = S.take q ++ ((S.take (16 + n)).drop q).map flip := by
        have a1 : S'.take (16 + n) = S'.take q ++ (S'.take (16 + n)).drop q := (take_drop_split S' q (16 + n) (by omega)).symm
        rw [a1, htk, List.drop_take, hdr, List.drop_take, List.map_take]
      have e3 : S.take (16 + n) = S.take q ++ (S.take (16 + n)).drop q := (take_drop_split S q (16 + n) (by omega)).symm
      have hr : ((S.take (16 + n)).drop q).length = 16 + n - q := by rw [List.length_drop, List.length_take]; omega
      refine crc_flips (S.take q) ((S.take (16 + n)).drop q) (by omega) (by omega) ?_
      rw [← e3, ← e2]
      apply BitVec.eq_of_toNat_eq
      rw [← h3, e1, BitVec.toNat_not, ← g3]
      have := unle_flip (S.drop (16 + n))
      have hl4 : (S.drop (16 + n)).length = 4 := by rw [List.length_drop]; omega
      rw [hl4] at this
      omega
end Go.Proofs.Ytggjipfdfpdecaa
