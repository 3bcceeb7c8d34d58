/- Plain: the pieces and marks of a frame, one block more; what the first block's head says. -/
import Derived.Test.YtggjipfdfpdecaaFrP
namespace Go.Proofs.Ytggjipfdfpdecaa

theorem pieces_snoc : ∀ (k : Nat) (X : List UInt8), pieces (k + 1) X = pieces k X ++ (X.drop (32 * k + 1)).take 31
  | 0, X => by simp [pieces]
  | k + 1, X => by
    have e : 32 + (32 * k + 1) = 32 * (k + 1) + 1 := by omega
    rw [pieces, pieces_snoc k (X.drop 32), List.drop_drop, pieces, List.append_assoc, e]
theorem marked_snoc : ∀ (k : Nat) (X : List UInt8), marked (k + 1) X = (marked k X && (X.drop (32 * k))[0]? == some 0xB2)
  | 0, X => by simp [marked]
  | k + 1, X => by
    have e : 32 + 32 * k = 32 * (k + 1) := by omega
    rw [marked, marked_snoc k (X.drop 32), List.drop_drop, marked, Bool.and_assoc, e]
theorem marked_miss (k : Nat) (X : List UInt8) (h : (X.drop (32 * k))[0]? ≠ some 0xB2) : ∀ m, k < m → marked m X = false := by
  intro m hm
  induction m with
  | zero => omega
  | succ m ih =>
    rw [marked_snoc]
    by_cases e : k = m
    · subst e
      rw [Bool.and_eq_false_iff]
      right
      simpa using h
    · rw [ih (by omega)]; rfl

theorem headOk_iff (b : List UInt8) (a : Nat) (ha : a < b.length) (x : UInt8) (hx : x = b[a]) (H r2 r3 r4 : List UInt8) (hH : H = hof (b.drop a)) (h2 : r2 = (H.take (12 : Int).toNat).drop (8 : Int).toNat) (h3 : r3 = (H.take (16 : Int).toNat).drop (12 : Int).toNat) (h4 : r4 = H.take (12 : Int).toNat)
    (n s q : Nat) (hn : n = unle r2) (hs : s = unle r3) (hq : q = (crc r4).toNat) : n = nof (b.drop a) ∧ ((x = 0xA1 ∧ s = q ∧ n ≤ 65536 ∧ bl n * 32 ≤ b.length - a) ↔ headOk (b.drop a)) := by
  have e0 : (b.drop a)[0]? = some x := by rw [List.getElem?_drop, hx]; simp [ha]
  have en : n = nof (b.drop a) := by rw [hn, h2, hH]; rfl
  refine ⟨en, ?_⟩
  unfold headOk
  rw [e0, ← en, List.length_drop, ← hH]
  have e1 : unle ((H.take 16).drop 12) = s := by rw [hs, h3]; rfl
  have e2 : (crc (H.take 12)).toNat = q := by rw [hq, h4]; rfl
  rw [e1, e2]
  simp

theorem sof_take (X : List UInt8) (hroom : 32 * bl (nof X) ≤ X.length) : (sof X).take 16 = hof X := by
  have hb1 := bl_pos (nof X)
  obtain ⟨j, hj⟩ : ∃ j, bl (nof X) = j + 1 := ⟨bl (nof X) - 1, by omega⟩
  unfold sof hof
  rw [hj, pieces_take j X 16 (by omega) (by omega)]
theorem seq_sof (X : List UInt8) (hroom : 32 * bl (nof X) ≤ X.length) : unle ((sof X).take 8) = seqof X := by
  unfold seqof
  rw [← sof_take X hroom, List.take_take]
  rfl
theorem body_len (X : List UInt8) (hroom : 32 * bl (nof X) ≤ X.length) : (bodyof X).length = nof X := by
  have hpb := pads_bl (nof X)
  have hsl : (sof X).length = 31 * bl (nof X) := pieces_len _ _ hroom
  unfold bodyof
  rw [List.length_drop, List.length_take]
  omega
/-- What stands at a place, as the document's Take tells it: it is the frame of what it says. -/
theorem reftk (X : List UInt8) (hn : nof X ≤ 65536) (hroom : 32 * bl (nof X) ≤ X.length) :
    (frameOf (seqof X) (bodyof X) = X.take (32 * bl (nof X)) → tkF X = some (seqof X, bodyof X)) ∧ (frameOf (seqof X) (bodyof X) ≠ X.take (32 * bl (nof X)) → tkF X = none) := by
  have hbl := body_len X hroom
  constructor
  · intro h
    refine tkF_some.2 (show Fr X (seqof X) (bodyof X) from ⟨?_, by omega, by rw [hbl]; exact h, by rw [hbl]; exact hroom⟩)
    have := unle_lt ((hof X).take 8)
    have e : ((hof X).take 8).length = 8 := by
      have hb1 := bl_pos (nof X)
      unfold hof
      rw [List.length_take, List.length_take, List.length_drop]
      omega
    rw [e] at this
    exact this
  · intro h
    refine tkF_none.2 ?_
    intro seq body hf
    obtain ⟨_, _, _, _, h5, h6, h7⟩ := fr_back X seq body hf
    apply h
    rw [h5, h6, hbl.symm, h6]
    exact hf.2.2.1
theorem tk_no {X : List UInt8} (h : ¬ headOk X) : tkF X = none := by
  unfold tkF
  rw [if_neg (fun hh => h hh.1)]
theorem nof_cut (b : List UInt8) (a : Nat) : (b.take ((a : Int) + 13).toNat).drop ((a : Int) + 9).toNat = (((hof (b.drop a)).take 12).drop 8) := by
  rw [show ((a : Int) + 13).toNat = a + 13 from by omega, show ((a : Int) + 9).toNat = a + 9 from by omega]
  unfold hof
  rw [List.take_take, List.drop_take, List.drop_take, List.drop_drop, List.drop_drop]
  congr 1
  omega
end Go.Proofs.Ytggjipfdfpdecaa
