/- Plain: which frames stand in frames that were laid and then cut off, turned at the end, or of which one byte is another one. -/
import Derived.Test.YtggjipfdfpdecaaFrCr
namespace Go.Proofs.Ytggjipfdfpdecaa

theorem marks_frame (seq : Nat) (body : List UInt8) (hs : seq < two64) (hb : body.length ≤ 65536) : Marks (frameOf seq body) := by
  have hfr := fr_self seq body [] hs hb
  rw [List.append_nil] at hfr
  obtain ⟨g1, g2, _, _, _, _, g7⟩ := fr_back _ seq body hfr
  intro k c hc
  have hl := frameOf_len seq body
  have hlt : 32 * k < (frameOf seq body).length := by
    rcases Nat.lt_or_ge (32 * k) (frameOf seq body).length with h | h
    · exact h
    · rw [List.getElem?_eq_none h] at hc; cases hc
  by_cases h0 : k = 0
  · subst h0
    rw [Nat.mul_zero, g1.1] at hc
    exact .inl (Option.some.inj hc).symm
  · unfold marksOk at g2
    rw [g7] at g2
    have := marked_get _ _ (k - 1) g2 (by omega)
    rw [List.drop_drop, List.getElem?_drop] at this
    have e : 32 + 32 * (k - 1) + 0 = 32 * k := by omega
    rw [e, hc] at this
    exact .inr (Option.some.inj this)
theorem marks_append {A B : List UInt8} (h : A.length % 32 = 0) (hA : Marks A) (hB : Marks B) : Marks (A ++ B) := by
  intro k c hc
  by_cases hl : 32 * k < A.length
  · rw [List.getElem?_append_left hl] at hc
    exact hA k c hc
  · rw [List.getElem?_append_right (by omega)] at hc
    have e : 32 * k - A.length = 32 * (k - A.length / 32) := by omega
    rw [e] at hc
    exact hB _ c hc
theorem marks_laid : ∀ (ls : List (List UInt8)) (f : Nat), (∀ l ∈ ls, l.length ≤ 65536) → Marks (laid f ls)
  | [], _, _ => by intro k c hc; simp [laid] at hc
  | x :: r, f, h => marks_append (by rw [frameOf_len]; omega) (marks_frame _ x (Nat.mod_lt _ (by decide)) (h x (by simp))) (marks_laid r (f + 1) (fun l hl => h l (List.mem_cons_of_mem _ hl)))

theorem turned_append (P Z : List UInt8) (p N : Nat) (h : p ≤ N) : turned (P ++ Z) (P.length + p) (P.length + N) = P ++ turned Z p N := by
  unfold turned
  rw [List.take_append, List.take_of_length_le (by omega : P.length ≤ P.length + N), Nat.add_sub_cancel_left, List.take_append, List.take_of_length_le (by omega : P.length ≤ P.length + p), Nat.add_sub_cancel_left, List.drop_append, List.drop_eq_nil_of_le (by omega : P.length ≤ P.length + p), Nat.add_sub_cancel_left, List.nil_append, List.append_assoc]

theorem frAt_no (P Y : List UInt8) (hP : P.length % 32 = 0) (h : ∀ j, ¬ (headOk (Y.drop (32 * j)) ∧ marksOk (Y.drop (32 * j)) ∧ sumOk (Y.drop (32 * j)) ∧ restOk (Y.drop (32 * j)))) (q : Nat) (hq : P.length ≤ q) : frAt (P ++ Y) (q : Int) = none := by
  unfold frAt
  split
  · rename_i hc
    rw [Int.toNat_natCast]
    have e : (P ++ Y).drop q = Y.drop (32 * ((q - P.length) / 32)) := by
      rw [List.drop_append, List.drop_eq_nil_of_le hq, List.nil_append]
      congr 1
      omega
    rw [e]
    unfold tkF
    rw [if_neg (h _)]
  · rfl

/-- Of frames whose end is cut off at n, and turned from n - t on: just those stand that lie ahead of that. -/
theorem crashed (f : Nat) (T : List (List UInt8)) (hT : ∀ l ∈ T, l.length ≤ 65536) (n t m : Nat) (ht : t ≤ n) (hn : n ≤ (laid f T).length) (hm : m ≤ T.length) (he : (laid f (T.take m)).length ≤ n - t) (hx : m < T.length → n - t < (laid f (T.take (m + 1))).length) :
    Pre (turned (laid f T) (n - t) n) 0 (f % two64) (T.take m) (laid f (T.take m)).length ((f + m) % two64) ∧ ∀ q : Nat, (laid f (T.take m)).length ≤ q → frAt (turned (laid f T) (n - t) n) (q : Int) = none := by
  obtain ⟨P, hP⟩ : ∃ P, P = laid f (T.take m) := ⟨_, rfl⟩
  obtain ⟨Z, hZ⟩ : ∃ Z, Z = laid (f + m) (T.drop m) := ⟨_, rfl⟩
  have hPm : P.length % 32 = 0 := by rw [hP]; exact laid_mod _ _
  have hPZ : laid f T = P ++ Z := by
    conv => lhs; rw [← List.take_append_drop m T]
    rw [laid_append, List.length_take, Nat.min_eq_left hm, hP, hZ]
  have hZl : (laid f T).length = P.length + Z.length := by rw [hPZ, List.length_append]
  rw [← hP] at he ⊢
  have e1 : turned (laid f T) (n - t) n = P ++ turned Z (n - t - P.length) (n - P.length) := by
    rw [← turned_append _ _ _ _ (by omega), hPZ]
    congr 1 <;> omega
  have hpre := pre_laid (T.take m) f [] (turned Z (n - t - P.length) (n - P.length)) rfl (fun l hl => hT l (List.mem_of_mem_take hl))
  rw [List.nil_append, ← hP, ← e1, List.length_nil, Nat.zero_add, List.length_take, Nat.min_eq_left hm] at hpre
  refine ⟨hpre, ?_⟩
  rw [e1]
  refine frAt_no P _ hPm fun j => ?_
  by_cases hml : m < T.length
  · have hZ2 : Z = frameOf ((f + m) % two64) T[m] ++ laid (f + m + 1) (T.drop (m + 1)) := by
      rw [hZ, List.drop_eq_getElem_cons hml, laid]
    have hx' := hx hml
    rw [laid_take f T m hml, ← hP, List.length_append, frameOf_len] at hx'
    refine torn_none ((f + m) % two64) T[m] _ Z (Nat.mod_lt _ (by decide)) (hT _ (List.getElem_mem hml)) hZ2 ?_ _ _ (by omega) (by omega) (by omega) j
    rw [hZ]
    exact marks_laid _ _ (fun l hl => hT l (List.mem_of_mem_drop hl))
  · have hZ2 : Z = [] := by rw [hZ, List.drop_eq_nil_of_le (by omega), laid]
    rintro ⟨h1, _⟩
    have := h1.1
    rw [hZ2] at this
    simp [turned] at this

/-- Of frames of which one byte is another one. -/
theorem pokes (f : Nat) (T : List (List UInt8)) (hT : ∀ l ∈ T, l.length ≤ 65536) (i m : Nat) (hm : m < T.length) (h1 : (laid f (T.take m)).length ≤ i) (h2 : i < (laid f (T.take (m + 1))).length) (y : UInt8) (hy : (laid f T)[i]? ≠ some y) :
    Pre ((laid f T).set i y) 0 (f % two64) (T.take m) (laid f (T.take m)).length ((f + m) % two64) ∧ frAt ((laid f T).set i y) ((laid f (T.take m)).length : Int) = none ∧
      (m + 1 < T.length → f + T.length < two64 → Late ((laid f T).set i y) (laid f (T.take m)).length ((f + m) % two64)) := by
  obtain ⟨P, hP⟩ : ∃ P, P = laid f (T.take m) := ⟨_, rfl⟩
  obtain ⟨R, hR⟩ : ∃ R, R = laid (f + m + 1) (T.drop (m + 1)) := ⟨_, rfl⟩
  obtain ⟨F, hF⟩ : ∃ F, F = frameOf ((f + m) % two64) T[m] := ⟨_, rfl⟩
  have hb := hT _ (List.getElem_mem hm)
  have hs : (f + m) % two64 < two64 := Nat.mod_lt _ (by decide)
  have hFl : F.length = 32 * bl T[m].length := by rw [hF, frameOf_len]
  have hPm : P.length % 32 = 0 := by rw [hP]; exact laid_mod _ _
  have hZ2 : laid (f + m) (T.drop m) = F ++ R := by rw [List.drop_eq_getElem_cons hm, laid, hF, hR]
  have hX : laid f T = P ++ (F ++ R) := by
    conv => lhs; rw [← List.take_append_drop m T]
    rw [laid_append, List.length_take, Nat.min_eq_left (by omega), hZ2, hP]
  rw [laid_take f T m hm, ← hP, ← hF, List.length_append] at h2
  rw [← hP] at h1 ⊢
  have e1 : (laid f T).set i y = P ++ (F.set (i - P.length) y ++ R) := by
    rw [hX, List.set_append_right _ _ h1, List.set_append_left _ _ (by omega)]
  have hpre := pre_laid (T.take m) f [] (F.set (i - P.length) y ++ R) rfl (fun l hl => hT l (List.mem_of_mem_take hl))
  rw [List.nil_append, ← hP, ← e1, List.length_nil, Nat.zero_add, List.length_take, Nat.min_eq_left (by omega)] at hpre
  refine ⟨hpre, ?_, ?_⟩
  · rw [e1]
    unfold frAt
    split
    · rw [Int.toNat_natCast, List.drop_left]
      unfold tkF
      have hyF : ∃ h : i - P.length < (F ++ R).length, y ≠ (F ++ R)[i - P.length] := by
        refine ⟨by rw [List.length_append]; omega, fun e => hy ?_⟩
        rw [hX, List.getElem?_append_right h1, e, List.getElem?_eq_getElem]
      obtain ⟨hlt, hyF⟩ := hyF
      have := poked ((f + m) % two64) T[m] R hs hb (i - P.length) (by omega) y (F ++ R) (by rw [hF]) hlt hyF
      rw [List.set_append_left _ _ (by omega)] at this
      rw [if_neg this]
    · rfl
  · intro hm2 hw
    have hR2 : R = frameOf ((f + m + 1) % two64) T[m + 1] ++ laid (f + m + 1 + 1) (T.drop (m + 1 + 1)) := by
      rw [hR, List.drop_eq_getElem_cons hm2, laid]
    have e2 : (laid f T).set i y = (P ++ F.set (i - P.length) y) ++ (frameOf ((f + m + 1) % two64) T[m + 1] ++ laid (f + m + 1 + 1) (T.drop (m + 1 + 1))) := by
      rw [e1, hR2, List.append_assoc]
    have hl2 : (P ++ F.set (i - P.length) y).length = P.length + 32 * bl T[m].length := by rw [List.length_append, List.length_set, hFl]
    have h3 := frAt_laid (P ++ F.set (i - P.length) y) ((f + m + 1) % two64) T[m + 1] (laid (f + m + 1 + 1) (T.drop (m + 1 + 1))) (Nat.mod_lt _ (by decide)) (hT _ (List.getElem_mem hm2)) (by rw [hl2]; omega)
    rw [← e2, hl2] at h3
    refine ⟨bl T[m].length, (f + m + 1) % two64, T[m + 1], ?_, h3, ?_⟩
    · have h4 := (frAt_some h3).2.2.1
      have := bl_pos T[m + 1].length
      simp only at h4
      omega
    · rw [Nat.mod_eq_of_lt (by omega), Nat.mod_eq_of_lt (by omega)]
      omega
end Go.Proofs.Ytggjipfdfpdecaa
