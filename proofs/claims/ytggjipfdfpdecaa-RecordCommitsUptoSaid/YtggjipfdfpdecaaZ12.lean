/- Texts merged: RcPl, RcMh. Each says below what it proves. -/
import Derived.Test.YtggjipfdfpdecaaZ01
import Derived.Test.YtggjipfdfpdecaaZ09
import Derived.Deep.CutBlock
/- Plain: what is right is read from its bytes as it is, and from no beginning of them; what is read was written so; no program in sight. -/
namespace Go.Proofs.Ytggjipfdfpdecaa

/-! ### what is written is read -/
theorem drop_split {b r l : List UInt8} {a : Nat} (h : b.drop a = l ++ r) (hl : 0 < l.length) : ∃ p, b = p ++ (l ++ r) ∧ p.length = a := by
  have ha : a < b.length := by
    rcases Nat.lt_or_ge a b.length with h1 | h1
    · exact h1
    · rw [List.drop_eq_nil_of_le h1] at h
      have := congrArg List.length h
      simp only [List.length_nil, List.length_append] at this
      omega
  exact ⟨b.take a, by rw [← h, List.take_append_drop], by rw [List.length_take]; omega⟩
theorem drop_more {b r l : List UInt8} {a c : Nat} (h : b.drop a = l ++ r) (hc : c = a + l.length) : b.drop c = r := by
  rw [hc, ← List.drop_drop, h, List.drop_left]
theorem rNum_put {b r : List UInt8} {a n m : Nat} (h : b.drop a = uvar n ++ r) (hn : n ≤ m) (hm : m < 18446744073709551616) : rNum b m ⟨a, false⟩ = (n, ⟨a + (uvar n).length, false⟩) := by
  obtain ⟨p, rfl, rfl⟩ := drop_split h (by have := uvar_pos n; omega)
  unfold rNum
  rw [tkAt_uvar p r n (by omega)]
  simp only
  rw [if_neg (by simp; omega)]
theorem txt_len (t : List UInt8) : (txt t).length = (uvar t.length).length + t.length := by unfold txt; rw [List.length_append]
theorem rTxt_put {b r t : List UInt8} {a m : Nat} (h : b.drop a = txt t ++ r) (hn : t.length ≤ m) (hm : m < 18446744073709551616) : rTxt b m ⟨a, false⟩ = (t, ⟨a + (txt t).length, false⟩) := by
  have hp := uvar_pos t.length
  obtain ⟨p, rfl, rfl⟩ := drop_split h (by rw [txt_len]; omega)
  have e : txt t ++ r = uvar t.length ++ (t ++ r) := by unfold txt; rw [List.append_assoc]
  have e2 : (p ++ (uvar t.length ++ (t ++ r))).drop (p.length + (uvar t.length).length) = t ++ r := by
    rw [← List.drop_drop, List.drop_left, List.drop_left]
  have hx : txAt (p ++ (txt t ++ r)) (p.length : Int) (m : Int) = some (t, p.length + (uvar t.length).length + t.length) := by
    unfold txAt
    rw [e, tkAt_uvar p (t ++ r) t.length (by omega)]
    simp only
    rw [if_pos, e2, List.take_left]
    refine ⟨by omega, by rw [Int.toNat_natCast]; exact hn, ?_⟩
    simp only [List.length_append]
    omega
  unfold rTxt
  simp only
  rw [hx]
  simp only
  rw [if_neg (by simp), txt_len, Nat.add_assoc]
theorem rFlag_put {b r : List UInt8} {a : Nat} {f : UInt8} (h : b.drop a = f :: r) (hf : f.toNat ≤ 1) : rFlag b ⟨a, false⟩ = (f == 1, ⟨a + 1, false⟩) := by
  have hg : b[a]? = some f := by
    have := List.getElem?_drop (xs := b) (i := a) (j := 0)
    rw [h] at this
    simpa using this.symm
  unfold rFlag
  simp only
  rw [hg]
  simp only
  rw [if_neg (by simp; omega)]
theorem rWri_put {b r : List UInt8} {a : Nat} {x : Wri} (hx : wOk x = true) (h : b.drop a = encW x ++ r) : rWri b ⟨a, false⟩ = (x, ⟨a + (encW x).length, false⟩) := by
  obtain ⟨h1, h2, _, h4⟩ := wOk_bounds hx
  obtain ⟨k, v, g⟩ := x
  simp only at h1 h2 h4
  unfold rWri
  cases g with
  | true =>
    obtain rfl := h4 rfl
    have e : encW ⟨k, [], true⟩ = 1 :: txt k := rfl
    rw [e] at h ⊢
    rw [List.cons_append] at h
    have h5 : b.drop (a + 1) = txt k ++ r := drop_more (l := [1]) (by rw [h]; rfl) rfl
    rw [rFlag_put h (by decide)]
    simp only
    rw [rTxt_put h5 h1 (by omega)]
    simp only [List.length_cons]
    rw [if_pos (by decide), Nat.add_assoc, Nat.add_comm 1]
  | false =>
    have e : encW ⟨k, v, false⟩ = 0 :: (txt k ++ txt v) := rfl
    rw [e] at h ⊢
    rw [List.cons_append] at h
    have h5 : b.drop (a + 1) = txt k ++ (txt v ++ r) := by rw [← List.append_assoc]; exact drop_more (l := [0]) (by rw [h]; rfl) rfl
    have h6 := drop_more h5 rfl
    rw [rFlag_put h (by decide)]
    simp only
    rw [rTxt_put h5 h1 (by omega)]
    simp only
    rw [if_neg (by decide), rTxt_put h6 h2 (by omega)]
    simp only [List.length_cons, List.length_append]
    have : a + 1 + (txt k).length + (txt v).length = a + ((txt k).length + (txt v).length + 1) := by omega
    rw [this]
theorem rPai_put {b r : List UInt8} {a : Nat} {x : Pai} (h1 : 0 ≤ x.num ∧ x.num ≤ 2147483647) (h2 : 0 ≤ x.from_ ∧ x.from_ < 1099511627776) (h3 : 0 ≤ x.to_ ∧ x.to_ < 1099511627776) (h : b.drop a = encP x ++ r) : rPai b ⟨a, false⟩ = (x, ⟨a + (encP x).length, false⟩) := by
  obtain ⟨n, f, t⟩ := x
  simp only at h1 h2 h3
  obtain ⟨n, rfl⟩ := Int.eq_ofNat_of_zero_le h1.1
  obtain ⟨f, rfl⟩ := Int.eq_ofNat_of_zero_le h2.1
  obtain ⟨t, rfl⟩ := Int.eq_ofNat_of_zero_le h3.1
  unfold encP at h ⊢
  simp only [Int.toNat_natCast] at h ⊢
  rw [List.append_assoc] at h
  have h5 := drop_more h rfl
  rw [List.append_assoc] at h5
  have h6 := drop_more h5 rfl
  unfold rPai
  rw [rNum_put h (by omega) (by omega)]
  simp only
  rw [rNum_put h5 (by omega) (by omega)]
  simp only
  rw [rNum_put h6 (by omega) (by omega)]
  simp only [List.length_append]
  have : a + (uvar n).length + (uvar f).length + (uvar t).length = a + ((uvar n).length + ((uvar f).length + (uvar t).length)) := by omega
  rw [this]
theorem rList_put {α : Type} {b : List UInt8} (one : RS → α × RS) (enc : α → List UInt8) (good : α → Prop) (H : ∀ x a r, good x → b.drop a = enc x ++ r → one ⟨a, false⟩ = (x, ⟨a + (enc x).length, false⟩)) :
    ∀ (xs : List α) (a : Nat) (r : List UInt8), (∀ x ∈ xs, good x) → b.drop a = xs.flatMap enc ++ r → rList one xs.length ⟨a, false⟩ = (xs, ⟨a + (xs.flatMap enc).length, false⟩)
  | [], a, r, _, _ => by simp [rList]
  | x :: xs, a, r, hg, h => by
    rw [List.flatMap_cons, List.append_assoc] at h
    rw [List.length_cons, rList, if_neg (by simp), H x a _ (hg x (by simp)) h]
    simp only
    rw [rList_put one enc good H xs _ r (fun y hy => hg y (by simp [hy])) (drop_more h rfl)]
    simp only [List.flatMap_cons, List.length_append]
    rw [Nat.add_assoc]

theorem comOk_bounds {t : Int} {ws : List Wri} (h : comOk t ws = true) : (0 ≤ t ∧ t < 1099511627776) ∧ ws.length ≤ 64 ∧ wsOk ws = true := by
  unfold comOk at h
  simp only [Bool.and_eq_true, decide_eq_true_eq] at h
  exact ⟨(isTm_iff _).1 h.1.1, h.1.2, h.2⟩
theorem rCom_put {t : Nat} {ws : List Wri} (h : comOk t ws = true) (r : List UInt8) : rCom (encCom t ws ++ r) ⟨1, false⟩ = ((t, ws), ⟨(encCom t ws).length, false⟩) := by
  obtain ⟨ht, hw, ho⟩ := comOk_bounds h
  obtain ⟨b, hb⟩ : ∃ b, b = encCom t ws ++ r := ⟨_, rfl⟩
  rw [← hb]
  have h1 : b.drop 1 = uvar t ++ (uvar ws.length ++ (encWs ws ++ r)) := by
    rw [hb]; unfold encCom
    simp [List.append_assoc]
  have h2 := drop_more h1 rfl
  have h3 := drop_more h2 rfl
  have hl := rList_put (rWri b) encW (fun x => wOk x = true) (fun x a r hx hd => rWri_put hx hd) ws _ r (fun x hx => by
    obtain ⟨k, hk, rfl⟩ := List.getElem_of_mem hx
    exact wsOk_bounds ho k hk) h3
  unfold rCom
  rw [rNum_put h1 (by omega) (by omega)]
  simp only
  rw [rNum_put h2 hw (by omega)]
  simp only
  rw [hl]
  simp only
  have e : 1 + (uvar t).length + (uvar ws.length).length + (ws.flatMap encW).length = (encCom t ws).length := by
    unfold encCom encWs
    simp only [List.length_cons, List.length_append]
    omega
  rw [e]
theorem rMan_put {t g : Nat} {ps : List Pai} (h : manOk t g ps = true) (r : List UInt8) : rMan (encMan t g ps ++ r) ⟨1, false⟩ = ((t, g, ps), ⟨(encMan t g ps).length, false⟩) := by
  obtain ⟨ht, hg, hw, _, _, ho⟩ := manOk_bounds h
  obtain ⟨b, hb⟩ : ∃ b, b = encMan t g ps ++ r := ⟨_, rfl⟩
  rw [← hb]
  have h1 : b.drop 1 = uvar t ++ (uvar g ++ (uvar ps.length ++ (encPs ps ++ r))) := by
    rw [hb]; unfold encMan
    simp [List.append_assoc]
  have h2 := drop_more h1 rfl
  have h3 := drop_more h2 rfl
  have h4 := drop_more h3 rfl
  have hl := rList_put (rPai b) encP (fun x => (0 ≤ x.num ∧ x.num ≤ 2147483647) ∧ (0 ≤ x.from_ ∧ x.from_ < 1099511627776) ∧ (0 ≤ x.to_ ∧ x.to_ < 1099511627776)) (fun x a r hx hd => rPai_put hx.1 hx.2.1 hx.2.2 hd) ps _ r (fun x hx => by
    obtain ⟨k, hk, rfl⟩ := List.getElem_of_mem hx
    have := ho k hk
    exact ⟨⟨by omega, this.1.2⟩, this.2⟩) h4
  unfold rMan
  rw [rNum_put h1 (by omega) (by omega)]
  simp only
  rw [rNum_put h2 (by omega) (by omega)]
  simp only
  rw [rNum_put h3 hw (by omega)]
  simp only
  rw [hl]
  simp only
  have e : 1 + (uvar t).length + (uvar g).length + (uvar ps.length).length + (ps.flatMap encP).length = (encMan t g ps).length := by
    unfold encMan encPs
    simp only [List.length_cons, List.length_append]
    omega
  rw [e]
theorem rRow_put {k v : List UInt8} {t : Nat} (hk : isKey k = true) (hv : isVal v = true) (ht : isTm t = true) (r : List UInt8) : rRow (encRow k v t ++ r) ⟨1, false⟩ = (⟨k, v, t⟩, ⟨(encRow k v t).length, false⟩) := by
  have hk := (isKey_iff _).1 hk
  have hv := (isVal_iff _).1 hv
  have ht := (isTm_iff _).1 ht
  obtain ⟨b, hb⟩ : ∃ b, b = encRow k v t ++ r := ⟨_, rfl⟩
  rw [← hb]
  have h1 : b.drop 1 = txt k ++ (txt v ++ (uvar t ++ r)) := by
    rw [hb]; unfold encRow
    simp [List.append_assoc]
  have h2 := drop_more h1 rfl
  have h3 := drop_more h2 rfl
  unfold rRow
  rw [rTxt_put h1 hk.2 (by omega)]
  simp only
  rw [rTxt_put h2 hv (by omega)]
  simp only
  rw [rNum_put h3 (by omega) (by omega)]
  simp only
  have e : 1 + (txt k).length + (txt v).length + (uvar t).length = (encRow k v t).length := by
    unfold encRow
    simp only [List.length_cons, List.length_append]
    omega
  rw [e]

theorem start_head {k : UInt8} {l r : List UInt8} : startC (k :: l ++ r) k = ⟨1, false⟩ := startC_yes rfl
theorem decCom_put {t : Nat} {ws : List Wri} (h : comOk t ws = true) : decCom (encCom t ws) = ((t, ws), 0, 0) := by
  have h1 := rCom_put h []
  rw [List.append_nil] at h1
  unfold decCom
  rw [startC_yes (b := encCom t ws) rfl, h1]
  simp only
  rw [endC_done (by omega), h]
  rfl
theorem decMan_put {t g : Nat} {ps : List Pai} (h : manOk t g ps = true) : decMan (encMan t g ps) = ((t, g, ps), 0, 0) := by
  have h1 := rMan_put h []
  rw [List.append_nil] at h1
  unfold decMan
  rw [startC_yes (b := encMan t g ps) rfl, h1]
  simp only
  rw [endC_done (by omega), h]
  rfl
theorem decRow_put {k v : List UInt8} {t : Nat} (hk : isKey k = true) (hv : isVal v = true) (ht : isTm t = true) : decRow (encRow k v t) = (⟨k, v, t⟩, 0, 0) := by
  have h1 := rRow_put hk hv ht []
  rw [List.append_nil] at h1
  unfold decRow
  rw [startC_yes (b := encRow k v t) rfl, h1]
  simp only
  rw [endC_done (by omega), hk]
  rfl
/-- One more byte behind a commit: that is told. -/
theorem decCom_more {t : Nat} {ws : List Wri} (h : comOk t ws = true) (x : UInt8) : (decCom (encCom t ws ++ [x])).2.2 = 61 := by
  unfold decCom
  rw [startC_yes (b := encCom t ws ++ [x]) rfl, rCom_put h [x]]
  simp only
  rw [endC_less (by simp)]
  rfl
/-- A commit's bytes are no row's. -/
theorem decRow_com (t : Nat) (ws : List Wri) : (decRow (encCom t ws)).2.2 = 61 := by
  unfold decRow
  rw [startC_no (b := encCom t ws) (k := 82) (by unfold encCom; simp)]
  simp only [rRow_bad, endC_bad]
  rfl

/-! ### what is read was written so -/
theorem drop_cut {b l : List UInt8} {a c : Nat} (h : (b.take c).drop a = l) (ha : a ≤ c) (hc : c ≤ b.length) : b.drop a = l ++ b.drop c := by
  conv => lhs; rw [← List.take_append_drop c b]
  rw [List.drop_append_of_le_length (by rw [List.length_take]; omega), h]
theorem rNum_got {b : List UInt8} {m n c : Nat} {s : RS} (h : rNum b m s = (n, ⟨c, false⟩)) : s.bad = false ∧ n ≤ m ∧ c ≤ b.length ∧ b.drop s.at_ = uvar n ++ b.drop c := by
  unfold rNum at h
  cases hk : tkAt b s.at_ with
  | none => rw [hk] at h; simp at h
  | some p =>
    obtain ⟨n', nx⟩ := p
    rw [hk] at h
    simp only at h
    by_cases hc : s.bad = true ∨ m < n'
    · rw [if_pos hc] at h; simp at h
    · rw [if_neg hc] at h
      simp only [Prod.mk.injEq, RS.mk.injEq, and_true] at h
      obtain ⟨rfl, rfl⟩ := h
      obtain ⟨_, h2, h3, h4, h5, h6⟩ := tkAt_one b s.at_ n' nx hk
      rw [Int.toNat_natCast] at h5 h6
      exact ⟨bool_no (fun e => hc (.inl e)), by omega, h4, drop_cut h6 (by omega) h4⟩
theorem rTxt_got {b t : List UInt8} {m c : Nat} {s : RS} (h : rTxt b m s = (t, ⟨c, false⟩)) : s.bad = false ∧ t.length ≤ m ∧ c ≤ b.length ∧ b.drop s.at_ = txt t ++ b.drop c := by
  have hl := rTxt_le b m s
  rw [h] at hl
  unfold rTxt at h
  cases hk : txAt b s.at_ m with
  | none => rw [hk] at h; simp at h
  | some p =>
    obtain ⟨t', nx⟩ := p
    rw [hk] at h
    simp only at h
    by_cases hc : s.bad = true
    · rw [if_pos hc] at h; simp at h
    · rw [if_neg hc] at h
      simp only [Prod.mk.injEq, RS.mk.injEq, and_true] at h
      obtain ⟨rfl, rfl⟩ := h
      refine ⟨bool_no hc, hl, txAt_le hk, ?_⟩
      unfold txAt at hk
      cases hk2 : tkAt b s.at_ with
      | none => rw [hk2] at hk; cases hk
      | some q =>
        obtain ⟨n, k⟩ := q
        rw [hk2] at hk
        simp only at hk
        obtain ⟨_, h2, h3, h4, h5, h6⟩ := tkAt_one b s.at_ n k hk2
        rw [Int.toNat_natCast] at h5 h6
        split at hk
        · rename_i h7
          simp only [Option.some.injEq, Prod.mk.injEq] at hk
          obtain ⟨rfl, rfl⟩ := hk
          have e : ((b.drop k).take n).length = n := by rw [List.length_take, List.length_drop]; omega
          unfold txt
          rw [e, List.append_assoc, drop_cut h6 (by omega) h4]
          congr 1
          conv => lhs; rw [← List.take_append_drop n (b.drop k)]
          rw [List.drop_drop]
        · cases hk
theorem rFlag_got {b : List UInt8} {f : Bool} {c : Nat} {s : RS} (h : rFlag b s = (f, ⟨c, false⟩)) : s.bad = false ∧ c ≤ b.length ∧ b.drop s.at_ = (if f = true then 1 else 0) :: b.drop c := by
  unfold rFlag at h
  cases hk : b[s.at_]? with
  | none => rw [hk] at h; simp at h
  | some x =>
    rw [hk] at h
    simp only at h
    by_cases hc : s.bad = true ∨ 1 < x.toNat
    · rw [if_pos hc] at h; simp at h
    · rw [if_neg hc] at h
      simp only [Prod.mk.injEq, RS.mk.injEq, and_true] at h
      obtain ⟨rfl, rfl⟩ := h
      obtain ⟨hlt, hx⟩ := List.getElem?_eq_some_iff.1 hk
      refine ⟨bool_no (fun e => hc (.inl e)), by omega, ?_⟩
      rw [List.drop_eq_getElem_cons hlt, hx]
      congr 1
      have h1 : x.toNat ≤ 1 := by omega
      have h2 : x = 0 ∨ x = 1 := by
        rcases Nat.lt_or_ge x.toNat 1 with h | h
        · left; apply UInt8.toNat_inj.1; simp; omega
        · right; apply UInt8.toNat_inj.1; simp; omega
      rcases h2 with rfl | rfl <;> decide
theorem rWri_got {b : List UInt8} {x : Wri} {c : Nat} {s : RS} (h : rWri b s = (x, ⟨c, false⟩)) : s.bad = false ∧ c ≤ b.length ∧ b.drop s.at_ = encW x ++ b.drop c := by
  unfold rWri at h
  obtain ⟨⟨f, s1, b1⟩, hf⟩ : ∃ p, p = rFlag b s := ⟨_, rfl⟩
  rw [← hf] at h
  simp only at h
  obtain ⟨⟨k, s2, b2⟩, hk⟩ : ∃ p, p = rTxt b 16 ⟨s1, b1⟩ := ⟨_, rfl⟩
  rw [← hk] at h
  simp only at h
  cases f with
  | true =>
    rw [if_pos rfl] at h
    simp only [Prod.mk.injEq, RS.mk.injEq] at h
    obtain ⟨rfl, rfl, rfl⟩ := h
    obtain ⟨g1, _, g3, g4⟩ := rTxt_got hk.symm
    simp only at g1 g4
    subst g1
    obtain ⟨f1, f2, f3⟩ := rFlag_got hf.symm
    refine ⟨f1, g3, ?_⟩
    rw [f3, g4]
    rfl
  | false =>
    rw [if_neg (by decide)] at h
    obtain ⟨⟨v, s3, b3⟩, hv⟩ : ∃ p, p = rTxt b 64 ⟨s2, b2⟩ := ⟨_, rfl⟩
    rw [← hv] at h
    simp only [Prod.mk.injEq, RS.mk.injEq] at h
    obtain ⟨rfl, rfl, rfl⟩ := h
    obtain ⟨v1, _, v3, v4⟩ := rTxt_got hv.symm
    simp only at v1 v4
    subst v1
    obtain ⟨g1, _, g3, g4⟩ := rTxt_got hk.symm
    simp only at g1 g4
    subst g1
    obtain ⟨f1, f2, f3⟩ := rFlag_got hf.symm
    refine ⟨f1, v3, ?_⟩
    rw [f3, g4, v4]
    show _ = 0 :: (txt k ++ txt v) ++ _
    simp
theorem rPai_got {b : List UInt8} {x : Pai} {c : Nat} {s : RS} (h : rPai b s = (x, ⟨c, false⟩)) : s.bad = false ∧ c ≤ b.length ∧ b.drop s.at_ = encP x ++ b.drop c := by
  unfold rPai at h
  obtain ⟨⟨n, s1, b1⟩, hn⟩ : ∃ p, p = rNum b 2147483647 s := ⟨_, rfl⟩
  rw [← hn] at h
  simp only at h
  obtain ⟨⟨f, s2, b2⟩, hf⟩ : ∃ p, p = rNum b 1099511627775 ⟨s1, b1⟩ := ⟨_, rfl⟩
  rw [← hf] at h
  simp only at h
  obtain ⟨⟨t, s3, b3⟩, ht⟩ : ∃ p, p = rNum b 1099511627775 ⟨s2, b2⟩ := ⟨_, rfl⟩
  rw [← ht] at h
  simp only [Prod.mk.injEq, RS.mk.injEq] at h
  obtain ⟨rfl, rfl, rfl⟩ := h
  obtain ⟨t1, _, t3, t4⟩ := rNum_got ht.symm
  simp only at t1 t4
  subst t1
  obtain ⟨g1, _, g3, g4⟩ := rNum_got hf.symm
  simp only at g1 g4
  subst g1
  obtain ⟨f1, _, f2, f3⟩ := rNum_got hn.symm
  refine ⟨f1, t3, ?_⟩
  rw [f3, g4, t4]
  unfold encP
  simp [List.append_assoc]
theorem rList_got {α : Type} {b : List UInt8} (one : RS → α × RS) (enc : α → List UInt8) (H : ∀ x c s, one s = (x, ⟨c, false⟩) → s.bad = false ∧ c ≤ b.length ∧ b.drop s.at_ = enc x ++ b.drop c) :
    ∀ (n : Nat) (s : RS) (xs : List α) (c : Nat), rList one n s = (xs, ⟨c, false⟩) → s.bad = false ∧ xs.length = n ∧ b.drop s.at_ = xs.flatMap enc ++ b.drop c
  | 0, s, xs, c, h => by
    rw [rList] at h
    simp only [Prod.mk.injEq] at h
    obtain ⟨rfl, rfl⟩ := h
    exact ⟨rfl, rfl, rfl⟩
  | n + 1, s, xs, c, h => by
    rw [rList] at h
    by_cases hb : s.bad = true
    · rw [if_pos hb] at h
      simp only [Prod.mk.injEq] at h
      rw [h.2] at hb
      cases hb
    · rw [if_neg hb] at h
      obtain ⟨⟨x, s1⟩, hx⟩ : ∃ p, p = one s := ⟨_, rfl⟩
      rw [← hx] at h
      simp only at h
      obtain ⟨⟨r, s2⟩, hr⟩ : ∃ p, p = rList one n s1 := ⟨_, rfl⟩
      rw [← hr] at h
      simp only [Prod.mk.injEq] at h
      obtain ⟨rfl, rfl⟩ := h
      obtain ⟨g1, g2, g3⟩ := rList_got one enc H n s1 r c hr.symm
      obtain ⟨c1, b1⟩ := s1
      simp only at g1 g3
      subst g1
      obtain ⟨f1, f2, f3⟩ := H x c1 s hx.symm
      exact ⟨f1, by simp [g2], by rw [f3, g3, List.flatMap_cons, List.append_assoc]⟩

theorem end_zero {b : List UInt8} {s : RS} {r : Bool} {p : Nat} (h : endC b s r = (p, 0)) : s.bad = false ∧ b.length ≤ s.at_ ∧ r = true := by
  unfold endC at h
  by_cases hc : s.bad = true ∨ s.at_ < b.length
  · rw [if_pos hc] at h; simp at h
  · rw [if_neg hc] at h
    cases r with
    | false => simp at h
    | true => exact ⟨bool_no (fun e => hc (.inl e)), by omega, rfl⟩
theorem start_good {b : List UInt8} {k : UInt8} (h : (startC b k).bad = false) : startC b k = ⟨1, false⟩ ∧ b = k :: b.drop 1 := by
  unfold startC at h ⊢
  by_cases hc : b[0]? = some k
  · rw [if_pos hc]
    refine ⟨rfl, ?_⟩
    cases b with
    | nil => cases hc
    | cons x r =>
      simp only [List.getElem?_cons_zero, Option.some.injEq] at hc
      subst hc
      rfl
  · rw [if_neg hc] at h; cases h
theorem dropped {b : List UInt8} {c : Nat} (h : b.length ≤ c) : b.drop c = [] := List.drop_eq_nil_of_le h

/-- What is read as a commit is right, and was written so. -/
theorem decCom_got {b : List UInt8} (h : (decCom b).2.2 = 0) : comOk (decCom b).1.1 (decCom b).1.2 = true ∧ encCom (decCom b).1.1 (decCom b).1.2 = b := by
  unfold decCom at h ⊢
  obtain ⟨s0, hs⟩ : ∃ s, s = startC b 67 := ⟨_, rfl⟩
  rw [← hs] at h ⊢
  obtain ⟨⟨⟨t, ws⟩, c, bd⟩, hq⟩ : ∃ p, p = rCom b s0 := ⟨_, rfl⟩
  rw [← hq] at h ⊢
  simp only at h ⊢
  unfold ansC at h ⊢
  simp only at h ⊢
  obtain ⟨e1, e2, e3⟩ := end_zero (p := (endC b ⟨c, bd⟩ (comOk t ws)).1) (by rw [← h])
  rw [if_pos h]
  simp only at e1 e2 ⊢
  subst e1
  unfold rCom at hq
  obtain ⟨⟨t1, s1, b1⟩, h1⟩ : ∃ p, p = rNum b 1099511627775 s0 := ⟨_, rfl⟩
  rw [← h1] at hq
  simp only at hq
  obtain ⟨⟨n, s2, b2⟩, h2⟩ : ∃ p, p = rNum b 64 ⟨s1, b1⟩ := ⟨_, rfl⟩
  rw [← h2] at hq
  simp only at hq
  obtain ⟨⟨l, s3⟩, h3⟩ : ∃ p, p = rList (rWri b) n ⟨s2, b2⟩ := ⟨_, rfl⟩
  rw [← h3] at hq
  simp only [Prod.mk.injEq] at hq
  obtain ⟨⟨rfl, rfl⟩, rfl⟩ := hq
  obtain ⟨g1, g2, g3⟩ := rList_got (rWri b) encW (fun x c s h => rWri_got h) n _ ws c h3.symm
  simp only at g1 g3
  subst g1
  obtain ⟨f1, _, _, f3⟩ := rNum_got h2.symm
  simp only at f1 f3
  subst f1
  obtain ⟨d1, _, _, d3⟩ := rNum_got h1.symm
  rw [hs] at d1 d3
  obtain ⟨k1, k2⟩ := start_good d1
  rw [k1] at d3
  simp only at d3
  refine ⟨e3, ?_⟩
  rw [k2, d3, f3, g3, dropped e2]
  unfold encCom encWs
  rw [g2]
  simp [List.append_assoc]
theorem decMan_got {b : List UInt8} (h : (decMan b).2.2 = 0) : manOk (decMan b).1.1 (decMan b).1.2.1 (decMan b).1.2.2 = true ∧ encMan (decMan b).1.1 (decMan b).1.2.1 (decMan b).1.2.2 = b := by
  unfold decMan at h ⊢
  obtain ⟨s0, hs⟩ : ∃ s, s = startC b 77 := ⟨_, rfl⟩
  rw [← hs] at h ⊢
  obtain ⟨⟨⟨t, g, ps⟩, c, bd⟩, hq⟩ : ∃ p, p = rMan b s0 := ⟨_, rfl⟩
  rw [← hq] at h ⊢
  simp only at h ⊢
  unfold ansC at h ⊢
  simp only at h ⊢
  obtain ⟨e1, e2, e3⟩ := end_zero (p := (endC b ⟨c, bd⟩ (manOk t g ps)).1) (by rw [← h])
  rw [if_pos h]
  simp only at e1 e2 ⊢
  subst e1
  unfold rMan at hq
  obtain ⟨⟨t1, s1, b1⟩, h1⟩ : ∃ p, p = rNum b 1099511627775 s0 := ⟨_, rfl⟩
  rw [← h1] at hq
  simp only at hq
  obtain ⟨⟨g1, s4, b4⟩, h4⟩ : ∃ p, p = rNum b 2147483647 ⟨s1, b1⟩ := ⟨_, rfl⟩
  rw [← h4] at hq
  simp only at hq
  obtain ⟨⟨n, s2, b2⟩, h2⟩ : ∃ p, p = rNum b 16 ⟨s4, b4⟩ := ⟨_, rfl⟩
  rw [← h2] at hq
  simp only at hq
  obtain ⟨⟨l, s3⟩, h3⟩ : ∃ p, p = rList (rPai b) n ⟨s2, b2⟩ := ⟨_, rfl⟩
  rw [← h3] at hq
  simp only [Prod.mk.injEq] at hq
  obtain ⟨⟨rfl, rfl, rfl⟩, rfl⟩ := hq
  obtain ⟨g1, g2, g3⟩ := rList_got (rPai b) encP (fun x c s h => rPai_got h) n _ ps c h3.symm
  simp only at g1 g3
  subst g1
  obtain ⟨f1, _, _, f3⟩ := rNum_got h2.symm
  simp only at f1 f3
  subst f1
  obtain ⟨j1, _, _, j3⟩ := rNum_got h4.symm
  simp only at j1 j3
  subst j1
  obtain ⟨d1, _, _, d3⟩ := rNum_got h1.symm
  rw [hs] at d1 d3
  obtain ⟨k1, k2⟩ := start_good d1
  rw [k1] at d3
  simp only at d3
  refine ⟨e3, ?_⟩
  rw [k2, d3, j3, f3, g3, dropped e2]
  unfold encMan encPs
  rw [g2]
  simp [List.append_assoc]
theorem decRow_got {b : List UInt8} (h : (decRow b).2.2 = 0) : isKey (decRow b).1.key = true ∧ isVal (decRow b).1.val = true ∧ isTm (decRow b).1.time = true ∧ encRow (decRow b).1.key (decRow b).1.val (decRow b).1.time = b := by
  unfold decRow at h ⊢
  obtain ⟨s0, hs⟩ : ∃ s, s = startC b 82 := ⟨_, rfl⟩
  rw [← hs] at h ⊢
  obtain ⟨⟨⟨k, v, t⟩, c, bd⟩, hq⟩ : ∃ p, p = rRow b s0 := ⟨_, rfl⟩
  rw [← hq] at h ⊢
  simp only at h ⊢
  unfold ansC at h ⊢
  simp only at h ⊢
  obtain ⟨e1, e2, e3⟩ := end_zero (p := (endC b ⟨c, bd⟩ (isKey k)).1) (by rw [← h])
  rw [if_pos h]
  simp only at e1 e2 ⊢
  subst e1
  unfold rRow at hq
  obtain ⟨⟨k1, s1, b1⟩, h1⟩ : ∃ p, p = rTxt b 16 s0 := ⟨_, rfl⟩
  rw [← h1] at hq
  simp only at hq
  obtain ⟨⟨v1, s2, b2⟩, h2⟩ : ∃ p, p = rTxt b 64 ⟨s1, b1⟩ := ⟨_, rfl⟩
  rw [← h2] at hq
  simp only at hq
  obtain ⟨⟨t1, s3⟩, h3⟩ : ∃ p, p = rNum b 1099511627775 ⟨s2, b2⟩ := ⟨_, rfl⟩
  rw [← h3] at hq
  simp only [Prod.mk.injEq, RowP.mk.injEq] at hq
  obtain ⟨⟨rfl, rfl, rfl⟩, rfl⟩ := hq
  obtain ⟨g1, g2, _, g3⟩ := rNum_got h3.symm
  simp only at g1 g3
  subst g1
  obtain ⟨f1, f2, _, f3⟩ := rTxt_got h2.symm
  simp only at f1 f3
  subst f1
  obtain ⟨d1, _, _, d3⟩ := rTxt_got h1.symm
  rw [hs] at d1 d3
  obtain ⟨k1, k2⟩ := start_good d1
  rw [k1] at d3
  simp only at d3
  refine ⟨e3, (isVal_iff _).2 f2, (isTm_iff _).2 (by omega), ?_⟩
  rw [k2, d3, f3, g3, dropped e2]
  unfold encRow
  simp [List.append_assoc]
theorem decGone_got {b : List UInt8} (h : (decGone b).2.2 = 0) : isKey (decGone b).1.key = true ∧ isTm (decGone b).1.time = true ∧ encGone (decGone b).1.key (decGone b).1.time = b := by
  unfold decGone at h ⊢
  obtain ⟨s0, hs⟩ : ∃ s, s = startC b 71 := ⟨_, rfl⟩
  rw [← hs] at h ⊢
  obtain ⟨⟨⟨k, t⟩, c, bd⟩, hq⟩ : ∃ p, p = rGone b s0 := ⟨_, rfl⟩
  rw [← hq] at h ⊢
  simp only at h ⊢
  unfold ansC at h ⊢
  simp only at h ⊢
  obtain ⟨e1, e2, e3⟩ := end_zero (p := (endC b ⟨c, bd⟩ (isKey k)).1) (by rw [← h])
  rw [if_pos h]
  simp only at e1 e2 ⊢
  subst e1
  unfold rGone at hq
  obtain ⟨⟨k1, s1, b1⟩, h1⟩ : ∃ p, p = rTxt b 16 s0 := ⟨_, rfl⟩
  rw [← h1] at hq
  simp only at hq
  obtain ⟨⟨t1, s3⟩, h3⟩ : ∃ p, p = rNum b 1099511627775 ⟨s1, b1⟩ := ⟨_, rfl⟩
  rw [← h3] at hq
  simp only [Prod.mk.injEq, GoneP.mk.injEq] at hq
  obtain ⟨⟨rfl, rfl⟩, rfl⟩ := hq
  obtain ⟨g1, g2, _, g3⟩ := rNum_got h3.symm
  simp only at g1 g3
  subst g1
  obtain ⟨d1, _, _, d3⟩ := rTxt_got h1.symm
  rw [hs] at d1 d3
  obtain ⟨k1, k2⟩ := start_good d1
  rw [k1] at d3
  simp only at d3
  refine ⟨e3, (isTm_iff _).2 (by omega), ?_⟩
  rw [k2, d3, g3, dropped e2]
  unfold encGone
  simp

/-! ### no commit's bytes are the beginning of another one's -/
theorem txt_prefix {k k' r r' : List UInt8} (h : txt k ++ r = txt k' ++ r') : k = k' ∧ r = r' := by
  unfold txt at h
  rw [List.append_assoc, List.append_assoc] at h
  obtain ⟨h1, h2⟩ := uvar_prefix _ _ _ _ h
  exact List.append_inj h2 h1
theorem encW_prefix {x y : Wri} (hx : wOk x = true) (hy : wOk y = true) {r r' : List UInt8} (h : encW x ++ r = encW y ++ r') : x = y ∧ r = r' := by
  obtain ⟨_, _, _, h4⟩ := wOk_bounds hx
  obtain ⟨_, _, _, h5⟩ := wOk_bounds hy
  obtain ⟨k, v, g⟩ := x
  obtain ⟨k', v', g'⟩ := y
  unfold encW at h
  simp only at h h4 h5
  cases g <;> cases g' <;> simp only [if_true, Bool.false_eq_true, if_false, List.cons_append, List.cons.injEq, List.append_assoc] at h
  · obtain ⟨_, h0⟩ := h
    obtain ⟨e1, h1⟩ := txt_prefix h0
    obtain ⟨e2, h2⟩ := txt_prefix h1
    rw [e1, e2]
    exact ⟨rfl, h2⟩
  · exact absurd h.1 (by decide)
  · exact absurd h.1 (by decide)
  · obtain ⟨_, h0⟩ := h
    obtain ⟨e1, h1⟩ := txt_prefix h0
    rw [h4 rfl, h5 rfl, e1]
    exact ⟨rfl, h1⟩
theorem encWs_prefix : ∀ (xs ys : List Wri) (r r' : List UInt8), xs.length = ys.length → (∀ x ∈ xs, wOk x = true) → (∀ y ∈ ys, wOk y = true) → encWs xs ++ r = encWs ys ++ r' → r = r'
  | [], [], r, r', _, _, _, h => h
  | [], _ :: _, _, _, hl, _, _, _ => by simp at hl
  | _ :: _, [], _, _, hl, _, _, _ => by simp at hl
  | x :: xs, y :: ys, r, r', hl, hx, hy, h => by
    simp only [encWs, List.flatMap_cons, List.append_assoc] at h
    obtain ⟨_, h2⟩ := encW_prefix (hx x (by simp)) (hy y (by simp)) h
    exact encWs_prefix xs ys r r' (by simpa using hl) (fun z hz => hx z (by simp [hz])) (fun z hz => hy z (by simp [hz])) h2
/-- No commit is read from a beginning of a commit's bytes. -/
theorem decCom_less {t : Nat} {ws : List Wri} (h : comOk t ws = true) {k : Nat} (hk : k < (encCom t ws).length) : (decCom ((encCom t ws).take k)).2.2 ≠ 0 := by
  intro h0
  obtain ⟨h1, h2⟩ := decCom_got h0
  obtain ⟨t', ws', he⟩ : ∃ t' ws', (decCom ((encCom t ws).take k)).1 = (t', ws') := ⟨_, _, rfl⟩
  rw [he] at h1 h2
  simp only at h1 h2
  have h3 : encCom t' ws' ++ (encCom t ws).drop k = encCom t ws ++ [] := by rw [h2, List.take_append_drop, List.append_nil]
  obtain ⟨_, _, o1⟩ := comOk_bounds h
  obtain ⟨_, _, o2⟩ := comOk_bounds h1
  have g1 : ∀ x ∈ ws, wOk x = true := fun x hx => by
    obtain ⟨j, hj, rfl⟩ := List.getElem_of_mem hx
    exact wsOk_bounds o1 j hj
  have g2 : ∀ x ∈ ws', wOk x = true := fun x hx => by
    obtain ⟨j, hj, rfl⟩ := List.getElem_of_mem hx
    exact wsOk_bounds o2 j hj
  obtain ⟨D, hD⟩ : ∃ D, D = (encCom t ws).drop k := ⟨_, rfl⟩
  rw [← hD] at h3
  have h4 : uvar t' ++ (uvar ws'.length ++ (encWs ws' ++ D)) = uvar t ++ (uvar ws.length ++ (encWs ws ++ [])) := by
    have h5 := h3
    unfold encCom at h5
    simp only [List.cons_append, List.cons.injEq, true_and, List.append_assoc] at h5
    exact h5
  obtain ⟨_, h5⟩ := uvar_prefix _ _ _ _ h4
  obtain ⟨h6, h7⟩ := uvar_prefix _ _ _ _ h5
  have h8 := encWs_prefix ws' ws _ _ h6 g2 g1 h7
  have h9 := congrArg List.length h8
  rw [hD, List.length_drop, List.length_nil] at h9
  omega
/-- Bytes that are read as one kind of record are no other kind's. -/
theorem first_com {b : List UInt8} (h : (decCom b).2.2 = 0) : b[0]? = some 67 := by
  rw [← (decCom_got h).2]; rfl
theorem first_row {b : List UInt8} (h : (decRow b).2.2 = 0) : b[0]? = some 82 := by
  rw [← (decRow_got h).2.2.2]; rfl
theorem first_gone {b : List UInt8} (h : (decGone b).2.2 = 0) : b[0]? = some 71 := by
  rw [← (decGone_got h).2.2]; rfl
theorem first_man {b : List UInt8} (h : (decMan b).2.2 = 0) : b[0]? = some 77 := by
  rw [← (decMan_got h).2]; rfl
end Go.Proofs.Ytggjipfdfpdecaa
/- The walk of the document's RightManifest. -/
set_option linter.unusedVariables false
namespace Go.Proofs.Ytggjipfdfpdecaa
open Go.RowKit
attribute [local go_sem] bs_list bs_size

theorem manOk_head {t lo : Int} {ps : List Pai} (h : (isTm t && isNo lo && decide (ps.length ≤ 16)) = false) : manOk t lo ps = false := by
  unfold manOk; rw [h]; rfl
theorem manOk_pair {t lo : Int} {ps : List Pai} {k : Nat} (hk : k < ps.length) (h : pAt ps k = false) : manOk t lo ps = false := by
  unfold manOk; rw [psOk_no hk h]; simp
theorem isNo_lo {n : Int} (h : n < 1) : isNo n = false := by unfold isNo; rw [decide_eq_false_iff_not]; omega
theorem isNo_hi {n : Int} (h : 2147483647 < n) : isNo n = false := by unfold isNo; rw [decide_eq_false_iff_not]; omega
theorem isNo_in {n : Int} (h : ¬ n < 1) (h2 : ¬ 2147483647 < n) : isNo n = true := by unfold isNo; rw [decide_eq_true_iff]; omega

set_option maxRecDepth 100000 in
set_option maxHeartbeats 4000000 in
theorem rightManF_any (t lo : Int) (v : Value) (ps : List Pai) (w : World) (hr : Rd3 w v (ps.map pV)) (hl : ps.length ≤ 1048576) :
    Calls Try.prog 108 #[.agg #[.int .i64 t, .int .i64 lo, v]] w fun e w' => e = .returned (.bool (manOk t lo ps)) ∧ Below w.heap.size w w' := by
  obtain ⟨A, c, rfl, _, _, _⟩ := id hr
  rw [List.length_map] at hr ⊢
  obtain ⟨H, hH⟩ : ∃ H, H = w.heap.size := ⟨_, rfl⟩
  obtain ⟨wb, hwb⟩ : ∃ w0, w0 = w.alloc (.cells #[.int .i64 t, .int .i64 lo, .slice A ps.length c] 74) := ⟨_, rfl⟩
  have hb0 : Below w.heap.size w wb := by rw [hwb]; exact (Below.refl _ _).alloc (Nat.le_refl _) _
  have hx0 : wb.heap[H]? = some (.cells #[.int .i64 t, .int .i64 lo, .slice A ps.length c] 74 (0, 0)) := by rw [hwb, hH]; exact heap_alloc_new w _
  have HBB := Lib.hid hb0
  have k1 := timed_any t wb
  have HC := Lib.hid hx0
  have HR := Lib.hid (hr.below hb0)
  have c0 := box_cells hx0 0 (.int .i64 t) rfl
  have c1 := box_cells hx0 1 (.int .i64 lo) rfl
  have c2 := box_cells hx0 2 (.slice A ps.length c) rfl
  have HK1 := Lib.hid k1
  clear hr hb0 hx0 k1
  go_enter Try.func108, Try.ntmps108
  go_upto_region 1 with fail
  rw [← hwb, ← hH]
  have HH := Lib.hid hH
  clear hwb hH
  have hwH : w.heap.size ≤ H := by rw [HH.out]; exact Nat.le_refl _
  have hHb : H < wb.heap.size := (Array.getElem?_eq_some_iff.1 HC.out).1
  go_cut [26] (fun v26 wx => v26 = .bool (!(isTm t && isNo lo && decide (ps.length ≤ 16))) ∧ wx = wb)
  case first =>
    go_wp2_with fail
    refine HK1.out.mono ?_
    rintro e w' ⟨rfl, rfl⟩
    cases h1 : isTm t
    · go_wp2_with fail
      go_meet
      exact ⟨bool_eq (by rw [h1]; rfl), rfl⟩
    · by_cases l1 : lo < 1
      · have t1 : decide (lo < 1) = true := by simpa using l1
        have t2 := isNo_lo l1
        have T2 := Lib.hid t2; clear t2 l1
        go_wp2_with fail
        go_meet
        exact ⟨bool_eq (by rw [h1, T2.out]; rfl), rfl⟩
      · have t1 : decide (lo < 1) = false := by simpa using l1
        by_cases l2 : 2147483647 < lo
        · have t3 : decide (2147483647 < lo) = true := by simpa using l2
          have T2 := Lib.hid (isNo_hi l2); clear l1 l2
          go_wp2_with fail
          go_meet
          exact ⟨bool_eq (by rw [h1, T2.out]; rfl), rfl⟩
        · have t3 : decide (2147483647 < lo) = false := by simpa using l2
          have T2 := Lib.hid (isNo_in l1 l2); clear l1 l2
          by_cases l3 : ps.length ≤ 16
          · have t4 : decide ((16 : Int) < (ps.length : Int)) = false := by simp; omega
            go_wp2_with fail
            go_meet
            exact ⟨bool_eq (by rw [h1, T2.out, decide_eq_true l3]; rfl), rfl⟩
          · have t4 : decide ((16 : Int) < (ps.length : Int)) = true := by simp; omega
            go_wp2_with fail
            go_meet
            exact ⟨bool_eq (by rw [h1, T2.out, decide_eq_false l3]; rfl), rfl⟩
  case rest =>
    obtain ⟨rfl, hwx⟩ := hcut
    obtain rfl := hwx.symm
    cases hb : (isTm t && isNo lo && decide (ps.length ≤ 16)) with
    | false =>
      have HF := Lib.hid (manOk_head hb)
      go_wp2_with fail
      go_ret
      exact ⟨ret_bool HF.out.symm, HBB.out⟩
    | true =>
      have hman : manOk t lo ps = (psOk ps && (atOf ps ps.length == t)) := by unfold manOk; rw [hb]; simp
      have HMAN := Lib.hid hman; clear hman hb c0 c1 c2 hwx
      have h00 := atOf_zero ps
      have H00 := Lib.hid h00; clear h00
      go_wp2_with fail
      go_loopw [3, 4] (fun v3 v4 wr => ∃ (k : Nat), k ≤ ps.length ∧ v4 = .int .i64 (k : Int) ∧ v3 = .int .i64 (atOf ps k) ∧ Hid (∀ j, j < k → pAt ps j = true) ∧ Below wb.heap.size wb wr) (fun _ v4 _ => ps.length - (intOf v4).toNat)
      case atStart =>
        exact ⟨0, by omega, rfl, by rw [H00.out], Lib.hid (fun j hj => by omega), Below.refl _ _⟩
      case round =>
        obtain ⟨k, hk, rfl, rfl, HJ, hb⟩ := hrel
        have HB := Lib.hid hb; clear hb
        have hcr := heap_below HC.out HB.out
        have c2 := box_cells hcr 2 (.slice A ps.length c) rfl
        have HCR := Lib.hid hcr; clear hcr
        by_cases hlt : k < ps.length
        · have t1 : decide ((k : Int) < (ps.length : Int)) = true := by simp; omega
          obtain ⟨ad, c', he, _, _, hp0, hp1, hp2⟩ := (HR.out.below HB.out).elem (j := k) (by rw [List.length_map]; exact hlt)
          rw [List.length_map] at he
          injection he with e1 e2 e3
          subst e1
          rw [List.getElem_map] at hp0 hp1 hp2
          obtain ⟨x, hx⟩ : ∃ x, x = ps[k] := ⟨_, rfl⟩
          rw [← hx] at hp0 hp1 hp2
          simp only [pV] at hp0 hp1 hp2
          clear e2 e3
          have hpa := pAt_eq ps k hlt
          have hau := atOf_succ ps k hlt
          rw [← hx] at hpa hau
          have HPA := Lib.hid hpa; clear hpa
          have HAU := Lib.hid hau; clear hau
          obtain ⟨a0, ha0⟩ : ∃ a0, a0 = atOf ps k := ⟨_, rfl⟩
          rw [← ha0]
          have HA0 := Lib.hid ha0; clear ha0
          have HX := Lib.hid hx; clear hx
          obtain ⟨w0, hw0⟩ : ∃ w0, w0 = wr.alloc (.cells #[.int .i64 x.num, .int .i64 x.from_, .int .i64 x.to_] 79) := ⟨_, rfl⟩
          obtain ⟨B, hB⟩ : ∃ B, B = wr.heap.size := ⟨_, rfl⟩
          have hbl : Below wr.heap.size wr w0 := by rw [hw0]; exact (Below.refl _ _).alloc (Nat.le_refl _) _
          have hx0 : w0.heap[B]? = some (.cells #[.int .i64 x.num, .int .i64 x.from_, .int .i64 x.to_] 79 (0, 0)) := by rw [hw0, hB]; exact heap_alloc_new wr _
          have HB0 := Lib.hid (HB.out.trans (hbl.mono HB.out.size))
          have HR0 := Lib.hid ((HR.out.below HB.out).below hbl)
          have HC0 := Lib.hid (heap_below HCR.out hbl)
          have HX0 := Lib.hid hx0
          have x0 := box_cells hx0 0 (.int .i64 x.num) rfl
          have x1 := box_cells hx0 1 (.int .i64 x.from_) rfl
          have x2 := box_cells hx0 2 (.int .i64 x.to_) rfl
          clear hbl hx0
          go_upto_region 8 with fail
          rw [← hw0, ← hB]
          have HW0 := Lib.hid hw0; clear hw0
          have HBX := Lib.hid hB; clear hB
          clear c2 hp0 hp1 hp2
          have h00 : atOf ps k = a0 := HA0.out.symm
          have hpo : pAt ps k = pOk ((ps.take k).map Pai.num) a0 x := by rw [HPA.out, h00]
          have HPO := Lib.hid hpo; clear h00 hpo
          go_cut [59] (fun v59 wx => v59 = .bool (!(isNo x.num && (x.from_ == a0) && decide (x.from_ < x.to_))) ∧ wx = w0)
          case first =>
            by_cases l1 : x.num < 1
            · have t2 : decide (x.num < 1) = true := by simpa using l1
              have T2 := Lib.hid (isNo_lo l1); clear l1
              go_wp2_with fail
              go_meet
              exact ⟨bool_eq (by rw [T2.out]; rfl), rfl⟩
            · have t2 : decide (x.num < 1) = false := by simpa using l1
              by_cases l2 : 2147483647 < x.num
              · have t3 : decide (2147483647 < x.num) = true := by simpa using l2
                have T2 := Lib.hid (isNo_hi l2); clear l1 l2
                go_wp2_with fail
                go_meet
                exact ⟨bool_eq (by rw [T2.out]; rfl), rfl⟩
              · have t3 : decide (2147483647 < x.num) = false := by simpa using l2
                have T2 := Lib.hid (isNo_in l1 l2); clear l1 l2
                cases h3 : (x.from_ == a0) with
                | false =>
                  have t4 : (x.from_ != a0) = true := by simp only [bne, h3]; rfl
                  have H3 := Lib.hid h3; clear h3
                  go_wp2_with fail
                  go_meet
                  exact ⟨bool_eq (by rw [T2.out, H3.out]; rfl), rfl⟩
                | true =>
                  have t4 : (x.from_ != a0) = false := by simp only [bne, h3]; rfl
                  have H3 := Lib.hid h3; clear h3
                  by_cases l4 : x.from_ < x.to_
                  · have t5 : decide (x.to_ ≤ x.from_) = false := by simpa using l4
                    have L4 := Lib.hid (decide_eq_true l4); clear l4
                    go_wp2_with fail
                    go_meet
                    exact ⟨bool_eq (by rw [T2.out, H3.out, L4.out]; rfl), rfl⟩
                  · have t5 : decide (x.to_ ≤ x.from_) = true := by simpa using l4
                    have L4 := Lib.hid (decide_eq_false l4); clear l4
                    go_wp2_with fail
                    go_meet
                    exact ⟨bool_eq (by rw [T2.out, H3.out, L4.out]; rfl), rfl⟩
          case rest =>
            obtain ⟨rfl, hwx⟩ := hcut
            obtain rfl := hwx.symm
            cases hq : (isNo x.num && (x.from_ == a0) && decide (x.from_ < x.to_)) with
            | false =>
              have hno : pAt ps k = false := by
                rw [HPO.out]
                unfold pOk
                simp only [Bool.and_eq_false_iff] at hq ⊢
                rcases hq with (h | h) | h
                · exact .inl (.inl (.inl h))
                · exact .inl (.inr h)
                · exact .inr h
              have HF := Lib.hid (manOk_pair (t := t) (lo := lo) hlt hno)
              clear hno hq
              go_wp2_with fail
              go_ret
              exact ⟨ret_bool HF.out.symm, HBB.out.trans (HB0.out.mono HBB.out.size)⟩
            | true =>
              have HQ := Lib.hid hq; clear hq
              go_upto_block 2 with fail
              go_cut [6] (fun _ wx => Hid (((ps.take k).map Pai.num).contains x.num = false) ∧ Below w0.heap.size w0 wx)
              case first =>
                clear x0 x1 x2
                go_wp2_with fail
                go_loopw [6] (fun v6 wi => ∃ (j : Nat), j ≤ k ∧ v6 = .int .i64 (j : Int) ∧ Hid (∀ i (hi : i < ps.length), i < j → ps[i].num ≠ x.num) ∧ Below w0.heap.size w0 wi) (fun v6 _ => k - (intOf v6).toNat)
                case atStart => exact ⟨0, by omega, rfl, Lib.hid (fun i _ h => by omega), Below.refl _ _⟩
                case round =>
                  obtain ⟨j, hjk, rfl, HN, hbi⟩ := hrel
                  have HBI := Lib.hid hbi
                  have c2 := box_cells (heap_below HC0.out hbi) 2 (.slice (some ad) ps.length c) rfl
                  have x0 := box_cells (heap_below HX0.out hbi) 0 (.int .i64 x.num) rfl
                  by_cases hlt2 : j < k
                  · have t2 : decide ((j : Int) < (k : Int)) = true := by simp; omega
                    obtain ⟨ad2, c3, he, _, _, q0, _, _⟩ := (HR0.out.below hbi).elem (j := j) (by rw [List.length_map]; omega)
                    rw [List.length_map] at he
                    injection he with e1 e2 e3
                    injection e1 with e1
                    subst e1
                    rw [List.getElem_map] at q0
                    obtain ⟨y, hy⟩ : ∃ y, y = ps[j] := ⟨_, rfl⟩
                    rw [← hy] at q0
                    simp only [pV] at q0
                    have HY := Lib.hid hy
                    clear e2 e3 hy hbi
                    cases heq : (y.num == x.num) with
                    | true =>
                      have hno : pAt ps k = false := by
                        rw [HPO.out]
                        unfold pOk
                        have hin : ((ps.take k).map Pai.num).contains x.num = true := by
                          rw [List.contains_iff_mem, List.mem_map]
                          refine ⟨ps[j], ?_, ?_⟩
                          · exact List.mem_take_iff_getElem.2 ⟨j, by omega, rfl⟩
                          · rw [← HY.out]; exact beq_iff_eq.1 heq
                        rw [hin]; simp
                      have HF := Lib.hid (manOk_pair (t := t) (lo := lo) hlt hno)
                      clear hno
                      go_wp2_with fail
                      go_quiet (fail)
                      go_wp2_with fail
                      go_ret
                      exact ⟨ret_bool HF.out.symm, HBB.out.trans ((HB0.out.trans ((below_drewN HBI.out _).mono HB0.out.size)).mono HBB.out.size)⟩
                    | false =>
                      have hne : ps[j].num ≠ x.num := by rw [← HY.out]; exact fun e => by rw [e] at heq; simp at heq
                      have HNE := Lib.hid hne; clear hne
                      go_wp2_with fail
                      go_quiet (fail)
                      go_wp2_with fail
                      go_roundw
                      case rel => exact ⟨j + 1, by omega, by go_num, Lib.hid (fun i hi h => by
                        rcases Nat.lt_or_ge i j with h2 | h2
                        · exact HN.out i hi h2
                        · have : i = j := by omega
                          subst this; exact HNE.out), below_drewN HBI.out _⟩
                      case measure => simp [intOf]; omega
                  · have t2 : decide ((j : Int) < (k : Int)) = false := by simp; omega
                    have hno : ((ps.take k).map Pai.num).contains x.num = false := by
                      apply bool_no
                      intro h
                      rw [List.contains_iff_mem, List.mem_map] at h
                      obtain ⟨p, hp, he⟩ := h
                      obtain ⟨i, hi, rfl⟩ := List.mem_take_iff_getElem.1 hp
                      exact HN.out i (by omega) (by omega) he
                    have HNO := Lib.hid hno; clear hno hbi
                    go_wp2_with fail
                    go_meet
                    exact ⟨HNO, HBI.out⟩
              case rest =>
                obtain ⟨HNO, hbx⟩ := hcut
                have hyes : pAt ps k = true := by
                  rw [HPO.out]
                  have hq := HQ.out
                  unfold pOk
                  rw [HNO.out]
                  simpa using hq
                have HYES := Lib.hid hyes
                have HBX := Lib.hid (HB0.out.trans (hbx.mono HB0.out.size))
                have x2 := box_cells (heap_below HX0.out hbx) 2 (.int .i64 x.to_) rfl
                clear hyes hbx x0 x1
                go_wp2_with fail
                go_roundw
                case rel => exact ⟨k + 1, by omega, by go_num, by rw [HAU.out], Lib.hid (fun j hj => by
                  rcases Nat.lt_or_ge j k with h | h
                  · exact HJ.out j h
                  · rw [show j = k from by omega]; exact HYES.out), HBX.out⟩
                case measure => simp [intOf]; omega
        · have t1 : decide ((k : Int) < (ps.length : Int)) = false := by simp; omega
          have hok : psOk ps = true := (psOk_iff ps).2 (fun j hj => HJ.out j (by omega))
          have hkk : k = ps.length := by omega
          have hman := HMAN.out
          rw [hok, ← hkk] at hman
          have HM := Lib.hid hman; clear hok hkk hman
          have c0 := box_cells HCR.out 0 (.int .i64 t) rfl
          go_wp2_with fail
          go_ret
          exact ⟨ret_bool (by rw [HM.out]; rfl), HBB.out.trans (HB.out.mono HBB.out.size)⟩
end Go.Proofs.Ytggjipfdfpdecaa
