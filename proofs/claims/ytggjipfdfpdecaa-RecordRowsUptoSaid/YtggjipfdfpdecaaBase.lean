/- The words of this seat's proofs: bytes as values, a slice of bytes that reads, a row of bytes of the call's own. -/
import Derived.Test.YtggjipfdfpdecaaRows
import Derived.WalkKit
import Derived.WalkSpells
import Derived.WalkLawsBesides
import Derived.Lib.Hide
import Derived.Maps.AppendAt
import Derived.Deep.AppendLies
import Derived.Lib.AppendStr
import Derived.Lib.SlBytesConst
import Derived.Laws.IdiomStrings
import Derived.Laws.BitsAllLaws
import Derived.Laws.BitsLemmas
import Derived.Laws.Bits128
namespace Go.Proofs.Ytggjipfdfpdecaa
open Go.RowKit

theorem info5 : (Try.prog.info? 5).map (fun i => (i.zero, i.size, i.bytes)) = some (some (.int .u8 0), 1, 1) := by kernel_rfl

/-- A byte as a value; bytes as cells. -/
def bv (b : UInt8) : Value := .int .u8 (b.toNat : Int)
def bvs (l : List UInt8) : List Value := l.map bv
theorem bvs_length (l : List UInt8) : (bvs l).length = l.length := by simp [bvs]
theorem bvs_append (l r : List UInt8) : bvs (l ++ r) = bvs l ++ bvs r := by simp [bvs]
theorem bvs_get (l : List UInt8) (j : Nat) (h : j < l.length) : (bvs l)[j]? = some (bv l[j]) := by simp [bvs, h]
theorem bvs_one (l : List UInt8) : ∀ u ∈ bvs l, u.oneCell' = true := by
  intro u hu
  simp only [bvs, List.mem_map] at hu
  obtain ⟨b, _, rfl⟩ := hu
  rfl

/-- The value v reads as the bytes l. -/
def RdB (w : World) (v : Value) (l : List UInt8) : Prop :=
  ∃ A c, v = .slice A l.length c ∧ l.length ≤ c ∧ c ≤ maxLen ∧ (0 < l.length → ∃ ad : Addr, A = some ad ∧ ∀ j (h : j < l.length), w.cell? (ad.add j) = some (bv l[j]))

theorem RdB.nil (w : World) : RdB w (.slice none 0 0) [] := ⟨none, 0, rfl, Nat.le_refl _, by simp [maxLen], fun h => by simp at h⟩

theorem RdB.keep {w w' : World} {v : Value} {l : List UInt8} (h : RdB w v l) (hc : ∀ p : Addr, p.block < w.heap.size → w'.cell? p = w.cell? p) : RdB w' v l := by
  obtain ⟨A, c, hv, h1, h2, h3⟩ := h
  refine ⟨A, c, hv, h1, h2, fun hp => ?_⟩
  obtain ⟨ad, hA, hcell⟩ := h3 hp
  refine ⟨ad, hA, fun j hj => ?_⟩
  have := hcell j hj
  rw [hc _ (World.block_lt_of_cell? w _ this), this]

theorem RdB.below {w w' : World} {v : Value} {l : List UInt8} (h : RdB w v l) (hb : Below w.heap.size w w') : RdB w' v l := h.keep fun _ hp => hb.cell hp

/-- A row of bytes of the call's own. -/
def Own (w : World) (base : Nat) (v : Value) (l : List UInt8) : Prop := w.ownsRow base 5 1 v l.length (bvs l)

theorem Own.nil (w : World) (base : Nat) : Own w base (.slice none 0 0) [] := ⟨by simp [bvs], .inl ⟨rfl, rfl⟩⟩

theorem addp (g j : Nat) : (⟨g, 0, none⟩ : Addr).add j = ⟨g, j, none⟩ := by unfold Addr.add; split <;> simp_all

theorem Own.rd {w : World} {base : Nat} {v : Value} {l : List UInt8} (h : Own w base v l) : RdB w v l := by
  have h0 := h
  rcases h.2 with ⟨rfl, hn⟩ | ⟨g, cap, cur, rfl, hb, hg, hn, hm, hs, ht⟩
  · obtain rfl : l = [] := List.eq_nil_of_length_eq_zero hn
    exact RdB.nil w
  · refine ⟨_, cap, rfl, hn, hm, fun _ => ⟨_, rfl, fun j hj => ?_⟩⟩
    exact h0.cells (g := g) rfl j _ (bvs_get l j hj)

theorem Own.below {w w' : World} {base : Nat} {v : Value} {l : List UInt8} (h : Own w base v l) (hb : Below w.heap.size w w') : Own w' base v l := by
  refine h.kept (row := none) ⟨hb.os, hb.tape, hb.output, hb.size, fun k hk _ => hb.block k hk⟩ ?_
  cases v.ownBlock <;> simp


section
variable {ops : Array Oper} {rest : List Oper} {o : Oper} {a : Act} {Q : Exit → Act → World → Prop}

/-- append(v, x): v a row of the call's own. -/
theorem own_append1 {W : World} (base : Nat) (hgd : o.guard = none) (s x : Operand)
    (ho : o.op = .call { callee := .builtin .append, args := #[s, x], argTypes := #[25, 25] })
    (v : Value) (l : List UInt8) (b : UInt8) (y : Value) (hy : y = bv b) (hs : a.eval s = v) (hx : a.eval x = .slice (some ⟨W.heap.size, 0, none⟩) 1 1)
    (HO : Own W base v l) (hbase : base ≤ W.heap.size) (hl : l.length + 1 ≤ 140737488355328)
    (h : ∀ v1 w1, Own w1 base v1 (l ++ [b]) → Below base W w1 → W.grownBy w1 v.ownBlock → (v1.ownBlock = v.ownBlock ∨ ∃ k, v1.ownBlock = some k ∧ W.heap.size ≤ k) → wpList Try.prog ops Q rest (a.put o.dst v1) w1) :
    wpList Try.prog ops Q (o :: rest) a (W.alloc (.cells #[y] 5)) := by
  subst hy
  obtain ⟨i0, hi, hz0, hz1, hz2⟩ := info_parts info5
  refine wpList_append_own_at (W.alloc (.cells #[bv b] 5)) hgd s x 25 ho base 5 i0 (.int .u8 0) 1 1 Try.underlying25 hi hz0 hz1 hz2 rfl (by omega) v l.length (bvs l) hs (HO.alloc _) ⟨W.heap.size, 0, none⟩ 1 1 [bv b] hx rfl
    (World.news_of_block (cs := #[bv b]) (t := 5) (fr := (0, 0)) (heap_alloc_new W _)) (by intro u hu; simp at hu; subst hu; rfl) (by simp only [maxLen]; omega) (by omega) (by simp; omega) ?_
  intro v1 w1 hown hg _ hat
  have hown' : Own w1 base v1 (l ++ [b]) := by
    unfold Own
    rw [bvs_append]
    simpa [bvs] using hown
  refine h v1 w1 hown' (((Below.refl base W).alloc hbase _).grown hg (by simp; omega) ?_) (World.grownBy.trans (World.grownBy_alloc W _ _) hg) ?_
  · intro k hk
    exact (HO.lt k hk).1
  · rcases hat with hat | hat
    · exact .inl hat
    · exact .inr ⟨_, hat, by simp⟩

/-- append(v, r...): v a row of the call's own, r a slice that reads. -/
theorem own_append_row {W : World} (base : Nat) (hgd : o.guard = none) (s x : Operand)
    (ho : o.op = .call { callee := .builtin .append, args := #[s, x], argTypes := #[25, 25] })
    (v u : Value) (l r : List UInt8) (hs : a.eval s = v) (hx : a.eval x = u)
    (HO : Own W base v l) (HR : RdB W u r) (hbase : base ≤ W.heap.size) (hl : l.length + r.length ≤ 140737488355328)
    (h : ∀ v1 w1, Own w1 base v1 (l ++ r) → Below base W w1 → W.grownBy w1 v.ownBlock → (v1.ownBlock = v.ownBlock ∨ ∃ k, v1.ownBlock = some k ∧ W.heap.size ≤ k) → wpList Try.prog ops Q rest (a.put o.dst v1) w1) :
    wpList Try.prog ops Q (o :: rest) a W := by
  obtain ⟨i0, hi, hz0, hz1, hz2⟩ := info_parts info5
  obtain ⟨A, c, hu, hc, hm, hcell⟩ := HR
  subst hu
  have hrun : ∃ v1 w1, (Builtin.append_ #[25, 25] o.type #[v, .slice A r.length c]).run Try.prog W = .ok v1 w1 ∧ Own w1 base v1 (l ++ r) ∧ W.grownBy w1 v.ownBlock ∧ (v1.ownBlock = v.ownBlock ∨ v1.ownBlock = some W.heap.size) := by
    rcases A with _ | ad
    · have h0 : r.length = 0 := by
        rcases Nat.eq_zero_or_pos r.length with h0 | h0
        · exact h0
        · obtain ⟨ad, h, _⟩ := hcell h0
          cases h
      obtain rfl : r = [] := List.eq_nil_of_length_eq_zero h0
      refine ⟨v, W, ?_, by simpa using HO, World.grownBy.refl W _, .inl rfl⟩
      rcases HO.2 with ⟨rfl, hn⟩ | ⟨g, cap, cur, rfl, _, _, hnc, _⟩
      · simp [Builtin.append_, run_underlying Try.underlying25, sizeOf, typeInfo, hi, Builtin.lenOf, Builtin.firstCells]
      · simp [Builtin.append_, run_underlying Try.underlying25, sizeOf, typeInfo, hi, Builtin.lenOf, Builtin.firstCells, hnc, storeCells]
    · have hcells : ∀ j q, (bvs r)[j]? = some q → W.cell? (ad.add j) = some q := by
        intro j q hq
        have hj : j < r.length := by
          rcases Nat.lt_or_ge j r.length with h | h
          · exact h
          · simp [bvs, List.getElem?_eq_none h] at hq
        obtain ⟨ad', h', hcc⟩ := hcell (by omega)
        obtain rfl : ad = ad' := Option.some.inj h'
        rw [bvs_get r j hj] at hq
        rw [hcc j hj, hq]
      obtain ⟨v1, w1, hr, h2, h3, _, h5⟩ := run_append_own_at (P := Try.prog) W base 25 o.type 5 i0 (.int .u8 0) 1 1 Try.underlying25 hi hz0 hz1 hz2 rfl (by omega) v l.length (bvs l) HO ad r.length c (bvs r) (by simp [bvs]) hcells
        (bvs_one r) (by simp only [maxLen]; omega) (by omega) hbase
      exact ⟨v1, w1, hr, by unfold Own; rw [bvs_append, List.length_append]; exact h2, h3, h5⟩
  obtain ⟨v1, w1, hr, hown, hg, hat⟩ := hrun
  refine wpList_plain hgd fun K hK => ?_
  unfold Oper.wp execOp
  simp only [ho, resolve, invoke, builtin, Sem.run_bind, Sem.run_pure, Result.andThen_ok, List.map_toArray, List.map_cons, List.map_nil, hs, hx, hr]
  refine hK _ _ (h v1 w1 hown ((Below.refl base W).grown hg hbase fun k hk => (HO.lt k hk).1) hg ?_)
  rcases hat with hat | hat
  · exact .inl hat
  · exact .inr ⟨_, hat, Nat.le_refl _⟩

/-- append(v, y...): y a string. -/
theorem own_append_str {W : World} (base : Nat) (hgd : o.guard = none) (s x : Operand)
    (ho : o.op = .call { callee := .builtin .append, args := #[s, x], argTypes := #[25, 9] })
    (v : Value) (l : List UInt8) (y : ByteArray) (hs : a.eval s = v) (hx : a.eval x = .string y)
    (HO : Own W base v l) (hbase : base ≤ W.heap.size) (hl : l.length + y.size ≤ 140737488355328)
    (h : ∀ v1 w1, Own w1 base v1 (l ++ y.data.toList) → Below base W w1 → W.grownBy w1 v.ownBlock → wpList Try.prog ops Q rest (a.put o.dst v1) w1) :
    wpList Try.prog ops Q (o :: rest) a W := by
  obtain ⟨i0, hi, hz0, hz1, hz2⟩ := info_parts info5
  refine Lib.wpList_append_own_string W hgd s x 25 9 ho base 5 i0 Try.underlying25 Try.underlying9 hi hz0 hz1 hz2 v l.length (bvs l) hs HO y hx (by simp only [maxLen]; omega) hl hbase ?_
  intro v1 w1 hown hg _
  have hy : y.data.toList.length = y.size := by rw [Array.length_toList]; rfl
  have hc : bvs (l ++ y.data.toList) = bvs l ++ Lib.strCells y := by
    rw [bvs_append]
    congr 1
  refine h v1 w1 (by unfold Own; rw [List.length_append, hy, hc]; exact hown) ((Below.refl base W).grown hg hbase fun k hk => (HO.lt k hk).1) hg
end

/-! Values of bytes -/
theorem bv_of (k : Nat) (h : k < 256) : Value.int .u8 (k : Int) = bv (UInt8.ofNat k) := by
  simp [bv, Nat.mod_eq_of_lt h]
theorem bv_nat (b : UInt8) : bv b = Value.int .u8 (b.toNat : Int) := rfl
end Go.Proofs.Ytggjipfdfpdecaa
