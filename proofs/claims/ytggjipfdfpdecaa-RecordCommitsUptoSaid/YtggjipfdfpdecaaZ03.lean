/- Texts merged: FrB, RcS, RcW, Take, RTake, TText. Each says below what it proves. -/
import Derived.Test.YtggjipfdfpdecaaZ02
import Derived.Test.YtggjipfdfpdecaaZ01
import Derived.IntWalk
/- The walk of frame.Put's inner function: bytes are laid behind what is there, a mark ahead of each 31 of them. -/
namespace Go.Proofs.Ytggjipfdfpdecaa
open Go.RowKit

/-- append(v, x), the new block's number as the walk spells it. -/
theorem own_append1H {ops : Array Oper} {rest : List Oper} {o : Oper} {a : Act} {Q : Exit → Act → World → Prop} {W : World} (base H : Nat) (hH : W.heap.size = H) (hgd : o.guard = none) (s x : Operand)
    (ho : o.op = .call { callee := .builtin .append, args := #[s, x], argTypes := #[25, 25] })
    (v : Value) (l : List UInt8) (b : UInt8) (y : Value) (hy : y = bv b) (hs : a.eval s = v) (hx : a.eval x = .slice (some ⟨H, 0, none⟩) 1 1)
    (HO : Own W base v l) (hbase : base ≤ W.heap.size) (hl : l.length + 1 ≤ 140737488355328)
    (h : ∀ v1 w1, Own w1 base v1 (l ++ [b]) → Below base W w1 → W.grownBy w1 v.ownBlock → (v1.ownBlock = v.ownBlock ∨ ∃ k, v1.ownBlock = some k ∧ W.heap.size ≤ k) → wpList Try.prog ops Q rest (a.put o.dst v1) w1) :
    wpList Try.prog ops Q (o :: rest) a (W.alloc (.cells #[y] 5)) := by
  subst hH
  exact own_append1 base hgd s x ho v l b y hy hs hx HO hbase hl h

/-- The value v reads as the bytes l, all of them in block g. -/
def RdIn (w : World) (g : Nat) (v : Value) (l : List UInt8) : Prop :=
  ∃ A c, v = .slice A l.length c ∧ l.length ≤ c ∧ c ≤ maxLen ∧ (0 < l.length → ∃ ad : Addr, A = some ad ∧ ad.block = g ∧ ∀ j (h : j < l.length), w.cell? (ad.add j) = some (bv l[j]))
theorem RdIn.rd {w : World} {g : Nat} {v : Value} {l : List UInt8} (h : RdIn w g v l) : RdB w v l := by
  obtain ⟨A, c, hv, h1, h2, h3⟩ := h
  exact ⟨A, c, hv, h1, h2, fun hp => by obtain ⟨ad, hA, _, hc⟩ := h3 hp; exact ⟨ad, hA, hc⟩⟩
theorem add_block (a : Addr) (j : Nat) : (a.add j).block = a.block := by unfold Addr.add; split <;> rfl
theorem RdIn.keep {w w' : World} {g : Nat} {v : Value} {l : List UInt8} (h : RdIn w g v l) (hg : g < w.heap.size → w'.heap[g]? = w.heap[g]?) : RdIn w' g v l := by
  obtain ⟨A, c, hv, h1, h2, h3⟩ := h
  refine ⟨A, c, hv, h1, h2, fun hp => ?_⟩
  obtain ⟨ad, hA, hb, hc⟩ := h3 hp
  refine ⟨ad, hA, hb, fun j hj => ?_⟩
  have h0 := hc j hj
  have hlt := World.block_lt_of_cell? w _ h0
  rw [add_block, hb] at hlt
  rw [World.cell?_of_block (w := w) (by rw [add_block, hb]; exact hg hlt), h0]
theorem RdB.in_ {w : World} {v : Value} {l : List UInt8} (h : RdB w v l) : ∃ g, (0 < l.length → g < w.heap.size) ∧ RdIn w g v l := by
  obtain ⟨A, c, hv, h1, h2, h3⟩ := h
  by_cases hp : 0 < l.length
  · obtain ⟨ad, hA, hc⟩ := h3 hp
    refine ⟨ad.block, fun _ => ?_, A, c, hv, h1, h2, fun _ => ⟨ad, hA, rfl, hc⟩⟩
    have := World.block_lt_of_cell? w _ (hc 0 hp)
    rwa [add_block] at this
  · exact ⟨0, fun h => absurd h hp, A, c, hv, h1, h2, fun h => absurd h hp⟩
theorem Own.in_ {w : World} {base : Nat} {v : Value} {l : List UInt8} (h : Own w base v l) (g : Nat) (hg : v.ownBlock = some g ∨ v.ownBlock = none) : RdIn w g v l := by
  obtain ⟨A, c, hv, h1, h2, h3⟩ := h.rd
  refine ⟨A, c, hv, h1, h2, fun hp => ?_⟩
  obtain ⟨ad, hA, hc⟩ := h3 hp
  subst hA hv
  refine ⟨ad, rfl, ?_, hc⟩
  rcases hg with hg | hg
  · simpa [Value.ownBlock] using hg
  · simp [Value.ownBlock] at hg

/-- frame.Put's two captured variables: where it stands, and what is out so far. -/
structure PutSt (w : World) (B ga go : Nat) (a : Nat) (u : Value) (lo : List UInt8) : Prop where
  cga : w.heap[ga]? = some (.cells #[.int .i64 (a : Int)] 3 (0, 0))
  cgo : w.heap[go]? = some (.cells #[u] 25 (0, 0))
  own : Own w B u lo
  hBa : B ≤ ga
  hBo : B ≤ go
  hne : ga ≠ go

theorem own_ne_block {w : World} {B g : Nat} {u : Value} {lo : List UInt8} {cs : Array Value} {t : TypeId} (h : Own w B u lo) (hg : w.heap[g]? = some (.cells cs t (0, 0))) (ht : t ≠ 5) : u.ownBlock ≠ some g := by
  rcases h.2 with ⟨rfl, _⟩ | ⟨g', cap, cur, rfl, _, hh, _⟩
  · simp [Value.ownBlock]
  · intro he
    have : g' = g := by simpa [Value.ownBlock] using he
    subst this
    rw [hg] at hh
    injection hh with hh
    injection hh with _ ht' _
    exact ht ht'

theorem set_block {w : World} {g g' : Nat} {cs : Array Value} {t : TypeId} (h : w.heap[g']? = some (.cells cs t (0, 0))) (hne : g' ≠ g) (u : Value) : (w.setCell ⟨g, 0, none⟩ u).heap[g']? = some (.cells cs t (0, 0)) :=
  (Below.heap_setCell w ⟨g, 0, none⟩ u g' hne).trans h
theorem set_one {w : World} {g : Nat} {v u : Value} {t : TypeId} (h : w.heap[g]? = some (.cells #[v] t (0, 0))) : (w.setCell ⟨g, 0, none⟩ u).heap[g]? = some (.cells #[u] t (0, 0)) := by
  have := heap_setCell_same w g 0 #[v] t u h
  simpa using this
theorem own_set_far {w : World} {B g : Nat} {u : Value} {lo : List UInt8} (h : Own w B u lo) (hne : u.ownBlock ≠ some g) (x : Value) : Own (w.setCell ⟨g, 0, none⟩ x) B u lo := by
  refine World.ownsRow.kept h (row := some g) ⟨rfl, rfl, rfl, by simp [World.setCell], fun k _ hk => Below.heap_setCell w ⟨g, 0, none⟩ x k (by rintro rfl; exact hk rfl)⟩ (.inr hne)

theorem PutSt.setO {w w1 : World} {B ga go a : Nat} {u v1 : Value} {lo l1 : List UInt8} (h : PutSt w B ga go a u lo) (hg : w.grownBy w1 u.ownBlock) (ho : Own w1 B v1 l1) : PutSt (w1.setCell ⟨go, 0, none⟩ v1) B ga go a v1 l1 := by
  have n1 := own_ne_block h.own h.cga (by decide)
  have n2 := own_ne_block h.own h.cgo (by decide)
  have e1 : w1.heap[ga]? = some (.cells #[.int .i64 (a : Int)] 3 (0, 0)) := (hg.block ga (Array.getElem?_eq_some_iff.1 h.cga).1 (fun e => n1 e.symm)).trans h.cga
  have e2 : w1.heap[go]? = some (.cells #[u] 25 (0, 0)) := (hg.block go (Array.getElem?_eq_some_iff.1 h.cgo).1 (fun e => n2 e.symm)).trans h.cgo
  exact ⟨set_block e1 h.hne _, set_one e2, own_set_far ho (own_ne_block ho e2 (by decide)) _, h.hBa, h.hBo, h.hne⟩
theorem PutSt.setA {w : World} {B ga go a : Nat} {u : Value} {lo : List UInt8} (h : PutSt w B ga go a u lo) (b : Nat) : PutSt (w.setCell ⟨ga, 0, none⟩ (.int .i64 (b : Int))) B ga go b u lo :=
  ⟨set_one h.cga, set_block h.cgo (fun e => h.hne e.symm) _, own_set_far h.own (own_ne_block h.own h.cga (by decide)) _, h.hBa, h.hBo, h.hne⟩

/-- What else there was is as it was. -/
def Rest (w w' : World) (ga go : Nat) (u : Value) : Prop :=
  w'.os = w.os ∧ w'.tape = w.tape ∧ w'.output = w.output ∧ w.heap.size ≤ w'.heap.size ∧ ∀ k, k < w.heap.size → k ≠ ga → k ≠ go → u.ownBlock ≠ some k → w'.heap[k]? = w.heap[k]?
/-- The row out is where it was, or new. -/
def OutNew (w : World) (u u' : Value) : Prop := u'.ownBlock = u.ownBlock ∨ ∃ k, u'.ownBlock = some k ∧ w.heap.size ≤ k
theorem Rest.refl (w : World) (ga go : Nat) (u : Value) : Rest w w ga go u := ⟨rfl, rfl, rfl, Nat.le_refl _, fun _ _ _ _ _ => rfl⟩
theorem Rest.grow {w w1 w2 : World} {ga go : Nat} {u u1 : Value} (h : Rest w w1 ga go u) (hn : OutNew w u u1) (hg : w1.grownBy w2 u1.ownBlock) : Rest w w2 ga go u := by
  obtain ⟨h1, h2, h3, h4, h5⟩ := h
  refine ⟨hg.os.trans h1, hg.tape.trans h2, hg.output.trans h3, Nat.le_trans h4 hg.size, fun k hk a b c => ?_⟩
  rw [hg.block k (Nat.lt_of_lt_of_le hk h4) ?_, h5 k hk a b c]
  intro e
  rcases hn with hn | ⟨q, hq, hq2⟩
  · exact c (hn.symm.trans e.symm)
  · rw [hq] at e
    injection e with e
    omega
theorem Rest.set_ {w w1 : World} {ga go : Nat} {u : Value} (h : Rest w w1 ga go u) (g : Nat) (hg : g = ga ∨ g = go) (x : Value) : Rest w (w1.setCell ⟨g, 0, none⟩ x) ga go u := by
  obtain ⟨h1, h2, h3, h4, h5⟩ := h
  refine ⟨h1, h2, h3, by simpa [World.setCell] using h4, fun k hk a b c => ?_⟩
  rw [Below.heap_setCell w1 ⟨g, 0, none⟩ x k (by rcases hg with rfl | rfl <;> assumption), h5 k hk a b c]
theorem OutNew.step {w w1 : World} {u u1 u2 : Value} (h : OutNew w u u1) (hs : w.heap.size ≤ w1.heap.size) (h2 : u2.ownBlock = u1.ownBlock ∨ ∃ k, u2.ownBlock = some k ∧ w1.heap.size ≤ k) : OutNew w u u2 := by
  rcases h2 with h2 | ⟨k, h2, h3⟩
  · rcases h with h | ⟨q, h, h'⟩
    · exact .inl (h2.trans h)
    · exact .inr ⟨q, h2.trans h, h'⟩
  · exact .inr ⟨k, h2, by omega⟩
theorem RdIn.rest {w w' : World} {g ga go : Nat} {u v : Value} {l : List UInt8} (h : RdIn w g v l) (hr : Rest w w' ga go u) (h1 : g ≠ ga) (h2 : g ≠ go) (h3 : u.ownBlock ≠ some g) : RdIn w' g v l := h.keep fun hlt => hr.2.2.2.2 g hlt h1 h2 h3

theorem lay_le : ∀ (l : List UInt8) (k : Nat), (lay k l).length ≤ 2 * l.length
  | [], _ => by simp [lay]
  | c :: r, k => by
    have := lay_le r (k + 1)
    simp only [lay]
    split <;> simp <;> omega

section
variable {w w1 : World} {B ga go a : Nat} {u : Value} {lo : List UInt8}
theorem PutSt.cellA (h : PutSt w B ga go a u lo) : w.cell? ⟨ga, 0, none⟩ = some (.int .i64 (a : Int)) := by rw [cell_of_row w ga 0 _ 3 (0, 0) h.cga]; rfl
theorem PutSt.cellO (h : PutSt w B ga go a u lo) : w.cell? ⟨go, 0, none⟩ = some u := by rw [cell_of_row w go 0 _ 25 (0, 0) h.cgo]; rfl
theorem PutSt.frozA (h : PutSt w B ga go a u lo) : w.frozen? ⟨ga, 0, none⟩ = false := by have := h.cga; simp [World.frozen?, this]
theorem PutSt.frozO (h : PutSt w B ga go a u lo) : w.frozen? ⟨go, 0, none⟩ = false := by have := h.cgo; simp [World.frozen?, this]
theorem PutSt.afterO (h : PutSt w B ga go a u lo) (hg : w.grownBy w1 u.ownBlock) : w1.cell? ⟨go, 0, none⟩ = some u := (World.cell?_of_block (w := w) (hg.block go (Array.getElem?_eq_some_iff.1 h.cgo).1 (fun e => own_ne_block h.own h.cgo (by decide) e.symm))).trans h.cellO
theorem PutSt.afterA (h : PutSt w B ga go a u lo) (hg : w.grownBy w1 u.ownBlock) : w1.cell? ⟨ga, 0, none⟩ = some (.int .i64 (a : Int)) := (World.cell?_of_block (w := w) (hg.block ga (Array.getElem?_eq_some_iff.1 h.cga).1 (fun e => own_ne_block h.own h.cga (by decide) e.symm))).trans h.cellA
theorem PutSt.frozenO (h : PutSt w B ga go a u lo) (hg : w.grownBy w1 u.ownBlock) : w1.frozen? ⟨go, 0, none⟩ = false := (World.frozen?_of_block (w := w) (hg.block go (Array.getElem?_eq_some_iff.1 h.cgo).1 (fun e => own_ne_block h.own h.cgo (by decide) e.symm))).trans h.frozO
theorem PutSt.frozenA (h : PutSt w B ga go a u lo) (hg : w.grownBy w1 u.ownBlock) : w1.frozen? ⟨ga, 0, none⟩ = false := (World.frozen?_of_block (w := w) (hg.block ga (Array.getElem?_eq_some_iff.1 h.cga).1 (fun e => own_ne_block h.own h.cga (by decide) e.symm))).trans h.frozA
end

set_option maxRecDepth 100000 in
set_option maxHeartbeats 1000000 in
theorem putClosure_any (B ga go a : Nat) (u : Value) (lo : List UInt8) (g : Nat) (v : Value) (l : List UInt8) (w : World) (hst : PutSt w B ga go a u lo) (hr : RdIn w g v l) (hga : g ≠ ga) (hgo : g ≠ go) (hgu : u.ownBlock ≠ some g)
    (hl : l.length ≤ 1048576) (ha : a ≤ 1048576) (hlo : lo.length ≤ 140737480000000) (hB : B ≤ w.heap.size) :
    Calls Try.prog 74 #[v, .pointer (some ⟨ga, 0, none⟩), .pointer (some ⟨go, 0, none⟩)] w fun e w' => ∃ u', e = .returned (.tuple #[]) ∧ PutSt w' B ga go (a + l.length) u' (lo ++ lay a l) ∧ Rest w w' ga go u ∧ OutNew w u u' := by
  obtain ⟨A, c, rfl, _, _, _⟩ := id hr
  have HR := Lib.hid hr; clear hr
  have HLO := Lib.hid hlo; clear hlo
  go_enter Try.func74, Try.ntmps74
  go_wp2
  go_loopw [8] (fun i wr => ∃ (k : Nat) (u1 : Value) (l1 : List UInt8), k ≤ l.length ∧ i = .int .i64 k ∧ l1 = lo ++ lay a (l.take k) ∧ PutSt wr B ga go (a + k) u1 l1 ∧ Rest w wr ga go u ∧ OutNew w u u1) (fun i _ => l.length - (intOf i).toNat)
  case atStart => exact ⟨0, u, lo, by omega, rfl, by simp [lay], hst, Rest.refl _ _ _ _, .inl rfl⟩
  case round =>
    obtain ⟨k, u1, l1, hk, rfl, hl1, hs1, hrest, hnew⟩ := hrel
    have HS := Lib.hid hs1; clear hs1
    have HRE := Lib.hid hrest; clear hrest
    have HN := Lib.hid hnew; clear hnew
    by_cases hlt : k < l.length
    · obtain ⟨A1, c1, he, _, _, hcell⟩ := (HR.out.rest HRE.out hga hgo hgu)
      obtain ⟨ad, hA, _, hcells⟩ := hcell (by omega)
      injection he with e1 e2 e3
      subst e1 hA
      have hck := hcells k hlt
      obtain ⟨x, hx⟩ : ∃ x, x = l[k] := ⟨_, rfl⟩
      rw [← hx, bv_nat] at hck
      have hlen1 : l1.length + 2 ≤ 140737488355328 := by
        rw [hl1, List.length_append]
        have h1 := lay_le (l.take k) a
        have h2 : (l.take k).length ≤ l.length := by rw [List.length_take]; omega
        have := HLO.out
        clear hck
        omega
      have HLen := Lib.hid hlen1; clear hlen1
      have hl2 : lo ++ lay a (l.take (k + 1)) = l1 ++ (if (a + k) % 31 = 0 then [0xB2, x] else [x]) := by
        rw [hl1, List.take_succ_eq_append_getElem hlt, lay_append, List.length_take, Nat.min_eq_left (by omega), ← hx, List.append_assoc]
        simp only [lay]
      have HL2 := Lib.hid hl2; clear hl2 hl1
      clear hx hcells hcell e2 e3
      have c1 := HS.out.cellA
      have c2 := HS.out.cellO
      have hne1 : ¬ ga = go := HS.out.hne
      have hne2 : ¬ go = ga := fun e => HS.out.hne e.symm
      have hBr : B ≤ wr.heap.size := Nat.le_trans hB HRE.out.2.2.2.1
      have hak : a + k ≤ 2097152 := by omega
      have hakw : IntKind.i64.wrap (((a + k : Nat) : Int) + 1) = ((a + k + 1 : Nat) : Int) := by rw [IntWalk.i64_in _ (by omega)]; omega
      by_cases hm : (a + k) % 31 = 0
      · have t1 : (((a + k : Nat) : Int) % 31 == 0) = true := by rw [beq_iff_eq]; omega
        have e2 := HL2.out
        rw [if_pos hm] at e2
        have HE2 := Lib.hid e2; clear e2
        clear hm
        go_wp2_with (first
          | (at_builtin; refine own_append1 B rfl (.tmp 15) (.tmp 16) rfl _ l1 0xB2 _ rfl rfl rfl HS.out.own ?hb1 ?hl1 ?_; (case hb1 => exact hBr); (case hl1 => have := HLen.out; omega); intro v1 w1 hown hb1 hg hat; obtain ⟨l2, hll⟩ : ∃ l2, l2 = l1 ++ [0xB2] := ⟨_, rfl⟩; rw [← hll] at hown; have HLL := Lib.hid hll; clear hll; obtain ⟨A1, c3, rfl, _, _, _⟩ := hown.rd; have S2 := Lib.hid (HS.out.setO hg hown); have R2 := Lib.hid ((HRE.out.grow HN.out hg).set_ go (.inr rfl) (.slice A1 l2.length c3)); have N2 := Lib.hid (HN.out.step HRE.out.2.2.2.1 hat); have c4 := HS.out.afterO hg; have c5 := HS.out.afterA hg; have c6 := HS.out.frozenO hg; have hB2 : B ≤ w1.heap.size := Nat.le_trans hBr hg.size; have hwz : wr.heap.size ≤ w1.heap.size := hg.size; clear hown hb1 hg hat c1 c2)
          | (at_builtin; go_loud (refine own_append1H B w1.heap.size (by simp [World.setCell]) rfl (.tmp 18) (.tmp 20) rfl _ l2 x _ rfl rfl rfl S2.out.own ?hb2 ?hl2 ?_); (case hb2 => simp [World.setCell]; exact hB2); (case hl2 => have := HLen.out; have := congrArg List.length HLL.out; simp at this; omega); intro v2 w2 hown hb2 hg hat; obtain ⟨l3, hl3⟩ : ∃ l3, l3 = l2 ++ [x] := ⟨_, rfl⟩; rw [← hl3] at hown; have HL3 := Lib.hid hl3; clear hl3; obtain ⟨A2, c7, rfl, _, _, _⟩ := hown.rd; have S3 := Lib.hid (S2.out.setO hg hown); have R3 := Lib.hid ((R2.out.grow N2.out hg).set_ go (.inr rfl) (.slice A2 l3.length c7)); have N3 := Lib.hid (N2.out.step R2.out.2.2.2.1 hat); have d4 := S2.out.afterO hg; have d5 := S2.out.afterA hg; have d6 := S2.out.frozenO hg; have d7 := S2.out.frozenA hg; have hB3 : B ≤ w2.heap.size := Nat.le_trans (by simp [World.setCell]; exact hB2) hg.size; clear hown hb2 hg hat c4 c5 c6))
        have hst3 := S3.out.setA (a + (k + 1))
        rw [show ((a + (k + 1) : Nat) : Int) = (a : Int) + (k : Int) + 1 from by omega] at hst3
        go_roundw
        case rel => exact ⟨k + 1, _, l3, by omega, by go_num, by rw [HE2.out, HL3.out, HLL.out]; simp, hst3, R3.out.set_ ga (.inl rfl) _, N3.out⟩
        case measure => simp [intOf]; omega
      · have t1 : (((a + k : Nat) : Int) % 31 == 0) = false := by rw [beq_eq_false_iff_ne]; omega
        have e2 := HL2.out
        rw [if_neg hm] at e2
        have HE2 := Lib.hid e2; clear e2
        clear hm
        go_wp2_with (at_builtin; refine own_append1 B rfl (.tmp 18) (.tmp 20) rfl _ l1 x _ rfl rfl rfl HS.out.own ?hb2 ?hl2 ?_; (case hb2 => exact hBr); (case hl2 => have := HLen.out; omega); intro v2 w2 hown hb2 hg hat; obtain ⟨l3, hl3⟩ : ∃ l3, l3 = l1 ++ [x] := ⟨_, rfl⟩; rw [← hl3] at hown; have HL3 := Lib.hid hl3; clear hl3; obtain ⟨A2, c7, rfl, _, _, _⟩ := hown.rd; have S3 := Lib.hid (HS.out.setO hg hown); have R3 := Lib.hid ((HRE.out.grow HN.out hg).set_ go (.inr rfl) (.slice A2 l3.length c7)); have N3 := Lib.hid (HN.out.step HRE.out.2.2.2.1 hat); have d4 := HS.out.afterO hg; have d5 := HS.out.afterA hg; have d6 := HS.out.frozenO hg; have d7 := HS.out.frozenA hg; clear hown hb2 hg hat c1 c2)
        have hst3 := S3.out.setA (a + (k + 1))
        rw [show ((a + (k + 1) : Nat) : Int) = (a : Int) + (k : Int) + 1 from by omega] at hst3
        go_roundw
        case rel => exact ⟨k + 1, _, l3, by omega, by go_num, by rw [HE2.out, HL3.out], hst3, R3.out.set_ ga (.inl rfl) _, N3.out⟩
        case measure => simp [intOf]; omega
    · obtain rfl : k = l.length := by omega
      rw [List.take_length] at hl1
      subst hl1
      go_wp2
      go_end0
      exact ⟨u1, rfl, HS.out, HRE.out, HN.out⟩
end Go.Proofs.Ytggjipfdfpdecaa
/- The walks of IsKey, IsVal, isTime, isNumber of record and of the document. -/
namespace Go.Proofs.Ytggjipfdfpdecaa
open Go.RowKit
attribute [local go_sem] bs_list bs_size

theorem ret_bool {b c : Bool} (h : b = c) : Ending.returned (.bool b) = .returned (.bool c) := by rw [h]
theorem key_one (l : List UInt8) : (!l.isEmpty && decide ((l.length : Int) ≤ 16)) = isKey l := by
  rw [Bool.eq_iff_iff, isKey_iff]
  cases l <;> simp
  omega
theorem key_two (l : List UInt8) : (decide (1 ≤ (l.length : Int)) && decide ((l.length : Int) ≤ 16)) = isKey l := by
  rw [Bool.eq_iff_iff, isKey_iff]
  simp
  omega
theorem val_one (l : List UInt8) : decide ((l.length : Int) ≤ 64) = isVal l := by
  rw [Bool.eq_iff_iff, isVal_iff]
  simp
  omega
theorem tm_one (t : Int) : (decide (0 ≤ t) && decide (t < 1099511627776)) = isTm t := by
  rw [Bool.eq_iff_iff, isTm_iff]
  simp
theorem no_one (t : Int) : (decide (1 ≤ t) && decide (t ≤ 2147483647)) = isNo t := by
  rw [Bool.eq_iff_iff, isNo_iff]
  simp

theorem isKey_any (l : List UInt8) (w : World) (hl : l.length ≤ 140737488355328) :
    Calls Try.prog 49 #[.string (bs l)] w fun e w' => e = .returned (.bool (isKey l)) ∧ w = w' := by
  go_enter Try.func49, Try.ntmps49
  go_wp2
  all_goals
    go_ret
    refine ⟨ret_bool ?_, rfl⟩
    rw [Bool.eq_iff_iff, isKey_iff]
    constructor
    · intro h
      simp at h <;> (cases l) <;> (try simp_all) <;> (try omega)
    · intro h
      simp <;> (cases l) <;> (try simp_all) <;> (try omega)
theorem refIsKey_any (l : List UInt8) (w : World) (hl : l.length ≤ 140737488355328) :
    Calls Try.prog 50 #[.string (bs l)] w fun e w' => e = .returned (.bool (isKey l)) ∧ w = w' := by
  go_enter Try.func50, Try.ntmps50
  go_wp2
  all_goals
    go_ret
    refine ⟨ret_bool ?_, rfl⟩
    rw [Bool.eq_iff_iff, isKey_iff]
    constructor
    · intro h
      simp at h <;> (cases l) <;> (try simp_all) <;> (try omega)
    · intro h
      simp <;> (cases l) <;> (try simp_all) <;> (try omega)
theorem isVal_any (l : List UInt8) (w : World) :
    Calls Try.prog 51 #[.string (bs l)] w fun e w' => e = .returned (.bool (isVal l)) ∧ w = w' := by
  go_enter Try.func51, Try.ntmps51
  go_wp2
  all_goals
    go_ret
    refine ⟨ret_bool ?_, rfl⟩
    rw [Bool.eq_iff_iff, isVal_iff]
    constructor
    · intro h
      simp at h <;> (try simp_all) <;> (try omega)
    · intro h
      simp <;> (try simp_all) <;> (try omega)
theorem refIsVal_any (l : List UInt8) (w : World) :
    Calls Try.prog 52 #[.string (bs l)] w fun e w' => e = .returned (.bool (isVal l)) ∧ w = w' := by
  go_enter Try.func52, Try.ntmps52
  go_wp2
  all_goals
    go_ret
    refine ⟨ret_bool ?_, rfl⟩
    rw [Bool.eq_iff_iff, isVal_iff]
    constructor
    · intro h
      simp at h <;> (try simp_all) <;> (try omega)
    · intro h
      simp <;> (try simp_all) <;> (try omega)
theorem isTime_any (t : Int) (w : World) :
    Calls Try.prog 119 #[.int .i64 t] w fun e w' => e = .returned (.bool (isTm t)) ∧ w = w' := by
  go_enter Try.func119, Try.ntmps119
  go_wp2
  all_goals
    go_ret
    refine ⟨ret_bool ?_, rfl⟩
    rw [Bool.eq_iff_iff, isTm_iff]
    constructor
    · intro h
      simp at h <;> (try simp_all) <;> (try omega)
    · intro h
      simp <;> (try simp_all) <;> (try omega)
theorem timed_any (t : Int) (w : World) :
    Calls Try.prog 124 #[.int .i64 t] w fun e w' => e = .returned (.bool (isTm t)) ∧ w = w' := by
  go_enter Try.func124, Try.ntmps124
  go_wp2
  all_goals
    go_ret
    refine ⟨ret_bool ?_, rfl⟩
    rw [Bool.eq_iff_iff, isTm_iff]
    constructor
    · intro h
      simp at h <;> (try simp_all) <;> (try omega)
    · intro h
      simp <;> (try simp_all) <;> (try omega)
theorem isNumber_any (t : Int) (w : World) :
    Calls Try.prog 126 #[.int .i64 t] w fun e w' => e = .returned (.bool (isNo t)) ∧ w = w' := by
  go_enter Try.func126, Try.ntmps126
  go_wp2
  all_goals
    go_ret
    refine ⟨ret_bool ?_, rfl⟩
    rw [Bool.eq_iff_iff, isNo_iff]
    constructor
    · intro h
      simp at h <;> (try simp_all) <;> (try omega)
    · intro h
      simp <;> (try simp_all) <;> (try omega)
end Go.Proofs.Ytggjipfdfpdecaa
/- The walks of record's writer: a number, a text is laid behind what it holds. -/
namespace Go.Proofs.Ytggjipfdfpdecaa
open Go.RowKit

/-- The writer in block g holds these bytes, in a row of the call's own. -/
def WrSt (w : World) (base g : Nat) (l : List UInt8) : Prop := ∃ v, w.heap[g]? = some (.cells #[v] 106 (0, 0)) ∧ Own w base v l
/-- But for block g and rows of bytes from base on, all is as it was. -/
structure Wr (base g : Nat) (w w' : World) : Prop where
  os : w'.os = w.os
  tape : w'.tape = w.tape
  output : w'.output = w.output
  size : w.heap.size ≤ w'.heap.size
  block : ∀ k, k < w.heap.size → k ≠ g → (k < base ∨ ∃ cs t fr, w.heap[k]? = some (.cells cs t fr) ∧ t ≠ 5) → w'.heap[k]? = w.heap[k]?

theorem Wr.refl (base g : Nat) (w : World) : Wr base g w w := ⟨rfl, rfl, rfl, Nat.le_refl _, fun _ _ _ _ => rfl⟩
theorem Wr.trans {base g : Nat} {w w1 w2 : World} (h : Wr base g w w1) (h2 : Wr base g w1 w2) : Wr base g w w2 :=
  ⟨h2.os.trans h.os, h2.tape.trans h.tape, h2.output.trans h.output, Nat.le_trans h.size h2.size, fun k hk hg ht => by
    have e := h.block k hk hg ht
    rw [h2.block k (Nat.lt_of_lt_of_le hk h.size) hg ?_, e]
    rcases ht with ht | ⟨cs, t, fr, h1, h3⟩
    · exact .inl ht
    · exact .inr ⟨cs, t, fr, e.trans h1, h3⟩⟩
theorem Wr.of_below {base g : Nat} {w w' : World} (h : Below w.heap.size w w') : Wr base g w w' := ⟨h.os, h.tape, h.output, h.size, fun k hk _ _ => h.block k hk⟩
theorem Wr.below {base g : Nat} {w w' : World} (h : Wr base g w w') (hg : base ≤ g) (hb : base ≤ w.heap.size) : Below base w w' := ⟨h.os, h.tape, h.output, h.size, fun k hk => h.block k (Nat.lt_of_lt_of_le hk hb) (by omega) (.inl hk)⟩
theorem Wr.cell {base g k : Nat} {w w' : World} (h : Wr base g w w') {cs : Array Value} {t : TypeId} {fr : Nat × Nat} (hk : w.heap[k]? = some (.cells cs t fr)) (ht : t ≠ 5) (hg : k ≠ g) : w'.heap[k]? = some (.cells cs t fr) :=
  (h.block k (Array.getElem?_eq_some_iff.1 hk).1 hg (.inr ⟨cs, t, fr, hk, ht⟩)).trans hk
theorem Wr.grown {base g : Nat} {w w1 w2 : World} (h : Wr base g w w1) {v : Value} {l : List UInt8} (ho : Own w1 base v l) (hg : w1.grownBy w2 v.ownBlock) : Wr base g w w2 :=
  h.trans ⟨hg.os, hg.tape, hg.output, hg.size, fun k hk _ ht => hg.block k hk (fun e => by
    rcases ht with ht | ⟨cs, t, fr, h1, h3⟩
    · have := (ho.lt k e.symm).1
      omega
    · obtain ⟨cs', h4⟩ : ∃ cs, w1.heap[k]? = some (.cells cs 5 (0, 0)) := by
        rcases ho.2 with ⟨rfl, _⟩ | ⟨g', cap, cur, rfl, _, hh, _⟩
        · simp [Value.ownBlock] at e
        · have : g' = k := by simpa [Value.ownBlock] using e.symm
          subst this
          exact ⟨_, hh⟩
      rw [h1] at h4
      injection h4 with h4
      injection h4 with _ h5 _
      exact h3 h5)⟩
theorem Wr.set_ {base g : Nat} {w w1 : World} (h : Wr base g w w1) (u : Value) : Wr base g w (w1.setCell ⟨g, 0, none⟩ u) :=
  h.trans ⟨rfl, rfl, rfl, by simp [World.setCell], fun k _ hk _ => Below.heap_setCell w1 ⟨g, 0, none⟩ u k hk⟩
theorem WrSt.cell {w : World} {g : Nat} {v : Value} (h : w.heap[g]? = some (.cells #[v] 106 (0, 0))) : w.cell? ⟨g, 0, none⟩ = some v := by rw [cell_of_row w g 0 _ 106 (0, 0) h]; rfl
theorem WrSt.froz {w : World} {g : Nat} {v : Value} (h : w.heap[g]? = some (.cells #[v] 106 (0, 0))) : w.frozen? ⟨g, 0, none⟩ = false := by simp [World.frozen?, h]
theorem WrSt.set_ {w : World} {base g : Nat} {v u : Value} {l : List UInt8} (h : w.heap[g]? = some (.cells #[v] 106 (0, 0))) (ho : Own w base u l) : WrSt (w.setCell ⟨g, 0, none⟩ u) base g l :=
  ⟨u, set_one h, own_set_far ho (own_ne_block ho h (by decide)) _⟩
theorem heap_below {w w' : World} {g : Nat} {o : Obj} (h : w.heap[g]? = some o) (hb : Below w.heap.size w w') : w'.heap[g]? = some o := (hb.block g (Array.getElem?_eq_some_iff.1 h).1).trans h

theorem Own.base {w : World} {b1 b2 : Nat} {v : Value} {l : List UInt8} (h : Own w b2 v l) (hb : b1 ≤ b2) : Own w b1 v l := by
  refine ⟨h.1, ?_⟩
  rcases h.2 with h0 | ⟨g, cap, cur, h1, h2, h3⟩
  · exact .inl h0
  · exact .inr ⟨g, cap, cur, h1, Nat.le_trans hb h2, h3⟩
set_option maxHeartbeats 400000 in
theorem wnum_any (base g : Nat) (l : List UInt8) (n : Nat) (w : World) (hs : WrSt w base g l) (hn : n < 9223372036854775808) (hl : l.length + 10 ≤ 140737488355328) (hb : base ≤ w.heap.size) :
    Calls Try.prog 83 #[.pointer (some ⟨g, 0, none⟩), .int .i64 n] w fun e w' => e = .returned (.tuple #[]) ∧ WrSt w' base g (l ++ uvar n) ∧ Wr base g w w' := by
  obtain ⟨v, hg, ho⟩ := hs
  have c0 := WrSt.cell hg
  have hw : IntKind.u64.wrap (n : Int) = (n : Int) := by rw [IntKind.wrap_u64, Int.emod_eq_of_lt (by omega) (by omega)]
  have HG := Lib.hid hg; clear hg
  have HO := Lib.hid ho; clear ho
  have HL := Lib.hid hl; clear hl
  have hn2 : n < 18446744073709551616 := by omega
  go_enter Try.func83, Try.ntmps83
  go_wp2_with fail
  refine (put_any v l n w HO.out.rd hn2 HL.out).mono ?_
  rintro e w1 ⟨v1, rfl, ho1, hb1⟩
  obtain ⟨L, hL⟩ : ∃ L, L = l ++ uvar n := ⟨_, rfl⟩
  rw [← hL] at ho1
  have HLL := Lib.hid hL; clear hL
  obtain ⟨A1, k1, rfl, _, _, _⟩ := id ho1.rd
  have hg1 := heap_below HG.out hb1
  have c1 := WrSt.cell hg1
  have f1 := WrSt.froz hg1
  have HS := Lib.hid (WrSt.set_ (base := base) hg1 (ho1.base hb))
  have HW := Lib.hid ((Wr.of_below (base := base) (g := g) hb1).set_ (.slice A1 L.length k1))
  clear hg1 hb1 ho1
  go_wp2_with fail
  go_end0
  exact ⟨rfl, by rw [← HLL.out]; exact HS.out, HW.out⟩
set_option maxHeartbeats 400000 in
theorem wtext_any (base g : Nat) (l : List UInt8) (t : List UInt8) (w : World) (hs : WrSt w base g l) (hl : l.length + t.length + 10 ≤ 140737488355328) (hb : base ≤ w.heap.size) :
    Calls Try.prog 86 #[.pointer (some ⟨g, 0, none⟩), .string (bs t)] w fun e w' => e = .returned (.tuple #[]) ∧ WrSt w' base g (l ++ uvar t.length ++ t) ∧ Wr base g w w' := by
  obtain ⟨v, hg, ho⟩ := hs
  have c0 := WrSt.cell hg
  have HG := Lib.hid hg; clear hg
  have HO := Lib.hid ho; clear ho
  have HL := Lib.hid hl; clear hl
  go_enter Try.func86, Try.ntmps86
  go_wp2_with fail
  refine (putText_any v l (bs t) w HO.out.rd (by rw [bs_size]; exact HL.out)).mono ?_
  rintro e w1 ⟨v1, rfl, ho1, hb1⟩
  rw [bs_size, bs_data] at ho1
  obtain ⟨L, hL⟩ : ∃ L, L = l ++ uvar t.length ++ t := ⟨_, rfl⟩
  rw [← hL] at ho1
  have HLL := Lib.hid hL; clear hL
  obtain ⟨A1, k1, rfl, _, _, _⟩ := id ho1.rd
  have hg1 := heap_below HG.out hb1
  have c1 := WrSt.cell hg1
  have f1 := WrSt.froz hg1
  have HS := Lib.hid (WrSt.set_ (base := base) hg1 (ho1.base hb))
  have HW := Lib.hid ((Wr.of_below (base := base) (g := g) hb1).set_ (.slice A1 L.length k1))
  clear hg1 hb1 ho1
  go_wp2_with fail
  go_end0
  exact ⟨rfl, by rw [← HLL.out]; exact HS.out, HW.out⟩
end Go.Proofs.Ytggjipfdfpdecaa
/- The walks of num.Take and varveref01.Take: a number is read at a place of any bytes, or none is. -/
namespace Go.Proofs.Ytggjipfdfpdecaa
open Go.RowKit

/-- What a reader answers, as the program's three results. -/
def tkVal : Option (Nat × Nat) → Value
  | none => .tuple #[.int .u64 0, .int .i64 0, .bool false]
  | some (n, k) => .tuple #[.int .u64 (n : Int), .int .i64 (k : Int), .bool true]

theorem tk_and (x : Nat) (hx : x < 256) : IntKind.u64.wrap (bits .and .u8 (x : Int) 127) = ((x % 128 : Nat) : Int) := by
  have h := u8_and_nat x 127 hx (by omega)
  rw [show ((127 : Nat) : Int) = 127 from rfl] at h
  rw [h, show (127 : Nat) = 2 ^ 7 - 1 from rfl, Nat.and_two_pow_sub_one_eq_mod, IntKind.wrap_u64]
  omega

theorem tk_or (k acc x : Nat) (hk : k ≤ 9) (hacc : acc < 128 ^ k) (hx : x < 256) (h9 : k = 9 → x ≤ 1) :
    bits .or .u64 (acc : Int) (IntKind.u64.wrap (IntKind.u64.wrap (bits .and .u8 (x : Int) 127) * 2 ^ (7 * k))) = ((acc + x % 128 * 128 ^ k : Nat) : Int) ∧ acc + x % 128 * 128 ^ k < 128 ^ (k + 1) ∧ acc + x % 128 * 128 ^ k < 18446744073709551616 := by
  have hp : 128 ^ k = 2 ^ (7 * k) := by rw [Nat.pow_mul]
  have h1 : acc + x % 128 * 128 ^ k < 128 ^ (k + 1) := by
    rw [Nat.pow_succ, Nat.mul_comm (128 ^ k)]
    have := Nat.mul_le_mul_right (128 ^ k) (show x % 128 ≤ 127 by omega)
    omega
  have h2 : acc + x % 128 * 128 ^ k < 18446744073709551616 := by
    by_cases e : k = 9
    · subst e
      have := Nat.mul_le_mul_right (128 ^ 9) (show x % 128 ≤ 1 by have := h9 rfl; omega)
      omega
    · have : 128 ^ (k + 1) ≤ 128 ^ 9 := Nat.pow_le_pow_right (by omega) (by omega)
      omega
  refine ⟨?_, h1, h2⟩
  rw [tk_and x hx]
  have h3 : ((x % 128 : Nat) : Int) * 2 ^ (7 * k) = ((x % 128 * 128 ^ k : Nat) : Int) := by
    rw [hp]
    simp
  have h4 : IntKind.u64.wrap ((x % 128 * 128 ^ k : Nat) : Int) = ((x % 128 * 128 ^ k : Nat) : Int) := by
    rw [IntKind.wrap_u64, Int.emod_eq_of_lt (by omega) (by omega)]
  rw [h3, h4, u64_or_nat _ _ (by omega) (by omega)]
  congr 1
  rw [hp] at hacc ⊢
  rw [Nat.or_comm, Nat.mul_comm (x % 128), ← Nat.two_pow_add_eq_or_of_lt hacc]
  omega

theorem tkAt_out {l : List UInt8} {at_ : Int} (h : ¬ (0 ≤ at_ ∧ at_ < l.length)) : tkAt l at_ = none := by unfold tkAt; rw [if_neg h]
theorem tkAt_in {l : List UInt8} {i : Nat} (h : i < l.length) : tkAt l (i : Int) = (tkGo 0 0 (l.drop i)).map fun p => (p.1, i + p.2) := by
  unfold tkAt; rw [if_pos (by omega)]; simp

set_option maxRecDepth 100000 in
set_option maxHeartbeats 1000000 in
theorem take_any (v : Value) (l : List UInt8) (at_ : Int) (w : World) (hr : RdB w v l) (hl : l.length ≤ 140737488355328) :
    Calls Try.prog 32 #[v, .int .i64 at_] w fun e w' => e = .returned (tkVal (tkAt l at_)) ∧ w = w' := by
  obtain ⟨A, c, rfl, hc1, hc2, _⟩ := id hr
  by_cases hlo : at_ < 0
  · have hv : tkAt l at_ = none := tkAt_out (by omega)
    rw [hv]
    go_enter Try.func32, Try.ntmps32
    go_wp2
    go_ret3
    exact ⟨rfl, rfl⟩
  by_cases hhi : (l.length : Int) ≤ at_
  · have hv : tkAt l at_ = none := tkAt_out (by omega)
    rw [hv]
    go_enter Try.func32, Try.ntmps32
    go_wp2
    go_ret3
    exact ⟨rfl, rfl⟩
  obtain ⟨i, rfl⟩ := Int.eq_ofNat_of_zero_le (by omega : 0 ≤ at_)
  have hi : i < l.length := by omega
  rw [tkAt_in hi]
  obtain ⟨q, hq⟩ : ∃ q, q = (tkGo 0 0 (l.drop i)).map fun p => (p.1, i + p.2) := ⟨_, rfl⟩
  rw [← hq]
  have hmin : (if (l.length : Int) < (i : Int) + 10 then (l.length : Int) else (i : Int) + 10) = ((min (i + 10) l.length : Nat) : Int) := by split <;> omega
  obtain ⟨r, A', c', hrr, hcut, hcr⟩ := cut_lh A c l i ((min (i + 10) l.length : Nat) : Int) (by omega) (by omega) (by omega) hc1
  have hrl : r.length ≤ 10 := by rw [hrr, List.length_drop, List.length_take]; omega
  have hr2 : r = (l.drop i).take 10 := by
    rw [hrr, Int.toNat_natCast, Int.toNat_natCast, List.drop_take, List.take_eq_take_iff, List.length_drop]
    omega
  have hrd := hcr w hr
  obtain ⟨_, _, he, _, _, hcell⟩ := hrd
  have hcell' : ∀ k, (h : k < r.length) → ∃ ad : Addr, A' = some ad ∧ w.cell? (ad.add k) = some (bv r[k]) := by
    intro k hk
    injection he with e1 e2 e3
    subst e1
    obtain ⟨ad, hA, hc⟩ := hcell (by omega)
    exact ⟨ad, hA, hc k hk⟩
  have hq2 : q = (tkGo 0 0 r).map fun p => (p.1, i + p.2) := by rw [hq, hr2, tkGo_take _ 10 0 0 rfl]
  have hi2 : i ≤ 140737488355328 := by omega
  clear hrr hr2 hcr he hcell hr hc1 hc2 hq hlo hhi hl
  have HQ := Lib.hid hq2; clear hq2
  have HC := Lib.hid hcell'; clear hcell'
  go_enter Try.func32, Try.ntmps32
  go_wp2
  go_loop [7, 27] (fun n j => ∃ (k acc : Nat), k ≤ r.length ∧ j = .int .i64 k ∧ n = .int .u64 acc ∧ acc < 128 ^ k ∧ tkGo k acc (r.drop k) = tkGo 0 0 r) (fun _ j => r.length - (intOf j).toNat)
  case atStart => exact ⟨0, 0, Nat.zero_le _, rfl, rfl, by omega, rfl⟩
  case round =>
    obtain ⟨k, acc, hk, rfl, rfl, hacc, htk⟩ := hrel
    by_cases hlt : k < r.length
    · obtain ⟨ad, hA, hck⟩ := HC.out k hlt
      subst hA
      rw [bv_nat] at hck
      obtain ⟨x, hx⟩ : ∃ x, x = r[k].toNat := ⟨_, rfl⟩
      have hx256 : x < 256 := by rw [hx]; exact r[k].toNat_lt
      rw [← hx] at hck
      rw [List.drop_eq_getElem_cons hlt, tkGo, ← hx] at htk
      have HTK := Lib.hid htk; clear htk hx
      have HACC := Lib.hid hacc; clear hacc
      have hfin : ∀ z, tkGo 0 0 r = z → q = z.map fun p => (p.1, i + p.2) := by rintro z rfl; exact HQ.out
      have HF := Lib.hid hfin; clear hfin
      by_cases h9 : k = 9 ∧ 1 < x
      · have e1 : ((k : Int) == 9) = true := by rw [beq_iff_eq]; omega
        have e2 : decide (1 < (x : Int)) = true := by simp; omega
        have hres := HTK.out
        rw [if_neg (by omega), if_pos h9] at hres
        have hq3 := HF.out _ hres.symm
        obtain rfl : q = none := hq3
        clear hres h9 HQ HF HTK
        go_wp2
        go_ret3
        exact ⟨rfl, rfl⟩
      have e9 : (((k : Int) == 9) && decide (1 < (x : Int))) = false := by
        rw [Bool.and_eq_false_iff, beq_eq_false_iff_ne, decide_eq_false_iff_not]
        omega
      by_cases h128 : 128 ≤ x
      · have hres := HTK.out
        rw [if_neg (by omega), if_neg h9, if_pos h128] at hres
        have HRES := Lib.hid hres; clear hres
        by_cases hk9 : k = 9
        · have e1 : ((k : Int) == 9) = true := by rw [beq_iff_eq]; omega
          omega
        · have e1 : ((k : Int) == 9) = false := by rw [beq_eq_false_iff_ne]; omega
          clear h9 HTK e9
          go_wp2
          obtain ⟨o1, o2, o3⟩ := tk_or k acc x (by omega) HACC.out hx256 (by omega)
          go_round
          case rel => exact ⟨k + 1, acc + x % 128 * 128 ^ k, by omega, by go_num, by rw [o1], o2, HRES.out⟩
          case measure => simp [intOf]; omega
      · by_cases h0 : 0 < k ∧ x = 0
        · have hres := HTK.out
          rw [if_neg (by omega), if_neg h9, if_neg h128, if_pos h0] at hres
          obtain rfl : q = none := HF.out _ hres.symm
          have e1 : ((x : Int) == 0) = true := by rw [beq_iff_eq]; omega
          have e2 : decide (1 < (x : Int)) = false := by simp; omega
          have e3 : 0 < k := h0.1
          clear h9 hres h0 HTK e9 HF HQ
          by_cases hk9 : k = 9
          · have e9 : ((k : Int) == 9) = true := by rw [beq_iff_eq]; omega
            clear hk9
            go_wp2
            go_ret3
            exact ⟨rfl, rfl⟩
          · have e9 : ((k : Int) == 9) = false := by rw [beq_eq_false_iff_ne]; omega
            clear hk9
            go_wp2
            go_ret3
            exact ⟨rfl, rfl⟩
        · have hres := HTK.out
          rw [if_neg (by omega), if_neg h9, if_neg h128, if_neg h0] at hres
          obtain rfl : q = _ := HF.out _ hres.symm
          have hn : k < 10 := by omega
          have HX : k = 9 → x ≤ 1 := by omega
          have HX' := Lib.hid HX
          have ho := (tk_or k acc x (by omega) HACC.out hx256 HX).1
          have HOR := Lib.hid ho
          by_cases hk9 : k = 9
          · have e9' : ((k : Int) == 9) = true := by rw [beq_iff_eq]; omega
            have e2 : decide (1 < (x : Int)) = false := by simp; omega
            have e3 : 0 < k := by omega
            have e1 : ((x : Int) == 0) = false := by rw [beq_eq_false_iff_ne]; omega
            clear hres HTK e9 HF HQ HX h9 h0 hk9 ho
            go_wp2
            go_ret3
            refine ⟨?_, rfl⟩
            rw [HOR.out]
            simp [tkVal, Int.add_assoc]
          · have e9' : ((k : Int) == 9) = false := by rw [beq_eq_false_iff_ne]; omega
            by_cases hk0 : 0 < k
            · have e1 : ((x : Int) == 0) = false := by rw [beq_eq_false_iff_ne]; omega
              clear hres HTK e9 HF HQ HX h9 h0 hk9 ho
              go_wp2
              go_ret3
              refine ⟨?_, rfl⟩
              rw [HOR.out]
              simp [tkVal, Int.add_assoc]
            · have e1 : decide (0 < (k : Int)) = false := by simp; omega
              clear hres HTK e9 HF HQ HX h9 h0 hk9 ho
              go_wp2
              go_ret3
              refine ⟨?_, rfl⟩
              rw [HOR.out]
              simp [tkVal, Int.add_assoc]
    · have hnone : tkGo k acc (r.drop k) = none := by rw [List.drop_eq_nil_of_le (by omega)]; rfl
      rw [hnone] at htk
      obtain rfl : q = none := by rw [HQ.out, ← htk]; rfl
      clear htk hnone HQ
      go_wp2
      go_ret3
      exact ⟨rfl, rfl⟩
end Go.Proofs.Ytggjipfdfpdecaa
/- The walk of varveref01.Take: what the document answers where a number is read. -/
namespace Go.Proofs.Ytggjipfdfpdecaa
open Go.RowKit

theorem rt_add (k acc x pt : Nat) (hk : k ≤ 9) (hpt : pt = 128 ^ k) (hacc : acc < 128 ^ k) (hx : x < 256) (h9 : k = 9 → x ≤ 1) :
    IntKind.u64.wrap ((acc : Int) + IntKind.u64.wrap ((x : Int) % 128 * (pt : Int))) = ((acc + x % 128 * 128 ^ k : Nat) : Int) := by
  obtain ⟨_, _, h2⟩ := tk_or k acc x hk hacc hx h9
  subst hpt
  have h3 : (x : Int) % 128 * ((128 ^ k : Nat) : Int) = ((x % 128 * 128 ^ k : Nat) : Int) := by simp
  rw [h3, IntKind.wrap_u64, IntKind.wrap_u64, Int.emod_eq_of_lt (by omega) (by omega), Int.emod_eq_of_lt (by omega) (by omega)]
  omega

theorem rt_part (k pt : Nat) (hk : k ≤ 8) (hpt : pt = 128 ^ k) : IntKind.u64.wrap ((pt : Int) * 128) = ((128 ^ (k + 1) : Nat) : Int) := by
  subst hpt
  have hp : 128 ^ (k + 1) ≤ 128 ^ 9 := Nat.pow_le_pow_right (by omega) (by omega)
  have h3 : ((128 ^ k : Nat) : Int) * 128 = ((128 ^ (k + 1) : Nat) : Int) := by simp [Int.pow_succ]
  rw [h3]
  generalize 128 ^ (k + 1) = z at hp
  rw [IntKind.wrap_u64, Int.emod_eq_of_lt (by omega) (by omega)]

set_option maxRecDepth 100000 in
set_option maxHeartbeats 1000000 in
theorem refTake_any (v : Value) (l : List UInt8) (at_ : Int) (w : World) (hr : RdB w v l) (hl : l.length ≤ 140737488355328) :
    Calls Try.prog 33 #[v, .int .i64 at_] w fun e w' => e = .returned (tkVal (tkAt l at_)) ∧ w = w' := by
  obtain ⟨A, c, rfl, hc1, hc2, hcell⟩ := id hr
  by_cases hlo : at_ < 0
  · have hv : tkAt l at_ = none := tkAt_out (by omega)
    rw [hv]
    go_enter Try.func33, Try.ntmps33
    go_wp2
    go_ret3
    exact ⟨rfl, rfl⟩
  by_cases hhi : (l.length : Int) ≤ at_
  · have hv : tkAt l at_ = none := tkAt_out (by omega)
    rw [hv]
    go_enter Try.func33, Try.ntmps33
    go_wp2
    go_ret3
    exact ⟨rfl, rfl⟩
  obtain ⟨i, rfl⟩ := Int.eq_ofNat_of_zero_le (by omega : 0 ≤ at_)
  have hi : i < l.length := by omega
  rw [tkAt_in hi]
  obtain ⟨q, hq⟩ : ∃ q, q = (tkGo 0 0 (l.drop i)).map fun p => (p.1, i + p.2) := ⟨_, rfl⟩
  rw [← hq]
  have HQ := Lib.hid hq; clear hq
  have HC := Lib.hid hcell; clear hcell
  clear hr hc1 hc2 hlo hhi
  go_enter Try.func33, Try.ntmps33
  go_wp2
  go_loop [7, 8, 9] (fun n p j => ∃ (k acc pt : Nat), k ≤ 10 ∧ j = .int .i64 k ∧ n = .int .u64 acc ∧ p = .int .u64 pt ∧ (k ≤ 9 → pt = 128 ^ k) ∧ acc < 128 ^ k ∧ i + k ≤ l.length ∧ tkGo k acc (l.drop (i + k)) = tkGo 0 0 (l.drop i)) (fun _ _ j => 10 - (intOf j).toNat)
  case atStart => exact ⟨0, 0, 1, Nat.zero_le _, rfl, rfl, rfl, fun _ => rfl, by omega, by omega, rfl⟩
  case round =>
    obtain ⟨k, acc, pt, hk, rfl, rfl, rfl, hpt, hacc, hik, htk⟩ := hrel
    have HPT := Lib.hid hpt; clear hpt
    have HACC := Lib.hid hacc; clear hacc
    have hfin : ∀ z, tkGo 0 0 (l.drop i) = z → q = z.map fun p => (p.1, i + p.2) := by rintro z rfl; exact HQ.out
    have HF := Lib.hid hfin; clear hfin
    by_cases hk10 : k < 10
    · by_cases hlt : i + k < l.length
      · obtain ⟨ad, hA, hcells⟩ := HC.out (by omega)
        subst hA
        have hck := hcells (i + k) hlt
        rw [bv_nat] at hck
        obtain ⟨x, hx⟩ : ∃ x, x = l[i + k].toNat := ⟨_, rfl⟩
        have hx256 : x < 256 := by rw [hx]; exact l[i + k].toNat_lt
        rw [← hx] at hck
        rw [List.drop_eq_getElem_cons hlt, tkGo, ← hx] at htk
        have HTK := Lib.hid htk; clear htk hx hcells
        by_cases h9 : k = 9 ∧ 1 < x
        · have e1 : ((k : Int) == 9) = true := by rw [beq_iff_eq]; omega
          have e2 : decide (1 < (x : Int)) = true := by simp; omega
          have hres := HTK.out
          rw [if_neg (by omega), if_pos h9] at hres
          obtain rfl : q = none := HF.out _ hres.symm
          clear hres h9 HQ HF HTK
          go_wp2
          go_ret3
          exact ⟨rfl, rfl⟩
        · by_cases h128 : 128 ≤ x
          · have hres := HTK.out
            rw [if_neg (by omega), if_neg h9, if_pos h128] at hres
            have hk8 : k ≤ 8 := by omega
            have e1 : ((k : Int) == 9) = false := by rw [beq_eq_false_iff_ne]; omega
            have HRES := Lib.hid hres; clear hres
            clear h9 HTK
            go_wp2
            go_round
            case rel => exact ⟨k + 1, acc + x % 128 * 128 ^ k, 128 ^ (k + 1), by omega, by go_num, by rw [rt_add k acc x pt (by omega) (HPT.out (by omega)) HACC.out hx256 (by omega)], by rw [rt_part k pt hk8 (HPT.out (by omega))], fun _ => rfl, (tk_or k acc x (by omega) HACC.out hx256 (by omega)).2.1, by omega, HRES.out⟩
            case measure => simp [intOf]; omega
          · by_cases h0 : 0 < k ∧ x = 0
            · have hres := HTK.out
              rw [if_neg (by omega), if_neg h9, if_neg h128, if_pos h0] at hres
              obtain rfl : q = none := HF.out _ hres.symm
              have e1 : ((x : Int) == 0) = true := by rw [beq_iff_eq]; omega
              have e2 : decide (1 < (x : Int)) = false := by simp; omega
              have e3 : 0 < k := h0.1
              clear h9 hres h0 HTK HF HQ
              by_cases hk9 : k = 9
              · have e9 : ((k : Int) == 9) = true := by rw [beq_iff_eq]; omega
                clear hk9
                go_wp2
                go_ret3
                exact ⟨rfl, rfl⟩
              · have e9 : ((k : Int) == 9) = false := by rw [beq_eq_false_iff_ne]; omega
                clear hk9
                go_wp2
                go_ret3
                exact ⟨rfl, rfl⟩
            · have hres := HTK.out
              rw [if_neg (by omega), if_neg h9, if_neg h128, if_neg h0] at hres
              obtain rfl : q = _ := HF.out _ hres.symm
              have ho := rt_add k acc x pt (by omega) (HPT.out (by omega)) HACC.out hx256 (by omega)
              have HOR := Lib.hid ho
              by_cases hk9 : k = 9
              · have e9' : ((k : Int) == 9) = true := by rw [beq_iff_eq]; omega
                have e2 : decide (1 < (x : Int)) = false := by simp; omega
                have e3 : 0 < k := by omega
                have e1 : ((x : Int) == 0) = false := by rw [beq_eq_false_iff_ne]; omega
                clear hres HTK HF HQ h9 h0 hk9 ho
                go_wp2
                go_ret3
                refine ⟨?_, rfl⟩
                rw [HOR.out]
                simp [tkVal, Int.add_assoc]
              · have e9' : ((k : Int) == 9) = false := by rw [beq_eq_false_iff_ne]; omega
                by_cases hk0 : 0 < k
                · have e1 : ((x : Int) == 0) = false := by rw [beq_eq_false_iff_ne]; omega
                  clear hres HTK HF HQ h9 h0 hk9 ho
                  go_wp2
                  go_ret3
                  refine ⟨?_, rfl⟩
                  rw [HOR.out]
                  simp [tkVal, Int.add_assoc]
                · have e1 : decide (0 < (k : Int)) = false := by simp; omega
                  clear hres HTK HF HQ h9 h0 hk9 ho
                  go_wp2
                  go_ret3
                  refine ⟨?_, rfl⟩
                  rw [HOR.out]
                  simp [tkVal, Int.add_assoc]
      · rw [List.drop_eq_nil_of_le (by omega)] at htk
        obtain rfl : q = none := HF.out _ htk.symm
        clear htk HQ HF
        go_wp2
        go_ret3
        exact ⟨rfl, rfl⟩
    · obtain rfl : k = 10 := by omega
      rw [tkGo_ten] at htk
      obtain rfl : q = none := HF.out _ htk.symm
      clear htk HQ HF
      go_wp2
      go_ret3
      exact ⟨rfl, rfl⟩
end Go.Proofs.Ytggjipfdfpdecaa
/- The walks of num.TakeText and varveref01.TakeText: a text is read at a place of any bytes, or none is. -/
namespace Go.Proofs.Ytggjipfdfpdecaa
open Go.RowKit

/-- The text at a place, and the place behind it. -/
def ttAt (l : List UInt8) (at_ most : Int) : Option (List UInt8 × Nat) :=
  match tkAt l at_ with
  | some (n, nx) => if 0 ≤ most ∧ n ≤ most.toNat ∧ n ≤ l.length - nx then some ((l.drop nx).take n, nx + n) else none
  | none => none
def ttVal : Option (List UInt8 × Nat) → Value
  | none => .tuple #[.string (bs []), .int .i64 0, .bool false]
  | some (s, k) => .tuple #[.string (bs s), .int .i64 (k : Int), .bool true]

set_option maxRecDepth 100000 in
set_option maxHeartbeats 1000000 in
theorem takeText_any (v : Value) (l : List UInt8) (at_ most : Int) (w : World) (hr : RdB w v l) (hl : l.length ≤ 140737488355328) (hm1 : -9223372036854775808 ≤ most) (hm2 : most ≤ 9223372036854775807) :
    Calls Try.prog 34 #[v, .int .i64 at_, .int .i64 most] w fun e w' => e = .returned (ttVal (ttAt l at_ most)) ∧ w = w' := by
  obtain ⟨A, c, rfl, hc1, hc2, _⟩ := id hr
  have ht := take_any _ l at_ w hr hl
  cases hk : tkAt l at_ with
  | none =>
    have hv : ttAt l at_ most = none := by unfold ttAt; rw [hk]
    rw [hv]
    rw [hk] at ht
    have HT := Lib.hid ht; clear ht
    go_enter Try.func34, Try.ntmps34
    go_wp2_with fail
    refine HT.out.mono ?_
    rintro e w' ⟨rfl, rfl⟩
    simp only [tkVal]
    go_wp2_with fail
    go_ret3
    exact ⟨rfl, rfl⟩
  | some p =>
    obtain ⟨n, nx⟩ := p
    rw [hk] at ht
    have HT := Lib.hid ht; clear ht
    obtain ⟨hn, h0, h1, h2, -, -⟩ := tkAt_one l at_ n nx hk
    have HN := Lib.hid hn; clear hn
    by_cases hneg : most < 0
    · have hv : ttAt l at_ most = none := by unfold ttAt; rw [hk]; simp only; rw [if_neg (by omega)]
      rw [hv]
      clear hv hk
      go_enter Try.func34, Try.ntmps34
      go_wp2_with fail
      refine HT.out.mono ?_
      rintro e w' ⟨rfl, rfl⟩
      simp only [tkVal]
      go_wp2_with fail
      go_ret3
      exact ⟨rfl, rfl⟩
    obtain ⟨m, rfl⟩ := Int.eq_ofNat_of_zero_le (by omega : 0 ≤ most)
    by_cases hbig : m < n
    · have hv : ttAt l at_ m = none := by unfold ttAt; rw [hk]; simp only; rw [if_neg (by omega)]
      rw [hv]
      clear hv hk
      go_enter Try.func34, Try.ntmps34
      go_wp2_with fail
      refine HT.out.mono ?_
      rintro e w' ⟨rfl, rfl⟩
      simp only [tkVal]
      go_wp2_with fail
      go_ret3
      exact ⟨rfl, rfl⟩
    by_cases hlen : l.length - nx < n
    · have hv : ttAt l at_ m = none := by unfold ttAt; rw [hk]; simp only; rw [if_neg (by omega)]
      have e0 : ((l.length : Int) - (nx : Int)) < (n : Int) := by omega
      rw [hv]
      clear hv hk
      go_enter Try.func34, Try.ntmps34
      go_wp2_with fail
      refine HT.out.mono ?_
      rintro e w' ⟨rfl, rfl⟩
      simp only [tkVal]
      go_wp2_with fail
      go_ret3
      exact ⟨rfl, rfl⟩
    · have hv : ttAt l at_ m = some ((l.drop nx).take n, nx + n) := by unfold ttAt; rw [hk]; simp only; rw [if_pos (by omega)]
      rw [hv]
      obtain ⟨r, A', c', hrr, hcut, hcr⟩ := cut_lh A c l nx (nx + n) (by omega) (by omega) (by omega) hc1
      have hr2 : r = (l.drop nx).take n := by
        have e1 : ((nx : Int) + (n : Int)).toNat = nx + n := by omega
        rw [hrr, e1, Int.toNat_natCast, List.drop_take, Nat.add_sub_cancel_left]
      rw [← hr2]
      have kr := conv_rd (hcr _ hr)
      have hw : IntKind.i64.wrap (n : Int) = (n : Int) := IntWalk.i64_in _ (by omega)
      clear hrr hr2 hcr hk hv
      have hn2 : n ≤ l.length := by omega
      have hb2 : ¬ (m : Int) < (n : Int) := by omega
      have hl2 : ¬ (l.length : Int) - (nx : Int) < (n : Int) := by omega
      clear hbig hlen
      go_enter Try.func34, Try.ntmps34
      go_wp2_with fail
      refine HT.out.mono ?_
      rintro e w' ⟨rfl, rfl⟩
      simp only [tkVal]
      go_wp2_with fail
      go_ret3
      exact ⟨rfl, rfl⟩

set_option maxRecDepth 100000 in
set_option maxHeartbeats 1000000 in
theorem refTakeText_any (v : Value) (l : List UInt8) (at_ most : Int) (w : World) (hr : RdB w v l) (hl : l.length ≤ 140737488355328) (hm1 : -9223372036854775808 ≤ most) (hm2 : most ≤ 9223372036854775807) :
    Calls Try.prog 35 #[v, .int .i64 at_, .int .i64 most] w fun e w' => e = .returned (ttVal (ttAt l at_ most)) ∧ w = w' := by
  obtain ⟨A, c, rfl, hc1, hc2, _⟩ := id hr
  have ht := refTake_any _ l at_ w hr hl
  cases hk : tkAt l at_ with
  | none =>
    have hv : ttAt l at_ most = none := by unfold ttAt; rw [hk]
    rw [hv]
    rw [hk] at ht
    have HT := Lib.hid ht; clear ht
    go_enter Try.func35, Try.ntmps35
    go_wp2_with fail
    refine HT.out.mono ?_
    rintro e w' ⟨rfl, rfl⟩
    simp only [tkVal]
    go_wp2_with fail
    go_ret3
    exact ⟨rfl, rfl⟩
  | some p =>
    obtain ⟨n, nx⟩ := p
    rw [hk] at ht
    have HT := Lib.hid ht; clear ht
    obtain ⟨hn, h0, h1, h2, -, -⟩ := tkAt_one l at_ n nx hk
    have HN := Lib.hid hn; clear hn
    by_cases hneg : most < 0
    · have hv : ttAt l at_ most = none := by unfold ttAt; rw [hk]; simp only; rw [if_neg (by omega)]
      rw [hv]
      clear hv hk
      go_enter Try.func35, Try.ntmps35
      go_wp2_with fail
      refine HT.out.mono ?_
      rintro e w' ⟨rfl, rfl⟩
      simp only [tkVal]
      go_wp2_with fail
      go_ret3
      exact ⟨rfl, rfl⟩
    obtain ⟨m, rfl⟩ := Int.eq_ofNat_of_zero_le (by omega : 0 ≤ most)
    by_cases hbig : m < n
    · have hv : ttAt l at_ m = none := by unfold ttAt; rw [hk]; simp only; rw [if_neg (by omega)]
      rw [hv]
      clear hv hk
      go_enter Try.func35, Try.ntmps35
      go_wp2_with fail
      refine HT.out.mono ?_
      rintro e w' ⟨rfl, rfl⟩
      simp only [tkVal]
      go_wp2_with fail
      go_ret3
      exact ⟨rfl, rfl⟩
    by_cases hlen : l.length - nx < n
    · have hv : ttAt l at_ m = none := by unfold ttAt; rw [hk]; simp only; rw [if_neg (by omega)]
      have e0 : ((l.length : Int) - (nx : Int)) < (n : Int) := by omega
      rw [hv]
      clear hv hk
      go_enter Try.func35, Try.ntmps35
      go_wp2_with fail
      refine HT.out.mono ?_
      rintro e w' ⟨rfl, rfl⟩
      simp only [tkVal]
      go_wp2_with fail
      go_ret3
      exact ⟨rfl, rfl⟩
    · have hv : ttAt l at_ m = some ((l.drop nx).take n, nx + n) := by unfold ttAt; rw [hk]; simp only; rw [if_pos (by omega)]
      rw [hv]
      obtain ⟨r, A', c', hrr, hcut, hcr⟩ := cut_lh A c l nx (nx + n) (by omega) (by omega) (by omega) hc1
      have hr2 : r = (l.drop nx).take n := by
        have e1 : ((nx : Int) + (n : Int)).toNat = nx + n := by omega
        rw [hrr, e1, Int.toNat_natCast, List.drop_take, Nat.add_sub_cancel_left]
      rw [← hr2]
      have kr := conv_rd (hcr _ hr)
      have hw : IntKind.i64.wrap (n : Int) = (n : Int) := IntWalk.i64_in _ (by omega)
      clear hrr hr2 hcr hk hv
      have hn2 : n ≤ l.length := by omega
      have hb2 : ¬ (m : Int) < (n : Int) := by omega
      have hl2 : ¬ (l.length : Int) - (nx : Int) < (n : Int) := by omega
      clear hbig hlen
      go_enter Try.func35, Try.ntmps35
      go_wp2_with fail
      refine HT.out.mono ?_
      rintro e w' ⟨rfl, rfl⟩
      simp only [tkVal]
      go_wp2_with fail
      go_ret3
      exact ⟨rfl, rfl⟩
end Go.Proofs.Ytggjipfdfpdecaa
