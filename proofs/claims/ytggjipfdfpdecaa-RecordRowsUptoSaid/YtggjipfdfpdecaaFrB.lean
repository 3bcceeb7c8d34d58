/- The walk of frame.Put's inner function: bytes are laid behind what is there, a mark ahead of each 31 of them. -/
import Derived.Test.YtggjipfdfpdecaaFrA
import Derived.Test.YtggjipfdfpdecaaWhole
namespace Go.Proofs.Ytggjipfdfpdecaa
open Go.RowKit

/-- append(v, x), the new block's number as the walk spells it. -/
theorem own_append1H {ops : Array Oper} {rest : List Oper} {o : Oper} {a : Act} {Q : Exit → Act → World → Prop} {W : World} (base H : Nat) (hH : W.heap.size = H) (hgd : o.guard = none) (s x : Operand)
    (ho : o.op = .call { callee := .builtin .append, args := #[s, x], argTypes := #[25, 25] })
    (v : Value) (l : List UInt8) (b : UInt8) (y : Value) (hy : y = bv b) (hs : a.eval s = v) (hx : a.eval x = .slice (some ⟨H, 0, none⟩) 1 1)
    (HO : Own W base v l) (hbase : base ≤ W.heap.size) (hl : l.length + 1 ≤ 140737488355328)
    (h : ∀ v1 w1, Own w1 base v1 (l ++ [b]) → Below base W w1 → W.grownBy w1 v.ownBlock → (v1.ownBlock = v.ownBlock ∨ ∃ k, v1.ownBlock = some k ∧ W.heap.size ≤ k) → wpList Try.prog ops Q rest (a.put o.dst v1) w1) :
    wpList Try.prog ops Q (o :: rest) a (W.alloc (.cells #[y] 5)) := by
  subst hH
  exact own_append1 base hgd s x ho v l b y hy hs hx HO hbase hl h

/-- The value v reads as the bytes l, all of them in block g. -/
def RdIn (w : World) (g : Nat) (v : Value) (l : List UInt8) : Prop :=
  ∃ A c, v = .slice A l.length c ∧ l.length ≤ c ∧ c ≤ maxLen ∧ (0 < l.length → ∃ ad : Addr, A = some ad ∧ ad.block = g ∧ ∀ j (h : j < l.length), w.cell? (ad.add j) = some (bv l[j]))
theorem RdIn.rd {w : World} {g : Nat} {v : Value} {l : List UInt8} (h : RdIn w g v l) : RdB w v l := by
  obtain ⟨A, c, hv, h1, h2, h3⟩ := h
  exact ⟨A, c, hv, h1, h2, fun hp => by obtain ⟨ad, hA, _, hc⟩ := h3 hp; exact ⟨ad, hA, hc⟩⟩
theorem add_block (a : Addr) (j : Nat) : (a.add j).block = a.block := by unfold Addr.add; split <;> rfl
theorem RdIn.keep {w w' : World} {g : Nat} {v : Value} {l : List UInt8} (h : RdIn w g v l) (hg : g < w.heap.size → w'.heap[g]? = w.heap[g]?) : RdIn w' g v l := by
  obtain ⟨A, c, hv, h1, h2, h3⟩ := h
  refine ⟨A, c, hv, h1, h2, fun hp => ?_⟩
  obtain ⟨ad, hA, hb, hc⟩ := h3 hp
  refine ⟨ad, hA, hb, fun j hj => ?_⟩
  have h0 := hc j hj
  have hlt := World.block_lt_of_cell? w _ h0
  rw [add_block, hb] at hlt
  rw [World.cell?_of_block (w := w) (by rw [add_block, hb]; exact hg hlt), h0]
theorem RdB.in_ {w : World} {v : Value} {l : List UInt8} (h : RdB w v l) : ∃ g, (0 < l.length → g < w.heap.size) ∧ RdIn w g v l := by
  obtain ⟨A, c, hv, h1, h2, h3⟩ := h
  by_cases hp : 0 < l.length
  · obtain ⟨ad, hA, hc⟩ := h3 hp
    refine ⟨ad.block, fun _ => ?_, A, c, hv, h1, h2, fun _ => ⟨ad, hA, rfl, hc⟩⟩
    have := World.block_lt_of_cell? w _ (hc 0 hp)
    rwa [add_block] at this
  · exact ⟨0, fun h => absurd h hp, A, c, hv, h1, h2, fun h => absurd h hp⟩
theorem Own.in_ {w : World} {base : Nat} {v : Value} {l : List UInt8} (h : Own w base v l) (g : Nat) (hg : v.ownBlock = some g ∨ v.ownBlock = none) : RdIn w g v l := by
  obtain ⟨A, c, hv, h1, h2, h3⟩ := h.rd
  refine ⟨A, c, hv, h1, h2, fun hp => ?_⟩
  obtain ⟨ad, hA, hc⟩ := h3 hp
  subst hA hv
  refine ⟨ad, rfl, ?_, hc⟩
  rcases hg with hg | hg
  · simpa [Value.ownBlock] using hg
  · simp [Value.ownBlock] at hg

/-- frame.Put's two captured variables: where it stands, and what is out so far. -/
structure PutSt (w : World) (B ga go : Nat) (a : Nat) (u : Value) (lo : List UInt8) : Prop where
  cga : w.heap[ga]? = some (.cells #[.int .i64 (a : Int)] 3 (0, 0))
  cgo : w.heap[go]? = some (.cells #[u] 25 (0, 0))
  own : Own w B u lo
  hBa : B ≤ ga
  hBo : B ≤ go
  hne : ga ≠ go

theorem own_ne_block {w : World} {B g : Nat} {u : Value} {lo : List UInt8} {cs : Array Value} {t : TypeId} (h : Own w B u lo) (hg : w.heap[g]? = some (.cells cs t (0, 0))) (ht : t ≠ 5) : u.ownBlock ≠ some g := by
  rcases h.2 with ⟨rfl, _⟩ | ⟨g', cap, cur, rfl, _, hh, _⟩
  · simp [Value.ownBlock]
  · intro he
    have : g' = g := by simpa [Value.ownBlock] using he
    subst this
    rw [hg] at hh
    injection hh with hh
    injection hh with _ ht' _
    exact ht ht'

theorem set_block {w : World} {g g' : Nat} {cs : Array Value} {t : TypeId} (h : w.heap[g']? = some (.cells cs t (0, 0))) (hne : g' ≠ g) (u : Value) : (w.setCell ⟨g, 0, none⟩ u).heap[g']? = some (.cells cs t (0, 0)) :=
  (Below.heap_setCell w ⟨g, 0, none⟩ u g' hne).trans h
theorem set_one {w : World} {g : Nat} {v u : Value} {t : TypeId} (h : w.heap[g]? = some (.cells #[v] t (0, 0))) : (w.setCell ⟨g, 0, none⟩ u).heap[g]? = some (.cells #[u] t (0, 0)) := by
  have := heap_setCell_same w g 0 #[v] t u h
  simpa using this
theorem own_set_far {w : World} {B g : Nat} {u : Value} {lo : List UInt8} (h : Own w B u lo) (hne : u.ownBlock ≠ some g) (x : Value) : Own (w.setCell ⟨g, 0, none⟩ x) B u lo := by
  refine World.ownsRow.kept h (row := some g) ⟨rfl, rfl, rfl, by simp [World.setCell], fun k _ hk => Below.heap_setCell w ⟨g, 0, none⟩ x k (by rintro rfl; exact hk rfl)⟩ (.inr hne)

theorem PutSt.setO {w w1 : World} {B ga go a : Nat} {u v1 : Value} {lo l1 : List UInt8} (h : PutSt w B ga go a u lo) (hg : w.grownBy w1 u.ownBlock) (ho : Own w1 B v1 l1) : PutSt (w1.setCell ⟨go, 0, none⟩ v1) B ga go a v1 l1 := by
  have n1 := own_ne_block h.own h.cga (by decide)
  have n2 := own_ne_block h.own h.cgo (by decide)
  have e1 : w1.heap[ga]? = some (.cells #[.int .i64 (a : Int)] 3 (0, 0)) := (hg.block ga (Array.getElem?_eq_some_iff.1 h.cga).1 (fun e => n1 e.symm)).trans h.cga
  have e2 : w1.heap[go]? = some (.cells #[u] 25 (0, 0)) := (hg.block go (Array.getElem?_eq_some_iff.1 h.cgo).1 (fun e => n2 e.symm)).trans h.cgo
  exact ⟨set_block e1 h.hne _, set_one e2, own_set_far ho (own_ne_block ho e2 (by decide)) _, h.hBa, h.hBo, h.hne⟩
theorem PutSt.setA {w : World} {B ga go a : Nat} {u : Value} {lo : List UInt8} (h : PutSt w B ga go a u lo) (b : Nat) : PutSt (w.setCell ⟨ga, 0, none⟩ (.int .i64 (b : Int))) B ga go b u lo :=
  ⟨set_one h.cga, set_block h.cgo (fun e => h.hne e.symm) _, own_set_far h.own (own_ne_block h.own h.cga (by decide)) _, h.hBa, h.hBo, h.hne⟩

/-- What else there was is as it was. -/
def Rest (w w' : World) (ga go : Nat) (u : Value) : Prop :=
  w'.os = w.os ∧ w'.tape = w.tape ∧ w'.output = w.output ∧ w.heap.size ≤ w'.heap.size ∧ ∀ k, k < w.heap.size → k ≠ ga → k ≠ go → u.ownBlock ≠ some k → w'.heap[k]? = w.heap[k]?
/-- The row out is where it was, or new. -/
def OutNew (w : World) (u u' : Value) : Prop := u'.ownBlock = u.ownBlock ∨ ∃ k, u'.ownBlock = some k ∧ w.heap.size ≤ k
theorem Rest.refl (w : World) (ga go : Nat) (u : Value) : Rest w w ga go u := ⟨rfl, rfl, rfl, Nat.le_refl _, fun _ _ _ _ _ => rfl⟩
theorem Rest.grow {w w1 w2 : World} {ga go : Nat} {u u1 : Value} (h : Rest w w1 ga go u) (hn : OutNew w u u1) (hg : w1.grownBy w2 u1.ownBlock) : Rest w w2 ga go u := by
  obtain ⟨h1, h2, h3, h4, h5⟩ := h
  refine ⟨hg.os.trans h1, hg.tape.trans h2, hg.output.trans h3, Nat.le_trans h4 hg.size, fun k hk a b c => ?_⟩
  rw [hg.block k (Nat.lt_of_lt_of_le hk h4) ?_, h5 k hk a b c]
  intro e
  rcases hn with hn | ⟨q, hq, hq2⟩
  · exact c (hn.symm.trans e.symm)
  · rw [hq] at e
    injection e with e
    omega
theorem Rest.set_ {w w1 : World} {ga go : Nat} {u : Value} (h : Rest w w1 ga go u) (g : Nat) (hg : g = ga ∨ g = go) (x : Value) : Rest w (w1.setCell ⟨g, 0, none⟩ x) ga go u := by
  obtain ⟨h1, h2, h3, h4, h5⟩ := h
  refine ⟨h1, h2, h3, by simpa [World.setCell] using h4, fun k hk a b c => ?_⟩
  rw [Below.heap_setCell w1 ⟨g, 0, none⟩ x k (by rcases hg with rfl | rfl <;> assumption), h5 k hk a b c]
theorem OutNew.step {w w1 : World} {u u1 u2 : Value} (h : OutNew w u u1) (hs : w.heap.size ≤ w1.heap.size) (h2 : u2.ownBlock = u1.ownBlock ∨ ∃ k, u2.ownBlock = some k ∧ w1.heap.size ≤ k) : OutNew w u u2 := by
  rcases h2 with h2 | ⟨k, h2, h3⟩
  · rcases h with h | ⟨q, h, h'⟩
    · exact .inl (h2.trans h)
    · exact .inr ⟨q, h2.trans h, h'⟩
  · exact .inr ⟨k, h2, by omega⟩
theorem RdIn.rest {w w' : World} {g ga go : Nat} {u v : Value} {l : List UInt8} (h : RdIn w g v l) (hr : Rest w w' ga go u) (h1 : g ≠ ga) (h2 : g ≠ go) (h3 : u.ownBlock ≠ some g) : RdIn w' g v l := h.keep fun hlt => hr.2.2.2.2 g hlt h1 h2 h3

theorem lay_le : ∀ (l : List UInt8) (k : Nat), (lay k l).length ≤ 2 * l.length
  | [], _ => by simp [lay]
  | c :: r, k => by
    have := lay_le r (k + 1)
    simp only [lay]
    split <;> simp <;> omega

section
variable {w w1 : World} {B ga go a : Nat} {u : Value} {lo : List UInt8}
theorem PutSt.cellA (h : PutSt w B ga go a u lo) : w.cell? ⟨ga, 0, none⟩ = some (.int .i64 (a : Int)) := by rw [cell_of_row w ga 0 _ 3 (0, 0) h.cga]; rfl
theorem PutSt.cellO (h : PutSt w B ga go a u lo) : w.cell? ⟨go, 0, none⟩ = some u := by rw [cell_of_row w go 0 _ 25 (0, 0) h.cgo]; rfl
theorem PutSt.frozA (h : PutSt w B ga go a u lo) : w.frozen? ⟨ga, 0, none⟩ = false := by have := h.cga; simp [World.frozen?, this]
theorem PutSt.frozO (h : PutSt w B ga go a u lo) : w.frozen? ⟨go, 0, none⟩ = false := by have := h.cgo; simp [World.frozen?, this]
theorem PutSt.afterO (h : PutSt w B ga go a u lo) (hg : w.grownBy w1 u.ownBlock) : w1.cell? ⟨go, 0, none⟩ = some u := (World.cell?_of_block (w := w) (hg.block go (Array.getElem?_eq_some_iff.1 h.cgo).1 (fun e => own_ne_block h.own h.cgo (by decide) e.symm))).trans h.cellO
theorem PutSt.afterA (h : PutSt w B ga go a u lo) (hg : w.grownBy w1 u.ownBlock) : w1.cell? ⟨ga, 0, none⟩ = some (.int .i64 (a : Int)) := (World.cell?_of_block (w := w) (hg.block ga (Array.getElem?_eq_some_iff.1 h.cga).1 (fun e => own_ne_block h.own h.cga (by decide) e.symm))).trans h.cellA
theorem PutSt.frozenO (h : PutSt w B ga go a u lo) (hg : w.grownBy w1 u.ownBlock) : w1.frozen? ⟨go, 0, none⟩ = false := (World.frozen?_of_block (w := w) (hg.block go (Array.getElem?_eq_some_iff.1 h.cgo).1 (fun e => own_ne_block h.own h.cgo (by decide) e.symm))).trans h.frozO
theorem PutSt.frozenA (h : PutSt w B ga go a u lo) (hg : w.grownBy w1 u.ownBlock) : w1.frozen? ⟨ga, 0, none⟩ = false := (World.frozen?_of_block (w := w) (hg.block ga (Array.getElem?_eq_some_iff.1 h.cga).1 (fun e => own_ne_block h.own h.cga (by decide) e.symm))).trans h.frozA
end

set_option maxRecDepth 100000 in
set_option maxHeartbeats 1000000 in
theorem putClosure_any (B ga go a : Nat) (u : Value) (lo : List UInt8) (g : Nat) (v : Value) (l : List UInt8) (w : World) (hst : PutSt w B ga go a u lo) (hr : RdIn w g v l) (hga : g ≠ ga) (hgo : g ≠ go) (hgu : u.ownBlock ≠ some g)
    (hl : l.length ≤ 1048576) (ha : a ≤ 1048576) (hlo : lo.length ≤ 140737480000000) (hB : B ≤ w.heap.size) :
    Calls Try.prog 74 #[v, .pointer (some ⟨ga, 0, none⟩), .pointer (some ⟨go, 0, none⟩)] w fun e w' => ∃ u', e = .returned (.tuple #[]) ∧ PutSt w' B ga go (a + l.length) u' (lo ++ lay a l) ∧ Rest w w' ga go u ∧ OutNew w u u' := by
  obtain ⟨A, c, rfl, _, _, _⟩ := id hr
  have HR := Lib.hid hr; clear hr
  have HLO := Lib.hid hlo; clear hlo
  go_enter Try.func74, Try.ntmps74
  go_wp2
  go_loopw [8] (fun i wr => ∃ (k : Nat) (u1 : Value) (l1 : List UInt8), k ≤ l.length ∧ i = .int .i64 k ∧ l1 = lo ++ lay a (l.take k) ∧ PutSt wr B ga go (a + k) u1 l1 ∧ Rest w wr ga go u ∧ OutNew w u u1) (fun i _ => l.length - (intOf i).toNat)
  case atStart => exact ⟨0, u, lo, by omega, rfl, by simp [lay], hst, Rest.refl _ _ _ _, .inl rfl⟩
  case round =>
    obtain ⟨k, u1, l1, hk, rfl, hl1, hs1, hrest, hnew⟩ := hrel
    have HS := Lib.hid hs1; clear hs1
    have HRE := Lib.hid hrest; clear hrest
    have HN := Lib.hid hnew; clear hnew
    by_cases hlt : k < l.length
    · obtain ⟨A1, c1, he, _, _, hcell⟩ := (HR.out.rest HRE.out hga hgo hgu)
      obtain ⟨ad, hA, _, hcells⟩ := hcell (by omega)
      injection he with e1 e2 e3
      subst e1 hA
      have hck := hcells k hlt
      obtain ⟨x, hx⟩ : ∃ x, x = l[k] := ⟨_, rfl⟩
      rw [← hx, bv_nat] at hck
      have hlen1 : l1.length + 2 ≤ 140737488355328 := by
        rw [hl1, List.length_append]
        have h1 := lay_le (l.take k) a
        have h2 : (l.take k).length ≤ l.length := by rw [List.length_take]; omega
        have := HLO.out
        clear hck
        omega
      have HLen := Lib.hid hlen1; clear hlen1
      have hl2 : lo ++ lay a (l.take (k + 1)) = l1 ++ (if (a + k) % 31 = 0 then [0xB2, x] else [x]) := by
        rw [hl1, List.take_succ_eq_append_getElem hlt, lay_append, List.length_take, Nat.min_eq_left (by omega), ← hx, List.append_assoc]
        simp only [lay]
      have HL2 := Lib.hid hl2; clear hl2 hl1
      clear hx hcells hcell e2 e3
      have c1 := HS.out.cellA
      have c2 := HS.out.cellO
      have hne1 : ¬ ga = go := HS.out.hne
      have hne2 : ¬ go = ga := fun e => HS.out.hne e.symm
      have hBr : B ≤ wr.heap.size := Nat.le_trans hB HRE.out.2.2.2.1
      have hak : a + k ≤ 2097152 := by omega
      have hakw : IntKind.i64.wrap (((a + k : Nat) : Int) + 1) = ((a + k + 1 : Nat) : Int) := by rw [IntWalk.i64_in _ (by omega)]; omega
      by_cases hm : (a + k) % 31 = 0
      · have t1 : (((a + k : Nat) : Int) % 31 == 0) = true := by rw [beq_iff_eq]; omega
        have e2 := HL2.out
        rw [if_pos hm] at e2
        have HE2 := Lib.hid e2; clear e2
        clear hm
        go_wp2_with (first
          | (at_builtin; refine own_append1 B rfl (.tmp 15) (.tmp 16) rfl _ l1 0xB2 _ rfl rfl rfl HS.out.own ?hb1 ?hl1 ?_; (case hb1 => exact hBr); (case hl1 => have := HLen.out; omega); intro v1 w1 hown hb1 hg hat; obtain ⟨l2, hll⟩ : ∃ l2, l2 = l1 ++ [0xB2] := ⟨_, rfl⟩; rw [← hll] at hown; have HLL := Lib.hid hll; clear hll; obtain ⟨A1, c3, rfl, _, _, _⟩ := hown.rd; have S2 := Lib.hid (HS.out.setO hg hown); have R2 := Lib.hid ((HRE.out.grow HN.out hg).set_ go (.inr rfl) (.slice A1 l2.length c3)); have N2 := Lib.hid (HN.out.step HRE.out.2.2.2.1 hat); have c4 := HS.out.afterO hg; have c5 := HS.out.afterA hg; have c6 := HS.out.frozenO hg; have hB2 : B ≤ w1.heap.size := Nat.le_trans hBr hg.size; have hwz : wr.heap.size ≤ w1.heap.size := hg.size; clear hown hb1 hg hat c1 c2)
          | (at_builtin; go_loud (refine own_append1H B w1.heap.size (by simp [World.setCell]) rfl (.tmp 18) (.tmp 20) rfl _ l2 x _ rfl rfl rfl S2.out.own ?hb2 ?hl2 ?_); (case hb2 => simp [World.setCell]; exact hB2); (case hl2 => have := HLen.out; have := congrArg List.length HLL.out; simp at this; omega); intro v2 w2 hown hb2 hg hat; obtain ⟨l3, hl3⟩ : ∃ l3, l3 = l2 ++ [x] := ⟨_, rfl⟩; rw [← hl3] at hown; have HL3 := Lib.hid hl3; clear hl3; obtain ⟨A2, c7, rfl, _, _, _⟩ := hown.rd; have S3 := Lib.hid (S2.out.setO hg hown); have R3 := Lib.hid ((R2.out.grow N2.out hg).set_ go (.inr rfl) (.slice A2 l3.length c7)); have N3 := Lib.hid (N2.out.step R2.out.2.2.2.1 hat); have d4 := S2.out.afterO hg; have d5 := S2.out.afterA hg; have d6 := S2.out.frozenO hg; have d7 := S2.out.frozenA hg; have hB3 : B ≤ w2.heap.size := Nat.le_trans (by simp [World.setCell]; exact hB2) hg.size; clear hown hb2 hg hat c4 c5 c6))
        have hst3 := S3.out.setA (a + (k + 1))
        rw [show ((a + (k + 1) : Nat) : Int) = (a : Int) + (k : Int) + 1 from by omega] at hst3
        go_roundw
        case rel => exact ⟨k + 1, _, l3, by omega, by go_num, by rw [HE2.out, HL3.out, HLL.out]; simp, hst3, R3.out.set_ ga (.inl rfl) _, N3.out⟩
        case measure => simp [intOf]; omega
      · have t1 : (((a + k : Nat) : Int) % 31 == 0) = false := by rw [beq_eq_false_iff_ne]; omega
        have e2 := HL2.out
        rw [if_neg hm] at e2
        have HE2 := Lib.hid e2; clear e2
        clear hm
        go_wp2_with (at_builtin; refine own_append1 B rfl (.tmp 18) (.tmp 20) rfl _ l1 x _ rfl rfl rfl HS.out.own ?hb2 ?hl2 ?_; (case hb2 => exact hBr); (case hl2 => have := HLen.out; omega); intro v2 w2 hown hb2 hg hat; obtain ⟨l3, hl3⟩ : ∃ l3, l3 = l1 ++ [x] := ⟨_, rfl⟩; rw [← hl3] at hown; have HL3 := Lib.hid hl3; clear hl3; obtain ⟨A2, c7, rfl, _, _, _⟩ := hown.rd; have S3 := Lib.hid (HS.out.setO hg hown); have R3 := Lib.hid ((HRE.out.grow HN.out hg).set_ go (.inr rfl) (.slice A2 l3.length c7)); have N3 := Lib.hid (HN.out.step HRE.out.2.2.2.1 hat); have d4 := HS.out.afterO hg; have d5 := HS.out.afterA hg; have d6 := HS.out.frozenO hg; have d7 := HS.out.frozenA hg; clear hown hb2 hg hat c1 c2)
        have hst3 := S3.out.setA (a + (k + 1))
        rw [show ((a + (k + 1) : Nat) : Int) = (a : Int) + (k : Int) + 1 from by omega] at hst3
        go_roundw
        case rel => exact ⟨k + 1, _, l3, by omega, by go_num, by rw [HE2.out, HL3.out], hst3, R3.out.set_ ga (.inl rfl) _, N3.out⟩
        case measure => simp [intOf]; omega
    · obtain rfl : k = l.length := by omega
      rw [List.take_length] at hl1
      subst hl1
      go_wp2
      go_end0
      exact ⟨u1, rfl, HS.out, HRE.out, HN.out⟩
end Go.Proofs.Ytggjipfdfpdecaa
