/- The walks of record's writer: a number, a text is laid behind what it holds. -/
import Derived.Test.YtggjipfdfpdecaaFrB
import Derived.Test.YtggjipfdfpdecaaRcS
namespace Go.Proofs.Ytggjipfdfpdecaa
open Go.RowKit

/-- The writer in block g holds these bytes, in a row of the call's own. -/
def WrSt (w : World) (base g : Nat) (l : List UInt8) : Prop := ∃ v, w.heap[g]? = some (.cells #[v] 106 (0, 0)) ∧ Own w base v l
/-- But for block g and rows of bytes from base on, all is as it was. -/
structure Wr (base g : Nat) (w w' : World) : Prop where
  os : w'.os = w.os
  tape : w'.tape = w.tape
  output : w'.output = w.output
  size : w.heap.size ≤ w'.heap.size
  block : ∀ k, k < w.heap.size → k ≠ g → (k < base ∨ ∃ cs t fr, w.heap[k]? = some (.cells cs t fr) ∧ t ≠ 5) → w'.heap[k]? = w.heap[k]?

theorem Wr.refl (base g : Nat) (w : World) : Wr base g w w := ⟨rfl, rfl, rfl, Nat.le_refl _, fun _ _ _ _ => rfl⟩
theorem Wr.trans {base g : Nat} {w w1 w2 : World} (h : Wr base g w w1) (h2 : Wr base g w1 w2) : Wr base g w w2 :=
  ⟨h2.os.trans h.os, h2.tape.trans h.tape, h2.output.trans h.output, Nat.le_trans h.size h2.size, fun k hk hg ht => by
    have e := h.block k hk hg ht
    rw [h2.block k (Nat.lt_of_lt_of_le hk h.size) hg ?_, e]
    rcases ht with ht | ⟨cs, t, fr, h1, h3⟩
    · exact .inl ht
    · exact .inr ⟨cs, t, fr, e.trans h1, h3⟩⟩
theorem Wr.of_below {base g : Nat} {w w' : World} (h : Below w.heap.size w w') : Wr base g w w' := ⟨h.os, h.tape, h.output, h.size, fun k hk _ _ => h.block k hk⟩
theorem Wr.below {base g : Nat} {w w' : World} (h : Wr base g w w') (hg : base ≤ g) (hb : base ≤ w.heap.size) : Below base w w' := ⟨h.os, h.tape, h.output, h.size, fun k hk => h.block k (Nat.lt_of_lt_of_le hk hb) (by omega) (.inl hk)⟩
theorem Wr.cell {base g k : Nat} {w w' : World} (h : Wr base g w w') {cs : Array Value} {t : TypeId} {fr : Nat × Nat} (hk : w.heap[k]? = some (.cells cs t fr)) (ht : t ≠ 5) (hg : k ≠ g) : w'.heap[k]? = some (.cells cs t fr) :=
  (h.block k (Array.getElem?_eq_some_iff.1 hk).1 hg (.inr ⟨cs, t, fr, hk, ht⟩)).trans hk
theorem Wr.grown {base g : Nat} {w w1 w2 : World} (h : Wr base g w w1) {v : Value} {l : List UInt8} (ho : Own w1 base v l) (hg : w1.grownBy w2 v.ownBlock) : Wr base g w w2 :=
  h.trans ⟨hg.os, hg.tape, hg.output, hg.size, fun k hk _ ht => hg.block k hk (fun e => by
    rcases ht with ht | ⟨cs, t, fr, h1, h3⟩
    · have := (ho.lt k e.symm).1
      omega
    · obtain ⟨cs', h4⟩ : ∃ cs, w1.heap[k]? = some (.cells cs 5 (0, 0)) := by
        rcases ho.2 with ⟨rfl, _⟩ | ⟨g', cap, cur, rfl, _, hh, _⟩
        · simp [Value.ownBlock] at e
        · have : g' = k := by simpa [Value.ownBlock] using e.symm
          subst this
          exact ⟨_, hh⟩
      rw [h1] at h4
      injection h4 with h4
      injection h4 with _ h5 _
      exact h3 h5)⟩
theorem Wr.set_ {base g : Nat} {w w1 : World} (h : Wr base g w w1) (u : Value) : Wr base g w (w1.setCell ⟨g, 0, none⟩ u) :=
  h.trans ⟨rfl, rfl, rfl, by simp [World.setCell], fun k _ hk _ => Below.heap_setCell w1 ⟨g, 0, none⟩ u k hk⟩
theorem WrSt.cell {w : World} {g : Nat} {v : Value} (h : w.heap[g]? = some (.cells #[v] 106 (0, 0))) : w.cell? ⟨g, 0, none⟩ = some v := by rw [cell_of_row w g 0 _ 106 (0, 0) h]; rfl
theorem WrSt.froz {w : World} {g : Nat} {v : Value} (h : w.heap[g]? = some (.cells #[v] 106 (0, 0))) : w.frozen? ⟨g, 0, none⟩ = false := by simp [World.frozen?, h]
theorem WrSt.set_ {w : World} {base g : Nat} {v u : Value} {l : List UInt8} (h : w.heap[g]? = some (.cells #[v] 106 (0, 0))) (ho : Own w base u l) : WrSt (w.setCell ⟨g, 0, none⟩ u) base g l :=
  ⟨u, set_one h, own_set_far ho (own_ne_block ho h (by decide)) _⟩
theorem heap_below {w w' : World} {g : Nat} {o : Obj} (h : w.heap[g]? = some o) (hb : Below w.heap.size w w') : w'.heap[g]? = some o := (hb.block g (Array.getElem?_eq_some_iff.1 h).1).trans h

theorem Own.base {w : World} {b1 b2 : Nat} {v : Value} {l : List UInt8} (h : Own w b2 v l) (hb : b1 ≤ b2) : Own w b1 v l := by
  refine ⟨h.1, ?_⟩
  rcases h.2 with h0 | ⟨g, cap, cur, h1, h2, h3⟩
  · exact .inl h0
  · exact .inr ⟨g, cap, cur, h1, Nat.le_trans hb h2, h3⟩
set_option maxHeartbeats 400000 in
theorem wnum_any (base g : Nat) (l : List UInt8) (n : Nat) (w : World) (hs : WrSt w base g l) (hn : n < 9223372036854775808) (hl : l.length + 10 ≤ 140737488355328) (hb : base ≤ w.heap.size) :
    Calls Try.prog 83 #[.pointer (some ⟨g, 0, none⟩), .int .i64 n] w fun e w' => e = .returned (.tuple #[]) ∧ WrSt w' base g (l ++ uvar n) ∧ Wr base g w w' := by
  obtain ⟨v, hg, ho⟩ := hs
  have c0 := WrSt.cell hg
  have hw : IntKind.u64.wrap (n : Int) = (n : Int) := by rw [IntKind.wrap_u64, Int.emod_eq_of_lt (by omega) (by omega)]
  have HG := Lib.hid hg; clear hg
  have HO := Lib.hid ho; clear ho
  have HL := Lib.hid hl; clear hl
  have hn2 : n < 18446744073709551616 := by omega
  go_enter Try.func83, Try.ntmps83
  go_wp2_with fail
  refine (put_any v l n w HO.out.rd hn2 HL.out).mono ?_
  rintro e w1 ⟨v1, rfl, ho1, hb1⟩
  obtain ⟨L, hL⟩ : ∃ L, L = l ++ uvar n := ⟨_, rfl⟩
  rw [← hL] at ho1
  have HLL := Lib.hid hL; clear hL
  obtain ⟨A1, k1, rfl, _, _, _⟩ := id ho1.rd
  have hg1 := heap_below HG.out hb1
  have c1 := WrSt.cell hg1
  have f1 := WrSt.froz hg1
  have HS := Lib.hid (WrSt.set_ (base := base) hg1 (ho1.base hb))
  have HW := Lib.hid ((Wr.of_below (base := base) (g := g) hb1).set_ (.slice A1 L.length k1))
  clear hg1 hb1 ho1
  go_wp2_with fail
  go_end0
  exact ⟨rfl, by rw [← HLL.out]; exact HS.out, HW.out⟩
set_option maxHeartbeats 400000 in
theorem wtext_any (base g : Nat) (l : List UInt8) (t : List UInt8) (w : World) (hs : WrSt w base g l) (hl : l.length + t.length + 10 ≤ 140737488355328) (hb : base ≤ w.heap.size) :
    Calls Try.prog 86 #[.pointer (some ⟨g, 0, none⟩), .string (bs t)] w fun e w' => e = .returned (.tuple #[]) ∧ WrSt w' base g (l ++ uvar t.length ++ t) ∧ Wr base g w w' := by
  obtain ⟨v, hg, ho⟩ := hs
  have c0 := WrSt.cell hg
  have HG := Lib.hid hg; clear hg
  have HO := Lib.hid ho; clear ho
  have HL := Lib.hid hl; clear hl
  go_enter Try.func86, Try.ntmps86
  go_wp2_with fail
  refine (putText_any v l (bs t) w HO.out.rd (by rw [bs_size]; exact HL.out)).mono ?_
  rintro e w1 ⟨v1, rfl, ho1, hb1⟩
  rw [bs_size, bs_data] at ho1
  obtain ⟨L, hL⟩ : ∃ L, L = l ++ uvar t.length ++ t := ⟨_, rfl⟩
  rw [← hL] at ho1
  have HLL := Lib.hid hL; clear hL
  obtain ⟨A1, k1, rfl, _, _, _⟩ := id ho1.rd
  have hg1 := heap_below HG.out hb1
  have c1 := WrSt.cell hg1
  have f1 := WrSt.froz hg1
  have HS := Lib.hid (WrSt.set_ (base := base) hg1 (ho1.base hb))
  have HW := Lib.hid ((Wr.of_below (base := base) (g := g) hb1).set_ (.slice A1 L.length k1))
  clear hg1 hb1 ho1
  go_wp2_with fail
  go_end0
  exact ⟨rfl, by rw [← HLL.out]; exact HS.out, HW.out⟩
end Go.Proofs.Ytggjipfdfpdecaa
