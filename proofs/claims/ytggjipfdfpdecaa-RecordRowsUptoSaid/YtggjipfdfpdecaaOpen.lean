/- What comes in: a slice of bytes, a slice of slices of bytes, read as lists. -/
import Derived.Test.YtggjipfdfpdecaaNumC
import Derived.ProofKit
import Derived.OpenShut
import Derived.ShutString
import Derived.SizedLaws
import Derived.Deep.Slices
import Derived.JoinedCond
import Derived.Deep.CondSized
namespace Go.Proofs.Ytggjipfdfpdecaa
open Go.ChangeShapes Go.WideShapes Go.ChangeAt Go.RowKit Go.Deep

theorem own : ownKnob Try.prog.godebug = none := by kernel_rfl
theorem laidOut : laidOutB Try.prog = true := by kernel_rfl

/-! bulk -/
theorem bulk_one {H : Type} (d : DataW H) : 1 ≤ Rows.uptoBulk d := by
  cases d with
  | lit l => cases l <;> simp [Rows.uptoBulk]
  | nil => simp [Rows.uptoBulk]
  | ptr d => simp [Rows.uptoBulk]
  | slice elems spare => simp [Rows.uptoBulk]
  | agg parts => simp [Rows.uptoBulk]
  | iface t d => simp [Rows.uptoBulk]
  | map entries => simp [Rows.uptoBulk]
  | held h => simp [Rows.uptoBulk]
theorem bulk_len {H : Type} (l : List (DataW H)) : l.length ≤ Rows.uptoBulkAll l := by
  induction l with
  | nil => simp [Rows.uptoBulkAll]
  | cons x r ih => have := bulk_one x; simp only [Rows.uptoBulkAll, List.length_cons]; omega
theorem bulk_slice {H : Type} (elems spare : List (DataW H)) : Rows.uptoBulkAll elems + 1 ≤ Rows.uptoBulk (.slice elems spare) := by
  simp only [Rows.uptoBulk]
  omega
theorem bulk_string {H : Type} (bytes : List UInt8) : Rows.uptoBulk (DataW.lit (H := H) (.string bytes)) = bytes.length + 1 := by
  simp [Rows.uptoBulk]
theorem bulk_bound {H : Type} {l : List (DataW H)} (hk : Rows.uptoSmall H l = true) : Rows.uptoBulkAll l ≤ 1048576 := of_decide_eq_true hk
theorem bulk_cons {H : Type} (d : DataW H) (l : List (DataW H)) : Rows.uptoBulkAll (d :: l) = Rows.uptoBulk d + Rows.uptoBulkAll l := by
  simp only [Rows.uptoBulkAll]

theorem cells5 : Try.prog.cellsOf 5 = 1 := by kernel_rfl
theorem cells25 : Try.prog.cellsOf 25 = 1 := by kernel_rfl
theorem bytes5 : Try.prog.bytesOf 5 = 1 := by kernel_rfl

section
variable {H : Type} {enc : TypeId × Value → H} {w : World} {base : Nat} {spare : Nat → Bool} {held : Bool}

/-- How long a slice is, as its datum says. -/
def LenOf (d : DataW H) (n : Nat) : Prop := n = 0 ∨ ∃ e s, d = .slice e s ∧ n ≤ e.length

theorem bytes_of {fuel : Nat} {cs : List Value} {x : DataW H × List MemPlace} (h : DataW.trod enc Try.prog w base spare held fuel 25 cs = some x) :
    ∃ v l, cs = [v] ∧ RdB w v l ∧ l.length + 1 ≤ Rows.uptoBulk x.1 ∧ LenOf x.1 l.length := by
  rcases open_ints Try.underlying25 Try.underlying5 cells5 h with ⟨rfl, rfl⟩ | ⟨a, len, cap, zs, rfl, _, hl, hm, hz, rfl, hcell, hwf⟩
  · exact ⟨_, [], rfl, RdB.nil w, by simp [Rows.uptoBulk], .inl rfl⟩
  · have hlz : len ≤ zs.length := by
      rw [hz]
      split
      · exact hl
      · exact Nat.le_refl _
    have hlen : ((zs.take len).map fun z => UInt8.ofNat z.toNat).length = len := by simp; omega
    refine ⟨_, (zs.take len).map fun z => UInt8.ofNat z.toNat, rfl, ?_, ?_, .inr ⟨_, _, rfl, ?_⟩⟩
    · refine ⟨some a, cap, by rw [hlen], by rw [hlen]; exact hl, hm, fun _ => ⟨a, rfl, fun j hj => ?_⟩⟩
      rw [hlen] at hj
      have hj' : j < zs.length := by omega
      rw [hcell j hj']
      have hwfj := hwf (zs[j]) (List.getElem_mem hj')
      simp only [Lit.wf] at hwfj
      have hb : 0 ≤ zs[j] ∧ zs[j] ≤ 255 := by
        have := hwfj
        simp [IntKind.min, IntKind.max, IntKind.signed, IntKind.bits] at this
        omega
      simp only [List.getD_eq_getElem?_getD, List.getElem?_eq_getElem hj', Option.getD_some, bv, List.getElem_map, List.getElem_take]
      have he : ((UInt8.ofNat (zs[j]).toNat).toNat : Int) = zs[j] := by
        rw [UInt8.toNat_ofNat']
        omega
      rw [he]
    · have h1 := bulk_len (H := H) (lits .u8 (zs.take len))
      have h2 := bulk_slice (H := H) (lits .u8 (zs.take len)) (lits .u8 (zs.drop len))
      have h3 : (lits (H := H) .u8 (zs.take len)).length = len := by simp [lits]; omega
      rw [hlen]
      show len + 1 ≤ Rows.uptoBulk (DataW.slice (lits .u8 (zs.take len)) (lits .u8 (zs.drop len)))
      omega
    · rw [hlen]
      simp [lits]
      omega

theorem bulk_append {H : Type} (l r : List (DataW H)) : Rows.uptoBulkAll (l ++ r) = Rows.uptoBulkAll l + Rows.uptoBulkAll r := by
  induction l with
  | nil => simp [Rows.uptoBulkAll]
  | cons x l ih => simp only [List.cons_append, Rows.uptoBulkAll, ih]; omega

theorem rows_fold {p : Nat → List UInt8 → Prop} : ∀ (n : Nat), (∀ i, i < n → ∃ l, p i l) → ∃ ls : List (List UInt8), ls.length = n ∧ ∀ j (h : j < ls.length), p j ls[j]
  | 0, _ => ⟨[], rfl, fun j h => by simp at h⟩
  | n + 1, h => by
    obtain ⟨ls, hl, hp⟩ := rows_fold n (fun i hi => h i (by omega))
    obtain ⟨l, hl'⟩ := h n (by omega)
    refine ⟨ls ++ [l], by simp [hl], fun j hj => ?_⟩
    by_cases e : j < ls.length
    · rw [List.getElem_append_left e]; exact hp j e
    · have : j = ls.length := by simp at hj; omega
      subst this
      rw [List.getElem_append_right (Nat.le_refl _)]
      simp only [Nat.sub_self, List.getElem_cons_zero]
      rw [hl]
      exact hl'

theorem rows_bulk' {H : Type} (D : Nat → DataW H) : ∀ (n : Nat) (ls : List (List UInt8)), ls.length = n → (∀ j (h : j < ls.length), ls[j].length + 1 ≤ Rows.uptoBulk (D j)) → ls.flatten.length + n ≤ Rows.uptoBulkAll ((List.range n).map D)
  | 0, ls, hn, _ => by obtain rfl := List.eq_nil_of_length_eq_zero hn; simp [Rows.uptoBulkAll]
  | n + 1, ls, hn, h => by
    have hne : ls ≠ [] := by rintro rfl; simp at hn
    have hd := List.dropLast_concat_getLast hne
    have hl : ls.dropLast.length = n := by simp [hn]
    have h1 := rows_bulk' D n ls.dropLast hl (fun j hj => by
      have := h j (by omega)
      rw [List.getElem_dropLast]
      exact this)
    have h2 := h n (by omega)
    have hlast : ls.getLast hne = ls[n] := by rw [List.getLast_eq_getElem]; congr 1; omega
    rw [List.range_succ, List.map_append, bulk_append]
    have hf : ls.flatten.length = ls.dropLast.flatten.length + ls[n].length := by
      conv => lhs; rw [← hd]
      rw [List.flatten_append, List.length_append, hlast]
      simp
    rw [hf]
    simp only [List.map_cons, List.map_nil, Rows.uptoBulkAll]
    omega
theorem rows_bulk {H : Type} (D : Nat → DataW H) (ls : List (List UInt8)) (h : ∀ j (h : j < ls.length), ls[j].length + 1 ≤ Rows.uptoBulk (D j)) : ls.flatten.length + ls.length ≤ Rows.uptoBulkAll ((List.range ls.length).map D) := rows_bulk' D _ ls rfl h

theorem rows_of {fuel : Nat} {cs : List Value} {x : DataW H × List MemPlace} (h : DataW.trod enc Try.prog w base spare held fuel 22 cs = some x) :
    ∃ v ls, cs = [v] ∧ RdBs w v ls ∧ ls.flatten.length + ls.length + 1 ≤ Rows.uptoBulk x.1 ∧ LenOf x.1 ls.length := by
  rcases open_slice1 Try.underlying22 cells25 h with ⟨rfl, rfl⟩ | ⟨a, len, cap, m, n, V, D, Pl, rfl, _, hl, hcap, hm, rfl, hx⟩
  · exact ⟨_, [], rfl, ⟨none, 0, rfl, Nat.le_refl _, by simp [maxLen], fun h => by simp at h⟩, by simp [Rows.uptoBulk], .inl rfl⟩
  · have hlm : len ≤ m := by
      rw [hm]
      split
      · exact hl
      · exact Nat.le_refl _
    obtain ⟨ls, hls, hp⟩ := rows_fold (p := fun j l => ∃ u, w.cell? (a.add j) = some u ∧ RdB w u l ∧ l.length + 1 ≤ Rows.uptoBulk (D j)) len (fun i hi => by
      obtain ⟨hc, ht⟩ := hx i (by omega)
      obtain ⟨v, l, hv, hr, hb, _⟩ := bytes_of ht
      obtain rfl : V i = v := by simpa using hv
      exact ⟨l, _, hc, hr, hb⟩)
    subst hls
    refine ⟨_, ls, rfl, ⟨some a, cap, rfl, hl, hcap, fun _ => ⟨a, rfl, fun j hj => ?_⟩⟩, ?_, .inr ⟨_, _, rfl, by simp⟩⟩
    · obtain ⟨u, h1, h2, _⟩ := hp j hj
      exact ⟨u, h1, h2⟩
    · have h1 := rows_bulk D ls (fun j hj => by obtain ⟨u, _, _, h3⟩ := hp j hj; exact h3)
      have h2 := bulk_slice ((List.range ls.length).map D) ((List.range (m - ls.length)).map fun j => D (ls.length + j))
      show ls.flatten.length + ls.length + 1 ≤ Rows.uptoBulk (DataW.slice ((List.range ls.length).map D) ((List.range (m - ls.length)).map fun j => D (ls.length + j)))
      omega
end
end Go.Proofs.Ytggjipfdfpdecaa
