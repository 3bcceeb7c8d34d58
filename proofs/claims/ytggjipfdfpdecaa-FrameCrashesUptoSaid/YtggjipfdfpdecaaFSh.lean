/- The walk of varvelaw04's shown: the document's examples. -/
import Derived.Test.YtggjipfdfpdecaaFAllR
import Derived.Test.YtggjipfdfpdecaaFrM
import Derived.Test.YtggjipfdfpdecaaFPut
namespace Go.Proofs.Ytggjipfdfpdecaa
open Go.RowKit
attribute [local go_sem] bs_list

theorem RowsO.form {w : World} {base : Nat} {v : Value} {us : List Value} {ls : List (List UInt8)} (h : RowsO w base v us ls) : ∃ A c, v = .slice A ls.length c ∧ ls.length ≤ c ∧ c ≤ maxLen := by
  rw [← h.2.1]
  rcases h.1.2 with ⟨rfl, h0⟩ | ⟨g, cap, cur, rfl, _, _, h1, h2, _⟩
  · exact ⟨none, 0, by rw [h0], by omega, by simp [maxLen]⟩
  · exact ⟨_, cap, rfl, h1, h2⟩
theorem RowsN.form {w : World} {base : Nat} {v : Value} {us : List Value} {ls : List (List UInt8)} (h : RowsN w base v us ls) : ∃ A c, v = .slice A ls.length c ∧ ls.length ≤ c ∧ c ≤ maxLen := by
  rw [← h.2.1]
  rcases h.1.2 with ⟨rfl, h0⟩ | ⟨g, cap, cur, rfl, _, _, h1, h2, _⟩
  · exact ⟨none, 0, by rw [h0], by omega, by simp [maxLen]⟩
  · exact ⟨_, cap, rfl, h1, h2⟩

/-- An All's answer, where it is known what stands there. -/
theorem AllR.known {R : World → Nat → Value → List Value → List (List UInt8) → Prop} {w w' : World} {b : List UInt8} {first : Nat} {e : Ending} (h : AllR R w b first e w') {ls : List (List UInt8)} {at' f' : Nat} (hp : Pre b 0 first ls at' f') (hs : Stop b at' f') :
    Below w.heap.size w w' ∧ ((Late b at' f' ∧ e = .returned (.tuple #[.slice none 0 0, .int .i64 0, .int .i64 41])) ∨ (¬ Late b at' f' ∧ ∃ v us, e = .returned (.tuple #[v, .int .i64 at', .int .i64 0]) ∧ R w' w.heap.size v us ls)) := by
  obtain ⟨ls2, a2, f2, hp2, hs2, hb, h⟩ := h
  obtain ⟨rfl, rfl, rfl⟩ := Pre.one hp hs hp2 hs2
  exact ⟨hb, h⟩

set_option maxRecDepth 100000 in
set_option maxHeartbeats 2000000 in
theorem fshown_any (w : World) : Calls Try.prog 36 #[] w fun e w' => e = .returned (.bool true) ∧ Below w.heap.size w w' := by
  have kc := fun (w : World) (C : Array Value) (n c : Nat) => Lib.run_convert_bytes_const (P := Try.prog) w 25 5 C n c Try.underlying25 Try.underlying5
  have hlit := lit_rd' w [97, 98] (2, 3) (by simp [maxLen])
  have h1 : (bvs [97, 98]).toArray = #[.int .u8 97, .int .u8 98] := rfl
  rw [h1] at hlit
  have HLIT := Lib.hid hlit; clear hlit h1
  have HB0 := Lib.hid ((Below.refl w.heap.size w).alloc (Nat.le_refl _) (.cells #[.int .u8 97, .int .u8 98] 5 (2, 3)))
  go_enter Try.func36, Try.ntmps36
  go_wp2_with fail
  refine (fput_any _ _ [] [97, 98] 5 _ (RdB.nil _) HLIT.out (by omega) (by simp) rfl (by simp)).mono ?_
  rintro e w1 ⟨v1, rfl, ho1, hb1⟩
  rw [List.nil_append] at ho1
  change Own w1 _ v1 exF at ho1
  have HB1 := Lib.hid (HB0.out.trans (hb1.mono HB0.out.size)); clear hb1
  obtain ⟨g, cap, rfl, _, _, hcap, hcm⟩ := ho1.form (by rw [exF_len]; omega)
  have hc0 := (ho1.at_ 0 (by rw [exF_len]; omega)).1
  have hc1 := (ho1.at_ 1 (by rw [exF_len]; omega)).1
  have hc17 := (ho1.at_ 17 (by rw [exF_len]; omega)).1
  have e0 : exF[0]'(by rw [exF_len]; omega) = 0xA1 := by have := exF_0; rw [List.getElem?_eq_getElem (by rw [exF_len]; omega)] at this; exact Option.some.inj this
  have e1 : exF[1]'(by rw [exF_len]; omega) = 5 := by have := exF_1; rw [List.getElem?_eq_getElem (by rw [exF_len]; omega)] at this; exact Option.some.inj this
  have e17 : exF[17]'(by rw [exF_len]; omega) = 97 := by have := exF_17; rw [List.getElem?_eq_getElem (by rw [exF_len]; omega)] at this; exact Option.some.inj this
  rw [e0] at hc0
  rw [e1] at hc1
  rw [e17] at hc17
  have HC0 := Lib.hid hc0; clear hc0
  have HC1 := Lib.hid hc1; clear hc1
  have HC17 := Lib.hid hc17; clear hc17
  rw [exF_len] at ho1 hcap ⊢
  have HO1 := Lib.hid ho1; clear ho1 e0 e1 e17
  go_wp2_with fail
  have ht := ftake_any _ exF (0 : Nat) w1 HO1.out.rd (by rw [exF_len]; omega)
  rw [exF_at] at ht
  refine ht.mono ?_
  rintro e w2 ⟨v2, rfl, ho2, hb2⟩
  have HB2 := Lib.hid (HB1.out.trans (hb2.mono HB1.out.size))
  have HBA := Lib.hid hb2; clear hb2 ht
  have HO2 := Lib.hid ho2; clear ho2
  go_wp2_with fail
  have hA := fall_any _ exF 4 w2 (HO1.out.rd.below HBA.out) (by rw [exF_len]; omega) (by decide)
  refine hA.mono ?_
  intro e w3 h3
  obtain ⟨hb3, h3⟩ := h3.known (ls := []) (at' := 0) (f' := 4) ⟨rfl, rfl⟩ (exF_stop 4 (by omega))
  obtain ⟨-, rfl⟩ := h3.resolve_right (fun h => h.1 exF_late)
  have HB3 := Lib.hid (HB2.out.trans (hb3.mono HB2.out.size))
  have HBB := Lib.hid (HBA.out.trans (hb3.mono HBA.out.size))
  have HO3 := Lib.hid (HO2.out.below hb3); clear hb3 hA h3
  go_wp2_with fail
  have hA := fall_any _ exF 6 w3 (HO1.out.rd.below HBB.out) (by rw [exF_len]; omega) (by decide)
  refine hA.mono ?_
  intro e w4 h4
  obtain ⟨hb4, h4⟩ := h4.known (ls := []) (at' := 0) (f' := 6) ⟨rfl, rfl⟩ (exF_stop 6 (by omega))
  obtain ⟨-, v4, us, rfl, hrow⟩ := h4.resolve_left (fun h => exF_notLate h.1)
  have HB4 := Lib.hid (HB3.out.trans (hb4.mono HB3.out.size))
  have HBC := Lib.hid (HBB.out.trans (hb4.mono HBB.out.size))
  have k4 := conv_rd (HO3.out.below hb4).rd
  obtain ⟨A4, c4, rfl, _, _⟩ := hrow.form
  have hc0 : w4.cell? ⟨g, 0, none⟩ = some (.int .u8 161) := by rw [World.cell?_of_block (w := w1) (HBC.out.block g (World.block_lt_of_cell? w1 _ HC0.out))]; exact HC0.out
  have hc1 : w4.cell? ⟨g, 1, none⟩ = some (.int .u8 5) := by rw [World.cell?_of_block (w := w1) (HBC.out.block g (World.block_lt_of_cell? w1 _ HC1.out))]; exact HC1.out
  have hc17 : w4.cell? ⟨g, 17, none⟩ = some (.int .u8 97) := by rw [World.cell?_of_block (w := w1) (HBC.out.block g (World.block_lt_of_cell? w1 _ HC17.out))]; exact HC17.out
  have hbs : bs [97, 98] = { data := #[97, 98] } := rfl
  rw [hbs] at k4
  have e32 : bl 2 = 1 := rfl
  clear hb4 hA h4 hrow hbs
  go_wp2_with fail
  go_ret
  exact ⟨rfl, HB4.out⟩
end Go.Proofs.Ytggjipfdfpdecaa
