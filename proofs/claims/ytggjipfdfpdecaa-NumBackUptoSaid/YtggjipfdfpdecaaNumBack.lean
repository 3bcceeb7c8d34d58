/- The walk of the law NumBack: what was put is taken, whatever stands ahead and behind. Condition: what comes in has together at most 1048576 values and letters. -/
import Derived.Test.YtggjipfdfpdecaaTText
namespace Go.Proofs.Ytggjipfdfpdecaa
open Go.RowKit
attribute [local go_sem] bs_list

theorem ttAt_text (b r : List UInt8) (s : List UInt8) (h : s.length < 18446744073709551616) : ttAt (b ++ uvar s.length ++ s ++ r) b.length s.length = some (s, b.length + (uvar s.length).length + s.length) := by
  have h1 := tkAt_uvar b (s ++ r) s.length h
  rw [← List.append_assoc, ← List.append_assoc] at h1
  unfold ttAt
  rw [h1]
  simp only
  rw [if_pos (by simp; omega)]
  congr 2
  have e : b ++ uvar s.length ++ s ++ r = (b ++ uvar s.length) ++ (s ++ r) := by simp
  have e2 : b.length + (uvar s.length).length = (b ++ uvar s.length).length := by simp
  rw [e, e2, List.drop_left, List.take_left]

theorem tkAt_num (b r : List UInt8) (n : Nat) (h : n < 18446744073709551616) : tkAt (b ++ uvar n ++ r) b.length = some (n, b.length + (uvar n).length) := by
  have := tkAt_uvar b r n h
  rwa [← List.append_assoc] at this

set_option maxRecDepth 100000 in
set_option maxHeartbeats 2000000 in
theorem numBack_nat (vb : Value) (b : List UInt8) (n : Nat) (s : ByteArray) (vr : Value) (r : List UInt8) (w : World) (hb : RdB w vb b) (hr : RdB w vr r) (hn : n < 18446744073709551616) (hl : b.length + s.size + r.length ≤ 1048576) :
    Calls Try.prog 9 #[vb, .int .u64 n, .string s, vr] w fun e w' => e = .returned (.bool true) ∧ Below w.heap.size w w' := by
  obtain ⟨A, c, rfl, _, _, _⟩ := id hb
  obtain ⟨A2, c2, rfl, _, _, _⟩ := id hr
  have HB := Lib.hid hb; clear hb
  have HR := Lib.hid hr; clear hr
  have HN := Lib.hid hn; clear hn
  have hlb : b.length ≤ 1048576 := by omega
  have hlr : r.length ≤ 1048576 := by omega
  have hls : s.size ≤ 1048576 := by omega
  have HL := Lib.hid hl; clear hl
  have hun := uvar_len10 HN.out
  have hus := uvar_len10 (n := s.size) (by omega)
  have HUN := Lib.hid hun; clear hun
  have HUS := Lib.hid hus; clear hus
  go_enter Try.func9, Try.ntmps9
  go_wp2_with fail
  refine (shown_any w).mono ?_
  rintro e w1 ⟨rfl, hb1⟩
  have HB1 := Lib.hid hb1; clear hb1
  go_wp2_with fail
  refine (put_any _ b n _ (HB.out.below HB1.out) HN.out (by omega)).mono ?_
  rintro e w2 ⟨v2, rfl, ho2, hb2⟩
  have hb12 := HB1.out.trans (hb2.mono HB1.out.size)
  have hsz2 := hb2.size
  have HO2 := Lib.hid ho2; clear ho2
  have HB2 := Lib.hid hb12; clear hb12 hb2
  have HS2 := Lib.hid hsz2; clear hsz2
  go_wp2_with (at_builtin; refine own_append_row w1.heap.size rfl (.tmp 21) (.tmp 22) rfl _ _ (b ++ uvar n) r rfl rfl HO2.out (HR.out.below HB2.out) ?hb ?hl ?_; (case hb => exact HS2.out); (case hl => have := HUN.out; simp; omega); intro v3 w3 hown hb3 hg hat; have hb13 := HB2.out.trans (hb3.mono HB1.out.size); have HO3 := Lib.hid hown; clear hown; have HB3 := Lib.hid hb13; clear hb13 hb3 hg hat; obtain ⟨X, hX⟩ : ∃ X, X = b ++ uvar n ++ r := ⟨_, rfl⟩; rw [← hX] at HO3; have HX := Lib.hid hX; clear hX; obtain ⟨A3, c3, rfl, _, _, _⟩ := HO3.out.rd)
  have c1 := take_any _ X b.length _ HO3.out.rd (by have := HUN.out; rw [HX.out]; simp; omega)
  have e1 : tkAt X b.length = some (n, b.length + (uvar n).length) := by rw [HX.out]; exact tkAt_num b r n HN.out
  rw [e1] at c1
  simp only [tkVal] at c1
  obtain ⟨m, hm⟩ : ∃ m, m = b.length + (uvar n).length := ⟨_, rfl⟩
  rw [← hm] at c1
  have t1 : ((m : Int) == (X.length : Int) - (r.length : Int)) = true := by rw [beq_iff_eq, hm, HX.out]; simp; omega
  have hXl : X.length ≤ 4194304 := by have := HUN.out; rw [HX.out]; simp; omega
  clear e1
  have HM := Lib.hid hm; clear hm
  have C1 := Lib.hid c1; clear c1
  refine C1.out.mono ?_
  rintro e w' ⟨rfl, rfl⟩
  go_wp2_with fail
  refine (putText_any _ b s _ (HB.out.below HB3.out) (by omega)).mono ?_
  rintro e w4 ⟨v4, rfl, ho4, hb4⟩
  have hb14 := HB3.out.trans (hb4.mono HB3.out.size)
  have hsz4 := hb4.size
  have HO4 := Lib.hid ho4; clear ho4
  have HB4 := Lib.hid hb14; clear hb14 hb4
  have HS4 := Lib.hid hsz4; clear hsz4
  go_wp2_with (at_builtin; refine own_append_row w3.heap.size rfl (.tmp 34) (.tmp 35) rfl _ _ (b ++ uvar s.size ++ s.data.toList) r rfl rfl HO4.out (HR.out.below HB4.out) ?hb2 ?hl2 ?_; (case hb2 => exact HS4.out); (case hl2 => have := HUS.out; have e := bs_size s.data.toList; rw [bs_of] at e; simp only [List.length_append]; omega); intro v5 w5 hown hb5 hg hat; have hb15 := HB4.out.trans (hb5.mono HB3.out.size); have HO5 := Lib.hid hown; clear hown; have HB5 := Lib.hid hb15; clear hb15 hb5 hg hat; obtain ⟨Y, hY⟩ : ∃ Y, Y = b ++ uvar s.size ++ s.data.toList ++ r := ⟨_, rfl⟩; rw [← hY] at HO5; have HY := Lib.hid hY; clear hY; obtain ⟨A5, c5, rfl, _, _, _⟩ := HO5.out.rd)
  have hsl : s.data.toList.length = s.size := by have e := bs_size s.data.toList; rw [bs_of] at e; exact e.symm
  have hYl : Y.length = b.length + (uvar s.size).length + s.size + r.length := by rw [HY.out]; simp only [List.length_append, hsl]
  have c2 := takeText_any _ Y b.length s.size _ HO5.out.rd (by have := HUS.out; omega) (by omega) (by omega)
  have e2 : ttAt Y b.length s.size = some (s.data.toList, b.length + (uvar s.size).length + s.size) := by
    rw [HY.out, ← hsl]
    exact ttAt_text b r s.data.toList (by omega)
  rw [e2] at c2
  simp only [ttVal] at c2
  obtain ⟨m2, hm2⟩ : ∃ m, m = b.length + (uvar s.size).length + s.size := ⟨_, rfl⟩
  rw [← hm2] at c2
  have t2 : ((m2 : Int) == (Y.length : Int) - (r.length : Int)) = true := by rw [beq_iff_eq, hm2, hYl]; omega
  have hYl2 : Y.length ≤ 4194304 := by have := HUS.out; omega
  rw [bs_of] at c2
  clear e2 hYl hsl
  have HM2 := Lib.hid hm2; clear hm2
  have C2 := Lib.hid c2; clear c2
  refine C2.out.mono ?_
  rintro e w' ⟨rfl, rfl⟩
  go_wp2_with fail
  go_ret
  exact ⟨rfl, HB5.out⟩

theorem numBack_any (vb : Value) (b : List UInt8) (n : Int) (s : ByteArray) (vr : Value) (r : List UInt8) (w : World) (hb : RdB w vb b) (hn : (Lit.int .u64 n).wf = true) (hr : RdB w vr r) (hl : b.length + s.size + r.length ≤ 1048576) :
    Calls Try.prog 9 #[vb, .int .u64 n, .string s, vr] w fun e w' => e = .returned (.bool true) ∧ Below w.heap.size w w' := by
  obtain ⟨n, rfl, hn'⟩ := u64_of hn
  exact numBack_nat vb b n s vr r w hb hr hn' hl
end Go.Proofs.Ytggjipfdfpdecaa
