/- Texts of this proof, merged: Ha, Hb, Hc, Hd, He. Each part says at its head what it proves. -/
import Derived.Test.YtfolchpjccjadaaDoorHw
import Derived.Deep.RegionLaw
import Derived.Test.YtfolchpjccjadaaDoorAs
/- The walks of the hash index's refused, at, add, Bucket. -/
namespace Go.Proofs.YtfolchpjccjadaaDoor
open Go.RowKit
set_option linter.unusedVariables false
attribute [local go_sem] bs_list bs_size

set_option maxRecDepth 100000 in
set_option maxHeartbeats 1000000 in
theorem refused_no (B o t : Nat) (s : Hop) (w : World) (hs : HopW w B o t s) (hk : isKey s.key = true) (hl : s.key.length ≤ 140737488355328) :
    Calls Tryd.prog 25 #[.pointer (some ⟨o, 0, none⟩)] w fun e w' => e = .returned (.bool false) ∧ w = w' := by
  obtain ⟨hb, ref, had, code, hh⟩ := hs
  have x0 := box_cells hh 0 (.pointer (some ⟨t, 0, none⟩)) rfl
  have x1 := box_cells hh 1 (.string (bs s.key)) rfl
  have HK := Lib.hid (isKey_any s.key w hl)
  have HI := Lib.hid hk
  clear hh hk
  go_enter Tryd.func25, Tryd.ntmps25
  go_wp2_with fail
  refine HK.out.mono ?_
  rintro e w1 ⟨rfl, rfl⟩
  rw [HI.out]
  go_wp2_with fail
  go_ret
  exact ⟨rfl, rfl⟩
set_option maxRecDepth 100000 in
set_option maxHeartbeats 1000000 in
theorem refused_yes (B o t : Nat) (s : Hop) (w : World) (hs : HopW w B o t s) (hk : isKey s.key = false) (hl : s.key.length ≤ 140737488355328) :
    Calls Tryd.prog 25 #[.pointer (some ⟨o, 0, none⟩)] w fun e w' => e = .returned (.bool true) ∧ HopW w' B o t { s with next := 4 } ∧ Keep B [] (some o) w w' := by
  have HE := Lib.hid (ends_any B o t s 0 false 90 w hs)
  obtain ⟨hb, ref, had, code, hh⟩ := hs
  have x0 := box_cells hh 0 (.pointer (some ⟨t, 0, none⟩)) rfl
  have x1 := box_cells hh 1 (.string (bs s.key)) rfl
  have HK := Lib.hid (isKey_any s.key w hl)
  have HI := Lib.hid hk
  clear hh hk
  go_enter Tryd.func25, Tryd.ntmps25
  go_wp2_with fail
  refine HK.out.mono ?_
  rintro e w1 ⟨rfl, rfl⟩
  rw [HI.out]
  go_wp2_with fail
  refine HE.out.mono ?_
  rintro e w1 ⟨rfl, h1, h2⟩
  have H1 := Lib.hid h1; have H2 := Lib.hid h2; clear h1 h2
  go_wp2_with fail
  go_ret
  exact ⟨rfl, H1.out, H2.out⟩

/-- What the entries' slice is when there is one. -/
theorem TbC.there {w : World} {B t a n : Nat} {hd : List Nat} {E : List Ent} {hv ev : Value} {e : Ent} (h : TbC w B t a hd E hv ev) (he : E[n]? = some e) : ∃ g cap, ev = .slice (some ⟨g, 0, none⟩) E.length cap ∧ E.length ≤ cap ∧ w.cell? ⟨g, n * 3, none⟩ = some (.string (bs e.key)) ∧ w.cell? ⟨g, n * 3 + 1, none⟩ = some (.int .i64 e.ref) ∧ w.cell? ⟨g, n * 3 + 2, none⟩ = some (.int .i64 (e.cell : Int)) := by
  obtain ⟨a1, a2, a3, a4⟩ := h
  have hlt := (List.getElem?_eq_some_iff.1 he).1
  have a5 := a4
  obtain ⟨g, cap, rfl, hc⟩ := row_some a4 (by omega)
  obtain ⟨e0, e1, e2⟩ := flatE_get E n e he
  refine ⟨g, cap, rfl, hc, ?_, ?_, ?_⟩
  · have := a5.cells (g := g) rfl _ _ e0; rwa [addp] at this
  · have := a5.cells (g := g) rfl _ _ e1; rwa [addp] at this
  · have := a5.cells (g := g) rfl _ _ e2; rwa [addp] at this

set_option maxRecDepth 100000 in
set_option maxHeartbeats 1000000 in
theorem at_any (g n len cap : Nat) (w : World) (hn : 0 < n) (hl : n ≤ len) (hc : len ≤ 100000) :
    Calls Tryd.prog 20 #[.slice (some ⟨g, 0, none⟩) len cap, .int .u64 (n : Int)] w fun e w' => e = .returned (.pointer (some ⟨g, (n - 1) * 3, none⟩)) ∧ w = w' := by
  obtain ⟨m, rfl⟩ : ∃ m, n = m + 1 := ⟨n - 1, by omega⟩
  have e1 : IntKind.u64.wrap (((m + 1 : Nat) : Int) - 1) = (m : Int) := by
    have e : IntKind.u64.wrap (((m + 1 : Nat) : Int) - 1) = (((m + 1 : Nat) : Int) - 1) % 18446744073709551616 := by simp [IntKind.wrap, IntKind.bits, IntKind.signed]
    rw [e]
    omega
  have hm : m < len := by omega
  go_enter Tryd.func20, Tryd.ntmps20
  go_wp2_with fail
  go_ret
  exact ⟨rfl, rfl⟩

def bk (nb : Nat) (k : List UInt8) : Nat := (crc k).toNat % nb
theorem bvs_get (l : List UInt8) (j : Nat) (h : j < l.length) : (bvs l)[j]? = some (bv l[j]) := by simp [bvs, h]
theorem rd_below {w w' : World} {v : Value} {l : List UInt8} (h : RdB w v l) (hb : Below w.heap.size w w') : RdB w' v l := by
  obtain ⟨A, c, hv, h1, h2, h3⟩ := h
  refine ⟨A, c, hv, h1, h2, fun hp => ?_⟩
  obtain ⟨ad, hA, hcell⟩ := h3 hp
  refine ⟨ad, hA, fun j hj => ?_⟩
  have := hcell j hj
  rw [hb.cell (World.block_lt_of_cell? w _ this), this]
theorem bytesRow_get (k : List UInt8) (c j : Nat) (hj : j < k.length) : (bytesRow (bs k) c)[j]? = some (bv k[j]) := by
  unfold bytesRow bs bv
  rw [Array.getElem?_append_left (by simpa using hj)]
  simp [hj]
/-- []byte(s): a new row that reads as the text's bytes. -/
theorem bytes_run (W : World) (k : List UInt8) (hl : k.length ≤ 1000000) : ∃ c w2, (convert 9 83 (.string (bs k))).run Tryd.prog W = .ok (.slice (some ⟨W.heap.size, 0, none⟩) k.length c) w2 ∧ RdB w2 (.slice (some ⟨W.heap.size, 0, none⟩) k.length c) k ∧ Below W.heap.size W w2 := by
  have h := run_bytes_of_string (P := Tryd.prog) W 9 83 5 (bs k) Tryd.underlying9 Tryd.underlying83 Tryd.underlying5
  rw [bs_size] at h
  obtain ⟨C, hC⟩ : ∃ C, C = grownCap W k.length 0 5 := ⟨_, rfl⟩
  rw [← hC] at h
  have hle : k.length ≤ C ∧ C ≤ maxLen := by
    rw [hC]
    exact ⟨grownCap_ge _ _ _ _, grownCap_le_maxLen _ _ _ _ (by simp only [maxLen]; omega)⟩
  refine ⟨C, _, h, ⟨_, C, rfl, hle.1, hle.2, fun _ => ⟨_, rfl, fun j hj => ?_⟩⟩, ?_⟩
  · rw [addp]
    have hh : (W.drew.alloc (.cells (bytesRow (bs k) C) 5 ((bytesRow (bs k) C).size, (bytesRow (bs k) C).size + 1))).heap[W.heap.size]? = some (.cells (bytesRow (bs k) C) 5 ((bytesRow (bs k) C).size, (bytesRow (bs k) C).size + 1)) := heap_alloc_new W.drew _
    rw [cell_of_row _ _ j _ _ _ hh]
    exact bytesRow_get k C j hj
  · have hb : Below W.heap.size W W.drew := (Below.refl _ _).drew
    exact hb.alloc (Nat.le_refl _) _

set_option maxRecDepth 100000 in
set_option maxHeartbeats 1000000 in
theorem bucket_any (B t a : Nat) (hd : List Nat) (E : List Ent) (k : List UInt8) (w : World) (hT : TbW w B t a hd E) (hk : isKey k = true) (hn : 0 < hd.length) (hn2 : hd.length ≤ 256) :
    Calls Tryd.prog 26 #[.pointer (some ⟨t, 0, none⟩), .string (bs k)] w fun e w' => e = .returned (.int .i64 (bk hd.length k : Nat)) ∧ Below w.heap.size w w' := by
  obtain ⟨hv, ev, h1, h2, h3, h4⟩ := hT
  obtain ⟨A, cap, rfl⟩ := row_slice h3
  obtain ⟨nb, hnb⟩ : ∃ nb, nb = hd.length := ⟨_, rfl⟩
  rw [← hnb] at h1 hn hn2 ⊢
  have HNB := Lib.hid hnb
  clear h3 h4 hnb
  have x1 := box_cells h1 1 (.slice A nb cap) rfl
  have hkl := (isKey_iff k).1 hk
  have HK := Lib.hid (isKey_any k w (by omega))
  have HI := Lib.hid hk
  obtain ⟨c, w2, hrun, hrd, hb2⟩ := bytes_run w.drew k (by omega)
  have hb2 : Below w.heap.size w w2 := ⟨hb2.os, hb2.tape, hb2.output, hb2.size, hb2.block⟩
  have y1 : w2.cell? ⟨t, 1, none⟩ = some (.slice A nb cap) := box_cells (heap_below h1 hb2) 1 _ rfl
  obtain ⟨w3, hw3⟩ : ∃ w3, w3 = w2.alloc (.cells #[.slice (some ⟨w.heap.size, 0, none⟩) k.length c] 83) := ⟨_, rfl⟩
  have hb3 : Below w2.heap.size w2 w3 := by rw [hw3]; exact (Below.refl _ _).alloc (Nat.le_refl _) _
  have HB := Lib.hid (show Below w.heap.size w w3 from (hb2.trans (hb3.mono hb2.size)))
  have y3 : w3.cell? ⟨t, 1, none⟩ = some (.slice A nb cap) := box_cells (heap_below (heap_below h1 hb2) hb3) 1 _ rfl
  have y4 : (w2.alloc (.cells #[.slice (some ⟨w.heap.size, 0, none⟩) k.length c] 83)).cell? ⟨t, 1, none⟩ = some (.slice A nb cap) := by rw [← hw3]; exact y3
  clear h1 h2 hk
  have hrds : RdBs w3 (.slice (some ⟨w2.heap.size, 0, none⟩) 1 1) [k] := by
    refine ⟨_, 1, rfl, Nat.le_refl _, by decide, fun _ => ⟨_, rfl, fun j hj => ?_⟩⟩
    obtain rfl : j = 0 := by simp at hj; omega
    rw [addp]
    refine ⟨_, box_cells (by rw [hw3]; exact heap_alloc_new w2 _) 0 _ rfl, ?_⟩
    exact rd_below hrd hb3
  have HC := Lib.hid (crc_any _ [k] w3 hrds)
  have hflat : [k].flatten = k := by simp
  obtain ⟨R, hR⟩ : ∃ R, R = (crc k).toNat := ⟨_, rfl⟩
  have hR32 : R < 4294967296 := by rw [hR]; exact (crc k).isLt
  have u1 : IntKind.u32.wrap (nb : Int) = (nb : Int) := by
    rw [IntKind.wrap_u32]; omega
  have u2 : ((nb : Int) == 0) = false := by rw [beq_eq_false_iff_ne]; omega
  have hz : ¬ nb = 0 := by omega
  have u3 : (nb : Int) % 4294967296 = (nb : Int) := by omega
  obtain ⟨Q, hQ⟩ : ∃ Q, Q = R % nb := ⟨_, rfl⟩
  have hQl : Q < nb := by rw [hQ]; exact Nat.mod_lt _ hn
  have u4 : Int.tmod (R : Int) (nb : Int) = (Q : Int) := by rw [hQ]; rfl
  have u5 : (R : Int) % (nb : Int) = (Q : Int) := by rw [hQ]; rfl
  have u6 : IntKind.i64.wrap (Q : Int) = (Q : Int) := IntWalk.i64_in _ (by omega)
  have HR := Lib.hid hR
  have HQ := Lib.hid hQ
  have HFL := Lib.hid hflat
  clear hR hQ hflat
  have HW3 := Lib.hid hw3
  clear hrds hrd hb2 hb3 hw3
  go_enter Tryd.func26, Tryd.ntmps26
  go_wp2_with fail
  refine HK.out.mono ?_
  rintro e w1 ⟨rfl, rfl⟩
  rw [HI.out]
  go_upto_region 3 with fail
  go_region_law ((go_simp; go_at_call 40; rw [← HW3.out]; refine HC.out.mono ?_; rintro e w' ⟨rfl, rfl⟩; rw [HFL.out, ← HR.out]; dsimp only))
  all_goals
    go_wp2_with fail
    go_ret
    exact ⟨by unfold bk; rw [← HR.out, ← HQ.out]; rfl, HB.out⟩
end Go.Proofs.YtfolchpjccjadaaDoor
/- The walks of the hash index's add, found, last. -/
namespace Go.Proofs.YtfolchpjccjadaaDoor
open Go.RowKit
set_option linter.unusedVariables false
attribute [local go_sem] bs_list bs_size

theorem heap_kept {W wa : World} {r : Option Nat} {k : Nat} {o : Obj} (h : W.heap[k]? = some o) (hg : W.grownBy wa r) (hne : r ≠ some k) : wa.heap[k]? = some o :=
  (hg.block k (Array.getElem?_eq_some_iff.1 h).1 (fun e => hne e.symm)).trans h
theorem flatE_snoc (E : List Ent) (e : Ent) : flatE (E ++ [e]) = flatE E ++ entV e := by simp [flatE]
/-- A row of elements that are not of that block's type lies elsewhere. -/
theorem row_off {w : World} {b e size n t : Nat} {v : Value} {us : List Value} {g : Nat} {cs : Array Value} (hr : w.ownsRow b e size v n us) (hh : w.heap[g]? = some (.cells cs t (0, 0))) (hne : t ≠ e) : v.ownBlock ≠ some g := by
  intro h
  rcases hr.2 with ⟨rfl, _⟩ | ⟨g', cap, cur, rfl, _, hg, _⟩
  · simp [Value.ownBlock] at h
  · have : g' = g := by simpa [Value.ownBlock] using h
    subst this
    rw [hh] at hg
    injection hg with hg
    injection hg with _ e2 _
    exact hne e2

/-- Two rows of elements of different types lie in different blocks. -/
theorem row_apart {w : World} {b b' e e' size size' n n' : Nat} {v v' : Value} {us us' : List Value} (hr : w.ownsRow b e size v n us) (hr' : w.ownsRow b' e' size' v' n' us') (hne : e ≠ e') : v.ownBlock = none ∨ v.ownBlock ≠ v'.ownBlock := by
  rcases hr'.2 with ⟨rfl, _⟩ | ⟨g, cap, cur, rfl, _, hg, _⟩
  · rcases hr.2 with ⟨rfl, _⟩ | ⟨g', cap', cur', rfl, _, _, _⟩
    · exact .inl rfl
    · exact .inr (by simp [Value.ownBlock])
  · exact .inr (row_off hr hg (fun h => hne h.symm))
theorem add_end {w w2 w3 : World} {B t a c1 : Nat} {hd : List Nat} {E : List Ent} {x : Ent} {A1 : Option Addr} {hv ev : Value} (hb : B ≤ t)
    (hT : w2.heap[t]? = some (.cells #[.pointer (some ⟨a, 0, none⟩), hv, ev] 55 (0, 0))) (hr : w2.ownsRow B 77 3 ev E.length (flatE E)) (hvr : w2.ownsRow B 3 1 hv hd.length (hd.map intv))
    (hk : Keep B [55, 77] none w w2) (hB : B ≤ w2.heap.size) (hT3 : w3.heap[t]? = some (.cells #[.pointer (some ⟨a, 0, none⟩), hv, ev] 55 (0, 0)))
    (ho : w3.ownsRow B 77 3 (.slice A1 (E.length + 1) c1) (E.length + 1) (flatE E ++ entV x)) (hg : w2.grownBy w3 ev.ownBlock) :
    TbW (w3.setCell ⟨t, 2, none⟩ (.slice A1 (E.length + 1) c1)) B t a hd (E ++ [x]) ∧ Keep B [55, 77] none w (w3.setCell ⟨t, 2, none⟩ (.slice A1 (E.length + 1) c1)) := by
  refine ⟨⟨hv, _, set_at hT3 2 _, hb, ?_, ?_⟩, (hk.trans (Keep.of_append hg hr hB rfl)).set hT3 hb rfl 2 _⟩
  · exact (hvr.kept hg (row_apart hvr hr (by decide))).kept (only_one w3 t 2 _) (.inr (row_off (hvr.kept hg (row_apart hvr hr (by decide))) hT3 (by decide)))
  · rw [flatE_snoc, List.length_append, List.length_singleton]
    exact ho.kept (only_one w3 t 2 _) (.inr (row_off ho hT3 (by decide)))

set_option maxRecDepth 100000 in
set_option maxHeartbeats 1000000 in
theorem add_any (B t a : Nat) (hd : List Nat) (E : List Ent) (x : Ent) (w : World) (hT : TbW w B t a hd E) (hB : B ≤ w.heap.size) (hl : E.length ≤ 100000) :
    Calls Tryd.prog 41 #[.pointer (some ⟨t, 2, none⟩), .agg #[.string (bs x.key), .int .i64 x.ref, .int .i64 (x.cell : Int)]] w fun e w' => e = .returned (.int .u64 ((E.length + 1 : Nat) : Int)) ∧ TbW w' B t a hd (E ++ [x]) ∧ Keep B [55, 77] none w w' := by
  obtain ⟨hv, ev, h1, h2, h3, h4⟩ := hT
  have hlt := heap_lt h1
  have HHV := Lib.hid h3
  have HR := Lib.hid h4
  obtain ⟨A, ca, hev⟩ := row_slice h4
  subst hev
  -- the boxed entry
  obtain ⟨ys, hys⟩ : ∃ ys : Array Value, ys = #[.string (bs x.key), .int .i64 x.ref, .int .i64 (x.cell : Int)] := ⟨_, rfl⟩
  have hyl : ys.toList = entV x := by rw [hys]; rfl
  have y0 : ys[0]? = some (.string (bs x.key)) := by rw [hys]; rfl
  have y1 : ys[1]? = some (.int .i64 x.ref) := by rw [hys]; rfl
  have y2 : ys[2]? = some (.int .i64 (x.cell : Int)) := by rw [hys]; rfl
  obtain ⟨w1, hw1⟩ : ∃ w1, w1 = w.alloc (.cells ys 77) := ⟨_, rfl⟩
  have hk1 : Keep B [55, 77] none w w1 := by rw [hw1]; exact Keep.of_alloc w _ hB
  have hsz1 : w1.heap.size = w.heap.size + 1 := by rw [hw1]; simp
  have hn1 : w1.heap[w.heap.size]? = some (.cells ys 77 (0, 0)) := by rw [hw1]; exact heap_alloc_new w _
  have z0 := box_cells hn1 0 _ y0
  have z1 := box_cells hn1 1 _ y1
  have z2 := box_cells hn1 2 _ y2
  have ht1 := hk1.rest t _ 55 h1
  have hT1 : w1.heap[t]? = some (.cells #[.pointer (some ⟨a, 0, none⟩), hv, .slice A E.length ca] 55 (0, 0)) := by rw [hw1]; exact (heap_below h1 ((Below.refl _ _).alloc (Nat.le_refl _) _))
  have x2 := box_cells hT1 2 (.slice A E.length ca) rfl
  have hr1 : w1.ownsRow B 77 3 (.slice A E.length ca) E.length (flatE E) := by rw [hw1]; exact h4.alloc _
  have hv1 : w1.ownsRow B 3 1 hv hd.length (hd.map intv) := by rw [hw1]; exact h3.alloc _
  -- the slice of one
  obtain ⟨w2, hw2⟩ : ∃ w2, w2 = (w1.alloc (.cells ys 77)).drew := ⟨_, rfl⟩
  have hb2 : Below w1.heap.size w1 w2 := by rw [hw2]; exact ((Below.refl _ _).alloc (Nat.le_refl _) _).drew
  have hn2 : w2.heap[w1.heap.size]? = some (.cells ys 77 (0, 0)) := by rw [hw2]; exact heap_alloc_new w1 _
  have hT2 := heap_below hT1 hb2
  have hr2 : w2.ownsRow B 77 3 (.slice A E.length ca) E.length (flatE E) := by rw [hw2]; exact (hr1.alloc _).drew
  have hv2 : w2.ownsRow B 3 1 hv hd.length (hd.map intv) := by rw [hw2]; exact (hv1.alloc _).drew
  have x2b := box_cells hT2 2 (.slice A E.length ca) rfl
  have x2c : (w1.alloc (.cells #[.string (bs x.key), .int .i64 x.ref, .int .i64 (x.cell : Int)] 77)).cell? ⟨t, 2, none⟩ = some (.slice A E.length ca) := by
    rw [← hys]
    have := x2b
    rw [hw2] at this
    exact this
  have hk2 : Keep B [55, 77] none w w2 := hk1.trans (Keep.of_below hb2 (by omega))
  have HW1 := Lib.hid hw1; have HW2 := Lib.hid hw2
  have HT := Lib.hid hT2; have HN2 := Lib.hid hn2
  have HLT := Lib.hid hlt; have HB2 := Lib.hid h2; have HBB := Lib.hid hB
  have HR2 := Lib.hid hr2; have HV2 := Lib.hid hv2; have HK2 := Lib.hid hk2
  have HS1 := Lib.hid hsz1; have HYL := Lib.hid hyl; have HYS := Lib.hid hys
  clear h1 h2 h3 h4 hlt hB y0 y1 y2 hw1 hk1 hn1 ht1 hT1 hr1 hv1 hw2 hb2 hn2 hT2 hr2 hv2 hk2 hsz1 hyl hys HHV HR
  go_enter Tryd.func41, Tryd.ntmps41
  go_upto_region 1 with fail
  rw [← HYS.out, ← HW1.out]
  go_region_law ((refine step_one B w1.heap.size 53 77 3 32 (.agg #[.string ByteArray.empty, .int .i64 0, .int .i64 0]) (by kernel_rfl) info77 rfl (by decide) (by rfl) _ _ (by rfl) (.slice A E.length ca) E.length (flatE E) ys (by rw [HYL.out]; rfl) (by rw [HYL.out]; intro u hu; simp [entV] at hu; rcases hu with rfl | rfl | rfl <;> rfl) (by rfl) (by rfl) (by rw [← HYS.out, ← HW2.out]; exact HR2.out) (by rw [← HYS.out, ← HW2.out]; exact HN2.out) (by rw [← HYS.out, ← HW2.out]; exact Nat.le_trans HBB.out HK2.out.size) (by omega) (by omega) ?_; rw [← HYS.out, ← HW2.out]; intro v1 w3 ho3 hb3 hg3 hat3; obtain ⟨A1, c1, hv1⟩ := row_slice ho3; subst hv1; have hT3 := heap_kept HT.out hg3 (row_off HR2.out HT.out (by decide)); have f3 := froz_all hT3; have q3 := box_cells hT3 2 (.slice A E.length ca) rfl; have HT3 := Lib.hid hT3; have HO3 := Lib.hid ho3; have HG3 := Lib.hid hg3; have HAT3 := Lib.hid hat3; clear hT3 ho3 hg3 hat3 hb3))
  all_goals
    have hu : IntKind.u64.wrap ((E.length : Int) + 1) = (E.length : Int) + 1 := by rw [IntKind.wrap_u64]; omega
    go_wp2_with fail
    go_ret
    exact ⟨rfl, add_end HB2.out HT.out HR2.out HV2.out HK2.out (Nat.le_trans HBB.out HK2.out.size) HT3.out (HYL.out ▸ HO3.out) HG3.out⟩
end Go.Proofs.YtfolchpjccjadaaDoor
/- The walk of the hash index's found. -/
namespace Go.Proofs.YtfolchpjccjadaaDoor
open Go.RowKit
set_option linter.unusedVariables false
attribute [local go_sem] bs_list bs_size

/-- What type the own block is of. -/
theorem only_type {w : World} {o g : Nat} {cs cs' : Array Value} {t t' : TypeId} (h : w.heap[o]? = some (.cells cs t (0, 0))) (e : some o = some g) (h' : w.heap[g]? = some (.cells cs' t' (0, 0))) : t' = t := by
  obtain rfl := Option.some.inj e
  rw [h] at h'
  injection h' with h'
  injection h' with _ e2 _
  exact e2.symm

theorem at_quiet (g n len cap : Nat) (w : World) (hn : 0 < n) (hl : n ≤ len) (hc : len ≤ 100000) (q : Nat) :
    Calls Tryd.prog 20 #[.slice (some ⟨g, 0, none⟩) len cap, .int .u64 (n : Int)] (w.drewN q) fun e w' => e = .returned (.pointer (some ⟨g, (n - 1) * 3, none⟩)) ∧ w' = w.drewN q :=
  (at_any g n len cap (w.drewN q) hn hl hc).mono fun _ _ h => ⟨h.1, h.2.symm⟩

set_option maxRecDepth 100000 in
set_option maxHeartbeats 1000000 in
theorem found_zero (B o t : Nat) (s : Hop) (w : World) (hs : HopW w B o t s) :
    Calls Tryd.prog 30 #[.pointer (some ⟨o, 0, none⟩), .int .u64 0] w fun e w' => e = .returned (.bool false) ∧ ∃ q, w' = w.drewN q := by
  obtain ⟨hb, ref, had, code, hh⟩ := hs
  go_enter Tryd.func30, Tryd.ntmps30
  go_upto_region 1 with fail
  go_quiet (fail)
  go_wp2_with fail
  go_ret
  exact ⟨rfl, _, rfl⟩

set_option maxRecDepth 100000 in
set_option maxHeartbeats 1000000 in
theorem found_not (B o t a n : Nat) (hd : List Nat) (E : List Ent) (s : Hop) (x : Ent) (w : World) (hT : TbW w B t a hd E) (hs : HopW w B o t s) (hn : 0 < n) (hx : E[n - 1]? = some x) (hk : x.key ≠ s.key) (hl : E.length ≤ 100000) :
    Calls Tryd.prog 30 #[.pointer (some ⟨o, 0, none⟩), .int .u64 (n : Int)] w fun e w' => e = .returned (.bool false) ∧ ∃ q, w' = w.drewN q := by
  obtain ⟨hb, ref, had, code, hh⟩ := hs
  obtain ⟨hv, ev, hT⟩ := hT
  obtain ⟨g, cap, hev, hc, c0, c1, c2⟩ := hT.there hx
  have hlt := (List.getElem?_eq_some_iff.1 hx).1
  subst hev
  have x0 := box_cells hh 0 (.pointer (some ⟨t, 0, none⟩)) rfl
  have x1 := box_cells hh 1 (.string (bs s.key)) rfl
  have y2 := box_cells hT.1 2 (.slice (some ⟨g, 0, none⟩) E.length cap) rfl
  have HA := Lib.hid (at_quiet g n E.length cap w hn (by omega) hl)
  have hkb : (x.key == s.key) = false := by simpa using hk
  have n0 : ((n : Int) == 0) = false := by rw [beq_eq_false_iff_ne]; omega
  have n1 : ¬ n = 0 := by omega
  clear hh hT
  go_enter Tryd.func30, Tryd.ntmps30
  go_upto_region 1 with fail
  go_quiet ((go_at_call 20; exact Calls.quiet_of_same (HA.out _)))
  go_wp2_with fail
  go_ret
  exact ⟨rfl, _, rfl⟩

set_option maxRecDepth 100000 in
set_option maxHeartbeats 1000000 in
theorem found_yes (B o t a n : Nat) (hd H L : List Nat) (E : List Ent) (s : Hop) (x : Ent) (w : World) (hA : ArW w B a H L) (hT : TbW w B t a hd E) (hs : HopW w B o t s) (hn : 0 < n) (hx : E[n - 1]? = some x) (hk : x.key = s.key) (hl : E.length ≤ 100000) (ho : s.own = 0) :
    Calls Tryd.prog 30 #[.pointer (some ⟨o, 0, none⟩), .int .u64 (n : Int)] w fun e w' => e = .returned (.bool true) ∧ HopW w' B o t { s with next := 4 } ∧ Keep B [] (some o) w w' := by
  have hs' := hs
  obtain ⟨hb, ref, had, code, hh⟩ := hs
  obtain ⟨hv, ev, hT⟩ := hT
  obtain ⟨g, cap, hev, hc, c0, c1, c2⟩ := hT.there hx
  have hlt := (List.getElem?_eq_some_iff.1 hx).1
  subst hev
  have x0 := box_cells hh 0 (.pointer (some ⟨t, 0, none⟩)) rfl
  have x1 := box_cells hh 1 (.string (bs s.key)) rfl
  have x7 : w.cell? ⟨o, 7, none⟩ = some (.int .u64 0) := by
    have := box_cells hh 7 (.int .u64 (s.own : Int)) rfl
    rw [ho] at this
    exact this
  have y2 := box_cells hT.1 2 (.slice (some ⟨g, 0, none⟩) E.length cap) rfl
  have HA := Lib.hid (at_quiet g n E.length cap w hn (by omega) hl)
  have HS := Lib.hid hs'
  have hkb : (x.key == s.key) = true := by simpa using hk
  have n0 : ((n : Int) == 0) = false := by rw [beq_eq_false_iff_ne]; omega
  have n1 : ¬ n = 0 := by omega
  clear hh hT hs' hA
  go_enter Tryd.func30, Tryd.ntmps30
  go_upto_region 1 with fail
  go_quiet ((go_at_call 20; exact Calls.quiet_of_same (HA.out _)))
  go_wp2_with fail
  refine (HA.out _).mono ?_
  rintro e w1 ⟨rfl, rfl⟩
  go_wp2_with fail
  refine (ends_any B o t s x.ref true 0 _ ?_).mono ?_
  · exact HS.out.keep ((Keep.refl B [] none w).drewN _) rfl (by simp)
  rintro e w1 ⟨rfl, h1, h2⟩
  go_wp2_with fail
  go_ret
  exact ⟨rfl, h1, ((Keep.refl B [] (some o) w).drewN _).trans h2⟩

/-- An entry's cells, where the entries lie in block g. -/
theorem TbC.at {w : World} {B t a n g m cap : Nat} {hd : List Nat} {E : List Ent} {hv : Value} {e : Ent} (h : TbC w B t a hd E hv (.slice (some ⟨g, 0, none⟩) m cap)) (he : E[n]? = some e) : w.cell? ⟨g, n * 3, none⟩ = some (.string (bs e.key)) ∧ w.cell? ⟨g, n * 3 + 1, none⟩ = some (.int .i64 e.ref) ∧ w.cell? ⟨g, n * 3 + 2, none⟩ = some (.int .i64 (e.cell : Int)) := by
  obtain ⟨g', cap', h1, _, h2⟩ := h.there he
  injection h1 with h1
  injection h1 with h1
  injection h1 with h1
  subst h1
  exact h2
theorem TbC.w {w : World} {B t a : Nat} {hd : List Nat} {E : List Ent} {hv ev : Value} (h : TbC w B t a hd E hv ev) : TbW w B t a hd E := ⟨hv, ev, h⟩

set_option maxRecDepth 100000 in
set_option maxHeartbeats 1000000 in
theorem found_free (B o t a n : Nat) (hd H L : List Nat) (E : List Ent) (s : Hop) (x y : Ent) (w : World) (hA : ArW w B a H L) (hT : TbW w B t a hd E) (hs : HopW w B o t s) (hn : 0 < n) (hx : E[n - 1]? = some x) (hk : x.key = s.key) (hl : E.length ≤ 100000) (ho : 0 < s.own) (hy : E[s.own - 1]? = some y) (hc : y.cell ∈ L) :
    Calls Tryd.prog 30 #[.pointer (some ⟨o, 0, none⟩), .int .u64 (n : Int)] w fun e w' => e = .returned (.bool true) ∧ ArW w' B a H (L.erase y.cell) ∧ HopW w' B o t { s with next := 4 } ∧ Keep B [51] (some o) w w' := by
  have hs' := hs
  obtain ⟨hb, ref, had, code, hh⟩ := hs
  obtain ⟨hv, ev, hT⟩ := hT
  obtain ⟨g, cap, hev, hc', c0, c1, c2⟩ := hT.there hx
  subst hev
  have hlt := (List.getElem?_eq_some_iff.1 hx).1
  have hlt2 := (List.getElem?_eq_some_iff.1 hy).1
  have x0 := box_cells hh 0 (.pointer (some ⟨t, 0, none⟩)) rfl
  have x1 := box_cells hh 1 (.string (bs s.key)) rfl
  have x7 := box_cells hh 7 (.int .u64 (s.own : Int)) rfl
  have y2 := box_cells hT.1 2 (.slice (some ⟨g, 0, none⟩) E.length cap) rfl
  have HQ := Lib.hid (at_quiet g n E.length cap w hn (by omega) hl)
  have HS := Lib.hid hs'
  have HC := Lib.hid hh
  have HA := Lib.hid hA
  have HT := Lib.hid hT
  have HX := Lib.hid hx
  have HY := Lib.hid hy
  have HCC := Lib.hid hc
  have hkb : (x.key == s.key) = true := by simpa using hk
  have n0 : ((n : Int) == 0) = false := by rw [beq_eq_false_iff_ne]; omega
  have n1 : ¬ n = 0 := by omega
  have o1 : 0 < s.own := ho
  clear hh hT hs' hA hx hy hc c1 c2
  go_enter Tryd.func30, Tryd.ntmps30
  go_upto_region 1 with fail
  go_quiet ((go_at_call 20; exact Calls.quiet_of_same (HQ.out _)))
  obtain ⟨w0, hw0⟩ : ∃ w0, w0 = w.drewN nq := ⟨_, rfl⟩
  have hk0 : Keep B [51] (some o) w w0 := by rw [hw0]; exact (Keep.refl B [51] (some o) w).drewN _
  have hkn : Keep B [] none w w0 := by rw [hw0]; exact (Keep.refl B [] none w).drewN _
  have hs0 := hkn.rest o _ 70 HC.out rfl (by simp)
  have hT0 := HT.out.keep hkn rfl rfl rfl (by simp)
  have HA0 := Lib.hid (HA.out.keep hkn rfl rfl (by simp))
  clear x0 x1 y2 c0
  have x0 := box_cells hs0 0 (.pointer (some ⟨t, 0, none⟩)) rfl
  have z7 := box_cells hs0 7 (.int .u64 (s.own : Int)) rfl
  have y0 := box_cells hT0.1 0 (.pointer (some ⟨a, 0, none⟩)) rfl
  have y2 := box_cells hT0.1 2 (.slice (some ⟨g, 0, none⟩) E.length cap) rfl
  have HP0 := Lib.hid (at_quiet g s.own E.length cap w0 ho (by omega) hl)
  have HS0 := Lib.hid hs0
  have HT0 := Lib.hid hT0
  have HK0 := Lib.hid hk0
  clear hs0 hT0 hk0 hkn
  go_upto_region 4 with fail
  rw [← hw0]
  clear hw0 x7
  go_quiet ((go_at_call 20; exact Calls.quiet_of_same (HP0.out _)))
  obtain ⟨w1, hw1⟩ : ∃ w1, w1 = w0.drewN nq := ⟨_, rfl⟩
  have hk0 : Keep B [51] (some o) w0 w1 := by rw [hw1]; exact (Keep.refl B [51] (some o) w0).drewN _
  have hkn : Keep B [] none w0 w1 := by rw [hw1]; exact (Keep.refl B [] none w0).drewN _
  have hs1 := hkn.rest o _ 70 HS0.out rfl (by simp)
  have HKD := Lib.hid (hkn.drew)
  have hT1 := HT0.out.keep hkn rfl rfl rfl (by simp)
  have HA1 := Lib.hid (HA0.out.keep hkn.drew rfl rfl (by simp))
  clear x0 z7 y2 y0
  have x0 := box_cells hs1 0 (.pointer (some ⟨t, 0, none⟩)) rfl
  have y0 := box_cells hT1.1 0 (.pointer (some ⟨a, 0, none⟩)) rfl
  obtain ⟨d0, d1, d2⟩ := hT1.at HY.out
  have HK1 := Lib.hid (HK0.out.trans hk0)
  have HS1 := Lib.hid hs1
  have HT1 := Lib.hid hT1
  clear hs1 hT1 hk0 hkn d0 d1
  go_upto_region 5 with fail
  rw [← hw1]
  clear hw1
  go_cut [] (fun wx => Hid (ArW wx B a H (L.erase y.cell)) ∧ Hid (Keep B [51] none w1 wx))
  case first =>
    go_region_with ((go_at_call 14; refine (free_any B a y.cell H L w1.drew HA1.out HCC.out).mono ?_; rintro e w2 ⟨rfl, hA2, hk2⟩))
    all_goals
      go_wp2_with fail
      go_meet
      exact ⟨hA2, ((Keep.refl B [51] none w1).drew).trans hk2⟩
  case rest =>
    obtain ⟨HA2, HK2⟩ := hcut
    have hs2 := HK2.out.rest o _ 70 HS1.out rfl (by simp)
    have hT2 := HT1.out.keep HK2.out rfl rfl rfl (by simp)
    clear x0 y0 d2
    have x0 := box_cells hs2 0 (.pointer (some ⟨t, 0, none⟩)) rfl
    have y2 := box_cells hT2.1 2 (.slice (some ⟨g, 0, none⟩) E.length cap) rfl
    obtain ⟨d0, d1, d2⟩ := hT2.at HX.out
    have HN := Lib.hid (at_any g n E.length cap wc hn (by omega) hl)
    have HE := Lib.hid (ends_any B o t s x.ref true 0 wc ⟨hb, ref, had, code, hs2⟩)
    have HS2 := Lib.hid hs2
    clear hs2 hT2 d0 d2
    go_wp2_with fail
    refine HN.out.mono ?_
    rintro e w3 ⟨rfl, rfl⟩
    go_wp2_with fail
    refine HE.out.mono ?_
    rintro e w4 ⟨rfl, h4, h5⟩
    have H4 := Lib.hid h4; have H5 := Lib.hid h5; clear h4 h5
    go_wp2_with fail
    go_ret
    exact ⟨rfl, HA2.out.keep H5.out rfl rfl (fun g cs t e h => by obtain rfl := only_type HS2.out e h; decide), H4.out, (HK1.out.trans (HK2.out.mono rfl)).trans (H5.out.more rfl)⟩
end Go.Proofs.YtfolchpjccjadaaDoor
/- The walk of the hash index's last. -/
namespace Go.Proofs.YtfolchpjccjadaaDoor
open Go.RowKit
set_option linter.unusedVariables false
attribute [local go_sem] bs_list bs_size

set_option maxRecDepth 100000 in
set_option maxHeartbeats 1000000 in
theorem last_own (B o t : Nat) (s : Hop) (w : World) (hs : HopW w B o t s) (ho : 0 < s.own) :
    Calls Tryd.prog 31 #[.pointer (some ⟨o, 0, none⟩)] w fun e w' => e = .returned (.bool false) ∧ HopW w' B o t { s with next := 2 } ∧ Keep B [] (some o) w w' := by
  obtain ⟨hb, ref, had, code, hh⟩ := hs
  have hlt := heap_lt hh
  have fz := froz_all hh
  have x3 := box_cells hh 3 (.bool true) rfl
  have x4 := box_cells hh 4 (.int .i64 (s.next : Int)) rfl
  have x7 := box_cells hh 7 (.int .u64 (s.own : Int)) rfl
  have n0 : ((s.own : Int) == 0) = false := by rw [beq_eq_false_iff_ne]; omega
  have n1 : ¬ s.own = 0 := by omega
  have HF := Lib.hid (set_at hh 4 (.int .i64 2))
  have HK := Lib.hid ((Keep.refl B [] (some o) w).setOwn hlt hb 4 (.int .i64 2))
  clear hh
  go_enter Tryd.func31, Tryd.ntmps31
  go_wp2_with fail
  go_ret
  exact ⟨rfl, ⟨hb, ref, had, code, HF.out⟩, HK.out⟩

set_option maxRecDepth 100000 in
set_option maxHeartbeats 1000000 in
theorem last_new (B o t a : Nat) (hd H L : List Nat) (E : List Ent) (s : Hop) (w : World) (hA : ArW w B a H L) (hT : TbW w B t a hd E) (hs : HopW w B o t s) (hz : TabW w) (ho : s.own = 0) (hl : E.length < 100000) (hB : 0 < B) (hBs : B ≤ w.heap.size) (hL : L.length < 2000) :
    Calls Tryd.prog 31 #[.pointer (some ⟨o, 0, none⟩)] w fun e w' => e = .returned (.bool false) ∧ ∃ c ref, c ≤ H.length ∧ c ∉ L ∧ ArW w' B a (newH H c) (c :: L) ∧ TbW w' B t a hd (E ++ [⟨s.key, ref, c⟩]) ∧ HopW w' B o t { s with own := E.length + 1, next := 2 } ∧ Keep B [51, 48, 55, 77] (some o) w w' := by
  obtain ⟨hb, ref, had, code, hh⟩ := hs
  obtain ⟨hv, ev, hT⟩ := hT
  have hlt := heap_lt hh
  have x0 := box_cells hh 0 (.pointer (some ⟨t, 0, none⟩)) rfl
  have x3 := box_cells hh 3 (.bool true) rfl
  have x7 : w.cell? ⟨o, 7, none⟩ = some (.int .u64 0) := by
    have := box_cells hh 7 (.int .u64 (s.own : Int)) rfl
    rw [ho] at this
    exact this
  have y0 := box_cells hT.1 0 (.pointer (some ⟨a, 0, none⟩)) rfl
  have HAL := Lib.hid (alloc_any B a H L w hA hz hB hBs hL)
  have HS := Lib.hid hh
  have HT := Lib.hid hT
  clear hh hT
  go_enter Tryd.func31, Tryd.ntmps31
  go_wp2_with fail
  refine HAL.out.mono ?_
  rintro e w1 ⟨c, rfl, hc1, hc2, hA1, hk1⟩
  have hs1 := hk1.rest o _ 70 HS.out rfl (by simp)
  have hT1 := HT.out.keep hk1 rfl rfl rfl (by simp)
  clear x0 x3 x7 y0
  have x0 := box_cells hs1 0 (.pointer (some ⟨t, 0, none⟩)) rfl
  have x1 := box_cells hs1 1 (.string (bs s.key)) rfl
  have x2 := box_cells hs1 2 (.int .i64 ref) rfl
  have HADD := Lib.hid (add_any B t a hd E ⟨s.key, ref, c⟩ w1.drew (by exact hT1.w.keep (Keep.refl B [] none w1).drew rfl rfl rfl (by simp)) (Nat.le_trans hBs hk1.size) (by omega))
  have HS1 := Lib.hid hs1
  have HA1 := Lib.hid hA1
  have HK1 := Lib.hid hk1
  have HC1 := Lib.hid hc1
  have HC2 := Lib.hid hc2
  clear hs1 hT1 hA1 hk1 hc1 hc2
  go_upto_region 7 with fail
  go_region_held3 (fun W => W.cell? ⟨o, 0, none⟩ = some (.pointer (some ⟨t, 0, none⟩)) ∧ W.cell? ⟨o, 1, none⟩ = some (.string (bs s.key)) ∧ W.cell? ⟨o, 2, none⟩ = some (.int .i64 ref)) (simp [*, World.cell?_setCell_other]) ((go_at_call 41; refine HADD.out.mono ?_; rintro e w2 ⟨rfl, hT2, hk2⟩; have hs2 := hk2.rest o _ 70 HS1.out rfl (by simp); have f2 := froz_all hs2; have q0 := box_cells hs2 0 (.pointer (some ⟨t, 0, none⟩)) rfl; have q1 := box_cells hs2 1 (.string (bs s.key)) rfl; have q2 := box_cells hs2 2 (.int .i64 ref) rfl; have q4 := box_cells hs2 4 (.int .i64 (s.next : Int)) rfl; have q7 := box_cells hs2 7 (.int .u64 (s.own : Int)) rfl; have HS2 := Lib.hid hs2; have HT2 := Lib.hid hT2; have HK2 := Lib.hid hk2; clear hs2 hT2 hk2))
  clear x0 x1 x2
  go_wp2_with fail
  go_ret
  have hlt2 := heap_lt HS2.out
  have hk : Keep B [51, 48, 55, 77] (some o) w w2 := ((HK1.out.mono rfl).drew).trans (HK2.out.mono rfl)
  have h3 := set_at (set_at HS2.out 7 (.int .u64 ((E.length : Int) + 1))) 4 (.int .i64 2)
  have hke : Keep B [] (some o) w2 ((w2.setCell ⟨o, 7, none⟩ (.int .u64 ((E.length : Int) + 1))).setCell ⟨o, 4, none⟩ (.int .i64 2)) :=
    ((Keep.refl B [] (some o) w2).setOwn hlt2 hb 7 _).setOwn (by simpa [World.setCell] using hlt2) hb 4 _
  refine ⟨rfl, c, ref, HC1.out, HC2.out, ?_, HT2.out.keep hke rfl rfl rfl (fun g cs t e h => by obtain rfl := only_type HS2.out e h; decide), ⟨hb, ref, had, code, h3⟩, hk.trans (hke.more rfl)⟩
  have hA2 : ArW w2 B a (newH H c) (c :: L) := (HA1.out.keep (Keep.refl B [] none w1).drew rfl rfl (by simp)).keep HK2.out rfl rfl (by simp)
  exact hA2.keep hke rfl rfl (fun g cs t e h => by obtain rfl := only_type HS2.out e h; decide)
end Go.Proofs.YtfolchpjccjadaaDoor
/- The hash index's step, as a relation; found and last in its words. -/
namespace Go.Proofs.YtfolchpjccjadaaDoor
open Go.RowKit
set_option linter.unusedVariables false

/-- An operation looks at an entry. -/
inductive Look (H L : List Nat) (E : List Ent) (s : Hop) : List Nat → List Nat → List Ent → Hop → Bool → Prop
  | hit0 (x : Ent) : 0 < s.cur → E[s.cur - 1]? = some x → x.key = s.key → s.own = 0 → Look H L E s H L E { s with next := 4 } true
  | hit1 (x y : Ent) : 0 < s.cur → E[s.cur - 1]? = some x → x.key = s.key → 0 < s.own → E[s.own - 1]? = some y → Look H L E s H (L.erase y.cell) E { s with next := 4 } true
  | end1 : s.cur = 0 → 0 < s.own → Look H L E s H L E { s with next := 2 } false
  | end0 (c : Nat) (ref : Int) : s.cur = 0 → s.own = 0 → c ≤ H.length → c ∉ L → Look H L E s (newH H c) (c :: L) (E ++ [⟨s.key, ref, c⟩]) { s with own := E.length + 1, next := 2 } false
  | go (x : Ent) : 0 < s.cur → E[s.cur - 1]? = some x → x.key ≠ s.key → Look H L E s H L E { s with next := 1 } false

/-- A step of an Insert. -/
inductive HStep (hd H L : List Nat) (E : List Ent) (s : Hop) : List Nat → List Nat → List Ent → Hop → Bool → Prop
  | refuse : s.next = 0 → isKey s.key = false → HStep hd H L E s H L E { s with next := 4 } true
  | begin (c x : Nat) {H' L' : List Nat} {E' : List Ent} {s' : Hop} {d : Bool} : s.next = 0 → isKey s.key = true → hd[bk hd.length s.key]? = some c → H[c]? = some x → Look H L E { s with head := x, cur := x } H' L' E' s' d → HStep hd H L E s H' L' E' s' d
  | walk (y : Ent) (x : Nat) {H' L' : List Nat} {E' : List Ent} {s' : Hop} {d : Bool} : s.next = 1 → E[s.cur - 1]? = some y → H[y.cell]? = some x → Look H L E { s with cur := x } H' L' E' s' d → HStep hd H L E s H' L' E' s' d
  | lay (y : Ent) : s.next = 2 → E[s.own - 1]? = some y → HStep hd H L E s (H.set y.cell s.head) L E { s with next := 3 } false
  | swap (c : Nat) : s.next = 3 → hd[bk hd.length s.key]? = some c → H[c]? = some s.head → HStep hd H L E s (H.set c s.own) L E { s with next := 4 } true
  | fail (c x : Nat) : s.next = 3 → hd[bk hd.length s.key]? = some c → H[c]? = some x → x ≠ s.head → HStep hd H L E s H L E { s with next := 0 } false

/-- What a step needs. -/
structure HPre (hd H L : List Nat) (E : List Ent) (s : Hop) : Prop where
  hd0 : 0 < hd.length
  hd1 : hd.length ≤ 256
  el : E.length < 100000
  ll : L.length < 2000
  nx : s.next ≤ 3
  hdl : ∀ c, hd[bk hd.length s.key]? = some c → c ∈ L ∧ ∀ x, H[c]? = some x → x ≤ E.length
  own : 0 < s.own → ∃ y, E[s.own - 1]? = some y ∧ y.cell ∈ L
  walk : s.next = 1 → 0 < s.cur ∧ ∃ y, E[s.cur - 1]? = some y ∧ y.cell ∈ L ∧ ∀ x, H[y.cell]? = some x → x ≤ E.length
  lay : 2 ≤ s.next → 0 < s.own ∧ s.head ≤ E.length
  key : s.next ≠ 0 → isKey s.key = true
  kl : s.key.length ≤ 140737488355328

def FoundR (B o t a : Nat) (H L : List Nat) (E : List Ent) (s : Hop) (w : World) (e : Ending) (w' : World) : Prop :=
  (∃ L', e = .returned (.bool true) ∧ Look H L E s H L' E { s with next := 4 } true ∧ ArW w' B a H L' ∧ HopW w' B o t { s with next := 4 } ∧ Keep B [51] (some o) w w') ∨
  (e = .returned (.bool false) ∧ (s.cur = 0 ∨ 0 < s.cur ∧ Look H L E s H L E { s with next := 1 } false) ∧ ∃ q, w' = w.drewN q)
theorem found_any (B o t a : Nat) (hd H L : List Nat) (E : List Ent) (s : Hop) (w : World) (hA : ArW w B a H L) (hT : TbW w B t a hd E) (hs : HopW w B o t s) (hl : E.length ≤ 100000) (hc : s.cur ≤ E.length) (ho : 0 < s.own → ∃ y, E[s.own - 1]? = some y ∧ y.cell ∈ L) :
    Calls Tryd.prog 30 #[.pointer (some ⟨o, 0, none⟩), .int .u64 (s.cur : Int)] w (FoundR B o t a H L E s w) := by
  rcases Nat.eq_zero_or_pos s.cur with h0 | h0
  · rw [h0]
    refine (found_zero B o t s w hs).mono ?_
    rintro e w' ⟨rfl, q, rfl⟩
    exact .inr ⟨rfl, .inl h0, q, rfl⟩
  · have hx : E[s.cur - 1]? = some (E[s.cur - 1]'(by omega)) := List.getElem?_eq_getElem (by omega)
    obtain ⟨x, hxe⟩ : ∃ x, x = E[s.cur - 1]'(by omega) := ⟨_, rfl⟩
    rw [← hxe] at hx
    by_cases hk : x.key = s.key
    · rcases Nat.eq_zero_or_pos s.own with h1 | h1
      · refine (found_yes B o t a s.cur hd H L E s x w hA hT hs h0 hx hk hl h1).mono ?_
        rintro e w' ⟨rfl, h2, h3⟩
        exact .inl ⟨L, rfl, .hit0 x h0 hx hk h1, hA.keep h3 rfl rfl (fun g cs t e h => by obtain ⟨_, _, _, _, hh⟩ := hs; obtain rfl := only_type hh e h; decide), h2, h3.more rfl⟩
      · obtain ⟨y, hy, hyc⟩ := ho h1
        refine (found_free B o t a s.cur hd H L E s x y w hA hT hs h0 hx hk hl h1 hy hyc).mono ?_
        rintro e w' ⟨rfl, h2, h3, h4⟩
        exact .inl ⟨_, rfl, .hit1 x y h0 hx hk h1 hy, h2, h3, h4⟩
    · refine (found_not B o t a s.cur hd E s x w hT hs h0 hx hk hl).mono ?_
      rintro e w' ⟨rfl, q, rfl⟩
      exact .inr ⟨rfl, .inr ⟨h0, .go x h0 hx hk⟩, q, rfl⟩

def LastR (B o t a : Nat) (hd H L : List Nat) (E : List Ent) (s : Hop) (w : World) (e : Ending) (w' : World) : Prop :=
  e = .returned (.bool false) ∧ ∃ H' L' E' s', Look H L E s H' L' E' s' false ∧ ArW w' B a H' L' ∧ TbW w' B t a hd E' ∧ HopW w' B o t s' ∧ Keep B [51, 48, 55, 77] (some o) w w'
theorem last_any (B o t a : Nat) (hd H L : List Nat) (E : List Ent) (s : Hop) (w : World) (hA : ArW w B a H L) (hT : TbW w B t a hd E) (hs : HopW w B o t s) (hz : TabW w) (hl : E.length < 100000) (hB : 0 < B) (hBs : B ≤ w.heap.size) (hL : L.length < 2000) (hc : s.cur = 0) :
    Calls Tryd.prog 31 #[.pointer (some ⟨o, 0, none⟩)] w (LastR B o t a hd H L E s w) := by
  rcases Nat.eq_zero_or_pos s.own with h1 | h1
  · refine (last_new B o t a hd H L E s w hA hT hs hz h1 hl hB hBs hL).mono ?_
    rintro e w' ⟨rfl, c, ref, h2, h3, h4, h5, h6, h7⟩
    exact ⟨rfl, _, _, _, _, .end0 c ref hc h1 h2 h3, h4, h5, h6, h7⟩
  · refine (last_own B o t s w hs h1).mono ?_
    rintro e w' ⟨rfl, h2, h3⟩
    have ht : ∀ g cs t', some o = some g → w.heap[g]? = some (.cells cs t' (0, 0)) → t' = 70 := by
      intro g cs t' e h
      obtain ⟨_, _, _, _, hh⟩ := hs
      exact only_type hh e h
    exact ⟨rfl, _, _, _, _, .end1 hc h1, hA.keep h3 rfl rfl (fun g cs t' e h => by obtain rfl := ht g cs t' e h; decide), hT.keep h3 rfl rfl rfl (fun g cs t' e h => by obtain rfl := ht g cs t' e h; decide), h2, h3.more rfl⟩
end Go.Proofs.YtfolchpjccjadaaDoor
