/- The law's walk from its 16th region on: both workers until they have done all; then the rest. -/
import Derived.Test.YtfolchpjccjadaaDoorLt
namespace Go.Proofs.YtfolchpjccjadaaDoor
open Go.RowKit
set_option linter.unusedVariables false
attribute [local go_sem] bs_list bs_size

theorem Run.head' {w : World} {B t l q a2 : Nat} {K : List (List UInt8)} {hd : List Nat} {td : Bool → Todo} {vs : Bool → Value} {m : PM} {g : Gh} {todo : Bool → Todo} {fl : Bool → Bool} {p : Bool → Nat} {x : OpD} {o : Nat} {r : Todo} {b : Bool} (h : Run w B t l q a2 K hd td vs m g todo fl p) (ht : todo b = (o, x) :: r) :
    ∃ ge cv v0 v1, vs b = .slice (some ⟨ge, 0, none⟩) (td b).length cv ∧ w.cell? ⟨ge, ndone td todo b * 2, none⟩ = some v0 ∧ w.cell? ⟨ge, ndone td todo b * 2 + 1, none⟩ = some v1 ∧ stepV o x.kind = .agg #[v0, v1] ∧ ndone td todo b < (td b).length ∧
      ((∀ w' : World, w'.ownsRow B 40 2 (vs b) (td b).length (stepRow (td b)) → w'.cell? ⟨ge, ndone td todo b * 2, none⟩ = some v0) ∧ ∀ w' : World, w'.ownsRow B 40 2 (vs b) (td b).length (stepRow (td b)) → w'.cell? ⟨ge, ndone td todo b * 2 + 1, none⟩ = some v1) := by
  obtain ⟨ge, cv, v0, v1, h1, h2, h3, h4, h5⟩ := h.head ht
  have hlen := stepRow_len (td b)
  have hc : ∀ (w' : World) (j : Nat) (v : Value), j < (td b).length * 2 → w'.ownsRow B 40 2 (vs b) (td b).length (stepRow (td b)) → w.cell? ⟨ge, j, none⟩ = some v → w'.cell? ⟨ge, j, none⟩ = some v := fun w' j v hj hr hv => by
    have hr0 := h.row b
    rw [h1] at hr hr0
    obtain ⟨u, hu⟩ : ∃ u, (stepRow (td b))[j]? = some u := ⟨_, List.getElem?_eq_getElem (by omega)⟩
    have e1 := row_cell2 hr0 j u hu
    have e2 := row_cell2 hr j u hu
    rw [e2]
    exact e1.symm.trans hv
  exact ⟨ge, cv, v0, v1, h1, h2, h3, h4, h5, fun w' hr => hc w' _ v0 (by omega) hr h2, fun w' hr => hc w' _ v1 (by omega) hr h3⟩
noncomputable def code16 : Code := (Tryd.f3.body.map fun c => seqLeft (codeAt 16 c)).getD .skip
noncomputable def rest16 : Code := (Tryd.f3.body.map fun c => seqRight (codeAt 16 c)).getD .skip

set_option maxRecDepth 1000000 in
set_option maxHeartbeats 8000000 in
theorem tail16 (A P : Option Addr) (K : List (List UInt8)) (ck np cp B t l q : Nat) (hd H2 L2 cs : List Nat) (td : Bool → Todo) (vs : Bool → Value) (g0 : Gh) (w0 wr : World)
    (u0 u3 u4 u5 u6 u7 u8 u10 u12 u14 u15 u16 u17 u18 u19 u20 u21 u22 u23 u24 u25 u26 u27 u28 u29 u30 u31 u32 u33 u34 u35 u36 u37 u38 u39 u40 u41 u42 u43 u44 u45 u46 u47 u48 u49 u50 u51 u52 u53 u54 u55 u56 u57 u58 u59 u60 u61 u62 u63 u64 u65 u66 u67 u68 u69 u70 u71 u72 u73 u74 u75 u76 u77 u78 u79 u80 u81 u82 u83 u84 u85 u86 u87 u88 u89 u90 u91 u92 u93 u94 u95 u96 u97 u98 u99 u100 u101 u102 u103 u104 u105 u106 u107 u108 u109 u110 u111 u112 u113 u114 u115 u116 u117 u118 u119 u120 u121 u122 u123 u124 u125 u126 u127 u128 u129 u130 u131 u132 u133 u134 u135 u136 u137 u138 u139 u140 u141 u142 u143 u144 u145 u146 u147 u148 u149 u150 u151 u152 u153 u154 u155 u156 u157 u158 u159 u160 u161 u162 u163 u164 u165 u166 u167 u168 u169 u170 u171 u172 u173 u174 u175 u176 u177 u178 u179 u180 u181 u182 u183 u184 u185 u186 u187 u188 u189 u190 u191 u192 u193 u194 u195 u196 u197 u198 u199 u200 u201 u202 u203 u204 u205 u206 u207 u208 u209 u210 u211 u212 u213 u214 u215 u216 u217 u218 u219 u220 u221 u222 u223 u224 u225 u226 u227 u228 u229 u230 u231 u232 u233 u234 u235 u236 u237 u238 u239 u240 u241 : Value)
    (hl : Laid wr B t l q K td vs) (hin : AllIn K K.length td) (hlen : (td false).length + (td true).length = 3 * K.length) (hM : MemW wr B B t l hd ⟨H2, L2, [], [⟨[], cs, 8⟩]⟩) (hG : Glob K hd ⟨H2, L2, [], [⟨[], cs, 8⟩]⟩ g0) (hL2 : L2.length = hd.length + 8)
    (hb : Below B w0 wr) (hBr : B ≤ wr.heap.size) (hKR : KeysR w0 B A K) (hPR : PicksR w0 B P np) (hnp : np ≤ 140737488355328) (hKl : K.length ≤ 40) (hkl : ∀ k, k ∈ K → k.length ≤ 140737488355328) (hz : TabW w0) (hB : 0 < B) (hd0 : 0 < hd.length) (hd1 : hd.length ≤ 256)
    (Kx : Act → World → Prop) (hKx : ∀ a w, Code.wp Tryd.prog rest16 (bodyPost Tryd.prog Tryd.f3 fun e w' => e = .returned (.bool true) ∧ Below B w0 w') a w → Kx a w) :
    Code.wp Tryd.prog code16 (Exit.then Kx (bodyPost Tryd.prog Tryd.f3 fun e w' => e = .returned (.bool true) ∧ Below B w0 w')) ⟨#[u0, .slice A K.length ck, .slice P np cp, u3, u4, u5, u6, u7, u8, .pointer (some ⟨t, 0, none⟩), u10, .pointer (some ⟨l, 0, none⟩), u12, .pointer (some ⟨q, 0, none⟩), u14, u15, u16, u17, u18, u19, u20, u21, u22, u23, u24, u25, u26, u27, u28, u29, u30, u31, u32, u33, u34, u35, u36, u37, u38, u39, u40, u41, u42, u43, u44, u45, u46, u47, u48, u49, u50, u51, u52, u53, u54, u55, u56, u57, u58, u59, u60, u61, u62, u63, u64, u65, u66, u67, u68, u69, u70, u71, u72, u73, u74, u75, u76, u77, u78, u79, u80, u81, u82, u83, u84, u85, u86, u87, u88, u89, u90, u91, u92, u93, u94, u95, u96, u97, u98, u99, u100, u101, u102, u103, u104, u105, u106, u107, u108, u109, u110, u111, u112, u113, u114, u115, u116, u117, u118, u119, u120, u121, u122, u123, u124, u125, u126, u127, u128, u129, u130, u131, u132, u133, u134, u135, u136, u137, u138, u139, u140, u141, u142, u143, u144, u145, u146, u147, u148, u149, u150, u151, u152, u153, u154, u155, u156, u157, u158, u159, u160, u161, u162, u163, u164, u165, u166, u167, u168, u169, u170, u171, u172, u173, u174, u175, u176, u177, u178, u179, u180, u181, u182, u183, u184, u185, u186, u187, u188, u189, u190, u191, u192, u193, u194, u195, u196, u197, u198, u199, u200, u201, u202, u203, u204, u205, u206, u207, u208, u209, u210, u211, u212, u213, u214, u215, u216, u217, u218, u219, u220, u221, u222, u223, u224, u225, u226, u227, u228, u229, u230, u231, u232, u233, u234, u235, u236, u237, u238, u239, u240, u241], []⟩ wr := by
  have HKR := Lib.hid hKR; have HPR := Lib.hid hPR; have HKL := Lib.hid hkl; have HZ := Lib.hid hz; have HB0 := Lib.hid hb; have HIN := Lib.hid hin; have HLEN := Lib.hid hlen
  clear hKR hPR hkl hz hb hin
  obtain ⟨a2, ha2⟩ : ∃ a2, a2 = wr.heap.size := ⟨_, rfl⟩
  obtain ⟨w5, hw5⟩ : ∃ w5, w5 = wr.alloc (.cells #[.int .i64 0, .int .i64 0] 42) := ⟨_, rfl⟩
  have hk5 : Keep B [] none wr w5 := by rw [hw5]; exact Keep.of_alloc wr _ hBr
  have hc5 : w5.heap[a2]? = some (.cells #[.int .i64 0, .int .i64 0] 42 (0, 0)) := by rw [hw5, ha2]; exact heap_alloc_new wr _
  have hM5 := hM.keep hk5 rfl (by simp)
  have hL5 := hl.keep hk5 rfl rfl rfl rfl
  have HRUN := Lib.hid (Run.start hL5 hM5 hG hc5 (by omega) (by omega) (by simp only; omega) (by simp))
  have HPOT := Lib.hid (show Budget 240000 0 (pot 2000 (td false) + pot 2000 (td true)) td from ⟨fun _ => by rw [pot_le, pot_le]; omega, fun h => absurd h (by omega), fun h => absurd h (by omega)⟩)
  have HK15 := Lib.hid (HB0.out.trans hk5.below)
  have HB5 := Lib.hid (Nat.le_trans hBr hk5.size)
  have HW5 := Lib.hid hw5; have HA5 := Lib.hid ha2
  clear hk5 hc5 hM5 hL5 hw5 ha2 hl hM hG
  conv => arg 2; whnf
  conv at hKx => enter [a, w, 1, 2]; whnf
  go_upto_region 17 with fail
  rw [← HW5.out, ← HA5.out]
  go_wp2_with fail
  go_loopw [16] (fun v16 ws => ∃ (i : Nat) (m : PM) (g : Gh) (todo : Bool → Todo) (fl : Bool → Bool) (p : Bool → Nat), v16 = .int .i64 (i : Int) ∧ i ≤ 2000000 ∧ Hid (Run ws B t l q a2 K hd td vs m g todo fl p) ∧ Hid (Budget 240000 i (pot (p false) (todo false) + pot (p true) (todo true)) todo) ∧ Hid (0 < i → ¬ ∀ b, todo b = []) ∧ Hid (Below B w5 ws)) (fun v16 _ => 2000000 - (intOf v16).toNat)
  case atStart => exact ⟨0, _, _, _, _, _, rfl, by omega, HRUN, HPOT, Lib.hid (fun h => absurd h (by omega)), Lib.hid (Below.refl _ _)⟩
  case round =>
    obtain ⟨ws, hws⟩ : ∃ ws, ws = wr := ⟨_, rfl⟩
    subst hws
    obtain ⟨i, m, g, todo, fl, p, rfl, hi, hR, hBu, hne, hbw⟩ := hrel
    by_cases hlt : i < 2000000
    · have i0 : (0 : Int) ≤ (i : Int) := by omega
      have i3 : (i : Int) < 2000000 := by omega
      have ui : IntKind.i64.wrap ((i : Int) + 1) = (i : Int) + 1 := IntWalk.i64_in _ (by omega)
      obtain ⟨r0, hr0⟩ : ∃ r0, r0 = i % 2 := ⟨_, rfl⟩
      have m1 : Int.tmod (i : Int) 2 = (r0 : Int) := by rw [hr0]; rfl
      have m2 : (i : Int) % 2 = (r0 : Int) := by omega
      have HR0 := Lib.hid hr0
      clear hr0
      go_upto_region 21 with fail
      go_cut [125] (fun v wx => ∃ c : Bool, v = .bool c ∧ (c = true → i < np ∧ i < 10000) ∧ wx = ws)
      case first =>
        by_cases h1 : i < np
        · have j1 : (i : Int) < (np : Int) := by omega
          by_cases h2 : i < 10000
          · have j2 : (i : Int) < 10000 := by omega
            go_wp2_with fail
            go_meet
            case rel => exact ⟨true, by simp, fun _ => ⟨h1, h2⟩, rfl⟩
          · have j2 : ¬ (i : Int) < 10000 := by omega
            go_wp2_with fail
            go_meet
            case rel => exact ⟨false, by simp, fun h => by simp at h, rfl⟩
        · have j1 : ¬ (i : Int) < (np : Int) := by omega
          go_wp2_with fail
          go_meet
          case rel => exact ⟨false, by simp, fun h => by simp at h, rfl⟩
      case rest =>
        obtain ⟨c, rfl, hc, hwx⟩ := hcut
        have hwx' := hwx.symm
        subst hwx'
        clear hwx
        go_upto_if 125 with fail
        go_cut [17] (fun v17 wx => ∃ (b : Bool) (r : Nat), v17 = .int .i64 (r : Int) ∧ wkn b = r ∧ (10000 ≤ i → r = i % 2) ∧ wx = ws)
        case first =>
          cases c with
          | false =>
            go_wp2_with fail
            go_meet
            case rel => exact ⟨decide (r0 = 1), r0, rfl, by have := HR0.out; unfold wkn; split <;> rename_i h <;> simp at h <;> omega, fun _ => HR0.out, rfl⟩
          | true =>
            obtain ⟨h1, h2⟩ := hc rfl
            obtain ⟨ad, z, hP, hadB, hcell, z1, z2⟩ := HPR.out.below (HK15.out.trans hbw.out) i h1
            subst hP
            obtain ⟨y, b, hy, y1, y2, hb⟩ := pick_two z
            have uy : IntKind.i64.wrap (y + 2) = y + 2 := IntWalk.i64_in _ (by omega)
            have j1 : (i : Int) < (np : Int) := by omega
            clear hadB
            go_wp2_with fail
            go_meet
            case rel => exact ⟨b, wkn b, rfl, rfl, fun h => by omega, rfl⟩
        case rest =>
          obtain ⟨b, r, rfl, hb, hbi, hwx⟩ := hcut
          have hwx' := hwx.symm
          subst hwx'
          clear hwx hc
          obtain ⟨L, hL⟩ : ∃ L, L = (td b).length := ⟨_, rfl⟩
          obtain ⟨n, hn⟩ : ∃ n, n = ndone td todo b := ⟨_, rfl⟩
          obtain ⟨Av, cv, hvv⟩ := row_slice (hR.out.row b)
          have hr2 : r < 2 := by rw [← hb]; cases b <;> simp [wkn]
          have r1 : (0 : Int) ≤ (r : Int) := by omega
          have r2 : (r : Int) < 2 := by omega
          rw [← hL] at hvv
          have x1 : ws.cell? ⟨a2, r, none⟩ = some (.int .i64 (n : Int)) := box_cells hR.out.cnt r _ (by rw [← hb, hn]; cases b <;> rfl)
          have x2 : ws.cell? ⟨q, r, none⟩ = some (.slice Av L cv) := box_cells hR.out.blk r _ (by rw [← hb, ← hvv]; cases b <;> rfl)
          have HLL := Lib.hid hL; have HNN := Lib.hid hn; have HVV := Lib.hid hvv; have HB := Lib.hid hb
          have hempty : todo b = [] → n = L := fun h => by rw [hn, hL]; exact ndone_all h
          have hless : todo b ≠ [] → n < L := fun h => by rw [hn, hL]; exact ndone_not hR.out h
          clear hL hn hvv hb
          go_upto_region 23 with fail
          go_cut [140] (fun v wx => ∃ c : Bool, v = .bool c ∧ (c = true → todo b ≠ []) ∧ (c = false → todo b = []) ∧ ∃ nq, wx = ws.drewN nq)
          case first =>
            by_cases he : todo b = []
            · have hnl := hempty he
              subst hnl
              clear hempty hless
              go_quiet (fail)
              go_wp2_with fail
              go_meet
              case rel => exact ⟨false, by simp, by simp, fun _ => he, _, rfl⟩
            · have hnl := hless he
              have hnl' : (n : Int) < (L : Int) := by omega
              clear hempty hless
              go_quiet (fail)
              go_wp2_with fail
              go_meet
              case rel => exact ⟨true, by simp, fun _ => he, by simp, _, rfl⟩
          case rest =>
            obtain ⟨c, rfl, hc1, hc2, nq, hwx⟩ := hcut
            obtain ⟨wq, hwq⟩ : ∃ wq, wq = wc := ⟨_, rfl⟩
            subst hwq
            have hkq : Keep B [] none ws wq := by rw [hwx]; exact (Keep.refl B [] none ws).drewN _
            have HRQ := Lib.hid (hR.out.kept hkq)
            have HBQ := Lib.hid (hbw.out.trans hkq.below)
            clear hwx x1 x2 hkq hempty hless
            have x1 : wq.cell? ⟨a2, r, none⟩ = some (.int .i64 (n : Int)) := box_cells HRQ.out.cnt r _ (by rw [← HB.out, HNN.out]; cases b <;> rfl)
            have x2 : wq.cell? ⟨q, r, none⟩ = some (.slice Av L cv) := box_cells HRQ.out.blk r _ (by rw [← HB.out, ← HVV.out]; cases b <;> rfl)
            go_upto_if 140 with fail
            go_cut [] (fun wx => ∃ (m' : PM) (g' : Gh) (todo' : Bool → Todo) (fl' : Bool → Bool) (p' : Bool → Nat), Hid (Run wx B t l q a2 K hd td vs m' g' todo' fl' p') ∧ Hid ((todo b = [] ∧ todo' = todo ∧ pot (p' false) (todo' false) + pot (p' true) (todo' true) = pot (p false) (todo false) + pot (p true) (todo true)) ∨ (pot (p' false) (todo' false) + pot (p' true) (todo' true) + 1 ≤ pot (p false) (todo false) + pot (p true) (todo true) ∧ todo' (!b) = todo (!b))) ∧ Hid (Below B w5 wx))
            case first =>
              cases c with
              | false =>
                have HE := Lib.hid (hc2 rfl)
                clear hc1 hc2
                go_wp2_with fail
                go_meet
                case rel => exact ⟨m, g, todo, fl, p, HRQ, Lib.hid (.inl ⟨HE.out, rfl, rfl⟩), HBQ⟩
              | true =>
                obtain ⟨⟨o, x⟩, rs, ht⟩ : ∃ y rs, todo b = y :: rs := by
                  cases h : todo b with
                  | nil => exact absurd h (hc1 rfl)
                  | cons y rs => exact ⟨y, rs, rfl⟩
                obtain ⟨ge, cv', v0, v1, hvb, c0, c1, hsv, hnl, hce⟩ := HRQ.out.head' ht
                have hav := HVV.out.symm.trans hvb
                injection hav with ea eb ec
                subst ea
                clear eb ec
                rw [← HNN.out] at c0 c1 hnl hce
                have HCE := Lib.hid hce
                clear hce
                rw [← HLL.out] at hnl
                have n1 : (0 : Int) ≤ (n : Int) := by omega
                have n2 : (n : Int) < (L : Int) := by omega
                have hL120 : L ≤ 200 := by
                  have h1 := HLEN.out
                  rw [HLL.out]
                  cases b <;> omega
                have un : IntKind.i64.wrap ((n : Int) + 1) = (n : Int) + 1 := IntWalk.i64_in _ (by omega)
                have hBq : B ≤ wq.heap.size := Nat.le_trans HB5.out HBQ.out.size
                have hroom := HRQ.out.inv.room
                have hsize := HRQ.out.inv.size
                have hdr : Keep B [] none wq wq.drew := (Keep.refl B [] none wq).drew
                have hok := HRQ.out.inv.ok b
                rw [ht] at hok
                have HC := Lib.hid (dstep_any (w := wq.drew) (wk := wkn b) (fl := fl b) (p := p b) (HRQ.out.mem.keep hdr rfl (by simp)) ((HRQ.out.op b (o, x) (by rw [ht]; simp)).keep hdr rfl rfl (by simp)) (HZ.out.below ((HK15.out.trans HBQ.out).trans hdr.below) hB) hB hBq HRQ.out.inv.glob hok.1 hd0 hd1 (by omega) (by omega) HKL.out)
                rw [hsv] at HC
                have HT := Lib.hid ht
                have hcb : (atC td todo)[r]? = some (.int .i64 (ndone td todo b : Int)) := by rw [← HB.out]; cases b <;> rfl
                have hqb : (#[vs false, vs true] : Array Value)[r]? = some (vs b) := by rw [← HB.out]; cases b <;> rfl
                have HCB := Lib.hid hcb; have HQB := Lib.hid hqb
                clear hcb hqb
                clear hsv hok hroom hsize hdr ht hvb hc1 hc2
                go_upto_region 24 with fail
                go_region_held3 (fun W => W.cell? ⟨a2, r, none⟩ = some (.int .i64 (n : Int)) ∧ W.cell? ⟨q, r, none⟩ = some (.slice (some ⟨ge, 0, none⟩) L cv) ∧ W.cell? ⟨ge, n * 2, none⟩ = some v0 ∧ W.cell? ⟨ge, n * 2 + 1, none⟩ = some v1) (simp [*]) ((go_at_call 9; refine HC.out.mono ?_; rintro e9 w9 ⟨d, rfl, m', x', hst, hM9, hO9, hk9⟩; have hk9 : Keep B [51, 48, 55, 77, 61, 62] (some o) wq w9 := (Keep.refl B _ _ wq).drew.trans hk9; obtain ⟨hb9, hc9, hr9⟩ := HRQ.out.after HT.out hk9; have d1 : w9.cell? ⟨a2, r, none⟩ = some (.int .i64 (n : Int)) := box_cells hc9 r _ (HCB.out.trans (by rw [HNN.out])); have d2 : w9.cell? ⟨q, r, none⟩ = some (.slice (some ⟨ge, 0, none⟩) L cv) := box_cells hb9 r _ (HQB.out.trans (by rw [HVV.out])); have d3 : w9.cell? ⟨ge, n * 2, none⟩ = some v0 := HCE.out.1 w9 (hr9 b); have d4 : w9.cell? ⟨ge, n * 2 + 1, none⟩ = some v1 := HCE.out.2 w9 (hr9 b); have HST := Lib.hid hst; have HM9 := Lib.hid hM9; have HO9 := Lib.hid hO9; have HK9 := Lib.hid hk9; have HC9 := Lib.hid hc9; clear hst hM9 hO9 hk9 hb9 hc9 hr9))
                rename_i hheld
                obtain ⟨g', fl', p', hrun, hpot⟩ := Run.step HRQ.out hKl hd0 HT.out HST.out HM9.out HO9.out HK9.out
                have f9 := froz_all HC9.out
                have HB9 := Lib.hid (HBQ.out.trans HK9.out.below)
                have HS9 := Lib.hid (((HBQ.out.trans HK9.out.below).trans ((Keep.refl B [42] none w9).set HC9.out HRQ.out.aB rfl r (.int .i64 ((n : Int) + 1))).below))
                clear hheld d2 d3 d4 hk9 x1 x2 c0 c1 n2 hnl
                cases d with
                | false =>
                  simp only [Bool.false_eq_true, if_false] at hrun hpot
                  have HRN := Lib.hid hrun; have HPN := Lib.hid hpot
                  clear hrun hpot
                  go_wp2_with fail
                  go_meet
                  case rel => exact ⟨m', g', _, fl', p', HRN, Lib.hid (.inr ⟨HPN.out, setW_not _ _ _⟩), HB9⟩
                | true =>
                  simp only [if_true] at hrun hpot
                  rw [HB.out, ← HNN.out] at hrun
                  have HRN := Lib.hid hrun; have HPN := Lib.hid hpot
                  clear hrun hpot
                  go_wp2_with fail
                  go_meet
                  case rel => exact ⟨m', g', _, fl', p', HRN, Lib.hid (.inr ⟨HPN.out, setW_not _ _ _⟩), HS9⟩
            case rest =>
              obtain ⟨wz, hwz⟩ : ∃ wz, wz = wc := ⟨_, rfl⟩
              subst hwz
              clear x1 x2 hc1 hc2
              obtain ⟨m', g', todo', fl', p', hrn, hcase, hbn⟩ := hcut
              obtain ⟨A0, d0, hv0⟩ := row_slice (hrn.out.row false)
              obtain ⟨A1, d1, hv1⟩ := row_slice (hrn.out.row true)
              obtain ⟨L0, hL0⟩ : ∃ L, L = (td false).length := ⟨_, rfl⟩
              obtain ⟨L1, hL1⟩ : ∃ L, L = (td true).length := ⟨_, rfl⟩
              obtain ⟨N0, hN0⟩ : ∃ N, N = ndone td todo' false := ⟨_, rfl⟩
              obtain ⟨N1, hN1⟩ : ∃ N, N = ndone td todo' true := ⟨_, rfl⟩
              have k0 : todo' false = [] → N0 = L0 := fun h => by rw [hN0, hL0]; exact ndone_all h
              have k1 : todo' true = [] → N1 = L1 := fun h => by rw [hN1, hL1]; exact ndone_all h
              have k2 : todo' false ≠ [] → ((N0 : Int) == (L0 : Int)) = false := fun h => by
                have h1 := ndone_not hrn.out h
                rw [beq_eq_false_iff_ne, hN0, hL0]
                omega
              have k3 : todo' true ≠ [] → ((N1 : Int) == (L1 : Int)) = false := fun h => by
                have h1 := ndone_not hrn.out h
                rw [beq_eq_false_iff_ne, hN1, hL1]
                omega
              have hcnt := hrn.out.cnt
              have hblk := hrn.out.blk
              unfold atC at hcnt
              rw [← hN0, ← hN1] at hcnt
              rw [hv0, hv1, ← hL0, ← hL1] at hblk
              have x0 := box_cells hcnt 0 (.int .i64 (N0 : Int)) rfl
              have x1 := box_cells hcnt 1 (.int .i64 (N1 : Int)) rfl
              have x2 := box_cells hblk 0 (.slice A0 L0 d0) rfl
              have x3 := box_cells hblk 1 (.slice A1 L1 d1) rfl
              have HBI := Lib.hid hbi
              clear hcnt hblk hv0 hv1 hN0 hN1 hL0 hL1 hbi
              have HNX := Lib.hid (Budget.next hBu.out (fun h => HB.out.trans (HBI.out h)) hne.out hcase.out)
              by_cases h0 : todo' false = []
              · obtain rfl := k0 h0
                by_cases h1 : todo' true = []
                · obtain rfl := k1 h1
                  have HALL := Lib.hid (show ∀ b, todo' b = [] from fun b => by cases b <;> assumption)
                  have HBW0 := Lib.hid (HK15.out.trans hbn.out)
                  have hBz : B ≤ wz.heap.size := Nat.le_trans HB5.out hbn.out.size
                  clear k0 k1 k2 k3 h0 h1
                  go_upto_region 28 with fail
                  exact tail28 A K ck B t l q a2 hd td vs m' g' todo' fl' p' w0 wz _ _ _ _ _ _ _ _ _ _ _ _ _ _ _ _ _ _ _ _ _ _ _ _ _ _ _ _ _ _ _ _ _ _ _ _ _ _ _ _ _ _ _ _ _ _ _ _ _ _ _ _ _ _ _ _ _ _ _ _ _ _ _ _ _ _ _ _ _ _ _ _ _ _ _ _ _ _ _ _ _ _ _ _ _ _ _ _ _ _ _ _ _ _ _ _ _ _ _ _ _ _ _ _ _ _ _ _ _ _ _ _ _ _ _ _ _ _ _ _ _ _ _ _ _ _ _ _ _ _ _ _ _ _ _ _ _ _ _ _ _ _ _ _ _ _ _ _ _ _ _ _ _ _ _ _ _ _ _ _ _ _ _ _ _ _ _ _ _ _ _ _ _ _ _ _ _ _ _ _ _ _ _ _ _ _ _ _ _ _ _ _ _ _ _ _ _ _ _ _ _ _ _ _ _ _ _ _ _ _ _ _ _ _ _ _ _ _ _ _ _ _ _ _ _ _ _ _ _ _ _ _ _ _ _ _ _ hrn.out HALL.out HIN.out HBW0.out hBz HKR.out hKl HKL.out hd0 hd1 _ (by assumption)
                · have e1 := k3 h1
                  have HNE := Lib.hid (show 0 < i + 1 → ¬ ∀ b, todo' b = [] from fun _ h => h1 (h true))
                  clear k0 k1 k2 k3 h0 h1
                  go_wp2_with fail
                  go_roundw
                  case rel => exact ⟨i + 1, m', g', todo', fl', p', by simp, hlt, hrn, HNX, HNE, hbn⟩
                  case measure => simp [intOf]; omega
              · have e0 := k2 h0
                have HNE := Lib.hid (show 0 < i + 1 → ¬ ∀ b, todo' b = [] from fun _ h => h0 (h false))
                clear k0 k1 k2 k3 h0
                go_wp2_with fail
                go_roundw
                case rel => exact ⟨i + 1, m', g', todo', fl', p', by simp, hlt, hrn, HNX, HNE, hbn⟩
                case measure => simp [intOf]; omega
    · obtain rfl : i = 2000000 := by omega
      exact (Budget.over hBu.out (Nat.le_refl _)).elim
end Go.Proofs.YtfolchpjccjadaaDoor
