/- The law's walk from its 28th region on: both Keys told, each key among them or not. -/
import Derived.Test.YtfolchpjccjadaaDoorLw
namespace Go.Proofs.YtfolchpjccjadaaDoor
open Go.RowKit
set_option linter.unusedVariables false
attribute [local go_sem] bs_list bs_size

/-- The first region of a code. -/
def regOf : Code → Nat
  | .region n _ _ => n
  | .seq a _ => regOf a
  | .block _ c => regOf c
  | .loop c => regOf c
  | .scope c => regOf c
  | _ => 0
/-- The code from a region on. -/
def codeAt (k : Nat) : Code → Code
  | .seq a b => cond (Nat.beq (regOf a) k) (.seq a b) (codeAt k b)
  | c => c
def seqLeft : Code → Code
  | .seq a _ => a
  | c => c
def seqRight : Code → Code
  | .seq _ b => b
  | c => c
noncomputable def code28 : Code := (Tryd.f3.body.map fun c => seqLeft (codeAt 28 c)).getD .skip
noncomputable def rest28 : Code := (Tryd.f3.body.map fun c => seqRight (codeAt 28 c)).getD .skip

theorem take_more {us : List (List UInt8)} {i : Nat} {x : List UInt8} (key : List UInt8) (hx : us[i]? = some x) : decide (key ∈ us.take (i + 1)) = (decide (key ∈ us.take i) || decide (x = key)) := by
  rw [Bool.eq_iff_iff, Bool.or_eq_true, decide_eq_true_iff, decide_eq_true_iff, decide_eq_true_iff, List.take_add_one, hx]
  simp only [Option.toList_some, List.mem_append, List.mem_singleton]
  constructor
  · rintro (h | h)
    · exact .inl h
    · exact .inr h.symm
  · rintro (h | h)
    · exact .inl h
    · exact .inr h.symm

set_option maxRecDepth 1000000 in
set_option maxHeartbeats 8000000 in
theorem tail28 (A : Option Addr) (K : List (List UInt8)) (ck B t l q a2 : Nat) (hd : List Nat) (td : Bool → Todo) (vs : Bool → Value) (m : PM) (g : Gh) (todo : Bool → Todo) (fl : Bool → Bool) (p : Bool → Nat) (w0 w : World)
    (u0 u2 u3 u4 u5 u6 u7 u8 u10 u12 u14 u16 u17 u18 u19 u20 u21 u22 u23 u24 u25 u26 u27 u28 u29 u30 u31 u32 u33 u34 u35 u36 u37 u38 u39 u40 u41 u42 u43 u44 u45 u46 u47 u48 u49 u50 u51 u52 u53 u54 u55 u56 u57 u58 u59 u60 u61 u62 u63 u64 u65 u66 u67 u68 u69 u70 u71 u72 u73 u74 u75 u76 u77 u78 u79 u80 u81 u82 u83 u84 u85 u86 u87 u88 u89 u90 u91 u92 u93 u94 u95 u96 u97 u98 u99 u100 u101 u102 u103 u104 u105 u106 u107 u108 u109 u110 u111 u112 u113 u114 u115 u116 u117 u118 u119 u120 u121 u122 u123 u124 u125 u126 u127 u128 u129 u130 u131 u132 u133 u134 u135 u136 u137 u138 u139 u140 u141 u142 u143 u144 u145 u146 u147 u148 u149 u150 u151 u152 u153 u154 u155 u156 u157 u158 u159 u160 u161 u162 u163 u164 u165 u166 u167 u168 u169 u170 u171 u172 u173 u174 u175 u176 u177 u178 u179 u180 u181 u182 u183 u184 u185 u186 u187 u188 u189 u190 u191 u192 u193 u194 u195 u196 u197 u198 u199 u200 u201 u202 u203 u204 u205 u206 u207 u208 u209 u210 u211 u212 u213 u214 u215 u216 u217 u218 u219 u220 u221 u222 u223 u224 u225 u226 u227 u228 u229 u230 u231 u232 u233 u234 u235 u236 u237 u238 u239 u240 u241 : Value)
    (hR : Run w B t l q a2 K hd td vs m g todo fl p) (hall : ∀ b, todo b = []) (hin : AllIn K K.length td) (hb : Below B w0 w) (hBs : B ≤ w.heap.size) (hKR : KeysR w0 B A K) (hKl : K.length ≤ 40) (hkl : ∀ k, k ∈ K → k.length ≤ 140737488355328) (hd0 : 0 < hd.length) (hd1 : hd.length ≤ 256)
    (Kx : Act → World → Prop) (hKx : ∀ a w, Code.wp Tryd.prog rest28 (bodyPost Tryd.prog Tryd.f3 fun e w' => e = .returned (.bool true) ∧ Below B w0 w') a w → Kx a w) :
    Code.wp Tryd.prog code28 (Exit.then Kx (bodyPost Tryd.prog Tryd.f3 fun e w' => e = .returned (.bool true) ∧ Below B w0 w')) ⟨#[u0, .slice A K.length ck, u2, u3, u4, u5, u6, u7, u8, .pointer (some ⟨t, 0, none⟩), u10, .pointer (some ⟨l, 0, none⟩), u12, .pointer (some ⟨q, 0, none⟩), u14, .pointer (some ⟨a2, 0, none⟩), u16, u17, u18, u19, u20, u21, u22, u23, u24, u25, u26, u27, u28, u29, u30, u31, u32, u33, u34, u35, u36, u37, u38, u39, u40, u41, u42, u43, u44, u45, u46, u47, u48, u49, u50, u51, u52, u53, u54, u55, u56, u57, u58, u59, u60, u61, u62, u63, u64, u65, u66, u67, u68, u69, u70, u71, u72, u73, u74, u75, u76, u77, u78, u79, u80, u81, u82, u83, u84, u85, u86, u87, u88, u89, u90, u91, u92, u93, u94, u95, u96, u97, u98, u99, u100, u101, u102, u103, u104, u105, u106, u107, u108, u109, u110, u111, u112, u113, u114, u115, u116, u117, u118, u119, u120, u121, u122, u123, u124, u125, u126, u127, u128, u129, u130, u131, u132, u133, u134, u135, u136, u137, u138, u139, u140, u141, u142, u143, u144, u145, u146, u147, u148, u149, u150, u151, u152, u153, u154, u155, u156, u157, u158, u159, u160, u161, u162, u163, u164, u165, u166, u167, u168, u169, u170, u171, u172, u173, u174, u175, u176, u177, u178, u179, u180, u181, u182, u183, u184, u185, u186, u187, u188, u189, u190, u191, u192, u193, u194, u195, u196, u197, u198, u199, u200, u201, u202, u203, u204, u205, u206, u207, u208, u209, u210, u211, u212, u213, u214, u215, u216, u217, u218, u219, u220, u221, u222, u223, u224, u225, u226, u227, u228, u229, u230, u231, u232, u233, u234, u235, u236, u237, u238, u239, u240, u241], []⟩ w := by
  have hsz := hR.inv.size
  have HH := Lib.hid (hkeys_any B t B K hd m g w hR.mem.1 hR.mem.2.1 hR.inv.glob hKl hd0 hd1 hBs (by omega))
  have HR := Lib.hid hR; have HALL := Lib.hid hall; have HIN := Lib.hid hin; have HB := Lib.hid hb; have HKR := Lib.hid hKR; have HKL := Lib.hid hkl
  have hnl : m.N.length < 100000 := by omega
  clear hR hall hin hb hKR hkl hsz
  conv => arg 2; whnf
  conv at hKx => enter [a, w, 1, 2]; whnf
  go_wp2_with fail
  refine HH.out.mono ?_
  rintro e w1 ⟨v1, us, rfl, hr1, hs1, hm1, hk1, hA1⟩
  have hB1 : B ≤ w1.heap.size := Nat.le_trans hBs hk1.size
  have HS := Lib.hid (skeys_any B l B K hd m g w1 hA1 (HR.out.mem.2.2.keep hk1 rfl rfl rfl (by simp)) HR.out.inv.glob hKl hB1 w1.heap.size rfl hnl)
  have HR1 := Lib.hid hr1; have HS1 := Lib.hid hs1; have HM1 := Lib.hid hm1; have HK1 := Lib.hid hk1
  clear hr1 hs1 hm1 hk1 hA1
  go_wp2_with fail
  refine HS.out.mono ?_
  rintro e w2 ⟨v2, us2, rfl, hr2, hs2, hm2, hk2, ho2⟩
  obtain ⟨he, hisk⟩ := all_there HR.out.inv HALL.out (fun k hk kind => by
    obtain ⟨j, hj⟩ := List.mem_iff_getElem?.1 hk
    exact HIN.out j k (List.getElem?_eq_some_iff.1 hj).1 hj kind) HS1.out hs2 HM1.out hm2 hd0
  subst he
  have hk12 : Keep B [51, 9] none w w2 := HK1.out.trans hk2
  have hrow1 := ho2.row HR1.out
  obtain ⟨n, hn⟩ : ∃ n, n = us.length := ⟨_, rfl⟩
  rw [← hn] at hrow1 hr2
  obtain ⟨A1, c1, hv1⟩ := row_slice hrow1
  obtain ⟨A2, c2, hv2⟩ := row_slice hr2
  subst hv1 hv2
  have n0 : ndone td todo false = (td false).length := ndone_all (HALL.out false)
  have n1 : ndone td todo true = (td true).length := ndone_all (HALL.out true)
  obtain ⟨Av0, cv0, hvv0⟩ := row_slice (HR.out.row false)
  obtain ⟨Av1, cv1, hvv1⟩ := row_slice (HR.out.row true)
  obtain ⟨L0, hL0⟩ : ∃ L, L = (td false).length := ⟨_, rfl⟩
  obtain ⟨L1, hL1⟩ : ∃ L, L = (td true).length := ⟨_, rfl⟩
  have hcnt := hk12.rest a2 _ 42 HR.out.cnt rfl (by simp)
  have hblk := hk12.rest q _ 35 HR.out.blk rfl (by simp)
  rw [hvv0, hvv1] at hblk
  unfold atC at hcnt
  rw [n0, n1] at hcnt
  rw [← hL0, ← hL1] at hcnt hblk
  have x0 := box_cells hcnt 0 (.int .i64 (L0 : Int)) rfl
  have x1 := box_cells hcnt 1 (.int .i64 (L1 : Int)) rfl
  have x2 := box_cells hblk 0 (.slice Av0 L0 cv0) rfl
  have x3 := box_cells hblk 1 (.slice Av1 L1 cv1) rfl
  have HK := Lib.hid hk12; have HROW1 := Lib.hid hrow1; have HROW2 := Lib.hid hr2; have HISK := Lib.hid hisk; have HN := Lib.hid hn
  clear hk12 hrow1 hr2 hisk hn hs2 hm2 hk2 ho2 hcnt hblk hvv0 hvv1 n0 n1 hL0 hL1
  go_wp2_with fail
  clear x0 x1 x2 x3
  have hnK : n ≤ 100 := by
    have h := nodup_len us K (HS1.out.imp fun hlt e => by rw [e] at hlt; exact List.lt_irrefl _ hlt) (fun k hk => by
      obtain ⟨b, j, _, hj, he⟩ := (HM1.out k).1 hk
      rw [← he]
      exact (HR.out.inv.glob.bucket_key hj).2)
    rw [HN.out]
    omega
  obtain ⟨ws, hws⟩ : ∃ ws, ws = w2 := ⟨_, rfl⟩
  have HWS := Lib.hid hws
  rw [← hws]
  clear hws
  go_loopw [21] (fun v21 wr => ∃ k : Nat, v21 = .int .i64 (k : Int) ∧ k ≤ n ∧ Hid (Keep B [] none ws wr)) (fun v21 _ => n - (intOf v21).toNat)
  case atStart => exact ⟨0, rfl, by omega, Lib.hid (Keep.refl _ _ _ _)⟩
  case round =>
    obtain ⟨k, rfl, hk, hkp⟩ := hrel
    by_cases hlt : k < n
    · obtain ⟨key, hkey⟩ : ∃ key, us[k]? = some key := ⟨_, List.getElem?_eq_getElem (by rw [← HN.out]; exact hlt)⟩
      have hkm : (us.map strv)[k]? = some (.string (bs key)) := by rw [List.getElem?_map, hkey]; rfl
      have hq1 := hkp.out.row (by rw [HWS.out]; exact HROW1.out) rfl (by simp)
      have hq2 := hkp.out.row (by rw [HWS.out]; exact HROW2.out) rfl (by simp)
      obtain ⟨g1, d1, e1, _⟩ := row_some hq1 (by omega)
      obtain ⟨g2, d2, e2, _⟩ := row_some hq2 (by omega)
      injection e1 with e11 _ _
      injection e2 with e21 _ _
      rw [e11] at hq1 ⊢
      rw [e21] at hq2 ⊢
      have y1 := row_cell hq1 k _ hkm
      have y2 := row_cell hq2 k _ hkm
      have i0 : (0 : Int) ≤ (k : Int) := by omega
      have i1 : (k : Int) < (n : Int) := by omega
      have uk : IntKind.i64.wrap ((k : Int) + 1) = (k : Int) + 1 := IntWalk.i64_in _ (by omega)
      have HKEY := Lib.hid hkey
      clear hkey hkm hq1 hq2
      go_upto_region 35 with fail
      go_quiet (fail)
      go_wp2_with fail
      go_roundw
      case rel => exact ⟨k + 1, by simp, hlt, Lib.hid (by first | exact hkp.out.drewN _ | exact hkp.out.drew)⟩
      case measure => simp [intOf]; omega
    · obtain rfl : k = n := by omega
      go_upto_region 37 with fail
      obtain ⟨wt, hwt⟩ : ∃ wt, wt = wr := ⟨_, rfl⟩
      have hkwt : Keep B [51, 9] none w wt := by
        rw [hwt]
        refine Keep.trans ?_ (hkp.out.mono rfl)
        rw [HWS.out]
        exact HK.out
      have hrt : wt.ownsRow B 9 1 (.slice A1 k c1) k (us.map strv) := by rw [hwt]; exact hkp.out.row (by rw [HWS.out]; exact HROW1.out) rfl (by simp)
      have HKWT := Lib.hid hkwt; have HRT := Lib.hid hrt
      rw [← hwt]
      clear hwt hkwt hrt
      go_wp2_with fail
      go_loopw [22] (fun v22 wr => ∃ j : Nat, v22 = .int .i64 (j : Int) ∧ j ≤ K.length ∧ Hid (Keep B [] none wt wr)) (fun v22 _ => K.length - (intOf v22).toNat)
      case atStart => exact ⟨0, rfl, by omega, Lib.hid (Keep.refl _ _ _ _)⟩
      case round =>
        obtain ⟨wj, hwj⟩ : ∃ wj, wj = wr := ⟨_, rfl⟩
        subst hwj
        obtain ⟨j, rfl, hj, hkj⟩ := hrel
        by_cases hlj : j < K.length
        · obtain ⟨key, hkey⟩ : ∃ key, K[j]? = some key := ⟨_, List.getElem?_eq_getElem hlj⟩
          obtain ⟨bk, hbk⟩ : ∃ bk, bk = isKey key := ⟨_, rfl⟩
          have hbel : Below B w0 wj := (HB.out.trans HKWT.out.below).trans hkj.out.below
          obtain ⟨ad, hA, hadB, hcell⟩ := (HKR.out.below hbel) j key hkey
          have HF := Lib.hid (refIsKey_any key wj (HKL.out key (List.mem_of_getElem? hkey)))
          rw [← hbk] at HF
          have hmem : key ∈ us ↔ bk = true := by rw [hbk]; exact HISK.out key (List.mem_of_getElem? hkey)
          have HMEM := Lib.hid hmem; have HADB := Lib.hid hadB; have HCELL := Lib.hid hcell
          have i0 : (0 : Int) ≤ (j : Int) := by omega
          have i1 : (j : Int) < (K.length : Int) := by omega
          have uj : IntKind.i64.wrap ((j : Int) + 1) = (j : Int) + 1 := IntWalk.i64_in _ (by omega)
          subst hA
          clear hkey hbk hmem hadB hbel
          go_wp2_with fail
          refine HF.out.mono ?_
          rintro e wq ⟨rfl, hwq⟩
          subst hwq
          clear hcell
          go_wp2_with fail
          go_loopw [24, 25] (fun v24 v25 wq => ∃ i : Nat, v24 = .bool (decide (key ∈ us.take i)) ∧ v25 = .int .i64 (i : Int) ∧ i ≤ k ∧ Hid (Keep B [] none wj wq)) (fun _ v25 _ => k - (intOf v25).toNat)
          case atStart => exact ⟨0, by simp, rfl, by omega, Lib.hid (Keep.refl _ _ _ _)⟩
          case round =>
            obtain ⟨i, rfl, rfl, hi, hki⟩ := hrel
            have hq := (hkj.out.trans hki.out).row HRT.out rfl (by simp)
            obtain ⟨dk, hdk⟩ : ∃ dk, dk = decide (key ∈ us.take i) := ⟨_, rfl⟩
            have HDK := Lib.hid hdk
            rw [← hdk]
            clear hdk
            by_cases hlti : i < k
            · obtain ⟨x, hx⟩ : ∃ x, us[i]? = some x := ⟨_, List.getElem?_eq_getElem (by rw [← HN.out]; exact hlti)⟩
              obtain ⟨g1, d1, e1, _⟩ := row_some hq (by omega)
              injection e1 with e11 _ _
              rw [e11] at hq ⊢
              have y1 : wr.cell? ⟨g1, i, none⟩ = some (.string (bs x)) := row_cell hq i (strv x) (by rw [List.getElem?_map, hx]; rfl)
              have y2 : wr.cell? (ad.add j) = some (.string (bs key)) := (World.cell?_of_block (hki.out.low _ HADB.out)).trans HCELL.out
              have j0 : (0 : Int) ≤ (i : Int) := by omega
              have j1 : (i : Int) < (k : Int) := by omega
              have ui : IntKind.i64.wrap ((i : Int) + 1) = (i : Int) + 1 := IntWalk.i64_in _ (by omega)
              have HNX := Lib.hid (take_more key hx)
              clear hq hx
              cases dk with
              | true =>
                have hdn : decide (key ∈ us.take (i + 1)) = true := by rw [HNX.out, ← HDK.out]; rfl
                have HDN := Lib.hid hdn
                clear hdn
                go_upto_region 45 with fail
                go_quiet (fail)
                go_wp2_with fail
                go_roundw
                case rel => exact ⟨i + 1, by rw [HDN.out], by simp, hlti, Lib.hid (hki.out.drewN _)⟩
                case measure => simp [intOf]; omega
              | false =>
                by_cases he : x = key
                · subst he
                  have hdn : decide (x ∈ us.take (i + 1)) = true := by rw [HNX.out]; simp
                  have HDN := Lib.hid hdn
                  clear hdn
                  go_upto_region 45 with fail
                  go_quiet (fail)
                  go_wp2_with fail
                  go_roundw
                  case rel => exact ⟨i + 1, by rw [HDN.out], by simp, hlti, Lib.hid (hki.out.drewN _)⟩
                  case measure => simp [intOf]; omega
                · have hdn : decide (key ∈ us.take (i + 1)) = false := by rw [HNX.out, ← HDK.out]; simp [he]
                  have HDN := Lib.hid hdn
                  have tq : (x == key) = false := by rw [beq_eq_false_iff_ne]; exact he
                  clear hdn he
                  go_upto_region 45 with fail
                  go_quiet (fail)
                  go_wp2_with fail
                  go_roundw
                  case rel => exact ⟨i + 1, by rw [HDN.out], by simp, hlti, Lib.hid (hki.out.drewN _)⟩
                  case measure => simp [intOf]; omega
            · obtain rfl : i = k := by omega
              have hdb : dk = bk := by
                rw [HDK.out, List.take_of_length_le (Nat.le_of_eq HN.out.symm), Bool.eq_iff_iff, decide_eq_true_iff]
                exact HMEM.out
              subst hdb
              have hkn : Keep B [] none wt wr := hkj.out.trans hki.out
              have HKN := Lib.hid hkn
              clear hkn hq
              cases dk with
              | true =>
                go_wp2_with fail
                go_roundw
                case rel => exact ⟨j + 1, by simp, hlj, HKN⟩
                case measure => simp [intOf]; omega
              | false =>
                go_wp2_with fail
                go_roundw
                case rel => exact ⟨j + 1, by simp, hlj, HKN⟩
                case measure => simp [intOf]; omega
        · obtain rfl : j = K.length := by omega
          have HFIN := Lib.hid ((HB.out.trans HKWT.out.below).trans hkj.out.below)
          go_wp2_with fail
          go_ret
          exact ⟨rfl, HFIN.out⟩
end Go.Proofs.YtfolchpjccjadaaDoor
