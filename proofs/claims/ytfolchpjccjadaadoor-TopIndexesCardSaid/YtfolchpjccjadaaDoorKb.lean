/- The walk of the hash index's Keys. -/
import Derived.Test.YtfolchpjccjadaaDoorKa
import Derived.Test.YtfolchpjccjadaaDoorSo
import Derived.Sort.OwnSorted
namespace Go.Proofs.YtfolchpjccjadaaDoor
open Go.RowKit
open Go.Sort
set_option linter.unusedVariables false
attribute [local go_sem] bs_list bs_size

def keysTo (E : List Ent) (g : Gh) (k : Nat) : List (List UInt8) := (List.range k).flatMap fun b => (g.C b).map (eK E)
theorem keysTo_next (E : List Ent) (g : Gh) (k : Nat) : keysTo E g (k + 1) = keysTo E g k ++ (g.C k).map (eK E) := by
  unfold keysTo
  rw [List.range_succ, List.flatMap_append]
  simp
theorem keysTo_mem {E : List Ent} {g : Gh} {k : Nat} {x : List UInt8} : x ∈ keysTo E g k ↔ ∃ b n, b < k ∧ n ∈ g.C b ∧ eK E n = x := by
  unfold keysTo
  rw [List.mem_flatMap]
  constructor
  · rintro ⟨b, hb, hx⟩
    obtain ⟨n, hn, he⟩ := List.mem_map.1 hx
    exact ⟨b, n, List.mem_range.1 hb, hn, he⟩
  · rintro ⟨b, n, hb, hn, he⟩
    exact ⟨b, List.mem_range.2 hb, List.mem_map.2 ⟨n, hn, he⟩⟩
section
variable {K : List (List UInt8)} {hd : List Nat} {m : PM} {g : Gh}
theorem Glob.bucket_key (hG : Glob K hd m g) {b n : Nat} (h : n ∈ g.C b) : bk hd.length (eK m.E n) = b ∧ eK m.E n ∈ K := by
  obtain ⟨_, e, h1, _, h2, _, h3⟩ := hG.ce b n h
  rw [eK_some h1]
  exact ⟨h2, h3⟩
theorem keysTo_nodup (hG : Glob K hd m g) : ∀ k, (keysTo m.E g k).Nodup
  | 0 => .nil
  | k + 1 => by
    rw [keysTo_next, List.nodup_append]
    refine ⟨keysTo_nodup hG k, hG.cn k, fun a ha b hb e => ?_⟩
    subst e
    obtain ⟨b', n, h1, h2, h3⟩ := keysTo_mem.1 ha
    obtain ⟨n', h4, h5⟩ := List.mem_map.1 hb
    have e1 := (hG.bucket_key h2).1
    have e2 := (hG.bucket_key h4).1
    rw [h3] at e1
    rw [h5, e1] at e2
    omega
theorem keysTo_len (hG : Glob K hd m g) (k : Nat) : (keysTo m.E g k).length ≤ K.length :=
  nodup_len _ K (keysTo_nodup hG k) fun x hx => by
    obtain ⟨b, n, _, h2, h3⟩ := keysTo_mem.1 hx
    rw [← h3]
    exact (hG.bucket_key h2).2
end
theorem sorted_strict {ss : List (List UInt8)} (h : ss.Nodup) : (ss.mergeSort fun x y => decide (x ≤ y)).Pairwise (· < ·) := by
  have h1 := List.pairwise_mergeSort (le := fun x y : List UInt8 => decide (x ≤ y)) (fun a b c h1 h2 => by
    simp only [decide_eq_true_eq] at h1 h2 ⊢
    exact List.le_trans h1 h2) (fun a b => by
    simp only [Bool.or_eq_true, decide_eq_true_eq]
    exact List.le_total a b) ss
  have h2 : (ss.mergeSort fun x y => decide (x ≤ y)).Nodup := (List.mergeSort_perm ss _).nodup_iff.2 h
  refine (h1.and h2).imp fun {a b} hab => ?_
  obtain ⟨h3, h4⟩ := hab
  simp only [decide_eq_true_eq] at h3
  apply Classical.byContradiction
  intro h5
  exact h4 (List.le_antisymm h3 (List.not_lt.1 h5))
def lenV : Value → Nat
  | .slice _ n _ => n
  | _ => 0
theorem row_lenV {w : World} {b e size n : Nat} {v : Value} {xs : List Value} (h : w.ownsRow b e size v n xs) : lenV v = n := by
  obtain ⟨A, c, rfl⟩ := row_slice h
  rfl
theorem sort_some (blk cap : Nat) (ss : List (List UInt8)) (w : World) (hH : Holds encStr w blk 0 ss.toArray) (hblk : blk < w.heap.size) (hsz : ss.length < 4611686018427387904) :
    Calls Tryd.prog 21 #[.slice (some ⟨blk, 0, none⟩) ss.length cap] w fun e w' => e = .returned (.tuple #[]) ∧ ∃ n os, w' = grow (putRow encStr (Sort.ahead w n) blk 0 (ss.mergeSort fun x y => decide (x ≤ y)).toArray) os :=
  Any.slices_Sort_string Tryd.lays190 blk 0 cap ss w hH hblk hsz
theorem sort_none (p : Option Addr) (cap : Nat) (w : World) : Calls Tryd.prog 21 #[.slice p 0 cap] w fun e w' => e = .returned (.tuple #[]) ∧ w' = w := Any.slices_Sort_string_none Tryd.lays190 p cap w
/-- slices.Sort at a row of the call's own. -/
theorem sort_own {w : World} {B : Nat} {v : Value} {us : List (List UInt8)} (hr : w.ownsRow B 9 1 v us.length (us.map strv)) (hl : us.length < 1000) (hB : B ≤ w.heap.size) :
    Calls Tryd.prog 21 #[v] w fun e w' => e = .returned (.tuple #[]) ∧ w'.ownsRow B 9 1 v us.length ((us.mergeSort fun x y => decide (x ≤ y)).map strv) ∧ Keep B [9] none w w' := by
  rcases hr.2 with ⟨rfl, h0⟩ | ⟨g, cap, cur, rfl, hbase, hb, h1, h2, h3, h4⟩
  · have hz : us = [] := List.eq_nil_of_length_eq_zero h0
    subst hz
    refine (sort_none none 0 w).mono ?_
    rintro e w' ⟨rfl, rfl⟩
    exact ⟨rfl, by simpa using hr, Keep.refl _ _ _ _⟩
  · have hH : Holds encStr w g 0 us.toArray := holds_of_block hb (by rw [Nat.mul_one] at h4; exact h4)
    refine (sort_some g cap us w hH (heap_lt hb) (by omega)).mono ?_
    rintro e w' ⟨rfl, n, os, rfl⟩
    refine ⟨rfl, ownsRow_sorted (by simp) hbase hb h1 h2 h3, ?_⟩
    exact Keep.of_grown (grownBy_sorted _) hb hbase rfl

set_option maxRecDepth 100000 in
set_option maxHeartbeats 4000000 in
theorem hkeys_any (B t a : Nat) (K : List (List UInt8)) (hd : List Nat) (m : PM) (g : Gh) (w : World) (hA : ArW w B a m.H m.L) (hT : TbW w B t a hd m.E) (hG : Glob K hd m g) (hK : K.length ≤ 40) (hd0 : 0 < hd.length) (hd1 : hd.length ≤ 256) (hBs : B ≤ w.heap.size) (hel : m.E.length ≤ 100000) :
    Calls Tryd.prog 10 #[.pointer (some ⟨t, 0, none⟩)] w fun e w' => ∃ (v : Value) (us : List (List UInt8)), e = .returned v ∧ w'.ownsRow B 9 1 v us.length (us.map strv) ∧ us.Pairwise (· < ·) ∧ (∀ k, k ∈ us ↔ ∃ b n, b < hd.length ∧ n ∈ g.C b ∧ eK m.E n = k) ∧ Keep B [51, 9] none w w' ∧ ArW w' B a m.H m.L := by
  obtain ⟨nb, hnb⟩ : ∃ nb, nb = hd.length := ⟨_, rfl⟩
  obtain ⟨hv, ev, hT⟩ := hT
  obtain ⟨gh, ch, hhv, hch⟩ := row_some hT.2.2.1 hd0
  obtain ⟨Ae, ce, hev⟩ := row_slice hT.2.2.2
  subst hhv hev
  have y0 := box_cells hT.1 0 (.pointer (some ⟨a, 0, none⟩)) rfl
  have y1 := box_cells hT.1 1 (.slice (some ⟨gh, 0, none⟩) nb ch) (by rw [hnb]; rfl)
  have HA := Lib.hid hA; have HT := Lib.hid hT; have HG := Lib.hid hG; have HNB := Lib.hid hnb
  rw [← hnb] at hd1
  clear hA hT hG hnb
  go_enter Tryd.func10, Tryd.ntmps10
  go_wp2_with fail
  clear y0 y1
  go_loopw [3, 15] (fun v3 v15 wr => ∃ k : Nat, k ≤ nb ∧ v15 = .int .i64 (k : Int) ∧ Hid (wr.ownsRow B 9 1 v3 (keysTo m.E g k).length ((keysTo m.E g k).map strv)) ∧ ArW wr B a m.H m.L ∧ Hid (TbC wr B t a hd m.E (.slice (some ⟨gh, 0, none⟩) hd.length ch) (.slice Ae m.E.length ce)) ∧ Keep B [51, 9] none w wr) (fun _ v15 _ => nb - (intOf v15).toNat)
  case atStart => exact ⟨0, by omega, rfl, Lib.hid ⟨rfl, .inl ⟨rfl, rfl⟩⟩, HA.out, HT, Keep.refl _ _ _ _⟩
  case round =>
    obtain ⟨k, hk, rfl, hr, hA1, hT1, hK1⟩ := hrel
    have HA1 := Lib.hid hA1; have HK1 := Lib.hid hK1
    clear hA1 hK1
    by_cases hlt : k < nb
    · obtain ⟨c, hc⟩ : ∃ c, hd[k]? = some c := ⟨_, List.getElem?_eq_getElem (by rw [← HNB.out]; exact hlt)⟩
      have hcell : wr.cell? ⟨gh, k, none⟩ = some (.int .i64 (c : Int)) := row_cell hT1.out.2.2.1 k (intv c) (by rw [List.getElem?_map, hc]; rfl)
      obtain ⟨x, hx, hsp⟩ := HG.out.ch k c hc
      have hcl : c ∈ m.L := HG.out.ol c (by rw [HG.out.hb k c hc]; exact fun e => by cases e)
      have HF := Lib.hid (load_any B a c x m.H m.L wr HA1.out hcl hx)
      have y0 := box_cells hT1.out.1 0 (.pointer (some ⟨a, 0, none⟩)) rfl
      have i0 : (0 : Int) ≤ (k : Int) := by omega
      have i1 : (k : Int) < (nb : Int) := by omega
      have HSP := Lib.hid hsp
      clear hc hx hsp hcl
      go_wp2_with fail
      refine HF.out.mono ?_
      rintro e w2 ⟨rfl, hA2, hk2⟩
      have HA2 := Lib.hid hA2; have HK2 := Lib.hid hk2
      clear hA2 hk2 y0 hcell
      go_wp2_with fail
      go_loopw [3, 6] (fun v3 v6 wq => ∃ (dn rest : List Nat) (x : Nat), v6 = .int .u64 (x : Int) ∧ Hid (g.C k = dn ++ rest) ∧ Hid (Spell m.H m.E x rest) ∧ Hid (wq.ownsRow B 9 1 v3 (keysTo m.E g k ++ dn.map (eK m.E)).length ((keysTo m.E g k ++ dn.map (eK m.E)).map strv)) ∧ ArW wq B a m.H m.L ∧ Hid (TbC wq B t a hd m.E (.slice (some ⟨gh, 0, none⟩) hd.length ch) (.slice Ae m.E.length ce)) ∧ Keep B [51, 9] none wr wq) (fun v3 _ _ => 100 - lenV v3)
      case atStart => exact ⟨[], g.C k, x, rfl, Lib.hid rfl, HSP, Lib.hid (by simpa using HK2.out.row hr.out rfl (by simp)), HA2.out, Lib.hid (hT1.out.keep HK2.out rfl rfl rfl (by simp)), HK2.out.mono rfl⟩
      case round =>
        obtain ⟨dn, rest, x, rfl, hC, hsp, hr3, hA3, hT3, hK3⟩ := hrel
        have HA3 := Lib.hid hA3; have HK3 := Lib.hid hK3
        clear hA3 hK3
        have hlen : (keysTo m.E g k ++ dn.map (eK m.E)).length + rest.length ≤ 40 := by
          have h1 := keysTo_len HG.out (k + 1)
          rw [keysTo_next, hC.out] at h1
          simp at h1 ⊢
          omega
        cases rest with
        | nil =>
          have hx0 : x = 0 := hsp.out
          subst hx0
          have hcc : g.C k = dn := by rw [hC.out, List.append_nil]
          have HR := Lib.hid (show wr.ownsRow B 9 1 _ (keysTo m.E g (k + 1)).length ((keysTo m.E g (k + 1)).map strv) by rw [keysTo_next, hcc]; exact hr3.out)
          have HKK := Lib.hid (HK1.out.trans HK3.out)
          clear hlen hcc
          go_wp2_with fail
          go_roundw
          case rel => exact ⟨k + 1, by omega, by go_num, HR, HA3.out, hT3, HKK.out⟩
          case measure => simp [intOf]; omega
        | cons n rest =>
          obtain ⟨hxn, hn0, e, x', he, hx', hsp'⟩ := hsp.out
          subst hxn
          obtain ⟨ge, capE, hsl, hce, e0, e1, e2⟩ := hT3.out.there he
          injection hsl with s1 _ s3
          subst s1 s3
          have hmem : x ∈ g.C k := by rw [hC.out]; simp
          have hel2 := (HG.out.entry_le hmem).2
          have hcl : e.cell ∈ m.L := HG.out.ol _ (by rw [HG.out.ent hmem he]; exact fun e => by cases e)
          have HAT := Lib.hid (fun w' : World => at_any ge x m.E.length ce w' hn0 hel2 hel)
          obtain ⟨ul, hul⟩ : ∃ ul, ul = (keysTo m.E g k ++ dn.map (eK m.E)).length := ⟨_, rfl⟩
          have HUL := Lib.hid hul
          have hlen2 : ul + 1 ≤ 40 := by rw [hul]; simp only [List.length_cons] at hlen; omega
          have HR3 := Lib.hid hr3.out
          rw [← hul] at HR3
          have hlv := row_lenV HR3.out
          obtain ⟨Av, cv, hvv⟩ := row_slice HR3.out
          subst hvv
          have y2 := box_cells hT3.out.1 2 (.slice (some ⟨ge, 0, none⟩) m.E.length ce) rfl
          have tn : (0 : Int) < (x : Int) := by omega
          have hbw : B ≤ wr.heap.size := Nat.le_trans (Nat.le_trans hBs HK1.out.size) HK3.out.size
          have HE := Lib.hid he; have HX' := Lib.hid hx'; have HSP' := Lib.hid hsp'; have HCL := Lib.hid hcl; have HEK := Lib.hid (eK_some he)
          clear he hx' hsp' hcl hlen hul e1 hlv hmem e2
          go_upto_region 9 with (first | (go_at_call 20; refine (HAT.out _).mono ?_; rintro e9 w9 ⟨rfl, rfl⟩) | (at_builtin; refine append_one B wr.heap.size rfl 22 9 1 16 _ Tryd.underlying22 info9 rfl (by omega) rfl (.tmp 47) (.tmp 57) rfl _ ul ((keysTo m.E g k ++ dn.map (eK m.E)).map strv) #[.string (bs e.key)] rfl ?hy rfl rfl HR3.out ?hb ?hl1 ?hl2 ?_; (case hy => intro u hu; simp at hu; subst hu; rfl); (case hb => exact hbw); (case hl1 => omega); (case hl2 => omega); intro v1 w3 ho3 hb3 hg3 hat3; have HO3 := Lib.hid ho3; have HG3 := Lib.hid hg3; clear ho3 hg3 hat3 hb3))
          have hk3 : Keep B [9] none wr w3 := Keep.of_append HG3.out HR3.out hbw rfl
          have hT4 := hT3.out.keep hk3 rfl rfl rfl (by simp)
          have hA4 := HA3.out.keep hk3 rfl rfl (by simp)
          have HF4 := Lib.hid (load_any B a e.cell x' m.H m.L w3.drew (hA4.keep (Keep.refl B [] none w3).drew rfl rfl (by simp)) HCL.out HX'.out)
          obtain ⟨_, _, d2⟩ := hT4.at HE.out
          clear y2
          have y0 := box_cells hT4.1 0 (.pointer (some ⟨a, 0, none⟩)) rfl
          have y2 := box_cells hT4.1 2 (.slice (some ⟨ge, 0, none⟩) m.E.length ce) rfl
          have HT4 := Lib.hid hT4; have HK3' := Lib.hid hk3
          clear hT4 hA4 hk3 e0
          go_region_held3 (fun W => W.cell? ⟨t, 0, none⟩ = some (.pointer (some ⟨a, 0, none⟩)) ∧ W.cell? ⟨t, 2, none⟩ = some (.slice (some ⟨ge, 0, none⟩) m.E.length ce) ∧ W.cell? ⟨ge, (x - 1) * 3 + 2, none⟩ = some (.int .i64 (e.cell : Int))) (simp [*]) (first
            | (go_at_call 20; refine (HAT.out _).mono ?_; rintro e9 w9 ⟨rfl, rfl⟩)
            | (go_at_call 19; refine HF4.out.mono ?_; rintro e9 w4 ⟨rfl, hA5, hk5⟩; have hk6 : Keep B [51] none w3 w4 := (Keep.refl B [51] none w3).drew.trans hk5; have hT5 := HT4.out.keep hk6 rfl rfl rfl (by simp); have r0 := box_cells hT5.1 0 (.pointer (some ⟨a, 0, none⟩)) rfl; have r2 := box_cells hT5.1 2 (.slice (some ⟨ge, 0, none⟩) m.E.length ce) rfl; have rd := (hT5.at HE.out).2.2; have HA5 := Lib.hid hA5; have HT5 := Lib.hid hT5; have HK5 := Lib.hid hk6; clear hA5 hk5 hk6 hT5))
          have hr5 := HK5.out.row HO3.out rfl (by simp)
          have hkk : eK m.E x = e.key := HEK.out
          have HR5 := Lib.hid hr5; have HKK := Lib.hid hkk
          rename_i hheld
          clear hheld r0 r2 rd y0 y2 d2 hr5 hkk
          go_wp2_with fail
          go_roundw
          case rel => exact ⟨dn ++ [x], rest, x', rfl, Lib.hid (by rw [hC.out]; simp), HSP', Lib.hid (by
            rw [List.map_append, ← List.append_assoc, List.length_append, ← HUL.out, List.map_append]
            show _ ∧ _
            rw [List.map_cons, List.map_nil, HKK.out]
            exact HR5.out), HA5.out, HT5, (HK3.out.trans (HK3'.out.mono rfl)).trans (HK5.out.mono rfl)⟩
          case measure =>
            have := row_lenV HR5.out
            rw [this]
            simp [lenV]
            omega
    · have hkk : k = nb := by omega
      subst hkk
      have hlen := keysTo_len HG.out k
      have hr1 : wr.ownsRow B 9 1 _ (keysTo m.E g k).length ((keysTo m.E g k).map strv) := hr.out
      have HSO := Lib.hid (sort_own hr1 (by omega) (Nat.le_trans hBs HK1.out.size))
      have HS := Lib.hid (sorted_strict (keysTo_nodup HG.out k))
      clear hlen hr1
      go_wp2_with fail
      refine HSO.out.mono ?_
      rintro e w2 ⟨rfl, hr2, hk2⟩
      have HR2 := Lib.hid hr2; have HK2 := Lib.hid hk2
      clear hr2 hk2
      go_wp2_with fail
      go_ret
      refine ⟨_, (keysTo m.E g k).mergeSort fun x y => decide (x ≤ y), rfl, by rw [List.length_mergeSort]; exact HR2.out, HS.out, fun x => ?_, HK1.out.trans (HK2.out.mono rfl), HA1.out.keep HK2.out rfl rfl (by simp)⟩
      rw [(List.mergeSort_perm _ _).mem_iff, keysTo_mem, HNB.out]
end Go.Proofs.YtfolchpjccjadaaDoor
