/- The walk of frame.Put: a frame is laid behind bytes. -/
import Derived.Test.YtggjipfdfpdecaaFrB
import Derived.Test.YtggjipfdfpdecaaNumC
import Derived.Deep.LoopGhost
namespace Go.Proofs.Ytggjipfdfpdecaa
open Go.RowKit

set_option maxRecDepth 100000 in
set_option maxHeartbeats 1000000 in
theorem fput_bad (v vb : Value) (b body : List UInt8) (seq : Int) (w : World) (hb : RdB w v b) (hbody : RdB w vb body) (hl : b.length ≤ 140737488355328) (hl2 : body.length ≤ 140737488355328) (hbad : b.length % 32 ≠ 0 ∨ 65536 < body.length) :
    Calls Try.prog 38 #[v, .int .u64 seq, vb] w fun e w' => e = .returned (.tuple #[.slice none 0 0, .int .i64 (if b.length % 32 ≠ 0 then 2 else 40)]) ∧ w = w' := by
  obtain ⟨A, c, rfl, _, _, _⟩ := id hb
  obtain ⟨A2, c2, rfl, _, _, _⟩ := id hbody
  by_cases h1 : b.length % 32 ≠ 0
  · have t1 : (((b.length : Int) % 32) != 0) = true := by rw [bne_iff_ne]; omega
    rw [if_pos h1]
    go_enter Try.func38, Try.ntmps38
    go_wp2_with fail
    go_ret2
    exact ⟨rfl, rfl⟩
  · have t1 : (((b.length : Int) % 32) != 0) = false := by rw [bne_eq_false_iff_eq]; omega
    have t2 : (65536 : Int) < (body.length : Int) := by omega
    rw [if_neg h1]
    go_enter Try.func38, Try.ntmps38
    go_wp2_with fail
    go_ret2
    exact ⟨rfl, rfl⟩

theorem RdB.in2 {w : World} {v : Value} {l : List UInt8} (h : RdB w v l) (N : Nat) : ∃ g, RdIn w g v l ∧ (g < w.heap.size ∨ N ≤ g) := by
  obtain ⟨A, c, hv, h1, h2, h3⟩ := h
  by_cases hp : 0 < l.length
  · obtain ⟨ad, hA, hc⟩ := h3 hp
    refine ⟨ad.block, ⟨A, c, hv, h1, h2, fun _ => ⟨ad, hA, rfl, hc⟩⟩, .inl ?_⟩
    have := World.block_lt_of_cell? w _ (hc 0 hp)
    rwa [add_block] at this
  · exact ⟨N, ⟨A, c, hv, h1, h2, fun h => absurd h hp⟩, .inr (Nat.le_refl _)⟩
theorem Own.in2 {w : World} {base : Nat} {v : Value} {l : List UInt8} (h : Own w base v l) (N : Nat) (hN : base ≤ N) : ∃ g, RdIn w g v l ∧ base ≤ g ∧ (g < w.heap.size ∨ N ≤ g) := by
  cases e : v.ownBlock with
  | some k =>
    have := World.ownsRow.lt h k e
    exact ⟨k, h.in_ k (.inl e), this.1, .inl this.2⟩
  | none => exact ⟨N, h.in_ N (.inr e), hN, .inr (Nat.le_refl _)⟩
theorem own_blk {w : World} {base : Nat} {v : Value} {l : List UInt8} (h : Own w base v l) {g : Nat} (hg : g < base ∨ w.heap.size ≤ g) : v.ownBlock ≠ some g := by
  intro e
  have := World.ownsRow.lt h g e
  omega
theorem rest_below {w w1 : World} {ga go B : Nat} {u : Value} {lo : List UInt8} (h : Rest w w1 ga go u) (ho : Own w B u lo) (ha : B ≤ ga) (hg : B ≤ go) (hB : B ≤ w.heap.size) : Below B w w1 :=
  ⟨h.1, h.2.1, h.2.2.1, h.2.2.2.1, fun k hk => h.2.2.2.2 k (by omega) (by omega) (by omega) (own_blk ho (.inl hk))⟩
theorem PutSt.keep {w w' : World} {B ga go a : Nat} {u : Value} {lo : List UInt8} (h : PutSt w B ga go a u lo) (hb : Below w.heap.size w w') : PutSt w' B ga go a u lo :=
  ⟨(hb.block ga (Array.getElem?_eq_some_iff.1 h.cga).1).trans h.cga, (hb.block go (Array.getElem?_eq_some_iff.1 h.cgo).1).trans h.cgo, h.own.below hb, h.hBa, h.hBo, h.hne⟩
theorem PutSt.lt {w : World} {B ga go a : Nat} {u : Value} {lo : List UInt8} (h : PutSt w B ga go a u lo) : ga < w.heap.size ∧ go < w.heap.size := ⟨(Array.getElem?_eq_some_iff.1 h.cga).1, (Array.getElem?_eq_some_iff.1 h.cgo).1⟩

set_option maxRecDepth 100000 in
set_option maxHeartbeats 800000 in
theorem fput_any (v vb : Value) (b body : List UInt8) (seq : Nat) (w : World) (hb : RdB w v b) (hbody : RdB w vb body) (hseq : seq < 18446744073709551616) (hl : b.length ≤ 140737400000000) (h1 : b.length % 32 = 0) (h2 : body.length ≤ 65536) :
    Calls Try.prog 38 #[v, .int .u64 seq, vb] w fun e w' => ∃ v', e = .returned (.tuple #[v', .int .i64 0]) ∧ Own w' w.heap.size v' (b ++ frameOf seq body) ∧ Below w.heap.size w w' := by
  obtain ⟨A, c, rfl, _, _, _⟩ := id hb
  obtain ⟨A2, c2, rfl, _, _, _⟩ := id hbody
  have t1 : (((b.length : Int) % 32) != 0) = false := by rw [bne_eq_false_iff_eq]; omega
  have t2 : ¬ (65536 : Int) < (body.length : Int) := by omega
  have HB := Lib.hid hb; clear hb
  have HD := Lib.hid hbody; clear hbody
  have HSQ := Lib.hid hseq; clear hseq
  have H1 := Lib.hid h1; clear h1
  go_enter Try.func38, Try.ntmps38
  go_wp2_with fail
  refine (clone_any _ b _ HB.out (by omega)).mono ?_
  rintro e w1 ⟨v1, rfl, ho1, hb1⟩
  obtain ⟨A3, c3, rfl, _, _, _⟩ := ho1.rd
  have HO1 := Lib.hid ho1; clear ho1
  have HB1 := Lib.hid hb1; clear hb1
  go_wp2_with fail
  obtain ⟨w2, hw2⟩ : ∃ w2, w2 = (w1.alloc (.cells #[Value.slice A3 b.length c3] 25)).alloc (.cells #[Value.int .i64 0] 3) := ⟨_, rfl⟩
  have hb12 : Below w1.heap.size w1 w2 := by rw [hw2]; exact ((Below.refl _ _).alloc (Nat.le_refl _) _).alloc (by simp) _
  have hs2 : w2.heap.size = w1.heap.size + 2 := by rw [hw2]; simp
  have hst2 : PutSt w2 w.heap.size (w1.heap.size + 1) w1.heap.size 0 (.slice A3 b.length c3) b := by
    refine ⟨?_, ?_, HO1.out.below hb12, by have := HB1.out.size; omega, HB1.out.size, by omega⟩
    · rw [hw2]
      have := heap_alloc_new (w1.alloc (.cells #[Value.slice A3 b.length c3] 25)) (.cells #[Value.int .i64 0] 3)
      rwa [World.size_alloc] at this
    · rw [hw2, heap_alloc_old _ _ (by simp)]
      exact heap_alloc_new w1 _
  rw [← hw2]
  have hb2 : Below w.heap.size w w2 := HB1.out.trans (hb12.mono HB1.out.size)
  clear hw2 hb12 HO1
  have HS2 := Lib.hid hs2; clear hs2
  have hub : ∀ k, (Value.slice A3 b.length c3).ownBlock = some k → k < w2.heap.size := fun k hk => (World.ownsRow.lt hst2.own k hk).2
  have HUB := Lib.hid hub; clear hub
  have HST := Lib.hid hst2; clear hst2
  have HB2 := Lib.hid hb2; clear hb2
  obtain ⟨ga, hga⟩ : ∃ ga, ga = w1.heap.size + 1 := ⟨_, rfl⟩
  obtain ⟨go, hgo⟩ : ∃ go, go = w1.heap.size := ⟨_, rfl⟩
  rw [← hga, ← hgo] at HST
  rw [← hga, ← hgo]
  clear hga hgo HS2 HB1
  refine (fnumber_any w2.heap.size _ [] seq 8 w2 (by omega) (by simp) (Nat.le_refl _) (Own.nil _ _)).mono ?_
  rintro e w3 ⟨v3, rfl, ho3, hb3⟩
  have HO3 := Lib.hid ho3; clear ho3
  have HB3 := Lib.hid hb3; clear hb3
  go_wp2_with fail
  refine (fnumber_any w2.heap.size _ _ body.length 4 w3 (by omega) (by simp [le_len]) HB3.out.size HO3.out).mono ?_
  rintro e w4 ⟨v4, rfl, ho4, hb4⟩
  simp only [List.nil_append] at ho4
  obtain ⟨h12, hh12⟩ : ∃ h, h = le seq 8 ++ le body.length 4 := ⟨_, rfl⟩
  rw [← hh12] at ho4
  have HH12 := Lib.hid hh12; clear hh12
  have hb24 := HB3.out.trans hb4
  have hb04 := HB2.out.trans (hb24.mono HB2.out.size)
  have HB4 := Lib.hid hb04; clear hb04
  have HB24 := Lib.hid hb24; clear hb24 hb4 HB3 HO3
  obtain ⟨A4, c4, rfl, _, _, _⟩ := ho4.rd
  have HO4 := Lib.hid ho4; clear ho4
  go_wp2_with fail
  refine (crc_one _ h12 _ HO4.out.rd).mono ?_
  rintro e w' ⟨rfl, rfl⟩
  go_wp2_with fail
  have hb5 : Below w4.heap.size w4 (w4.alloc (.cells #[Value.slice A4 h12.length c4] 25)) := (Below.refl _ _).alloc (Nat.le_refl _) _
  have hcl := (crc h12).isLt
  refine (fnumber_any w2.heap.size _ h12 (crc h12).toNat 4 _ (by omega) (by rw [HH12.out]; simp [le_len]) (Nat.le_trans HB24.out.size hb5.size) (HO4.out.below hb5)).mono ?_
  rintro e w6 ⟨v6, rfl, ho6, hb6⟩
  obtain ⟨h16, hh16⟩ : ∃ h, h = h12 ++ le (crc h12).toNat 4 := ⟨_, rfl⟩
  rw [← hh16] at ho6
  have hhd : h16 = hdc seq body.length := by rw [hh16, HH12.out]; rfl
  have hl16 : h16.length = 16 := by rw [hhd]; exact hdc_len _ _
  have HHD := Lib.hid hhd; clear hhd hh16
  have HL16 := Lib.hid hl16; clear hl16
  have hb26 : Below w2.heap.size w2 w6 := (HB24.out.trans (hb5.mono HB24.out.size)).trans hb6
  have hst6 := HST.out.keep hb26
  have hb06 := HB2.out.trans (hb26.mono HB2.out.size)
  have HB6 := Lib.hid hb06; clear hb06
  have hs26 := hb26.size
  clear hb26 hb6 hb5 HB24 HO4
  have hlt2 := HST.out.lt
  clear HST
  obtain ⟨gh, c6, rfl, hgh1, hgh2, hc6, hm6⟩ := ho6.form (by have := HL16.out; omega)
  have hin6 := ho6.in_ gh (.inl rfl)
  have HO6 := Lib.hid ho6; clear ho6
  have hlt6 := hst6.lt
  have hB26 : w.heap.size ≤ w2.heap.size := HB2.out.size
  have hgu : (Value.slice A3 b.length c3).ownBlock ≠ some gh := by
    intro e
    have := HUB.out _ e
    omega
  go_wp2_with fail
  refine (putClosure_any w.heap.size ga go 0 _ b gh _ h16 w6 hst6 hin6 (by omega) (by omega) hgu (by have := HL16.out; omega) (by omega) (by omega) (by omega)).mono ?_
  rintro e w7 ⟨u7, rfl, hst7, hr7, hn7⟩
  have hin7 := hin6.rest hr7 (by omega) (by omega) hgu
  have hb67 := rest_below hr7 hst6.own (by have := hst6.hBa; omega) (by have := hst6.hBo; omega) (by omega)
  have hb07 := HB6.out.trans hb67
  have hu7 : u7.ownBlock ≠ some gh := by
    rcases hn7 with e | ⟨k, e, hk⟩
    · rw [e]; exact hgu
    · rw [e]; intro h; injection h with h; omega
  have hlt7 := hst7.lt
  have hBa := hst7.hBa
  have hBo := hst7.hBo
  have hs67 : w6.heap.size ≤ w7.heap.size := hb67.size
  rw [Nat.zero_add] at hst7
  have hl7 : (b ++ lay 0 h16).length ≤ b.length + 32 := by
    have := lay_le h16 0
    have := HL16.out
    rw [List.length_append]; omega
  clear hb67 hr7 hn7 hst6 hin6
  have HB7 := Lib.hid hb07; clear hb07 HB6
  -- the body
  obtain ⟨gb, hinb, hgb⟩ := HD.out.in2 w7.heap.size
  have hs07 : w.heap.size ≤ w7.heap.size := HB7.out.size
  have hinb7 : RdIn w7 gb (.slice A2 body.length c2) body := hinb.keep fun hlt => HB7.out.block gb hlt
  have hub7 : u7.ownBlock ≠ some gb := own_blk hst7.own (by omega)
  have HU7 := Lib.hid hu7; clear hu7
  have HST7 := Lib.hid hst7; clear hst7
  have HIN7 := Lib.hid hin7; clear hin7
  have HINB7 := Lib.hid hinb7; clear hinb7 hinb
  have HUB7 := Lib.hid hub7; clear hub7 hgu
  go_wp2_with fail
  refine (putClosure_any w.heap.size ga go h16.length u7 (b ++ lay 0 h16) gb _ body w7 HST7.out HINB7.out (by omega) (by omega) HUB7.out (by omega) (by have := HL16.out; omega) (by omega) (by omega)).mono ?_
  rintro e w8 ⟨u8, rfl, hst8, hr8, hn8⟩
  have hin8 := HIN7.out.rest hr8 (by omega) (by omega) HU7.out
  have hinb8 := HINB7.out.rest hr8 (by omega) (by omega) HUB7.out
  have hb78 := rest_below hr8 HST7.out.own (by omega) (by omega) (by omega)
  have hb08 := HB7.out.trans hb78
  have hlt8 := hst8.lt
  have hs78 : w7.heap.size ≤ w8.heap.size := hb78.size
  have hl8 : (b ++ lay 0 h16 ++ lay h16.length body).length ≤ b.length + 32 + 131072 := by
    have := lay_le body h16.length
    rw [List.length_append]; omega
  clear hb78 hr8 hn8 HST7 HIN7 HINB7
  have HB8 := Lib.hid hb08; clear hb08 HB7
  have HST8 := Lib.hid hst8; clear hst8
  have HH8 := Lib.hid hin8.rd; clear hin8
  have HBD8 := Lib.hid hinb8.rd; clear hinb8
  obtain ⟨l8, hl8d⟩ : ∃ l8, l8 = b ++ lay 0 h16 ++ lay h16.length body := ⟨_, rfl⟩
  rw [← hl8d] at HST8 hl8
  have HL8 := Lib.hid hl8d; clear hl8d
  go_wp2_with fail
  refine (crc_twoH w8.heap.size _ _ h16 body w8 HH8.out HBD8.out rfl).mono ?_
  rintro e w' ⟨rfl, rfl⟩
  obtain ⟨w9, hw9⟩ : ∃ w9, w9 = w8.alloc (.cells #[Value.slice (some ⟨gh, 0, none⟩) h16.length c6, Value.slice A2 body.length c2] 25) := ⟨_, rfl⟩
  have hb89 : Below w8.heap.size w8 w9 := by rw [hw9]; exact (Below.refl _ _).alloc (Nat.le_refl _) _
  rw [← hw9]
  clear hw9
  have hcl2 := (crc (h16 ++ body)).isLt
  obtain ⟨q, hq⟩ : ∃ q, q = (crc (h16 ++ body)).toNat := ⟨_, rfl⟩
  rw [← hq] at hcl2 ⊢
  have HQ := Lib.hid hq; clear hq
  go_wp2_with fail
  refine (fnumber_any w9.heap.size _ [] q 4 w9 (by omega) (by simp) (Nat.le_refl _) (Own.nil _ _)).mono ?_
  rintro e w10 ⟨v10, rfl, ho10, hb10⟩
  rw [List.nil_append] at ho10
  have hst10 := HST8.out.keep (hb89.trans (hb10.mono hb89.size))
  have hb010 := HB8.out.trans ((hb89.trans (hb10.mono hb89.size)).mono HB8.out.size)
  have hs89 := hb89.size
  have hs910 := hb10.size
  have hu10 : ∀ k, u8.ownBlock = some k → k < w8.heap.size := fun k hk => (World.ownsRow.lt HST8.out.own k hk).2
  obtain ⟨g10, c10, rfl, hg10, hg10', _, _⟩ := ho10.form (by rw [le_len]; omega)
  have hin10 := ho10.in_ g10 (.inl rfl)
  have hub10 : u8.ownBlock ≠ some g10 := by intro e; have := hu10 _ e; omega
  clear hb89 hb10 HST8 hu10 ho10
  have HB10 := Lib.hid hb010; clear hb010 HB8
  have HST10 := Lib.hid hst10; clear hst10
  have HIN10 := Lib.hid hin10; clear hin10
  have HUB10 := Lib.hid hub10; clear hub10
  obtain ⟨s4, hs4⟩ : ∃ s, s = le q 4 := ⟨_, rfl⟩
  have hs4l : s4.length ≤ 4 := by rw [hs4, le_len]; omega
  rw [← hs4] at HIN10 ⊢
  have HS4 := Lib.hid hs4; clear hs4
  go_wp2_with fail
  refine (putClosure_any w.heap.size ga go (h16.length + body.length) u8 l8 g10 _ s4 w10 HST10.out HIN10.out (by omega) (by omega) HUB10.out (by omega) (by have := HL16.out; omega) (by omega) (by omega)).mono ?_
  rintro e w11 ⟨u11, rfl, hst11, hr11, hn11⟩
  have hb11 := rest_below hr11 HST10.out.own (by omega) (by omega) (by omega)
  have hb011 := HB10.out.trans hb11
  have HB11 := Lib.hid hb011; clear hb011 hb11 hr11 hn11 HB10 HST10
  have hstr : l8 ++ lay (h16.length + body.length) s4 = b ++ lay 0 (stream seq body) := by
    rw [HL8.out, HS4.out, HQ.out, HHD.out, stream, lay_append, lay_append, Nat.zero_add, Nat.zero_add, List.length_append]
    simp
  have hsl : h16.length + body.length + s4.length = 20 + body.length := by rw [HL16.out, HS4.out, le_len]; omega
  rw [hstr, hsl] at hst11
  have HST11 := Lib.hid hst11; clear hst11 hstr hsl
  clear HIN10 HUB10 HS4 HL8 HQ HHD HH12 HH8 HBD8
  go_wp2_with fail
  go_loopg [] (pads (20 + body.length)) (fun gq wr => ∃ (u1 : Value) (j : Nat), j + gq = pads (20 + body.length) ∧ PutSt wr w.heap.size ga go (20 + body.length + j) u1 (b ++ lay 0 (stream seq body ++ List.replicate j 0)) ∧ Below w.heap.size w wr)
  case atStart => exact ⟨u11, 0, by omega, by simpa using HST11.out, HB11.out⟩
  case round =>
    obtain ⟨u1, j, hj, hst, hb⟩ := hrel
    have hpp : pads (20 + body.length) ≤ 30 := by unfold pads; omega
    have hsb : (stream seq body).length = 20 + body.length := stream_len _ _
    have hll : (b ++ lay 0 (stream seq body ++ List.replicate j 0)).length ≤ b.length + 140000 := by
      have := lay_le (stream seq body ++ List.replicate j 0) 0
      rw [List.length_append, List.length_replicate, hsb] at this
      rw [List.length_append]
      omega
    obtain ⟨lx, hlx⟩ : ∃ lx, lx = b ++ lay 0 (stream seq body ++ List.replicate j 0) := ⟨_, rfl⟩
    rw [← hlx] at hst hll
    have c1 := hst.cellA
    have c2' := hst.cellO
    have hlt := hst.lt
    have hbe := hb.size
    have HST := Lib.hid hst; clear hst
    have HB := Lib.hid hb; clear hb
    have hnm : ¬ ga = go := HST.out.hne
    have hBa := HST.out.hBa
    have hBo := HST.out.hBo
    have HLL := Lib.hid hll; clear hll
    have HSB := Lib.hid hsb; clear hsb
    have HLX := Lib.hid hlx; clear hlx
    cases gk with
    | succ g1 =>
      have t3 : (((20 + body.length + j : Nat) : Int) % 31 != 0) = true := by rw [bne_iff_ne]; unfold pads at hj; omega
      have HJ := Lib.hid hj; clear hj
      go_wp2_with fail
      have hb1 : Below wr.heap.size wr (wr.alloc (.cells #[.int .u8 0] 5)) := (Below.refl _ _).alloc (Nat.le_refl _) _
      have hin : RdIn (wr.alloc (.cells #[.int .u8 0] 5)) wr.heap.size (.slice (some ⟨wr.heap.size, 0, none⟩) 1 1) [0] := by
        refine ⟨_, 1, rfl, by simp, by simp [maxLen], fun _ => ⟨_, rfl, rfl, fun i hi => ?_⟩⟩
        obtain rfl : i = 0 := by simp at hi; omega
        rw [addp, cell_of_row (wr.alloc (.cells #[.int .u8 0] 5)) wr.heap.size 0 _ 5 (0, 0) (heap_alloc_new wr _)]
        rfl
      have hst1 := HST.out.keep hb1
      have hu1 : u1.ownBlock ≠ some wr.heap.size := own_blk HST.out.own (.inr (Nat.le_refl _))
      have hpj : j ≤ 30 := by have := HJ.out; omega
      refine (putClosure_any w.heap.size ga go (20 + body.length + j) u1 _ wr.heap.size _ [0] _ hst1 hin (by omega) (by omega) hu1 (by simp) (by omega) (by have := HLL.out; omega) (by simp; omega)).mono ?_
      rintro e w12 ⟨u2, rfl, hst2, hr2, hn2⟩
      have hb2 := rest_below hr2 hst1.own (by omega) (by omega) (by simp; omega)
      have hb3 := (HB.out.alloc HB.out.size (.cells #[.int .u8 0] 5)).trans hb2
      have hlx2 : lx ++ lay (20 + body.length + j) [0] = b ++ lay 0 (stream seq body ++ List.replicate (j + 1) 0) := by
        rw [HLX.out, List.replicate_succ', ← List.append_assoc (stream seq body), lay_append _ [0] 0, List.append_assoc]
        simp [HSB.out]
      rw [hlx2] at hst2
      have HST2 := Lib.hid hst2; clear hst2 hlx2 hst1 hin hr2 hn2 hb2 hb1
      have HB3 := Lib.hid hb3; clear hb3
      go_wp2_with fail
      go_roundg g1
      case measure => omega
      case rel => exact ⟨u2, j + 1, by have := HJ.out; omega, HST2.out, HB3.out⟩
    | zero =>
      have t3 : (((20 + body.length + j : Nat) : Int) % 31 != 0) = false := by rw [bne_eq_false_iff_eq]; unfold pads at hj; omega
      obtain rfl : j = pads (20 + body.length) := by omega
      have hpad : stream seq body ++ List.replicate (pads (20 + body.length)) 0 = padded (stream seq body) := by rw [padded, HSB.out]
      have hfl : (lay 0 (padded (stream seq body))).length = 32 * bl body.length := lay_len _ _ (padded_len _ _)
      have hlxl : lx.length = b.length + 32 * bl body.length := by rw [HLX.out, hpad, List.length_append, hfl]
      have hbp := bl_pos body.length
      have hpos : b.length < lx.length := by omega
      have hset : lx.set b.length 0xA1 = b ++ frameOf seq body := by
        rw [HLX.out, hpad, List.set_append_right _ _ (Nat.le_refl _), Nat.sub_self]
        rfl
      have HSET := Lib.hid hset; clear hset hlxl hfl hpad
      obtain ⟨gu, cu, hue, hgu1, hgu2, hcu, hmu⟩ := HST.out.own.form (by omega)
      have hneg : ¬ gu = go := by
        have := own_ne_block HST.out.own HST.out.cgo (by decide)
        rw [hue] at this
        intro e
        exact this (by rw [e]; rfl)
      have hneg2 : ¬ go = gu := fun e => hneg e.symm
      have hown := HST.out.own
      rw [hue] at c2' hown
      obtain ⟨hcl, hfr⟩ := hown.at_ b.length hpos
      rw [bv_nat] at hcl
      have hs := hown.set_ b.length 0xA1
      rw [HSET.out] at hs
      have HS := Lib.hid hs; clear hs hown hue
      simp only [maxLen] at hmu
      have hbm : (b.length : Int) ≤ 140737400000000 := by omega
      have h0b : (0 : Int) ≤ (b.length : Int) := by omega
      clear hlt hbe hBa hBo hj
      go_wp2_with fail
      go_ret2
      exact ⟨_, rfl, HS.out.1, HB.out.trans HS.out.2⟩
end Go.Proofs.Ytggjipfdfpdecaa
