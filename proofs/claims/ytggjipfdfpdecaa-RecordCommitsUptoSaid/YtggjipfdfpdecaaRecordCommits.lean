/- The walk of the law RecordCommits: the program and the document write commits alike; what is handed in stays. Condition: what comes in has together at most 1048576 values and letters. -/
import Derived.Test.YtggjipfdfpdecaaRcAr
set_option linter.unusedVariables false
namespace Go.Proofs.Ytggjipfdfpdecaa
open Go.RowKit
attribute [local go_sem] bs_list bs_size

theorem froz_all {w : World} {g : Nat} {cs : Array Value} {t : TypeId} (h : w.heap[g]? = some (.cells cs t (0, 0))) : ∀ o, w.frozen? ⟨g, o, none⟩ = false := by intro o; simp [World.frozen?, h]
/-- The element behind. -/
def markW : Wri := ⟨[109, 97, 114, 107], [], false⟩

def Room3 (w : World) (B E : Nat) (A : Option Addr) (n : Nat) : Prop := 0 < n → ∃ g cur, A = some ⟨g, 0, none⟩ ∧ B ≤ g ∧ w.heap[g]? = some (.cells cur E (0, 0)) ∧ n * 3 ≤ cur.size
theorem Own3.room {w : World} {base B E n c : Nat} {A : Option Addr} {xs : List V3} (h : Own3 w base E (.slice A n c) xs) (hn : n = xs.length) (hB : B ≤ base) : Room3 w B E A n := by
  intro hp
  rcases h.2 with ⟨_, h0⟩ | ⟨g, cap, cur, hv, hb, hg, hc, hm, hs, ht⟩
  · omega
  · injection hv with h1 h2 h3
    subst h1
    exact ⟨g, cur, rfl, by omega, hg, by rw [hs]; omega⟩
theorem own_ne {g k n c : Nat} (h : g ≠ k) : (Value.slice (some ⟨g, 0, none⟩) n c).ownBlock ≠ some k := fun e => h (by simpa [Value.ownBlock] using e)
theorem keep2 {w : World} {g H o : Nat} {x y u : Value} (h : w.cell? ⟨H, o, none⟩ = some u) (hne : H ≠ g) : ((w.setCell ⟨g, 0, none⟩ x).setCell ⟨g, 1, none⟩ y).cell? ⟨H, o, none⟩ = some u :=
  (World.grownBy.cell_far ((only_one w g 0 x).trans (only_one _ g 1 y)) ⟨H, o, none⟩ (World.block_lt_of_cell? w _ h) (fun e => hne (Option.some.inj e))).trans h
theorem com_shape {w : World} {base : Nat} {v : Value} {ws : List Wri} (h : Own3 w base 66 v (ws.map wV ++ [wV markW])) : ∃ A c, v = .slice A (ws.length + 1) c := by
  obtain ⟨A, c, hv, _⟩ := h.rd
  refine ⟨A, c, ?_⟩
  rw [hv]
  simp
set_option maxRecDepth 100000 in
set_option maxHeartbeats 4000000 in
theorem recordCommits_any (t : Int) (v : Value) (ws : List Wri) (w : World) (hr : Rd3 w v (ws.map wV)) (hl : ws.length ≤ 1048576) (hkl : ∀ y ∈ ws, y.key.length + y.val.length ≤ 1048576) :
    Calls Try.prog 17 #[.agg #[.int .i64 t, v]] w fun e w' => e = .returned (.bool true) ∧ Below w.heap.size w w' := by
  obtain ⟨A, c, rfl, g1, g2, g3⟩ := id hr
  clear g1 g2 g3
  rw [List.length_map] at hr ⊢
  obtain ⟨H, hH⟩ : ∃ H, H = w.heap.size := ⟨_, rfl⟩
  obtain ⟨w0, hw0⟩ : ∃ w0, w0 = w.alloc (.cells #[.int .i64 t, .slice A ws.length c] 64) := ⟨_, rfl⟩
  have hb0 : Below w.heap.size w w0 := by rw [hw0]; exact (Below.refl _ _).alloc (Nat.le_refl _) _
  have hx0 : w0.heap[H]? = some (.cells #[.int .i64 t, .slice A ws.length c] 64 (0, 0)) := by rw [hw0, hH]; exact heap_alloc_new w _
  have HB0 := Lib.hid hb0; clear hb0
  have HX0 := Lib.hid hx0; clear hx0
  have HR := Lib.hid (fun (W : World) (h : Below w.heap.size w W) => hr.below h)
  have HKL := Lib.hid (fun (x : Wri) (hx : x ∈ ws) => show x.key.length ≤ 1048576 ∧ x.val.length ≤ 1048576 from by have := hkl x hx; omega)
  clear hr hkl
  go_enter Try.func17, Try.ntmps17
  go_upto_region 1 with fail
  rw [← hw0, ← hH]
  have HH := Lib.hid hH; clear hw0 hH
  go_wp2_with fail
  refine (rshown_any w0).mono ?_
  rintro e w1 ⟨rfl, hb1⟩
  have HX1 := Lib.hid (heap_below HX0.out hb1)
  have HB1 := Lib.hid (HB0.out.trans (hb1.mono HB0.out.size)); clear hb1
  have x0 := box_cells HX1.out 0 (.int .i64 t) rfl
  have x1 := box_cells HX1.out 1 (.slice A ws.length c) rfl
  have hsz : w.heap.size ≤ w1.heap.size := HB1.out.size
  have HRR := Lib.hid (fun (W : World) (h : Below w1.heap.size w1 W) => HR.out W (HB1.out.trans (h.mono hsz)))
  have hH1 : H < w1.heap.size := (Array.getElem?_eq_some_iff.1 HX1.out).1
  go_upto_region 2 with fail
  go_cut [4] (fun v4 wx => ∃ X A4 c4, v4 = .pointer (some ⟨X, 0, none⟩) ∧ wx.heap[X]? = some (.cells #[.int .i64 t, .slice A4 (ws.length + 1) c4] 64 (0, 0)) ∧ Own3 wx w1.heap.size 66 (.slice A4 (ws.length + 1) c4) (ws.map wV ++ [wV markW]) ∧ Below w1.heap.size w1 wx ∧ w1.heap.size ≤ X)
  case first =>
    have HYS := Lib.hid (show ∀ y ∈ ws.map wV, ∀ c ∈ y.cells, c.oneCell' = true from by intro y hy; obtain ⟨p, _, rfl⟩ := List.mem_map.1 hy; exact wV_one p)
    have HYM := Lib.hid (show ∀ y ∈ [wV markW], ∀ c ∈ y.cells, c.oneCell' = true from by intro y hy; rw [List.mem_singleton.1 hy]; exact wV_one markW)
    have HC0 := Lib.hid (fun (W : World) (h : Below w1.heap.size w1 W) => box_cells (heap_below HX1.out h) 0 (.int .i64 t) rfl)
    have HC1 := Lib.hid (fun (W : World) (h : Below w1.heap.size w1 W) => box_cells (heap_below HX1.out h) 1 (.slice A ws.length c) rfl)
    obtain ⟨WA, hWA⟩ : ∃ W, W = (w1.alloc (.cells #[] 66)).drew := ⟨_, rfl⟩
    have PBA := Lib.hid (show Below w1.heap.size w1 WA from by rw [hWA]; exact below_drew (below_alloc (Below.refl w1.heap.size w1) (Nat.le_refl _) (.cells #[] 66)))
    have POA := Lib.hid (show Own3 WA w1.heap.size 66 (.slice (some ⟨w1.heap.size, 0, none⟩) 0 0) [] from by rw [hWA]; exact Own3.drew (made3 w1 w1.heap.size 66 (w1.heap.size) (by simp) (by omega)))
    have PWA := Lib.hid hWA; clear hWA
    obtain ⟨WAB, hWAB⟩ : ∃ W, W = ((w1.alloc (.cells #[] 66)).alloc (.cells #[.string ⟨#[109, 97, 114, 107]⟩, .string ⟨#[]⟩, .bool false] 66)).drew := ⟨_, rfl⟩
    have PBAB := Lib.hid (show Below w1.heap.size w1 WAB from by rw [hWAB]; exact below_drew (below_alloc (below_alloc (Below.refl w1.heap.size w1) (Nat.le_refl _) (.cells #[] 66)) (Nat.le_refl _) (.cells #[.string ⟨#[109, 97, 114, 107]⟩, .string ⟨#[]⟩, .bool false] 66)))
    have POAB := Lib.hid (show Own3 WAB w1.heap.size 66 (.slice (some ⟨w1.heap.size, 0, none⟩) 0 0) [] from by rw [hWAB]; exact Own3.drew (Own3.alloc (made3 w1 w1.heap.size 66 (w1.heap.size) (by simp) (by omega)) (.cells #[.string ⟨#[109, 97, 114, 107]⟩, .string ⟨#[]⟩, .bool false] 66)))
    have PRAB := Lib.hid (show Rd3 WAB (.slice (some ⟨w1.heap.size + 1, 0, none⟩) 1 1) [wV markW] from by rw [hWAB]; exact Rd3.drew (one3 (w1.alloc (.cells #[] 66)) 66 (w1.heap.size + 1) (by simp) (wV markW)))
    have PWAB := Lib.hid hWAB; clear hWAB
    obtain ⟨WBA, hWBA⟩ : ∃ W, W = ((w1.alloc (.cells #[.string ⟨#[109, 97, 114, 107]⟩, .string ⟨#[]⟩, .bool false] 66)).alloc (.cells #[] 66)).drew := ⟨_, rfl⟩
    have PBBA := Lib.hid (show Below w1.heap.size w1 WBA from by rw [hWBA]; exact below_drew (below_alloc (below_alloc (Below.refl w1.heap.size w1) (Nat.le_refl _) (.cells #[.string ⟨#[109, 97, 114, 107]⟩, .string ⟨#[]⟩, .bool false] 66)) (Nat.le_refl _) (.cells #[] 66)))
    have POBA := Lib.hid (show Own3 WBA w1.heap.size 66 (.slice (some ⟨w1.heap.size + 1, 0, none⟩) 0 0) [] from by rw [hWBA]; exact Own3.drew (made3 (w1.alloc (.cells #[.string ⟨#[109, 97, 114, 107]⟩, .string ⟨#[]⟩, .bool false] 66)) w1.heap.size 66 (w1.heap.size + 1) (by simp) (by omega)))
    have PRBA := Lib.hid (show Rd3 WBA (.slice (some ⟨w1.heap.size, 0, none⟩) 1 1) [wV markW] from by rw [hWBA]; exact Rd3.drew (Rd3.alloc (one3 w1 66 (w1.heap.size) (by simp) (wV markW)) (.cells #[] 66)))
    have PWBA := Lib.hid hWBA; clear hWBA
    obtain ⟨WAC, hWAC⟩ : ∃ W, W = ((w1.alloc (.cells #[] 66)).alloc (.cells #[.int .i64 0, .slice none 0 0] 64)).drew := ⟨_, rfl⟩
    have PBAC := Lib.hid (show Below w1.heap.size w1 WAC from by rw [hWAC]; exact below_drew (below_alloc (below_alloc (Below.refl w1.heap.size w1) (Nat.le_refl _) (.cells #[] 66)) (Nat.le_refl _) (.cells #[.int .i64 0, .slice none 0 0] 64)))
    have POAC := Lib.hid (show Own3 WAC w1.heap.size 66 (.slice (some ⟨w1.heap.size, 0, none⟩) 0 0) [] from by rw [hWAC]; exact Own3.drew (Own3.alloc (made3 w1 w1.heap.size 66 (w1.heap.size) (by simp) (by omega)) (.cells #[.int .i64 0, .slice none 0 0] 64)))
    have PCAC := Lib.hid (show WAC.heap[w1.heap.size + 1]? = some (.cells #[.int .i64 0, .slice none 0 0] 64 (0, 0)) from by rw [hWAC]; exact (heap_new (W := (w1.alloc (.cells #[] 66))) (o := (.cells #[.int .i64 0, .slice none 0 0] 64)) (H := w1.heap.size + 1) (by simp)))
    have PWAC := Lib.hid hWAC; clear hWAC
    obtain ⟨WCA, hWCA⟩ : ∃ W, W = ((w1.alloc (.cells #[.int .i64 0, .slice none 0 0] 64)).alloc (.cells #[] 66)).drew := ⟨_, rfl⟩
    have PBCA := Lib.hid (show Below w1.heap.size w1 WCA from by rw [hWCA]; exact below_drew (below_alloc (below_alloc (Below.refl w1.heap.size w1) (Nat.le_refl _) (.cells #[.int .i64 0, .slice none 0 0] 64)) (Nat.le_refl _) (.cells #[] 66)))
    have POCA := Lib.hid (show Own3 WCA w1.heap.size 66 (.slice (some ⟨w1.heap.size + 1, 0, none⟩) 0 0) [] from by rw [hWCA]; exact Own3.drew (made3 (w1.alloc (.cells #[.int .i64 0, .slice none 0 0] 64)) w1.heap.size 66 (w1.heap.size + 1) (by simp) (by omega)))
    have PCCA := Lib.hid (show WCA.heap[w1.heap.size]? = some (.cells #[.int .i64 0, .slice none 0 0] 64 (0, 0)) from by rw [hWCA]; exact (heap_more (heap_new (W := w1) (o := (.cells #[.int .i64 0, .slice none 0 0] 64)) (H := w1.heap.size) (by simp)) (.cells #[] 66)))
    have PWCA := Lib.hid hWCA; clear hWCA
    obtain ⟨WABC, hWABC⟩ : ∃ W, W = (((w1.alloc (.cells #[] 66)).alloc (.cells #[.string ⟨#[109, 97, 114, 107]⟩, .string ⟨#[]⟩, .bool false] 66)).alloc (.cells #[.int .i64 0, .slice none 0 0] 64)).drew := ⟨_, rfl⟩
    have PBABC := Lib.hid (show Below w1.heap.size w1 WABC from by rw [hWABC]; exact below_drew (below_alloc (below_alloc (below_alloc (Below.refl w1.heap.size w1) (Nat.le_refl _) (.cells #[] 66)) (Nat.le_refl _) (.cells #[.string ⟨#[109, 97, 114, 107]⟩, .string ⟨#[]⟩, .bool false] 66)) (Nat.le_refl _) (.cells #[.int .i64 0, .slice none 0 0] 64)))
    have POABC := Lib.hid (show Own3 WABC w1.heap.size 66 (.slice (some ⟨w1.heap.size, 0, none⟩) 0 0) [] from by rw [hWABC]; exact Own3.drew (Own3.alloc (Own3.alloc (made3 w1 w1.heap.size 66 (w1.heap.size) (by simp) (by omega)) (.cells #[.string ⟨#[109, 97, 114, 107]⟩, .string ⟨#[]⟩, .bool false] 66)) (.cells #[.int .i64 0, .slice none 0 0] 64)))
    have PRABC := Lib.hid (show Rd3 WABC (.slice (some ⟨w1.heap.size + 1, 0, none⟩) 1 1) [wV markW] from by rw [hWABC]; exact Rd3.drew (Rd3.alloc (one3 (w1.alloc (.cells #[] 66)) 66 (w1.heap.size + 1) (by simp) (wV markW)) (.cells #[.int .i64 0, .slice none 0 0] 64)))
    have PCABC := Lib.hid (show WABC.heap[w1.heap.size + 2]? = some (.cells #[.int .i64 0, .slice none 0 0] 64 (0, 0)) from by rw [hWABC]; exact (heap_new (W := ((w1.alloc (.cells #[] 66)).alloc (.cells #[.string ⟨#[109, 97, 114, 107]⟩, .string ⟨#[]⟩, .bool false] 66))) (o := (.cells #[.int .i64 0, .slice none 0 0] 64)) (H := w1.heap.size + 2) (by simp)))
    have PWABC := Lib.hid hWABC; clear hWABC
    obtain ⟨WACB, hWACB⟩ : ∃ W, W = (((w1.alloc (.cells #[] 66)).alloc (.cells #[.int .i64 0, .slice none 0 0] 64)).alloc (.cells #[.string ⟨#[109, 97, 114, 107]⟩, .string ⟨#[]⟩, .bool false] 66)).drew := ⟨_, rfl⟩
    have PBACB := Lib.hid (show Below w1.heap.size w1 WACB from by rw [hWACB]; exact below_drew (below_alloc (below_alloc (below_alloc (Below.refl w1.heap.size w1) (Nat.le_refl _) (.cells #[] 66)) (Nat.le_refl _) (.cells #[.int .i64 0, .slice none 0 0] 64)) (Nat.le_refl _) (.cells #[.string ⟨#[109, 97, 114, 107]⟩, .string ⟨#[]⟩, .bool false] 66)))
    have POACB := Lib.hid (show Own3 WACB w1.heap.size 66 (.slice (some ⟨w1.heap.size, 0, none⟩) 0 0) [] from by rw [hWACB]; exact Own3.drew (Own3.alloc (Own3.alloc (made3 w1 w1.heap.size 66 (w1.heap.size) (by simp) (by omega)) (.cells #[.int .i64 0, .slice none 0 0] 64)) (.cells #[.string ⟨#[109, 97, 114, 107]⟩, .string ⟨#[]⟩, .bool false] 66)))
    have PRACB := Lib.hid (show Rd3 WACB (.slice (some ⟨w1.heap.size + 2, 0, none⟩) 1 1) [wV markW] from by rw [hWACB]; exact Rd3.drew (one3 ((w1.alloc (.cells #[] 66)).alloc (.cells #[.int .i64 0, .slice none 0 0] 64)) 66 (w1.heap.size + 2) (by simp) (wV markW)))
    have PCACB := Lib.hid (show WACB.heap[w1.heap.size + 1]? = some (.cells #[.int .i64 0, .slice none 0 0] 64 (0, 0)) from by rw [hWACB]; exact (heap_more (heap_new (W := (w1.alloc (.cells #[] 66))) (o := (.cells #[.int .i64 0, .slice none 0 0] 64)) (H := w1.heap.size + 1) (by simp)) (.cells #[.string ⟨#[109, 97, 114, 107]⟩, .string ⟨#[]⟩, .bool false] 66)))
    have PWACB := Lib.hid hWACB; clear hWACB
    obtain ⟨WBAC, hWBAC⟩ : ∃ W, W = (((w1.alloc (.cells #[.string ⟨#[109, 97, 114, 107]⟩, .string ⟨#[]⟩, .bool false] 66)).alloc (.cells #[] 66)).alloc (.cells #[.int .i64 0, .slice none 0 0] 64)).drew := ⟨_, rfl⟩
    have PBBAC := Lib.hid (show Below w1.heap.size w1 WBAC from by rw [hWBAC]; exact below_drew (below_alloc (below_alloc (below_alloc (Below.refl w1.heap.size w1) (Nat.le_refl _) (.cells #[.string ⟨#[109, 97, 114, 107]⟩, .string ⟨#[]⟩, .bool false] 66)) (Nat.le_refl _) (.cells #[] 66)) (Nat.le_refl _) (.cells #[.int .i64 0, .slice none 0 0] 64)))
    have POBAC := Lib.hid (show Own3 WBAC w1.heap.size 66 (.slice (some ⟨w1.heap.size + 1, 0, none⟩) 0 0) [] from by rw [hWBAC]; exact Own3.drew (Own3.alloc (made3 (w1.alloc (.cells #[.string ⟨#[109, 97, 114, 107]⟩, .string ⟨#[]⟩, .bool false] 66)) w1.heap.size 66 (w1.heap.size + 1) (by simp) (by omega)) (.cells #[.int .i64 0, .slice none 0 0] 64)))
    have PRBAC := Lib.hid (show Rd3 WBAC (.slice (some ⟨w1.heap.size, 0, none⟩) 1 1) [wV markW] from by rw [hWBAC]; exact Rd3.drew (Rd3.alloc (Rd3.alloc (one3 w1 66 (w1.heap.size) (by simp) (wV markW)) (.cells #[] 66)) (.cells #[.int .i64 0, .slice none 0 0] 64)))
    have PCBAC := Lib.hid (show WBAC.heap[w1.heap.size + 2]? = some (.cells #[.int .i64 0, .slice none 0 0] 64 (0, 0)) from by rw [hWBAC]; exact (heap_new (W := ((w1.alloc (.cells #[.string ⟨#[109, 97, 114, 107]⟩, .string ⟨#[]⟩, .bool false] 66)).alloc (.cells #[] 66))) (o := (.cells #[.int .i64 0, .slice none 0 0] 64)) (H := w1.heap.size + 2) (by simp)))
    have PWBAC := Lib.hid hWBAC; clear hWBAC
    obtain ⟨WBCA, hWBCA⟩ : ∃ W, W = (((w1.alloc (.cells #[.string ⟨#[109, 97, 114, 107]⟩, .string ⟨#[]⟩, .bool false] 66)).alloc (.cells #[.int .i64 0, .slice none 0 0] 64)).alloc (.cells #[] 66)).drew := ⟨_, rfl⟩
    have PBBCA := Lib.hid (show Below w1.heap.size w1 WBCA from by rw [hWBCA]; exact below_drew (below_alloc (below_alloc (below_alloc (Below.refl w1.heap.size w1) (Nat.le_refl _) (.cells #[.string ⟨#[109, 97, 114, 107]⟩, .string ⟨#[]⟩, .bool false] 66)) (Nat.le_refl _) (.cells #[.int .i64 0, .slice none 0 0] 64)) (Nat.le_refl _) (.cells #[] 66)))
    have POBCA := Lib.hid (show Own3 WBCA w1.heap.size 66 (.slice (some ⟨w1.heap.size + 2, 0, none⟩) 0 0) [] from by rw [hWBCA]; exact Own3.drew (made3 ((w1.alloc (.cells #[.string ⟨#[109, 97, 114, 107]⟩, .string ⟨#[]⟩, .bool false] 66)).alloc (.cells #[.int .i64 0, .slice none 0 0] 64)) w1.heap.size 66 (w1.heap.size + 2) (by simp) (by omega)))
    have PRBCA := Lib.hid (show Rd3 WBCA (.slice (some ⟨w1.heap.size, 0, none⟩) 1 1) [wV markW] from by rw [hWBCA]; exact Rd3.drew (Rd3.alloc (Rd3.alloc (one3 w1 66 (w1.heap.size) (by simp) (wV markW)) (.cells #[.int .i64 0, .slice none 0 0] 64)) (.cells #[] 66)))
    have PCBCA := Lib.hid (show WBCA.heap[w1.heap.size + 1]? = some (.cells #[.int .i64 0, .slice none 0 0] 64 (0, 0)) from by rw [hWBCA]; exact (heap_more (heap_new (W := (w1.alloc (.cells #[.string ⟨#[109, 97, 114, 107]⟩, .string ⟨#[]⟩, .bool false] 66))) (o := (.cells #[.int .i64 0, .slice none 0 0] 64)) (H := w1.heap.size + 1) (by simp)) (.cells #[] 66)))
    have PWBCA := Lib.hid hWBCA; clear hWBCA
    obtain ⟨WCAB, hWCAB⟩ : ∃ W, W = (((w1.alloc (.cells #[.int .i64 0, .slice none 0 0] 64)).alloc (.cells #[] 66)).alloc (.cells #[.string ⟨#[109, 97, 114, 107]⟩, .string ⟨#[]⟩, .bool false] 66)).drew := ⟨_, rfl⟩
    have PBCAB := Lib.hid (show Below w1.heap.size w1 WCAB from by rw [hWCAB]; exact below_drew (below_alloc (below_alloc (below_alloc (Below.refl w1.heap.size w1) (Nat.le_refl _) (.cells #[.int .i64 0, .slice none 0 0] 64)) (Nat.le_refl _) (.cells #[] 66)) (Nat.le_refl _) (.cells #[.string ⟨#[109, 97, 114, 107]⟩, .string ⟨#[]⟩, .bool false] 66)))
    have POCAB := Lib.hid (show Own3 WCAB w1.heap.size 66 (.slice (some ⟨w1.heap.size + 1, 0, none⟩) 0 0) [] from by rw [hWCAB]; exact Own3.drew (Own3.alloc (made3 (w1.alloc (.cells #[.int .i64 0, .slice none 0 0] 64)) w1.heap.size 66 (w1.heap.size + 1) (by simp) (by omega)) (.cells #[.string ⟨#[109, 97, 114, 107]⟩, .string ⟨#[]⟩, .bool false] 66)))
    have PRCAB := Lib.hid (show Rd3 WCAB (.slice (some ⟨w1.heap.size + 2, 0, none⟩) 1 1) [wV markW] from by rw [hWCAB]; exact Rd3.drew (one3 ((w1.alloc (.cells #[.int .i64 0, .slice none 0 0] 64)).alloc (.cells #[] 66)) 66 (w1.heap.size + 2) (by simp) (wV markW)))
    have PCCAB := Lib.hid (show WCAB.heap[w1.heap.size]? = some (.cells #[.int .i64 0, .slice none 0 0] 64 (0, 0)) from by rw [hWCAB]; exact (heap_more (heap_more (heap_new (W := w1) (o := (.cells #[.int .i64 0, .slice none 0 0] 64)) (H := w1.heap.size) (by simp)) (.cells #[] 66)) (.cells #[.string ⟨#[109, 97, 114, 107]⟩, .string ⟨#[]⟩, .bool false] 66)))
    have PWCAB := Lib.hid hWCAB; clear hWCAB
    obtain ⟨WCBA, hWCBA⟩ : ∃ W, W = (((w1.alloc (.cells #[.int .i64 0, .slice none 0 0] 64)).alloc (.cells #[.string ⟨#[109, 97, 114, 107]⟩, .string ⟨#[]⟩, .bool false] 66)).alloc (.cells #[] 66)).drew := ⟨_, rfl⟩
    have PBCBA := Lib.hid (show Below w1.heap.size w1 WCBA from by rw [hWCBA]; exact below_drew (below_alloc (below_alloc (below_alloc (Below.refl w1.heap.size w1) (Nat.le_refl _) (.cells #[.int .i64 0, .slice none 0 0] 64)) (Nat.le_refl _) (.cells #[.string ⟨#[109, 97, 114, 107]⟩, .string ⟨#[]⟩, .bool false] 66)) (Nat.le_refl _) (.cells #[] 66)))
    have POCBA := Lib.hid (show Own3 WCBA w1.heap.size 66 (.slice (some ⟨w1.heap.size + 2, 0, none⟩) 0 0) [] from by rw [hWCBA]; exact Own3.drew (made3 ((w1.alloc (.cells #[.int .i64 0, .slice none 0 0] 64)).alloc (.cells #[.string ⟨#[109, 97, 114, 107]⟩, .string ⟨#[]⟩, .bool false] 66)) w1.heap.size 66 (w1.heap.size + 2) (by simp) (by omega)))
    have PRCBA := Lib.hid (show Rd3 WCBA (.slice (some ⟨w1.heap.size + 1, 0, none⟩) 1 1) [wV markW] from by rw [hWCBA]; exact Rd3.drew (Rd3.alloc (one3 (w1.alloc (.cells #[.int .i64 0, .slice none 0 0] 64)) 66 (w1.heap.size + 1) (by simp) (wV markW)) (.cells #[] 66)))
    have PCCBA := Lib.hid (show WCBA.heap[w1.heap.size]? = some (.cells #[.int .i64 0, .slice none 0 0] 64 (0, 0)) from by rw [hWCBA]; exact (heap_more (heap_more (heap_new (W := w1) (o := (.cells #[.int .i64 0, .slice none 0 0] 64)) (H := w1.heap.size) (by simp)) (.cells #[.string ⟨#[109, 97, 114, 107]⟩, .string ⟨#[]⟩, .bool false] 66)) (.cells #[] 66)))
    have PWCBA := Lib.hid hWCBA; clear hWCBA
    go_region_held3 (fun W => W.cell? ⟨H, 0, none⟩ = some (.int .i64 t) ∧ W.cell? ⟨H, 1, none⟩ = some (.slice A ws.length c)) (first | exact ⟨c0, c1⟩ | exact ⟨HC0.out _ (below_alloc HBB.out (Nat.le_refl _) _), HC1.out _ (below_alloc HBB.out (Nat.le_refl _) _)⟩ | exact ⟨HC0.out _ (below_alloc HBA.out (Nat.le_refl _) _), HC1.out _ (below_alloc HBA.out (Nat.le_refl _) _)⟩ | exact ⟨HC0.out _ (below_alloc (below_alloc HBA.out (Nat.le_refl _) _) (Nat.le_refl _) _), HC1.out _ (below_alloc (below_alloc HBA.out (Nat.le_refl _) _) (Nat.le_refl _) _)⟩ | exact ⟨HC0.out _ (below_drew (below_alloc (Below.refl _ _) (Nat.le_refl _) _)), HC1.out _ (below_drew (below_alloc (Below.refl _ _) (Nat.le_refl _) _))⟩ | exact ⟨HC0.out _ (below_drew (below_alloc (below_alloc (Below.refl _ _) (Nat.le_refl _) _) (Nat.le_refl _) _)), HC1.out _ (below_drew (below_alloc (below_alloc (Below.refl _ _) (Nat.le_refl _) _) (Nat.le_refl _) _))⟩ | exact ⟨HC0.out _ (below_drew (below_alloc (below_alloc (below_alloc (Below.refl _ _) (Nat.le_refl _) _) (Nat.le_refl _) _) (Nat.le_refl _) _)), HC1.out _ (below_drew (below_alloc (below_alloc (below_alloc (Below.refl _ _) (Nat.le_refl _) _) (Nat.le_refl _) _) (Nat.le_refl _) _))⟩ | (refine ⟨keep2 c0 ?_, keep2 c1 ?_⟩ <;> omega) | go_keep)
      (first
        | (rw [← PWA.out]; refine step3v (W := WA) w1.heap.size 62 66 40 _ Try.underlying62 info66 rfl (by rfl) _ _ (by rfl) (.slice (some ⟨w1.heap.size, 0, none⟩) 0 0) (.slice A ws.length c) [] (ws.map wV) (by rfl) (by rfl) POA.out (HRR.out _ PBA.out) HYS.out PBA.out.size (by simp; omega) (by simp; omega) ?_; intro va wa hown hb hgr; have HBA := Lib.hid (PBA.out.trans hb); have HOA := Lib.hid hown; have hsA := HBA.out.size; have c0 := HC0.out wa HBA.out; have c1 := HC1.out wa HBA.out; clear hown hb hgr)
        | (rw [← PWAB.out]; refine step3v (W := WAB) w1.heap.size 62 66 40 _ Try.underlying62 info66 rfl (by rfl) _ _ (by rfl) (.slice (some ⟨w1.heap.size, 0, none⟩) 0 0) (.slice A ws.length c) [] (ws.map wV) (by rfl) (by rfl) POAB.out (HRR.out _ PBAB.out) HYS.out PBAB.out.size (by simp; omega) (by simp; omega) ?_; intro va wa hown hb hgr; have HBA := Lib.hid (PBAB.out.trans hb); have HOA := Lib.hid hown; have hsA := HBA.out.size; have c0 := HC0.out wa HBA.out; have c1 := HC1.out wa HBA.out; have HRB := Lib.hid (Rd3.kept (w1.heap.size + 1) (wV markW) PRAB.out hgr (own_ne (by omega))); clear hown hb hgr)
        | (rw [← PWBA.out]; refine step3v (W := WBA) w1.heap.size 62 66 40 _ Try.underlying62 info66 rfl (by rfl) _ _ (by rfl) (.slice (some ⟨w1.heap.size + 1, 0, none⟩) 0 0) (.slice A ws.length c) [] (ws.map wV) (by rfl) (by rfl) POBA.out (HRR.out _ PBBA.out) HYS.out PBBA.out.size (by simp; omega) (by simp; omega) ?_; intro va wa hown hb hgr; have HBA := Lib.hid (PBBA.out.trans hb); have HOA := Lib.hid hown; have hsA := HBA.out.size; have c0 := HC0.out wa HBA.out; have c1 := HC1.out wa HBA.out; have HRB := Lib.hid (Rd3.kept (w1.heap.size) (wV markW) PRBA.out hgr (own_ne (by omega))); clear hown hb hgr)
        | (rw [← PWAC.out]; refine step3v (W := WAC) w1.heap.size 62 66 40 _ Try.underlying62 info66 rfl (by rfl) _ _ (by rfl) (.slice (some ⟨w1.heap.size, 0, none⟩) 0 0) (.slice A ws.length c) [] (ws.map wV) (by rfl) (by rfl) POAC.out (HRR.out _ PBAC.out) HYS.out PBAC.out.size (by simp; omega) (by simp; omega) ?_; intro va wa hown hb hgr; have HBA := Lib.hid (PBAC.out.trans hb); have HOA := Lib.hid hown; have hsA := HBA.out.size; have c0 := HC0.out wa HBA.out; have c1 := HC1.out wa HBA.out; have HCA := Lib.hid (heap_kept PCAC.out hgr (own_ne (by omega))); clear hown hb hgr)
        | (rw [← PWCA.out]; refine step3v (W := WCA) w1.heap.size 62 66 40 _ Try.underlying62 info66 rfl (by rfl) _ _ (by rfl) (.slice (some ⟨w1.heap.size + 1, 0, none⟩) 0 0) (.slice A ws.length c) [] (ws.map wV) (by rfl) (by rfl) POCA.out (HRR.out _ PBCA.out) HYS.out PBCA.out.size (by simp; omega) (by simp; omega) ?_; intro va wa hown hb hgr; have HBA := Lib.hid (PBCA.out.trans hb); have HOA := Lib.hid hown; have hsA := HBA.out.size; have c0 := HC0.out wa HBA.out; have c1 := HC1.out wa HBA.out; have HCA := Lib.hid (heap_kept PCCA.out hgr (own_ne (by omega))); clear hown hb hgr)
        | (rw [← PWABC.out]; refine step3v (W := WABC) w1.heap.size 62 66 40 _ Try.underlying62 info66 rfl (by rfl) _ _ (by rfl) (.slice (some ⟨w1.heap.size, 0, none⟩) 0 0) (.slice A ws.length c) [] (ws.map wV) (by rfl) (by rfl) POABC.out (HRR.out _ PBABC.out) HYS.out PBABC.out.size (by simp; omega) (by simp; omega) ?_; intro va wa hown hb hgr; have HBA := Lib.hid (PBABC.out.trans hb); have HOA := Lib.hid hown; have hsA := HBA.out.size; have c0 := HC0.out wa HBA.out; have c1 := HC1.out wa HBA.out; have HRB := Lib.hid (Rd3.kept (w1.heap.size + 1) (wV markW) PRABC.out hgr (own_ne (by omega))); have HCA := Lib.hid (heap_kept PCABC.out hgr (own_ne (by omega))); clear hown hb hgr)
        | (rw [← PWACB.out]; refine step3v (W := WACB) w1.heap.size 62 66 40 _ Try.underlying62 info66 rfl (by rfl) _ _ (by rfl) (.slice (some ⟨w1.heap.size, 0, none⟩) 0 0) (.slice A ws.length c) [] (ws.map wV) (by rfl) (by rfl) POACB.out (HRR.out _ PBACB.out) HYS.out PBACB.out.size (by simp; omega) (by simp; omega) ?_; intro va wa hown hb hgr; have HBA := Lib.hid (PBACB.out.trans hb); have HOA := Lib.hid hown; have hsA := HBA.out.size; have c0 := HC0.out wa HBA.out; have c1 := HC1.out wa HBA.out; have HRB := Lib.hid (Rd3.kept (w1.heap.size + 2) (wV markW) PRACB.out hgr (own_ne (by omega))); have HCA := Lib.hid (heap_kept PCACB.out hgr (own_ne (by omega))); clear hown hb hgr)
        | (rw [← PWBAC.out]; refine step3v (W := WBAC) w1.heap.size 62 66 40 _ Try.underlying62 info66 rfl (by rfl) _ _ (by rfl) (.slice (some ⟨w1.heap.size + 1, 0, none⟩) 0 0) (.slice A ws.length c) [] (ws.map wV) (by rfl) (by rfl) POBAC.out (HRR.out _ PBBAC.out) HYS.out PBBAC.out.size (by simp; omega) (by simp; omega) ?_; intro va wa hown hb hgr; have HBA := Lib.hid (PBBAC.out.trans hb); have HOA := Lib.hid hown; have hsA := HBA.out.size; have c0 := HC0.out wa HBA.out; have c1 := HC1.out wa HBA.out; have HRB := Lib.hid (Rd3.kept (w1.heap.size) (wV markW) PRBAC.out hgr (own_ne (by omega))); have HCA := Lib.hid (heap_kept PCBAC.out hgr (own_ne (by omega))); clear hown hb hgr)
        | (rw [← PWBCA.out]; refine step3v (W := WBCA) w1.heap.size 62 66 40 _ Try.underlying62 info66 rfl (by rfl) _ _ (by rfl) (.slice (some ⟨w1.heap.size + 2, 0, none⟩) 0 0) (.slice A ws.length c) [] (ws.map wV) (by rfl) (by rfl) POBCA.out (HRR.out _ PBBCA.out) HYS.out PBBCA.out.size (by simp; omega) (by simp; omega) ?_; intro va wa hown hb hgr; have HBA := Lib.hid (PBBCA.out.trans hb); have HOA := Lib.hid hown; have hsA := HBA.out.size; have c0 := HC0.out wa HBA.out; have c1 := HC1.out wa HBA.out; have HRB := Lib.hid (Rd3.kept (w1.heap.size) (wV markW) PRBCA.out hgr (own_ne (by omega))); have HCA := Lib.hid (heap_kept PCBCA.out hgr (own_ne (by omega))); clear hown hb hgr)
        | (rw [← PWCAB.out]; refine step3v (W := WCAB) w1.heap.size 62 66 40 _ Try.underlying62 info66 rfl (by rfl) _ _ (by rfl) (.slice (some ⟨w1.heap.size + 1, 0, none⟩) 0 0) (.slice A ws.length c) [] (ws.map wV) (by rfl) (by rfl) POCAB.out (HRR.out _ PBCAB.out) HYS.out PBCAB.out.size (by simp; omega) (by simp; omega) ?_; intro va wa hown hb hgr; have HBA := Lib.hid (PBCAB.out.trans hb); have HOA := Lib.hid hown; have hsA := HBA.out.size; have c0 := HC0.out wa HBA.out; have c1 := HC1.out wa HBA.out; have HRB := Lib.hid (Rd3.kept (w1.heap.size + 2) (wV markW) PRCAB.out hgr (own_ne (by omega))); have HCA := Lib.hid (heap_kept PCCAB.out hgr (own_ne (by omega))); clear hown hb hgr)
        | (rw [← PWCBA.out]; refine step3v (W := WCBA) w1.heap.size 62 66 40 _ Try.underlying62 info66 rfl (by rfl) _ _ (by rfl) (.slice (some ⟨w1.heap.size + 2, 0, none⟩) 0 0) (.slice A ws.length c) [] (ws.map wV) (by rfl) (by rfl) POCBA.out (HRR.out _ PBCBA.out) HYS.out PBCBA.out.size (by simp; omega) (by simp; omega) ?_; intro va wa hown hb hgr; have HBA := Lib.hid (PBCBA.out.trans hb); have HOA := Lib.hid hown; have hsA := HBA.out.size; have c0 := HC0.out wa HBA.out; have c1 := HC1.out wa HBA.out; have HRB := Lib.hid (Rd3.kept (w1.heap.size + 1) (wV markW) PRCBA.out hgr (own_ne (by omega))); have HCA := Lib.hid (heap_kept PCCBA.out hgr (own_ne (by omega))); clear hown hb hgr)
        | (refine step3v (W := wa) w1.heap.size 62 66 40 _ Try.underlying62 info66 rfl (by rfl) _ _ (by rfl) va (.slice (some ⟨w1.heap.size, 0, none⟩) 1 1) (ws.map wV) [wV markW] (by rfl) (by rfl) (HOA.out) (HRB.out) HYM.out (HBA.out.size) (by simp; omega) (by simp; omega) ?_; intro vb wb hown hb hgr; obtain ⟨Ab, cb, rfl⟩ := com_shape hown; have HBB := Lib.hid ((HBA.out).trans hb); have HOB := Lib.hid hown; have hsB := HBB.out.size; have c0 := HC0.out wb HBB.out; have c1 := HC1.out wb HBB.out; (first | (have HCB := Lib.hid (heap_kept HCA.out hgr (HOA.out.ne_ HCA.out (by decide))); have d0 := box_cells HCB.out 0 (.int .i64 0) rfl; have d1 := box_cells HCB.out 1 (.slice none 0 0) rfl; have df := froz_all HCB.out) | skip); clear hown hb hgr)
        | (refine step3v (W := wa) w1.heap.size 62 66 40 _ Try.underlying62 info66 rfl (by rfl) _ _ (by rfl) va (.slice (some ⟨w1.heap.size + 1, 0, none⟩) 1 1) (ws.map wV) [wV markW] (by rfl) (by rfl) (HOA.out) (HRB.out) HYM.out (HBA.out.size) (by simp; omega) (by simp; omega) ?_; intro vb wb hown hb hgr; obtain ⟨Ab, cb, rfl⟩ := com_shape hown; have HBB := Lib.hid ((HBA.out).trans hb); have HOB := Lib.hid hown; have hsB := HBB.out.size; have c0 := HC0.out wb HBB.out; have c1 := HC1.out wb HBB.out; (first | (have HCB := Lib.hid (heap_kept HCA.out hgr (HOA.out.ne_ HCA.out (by decide))); have d0 := box_cells HCB.out 0 (.int .i64 0) rfl; have d1 := box_cells HCB.out 1 (.slice none 0 0) rfl; have df := froz_all HCB.out) | skip); clear hown hb hgr)
        | (refine step3v (W := wa) w1.heap.size 62 66 40 _ Try.underlying62 info66 rfl (by rfl) _ _ (by rfl) va (.slice (some ⟨w1.heap.size + 2, 0, none⟩) 1 1) (ws.map wV) [wV markW] (by rfl) (by rfl) (HOA.out) (HRB.out) HYM.out (HBA.out.size) (by simp; omega) (by simp; omega) ?_; intro vb wb hown hb hgr; obtain ⟨Ab, cb, rfl⟩ := com_shape hown; have HBB := Lib.hid ((HBA.out).trans hb); have HOB := Lib.hid hown; have hsB := HBB.out.size; have c0 := HC0.out wb HBB.out; have c1 := HC1.out wb HBB.out; (first | (have HCB := Lib.hid (heap_kept HCA.out hgr (HOA.out.ne_ HCA.out (by decide))); have d0 := box_cells HCB.out 0 (.int .i64 0) rfl; have d1 := box_cells HCB.out 1 (.slice none 0 0) rfl; have df := froz_all HCB.out) | skip); clear hown hb hgr)
        | (refine step3v (W := (wa.alloc (.cells #[.int .i64 0, .slice none 0 0] 64))) w1.heap.size 62 66 40 _ Try.underlying62 info66 rfl (by rfl) _ _ (by rfl) va (.slice (some ⟨w1.heap.size, 0, none⟩) 1 1) (ws.map wV) [wV markW] (by rfl) (by rfl) (HOA.out.alloc _) (HRB.out.alloc _) HYM.out ((below_alloc (HBA.out) (Nat.le_refl _) (.cells #[.int .i64 0, .slice none 0 0] 64)).size) (by simp; omega) (by simp; omega) ?_; intro vb wb hown hb hgr; obtain ⟨Ab, cb, rfl⟩ := com_shape hown; have HBB := Lib.hid ((below_alloc (HBA.out) (Nat.le_refl _) (.cells #[.int .i64 0, .slice none 0 0] 64)).trans hb); have HOB := Lib.hid hown; have hsB := HBB.out.size; have c0 := HC0.out wb HBB.out; have c1 := HC1.out wb HBB.out; (first | (have HCB := Lib.hid (heap_kept (heap_new (W := wa) (o := (.cells #[.int .i64 0, .slice none 0 0] 64)) (H := wa.heap.size) rfl) hgr ((HOA.out.alloc (.cells #[.int .i64 0, .slice none 0 0] 64)).ne_ (heap_new (W := wa) rfl) (by decide))); have d0 := box_cells HCB.out 0 (.int .i64 0) rfl; have d1 := box_cells HCB.out 1 (.slice none 0 0) rfl; have df := froz_all HCB.out) | skip); clear hown hb hgr)
        | (refine step3v (W := (wa.alloc (.cells #[.int .i64 0, .slice none 0 0] 64))) w1.heap.size 62 66 40 _ Try.underlying62 info66 rfl (by rfl) _ _ (by rfl) va (.slice (some ⟨w1.heap.size + 1, 0, none⟩) 1 1) (ws.map wV) [wV markW] (by rfl) (by rfl) (HOA.out.alloc _) (HRB.out.alloc _) HYM.out ((below_alloc (HBA.out) (Nat.le_refl _) (.cells #[.int .i64 0, .slice none 0 0] 64)).size) (by simp; omega) (by simp; omega) ?_; intro vb wb hown hb hgr; obtain ⟨Ab, cb, rfl⟩ := com_shape hown; have HBB := Lib.hid ((below_alloc (HBA.out) (Nat.le_refl _) (.cells #[.int .i64 0, .slice none 0 0] 64)).trans hb); have HOB := Lib.hid hown; have hsB := HBB.out.size; have c0 := HC0.out wb HBB.out; have c1 := HC1.out wb HBB.out; (first | (have HCB := Lib.hid (heap_kept (heap_new (W := wa) (o := (.cells #[.int .i64 0, .slice none 0 0] 64)) (H := wa.heap.size) rfl) hgr ((HOA.out.alloc (.cells #[.int .i64 0, .slice none 0 0] 64)).ne_ (heap_new (W := wa) rfl) (by decide))); have d0 := box_cells HCB.out 0 (.int .i64 0) rfl; have d1 := box_cells HCB.out 1 (.slice none 0 0) rfl; have df := froz_all HCB.out) | skip); clear hown hb hgr)
        | (refine step3v (W := (wa.alloc (.cells #[.int .i64 0, .slice none 0 0] 64))) w1.heap.size 62 66 40 _ Try.underlying62 info66 rfl (by rfl) _ _ (by rfl) va (.slice (some ⟨w1.heap.size + 2, 0, none⟩) 1 1) (ws.map wV) [wV markW] (by rfl) (by rfl) (HOA.out.alloc _) (HRB.out.alloc _) HYM.out ((below_alloc (HBA.out) (Nat.le_refl _) (.cells #[.int .i64 0, .slice none 0 0] 64)).size) (by simp; omega) (by simp; omega) ?_; intro vb wb hown hb hgr; obtain ⟨Ab, cb, rfl⟩ := com_shape hown; have HBB := Lib.hid ((below_alloc (HBA.out) (Nat.le_refl _) (.cells #[.int .i64 0, .slice none 0 0] 64)).trans hb); have HOB := Lib.hid hown; have hsB := HBB.out.size; have c0 := HC0.out wb HBB.out; have c1 := HC1.out wb HBB.out; (first | (have HCB := Lib.hid (heap_kept (heap_new (W := wa) (o := (.cells #[.int .i64 0, .slice none 0 0] 64)) (H := wa.heap.size) rfl) hgr ((HOA.out.alloc (.cells #[.int .i64 0, .slice none 0 0] 64)).ne_ (heap_new (W := wa) rfl) (by decide))); have d0 := box_cells HCB.out 0 (.int .i64 0) rfl; have d1 := box_cells HCB.out 1 (.slice none 0 0) rfl; have df := froz_all HCB.out) | skip); clear hown hb hgr)
        | (refine step3v (W := (wa.alloc (.cells #[.string ⟨#[109, 97, 114, 107]⟩, .string ⟨#[]⟩, .bool false] 66))) w1.heap.size 62 66 40 _ Try.underlying62 info66 rfl (by rfl) _ _ (by rfl) va (.slice (some ⟨wa.heap.size, 0, none⟩) 1 1) (ws.map wV) [wV markW] (by rfl) (by rfl) (HOA.out.alloc _) (one3 wa 66 wa.heap.size rfl (wV markW)) HYM.out ((below_alloc (HBA.out) (Nat.le_refl _) (.cells #[.string ⟨#[109, 97, 114, 107]⟩, .string ⟨#[]⟩, .bool false] 66)).size) (by simp; omega) (by simp; omega) ?_; intro vb wb hown hb hgr; obtain ⟨Ab, cb, rfl⟩ := com_shape hown; have HBB := Lib.hid ((below_alloc (HBA.out) (Nat.le_refl _) (.cells #[.string ⟨#[109, 97, 114, 107]⟩, .string ⟨#[]⟩, .bool false] 66)).trans hb); have HOB := Lib.hid hown; have hsB := HBB.out.size; have c0 := HC0.out wb HBB.out; have c1 := HC1.out wb HBB.out; (first | (have HCB := Lib.hid (heap_kept (heap_more HCA.out (.cells #[.string ⟨#[109, 97, 114, 107]⟩, .string ⟨#[]⟩, .bool false] 66)) hgr ((HOA.out.alloc _).ne_ (heap_more HCA.out (.cells #[.string ⟨#[109, 97, 114, 107]⟩, .string ⟨#[]⟩, .bool false] 66)) (by decide))); have d0 := box_cells HCB.out 0 (.int .i64 0) rfl; have d1 := box_cells HCB.out 1 (.slice none 0 0) rfl; have df := froz_all HCB.out) | skip); clear hown hb hgr)
        | (refine step3v (W := ((wa.alloc (.cells #[.string ⟨#[109, 97, 114, 107]⟩, .string ⟨#[]⟩, .bool false] 66)).alloc (.cells #[.int .i64 0, .slice none 0 0] 64))) w1.heap.size 62 66 40 _ Try.underlying62 info66 rfl (by rfl) _ _ (by rfl) va (.slice (some ⟨wa.heap.size, 0, none⟩) 1 1) (ws.map wV) [wV markW] (by rfl) (by rfl) ((HOA.out.alloc _).alloc _) ((one3 wa 66 wa.heap.size rfl (wV markW)).alloc _) HYM.out ((below_alloc (below_alloc (HBA.out) (Nat.le_refl _) (.cells #[.string ⟨#[109, 97, 114, 107]⟩, .string ⟨#[]⟩, .bool false] 66)) (Nat.le_refl _) (.cells #[.int .i64 0, .slice none 0 0] 64)).size) (by simp; omega) (by simp; omega) ?_; intro vb wb hown hb hgr; obtain ⟨Ab, cb, rfl⟩ := com_shape hown; have HBB := Lib.hid ((below_alloc (below_alloc (HBA.out) (Nat.le_refl _) (.cells #[.string ⟨#[109, 97, 114, 107]⟩, .string ⟨#[]⟩, .bool false] 66)) (Nat.le_refl _) (.cells #[.int .i64 0, .slice none 0 0] 64)).trans hb); have HOB := Lib.hid hown; have hsB := HBB.out.size; have c0 := HC0.out wb HBB.out; have c1 := HC1.out wb HBB.out; (first | (have HCB := Lib.hid (heap_kept (heap_new (W := (wa.alloc (.cells #[.string ⟨#[109, 97, 114, 107]⟩, .string ⟨#[]⟩, .bool false] 66))) (o := (.cells #[.int .i64 0, .slice none 0 0] 64)) (H := wa.heap.size + 1) (by simp)) hgr (((HOA.out.alloc (.cells #[.string ⟨#[109, 97, 114, 107]⟩, .string ⟨#[]⟩, .bool false] 66)).alloc (.cells #[.int .i64 0, .slice none 0 0] 64)).ne_ (heap_new (W := (wa.alloc (.cells #[.string ⟨#[109, 97, 114, 107]⟩, .string ⟨#[]⟩, .bool false] 66))) (by simp)) (by decide))); have d0 := box_cells HCB.out 0 (.int .i64 0) rfl; have d1 := box_cells HCB.out 1 (.slice none 0 0) rfl; have df := froz_all HCB.out) | skip); clear hown hb hgr)
        | (refine step3v (W := ((wa.alloc (.cells #[.int .i64 0, .slice none 0 0] 64)).alloc (.cells #[.string ⟨#[109, 97, 114, 107]⟩, .string ⟨#[]⟩, .bool false] 66))) w1.heap.size 62 66 40 _ Try.underlying62 info66 rfl (by rfl) _ _ (by rfl) va (.slice (some ⟨wa.heap.size + 1, 0, none⟩) 1 1) (ws.map wV) [wV markW] (by rfl) (by rfl) ((HOA.out.alloc _).alloc _) (one3 (wa.alloc (.cells #[.int .i64 0, .slice none 0 0] 64)) 66 (wa.heap.size + 1) (by simp) (wV markW)) HYM.out ((below_alloc (below_alloc (HBA.out) (Nat.le_refl _) (.cells #[.int .i64 0, .slice none 0 0] 64)) (Nat.le_refl _) (.cells #[.string ⟨#[109, 97, 114, 107]⟩, .string ⟨#[]⟩, .bool false] 66)).size) (by simp; omega) (by simp; omega) ?_; intro vb wb hown hb hgr; obtain ⟨Ab, cb, rfl⟩ := com_shape hown; have HBB := Lib.hid ((below_alloc (below_alloc (HBA.out) (Nat.le_refl _) (.cells #[.int .i64 0, .slice none 0 0] 64)) (Nat.le_refl _) (.cells #[.string ⟨#[109, 97, 114, 107]⟩, .string ⟨#[]⟩, .bool false] 66)).trans hb); have HOB := Lib.hid hown; have hsB := HBB.out.size; have c0 := HC0.out wb HBB.out; have c1 := HC1.out wb HBB.out; (first | (have HCB := Lib.hid (heap_kept (heap_more (heap_new (W := wa) (o := (.cells #[.int .i64 0, .slice none 0 0] 64)) (H := wa.heap.size) rfl) (.cells #[.string ⟨#[109, 97, 114, 107]⟩, .string ⟨#[]⟩, .bool false] 66)) hgr (((HOA.out.alloc (.cells #[.int .i64 0, .slice none 0 0] 64)).alloc (.cells #[.string ⟨#[109, 97, 114, 107]⟩, .string ⟨#[]⟩, .bool false] 66)).ne_ (heap_more (heap_new (W := wa) rfl) (.cells #[.string ⟨#[109, 97, 114, 107]⟩, .string ⟨#[]⟩, .bool false] 66)) (by decide))); have d0 := box_cells HCB.out 0 (.int .i64 0) rfl; have d1 := box_cells HCB.out 1 (.slice none 0 0) rfl; have df := froz_all HCB.out) | skip); clear hown hb hgr))
    all_goals
      go_wp2_with fail
      go_meet
      first
        | exact ⟨_, _, _, rfl, heap_alloc_new wb _, HOB.out.alloc _, below_alloc HBB.out (Nat.le_refl _) _, HBB.out.size⟩
        | (refine ⟨_, _, _, rfl, (set2 HCB.out _ _).1, HOB.out.grown (set2 HCB.out _ _).2 (HOB.out.ne_ HCB.out (by decide)), blw HBB.out (set2 HCB.out _ _).2 ?_ (Nat.le_refl _), ?_⟩ <;> omega)
  case rest =>
    obtain ⟨X, A4, c4, rfl, hx, ho, hb, hwX⟩ := hcut
    obtain ⟨w2, hw2⟩ : ∃ x, x = wc := ⟨_, rfl⟩
    rw [← hw2] at hx ho hb ⊢
    clear hw2
    have hlen : (ws.map wV ++ [wV markW]).length = ws.length + 1 := by simp
    obtain ⟨g, cur, hA4, hg1, hg2, hg3⟩ := ho.room (B := w1.heap.size) hlen.symm (Nat.le_refl _) (by omega)
    subst hA4
    have hgX : X ≠ g := by rintro rfl; rw [hg2] at hx; injection hx with h; injection h with _ h _; exact absurd h (by decide)
    have hc4 : ws.length + 1 ≤ c4 ∧ c4 ≤ maxLen := by
      obtain ⟨A', c', hv, q1, q2, _⟩ := ho.rd
      injection hv with _ _ hv3
      subst hv3
      rw [hlen] at q1
      exact ⟨q1, q2⟩
    have hmk : At3 w2 ⟨g, ws.length * 3, none⟩ (wV markW) := by
      obtain ⟨A', c', hv, q1, q2, q3⟩ := ho.rd
      injection hv with hv1 _ _
      obtain ⟨ad, had, hcell⟩ := q3 (by omega)
      rw [had] at hv1
      injection hv1 with hv1
      subst hv1
      have := hcell ws.length (by omega)
      rw [List.getElem_append_right (by simp), addp] at this
      simpa using this
    have hr2 : Rd3 w2 (.slice (some ⟨g, 0, none⟩) ws.length c4) (ws.map wV) := by
      obtain ⟨A', c', hv, q1, q2, q3⟩ := ho.rd
      injection hv with hv1 _ hv3
      subst hv3
      refine ⟨_, _, by rw [List.length_map], by rw [List.length_map]; omega, q2, fun hp => ⟨_, rfl, fun j hj => ?_⟩⟩
      obtain ⟨ad, had, hcell⟩ := q3 (by omega)
      rw [had] at hv1
      injection hv1 with hv1
      subst hv1
      rw [List.length_map] at hj
      have := hcell j (by omega)
      rwa [List.getElem_append_left (by rw [List.length_map]; exact hj)] at this
    have HX2 := Lib.hid hx
    have HB2 := Lib.hid hb
    have HMK := Lib.hid hmk
    have HR2 := Lib.hid hr2
    have HC4 := Lib.hid hc4
    have hc41 : (ws.length : Int) ≤ (c4 : Int) := by omega
    have HH2 := Lib.hid (heap_below HX1.out hb)
    have HHX := Lib.hid (show H ≠ X by omega)
    have HXG := Lib.hid hgX
    have HG2 := Lib.hid hg2
    have y1 := box_cells hx 1 (.slice (some ⟨g, 0, none⟩) (ws.length + 1) c4) rfl
    have x1' := box_cells HH2.out 1 (.slice A ws.length c) rfl
    have hfz := froz_all hx
    clear hx ho hb hmk hr2 hgX hg2 hc4 hlen x0 x1
    go_upto_region 5 with fail
    obtain ⟨w4, hw4⟩ : ∃ w4, w4 = w2.setCell ⟨X, 1, none⟩ (.slice (some ⟨g, 0, none⟩) ws.length c4) := ⟨_, rfl⟩
    have hset : w2.grownBy w4 (some X) := by rw [hw4]; exact only_one _ _ _ _
    have HY4 := Lib.hid (show w4.heap[X]? = some (.cells #[.int .i64 t, .slice (some ⟨g, 0, none⟩) ws.length c4] 64 (0, 0)) from by rw [hw4]; exact set_at HX2.out 1 _)
    have HX4 := Lib.hid (heap_grown HH2.out hset HHX.out)
    have HG4 := Lib.hid (heap_grown HG2.out hset (fun e => HXG.out e.symm))
    have hcells : ∀ q : Addr, q.block = g → w4.cell? q = w2.cell? q := fun q hq => World.cell?_of_block (hset.block q.block (by rw [hq]; exact (Array.getElem?_eq_some_iff.1 HG2.out).1) (fun e => HXG.out (by rw [← hq]; exact (Option.some.inj e).symm)))
    have HR4 := Lib.hid (show Rd3 w4 (.slice (some ⟨g, 0, none⟩) ws.length c4) (ws.map wV) from by
      obtain ⟨A', c', hv, q1, q2, q3⟩ := HR2.out
      refine ⟨A', c', hv, q1, q2, fun hp => ?_⟩
      obtain ⟨ad, had, hcell⟩ := q3 hp
      refine ⟨ad, had, fun j hj => ?_⟩
      have hgad : ad = ⟨g, 0, none⟩ := by rw [had] at hv; injection hv with h1 _ _; injection h1 with h1; exact h1.symm
      obtain ⟨b0, b1, b2⟩ := hcell j hj
      rw [hgad, addp] at b0 b1 b2 ⊢
      exact ⟨(hcells _ rfl).trans b0, (hcells _ rfl).trans b1, (hcells _ rfl).trans b2⟩)
    have HM4 := Lib.hid (show w4.cell? ⟨g, ws.length * 3, none⟩ = some (.string (bs markW.key)) from (hcells _ rfl).trans HMK.out.1)
    have HB4 := Lib.hid (blw HB2.out hset hwX (Nat.le_refl _))
    have HS4 := Lib.hid (HB4.out.size)
    have HT := Lib.hid (fun (W : World) (h : Below w1.heap.size w1 W) => HB1.out.trans (h.mono HB1.out.size))
    rw [← hw4]
    clear hset hw4 y1 x1' hfz hcells
    have z0 := box_cells HY4.out 0 (.int .i64 t) rfl
    have z1 := box_cells HY4.out 1 (.slice (some ⟨g, 0, none⟩) ws.length c4) rfl
    go_wp2_with fail
    refine (putCom_any t _ ws w4 HR4.out hl HKL.out).mono ?_
    intro e w5 h5
    obtain ⟨hb5, v5, rfl, hr5⟩ := h5.known
    obtain ⟨L, hL⟩ : ∃ L, L = (if comOk t ws = true then encCom t.toNat ws else []) := ⟨_, rfl⟩
    obtain ⟨C, hC⟩ : ∃ C : Int, C = (if comOk t ws = true then 0 else 60) := ⟨_, rfl⟩
    rw [← hL] at hr5
    rw [← hC]
    have HL := Lib.hid hL; have HC := Lib.hid hC
    have HX5 := Lib.hid (heap_below HX4.out hb5)
    have HY5 := Lib.hid (heap_below HY4.out hb5)
    have HB5 := Lib.hid (HB4.out.trans (hb5.mono HB4.out.size))
    have HR5 := Lib.hid (HR4.out.below hb5)
    have HM5 := Lib.hid ((hb5.cell (World.block_lt_of_cell? w4 _ HM4.out)).trans HM4.out)
    have HQ5 := Lib.hid hr5
    clear hL hC h5 hb5 hr5 z0 z1
    have x0 := box_cells HX5.out 0 (.int .i64 t) rfl
    have x1 := box_cells HX5.out 1 (.slice A ws.length c) rfl
    go_wp2_with fail
    refine (putComF_any t _ ws w5 (HR.out w5 (HT.out w5 HB5.out)) hl HKL.out).mono ?_
    intro e w6 h6
    obtain ⟨hb6, v6, rfl, hr6⟩ := h6.known
    rw [← HL.out] at hr6
    rw [← HC.out]
    have HX6 := Lib.hid (heap_below HX5.out hb6)
    have HY6 := Lib.hid (heap_below HY5.out hb6)
    have HB6 := Lib.hid (HB5.out.trans (hb6.mono HB5.out.size))
    have HR6 := Lib.hid (HR5.out.below hb6)
    have HM6 := Lib.hid ((hb6.cell (World.block_lt_of_cell? w5 _ HM5.out)).trans HM5.out)
    have HQ56 := Lib.hid (HQ5.out.below hb6)
    have HQ6 := Lib.hid hr6
    have q5 := conv_rd HQ56.out
    have q6 := conv_rd HQ6.out
    clear h6 hb6 hr6 x0 x1
    have x0 := box_cells HX6.out 0 (.int .i64 t) rfl
    have x1 := box_cells HX6.out 1 (.slice A ws.length c) rfl
    have y0 := box_cells HY6.out 0 (.int .i64 t) rfl
    have y1 := box_cells HY6.out 1 (.slice (some ⟨g, 0, none⟩) ws.length c4) rfl
    go_wp2_with fail
    refine (sameCom_any t _ _ ws w6 HR6.out (HR.out w6 (HT.out w6 HB6.out)) hl).mono ?_
    rintro e w7 ⟨rfl, hb7⟩
    have HB7 := Lib.hid (HB6.out.trans (hb7.mono HB6.out.size))
    have m7 := (hb7.cell (World.block_lt_of_cell? w6 _ HM6.out)).trans HM6.out
    have HX7 := heap_below HX6.out hb7
    clear hb7 x0 x1 y0 y1 q5 q6
    have x1 := box_cells HX7 1 (.slice A ws.length c) rfl
    have hlt2 : (ws.length : Int) < (ws.length : Int) + 1 := by omega
    clear HX7
    go_wp2_with fail
    go_ret
    exact ⟨ret_bool (by simp [markW]), HT.out w7 HB7.out⟩
end Go.Proofs.Ytggjipfdfpdecaa
