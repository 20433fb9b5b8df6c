/-
  Layer 42: pixel.
-/
import Derived.Test.YtphfbjeaklpddaaIz
import Derived.Laws.EntriesVeiled
namespace Go.Proofs.Ytphfbjeaklpddaa
open Go.RowKit

theorem MadePost.mono {h : Int → Int} {n : Nat} {w W : World} (hW : Below w.heap.size w W) {e : Ending} {w' : World} (hp : MadePost h n W e w') : MadePost h n w e w' := by
  obtain ⟨b, cap, he, hi, h1, h2, h3⟩ := hp
  exact ⟨b, cap, he, hi, Nat.le_trans hW.size h1, h2, hW.trans (h3.mono hW.size)⟩

set_option maxRecDepth 100000 in
set_option maxHeartbeats 1000000 in
theorem pixel_1 (L : Lay) (hok : L.ok) (hn : L.n = 1) (hB : L.B = 8) (base b b2 : Nat) (g : Int → Int) (hg : ∀ p, 0 ≤ g p ∧ g p < 256) (x y : Int) (w : World) (hv : View w base b b2 L g)
    (x0 : 0 ≤ x) (xW : x < L.W) (y0 : 0 ≤ y) (yH : y < L.H) :
    Calls Try.prog 47 #[.pointer (some ⟨b, 0, none⟩), .int .i64 x, .int .i64 y] w (MadePost (fun c => L.smp g x y c) L.C.toNat w) := by
  have hl : b < w.heap.size := hv.lt
  have c1 := hok.c1
  have c2 := hok.c2
  have hv3 := hv.hd.c3
  have hv2 := hv.hd.c2
  obtain ⟨cn, hcn⟩ := Int.eq_ofNat_of_zero_le (a := L.C) (by omega)
  rw [hB] at hv3
  rw [hcn] at hv2
  rw [show L.C.toNat = cn by omega]
  have hmm := @run_makeMap Try.prog
  obtain ⟨W3, hW3⟩ : ∃ W3, W3 = ((w.alloc (.cells #[.pointer (some ⟨b, 0, none⟩)] 80)).alloc (.cells #[.int .i64 x] 3)).alloc (.cells #[.int .i64 y] 3) := ⟨_, rfl⟩
  have hs3 : W3.heap.size = w.heap.size + 1 + 1 + 1 := by rw [hW3]; simp
  obtain ⟨hi1, hi2, hi3, hi4⟩ := map2 (P := Try.prog) (q := .i64) Try.underlying104 Try.underlying3 W3 (w.heap.size + 1 + 1 + 1) hs3.symm 8 16
    (.func (.func 68) #[] #[.pointer (some ⟨w.heap.size, 0, none⟩)]) (.func (.func 69) #[] #[.pointer (some ⟨w.heap.size, 0, none⟩)]) (by decide)
  rw [hW3] at hi1 hi2 hi3 hi4
  obtain ⟨W5, hW5⟩ : ∃ W5, W5 = ((((w.alloc (.cells #[.pointer (some ⟨b, 0, none⟩)] 80)).alloc (.cells #[.int .i64 x] 3)).alloc (.cells #[.int .i64 y] 3)).alloc (.map #[{ key := .int .i64 8, val := .func (.func 68) #[] #[.pointer (some ⟨w.heap.size, 0, none⟩)], born := 0 }, { key := .int .i64 16, val := .func (.func 69) #[] #[.pointer (some ⟨w.heap.size, 0, none⟩)], born := 1 }] 2)).alloc (.cells #[.func (.func 68) #[] #[.pointer (some ⟨w.heap.size, 0, none⟩)]] 96) := ⟨_, rfl⟩
  have hB5 : Below w.heap.size w W5 := by
    rw [hW5]
    repeat (first | exact Below.refl _ _ | (refine Below.alloc ?_ ?_ _))
    all_goals ((try simp only [World.size_alloc]); omega)
  have hv5 : View W5 base b b2 L g := hv.below hok hB5
  have k0 : W5.cell? ⟨w.heap.size, 0, none⟩ = some (.pointer (some ⟨b, 0, none⟩)) := by rw [hW5]; go_simp
  have k1 : W5.cell? ⟨w.heap.size + 1, 0, none⟩ = some (.int .i64 x) := by rw [hW5]; go_simp
  have k2 : W5.cell? ⟨w.heap.size + 1 + 1, 0, none⟩ = some (.int .i64 y) := by rw [hW5]; go_simp
  have k4 : W5.cell? ⟨w.heap.size + 1 + 1 + 1 + 1, 0, none⟩ = some (.func (.func 68) #[] #[.pointer (some ⟨w.heap.size, 0, none⟩)]) := by rw [hW5]; go_simp
  have hmade := made_70 cn (by omega) ⟨w.heap.size + 1 + 1 + 1 + 1, 0, none⟩ ⟨w.heap.size, 0, none⟩ ⟨w.heap.size + 1, 0, none⟩ ⟨w.heap.size + 1 + 1, 0, none⟩ (fun c => L.smp g x y c) W5
    (fun c W hc hW => pix3_1 L hok hn hB base b b2 g hg _ _ _ _ x y c W (hv5.below hok hW) ((hW.cell (p := ⟨w.heap.size + 1 + 1 + 1 + 1, 0, none⟩) (World.block_lt_of_cell? _ _ k4)).trans k4) ((hW.cell (p := ⟨w.heap.size, 0, none⟩) (World.block_lt_of_cell? _ _ k0)).trans k0)
      ((hW.cell (p := ⟨w.heap.size + 1, 0, none⟩) (World.block_lt_of_cell? _ _ k1)).trans k1) ((hW.cell (p := ⟨w.heap.size + 1 + 1, 0, none⟩) (World.block_lt_of_cell? _ _ k2)).trans k2) x0 xW y0 yH (by omega) (by omega))
  have HM := Lib.hid hmade
  have HB5 := Lib.hid hB5
  have HW5 := Lib.hid hW5
  clear hmade hB5 hv5 k0 k1 k2 k4 hv hB hcn hn hW3 hs3
  rw [hW5] at HM
  clear hW5
  have l1 : b < w.heap.size + 1 := by omega
  have l2 : b < w.heap.size + 1 + 1 := by omega
  have l3 : b < w.heap.size + 1 + 1 + 1 := by omega
  have l4 : b < w.heap.size + 1 + 1 + 1 + 1 := by omega
  go_enter Try.func47, Try.ntmps47
  go_wp2_with fail
  (with_reducible refine HM.out.mono ?_)
  intro e w' hp
  have hp' := MadePost.mono (HW5.out ▸ HB5.out) hp
  obtain ⟨b', cap', rfl, r1, r2, r3, r4⟩ := hp'
  have R1 := Lib.hid r1
  have R4 := Lib.hid r4
  clear r1 r4 hp
  go_wp2_with fail
  go_ret
  exact ⟨b', cap', rfl, R1.out, r2, r3, R4.out⟩

set_option maxRecDepth 100000 in
set_option maxHeartbeats 1000000 in
theorem pixel_2 (L : Lay) (hok : L.ok) (hn : L.n = 2) (hB : L.B = 16) (base b b2 : Nat) (g : Int → Int) (hg : ∀ p, 0 ≤ g p ∧ g p < 256) (x y : Int) (w : World) (hv : View w base b b2 L g)
    (x0 : 0 ≤ x) (xW : x < L.W) (y0 : 0 ≤ y) (yH : y < L.H) :
    Calls Try.prog 47 #[.pointer (some ⟨b, 0, none⟩), .int .i64 x, .int .i64 y] w (MadePost (fun c => L.smp g x y c) L.C.toNat w) := by
  have hl : b < w.heap.size := hv.lt
  have c1 := hok.c1
  have c2 := hok.c2
  have hv3 := hv.hd.c3
  have hv2 := hv.hd.c2
  obtain ⟨cn, hcn⟩ := Int.eq_ofNat_of_zero_le (a := L.C) (by omega)
  rw [hB] at hv3
  rw [hcn] at hv2
  rw [show L.C.toNat = cn by omega]
  have hmm := @run_makeMap Try.prog
  obtain ⟨W3, hW3⟩ : ∃ W3, W3 = ((w.alloc (.cells #[.pointer (some ⟨b, 0, none⟩)] 80)).alloc (.cells #[.int .i64 x] 3)).alloc (.cells #[.int .i64 y] 3) := ⟨_, rfl⟩
  have hs3 : W3.heap.size = w.heap.size + 1 + 1 + 1 := by rw [hW3]; simp
  obtain ⟨hi1, hi2, hi3, hi4⟩ := map2 (P := Try.prog) (q := .i64) Try.underlying104 Try.underlying3 W3 (w.heap.size + 1 + 1 + 1) hs3.symm 8 16
    (.func (.func 68) #[] #[.pointer (some ⟨w.heap.size, 0, none⟩)]) (.func (.func 69) #[] #[.pointer (some ⟨w.heap.size, 0, none⟩)]) (by decide)
  rw [hW3] at hi1 hi2 hi3 hi4
  obtain ⟨W5, hW5⟩ : ∃ W5, W5 = ((((w.alloc (.cells #[.pointer (some ⟨b, 0, none⟩)] 80)).alloc (.cells #[.int .i64 x] 3)).alloc (.cells #[.int .i64 y] 3)).alloc (.map #[{ key := .int .i64 8, val := .func (.func 68) #[] #[.pointer (some ⟨w.heap.size, 0, none⟩)], born := 0 }, { key := .int .i64 16, val := .func (.func 69) #[] #[.pointer (some ⟨w.heap.size, 0, none⟩)], born := 1 }] 2)).alloc (.cells #[.func (.func 69) #[] #[.pointer (some ⟨w.heap.size, 0, none⟩)]] 96) := ⟨_, rfl⟩
  have hB5 : Below w.heap.size w W5 := by
    rw [hW5]
    repeat (first | exact Below.refl _ _ | (refine Below.alloc ?_ ?_ _))
    all_goals ((try simp only [World.size_alloc]); omega)
  have hv5 : View W5 base b b2 L g := hv.below hok hB5
  have k0 : W5.cell? ⟨w.heap.size, 0, none⟩ = some (.pointer (some ⟨b, 0, none⟩)) := by rw [hW5]; go_simp
  have k1 : W5.cell? ⟨w.heap.size + 1, 0, none⟩ = some (.int .i64 x) := by rw [hW5]; go_simp
  have k2 : W5.cell? ⟨w.heap.size + 1 + 1, 0, none⟩ = some (.int .i64 y) := by rw [hW5]; go_simp
  have k4 : W5.cell? ⟨w.heap.size + 1 + 1 + 1 + 1, 0, none⟩ = some (.func (.func 69) #[] #[.pointer (some ⟨w.heap.size, 0, none⟩)]) := by rw [hW5]; go_simp
  have hmade := made_70 cn (by omega) ⟨w.heap.size + 1 + 1 + 1 + 1, 0, none⟩ ⟨w.heap.size, 0, none⟩ ⟨w.heap.size + 1, 0, none⟩ ⟨w.heap.size + 1 + 1, 0, none⟩ (fun c => L.smp g x y c) W5
    (fun c W hc hW => pix3_2 L hok hn hB base b b2 g hg _ _ _ _ x y c W (hv5.below hok hW) ((hW.cell (p := ⟨w.heap.size + 1 + 1 + 1 + 1, 0, none⟩) (World.block_lt_of_cell? _ _ k4)).trans k4) ((hW.cell (p := ⟨w.heap.size, 0, none⟩) (World.block_lt_of_cell? _ _ k0)).trans k0)
      ((hW.cell (p := ⟨w.heap.size + 1, 0, none⟩) (World.block_lt_of_cell? _ _ k1)).trans k1) ((hW.cell (p := ⟨w.heap.size + 1 + 1, 0, none⟩) (World.block_lt_of_cell? _ _ k2)).trans k2) x0 xW y0 yH (by omega) (by omega))
  have HM := Lib.hid hmade
  have HB5 := Lib.hid hB5
  have HW5 := Lib.hid hW5
  clear hmade hB5 hv5 k0 k1 k2 k4 hv hB hcn hn hW3 hs3
  rw [hW5] at HM
  clear hW5
  have l1 : b < w.heap.size + 1 := by omega
  have l2 : b < w.heap.size + 1 + 1 := by omega
  have l3 : b < w.heap.size + 1 + 1 + 1 := by omega
  have l4 : b < w.heap.size + 1 + 1 + 1 + 1 := by omega
  go_enter Try.func47, Try.ntmps47
  go_wp2_with fail
  (with_reducible refine HM.out.mono ?_)
  intro e w' hp
  have hp' := MadePost.mono (HW5.out ▸ HB5.out) hp
  obtain ⟨b', cap', rfl, r1, r2, r3, r4⟩ := hp'
  have R1 := Lib.hid r1
  have R4 := Lib.hid r4
  clear r1 r4 hp
  go_wp2_with fail
  go_ret
  exact ⟨b', cap', rfl, R1.out, r2, r3, R4.out⟩

theorem pixel_any (L : Lay) (hok : L.ok) (base b b2 : Nat) (g : Int → Int) (hg : ∀ p, 0 ≤ g p ∧ g p < 256) (x y : Int) (w : World) (hv : View w base b b2 L g)
    (x0 : 0 ≤ x) (xW : x < L.W) (y0 : 0 ≤ y) (yH : y < L.H) :
    Calls Try.prog 47 #[.pointer (some ⟨b, 0, none⟩), .int .i64 x, .int .i64 y] w (MadePost (fun c => L.smp g x y c) L.C.toNat w) := by
  rcases L.n_cases hok with ⟨hn, hB⟩ | ⟨hn, hB⟩
  · exact pixel_1 L hok hn hB base b b2 g hg x y w hv x0 xW y0 yH
  · exact pixel_2 L hok hn hB base b b2 g hg x y w hv x0 xW y0 yH

end Go.Proofs.Ytphfbjeaklpddaa
