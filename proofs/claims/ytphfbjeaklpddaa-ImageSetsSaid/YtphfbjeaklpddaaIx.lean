/-
  Layer 42: put.
-/
import Derived.Test.YtphfbjeaklpddaaIw
namespace Go.Proofs.Ytphfbjeaklpddaa
open Go.RowKit

/-- what put does -/
def PutPost (L : Lay) (base b b2 : Nat) (f : Int → Int → Int → Int) (x y : Int) (xs : List Int) (w : World) : Ending → World → Prop := fun e w' =>
  e = .returned (.tuple #[]) ∧ View w' base b b2 L (L.octF (putF f x y xs xs.length)) ∧ Upd b2 w w'

set_option maxRecDepth 100000 in
set_option maxHeartbeats 1000000 in
theorem put8 (L : Lay) (hok : L.ok) (hn : L.n = 1) (hB : L.B = 8) (base b b2 : Nat) (f : Int → Int → Int → Int) (x y : Int) (xs : List Int) (a : Option Addr) (cap : Nat) (w : World)
    (hv : View w base b b2 L (L.octF f)) (x0 : 0 ≤ x) (xW : x < L.W) (y0 : 0 ≤ y) (yH : y < L.H) (hxs : Ints w a xs) (hlen : (xs.length : Int) ≤ L.C) (hna : ∀ c off, a = some ⟨c, off, none⟩ → c ≠ b2) :
    Calls Try.prog 51 #[.pointer (some ⟨b, 0, none⟩), .int .i64 x, .int .i64 y, .slice a xs.length cap] w (PutPost L base b b2 f x y xs w) := by
  have hlb := L.len_bd hok
  have hc2 := hok.c2
  have hl : b < w.heap.size := hv.lt
  have hl2 := hv.lt2 hok
  have hv3 := hv.hd.c3
  rw [hB] at hv3
  clear hB
  have hmm := @run_makeMap Try.prog
  obtain ⟨hi1, hi2, hi3, hi4⟩ := map2 (P := Try.prog) (q := .i64) Try.underlying108 Try.underlying3 (w.alloc (.cells #[.pointer (some ⟨b, 0, none⟩)] 80)) (w.heap.size + 1) (by simp) 8 16
    (.func (.func 75) #[] #[.pointer (some ⟨w.heap.size, 0, none⟩)]) (.func (.func 76) #[] #[.pointer (some ⟨w.heap.size, 0, none⟩)]) (by decide)
  obtain ⟨W1, hW1⟩ : ∃ W1, W1 = (w.alloc (.cells #[.pointer (some ⟨b, 0, none⟩)] 80)).alloc (.map #[{ key := .int .i64 8, val := .func (.func 75) #[] #[.pointer (some ⟨w.heap.size, 0, none⟩)], born := 0 }, { key := .int .i64 16, val := .func (.func 76) #[] #[.pointer (some ⟨w.heap.size, 0, none⟩)], born := 1 }] 2) := ⟨_, rfl⟩
  have hbW : Below w.heap.size w W1 := by rw [hW1]; exact ((Below.refl _ _).alloc (Nat.le_refl _) _).alloc (by simp) _
  have hsW : W1.heap.size = w.heap.size + 2 := by rw [hW1]; simp
  have hbx : W1.cell? ⟨w.heap.size, 0, none⟩ = some (.pointer (some ⟨b, 0, none⟩)) := by rw [hW1]; go_simp
  have hvW : View W1 base b b2 L (L.octF f) := hv.below hok hbW
  have hxW : Ints W1 a xs := hxs.below hbW
  have HsW := Lib.hid hsW
  have HbW := Lib.hid hbW
  have HBx := Lib.hid hbx
  have HvW := Lib.hid hvW
  have HNA := Lib.hid hna
  clear hbW hsW hbx hvW hna hxs
  go_enter Try.func51, Try.ntmps51
  go_wp2
  clear hi1 hi2 hi3 hi4 hmm
  rw [← hW1]
  have HW1 := Lib.hid hW1
  clear hW1 hv3 hv
  go_loopw [23] (fun i wr => ∃ k : Nat, k ≤ xs.length ∧ i = .int .i64 k ∧ View wr base b b2 L (L.octF (putF f x y xs k)) ∧ Upd b2 W1 wr) (fun i _ => xs.length - (intOf i).toNat)
  case atStart => exact ⟨0, Nat.zero_le _, rfl, by rw [putF_zero]; exact HvW.out, Upd.refl _ _⟩
  case round =>
    obtain ⟨k, hk, rfl, hvr, hU⟩ := hrel
    have hs0 := HsW.out
    have hbxr : wr.cell? ⟨w.heap.size, 0, none⟩ = some (.pointer (some ⟨b, 0, none⟩)) := by rw [hU.cell (by show w.heap.size < _; omega) (by show w.heap.size ≠ _; omega)]; exact HBx.out
    have hszr : w.heap.size < wr.heap.size := by have := hU.size; omega
    clear hs0
    by_cases hlt : k < xs.length
    · obtain ⟨ab, off, v, rfl, hc, HX⟩ := (hxW.upd hU HNA.out).at hlt
      have hdom : L.dom x y k := ⟨⟨x0, xW⟩, ⟨y0, yH⟩, ⟨by omega, by omega⟩⟩
      obtain ⟨q0, q1, _⟩ := L.coords hok hdom (d := 0) (by omega) (by omega)
      obtain ⟨p0, _, _⟩ := L.coords hok hdom (d := 0) (by omega) (by omega)
      rw [Int.add_zero] at p0
      rw [Int.add_zero] at q0 q1
      have HR := Lib.hid hdom
      have HU := Lib.hid hU
      have HV := Lib.hid hvr
      clear hdom hU hvr
      go_wp2_with fail
      refine (vplace_any b L.W L.H L.C L.B L.pl L.P x y k wr HV.out.hd hok x0 xW y0 yH (by omega) (by omega)).mono ?_
      rintro e w1 ⟨rfl, hb1⟩
      have hv1 := HV.out.below hok hb1
      have hbx1 : w1.cell? ⟨w.heap.size, 0, none⟩ = some (.pointer (some ⟨b, 0, none⟩)) := (hb1.cell (p := ⟨w.heap.size, 0, none⟩) hszr).trans hbxr
      obtain ⟨vc, hsl1⟩ := hv1.sl
      have hcp := (hv1.bt (L.plc x y k).toNat (by omega)).1
      have hfp := (hv1.bt (L.plc x y k).toNat (by omega)).2
      have hset := fun v => View.set8 hv1 hok hn HR.out v
      have hwr : Calls Try.prog 75 #[.int .i64 (plcS L.W L.H L.C L.B L.pl L.P x y k), .int .i64 v, .pointer (some ⟨w.heap.size, 0, none⟩)] w1 _ := write8_any w.heap.size b b2 L.len.toNat vc (L.plc x y k) v w1 _ hbx1 hsl1 (by omega) (by omega) hcp hfp
      have HWR := Lib.hid hwr
      have HV1 := Lib.hid hv1
      have HS := Lib.hid hset
      have HB1 := Lib.hid hb1
      clear hv1 hset hb1 hwr
      go_wp2_with fail
      (with_reducible refine HWR.out.mono ?_)
      rintro e w2 ⟨rfl, hw2⟩
      have HW2 := Lib.hid hw2
      clear hw2
      go_wp2_with fail
      go_roundw
      case rel => exact ⟨k + 1, by omega, by go_num, by rw [HW2.out, ← putF_succ f x y xs k v HX.out]; exact HS.out v, by rw [HW2.out]; exact (HU.out.trans (Upd.of_below HB1.out)).trans (Upd.setCell _ _ _ _)⟩
      case measure => simp [intOf]; omega
    · have hkk : k = xs.length := by omega
      have HV := Lib.hid hvr
      have HU := Lib.hid hU
      have HK := Lib.hid hkk
      clear hkk hvr hU
      go_wp2
      go_end0
      exact ⟨rfl, by rw [← HK.out]; exact HV.out, (Upd.of_below HbW.out).trans HU.out⟩

set_option maxRecDepth 100000 in
set_option maxHeartbeats 1000000 in
theorem put16 (L : Lay) (hok : L.ok) (hn : L.n = 2) (hB : L.B = 16) (base b b2 : Nat) (f : Int → Int → Int → Int) (x y : Int) (xs : List Int) (a : Option Addr) (cap : Nat) (w : World)
    (hv : View w base b b2 L (L.octF f)) (x0 : 0 ≤ x) (xW : x < L.W) (y0 : 0 ≤ y) (yH : y < L.H) (hxs : Ints w a xs) (hlen : (xs.length : Int) ≤ L.C) (hna : ∀ c off, a = some ⟨c, off, none⟩ → c ≠ b2) :
    Calls Try.prog 51 #[.pointer (some ⟨b, 0, none⟩), .int .i64 x, .int .i64 y, .slice a xs.length cap] w (PutPost L base b b2 f x y xs w) := by
  have hlb := L.len_bd hok
  have hc2 := hok.c2
  have hl : b < w.heap.size := hv.lt
  have hl2 := hv.lt2 hok
  have hv3 := hv.hd.c3
  rw [hB] at hv3
  clear hB
  have hmm := @run_makeMap Try.prog
  obtain ⟨hi1, hi2, hi3, hi4⟩ := map2 (P := Try.prog) (q := .i64) Try.underlying108 Try.underlying3 (w.alloc (.cells #[.pointer (some ⟨b, 0, none⟩)] 80)) (w.heap.size + 1) (by simp) 8 16
    (.func (.func 75) #[] #[.pointer (some ⟨w.heap.size, 0, none⟩)]) (.func (.func 76) #[] #[.pointer (some ⟨w.heap.size, 0, none⟩)]) (by decide)
  obtain ⟨W1, hW1⟩ : ∃ W1, W1 = (w.alloc (.cells #[.pointer (some ⟨b, 0, none⟩)] 80)).alloc (.map #[{ key := .int .i64 8, val := .func (.func 75) #[] #[.pointer (some ⟨w.heap.size, 0, none⟩)], born := 0 }, { key := .int .i64 16, val := .func (.func 76) #[] #[.pointer (some ⟨w.heap.size, 0, none⟩)], born := 1 }] 2) := ⟨_, rfl⟩
  have hbW : Below w.heap.size w W1 := by rw [hW1]; exact ((Below.refl _ _).alloc (Nat.le_refl _) _).alloc (by simp) _
  have hsW : W1.heap.size = w.heap.size + 2 := by rw [hW1]; simp
  have hbx : W1.cell? ⟨w.heap.size, 0, none⟩ = some (.pointer (some ⟨b, 0, none⟩)) := by rw [hW1]; go_simp
  have hvW : View W1 base b b2 L (L.octF f) := hv.below hok hbW
  have hxW : Ints W1 a xs := hxs.below hbW
  have HsW := Lib.hid hsW
  have HbW := Lib.hid hbW
  have HBx := Lib.hid hbx
  have HvW := Lib.hid hvW
  have HNA := Lib.hid hna
  clear hbW hsW hbx hvW hna hxs
  go_enter Try.func51, Try.ntmps51
  go_wp2
  clear hi1 hi2 hi3 hi4 hmm
  rw [← hW1]
  have HW1 := Lib.hid hW1
  clear hW1 hv3 hv
  go_loopw [23] (fun i wr => ∃ k : Nat, k ≤ xs.length ∧ i = .int .i64 k ∧ View wr base b b2 L (L.octF (putF f x y xs k)) ∧ Upd b2 W1 wr) (fun i _ => xs.length - (intOf i).toNat)
  case atStart => exact ⟨0, Nat.zero_le _, rfl, by rw [putF_zero]; exact HvW.out, Upd.refl _ _⟩
  case round =>
    obtain ⟨k, hk, rfl, hvr, hU⟩ := hrel
    have hs0 := HsW.out
    have hbxr : wr.cell? ⟨w.heap.size, 0, none⟩ = some (.pointer (some ⟨b, 0, none⟩)) := by rw [hU.cell (by show w.heap.size < _; omega) (by show w.heap.size ≠ _; omega)]; exact HBx.out
    have hszr : w.heap.size < wr.heap.size := by have := hU.size; omega
    clear hs0
    by_cases hlt : k < xs.length
    · obtain ⟨ab, off, v, rfl, hc, HX⟩ := (hxW.upd hU HNA.out).at hlt
      have hdom : L.dom x y k := ⟨⟨x0, xW⟩, ⟨y0, yH⟩, ⟨by omega, by omega⟩⟩
      obtain ⟨q0, q1, _⟩ := L.coords hok hdom (d := 1) (by omega) (by omega)
      obtain ⟨p0, _, _⟩ := L.coords hok hdom (d := 0) (by omega) (by omega)
      rw [Int.add_zero] at p0
      have HR := Lib.hid hdom
      have HU := Lib.hid hU
      have HV := Lib.hid hvr
      clear hdom hU hvr
      go_wp2_with fail
      refine (vplace_any b L.W L.H L.C L.B L.pl L.P x y k wr HV.out.hd hok x0 xW y0 yH (by omega) (by omega)).mono ?_
      rintro e w1 ⟨rfl, hb1⟩
      have hv1 := HV.out.below hok hb1
      have hbx1 : w1.cell? ⟨w.heap.size, 0, none⟩ = some (.pointer (some ⟨b, 0, none⟩)) := (hb1.cell (p := ⟨w.heap.size, 0, none⟩) hszr).trans hbxr
      obtain ⟨vc, hsl1⟩ := hv1.sl
      have hcp := (hv1.bt (L.plc x y k).toNat (by omega)).1
      have hfp := (hv1.bt (L.plc x y k).toNat (by omega)).2
      have hcp2 := (hv1.bt (L.plc x y k + 1).toNat (by omega)).1
      have hfp2 := (hv1.bt (L.plc x y k + 1).toNat (by omega)).2
      have hset := fun v => View.set16 hv1 hok hn HR.out v
      have hwr : Calls Try.prog 76 #[.int .i64 (plcS L.W L.H L.C L.B L.pl L.P x y k), .int .i64 v, .pointer (some ⟨w.heap.size, 0, none⟩)] w1 _ := write16_any w.heap.size b b2 L.len.toNat vc (L.plc x y k) v w1 _ _ hbx1 hsl1 (by omega) (by omega) (by omega) hcp hfp hcp2 hfp2
      have HWR := Lib.hid hwr
      have HV1 := Lib.hid hv1
      have HS := Lib.hid hset
      have HB1 := Lib.hid hb1
      clear hv1 hset hb1 hwr
      go_wp2_with fail
      (with_reducible refine HWR.out.mono ?_)
      rintro e w2 ⟨rfl, hw2⟩
      have HW2 := Lib.hid hw2
      clear hw2
      go_wp2_with fail
      go_roundw
      case rel => exact ⟨k + 1, by omega, by go_num, by rw [HW2.out, ← putF_succ f x y xs k v HX.out]; exact HS.out v, by rw [HW2.out]; exact ((HU.out.trans (Upd.of_below HB1.out)).trans ((Upd.setCell _ _ _ _).trans (Upd.setCell _ _ _ _))).trans (Upd.drew _ _)⟩
      case measure => simp [intOf]; omega
    · have hkk : k = xs.length := by omega
      have HV := Lib.hid hvr
      have HU := Lib.hid hU
      have HK := Lib.hid hkk
      clear hkk hvr hU
      go_wp2
      go_end0
      exact ⟨rfl, by rw [← HK.out]; exact HV.out, (Upd.of_below HbW.out).trans HU.out⟩

end Go.Proofs.Ytphfbjeaklpddaa
