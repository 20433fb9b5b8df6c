/-
  Joined texts: Layer 42: Set. · Layer 42: copied. · Layer 42: Cut. · Layer 42: Cut of a part that lies within the image. · Layer 42: Paste, its errors. · Layer 42: Paste of a part that lies within the image. · A range over a function whose body never leaves early: one law, for method values and clos · Layer 42: the iterator over the pixels. · Layer 42: Shape, its errors. · Layer 42: Shape's closures. · A region within a round of a range over a function, by the calculus that knows no rounds:  · Layer 42: Shape.
-/
import Derived.Test.YtphfbjeaklpddaaOL4
import Derived.StillTailTactics
import Derived.Test.YtphfbjeaklpddaaOL3
import Derived.RangeFuncFrom
import Derived.RangeFuncCalls
import Derived.RangeFuncLeaves
import Derived.Shelf.Abstract
import Derived.Shelf.RegionOpen
import Derived.OwnWalkIn
import Derived.TacticsInMore
import Derived.LoopNIn
import Derived.LoopIn
import Derived.OrdersHeld
import Derived.Deep.RegionHeld3
import Derived.OrdersIn
set_option linter.unusedSimpArgs false
set_option linter.unusedVariables false

/- Layer 42: Set. -/
namespace Go.Proofs.Ytphfbjeaklpddaa
open Go.RowKit

def rngB (L : Lay) (xs : List Int) : Bool := xs.all fun v => inB v 0 (if L.B = 8 then 255 else 65535)

set_option maxHeartbeats 1000000 in
theorem set_bad (L : Lay) (O : ByteArray) (x y : Int) (xs : List Int) (a : Option Addr) (cap : Nat) (w : World) (hn : ¬ L.valid O) :
    Calls Try.prog 22 #[L.img O, .int .i64 x, .int .i64 y, .slice a xs.length cap] w fun e w' => e = .returned (.tuple #[zimg, .int .i64 420]) ∧ Below w.heap.size w w' := by
  have HO := fun w => at_bad L O x y w hn
  unfold Lay.img at *
  have HO := Lib.hid HO
  go_enter Try.func22, Try.ntmps22
  go_wp2_with fail
  (with_reducible refine (HO.out _).mono ?_)
  rintro e w1 ⟨rfl, hb⟩
  obtain ⟨hc, hf, hz⟩ := after hb
  simp only [World.size_alloc] at hz
  have hx : w.heap.size < w1.heap.size := by omega
  have hx' : w.heap.size + 1 < w1.heap.size := by omega
  go_wp2_with fail
  refine bodyPost_ret (v := .tuple #[zimg, .int .i64 420]) ?_ rfl ?_
  · simp [results, Try.results22, go_sem, hc, hx, hx']
  refine ⟨rfl, ?_⟩
  ((repeat (first | (with_reducible exact Below.refl _ _) | (with_reducible refine Below.setCell ?_ ?_ _) | (with_reducible refine Below.alloc ?_ ?_ _) | (with_reducible refine Below.drew ?_) | (with_reducible refine Below.trans ?_ (Below.mono (by assumption) ?_)))); all_goals ((try simp only [World.size_alloc, World.size_drew, World.size_setCell]); omega))

set_option maxHeartbeats 1000000 in
theorem set_none (L : Lay) (O : ByteArray) (x y : Int) (xs : List Int) (a : Option Addr) (cap : Nat) (w : World) (hn : L.valid O) (ht : thereB L x y = false) :
    Calls Try.prog 22 #[L.img O, .int .i64 x, .int .i64 y, .slice a xs.length cap] w fun e w' => e = .returned (.tuple #[zimg, .int .i64 2]) ∧ Below w.heap.size w w' := by
  have HO := fun w => at_none L O x y w hn ht
  unfold Lay.img at *
  have HO := Lib.hid HO
  go_enter Try.func22, Try.ntmps22
  go_wp2_with fail
  (with_reducible refine (HO.out _).mono ?_)
  rintro e w1 ⟨rfl, hb⟩
  obtain ⟨hc, hf, hz⟩ := after hb
  simp only [World.size_alloc] at hz
  have hx : w.heap.size < w1.heap.size := by omega
  have hx' : w.heap.size + 1 < w1.heap.size := by omega
  go_wp2_with fail
  refine bodyPost_ret (v := .tuple #[zimg, .int .i64 2]) ?_ rfl ?_
  · simp [results, Try.results22, go_sem, hc, hx, hx']
  refine ⟨rfl, ?_⟩
  ((repeat (first | (with_reducible exact Below.refl _ _) | (with_reducible refine Below.setCell ?_ ?_ _) | (with_reducible refine Below.alloc ?_ ?_ _) | (with_reducible refine Below.drew ?_) | (with_reducible refine Below.trans ?_ (Below.mono (by assumption) ?_)))); all_goals ((try simp only [World.size_alloc, World.size_drew, World.size_setCell]); omega))

set_option maxHeartbeats 1000000 in
theorem set_len (L : Lay) (O : ByteArray) (x y : Int) (xs : List Int) (a : Option Addr) (cap : Nat) (w : World) (hl : xs.length ≤ maxLen) (hn : L.valid O) (ht : thereB L x y = true) (hlen : ((xs.length : Int) != L.C) = true) :
    Calls Try.prog 22 #[L.img O, .int .i64 x, .int .i64 y, .slice a xs.length cap] w fun e w' => e = .returned (.tuple #[zimg, .int .i64 2]) ∧ Below w.heap.size w w' := by
  have HO := fun w => at_ok L O x y w hn ht
  unfold maxLen at hl
  unfold Lay.img at *
  have HO := Lib.hid HO
  go_enter Try.func22, Try.ntmps22
  go_wp2_with fail
  (with_reducible refine (HO.out _).mono ?_)
  rintro e w1 ⟨b, b2, rfl, hv, hb⟩
  obtain ⟨hc, hf, hz⟩ := after hb
  simp only [World.size_alloc] at hz
  have hx : w.heap.size < w1.heap.size := by omega
  have hx' : w.heap.size + 1 < w1.heap.size := by omega
  have hlv := hv.lt
  obtain ⟨v0, v1, v2, v3, v4, v5⟩ := hv.hd
  clear hv
  go_wp2_with fail
  refine bodyPost_ret (v := .tuple #[zimg, .int .i64 2]) ?_ rfl ?_
  · simp [results, Try.results22, go_sem, hc, hx, hx']
  refine ⟨rfl, ?_⟩
  ((repeat (first | (with_reducible exact Below.refl _ _) | (with_reducible refine Below.setCell ?_ ?_ _) | (with_reducible refine Below.alloc ?_ ?_ _) | (with_reducible refine Below.drew ?_) | (with_reducible refine Below.trans ?_ (Below.mono (by assumption) ?_)))); all_goals ((try simp only [World.size_alloc, World.size_drew, World.size_setCell]); omega))

set_option maxHeartbeats 1000000 in
theorem set_range8 (L : Lay) (hB : L.B = 8) (O : ByteArray) (x y : Int) (xs : List Int) (a : Option Addr) (cap : Nat) (w : World) (hxs : Ints w a xs) (hl : xs.length ≤ maxLen) (hn : L.valid O) (ht : thereB L x y = true) (hlen : ((xs.length : Int) != L.C) = false) (hr : rngB L xs = false) :
    Calls Try.prog 22 #[L.img O, .int .i64 x, .int .i64 y, .slice a xs.length cap] w fun e w' => e = .returned (.tuple #[zimg, .int .i64 2]) ∧ Below w.heap.size w w' := by
  have HO := fun w => at_ok L O x y w hn ht
  have hl' : xs.length ≤ 9223372036854775807 := hl
  have hr' : (xs.all fun v => inB v 0 255) = false := by
    unfold rngB at hr
    rw [if_pos hB] at hr
    exact hr
  have hbw : ∀ o1 o2, Below w.heap.size w ((w.alloc o1).alloc o2) := fun o1 o2 => ((Below.refl _ _).alloc (Nat.le_refl _) _).alloc (by simp) _
  unfold Lay.img at *
  have HO := Lib.hid HO
  have HBW := Lib.hid hbw
  have HBB := Lib.hid hB
  clear hbw hr hB
  go_enter Try.func22, Try.ntmps22
  go_wp2_with fail
  (with_reducible refine (HO.out _).mono ?_)
  rintro e w1 ⟨b, b2, rfl, hv, hb⟩
  obtain ⟨hc, hf, hz⟩ := after hb
  simp only [World.size_alloc] at hz
  have hx : w.heap.size < w1.heap.size := by omega
  have hx' : w.heap.size + 1 < w1.heap.size := by omega
  have hlv := hv.lt
  obtain ⟨v0, v1, v2, v3, v4, v5⟩ := hv.hd
  rw [HBB.out] at v3
  have hx1 := (hxs.below (HBW.out _ _)).below hb
  have HX1 := Lib.hid hx1
  clear hv hx1 hxs
  go_wp2_with fail
  (with_reducible refine (between_any 0 255 xs a cap _ HX1.out hl).mono ?_)
  rintro e w2 ⟨rfl, hb2⟩; obtain ⟨hc2, hf2, hz2⟩ := after hb2; have hx2 : w.heap.size < w2.heap.size := (by omega); have hx2' : w.heap.size + 1 < w2.heap.size := (by omega)
  go_wp2_with fail
  refine bodyPost_ret (v := .tuple #[zimg, .int .i64 2]) ?_ rfl ?_
  · simp [results, Try.results22, go_sem, hc2, hc, hx, hx', hx2, hx2']
  refine ⟨rfl, ?_⟩
  ((repeat (first | (with_reducible exact Below.refl _ _) | (with_reducible refine Below.setCell ?_ ?_ _) | (with_reducible refine Below.alloc ?_ ?_ _) | (with_reducible refine Below.drew ?_) | (with_reducible refine Below.trans ?_ (Below.mono (by assumption) ?_)))); all_goals ((try simp only [World.size_alloc, World.size_drew, World.size_setCell]); omega))

set_option maxHeartbeats 1000000 in
theorem set_ok8 (L : Lay) (hB : L.B = 8) (O : ByteArray) (x y : Int) (xs : List Int) (a : Option Addr) (cap : Nat) (w : World) (hxs : Ints w a xs) (hl : xs.length ≤ maxLen) (hn : L.valid O) (ht : thereB L x y = true) (hlen : ((xs.length : Int) != L.C) = false) (hr : rngB L xs = true) :
    Calls Try.prog 22 #[L.img O, .int .i64 x, .int .i64 y, .slice a xs.length cap] w fun e w' => e = .returned (.tuple #[L.img (octS L.len.toNat (L.octF (putF (L.fn O) x y xs xs.length))), .int .i64 0]) ∧ Below w.heap.size w w' := by
  have HO := fun w => at_ok L O x y w hn ht
  have hl' : xs.length ≤ 9223372036854775807 := hl
  obtain ⟨⟨x0, xW⟩, ⟨y0, yH⟩⟩ := (thereB_iff L x y).1 ht
  have hlen' : (xs.length : Int) = L.C := by simpa using hlen
  have hc1 := hn.1.c1
  obtain ⟨ab, ao, ha, hcell⟩ := hxs (by rintro rfl; simp at hlen'; omega)
  have hab : ab < w.heap.size := World.block_lt_of_cell? _ _ (hcell 0 (by omega))
  have HL := Lib.hid hlen'
  have hr' : (xs.all fun v => inB v 0 255) = true := by
    unfold rngB at hr
    rw [if_pos hB] at hr
    exact hr
  have hbw : ∀ o1 o2, Below w.heap.size w ((w.alloc o1).alloc o2) := fun o1 o2 => ((Below.refl _ _).alloc (Nat.le_refl _) _).alloc (by simp) _
  unfold Lay.img at *
  have HO := Lib.hid HO
  have HBW := Lib.hid hbw
  have HA := Lib.hid ha
  have HBB := Lib.hid hB
  clear hbw hr hlen' hcell ha hB
  go_enter Try.func22, Try.ntmps22
  go_wp2_with fail
  (with_reducible refine (HO.out _).mono ?_)
  rintro e w1 ⟨b, b2, rfl, hv, hb⟩
  obtain ⟨hc, hf, hz⟩ := after hb
  simp only [World.size_alloc] at hz
  have hx : w.heap.size < w1.heap.size := by omega
  have hx' : w.heap.size + 1 < w1.heap.size := by omega
  have hlv := hv.lt
  have hvf := Opened.view hn hv
  have hb1 := hv.b1
  have hb22 := hv.b2
  simp only [World.size_alloc] at hb1 hb22
  have hnb : w.heap.size + 1 ≠ b := by omega
  have hnb' : w.heap.size ≠ b := by omega
  have hnb2 : w.heap.size + 1 ≠ b2 := by omega
  have hnb2' : w.heap.size ≠ b2 := by omega
  obtain ⟨v0, v1, v2, v3, v4, v5⟩ := hv.hd
  rw [HBB.out] at v3
  have hx1 := (hxs.below (HBW.out _ _)).below hb
  have HX1 := Lib.hid hx1
  have HVF := Lib.hid hvf
  clear hv hx1 hxs hvf
  go_wp2_with fail
  (with_reducible refine (between_any 0 255 xs a cap _ HX1.out hl).mono ?_)
  rintro e w2 ⟨rfl, hb2⟩; obtain ⟨hc2, hf2, hz2⟩ := after hb2; have hx2 : w.heap.size < w2.heap.size := (by omega); have hx2' : w.heap.size + 1 < w2.heap.size := (by omega)
  go_wp2_with fail
  have HP := Lib.hid (put_any L hn.1 _ b b2 (L.fn O) x y xs a cap w2 (HVF.out.below hn.1 hb2) x0 xW y0 yH (HX1.out.below hb2) (by rw [HL.out]; exact Int.le_refl _) (fun c off e => by rw [HA.out] at e; cases e; omega))
  (with_reducible refine HP.out.mono ?_)
  rintro e w3 ⟨rfl, hv3, hu3⟩
  obtain ⟨hc3, hf3, hz3⟩ := afterU hu3
  have hx3 : w.heap.size < w3.heap.size := by omega
  have hx3' : w.heap.size + 1 < w3.heap.size := by omega
  have hcl := closed_any L hn.1 _ b b2 _ w3 hv3
  unfold Lay.img at hcl
  have HC := Lib.hid hcl
  clear hcl hv3
  go_wp2_with fail
  (with_reducible refine HC.out.mono ?_)
  rintro e w4 ⟨rfl, hu4⟩
  obtain ⟨hc4, hf4, hz4⟩ := afterU hu4
  have hx4 : w.heap.size < w4.heap.size := by omega
  have hx4' : w.heap.size + 1 < w4.heap.size := by omega
  have hb3 := hu3.below (B := w.heap.size) (by omega) (by omega)
  have hb4 := hu4.below (B := w.heap.size) (by omega) (by omega)
  go_wp2_with fail
  refine bodyPost_ret (v := .tuple #[L.img (octS L.len.toNat (L.octF (putF (L.fn O) x y xs xs.length))), .int .i64 0]) ?_ rfl ?_
  · simp [results, Try.results22, go_sem, Lay.img, hc4, hc3, hc2, hc, hx, hx', hx2, hx2', hx3, hx3', hx4, hx4', hnb, hnb', hnb2, hnb2']
  refine ⟨rfl, ?_⟩
  ((repeat (first | (with_reducible exact Below.refl _ _) | (with_reducible refine Below.setCell ?_ ?_ _) | (with_reducible refine Below.alloc ?_ ?_ _) | (with_reducible refine Below.drew ?_) | (with_reducible refine Below.trans ?_ (Below.mono (by assumption) ?_)))); all_goals ((try simp only [World.size_alloc, World.size_drew, World.size_setCell]); omega))

set_option maxHeartbeats 1000000 in
theorem set_range16 (L : Lay) (hB : L.B = 16) (O : ByteArray) (x y : Int) (xs : List Int) (a : Option Addr) (cap : Nat) (w : World) (hxs : Ints w a xs) (hl : xs.length ≤ maxLen) (hn : L.valid O) (ht : thereB L x y = true) (hlen : ((xs.length : Int) != L.C) = false) (hr : rngB L xs = false) :
    Calls Try.prog 22 #[L.img O, .int .i64 x, .int .i64 y, .slice a xs.length cap] w fun e w' => e = .returned (.tuple #[zimg, .int .i64 2]) ∧ Below w.heap.size w w' := by
  have HO := fun w => at_ok L O x y w hn ht
  have hl' : xs.length ≤ 9223372036854775807 := hl
  have hr' : (xs.all fun v => inB v 0 65535) = false := by
    unfold rngB at hr
    rw [if_neg (by omega)] at hr
    exact hr
  have hbw : ∀ o1 o2, Below w.heap.size w ((w.alloc o1).alloc o2) := fun o1 o2 => ((Below.refl _ _).alloc (Nat.le_refl _) _).alloc (by simp) _
  unfold Lay.img at *
  have HO := Lib.hid HO
  have HBW := Lib.hid hbw
  have HBB := Lib.hid hB
  clear hbw hr hB
  go_enter Try.func22, Try.ntmps22
  go_wp2_with fail
  (with_reducible refine (HO.out _).mono ?_)
  rintro e w1 ⟨b, b2, rfl, hv, hb⟩
  obtain ⟨hc, hf, hz⟩ := after hb
  simp only [World.size_alloc] at hz
  have hx : w.heap.size < w1.heap.size := by omega
  have hx' : w.heap.size + 1 < w1.heap.size := by omega
  have hlv := hv.lt
  obtain ⟨v0, v1, v2, v3, v4, v5⟩ := hv.hd
  rw [HBB.out] at v3
  have hx1 := (hxs.below (HBW.out _ _)).below hb
  have HX1 := Lib.hid hx1
  clear hv hx1 hxs
  go_wp2_with fail
  (with_reducible refine (between_any 0 65535 xs a cap _ HX1.out hl).mono ?_)
  rintro e w2 ⟨rfl, hb2⟩; obtain ⟨hc2, hf2, hz2⟩ := after hb2; have hx2 : w.heap.size < w2.heap.size := (by omega); have hx2' : w.heap.size + 1 < w2.heap.size := (by omega)
  go_wp2_with fail
  refine bodyPost_ret (v := .tuple #[zimg, .int .i64 2]) ?_ rfl ?_
  · simp [results, Try.results22, go_sem, hc2, hc, hx, hx', hx2, hx2']
  refine ⟨rfl, ?_⟩
  ((repeat (first | (with_reducible exact Below.refl _ _) | (with_reducible refine Below.setCell ?_ ?_ _) | (with_reducible refine Below.alloc ?_ ?_ _) | (with_reducible refine Below.drew ?_) | (with_reducible refine Below.trans ?_ (Below.mono (by assumption) ?_)))); all_goals ((try simp only [World.size_alloc, World.size_drew, World.size_setCell]); omega))

set_option maxHeartbeats 1000000 in
theorem set_ok16 (L : Lay) (hB : L.B = 16) (O : ByteArray) (x y : Int) (xs : List Int) (a : Option Addr) (cap : Nat) (w : World) (hxs : Ints w a xs) (hl : xs.length ≤ maxLen) (hn : L.valid O) (ht : thereB L x y = true) (hlen : ((xs.length : Int) != L.C) = false) (hr : rngB L xs = true) :
    Calls Try.prog 22 #[L.img O, .int .i64 x, .int .i64 y, .slice a xs.length cap] w fun e w' => e = .returned (.tuple #[L.img (octS L.len.toNat (L.octF (putF (L.fn O) x y xs xs.length))), .int .i64 0]) ∧ Below w.heap.size w w' := by
  have HO := fun w => at_ok L O x y w hn ht
  have hl' : xs.length ≤ 9223372036854775807 := hl
  obtain ⟨⟨x0, xW⟩, ⟨y0, yH⟩⟩ := (thereB_iff L x y).1 ht
  have hlen' : (xs.length : Int) = L.C := by simpa using hlen
  have hc1 := hn.1.c1
  obtain ⟨ab, ao, ha, hcell⟩ := hxs (by rintro rfl; simp at hlen'; omega)
  have hab : ab < w.heap.size := World.block_lt_of_cell? _ _ (hcell 0 (by omega))
  have HL := Lib.hid hlen'
  have hr' : (xs.all fun v => inB v 0 65535) = true := by
    unfold rngB at hr
    rw [if_neg (by omega)] at hr
    exact hr
  have hbw : ∀ o1 o2, Below w.heap.size w ((w.alloc o1).alloc o2) := fun o1 o2 => ((Below.refl _ _).alloc (Nat.le_refl _) _).alloc (by simp) _
  unfold Lay.img at *
  have HO := Lib.hid HO
  have HBW := Lib.hid hbw
  have HA := Lib.hid ha
  have HBB := Lib.hid hB
  clear hbw hr hlen' hcell ha hB
  go_enter Try.func22, Try.ntmps22
  go_wp2_with fail
  (with_reducible refine (HO.out _).mono ?_)
  rintro e w1 ⟨b, b2, rfl, hv, hb⟩
  obtain ⟨hc, hf, hz⟩ := after hb
  simp only [World.size_alloc] at hz
  have hx : w.heap.size < w1.heap.size := by omega
  have hx' : w.heap.size + 1 < w1.heap.size := by omega
  have hlv := hv.lt
  have hvf := Opened.view hn hv
  have hb1 := hv.b1
  have hb22 := hv.b2
  simp only [World.size_alloc] at hb1 hb22
  have hnb : w.heap.size + 1 ≠ b := by omega
  have hnb' : w.heap.size ≠ b := by omega
  have hnb2 : w.heap.size + 1 ≠ b2 := by omega
  have hnb2' : w.heap.size ≠ b2 := by omega
  obtain ⟨v0, v1, v2, v3, v4, v5⟩ := hv.hd
  rw [HBB.out] at v3
  have hx1 := (hxs.below (HBW.out _ _)).below hb
  have HX1 := Lib.hid hx1
  have HVF := Lib.hid hvf
  clear hv hx1 hxs hvf
  go_wp2_with fail
  (with_reducible refine (between_any 0 65535 xs a cap _ HX1.out hl).mono ?_)
  rintro e w2 ⟨rfl, hb2⟩; obtain ⟨hc2, hf2, hz2⟩ := after hb2; have hx2 : w.heap.size < w2.heap.size := (by omega); have hx2' : w.heap.size + 1 < w2.heap.size := (by omega)
  go_wp2_with fail
  have HP := Lib.hid (put_any L hn.1 _ b b2 (L.fn O) x y xs a cap w2 (HVF.out.below hn.1 hb2) x0 xW y0 yH (HX1.out.below hb2) (by rw [HL.out]; exact Int.le_refl _) (fun c off e => by rw [HA.out] at e; cases e; omega))
  (with_reducible refine HP.out.mono ?_)
  rintro e w3 ⟨rfl, hv3, hu3⟩
  obtain ⟨hc3, hf3, hz3⟩ := afterU hu3
  have hx3 : w.heap.size < w3.heap.size := by omega
  have hx3' : w.heap.size + 1 < w3.heap.size := by omega
  have hcl := closed_any L hn.1 _ b b2 _ w3 hv3
  unfold Lay.img at hcl
  have HC := Lib.hid hcl
  clear hcl hv3
  go_wp2_with fail
  (with_reducible refine HC.out.mono ?_)
  rintro e w4 ⟨rfl, hu4⟩
  obtain ⟨hc4, hf4, hz4⟩ := afterU hu4
  have hx4 : w.heap.size < w4.heap.size := by omega
  have hx4' : w.heap.size + 1 < w4.heap.size := by omega
  have hb3 := hu3.below (B := w.heap.size) (by omega) (by omega)
  have hb4 := hu4.below (B := w.heap.size) (by omega) (by omega)
  go_wp2_with fail
  refine bodyPost_ret (v := .tuple #[L.img (octS L.len.toNat (L.octF (putF (L.fn O) x y xs xs.length))), .int .i64 0]) ?_ rfl ?_
  · simp [results, Try.results22, go_sem, Lay.img, hc4, hc3, hc2, hc, hx, hx', hx2, hx2', hx3, hx3', hx4, hx4', hnb, hnb', hnb2, hnb2']
  refine ⟨rfl, ?_⟩
  ((repeat (first | (with_reducible exact Below.refl _ _) | (with_reducible refine Below.setCell ?_ ?_ _) | (with_reducible refine Below.alloc ?_ ?_ _) | (with_reducible refine Below.drew ?_) | (with_reducible refine Below.trans ?_ (Below.mono (by assumption) ?_)))); all_goals ((try simp only [World.size_alloc, World.size_drew, World.size_setCell]); omega))

end Go.Proofs.Ytphfbjeaklpddaa

/- Layer 42: copied. -/
namespace Go.Proofs.Ytphfbjeaklpddaa
open Go.RowKit

/-- i columns and k samples of the next one have been copied -/
def cpyF (s h : Int → Int → Int → Int) (x y dx dy high : Int) (i k : Int) : Int → Int → Int → Int :=
  fun a b c => if (dx ≤ a ∧ a < dx + i ∧ dy ≤ b ∧ b < dy + high) ∨ (a = dx + i ∧ dy ≤ b ∧ b < dy + k) then s (x + (a - dx)) (y + (b - dy)) c else h a b c

theorem cpyF_zero (s h : Int → Int → Int → Int) (x y dx dy high : Int) : cpyF s h x y dx dy high 0 0 = h := by
  funext a b c
  unfold cpyF
  rw [if_neg (by omega)]

theorem cpyF_col (s h : Int → Int → Int → Int) (x y dx dy high i : Int) (hi : 0 ≤ i) : cpyF s h x y dx dy high i high = cpyF s h x y dx dy high (i + 1) 0 := by
  funext a b c
  unfold cpyF
  by_cases e : (dx ≤ a ∧ a < dx + i ∧ dy ≤ b ∧ b < dy + high) ∨ (a = dx + i ∧ dy ≤ b ∧ b < dy + high)
  · rw [if_pos e, if_pos (by omega)]
  · rw [if_neg e, if_neg (by omega)]

theorem cpyF_put (s h : Int → Int → Int → Int) (x y dx dy high : Int) (i k : Nat) (hk : (k : Int) < high) (n : Nat) (a b c : Int) (c0 : 0 ≤ c) (cn : c < n) :
    putF (cpyF s h x y dx dy high i k) (dx + i) (dy + k) ((List.range n).map fun j => s (x + i) (y + k) (j : Nat)) ((List.range n).map fun j => s (x + i) (y + k) (j : Nat)).length a b c = cpyF s h x y dx dy high i (k + 1) a b c := by
  unfold putF
  by_cases e : a = dx + i ∧ b = dy + k
  · obtain ⟨rfl, rfl⟩ := e
    have hl : c.toNat < n := by omega
    rw [if_pos ⟨rfl, rfl, c0, by simpa using cn⟩]
    unfold cpyF
    rw [if_pos (by omega)]
    simp [hl, Int.toNat_of_nonneg c0]
    congr 1 <;> omega
  · rw [if_neg (by omega)]
    unfold cpyF
    by_cases e2 : (dx ≤ a ∧ a < dx + i ∧ dy ≤ b ∧ b < dy + high) ∨ (a = dx + i ∧ dy ≤ b ∧ b < dy + k)
    · rw [if_pos e2, if_pos (by omega)]
    · rw [if_neg e2, if_neg (by omega)]

/-- what copied does -/
def CopyPost (L M : Lay) (base c c2 : Nat) (g : Int → Int) (h : Int → Int → Int → Int) (x y dx dy wide high : Int) (w : World) : Ending → World → Prop := fun e w' =>
  e = .returned (.tuple #[]) ∧ View w' base c c2 M (M.octF (cpyF (L.smp g) h x y dx dy high wide 0)) ∧ Upd c2 w w'

set_option maxRecDepth 100000 in
set_option maxHeartbeats 2000000 in
theorem copied_any (L M : Lay) (hL : L.ok) (hM : M.ok) (hC : L.C = M.C) (base0 base b b2 c c2 : Nat) (g : Int → Int) (hg : ∀ p, 0 ≤ g p ∧ g p < 256) (h : Int → Int → Int → Int) (x y dx dy wide high : Int) (w : World)
    (hv : View w base0 b b2 L g) (ht : View w base c c2 M (M.octF h)) (n1 : b ≠ c2) (n2 : b2 ≠ c2)
    (x0 : 0 ≤ x) (x1 : x + wide ≤ L.W) (y0 : 0 ≤ y) (y1 : y + high ≤ L.H) (d0 : 0 ≤ dx) (d1 : dx + wide ≤ M.W) (e0 : 0 ≤ dy) (e1 : dy + high ≤ M.H) (w0 : 1 ≤ wide) (h0 : 1 ≤ high) :
    Calls Try.prog 61 #[.pointer (some ⟨b, 0, none⟩), .pointer (some ⟨c, 0, none⟩), .int .i64 x, .int .i64 y, .int .i64 dx, .int .i64 dy, .int .i64 wide, .int .i64 high] w (CopyPost L M base c c2 g h x y dx dy wide high w) := by
  have q1 := hL.w2
  have q2 := hL.h2
  have q3 := hM.w2
  have q4 := hM.h2
  have q5 := hM.c1
  have HV := Lib.hid hv
  have HT := Lib.hid ht
  have HC := Lib.hid hC
  clear hv ht hC
  go_enter Try.func61, Try.ntmps61
  go_wp2
  go_loopw [17, 19] (fun _ i wr => ∃ k : Nat, (k : Int) ≤ wide ∧ i = .int .i64 k ∧ View wr base c c2 M (M.octF (cpyF (L.smp g) h x y dx dy high k 0)) ∧ Upd c2 w wr) (fun _ i _ => (wide - intOf i).toNat)
  case atStart => exact ⟨0, by omega, rfl, by have := cpyF_zero (L.smp g) h x y dx dy high; rw [show ((0 : Nat) : Int) = 0 from rfl, this]; exact HT.out, Upd.refl _ _⟩
  case round =>
    obtain ⟨i, hi, rfl, hvr, hU⟩ := hrel
    have HVR := Lib.hid hvr
    have HU := Lib.hid hU
    clear hvr hU
    by_cases hlt : (i : Int) < wide
    · obtain ⟨wo, hwo⟩ : ∃ wo : World, wo = wr := ⟨_, rfl⟩
      go_wp2
      go_loopw [23] (fun j wq => ∃ k : Nat, (k : Int) ≤ high ∧ j = .int .i64 k ∧ View wq base c c2 M (M.octF (cpyF (L.smp g) h x y dx dy high i k)) ∧ Upd c2 w wq) (fun j _ => (high - intOf j).toNat)
      case atStart => exact ⟨0, by omega, rfl, HVR.out, HU.out⟩
      case round =>
        obtain ⟨k, hk, rfl, hvq, hUq⟩ := hrel
        have HVQ := Lib.hid hvq
        have HUQ := Lib.hid hUq
        clear hvq hUq
        by_cases hlk : (k : Int) < high
        · have hsrc : View wr base0 b b2 L g := HV.out.upd hL HUQ.out n1 n2
          have HP := Lib.hid (pixel_any L hL base0 b b2 g hg (x + i) (y + k) wr hsrc (by omega) (by omega) (by omega) (by omega))
          clear hsrc
          go_wp2_with fail
          (with_reducible refine HP.out.mono ?_)
          rintro e w1 ⟨b3, cap, rfl, hi3, hz3, hl3, hb3⟩
          have hlen : ((List.range L.C.toNat).map fun j => L.smp g (x + i) (y + k) (j : Nat)).length = L.C.toNat := by simp
          have hcc := HC.out
          have hput := put_any M hM base c c2 _ (dx + i) (dy + k) ((List.range L.C.toNat).map fun j => L.smp g (x + i) (y + k) (j : Nat)) (some ⟨b3, 0, none⟩) cap w1 (HVQ.out.below hM hb3) (by omega) (by omega) (by omega) (by omega) hi3 (by rw [hlen]; omega) (fun c' off e => by cases e; have := (HVQ.out.lt2 hM); omega)
          rw [hlen] at hput
          have hcg : ∀ W, View W base c c2 M (M.octF (putF (cpyF (L.smp g) h x y dx dy high i k) (dx + i) (dy + k) ((List.range L.C.toNat).map fun j => L.smp g (x + i) (y + k) (j : Nat)) ((List.range L.C.toNat).map fun j => L.smp g (x + i) (y + k) (j : Nat)).length)) → View W base c c2 M (M.octF (cpyF (L.smp g) h x y dx dy high i ((k + 1 : Nat) : Int))) := fun W hW =>
            hW.congr fun p p0 p1 => M.octF_congr hM (fun a' b' c' hd => by
              have := cpyF_put (L.smp g) h x y dx dy high i k hlk L.C.toNat a' b' c' hd.2.2.1 (by have := hd.2.2.2; omega)
              rw [this]; congr 1) p0 p1
          have HPUT := Lib.hid hput
          have HCG := Lib.hid hcg
          have HB3 := Lib.hid hb3
          clear hput hcg hi3 hb3 hcc hlen
          go_wp2_with fail
          (with_reducible refine HPUT.out.mono ?_)
          rintro e w2 ⟨rfl, hv2, hu2⟩
          have HV2 := Lib.hid hv2
          have HU2 := Lib.hid hu2
          clear hv2 hu2
          go_wp2_with fail
          go_roundw
          case rel => exact ⟨k + 1, by omega, by go_num, HCG.out _ (by simpa using HV2.out), (HUQ.out.trans (Upd.of_below HB3.out)).trans HU2.out⟩
          case measure => simp [intOf]; omega
        · have hkk : (k : Int) = high := by omega
          have hv' : View wr base c c2 M (M.octF (cpyF (L.smp g) h x y dx dy high ((i + 1 : Nat) : Int) 0)) := by
            have h1 := HVQ.out
            rw [hkk, cpyF_col _ _ _ _ _ _ _ _ (by omega)] at h1
            exact h1
          have HV' := Lib.hid hv'
          clear hkk hv'
          go_wp2
          go_roundw
          case rel => exact ⟨i + 1, by omega, by go_num, HV'.out, HUQ.out⟩
          case measure => simp [intOf]; omega
    · have hii : (i : Int) = wide := by omega
      have HI := Lib.hid hii
      clear hii
      go_wp2
      go_end0
      exact ⟨rfl, by rw [← HI.out]; exact HVR.out, HU.out⟩

end Go.Proofs.Ytphfbjeaklpddaa

/- Layer 42: Cut. -/
namespace Go.Proofs.Ytphfbjeaklpddaa
open Go.RowKit

def cutB (L : Lay) (x y wide high : Int) : Bool := inB wide 1 L.W && (inB high 1 L.H && insB L x y wide high)

set_option maxHeartbeats 1000000 in
theorem cut_bad (L : Lay) (O : ByteArray) (x y wide high : Int) (w : World) (hn : ¬ L.valid O) :
    Calls Try.prog 28 #[L.img O, .int .i64 x, .int .i64 y, .int .i64 wide, .int .i64 high] w fun e w' => e = .returned (.tuple #[zimg, .int .i64 420]) ∧ Below w.heap.size w w' := by
  have HO := fun w => open_bad L O w hn
  unfold Lay.img at *
  have HO := Lib.hid HO
  go_enter Try.func28, Try.ntmps28
  go_wp2_with fail
  (with_reducible refine (HO.out _).mono ?_)
  rintro e w1 ⟨rfl, hb⟩
  obtain ⟨hc, hf, hz⟩ := after hb
  simp only [World.size_alloc] at hz
  have hx : w.heap.size < w1.heap.size := by omega
  have hx' : w.heap.size + 1 < w1.heap.size := by omega
  go_wp2_with fail
  refine bodyPost_ret (v := .tuple #[zimg, .int .i64 420]) ?_ rfl ?_
  · simp [results, Try.results28, go_sem, hc, hx, hx']
  refine ⟨rfl, ?_⟩
  ((repeat (first | (with_reducible exact Below.refl _ _) | (with_reducible refine Below.setCell ?_ ?_ _) | (with_reducible refine Below.alloc ?_ ?_ _) | (with_reducible refine Below.drew ?_) | (with_reducible refine Below.trans ?_ (Below.mono (by assumption) ?_)))); all_goals ((try simp only [World.size_alloc, World.size_drew, World.size_setCell]); omega))

set_option maxRecDepth 100000 in
set_option maxHeartbeats 1000000 in
theorem cut_arg1 (L : Lay) (O : ByteArray) (x y wide high : Int) (w : World) (hn : L.valid O) (h1 : inB wide 1 L.W = false) :
    Calls Try.prog 28 #[L.img O, .int .i64 x, .int .i64 y, .int .i64 wide, .int .i64 high] w fun e w' => e = .returned (.tuple #[zimg, .int .i64 2]) ∧ Below w.heap.size w w' := by
  have HO := fun w => open_ok L O w hn
  have hok := hn.1
  have q1 := hok.w1
  have q2 := hok.w2
  have q3 := hok.h1
  have q4 := hok.h2
  unfold Lay.img at *
  have HO' := Lib.hid HO
  clear HO
  go_enter Try.func28, Try.ntmps28
  go_wp2_with fail
  (with_reducible refine (HO'.out _).mono ?_)
  rintro e w1 ⟨b, b2, rfl, hv, hb⟩
  obtain ⟨hc, hf, hz⟩ := after hb
  simp only [World.size_alloc] at hz
  have hx : w.heap.size < w1.heap.size := by omega
  have hx' : w.heap.size + 1 < w1.heap.size := by omega
  have hlv := hv.lt
  obtain ⟨v0, v1, v2, v3, v4, v5⟩ := hv.hd
  clear hv
  go_wp2_with (go_at_call 50; (with_reducible refine (between1 1 L.W wide _ _ _ ?_).mono ?_); go_simp; rintro e w2 ⟨rfl, hb2⟩; obtain ⟨hc2, hf2, hz2⟩ := after hb2; (try simp only [World.size_alloc, World.size_setCell] at hz2); have hx2 : w.heap.size < w2.heap.size := (by omega); have hx2' : w.heap.size + 1 < w2.heap.size := (by omega); have hy2 : b < w2.heap.size := (by omega))
  refine bodyPost_ret (v := .tuple #[zimg, .int .i64 2]) ?_ rfl ?_
  · simp [results, Try.results28, go_sem, hc2, hc, hx, hx', hx2, hx2']
  refine ⟨rfl, ?_⟩
  ((repeat (first | (with_reducible exact Below.refl _ _) | (with_reducible refine Below.setCell ?_ ?_ _) | (with_reducible refine Below.alloc ?_ ?_ _) | (with_reducible refine Below.drew ?_) | (with_reducible refine Below.trans ?_ (Below.mono (by assumption) ?_)))); all_goals ((try simp only [World.size_alloc, World.size_drew, World.size_setCell]); omega))

set_option maxRecDepth 100000 in
set_option maxHeartbeats 1000000 in
theorem cut_arg2 (L : Lay) (O : ByteArray) (x y wide high : Int) (w : World) (hn : L.valid O) (h1 : inB wide 1 L.W = true) (h2 : inB high 1 L.H = false) :
    Calls Try.prog 28 #[L.img O, .int .i64 x, .int .i64 y, .int .i64 wide, .int .i64 high] w fun e w' => e = .returned (.tuple #[zimg, .int .i64 2]) ∧ Below w.heap.size w w' := by
  have HO := fun w => open_ok L O w hn
  have hok := hn.1
  have q1 := hok.w1
  have q2 := hok.w2
  have q3 := hok.h1
  have q4 := hok.h2
  unfold Lay.img at *
  have HO' := Lib.hid HO
  clear HO
  go_enter Try.func28, Try.ntmps28
  go_wp2_with fail
  (with_reducible refine (HO'.out _).mono ?_)
  rintro e w1 ⟨b, b2, rfl, hv, hb⟩
  obtain ⟨hc, hf, hz⟩ := after hb
  simp only [World.size_alloc] at hz
  have hx : w.heap.size < w1.heap.size := by omega
  have hx' : w.heap.size + 1 < w1.heap.size := by omega
  have hlv := hv.lt
  obtain ⟨v0, v1, v2, v3, v4, v5⟩ := hv.hd
  clear hv
  go_wp2_with (first | (go_at_call 50; (with_reducible refine (between1 1 L.W wide _ _ _ ?_).mono ?_); go_simp; rintro e w2 ⟨rfl, hb2⟩; obtain ⟨hc2, hf2, hz2⟩ := after hb2; (try simp only [World.size_alloc, World.size_setCell] at hz2); have hx2 : w.heap.size < w2.heap.size := (by omega); have hx2' : w.heap.size + 1 < w2.heap.size := (by omega); have hy2 : b < w2.heap.size := (by omega)) | (go_at_call 50; (with_reducible refine (between1 1 L.H high _ _ _ ?_).mono ?_); go_simp; rintro e w3 ⟨rfl, hb3⟩; obtain ⟨hc3, hf3, hz3⟩ := after hb3; (try simp only [World.size_alloc, World.size_setCell] at hz3); have hx3 : w.heap.size < w3.heap.size := (by omega); have hx3' : w.heap.size + 1 < w3.heap.size := (by omega); have hy3 : b < w3.heap.size := (by omega)))
  refine bodyPost_ret (v := .tuple #[zimg, .int .i64 2]) ?_ rfl ?_
  · simp [results, Try.results28, go_sem, hc3, hc2, hc, hx, hx', hx2, hx2', hx3, hx3']
  refine ⟨rfl, ?_⟩
  ((repeat (first | (with_reducible exact Below.refl _ _) | (with_reducible refine Below.setCell ?_ ?_ _) | (with_reducible refine Below.alloc ?_ ?_ _) | (with_reducible refine Below.drew ?_) | (with_reducible refine Below.trans ?_ (Below.mono (by assumption) ?_)))); all_goals ((try simp only [World.size_alloc, World.size_drew, World.size_setCell]); omega))

set_option maxRecDepth 100000 in
set_option maxHeartbeats 2000000 in
theorem cut_arg3 (L : Lay) (O : ByteArray) (x y wide high : Int) (w : World) (hn : L.valid O) (h1 : inB wide 1 L.W = true) (h2 : inB high 1 L.H = true) (h3 : insB L x y wide high = false) :
    Calls Try.prog 28 #[L.img O, .int .i64 x, .int .i64 y, .int .i64 wide, .int .i64 high] w fun e w' => e = .returned (.tuple #[zimg, .int .i64 2]) ∧ Below w.heap.size w w' := by
  obtain ⟨a1, a2⟩ := (inB_iff _ _ _).1 h1
  obtain ⟨a3, a4⟩ := (inB_iff _ _ _).1 h2
  have HO := fun w => open_ok L O w hn
  have hok := hn.1
  have q1 := hok.w1
  have q2 := hok.w2
  have q3 := hok.h1
  have q4 := hok.h2
  unfold Lay.img at *
  have HO' := Lib.hid HO
  clear HO
  go_enter Try.func28, Try.ntmps28
  go_wp2_with fail
  (with_reducible refine (HO'.out _).mono ?_)
  rintro e w1 ⟨b, b2, rfl, hv, hb⟩
  obtain ⟨hc, hf, hz⟩ := after hb
  simp only [World.size_alloc] at hz
  have hx : w.heap.size < w1.heap.size := by omega
  have hx' : w.heap.size + 1 < w1.heap.size := by omega
  have hlv := hv.lt
  obtain ⟨v0, v1, v2, v3, v4, v5⟩ := hv.hd
  have HV := Lib.hid hv
  clear hv
  go_wp2_with (first | (go_at_call 50; (with_reducible refine (between1 1 L.W wide _ _ _ ?_).mono ?_); go_simp; rintro e w2 ⟨rfl, hb2⟩; obtain ⟨hc2, hf2, hz2⟩ := after hb2; (try simp only [World.size_alloc, World.size_setCell] at hz2); have hx2 : w.heap.size < w2.heap.size := (by omega); have hx2' : w.heap.size + 1 < w2.heap.size := (by omega); have hy2 : b < w2.heap.size := (by omega)) | (go_at_call 50; (with_reducible refine (between1 1 L.H high _ _ _ ?_).mono ?_); go_simp; rintro e w3 ⟨rfl, hb3⟩; obtain ⟨hc3, hf3, hz3⟩ := after hb3; (try simp only [World.size_alloc, World.size_setCell] at hz3); have hx3 : w.heap.size < w3.heap.size := (by omega); have hx3' : w.heap.size + 1 < w3.heap.size := (by omega); have hy3 : b < w3.heap.size := (by omega)))
  have HI := Lib.hid (inside_any L hok _ b b2 _ x y wide high w3 (HV.out.below hok (show Below w1.heap.size w1 w3 by ((repeat (first | (with_reducible exact Below.refl _ _) | (with_reducible refine Below.setCell ?_ ?_ _) | (with_reducible refine Below.alloc ?_ ?_ _) | (with_reducible refine Below.drew ?_) | (with_reducible refine Below.trans ?_ (Below.mono (by assumption) ?_)))); all_goals ((try simp only [World.size_alloc, World.size_drew, World.size_setCell]); omega)))) a1 (by omega) a3 (by omega))
  (with_reducible refine HI.out.mono ?_)
  rintro e w4 ⟨rfl, hb4⟩
  obtain ⟨hc4, hf4, hz4⟩ := after hb4
  have hx4 : w.heap.size < w4.heap.size := by omega
  have hx4' : w.heap.size + 1 < w4.heap.size := by omega
  go_wp2_with fail
  refine bodyPost_ret (v := .tuple #[zimg, .int .i64 2]) ?_ rfl ?_
  · simp [results, Try.results28, go_sem, hc4, hc3, hc2, hc, hx, hx', hx2, hx2', hx3, hx3', hx4, hx4']
  refine ⟨rfl, ?_⟩
  ((repeat (first | (with_reducible exact Below.refl _ _) | (with_reducible refine Below.setCell ?_ ?_ _) | (with_reducible refine Below.alloc ?_ ?_ _) | (with_reducible refine Below.drew ?_) | (with_reducible refine Below.trans ?_ (Below.mono (by assumption) ?_)))); all_goals ((try simp only [World.size_alloc, World.size_drew, World.size_setCell]); omega))

end Go.Proofs.Ytphfbjeaklpddaa

/- Layer 42: Cut of a part that lies within the image. -/
namespace Go.Proofs.Ytphfbjeaklpddaa
open Go.RowKit

theorem Lay.octF_zero (L : Lay) (p : Int) : L.octF (fun _ _ _ => 0) p = 0 := by
  unfold Lay.octF
  split
  · rfl
  · unfold Lay.byt
    split <;> rfl

/-- the layout of a part -/
def Lay.part (L : Lay) (wide high : Int) : Lay := { L with W := wide, H := high }

theorem Lay.part_ok (L : Lay) (hok : L.ok) (wide high : Int) (a1 : 1 ≤ wide) (a2 : wide ≤ L.W) (a3 : 1 ≤ high) (a4 : high ≤ L.H) : (L.part wide high).ok := by
  have h := hok
  refine ⟨a1, Int.le_trans a2 h.w2, a3, Int.le_trans a4 h.h2, h.c1, h.c2, h.b, h.p, ?_⟩
  have m1 : wide * high ≤ L.W * L.H := Int.mul_le_mul a2 a4 (by omega) (by have := h.w1; omega)
  have m2 : wide * high * L.C ≤ L.W * L.H * L.C := Int.mul_le_mul_of_nonneg_right m1 (by have := h.c1; omega)
  exact Int.le_trans m2 h.s

set_option maxRecDepth 100000 in
set_option maxHeartbeats 4000000 in
theorem cut_ok (L : Lay) (O : ByteArray) (x y wide high : Int) (w : World) (hn : L.valid O) (h1 : inB wide 1 L.W = true) (h2 : inB high 1 L.H = true) (h3 : insB L x y wide high = true) :
    Calls Try.prog 28 #[L.img O, .int .i64 x, .int .i64 y, .int .i64 wide, .int .i64 high] w fun e w' => e = .returned (.tuple #[(L.part wide high).img (octS (L.part wide high).len.toNat ((L.part wide high).octF (cpyF (L.fn O) (fun _ _ _ => 0) x y 0 0 high wide 0))), .int .i64 0]) ∧ Below w.heap.size w w' := by
  obtain ⟨a1, a2⟩ := (inB_iff _ _ _).1 h1
  obtain ⟨a3, a4⟩ := (inB_iff _ _ _).1 h2
  have h3' := h3
  unfold insB at h3'
  rw [Bool.and_eq_true, inB_iff, inB_iff] at h3'
  obtain ⟨⟨x0, x1⟩, ⟨y0, y1⟩⟩ := h3'
  have HO := fun w => open_ok L O w hn
  have hok := hn.1
  have q1 := hok.w1
  have q2 := hok.w2
  have q3 := hok.h1
  have q4 := hok.h2
  unfold Lay.img at *
  have HO' := Lib.hid HO
  clear HO
  go_enter Try.func28, Try.ntmps28
  go_wp2_with fail
  (with_reducible refine (HO'.out _).mono ?_)
  rintro e w1 ⟨b, b2, rfl, hv, hb⟩
  obtain ⟨hc, hf, hz⟩ := after hb
  simp only [World.size_alloc] at hz
  have hx : w.heap.size < w1.heap.size := by omega
  have hx' : w.heap.size + 1 < w1.heap.size := by omega
  have hlv := hv.lt
  obtain ⟨v0, v1, v2, v3, v4, v5⟩ := hv.hd
  have HV := Lib.hid hv
  clear hv
  have hpo := L.part_ok hok wide high a1 a2 a3 a4
  have HPO := Lib.hid hpo
  clear hpo
  go_wp2_with (first | (go_at_call 50; (with_reducible refine (between1 1 L.W wide _ _ _ ?_).mono ?_); go_simp; rintro e w2 ⟨rfl, hb2⟩; obtain ⟨hc2, hf2, hz2⟩ := after hb2; (try simp only [World.size_alloc, World.size_setCell] at hz2); have hx2 : w.heap.size < w2.heap.size := (by omega); have hx2' : w.heap.size + 1 < w2.heap.size := (by omega); have hy2 : b < w2.heap.size := (by omega)) | (go_at_call 50; (with_reducible refine (between1 1 L.H high _ _ _ ?_).mono ?_); go_simp; rintro e w3 ⟨rfl, hb3⟩; obtain ⟨hc3, hf3, hz3⟩ := after hb3; (try simp only [World.size_alloc, World.size_setCell] at hz3); have hx3 : w.heap.size < w3.heap.size := (by omega); have hx3' : w.heap.size + 1 < w3.heap.size := (by omega); have hy3 : b < w3.heap.size := (by omega)))
  have HI := Lib.hid (inside_any L hok _ b b2 _ x y wide high w3 (HV.out.below hok (show Below w1.heap.size w1 w3 by ((repeat (first | (with_reducible exact Below.refl _ _) | (with_reducible refine Below.setCell ?_ ?_ _) | (with_reducible refine Below.alloc ?_ ?_ _) | (with_reducible refine Below.drew ?_) | (with_reducible refine Below.trans ?_ (Below.mono (by assumption) ?_)))); all_goals ((try simp only [World.size_alloc, World.size_drew, World.size_setCell]); omega)))) a1 (by omega) a3 (by omega))
  (with_reducible refine HI.out.mono ?_)
  rintro e w4 ⟨rfl, hb4⟩
  obtain ⟨hc4, hf4, hz4⟩ := after hb4
  have hx4 : w.heap.size < w4.heap.size := by omega
  have hx4' : w.heap.size + 1 < w4.heap.size := by omega
  have HB := fun w => blank_good (L.part wide high) O w HPO.out
  unfold Lay.img Lay.part at HB
  have HBL := Lib.hid HB
  clear HB
  go_wp2_with fail
  (with_reducible refine (HBL.out _).mono ?_)
  rintro e w5 ⟨c, c2, rfl, hv5, hb5⟩
  obtain ⟨hc5, hf5, hz5⟩ := after hb5
  simp only [World.size_alloc, World.size_setCell] at hz5
  have hx5 : w.heap.size < w5.heap.size := by omega
  have hx5' : w.heap.size + 1 < w5.heap.size := by omega
  have hcb := hv5.b1
  have hcb2 := hv5.b2
  simp only [World.size_alloc, World.size_setCell] at hcb hcb2
  have hB15 : Below w1.heap.size w1 w5 := by ((repeat (first | (with_reducible exact Below.refl _ _) | (with_reducible refine Below.setCell ?_ ?_ _) | (with_reducible refine Below.alloc ?_ ?_ _) | (with_reducible refine Below.drew ?_) | (with_reducible refine Below.trans ?_ (Below.mono (by assumption) ?_)))); all_goals ((try simp only [World.size_alloc, World.size_drew, World.size_setCell]); omega))
  have hlt2 := HV.out.lt2 hok
  have hV5 := HV.out.below hok hB15
  have hcp := copied_any L (L.part wide high) hok HPO.out rfl _ _ b b2 c c2 (octAt O) (octAt_range O) (fun _ _ _ => 0) x y 0 0 wide high w5 hV5
    (hv5.congr fun p _ _ => (Lay.octF_zero _ p).symm) (by omega) (by omega) x0 (by omega) y0 (by omega) (by omega) (by show 0 + wide ≤ wide; omega) (by omega) (by show 0 + high ≤ high; omega) a1 a3
  have HCP := Lib.hid hcp
  have HV5 := Lib.hid hv5
  clear hcp hV5 hv5 hB15
  go_wp2_with fail
  (with_reducible refine HCP.out.mono ?_)
  rintro e w6 ⟨rfl, hv6, hu6⟩
  obtain ⟨hc6, hf6, hz6⟩ := afterU hu6
  have hx6 : w.heap.size < w6.heap.size := by omega
  have hx6' : w.heap.size + 1 < w6.heap.size := by omega
  have hn1 : w.heap.size ≠ c := by omega
  have hn2 : w.heap.size ≠ c2 := by omega
  have hn3 : w.heap.size + 1 ≠ c := by omega
  have hn4 : w.heap.size + 1 ≠ c2 := by omega
  have hcl := closed_any (L.part wide high) HPO.out _ c c2 _ w6 hv6
  unfold Lay.img at hcl
  have HCL := Lib.hid hcl
  clear hcl hv6
  go_wp2_with fail
  (with_reducible refine HCL.out.mono ?_)
  rintro e w7 ⟨rfl, hu7⟩
  obtain ⟨hc7, hf7, hz7⟩ := afterU hu7
  have hx7 : w.heap.size < w7.heap.size := by omega
  have hx7' : w.heap.size + 1 < w7.heap.size := by omega
  have hb6 := hu6.below (B := w.heap.size) (by omega) (by omega)
  have hb7 := hu7.below (B := w.heap.size) (by omega) (by omega)
  go_wp2_with fail
  refine bodyPost_ret (v := .tuple #[(L.part wide high).img (octS (L.part wide high).len.toNat ((L.part wide high).octF (cpyF (L.fn O) (fun _ _ _ => 0) x y 0 0 high wide 0))), .int .i64 0]) ?_ rfl ?_
  · simp [results, Try.results28, go_sem, Lay.img, Lay.part, Lay.fn, hc7, hc6, hc5, hc4, hc3, hc2, hc, hx, hx', hx2, hx2', hx3, hx3', hx4, hx4', hx5, hx5', hx6, hx6', hx7, hx7', hn1, hn2, hn3, hn4]
  refine ⟨rfl, ?_⟩
  ((repeat (first | (with_reducible exact Below.refl _ _) | (with_reducible refine Below.setCell ?_ ?_ _) | (with_reducible refine Below.alloc ?_ ?_ _) | (with_reducible refine Below.drew ?_) | (with_reducible refine Below.trans ?_ (Below.mono (by assumption) ?_)))); all_goals ((try simp only [World.size_alloc, World.size_drew, World.size_setCell]); omega))

end Go.Proofs.Ytphfbjeaklpddaa

/- Layer 42: Paste, its errors. -/
namespace Go.Proofs.Ytphfbjeaklpddaa
open Go.RowKit

set_option maxHeartbeats 1000000 in
theorem paste_bad1 (L M : Lay) (O Q : ByteArray) (x y : Int) (w : World) (hn : ¬ L.valid O) :
    Calls Try.prog 31 #[L.img O, M.img Q, .int .i64 x, .int .i64 y] w fun e w' => e = .returned (.tuple #[zimg, .int .i64 420]) ∧ Below w.heap.size w w' := by
  have HO := fun w => open_bad L O w hn
  unfold Lay.img at *
  have HO' := Lib.hid HO
  clear HO
  go_enter Try.func31, Try.ntmps31
  go_wp2_with fail
  (with_reducible refine (HO'.out _).mono ?_)
  rintro e w1 ⟨rfl, hb⟩
  obtain ⟨hc, hf, hz⟩ := after hb
  simp only [World.size_alloc] at hz
  have hx : w.heap.size < w1.heap.size := by omega
  have hx' : w.heap.size + 1 < w1.heap.size := by omega
  have hx'' : w.heap.size + 1 + 1 < w1.heap.size := by omega
  go_wp2_with fail
  refine bodyPost_ret (v := .tuple #[zimg, .int .i64 420]) ?_ rfl ?_
  · simp [results, Try.results31, go_sem, hc, hx, hx', hx'']
  refine ⟨rfl, ?_⟩
  ((repeat (first | (with_reducible exact Below.refl _ _) | (with_reducible refine Below.setCell ?_ ?_ _) | (with_reducible refine Below.alloc ?_ ?_ _) | (with_reducible refine Below.drew ?_) | (with_reducible refine Below.trans ?_ (Below.mono (by assumption) ?_)))); all_goals ((try simp only [World.size_alloc, World.size_drew, World.size_setCell]); omega))

set_option maxHeartbeats 1000000 in
theorem paste_bad2 (L M : Lay) (O Q : ByteArray) (x y : Int) (w : World) (hn : L.valid O) (hm : ¬ M.valid Q) :
    Calls Try.prog 31 #[L.img O, M.img Q, .int .i64 x, .int .i64 y] w fun e w' => e = .returned (.tuple #[zimg, .int .i64 420]) ∧ Below w.heap.size w w' := by
  have HO1 := fun w => open_ok L O w hn
  have HO2 := fun w => open_bad M Q w hm
  unfold Lay.img at *
  have HO' := Lib.hid HO1
  have HO'' := Lib.hid HO2
  clear HO1 HO2
  go_enter Try.func31, Try.ntmps31
  go_wp2_with fail
  (with_reducible refine (HO'.out _).mono ?_)
  rintro e w1 ⟨b, b2, rfl, hv, hb⟩
  obtain ⟨hc, hf, hz⟩ := after hb
  simp only [World.size_alloc] at hz
  have hx : w.heap.size < w1.heap.size := by omega
  have hx' : w.heap.size + 1 < w1.heap.size := by omega
  have hx'' : w.heap.size + 1 + 1 < w1.heap.size := by omega
  clear hv
  go_wp2_with fail
  (with_reducible refine (HO''.out _).mono ?_)
  rintro e w2 ⟨rfl, hb2⟩
  obtain ⟨hc2, hf2, hz2⟩ := after hb2
  have hx2 : w.heap.size < w2.heap.size := by omega
  have hx2' : w.heap.size + 1 < w2.heap.size := by omega
  have hx2'' : w.heap.size + 1 + 1 < w2.heap.size := by omega
  go_wp2_with fail
  refine bodyPost_ret (v := .tuple #[zimg, .int .i64 420]) ?_ rfl ?_
  · simp [results, Try.results31, go_sem, hc2, hc, hx, hx', hx'', hx2, hx2', hx2'']
  refine ⟨rfl, ?_⟩
  ((repeat (first | (with_reducible exact Below.refl _ _) | (with_reducible refine Below.setCell ?_ ?_ _) | (with_reducible refine Below.alloc ?_ ?_ _) | (with_reducible refine Below.drew ?_) | (with_reducible refine Below.trans ?_ (Below.mono (by assumption) ?_)))); all_goals ((try simp only [World.size_alloc, World.size_drew, World.size_setCell]); omega))

set_option maxRecDepth 100000 in
set_option maxHeartbeats 4000000 in
theorem paste_arg1 (L M : Lay) (O Q : ByteArray) (x y : Int) (w : World) (hn : L.valid O) (hm : M.valid Q) (h1 : (L.C != M.C) = true) :
    Calls Try.prog 31 #[L.img O, M.img Q, .int .i64 x, .int .i64 y] w fun e w' => e = .returned (.tuple #[zimg, .int .i64 2]) ∧ Below w.heap.size w w' := by
  have HO1 := fun w => open_ok L O w hn
  have HO2 := fun w => open_ok M Q w hm
  have hok := hn.1
  have hmok := hm.1
  unfold Lay.img at HO1 HO2 ⊢
  have HO' := Lib.hid HO1
  have HO'' := Lib.hid HO2
  clear HO1 HO2
  go_enter Try.func31, Try.ntmps31
  go_wp2_with fail
  (with_reducible refine (HO'.out _).mono ?_)
  rintro e w1 ⟨b, b2, rfl, hv, hb⟩
  obtain ⟨hc, hf, hz⟩ := after hb
  simp only [World.size_alloc] at hz
  have hx : w.heap.size < w1.heap.size := by omega
  have hx' : w.heap.size + 1 < w1.heap.size := by omega
  have hx'' : w.heap.size + 1 + 1 < w1.heap.size := by omega
  have HV := Lib.hid hv
  clear hv
  go_wp2_with fail
  (with_reducible refine (HO''.out _).mono ?_)
  rintro e w2 ⟨d, d2, rfl, hu, hb2⟩
  obtain ⟨hc2, hf2, hz2⟩ := after hb2
  have hx2 : w.heap.size < w2.heap.size := by omega
  have hx2' : w.heap.size + 1 < w2.heap.size := by omega
  have hx2'' : w.heap.size + 1 + 1 < w2.heap.size := by omega
  have hv2 := HV.out.below hok hb2
  have hl1 := hv2.lt
  have hl2 := hu.lt
  obtain ⟨v0, v1, v2, v3, v4, v5⟩ := hv2.hd
  obtain ⟨u0, u1, u2, u3, u4, u5⟩ := hu.hd
  have HV2 := Lib.hid hv2
  have HU2 := Lib.hid hu
  have hin : ∀ W, Below w2.heap.size w2 W → Calls Try.prog 60 #[.pointer (some ⟨b, 0, none⟩), .int .i64 x, .int .i64 y, .int .i64 M.W, .int .i64 M.H] W fun e w' => e = .returned (.bool (insB L x y M.W M.H)) ∧ Below W.heap.size W w' := fun W hW =>
    inside_any L hok _ b b2 _ x y M.W M.H W (HV2.out.below hok hW) hmok.w1 hmok.w2 hmok.h1 hmok.h2
  have HIN := Lib.hid hin
  clear hv2 hu hin
  go_wp2_with fail
  refine wp_region_grow (by kernel_rfl) (by kernel_rfl) ?_
  repeat (go_big_quiet_step ((go_at_call 60; exact calls_grow (HIN.out _ (grow_below _ _)))))
  refine wpQuiet_nil ?_
  intro _ hw'
  obtain ⟨nq, hw''⟩ := hw'
  subst hw''
  have hb3 := grow_below w2 nq
  generalize grow w2 nq = w3 at hb3 ⊢
  obtain ⟨hc3, hf3, hz3⟩ := after hb3
  have hx3 : w.heap.size < w3.heap.size := by omega
  have hx3' : w.heap.size + 1 < w3.heap.size := by omega
  have hx3'' : w.heap.size + 1 + 1 < w3.heap.size := by omega
  go_wp2_with fail
  refine bodyPost_ret (v := .tuple #[zimg, .int .i64 2]) ?_ rfl ?_
  · simp [results, Try.results31, go_sem, hc3, hc2, hc, hx, hx', hx'', hx2, hx2', hx2'', hx3, hx3', hx3'']
  refine ⟨rfl, ?_⟩
  ((repeat (first | (with_reducible exact Below.refl _ _) | (with_reducible refine Below.setCell ?_ ?_ _) | (with_reducible refine Below.alloc ?_ ?_ _) | (with_reducible refine Below.drew ?_) | (with_reducible refine Below.trans ?_ (Below.mono (by assumption) ?_)))); all_goals ((try simp only [World.size_alloc, World.size_drew, World.size_setCell]); omega))

set_option maxRecDepth 100000 in
set_option maxHeartbeats 4000000 in
theorem paste_arg2 (L M : Lay) (O Q : ByteArray) (x y : Int) (w : World) (hn : L.valid O) (hm : M.valid Q) (h1 : (L.C != M.C) = false) (h2 : (L.B != M.B) = true) :
    Calls Try.prog 31 #[L.img O, M.img Q, .int .i64 x, .int .i64 y] w fun e w' => e = .returned (.tuple #[zimg, .int .i64 2]) ∧ Below w.heap.size w w' := by
  have HO1 := fun w => open_ok L O w hn
  have HO2 := fun w => open_ok M Q w hm
  have hok := hn.1
  have hmok := hm.1
  unfold Lay.img at HO1 HO2 ⊢
  have HO' := Lib.hid HO1
  have HO'' := Lib.hid HO2
  clear HO1 HO2
  go_enter Try.func31, Try.ntmps31
  go_wp2_with fail
  (with_reducible refine (HO'.out _).mono ?_)
  rintro e w1 ⟨b, b2, rfl, hv, hb⟩
  obtain ⟨hc, hf, hz⟩ := after hb
  simp only [World.size_alloc] at hz
  have hx : w.heap.size < w1.heap.size := by omega
  have hx' : w.heap.size + 1 < w1.heap.size := by omega
  have hx'' : w.heap.size + 1 + 1 < w1.heap.size := by omega
  have HV := Lib.hid hv
  clear hv
  go_wp2_with fail
  (with_reducible refine (HO''.out _).mono ?_)
  rintro e w2 ⟨d, d2, rfl, hu, hb2⟩
  obtain ⟨hc2, hf2, hz2⟩ := after hb2
  have hx2 : w.heap.size < w2.heap.size := by omega
  have hx2' : w.heap.size + 1 < w2.heap.size := by omega
  have hx2'' : w.heap.size + 1 + 1 < w2.heap.size := by omega
  have hv2 := HV.out.below hok hb2
  have hl1 := hv2.lt
  have hl2 := hu.lt
  obtain ⟨v0, v1, v2, v3, v4, v5⟩ := hv2.hd
  obtain ⟨u0, u1, u2, u3, u4, u5⟩ := hu.hd
  have HV2 := Lib.hid hv2
  have HU2 := Lib.hid hu
  have hin : ∀ W, Below w2.heap.size w2 W → Calls Try.prog 60 #[.pointer (some ⟨b, 0, none⟩), .int .i64 x, .int .i64 y, .int .i64 M.W, .int .i64 M.H] W fun e w' => e = .returned (.bool (insB L x y M.W M.H)) ∧ Below W.heap.size W w' := fun W hW =>
    inside_any L hok _ b b2 _ x y M.W M.H W (HV2.out.below hok hW) hmok.w1 hmok.w2 hmok.h1 hmok.h2
  have HIN := Lib.hid hin
  clear hv2 hu hin
  go_wp2_with fail
  refine wp_region_grow (by kernel_rfl) (by kernel_rfl) ?_
  repeat (go_big_quiet_step ((go_at_call 60; exact calls_grow (HIN.out _ (grow_below _ _)))))
  refine wpQuiet_nil ?_
  intro _ hw'
  obtain ⟨nq, hw''⟩ := hw'
  subst hw''
  have hb3 := grow_below w2 nq
  generalize grow w2 nq = w3 at hb3 ⊢
  obtain ⟨hc3, hf3, hz3⟩ := after hb3
  have hx3 : w.heap.size < w3.heap.size := by omega
  have hx3' : w.heap.size + 1 < w3.heap.size := by omega
  have hx3'' : w.heap.size + 1 + 1 < w3.heap.size := by omega
  go_wp2_with fail
  refine bodyPost_ret (v := .tuple #[zimg, .int .i64 2]) ?_ rfl ?_
  · simp [results, Try.results31, go_sem, hc3, hc2, hc, hx, hx', hx'', hx2, hx2', hx2'', hx3, hx3', hx3'']
  refine ⟨rfl, ?_⟩
  ((repeat (first | (with_reducible exact Below.refl _ _) | (with_reducible refine Below.setCell ?_ ?_ _) | (with_reducible refine Below.alloc ?_ ?_ _) | (with_reducible refine Below.drew ?_) | (with_reducible refine Below.trans ?_ (Below.mono (by assumption) ?_)))); all_goals ((try simp only [World.size_alloc, World.size_drew, World.size_setCell]); omega))

set_option maxRecDepth 100000 in
set_option maxHeartbeats 4000000 in
theorem paste_arg3 (L M : Lay) (O Q : ByteArray) (x y : Int) (w : World) (hn : L.valid O) (hm : M.valid Q) (h1 : (L.C != M.C) = false) (h2 : (L.B != M.B) = false) (h3 : insB L x y M.W M.H = false) :
    Calls Try.prog 31 #[L.img O, M.img Q, .int .i64 x, .int .i64 y] w fun e w' => e = .returned (.tuple #[zimg, .int .i64 2]) ∧ Below w.heap.size w w' := by
  have HO1 := fun w => open_ok L O w hn
  have HO2 := fun w => open_ok M Q w hm
  have hok := hn.1
  have hmok := hm.1
  unfold Lay.img at HO1 HO2 ⊢
  have HO' := Lib.hid HO1
  have HO'' := Lib.hid HO2
  clear HO1 HO2
  go_enter Try.func31, Try.ntmps31
  go_wp2_with fail
  (with_reducible refine (HO'.out _).mono ?_)
  rintro e w1 ⟨b, b2, rfl, hv, hb⟩
  obtain ⟨hc, hf, hz⟩ := after hb
  simp only [World.size_alloc] at hz
  have hx : w.heap.size < w1.heap.size := by omega
  have hx' : w.heap.size + 1 < w1.heap.size := by omega
  have hx'' : w.heap.size + 1 + 1 < w1.heap.size := by omega
  have HV := Lib.hid hv
  clear hv
  go_wp2_with fail
  (with_reducible refine (HO''.out _).mono ?_)
  rintro e w2 ⟨d, d2, rfl, hu, hb2⟩
  obtain ⟨hc2, hf2, hz2⟩ := after hb2
  have hx2 : w.heap.size < w2.heap.size := by omega
  have hx2' : w.heap.size + 1 < w2.heap.size := by omega
  have hx2'' : w.heap.size + 1 + 1 < w2.heap.size := by omega
  have hv2 := HV.out.below hok hb2
  have hl1 := hv2.lt
  have hl2 := hu.lt
  obtain ⟨v0, v1, v2, v3, v4, v5⟩ := hv2.hd
  obtain ⟨u0, u1, u2, u3, u4, u5⟩ := hu.hd
  have HV2 := Lib.hid hv2
  have HU2 := Lib.hid hu
  have hin : ∀ W, Below w2.heap.size w2 W → Calls Try.prog 60 #[.pointer (some ⟨b, 0, none⟩), .int .i64 x, .int .i64 y, .int .i64 M.W, .int .i64 M.H] W fun e w' => e = .returned (.bool (insB L x y M.W M.H)) ∧ Below W.heap.size W w' := fun W hW =>
    inside_any L hok _ b b2 _ x y M.W M.H W (HV2.out.below hok hW) hmok.w1 hmok.w2 hmok.h1 hmok.h2
  have HIN := Lib.hid hin
  clear hv2 hu hin
  go_wp2_with fail
  refine wp_region_grow (by kernel_rfl) (by kernel_rfl) ?_
  repeat (go_big_quiet_step ((go_at_call 60; exact calls_grow (HIN.out _ (grow_below _ _)))))
  refine wpQuiet_nil ?_
  intro _ hw'
  obtain ⟨nq, hw''⟩ := hw'
  subst hw''
  have hb3 := grow_below w2 nq
  generalize grow w2 nq = w3 at hb3 ⊢
  obtain ⟨hc3, hf3, hz3⟩ := after hb3
  have hx3 : w.heap.size < w3.heap.size := by omega
  have hx3' : w.heap.size + 1 < w3.heap.size := by omega
  have hx3'' : w.heap.size + 1 + 1 < w3.heap.size := by omega
  go_wp2_with fail
  refine bodyPost_ret (v := .tuple #[zimg, .int .i64 2]) ?_ rfl ?_
  · simp [results, Try.results31, go_sem, hc3, hc2, hc, hx, hx', hx'', hx2, hx2', hx2'', hx3, hx3', hx3'']
  refine ⟨rfl, ?_⟩
  ((repeat (first | (with_reducible exact Below.refl _ _) | (with_reducible refine Below.setCell ?_ ?_ _) | (with_reducible refine Below.alloc ?_ ?_ _) | (with_reducible refine Below.drew ?_) | (with_reducible refine Below.trans ?_ (Below.mono (by assumption) ?_)))); all_goals ((try simp only [World.size_alloc, World.size_drew, World.size_setCell]); omega))

end Go.Proofs.Ytphfbjeaklpddaa

/- Layer 42: Paste of a part that lies within the image. -/
namespace Go.Proofs.Ytphfbjeaklpddaa
open Go.RowKit

set_option maxRecDepth 100000 in
set_option maxHeartbeats 4000000 in
theorem paste_ok (L M : Lay) (O Q : ByteArray) (x y : Int) (w : World) (hn : L.valid O) (hm : M.valid Q) (h1 : (L.C != M.C) = false) (h2 : (L.B != M.B) = false) (h3 : insB L x y M.W M.H = true) :
    Calls Try.prog 31 #[L.img O, M.img Q, .int .i64 x, .int .i64 y] w fun e w' => e = .returned (.tuple #[L.img (octS L.len.toNat (L.octF (cpyF (M.fn Q) (L.fn O) 0 0 x y M.H M.W 0))), .int .i64 0]) ∧ Below w.heap.size w w' := by
  have HO1 := fun w => open_ok L O w hn
  have HO2 := fun w => open_ok M Q w hm
  have hok := hn.1
  have hmok := hm.1
  unfold Lay.img at HO1 HO2 ⊢
  have HO' := Lib.hid HO1
  have HO'' := Lib.hid HO2
  clear HO1 HO2
  go_enter Try.func31, Try.ntmps31
  go_wp2_with fail
  (with_reducible refine (HO'.out _).mono ?_)
  rintro e w1 ⟨b, b2, rfl, hv, hb⟩
  obtain ⟨hc, hf, hz⟩ := after hb
  simp only [World.size_alloc] at hz
  have hx : w.heap.size < w1.heap.size := by omega
  have hx' : w.heap.size + 1 < w1.heap.size := by omega
  have hx'' : w.heap.size + 1 + 1 < w1.heap.size := by omega
  have HV := Lib.hid hv
  clear hv
  go_wp2_with fail
  (with_reducible refine (HO''.out _).mono ?_)
  rintro e w2 ⟨d, d2, rfl, hu, hb2⟩
  obtain ⟨hc2, hf2, hz2⟩ := after hb2
  have hx2 : w.heap.size < w2.heap.size := by omega
  have hx2' : w.heap.size + 1 < w2.heap.size := by omega
  have hx2'' : w.heap.size + 1 + 1 < w2.heap.size := by omega
  have hv2 := HV.out.below hok hb2
  have hl1 := hv2.lt
  have hl2 := hu.lt
  obtain ⟨v0, v1, v2, v3, v4, v5⟩ := hv2.hd
  obtain ⟨u0, u1, u2, u3, u4, u5⟩ := hu.hd
  have HV2 := Lib.hid hv2
  have HU2 := Lib.hid hu
  have hin : ∀ W, Below w2.heap.size w2 W → Calls Try.prog 60 #[.pointer (some ⟨b, 0, none⟩), .int .i64 x, .int .i64 y, .int .i64 M.W, .int .i64 M.H] W fun e w' => e = .returned (.bool (insB L x y M.W M.H)) ∧ Below W.heap.size W w' := fun W hW =>
    inside_any L hok _ b b2 _ x y M.W M.H W (HV2.out.below hok hW) hmok.w1 hmok.w2 hmok.h1 hmok.h2
  have HIN := Lib.hid hin
  clear hv2 hu hin
  go_wp2_with fail
  refine wp_region_grow (by kernel_rfl) (by kernel_rfl) ?_
  repeat (go_big_quiet_step ((go_at_call 60; exact calls_grow (HIN.out _ (grow_below _ _)))))
  refine wpQuiet_nil ?_
  intro _ hw'
  obtain ⟨nq, hw''⟩ := hw'
  subst hw''
  have hb3 := grow_below w2 nq
  generalize grow w2 nq = w3 at hb3 ⊢
  obtain ⟨hc3, hf3, hz3⟩ := after hb3
  have hx3 : w.heap.size < w3.heap.size := by omega
  have hx3' : w.heap.size + 1 < w3.heap.size := by omega
  have hx3'' : w.heap.size + 1 + 1 < w3.heap.size := by omega
  have h3' := h3
  unfold insB at h3'
  rw [Bool.and_eq_true, inB_iff, inB_iff] at h3'
  obtain ⟨⟨x0, x1⟩, ⟨y0, y1⟩⟩ := h3'
  have r1 := hok.w1
  have r2 := hok.w2
  have r3 := hok.h1
  have r4 := hok.h2
  have r5 := hmok.w1
  have r6 := hmok.h1
  have hb1 := HV2.out.b1
  have hb22 := HV2.out.b2
  have hd1 := HU2.out.b1
  have hd2 := HU2.out.b2
  have hl12 := HV2.out.lt2 hok
  have hl0 := HV.out.lt
  have hl02 := HV.out.lt2 hok
  simp only [World.size_alloc] at hb1 hb22
  have hcp := copied_any M L hmok hok (by have := h1; simp at this; exact this.symm) _ _ d d2 b b2 (octAt Q) (octAt_range Q) (L.fn O) 0 0 x y M.W M.H w3.drew ((HU2.out.below hmok hb3).below hmok (Below.refl _ _).drew)
    (Opened.view hn ((HV2.out.below hok hb3).below hok (Below.refl _ _).drew)) (by omega) (by omega) (by omega) (by omega) (by omega) (by omega) x0 (by omega) y0 (by omega) r5 r6
  have HCP := Lib.hid hcp
  clear hcp
  go_wp2_with fail
  go_still_tail 14, (by kernel_rfl)
  change wpList _ _ _ _ _ w3.drew
  go_wp2_with fail
  (with_reducible refine HCP.out.mono ?_)
  rintro e w4 ⟨rfl, hv4, hu4⟩
  obtain ⟨hc4, hf4, hz4⟩ := afterU hu4
  simp only [World.size_drew, World.cell?_drew, World.frozen?_drew] at hz4 hc4 hf4
  have hx4 : w.heap.size < w4.heap.size := by omega
  have hx4' : w.heap.size + 1 < w4.heap.size := by omega
  have hx4'' : w.heap.size + 1 + 1 < w4.heap.size := by omega
  have hn1 : w.heap.size + 1 + 1 ≠ b := by omega
  have hn2 : w.heap.size + 1 + 1 ≠ b2 := by omega
  have hcl := closed_any L hok _ b b2 _ w4 hv4
  unfold Lay.img at hcl
  have HCL := Lib.hid hcl
  clear hcl hv4
  go_wp2_with fail
  (with_reducible refine HCL.out.mono ?_)
  rintro e w5 ⟨rfl, hu5⟩
  obtain ⟨hc5, hf5, hz5⟩ := afterU hu5
  have hx5 : w.heap.size < w5.heap.size := by omega
  have hx5' : w.heap.size + 1 < w5.heap.size := by omega
  have hx5'' : w.heap.size + 1 + 1 < w5.heap.size := by omega
  have hb4 : Below w.heap.size w3 w4 := ((Below.refl w.heap.size w3).drew).trans (hu4.below (B := w.heap.size) (by omega) (by simp only [World.size_drew]; omega))
  have hb5 := hu5.below (B := w.heap.size) (by omega) (by omega)
  go_wp2_with fail
  refine bodyPost_ret (v := .tuple #[L.img (octS L.len.toNat (L.octF (cpyF (M.fn Q) (L.fn O) 0 0 x y M.H M.W 0))), .int .i64 0]) ?_ rfl ?_
  · simp [results, Try.results31, go_sem, Lay.img, Lay.fn, hc5, hc4, hc3, hc2, hc, hx, hx', hx'', hx2, hx2', hx2'', hx3, hx3', hx3'', hx4, hx4', hx4'', hx5, hx5', hx5'', hn1, hn2]
  refine ⟨rfl, ?_⟩
  ((repeat (first | (with_reducible exact Below.refl _ _) | (with_reducible refine Below.setCell ?_ ?_ _) | (with_reducible refine Below.alloc ?_ ?_ _) | (with_reducible refine Below.drew ?_) | (with_reducible refine Below.trans ?_ (Below.mono (by assumption) ?_)))); all_goals ((try simp only [World.size_alloc, World.size_drew, World.size_setCell]); omega))

end Go.Proofs.Ytphfbjeaklpddaa

/- A range over a function whose body never leaves early: one law, for method values and closures alike, in the walk that knows no fence. -/
namespace Go.Proofs.Ytphfbjeaklpddaa
open Go.RowKit Go.Shelf

/-- the iterator gf yields the elements xs in their order, whatever the rounds do that keeps Kp -/
def SeqAll {α : Type} (n : Nat) (P : Program) (gf : FuncId) (first caps : Array Value) (encs : α → Array Value) (xs : List α) (Kp : World → World → Prop) (w0 : World) : Prop :=
  ∀ (l : Nat) (J : Nat → World → Prop) (W : World), Below w0.heap.size w0 W →
    (∀ k x W1, xs[k]? = some x → J k W1 → YieldAt Fence.wide (n - 1) P l (encs x) W1 fun e W' => e = .returned (.bool true) ∧ J (k + 1) W' ∧ Kp W1 W') →
    J 0 W → CallsIn Fence.wide n P gf (first ++ #[.func (.yield l) #[] #[]] ++ caps) W fun e W' => (∃ v, e = .returned v) ∧ J xs.length W'

/-- a round's body has come to its end -/
def roundEnd (R : World → Prop) : Exit → Act → World → Prop
  | .normal, _, W' => R W'
  | _, _, _ => False

/-- the invariant bears a turn of the loop's own record -/
def Bears (B : Nat) (I : Nat → World → Prop) : Prop :=
  (∀ k W o, I k W → I k (W.alloc o)) ∧ ∀ k W l o o', I k W → B ≤ l → W.heap[l]? = some o → o.isCells = false → I k (W.putObj l o')

theorem wp_rangeSeq {P : Program} {α : Type} {g : Operand} {ps : Array Tmp} {assign body : Code} {Q : Exit → Act → World → Prop} {a : Act} {w : World} (n : Nat) (hn : 1 ≤ n)
    {gf : Nat} {first caps : Array Value} (hg : a.eval g = .func (.func gf) first caps) (eg : ∀ args w, (callFunc gf args).run P w = .ok (.enter gf args) w)
    {encs : α → Array Value} {xs : List α} {Kp : World → World → Prop} (hseq : SeqAll (n - 1) P gf first caps encs xs Kp w) (hps : ∀ x, (encs x).size = ps.size)
    (hKt : ∀ {A B C : World}, Kp A B → Kp B C → Kp A C) (hKb : ∀ (W : World) (l : Nat) (o o' : Obj), w.heap.size ≤ l → W.heap[l]? = some o → o.isCells = false → Kp W (W.putObj l o'))
    (I : Nat → World → Prop) (hI : Bears w.heap.size I) (h0 : I 0 w) (act : α → Act)
    (hassign : ∀ (l : Nat) (x : α) (W : World) (K : Act → World → Prop), K (act x) W →
      assign.wpIn (Fence.wide.inRound l) (n - 1 - 1) P (Exit.then K (fun _ _ _ => False)) { tmps := (ps.zip (encs x)).foldl (fun t (p, v) => t.setIfInBounds p v) a.tmps, defers := [] } W)
    (hbody : ∀ (l k : Nat) (x : α) (W : World), xs[k]? = some x → I k W → body.wpIn (Fence.wide.inRound l) (n - 1 - 1) P (roundEnd fun W' => KeepsOthers W W' ∧ Kp W W' ∧ I (k + 1) W') (act x) W)
    (hdone : ∀ (D : Nat) (W : World), w.heap.size ≤ D → I xs.length W → W.heap[D]? = some (.deferred (some [])) → Q .normal { a with defers := { target := .collected D, args := #[] } :: a.defers } W) :
    (Code.rangeFunc g ps assign body).wp P Q a w := by
  refine (wpIn_wide (n := n)).1 (wpIn_rangeFunc fun fn hfn => ?_)
  -- the loop's record, in each of its states
  let rec' : LoopState → Loop := fun st => { state := st, pending := none, fn, tmps := a.tmps, params := ps, assign, body, defers := w.heap.size }
  have hnew : ∀ (U : World) (o : Obj), (U.alloc o).heap[U.heap.size]? = some o := fun U o => World.alloc_heap_new U o
  let U1 := w.alloc (.deferred (some []))
  let U2 := U1.alloc (.loop (rec' .ready))
  have hs1 : U1.heap.size = w.heap.size + 1 := World.size_alloc _ _
  have hl2 : U2.heap[w.heap.size + 1]? = some (.loop (rec' .ready)) := by have := hnew U1 (.loop (rec' .ready)); rwa [hs1] at this
  have hd2 : U2.heap[w.heap.size]? = some (.deferred (some [])) := (Below.heap_alloc U1 _ _ (by omega)).trans (hnew w _)
  have hI2 : I 0 U2 := hI.1 _ _ _ (hI.1 _ _ _ h0)
  have hB2 : Below w.heap.size w U2 := ((Below.refl _ _).alloc (Nat.le_refl _) _).alloc (by simp) _
  refine ⟨w.heap.size + 1, [{ target := .collected w.heap.size, args := #[] }], U2, { target := .fn (.func gf) caps, args := first ++ #[.func (.yield (w.heap.size + 1)) #[] #[]] }, U2, gf,
    first ++ #[.func (.yield (w.heap.size + 1)) #[] #[]] ++ caps, U2, run_enterLoop_outer _ _ _ _ _, ?_, fun _ _ => trivial, ?_, fun _ => hn, ?_⟩
  · simp only [resolve, hg]
    simp [go_sem]
  · simp [invoke, go_sem, eg]
  -- what is carried from round to round
  let J : Nat → World → Prop := fun k W => I k W ∧ W.heap[w.heap.size + 1]? = some (.loop (rec' .ready)) ∧ W.heap[w.heap.size]? = some (.deferred (some []))
  refine (hseq (w.heap.size + 1) J U2 hB2 ?_ ⟨hI2, hl2, hd2⟩).mono ?_
  · rintro k x W hx ⟨hi, hl, hd⟩
    have hsz : w.heap.size + 1 < W.heap.size := (Array.getElem?_eq_some_iff.1 hl).1
    have hy := run_yield (P := P) (args := encs x) hl (hps x)
    refine ⟨fn, _, assign, body, hy, roundIn_of_wpIn trivial (hassign _ x W _ ⟨_, run_beginRound hl rfl, ?_⟩)⟩
    let V := W.putObj (w.heap.size + 1) (.loop (rec' .busy))
    have hlV : V.heap[w.heap.size + 1]? = some (.loop (rec' .busy)) := World.putObj_heap_same hsz
    have hdV : V.heap[w.heap.size]? = some (.deferred (some [])) := (World.putObj_heap_other (by omega)).trans hd
    have hkV : Kp W V := hKb W _ _ _ (by omega) hl rfl
    refine wpIn_mono (hbody (w.heap.size + 1) k x V hx (hI.2 _ _ _ _ _ hi (by omega) hl rfl)) ?_
    rintro e b W3 hp
    cases e <;> try exact hp.elim
    obtain ⟨ho, hk3, hi3⟩ := hp
    have hl3 := ho.same _ _ hlV rfl
    have hd3 := ho.same _ _ hdV rfl
    have hend := run_endRound (P := P) none hl3
    refine ⟨_, _, hend, rfl, ⟨hI.2 _ _ _ _ _ hi3 (by omega) hl3 rfl, World.putObj_heap_same (Array.getElem?_eq_some_iff.1 hl3).1, (World.putObj_heap_other (by omega)).trans hd3⟩, hKt (hKt hkV hk3) (hKb _ _ _ _ (by omega) hl3 rfl)⟩
  · rintro e W2 ⟨⟨v, rfl⟩, hi, hl, hd⟩
    exact ⟨none, _, run_endLoop (P := P) hl (by simp [rec']), hdone _ _ (Nat.le_refl _) (hI.2 _ _ _ _ _ hi (by omega) hl rfl) ((World.putObj_heap_other (by omega)).trans hd)⟩

/-- a function's contract from its body, where the body holds such a loop -/
theorem calls_marks {P : Program} {f : FuncId} {fn : Func} {c : Code} {args : Array Value} {w : World} {R : Ending → World → Prop} (n : Nat)
    (hf : P.funcs[f]? = some fn) (hb : fn.body = some c)
    (h : c.wp P (bodyPostM Fence.wide n P fn R) { tmps := args ++ Array.replicate (fn.ntmps - args.size) undef, defers := [] } w) : Calls P f args w R :=
  callsIn_wide.1 (callsIn_of_wp_marks hf hb trivial (wpIn_wide.2 h) rfl)

end Go.Proofs.Ytphfbjeaklpddaa

/- Layer 42: the iterator over the pixels. -/
namespace Go.Proofs.Ytphfbjeaklpddaa
open Go.RowKit Go.Shelf

attribute [local go_sem] Oper.semAt_some

/-- the pixels' columns and rows, in their order -/
def pxl (wn hn : Nat) : List (Nat × Nat) := (List.range (wn * hn)).map fun i => (i % wn, i / wn)

theorem pxl_at (wn hn x y : Nat) (hx : x < wn) (hy : y < hn) : (pxl wn hn)[y * wn + x]? = some (x, y) := by
  have h1 : (y + 1) * wn ≤ hn * wn := Nat.mul_le_mul_right wn hy
  rw [Nat.add_mul, Nat.one_mul] at h1
  have h2 : y * wn + x < wn * hn := by rw [Nat.mul_comm wn hn]; omega
  have h3 : (y * wn + x) % wn = x := by rw [Nat.mul_comm, Nat.mul_add_mod]; exact Nat.mod_eq_of_lt hx
  have h4 : (y * wn + x) / wn = y := by rw [Nat.mul_comm, Nat.mul_add_div (by omega), Nat.div_eq_of_lt hx]; rfl
  simp [pxl, h2, h3, h4]

theorem pxl_length (wn hn : Nat) : (pxl wn hn).length = hn * wn := by simp [pxl, Nat.mul_comm]

theorem pxl_of {wn hn k : Nat} {x y : Nat} (h : (pxl wn hn)[k]? = some (x, y)) : k = y * wn + x ∧ x < wn ∧ y < hn := by
  obtain ⟨hk, e⟩ := List.getElem?_eq_some_iff.1 h
  have hk' : k < wn * hn := by simpa [pxl] using hk
  have hw : 0 < wn := Nat.pos_of_ne_zero (by rintro rfl; simp at hk')
  simp [pxl] at e
  obtain ⟨rfl, rfl⟩ := e
  exact ⟨by rw [Nat.mul_comm]; exact (Nat.div_add_mod k wn).symm, Nat.mod_lt _ hw, Nat.div_lt_of_lt_mul hk'⟩

def pencs (p : Nat × Nat) : Array Value := #[.int .i64 (p.1 : Int), .int .i64 (p.2 : Int)]

set_option maxRecDepth 100000 in
set_option maxHeartbeats 4000000 in
theorem pixels_seq (L : Lay) (hok : L.ok) (n : Nat) (b : Nat) (w0 : World) (hv : Vw w0 b L.W L.H L.C L.B L.pl L.P) :
    SeqAll n Try.prog 56 #[.pointer (some ⟨b, 0, none⟩)] #[] pencs (pxl L.W.toNat L.H.toNat) (fun A B => B.heap[b]? = A.heap[b]?) w0 := by
  intro l J W hW hY h0
  have hvW := hv.below hW
  have hlt := hvW.lt
  obtain ⟨v0, v1, v2, v3, v4, v5⟩ := hvW
  have q1 := hok.w1
  have q2 := hok.w2
  have q3 := hok.h1
  have q4 := hok.h2
  obtain ⟨wn, hwn⟩ := Int.eq_ofNat_of_zero_le (a := L.W) (by omega)
  obtain ⟨hn, hhn⟩ := Int.eq_ofNat_of_zero_le (a := L.H) (by omega)
  rw [hwn] at v0
  rw [hhn] at v1
  rw [hwn, hhn] at hY ⊢
  rw [Int.toNat_natCast, Int.toNat_natCast] at *
  rw [pxl_length]
  have HY := Lib.hid hY
  have r1 : wn ≤ 64 := by omega
  have r2 : hn ≤ 64 := by omega
  clear hY hwn hhn q1 q2 q3 q4
  refine callsIn_of_wp Try.func56 rfl trivial ?_ rfl
  simp only [Try.ntmps56, List.size_toArray, List.length_cons, List.length_nil, Nat.reduceAdd, Nat.reduceSub, Array.replicate_succ, Array.replicate_zero, List.push_toArray, List.append_toArray, List.nil_append, List.cons_append]
  gi_wp2
  gi_loopw [4, 11] (fun _ i wr => ∃ y : Nat, y ≤ hn ∧ i = .int .i64 y ∧ J (y * wn) wr ∧ wr.heap[b]? = W.heap[b]?) (fun _ i _ => hn - (intOf i).toNat)
  case atStart => exact ⟨0, Nat.zero_le _, rfl, by rw [Nat.zero_mul]; exact h0, rfl⟩
  case round =>
    obtain ⟨y, hy, rfl, hJ, hb⟩ := hrel
    have v0' : wr.cell? ⟨b, 0, none⟩ = some (.int .i64 (wn : Int)) := (World.cell?_of_block (a := ⟨b, 0, none⟩) hb).trans v0
    have HB := Lib.hid hb
    clear hb
    by_cases hyl : y < hn
    · gi_wp2
      gi_loopw [5, 19] (fun _ j wq => ∃ x : Nat, x ≤ wn ∧ j = .int .i64 x ∧ J (y * wn + x) wq ∧ wq.heap[b]? = W.heap[b]?) (fun _ j _ => wn - (intOf j).toNat)
      case atStart => exact ⟨0, Nat.zero_le _, rfl, hJ, HB.out⟩
      case round =>
        obtain ⟨x, hx, rfl, hJx, hbx⟩ := hrel
        have HBX := Lib.hid hbx
        clear hbx
        by_cases hxl : x < wn
        · obtain ⟨fn, tmps, assign, body, hyy, hR⟩ := HY.out _ (x, y) wr (pxl_at wn hn x y hxl hyl) hJx
          dsimp only [pencs] at hyy
          gi_wp2
          refine ⟨fun h => by simp [Fence.wide] at h, hR.mono ?_⟩
          rintro e W3 ⟨rfl, hJ3, hk3⟩
          have HK3 := Lib.hid hk3
          clear hk3
          gi_wp2
          go_roundw
          case rel => exact ⟨x + 1, by omega, by go_num, hJ3, HK3.out.trans HBX.out⟩
          case measure => simp [intOf]; omega
        · have hxx : x = wn := by omega
          have hJ' : J ((y + 1) * wn) wr := by rw [hxx] at hJx; rw [Nat.add_mul, Nat.one_mul]; exact hJx
          clear hxx
          gi_wp2
          go_roundw
          case rel => exact ⟨y + 1, by omega, by go_num, hJ', HBX.out⟩
          case measure => simp [intOf]; omega
    · have hyy : y = hn := by omega
      have HYY := Lib.hid hyy
      clear hyy
      gi_wp2
      go_end0
      exact ⟨⟨_, rfl⟩, by rw [← HYY.out]; exact hJ⟩

end Go.Proofs.Ytphfbjeaklpddaa

/- Layer 42: Shape, its errors. -/
namespace Go.Proofs.Ytphfbjeaklpddaa
open Go.RowKit Go.Shelf

set_option maxRecDepth 100000 in
set_option maxHeartbeats 1000000 in
theorem shape_bad (L : Lay) (O : ByteArray) (bits : Int) (planar : Bool) (pad : Int) (w : World) (hn : ¬ L.valid O) :
    Calls Try.prog 25 #[L.img O, .int .i64 bits, .bool planar, .int .i64 pad] w fun e w' => e = .returned (.tuple #[zimg, .int .i64 420]) ∧ Below w.heap.size w w' := by
  have HO := fun w => open_bad L O w hn
  unfold Lay.img at *
  have HO' := Lib.hid HO
  clear HO
  go_enter Try.func25, Try.ntmps25
  go_wp2_with fail
  (with_reducible refine (HO'.out _).mono ?_)
  rintro e w1 ⟨rfl, hb⟩
  obtain ⟨hc, hf, hz⟩ := after hb
  simp only [World.size_alloc] at hz
  have hx : w.heap.size < w1.heap.size := by omega
  have hx' : w.heap.size + 1 < w1.heap.size := by omega
  go_wp2_with fail
  refine bodyPost_ret (v := .tuple #[zimg, .int .i64 420]) ?_ rfl ?_
  · simp [results, Try.results25, go_sem, hc, hx, hx']
  refine ⟨rfl, ?_⟩
  ((repeat (first | (with_reducible exact Below.refl _ _) | (with_reducible refine Below.setCell ?_ ?_ _) | (with_reducible refine Below.alloc ?_ ?_ _) | (with_reducible refine Below.drew ?_) | (with_reducible refine Below.trans ?_ (Below.mono (by assumption) ?_)))); all_goals ((try simp only [World.size_alloc, World.size_drew, World.size_setCell]); omega))

set_option maxRecDepth 100000 in
set_option maxHeartbeats 1000000 in
theorem shape_same (L : Lay) (O : ByteArray) (w : World) (hn : L.valid O) :
    Calls Try.prog 25 #[L.img O, .int .i64 L.B, .bool L.pl, .int .i64 L.P] w fun e w' => e = .returned (.tuple #[L.img O, .int .i64 0]) ∧ Below w.heap.size w w' := by
  have HO := fun w => open_ok L O w hn
  unfold Lay.img at *
  have HO' := Lib.hid HO
  clear HO
  go_enter Try.func25, Try.ntmps25
  go_wp2_with fail
  (with_reducible refine (HO'.out _).mono ?_)
  rintro e w1 ⟨b, b2, rfl, hv, hb⟩
  obtain ⟨hc, hf, hz⟩ := after hb
  simp only [World.size_alloc] at hz
  have hx : w.heap.size < w1.heap.size := by omega
  have hx' : w.heap.size + 1 < w1.heap.size := by omega
  have hxx : w.heap.size < w1.heap.size + 1 := by omega
  have hxx' : w.heap.size + 1 < w1.heap.size + 1 := by omega
  have hxy : w.heap.size < w1.heap.size + 1 + 1 := by omega
  have hxy' : w.heap.size + 1 < w1.heap.size + 1 + 1 := by omega
  clear hv
  go_wp2_with fail
  refine bodyPost_ret (v := .tuple #[imgV L.W L.H L.C L.B L.pl L.P O, .int .i64 0]) ?_ rfl ?_
  · simp [results, Try.results25, go_sem, hc, hx, hx', hxx, hxx', hxy, hxy']
  refine ⟨rfl, ?_⟩
  ((repeat (first | (with_reducible exact Below.refl _ _) | (with_reducible refine Below.setCell ?_ ?_ _) | (with_reducible refine Below.alloc ?_ ?_ _) | (with_reducible refine Below.drew ?_) | (with_reducible refine Below.trans ?_ (Below.mono (by assumption) ?_)))); all_goals ((try simp only [World.size_alloc, World.size_drew, World.size_setCell]); omega))

set_option maxRecDepth 100000 in
set_option maxHeartbeats 1000000 in
theorem shape_arg1 (L : Lay) (O : ByteArray) (bits : Int) (planar : Bool) (pad : Int) (w : World) (hn : L.valid O) (h : shpB L.W L.H L.C bits pad = false) (h1 : (bits == L.B) = false) :
    Calls Try.prog 25 #[L.img O, .int .i64 bits, .bool planar, .int .i64 pad] w fun e w' => e = .returned (.tuple #[zimg, .int .i64 2]) ∧ Below w.heap.size w w' := by
  have HO := fun w => open_ok L O w hn
  have HB := fun w => blank_bad ⟨L.W, L.H, L.C, bits, planar, pad⟩ ⟨#[]⟩ w h
  unfold Lay.img at *
  have HO' := Lib.hid HO
  have HB' := Lib.hid HB
  clear HO HB
  go_enter Try.func25, Try.ntmps25
  go_wp2_with fail
  (with_reducible refine (HO'.out _).mono ?_)
  rintro e w1 ⟨b, b2, rfl, hv, hb⟩
  obtain ⟨hc, hf, hz⟩ := after hb
  simp only [World.size_alloc] at hz
  have hx : w.heap.size < w1.heap.size := by omega
  have hx' : w.heap.size + 1 < w1.heap.size := by omega
  have hxx : w.heap.size < w1.heap.size + 1 := by omega
  have hxx' : w.heap.size + 1 < w1.heap.size + 1 := by omega
  have hxy : w.heap.size < w1.heap.size + 1 + 1 := by omega
  have hxy' : w.heap.size + 1 < w1.heap.size + 1 + 1 := by omega
  clear hv
  go_wp2_with fail
  (with_reducible refine (HB'.out _).mono ?_)
  rintro e w2 ⟨rfl, hb2⟩
  obtain ⟨hc2, hf2, hz2⟩ := after hb2
  simp only [World.size_alloc] at hz2
  have hx2 : w.heap.size < w2.heap.size := by omega
  have hx2' : w.heap.size + 1 < w2.heap.size := by omega
  have hx3' : w.heap.size + 1 < w2.heap.size + 1 := by omega
  go_wp2_with fail
  refine bodyPost_ret (v := .tuple #[zimg, .int .i64 2]) ?_ rfl ?_
  · simp [results, Try.results25, go_sem, hc2, hc, hx, hx', hx2, hx2', hxx, hxx', hxy, hxy', hx3']
  refine ⟨rfl, ?_⟩
  ((repeat (first | (with_reducible exact Below.refl _ _) | (with_reducible refine Below.setCell ?_ ?_ _) | (with_reducible refine Below.alloc ?_ ?_ _) | (with_reducible refine Below.drew ?_) | (with_reducible refine Below.trans ?_ (Below.mono (by assumption) ?_)))); all_goals ((try simp only [World.size_alloc, World.size_drew, World.size_setCell]); omega))

set_option maxRecDepth 100000 in
set_option maxHeartbeats 1000000 in
theorem shape_arg2 (L : Lay) (O : ByteArray) (bits : Int) (planar : Bool) (pad : Int) (w : World) (hn : L.valid O) (h : shpB L.W L.H L.C bits pad = false) (h1 : (bits == L.B) = true) (h2 : (planar == L.pl) = false) :
    Calls Try.prog 25 #[L.img O, .int .i64 bits, .bool planar, .int .i64 pad] w fun e w' => e = .returned (.tuple #[zimg, .int .i64 2]) ∧ Below w.heap.size w w' := by
  have HO := fun w => open_ok L O w hn
  have HB := fun w => blank_bad ⟨L.W, L.H, L.C, bits, planar, pad⟩ ⟨#[]⟩ w h
  unfold Lay.img at *
  have HO' := Lib.hid HO
  have HB' := Lib.hid HB
  clear HO HB
  go_enter Try.func25, Try.ntmps25
  go_wp2_with fail
  (with_reducible refine (HO'.out _).mono ?_)
  rintro e w1 ⟨b, b2, rfl, hv, hb⟩
  obtain ⟨hc, hf, hz⟩ := after hb
  simp only [World.size_alloc] at hz
  have hx : w.heap.size < w1.heap.size := by omega
  have hx' : w.heap.size + 1 < w1.heap.size := by omega
  have hxx : w.heap.size < w1.heap.size + 1 := by omega
  have hxx' : w.heap.size + 1 < w1.heap.size + 1 := by omega
  have hxy : w.heap.size < w1.heap.size + 1 + 1 := by omega
  have hxy' : w.heap.size + 1 < w1.heap.size + 1 + 1 := by omega
  clear hv
  go_wp2_with fail
  (with_reducible refine (HB'.out _).mono ?_)
  rintro e w2 ⟨rfl, hb2⟩
  obtain ⟨hc2, hf2, hz2⟩ := after hb2
  simp only [World.size_alloc] at hz2
  have hx2 : w.heap.size < w2.heap.size := by omega
  have hx2' : w.heap.size + 1 < w2.heap.size := by omega
  have hx3' : w.heap.size + 1 < w2.heap.size + 1 := by omega
  go_wp2_with fail
  refine bodyPost_ret (v := .tuple #[zimg, .int .i64 2]) ?_ rfl ?_
  · simp [results, Try.results25, go_sem, hc2, hc, hx, hx', hx2, hx2', hxx, hxx', hxy, hxy', hx3']
  refine ⟨rfl, ?_⟩
  ((repeat (first | (with_reducible exact Below.refl _ _) | (with_reducible refine Below.setCell ?_ ?_ _) | (with_reducible refine Below.alloc ?_ ?_ _) | (with_reducible refine Below.drew ?_) | (with_reducible refine Below.trans ?_ (Below.mono (by assumption) ?_)))); all_goals ((try simp only [World.size_alloc, World.size_drew, World.size_setCell]); omega))

set_option maxRecDepth 100000 in
set_option maxHeartbeats 1000000 in
theorem shape_arg3 (L : Lay) (O : ByteArray) (bits : Int) (planar : Bool) (pad : Int) (w : World) (hn : L.valid O) (h : shpB L.W L.H L.C bits pad = false) (h1 : (bits == L.B) = true) (h2 : (planar == L.pl) = true) (h3 : (pad == L.P) = false) :
    Calls Try.prog 25 #[L.img O, .int .i64 bits, .bool planar, .int .i64 pad] w fun e w' => e = .returned (.tuple #[zimg, .int .i64 2]) ∧ Below w.heap.size w w' := by
  have HO := fun w => open_ok L O w hn
  have HB := fun w => blank_bad ⟨L.W, L.H, L.C, bits, planar, pad⟩ ⟨#[]⟩ w h
  unfold Lay.img at *
  have HO' := Lib.hid HO
  have HB' := Lib.hid HB
  clear HO HB
  go_enter Try.func25, Try.ntmps25
  go_wp2_with fail
  (with_reducible refine (HO'.out _).mono ?_)
  rintro e w1 ⟨b, b2, rfl, hv, hb⟩
  obtain ⟨hc, hf, hz⟩ := after hb
  simp only [World.size_alloc] at hz
  have hx : w.heap.size < w1.heap.size := by omega
  have hx' : w.heap.size + 1 < w1.heap.size := by omega
  have hxx : w.heap.size < w1.heap.size + 1 := by omega
  have hxx' : w.heap.size + 1 < w1.heap.size + 1 := by omega
  have hxy : w.heap.size < w1.heap.size + 1 + 1 := by omega
  have hxy' : w.heap.size + 1 < w1.heap.size + 1 + 1 := by omega
  clear hv
  go_wp2_with fail
  (with_reducible refine (HB'.out _).mono ?_)
  rintro e w2 ⟨rfl, hb2⟩
  obtain ⟨hc2, hf2, hz2⟩ := after hb2
  simp only [World.size_alloc] at hz2
  have hx2 : w.heap.size < w2.heap.size := by omega
  have hx2' : w.heap.size + 1 < w2.heap.size := by omega
  have hx3' : w.heap.size + 1 < w2.heap.size + 1 := by omega
  go_wp2_with fail
  refine bodyPost_ret (v := .tuple #[zimg, .int .i64 2]) ?_ rfl ?_
  · simp [results, Try.results25, go_sem, hc2, hc, hx, hx', hx2, hx2', hxx, hxx', hxy, hxy', hx3']
  refine ⟨rfl, ?_⟩
  ((repeat (first | (with_reducible exact Below.refl _ _) | (with_reducible refine Below.setCell ?_ ?_ _) | (with_reducible refine Below.alloc ?_ ?_ _) | (with_reducible refine Below.drew ?_) | (with_reducible refine Below.trans ?_ (Below.mono (by assumption) ?_)))); all_goals ((try simp only [World.size_alloc, World.size_drew, World.size_setCell]); omega))

end Go.Proofs.Ytphfbjeaklpddaa

/- Layer 42: Shape's closures. -/
namespace Go.Proofs.Ytphfbjeaklpddaa
open Go.RowKit Go.Shelf

def chg1 (v : Int) : Int := v
def chg2 (v : Int) : Int := 257 * v
def chg3 (v : Int) : Int := (v + 128) / 257

set_option maxHeartbeats 400000 in
theorem chg_1 (v : Int) (w : World) (v0 : 0 ≤ v) (v1 : v < 65536) :
    Calls Try.prog 53 #[.int .i64 v] w fun e w' => e = .returned (.int .i64 (chg1 v)) ∧ w = w' := by
  go_enter Try.func53, Try.ntmps53
  go_wp2
  go_ret
  exact ⟨rfl, rfl⟩

set_option maxHeartbeats 400000 in
theorem shp4_1 (bf bs b off len cap : Nat) (c : Nat) (v : Int) (w : World) (hc : c < len) (hl : len ≤ 4)
    (hf : w.cell? ⟨bf, 0, none⟩ = some (.func (.func 53) #[] #[])) (hs : w.cell? ⟨bs, 0, none⟩ = some (.slice (some ⟨b, off, none⟩) len cap)) (hv : w.cell? ⟨b, off + c, none⟩ = some (.int .i64 v)) (v0 : 0 ≤ v) (v1 : v < 65536) :
    Calls Try.prog 58 #[.int .i64 c, .pointer (some ⟨bf, 0, none⟩), .pointer (some ⟨bs, 0, none⟩)] w fun e w' => e = .returned (.int .i64 (chg1 v)) ∧ Below w.heap.size w w' := by
  have l1 : bf < w.heap.size := World.block_lt_of_cell? _ _ hf
  have l2 : bs < w.heap.size := World.block_lt_of_cell? _ _ hs
  have l3 : b < w.heap.size := World.block_lt_of_cell? _ _ hv
  go_enter Try.func58, Try.ntmps58
  go_wp2
  refine wp_region_grow (by kernel_rfl) (by kernel_rfl) ?_
  repeat (go_big_quiet_step ((go_at_call 53; exact calls_grow_same (chg_1 v _ v0 v1))))
  refine wpQuiet_nil ?_
  intro _ hw'
  obtain ⟨nq, hw''⟩ := hw'
  subst hw''
  go_wp2
  go_ret
  exact ⟨rfl, grow_below _ _⟩

set_option maxHeartbeats 400000 in
theorem chg_2 (v : Int) (w : World) (v0 : 0 ≤ v) (v1 : v < 65536) :
    Calls Try.prog 54 #[.int .i64 v] w fun e w' => e = .returned (.int .i64 (chg2 v)) ∧ w = w' := by
  go_enter Try.func54, Try.ntmps54
  go_wp2
  go_ret
  exact ⟨rfl, rfl⟩

set_option maxHeartbeats 400000 in
theorem shp4_2 (bf bs b off len cap : Nat) (c : Nat) (v : Int) (w : World) (hc : c < len) (hl : len ≤ 4)
    (hf : w.cell? ⟨bf, 0, none⟩ = some (.func (.func 54) #[] #[])) (hs : w.cell? ⟨bs, 0, none⟩ = some (.slice (some ⟨b, off, none⟩) len cap)) (hv : w.cell? ⟨b, off + c, none⟩ = some (.int .i64 v)) (v0 : 0 ≤ v) (v1 : v < 65536) :
    Calls Try.prog 58 #[.int .i64 c, .pointer (some ⟨bf, 0, none⟩), .pointer (some ⟨bs, 0, none⟩)] w fun e w' => e = .returned (.int .i64 (chg2 v)) ∧ Below w.heap.size w w' := by
  have l1 : bf < w.heap.size := World.block_lt_of_cell? _ _ hf
  have l2 : bs < w.heap.size := World.block_lt_of_cell? _ _ hs
  have l3 : b < w.heap.size := World.block_lt_of_cell? _ _ hv
  go_enter Try.func58, Try.ntmps58
  go_wp2
  refine wp_region_grow (by kernel_rfl) (by kernel_rfl) ?_
  repeat (go_big_quiet_step ((go_at_call 54; exact calls_grow_same (chg_2 v _ v0 v1))))
  refine wpQuiet_nil ?_
  intro _ hw'
  obtain ⟨nq, hw''⟩ := hw'
  subst hw''
  go_wp2
  go_ret
  exact ⟨rfl, grow_below _ _⟩

set_option maxHeartbeats 400000 in
theorem chg_3 (v : Int) (w : World) (v0 : 0 ≤ v) (v1 : v < 65536) :
    Calls Try.prog 55 #[.int .i64 v] w fun e w' => e = .returned (.int .i64 (chg3 v)) ∧ w = w' := by
  go_enter Try.func55, Try.ntmps55
  go_wp2
  go_ret
  exact ⟨rfl, rfl⟩

set_option maxHeartbeats 400000 in
theorem shp4_3 (bf bs b off len cap : Nat) (c : Nat) (v : Int) (w : World) (hc : c < len) (hl : len ≤ 4)
    (hf : w.cell? ⟨bf, 0, none⟩ = some (.func (.func 55) #[] #[])) (hs : w.cell? ⟨bs, 0, none⟩ = some (.slice (some ⟨b, off, none⟩) len cap)) (hv : w.cell? ⟨b, off + c, none⟩ = some (.int .i64 v)) (v0 : 0 ≤ v) (v1 : v < 65536) :
    Calls Try.prog 58 #[.int .i64 c, .pointer (some ⟨bf, 0, none⟩), .pointer (some ⟨bs, 0, none⟩)] w fun e w' => e = .returned (.int .i64 (chg3 v)) ∧ Below w.heap.size w w' := by
  have l1 : bf < w.heap.size := World.block_lt_of_cell? _ _ hf
  have l2 : bs < w.heap.size := World.block_lt_of_cell? _ _ hs
  have l3 : b < w.heap.size := World.block_lt_of_cell? _ _ hv
  go_enter Try.func58, Try.ntmps58
  go_wp2
  refine wp_region_grow (by kernel_rfl) (by kernel_rfl) ?_
  repeat (go_big_quiet_step ((go_at_call 55; exact calls_grow_same (chg_3 v _ v0 v1))))
  refine wpQuiet_nil ?_
  intro _ hw'
  obtain ⟨nq, hw''⟩ := hw'
  subst hw''
  go_wp2
  go_ret
  exact ⟨rfl, grow_below _ _⟩


theorem Lay.dm' (n : Nat) (b y a x : Int) (h : b * n + a = y * n + x) (a0 : 0 ≤ a) (a1 : a < n) (x0 : 0 ≤ x) (x1 : x < n) : b = y ∧ a = x := by
  obtain ⟨p1, p2⟩ := dm n b a a0 a1
  obtain ⟨p3, p4⟩ := dm n y x x0 x1
  rw [h] at p1 p2
  exact ⟨p1.symm.trans p3, p2.symm.trans p4⟩

/-- k pixels have come -/
def shpF (s : Int → Int → Int → Int) (ch : Int → Int) (wn : Int) (k : Nat) : Int → Int → Int → Int :=
  fun a b c => if b * wn + a < k then ch (s a b c) else 0

theorem shpF_zero (s : Int → Int → Int → Int) (ch : Int → Int) (wn : Int) (a b c : Int) (a0 : 0 ≤ a) (b0 : 0 ≤ b) (w0 : 0 ≤ wn) : shpF s ch wn 0 a b c = 0 := by
  unfold shpF
  have := Int.mul_nonneg b0 w0
  rw [if_neg (by omega)]

theorem shpF_put (s : Int → Int → Int → Int) (ch : Int → Int) (wn : Nat) (x y : Nat) (hx : x < wn) (n : Nat) (a b c : Int) (a0 : 0 ≤ a) (aw : a < wn) (b0 : 0 ≤ b) (c0 : 0 ≤ c) (cn : c < n) :
    putF (shpF s ch wn (y * wn + x)) x y ((List.range n).map fun j => ch (s x y (j : Nat))) ((List.range n).map fun j => ch (s x y (j : Nat))).length a b c = shpF s ch wn (y * wn + x + 1) a b c := by
  unfold putF
  by_cases e : a = x ∧ b = y
  · obtain ⟨rfl, rfl⟩ := e
    have hl : c.toNat < n := by omega
    rw [if_pos ⟨rfl, rfl, c0, by simpa using cn⟩]
    unfold shpF
    rw [if_pos (by push_cast; omega)]
    simp [hl, Int.toNat_of_nonneg c0]
  · rw [if_neg (by omega)]
    unfold shpF
    have key : b * wn + a ≠ ((y * wn + x : Nat) : Int) := by
      intro h
      push_cast at h
      obtain ⟨h1, h2⟩ := Lay.dm' wn b y a x h (by omega) aw (by omega) (by omega)
      exact e ⟨h2, h1⟩
    by_cases h : b * wn + a < ((y * wn + x : Nat) : Int)
    · rw [if_pos h, if_pos (by omega)]
    · rw [if_neg h, if_neg (by omega)]

end Go.Proofs.Ytphfbjeaklpddaa

/- A region within a round of a range over a function, by the calculus that knows no rounds: an operation that defers nothing does in a round what it does elsewhere. -/
namespace Go.Proofs.Ytphfbjeaklpddaa
open Go.RowKit

/-- no operation of the region defers -/
def noDefer (ops : Array Oper) : Bool := ops.all fun o => match o.op with | .defer _ => false | _ => true

theorem noDefer_spec {ops : Array Oper} (h : noDefer ops = true) {i : Nat} {o : Oper} (ho : ops[i]? = some o) : ∀ c, o.op ≠ .defer c := by
  intro c hc
  unfold noDefer at h
  rw [Array.all_eq_true] at h
  obtain ⟨hi, e⟩ := Array.getElem?_eq_some_iff.1 ho
  have := h i hi
  rw [e, hc] at this
  cases this

theorem oper_round {P : Program} {o : Oper} {a : Act} {w : World} {K : Act → World → Prop} {Q : Exit → Act → World → Prop} (l n : Nat) (hd : ∀ c, o.op ≠ .defer c) (h : o.wp P a w K Q) : o.wpIn (Fence.wide.inRound l) n P a w K Q := by
  unfold Oper.wp at h
  unfold Oper.wpIn
  refine ⟨fun _ _ => trivial, ?_⟩
  rw [Oper.semAt_eq _ _ _ hd]
  generalize (execOp a.eval o).run P w = r at *
  cases r with
  | ok x w' =>
    cases x <;> simp only [Oper.upon] at h
    case value v => exact h
    case skip => exact h
    case enter f args => exact ⟨fun hh => by simp [Fence.wide] at hh, CallsIn.inRound l (callsIn_wide.2 h)⟩
    case row row args =>
      refine ⟨fun hh => by simp [Fence.wide] at hh, fun c cs _ => ?_⟩
      obtain ⟨v, w'', r, s⟩ := h c cs
      exact ⟨v, w'', r, stepsIn_wide.2 s⟩
    case defer d => exact h
  | halt x w' => cases x <;> simp only [Oper.upon] at h <;> exact h

theorem any_round {P : Program} {ops : Array Oper} {Q : Exit → Act → World → Prop} {md : Region.Mode} (l n : Nat) (hd : noDefer ops = true) (hQ : ¬ LetsOut Q) :
    ∀ (fuel : Nat) (listed : Array Bool) (a : Act) (w : World), wpAny P md ops Q fuel listed a w → wpAnyIn (Fence.wide.inRound l) n P md ops Q fuel listed a w
  | 0, _, _, _, h => h
  | fuel + 1, listed, a, w, h => ⟨h.1, fun i hi => by
      have h2 := h.2 i hi
      unfold wpOp at h2
      unfold wpOpIn
      split
      · rename_i ho
        simp only [ho] at h2
        exact any_round l n hd hQ fuel _ _ _ h2
      · rename_i o ho
        simp only [ho] at h2
        split
        · rename_i hw
          simp only [hw, if_true] at h2
          rcases h2 with h2 | ⟨_, h2⟩
          · exact Oper.wpIn_mono (fun a' w' h3 => any_round l n hd hQ fuel _ a' w' h3) (oper_round l n (noDefer_spec hd ho) h2)
          · exact absurd h2 hQ
        · rename_i hw
          simp only [hw] at h2
          exact ⟨fun _ _ => trivial, any_round l n hd hQ fuel _ _ _ h2⟩⟩

/-- a region that draws its order, within a round -/
theorem wpIn_round_held {P : Program} {ops : Array Oper} {Q : Exit → Act → World → Prop} {S : World → Prop} {id : Nat} {a : Act} {w : World} (l n : Nat) (hm : P.follows .mixedOrders = true) (hd : noDefer ops = true) (hQ : ¬ LetsOut Q)
    (hS : S w.drew) (h : S w.drew → wpAnyH P .any ops Q S ops.size (Array.replicate ops.size false) a w.drew) : (Code.region id ops true).wpIn (Fence.wide.inRound l) n P Q a w :=
  wpIn_region_any hm (any_round l n hd hQ _ _ _ _ (wpAny_of_held _ _ _ _ (h hS)))

end Go.Proofs.Ytphfbjeaklpddaa

/- Layer 42: Shape. -/
namespace Go.Proofs.Ytphfbjeaklpddaa
open Go.RowKit Go.Shelf

attribute [local go_sem] Oper.semAt_some

theorem View.weaken {w : World} {base base' b b2 : Nat} {L : Lay} {g : Int → Int} (h : View w base b b2 L g) (hb : base' ≤ base) : View w base' b b2 L g :=
  ⟨h.hd, h.fz, h.o6, h.sl, h.bt, h.ne, Nat.le_trans hb h.b1, Nat.le_trans hb h.b2⟩

theorem View.put {w : World} {base b b2 : Nat} {L : Lay} {g : Int → Int} (h : View w base b b2 L g) (hok : L.ok) {l : Nat} {o : Obj} (o' : Obj) (hl : w.heap[l]? = some o) (ho : o.isCells = false) : View (w.putObj l o') base b b2 L g := by
  have n1 : b ≠ l := by
    rintro rfl
    obtain ⟨q, hq, hc⟩ := cells_of_cell h.hd.c0
    dsimp only at hq
    rw [hl] at hq
    cases hq
    rw [ho] at hc
    cases hc
  have n2 : b2 ≠ l := by
    rintro rfl
    obtain ⟨q, hq, hc⟩ := cells_of_cell (h.bt 0 (by have := L.len_bd hok; omega)).1
    dsimp only at hq
    rw [hl] at hq
    cases hq
    rw [ho] at hc
    cases hc
  have e1 : (w.putObj l o').heap[b]? = w.heap[b]? := World.putObj_heap_other n1
  have e2 : (w.putObj l o').heap[b2]? = w.heap[b2]? := World.putObj_heap_other n2
  exact h.of (fun o => World.cell?_of_block (a := ⟨b, o, none⟩) e1) (fun o => World.frozen?_of_block (a := ⟨b, o, none⟩) e1) fun p hp => by
    rw [World.cell?_of_block (a := ⟨b2, p, none⟩) e2, World.frozen?_of_block (a := ⟨b2, p, none⟩) e2]
    exact h.bt p hp

theorem Upd.put {b : Nat} {w W : World} (h : Upd b w W) {l : Nat} (o' : Obj) (hl : w.heap.size ≤ l) : Upd b w (W.putObj l o') :=
  ⟨h.os, h.tape, h.output, by rw [World.putObj_size]; exact h.size, fun k hk hne => (World.putObj_heap_other (by omega)).trans (h.block k hk hne)⟩

theorem Upd.others {b o : Nat} {v : Value} {w w' : World} (h : Upd b w w') (hc : w.cell? ⟨b, o, none⟩ = some v) : KeepsOthers w w' :=
  ⟨h.size, fun k ob hk ho => by
    have hlt : k < w.heap.size := (Array.getElem?_eq_some_iff.1 hk).1
    refine (h.block k hlt ?_).trans hk
    rintro rfl
    obtain ⟨q, hq, hcc⟩ := cells_of_cell hc
    dsimp only at hq
    rw [hk] at hq
    cases hq
    rw [ho] at hcc
    cases hcc⟩

theorem shpF_put' (s : Int → Int → Int → Int) (ch : Int → Int) (W : Int) (hW : 0 ≤ W) (x y k : Nat) (hk : k = y * W.toNat + x) (hx : x < W.toNat) (n : Nat) (a b c : Int) (a0 : 0 ≤ a) (aw : a < W) (b0 : 0 ≤ b) (c0 : 0 ≤ c) (cn : c < n) :
    putF (shpF s ch W k) x y ((List.range n).map fun j => ch (s x y (j : Nat))) ((List.range n).map fun j => ch (s x y (j : Nat))).length a b c = shpF s ch W (k + 1) a b c := by
  obtain ⟨m, rfl⟩ := Int.eq_ofNat_of_zero_le hW
  subst hk
  exact shpF_put s ch m x y (by simpa using hx) n a b c a0 aw b0 c0 cn

theorem shpF_full (s : Int → Int → Int → Int) (ch : Int → Int) (W H : Int) (a b c : Int) (a0 : 0 ≤ a) (aw : a < W) (b0 : 0 ≤ b) (bh : b < H) : shpF s ch W (H.toNat * W.toNat) a b c = ch (s a b c) := by
  unfold shpF
  obtain ⟨m, rfl⟩ := Int.eq_ofNat_of_zero_le (a := W) (by omega)
  obtain ⟨h, rfl⟩ := Int.eq_ofNat_of_zero_le (a := H) (by omega)
  have h1 : (b + 1) * m ≤ h * m := Int.mul_le_mul_of_nonneg_right (by omega) (by omega)
  rw [Int.add_mul, Int.one_mul] at h1
  rw [if_pos (by simp only [Int.toNat_natCast]; push_cast; omega)]

theorem _root_.Go.Below.putObj {B : Nat} {w w' : World} (h : Below B w w') {l : Nat} (hl : B ≤ l) (o : Obj) : Below B w (w'.putObj l o) :=
  ⟨h.os, h.tape, h.output, by rw [World.putObj_size]; exact h.size, fun k hk => (World.putObj_heap_other (by omega)).trans (h.block k hk)⟩

/-- the layout with other bits, planes and padding -/
def Lay.lay (L : Lay) (bits : Int) (planar : Bool) (pad : Int) : Lay := { L with B := bits, pl := planar, P := pad }

set_option maxRecDepth 100000 in
set_option maxHeartbeats 4000000 in
theorem shape_ok2 (L : Lay) (O : ByteArray) (bits : Int) (planar : Bool) (pad : Int) (w : World) (hn : L.valid O) (hm : Shp L.W L.H L.C bits pad) (h1 : (bits == L.B) = false) (h4 : L.B < bits) :
    Calls Try.prog 25 #[L.img O, .int .i64 bits, .bool planar, .int .i64 pad] w fun e w' => e = .returned (.tuple #[(L.lay bits planar pad).img (octS (L.lay bits planar pad).len.toNat ((L.lay bits planar pad).octF fun a b c => chg2 (L.fn O a b c))), .int .i64 0]) ∧ Below w.heap.size w w' := by
  have HO := fun w => open_ok L O w hn
  have HB := fun w => blank_good (L.lay bits planar pad) ⟨#[]⟩ w hm
  unfold Lay.img Lay.lay at HB
  unfold Lay.img at HO ⊢
  have HO' := Lib.hid HO
  have HB' := Lib.hid HB
  have hok := hn.1
  clear HO HB
  refine calls_marks 3 Try.func25 rfl ?_
  simp only [Try.ntmps25, List.size_toArray, List.length_cons, List.length_nil, Nat.reduceAdd, Nat.reduceSub, Array.replicate_succ, Array.replicate_zero, List.push_toArray, List.append_toArray, List.nil_append, List.cons_append]
  go_wp2_with fail
  (with_reducible refine (HO'.out _).mono ?_)
  rintro e w1 ⟨b, b2, rfl, hv, hb⟩
  obtain ⟨hc, hf, hz⟩ := after hb
  simp only [World.size_alloc] at hz
  have hx : w.heap.size < w1.heap.size := by omega
  have hx' : w.heap.size + 1 < w1.heap.size := by omega
  have hxx : w.heap.size < w1.heap.size + 1 := by omega
  have hxx' : w.heap.size + 1 < w1.heap.size + 1 := by omega
  have hxy : w.heap.size < w1.heap.size + 1 + 1 := by omega
  have hxy' : w.heap.size + 1 < w1.heap.size + 1 + 1 := by omega
  have HV := Lib.hid hv
  clear hv
  go_wp2_with fail
  (with_reducible refine (HB'.out _).mono ?_)
  rintro e w2 ⟨c, c2, rfl, hu, hb2⟩
  obtain ⟨hc2, hf2, hz2⟩ := after hb2
  simp only [World.size_alloc] at hz2
  have hx2 : w.heap.size < w2.heap.size := by omega
  have hx2' : w.heap.size + 1 < w2.heap.size := by omega
  have hy2 : w1.heap.size < w2.heap.size := by omega
  have hy2' : w1.heap.size < w2.heap.size + 1 := by omega
  have hy2'' : w1.heap.size < w2.heap.size + 1 + 1 := by omega
  have hx3 : w.heap.size < w2.heap.size + 1 := by omega
  have hx3' : w.heap.size < w2.heap.size + 1 + 1 := by omega
  have HU := Lib.hid hu
  clear hu
  go_wp2_with fail
  obtain ⟨W0, hW0⟩ : ∃ W0, W0 = (w2.alloc (.cells #[.pointer (some ⟨c, 0, none⟩)] 80)).alloc (.cells #[.func (.func 54) #[] #[]] 96) := ⟨_, rfl⟩
  have hB2 : Below w2.heap.size w2 W0 := by rw [hW0]; exact ((Below.refl _ _).alloc (Nat.le_refl _) _).alloc (by simp) _
  have hB1 : Below w1.heap.size w1 W0 := by
    refine Below.trans ?_ (hB2.mono (by omega))
    ((repeat (first | (with_reducible exact Below.refl _ _) | (with_reducible refine Below.setCell ?_ ?_ _) | (with_reducible refine Below.alloc ?_ ?_ _) | (with_reducible refine Below.drew ?_) | (with_reducible refine Below.trans ?_ (Below.mono (by assumption) ?_)))); all_goals ((try simp only [World.size_alloc, World.size_drew, World.size_setCell]); omega))
  have hs0 : W0.heap.size = w2.heap.size + 1 + 1 := by rw [hW0]; simp
  have k10 : W0.cell? ⟨w1.heap.size, 0, none⟩ = some (.pointer (some ⟨b, 0, none⟩)) := by rw [hW0]; go_simp
  have k14 : W0.cell? ⟨w2.heap.size, 0, none⟩ = some (.pointer (some ⟨c, 0, none⟩)) := by rw [hW0]; go_simp
  have k15 : W0.cell? ⟨w2.heap.size + 1, 0, none⟩ = some (.func (.func 54) #[] #[]) := by rw [hW0]; go_simp
  have hcc := HU.out.b1
  have hcc2 := HU.out.b2
  have hbl := HV.out.lt
  have hbl2 := HV.out.lt2 hok
  have hcl := HU.out.lt
  have hcl2 := HU.out.lt2 hm
  simp only [World.size_alloc] at hcc hcc2
  have hVs := HV.out.below hok hB1
  have hVt := HU.out.below hm hB2
  have KB1 := Lib.hid hB1
  have KB2 := Lib.hid hB2
  have KVS := Lib.hid hVs
  have KVT := Lib.hid hVt
  have K10 := Lib.hid k10
  have K14 := Lib.hid k14
  have K15 := Lib.hid k15
  rw [← hW0]
  have HW0 := Lib.hid hW0
  clear hW0 hB1 hB2 hVs hVt k10 k14 k15
  have hseq := pixels_seq L hok 2 b W0 KVS.out.hd
  refine wp_rangeSeq 3 (by omega) (gf := 56) (first := #[.pointer (some ⟨b, 0, none⟩)]) (caps := #[]) rfl (enters_of Try.func56 (by kernel_rfl) rfl) hseq (fun _ => rfl) (fun h k => k.trans h)
    (fun W l o o' hl _ _ => World.putObj_heap_other (by omega))
    (fun k W => View W w.heap.size c c2 (L.lay bits planar pad) ((L.lay bits planar pad).octF (shpF (L.fn O) chg2 L.W k)) ∧ Upd c2 W0 W) ?bears ?start ?act ?assign ?body ?done
  case assign =>
    intro l x W K hK
    unfold pencs
    gi_wp2
    exact hK
  case bears =>
    exact ⟨fun k W o h => ⟨h.1.below hm ((Below.refl _ _).alloc (Nat.le_refl _) _), h.2.trans (Upd.of_below ((Below.refl _ _).alloc (Nat.le_refl _) _))⟩,
      fun k W l o o' h hl ho hc => ⟨h.1.put hm o' ho hc, h.2.put o' hl⟩⟩
  case start =>
    refine ⟨(KVT.out.weaken (by simp only [World.size_alloc]; omega)).congr fun p p0 p1 => ?_, Upd.refl _ _⟩
    rw [← Lay.octF_zero (L.lay bits planar pad) p]
    exact Lay.octF_congr (L.lay bits planar pad) hm (fun a b' c' hd => (shpF_zero _ _ _ _ _ _ hd.1.1 hd.2.1.1 (by have := hok.w1; omega)).symm) p0 p1
  case body =>
    rintro l k ⟨x, y⟩ W hx ⟨hvt, hU⟩
    have hkx := pxl_of hx
    obtain ⟨hkk, hxw, hyh⟩ := hkx
    have hs0' := hs0
    have c10 : W.cell? ⟨w1.heap.size, 0, none⟩ = some (.pointer (some ⟨b, 0, none⟩)) := (hU.cell (p := ⟨w1.heap.size, 0, none⟩) (by show w1.heap.size < _; omega) (by show w1.heap.size ≠ _; omega)).trans K10.out
    have c14 : W.cell? ⟨w2.heap.size, 0, none⟩ = some (.pointer (some ⟨c, 0, none⟩)) := (hU.cell (p := ⟨w2.heap.size, 0, none⟩) (by show w2.heap.size < _; omega) (by show w2.heap.size ≠ _; omega)).trans K14.out
    have c15 : W.cell? ⟨w2.heap.size + 1, 0, none⟩ = some (.func (.func 54) #[] #[]) := (hU.cell (p := ⟨w2.heap.size + 1, 0, none⟩) (by show w2.heap.size + 1 < _; omega) (by show w2.heap.size + 1 ≠ _; omega)).trans K15.out
    have hsrc := KVS.out.upd hok hU (by omega) (by omega)
    have HP := Lib.hid (pixel_any L hok _ b b2 (octAt O) (octAt_range O) x y W hsrc (by omega) (by omega) (by omega) (by omega))
    clear hs0'
    obtain ⟨cn, hcn⟩ : ∃ cn, cn = L.C.toNat := ⟨_, rfl⟩
    rw [← hcn] at HP
    have hc1 := hok.c1
    have hc2' := hok.c2
    have hcn4 : cn ≤ 4 := by omega
    have hrng : ∀ j, 0 ≤ L.fn O x y j ∧ L.fn O x y j < 65536 := fun j => by
      have := L.smp_bd hok (octAt O) (octAt_range O) x y j
      refine ⟨this.1, Int.lt_of_lt_of_le this.2 ?_⟩
      split <;> omega
    have hlc2 := hvt.lt2 hm
    have HVT := Lib.hid hvt
    have HUW := Lib.hid hU
    have HCN := Lib.hid hcn
    have HRNG := Lib.hid hrng
    have HKK := Lib.hid hkk
    clear hvt hU hcn hrng hkk hsrc
    gi_wp2_with fail
    refine ⟨trivial, ?_⟩
    refine CallsIn.mono (CallsIn.inRound l (callsIn_wide.2 HP.out)) ?_
    rintro e w3 ⟨b3, cap3, rfl, hi3, hz3, hl3, hb3⟩
    obtain ⟨W2, hW2⟩ : ∃ W2, W2 = w3.alloc (.cells #[.slice (some ⟨b3, 0, none⟩) cn cap3] 44) := ⟨_, rfl⟩
    have hW2b : Below w3.heap.size w3 W2 := by rw [hW2]; exact (Below.refl _ _).alloc (Nat.le_refl _) _
    have hb32 : Below W.heap.size W W2 := hb3.trans (hW2b.mono hb3.size)
    have hsW2 : W2.heap.size = w3.heap.size + 1 := by rw [hW2]; simp
    have hszw := hb3.size
    have d14 : W2.cell? ⟨w2.heap.size, 0, none⟩ = some (.pointer (some ⟨c, 0, none⟩)) := (hb32.cell (p := ⟨w2.heap.size, 0, none⟩) (World.block_lt_of_cell? _ _ c14)).trans c14
    have d15 : W2.cell? ⟨w2.heap.size + 1, 0, none⟩ = some (.func (.func 54) #[] #[]) := (hb32.cell (p := ⟨w2.heap.size + 1, 0, none⟩) (World.block_lt_of_cell? _ _ c15)).trans c15
    have d18 : W2.cell? ⟨w3.heap.size, 0, none⟩ = some (.slice (some ⟨b3, 0, none⟩) cn cap3) := by rw [hW2]; go_simp
    have hi3' : Ints W2 (some ⟨b3, 0, none⟩) ((List.range cn).map fun i => L.fn O x y (i : Nat)) := hi3.below hW2b
    have hmd : ∀ V, Below W2.heap.size W2 V → Calls Try.prog 57 #[.int .i64 cn, .func (.func 58) #[] #[.pointer (some ⟨w2.heap.size + 1, 0, none⟩), .pointer (some ⟨w3.heap.size, 0, none⟩)]] V (MadePost (fun j => chg2 (L.fn O x y j)) cn V) := fun V hV =>
      made_58 cn (by omega) _ _ (fun j => chg2 (L.fn O x y j)) V (fun j V' hj hV' => by
        have hVV : Below W2.heap.size W2 V' := hV.trans (hV'.mono hV.size)
        have hcell : V'.cell? ⟨b3, 0 + j, none⟩ = some (.int .i64 (L.fn O x y j)) := by
          obtain ⟨bq, oq, vq, hq1, hq2, hq3⟩ := (hi3'.below hVV).at (k := j) (by simpa using hj)
          cases hq1
          have := hq3.out
          simp [hj] at this
          rw [hq2, ← this]
        exact shp4_2 _ _ b3 0 cn cap3 j _ V' hj hcn4 ((hVV.cell (p := ⟨w2.heap.size + 1, 0, none⟩) (World.block_lt_of_cell? _ _ d15)).trans d15) ((hVV.cell (p := ⟨w3.heap.size, 0, none⟩) (World.block_lt_of_cell? _ _ d18)).trans d18) hcell (HRNG.out j).1 (HRNG.out j).2)
    have hpt : ∀ V b4 cap4, Ints V (some ⟨b4, 0, none⟩) ((List.range cn).map fun j => chg2 (L.fn O x y (j : Nat))) → Below W2.heap.size W2 V → W2.heap.size ≤ b4 →
        Calls Try.prog 51 #[.pointer (some ⟨c, 0, none⟩), .int .i64 x, .int .i64 y, .slice (some ⟨b4, 0, none⟩) cn cap4] V (PutPost (L.lay bits planar pad) w.heap.size c c2 (shpF (L.fn O) chg2 L.W k) x y ((List.range cn).map fun j => chg2 (L.fn O x y (j : Nat))) V) := fun V b4 cap4 hiV hV hb4 => by
      have hlen : ((List.range cn).map fun j => chg2 (L.fn O x y (j : Nat))).length = cn := by simp
      have := put_any (L.lay bits planar pad) hm w.heap.size c c2 (shpF (L.fn O) chg2 L.W k) x y _ (some ⟨b4, 0, none⟩) cap4 V ((HVT.out.below hm hb32).below hm hV) (by omega) (by show (x : Int) < L.W; omega) (by omega) (by show (y : Int) < L.H; omega) hiV (by rw [hlen]; show (cn : Int) ≤ L.C; have := HCN.out; omega) (fun c' off e => by cases e; omega)
      rw [hlen] at this
      exact this
    have HMD := Lib.hid hmd
    have HPT := Lib.hid hpt
    have HB32 := Lib.hid hb32
    clear hmd hpt hi3 hi3' hb3 hb32 hW2b c10 c14 c15
    gi_wp2_with fail
    rw [← hW2]
    have HW2 := Lib.hid hW2
    clear hW2
    refine wpIn_round_held l _ (by kernel_rfl) (by kernel_rfl) (by rintro ⟨_, _, h⟩; exact h) (S := fun V => V.cell? ⟨w2.heap.size, 0, none⟩ = some (.pointer (some ⟨c, 0, none⟩)) ∧ V.cell? ⟨w3.heap.size, 0, none⟩ = some (.slice (some ⟨b3, 0, none⟩) cn cap3)) ⟨d14, d18⟩ (fun hHeld => ?_)
    refine wpAnyH_take (i := 0) (v := .pointer (some ⟨c, 0, none⟩)) rfl (by kernel_rfl) (by kernel_rfl) (by kernel_rfl) (fun _ _ _ h => h) (Or.inl ⟨by rfl, ?_⟩) hHeld ?_
    · intro V hV
      obtain ⟨hV1, hV2⟩ := hV
      go_simp
    simp only [Act.put, List.setIfInBounds_toArray, List.set_cons_zero, List.set_cons_succ]
    refine wpAnyH_take (i := 1) (v := .int .i64 x) rfl (by kernel_rfl) (by kernel_rfl) (by kernel_rfl) (fun _ _ _ h => h) (Or.inl ⟨by rfl, ?_⟩) hHeld ?_
    · intro V hV
      obtain ⟨hV1, hV2⟩ := hV
      go_simp
    simp only [Act.put, List.setIfInBounds_toArray, List.set_cons_zero, List.set_cons_succ]
    refine wpAnyH_take (i := 2) (v := .int .i64 y) rfl (by kernel_rfl) (by kernel_rfl) (by kernel_rfl) (fun _ _ _ h => h) (Or.inl ⟨by rfl, ?_⟩) hHeld ?_
    · intro V hV
      obtain ⟨hV1, hV2⟩ := hV
      go_simp
    simp only [Act.put, List.setIfInBounds_toArray, List.set_cons_zero, List.set_cons_succ]
    refine wpAnyH_take (i := 3) (v := .slice (some ⟨b3, 0, none⟩) cn cap3) rfl (by kernel_rfl) (by kernel_rfl) (by kernel_rfl) (fun _ _ _ h => h) (Or.inl ⟨by rfl, ?_⟩) hHeld ?_
    · intro V hV
      obtain ⟨hV1, hV2⟩ := hV
      go_simp
    simp only [Act.put, List.setIfInBounds_toArray, List.set_cons_zero, List.set_cons_succ]
    refine wpAnyH_take (i := 4) (v := .int .i64 cn) rfl (by kernel_rfl) (by kernel_rfl) (by kernel_rfl) (fun _ _ _ h => h) (Or.inl ⟨by rfl, ?_⟩) hHeld ?_
    · intro V hV
      obtain ⟨hV1, hV2⟩ := hV
      go_simp
    simp only [Act.put, List.setIfInBounds_toArray, List.set_cons_zero, List.set_cons_succ]
    refine wpAnyH_take (i := 5) (v := .func (.func 58) #[] #[.pointer (some ⟨w2.heap.size + 1, 0, none⟩), .pointer (some ⟨w3.heap.size, 0, none⟩)]) rfl (by kernel_rfl) (by kernel_rfl) (by kernel_rfl) (fun _ _ _ h => h) (Or.inl ⟨by rfl, ?_⟩) hHeld ?_
    · intro V hV
      obtain ⟨hV1, hV2⟩ := hV
      go_simp
    simp only [Act.put, List.setIfInBounds_toArray, List.set_cons_zero, List.set_cons_succ]
    refine wpAnyH_ready (rs := [6]) (by kernel_rfl) (by simp) ?_
    refine AllReadyH.cons rfl (fun K hK => ?_) AllReadyH.nil
    go_simp
    (with_reducible refine (HMD.out _ (Below.drew (Below.refl _ _))).mono ?_)
    rintro e w4 ⟨b4, cap4, rfl, hi4, hb4, hl4, hbw4⟩
    have hbw4' : Below W2.heap.size W2 w4 := (Below.drew (Below.refl _ _)).trans hbw4
    have e14 : w4.cell? ⟨w2.heap.size, 0, none⟩ = some (.pointer (some ⟨c, 0, none⟩)) := (hbw4'.cell (p := ⟨w2.heap.size, 0, none⟩) (World.block_lt_of_cell? _ _ d14)).trans d14
    have e18 : w4.cell? ⟨w3.heap.size, 0, none⟩ = some (.slice (some ⟨b3, 0, none⟩) cn cap3) := (hbw4'.cell (p := ⟨w3.heap.size, 0, none⟩) (World.block_lt_of_cell? _ _ d18)).trans d18
    have HH := HPT.out w4 b4 cap4 hi4 hbw4' hb4
    have HHD := Lib.hid HH
    have HBW4 := Lib.hid hbw4'
    clear HH hi4 hb4 hl4 hbw4 hbw4' hHeld
    refine hK.out _ _ ⟨e14, e18⟩ (fun hHeld => ?_)
    clear hK
    try simp only [Act.put, List.setIfInBounds_toArray, List.set_cons_zero, List.set_cons_succ]
    refine wpAnyH_ready (rs := [7]) (by kernel_rfl) (by simp) ?_
    refine AllReadyH.cons rfl (fun K hK => ?_) AllReadyH.nil
    go_simp
    (with_reducible refine HHD.out.mono ?_)
    rintro e w5 ⟨rfl, hv5, hu5⟩
    have hu5' : Upd c2 W w5 := (Upd.of_below HB32.out).trans ((Upd.of_below HBW4.out).trans hu5)
    have hlt14 := World.block_lt_of_cell? _ _ d14
    have hcl2' := HU.out.lt2 hm
    have e14' : w5.cell? ⟨w2.heap.size, 0, none⟩ = some (.pointer (some ⟨c, 0, none⟩)) := (hu5.cell (p := ⟨w2.heap.size, 0, none⟩) (World.block_lt_of_cell? _ _ e14) (by show w2.heap.size ≠ _; omega)).trans e14
    have e18' : w5.cell? ⟨w3.heap.size, 0, none⟩ = some (.slice (some ⟨b3, 0, none⟩) cn cap3) := (hu5.cell (p := ⟨w3.heap.size, 0, none⟩) (World.block_lt_of_cell? _ _ e18) (by show w3.heap.size ≠ _; omega)).trans e18
    refine hK.out _ _ ⟨e14', e18'⟩ (fun _ => ?_)
    clear hK
    refine wpAnyH_done (by kernel_rfl) ?_ _
    have hbne : b ≠ c2 := by have := KB1.out.size; omega
    have hKp : w5.heap[b]? = W.heap[b]? := hu5'.block b (by have := HUW.out.size; have := KB1.out.size; omega) hbne
    show KeepsOthers W w5 ∧ w5.heap[b]? = W.heap[b]? ∧ (View w5 w.heap.size c c2 (L.lay bits planar pad) ((L.lay bits planar pad).octF (shpF (L.fn O) chg2 L.W (k + 1))) ∧ Upd c2 W0 w5)
    refine ⟨Upd.others hu5' (HVT.out.bt 0 (by have := (L.lay bits planar pad).len_bd hm; omega)).1, hKp, hv5.congr fun p p0 p1 => ?_, HUW.out.trans hu5'⟩
    refine Lay.octF_congr (L.lay bits planar pad) hm (fun a b' c' hd => ?_) p0 p1
    exact shpF_put' (L.fn O) chg2 L.W (by omega) x y k HKK.out hxw cn a b' c' hd.1.1 hd.1.2 hd.2.1.1 hd.2.2.1 (by have := HCN.out; have h := hd.2.2.2; have : c' < L.C := h; omega)
  case done =>
    rintro D W hD ⟨hvt, hU⟩ hdd
    have hvd : View W w.heap.size c c2 (L.lay bits planar pad) ((L.lay bits planar pad).octF fun a b c => chg2 (L.fn O a b c)) := by
      refine hvt.congr fun p p0 p1 => ?_
      refine Lay.octF_congr (L.lay bits planar pad) hm (fun a b' c' hd => ?_) p0 p1
      rw [pxl_length]
      exact shpF_full (L.fn O) chg2 L.W L.H a b' c' hd.1.1 hd.1.2 hd.2.1.1 hd.2.1.2
    have hCL := closed_any (L.lay bits planar pad) hm w.heap.size c c2 _ W hvd
    have c14 : W.cell? ⟨w2.heap.size, 0, none⟩ = some (.pointer (some ⟨c, 0, none⟩)) := (hU.cell (p := ⟨w2.heap.size, 0, none⟩) (by show w2.heap.size < _; omega) (by show w2.heap.size ≠ _; omega)).trans K14.out
    unfold Lay.img at hCL
    have HCL := Lib.hid hCL
    have HUW := Lib.hid hU
    have HDD := Lib.hid hdd
    have HVD := Lib.hid hvd
    clear hvt hU hdd hCL hvd
    show Exit.inBlock _ _ _ _ _
    go_wp2_with fail
    (with_reducible refine HCL.out.mono ?_)
    rintro e w6 ⟨rfl, hu6⟩
    have hDD := HDD.out
    have hD1 : D < W.heap.size := (Array.getElem?_eq_some_iff.1 hDD).1
    have hd6 : w6.heap[D]? = some (.deferred (some [])) := (hu6.block D hD1 (by omega)).trans hDD
    have huu : Upd c2 W0 W := HUW.out
    have hszW := huu.size
    have k8 : ∀ o, w6.cell? ⟨w.heap.size + 1, o, none⟩ = w1.cell? ⟨w.heap.size + 1, o, none⟩ := fun o =>
      (hu6.cell (p := ⟨w.heap.size + 1, o, none⟩) (by show w.heap.size + 1 < _; omega) (by show w.heap.size + 1 ≠ _; omega)).trans
        ((huu.cell (p := ⟨w.heap.size + 1, o, none⟩) (by show w.heap.size + 1 < _; omega) (by show w.heap.size + 1 ≠ _; omega)).trans
          (KB1.out.cell (p := ⟨w.heap.size + 1, o, none⟩) hx'))
    have f8 : ∀ o, w6.frozen? ⟨w.heap.size + 1, o, none⟩ = w1.frozen? ⟨w.heap.size + 1, o, none⟩ := fun o =>
      (hu6.frozen (p := ⟨w.heap.size + 1, o, none⟩) (by show w.heap.size + 1 < _; omega) (by show w.heap.size + 1 ≠ _; omega)).trans
        ((huu.frozen (p := ⟨w.heap.size + 1, o, none⟩) (by show w.heap.size + 1 < _; omega) (by show w.heap.size + 1 ≠ _; omega)).trans
          (KB1.out.frozen (p := ⟨w.heap.size + 1, o, none⟩) hx'))
    clear hDD
    have HD6 := Lib.hid hd6
    clear hd6
    go_wp2_with fail
    have hne8 : D ≠ w.heap.size + 1 := by omega
    refine ⟨by simp, .inl ⟨_, _, rfl, run_takeDeferred (ds := []) ?_, ?_⟩⟩
    · have hsc : ∀ (V : World) o u, (V.setCell ⟨w.heap.size + 1, o, none⟩ u).heap[D]? = V.heap[D]? := fun V o u => Below.heap_setCell V ⟨w.heap.size + 1, o, none⟩ u D hne8
      simp only [hsc]
      exact HD6.out
    have hput : ∀ (V : World) (ob : Obj) o, (V.putObj D ob).cell? ⟨w.heap.size + 1, o, none⟩ = V.cell? ⟨w.heap.size + 1, o, none⟩ := fun V ob o => World.cell?_of_block (a := ⟨w.heap.size + 1, o, none⟩) (World.putObj_heap_other hne8.symm)
    refine ⟨.tuple #[(L.lay bits planar pad).img (octS (L.lay bits planar pad).len.toNat ((L.lay bits planar pad).octF fun a b c => chg2 (L.fn O a b c))), .int .i64 0], ?_, rfl, ?_⟩
    · simp [results, Try.results25, go_sem, hput, k8, hc, hx, hx', Lay.img]
    · have g1 : Below w.heap.size w w1 := by
        ((repeat (first | (with_reducible exact Below.refl _ _) | (with_reducible refine Below.setCell ?_ ?_ _) | (with_reducible refine Below.alloc ?_ ?_ _) | (with_reducible refine Below.drew ?_) | (with_reducible refine Below.trans ?_ (Below.mono (by assumption) ?_)))); all_goals ((try simp only [World.size_alloc, World.size_drew, World.size_setCell]); omega))
      have g2 : Below w.heap.size w W0 := g1.trans (KB1.out.mono (by omega))
      have g3 : Below w.heap.size w W := g2.trans (HUW.out.below (by omega) (by omega))
      have g4 : Below w.heap.size w w6 := g3.trans (hu6.below (by omega) (by omega))
      refine Below.putObj ?_ (by omega) _
      ((repeat (first | (with_reducible exact Below.refl _ _) | (with_reducible refine Below.setCell ?_ ?_ _) | (with_reducible refine Below.alloc ?_ ?_ _) | (with_reducible refine Below.drew ?_) | (with_reducible refine Below.trans ?_ (Below.mono (by assumption) ?_)))); all_goals ((try simp only [World.size_alloc, World.size_drew, World.size_setCell]); omega))

end Go.Proofs.Ytphfbjeaklpddaa
