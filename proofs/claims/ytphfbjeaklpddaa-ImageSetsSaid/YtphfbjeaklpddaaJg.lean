/-
  Layer 42: Set.
-/
import Derived.Test.YtphfbjeaklpddaaJf
namespace Go.Proofs.Ytphfbjeaklpddaa
open Go.RowKit

def rngB (L : Lay) (xs : List Int) : Bool := xs.all fun v => inB v 0 (if L.B = 8 then 255 else 65535)

set_option maxHeartbeats 1000000 in
theorem set_bad (L : Lay) (O : ByteArray) (x y : Int) (xs : List Int) (a : Option Addr) (cap : Nat) (w : World) (hn : ¬ L.valid O) :
    Calls Try.prog 22 #[L.img O, .int .i64 x, .int .i64 y, .slice a xs.length cap] w fun e w' => e = .returned (.tuple #[zimg, .int .i64 420]) ∧ Below w.heap.size w w' := by
  have HO := fun w => at_bad L O x y w hn
  unfold Lay.img at *
  have HO := Lib.hid HO
  go_enter Try.func22, Try.ntmps22
  go_wp2_with fail
  (with_reducible refine (HO.out _).mono ?_)
  rintro e w1 ⟨rfl, hb⟩
  obtain ⟨hc, hf, hz⟩ := after hb
  simp only [World.size_alloc] at hz
  have hx : w.heap.size < w1.heap.size := by omega
  have hx' : w.heap.size + 1 < w1.heap.size := by omega
  go_wp2_with fail
  refine bodyPost_ret (v := .tuple #[zimg, .int .i64 420]) ?_ rfl ?_
  · simp [results, Try.results22, go_sem, hc, hx, hx']
  refine ⟨rfl, ?_⟩
  ((repeat (first | (with_reducible exact Below.refl _ _) | (with_reducible refine Below.setCell ?_ ?_ _) | (with_reducible refine Below.alloc ?_ ?_ _) | (with_reducible refine Below.drew ?_) | (with_reducible refine Below.trans ?_ (Below.mono (by assumption) ?_)))); all_goals ((try simp only [World.size_alloc, World.size_drew, World.size_setCell]); omega))

set_option maxHeartbeats 1000000 in
theorem set_none (L : Lay) (O : ByteArray) (x y : Int) (xs : List Int) (a : Option Addr) (cap : Nat) (w : World) (hn : L.valid O) (ht : thereB L x y = false) :
    Calls Try.prog 22 #[L.img O, .int .i64 x, .int .i64 y, .slice a xs.length cap] w fun e w' => e = .returned (.tuple #[zimg, .int .i64 2]) ∧ Below w.heap.size w w' := by
  have HO := fun w => at_none L O x y w hn ht
  unfold Lay.img at *
  have HO := Lib.hid HO
  go_enter Try.func22, Try.ntmps22
  go_wp2_with fail
  (with_reducible refine (HO.out _).mono ?_)
  rintro e w1 ⟨rfl, hb⟩
  obtain ⟨hc, hf, hz⟩ := after hb
  simp only [World.size_alloc] at hz
  have hx : w.heap.size < w1.heap.size := by omega
  have hx' : w.heap.size + 1 < w1.heap.size := by omega
  go_wp2_with fail
  refine bodyPost_ret (v := .tuple #[zimg, .int .i64 2]) ?_ rfl ?_
  · simp [results, Try.results22, go_sem, hc, hx, hx']
  refine ⟨rfl, ?_⟩
  ((repeat (first | (with_reducible exact Below.refl _ _) | (with_reducible refine Below.setCell ?_ ?_ _) | (with_reducible refine Below.alloc ?_ ?_ _) | (with_reducible refine Below.drew ?_) | (with_reducible refine Below.trans ?_ (Below.mono (by assumption) ?_)))); all_goals ((try simp only [World.size_alloc, World.size_drew, World.size_setCell]); omega))

set_option maxHeartbeats 1000000 in
theorem set_len (L : Lay) (O : ByteArray) (x y : Int) (xs : List Int) (a : Option Addr) (cap : Nat) (w : World) (hl : xs.length ≤ maxLen) (hn : L.valid O) (ht : thereB L x y = true) (hlen : ((xs.length : Int) != L.C) = true) :
    Calls Try.prog 22 #[L.img O, .int .i64 x, .int .i64 y, .slice a xs.length cap] w fun e w' => e = .returned (.tuple #[zimg, .int .i64 2]) ∧ Below w.heap.size w w' := by
  have HO := fun w => at_ok L O x y w hn ht
  unfold maxLen at hl
  unfold Lay.img at *
  have HO := Lib.hid HO
  go_enter Try.func22, Try.ntmps22
  go_wp2_with fail
  (with_reducible refine (HO.out _).mono ?_)
  rintro e w1 ⟨b, b2, rfl, hv, hb⟩
  obtain ⟨hc, hf, hz⟩ := after hb
  simp only [World.size_alloc] at hz
  have hx : w.heap.size < w1.heap.size := by omega
  have hx' : w.heap.size + 1 < w1.heap.size := by omega
  have hlv := hv.lt
  obtain ⟨v0, v1, v2, v3, v4, v5⟩ := hv.hd
  clear hv
  go_wp2_with fail
  refine bodyPost_ret (v := .tuple #[zimg, .int .i64 2]) ?_ rfl ?_
  · simp [results, Try.results22, go_sem, hc, hx, hx']
  refine ⟨rfl, ?_⟩
  ((repeat (first | (with_reducible exact Below.refl _ _) | (with_reducible refine Below.setCell ?_ ?_ _) | (with_reducible refine Below.alloc ?_ ?_ _) | (with_reducible refine Below.drew ?_) | (with_reducible refine Below.trans ?_ (Below.mono (by assumption) ?_)))); all_goals ((try simp only [World.size_alloc, World.size_drew, World.size_setCell]); omega))

set_option maxHeartbeats 1000000 in
theorem set_range8 (L : Lay) (hB : L.B = 8) (O : ByteArray) (x y : Int) (xs : List Int) (a : Option Addr) (cap : Nat) (w : World) (hxs : Ints w a xs) (hl : xs.length ≤ maxLen) (hn : L.valid O) (ht : thereB L x y = true) (hlen : ((xs.length : Int) != L.C) = false) (hr : rngB L xs = false) :
    Calls Try.prog 22 #[L.img O, .int .i64 x, .int .i64 y, .slice a xs.length cap] w fun e w' => e = .returned (.tuple #[zimg, .int .i64 2]) ∧ Below w.heap.size w w' := by
  have HO := fun w => at_ok L O x y w hn ht
  have hl' : xs.length ≤ 9223372036854775807 := hl
  have hr' : (xs.all fun v => inB v 0 255) = false := by
    unfold rngB at hr
    rw [if_pos hB] at hr
    exact hr
  have hbw : ∀ o1 o2, Below w.heap.size w ((w.alloc o1).alloc o2) := fun o1 o2 => ((Below.refl _ _).alloc (Nat.le_refl _) _).alloc (by simp) _
  unfold Lay.img at *
  have HO := Lib.hid HO
  have HBW := Lib.hid hbw
  have HBB := Lib.hid hB
  clear hbw hr hB
  go_enter Try.func22, Try.ntmps22
  go_wp2_with fail
  (with_reducible refine (HO.out _).mono ?_)
  rintro e w1 ⟨b, b2, rfl, hv, hb⟩
  obtain ⟨hc, hf, hz⟩ := after hb
  simp only [World.size_alloc] at hz
  have hx : w.heap.size < w1.heap.size := by omega
  have hx' : w.heap.size + 1 < w1.heap.size := by omega
  have hlv := hv.lt
  obtain ⟨v0, v1, v2, v3, v4, v5⟩ := hv.hd
  rw [HBB.out] at v3
  have hx1 := (hxs.below (HBW.out _ _)).below hb
  have HX1 := Lib.hid hx1
  clear hv hx1 hxs
  go_wp2_with fail
  (with_reducible refine (between_any 0 255 xs a cap _ HX1.out hl).mono ?_)
  rintro e w2 ⟨rfl, hb2⟩; obtain ⟨hc2, hf2, hz2⟩ := after hb2; have hx2 : w.heap.size < w2.heap.size := (by omega); have hx2' : w.heap.size + 1 < w2.heap.size := (by omega)
  go_wp2_with fail
  refine bodyPost_ret (v := .tuple #[zimg, .int .i64 2]) ?_ rfl ?_
  · simp [results, Try.results22, go_sem, hc2, hc, hx, hx', hx2, hx2']
  refine ⟨rfl, ?_⟩
  ((repeat (first | (with_reducible exact Below.refl _ _) | (with_reducible refine Below.setCell ?_ ?_ _) | (with_reducible refine Below.alloc ?_ ?_ _) | (with_reducible refine Below.drew ?_) | (with_reducible refine Below.trans ?_ (Below.mono (by assumption) ?_)))); all_goals ((try simp only [World.size_alloc, World.size_drew, World.size_setCell]); omega))

set_option maxHeartbeats 1000000 in
theorem set_ok8 (L : Lay) (hB : L.B = 8) (O : ByteArray) (x y : Int) (xs : List Int) (a : Option Addr) (cap : Nat) (w : World) (hxs : Ints w a xs) (hl : xs.length ≤ maxLen) (hn : L.valid O) (ht : thereB L x y = true) (hlen : ((xs.length : Int) != L.C) = false) (hr : rngB L xs = true) :
    Calls Try.prog 22 #[L.img O, .int .i64 x, .int .i64 y, .slice a xs.length cap] w fun e w' => e = .returned (.tuple #[L.img (octS L.len.toNat (L.octF (putF (L.fn O) x y xs xs.length))), .int .i64 0]) ∧ Below w.heap.size w w' := by
  have HO := fun w => at_ok L O x y w hn ht
  have hl' : xs.length ≤ 9223372036854775807 := hl
  obtain ⟨⟨x0, xW⟩, ⟨y0, yH⟩⟩ := (thereB_iff L x y).1 ht
  have hlen' : (xs.length : Int) = L.C := by simpa using hlen
  have hc1 := hn.1.c1
  obtain ⟨ab, ao, ha, hcell⟩ := hxs (by rintro rfl; simp at hlen'; omega)
  have hab : ab < w.heap.size := World.block_lt_of_cell? _ _ (hcell 0 (by omega))
  have HL := Lib.hid hlen'
  have hr' : (xs.all fun v => inB v 0 255) = true := by
    unfold rngB at hr
    rw [if_pos hB] at hr
    exact hr
  have hbw : ∀ o1 o2, Below w.heap.size w ((w.alloc o1).alloc o2) := fun o1 o2 => ((Below.refl _ _).alloc (Nat.le_refl _) _).alloc (by simp) _
  unfold Lay.img at *
  have HO := Lib.hid HO
  have HBW := Lib.hid hbw
  have HA := Lib.hid ha
  have HBB := Lib.hid hB
  clear hbw hr hlen' hcell ha hB
  go_enter Try.func22, Try.ntmps22
  go_wp2_with fail
  (with_reducible refine (HO.out _).mono ?_)
  rintro e w1 ⟨b, b2, rfl, hv, hb⟩
  obtain ⟨hc, hf, hz⟩ := after hb
  simp only [World.size_alloc] at hz
  have hx : w.heap.size < w1.heap.size := by omega
  have hx' : w.heap.size + 1 < w1.heap.size := by omega
  have hlv := hv.lt
  have hvf := Opened.view hn hv
  have hb1 := hv.b1
  have hb22 := hv.b2
  simp only [World.size_alloc] at hb1 hb22
  have hnb : w.heap.size + 1 ≠ b := by omega
  have hnb' : w.heap.size ≠ b := by omega
  have hnb2 : w.heap.size + 1 ≠ b2 := by omega
  have hnb2' : w.heap.size ≠ b2 := by omega
  obtain ⟨v0, v1, v2, v3, v4, v5⟩ := hv.hd
  rw [HBB.out] at v3
  have hx1 := (hxs.below (HBW.out _ _)).below hb
  have HX1 := Lib.hid hx1
  have HVF := Lib.hid hvf
  clear hv hx1 hxs hvf
  go_wp2_with fail
  (with_reducible refine (between_any 0 255 xs a cap _ HX1.out hl).mono ?_)
  rintro e w2 ⟨rfl, hb2⟩; obtain ⟨hc2, hf2, hz2⟩ := after hb2; have hx2 : w.heap.size < w2.heap.size := (by omega); have hx2' : w.heap.size + 1 < w2.heap.size := (by omega)
  go_wp2_with fail
  have HP := Lib.hid (put_any L hn.1 _ b b2 (L.fn O) x y xs a cap w2 (HVF.out.below hn.1 hb2) x0 xW y0 yH (HX1.out.below hb2) (by rw [HL.out]; exact Int.le_refl _) (fun c off e => by rw [HA.out] at e; cases e; omega))
  (with_reducible refine HP.out.mono ?_)
  rintro e w3 ⟨rfl, hv3, hu3⟩
  obtain ⟨hc3, hf3, hz3⟩ := afterU hu3
  have hx3 : w.heap.size < w3.heap.size := by omega
  have hx3' : w.heap.size + 1 < w3.heap.size := by omega
  have hcl := closed_any L hn.1 _ b b2 _ w3 hv3
  unfold Lay.img at hcl
  have HC := Lib.hid hcl
  clear hcl hv3
  go_wp2_with fail
  (with_reducible refine HC.out.mono ?_)
  rintro e w4 ⟨rfl, hu4⟩
  obtain ⟨hc4, hf4, hz4⟩ := afterU hu4
  have hx4 : w.heap.size < w4.heap.size := by omega
  have hx4' : w.heap.size + 1 < w4.heap.size := by omega
  have hb3 := hu3.below (B := w.heap.size) (by omega) (by omega)
  have hb4 := hu4.below (B := w.heap.size) (by omega) (by omega)
  go_wp2_with fail
  refine bodyPost_ret (v := .tuple #[L.img (octS L.len.toNat (L.octF (putF (L.fn O) x y xs xs.length))), .int .i64 0]) ?_ rfl ?_
  · simp [results, Try.results22, go_sem, Lay.img, hc4, hc3, hc2, hc, hx, hx', hx2, hx2', hx3, hx3', hx4, hx4', hnb, hnb', hnb2, hnb2']
  refine ⟨rfl, ?_⟩
  ((repeat (first | (with_reducible exact Below.refl _ _) | (with_reducible refine Below.setCell ?_ ?_ _) | (with_reducible refine Below.alloc ?_ ?_ _) | (with_reducible refine Below.drew ?_) | (with_reducible refine Below.trans ?_ (Below.mono (by assumption) ?_)))); all_goals ((try simp only [World.size_alloc, World.size_drew, World.size_setCell]); omega))

set_option maxHeartbeats 1000000 in
theorem set_range16 (L : Lay) (hB : L.B = 16) (O : ByteArray) (x y : Int) (xs : List Int) (a : Option Addr) (cap : Nat) (w : World) (hxs : Ints w a xs) (hl : xs.length ≤ maxLen) (hn : L.valid O) (ht : thereB L x y = true) (hlen : ((xs.length : Int) != L.C) = false) (hr : rngB L xs = false) :
    Calls Try.prog 22 #[L.img O, .int .i64 x, .int .i64 y, .slice a xs.length cap] w fun e w' => e = .returned (.tuple #[zimg, .int .i64 2]) ∧ Below w.heap.size w w' := by
  have HO := fun w => at_ok L O x y w hn ht
  have hl' : xs.length ≤ 9223372036854775807 := hl
  have hr' : (xs.all fun v => inB v 0 65535) = false := by
    unfold rngB at hr
    rw [if_neg (by omega)] at hr
    exact hr
  have hbw : ∀ o1 o2, Below w.heap.size w ((w.alloc o1).alloc o2) := fun o1 o2 => ((Below.refl _ _).alloc (Nat.le_refl _) _).alloc (by simp) _
  unfold Lay.img at *
  have HO := Lib.hid HO
  have HBW := Lib.hid hbw
  have HBB := Lib.hid hB
  clear hbw hr hB
  go_enter Try.func22, Try.ntmps22
  go_wp2_with fail
  (with_reducible refine (HO.out _).mono ?_)
  rintro e w1 ⟨b, b2, rfl, hv, hb⟩
  obtain ⟨hc, hf, hz⟩ := after hb
  simp only [World.size_alloc] at hz
  have hx : w.heap.size < w1.heap.size := by omega
  have hx' : w.heap.size + 1 < w1.heap.size := by omega
  have hlv := hv.lt
  obtain ⟨v0, v1, v2, v3, v4, v5⟩ := hv.hd
  rw [HBB.out] at v3
  have hx1 := (hxs.below (HBW.out _ _)).below hb
  have HX1 := Lib.hid hx1
  clear hv hx1 hxs
  go_wp2_with fail
  (with_reducible refine (between_any 0 65535 xs a cap _ HX1.out hl).mono ?_)
  rintro e w2 ⟨rfl, hb2⟩; obtain ⟨hc2, hf2, hz2⟩ := after hb2; have hx2 : w.heap.size < w2.heap.size := (by omega); have hx2' : w.heap.size + 1 < w2.heap.size := (by omega)
  go_wp2_with fail
  refine bodyPost_ret (v := .tuple #[zimg, .int .i64 2]) ?_ rfl ?_
  · simp [results, Try.results22, go_sem, hc2, hc, hx, hx', hx2, hx2']
  refine ⟨rfl, ?_⟩
  ((repeat (first | (with_reducible exact Below.refl _ _) | (with_reducible refine Below.setCell ?_ ?_ _) | (with_reducible refine Below.alloc ?_ ?_ _) | (with_reducible refine Below.drew ?_) | (with_reducible refine Below.trans ?_ (Below.mono (by assumption) ?_)))); all_goals ((try simp only [World.size_alloc, World.size_drew, World.size_setCell]); omega))

set_option maxHeartbeats 1000000 in
theorem set_ok16 (L : Lay) (hB : L.B = 16) (O : ByteArray) (x y : Int) (xs : List Int) (a : Option Addr) (cap : Nat) (w : World) (hxs : Ints w a xs) (hl : xs.length ≤ maxLen) (hn : L.valid O) (ht : thereB L x y = true) (hlen : ((xs.length : Int) != L.C) = false) (hr : rngB L xs = true) :
    Calls Try.prog 22 #[L.img O, .int .i64 x, .int .i64 y, .slice a xs.length cap] w fun e w' => e = .returned (.tuple #[L.img (octS L.len.toNat (L.octF (putF (L.fn O) x y xs xs.length))), .int .i64 0]) ∧ Below w.heap.size w w' := by
  have HO := fun w => at_ok L O x y w hn ht
  have hl' : xs.length ≤ 9223372036854775807 := hl
  obtain ⟨⟨x0, xW⟩, ⟨y0, yH⟩⟩ := (thereB_iff L x y).1 ht
  have hlen' : (xs.length : Int) = L.C := by simpa using hlen
  have hc1 := hn.1.c1
  obtain ⟨ab, ao, ha, hcell⟩ := hxs (by rintro rfl; simp at hlen'; omega)
  have hab : ab < w.heap.size := World.block_lt_of_cell? _ _ (hcell 0 (by omega))
  have HL := Lib.hid hlen'
  have hr' : (xs.all fun v => inB v 0 65535) = true := by
    unfold rngB at hr
    rw [if_neg (by omega)] at hr
    exact hr
  have hbw : ∀ o1 o2, Below w.heap.size w ((w.alloc o1).alloc o2) := fun o1 o2 => ((Below.refl _ _).alloc (Nat.le_refl _) _).alloc (by simp) _
  unfold Lay.img at *
  have HO := Lib.hid HO
  have HBW := Lib.hid hbw
  have HA := Lib.hid ha
  have HBB := Lib.hid hB
  clear hbw hr hlen' hcell ha hB
  go_enter Try.func22, Try.ntmps22
  go_wp2_with fail
  (with_reducible refine (HO.out _).mono ?_)
  rintro e w1 ⟨b, b2, rfl, hv, hb⟩
  obtain ⟨hc, hf, hz⟩ := after hb
  simp only [World.size_alloc] at hz
  have hx : w.heap.size < w1.heap.size := by omega
  have hx' : w.heap.size + 1 < w1.heap.size := by omega
  have hlv := hv.lt
  have hvf := Opened.view hn hv
  have hb1 := hv.b1
  have hb22 := hv.b2
  simp only [World.size_alloc] at hb1 hb22
  have hnb : w.heap.size + 1 ≠ b := by omega
  have hnb' : w.heap.size ≠ b := by omega
  have hnb2 : w.heap.size + 1 ≠ b2 := by omega
  have hnb2' : w.heap.size ≠ b2 := by omega
  obtain ⟨v0, v1, v2, v3, v4, v5⟩ := hv.hd
  rw [HBB.out] at v3
  have hx1 := (hxs.below (HBW.out _ _)).below hb
  have HX1 := Lib.hid hx1
  have HVF := Lib.hid hvf
  clear hv hx1 hxs hvf
  go_wp2_with fail
  (with_reducible refine (between_any 0 65535 xs a cap _ HX1.out hl).mono ?_)
  rintro e w2 ⟨rfl, hb2⟩; obtain ⟨hc2, hf2, hz2⟩ := after hb2; have hx2 : w.heap.size < w2.heap.size := (by omega); have hx2' : w.heap.size + 1 < w2.heap.size := (by omega)
  go_wp2_with fail
  have HP := Lib.hid (put_any L hn.1 _ b b2 (L.fn O) x y xs a cap w2 (HVF.out.below hn.1 hb2) x0 xW y0 yH (HX1.out.below hb2) (by rw [HL.out]; exact Int.le_refl _) (fun c off e => by rw [HA.out] at e; cases e; omega))
  (with_reducible refine HP.out.mono ?_)
  rintro e w3 ⟨rfl, hv3, hu3⟩
  obtain ⟨hc3, hf3, hz3⟩ := afterU hu3
  have hx3 : w.heap.size < w3.heap.size := by omega
  have hx3' : w.heap.size + 1 < w3.heap.size := by omega
  have hcl := closed_any L hn.1 _ b b2 _ w3 hv3
  unfold Lay.img at hcl
  have HC := Lib.hid hcl
  clear hcl hv3
  go_wp2_with fail
  (with_reducible refine HC.out.mono ?_)
  rintro e w4 ⟨rfl, hu4⟩
  obtain ⟨hc4, hf4, hz4⟩ := afterU hu4
  have hx4 : w.heap.size < w4.heap.size := by omega
  have hx4' : w.heap.size + 1 < w4.heap.size := by omega
  have hb3 := hu3.below (B := w.heap.size) (by omega) (by omega)
  have hb4 := hu4.below (B := w.heap.size) (by omega) (by omega)
  go_wp2_with fail
  refine bodyPost_ret (v := .tuple #[L.img (octS L.len.toNat (L.octF (putF (L.fn O) x y xs xs.length))), .int .i64 0]) ?_ rfl ?_
  · simp [results, Try.results22, go_sem, Lay.img, hc4, hc3, hc2, hc, hx, hx', hx2, hx2', hx3, hx3', hx4, hx4', hnb, hnb', hnb2, hnb2']
  refine ⟨rfl, ?_⟩
  ((repeat (first | (with_reducible exact Below.refl _ _) | (with_reducible refine Below.setCell ?_ ?_ _) | (with_reducible refine Below.alloc ?_ ?_ _) | (with_reducible refine Below.drew ?_) | (with_reducible refine Below.trans ?_ (Below.mono (by assumption) ?_)))); all_goals ((try simp only [World.size_alloc, World.size_drew, World.size_setCell]); omega))

end Go.Proofs.Ytphfbjeaklpddaa
