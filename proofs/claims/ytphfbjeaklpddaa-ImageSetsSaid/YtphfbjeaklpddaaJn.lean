/-
  Layer 42: Shape, its errors.
-/
import Derived.Test.YtphfbjeaklpddaaJm
namespace Go.Proofs.Ytphfbjeaklpddaa
open Go.RowKit Go.Shelf

set_option maxRecDepth 100000 in
set_option maxHeartbeats 1000000 in
theorem shape_bad (L : Lay) (O : ByteArray) (bits : Int) (planar : Bool) (pad : Int) (w : World) (hn : ¬ L.valid O) :
    Calls Try.prog 25 #[L.img O, .int .i64 bits, .bool planar, .int .i64 pad] w fun e w' => e = .returned (.tuple #[zimg, .int .i64 420]) ∧ Below w.heap.size w w' := by
  have HO := fun w => open_bad L O w hn
  unfold Lay.img at *
  have HO' := Lib.hid HO
  clear HO
  go_enter Try.func25, Try.ntmps25
  go_wp2_with fail
  (with_reducible refine (HO'.out _).mono ?_)
  rintro e w1 ⟨rfl, hb⟩
  obtain ⟨hc, hf, hz⟩ := after hb
  simp only [World.size_alloc] at hz
  have hx : w.heap.size < w1.heap.size := by omega
  have hx' : w.heap.size + 1 < w1.heap.size := by omega
  go_wp2_with fail
  refine bodyPost_ret (v := .tuple #[zimg, .int .i64 420]) ?_ rfl ?_
  · simp [results, Try.results25, go_sem, hc, hx, hx']
  refine ⟨rfl, ?_⟩
  ((repeat (first | (with_reducible exact Below.refl _ _) | (with_reducible refine Below.setCell ?_ ?_ _) | (with_reducible refine Below.alloc ?_ ?_ _) | (with_reducible refine Below.drew ?_) | (with_reducible refine Below.trans ?_ (Below.mono (by assumption) ?_)))); all_goals ((try simp only [World.size_alloc, World.size_drew, World.size_setCell]); omega))

set_option maxRecDepth 100000 in
set_option maxHeartbeats 1000000 in
theorem shape_same (L : Lay) (O : ByteArray) (w : World) (hn : L.valid O) :
    Calls Try.prog 25 #[L.img O, .int .i64 L.B, .bool L.pl, .int .i64 L.P] w fun e w' => e = .returned (.tuple #[L.img O, .int .i64 0]) ∧ Below w.heap.size w w' := by
  have HO := fun w => open_ok L O w hn
  unfold Lay.img at *
  have HO' := Lib.hid HO
  clear HO
  go_enter Try.func25, Try.ntmps25
  go_wp2_with fail
  (with_reducible refine (HO'.out _).mono ?_)
  rintro e w1 ⟨b, b2, rfl, hv, hb⟩
  obtain ⟨hc, hf, hz⟩ := after hb
  simp only [World.size_alloc] at hz
  have hx : w.heap.size < w1.heap.size := by omega
  have hx' : w.heap.size + 1 < w1.heap.size := by omega
  have hxx : w.heap.size < w1.heap.size + 1 := by omega
  have hxx' : w.heap.size + 1 < w1.heap.size + 1 := by omega
  have hxy : w.heap.size < w1.heap.size + 1 + 1 := by omega
  have hxy' : w.heap.size + 1 < w1.heap.size + 1 + 1 := by omega
  clear hv
  go_wp2_with fail
  refine bodyPost_ret (v := .tuple #[imgV L.W L.H L.C L.B L.pl L.P O, .int .i64 0]) ?_ rfl ?_
  · simp [results, Try.results25, go_sem, hc, hx, hx', hxx, hxx', hxy, hxy']
  refine ⟨rfl, ?_⟩
  ((repeat (first | (with_reducible exact Below.refl _ _) | (with_reducible refine Below.setCell ?_ ?_ _) | (with_reducible refine Below.alloc ?_ ?_ _) | (with_reducible refine Below.drew ?_) | (with_reducible refine Below.trans ?_ (Below.mono (by assumption) ?_)))); all_goals ((try simp only [World.size_alloc, World.size_drew, World.size_setCell]); omega))

set_option maxRecDepth 100000 in
set_option maxHeartbeats 1000000 in
theorem shape_arg1 (L : Lay) (O : ByteArray) (bits : Int) (planar : Bool) (pad : Int) (w : World) (hn : L.valid O) (h : shpB L.W L.H L.C bits pad = false) (h1 : (bits == L.B) = false) :
    Calls Try.prog 25 #[L.img O, .int .i64 bits, .bool planar, .int .i64 pad] w fun e w' => e = .returned (.tuple #[zimg, .int .i64 2]) ∧ Below w.heap.size w w' := by
  have HO := fun w => open_ok L O w hn
  have HB := fun w => blank_bad ⟨L.W, L.H, L.C, bits, planar, pad⟩ ⟨#[]⟩ w h
  unfold Lay.img at *
  have HO' := Lib.hid HO
  have HB' := Lib.hid HB
  clear HO HB
  go_enter Try.func25, Try.ntmps25
  go_wp2_with fail
  (with_reducible refine (HO'.out _).mono ?_)
  rintro e w1 ⟨b, b2, rfl, hv, hb⟩
  obtain ⟨hc, hf, hz⟩ := after hb
  simp only [World.size_alloc] at hz
  have hx : w.heap.size < w1.heap.size := by omega
  have hx' : w.heap.size + 1 < w1.heap.size := by omega
  have hxx : w.heap.size < w1.heap.size + 1 := by omega
  have hxx' : w.heap.size + 1 < w1.heap.size + 1 := by omega
  have hxy : w.heap.size < w1.heap.size + 1 + 1 := by omega
  have hxy' : w.heap.size + 1 < w1.heap.size + 1 + 1 := by omega
  clear hv
  go_wp2_with fail
  (with_reducible refine (HB'.out _).mono ?_)
  rintro e w2 ⟨rfl, hb2⟩
  obtain ⟨hc2, hf2, hz2⟩ := after hb2
  simp only [World.size_alloc] at hz2
  have hx2 : w.heap.size < w2.heap.size := by omega
  have hx2' : w.heap.size + 1 < w2.heap.size := by omega
  have hx3' : w.heap.size + 1 < w2.heap.size + 1 := by omega
  go_wp2_with fail
  refine bodyPost_ret (v := .tuple #[zimg, .int .i64 2]) ?_ rfl ?_
  · simp [results, Try.results25, go_sem, hc2, hc, hx, hx', hx2, hx2', hxx, hxx', hxy, hxy', hx3']
  refine ⟨rfl, ?_⟩
  ((repeat (first | (with_reducible exact Below.refl _ _) | (with_reducible refine Below.setCell ?_ ?_ _) | (with_reducible refine Below.alloc ?_ ?_ _) | (with_reducible refine Below.drew ?_) | (with_reducible refine Below.trans ?_ (Below.mono (by assumption) ?_)))); all_goals ((try simp only [World.size_alloc, World.size_drew, World.size_setCell]); omega))

set_option maxRecDepth 100000 in
set_option maxHeartbeats 1000000 in
theorem shape_arg2 (L : Lay) (O : ByteArray) (bits : Int) (planar : Bool) (pad : Int) (w : World) (hn : L.valid O) (h : shpB L.W L.H L.C bits pad = false) (h1 : (bits == L.B) = true) (h2 : (planar == L.pl) = false) :
    Calls Try.prog 25 #[L.img O, .int .i64 bits, .bool planar, .int .i64 pad] w fun e w' => e = .returned (.tuple #[zimg, .int .i64 2]) ∧ Below w.heap.size w w' := by
  have HO := fun w => open_ok L O w hn
  have HB := fun w => blank_bad ⟨L.W, L.H, L.C, bits, planar, pad⟩ ⟨#[]⟩ w h
  unfold Lay.img at *
  have HO' := Lib.hid HO
  have HB' := Lib.hid HB
  clear HO HB
  go_enter Try.func25, Try.ntmps25
  go_wp2_with fail
  (with_reducible refine (HO'.out _).mono ?_)
  rintro e w1 ⟨b, b2, rfl, hv, hb⟩
  obtain ⟨hc, hf, hz⟩ := after hb
  simp only [World.size_alloc] at hz
  have hx : w.heap.size < w1.heap.size := by omega
  have hx' : w.heap.size + 1 < w1.heap.size := by omega
  have hxx : w.heap.size < w1.heap.size + 1 := by omega
  have hxx' : w.heap.size + 1 < w1.heap.size + 1 := by omega
  have hxy : w.heap.size < w1.heap.size + 1 + 1 := by omega
  have hxy' : w.heap.size + 1 < w1.heap.size + 1 + 1 := by omega
  clear hv
  go_wp2_with fail
  (with_reducible refine (HB'.out _).mono ?_)
  rintro e w2 ⟨rfl, hb2⟩
  obtain ⟨hc2, hf2, hz2⟩ := after hb2
  simp only [World.size_alloc] at hz2
  have hx2 : w.heap.size < w2.heap.size := by omega
  have hx2' : w.heap.size + 1 < w2.heap.size := by omega
  have hx3' : w.heap.size + 1 < w2.heap.size + 1 := by omega
  go_wp2_with fail
  refine bodyPost_ret (v := .tuple #[zimg, .int .i64 2]) ?_ rfl ?_
  · simp [results, Try.results25, go_sem, hc2, hc, hx, hx', hx2, hx2', hxx, hxx', hxy, hxy', hx3']
  refine ⟨rfl, ?_⟩
  ((repeat (first | (with_reducible exact Below.refl _ _) | (with_reducible refine Below.setCell ?_ ?_ _) | (with_reducible refine Below.alloc ?_ ?_ _) | (with_reducible refine Below.drew ?_) | (with_reducible refine Below.trans ?_ (Below.mono (by assumption) ?_)))); all_goals ((try simp only [World.size_alloc, World.size_drew, World.size_setCell]); omega))

set_option maxRecDepth 100000 in
set_option maxHeartbeats 1000000 in
theorem shape_arg3 (L : Lay) (O : ByteArray) (bits : Int) (planar : Bool) (pad : Int) (w : World) (hn : L.valid O) (h : shpB L.W L.H L.C bits pad = false) (h1 : (bits == L.B) = true) (h2 : (planar == L.pl) = true) (h3 : (pad == L.P) = false) :
    Calls Try.prog 25 #[L.img O, .int .i64 bits, .bool planar, .int .i64 pad] w fun e w' => e = .returned (.tuple #[zimg, .int .i64 2]) ∧ Below w.heap.size w w' := by
  have HO := fun w => open_ok L O w hn
  have HB := fun w => blank_bad ⟨L.W, L.H, L.C, bits, planar, pad⟩ ⟨#[]⟩ w h
  unfold Lay.img at *
  have HO' := Lib.hid HO
  have HB' := Lib.hid HB
  clear HO HB
  go_enter Try.func25, Try.ntmps25
  go_wp2_with fail
  (with_reducible refine (HO'.out _).mono ?_)
  rintro e w1 ⟨b, b2, rfl, hv, hb⟩
  obtain ⟨hc, hf, hz⟩ := after hb
  simp only [World.size_alloc] at hz
  have hx : w.heap.size < w1.heap.size := by omega
  have hx' : w.heap.size + 1 < w1.heap.size := by omega
  have hxx : w.heap.size < w1.heap.size + 1 := by omega
  have hxx' : w.heap.size + 1 < w1.heap.size + 1 := by omega
  have hxy : w.heap.size < w1.heap.size + 1 + 1 := by omega
  have hxy' : w.heap.size + 1 < w1.heap.size + 1 + 1 := by omega
  clear hv
  go_wp2_with fail
  (with_reducible refine (HB'.out _).mono ?_)
  rintro e w2 ⟨rfl, hb2⟩
  obtain ⟨hc2, hf2, hz2⟩ := after hb2
  simp only [World.size_alloc] at hz2
  have hx2 : w.heap.size < w2.heap.size := by omega
  have hx2' : w.heap.size + 1 < w2.heap.size := by omega
  have hx3' : w.heap.size + 1 < w2.heap.size + 1 := by omega
  go_wp2_with fail
  refine bodyPost_ret (v := .tuple #[zimg, .int .i64 2]) ?_ rfl ?_
  · simp [results, Try.results25, go_sem, hc2, hc, hx, hx', hx2, hx2', hxx, hxx', hxy, hxy', hx3']
  refine ⟨rfl, ?_⟩
  ((repeat (first | (with_reducible exact Below.refl _ _) | (with_reducible refine Below.setCell ?_ ?_ _) | (with_reducible refine Below.alloc ?_ ?_ _) | (with_reducible refine Below.drew ?_) | (with_reducible refine Below.trans ?_ (Below.mono (by assumption) ?_)))); all_goals ((try simp only [World.size_alloc, World.size_drew, World.size_setCell]); omega))

end Go.Proofs.Ytphfbjeaklpddaa
