/-
  Layer 42: Cut.
-/
import Derived.Test.YtphfbjeaklpddaaJh
namespace Go.Proofs.Ytphfbjeaklpddaa
open Go.RowKit

def cutB (L : Lay) (x y wide high : Int) : Bool := inB wide 1 L.W && (inB high 1 L.H && insB L x y wide high)

set_option maxHeartbeats 1000000 in
theorem cut_bad (L : Lay) (O : ByteArray) (x y wide high : Int) (w : World) (hn : ¬ L.valid O) :
    Calls Try.prog 28 #[L.img O, .int .i64 x, .int .i64 y, .int .i64 wide, .int .i64 high] w fun e w' => e = .returned (.tuple #[zimg, .int .i64 420]) ∧ Below w.heap.size w w' := by
  have HO := fun w => open_bad L O w hn
  unfold Lay.img at *
  have HO := Lib.hid HO
  go_enter Try.func28, Try.ntmps28
  go_wp2_with fail
  (with_reducible refine (HO.out _).mono ?_)
  rintro e w1 ⟨rfl, hb⟩
  obtain ⟨hc, hf, hz⟩ := after hb
  simp only [World.size_alloc] at hz
  have hx : w.heap.size < w1.heap.size := by omega
  have hx' : w.heap.size + 1 < w1.heap.size := by omega
  go_wp2_with fail
  refine bodyPost_ret (v := .tuple #[zimg, .int .i64 420]) ?_ rfl ?_
  · simp [results, Try.results28, go_sem, hc, hx, hx']
  refine ⟨rfl, ?_⟩
  ((repeat (first | (with_reducible exact Below.refl _ _) | (with_reducible refine Below.setCell ?_ ?_ _) | (with_reducible refine Below.alloc ?_ ?_ _) | (with_reducible refine Below.drew ?_) | (with_reducible refine Below.trans ?_ (Below.mono (by assumption) ?_)))); all_goals ((try simp only [World.size_alloc, World.size_drew, World.size_setCell]); omega))

set_option maxRecDepth 100000 in
set_option maxHeartbeats 1000000 in
theorem cut_arg1 (L : Lay) (O : ByteArray) (x y wide high : Int) (w : World) (hn : L.valid O) (h1 : inB wide 1 L.W = false) :
    Calls Try.prog 28 #[L.img O, .int .i64 x, .int .i64 y, .int .i64 wide, .int .i64 high] w fun e w' => e = .returned (.tuple #[zimg, .int .i64 2]) ∧ Below w.heap.size w w' := by
  have HO := fun w => open_ok L O w hn
  have hok := hn.1
  have q1 := hok.w1
  have q2 := hok.w2
  have q3 := hok.h1
  have q4 := hok.h2
  unfold Lay.img at *
  have HO' := Lib.hid HO
  clear HO
  go_enter Try.func28, Try.ntmps28
  go_wp2_with fail
  (with_reducible refine (HO'.out _).mono ?_)
  rintro e w1 ⟨b, b2, rfl, hv, hb⟩
  obtain ⟨hc, hf, hz⟩ := after hb
  simp only [World.size_alloc] at hz
  have hx : w.heap.size < w1.heap.size := by omega
  have hx' : w.heap.size + 1 < w1.heap.size := by omega
  have hlv := hv.lt
  obtain ⟨v0, v1, v2, v3, v4, v5⟩ := hv.hd
  clear hv
  go_wp2_with (go_at_call 50; (with_reducible refine (between1 1 L.W wide _ _ _ ?_).mono ?_); go_simp; rintro e w2 ⟨rfl, hb2⟩; obtain ⟨hc2, hf2, hz2⟩ := after hb2; (try simp only [World.size_alloc, World.size_setCell] at hz2); have hx2 : w.heap.size < w2.heap.size := (by omega); have hx2' : w.heap.size + 1 < w2.heap.size := (by omega); have hy2 : b < w2.heap.size := (by omega))
  refine bodyPost_ret (v := .tuple #[zimg, .int .i64 2]) ?_ rfl ?_
  · simp [results, Try.results28, go_sem, hc2, hc, hx, hx', hx2, hx2']
  refine ⟨rfl, ?_⟩
  ((repeat (first | (with_reducible exact Below.refl _ _) | (with_reducible refine Below.setCell ?_ ?_ _) | (with_reducible refine Below.alloc ?_ ?_ _) | (with_reducible refine Below.drew ?_) | (with_reducible refine Below.trans ?_ (Below.mono (by assumption) ?_)))); all_goals ((try simp only [World.size_alloc, World.size_drew, World.size_setCell]); omega))

set_option maxRecDepth 100000 in
set_option maxHeartbeats 1000000 in
theorem cut_arg2 (L : Lay) (O : ByteArray) (x y wide high : Int) (w : World) (hn : L.valid O) (h1 : inB wide 1 L.W = true) (h2 : inB high 1 L.H = false) :
    Calls Try.prog 28 #[L.img O, .int .i64 x, .int .i64 y, .int .i64 wide, .int .i64 high] w fun e w' => e = .returned (.tuple #[zimg, .int .i64 2]) ∧ Below w.heap.size w w' := by
  have HO := fun w => open_ok L O w hn
  have hok := hn.1
  have q1 := hok.w1
  have q2 := hok.w2
  have q3 := hok.h1
  have q4 := hok.h2
  unfold Lay.img at *
  have HO' := Lib.hid HO
  clear HO
  go_enter Try.func28, Try.ntmps28
  go_wp2_with fail
  (with_reducible refine (HO'.out _).mono ?_)
  rintro e w1 ⟨b, b2, rfl, hv, hb⟩
  obtain ⟨hc, hf, hz⟩ := after hb
  simp only [World.size_alloc] at hz
  have hx : w.heap.size < w1.heap.size := by omega
  have hx' : w.heap.size + 1 < w1.heap.size := by omega
  have hlv := hv.lt
  obtain ⟨v0, v1, v2, v3, v4, v5⟩ := hv.hd
  clear hv
  go_wp2_with (first | (go_at_call 50; (with_reducible refine (between1 1 L.W wide _ _ _ ?_).mono ?_); go_simp; rintro e w2 ⟨rfl, hb2⟩; obtain ⟨hc2, hf2, hz2⟩ := after hb2; (try simp only [World.size_alloc, World.size_setCell] at hz2); have hx2 : w.heap.size < w2.heap.size := (by omega); have hx2' : w.heap.size + 1 < w2.heap.size := (by omega); have hy2 : b < w2.heap.size := (by omega)) | (go_at_call 50; (with_reducible refine (between1 1 L.H high _ _ _ ?_).mono ?_); go_simp; rintro e w3 ⟨rfl, hb3⟩; obtain ⟨hc3, hf3, hz3⟩ := after hb3; (try simp only [World.size_alloc, World.size_setCell] at hz3); have hx3 : w.heap.size < w3.heap.size := (by omega); have hx3' : w.heap.size + 1 < w3.heap.size := (by omega); have hy3 : b < w3.heap.size := (by omega)))
  refine bodyPost_ret (v := .tuple #[zimg, .int .i64 2]) ?_ rfl ?_
  · simp [results, Try.results28, go_sem, hc3, hc2, hc, hx, hx', hx2, hx2', hx3, hx3']
  refine ⟨rfl, ?_⟩
  ((repeat (first | (with_reducible exact Below.refl _ _) | (with_reducible refine Below.setCell ?_ ?_ _) | (with_reducible refine Below.alloc ?_ ?_ _) | (with_reducible refine Below.drew ?_) | (with_reducible refine Below.trans ?_ (Below.mono (by assumption) ?_)))); all_goals ((try simp only [World.size_alloc, World.size_drew, World.size_setCell]); omega))

set_option maxRecDepth 100000 in
set_option maxHeartbeats 2000000 in
theorem cut_arg3 (L : Lay) (O : ByteArray) (x y wide high : Int) (w : World) (hn : L.valid O) (h1 : inB wide 1 L.W = true) (h2 : inB high 1 L.H = true) (h3 : insB L x y wide high = false) :
    Calls Try.prog 28 #[L.img O, .int .i64 x, .int .i64 y, .int .i64 wide, .int .i64 high] w fun e w' => e = .returned (.tuple #[zimg, .int .i64 2]) ∧ Below w.heap.size w w' := by
  obtain ⟨a1, a2⟩ := (inB_iff _ _ _).1 h1
  obtain ⟨a3, a4⟩ := (inB_iff _ _ _).1 h2
  have HO := fun w => open_ok L O w hn
  have hok := hn.1
  have q1 := hok.w1
  have q2 := hok.w2
  have q3 := hok.h1
  have q4 := hok.h2
  unfold Lay.img at *
  have HO' := Lib.hid HO
  clear HO
  go_enter Try.func28, Try.ntmps28
  go_wp2_with fail
  (with_reducible refine (HO'.out _).mono ?_)
  rintro e w1 ⟨b, b2, rfl, hv, hb⟩
  obtain ⟨hc, hf, hz⟩ := after hb
  simp only [World.size_alloc] at hz
  have hx : w.heap.size < w1.heap.size := by omega
  have hx' : w.heap.size + 1 < w1.heap.size := by omega
  have hlv := hv.lt
  obtain ⟨v0, v1, v2, v3, v4, v5⟩ := hv.hd
  have HV := Lib.hid hv
  clear hv
  go_wp2_with (first | (go_at_call 50; (with_reducible refine (between1 1 L.W wide _ _ _ ?_).mono ?_); go_simp; rintro e w2 ⟨rfl, hb2⟩; obtain ⟨hc2, hf2, hz2⟩ := after hb2; (try simp only [World.size_alloc, World.size_setCell] at hz2); have hx2 : w.heap.size < w2.heap.size := (by omega); have hx2' : w.heap.size + 1 < w2.heap.size := (by omega); have hy2 : b < w2.heap.size := (by omega)) | (go_at_call 50; (with_reducible refine (between1 1 L.H high _ _ _ ?_).mono ?_); go_simp; rintro e w3 ⟨rfl, hb3⟩; obtain ⟨hc3, hf3, hz3⟩ := after hb3; (try simp only [World.size_alloc, World.size_setCell] at hz3); have hx3 : w.heap.size < w3.heap.size := (by omega); have hx3' : w.heap.size + 1 < w3.heap.size := (by omega); have hy3 : b < w3.heap.size := (by omega)))
  have HI := Lib.hid (inside_any L hok _ b b2 _ x y wide high w3 (HV.out.below hok (show Below w1.heap.size w1 w3 by ((repeat (first | (with_reducible exact Below.refl _ _) | (with_reducible refine Below.setCell ?_ ?_ _) | (with_reducible refine Below.alloc ?_ ?_ _) | (with_reducible refine Below.drew ?_) | (with_reducible refine Below.trans ?_ (Below.mono (by assumption) ?_)))); all_goals ((try simp only [World.size_alloc, World.size_drew, World.size_setCell]); omega)))) a1 (by omega) a3 (by omega))
  (with_reducible refine HI.out.mono ?_)
  rintro e w4 ⟨rfl, hb4⟩
  obtain ⟨hc4, hf4, hz4⟩ := after hb4
  have hx4 : w.heap.size < w4.heap.size := by omega
  have hx4' : w.heap.size + 1 < w4.heap.size := by omega
  go_wp2_with fail
  refine bodyPost_ret (v := .tuple #[zimg, .int .i64 2]) ?_ rfl ?_
  · simp [results, Try.results28, go_sem, hc4, hc3, hc2, hc, hx, hx', hx2, hx2', hx3, hx3', hx4, hx4']
  refine ⟨rfl, ?_⟩
  ((repeat (first | (with_reducible exact Below.refl _ _) | (with_reducible refine Below.setCell ?_ ?_ _) | (with_reducible refine Below.alloc ?_ ?_ _) | (with_reducible refine Below.drew ?_) | (with_reducible refine Below.trans ?_ (Below.mono (by assumption) ?_)))); all_goals ((try simp only [World.size_alloc, World.size_drew, World.size_setCell]); omega))

end Go.Proofs.Ytphfbjeaklpddaa
