/-
  Layer 42: Cut of a part that lies within the image.
-/
import Derived.Test.YtphfbjeaklpddaaJi
namespace Go.Proofs.Ytphfbjeaklpddaa
open Go.RowKit

theorem Lay.octF_zero (L : Lay) (p : Int) : L.octF (fun _ _ _ => 0) p = 0 := by
  unfold Lay.octF
  split
  · rfl
  · unfold Lay.byt
    split <;> rfl

/-- the layout of a part -/
def Lay.part (L : Lay) (wide high : Int) : Lay := { L with W := wide, H := high }

theorem Lay.part_ok (L : Lay) (hok : L.ok) (wide high : Int) (a1 : 1 ≤ wide) (a2 : wide ≤ L.W) (a3 : 1 ≤ high) (a4 : high ≤ L.H) : (L.part wide high).ok := by
  have h := hok
  refine ⟨a1, Int.le_trans a2 h.w2, a3, Int.le_trans a4 h.h2, h.c1, h.c2, h.b, h.p, ?_⟩
  have m1 : wide * high ≤ L.W * L.H := Int.mul_le_mul a2 a4 (by omega) (by have := h.w1; omega)
  have m2 : wide * high * L.C ≤ L.W * L.H * L.C := Int.mul_le_mul_of_nonneg_right m1 (by have := h.c1; omega)
  exact Int.le_trans m2 h.s

set_option maxRecDepth 100000 in
set_option maxHeartbeats 4000000 in
theorem cut_ok (L : Lay) (O : ByteArray) (x y wide high : Int) (w : World) (hn : L.valid O) (h1 : inB wide 1 L.W = true) (h2 : inB high 1 L.H = true) (h3 : insB L x y wide high = true) :
    Calls Try.prog 28 #[L.img O, .int .i64 x, .int .i64 y, .int .i64 wide, .int .i64 high] w fun e w' => e = .returned (.tuple #[(L.part wide high).img (octS (L.part wide high).len.toNat ((L.part wide high).octF (cpyF (L.fn O) (fun _ _ _ => 0) x y 0 0 high wide 0))), .int .i64 0]) ∧ Below w.heap.size w w' := by
  obtain ⟨a1, a2⟩ := (inB_iff _ _ _).1 h1
  obtain ⟨a3, a4⟩ := (inB_iff _ _ _).1 h2
  have h3' := h3
  unfold insB at h3'
  rw [Bool.and_eq_true, inB_iff, inB_iff] at h3'
  obtain ⟨⟨x0, x1⟩, ⟨y0, y1⟩⟩ := h3'
  have HO := fun w => open_ok L O w hn
  have hok := hn.1
  have q1 := hok.w1
  have q2 := hok.w2
  have q3 := hok.h1
  have q4 := hok.h2
  unfold Lay.img at *
  have HO' := Lib.hid HO
  clear HO
  go_enter Try.func28, Try.ntmps28
  go_wp2_with fail
  (with_reducible refine (HO'.out _).mono ?_)
  rintro e w1 ⟨b, b2, rfl, hv, hb⟩
  obtain ⟨hc, hf, hz⟩ := after hb
  simp only [World.size_alloc] at hz
  have hx : w.heap.size < w1.heap.size := by omega
  have hx' : w.heap.size + 1 < w1.heap.size := by omega
  have hlv := hv.lt
  obtain ⟨v0, v1, v2, v3, v4, v5⟩ := hv.hd
  have HV := Lib.hid hv
  clear hv
  have hpo := L.part_ok hok wide high a1 a2 a3 a4
  have HPO := Lib.hid hpo
  clear hpo
  go_wp2_with (first | (go_at_call 50; (with_reducible refine (between1 1 L.W wide _ _ _ ?_).mono ?_); go_simp; rintro e w2 ⟨rfl, hb2⟩; obtain ⟨hc2, hf2, hz2⟩ := after hb2; (try simp only [World.size_alloc, World.size_setCell] at hz2); have hx2 : w.heap.size < w2.heap.size := (by omega); have hx2' : w.heap.size + 1 < w2.heap.size := (by omega); have hy2 : b < w2.heap.size := (by omega)) | (go_at_call 50; (with_reducible refine (between1 1 L.H high _ _ _ ?_).mono ?_); go_simp; rintro e w3 ⟨rfl, hb3⟩; obtain ⟨hc3, hf3, hz3⟩ := after hb3; (try simp only [World.size_alloc, World.size_setCell] at hz3); have hx3 : w.heap.size < w3.heap.size := (by omega); have hx3' : w.heap.size + 1 < w3.heap.size := (by omega); have hy3 : b < w3.heap.size := (by omega)))
  have HI := Lib.hid (inside_any L hok _ b b2 _ x y wide high w3 (HV.out.below hok (show Below w1.heap.size w1 w3 by ((repeat (first | (with_reducible exact Below.refl _ _) | (with_reducible refine Below.setCell ?_ ?_ _) | (with_reducible refine Below.alloc ?_ ?_ _) | (with_reducible refine Below.drew ?_) | (with_reducible refine Below.trans ?_ (Below.mono (by assumption) ?_)))); all_goals ((try simp only [World.size_alloc, World.size_drew, World.size_setCell]); omega)))) a1 (by omega) a3 (by omega))
  (with_reducible refine HI.out.mono ?_)
  rintro e w4 ⟨rfl, hb4⟩
  obtain ⟨hc4, hf4, hz4⟩ := after hb4
  have hx4 : w.heap.size < w4.heap.size := by omega
  have hx4' : w.heap.size + 1 < w4.heap.size := by omega
  have HB := fun w => blank_good (L.part wide high) O w HPO.out
  unfold Lay.img Lay.part at HB
  have HBL := Lib.hid HB
  clear HB
  go_wp2_with fail
  (with_reducible refine (HBL.out _).mono ?_)
  rintro e w5 ⟨c, c2, rfl, hv5, hb5⟩
  obtain ⟨hc5, hf5, hz5⟩ := after hb5
  simp only [World.size_alloc, World.size_setCell] at hz5
  have hx5 : w.heap.size < w5.heap.size := by omega
  have hx5' : w.heap.size + 1 < w5.heap.size := by omega
  have hcb := hv5.b1
  have hcb2 := hv5.b2
  simp only [World.size_alloc, World.size_setCell] at hcb hcb2
  have hB15 : Below w1.heap.size w1 w5 := by ((repeat (first | (with_reducible exact Below.refl _ _) | (with_reducible refine Below.setCell ?_ ?_ _) | (with_reducible refine Below.alloc ?_ ?_ _) | (with_reducible refine Below.drew ?_) | (with_reducible refine Below.trans ?_ (Below.mono (by assumption) ?_)))); all_goals ((try simp only [World.size_alloc, World.size_drew, World.size_setCell]); omega))
  have hlt2 := HV.out.lt2 hok
  have hV5 := HV.out.below hok hB15
  have hcp := copied_any L (L.part wide high) hok HPO.out rfl _ _ b b2 c c2 (octAt O) (octAt_range O) (fun _ _ _ => 0) x y 0 0 wide high w5 hV5
    (hv5.congr fun p _ _ => (Lay.octF_zero _ p).symm) (by omega) (by omega) x0 (by omega) y0 (by omega) (by omega) (by show 0 + wide ≤ wide; omega) (by omega) (by show 0 + high ≤ high; omega) a1 a3
  have HCP := Lib.hid hcp
  have HV5 := Lib.hid hv5
  clear hcp hV5 hv5 hB15
  go_wp2_with fail
  (with_reducible refine HCP.out.mono ?_)
  rintro e w6 ⟨rfl, hv6, hu6⟩
  obtain ⟨hc6, hf6, hz6⟩ := afterU hu6
  have hx6 : w.heap.size < w6.heap.size := by omega
  have hx6' : w.heap.size + 1 < w6.heap.size := by omega
  have hn1 : w.heap.size ≠ c := by omega
  have hn2 : w.heap.size ≠ c2 := by omega
  have hn3 : w.heap.size + 1 ≠ c := by omega
  have hn4 : w.heap.size + 1 ≠ c2 := by omega
  have hcl := closed_any (L.part wide high) HPO.out _ c c2 _ w6 hv6
  unfold Lay.img at hcl
  have HCL := Lib.hid hcl
  clear hcl hv6
  go_wp2_with fail
  (with_reducible refine HCL.out.mono ?_)
  rintro e w7 ⟨rfl, hu7⟩
  obtain ⟨hc7, hf7, hz7⟩ := afterU hu7
  have hx7 : w.heap.size < w7.heap.size := by omega
  have hx7' : w.heap.size + 1 < w7.heap.size := by omega
  have hb6 := hu6.below (B := w.heap.size) (by omega) (by omega)
  have hb7 := hu7.below (B := w.heap.size) (by omega) (by omega)
  go_wp2_with fail
  refine bodyPost_ret (v := .tuple #[(L.part wide high).img (octS (L.part wide high).len.toNat ((L.part wide high).octF (cpyF (L.fn O) (fun _ _ _ => 0) x y 0 0 high wide 0))), .int .i64 0]) ?_ rfl ?_
  · simp [results, Try.results28, go_sem, Lay.img, Lay.part, Lay.fn, hc7, hc6, hc5, hc4, hc3, hc2, hc, hx, hx', hx2, hx2', hx3, hx3', hx4, hx4', hx5, hx5', hx6, hx6', hx7, hx7', hn1, hn2, hn3, hn4]
  refine ⟨rfl, ?_⟩
  ((repeat (first | (with_reducible exact Below.refl _ _) | (with_reducible refine Below.setCell ?_ ?_ _) | (with_reducible refine Below.alloc ?_ ?_ _) | (with_reducible refine Below.drew ?_) | (with_reducible refine Below.trans ?_ (Below.mono (by assumption) ?_)))); all_goals ((try simp only [World.size_alloc, World.size_drew, World.size_setCell]); omega))

end Go.Proofs.Ytphfbjeaklpddaa
