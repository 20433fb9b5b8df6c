/-
  Layer 42, the statements' guard: wakes.
-/
import Derived.Test.YtphfbjeaklpddaaKc
namespace Go.Proofs.Ytphfbjeaklpddaa
open Go.RowKit

attribute [local go_sem] Oper.semAt_some

set_option maxRecDepth 100000 in
set_option maxHeartbeats 8000000 in
theorem wakes_any (w : World) : Calls Try.prog 11 #[] w fun e w' => e = .returned (.bool true) ∧ Below w.heap.size w w' := by
  go_enter Try.func11, Try.ntmps11
  go_wp2_with fail
  (with_reducible refine calls_gen ?_)
  intro V1 hV
  have hB1 : Below w.heap.size w V1 := by
    rw [hV]
    ((repeat (first | (with_reducible exact Below.refl _ _) | (with_reducible refine Below.setCell ?_ ?_ _) | (with_reducible refine Below.alloc ?_ ?_ _) | (with_reducible refine Below.drew ?_) | (with_reducible refine Below.trans ?_ (Below.mono (by assumption) ?_)))); all_goals ((try simp only [World.size_alloc, World.size_drew, World.size_setCell]); omega))
  have H := six_any V1
  have HH := Lib.hid H
  clear H hV
  (with_reducible refine HH.out.mono ?_)
  clear HH
  rintro e W1 ⟨rfl, hb⟩
  have KB := Lib.hid (hB1.trans (hb.mono hB1.size))
  clear hb hB1
  go_wp2_with fail
  (with_reducible refine calls_gen ?_)
  intro V2 hV
  have hP2 : Below W1.heap.size W1 V2 := by
    rw [hV]
    ((repeat (first | (with_reducible exact Below.refl _ _) | (with_reducible refine Below.setCell ?_ ?_ _) | (with_reducible refine Below.alloc ?_ ?_ _) | (with_reducible refine Below.drew ?_) | (with_reducible refine Below.trans ?_ (Below.mono (by assumption) ?_)))); all_goals ((try simp only [World.size_alloc, World.size_drew, World.size_setCell]); omega))
  have hB2 : Below w.heap.size w V2 := KB.out.trans (hP2.mono KB.out.size)
  have H := six_any V2
  have HH := Lib.hid H
  clear H hV
  (with_reducible refine HH.out.mono ?_)
  clear HH
  rintro e W2 ⟨rfl, hb⟩
  replace KB := Lib.hid (hB2.trans (hb.mono hB2.size))
  have hw2 := KB.out.size
  clear hb hB2 hP2
  go_wp2_with fail
  (with_reducible refine calls_gen ?_)
  intro V3 hV
  have hP3 : Below W2.heap.size W2 V3 := by
    rw [hV]
    ((repeat (first | (with_reducible exact Below.refl _ _) | (with_reducible refine Below.setCell ?_ ?_ _) | (with_reducible refine Below.alloc ?_ ?_ _) | (with_reducible refine Below.drew ?_) | (with_reducible refine Below.trans ?_ (Below.mono (by assumption) ?_)))); all_goals ((try simp only [World.size_alloc, World.size_drew, World.size_setCell]); omega))
  have hB3 : Below w.heap.size w V3 := KB.out.trans (hP3.mono KB.out.size)
  have A : Hid (HasIm V3 W2.heap.size ⟨⟨2, 1, 3, 8, false, 4⟩, ⟨#[1, 2, 3, 4, 5, 6, 0, 0]⟩⟩) := Lib.hid ⟨by rw [hV]; go_simp, by rw [hV]; go_simp, by rw [hV]; go_simp, by rw [hV]; go_simp, by rw [hV]; go_simp, by rw [hV]; go_simp, by rw [hV]; go_simp, by rw [hV]; go_simp, fun o => by rw [hV]; go_simp⟩
  have B : Hid (HasIm V3 (W2.heap.size + 1) ⟨⟨2, 1, 3, 8, false, 4⟩, ⟨#[1, 2, 3, 4, 5, 6, 0, 0]⟩⟩) := Lib.hid ⟨by rw [hV]; go_simp, by rw [hV]; go_simp, by rw [hV]; go_simp, by rw [hV]; go_simp, by rw [hV]; go_simp, by rw [hV]; go_simp, by rw [hV]; go_simp, by rw [hV]; go_simp, fun o => by rw [hV]; go_simp⟩
  have H := Img_stride sixI V3
  try unfold ImPost at H
  try unfold IntsPost at H
  simp only [six_stride] at H
  simp only [Im.v, Lay.img, sixI, Im.z, List.length_cons, List.length_nil, Nat.reduceAdd] at H
  have HH := Lib.hid H
  clear H hV
  (with_reducible refine HH.out.mono ?_)
  clear HH
  rintro e W3 ⟨rfl, hb⟩
  replace A := Lib.hid (A.out.below hb)
  replace B := Lib.hid (B.out.below hb)
  replace KB := Lib.hid (hB3.trans (hb.mono hB3.size))
  have hs3 := B.out.lt
  clear hb hB3 hP3
  obtain ⟨oAl, oA0, oA1, oA2, oA3, oA4, oA5, oA6, oAz⟩ := A.out
  dsimp only at oA0 oA1 oA2 oA3 oA4 oA5 oA6
  go_wp2_with fail
  (with_reducible refine calls_gen ?_)
  intro V4 hV
  have hP4 : Below W3.heap.size W3 V4 := by
    rw [hV]
    ((repeat (first | (with_reducible exact Below.refl _ _) | (with_reducible refine Below.setCell ?_ ?_ _) | (with_reducible refine Below.alloc ?_ ?_ _) | (with_reducible refine Below.drew ?_) | (with_reducible refine Below.trans ?_ (Below.mono (by assumption) ?_)))); all_goals ((try simp only [World.size_alloc, World.size_drew, World.size_setCell]); omega))
  have hB4 : Below w.heap.size w V4 := KB.out.trans (hP4.mono KB.out.size)
  replace A := Lib.hid (A.out.below hP4)
  replace B := Lib.hid (B.out.below hP4)
  have H := Img_get sixI 1 0 V4
  try unfold ImPost at H
  try unfold IntsPost at H
  simp only [six_get] at H
  simp only [Im.v, Lay.img, sixI, Im.z, List.length_cons, List.length_nil, Nat.reduceAdd] at H
  have HH := Lib.hid H
  clear H hV
  clear oAl oA0 oA1 oA2 oA3 oA4 oA5 oA6 oAz
  (with_reducible refine HH.out.mono ?_)
  clear HH
  rintro e W4 ⟨ga, gc, rfl, hga, hgl, hb⟩
  replace A := Lib.hid (A.out.below hb)
  replace B := Lib.hid (B.out.below hb)
  replace KB := Lib.hid (hB4.trans (hb.mono hB4.size))
  have GA := Lib.hid hga
  have GL := Lib.hid hgl
  have h24 := B.out.lt
  have hV4 : W3.heap.size ≤ V4.heap.size := hP4.size
  clear hga hgl
  clear hb hB4 hP4
  obtain ⟨oAl, oA0, oA1, oA2, oA3, oA4, oA5, oA6, oAz⟩ := A.out
  dsimp only at oA0 oA1 oA2 oA3 oA4 oA5 oA6
  go_wp2_with fail
  (with_reducible refine calls_gen ?_)
  intro V5 hV
  have hP5 : Below W4.heap.size W4 V5 := by
    rw [hV]
    ((repeat (first | (with_reducible exact Below.refl _ _) | (with_reducible refine Below.setCell ?_ ?_ _) | (with_reducible refine Below.alloc ?_ ?_ _) | (with_reducible refine Below.drew ?_) | (with_reducible refine Below.trans ?_ (Below.mono (by assumption) ?_)))); all_goals ((try simp only [World.size_alloc, World.size_drew, World.size_setCell]); omega))
  have hB5 : Below w.heap.size w V5 := KB.out.trans (hP5.mono KB.out.size)
  replace A := Lib.hid (A.out.below hP5)
  replace B := Lib.hid (B.out.below hP5)
  have hi : Ints V5 (some ⟨W4.heap.size, 0, none⟩) [7, 8, 9] := fun _ => ⟨_, _, rfl, fun i hi => by
    have : i = 0 ∨ i = 1 ∨ i = 2 := by simp at hi; omega
    rcases this with rfl | rfl | rfl <;> (rw [hV]; go_simp)⟩
  replace GA := Lib.hid (GA.out.below hP5)
  have H := Img_set sixI 0 0 [7, 8, 9] _ 3 V5 hi (by decide)
  try unfold ImPost at H
  try unfold IntsPost at H
  simp only [six_set] at H
  simp only [Im.v, Lay.img, sixI, Im.z, List.length_cons, List.length_nil, Nat.reduceAdd] at H
  have HH := Lib.hid H
  clear H hV
  clear oAl oA0 oA1 oA2 oA3 oA4 oA5 oA6 oAz
  (with_reducible refine HH.out.mono ?_)
  clear HH
  rintro e W5 ⟨rfl, hb⟩
  replace A := Lib.hid (A.out.below hb)
  replace B := Lib.hid (B.out.below hb)
  replace KB := Lib.hid (hB5.trans (hb.mono hB5.size))
  replace GA := Lib.hid (GA.out.below hb)
  have hs5 := B.out.lt
  clear hb hB5 hP5
  obtain ⟨oAl, oA0, oA1, oA2, oA3, oA4, oA5, oA6, oAz⟩ := A.out
  dsimp only at oA0 oA1 oA2 oA3 oA4 oA5 oA6
  go_wp2_with fail
  (with_reducible refine calls_gen ?_)
  intro V6 hV
  have hP6 : Below W5.heap.size W5 V6 := by
    rw [hV]
    ((repeat (first | (with_reducible exact Below.refl _ _) | (with_reducible refine Below.setCell ?_ ?_ _) | (with_reducible refine Below.alloc ?_ ?_ _) | (with_reducible refine Below.drew ?_) | (with_reducible refine Below.trans ?_ (Below.mono (by assumption) ?_)))); all_goals ((try simp only [World.size_alloc, World.size_drew, World.size_setCell]); omega))
  have hB6 : Below w.heap.size w V6 := KB.out.trans (hP6.mono KB.out.size)
  replace A := Lib.hid (A.out.below hP6)
  replace B := Lib.hid (B.out.below hP6)
  have C : Hid (HasIm V6 W5.heap.size ⟨⟨2, 1, 3, 8, false, 4⟩, ⟨#[7, 8, 9, 4, 5, 6, 0, 0]⟩⟩) := Lib.hid ⟨by rw [hV]; go_simp, by rw [hV]; go_simp, by rw [hV]; go_simp, by rw [hV]; go_simp, by rw [hV]; go_simp, by rw [hV]; go_simp, by rw [hV]; go_simp, by rw [hV]; go_simp, fun o => by rw [hV]; go_simp⟩
  replace GA := Lib.hid (GA.out.below hP6)
  have H := Img_shape sixI 8 true 1 V6
  try unfold ImPost at H
  try unfold IntsPost at H
  simp only [six_shape1] at H
  simp only [Im.v, Lay.img, sixI, Im.z, List.length_cons, List.length_nil, Nat.reduceAdd] at H
  have HH := Lib.hid H
  clear H hV
  clear oAl oA0 oA1 oA2 oA3 oA4 oA5 oA6 oAz
  (with_reducible refine HH.out.mono ?_)
  clear HH
  rintro e W6 ⟨rfl, hb⟩
  replace A := Lib.hid (A.out.below hb)
  replace B := Lib.hid (B.out.below hb)
  replace C := Lib.hid (C.out.below hb)
  replace KB := Lib.hid (hB6.trans (hb.mono hB6.size))
  replace GA := Lib.hid (GA.out.below hb)
  have hs6 := B.out.lt
  clear hb hB6 hP6
  obtain ⟨oAl, oA0, oA1, oA2, oA3, oA4, oA5, oA6, oAz⟩ := A.out
  dsimp only at oA0 oA1 oA2 oA3 oA4 oA5 oA6
  go_wp2_with fail
  (with_reducible refine calls_gen ?_)
  intro V7 hV
  have hP7 : Below W6.heap.size W6 V7 := by
    rw [hV]
    ((repeat (first | (with_reducible exact Below.refl _ _) | (with_reducible refine Below.setCell ?_ ?_ _) | (with_reducible refine Below.alloc ?_ ?_ _) | (with_reducible refine Below.drew ?_) | (with_reducible refine Below.trans ?_ (Below.mono (by assumption) ?_)))); all_goals ((try simp only [World.size_alloc, World.size_drew, World.size_setCell]); omega))
  have hB7 : Below w.heap.size w V7 := KB.out.trans (hP7.mono KB.out.size)
  replace A := Lib.hid (A.out.below hP7)
  replace B := Lib.hid (B.out.below hP7)
  replace C := Lib.hid (C.out.below hP7)
  have D : Hid (HasIm V7 W6.heap.size ⟨⟨2, 1, 3, 8, true, 1⟩, ⟨#[1, 4, 2, 5, 3, 6]⟩⟩) := Lib.hid ⟨by rw [hV]; go_simp, by rw [hV]; go_simp, by rw [hV]; go_simp, by rw [hV]; go_simp, by rw [hV]; go_simp, by rw [hV]; go_simp, by rw [hV]; go_simp, by rw [hV]; go_simp, fun o => by rw [hV]; go_simp⟩
  replace GA := Lib.hid (GA.out.below hP7)
  have H := Img_shape sixI 16 false 1 V7
  try unfold ImPost at H
  try unfold IntsPost at H
  simp only [six_shape2] at H
  simp only [Im.v, Lay.img, sixI, Im.z, List.length_cons, List.length_nil, Nat.reduceAdd] at H
  have HH := Lib.hid H
  clear H hV
  clear oAl oA0 oA1 oA2 oA3 oA4 oA5 oA6 oAz
  (with_reducible refine HH.out.mono ?_)
  clear HH
  rintro e W7 ⟨rfl, hb⟩
  replace A := Lib.hid (A.out.below hb)
  replace B := Lib.hid (B.out.below hb)
  replace C := Lib.hid (C.out.below hb)
  replace D := Lib.hid (D.out.below hb)
  replace KB := Lib.hid (hB7.trans (hb.mono hB7.size))
  replace GA := Lib.hid (GA.out.below hb)
  have hs7 := B.out.lt
  clear hb hB7 hP7
  obtain ⟨oAl, oA0, oA1, oA2, oA3, oA4, oA5, oA6, oAz⟩ := A.out
  dsimp only at oA0 oA1 oA2 oA3 oA4 oA5 oA6
  go_wp2_with fail
  (with_reducible refine calls_gen ?_)
  intro V8 hV
  have hP8 : Below W7.heap.size W7 V8 := by
    rw [hV]
    ((repeat (first | (with_reducible exact Below.refl _ _) | (with_reducible refine Below.setCell ?_ ?_ _) | (with_reducible refine Below.alloc ?_ ?_ _) | (with_reducible refine Below.drew ?_) | (with_reducible refine Below.trans ?_ (Below.mono (by assumption) ?_)))); all_goals ((try simp only [World.size_alloc, World.size_drew, World.size_setCell]); omega))
  have hB8 : Below w.heap.size w V8 := KB.out.trans (hP8.mono KB.out.size)
  replace A := Lib.hid (A.out.below hP8)
  replace B := Lib.hid (B.out.below hP8)
  replace C := Lib.hid (C.out.below hP8)
  replace D := Lib.hid (D.out.below hP8)
  have E : Hid (HasIm V8 W7.heap.size ⟨⟨2, 1, 3, 16, false, 1⟩, ⟨#[1, 1, 2, 2, 3, 3, 4, 4, 5, 5, 6, 6]⟩⟩) := Lib.hid ⟨by rw [hV]; go_simp, by rw [hV]; go_simp, by rw [hV]; go_simp, by rw [hV]; go_simp, by rw [hV]; go_simp, by rw [hV]; go_simp, by rw [hV]; go_simp, by rw [hV]; go_simp, fun o => by rw [hV]; go_simp⟩
  replace GA := Lib.hid (GA.out.below hP8)
  have H := Img_cut sixI 1 0 1 1 V8
  try unfold ImPost at H
  try unfold IntsPost at H
  simp only [six_cut] at H
  simp only [Im.v, Lay.img, sixI, Im.z, List.length_cons, List.length_nil, Nat.reduceAdd] at H
  have HH := Lib.hid H
  clear H hV
  clear oAl oA0 oA1 oA2 oA3 oA4 oA5 oA6 oAz
  (with_reducible refine HH.out.mono ?_)
  clear HH
  rintro e W8 ⟨rfl, hb⟩
  replace A := Lib.hid (A.out.below hb)
  replace B := Lib.hid (B.out.below hb)
  replace C := Lib.hid (C.out.below hb)
  replace D := Lib.hid (D.out.below hb)
  replace E := Lib.hid (E.out.below hb)
  replace KB := Lib.hid (hB8.trans (hb.mono hB8.size))
  replace GA := Lib.hid (GA.out.below hb)
  have hs8 := B.out.lt
  clear hb hB8 hP8
  obtain ⟨oAl, oA0, oA1, oA2, oA3, oA4, oA5, oA6, oAz⟩ := A.out
  dsimp only at oA0 oA1 oA2 oA3 oA4 oA5 oA6
  go_wp2_with fail
  (with_reducible refine calls_gen ?_)
  intro V9 hV
  have hP9 : Below W8.heap.size W8 V9 := by
    rw [hV]
    ((repeat (first | (with_reducible exact Below.refl _ _) | (with_reducible refine Below.setCell ?_ ?_ _) | (with_reducible refine Below.alloc ?_ ?_ _) | (with_reducible refine Below.drew ?_) | (with_reducible refine Below.trans ?_ (Below.mono (by assumption) ?_)))); all_goals ((try simp only [World.size_alloc, World.size_drew, World.size_setCell]); omega))
  have hB9 : Below w.heap.size w V9 := KB.out.trans (hP9.mono KB.out.size)
  replace A := Lib.hid (A.out.below hP9)
  replace B := Lib.hid (B.out.below hP9)
  replace C := Lib.hid (C.out.below hP9)
  replace D := Lib.hid (D.out.below hP9)
  replace E := Lib.hid (E.out.below hP9)
  have F : Hid (HasIm V9 W8.heap.size ⟨⟨1, 1, 3, 8, false, 4⟩, ⟨#[4, 5, 6, 0]⟩⟩) := Lib.hid ⟨by rw [hV]; go_simp, by rw [hV]; go_simp, by rw [hV]; go_simp, by rw [hV]; go_simp, by rw [hV]; go_simp, by rw [hV]; go_simp, by rw [hV]; go_simp, by rw [hV]; go_simp, fun o => by rw [hV]; go_simp⟩
  replace GA := Lib.hid (GA.out.below hP9)
  have H := Img_get sixI 2 0 V9
  try unfold ImPost at H
  try unfold IntsPost at H
  simp only [six_get2] at H
  simp only [Im.v, Lay.img, sixI, Im.z, List.length_cons, List.length_nil, Nat.reduceAdd] at H
  have HH := Lib.hid H
  clear H hV
  clear oAl oA0 oA1 oA2 oA3 oA4 oA5 oA6 oAz
  (with_reducible refine HH.out.mono ?_)
  clear HH
  rintro e W9 ⟨gb, gd, rfl, -, -, hb⟩
  replace A := Lib.hid (A.out.below hb)
  replace B := Lib.hid (B.out.below hb)
  replace C := Lib.hid (C.out.below hb)
  replace D := Lib.hid (D.out.below hb)
  replace E := Lib.hid (E.out.below hb)
  replace F := Lib.hid (F.out.below hb)
  replace KB := Lib.hid (hB9.trans (hb.mono hB9.size))
  replace GA := Lib.hid (GA.out.below hb)
  clear hb hB9 hP9
  go_wp2_with fail
  (with_reducible refine calls_gen ?_)
  intro V10 hV
  have hP10 : Below W9.heap.size W9 V10 := by
    rw [hV]
    ((repeat (first | (with_reducible exact Below.refl _ _) | (with_reducible refine Below.setCell ?_ ?_ _) | (with_reducible refine Below.alloc ?_ ?_ _) | (with_reducible refine Below.drew ?_) | (with_reducible refine Below.trans ?_ (Below.mono (by assumption) ?_)))); all_goals ((try simp only [World.size_alloc, World.size_drew, World.size_setCell]); omega))
  have hB10 : Below w.heap.size w V10 := KB.out.trans (hP10.mono KB.out.size)
  replace A := Lib.hid (A.out.below hP10)
  replace B := Lib.hid (B.out.below hP10)
  replace C := Lib.hid (C.out.below hP10)
  replace D := Lib.hid (D.out.below hP10)
  replace E := Lib.hid (E.out.below hP10)
  replace F := Lib.hid (F.out.below hP10)
  replace GA := Lib.hid (GA.out.below hP10)
  have H := Img_make ⟨65, 1, 1, 8, false, 1⟩ V10
  try unfold ImPost at H
  try unfold IntsPost at H
  simp only [six_make] at H
  simp only [Im.v, Lay.img, sixI, Im.z, List.length_cons, List.length_nil, Nat.reduceAdd] at H
  have HH := Lib.hid H
  clear H hV
  (with_reducible refine HH.out.mono ?_)
  clear HH
  rintro e W10 ⟨rfl, hb⟩
  replace A := Lib.hid (A.out.below hb)
  replace B := Lib.hid (B.out.below hb)
  replace C := Lib.hid (C.out.below hb)
  replace D := Lib.hid (D.out.below hb)
  replace E := Lib.hid (E.out.below hb)
  replace F := Lib.hid (F.out.below hb)
  replace KB := Lib.hid (hB10.trans (hb.mono hB10.size))
  replace GA := Lib.hid (GA.out.below hb)
  have hs10 := B.out.lt
  clear hb hB10 hP10
  obtain ⟨oBl, oB0, oB1, oB2, oB3, oB4, oB5, oB6, oBz⟩ := B.out
  dsimp only at oB0 oB1 oB2 oB3 oB4 oB5 oB6
  obtain ⟨oCl, oC0, oC1, oC2, oC3, oC4, oC5, oC6, oCz⟩ := C.out
  dsimp only at oC0 oC1 oC2 oC3 oC4 oC5 oC6
  obtain ⟨oDl, oD0, oD1, oD2, oD3, oD4, oD5, oD6, oDz⟩ := D.out
  dsimp only at oD0 oD1 oD2 oD3 oD4 oD5 oD6
  obtain ⟨oEl, oE0, oE1, oE2, oE3, oE4, oE5, oE6, oEz⟩ := E.out
  dsimp only at oE0 oE1 oE2 oE3 oE4 oE5 oE6
  obtain ⟨oFl, oF0, oF1, oF2, oF3, oF4, oF5, oF6, oFz⟩ := F.out
  dsimp only at oF0 oF1 oF2 oF3 oF4 oF5 oF6
  have hstr : ByteArray.extract ⟨#[1, 2, 3, 4, 5, 6, 0, 0]⟩ 0 7 ++ ⟨#[1]⟩ = (⟨#[1, 2, 3, 4, 5, 6, 0, 1]⟩ : ByteArray) := by kernel_rfl
  have HSTR := Lib.hid hstr
  clear hstr
  go_wp2_with fail
  (with_reducible refine calls_gen ?_)
  intro V11 hV
  have hstr := HSTR.out
  have q0 : W2.heap.size < W10.heap.size := by omega
  have q1 : W2.heap.size < W10.heap.size + 1 := by omega
  have q2 : W2.heap.size < W10.heap.size + 1 + 1 := by omega
  have q3 : W2.heap.size + 1 < W10.heap.size + 1 := by omega
  have q4 : W2.heap.size + 1 < W10.heap.size + 1 + 1 := by omega
  have hS : Below W10.heap.size (W10.setCell ⟨W2.heap.size + 1, 6, none⟩ (.string (ByteArray.extract ⟨#[1, 2, 3, 4, 5, 6, 0, 0]⟩ 0 7 ++ ⟨#[1]⟩))) V11 := by
    rw [hV]
    ((repeat (first | (with_reducible exact Below.refl _ _) | (with_reducible refine Below.setCell ?_ ?_ _) | (with_reducible refine Below.alloc ?_ ?_ _) | (with_reducible refine Below.drew ?_) | (with_reducible refine Below.trans ?_ (Below.mono (by assumption) ?_)))); all_goals ((try simp only [World.size_alloc, World.size_drew, World.size_setCell]); omega))
  have hKB := KB.out
  have hB11 : Below w.heap.size w V11 := by
    rw [hV]
    ((repeat (first | (with_reducible exact Below.refl _ _) | (with_reducible refine Below.setCell ?_ ?_ _) | (with_reducible refine Below.alloc ?_ ?_ _) | (with_reducible refine Below.drew ?_) | (with_reducible refine Below.trans ?_ (Below.mono (by assumption) ?_)))); all_goals ((try simp only [World.size_alloc, World.size_drew, World.size_setCell]); omega))
  have hgn : ∀ c off, ga = some ⟨c, off, none⟩ → c ≠ (⟨W2.heap.size + 1, 6, none⟩ : Addr).block := fun c off e => by have := GL.out c off e; show c ≠ W2.heap.size + 1; omega
  replace GA := Lib.hid ((GA.out.set_other hgn _).below (by rw [World.size_setCell]; exact hS))
  have hi : Ints V11 (some ⟨W10.heap.size + 1, 0, none⟩) [4, 5, 6] := fun _ => ⟨_, _, rfl, fun i hi => by
    have : i = 0 ∨ i = 1 ∨ i = 2 := by simp at hi; omega
    rcases this with rfl | rfl | rfl <;> (rw [hV]; go_simp)⟩
  have B' : Hid (HasIm V11 (W2.heap.size + 1) ⟨⟨2, 1, 3, 8, false, 4⟩, ⟨#[1, 2, 3, 4, 5, 6, 0, 1]⟩⟩) := Lib.hid ⟨by rw [hV]; go_simp, by rw [hV]; go_simp, by rw [hV]; go_simp, by rw [hV]; go_simp, by rw [hV]; go_simp, by rw [hV]; go_simp, by rw [hV]; go_simp, by rw [hV]; go_simp, fun o => by rw [hV]; go_simp⟩
  replace C := Lib.hid ((C.out.set_other (p := ⟨W2.heap.size + 1, 6, none⟩) (by show _ ≠ W2.heap.size + 1; omega) _).below (by rw [World.size_setCell]; exact hS))
  replace D := Lib.hid ((D.out.set_other (p := ⟨W2.heap.size + 1, 6, none⟩) (by show _ ≠ W2.heap.size + 1; omega) _).below (by rw [World.size_setCell]; exact hS))
  replace E := Lib.hid ((E.out.set_other (p := ⟨W2.heap.size + 1, 6, none⟩) (by show _ ≠ W2.heap.size + 1; omega) _).below (by rw [World.size_setCell]; exact hS))
  replace F := Lib.hid ((F.out.set_other (p := ⟨W2.heap.size + 1, 6, none⟩) (by show _ ≠ W2.heap.size + 1; omega) _).below (by rw [World.size_setCell]; exact hS))
  clear oBl oB0 oB1 oB2 oB3 oB4 oB5 oB6 oBz
  clear oCl oC0 oC1 oC2 oC3 oC4 oC5 oC6 oCz
  clear oDl oD0 oD1 oD2 oD3 oD4 oD5 oD6 oDz
  clear oEl oE0 oE1 oE2 oE3 oE4 oE5 oE6 oEz
  clear oFl oF0 oF1 oF2 oF3 oF4 oF5 oF6 oFz
  have H := equal_any [4, 5, 6] [4, 5, 6] ga (some ⟨W10.heap.size + 1, 0, none⟩) gc 3 V11 GA.out hi (by decide) (by decide)
  simp only [List.length_cons, List.length_nil, Nat.reduceAdd, decide_true] at H
  have HH := Lib.hid H
  clear H hV hi hS hKB hstr
  (with_reducible refine HH.out.mono ?_)
  clear HH
  rintro e W11 ⟨rfl, hb⟩
  replace B' := Lib.hid (B'.out.below hb)
  replace C := Lib.hid (C.out.below hb)
  replace D := Lib.hid (D.out.below hb)
  replace E := Lib.hid (E.out.below hb)
  replace F := Lib.hid (F.out.below hb)
  replace KB := Lib.hid (hB11.trans (hb.mono hB11.size))
  clear hb hB11
  obtain ⟨oCl, oC0, oC1, oC2, oC3, oC4, oC5, oC6, oCz⟩ := C.out
  dsimp only at oC0 oC1 oC2 oC3 oC4 oC5 oC6
  obtain ⟨oDl, oD0, oD1, oD2, oD3, oD4, oD5, oD6, oDz⟩ := D.out
  dsimp only at oD0 oD1 oD2 oD3 oD4 oD5 oD6
  obtain ⟨oEl, oE0, oE1, oE2, oE3, oE4, oE5, oE6, oEz⟩ := E.out
  dsimp only at oE0 oE1 oE2 oE3 oE4 oE5 oE6
  obtain ⟨oFl, oF0, oF1, oF2, oF3, oF4, oF5, oF6, oFz⟩ := F.out
  dsimp only at oF0 oF1 oF2 oF3 oF4 oF5 oF6
  obtain ⟨oBl, oB0, oB1, oB2, oB3, oB4, oB5, oB6, oBz⟩ := B'.out
  dsimp only at oB0 oB1 oB2 oB3 oB4 oB5 oB6
  have H := fun V => Img_check ⟨⟨2, 1, 3, 8, false, 4⟩, ⟨#[1, 2, 3, 4, 5, 6, 0, 1]⟩⟩ V
  simp only [six_check] at H
  simp only [Im.v, Lay.img] at H
  have HH := Lib.hid H
  clear H
  go_wp2_with fail
  (with_reducible refine (HH.out _).mono ?_)
  clear HH
  rintro e W12 ⟨rfl, hb⟩
  go_wp2_with fail
  refine bodyPost_ret (v := .bool true) ?_ rfl ?_
  · simp [results, Try.results11, go_sem]
  have hKB := KB.out
  refine ⟨rfl, ?_⟩
  ((repeat (first | (with_reducible exact Below.refl _ _) | (with_reducible refine Below.setCell ?_ ?_ _) | (with_reducible refine Below.alloc ?_ ?_ _) | (with_reducible refine Below.drew ?_) | (with_reducible refine Below.trans ?_ (Below.mono (by assumption) ?_)))); all_goals ((try simp only [World.size_alloc, World.size_drew, World.size_setCell]); omega))

end Go.Proofs.Ytphfbjeaklpddaa
