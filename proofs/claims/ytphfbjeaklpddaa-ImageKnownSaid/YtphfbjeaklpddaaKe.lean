/-
  Layer 42: ImageKnown.
-/
import Derived.Test.YtphfbjeaklpddaaKd
import Derived.Deep.LoopGhost
import Derived.Deep.CutRange
import Derived.Deep.CutBlock
namespace Go.Proofs.Ytphfbjeaklpddaa
open Go.RowKit

attribute [local go_sem] Oper.semAt_some

def deepI : Im := ⟨⟨2, 1, 3, 16, false, 8⟩, ⟨#[1, 1, 2, 2, 3, 3, 4, 4, 5, 5, 6, 6, 0, 0, 0, 0]⟩⟩
def halfI : Im := ⟨⟨2, 1, 1, 16, false, 1⟩, ⟨#[0, 128, 0, 129]⟩⟩
theorem kn_deep : shpR sixI 16 false 8 = (deepI, 0) := by kernel_rfl
theorem kn_paste : pasR sixI deepI 0 0 = (Im.z, 2) := by kernel_rfl
theorem kn_set1 : setR sixI 0 0 [0, 256, 0] = (Im.z, 2) := by kernel_rfl
theorem kn_set2 : setR sixI 0 0 [0, -1, 0] = (Im.z, 2) := by kernel_rfl
theorem kn_set3 : setR sixI 0 0 [0, 0] = (Im.z, 2) := by kernel_rfl
theorem kn_cut1 : cutR sixI 1 0 2 1 = (Im.z, 2) := by kernel_rfl
theorem kn_cut2 : cutR sixI 0 0 0 1 = (Im.z, 2) := by kernel_rfl
theorem kn_cut3 : cutR sixI (-1) 0 1 1 = (Im.z, 2) := by kernel_rfl
theorem kn_paste2 : pasR sixI sixI 1 0 = (Im.z, 2) := by kernel_rfl
theorem kn_make1 : makR ⟨64, 64, 2, 8, false, 1⟩ = (Im.z, 2) := by kernel_rfl
theorem kn_big : ∃ BO : ByteArray, BO.size = 8192 ∧ makR ⟨64, 64, 1, 16, true, 8⟩ = (⟨⟨64, 64, 1, 16, true, 8⟩, BO⟩, 0) := by
  refine ⟨octS (Lay.len ⟨64, 64, 1, 16, true, 8⟩).toNat fun _ => 0, ?_, ?_⟩
  · unfold octS
    rw [strOfNums_size, List.length_map, List.length_range]
    kernel_rfl
  · have h : shpB 64 64 1 16 8 = true := by kernel_rfl
    unfold makR
    simp only [h, if_true]
theorem kn_stride : strR deepI = (16, 0) := by kernel_rfl
theorem kn_make2 : makR ⟨2, 1, 1, 16, false, 1⟩ = (⟨⟨2, 1, 1, 16, false, 1⟩, ⟨#[0, 0, 0, 0]⟩⟩, 0) := by kernel_rfl
theorem kn_half : shpR halfI 8 false 1 = (⟨⟨2, 1, 1, 8, false, 1⟩, ⟨#[0, 1]⟩⟩, 0) := by kernel_rfl
theorem kn_make3 : makR ⟨3, 1, 1, 8, true, 4⟩ = (⟨⟨3, 1, 1, 8, true, 4⟩, ⟨#[0, 0, 0, 0]⟩⟩, 0) := by kernel_rfl

set_option maxRecDepth 100000 in
set_option maxHeartbeats 8000000 in
theorem known_any (w : World) : Calls Try.prog 9 #[] w fun e w' => e = .returned (.bool true) ∧ Below w.heap.size w w' := by
  go_enter Try.func9, Try.ntmps9
  go_wp2_with fail
  (with_reducible refine (wakes_any _).mono ?_)
  rintro e W0 ⟨rfl, hb⟩
  have KB := Lib.hid hb
  clear hb
  go_wp2_with fail
  go_loopg [1, 52] 12 (fun g i j wr => ∃ k : Nat, k ≤ 12 ∧ g = 12 - k ∧ j = .int .i64 k ∧ Below w.heap.size w wr)
  case atStart => exact ⟨0, Nat.zero_le _, rfl, rfl, KB.out⟩
  case round =>
    obtain ⟨k, hk, rfl, rfl, hB⟩ := hrel
    have HB := Lib.hid hB
    clear hB
    by_cases hlt : k < 12
    · go_wp2_with fail
      (with_reducible refine (six_any _).mono ?_)
      rintro e Wa ⟨rfl, hb⟩
      have KB1 := Lib.hid (HB.out.trans (hb.mono HB.out.size))
      clear hb
      go_upto_block 2 with fail
      go_cut [52] from 52 to 171 (fun s wx => s = .int .i64 k ∧ ∃ I : Im, HasIm wx Wa.heap.size I ∧ I.vB = false ∧ Below w.heap.size w wx)
      case first =>
        have hks : k = 0 ∨ k = 1 ∨ k = 2 ∨ k = 3 ∨ k = 4 ∨ k = 5 ∨ k = 6 ∨ k = 7 ∨ k = 8 ∨ k = 9 ∨ k = 10 ∨ k = 11 := by omega
        rcases hks with rfl | rfl | rfl | rfl | rfl | rfl | rfl | rfl | rfl | rfl | rfl | rfl
        · go_wp2_with fail
          go_meet
          have hKB := KB1.out
          have hsz := hKB.size
          refine ⟨rfl, ⟨⟨0, 1, 3, 8, false, 4⟩, ⟨#[1, 2, 3, 4, 5, 6, 0, 0]⟩⟩, ⟨by go_simp, by go_simp, by go_simp, by go_simp, by go_simp, by go_simp, by go_simp, by go_simp <;> kernel_rfl, fun o => by go_simp⟩, by kernel_rfl, ?_⟩
          ((repeat (first | (with_reducible exact Below.refl _ _) | (with_reducible refine Below.setCell ?_ ?_ _) | (with_reducible refine Below.alloc ?_ ?_ _) | (with_reducible refine Below.drew ?_) | (with_reducible refine Below.trans ?_ (Below.mono (by assumption) ?_)))); all_goals ((try simp only [World.size_alloc, World.size_drew, World.size_setCell]); omega))
        · go_wp2_with fail
          go_meet
          have hKB := KB1.out
          have hsz := hKB.size
          refine ⟨rfl, ⟨⟨2, 65, 3, 8, false, 4⟩, ⟨#[1, 2, 3, 4, 5, 6, 0, 0]⟩⟩, ⟨by go_simp, by go_simp, by go_simp, by go_simp, by go_simp, by go_simp, by go_simp, by go_simp <;> kernel_rfl, fun o => by go_simp⟩, by kernel_rfl, ?_⟩
          ((repeat (first | (with_reducible exact Below.refl _ _) | (with_reducible refine Below.setCell ?_ ?_ _) | (with_reducible refine Below.alloc ?_ ?_ _) | (with_reducible refine Below.drew ?_) | (with_reducible refine Below.trans ?_ (Below.mono (by assumption) ?_)))); all_goals ((try simp only [World.size_alloc, World.size_drew, World.size_setCell]); omega))
        · go_wp2_with fail
          go_meet
          have hKB := KB1.out
          have hsz := hKB.size
          refine ⟨rfl, ⟨⟨2, 1, 5, 8, false, 4⟩, ⟨#[1, 2, 3, 4, 5, 6, 0, 0]⟩⟩, ⟨by go_simp, by go_simp, by go_simp, by go_simp, by go_simp, by go_simp, by go_simp, by go_simp <;> kernel_rfl, fun o => by go_simp⟩, by kernel_rfl, ?_⟩
          ((repeat (first | (with_reducible exact Below.refl _ _) | (with_reducible refine Below.setCell ?_ ?_ _) | (with_reducible refine Below.alloc ?_ ?_ _) | (with_reducible refine Below.drew ?_) | (with_reducible refine Below.trans ?_ (Below.mono (by assumption) ?_)))); all_goals ((try simp only [World.size_alloc, World.size_drew, World.size_setCell]); omega))
        · go_wp2_with fail
          go_meet
          have hKB := KB1.out
          have hsz := hKB.size
          refine ⟨rfl, ⟨⟨2, 1, 3, 12, false, 4⟩, ⟨#[1, 2, 3, 4, 5, 6, 0, 0]⟩⟩, ⟨by go_simp, by go_simp, by go_simp, by go_simp, by go_simp, by go_simp, by go_simp, by go_simp <;> kernel_rfl, fun o => by go_simp⟩, by kernel_rfl, ?_⟩
          ((repeat (first | (with_reducible exact Below.refl _ _) | (with_reducible refine Below.setCell ?_ ?_ _) | (with_reducible refine Below.alloc ?_ ?_ _) | (with_reducible refine Below.drew ?_) | (with_reducible refine Below.trans ?_ (Below.mono (by assumption) ?_)))); all_goals ((try simp only [World.size_alloc, World.size_drew, World.size_setCell]); omega))
        · go_wp2_with fail
          go_meet
          have hKB := KB1.out
          have hsz := hKB.size
          refine ⟨rfl, ⟨⟨2, 1, 3, 8, false, 3⟩, ⟨#[1, 2, 3, 4, 5, 6, 0, 0]⟩⟩, ⟨by go_simp, by go_simp, by go_simp, by go_simp, by go_simp, by go_simp, by go_simp, by go_simp <;> kernel_rfl, fun o => by go_simp⟩, by kernel_rfl, ?_⟩
          ((repeat (first | (with_reducible exact Below.refl _ _) | (with_reducible refine Below.setCell ?_ ?_ _) | (with_reducible refine Below.alloc ?_ ?_ _) | (with_reducible refine Below.drew ?_) | (with_reducible refine Below.trans ?_ (Below.mono (by assumption) ?_)))); all_goals ((try simp only [World.size_alloc, World.size_drew, World.size_setCell]); omega))
        · go_wp2_with fail
          go_meet
          have hKB := KB1.out
          have hsz := hKB.size
          refine ⟨rfl, ⟨⟨2, 1, 3, 8, false, 0⟩, ⟨#[1, 2, 3, 4, 5, 6, 0, 0]⟩⟩, ⟨by go_simp, by go_simp, by go_simp, by go_simp, by go_simp, by go_simp, by go_simp, by go_simp <;> kernel_rfl, fun o => by go_simp⟩, by kernel_rfl, ?_⟩
          ((repeat (first | (with_reducible exact Below.refl _ _) | (with_reducible refine Below.setCell ?_ ?_ _) | (with_reducible refine Below.alloc ?_ ?_ _) | (with_reducible refine Below.drew ?_) | (with_reducible refine Below.trans ?_ (Below.mono (by assumption) ?_)))); all_goals ((try simp only [World.size_alloc, World.size_drew, World.size_setCell]); omega))
        · go_wp2_with fail
          go_meet
          have hKB := KB1.out
          have hsz := hKB.size
          refine ⟨rfl, ⟨⟨2, 1, 3, 8, false, 4⟩, ⟨#[1, 2, 3, 4, 5, 6, 0, 0, 0]⟩⟩, ⟨by go_simp, by go_simp, by go_simp, by go_simp, by go_simp, by go_simp, by go_simp, by go_simp <;> kernel_rfl, fun o => by go_simp⟩, by kernel_rfl, ?_⟩
          ((repeat (first | (with_reducible exact Below.refl _ _) | (with_reducible refine Below.setCell ?_ ?_ _) | (with_reducible refine Below.alloc ?_ ?_ _) | (with_reducible refine Below.drew ?_) | (with_reducible refine Below.trans ?_ (Below.mono (by assumption) ?_)))); all_goals ((try simp only [World.size_alloc, World.size_drew, World.size_setCell]); omega))
        · go_wp2_with fail
          go_meet
          have hKB := KB1.out
          have hsz := hKB.size
          refine ⟨rfl, ⟨⟨2, 1, 3, 8, false, 4⟩, ⟨#[1, 2, 3, 4, 5, 6, 0]⟩⟩, ⟨by go_simp, by go_simp, by go_simp, by go_simp, by go_simp, by go_simp, by go_simp, by go_simp <;> kernel_rfl, fun o => by go_simp⟩, by kernel_rfl, ?_⟩
          ((repeat (first | (with_reducible exact Below.refl _ _) | (with_reducible refine Below.setCell ?_ ?_ _) | (with_reducible refine Below.alloc ?_ ?_ _) | (with_reducible refine Below.drew ?_) | (with_reducible refine Below.trans ?_ (Below.mono (by assumption) ?_)))); all_goals ((try simp only [World.size_alloc, World.size_drew, World.size_setCell]); omega))
        · go_wp2_with fail
          go_meet
          have hKB := KB1.out
          have hsz := hKB.size
          refine ⟨rfl, ⟨⟨2, 1, 3, 8, true, 4⟩, ⟨#[1, 2, 3, 4, 5, 6, 0, 0]⟩⟩, ⟨by go_simp, by go_simp, by go_simp, by go_simp, by go_simp, by go_simp, by go_simp, by go_simp <;> kernel_rfl, fun o => by go_simp⟩, by kernel_rfl, ?_⟩
          ((repeat (first | (with_reducible exact Below.refl _ _) | (with_reducible refine Below.setCell ?_ ?_ _) | (with_reducible refine Below.alloc ?_ ?_ _) | (with_reducible refine Below.drew ?_) | (with_reducible refine Below.trans ?_ (Below.mono (by assumption) ?_)))); all_goals ((try simp only [World.size_alloc, World.size_drew, World.size_setCell]); omega))
        · go_wp2_with fail
          go_meet
          have hKB := KB1.out
          have hsz := hKB.size
          refine ⟨rfl, ⟨⟨2, 1, 3, 16, false, 4⟩, ⟨#[1, 2, 3, 4, 5, 6, 0, 0]⟩⟩, ⟨by go_simp, by go_simp, by go_simp, by go_simp, by go_simp, by go_simp, by go_simp, by go_simp <;> kernel_rfl, fun o => by go_simp⟩, by kernel_rfl, ?_⟩
          ((repeat (first | (with_reducible exact Below.refl _ _) | (with_reducible refine Below.setCell ?_ ?_ _) | (with_reducible refine Below.alloc ?_ ?_ _) | (with_reducible refine Below.drew ?_) | (with_reducible refine Below.trans ?_ (Below.mono (by assumption) ?_)))); all_goals ((try simp only [World.size_alloc, World.size_drew, World.size_setCell]); omega))
        · go_wp2_with fail
          go_meet
          have hKB := KB1.out
          have hsz := hKB.size
          refine ⟨rfl, ⟨⟨2, 1, 3, 8, false, 4⟩, ⟨#[1, 2, 3, 4, 5, 6, 1, 0]⟩⟩, ⟨by go_simp, by go_simp, by go_simp, by go_simp, by go_simp, by go_simp, by go_simp, by go_simp <;> kernel_rfl, fun o => by go_simp⟩, by kernel_rfl, ?_⟩
          ((repeat (first | (with_reducible exact Below.refl _ _) | (with_reducible refine Below.setCell ?_ ?_ _) | (with_reducible refine Below.alloc ?_ ?_ _) | (with_reducible refine Below.drew ?_) | (with_reducible refine Below.trans ?_ (Below.mono (by assumption) ?_)))); all_goals ((try simp only [World.size_alloc, World.size_drew, World.size_setCell]); omega))
        · go_wp2_with fail
          go_meet
          have hKB := KB1.out
          have hsz := hKB.size
          refine ⟨rfl, ⟨⟨-2, 1, 3, 8, false, 4⟩, ⟨#[1, 2, 3, 4, 5, 6, 0, 0]⟩⟩, ⟨by go_simp, by go_simp, by go_simp, by go_simp, by go_simp, by go_simp, by go_simp, by go_simp <;> kernel_rfl, fun o => by go_simp⟩, by kernel_rfl, ?_⟩
          ((repeat (first | (with_reducible exact Below.refl _ _) | (with_reducible refine Below.setCell ?_ ?_ _) | (with_reducible refine Below.alloc ?_ ?_ _) | (with_reducible refine Below.drew ?_) | (with_reducible refine Below.trans ?_ (Below.mono (by assumption) ?_)))); all_goals ((try simp only [World.size_alloc, World.size_drew, World.size_setCell]); omega))
      case rest =>
        obtain ⟨rfl, I, hI, hv, hbx⟩ := hcut
        replace KB := Lib.hid hbx
        have M := Lib.hid hI
        have HVB := Lib.hid hv
        clear hbx hI hv KB1 HB
        obtain ⟨oMl, oM0, oM1, oM2, oM3, oM4, oM5, oM6, oMz⟩ := M.out
        try dsimp only at oM0 oM1 oM2 oM3 oM4 oM5 oM6
        go_wp2_with fail
        (with_reducible refine calls_gen ?_)
        intro V1 hV
        have hP1 : Below wc.heap.size wc V1 := by
          rw [hV]
          ((repeat (first | (with_reducible exact Below.refl _ _) | (with_reducible refine Below.setCell ?_ ?_ _) | (with_reducible refine Below.alloc ?_ ?_ _) | (with_reducible refine Below.drew ?_) | (with_reducible refine Below.trans ?_ (Below.mono (by assumption) ?_)))); all_goals ((try simp only [World.size_alloc, World.size_drew, World.size_setCell]); omega))
        have hB1 : Below w.heap.size w V1 := KB.out.trans (hP1.mono KB.out.size)
        replace M := Lib.hid (M.out.below hP1)
        have H := Img_stride I V1
        try unfold ImPost at H
        try unfold IntsPost at H
        simp only [strR_bad HVB.out] at H
        try simp only [Im.v, Lay.img, sixI, Im.z, List.length_cons, List.length_nil, Nat.reduceAdd] at H
        have HH := Lib.hid H
        clear H hV
        clear oMl oM0 oM1 oM2 oM3 oM4 oM5 oM6 oMz
        (with_reducible refine HH.out.mono ?_)
        clear HH
        rintro e W1 ⟨rfl, hb⟩
        replace M := Lib.hid (M.out.below hb)
        replace KB := Lib.hid (hB1.trans (hb.mono hB1.size))
        clear hb hB1 hP1
        obtain ⟨oMl, oM0, oM1, oM2, oM3, oM4, oM5, oM6, oMz⟩ := M.out
        try dsimp only at oM0 oM1 oM2 oM3 oM4 oM5 oM6
        go_wp2_with fail
        (with_reducible refine calls_gen ?_)
        intro V2 hV
        have hP2 : Below W1.heap.size W1 V2 := by
          rw [hV]
          ((repeat (first | (with_reducible exact Below.refl _ _) | (with_reducible refine Below.setCell ?_ ?_ _) | (with_reducible refine Below.alloc ?_ ?_ _) | (with_reducible refine Below.drew ?_) | (with_reducible refine Below.trans ?_ (Below.mono (by assumption) ?_)))); all_goals ((try simp only [World.size_alloc, World.size_drew, World.size_setCell]); omega))
        have hB2 : Below w.heap.size w V2 := KB.out.trans (hP2.mono KB.out.size)
        replace M := Lib.hid (M.out.below hP2)
        have H := Img_get I 9 9 V2
        try unfold ImPost at H
        try unfold IntsPost at H
        simp only [getR_bad HVB.out] at H
        try simp only [Im.v, Lay.img, sixI, Im.z, List.length_cons, List.length_nil, Nat.reduceAdd] at H
        have HH := Lib.hid H
        clear H hV
        clear oMl oM0 oM1 oM2 oM3 oM4 oM5 oM6 oMz
        (with_reducible refine HH.out.mono ?_)
        clear HH
        rintro e W2 ⟨ga, gc, rfl, -, -, hb⟩
        replace M := Lib.hid (M.out.below hb)
        replace KB := Lib.hid (hB2.trans (hb.mono hB2.size))
        clear hb hB2 hP2
        obtain ⟨oMl, oM0, oM1, oM2, oM3, oM4, oM5, oM6, oMz⟩ := M.out
        try dsimp only at oM0 oM1 oM2 oM3 oM4 oM5 oM6
        go_wp2_with fail
        (with_reducible refine calls_gen ?_)
        intro V3 hV
        have hP3 : Below W2.heap.size W2 V3 := by
          rw [hV]
          ((repeat (first | (with_reducible exact Below.refl _ _) | (with_reducible refine Below.setCell ?_ ?_ _) | (with_reducible refine Below.alloc ?_ ?_ _) | (with_reducible refine Below.drew ?_) | (with_reducible refine Below.trans ?_ (Below.mono (by assumption) ?_)))); all_goals ((try simp only [World.size_alloc, World.size_drew, World.size_setCell]); omega))
        have hB3 : Below w.heap.size w V3 := KB.out.trans (hP3.mono KB.out.size)
        replace M := Lib.hid (M.out.below hP3)
        have H := Img_set I 9 9 [] none 0 V3 (Ints_nil _) (by decide)
        try unfold ImPost at H
        try unfold IntsPost at H
        simp only [setR_bad HVB.out] at H
        try simp only [Im.v, Lay.img, sixI, Im.z, List.length_cons, List.length_nil, Nat.reduceAdd] at H
        have HH := Lib.hid H
        clear H hV
        clear oMl oM0 oM1 oM2 oM3 oM4 oM5 oM6 oMz
        (with_reducible refine HH.out.mono ?_)
        clear HH
        rintro e W3 ⟨rfl, hb⟩
        replace M := Lib.hid (M.out.below hb)
        replace KB := Lib.hid (hB3.trans (hb.mono hB3.size))
        clear hb hB3 hP3
        obtain ⟨oMl, oM0, oM1, oM2, oM3, oM4, oM5, oM6, oMz⟩ := M.out
        try dsimp only at oM0 oM1 oM2 oM3 oM4 oM5 oM6
        go_wp2_with fail
        (with_reducible refine calls_gen ?_)
        intro V4 hV
        have hP4 : Below W3.heap.size W3 V4 := by
          rw [hV]
          ((repeat (first | (with_reducible exact Below.refl _ _) | (with_reducible refine Below.setCell ?_ ?_ _) | (with_reducible refine Below.alloc ?_ ?_ _) | (with_reducible refine Below.drew ?_) | (with_reducible refine Below.trans ?_ (Below.mono (by assumption) ?_)))); all_goals ((try simp only [World.size_alloc, World.size_drew, World.size_setCell]); omega))
        have hB4 : Below w.heap.size w V4 := KB.out.trans (hP4.mono KB.out.size)
        replace M := Lib.hid (M.out.below hP4)
        have H := Img_shape I 9 true 9 V4
        try unfold ImPost at H
        try unfold IntsPost at H
        simp only [shpR_bad HVB.out] at H
        try simp only [Im.v, Lay.img, sixI, Im.z, List.length_cons, List.length_nil, Nat.reduceAdd] at H
        have HH := Lib.hid H
        clear H hV
        clear oMl oM0 oM1 oM2 oM3 oM4 oM5 oM6 oMz
        (with_reducible refine HH.out.mono ?_)
        clear HH
        rintro e W4 ⟨rfl, hb⟩
        replace M := Lib.hid (M.out.below hb)
        replace KB := Lib.hid (hB4.trans (hb.mono hB4.size))
        clear hb hB4 hP4
        obtain ⟨oMl, oM0, oM1, oM2, oM3, oM4, oM5, oM6, oMz⟩ := M.out
        try dsimp only at oM0 oM1 oM2 oM3 oM4 oM5 oM6
        go_wp2_with fail
        (with_reducible refine calls_gen ?_)
        intro V5 hV
        have hP5 : Below W4.heap.size W4 V5 := by
          rw [hV]
          ((repeat (first | (with_reducible exact Below.refl _ _) | (with_reducible refine Below.setCell ?_ ?_ _) | (with_reducible refine Below.alloc ?_ ?_ _) | (with_reducible refine Below.drew ?_) | (with_reducible refine Below.trans ?_ (Below.mono (by assumption) ?_)))); all_goals ((try simp only [World.size_alloc, World.size_drew, World.size_setCell]); omega))
        have hB5 : Below w.heap.size w V5 := KB.out.trans (hP5.mono KB.out.size)
        replace M := Lib.hid (M.out.below hP5)
        have H := Img_cut I 9 9 9 9 V5
        try unfold ImPost at H
        try unfold IntsPost at H
        simp only [cutR_bad HVB.out] at H
        try simp only [Im.v, Lay.img, sixI, Im.z, List.length_cons, List.length_nil, Nat.reduceAdd] at H
        have HH := Lib.hid H
        clear H hV
        clear oMl oM0 oM1 oM2 oM3 oM4 oM5 oM6 oMz
        (with_reducible refine HH.out.mono ?_)
        clear HH
        rintro e W5 ⟨rfl, hb⟩
        replace M := Lib.hid (M.out.below hb)
        replace KB := Lib.hid (hB5.trans (hb.mono hB5.size))
        clear hb hB5 hP5
        have HPA : ∀ V, Calls Try.prog 31 #[imgV I.L.W I.L.H I.L.C I.L.B I.L.pl I.L.P I.O, imgV 2 1 3 8 false 4 ⟨#[1, 2, 3, 4, 5, 6, 0, 0]⟩, .int .i64 9, .int .i64 9] V fun e w' => e = .returned (.tuple #[zimg, .int .i64 420]) ∧ Below V.heap.size V w' := fun V => by
          have H := Img_paste I sixI 9 9 V
          unfold ImPost at H
          rw [pasR_bad HVB.out] at H
          exact H
        have HPB : ∀ V, Calls Try.prog 31 #[imgV 2 1 3 8 false 4 ⟨#[1, 2, 3, 4, 5, 6, 0, 0]⟩, imgV I.L.W I.L.H I.L.C I.L.B I.L.pl I.L.P I.O, .int .i64 9, .int .i64 9] V fun e w' => e = .returned (.tuple #[zimg, .int .i64 420]) ∧ Below V.heap.size V w' := fun V => by
          have H := Img_paste sixI I 9 9 V
          unfold ImPost at H
          rw [pasR_bad2 HVB.out] at H
          exact H
        have HPA' := Lib.hid HPA
        have HPB' := Lib.hid HPB
        clear HPA HPB
        obtain ⟨oMl, oM0, oM1, oM2, oM3, oM4, oM5, oM6, oMz⟩ := M.out
        try dsimp only at oM0 oM1 oM2 oM3 oM4 oM5 oM6
        go_upto_region 37 with fail
        go_cut [13, 14, 52] from 52 to 171 (fun p q s wx => q = .int .i64 420 ∧ s = .int .i64 k ∧ HasIm wx Wa.heap.size I ∧ Below w.heap.size w wx)
        case first =>
          (with_reducible refine wp_gen ?_)
          intro V0 hV
          have hP : Below W5.heap.size W5 V0 := by
            rw [hV]
            ((repeat (first | (with_reducible exact Below.refl _ _) | (with_reducible refine Below.setCell ?_ ?_ _) | (with_reducible refine Below.alloc ?_ ?_ _) | (with_reducible refine Below.drew ?_) | (with_reducible refine Below.trans ?_ (Below.mono (by assumption) ?_)))); all_goals ((try simp only [World.size_alloc, World.size_drew, World.size_setCell]); omega))
          have hM := M.out.below hP
          have hKB := KB.out.trans (hP.mono KB.out.size)
          clear hV oMl oM0 oM1 oM2 oM3 oM4 oM5 oM6 oMz
          refine wp_region_held_drew (S := fun V => HasIm V Wa.heap.size I ∧ Below w.heap.size w V) (by kernel_rfl) ⟨hM.below (Below.refl _ _).drew, hKB.drew⟩ (fun hHeld => ?_)
          refine wpAnyH_gen ?_
          intro U0 hU
          have hM0 : HasIm U0 Wa.heap.size I := by rw [hU]; exact hHeld.1
          have hKB : Below w.heap.size w U0 := by rw [hU]; exact hHeld.2
          replace hHeld : HasIm U0 Wa.heap.size I ∧ Below w.heap.size w U0 := ⟨hM0, hKB⟩
          clear hU
          refine wpAnyH_take (i := 0) (v := .agg #[.int .i64 I.L.W, .int .i64 I.L.H, .int .i64 I.L.C, .int .i64 I.L.B, .bool I.L.pl, .int .i64 I.L.P, .string I.O]) rfl (by kernel_rfl) (by kernel_rfl) (by kernel_rfl) (fun _ _ _ h => h) (Or.inl ⟨by rfl, ?_⟩) hHeld ?_
          · rintro V ⟨⟨x0l, x00, x01, x02, x03, x04, x05, x06, x0z⟩, -⟩
            go_simp
          try simp only [Act.put, List.getElem_toArray, List.getElem_cons_succ, List.getElem_cons_zero, List.setIfInBounds_toArray, List.set_cons_zero, List.set_cons_succ]
          refine wpAnyH_ready (rs := [1, 6]) (by kernel_rfl) (by simp) ?_
          refine AllReadyH.cons rfl (fun K hK => ?_) ?_
          · go_simp
            (with_reducible refine calls_gen ?_)
            intro U1 hU
            have hM0 : HasIm U1 Wa.heap.size I := by rw [hU]; exact hHeld.1
            have hKB : Below w.heap.size w U1 := by rw [hU]; exact hHeld.2
            (with_reducible refine (six_any U1).mono ?_)
            rintro e N1 ⟨rfl, hb⟩
            refine hK.out _ _ ⟨hM0.below hb, hKB.trans (hb.mono hKB.size)⟩ (fun hHeld => ?_)
            clear hK
            refine wpAnyH_ready (rs := [2, 6]) (by kernel_rfl) (by simp) ?_
            refine AllReadyH.cons rfl (fun K hK => ?_) ?_
            · go_simp
              (with_reducible refine calls_gen ?_)
              intro U2 hU
              have hM0 : HasIm U2 Wa.heap.size I := by rw [hU]; exact hHeld.1
              have hKB : Below w.heap.size w U2 := by rw [hU]; exact hHeld.2
              (with_reducible refine (HPA'.out U2).mono ?_)
              rintro e N2 ⟨rfl, hb⟩
              refine hK.out _ _ ⟨hM0.below hb, hKB.trans (hb.mono hKB.size)⟩ (fun hHeld => ?_)
              clear hK
              refine wpAnyH_take (i := 3) (v := .tuple #[zimg, .int .i64 420]) rfl (by kernel_rfl) (by kernel_rfl) (by kernel_rfl) (fun _ _ _ h => h) (Or.inl ⟨by rfl, ?_⟩) hHeld ?_
              · rintro V ⟨⟨x0l, x00, x01, x02, x03, x04, x05, x06, x0z⟩, -⟩
                go_simp
              try simp only [Act.put, List.getElem_toArray, List.getElem_cons_succ, List.getElem_cons_zero, List.setIfInBounds_toArray, List.set_cons_zero, List.set_cons_succ]
              refine wpAnyH_take (i := 4) (v := zimg) rfl (by kernel_rfl) (by kernel_rfl) (by kernel_rfl) (fun _ _ _ h => h) (Or.inl ⟨by rfl, ?_⟩) hHeld ?_
              · rintro V ⟨⟨x0l, x00, x01, x02, x03, x04, x05, x06, x0z⟩, -⟩
                go_simp
              try simp only [Act.put, List.getElem_toArray, List.getElem_cons_succ, List.getElem_cons_zero, List.setIfInBounds_toArray, List.set_cons_zero, List.set_cons_succ]
              refine wpAnyH_take (i := 5) (v := .int .i64 420) rfl (by kernel_rfl) (by kernel_rfl) (by kernel_rfl) (fun _ _ _ h => h) (Or.inl ⟨by rfl, ?_⟩) hHeld ?_
              · rintro V ⟨⟨x0l, x00, x01, x02, x03, x04, x05, x06, x0z⟩, -⟩
                go_simp
              try simp only [Act.put, List.getElem_toArray, List.getElem_cons_succ, List.getElem_cons_zero, List.setIfInBounds_toArray, List.set_cons_zero, List.set_cons_succ]
              refine wpAnyH_ready (rs := [6]) (by kernel_rfl) (by simp) ?_
              refine AllReadyH.cons rfl (fun K hK => ?_) AllReadyH.nil
              go_simp
              have hneT0 : Wa.heap.size ≠ N2.heap.size := Nat.ne_of_lt hHeld.1.lt
              have hleT : w.heap.size ≤ N2.heap.size := hHeld.2.size
              refine hK.out _ _ ⟨hHeld.1.below ((Below.refl _ _).alloc (Nat.le_refl _) _), hHeld.2.alloc hHeld.2.size _⟩ (fun hHeld => ?_)
              clear hK
              have hXT : HasIm (N2.alloc (.cells #[.int .i64 0, .int .i64 0, .int .i64 0, .int .i64 0, .bool false, .int .i64 0, .string ⟨#[]⟩] 31)) N2.heap.size ⟨⟨0, 0, 0, 0, false, 0⟩, ⟨#[]⟩⟩ := ⟨by go_simp, by go_simp, by go_simp, by go_simp, by go_simp, by go_simp, by go_simp, by go_simp, fun o => by go_simp⟩
              refine wpAnyH_gen ?_
              intro U3 hU
              have hM0 : HasIm U3 Wa.heap.size I := by rw [hU]; exact hHeld.1
              have hKB : Below w.heap.size w U3 := by rw [hU]; exact hHeld.2
              have hXT : HasIm U3 N2.heap.size ⟨⟨0, 0, 0, 0, false, 0⟩, ⟨#[]⟩⟩ := by rw [hU]; exact hXT
              replace hHeld : HasIm U3 Wa.heap.size I ∧ Below w.heap.size w U3 := ⟨hM0, hKB⟩
              clear hU
              refine wpAnyH_ready (rs := [7]) (by kernel_rfl) (by simp) ?_
              refine AllReadyH.cons rfl (fun K hK => ?_) AllReadyH.nil
              obtain ⟨oXl, oX0, oX1, oX2, oX3, oX4, oX5, oX6, oXz⟩ := hXT
              try dsimp only at oX0 oX1 oX2 oX3 oX4 oX5 oX6
              go_simp
              refine hK.out _ _ ⟨(((((((hHeld.1.set_other hneT0 _).set_other hneT0 _).set_other hneT0 _).set_other hneT0 _).set_other hneT0 _).set_other hneT0 _).set_other hneT0 _), (((((((hHeld.2.setCell hleT _).setCell hleT _).setCell hleT _).setCell hleT _).setCell hleT _).setCell hleT _).setCell hleT _)⟩ (fun hHeld => ?_)
              clear hK
              refine wpAnyH_take (i := 8) (v := .int .i64 420) rfl (by kernel_rfl) (by kernel_rfl) (by kernel_rfl) (fun _ _ _ h => h) (Or.inl ⟨by rfl, ?_⟩) hHeld ?_
              · rintro V ⟨⟨x0l, x00, x01, x02, x03, x04, x05, x06, x0z⟩, -⟩
                go_simp
              try simp only [Act.put, List.getElem_toArray, List.getElem_cons_succ, List.getElem_cons_zero, List.setIfInBounds_toArray, List.set_cons_zero, List.set_cons_succ]
              refine wpAnyH_done (by kernel_rfl) ?_ _
              try simp only [Act.put, List.getElem_toArray, List.getElem_cons_succ, List.getElem_cons_zero, List.setIfInBounds_toArray, List.set_cons_zero, List.set_cons_succ]
              go_wp2_with fail
              go_meet
              exact ⟨rfl, rfl, hHeld.1, hHeld.2⟩
            refine AllReadyH.cons rfl (fun K hK => ?_) AllReadyH.nil
            go_simp
            have hneT0 : Wa.heap.size ≠ N1.heap.size := Nat.ne_of_lt hHeld.1.lt
            have hleT : w.heap.size ≤ N1.heap.size := hHeld.2.size
            refine hK.out _ _ ⟨hHeld.1.below ((Below.refl _ _).alloc (Nat.le_refl _) _), hHeld.2.alloc hHeld.2.size _⟩ (fun hHeld => ?_)
            clear hK
            have hXT : HasIm (N1.alloc (.cells #[.int .i64 0, .int .i64 0, .int .i64 0, .int .i64 0, .bool false, .int .i64 0, .string ⟨#[]⟩] 31)) N1.heap.size ⟨⟨0, 0, 0, 0, false, 0⟩, ⟨#[]⟩⟩ := ⟨by go_simp, by go_simp, by go_simp, by go_simp, by go_simp, by go_simp, by go_simp, by go_simp, fun o => by go_simp⟩
            refine wpAnyH_gen ?_
            intro U4 hU
            have hM0 : HasIm U4 Wa.heap.size I := by rw [hU]; exact hHeld.1
            have hKB : Below w.heap.size w U4 := by rw [hU]; exact hHeld.2
            have hXT : HasIm U4 N1.heap.size ⟨⟨0, 0, 0, 0, false, 0⟩, ⟨#[]⟩⟩ := by rw [hU]; exact hXT
            replace hHeld : HasIm U4 Wa.heap.size I ∧ Below w.heap.size w U4 := ⟨hM0, hKB⟩
            clear hU
            refine wpAnyH_ready (rs := [2]) (by kernel_rfl) (by simp) ?_
            refine AllReadyH.cons rfl (fun K hK => ?_) AllReadyH.nil
            go_simp
            (with_reducible refine calls_gen ?_)
            intro U5 hU
            have hM0 : HasIm U5 Wa.heap.size I := by rw [hU]; exact hHeld.1
            have hKB : Below w.heap.size w U5 := by rw [hU]; exact hHeld.2
            have hXT : HasIm U5 N1.heap.size ⟨⟨0, 0, 0, 0, false, 0⟩, ⟨#[]⟩⟩ := by rw [hU]; exact hXT
            (with_reducible refine (HPA'.out U5).mono ?_)
            rintro e N5 ⟨rfl, hb⟩
            replace hXT := hXT.below hb
            refine hK.out _ _ ⟨hM0.below hb, hKB.trans (hb.mono hKB.size)⟩ (fun hHeld => ?_)
            clear hK
            refine wpAnyH_take (i := 3) (v := .tuple #[zimg, .int .i64 420]) rfl (by kernel_rfl) (by kernel_rfl) (by kernel_rfl) (fun _ _ _ h => h) (Or.inl ⟨by rfl, ?_⟩) hHeld ?_
            · rintro V ⟨⟨x0l, x00, x01, x02, x03, x04, x05, x06, x0z⟩, -⟩
              go_simp
            try simp only [Act.put, List.getElem_toArray, List.getElem_cons_succ, List.getElem_cons_zero, List.setIfInBounds_toArray, List.set_cons_zero, List.set_cons_succ]
            refine wpAnyH_take (i := 4) (v := zimg) rfl (by kernel_rfl) (by kernel_rfl) (by kernel_rfl) (fun _ _ _ h => h) (Or.inl ⟨by rfl, ?_⟩) hHeld ?_
            · rintro V ⟨⟨x0l, x00, x01, x02, x03, x04, x05, x06, x0z⟩, -⟩
              go_simp
            try simp only [Act.put, List.getElem_toArray, List.getElem_cons_succ, List.getElem_cons_zero, List.setIfInBounds_toArray, List.set_cons_zero, List.set_cons_succ]
            refine wpAnyH_take (i := 5) (v := .int .i64 420) rfl (by kernel_rfl) (by kernel_rfl) (by kernel_rfl) (fun _ _ _ h => h) (Or.inl ⟨by rfl, ?_⟩) hHeld ?_
            · rintro V ⟨⟨x0l, x00, x01, x02, x03, x04, x05, x06, x0z⟩, -⟩
              go_simp
            try simp only [Act.put, List.getElem_toArray, List.getElem_cons_succ, List.getElem_cons_zero, List.setIfInBounds_toArray, List.set_cons_zero, List.set_cons_succ]
            refine wpAnyH_ready (rs := [7]) (by kernel_rfl) (by simp) ?_
            refine AllReadyH.cons rfl (fun K hK => ?_) AllReadyH.nil
            obtain ⟨oXl, oX0, oX1, oX2, oX3, oX4, oX5, oX6, oXz⟩ := hXT
            try dsimp only at oX0 oX1 oX2 oX3 oX4 oX5 oX6
            go_simp
            refine hK.out _ _ ⟨(((((((hHeld.1.set_other hneT0 _).set_other hneT0 _).set_other hneT0 _).set_other hneT0 _).set_other hneT0 _).set_other hneT0 _).set_other hneT0 _), (((((((hHeld.2.setCell hleT _).setCell hleT _).setCell hleT _).setCell hleT _).setCell hleT _).setCell hleT _).setCell hleT _)⟩ (fun hHeld => ?_)
            clear hK
            refine wpAnyH_take (i := 8) (v := .int .i64 420) rfl (by kernel_rfl) (by kernel_rfl) (by kernel_rfl) (fun _ _ _ h => h) (Or.inl ⟨by rfl, ?_⟩) hHeld ?_
            · rintro V ⟨⟨x0l, x00, x01, x02, x03, x04, x05, x06, x0z⟩, -⟩
              go_simp
            try simp only [Act.put, List.getElem_toArray, List.getElem_cons_succ, List.getElem_cons_zero, List.setIfInBounds_toArray, List.set_cons_zero, List.set_cons_succ]
            refine wpAnyH_done (by kernel_rfl) ?_ _
            try simp only [Act.put, List.getElem_toArray, List.getElem_cons_succ, List.getElem_cons_zero, List.setIfInBounds_toArray, List.set_cons_zero, List.set_cons_succ]
            go_wp2_with fail
            go_meet
            exact ⟨rfl, rfl, hHeld.1, hHeld.2⟩
          refine AllReadyH.cons rfl (fun K hK => ?_) AllReadyH.nil
          go_simp
          have hneT0 : Wa.heap.size ≠ U0.heap.size := Nat.ne_of_lt hHeld.1.lt
          have hleT : w.heap.size ≤ U0.heap.size := hHeld.2.size
          refine hK.out _ _ ⟨hHeld.1.below ((Below.refl _ _).alloc (Nat.le_refl _) _), hHeld.2.alloc hHeld.2.size _⟩ (fun hHeld => ?_)
          clear hK
          have hXT : HasIm (U0.alloc (.cells #[.int .i64 0, .int .i64 0, .int .i64 0, .int .i64 0, .bool false, .int .i64 0, .string ⟨#[]⟩] 31)) U0.heap.size ⟨⟨0, 0, 0, 0, false, 0⟩, ⟨#[]⟩⟩ := ⟨by go_simp, by go_simp, by go_simp, by go_simp, by go_simp, by go_simp, by go_simp, by go_simp, fun o => by go_simp⟩
          refine wpAnyH_gen ?_
          intro U6 hU
          have hM0 : HasIm U6 Wa.heap.size I := by rw [hU]; exact hHeld.1
          have hKB : Below w.heap.size w U6 := by rw [hU]; exact hHeld.2
          have hXT : HasIm U6 U0.heap.size ⟨⟨0, 0, 0, 0, false, 0⟩, ⟨#[]⟩⟩ := by rw [hU]; exact hXT
          replace hHeld : HasIm U6 Wa.heap.size I ∧ Below w.heap.size w U6 := ⟨hM0, hKB⟩
          clear hU
          refine wpAnyH_ready (rs := [1]) (by kernel_rfl) (by simp) ?_
          refine AllReadyH.cons rfl (fun K hK => ?_) AllReadyH.nil
          go_simp
          (with_reducible refine calls_gen ?_)
          intro U7 hU
          have hM0 : HasIm U7 Wa.heap.size I := by rw [hU]; exact hHeld.1
          have hKB : Below w.heap.size w U7 := by rw [hU]; exact hHeld.2
          have hXT : HasIm U7 U0.heap.size ⟨⟨0, 0, 0, 0, false, 0⟩, ⟨#[]⟩⟩ := by rw [hU]; exact hXT
          (with_reducible refine (six_any U7).mono ?_)
          rintro e N7 ⟨rfl, hb⟩
          replace hXT := hXT.below hb
          refine hK.out _ _ ⟨hM0.below hb, hKB.trans (hb.mono hKB.size)⟩ (fun hHeld => ?_)
          clear hK
          refine wpAnyH_ready (rs := [2]) (by kernel_rfl) (by simp) ?_
          refine AllReadyH.cons rfl (fun K hK => ?_) AllReadyH.nil
          go_simp
          (with_reducible refine calls_gen ?_)
          intro U8 hU
          have hM0 : HasIm U8 Wa.heap.size I := by rw [hU]; exact hHeld.1
          have hKB : Below w.heap.size w U8 := by rw [hU]; exact hHeld.2
          have hXT : HasIm U8 U0.heap.size ⟨⟨0, 0, 0, 0, false, 0⟩, ⟨#[]⟩⟩ := by rw [hU]; exact hXT
          (with_reducible refine (HPA'.out U8).mono ?_)
          rintro e N8 ⟨rfl, hb⟩
          replace hXT := hXT.below hb
          refine hK.out _ _ ⟨hM0.below hb, hKB.trans (hb.mono hKB.size)⟩ (fun hHeld => ?_)
          clear hK
          refine wpAnyH_take (i := 3) (v := .tuple #[zimg, .int .i64 420]) rfl (by kernel_rfl) (by kernel_rfl) (by kernel_rfl) (fun _ _ _ h => h) (Or.inl ⟨by rfl, ?_⟩) hHeld ?_
          · rintro V ⟨⟨x0l, x00, x01, x02, x03, x04, x05, x06, x0z⟩, -⟩
            go_simp
          try simp only [Act.put, List.getElem_toArray, List.getElem_cons_succ, List.getElem_cons_zero, List.setIfInBounds_toArray, List.set_cons_zero, List.set_cons_succ]
          refine wpAnyH_take (i := 4) (v := zimg) rfl (by kernel_rfl) (by kernel_rfl) (by kernel_rfl) (fun _ _ _ h => h) (Or.inl ⟨by rfl, ?_⟩) hHeld ?_
          · rintro V ⟨⟨x0l, x00, x01, x02, x03, x04, x05, x06, x0z⟩, -⟩
            go_simp
          try simp only [Act.put, List.getElem_toArray, List.getElem_cons_succ, List.getElem_cons_zero, List.setIfInBounds_toArray, List.set_cons_zero, List.set_cons_succ]
          refine wpAnyH_take (i := 5) (v := .int .i64 420) rfl (by kernel_rfl) (by kernel_rfl) (by kernel_rfl) (fun _ _ _ h => h) (Or.inl ⟨by rfl, ?_⟩) hHeld ?_
          · rintro V ⟨⟨x0l, x00, x01, x02, x03, x04, x05, x06, x0z⟩, -⟩
            go_simp
          try simp only [Act.put, List.getElem_toArray, List.getElem_cons_succ, List.getElem_cons_zero, List.setIfInBounds_toArray, List.set_cons_zero, List.set_cons_succ]
          refine wpAnyH_ready (rs := [7]) (by kernel_rfl) (by simp) ?_
          refine AllReadyH.cons rfl (fun K hK => ?_) AllReadyH.nil
          obtain ⟨oXl, oX0, oX1, oX2, oX3, oX4, oX5, oX6, oXz⟩ := hXT
          try dsimp only at oX0 oX1 oX2 oX3 oX4 oX5 oX6
          go_simp
          refine hK.out _ _ ⟨(((((((hHeld.1.set_other hneT0 _).set_other hneT0 _).set_other hneT0 _).set_other hneT0 _).set_other hneT0 _).set_other hneT0 _).set_other hneT0 _), (((((((hHeld.2.setCell hleT _).setCell hleT _).setCell hleT _).setCell hleT _).setCell hleT _).setCell hleT _).setCell hleT _)⟩ (fun hHeld => ?_)
          clear hK
          refine wpAnyH_take (i := 8) (v := .int .i64 420) rfl (by kernel_rfl) (by kernel_rfl) (by kernel_rfl) (fun _ _ _ h => h) (Or.inl ⟨by rfl, ?_⟩) hHeld ?_
          · rintro V ⟨⟨x0l, x00, x01, x02, x03, x04, x05, x06, x0z⟩, -⟩
            go_simp
          try simp only [Act.put, List.getElem_toArray, List.getElem_cons_succ, List.getElem_cons_zero, List.setIfInBounds_toArray, List.set_cons_zero, List.set_cons_succ]
          refine wpAnyH_done (by kernel_rfl) ?_ _
          try simp only [Act.put, List.getElem_toArray, List.getElem_cons_succ, List.getElem_cons_zero, List.setIfInBounds_toArray, List.set_cons_zero, List.set_cons_succ]
          go_wp2_with fail
          go_meet
          exact ⟨rfl, rfl, hHeld.1, hHeld.2⟩
        case rest =>
          obtain ⟨rfl, rfl, hI, hbx⟩ := hcut
          replace KB := Lib.hid hbx
          replace M := Lib.hid hI
          clear hbx hI
          obtain ⟨oMl, oM0, oM1, oM2, oM3, oM4, oM5, oM6, oMz⟩ := M.out
          try dsimp only at oM0 oM1 oM2 oM3 oM4 oM5 oM6
          go_upto_region 38 with fail
          go_cut [15, 16, 52] from 52 to 171 (fun p q s wx => q = .int .i64 420 ∧ s = .int .i64 k ∧ HasIm wx Wa.heap.size I ∧ Below w.heap.size w wx)
          case first =>
            (with_reducible refine wp_gen ?_)
            intro V0 hV
            have hP : Below wc.heap.size wc V0 := by
              rw [hV]
              ((repeat (first | (with_reducible exact Below.refl _ _) | (with_reducible refine Below.setCell ?_ ?_ _) | (with_reducible refine Below.alloc ?_ ?_ _) | (with_reducible refine Below.drew ?_) | (with_reducible refine Below.trans ?_ (Below.mono (by assumption) ?_)))); all_goals ((try simp only [World.size_alloc, World.size_drew, World.size_setCell]); omega))
            have hM := M.out.below hP
            have hKB := KB.out.trans (hP.mono KB.out.size)
            clear hV oMl oM0 oM1 oM2 oM3 oM4 oM5 oM6 oMz
            refine wp_region_held_drew (S := fun V => HasIm V Wa.heap.size I ∧ Below w.heap.size w V) (by kernel_rfl) ⟨hM.below (Below.refl _ _).drew, hKB.drew⟩ (fun hHeld => ?_)
            refine wpAnyH_gen ?_
            intro U0 hU
            have hM0 : HasIm U0 Wa.heap.size I := by rw [hU]; exact hHeld.1
            have hKB : Below w.heap.size w U0 := by rw [hU]; exact hHeld.2
            replace hHeld : HasIm U0 Wa.heap.size I ∧ Below w.heap.size w U0 := ⟨hM0, hKB⟩
            clear hU
            refine wpAnyH_take (i := 1) (v := .agg #[.int .i64 I.L.W, .int .i64 I.L.H, .int .i64 I.L.C, .int .i64 I.L.B, .bool I.L.pl, .int .i64 I.L.P, .string I.O]) rfl (by kernel_rfl) (by kernel_rfl) (by kernel_rfl) (fun _ _ _ h => h) (Or.inl ⟨by rfl, ?_⟩) hHeld ?_
            · rintro V ⟨⟨x0l, x00, x01, x02, x03, x04, x05, x06, x0z⟩, -⟩
              go_simp
            try simp only [Act.put, List.getElem_toArray, List.getElem_cons_succ, List.getElem_cons_zero, List.setIfInBounds_toArray, List.set_cons_zero, List.set_cons_succ]
            refine wpAnyH_ready (rs := [0, 6]) (by kernel_rfl) (by simp) ?_
            refine AllReadyH.cons rfl (fun K hK => ?_) ?_
            · go_simp
              (with_reducible refine calls_gen ?_)
              intro U1 hU
              have hM0 : HasIm U1 Wa.heap.size I := by rw [hU]; exact hHeld.1
              have hKB : Below w.heap.size w U1 := by rw [hU]; exact hHeld.2
              (with_reducible refine (six_any U1).mono ?_)
              rintro e N1 ⟨rfl, hb⟩
              refine hK.out _ _ ⟨hM0.below hb, hKB.trans (hb.mono hKB.size)⟩ (fun hHeld => ?_)
              clear hK
              refine wpAnyH_ready (rs := [2, 6]) (by kernel_rfl) (by simp) ?_
              refine AllReadyH.cons rfl (fun K hK => ?_) ?_
              · go_simp
                (with_reducible refine calls_gen ?_)
                intro U2 hU
                have hM0 : HasIm U2 Wa.heap.size I := by rw [hU]; exact hHeld.1
                have hKB : Below w.heap.size w U2 := by rw [hU]; exact hHeld.2
                (with_reducible refine (HPB'.out U2).mono ?_)
                rintro e N2 ⟨rfl, hb⟩
                refine hK.out _ _ ⟨hM0.below hb, hKB.trans (hb.mono hKB.size)⟩ (fun hHeld => ?_)
                clear hK
                refine wpAnyH_take (i := 3) (v := .tuple #[zimg, .int .i64 420]) rfl (by kernel_rfl) (by kernel_rfl) (by kernel_rfl) (fun _ _ _ h => h) (Or.inl ⟨by rfl, ?_⟩) hHeld ?_
                · rintro V ⟨⟨x0l, x00, x01, x02, x03, x04, x05, x06, x0z⟩, -⟩
                  go_simp
                try simp only [Act.put, List.getElem_toArray, List.getElem_cons_succ, List.getElem_cons_zero, List.setIfInBounds_toArray, List.set_cons_zero, List.set_cons_succ]
                refine wpAnyH_take (i := 4) (v := zimg) rfl (by kernel_rfl) (by kernel_rfl) (by kernel_rfl) (fun _ _ _ h => h) (Or.inl ⟨by rfl, ?_⟩) hHeld ?_
                · rintro V ⟨⟨x0l, x00, x01, x02, x03, x04, x05, x06, x0z⟩, -⟩
                  go_simp
                try simp only [Act.put, List.getElem_toArray, List.getElem_cons_succ, List.getElem_cons_zero, List.setIfInBounds_toArray, List.set_cons_zero, List.set_cons_succ]
                refine wpAnyH_take (i := 5) (v := .int .i64 420) rfl (by kernel_rfl) (by kernel_rfl) (by kernel_rfl) (fun _ _ _ h => h) (Or.inl ⟨by rfl, ?_⟩) hHeld ?_
                · rintro V ⟨⟨x0l, x00, x01, x02, x03, x04, x05, x06, x0z⟩, -⟩
                  go_simp
                try simp only [Act.put, List.getElem_toArray, List.getElem_cons_succ, List.getElem_cons_zero, List.setIfInBounds_toArray, List.set_cons_zero, List.set_cons_succ]
                refine wpAnyH_ready (rs := [6]) (by kernel_rfl) (by simp) ?_
                refine AllReadyH.cons rfl (fun K hK => ?_) AllReadyH.nil
                go_simp
                have hneT0 : Wa.heap.size ≠ N2.heap.size := Nat.ne_of_lt hHeld.1.lt
                have hleT : w.heap.size ≤ N2.heap.size := hHeld.2.size
                refine hK.out _ _ ⟨hHeld.1.below ((Below.refl _ _).alloc (Nat.le_refl _) _), hHeld.2.alloc hHeld.2.size _⟩ (fun hHeld => ?_)
                clear hK
                have hXT : HasIm (N2.alloc (.cells #[.int .i64 0, .int .i64 0, .int .i64 0, .int .i64 0, .bool false, .int .i64 0, .string ⟨#[]⟩] 31)) N2.heap.size ⟨⟨0, 0, 0, 0, false, 0⟩, ⟨#[]⟩⟩ := ⟨by go_simp, by go_simp, by go_simp, by go_simp, by go_simp, by go_simp, by go_simp, by go_simp, fun o => by go_simp⟩
                refine wpAnyH_gen ?_
                intro U3 hU
                have hM0 : HasIm U3 Wa.heap.size I := by rw [hU]; exact hHeld.1
                have hKB : Below w.heap.size w U3 := by rw [hU]; exact hHeld.2
                have hXT : HasIm U3 N2.heap.size ⟨⟨0, 0, 0, 0, false, 0⟩, ⟨#[]⟩⟩ := by rw [hU]; exact hXT
                replace hHeld : HasIm U3 Wa.heap.size I ∧ Below w.heap.size w U3 := ⟨hM0, hKB⟩
                clear hU
                refine wpAnyH_ready (rs := [7]) (by kernel_rfl) (by simp) ?_
                refine AllReadyH.cons rfl (fun K hK => ?_) AllReadyH.nil
                obtain ⟨oXl, oX0, oX1, oX2, oX3, oX4, oX5, oX6, oXz⟩ := hXT
                try dsimp only at oX0 oX1 oX2 oX3 oX4 oX5 oX6
                go_simp
                refine hK.out _ _ ⟨(((((((hHeld.1.set_other hneT0 _).set_other hneT0 _).set_other hneT0 _).set_other hneT0 _).set_other hneT0 _).set_other hneT0 _).set_other hneT0 _), (((((((hHeld.2.setCell hleT _).setCell hleT _).setCell hleT _).setCell hleT _).setCell hleT _).setCell hleT _).setCell hleT _)⟩ (fun hHeld => ?_)
                clear hK
                refine wpAnyH_take (i := 8) (v := .int .i64 420) rfl (by kernel_rfl) (by kernel_rfl) (by kernel_rfl) (fun _ _ _ h => h) (Or.inl ⟨by rfl, ?_⟩) hHeld ?_
                · rintro V ⟨⟨x0l, x00, x01, x02, x03, x04, x05, x06, x0z⟩, -⟩
                  go_simp
                try simp only [Act.put, List.getElem_toArray, List.getElem_cons_succ, List.getElem_cons_zero, List.setIfInBounds_toArray, List.set_cons_zero, List.set_cons_succ]
                refine wpAnyH_done (by kernel_rfl) ?_ _
                try simp only [Act.put, List.getElem_toArray, List.getElem_cons_succ, List.getElem_cons_zero, List.setIfInBounds_toArray, List.set_cons_zero, List.set_cons_succ]
                go_wp2_with fail
                go_meet
                exact ⟨rfl, rfl, hHeld.1, hHeld.2⟩
              refine AllReadyH.cons rfl (fun K hK => ?_) AllReadyH.nil
              go_simp
              have hneT0 : Wa.heap.size ≠ N1.heap.size := Nat.ne_of_lt hHeld.1.lt
              have hleT : w.heap.size ≤ N1.heap.size := hHeld.2.size
              refine hK.out _ _ ⟨hHeld.1.below ((Below.refl _ _).alloc (Nat.le_refl _) _), hHeld.2.alloc hHeld.2.size _⟩ (fun hHeld => ?_)
              clear hK
              have hXT : HasIm (N1.alloc (.cells #[.int .i64 0, .int .i64 0, .int .i64 0, .int .i64 0, .bool false, .int .i64 0, .string ⟨#[]⟩] 31)) N1.heap.size ⟨⟨0, 0, 0, 0, false, 0⟩, ⟨#[]⟩⟩ := ⟨by go_simp, by go_simp, by go_simp, by go_simp, by go_simp, by go_simp, by go_simp, by go_simp, fun o => by go_simp⟩
              refine wpAnyH_gen ?_
              intro U4 hU
              have hM0 : HasIm U4 Wa.heap.size I := by rw [hU]; exact hHeld.1
              have hKB : Below w.heap.size w U4 := by rw [hU]; exact hHeld.2
              have hXT : HasIm U4 N1.heap.size ⟨⟨0, 0, 0, 0, false, 0⟩, ⟨#[]⟩⟩ := by rw [hU]; exact hXT
              replace hHeld : HasIm U4 Wa.heap.size I ∧ Below w.heap.size w U4 := ⟨hM0, hKB⟩
              clear hU
              refine wpAnyH_ready (rs := [2]) (by kernel_rfl) (by simp) ?_
              refine AllReadyH.cons rfl (fun K hK => ?_) AllReadyH.nil
              go_simp
              (with_reducible refine calls_gen ?_)
              intro U5 hU
              have hM0 : HasIm U5 Wa.heap.size I := by rw [hU]; exact hHeld.1
              have hKB : Below w.heap.size w U5 := by rw [hU]; exact hHeld.2
              have hXT : HasIm U5 N1.heap.size ⟨⟨0, 0, 0, 0, false, 0⟩, ⟨#[]⟩⟩ := by rw [hU]; exact hXT
              (with_reducible refine (HPB'.out U5).mono ?_)
              rintro e N5 ⟨rfl, hb⟩
              replace hXT := hXT.below hb
              refine hK.out _ _ ⟨hM0.below hb, hKB.trans (hb.mono hKB.size)⟩ (fun hHeld => ?_)
              clear hK
              refine wpAnyH_take (i := 3) (v := .tuple #[zimg, .int .i64 420]) rfl (by kernel_rfl) (by kernel_rfl) (by kernel_rfl) (fun _ _ _ h => h) (Or.inl ⟨by rfl, ?_⟩) hHeld ?_
              · rintro V ⟨⟨x0l, x00, x01, x02, x03, x04, x05, x06, x0z⟩, -⟩
                go_simp
              try simp only [Act.put, List.getElem_toArray, List.getElem_cons_succ, List.getElem_cons_zero, List.setIfInBounds_toArray, List.set_cons_zero, List.set_cons_succ]
              refine wpAnyH_take (i := 4) (v := zimg) rfl (by kernel_rfl) (by kernel_rfl) (by kernel_rfl) (fun _ _ _ h => h) (Or.inl ⟨by rfl, ?_⟩) hHeld ?_
              · rintro V ⟨⟨x0l, x00, x01, x02, x03, x04, x05, x06, x0z⟩, -⟩
                go_simp
              try simp only [Act.put, List.getElem_toArray, List.getElem_cons_succ, List.getElem_cons_zero, List.setIfInBounds_toArray, List.set_cons_zero, List.set_cons_succ]
              refine wpAnyH_take (i := 5) (v := .int .i64 420) rfl (by kernel_rfl) (by kernel_rfl) (by kernel_rfl) (fun _ _ _ h => h) (Or.inl ⟨by rfl, ?_⟩) hHeld ?_
              · rintro V ⟨⟨x0l, x00, x01, x02, x03, x04, x05, x06, x0z⟩, -⟩
                go_simp
              try simp only [Act.put, List.getElem_toArray, List.getElem_cons_succ, List.getElem_cons_zero, List.setIfInBounds_toArray, List.set_cons_zero, List.set_cons_succ]
              refine wpAnyH_ready (rs := [7]) (by kernel_rfl) (by simp) ?_
              refine AllReadyH.cons rfl (fun K hK => ?_) AllReadyH.nil
              obtain ⟨oXl, oX0, oX1, oX2, oX3, oX4, oX5, oX6, oXz⟩ := hXT
              try dsimp only at oX0 oX1 oX2 oX3 oX4 oX5 oX6
              go_simp
              refine hK.out _ _ ⟨(((((((hHeld.1.set_other hneT0 _).set_other hneT0 _).set_other hneT0 _).set_other hneT0 _).set_other hneT0 _).set_other hneT0 _).set_other hneT0 _), (((((((hHeld.2.setCell hleT _).setCell hleT _).setCell hleT _).setCell hleT _).setCell hleT _).setCell hleT _).setCell hleT _)⟩ (fun hHeld => ?_)
              clear hK
              refine wpAnyH_take (i := 8) (v := .int .i64 420) rfl (by kernel_rfl) (by kernel_rfl) (by kernel_rfl) (fun _ _ _ h => h) (Or.inl ⟨by rfl, ?_⟩) hHeld ?_
              · rintro V ⟨⟨x0l, x00, x01, x02, x03, x04, x05, x06, x0z⟩, -⟩
                go_simp
              try simp only [Act.put, List.getElem_toArray, List.getElem_cons_succ, List.getElem_cons_zero, List.setIfInBounds_toArray, List.set_cons_zero, List.set_cons_succ]
              refine wpAnyH_done (by kernel_rfl) ?_ _
              try simp only [Act.put, List.getElem_toArray, List.getElem_cons_succ, List.getElem_cons_zero, List.setIfInBounds_toArray, List.set_cons_zero, List.set_cons_succ]
              go_wp2_with fail
              go_meet
              exact ⟨rfl, rfl, hHeld.1, hHeld.2⟩
            refine AllReadyH.cons rfl (fun K hK => ?_) AllReadyH.nil
            go_simp
            have hneT0 : Wa.heap.size ≠ U0.heap.size := Nat.ne_of_lt hHeld.1.lt
            have hleT : w.heap.size ≤ U0.heap.size := hHeld.2.size
            refine hK.out _ _ ⟨hHeld.1.below ((Below.refl _ _).alloc (Nat.le_refl _) _), hHeld.2.alloc hHeld.2.size _⟩ (fun hHeld => ?_)
            clear hK
            have hXT : HasIm (U0.alloc (.cells #[.int .i64 0, .int .i64 0, .int .i64 0, .int .i64 0, .bool false, .int .i64 0, .string ⟨#[]⟩] 31)) U0.heap.size ⟨⟨0, 0, 0, 0, false, 0⟩, ⟨#[]⟩⟩ := ⟨by go_simp, by go_simp, by go_simp, by go_simp, by go_simp, by go_simp, by go_simp, by go_simp, fun o => by go_simp⟩
            refine wpAnyH_gen ?_
            intro U6 hU
            have hM0 : HasIm U6 Wa.heap.size I := by rw [hU]; exact hHeld.1
            have hKB : Below w.heap.size w U6 := by rw [hU]; exact hHeld.2
            have hXT : HasIm U6 U0.heap.size ⟨⟨0, 0, 0, 0, false, 0⟩, ⟨#[]⟩⟩ := by rw [hU]; exact hXT
            replace hHeld : HasIm U6 Wa.heap.size I ∧ Below w.heap.size w U6 := ⟨hM0, hKB⟩
            clear hU
            refine wpAnyH_ready (rs := [0]) (by kernel_rfl) (by simp) ?_
            refine AllReadyH.cons rfl (fun K hK => ?_) AllReadyH.nil
            go_simp
            (with_reducible refine calls_gen ?_)
            intro U7 hU
            have hM0 : HasIm U7 Wa.heap.size I := by rw [hU]; exact hHeld.1
            have hKB : Below w.heap.size w U7 := by rw [hU]; exact hHeld.2
            have hXT : HasIm U7 U0.heap.size ⟨⟨0, 0, 0, 0, false, 0⟩, ⟨#[]⟩⟩ := by rw [hU]; exact hXT
            (with_reducible refine (six_any U7).mono ?_)
            rintro e N7 ⟨rfl, hb⟩
            replace hXT := hXT.below hb
            refine hK.out _ _ ⟨hM0.below hb, hKB.trans (hb.mono hKB.size)⟩ (fun hHeld => ?_)
            clear hK
            refine wpAnyH_ready (rs := [2]) (by kernel_rfl) (by simp) ?_
            refine AllReadyH.cons rfl (fun K hK => ?_) AllReadyH.nil
            go_simp
            (with_reducible refine calls_gen ?_)
            intro U8 hU
            have hM0 : HasIm U8 Wa.heap.size I := by rw [hU]; exact hHeld.1
            have hKB : Below w.heap.size w U8 := by rw [hU]; exact hHeld.2
            have hXT : HasIm U8 U0.heap.size ⟨⟨0, 0, 0, 0, false, 0⟩, ⟨#[]⟩⟩ := by rw [hU]; exact hXT
            (with_reducible refine (HPB'.out U8).mono ?_)
            rintro e N8 ⟨rfl, hb⟩
            replace hXT := hXT.below hb
            refine hK.out _ _ ⟨hM0.below hb, hKB.trans (hb.mono hKB.size)⟩ (fun hHeld => ?_)
            clear hK
            refine wpAnyH_take (i := 3) (v := .tuple #[zimg, .int .i64 420]) rfl (by kernel_rfl) (by kernel_rfl) (by kernel_rfl) (fun _ _ _ h => h) (Or.inl ⟨by rfl, ?_⟩) hHeld ?_
            · rintro V ⟨⟨x0l, x00, x01, x02, x03, x04, x05, x06, x0z⟩, -⟩
              go_simp
            try simp only [Act.put, List.getElem_toArray, List.getElem_cons_succ, List.getElem_cons_zero, List.setIfInBounds_toArray, List.set_cons_zero, List.set_cons_succ]
            refine wpAnyH_take (i := 4) (v := zimg) rfl (by kernel_rfl) (by kernel_rfl) (by kernel_rfl) (fun _ _ _ h => h) (Or.inl ⟨by rfl, ?_⟩) hHeld ?_
            · rintro V ⟨⟨x0l, x00, x01, x02, x03, x04, x05, x06, x0z⟩, -⟩
              go_simp
            try simp only [Act.put, List.getElem_toArray, List.getElem_cons_succ, List.getElem_cons_zero, List.setIfInBounds_toArray, List.set_cons_zero, List.set_cons_succ]
            refine wpAnyH_take (i := 5) (v := .int .i64 420) rfl (by kernel_rfl) (by kernel_rfl) (by kernel_rfl) (fun _ _ _ h => h) (Or.inl ⟨by rfl, ?_⟩) hHeld ?_
            · rintro V ⟨⟨x0l, x00, x01, x02, x03, x04, x05, x06, x0z⟩, -⟩
              go_simp
            try simp only [Act.put, List.getElem_toArray, List.getElem_cons_succ, List.getElem_cons_zero, List.setIfInBounds_toArray, List.set_cons_zero, List.set_cons_succ]
            refine wpAnyH_ready (rs := [7]) (by kernel_rfl) (by simp) ?_
            refine AllReadyH.cons rfl (fun K hK => ?_) AllReadyH.nil
            obtain ⟨oXl, oX0, oX1, oX2, oX3, oX4, oX5, oX6, oXz⟩ := hXT
            try dsimp only at oX0 oX1 oX2 oX3 oX4 oX5 oX6
            go_simp
            refine hK.out _ _ ⟨(((((((hHeld.1.set_other hneT0 _).set_other hneT0 _).set_other hneT0 _).set_other hneT0 _).set_other hneT0 _).set_other hneT0 _).set_other hneT0 _), (((((((hHeld.2.setCell hleT _).setCell hleT _).setCell hleT _).setCell hleT _).setCell hleT _).setCell hleT _).setCell hleT _)⟩ (fun hHeld => ?_)
            clear hK
            refine wpAnyH_take (i := 8) (v := .int .i64 420) rfl (by kernel_rfl) (by kernel_rfl) (by kernel_rfl) (fun _ _ _ h => h) (Or.inl ⟨by rfl, ?_⟩) hHeld ?_
            · rintro V ⟨⟨x0l, x00, x01, x02, x03, x04, x05, x06, x0z⟩, -⟩
              go_simp
            try simp only [Act.put, List.getElem_toArray, List.getElem_cons_succ, List.getElem_cons_zero, List.setIfInBounds_toArray, List.set_cons_zero, List.set_cons_succ]
            refine wpAnyH_done (by kernel_rfl) ?_ _
            try simp only [Act.put, List.getElem_toArray, List.getElem_cons_succ, List.getElem_cons_zero, List.setIfInBounds_toArray, List.set_cons_zero, List.set_cons_succ]
            go_wp2_with fail
            go_meet
            exact ⟨rfl, rfl, hHeld.1, hHeld.2⟩
          case rest =>
            obtain ⟨rfl, rfl, hI, hbx⟩ := hcut
            replace KB := Lib.hid hbx
            replace M := Lib.hid hI
            clear hbx hI
            obtain ⟨oMl, oM0, oM1, oM2, oM3, oM4, oM5, oM6, oMz⟩ := M.out
            try dsimp only at oM0 oM1 oM2 oM3 oM4 oM5 oM6
            go_wp2_with fail
            (with_reducible refine calls_gen ?_)
            intro V6 hV
            have hP6 : Below wc.heap.size wc V6 := by
              rw [hV]
              ((repeat (first | (with_reducible exact Below.refl _ _) | (with_reducible refine Below.setCell ?_ ?_ _) | (with_reducible refine Below.alloc ?_ ?_ _) | (with_reducible refine Below.drew ?_) | (with_reducible refine Below.trans ?_ (Below.mono (by assumption) ?_)))); all_goals ((try simp only [World.size_alloc, World.size_drew, World.size_setCell]); omega))
            have hB6 : Below w.heap.size w V6 := KB.out.trans (hP6.mono KB.out.size)
            replace M := Lib.hid (M.out.below hP6)
            have H := Img_check I V6
            try unfold ImPost at H
            try unfold IntsPost at H
            simp only [chkR_bad HVB.out] at H
            try simp only [Im.v, Lay.img, sixI, Im.z, List.length_cons, List.length_nil, Nat.reduceAdd] at H
            have HH := Lib.hid H
            clear H hV
            clear oMl oM0 oM1 oM2 oM3 oM4 oM5 oM6 oMz
            (with_reducible refine HH.out.mono ?_)
            clear HH
            rintro e W6 ⟨rfl, hb⟩
            replace M := Lib.hid (M.out.below hb)
            replace KB := Lib.hid (hB6.trans (hb.mono hB6.size))
            clear hb hB6 hP6
            go_wp2_with fail
            go_roundg (12 - (k + 1))
            case measure => omega
            case rel => exact ⟨k + 1, by omega, rfl, by go_num, KB.out⟩
    · replace KB := HB
      clear HB
      go_wp2_with fail
      (with_reducible refine calls_gen ?_)
      intro V1 hV
      have hP1 : Below wr.heap.size wr V1 := by
        rw [hV]
        ((repeat (first | (with_reducible exact Below.refl _ _) | (with_reducible refine Below.setCell ?_ ?_ _) | (with_reducible refine Below.alloc ?_ ?_ _) | (with_reducible refine Below.drew ?_) | (with_reducible refine Below.trans ?_ (Below.mono (by assumption) ?_)))); all_goals ((try simp only [World.size_alloc, World.size_drew, World.size_setCell]); omega))
      have hB1 : Below w.heap.size w V1 := KB.out.trans (hP1.mono KB.out.size)
      have H := six_any V1
      have HH := Lib.hid H
      clear H hV
      (with_reducible refine HH.out.mono ?_)
      clear HH
      rintro e W1 ⟨rfl, hb⟩
      replace KB := Lib.hid (hB1.trans (hb.mono hB1.size))
      clear hb hB1 hP1
      go_wp2_with fail
      (with_reducible refine calls_gen ?_)
      intro V2 hV
      have hP2 : Below W1.heap.size W1 V2 := by
        rw [hV]
        ((repeat (first | (with_reducible exact Below.refl _ _) | (with_reducible refine Below.setCell ?_ ?_ _) | (with_reducible refine Below.alloc ?_ ?_ _) | (with_reducible refine Below.drew ?_) | (with_reducible refine Below.trans ?_ (Below.mono (by assumption) ?_)))); all_goals ((try simp only [World.size_alloc, World.size_drew, World.size_setCell]); omega))
      have hB2 : Below w.heap.size w V2 := KB.out.trans (hP2.mono KB.out.size)
      have M : Hid (HasIm V2 W1.heap.size ⟨⟨2, 1, 3, 8, false, 4⟩, ⟨#[1, 2, 3, 4, 5, 6, 0, 0]⟩⟩) := Lib.hid ⟨by rw [hV]; go_simp, by rw [hV]; go_simp, by rw [hV]; go_simp, by rw [hV]; go_simp, by rw [hV]; go_simp, by rw [hV]; go_simp, by rw [hV]; go_simp, by rw [hV]; go_simp, fun o => by rw [hV]; go_simp⟩
      have H := Img_shape sixI 16 false 8 V2
      try unfold ImPost at H
      try unfold IntsPost at H
      simp only [kn_deep] at H
      try simp only [Im.v, Lay.img, sixI, Im.z, List.length_cons, List.length_nil, Nat.reduceAdd, deepI] at H
      have HH := Lib.hid H
      clear H hV
      (with_reducible refine HH.out.mono ?_)
      clear HH
      rintro e W2 ⟨rfl, hb⟩
      replace M := Lib.hid (M.out.below hb)
      replace KB := Lib.hid (hB2.trans (hb.mono hB2.size))
      clear hb hB2 hP2
      obtain ⟨oMl, oM0, oM1, oM2, oM3, oM4, oM5, oM6, oMz⟩ := M.out
      try dsimp only at oM0 oM1 oM2 oM3 oM4 oM5 oM6
      go_wp2_with fail
      (with_reducible refine calls_gen ?_)
      intro V3 hV
      have hP3 : Below W2.heap.size W2 V3 := by
        rw [hV]
        ((repeat (first | (with_reducible exact Below.refl _ _) | (with_reducible refine Below.setCell ?_ ?_ _) | (with_reducible refine Below.alloc ?_ ?_ _) | (with_reducible refine Below.drew ?_) | (with_reducible refine Below.trans ?_ (Below.mono (by assumption) ?_)))); all_goals ((try simp only [World.size_alloc, World.size_drew, World.size_setCell]); omega))
      have hB3 : Below w.heap.size w V3 := KB.out.trans (hP3.mono KB.out.size)
      replace M := Lib.hid (M.out.below hP3)
      have D : Hid (HasIm V3 W2.heap.size ⟨⟨2, 1, 3, 16, false, 8⟩, ⟨#[1, 1, 2, 2, 3, 3, 4, 4, 5, 5, 6, 6, 0, 0, 0, 0]⟩⟩) := Lib.hid ⟨by rw [hV]; go_simp, by rw [hV]; go_simp, by rw [hV]; go_simp, by rw [hV]; go_simp, by rw [hV]; go_simp, by rw [hV]; go_simp, by rw [hV]; go_simp, by rw [hV]; go_simp, fun o => by rw [hV]; go_simp⟩
      have H := Img_paste sixI deepI 0 0 V3
      try unfold ImPost at H
      try unfold IntsPost at H
      simp only [kn_paste] at H
      try simp only [Im.v, Lay.img, sixI, Im.z, List.length_cons, List.length_nil, Nat.reduceAdd, deepI] at H
      have HH := Lib.hid H
      clear H hV
      clear oMl oM0 oM1 oM2 oM3 oM4 oM5 oM6 oMz
      (with_reducible refine HH.out.mono ?_)
      clear HH
      rintro e W3 ⟨rfl, hb⟩
      replace M := Lib.hid (M.out.below hb)
      replace D := Lib.hid (D.out.below hb)
      replace KB := Lib.hid (hB3.trans (hb.mono hB3.size))
      clear hb hB3 hP3
      obtain ⟨oMl, oM0, oM1, oM2, oM3, oM4, oM5, oM6, oMz⟩ := M.out
      try dsimp only at oM0 oM1 oM2 oM3 oM4 oM5 oM6
      go_wp2_with fail
      (with_reducible refine calls_gen ?_)
      intro V4 hV
      have hP4 : Below W3.heap.size W3 V4 := by
        rw [hV]
        ((repeat (first | (with_reducible exact Below.refl _ _) | (with_reducible refine Below.setCell ?_ ?_ _) | (with_reducible refine Below.alloc ?_ ?_ _) | (with_reducible refine Below.drew ?_) | (with_reducible refine Below.trans ?_ (Below.mono (by assumption) ?_)))); all_goals ((try simp only [World.size_alloc, World.size_drew, World.size_setCell]); omega))
      have hB4 : Below w.heap.size w V4 := KB.out.trans (hP4.mono KB.out.size)
      replace M := Lib.hid (M.out.below hP4)
      replace D := Lib.hid (D.out.below hP4)
      have hi : Ints V4 (some ⟨W3.heap.size + 1, 0, none⟩) [0, 256, 0] := fun _ => ⟨_, _, rfl, fun i hi => by
        have : i = 0 ∨ i = 1 ∨ i = 2 := by simp at hi; omega
        rcases this with rfl | rfl | rfl <;> (rw [hV]; go_simp)⟩
      have H := Img_set sixI 0 0 [0, 256, 0] _ 3 V4 hi (by decide)
      try unfold ImPost at H
      try unfold IntsPost at H
      simp only [kn_set1] at H
      try simp only [Im.v, Lay.img, sixI, Im.z, List.length_cons, List.length_nil, Nat.reduceAdd] at H
      have HH := Lib.hid H
      clear H hV
      clear oMl oM0 oM1 oM2 oM3 oM4 oM5 oM6 oMz
      (with_reducible refine HH.out.mono ?_)
      clear HH
      rintro e W4 ⟨rfl, hb⟩
      replace M := Lib.hid (M.out.below hb)
      replace D := Lib.hid (D.out.below hb)
      replace KB := Lib.hid (hB4.trans (hb.mono hB4.size))
      clear hb hB4 hP4
      obtain ⟨oMl, oM0, oM1, oM2, oM3, oM4, oM5, oM6, oMz⟩ := M.out
      try dsimp only at oM0 oM1 oM2 oM3 oM4 oM5 oM6
      go_wp2_with fail
      (with_reducible refine calls_gen ?_)
      intro V5 hV
      have hP5 : Below W4.heap.size W4 V5 := by
        rw [hV]
        ((repeat (first | (with_reducible exact Below.refl _ _) | (with_reducible refine Below.setCell ?_ ?_ _) | (with_reducible refine Below.alloc ?_ ?_ _) | (with_reducible refine Below.drew ?_) | (with_reducible refine Below.trans ?_ (Below.mono (by assumption) ?_)))); all_goals ((try simp only [World.size_alloc, World.size_drew, World.size_setCell]); omega))
      have hB5 : Below w.heap.size w V5 := KB.out.trans (hP5.mono KB.out.size)
      replace M := Lib.hid (M.out.below hP5)
      replace D := Lib.hid (D.out.below hP5)
      have hi : Ints V5 (some ⟨W4.heap.size + 1, 0, none⟩) [0, -1, 0] := fun _ => ⟨_, _, rfl, fun i hi => by
        have : i = 0 ∨ i = 1 ∨ i = 2 := by simp at hi; omega
        rcases this with rfl | rfl | rfl <;> (rw [hV]; go_simp)⟩
      have H := Img_set sixI 0 0 [0, -1, 0] _ 3 V5 hi (by decide)
      try unfold ImPost at H
      try unfold IntsPost at H
      simp only [kn_set2] at H
      try simp only [Im.v, Lay.img, sixI, Im.z, List.length_cons, List.length_nil, Nat.reduceAdd] at H
      have HH := Lib.hid H
      clear H hV
      clear oMl oM0 oM1 oM2 oM3 oM4 oM5 oM6 oMz
      (with_reducible refine HH.out.mono ?_)
      clear HH
      rintro e W5 ⟨rfl, hb⟩
      replace M := Lib.hid (M.out.below hb)
      replace D := Lib.hid (D.out.below hb)
      replace KB := Lib.hid (hB5.trans (hb.mono hB5.size))
      clear hb hB5 hP5
      obtain ⟨oMl, oM0, oM1, oM2, oM3, oM4, oM5, oM6, oMz⟩ := M.out
      try dsimp only at oM0 oM1 oM2 oM3 oM4 oM5 oM6
      go_wp2_with fail
      (with_reducible refine calls_gen ?_)
      intro V6 hV
      have hP6 : Below W5.heap.size W5 V6 := by
        rw [hV]
        ((repeat (first | (with_reducible exact Below.refl _ _) | (with_reducible refine Below.setCell ?_ ?_ _) | (with_reducible refine Below.alloc ?_ ?_ _) | (with_reducible refine Below.drew ?_) | (with_reducible refine Below.trans ?_ (Below.mono (by assumption) ?_)))); all_goals ((try simp only [World.size_alloc, World.size_drew, World.size_setCell]); omega))
      have hB6 : Below w.heap.size w V6 := KB.out.trans (hP6.mono KB.out.size)
      replace M := Lib.hid (M.out.below hP6)
      replace D := Lib.hid (D.out.below hP6)
      have hi : Ints V6 (some ⟨W5.heap.size + 1, 0, none⟩) [0, 0] := fun _ => ⟨_, _, rfl, fun i hi => by
        have : i = 0 ∨ i = 1 := by simp at hi; omega
        rcases this with rfl | rfl <;> (rw [hV]; go_simp)⟩
      have H := Img_set sixI 0 0 [0, 0] _ 2 V6 hi (by decide)
      try unfold ImPost at H
      try unfold IntsPost at H
      simp only [kn_set3] at H
      try simp only [Im.v, Lay.img, sixI, Im.z, List.length_cons, List.length_nil, Nat.reduceAdd] at H
      have HH := Lib.hid H
      clear H hV
      clear oMl oM0 oM1 oM2 oM3 oM4 oM5 oM6 oMz
      (with_reducible refine HH.out.mono ?_)
      clear HH
      rintro e W6 ⟨rfl, hb⟩
      replace M := Lib.hid (M.out.below hb)
      replace D := Lib.hid (D.out.below hb)
      replace KB := Lib.hid (hB6.trans (hb.mono hB6.size))
      clear hb hB6 hP6
      obtain ⟨oMl, oM0, oM1, oM2, oM3, oM4, oM5, oM6, oMz⟩ := M.out
      try dsimp only at oM0 oM1 oM2 oM3 oM4 oM5 oM6
      go_wp2_with fail
      (with_reducible refine calls_gen ?_)
      intro V7 hV
      have hP7 : Below W6.heap.size W6 V7 := by
        rw [hV]
        ((repeat (first | (with_reducible exact Below.refl _ _) | (with_reducible refine Below.setCell ?_ ?_ _) | (with_reducible refine Below.alloc ?_ ?_ _) | (with_reducible refine Below.drew ?_) | (with_reducible refine Below.trans ?_ (Below.mono (by assumption) ?_)))); all_goals ((try simp only [World.size_alloc, World.size_drew, World.size_setCell]); omega))
      have hB7 : Below w.heap.size w V7 := KB.out.trans (hP7.mono KB.out.size)
      replace M := Lib.hid (M.out.below hP7)
      replace D := Lib.hid (D.out.below hP7)
      have H := Img_cut sixI 1 0 2 1 V7
      try unfold ImPost at H
      try unfold IntsPost at H
      simp only [kn_cut1] at H
      try simp only [Im.v, Lay.img, sixI, Im.z, List.length_cons, List.length_nil, Nat.reduceAdd] at H
      have HH := Lib.hid H
      clear H hV
      clear oMl oM0 oM1 oM2 oM3 oM4 oM5 oM6 oMz
      (with_reducible refine HH.out.mono ?_)
      clear HH
      rintro e W7 ⟨rfl, hb⟩
      replace M := Lib.hid (M.out.below hb)
      replace D := Lib.hid (D.out.below hb)
      replace KB := Lib.hid (hB7.trans (hb.mono hB7.size))
      clear hb hB7 hP7
      obtain ⟨oMl, oM0, oM1, oM2, oM3, oM4, oM5, oM6, oMz⟩ := M.out
      try dsimp only at oM0 oM1 oM2 oM3 oM4 oM5 oM6
      go_wp2_with fail
      (with_reducible refine calls_gen ?_)
      intro V8 hV
      have hP8 : Below W7.heap.size W7 V8 := by
        rw [hV]
        ((repeat (first | (with_reducible exact Below.refl _ _) | (with_reducible refine Below.setCell ?_ ?_ _) | (with_reducible refine Below.alloc ?_ ?_ _) | (with_reducible refine Below.drew ?_) | (with_reducible refine Below.trans ?_ (Below.mono (by assumption) ?_)))); all_goals ((try simp only [World.size_alloc, World.size_drew, World.size_setCell]); omega))
      have hB8 : Below w.heap.size w V8 := KB.out.trans (hP8.mono KB.out.size)
      replace M := Lib.hid (M.out.below hP8)
      replace D := Lib.hid (D.out.below hP8)
      have H := Img_cut sixI 0 0 0 1 V8
      try unfold ImPost at H
      try unfold IntsPost at H
      simp only [kn_cut2] at H
      try simp only [Im.v, Lay.img, sixI, Im.z, List.length_cons, List.length_nil, Nat.reduceAdd] at H
      have HH := Lib.hid H
      clear H hV
      clear oMl oM0 oM1 oM2 oM3 oM4 oM5 oM6 oMz
      (with_reducible refine HH.out.mono ?_)
      clear HH
      rintro e W8 ⟨rfl, hb⟩
      replace M := Lib.hid (M.out.below hb)
      replace D := Lib.hid (D.out.below hb)
      replace KB := Lib.hid (hB8.trans (hb.mono hB8.size))
      clear hb hB8 hP8
      obtain ⟨oMl, oM0, oM1, oM2, oM3, oM4, oM5, oM6, oMz⟩ := M.out
      try dsimp only at oM0 oM1 oM2 oM3 oM4 oM5 oM6
      go_wp2_with fail
      (with_reducible refine calls_gen ?_)
      intro V9 hV
      have hP9 : Below W8.heap.size W8 V9 := by
        rw [hV]
        ((repeat (first | (with_reducible exact Below.refl _ _) | (with_reducible refine Below.setCell ?_ ?_ _) | (with_reducible refine Below.alloc ?_ ?_ _) | (with_reducible refine Below.drew ?_) | (with_reducible refine Below.trans ?_ (Below.mono (by assumption) ?_)))); all_goals ((try simp only [World.size_alloc, World.size_drew, World.size_setCell]); omega))
      have hB9 : Below w.heap.size w V9 := KB.out.trans (hP9.mono KB.out.size)
      replace M := Lib.hid (M.out.below hP9)
      replace D := Lib.hid (D.out.below hP9)
      have H := Img_cut sixI (-1) 0 1 1 V9
      try unfold ImPost at H
      try unfold IntsPost at H
      simp only [kn_cut3] at H
      try simp only [Im.v, Lay.img, sixI, Im.z, List.length_cons, List.length_nil, Nat.reduceAdd] at H
      have HH := Lib.hid H
      clear H hV
      clear oMl oM0 oM1 oM2 oM3 oM4 oM5 oM6 oMz
      (with_reducible refine HH.out.mono ?_)
      clear HH
      rintro e W9 ⟨rfl, hb⟩
      replace M := Lib.hid (M.out.below hb)
      replace D := Lib.hid (D.out.below hb)
      replace KB := Lib.hid (hB9.trans (hb.mono hB9.size))
      clear hb hB9 hP9
      obtain ⟨oMl, oM0, oM1, oM2, oM3, oM4, oM5, oM6, oMz⟩ := M.out
      try dsimp only at oM0 oM1 oM2 oM3 oM4 oM5 oM6
      go_wp2_with fail
      (with_reducible refine calls_gen ?_)
      intro V10 hV
      have hP10 : Below W9.heap.size W9 V10 := by
        rw [hV]
        ((repeat (first | (with_reducible exact Below.refl _ _) | (with_reducible refine Below.setCell ?_ ?_ _) | (with_reducible refine Below.alloc ?_ ?_ _) | (with_reducible refine Below.drew ?_) | (with_reducible refine Below.trans ?_ (Below.mono (by assumption) ?_)))); all_goals ((try simp only [World.size_alloc, World.size_drew, World.size_setCell]); omega))
      have hB10 : Below w.heap.size w V10 := KB.out.trans (hP10.mono KB.out.size)
      clear M
      replace D := Lib.hid (D.out.below hP10)
      have H := Img_paste sixI sixI 1 0 V10
      try unfold ImPost at H
      try unfold IntsPost at H
      simp only [kn_paste2] at H
      try simp only [Im.v, Lay.img, sixI, Im.z, List.length_cons, List.length_nil, Nat.reduceAdd] at H
      have HH := Lib.hid H
      clear H hV
      clear oMl oM0 oM1 oM2 oM3 oM4 oM5 oM6 oMz
      (with_reducible refine HH.out.mono ?_)
      clear HH
      rintro e W10 ⟨rfl, hb⟩
      replace D := Lib.hid (D.out.below hb)
      replace KB := Lib.hid (hB10.trans (hb.mono hB10.size))
      clear hb hB10 hP10
      go_wp2_with fail
      (with_reducible refine calls_gen ?_)
      intro V11 hV
      have hP11 : Below W10.heap.size W10 V11 := by
        rw [hV]
        ((repeat (first | (with_reducible exact Below.refl _ _) | (with_reducible refine Below.setCell ?_ ?_ _) | (with_reducible refine Below.alloc ?_ ?_ _) | (with_reducible refine Below.drew ?_) | (with_reducible refine Below.trans ?_ (Below.mono (by assumption) ?_)))); all_goals ((try simp only [World.size_alloc, World.size_drew, World.size_setCell]); omega))
      have hB11 : Below w.heap.size w V11 := KB.out.trans (hP11.mono KB.out.size)
      replace D := Lib.hid (D.out.below hP11)
      have H := Img_make ⟨64, 64, 2, 8, false, 1⟩ V11
      try unfold ImPost at H
      try unfold IntsPost at H
      simp only [kn_make1] at H
      try simp only [Im.v, Lay.img, sixI, Im.z, List.length_cons, List.length_nil, Nat.reduceAdd] at H
      have HH := Lib.hid H
      clear H hV
      (with_reducible refine HH.out.mono ?_)
      clear HH
      rintro e W11 ⟨rfl, hb⟩
      replace D := Lib.hid (D.out.below hb)
      replace KB := Lib.hid (hB11.trans (hb.mono hB11.size))
      clear hb hB11 hP11
      obtain ⟨BO, hBO, hbig⟩ := kn_big
      go_wp2_with fail
      (with_reducible refine calls_gen ?_)
      intro V12 hV
      have hP12 : Below W11.heap.size W11 V12 := by
        rw [hV]
        ((repeat (first | (with_reducible exact Below.refl _ _) | (with_reducible refine Below.setCell ?_ ?_ _) | (with_reducible refine Below.alloc ?_ ?_ _) | (with_reducible refine Below.drew ?_) | (with_reducible refine Below.trans ?_ (Below.mono (by assumption) ?_)))); all_goals ((try simp only [World.size_alloc, World.size_drew, World.size_setCell]); omega))
      have hB12 : Below w.heap.size w V12 := KB.out.trans (hP12.mono KB.out.size)
      replace D := Lib.hid (D.out.below hP12)
      have H := Img_make ⟨64, 64, 1, 16, true, 8⟩ V12
      try unfold ImPost at H
      try unfold IntsPost at H
      simp only [hbig] at H
      try simp only [Im.v, Lay.img, sixI, Im.z, List.length_cons, List.length_nil, Nat.reduceAdd] at H
      have HH := Lib.hid H
      clear H hV
      (with_reducible refine HH.out.mono ?_)
      clear HH
      rintro e W12 ⟨rfl, hb⟩
      replace D := Lib.hid (D.out.below hb)
      replace KB := Lib.hid (hB12.trans (hb.mono hB12.size))
      clear hb hB12 hP12
      obtain ⟨oDl, oD0, oD1, oD2, oD3, oD4, oD5, oD6, oDz⟩ := D.out
      try dsimp only at oD0 oD1 oD2 oD3 oD4 oD5 oD6
      go_wp2_with fail
      (with_reducible refine calls_gen ?_)
      intro V13 hV
      have hP13 : Below W12.heap.size W12 V13 := by
        rw [hV]
        ((repeat (first | (with_reducible exact Below.refl _ _) | (with_reducible refine Below.setCell ?_ ?_ _) | (with_reducible refine Below.alloc ?_ ?_ _) | (with_reducible refine Below.drew ?_) | (with_reducible refine Below.trans ?_ (Below.mono (by assumption) ?_)))); all_goals ((try simp only [World.size_alloc, World.size_drew, World.size_setCell]); omega))
      have hB13 : Below w.heap.size w V13 := KB.out.trans (hP13.mono KB.out.size)
      clear D
      have G : Hid (HasIm V13 W12.heap.size ⟨⟨64, 64, 1, 16, true, 8⟩, BO⟩) := Lib.hid ⟨by rw [hV]; go_simp, by rw [hV]; go_simp, by rw [hV]; go_simp, by rw [hV]; go_simp, by rw [hV]; go_simp, by rw [hV]; go_simp, by rw [hV]; go_simp, by rw [hV]; go_simp, fun o => by rw [hV]; go_simp⟩
      have H := Img_stride deepI V13
      try unfold ImPost at H
      try unfold IntsPost at H
      simp only [kn_stride] at H
      try simp only [Im.v, Lay.img, sixI, Im.z, List.length_cons, List.length_nil, Nat.reduceAdd, deepI] at H
      have HH := Lib.hid H
      clear H hV
      clear oDl oD0 oD1 oD2 oD3 oD4 oD5 oD6 oDz
      (with_reducible refine HH.out.mono ?_)
      clear HH
      rintro e W13 ⟨rfl, hb⟩
      replace G := Lib.hid (G.out.below hb)
      replace KB := Lib.hid (hB13.trans (hb.mono hB13.size))
      clear hb hB13 hP13
      go_wp2_with fail
      (with_reducible refine calls_gen ?_)
      intro V14 hV
      have hP14 : Below W13.heap.size W13 V14 := by
        rw [hV]
        ((repeat (first | (with_reducible exact Below.refl _ _) | (with_reducible refine Below.setCell ?_ ?_ _) | (with_reducible refine Below.alloc ?_ ?_ _) | (with_reducible refine Below.drew ?_) | (with_reducible refine Below.trans ?_ (Below.mono (by assumption) ?_)))); all_goals ((try simp only [World.size_alloc, World.size_drew, World.size_setCell]); omega))
      have hB14 : Below w.heap.size w V14 := KB.out.trans (hP14.mono KB.out.size)
      replace G := Lib.hid (G.out.below hP14)
      have H := Img_make ⟨2, 1, 1, 16, false, 1⟩ V14
      try unfold ImPost at H
      try unfold IntsPost at H
      simp only [kn_make2] at H
      try simp only [Im.v, Lay.img, sixI, Im.z, List.length_cons, List.length_nil, Nat.reduceAdd] at H
      have HH := Lib.hid H
      clear H hV
      (with_reducible refine HH.out.mono ?_)
      clear HH
      rintro e W14 ⟨rfl, hb⟩
      replace G := Lib.hid (G.out.below hb)
      replace KB := Lib.hid (hB14.trans (hb.mono hB14.size))
      clear hb hB14 hP14
      go_wp2_with fail
      (with_reducible refine calls_gen ?_)
      intro V15 hV
      have hP15 : Below W14.heap.size W14 V15 := by
        rw [hV]
        ((repeat (first | (with_reducible exact Below.refl _ _) | (with_reducible refine Below.setCell ?_ ?_ _) | (with_reducible refine Below.alloc ?_ ?_ _) | (with_reducible refine Below.drew ?_) | (with_reducible refine Below.trans ?_ (Below.mono (by assumption) ?_)))); all_goals ((try simp only [World.size_alloc, World.size_drew, World.size_setCell]); omega))
      have hB15 : Below w.heap.size w V15 := KB.out.trans (hP15.mono KB.out.size)
      replace G := Lib.hid (G.out.below hP15)
      have HF : Hid (HasIm V15 W14.heap.size ⟨⟨2, 1, 1, 16, false, 1⟩, ⟨#[0, 128, 0, 129]⟩⟩) := Lib.hid ⟨by rw [hV]; go_simp, by rw [hV]; go_simp, by rw [hV]; go_simp, by rw [hV]; go_simp, by rw [hV]; go_simp, by rw [hV]; go_simp, by rw [hV]; go_simp, by rw [hV]; go_simp, fun o => by rw [hV]; go_simp⟩
      have H := Img_shape halfI 8 false 1 V15
      try unfold ImPost at H
      try unfold IntsPost at H
      simp only [kn_half] at H
      try simp only [Im.v, Lay.img, sixI, Im.z, List.length_cons, List.length_nil, Nat.reduceAdd, halfI] at H
      have HH := Lib.hid H
      clear H hV
      (with_reducible refine HH.out.mono ?_)
      clear HH
      rintro e W15 ⟨rfl, hb⟩
      replace G := Lib.hid (G.out.below hb)
      replace HF := Lib.hid (HF.out.below hb)
      replace KB := Lib.hid (hB15.trans (hb.mono hB15.size))
      clear hb hB15 hP15
      go_wp2_with fail
      (with_reducible refine calls_gen ?_)
      intro V16 hV
      have hP16 : Below W15.heap.size W15 V16 := by
        rw [hV]
        ((repeat (first | (with_reducible exact Below.refl _ _) | (with_reducible refine Below.setCell ?_ ?_ _) | (with_reducible refine Below.alloc ?_ ?_ _) | (with_reducible refine Below.drew ?_) | (with_reducible refine Below.trans ?_ (Below.mono (by assumption) ?_)))); all_goals ((try simp only [World.size_alloc, World.size_drew, World.size_setCell]); omega))
      have hB16 : Below w.heap.size w V16 := KB.out.trans (hP16.mono KB.out.size)
      clear HF
      replace G := Lib.hid (G.out.below hP16)
      have FL : Hid (HasIm V16 W15.heap.size ⟨⟨2, 1, 1, 8, false, 1⟩, ⟨#[0, 1]⟩⟩) := Lib.hid ⟨by rw [hV]; go_simp, by rw [hV]; go_simp, by rw [hV]; go_simp, by rw [hV]; go_simp, by rw [hV]; go_simp, by rw [hV]; go_simp, by rw [hV]; go_simp, by rw [hV]; go_simp, fun o => by rw [hV]; go_simp⟩
      have H := Img_make ⟨3, 1, 1, 8, true, 4⟩ V16
      try unfold ImPost at H
      try unfold IntsPost at H
      simp only [kn_make3] at H
      try simp only [Im.v, Lay.img, sixI, Im.z, List.length_cons, List.length_nil, Nat.reduceAdd] at H
      have HH := Lib.hid H
      clear H hV
      (with_reducible refine HH.out.mono ?_)
      clear HH
      rintro e W16 ⟨rfl, hb⟩
      replace G := Lib.hid (G.out.below hb)
      replace FL := Lib.hid (FL.out.below hb)
      replace KB := Lib.hid (hB16.trans (hb.mono hB16.size))
      clear hb hB16 hP16
      obtain ⟨oGl, oG0, oG1, oG2, oG3, oG4, oG5, oG6, oGz⟩ := G.out
      try dsimp only at oG0 oG1 oG2 oG3 oG4 oG5 oG6
      obtain ⟨oFLl, oFL0, oFL1, oFL2, oFL3, oFL4, oFL5, oFL6, oFLz⟩ := FL.out
      try dsimp only at oFL0 oFL1 oFL2 oFL3 oFL4 oFL5 oFL6
      have hBO' : (BO.size : Int) = 8192 := by rw [hBO]; rfl
      go_wp2_with fail
      refine bodyPost_ret (v := .bool true) ?_ rfl ?_
      · simp [results, Try.results9, go_sem]
      have hKB := KB.out
      have hsz := hKB.size
      refine ⟨rfl, ?_⟩
      ((repeat (first | (with_reducible exact Below.refl _ _) | (with_reducible refine Below.setCell ?_ ?_ _) | (with_reducible refine Below.alloc ?_ ?_ _) | (with_reducible refine Below.drew ?_) | (with_reducible refine Below.trans ?_ (Below.mono (by assumption) ?_)))); all_goals ((try simp only [World.size_alloc, World.size_drew, World.size_setCell]); omega))

end Go.Proofs.Ytphfbjeaklpddaa
