/-
  Layer 42: Paste of a part that lies within the image.
-/
import Derived.Test.YtphfbjeaklpddaaJk
import Derived.StillTailTactics
namespace Go.Proofs.Ytphfbjeaklpddaa
open Go.RowKit

set_option maxRecDepth 100000 in
set_option maxHeartbeats 4000000 in
theorem paste_ok (L M : Lay) (O Q : ByteArray) (x y : Int) (w : World) (hn : L.valid O) (hm : M.valid Q) (h1 : (L.C != M.C) = false) (h2 : (L.B != M.B) = false) (h3 : insB L x y M.W M.H = true) :
    Calls Try.prog 31 #[L.img O, M.img Q, .int .i64 x, .int .i64 y] w fun e w' => e = .returned (.tuple #[L.img (octS L.len.toNat (L.octF (cpyF (M.fn Q) (L.fn O) 0 0 x y M.H M.W 0))), .int .i64 0]) ∧ Below w.heap.size w w' := by
  have HO1 := fun w => open_ok L O w hn
  have HO2 := fun w => open_ok M Q w hm
  have hok := hn.1
  have hmok := hm.1
  unfold Lay.img at HO1 HO2 ⊢
  have HO' := Lib.hid HO1
  have HO'' := Lib.hid HO2
  clear HO1 HO2
  go_enter Try.func31, Try.ntmps31
  go_wp2_with fail
  (with_reducible refine (HO'.out _).mono ?_)
  rintro e w1 ⟨b, b2, rfl, hv, hb⟩
  obtain ⟨hc, hf, hz⟩ := after hb
  simp only [World.size_alloc] at hz
  have hx : w.heap.size < w1.heap.size := by omega
  have hx' : w.heap.size + 1 < w1.heap.size := by omega
  have hx'' : w.heap.size + 1 + 1 < w1.heap.size := by omega
  have HV := Lib.hid hv
  clear hv
  go_wp2_with fail
  (with_reducible refine (HO''.out _).mono ?_)
  rintro e w2 ⟨d, d2, rfl, hu, hb2⟩
  obtain ⟨hc2, hf2, hz2⟩ := after hb2
  have hx2 : w.heap.size < w2.heap.size := by omega
  have hx2' : w.heap.size + 1 < w2.heap.size := by omega
  have hx2'' : w.heap.size + 1 + 1 < w2.heap.size := by omega
  have hv2 := HV.out.below hok hb2
  have hl1 := hv2.lt
  have hl2 := hu.lt
  obtain ⟨v0, v1, v2, v3, v4, v5⟩ := hv2.hd
  obtain ⟨u0, u1, u2, u3, u4, u5⟩ := hu.hd
  have HV2 := Lib.hid hv2
  have HU2 := Lib.hid hu
  have hin : ∀ W, Below w2.heap.size w2 W → Calls Try.prog 60 #[.pointer (some ⟨b, 0, none⟩), .int .i64 x, .int .i64 y, .int .i64 M.W, .int .i64 M.H] W fun e w' => e = .returned (.bool (insB L x y M.W M.H)) ∧ Below W.heap.size W w' := fun W hW =>
    inside_any L hok _ b b2 _ x y M.W M.H W (HV2.out.below hok hW) hmok.w1 hmok.w2 hmok.h1 hmok.h2
  have HIN := Lib.hid hin
  clear hv2 hu hin
  go_wp2_with fail
  refine wp_region_grow (by kernel_rfl) (by kernel_rfl) ?_
  repeat (go_big_quiet_step ((go_at_call 60; exact calls_grow (HIN.out _ (grow_below _ _)))))
  refine wpQuiet_nil ?_
  intro _ hw'
  obtain ⟨nq, hw''⟩ := hw'
  subst hw''
  have hb3 := grow_below w2 nq
  generalize grow w2 nq = w3 at hb3 ⊢
  obtain ⟨hc3, hf3, hz3⟩ := after hb3
  have hx3 : w.heap.size < w3.heap.size := by omega
  have hx3' : w.heap.size + 1 < w3.heap.size := by omega
  have hx3'' : w.heap.size + 1 + 1 < w3.heap.size := by omega
  have h3' := h3
  unfold insB at h3'
  rw [Bool.and_eq_true, inB_iff, inB_iff] at h3'
  obtain ⟨⟨x0, x1⟩, ⟨y0, y1⟩⟩ := h3'
  have r1 := hok.w1
  have r2 := hok.w2
  have r3 := hok.h1
  have r4 := hok.h2
  have r5 := hmok.w1
  have r6 := hmok.h1
  have hb1 := HV2.out.b1
  have hb22 := HV2.out.b2
  have hd1 := HU2.out.b1
  have hd2 := HU2.out.b2
  have hl12 := HV2.out.lt2 hok
  have hl0 := HV.out.lt
  have hl02 := HV.out.lt2 hok
  simp only [World.size_alloc] at hb1 hb22
  have hcp := copied_any M L hmok hok (by have := h1; simp at this; exact this.symm) _ _ d d2 b b2 (octAt Q) (octAt_range Q) (L.fn O) 0 0 x y M.W M.H w3.drew ((HU2.out.below hmok hb3).below hmok (Below.refl _ _).drew)
    (Opened.view hn ((HV2.out.below hok hb3).below hok (Below.refl _ _).drew)) (by omega) (by omega) (by omega) (by omega) (by omega) (by omega) x0 (by omega) y0 (by omega) r5 r6
  have HCP := Lib.hid hcp
  clear hcp
  go_wp2_with fail
  go_still_tail 14, (by kernel_rfl)
  change wpList _ _ _ _ _ w3.drew
  go_wp2_with fail
  (with_reducible refine HCP.out.mono ?_)
  rintro e w4 ⟨rfl, hv4, hu4⟩
  obtain ⟨hc4, hf4, hz4⟩ := afterU hu4
  simp only [World.size_drew, World.cell?_drew, World.frozen?_drew] at hz4 hc4 hf4
  have hx4 : w.heap.size < w4.heap.size := by omega
  have hx4' : w.heap.size + 1 < w4.heap.size := by omega
  have hx4'' : w.heap.size + 1 + 1 < w4.heap.size := by omega
  have hn1 : w.heap.size + 1 + 1 ≠ b := by omega
  have hn2 : w.heap.size + 1 + 1 ≠ b2 := by omega
  have hcl := closed_any L hok _ b b2 _ w4 hv4
  unfold Lay.img at hcl
  have HCL := Lib.hid hcl
  clear hcl hv4
  go_wp2_with fail
  (with_reducible refine HCL.out.mono ?_)
  rintro e w5 ⟨rfl, hu5⟩
  obtain ⟨hc5, hf5, hz5⟩ := afterU hu5
  have hx5 : w.heap.size < w5.heap.size := by omega
  have hx5' : w.heap.size + 1 < w5.heap.size := by omega
  have hx5'' : w.heap.size + 1 + 1 < w5.heap.size := by omega
  have hb4 : Below w.heap.size w3 w4 := ((Below.refl w.heap.size w3).drew).trans (hu4.below (B := w.heap.size) (by omega) (by simp only [World.size_drew]; omega))
  have hb5 := hu5.below (B := w.heap.size) (by omega) (by omega)
  go_wp2_with fail
  refine bodyPost_ret (v := .tuple #[L.img (octS L.len.toNat (L.octF (cpyF (M.fn Q) (L.fn O) 0 0 x y M.H M.W 0))), .int .i64 0]) ?_ rfl ?_
  · simp [results, Try.results31, go_sem, Lay.img, Lay.fn, hc5, hc4, hc3, hc2, hc, hx, hx', hx'', hx2, hx2', hx2'', hx3, hx3', hx3'', hx4, hx4', hx4'', hx5, hx5', hx5'', hn1, hn2]
  refine ⟨rfl, ?_⟩
  ((repeat (first | (with_reducible exact Below.refl _ _) | (with_reducible refine Below.setCell ?_ ?_ _) | (with_reducible refine Below.alloc ?_ ?_ _) | (with_reducible refine Below.drew ?_) | (with_reducible refine Below.trans ?_ (Below.mono (by assumption) ?_)))); all_goals ((try simp only [World.size_alloc, World.size_drew, World.size_setCell]); omega))

end Go.Proofs.Ytphfbjeaklpddaa
