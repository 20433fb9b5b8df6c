/-
  Layer 42: Paste, its errors.
-/
import Derived.Test.YtphfbjeaklpddaaJj
namespace Go.Proofs.Ytphfbjeaklpddaa
open Go.RowKit

set_option maxHeartbeats 1000000 in
theorem paste_bad1 (L M : Lay) (O Q : ByteArray) (x y : Int) (w : World) (hn : ¬ L.valid O) :
    Calls Try.prog 31 #[L.img O, M.img Q, .int .i64 x, .int .i64 y] w fun e w' => e = .returned (.tuple #[zimg, .int .i64 420]) ∧ Below w.heap.size w w' := by
  have HO := fun w => open_bad L O w hn
  unfold Lay.img at *
  have HO' := Lib.hid HO
  clear HO
  go_enter Try.func31, Try.ntmps31
  go_wp2_with fail
  (with_reducible refine (HO'.out _).mono ?_)
  rintro e w1 ⟨rfl, hb⟩
  obtain ⟨hc, hf, hz⟩ := after hb
  simp only [World.size_alloc] at hz
  have hx : w.heap.size < w1.heap.size := by omega
  have hx' : w.heap.size + 1 < w1.heap.size := by omega
  have hx'' : w.heap.size + 1 + 1 < w1.heap.size := by omega
  go_wp2_with fail
  refine bodyPost_ret (v := .tuple #[zimg, .int .i64 420]) ?_ rfl ?_
  · simp [results, Try.results31, go_sem, hc, hx, hx', hx'']
  refine ⟨rfl, ?_⟩
  ((repeat (first | (with_reducible exact Below.refl _ _) | (with_reducible refine Below.setCell ?_ ?_ _) | (with_reducible refine Below.alloc ?_ ?_ _) | (with_reducible refine Below.drew ?_) | (with_reducible refine Below.trans ?_ (Below.mono (by assumption) ?_)))); all_goals ((try simp only [World.size_alloc, World.size_drew, World.size_setCell]); omega))

set_option maxHeartbeats 1000000 in
theorem paste_bad2 (L M : Lay) (O Q : ByteArray) (x y : Int) (w : World) (hn : L.valid O) (hm : ¬ M.valid Q) :
    Calls Try.prog 31 #[L.img O, M.img Q, .int .i64 x, .int .i64 y] w fun e w' => e = .returned (.tuple #[zimg, .int .i64 420]) ∧ Below w.heap.size w w' := by
  have HO1 := fun w => open_ok L O w hn
  have HO2 := fun w => open_bad M Q w hm
  unfold Lay.img at *
  have HO' := Lib.hid HO1
  have HO'' := Lib.hid HO2
  clear HO1 HO2
  go_enter Try.func31, Try.ntmps31
  go_wp2_with fail
  (with_reducible refine (HO'.out _).mono ?_)
  rintro e w1 ⟨b, b2, rfl, hv, hb⟩
  obtain ⟨hc, hf, hz⟩ := after hb
  simp only [World.size_alloc] at hz
  have hx : w.heap.size < w1.heap.size := by omega
  have hx' : w.heap.size + 1 < w1.heap.size := by omega
  have hx'' : w.heap.size + 1 + 1 < w1.heap.size := by omega
  clear hv
  go_wp2_with fail
  (with_reducible refine (HO''.out _).mono ?_)
  rintro e w2 ⟨rfl, hb2⟩
  obtain ⟨hc2, hf2, hz2⟩ := after hb2
  have hx2 : w.heap.size < w2.heap.size := by omega
  have hx2' : w.heap.size + 1 < w2.heap.size := by omega
  have hx2'' : w.heap.size + 1 + 1 < w2.heap.size := by omega
  go_wp2_with fail
  refine bodyPost_ret (v := .tuple #[zimg, .int .i64 420]) ?_ rfl ?_
  · simp [results, Try.results31, go_sem, hc2, hc, hx, hx', hx'', hx2, hx2', hx2'']
  refine ⟨rfl, ?_⟩
  ((repeat (first | (with_reducible exact Below.refl _ _) | (with_reducible refine Below.setCell ?_ ?_ _) | (with_reducible refine Below.alloc ?_ ?_ _) | (with_reducible refine Below.drew ?_) | (with_reducible refine Below.trans ?_ (Below.mono (by assumption) ?_)))); all_goals ((try simp only [World.size_alloc, World.size_drew, World.size_setCell]); omega))

set_option maxRecDepth 100000 in
set_option maxHeartbeats 4000000 in
theorem paste_arg1 (L M : Lay) (O Q : ByteArray) (x y : Int) (w : World) (hn : L.valid O) (hm : M.valid Q) (h1 : (L.C != M.C) = true) :
    Calls Try.prog 31 #[L.img O, M.img Q, .int .i64 x, .int .i64 y] w fun e w' => e = .returned (.tuple #[zimg, .int .i64 2]) ∧ Below w.heap.size w w' := by
  have HO1 := fun w => open_ok L O w hn
  have HO2 := fun w => open_ok M Q w hm
  have hok := hn.1
  have hmok := hm.1
  unfold Lay.img at HO1 HO2 ⊢
  have HO' := Lib.hid HO1
  have HO'' := Lib.hid HO2
  clear HO1 HO2
  go_enter Try.func31, Try.ntmps31
  go_wp2_with fail
  (with_reducible refine (HO'.out _).mono ?_)
  rintro e w1 ⟨b, b2, rfl, hv, hb⟩
  obtain ⟨hc, hf, hz⟩ := after hb
  simp only [World.size_alloc] at hz
  have hx : w.heap.size < w1.heap.size := by omega
  have hx' : w.heap.size + 1 < w1.heap.size := by omega
  have hx'' : w.heap.size + 1 + 1 < w1.heap.size := by omega
  have HV := Lib.hid hv
  clear hv
  go_wp2_with fail
  (with_reducible refine (HO''.out _).mono ?_)
  rintro e w2 ⟨d, d2, rfl, hu, hb2⟩
  obtain ⟨hc2, hf2, hz2⟩ := after hb2
  have hx2 : w.heap.size < w2.heap.size := by omega
  have hx2' : w.heap.size + 1 < w2.heap.size := by omega
  have hx2'' : w.heap.size + 1 + 1 < w2.heap.size := by omega
  have hv2 := HV.out.below hok hb2
  have hl1 := hv2.lt
  have hl2 := hu.lt
  obtain ⟨v0, v1, v2, v3, v4, v5⟩ := hv2.hd
  obtain ⟨u0, u1, u2, u3, u4, u5⟩ := hu.hd
  have HV2 := Lib.hid hv2
  have HU2 := Lib.hid hu
  have hin : ∀ W, Below w2.heap.size w2 W → Calls Try.prog 60 #[.pointer (some ⟨b, 0, none⟩), .int .i64 x, .int .i64 y, .int .i64 M.W, .int .i64 M.H] W fun e w' => e = .returned (.bool (insB L x y M.W M.H)) ∧ Below W.heap.size W w' := fun W hW =>
    inside_any L hok _ b b2 _ x y M.W M.H W (HV2.out.below hok hW) hmok.w1 hmok.w2 hmok.h1 hmok.h2
  have HIN := Lib.hid hin
  clear hv2 hu hin
  go_wp2_with fail
  refine wp_region_grow (by kernel_rfl) (by kernel_rfl) ?_
  repeat (go_big_quiet_step ((go_at_call 60; exact calls_grow (HIN.out _ (grow_below _ _)))))
  refine wpQuiet_nil ?_
  intro _ hw'
  obtain ⟨nq, hw''⟩ := hw'
  subst hw''
  have hb3 := grow_below w2 nq
  generalize grow w2 nq = w3 at hb3 ⊢
  obtain ⟨hc3, hf3, hz3⟩ := after hb3
  have hx3 : w.heap.size < w3.heap.size := by omega
  have hx3' : w.heap.size + 1 < w3.heap.size := by omega
  have hx3'' : w.heap.size + 1 + 1 < w3.heap.size := by omega
  go_wp2_with fail
  refine bodyPost_ret (v := .tuple #[zimg, .int .i64 2]) ?_ rfl ?_
  · simp [results, Try.results31, go_sem, hc3, hc2, hc, hx, hx', hx'', hx2, hx2', hx2'', hx3, hx3', hx3'']
  refine ⟨rfl, ?_⟩
  ((repeat (first | (with_reducible exact Below.refl _ _) | (with_reducible refine Below.setCell ?_ ?_ _) | (with_reducible refine Below.alloc ?_ ?_ _) | (with_reducible refine Below.drew ?_) | (with_reducible refine Below.trans ?_ (Below.mono (by assumption) ?_)))); all_goals ((try simp only [World.size_alloc, World.size_drew, World.size_setCell]); omega))

set_option maxRecDepth 100000 in
set_option maxHeartbeats 4000000 in
theorem paste_arg2 (L M : Lay) (O Q : ByteArray) (x y : Int) (w : World) (hn : L.valid O) (hm : M.valid Q) (h1 : (L.C != M.C) = false) (h2 : (L.B != M.B) = true) :
    Calls Try.prog 31 #[L.img O, M.img Q, .int .i64 x, .int .i64 y] w fun e w' => e = .returned (.tuple #[zimg, .int .i64 2]) ∧ Below w.heap.size w w' := by
  have HO1 := fun w => open_ok L O w hn
  have HO2 := fun w => open_ok M Q w hm
  have hok := hn.1
  have hmok := hm.1
  unfold Lay.img at HO1 HO2 ⊢
  have HO' := Lib.hid HO1
  have HO'' := Lib.hid HO2
  clear HO1 HO2
  go_enter Try.func31, Try.ntmps31
  go_wp2_with fail
  (with_reducible refine (HO'.out _).mono ?_)
  rintro e w1 ⟨b, b2, rfl, hv, hb⟩
  obtain ⟨hc, hf, hz⟩ := after hb
  simp only [World.size_alloc] at hz
  have hx : w.heap.size < w1.heap.size := by omega
  have hx' : w.heap.size + 1 < w1.heap.size := by omega
  have hx'' : w.heap.size + 1 + 1 < w1.heap.size := by omega
  have HV := Lib.hid hv
  clear hv
  go_wp2_with fail
  (with_reducible refine (HO''.out _).mono ?_)
  rintro e w2 ⟨d, d2, rfl, hu, hb2⟩
  obtain ⟨hc2, hf2, hz2⟩ := after hb2
  have hx2 : w.heap.size < w2.heap.size := by omega
  have hx2' : w.heap.size + 1 < w2.heap.size := by omega
  have hx2'' : w.heap.size + 1 + 1 < w2.heap.size := by omega
  have hv2 := HV.out.below hok hb2
  have hl1 := hv2.lt
  have hl2 := hu.lt
  obtain ⟨v0, v1, v2, v3, v4, v5⟩ := hv2.hd
  obtain ⟨u0, u1, u2, u3, u4, u5⟩ := hu.hd
  have HV2 := Lib.hid hv2
  have HU2 := Lib.hid hu
  have hin : ∀ W, Below w2.heap.size w2 W → Calls Try.prog 60 #[.pointer (some ⟨b, 0, none⟩), .int .i64 x, .int .i64 y, .int .i64 M.W, .int .i64 M.H] W fun e w' => e = .returned (.bool (insB L x y M.W M.H)) ∧ Below W.heap.size W w' := fun W hW =>
    inside_any L hok _ b b2 _ x y M.W M.H W (HV2.out.below hok hW) hmok.w1 hmok.w2 hmok.h1 hmok.h2
  have HIN := Lib.hid hin
  clear hv2 hu hin
  go_wp2_with fail
  refine wp_region_grow (by kernel_rfl) (by kernel_rfl) ?_
  repeat (go_big_quiet_step ((go_at_call 60; exact calls_grow (HIN.out _ (grow_below _ _)))))
  refine wpQuiet_nil ?_
  intro _ hw'
  obtain ⟨nq, hw''⟩ := hw'
  subst hw''
  have hb3 := grow_below w2 nq
  generalize grow w2 nq = w3 at hb3 ⊢
  obtain ⟨hc3, hf3, hz3⟩ := after hb3
  have hx3 : w.heap.size < w3.heap.size := by omega
  have hx3' : w.heap.size + 1 < w3.heap.size := by omega
  have hx3'' : w.heap.size + 1 + 1 < w3.heap.size := by omega
  go_wp2_with fail
  refine bodyPost_ret (v := .tuple #[zimg, .int .i64 2]) ?_ rfl ?_
  · simp [results, Try.results31, go_sem, hc3, hc2, hc, hx, hx', hx'', hx2, hx2', hx2'', hx3, hx3', hx3'']
  refine ⟨rfl, ?_⟩
  ((repeat (first | (with_reducible exact Below.refl _ _) | (with_reducible refine Below.setCell ?_ ?_ _) | (with_reducible refine Below.alloc ?_ ?_ _) | (with_reducible refine Below.drew ?_) | (with_reducible refine Below.trans ?_ (Below.mono (by assumption) ?_)))); all_goals ((try simp only [World.size_alloc, World.size_drew, World.size_setCell]); omega))

set_option maxRecDepth 100000 in
set_option maxHeartbeats 4000000 in
theorem paste_arg3 (L M : Lay) (O Q : ByteArray) (x y : Int) (w : World) (hn : L.valid O) (hm : M.valid Q) (h1 : (L.C != M.C) = false) (h2 : (L.B != M.B) = false) (h3 : insB L x y M.W M.H = false) :
    Calls Try.prog 31 #[L.img O, M.img Q, .int .i64 x, .int .i64 y] w fun e w' => e = .returned (.tuple #[zimg, .int .i64 2]) ∧ Below w.heap.size w w' := by
  have HO1 := fun w => open_ok L O w hn
  have HO2 := fun w => open_ok M Q w hm
  have hok := hn.1
  have hmok := hm.1
  unfold Lay.img at HO1 HO2 ⊢
  have HO' := Lib.hid HO1
  have HO'' := Lib.hid HO2
  clear HO1 HO2
  go_enter Try.func31, Try.ntmps31
  go_wp2_with fail
  (with_reducible refine (HO'.out _).mono ?_)
  rintro e w1 ⟨b, b2, rfl, hv, hb⟩
  obtain ⟨hc, hf, hz⟩ := after hb
  simp only [World.size_alloc] at hz
  have hx : w.heap.size < w1.heap.size := by omega
  have hx' : w.heap.size + 1 < w1.heap.size := by omega
  have hx'' : w.heap.size + 1 + 1 < w1.heap.size := by omega
  have HV := Lib.hid hv
  clear hv
  go_wp2_with fail
  (with_reducible refine (HO''.out _).mono ?_)
  rintro e w2 ⟨d, d2, rfl, hu, hb2⟩
  obtain ⟨hc2, hf2, hz2⟩ := after hb2
  have hx2 : w.heap.size < w2.heap.size := by omega
  have hx2' : w.heap.size + 1 < w2.heap.size := by omega
  have hx2'' : w.heap.size + 1 + 1 < w2.heap.size := by omega
  have hv2 := HV.out.below hok hb2
  have hl1 := hv2.lt
  have hl2 := hu.lt
  obtain ⟨v0, v1, v2, v3, v4, v5⟩ := hv2.hd
  obtain ⟨u0, u1, u2, u3, u4, u5⟩ := hu.hd
  have HV2 := Lib.hid hv2
  have HU2 := Lib.hid hu
  have hin : ∀ W, Below w2.heap.size w2 W → Calls Try.prog 60 #[.pointer (some ⟨b, 0, none⟩), .int .i64 x, .int .i64 y, .int .i64 M.W, .int .i64 M.H] W fun e w' => e = .returned (.bool (insB L x y M.W M.H)) ∧ Below W.heap.size W w' := fun W hW =>
    inside_any L hok _ b b2 _ x y M.W M.H W (HV2.out.below hok hW) hmok.w1 hmok.w2 hmok.h1 hmok.h2
  have HIN := Lib.hid hin
  clear hv2 hu hin
  go_wp2_with fail
  refine wp_region_grow (by kernel_rfl) (by kernel_rfl) ?_
  repeat (go_big_quiet_step ((go_at_call 60; exact calls_grow (HIN.out _ (grow_below _ _)))))
  refine wpQuiet_nil ?_
  intro _ hw'
  obtain ⟨nq, hw''⟩ := hw'
  subst hw''
  have hb3 := grow_below w2 nq
  generalize grow w2 nq = w3 at hb3 ⊢
  obtain ⟨hc3, hf3, hz3⟩ := after hb3
  have hx3 : w.heap.size < w3.heap.size := by omega
  have hx3' : w.heap.size + 1 < w3.heap.size := by omega
  have hx3'' : w.heap.size + 1 + 1 < w3.heap.size := by omega
  go_wp2_with fail
  refine bodyPost_ret (v := .tuple #[zimg, .int .i64 2]) ?_ rfl ?_
  · simp [results, Try.results31, go_sem, hc3, hc2, hc, hx, hx', hx'', hx2, hx2', hx2'', hx3, hx3', hx3'']
  refine ⟨rfl, ?_⟩
  ((repeat (first | (with_reducible exact Below.refl _ _) | (with_reducible refine Below.setCell ?_ ?_ _) | (with_reducible refine Below.alloc ?_ ?_ _) | (with_reducible refine Below.drew ?_) | (with_reducible refine Below.trans ?_ (Below.mono (by assumption) ?_)))); all_goals ((try simp only [World.size_alloc, World.size_drew, World.size_setCell]); omega))

end Go.Proofs.Ytphfbjeaklpddaa
