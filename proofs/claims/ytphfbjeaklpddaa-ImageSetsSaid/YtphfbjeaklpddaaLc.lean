/-
  Layer 42, the reference: Check, Stride, Make.
-/
import Derived.Test.YtphfbjeaklpddaaLa
import Derived.Test.YtphfbjeaklpddaaLb
import Derived.Test.YtphfbjeaklpddaaTail
namespace Go.Proofs.Ytphfbjeaklpddaa
open Go.RowKit

attribute [local go_sem] Oper.semAt_some

set_option maxHeartbeats 1000000 in
theorem rcheck_any (I : Im) (w : World) : Calls Try.prog 16 #[I.v] w fun e w' => e = .returned (.int .i64 (chkR I)) ∧ Below w.heap.size w w' := by
  have HR := right_any I
  unfold Im.v Lay.img at *
  have HO := Lib.hid HR
  clear HR
  unfold chkR
  cases h : I.vB
  all_goals
    rw [h] at HO
    go_enter Try.func16, Try.ntmps16
    go_wp2_with fail
    (with_reducible refine (HO.out _).mono ?_)
    rintro e w1 ⟨rfl, hb⟩
    go_wp2_with fail
    go_ret
    exact ⟨rfl, ((Below.refl _ _).alloc (Nat.le_refl _) _).trans (hb.mono (by simp))⟩

set_option maxHeartbeats 1000000 in
theorem rstride2_any (I : Im) (w : World) : Calls Try.prog 14 #[I.v] w fun e w' => e = .returned (.tuple #[.int .i64 (strR I).1, .int .i64 (strR I).2]) ∧ Below w.heap.size w w' := by
  have HR := right_any I
  unfold Im.v Lay.img at *
  have HO := Lib.hid HR
  clear HR
  unfold strR
  cases h : I.vB
  · rw [h] at HO
    go_enter Try.func14, Try.ntmps14
    go_wp2_with fail
    (with_reducible refine (HO.out _).mono ?_)
    rintro e w1 ⟨rfl, hb⟩
    go_wp2_with fail
    go_ret2
    exact ⟨rfl, ((Below.refl _ _).alloc (Nat.le_refl _) _).trans (hb.mono (by simp))⟩
  · rw [h] at HO
    have hok := (vB_yes h).1
    have hst : ∀ w, Calls Try.prog 40 #[imgV I.L.W I.L.H I.L.C I.L.B I.L.pl I.L.P I.O] w fun e w' => e = .returned (.int .i64 I.L.str) ∧ Below w.heap.size w w' := fun w => rstride_any _ _ _ _ _ _ _ w hok
    have HST := Lib.hid hst
    clear hst
    go_enter Try.func14, Try.ntmps14
    go_wp2_with fail
    (with_reducible refine (HO.out _).mono ?_)
    rintro e w1 ⟨rfl, hb⟩
    obtain ⟨hc, hf, hz⟩ := after hb
    simp only [World.size_alloc] at hz
    have hx : w.heap.size < w1.heap.size := by omega
    go_wp2_with fail
    (with_reducible refine (HST.out _).mono ?_)
    rintro e w2 ⟨rfl, hb2⟩
    go_wp2_with fail
    go_ret2
    exact ⟨rfl, ((Below.refl _ _).alloc (Nat.le_refl _) _).trans ((hb.mono (by simp)).trans (hb2.mono (by omega)))⟩

theorem zeros_int (z : Int) (z0 : 0 ≤ z) (hz : z ≤ 200000) (w : World) :
    Calls Try.prog 44 #[.int .i64 z] w fun e w' => e = .returned (.string (octS z.toNat fun _ => 0)) ∧ Below w.heap.size w w' := by
  obtain ⟨n, rfl⟩ := Int.eq_ofNat_of_zero_le z0
  exact zeros_any n (by omega) w

set_option maxHeartbeats 1000000 in
theorem rmake_bad (L : Lay) (w : World) (h : shpB L.W L.H L.C L.B L.P = false) :
    Calls Try.prog 18 #[.int .i64 L.W, .int .i64 L.H, .int .i64 L.C, .int .i64 L.B, .bool L.pl, .int .i64 L.P] w fun e w' => e = .returned (.tuple #[zimg, .int .i64 2]) ∧ Below w.heap.size w w' := by
  have hs : ∀ w, Calls Try.prog 43 #[imgV L.W L.H L.C L.B L.pl L.P ⟨#[]⟩] w fun e w' => e = .returned (.bool false) ∧ Below w.heap.size w w' := fun w => by
    have := rshaped_any L.W L.H L.C L.B L.pl L.P ⟨#[]⟩ w
    rwa [h] at this
  have HS := Lib.hid hs
  clear hs
  go_enter Try.func18, Try.ntmps18
  go_wp2_with fail
  (with_reducible refine (HS.out _).mono ?_)
  rintro e w1 ⟨rfl, hb⟩
  obtain ⟨hc, hf, hz⟩ := after hb
  simp only [World.size_alloc] at hz
  have hx : w.heap.size < w1.heap.size := by omega
  have hx' : w.heap.size + 1 < w1.heap.size := by omega
  have hq : w.heap.size < w.heap.size + 1 + 1 := by omega
  go_wp2_with fail
  refine bodyPost_ret (v := .tuple #[zimg, .int .i64 2]) ?_ rfl ?_
  · simp [results, Try.results18, go_sem, hc, hx, hx', hq]
  refine ⟨rfl, ?_⟩
  ((repeat (first | (with_reducible exact Below.refl _ _) | (with_reducible refine Below.setCell ?_ ?_ _) | (with_reducible refine Below.alloc ?_ ?_ _) | (with_reducible refine Below.drew ?_) | (with_reducible refine Below.trans ?_ (Below.mono (by assumption) ?_)))); all_goals ((try simp only [World.size_alloc, World.size_drew, World.size_setCell]); omega))

set_option maxRecDepth 100000 in
set_option maxHeartbeats 2000000 in
theorem rmake_ok (L : Lay) (w : World) (hok : L.ok) :
    Calls Try.prog 18 #[.int .i64 L.W, .int .i64 L.H, .int .i64 L.C, .int .i64 L.B, .bool L.pl, .int .i64 L.P] w fun e w' => e = .returned (.tuple #[L.img (octS L.len.toNat (fun _ => 0)), .int .i64 0]) ∧ Below w.heap.size w w' := by
  have h := (shpB_iff _ _ _ _ _).2 hok
  have hr := L.rows_bd hok
  have hst := L.row_str hok
  have hs : ∀ w, Calls Try.prog 43 #[imgV L.W L.H L.C L.B L.pl L.P ⟨#[]⟩] w fun e w' => e = .returned (.bool true) ∧ Below w.heap.size w w' := fun w => by
    have := rshaped_any L.W L.H L.C L.B L.pl L.P ⟨#[]⟩ w
    rwa [h] at this
  have h1 : ∀ w, Calls Try.prog 45 #[imgV L.W L.H L.C L.B L.pl L.P ⟨#[]⟩] w fun e w' => e = .returned (.int .i64 L.rows) ∧ Below w.heap.size w w' := fun w => rrows_any _ _ _ _ _ _ _ w hok
  have h2 : ∀ w, Calls Try.prog 40 #[imgV L.W L.H L.C L.B L.pl L.P ⟨#[]⟩] w fun e w' => e = .returned (.int .i64 L.str) ∧ Below w.heap.size w w' := fun w => rstride_any _ _ _ _ _ _ _ w hok
  obtain ⟨r1, r2⟩ := hr
  obtain ⟨s0, s1, s2⟩ := hst
  obtain ⟨m1, m2⟩ := mul_bd (a := L.rows) (b := L.str) (A := 256) (B := 520) (by omega) r2 (by omega) s2
  have h3 : ∀ w, Calls Try.prog 44 #[.int .i64 (L.rows * L.str)] w fun e w' => e = .returned (.string (octS L.len.toNat fun _ => 0)) ∧ Below w.heap.size w w' := fun w => zeros_int _ m1 (by omega) w
  have HS := Lib.hid hs
  have H1 := Lib.hid h1
  have H2 := Lib.hid h2
  have H3 := Lib.hid h3
  clear hs h1 h2 h3 h
  unfold Lay.img
  go_enter Try.func18, Try.ntmps18
  go_wp2_with fail
  (with_reducible refine (HS.out _).mono ?_)
  rintro e w1 ⟨rfl, hb⟩
  obtain ⟨hc, hf, hz⟩ := after hb
  simp only [World.size_alloc] at hz
  have hx : w.heap.size < w1.heap.size := by omega
  have hx' : w.heap.size + 1 < w1.heap.size := by omega
  go_wp2_with fail
  refine wp_region_grow_tail 7 (by kernel_rfl) (by kernel_rfl) ?_
  simp only [List.take_succ_cons, List.take_zero, List.drop_succ_cons, List.drop_zero]
  repeat (go_big_quiet_step (first
    | (go_at_call 45; exact calls_grow (H1.out _))
    | (go_at_call 40; exact calls_grow (H2.out _))
    | (go_at_call 44; exact calls_grow (H3.out _))))
  refine wpQuiet_nil ?_
  intro w2 hb2
  obtain ⟨hc2, hf2, hz2⟩ := after hb2
  have hx2 : w.heap.size < w2.heap.size := by omega
  have hx2' : w.heap.size + 1 < w2.heap.size := by omega
  go_wp2_with fail
  have hq : w.heap.size < w.heap.size + 1 + 1 := by omega
  refine bodyPost_ret (v := .tuple #[L.img (octS L.len.toNat (fun _ => 0)), .int .i64 0]) ?_ rfl ?_
  · simp [results, Try.results18, go_sem, Lay.img, hc2, hc, hx, hx', hx2, hx2', hq]
  refine ⟨rfl, ?_⟩
  ((repeat (first | (with_reducible exact Below.refl _ _) | (with_reducible refine Below.setCell ?_ ?_ _) | (with_reducible refine Below.alloc ?_ ?_ _) | (with_reducible refine Below.drew ?_) | (with_reducible refine Below.trans ?_ (Below.mono (by assumption) ?_)))); all_goals ((try simp only [World.size_alloc, World.size_drew, World.size_setCell]); omega))

theorem rmake_any (L : Lay) (w : World) : Calls Try.prog 18 #[.int .i64 L.W, .int .i64 L.H, .int .i64 L.C, .int .i64 L.B, .bool L.pl, .int .i64 L.P] w (ImPost (makR L) w) := by
  unfold makR
  cases h : shpB L.W L.H L.C L.B L.P
  · exact rmake_bad L w h
  · exact rmake_ok L w ((shpB_iff _ _ _ _ _).1 h)

end Go.Proofs.Ytphfbjeaklpddaa
