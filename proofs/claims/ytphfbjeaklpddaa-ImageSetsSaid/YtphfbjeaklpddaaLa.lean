/-
  Layer 42, the reference: zeros, there, sample.
-/
import Derived.Test.YtphfbjeaklpddaaKa
namespace Go.Proofs.Ytphfbjeaklpddaa
open Go.RowKit

attribute [local go_sem] Oper.semAt_some

set_option maxHeartbeats 1000000 in
theorem zeros_any (n : Nat) (hn : n ≤ 200000) (w : World) :
    Calls Try.prog 44 #[.int .i64 n] w fun e w' => e = .returned (.string (octS n fun _ => 0)) ∧ Below w.heap.size w w' := by
  have hmk := run_make_row' (P := Try.prog) 70 5 (.int .u8 0) 1 Try.underlying70 info_u8 rfl .i64 .i64 n (by omega) (by omega)
  have hcv := run_convert_bytes_arg (P := Try.prog) (w.alloc (.cells (madeCells #[.int .u8 0] n) 5)) 70 5 Try.underlying70 Try.underlying5 w.heap.size 0 n n ((List.range n).map fun _ => (0 : Int)) (by simp) (fun i hi => by
    have hi' : i < n := by simpa using hi
    rw [Nat.zero_add, World.cell?_alloc_new]
    simp [madeCells, hi', Nat.mod_one]) 9 Try.underlying9
  go_enter Try.func44, Try.ntmps44
  go_wp2
  go_ret
  exact ⟨rfl, (Below.refl _ _).alloc (Nat.le_refl _) _⟩

set_option maxHeartbeats 1000000 in
theorem there_any (I : Im) (x y : Int) (w : World) (hok : I.L.ok) :
    Calls Try.prog 48 #[I.v, .int .i64 x, .int .i64 y] w fun e w' => e = .returned (.bool (thereB I.L x y)) ∧ Below w.heap.size w w' := by
  have q1 := hok.w1
  have q2 := hok.w2
  have q3 := hok.h1
  have q4 := hok.h2
  unfold Im.v Lay.img
  cases h1 : inB x 0 (I.L.W - 1)
  · have hr : thereB I.L x y = false := by unfold thereB; rw [h1]; rfl
    have HR := Lib.hid hr
    clear hr
    go_enter Try.func48, Try.ntmps48
    go_wp2_with fail
    (with_reducible refine (within_any _ _ _ _).mono ?_)
    rintro e w1 ⟨rfl, rfl⟩
    go_wp2_with fail
    go_ret
    exact ⟨by rw [HR.out]; rfl, (Below.refl _ _).alloc (Nat.le_refl _) _⟩
  · have hr : thereB I.L x y = inB y 0 (I.L.H - 1) := by unfold thereB; rw [h1]; rfl
    have HR := Lib.hid hr
    clear hr
    go_enter Try.func48, Try.ntmps48
    go_wp2_with fail
    (with_reducible refine (within_any _ _ _ _).mono ?_)
    rintro e w1 ⟨rfl, rfl⟩
    go_wp2_with fail
    (with_reducible refine (within_any _ _ _ _).mono ?_)
    rintro e w1 ⟨rfl, rfl⟩
    go_wp2_with fail
    go_ret
    exact ⟨by rw [HR.out]; rfl, (Below.refl _ _).alloc (Nat.le_refl _) _⟩

end Go.Proofs.Ytphfbjeaklpddaa
