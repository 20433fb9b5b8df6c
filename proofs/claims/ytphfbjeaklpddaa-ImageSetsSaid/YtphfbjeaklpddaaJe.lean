/-
  Layer 42: at, Get, inside.
-/
import Derived.Test.YtphfbjeaklpddaaJd
namespace Go.Proofs.Ytphfbjeaklpddaa
open Go.RowKit

def thereB (L : Lay) (x y : Int) : Bool := inB x 0 (L.W - 1) && inB y 0 (L.H - 1)

set_option maxHeartbeats 400000 in
theorem at_bad (L : Lay) (O : ByteArray) (x y : Int) (w : World) (hn : ¬ L.valid O) :
    Calls Try.prog 46 #[L.img O, .int .i64 x, .int .i64 y] w fun e w' => e = .returned (.tuple #[.pointer none, .int .i64 420]) ∧ Below w.heap.size w w' := by
  have HO := fun w => open_bad L O w hn
  unfold Lay.img at *
  have HO := Lib.hid HO
  go_enter Try.func46, Try.ntmps46
  go_wp2_with fail
  (with_reducible refine (HO.out _).mono ?_)
  rintro e w1 ⟨rfl, hb⟩
  go_wp2_with fail
  go_ret2
  refine ⟨rfl, ?_⟩
  ((repeat (first | (with_reducible exact Below.refl _ _) | (with_reducible refine Below.setCell ?_ ?_ _) | (with_reducible refine Below.alloc ?_ ?_ _) | (with_reducible refine Below.drew ?_) | (with_reducible refine Below.trans ?_ (Below.mono (by assumption) ?_)))); all_goals ((try simp only [World.size_alloc, World.size_drew, World.size_setCell]); omega))

set_option maxHeartbeats 1000000 in
theorem at_none (L : Lay) (O : ByteArray) (x y : Int) (w : World) (hn : L.valid O) (ht : thereB L x y = false) :
    Calls Try.prog 46 #[L.img O, .int .i64 x, .int .i64 y] w fun e w' => e = .returned (.tuple #[.pointer none, .int .i64 2]) ∧ Below w.heap.size w w' := by
  have HO := fun w => open_ok L O w hn
  have hok := hn.1
  have q1 := hok.w1
  have q2 := hok.w2
  have q3 := hok.h1
  have q4 := hok.h2
  unfold Lay.img at *
  have HO := Lib.hid HO
  unfold thereB at ht
  cases hx : inB x 0 (L.W - 1)
  · clear ht
    go_enter Try.func46, Try.ntmps46
    go_wp2_with fail
    (with_reducible refine (HO.out _).mono ?_)
    rintro e w1 ⟨b, b2, rfl, hv, hb⟩
    obtain ⟨v0, v1, v2, v3, v4, v5⟩ := hv.hd
    have hl := hv.lt
    have hz := hb.size
    simp only [World.size_alloc] at hz
    clear hv
    go_wp2_with (first | (go_at_call 50; (with_reducible refine (between1 0 (L.W - 1) x _ _ _ ?_).mono ?_); go_simp; rintro e w2 ⟨rfl, hb2⟩; obtain ⟨hc2, hf2, hz2⟩ := after hb2; simp only [World.size_alloc] at hz2; have hx2 : b < w2.heap.size := (by omega); have hy2 : b ≤ w2.heap.size := (by omega)) | (go_at_call 50; (with_reducible refine (between1 0 (L.H - 1) y _ _ _ ?_).mono ?_); go_simp; rintro e w3 ⟨rfl, hb3⟩; obtain ⟨hc3, hf3, hz3⟩ := after hb3; simp only [World.size_alloc] at hz3; have hx3 : b < w3.heap.size := (by omega); have hy3 : b ≤ w3.heap.size := (by omega)))
    go_ret2
    refine ⟨rfl, ?_⟩
    ((repeat (first | (with_reducible exact Below.refl _ _) | (with_reducible refine Below.setCell ?_ ?_ _) | (with_reducible refine Below.alloc ?_ ?_ _) | (with_reducible refine Below.drew ?_) | (with_reducible refine Below.trans ?_ (Below.mono (by assumption) ?_)))); all_goals ((try simp only [World.size_alloc, World.size_drew, World.size_setCell]); omega))
  · rw [hx, Bool.true_and] at ht
    go_enter Try.func46, Try.ntmps46
    go_wp2_with fail
    (with_reducible refine (HO.out _).mono ?_)
    rintro e w1 ⟨b, b2, rfl, hv, hb⟩
    obtain ⟨v0, v1, v2, v3, v4, v5⟩ := hv.hd
    have hl := hv.lt
    have hz := hb.size
    simp only [World.size_alloc] at hz
    clear hv
    go_wp2_with (first | (go_at_call 50; (with_reducible refine (between1 0 (L.W - 1) x _ _ _ ?_).mono ?_); go_simp; rintro e w2 ⟨rfl, hb2⟩; obtain ⟨hc2, hf2, hz2⟩ := after hb2; simp only [World.size_alloc] at hz2; have hx2 : b < w2.heap.size := (by omega); have hy2 : b ≤ w2.heap.size := (by omega)) | (go_at_call 50; (with_reducible refine (between1 0 (L.H - 1) y _ _ _ ?_).mono ?_); go_simp; rintro e w3 ⟨rfl, hb3⟩; obtain ⟨hc3, hf3, hz3⟩ := after hb3; simp only [World.size_alloc] at hz3; have hx3 : b < w3.heap.size := (by omega); have hy3 : b ≤ w3.heap.size := (by omega)))
    go_ret2
    refine ⟨rfl, ?_⟩
    ((repeat (first | (with_reducible exact Below.refl _ _) | (with_reducible refine Below.setCell ?_ ?_ _) | (with_reducible refine Below.alloc ?_ ?_ _) | (with_reducible refine Below.drew ?_) | (with_reducible refine Below.trans ?_ (Below.mono (by assumption) ?_)))); all_goals ((try simp only [World.size_alloc, World.size_drew, World.size_setCell]); omega))

set_option maxHeartbeats 1000000 in
theorem at_ok (L : Lay) (O : ByteArray) (x y : Int) (w : World) (hn : L.valid O) (ht : thereB L x y = true) :
    Calls Try.prog 46 #[L.img O, .int .i64 x, .int .i64 y] w (Opened L O w) := by
  have HO := fun w => open_ok L O w hn
  have hok := hn.1
  have q1 := hok.w1
  have q2 := hok.w2
  have q3 := hok.h1
  have q4 := hok.h2
  unfold Lay.img at *
  have HO := Lib.hid HO
  unfold thereB at ht
  rw [Bool.and_eq_true] at ht
  obtain ⟨hx, hy⟩ := ht
  go_enter Try.func46, Try.ntmps46
  go_wp2_with fail
  (with_reducible refine (HO.out _).mono ?_)
  rintro e w1 ⟨b, b2, rfl, hv, hb⟩
  obtain ⟨v0, v1, v2, v3, v4, v5⟩ := hv.hd
  have hl := hv.lt
  have hz := hb.size
  simp only [World.size_alloc] at hz
  have HV := Lib.hid hv
  clear hv
  go_wp2_with (first | (go_at_call 50; (with_reducible refine (between1 0 (L.W - 1) x _ _ _ ?_).mono ?_); go_simp; rintro e w2 ⟨rfl, hb2⟩; obtain ⟨hc2, hf2, hz2⟩ := after hb2; simp only [World.size_alloc] at hz2; have hx2 : b < w2.heap.size := (by omega); have hy2 : b ≤ w2.heap.size := (by omega)) | (go_at_call 50; (with_reducible refine (between1 0 (L.H - 1) y _ _ _ ?_).mono ?_); go_simp; rintro e w3 ⟨rfl, hb3⟩; obtain ⟨hc3, hf3, hz3⟩ := after hb3; simp only [World.size_alloc] at hz3; have hx3 : b < w3.heap.size := (by omega); have hy3 : b ≤ w3.heap.size := (by omega)))
  go_ret2
  have hB1 : Below w1.heap.size w1 w3 := by
    ((repeat (first | (with_reducible exact Below.refl _ _) | (with_reducible refine Below.setCell ?_ ?_ _) | (with_reducible refine Below.alloc ?_ ?_ _) | (with_reducible refine Below.drew ?_) | (with_reducible refine Below.trans ?_ (Below.mono (by assumption) ?_)))); all_goals ((try simp only [World.size_alloc, World.size_drew, World.size_setCell]); omega))
  refine ⟨b, b2, rfl, ?_, ?_⟩
  · have := HV.out.below hok hB1
    exact ⟨this.hd, this.fz, this.o6, this.sl, this.bt, this.ne, Nat.le_trans (by simp) this.b1, Nat.le_trans (by simp) this.b2⟩
  clear hB1
  ((repeat (first | (with_reducible exact Below.refl _ _) | (with_reducible refine Below.setCell ?_ ?_ _) | (with_reducible refine Below.alloc ?_ ?_ _) | (with_reducible refine Below.drew ?_) | (with_reducible refine Below.trans ?_ (Below.mono (by assumption) ?_)))); all_goals ((try simp only [World.size_alloc, World.size_drew, World.size_setCell]); omega))

end Go.Proofs.Ytphfbjeaklpddaa
