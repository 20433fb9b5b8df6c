/-
  Layer 42: Make, at, Get, inside.
-/
import Derived.Test.YtphfbjeaklpddaaJc
namespace Go.Proofs.Ytphfbjeaklpddaa
open Go.RowKit

/-- no image -/
abbrev zimg : Value := imgV 0 0 0 0 false 0 ⟨#[]⟩

/-- what holds behind a step that may turn block b alone -/
theorem afterU {b : Nat} {W w1 : World} (hb : Upd b W w1) : (∀ c o, c < W.heap.size → c ≠ b → w1.cell? ⟨c, o, none⟩ = W.cell? ⟨c, o, none⟩) ∧ (∀ c o, c < W.heap.size → c ≠ b → w1.frozen? ⟨c, o, none⟩ = W.frozen? ⟨c, o, none⟩) ∧ W.heap.size ≤ w1.heap.size :=
  ⟨fun c o h hn => hb.cell (p := ⟨c, o, none⟩) h hn, fun c o h hn => hb.frozen (p := ⟨c, o, none⟩) h hn, hb.size⟩

set_option maxHeartbeats 1000000 in
theorem make_bad (W H C B : Int) (pl : Bool) (P : Int) (w : World) (h : shpB W H C B P = false) :
    Calls Try.prog 17 #[.int .i64 W, .int .i64 H, .int .i64 C, .int .i64 B, .bool pl, .int .i64 P] w fun e w' => e = .returned (.tuple #[zimg, .int .i64 2]) ∧ Below w.heap.size w w' := by
  have HO := fun w => blank_bad ⟨W, H, C, B, pl, P⟩ ⟨#[]⟩ w h
  unfold Lay.img at HO
  have HO := Lib.hid HO
  go_enter Try.func17, Try.ntmps17
  go_wp2_with fail
  (with_reducible refine (HO.out _).mono ?_)
  rintro e w1 ⟨rfl, hb⟩
  obtain ⟨hc, hf, hz⟩ := after hb
  simp only [World.size_alloc] at hz
  have hx : w.heap.size < w1.heap.size := by omega
  go_wp2_with fail
  refine bodyPost_ret (v := .tuple #[zimg, .int .i64 2]) ?_ rfl ?_
  · simp [results, Try.results17, go_sem, hc, hx]
  refine ⟨rfl, ?_⟩
  repeat (first | (with_reducible exact Below.refl _ _) | (with_reducible refine Below.setCell ?_ ?_ _) | (with_reducible refine Below.alloc ?_ ?_ _) | (with_reducible refine Below.drew ?_) | (with_reducible refine Below.trans ?_ (Below.mono (by assumption) ?_)))
  all_goals ((try simp only [World.size_alloc, World.size_drew, World.size_setCell]); omega)

set_option maxHeartbeats 1000000 in
theorem make_ok (L : Lay) (w : World) (h : L.ok) :
    Calls Try.prog 17 #[.int .i64 L.W, .int .i64 L.H, .int .i64 L.C, .int .i64 L.B, .bool L.pl, .int .i64 L.P] w fun e w' => e = .returned (.tuple #[L.img (octS L.len.toNat (fun _ => 0)), .int .i64 0]) ∧ Below w.heap.size w w' := by
  have HO := fun w => blank_good L ⟨#[]⟩ w h
  unfold Lay.img at HO
  have HO := Lib.hid HO
  go_enter Try.func17, Try.ntmps17
  go_wp2_with fail
  (with_reducible refine (HO.out _).mono ?_)
  rintro e w1 ⟨b, b2, rfl, hv, hb⟩
  obtain ⟨hc, hf, hz⟩ := after hb
  simp only [World.size_alloc] at hz
  have hx : w.heap.size < w1.heap.size := by omega
  have hl := hv.b1
  simp only [World.size_alloc] at hl
  have hne : w.heap.size ≠ b := by omega
  have hlt := hv.lt
  have hcl := closed_any L h _ b b2 _ w1 hv
  unfold Lay.img at hcl
  have HC := Lib.hid hcl
  clear hcl hv
  go_wp2_with fail
  (with_reducible refine HC.out.mono ?_)
  rintro e w2 ⟨rfl, hu⟩
  obtain ⟨hc2, hf2, hz2⟩ := afterU hu
  have hx2 : w.heap.size < w2.heap.size := by omega
  have hb2 := hu.below (B := w.heap.size) (by omega) (by omega)
  go_wp2_with fail
  refine bodyPost_ret (v := .tuple #[L.img (octS L.len.toNat (fun _ => 0)), .int .i64 0]) ?_ rfl ?_
  · simp [results, Try.results17, go_sem, Lay.img, hc2, hc, hx, hx2, hne]
  refine ⟨rfl, ?_⟩
  repeat (first | (with_reducible exact Below.refl _ _) | (with_reducible refine Below.setCell ?_ ?_ _) | (with_reducible refine Below.alloc ?_ ?_ _) | (with_reducible refine Below.drew ?_) | (with_reducible refine Below.trans ?_ (Below.mono (by assumption) ?_)))
  all_goals ((try simp only [World.size_alloc, World.size_drew, World.size_setCell]); omega)

end Go.Proofs.Ytphfbjeaklpddaa
