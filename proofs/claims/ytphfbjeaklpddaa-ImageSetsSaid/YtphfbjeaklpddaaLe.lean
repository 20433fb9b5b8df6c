/-
  Layer 42, the reference: sample, Get.
-/
import Derived.Test.YtphfbjeaklpddaaLd
namespace Go.Proofs.Ytphfbjeaklpddaa
open Go.RowKit

attribute [local go_sem] Oper.semAt_some

theorem octAt_get' (O : ByteArray) (p : Int) (p0 : 0 ≤ p) (h : p.toNat < O.size) : octAt O p = (O[p.toNat].toNat : Int) := by
  obtain ⟨q, rfl⟩ := Int.eq_ofNat_of_zero_le p0
  exact octAt_get O q h

set_option maxHeartbeats 1000000 in
theorem rsample_any (I : Im) (x y c : Int) (w : World) (hv : I.vB = true) (hd : I.L.dom x y c) :
    Calls Try.prog 49 #[I.v, .int .i64 x, .int .i64 y, .int .i64 c] w fun e w' => e = .returned (.int .i64 (I.L.fn I.O x y c)) ∧ Below w.heap.size w w' := by
  have hva := vB_yes hv
  have hok := hva.1
  have hsz := hva.2.1
  have hlb := I.L.len_bd hok
  have hpl : ∀ w, Calls Try.prog 72 #[imgV I.L.W I.L.H I.L.C I.L.B I.L.pl I.L.P I.O, .int .i64 x, .int .i64 y, .int .i64 c] w fun e w' => e = .returned (.int .i64 (I.L.plc x y c)) ∧ Below w.heap.size w w' :=
    fun w => rplace_any _ _ _ _ _ _ _ x y c w hok hd.1.1 hd.1.2 hd.2.1.1 hd.2.1.2 hd.2.2.1 hd.2.2.2
  have HPL := Lib.hid hpl
  obtain ⟨p0, p1, _⟩ := I.L.coords hok hd (d := 0) (by omega) (by have := I.L.n_cases hok; omega)
  rw [Int.add_zero] at p0 p1
  have hpO : (I.L.plc x y c).toNat < I.O.size := by omega
  have hpO' : I.L.plc x y c < I.O.size := by omega
  have e0 := octAt_get' I.O (I.L.plc x y c) p0 hpO
  obtain ⟨g0, g1⟩ := octAt_range I.O (I.L.plc x y c)
  have hlO : (I.O.size : Int) ≤ 133120 := by omega
  rcases I.L.n_cases hok with ⟨hn, hB⟩ | ⟨hn, hB⟩
  · have hr : I.L.fn I.O x y c = octAt I.O (I.L.plc x y c) := by unfold Lay.fn Lay.smp; rw [if_pos hB]
    have HR := Lib.hid hr
    have E0 := Lib.hid e0
    rw [hB] at HPL
    clear hr e0 hpl hsz hlb hd hva hv hok hn
    rw [E0.out] at g0 g1
    obtain ⟨L, O⟩ := I
    unfold Im.v Lay.img
    dsimp only at *
    simp only [hB]
    clear hB
    go_enter Try.func49, Try.ntmps49
    go_wp2_with fail
    (with_reducible refine (HPL.out _).mono ?_)
    rintro e w1 ⟨rfl, hb⟩
    obtain ⟨hc, hf, hz⟩ := after hb
    simp only [World.size_alloc] at hz
    have hx : w.heap.size < w1.heap.size := by omega
    go_wp2_with fail
    go_ret
    exact ⟨by rw [HR.out, E0.out]; rfl, ((Below.refl _ _).alloc (Nat.le_refl _) _).trans (hb.mono (by simp))⟩
  · obtain ⟨q0, q1, _⟩ := I.L.coords hok hd (d := 1) (by omega) (by omega)
    have hqO : (I.L.plc x y c + 1).toNat < I.O.size := by omega
    have hqO' : I.L.plc x y c + 1 < I.O.size := by omega
    have e1 := octAt_get' I.O (I.L.plc x y c + 1) q0 hqO
    obtain ⟨k0, k1⟩ := octAt_range I.O (I.L.plc x y c + 1)
    have hr : I.L.fn I.O x y c = 256 * octAt I.O (I.L.plc x y c) + octAt I.O (I.L.plc x y c + 1) := by unfold Lay.fn Lay.smp; rw [if_neg (by omega)]
    have HR := Lib.hid hr
    have E0 := Lib.hid e0
    have E1 := Lib.hid e1
    rw [hB] at HPL
    clear hr e0 e1 hpl hsz hlb hd hva hv hok hn
    rw [E0.out] at g0 g1
    rw [E1.out] at k0 k1
    obtain ⟨L, O⟩ := I
    unfold Im.v Lay.img
    dsimp only at *
    simp only [hB]
    clear hB
    go_enter Try.func49, Try.ntmps49
    go_wp2_with fail
    (with_reducible refine (HPL.out _).mono ?_)
    rintro e w1 ⟨rfl, hb⟩
    obtain ⟨hc, hf, hz⟩ := after hb
    simp only [World.size_alloc] at hz
    have hx : w.heap.size < w1.heap.size := by omega
    go_wp2_with fail
    go_region
    go_wp2_with fail
    go_ret
    exact ⟨by rw [HR.out, E0.out, E1.out]; rfl, (((Below.refl _ _).alloc (Nat.le_refl _) _).trans (hb.mono (by simp))).drew⟩

end Go.Proofs.Ytphfbjeaklpddaa
