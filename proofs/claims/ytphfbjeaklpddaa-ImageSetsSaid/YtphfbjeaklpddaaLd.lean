/-
  Layer 42, the reference: put.
-/
import Derived.Test.YtphfbjeaklpddaaLc
import Derived.Test.YtphfbjeaklpddaaLm
namespace Go.Proofs.Ytphfbjeaklpddaa
open Go.RowKit

attribute [local go_sem] Oper.semAt_some

/-- octets in memory -/
def Byt (w : World) (b2 : Nat) (L : Lay) (g : Int → Int) : Prop := ∀ p : Nat, p < L.len.toNat → w.cell? ⟨b2, p, none⟩ = some (.int .u8 (g p)) ∧ w.frozen? ⟨b2, p, none⟩ = false

theorem Byt.lt {w : World} {b2 : Nat} {L : Lay} {g : Int → Int} (h : Byt w b2 L g) (hok : L.ok) : b2 < w.heap.size := World.block_lt_of_cell? _ _ (h 0 (by have := L.len_bd hok; omega)).1

theorem Byt.below {w w' : World} {b2 : Nat} {L : Lay} {g : Int → Int} (h : Byt w b2 L g) (hok : L.ok) (hb : Below w.heap.size w w') : Byt w' b2 L g := fun p hp => by
  rw [hb.cell (p := ⟨b2, p, none⟩) (h.lt hok), hb.frozen (p := ⟨b2, p, none⟩) (h.lt hok)]
  exact h p hp

theorem Byt.set8 {w : World} {b2 : Nat} {L : Lay} {f : Int → Int → Int → Int} (h : Byt w b2 L (L.octF f)) (hok : L.ok) (hB : L.n = 1) {x y c : Int} (hd : L.dom x y c) (v : Int) :
    Byt (w.setCell ⟨b2, (L.plc x y c).toNat, none⟩ (.int .u8 (v % 256))) b2 L (L.octF (Lay.upd f x y c v)) := by
  obtain ⟨p0, p1, _⟩ := L.coords hok hd (d := 0) (by omega) (by omega)
  rw [Int.add_zero] at p0 p1
  intro q hq
  refine ⟨?_, by rw [World.frozen?_setCell]; exact (h q hq).2⟩
  rw [L.octF_upd hok hd f (by omega) (by omega)]
  by_cases e : q = (L.plc x y c).toNat
  · subst e
    rw [World.cell?_setCell_same _ _ _ (h _ hq).1, if_pos (by omega)]
    unfold Lay.byt
    rw [if_neg (by omega)]
  · rw [World.cell?_setCell_other _ _ _ _ (by intro e'; cases e'; exact e rfl), if_neg (by omega)]
    exact (h q hq).1

theorem Byt.set16 {w : World} {b2 : Nat} {L : Lay} {f : Int → Int → Int → Int} (h : Byt w b2 L (L.octF f)) (hok : L.ok) (hB : L.n = 2) {x y c : Int} (hd : L.dom x y c) (v : Int) :
    Byt ((w.setCell ⟨b2, (L.plc x y c).toNat, none⟩ (.int .u8 (v / 256 % 256))).setCell ⟨b2, (L.plc x y c + 1).toNat, none⟩ (.int .u8 (v % 256))) b2 L (L.octF (Lay.upd f x y c v)) := by
  obtain ⟨p0, p1, _⟩ := L.coords hok hd (d := 0) (by omega) (by omega)
  obtain ⟨q0, q1, _⟩ := L.coords hok hd (d := 1) (by omega) (by omega)
  rw [Int.add_zero] at p0 p1
  intro q hq
  refine ⟨?_, by rw [World.frozen?_setCell, World.frozen?_setCell]; exact (h q hq).2⟩
  rw [L.octF_upd hok hd f (by omega) (by omega)]
  by_cases e : q = (L.plc x y c + 1).toNat
  · subst e
    have h1 : (w.setCell ⟨b2, (L.plc x y c).toNat, none⟩ (.int .u8 (v / 256 % 256))).cell? ⟨b2, (L.plc x y c + 1).toNat, none⟩ = _ := (World.cell?_setCell_other _ _ _ _ (by intro e'; have e2 := congrArg Addr.off e'; dsimp only at e2; omega)).trans (h _ hq).1
    rw [World.cell?_setCell_same _ _ _ h1, if_pos (by omega)]
    unfold Lay.byt
    rw [if_neg (by omega)]
  · rw [World.cell?_setCell_other _ _ _ _ (by intro e'; cases e'; exact e rfl)]
    by_cases e2 : q = (L.plc x y c).toNat
    · subst e2
      rw [World.cell?_setCell_same _ _ _ (h _ hq).1, if_pos (by omega)]
      unfold Lay.byt
      rw [if_pos ⟨hB, by omega⟩]
    · rw [World.cell?_setCell_other _ _ _ _ (by intro e'; cases e'; exact e2 rfl), if_neg (by omega)]
      exact (h q hq).1

theorem Byt.congr {w : World} {b2 : Nat} {L : Lay} {g g' : Int → Int} (h : Byt w b2 L g) (hg : ∀ p : Int, 0 ≤ p → p < L.len → g p = g' p) : Byt w b2 L g' := fun p hp => by
  rw [← hg p (by omega) (by omega)]
  exact h p hp

set_option maxRecDepth 100000 in
set_option maxHeartbeats 4000000 in
theorem rput1 (I : Im) (hv : I.vB = true) (hn : I.L.n = 1) (hB : I.L.B = 8) (x y : Int) (xs : List Int) (a : Option Addr) (cap : Nat) (w : World)
    (x0 : 0 ≤ x) (xW : x < I.L.W) (y0 : 0 ≤ y) (yH : y < I.L.H) (hxs : Ints w a xs) (hlen : (xs.length : Int) = I.L.C) (hpos : ∀ v ∈ xs, 0 ≤ v ∧ v < 65536) :
    Calls Try.prog 52 #[I.v, .int .i64 x, .int .i64 y, .slice a xs.length cap] w fun e w' =>
      e = .returned ((imF I.L (putF (I.L.fn I.O) x y xs xs.length)).v) ∧ Below w.heap.size w w' := by
  have hva := vB_yes hv
  have hok := hva.1
  have hlb := I.L.len_bd hok
  have hc1 := hok.c1
  have hc2 := hok.c2
  have hsz := hva.2.1
  obtain ⟨f, hf⟩ : ∃ f, f = I.L.fn I.O := ⟨_, rfl⟩
  have hoct : ∀ p : Int, 0 ≤ p → p < I.L.len → octAt I.O p = I.L.octF f p := fun p p0 p1 => by rw [hf]; exact (I.L.octF_smp hok (octAt I.O) (octAt_range I.O) hva.2.2 p0 p1).symm
  rw [← hf]
  have HO := Lib.hid hoct
  have HPOS := Lib.hid hpos
  have HLEN := Lib.hid hlen
  have HOK := Lib.hid hok
  have HN := Lib.hid hn
  have HSZ := Lib.hid hsz
  have HXS := Lib.hid hxs
  clear hoct hpos hf hva hv hlen hn hsz hxs
  have hpl : ∀ (k : Nat) w, (k : Int) < I.L.C → Calls Try.prog 72 #[imgV I.L.W I.L.H I.L.C I.L.B I.L.pl I.L.P I.O, .int .i64 x, .int .i64 y, .int .i64 k] w fun e w' => e = .returned (.int .i64 (I.L.plc x y k)) ∧ Below w.heap.size w w' :=
    fun k w hk => rplace_any _ _ _ _ _ _ _ x y k w hok x0 xW y0 yH (by omega) hk
  obtain ⟨cap2, CF, hconv, hCF⟩ := conv_bytes (P := Try.prog) 9 70 I.O (by kernel_rfl) (by kernel_rfl) (by kernel_rfl)
  have HPL := Lib.hid hpl
  have HCF := Lib.hid hCF
  clear hpl hCF
  obtain ⟨L, O⟩ := I
  dsimp only at *
  rw [hB] at HPL
  have HBB := Lib.hid hB
  unfold Im.v Lay.img
  dsimp only
  simp only [hB]
  clear hB
  go_enter Try.func52, Try.ntmps52
  go_wp2
  obtain ⟨cp, hcp⟩ : ∃ cp, cp = cap2 ((w.alloc (.cells #[.int .i64 L.W, .int .i64 L.H, .int .i64 L.C, .int .i64 8, .bool L.pl, .int .i64 L.P, .string O] 31)).alloc (.cells #[.int .i64 0, .int .i64 0, .int .i64 0, .int .i64 0, .bool false, .int .i64 0, .string ⟨#[]⟩] 31)) := ⟨_, rfl⟩
  rw [← hcp]
  clear hcp hconv
  go_loopw [10, 11] (fun i _ wr => ∃ k : Nat, k ≤ xs.length ∧ i = .int .i64 k ∧ HasIm wr w.heap.size ⟨⟨L.W, L.H, L.C, 8, L.pl, L.P⟩, O⟩ ∧ HasIm wr (w.heap.size + 1) ⟨⟨0, 0, 0, 0, false, 0⟩, ⟨#[]⟩⟩ ∧ Byt wr (w.heap.size + 1 + 1) L (L.octF (putF f x y xs k)) ∧ Below w.heap.size w wr) (fun i _ _ => xs.length - (intOf i).toNat)
  case atStart =>
    refine ⟨0, Nat.zero_le _, rfl, ⟨by go_simp, by go_simp, by go_simp, by go_simp, by go_simp, by go_simp, by go_simp, by go_simp, fun o => by go_simp⟩, ⟨by go_simp, by go_simp, by go_simp, by go_simp, by go_simp, by go_simp, by go_simp, by go_simp, fun o => by go_simp⟩, ?_, ?_⟩
    · intro p hp
      rw [putF_zero, ← HO.out p (by omega) (by omega)]
      have hp' : p < O.size := by have := HSZ.out; omega
      have h1 := HCF.out ((w.alloc (.cells #[.int .i64 L.W, .int .i64 L.H, .int .i64 L.C, .int .i64 8, .bool L.pl, .int .i64 L.P, .string O] 31)).alloc (.cells #[.int .i64 0, .int .i64 0, .int .i64 0, .int .i64 0, .bool false, .int .i64 0, .string ⟨#[]⟩] 31)) p hp'
      obtain ⟨W0, hW0⟩ : ∃ W0, W0 = (w.alloc (.cells #[.int .i64 L.W, .int .i64 L.H, .int .i64 L.C, .int .i64 8, .bool L.pl, .int .i64 L.P, .string O] 31)).alloc (.cells #[.int .i64 0, .int .i64 0, .int .i64 0, .int .i64 0, .bool false, .int .i64 0, .string ⟨#[]⟩] 31) := ⟨_, rfl⟩
      have hs0 : w.heap.size + 1 + 1 = W0.heap.size := by rw [hW0]; simp
      rw [← hW0] at h1 ⊢
      rw [World.cell?_drew, hs0]
      rw [World.frozen?_drew, World.frozen?_alloc_mark W0 (CF W0) 5 (CF W0).size ((CF W0).size + 1) p, World.cell?_alloc_mark W0 (CF W0) 5 ((CF W0).size, (CF W0).size + 1) p]
      refine ⟨h1, ?_⟩
      have h2 := (Array.getElem?_eq_some_iff.1 h1).1
      simp; omega
    · ((repeat (first | (with_reducible exact Below.refl _ _) | (with_reducible refine Below.setCell ?_ ?_ _) | (with_reducible refine Below.alloc ?_ ?_ _) | (with_reducible refine Below.drew ?_) | (with_reducible refine Below.trans ?_ (Below.mono (by assumption) ?_)))); all_goals ((try simp only [World.size_alloc, World.size_drew, World.size_setCell]); omega))
  case round =>
    obtain ⟨k, hk, rfl, hI, hZ, hY, hB⟩ := hrel
    obtain ⟨il, i0, i1, i2, i3, i4, i5, i6, iz⟩ := hI
    dsimp only at i0 i1 i2 i3 i4 i5 i6
    have HIM : Hid (HasIm wr w.heap.size ⟨⟨L.W, L.H, L.C, 8, L.pl, L.P⟩, O⟩) := Lib.hid ⟨il, i0, i1, i2, i3, i4, i5, i6, iz⟩
    have HZ := Lib.hid hZ
    have HY := Lib.hid hY
    have HB := Lib.hid hB
    by_cases hlt : k < xs.length
    · clear hZ hY hB
      have hkC : (k : Int) < L.C := by have := HLEN.out; omega
      have hkC' : ¬ L.C ≤ (k : Int) := by omega
      go_wp2_with fail
      (with_reducible refine (HPL.out k _ hkC).mono ?_)
      rintro e w1 ⟨rfl, hb1⟩
      have HIM1 := Lib.hid (HIM.out.below hb1)
      have HZ1 := Lib.hid (HZ.out.below hb1)
      have HY1 := Lib.hid (HY.out.below HOK.out hb1)
      have HB1 := Lib.hid (HB.out.trans (hb1.mono HB.out.size))
      obtain ⟨il, i0, i1, i2, i3, i4, i5, i6, iz⟩ := HIM1.out
      dsimp only at i0 i1 i2 i3 i4 i5 i6
      have hxs1 := HXS.out.below (w' := w1) HB1.out
      obtain ⟨ab, off, v, rfl, hc, HX⟩ := hxs1.at hlt
      have hab : ab < w.heap.size := by
        obtain ⟨ab', off', v', e', hc', _⟩ := HXS.out.at hlt
        cases e'
        exact World.block_lt_of_cell? _ _ hc'
      obtain ⟨hv0, hv1⟩ := HPOS.out v (List.mem_of_getElem? HX.out)
      have hdom : L.dom x y k := ⟨⟨x0, xW⟩, ⟨y0, yH⟩, ⟨by omega, hkC⟩⟩
      obtain ⟨p0, p1, _⟩ := L.coords HOK.out hdom (d := 0) (by omega) (by have := HN.out; omega)
      
      rw [Int.add_zero] at p0 p1
      have hpO : L.plc x y k < O.size := by have := HSZ.out; omega
      have hc0 := (HY1.out (L.plc x y k).toNat (by omega)).1
      have hf0 := (HY1.out (L.plc x y k).toNat (by omega)).2
      have hlO : (O.size : Int) ≤ 133120 := by have := HSZ.out; omega
      have HDOM := Lib.hid hdom
      clear hdom hb1 hxs1
      go_wp2_with fail
      go_roundw
      case rel =>
        refine ⟨k + 1, by omega, by go_num, (HIM1.out).set_other (by show _ ≠ w.heap.size + 1 + 1; omega) _, (HZ1.out).set_other (by show _ ≠ w.heap.size + 1 + 1; omega) _, ?_, (HB1.out).setCell (by show _ ≤ w.heap.size + 1 + 1; omega) _⟩
        rw [← putF_succ f x y xs k v HX.out]
        have hset := HY1.out.set8 HOK.out HN.out HDOM.out v
        try rw [show v / 256 % 256 = v / 256 by omega] at hset
        exact hset
      case measure => simp [intOf]; omega
    · have hkk : k = xs.length := by omega
      have hNN : O.size = L.len.toNat := by have := HSZ.out; omega
      have hcv := run_convert_bytes_arg (P := Try.prog) wr 70 5 Try.underlying70 Try.underlying5 (w.heap.size + 1 + 1) 0 O.size cp ((List.range O.size).map fun p => L.octF (putF f x y xs k) (p : Nat)) (by simp) (fun i hi => by
        have hi' : i < O.size := by simpa using hi
        rw [Nat.zero_add, (hY i (by omega)).1]
        simp [List.getD, hi']) 9 Try.underlying9
      have HKK := Lib.hid hkk
      have HNN := Lib.hid hNN
      have HCV := Lib.hid hcv
      obtain ⟨zl, z0, z1, z2, z3, z4, z5, z6, zz⟩ := hZ
      dsimp only at z0 z1 z2 z3 z4 z5 z6
      have hkC' : L.C ≤ (k : Int) := by have := HLEN.out; omega
      have hB' := hB
      clear hkk hNN hY
      clear hB
      go_wp2_with fail
      refine bodyPost_ret (v := (⟨L.W, L.H, L.C, 8, L.pl, L.P⟩ : Lay).img (octS O.size (L.octF (putF f x y xs k)))) ?_ rfl ?_
      · simp [results, Try.results52, go_sem, Lay.img, octS, z0, z1, z2, z3, z4, z5, z6]
      · refine ⟨?_, ?_⟩
        · rw [HNN.out, ← HKK.out]
          unfold imF Lay.img
          dsimp only
          rw [HBB.out]
        · ((repeat (first | (with_reducible exact Below.refl _ _) | (with_reducible refine Below.setCell ?_ ?_ _) | (with_reducible refine Below.alloc ?_ ?_ _) | (with_reducible refine Below.drew ?_) | (with_reducible refine Below.trans ?_ (Below.mono (by assumption) ?_)))); all_goals ((try simp only [World.size_alloc, World.size_drew, World.size_setCell]); omega))

set_option maxRecDepth 100000 in
set_option maxHeartbeats 4000000 in
theorem rput2 (I : Im) (hv : I.vB = true) (hn : I.L.n = 2) (hB : I.L.B = 16) (x y : Int) (xs : List Int) (a : Option Addr) (cap : Nat) (w : World)
    (x0 : 0 ≤ x) (xW : x < I.L.W) (y0 : 0 ≤ y) (yH : y < I.L.H) (hxs : Ints w a xs) (hlen : (xs.length : Int) = I.L.C) (hpos : ∀ v ∈ xs, 0 ≤ v ∧ v < 65536) :
    Calls Try.prog 52 #[I.v, .int .i64 x, .int .i64 y, .slice a xs.length cap] w fun e w' =>
      e = .returned ((imF I.L (putF (I.L.fn I.O) x y xs xs.length)).v) ∧ Below w.heap.size w w' := by
  have hva := vB_yes hv
  have hok := hva.1
  have hlb := I.L.len_bd hok
  have hc1 := hok.c1
  have hc2 := hok.c2
  have hsz := hva.2.1
  obtain ⟨f, hf⟩ : ∃ f, f = I.L.fn I.O := ⟨_, rfl⟩
  have hoct : ∀ p : Int, 0 ≤ p → p < I.L.len → octAt I.O p = I.L.octF f p := fun p p0 p1 => by rw [hf]; exact (I.L.octF_smp hok (octAt I.O) (octAt_range I.O) hva.2.2 p0 p1).symm
  rw [← hf]
  have HO := Lib.hid hoct
  have HPOS := Lib.hid hpos
  have HLEN := Lib.hid hlen
  have HOK := Lib.hid hok
  have HN := Lib.hid hn
  have HSZ := Lib.hid hsz
  have HXS := Lib.hid hxs
  clear hoct hpos hf hva hv hlen hn hsz hxs
  have hpl : ∀ (k : Nat) w, (k : Int) < I.L.C → Calls Try.prog 72 #[imgV I.L.W I.L.H I.L.C I.L.B I.L.pl I.L.P I.O, .int .i64 x, .int .i64 y, .int .i64 k] w fun e w' => e = .returned (.int .i64 (I.L.plc x y k)) ∧ Below w.heap.size w w' :=
    fun k w hk => rplace_any _ _ _ _ _ _ _ x y k w hok x0 xW y0 yH (by omega) hk
  obtain ⟨cap2, CF, hconv, hCF⟩ := conv_bytes (P := Try.prog) 9 70 I.O (by kernel_rfl) (by kernel_rfl) (by kernel_rfl)
  have HPL := Lib.hid hpl
  have HCF := Lib.hid hCF
  clear hpl hCF
  obtain ⟨L, O⟩ := I
  dsimp only at *
  rw [hB] at HPL
  have HBB := Lib.hid hB
  unfold Im.v Lay.img
  dsimp only
  simp only [hB]
  clear hB
  go_enter Try.func52, Try.ntmps52
  go_wp2
  obtain ⟨cp, hcp⟩ : ∃ cp, cp = cap2 ((w.alloc (.cells #[.int .i64 L.W, .int .i64 L.H, .int .i64 L.C, .int .i64 16, .bool L.pl, .int .i64 L.P, .string O] 31)).alloc (.cells #[.int .i64 0, .int .i64 0, .int .i64 0, .int .i64 0, .bool false, .int .i64 0, .string ⟨#[]⟩] 31)) := ⟨_, rfl⟩
  rw [← hcp]
  clear hcp hconv
  go_loopw [10, 11] (fun i _ wr => ∃ k : Nat, k ≤ xs.length ∧ i = .int .i64 k ∧ HasIm wr w.heap.size ⟨⟨L.W, L.H, L.C, 16, L.pl, L.P⟩, O⟩ ∧ HasIm wr (w.heap.size + 1) ⟨⟨0, 0, 0, 0, false, 0⟩, ⟨#[]⟩⟩ ∧ Byt wr (w.heap.size + 1 + 1) L (L.octF (putF f x y xs k)) ∧ Below w.heap.size w wr) (fun i _ _ => xs.length - (intOf i).toNat)
  case atStart =>
    refine ⟨0, Nat.zero_le _, rfl, ⟨by go_simp, by go_simp, by go_simp, by go_simp, by go_simp, by go_simp, by go_simp, by go_simp, fun o => by go_simp⟩, ⟨by go_simp, by go_simp, by go_simp, by go_simp, by go_simp, by go_simp, by go_simp, by go_simp, fun o => by go_simp⟩, ?_, ?_⟩
    · intro p hp
      rw [putF_zero, ← HO.out p (by omega) (by omega)]
      have hp' : p < O.size := by have := HSZ.out; omega
      have h1 := HCF.out ((w.alloc (.cells #[.int .i64 L.W, .int .i64 L.H, .int .i64 L.C, .int .i64 16, .bool L.pl, .int .i64 L.P, .string O] 31)).alloc (.cells #[.int .i64 0, .int .i64 0, .int .i64 0, .int .i64 0, .bool false, .int .i64 0, .string ⟨#[]⟩] 31)) p hp'
      obtain ⟨W0, hW0⟩ : ∃ W0, W0 = (w.alloc (.cells #[.int .i64 L.W, .int .i64 L.H, .int .i64 L.C, .int .i64 16, .bool L.pl, .int .i64 L.P, .string O] 31)).alloc (.cells #[.int .i64 0, .int .i64 0, .int .i64 0, .int .i64 0, .bool false, .int .i64 0, .string ⟨#[]⟩] 31) := ⟨_, rfl⟩
      have hs0 : w.heap.size + 1 + 1 = W0.heap.size := by rw [hW0]; simp
      rw [← hW0] at h1 ⊢
      rw [World.cell?_drew, hs0]
      rw [World.frozen?_drew, World.frozen?_alloc_mark W0 (CF W0) 5 (CF W0).size ((CF W0).size + 1) p, World.cell?_alloc_mark W0 (CF W0) 5 ((CF W0).size, (CF W0).size + 1) p]
      refine ⟨h1, ?_⟩
      have h2 := (Array.getElem?_eq_some_iff.1 h1).1
      simp; omega
    · ((repeat (first | (with_reducible exact Below.refl _ _) | (with_reducible refine Below.setCell ?_ ?_ _) | (with_reducible refine Below.alloc ?_ ?_ _) | (with_reducible refine Below.drew ?_) | (with_reducible refine Below.trans ?_ (Below.mono (by assumption) ?_)))); all_goals ((try simp only [World.size_alloc, World.size_drew, World.size_setCell]); omega))
  case round =>
    obtain ⟨k, hk, rfl, hI, hZ, hY, hB⟩ := hrel
    obtain ⟨il, i0, i1, i2, i3, i4, i5, i6, iz⟩ := hI
    dsimp only at i0 i1 i2 i3 i4 i5 i6
    have HIM : Hid (HasIm wr w.heap.size ⟨⟨L.W, L.H, L.C, 16, L.pl, L.P⟩, O⟩) := Lib.hid ⟨il, i0, i1, i2, i3, i4, i5, i6, iz⟩
    have HZ := Lib.hid hZ
    have HY := Lib.hid hY
    have HB := Lib.hid hB
    by_cases hlt : k < xs.length
    · clear hZ hY hB
      have hkC : (k : Int) < L.C := by have := HLEN.out; omega
      have hkC' : ¬ L.C ≤ (k : Int) := by omega
      go_wp2_with fail
      (with_reducible refine (HPL.out k _ hkC).mono ?_)
      rintro e w1 ⟨rfl, hb1⟩
      have HIM1 := Lib.hid (HIM.out.below hb1)
      have HZ1 := Lib.hid (HZ.out.below hb1)
      have HY1 := Lib.hid (HY.out.below HOK.out hb1)
      have HB1 := Lib.hid (HB.out.trans (hb1.mono HB.out.size))
      obtain ⟨il, i0, i1, i2, i3, i4, i5, i6, iz⟩ := HIM1.out
      dsimp only at i0 i1 i2 i3 i4 i5 i6
      have hxs1 := HXS.out.below (w' := w1) HB1.out
      obtain ⟨ab, off, v, rfl, hc, HX⟩ := hxs1.at hlt
      have hab : ab < w.heap.size := by
        obtain ⟨ab', off', v', e', hc', _⟩ := HXS.out.at hlt
        cases e'
        exact World.block_lt_of_cell? _ _ hc'
      obtain ⟨hv0, hv1⟩ := HPOS.out v (List.mem_of_getElem? HX.out)
      have hdom : L.dom x y k := ⟨⟨x0, xW⟩, ⟨y0, yH⟩, ⟨by omega, hkC⟩⟩
      obtain ⟨p0, p1, _⟩ := L.coords HOK.out hdom (d := 0) (by omega) (by have := HN.out; omega)
      obtain ⟨q0, q1, _⟩ := L.coords HOK.out hdom (d := 1) (by omega) (by have := HN.out; omega)
      have hc9 := (HY1.out (L.plc x y k + 1).toNat (by omega)).1
      have hf9 := (HY1.out (L.plc x y k + 1).toNat (by omega)).2
      have hpO9 : L.plc x y k + 1 < O.size := by have := HSZ.out; omega
      have hne9 : (L.plc x y k).toNat ≠ (L.plc x y k + 1).toNat := by omega
      have hne8 : (L.plc x y k + 1).toNat ≠ (L.plc x y k).toNat := by omega
      rw [Int.add_zero] at p0 p1
      have hpO : L.plc x y k < O.size := by have := HSZ.out; omega
      have hc0 := (HY1.out (L.plc x y k).toNat (by omega)).1
      have hf0 := (HY1.out (L.plc x y k).toNat (by omega)).2
      have hlO : (O.size : Int) ≤ 133120 := by have := HSZ.out; omega
      have HDOM := Lib.hid hdom
      clear hdom hb1 hxs1
      go_wp2_with fail
      go_roundw
      case rel =>
        refine ⟨k + 1, by omega, by go_num, ((HIM1.out).set_other (by show _ ≠ w.heap.size + 1 + 1; omega) _).set_other (by show _ ≠ w.heap.size + 1 + 1; omega) _, ((HZ1.out).set_other (by show _ ≠ w.heap.size + 1 + 1; omega) _).set_other (by show _ ≠ w.heap.size + 1 + 1; omega) _, ?_, ((HB1.out).setCell (by show _ ≤ w.heap.size + 1 + 1; omega) _).setCell (by show _ ≤ w.heap.size + 1 + 1; omega) _⟩
        rw [← putF_succ f x y xs k v HX.out]
        have hset := HY1.out.set16 HOK.out HN.out HDOM.out v
        try rw [show v / 256 % 256 = v / 256 by omega] at hset
        exact hset
      case measure => simp [intOf]; omega
    · have hkk : k = xs.length := by omega
      have hNN : O.size = L.len.toNat := by have := HSZ.out; omega
      have hcv := run_convert_bytes_arg (P := Try.prog) wr 70 5 Try.underlying70 Try.underlying5 (w.heap.size + 1 + 1) 0 O.size cp ((List.range O.size).map fun p => L.octF (putF f x y xs k) (p : Nat)) (by simp) (fun i hi => by
        have hi' : i < O.size := by simpa using hi
        rw [Nat.zero_add, (hY i (by omega)).1]
        simp [List.getD, hi']) 9 Try.underlying9
      have HKK := Lib.hid hkk
      have HNN := Lib.hid hNN
      have HCV := Lib.hid hcv
      obtain ⟨zl, z0, z1, z2, z3, z4, z5, z6, zz⟩ := hZ
      dsimp only at z0 z1 z2 z3 z4 z5 z6
      have hkC' : L.C ≤ (k : Int) := by have := HLEN.out; omega
      have hB' := hB
      clear hkk hNN hY
      clear hB
      go_wp2_with fail
      refine bodyPost_ret (v := (⟨L.W, L.H, L.C, 16, L.pl, L.P⟩ : Lay).img (octS O.size (L.octF (putF f x y xs k)))) ?_ rfl ?_
      · simp [results, Try.results52, go_sem, Lay.img, octS, z0, z1, z2, z3, z4, z5, z6]
      · refine ⟨?_, ?_⟩
        · rw [HNN.out, ← HKK.out]
          unfold imF Lay.img
          dsimp only
          rw [HBB.out]
        · ((repeat (first | (with_reducible exact Below.refl _ _) | (with_reducible refine Below.setCell ?_ ?_ _) | (with_reducible refine Below.alloc ?_ ?_ _) | (with_reducible refine Below.drew ?_) | (with_reducible refine Below.trans ?_ (Below.mono (by assumption) ?_)))); all_goals ((try simp only [World.size_alloc, World.size_drew, World.size_setCell]); omega))

theorem rput_any (I : Im) (hv : I.vB = true) (x y : Int) (xs : List Int) (a : Option Addr) (cap : Nat) (w : World)
    (x0 : 0 ≤ x) (xW : x < I.L.W) (y0 : 0 ≤ y) (yH : y < I.L.H) (hxs : Ints w a xs) (hlen : (xs.length : Int) = I.L.C) (hpos : ∀ v ∈ xs, 0 ≤ v ∧ v < 65536) :
    Calls Try.prog 52 #[I.v, .int .i64 x, .int .i64 y, .slice a xs.length cap] w fun e w' =>
      e = .returned ((imF I.L (putF (I.L.fn I.O) x y xs xs.length)).v) ∧ Below w.heap.size w w' := by
  rcases I.L.n_cases (vB_yes hv).1 with ⟨hn, hB⟩ | ⟨hn, hB⟩
  · exact rput1 I hv hn hB x y xs a cap w x0 xW y0 yH hxs hlen hpos
  · exact rput2 I hv hn hB x y xs a cap w x0 xW y0 yH hxs hlen hpos

end Go.Proofs.Ytphfbjeaklpddaa
