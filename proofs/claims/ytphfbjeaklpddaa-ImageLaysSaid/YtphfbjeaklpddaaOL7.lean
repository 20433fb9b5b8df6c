/-
  Joined texts: Layer 42, the reference: put. · Layer 42, the reference: sample, Get. · Layer 42, the reference: Get. A slice of ints that a function appends to. · Layer 42, the reference: drafts, the plain part. · Layer 42, the reference: Draft.Some.
-/
import Derived.Test.YtphfbjeaklpddaaOL6
import Derived.Deep.CutRange
set_option linter.unusedSimpArgs false
set_option linter.unusedVariables false

/- Layer 42, the reference: put. -/
namespace Go.Proofs.Ytphfbjeaklpddaa
open Go.RowKit

attribute [local go_sem] Oper.semAt_some

/-- octets in memory -/
def Byt (w : World) (b2 : Nat) (L : Lay) (g : Int → Int) : Prop := ∀ p : Nat, p < L.len.toNat → w.cell? ⟨b2, p, none⟩ = some (.int .u8 (g p)) ∧ w.frozen? ⟨b2, p, none⟩ = false

theorem Byt.lt {w : World} {b2 : Nat} {L : Lay} {g : Int → Int} (h : Byt w b2 L g) (hok : L.ok) : b2 < w.heap.size := World.block_lt_of_cell? _ _ (h 0 (by have := L.len_bd hok; omega)).1

theorem Byt.below {w w' : World} {b2 : Nat} {L : Lay} {g : Int → Int} (h : Byt w b2 L g) (hok : L.ok) (hb : Below w.heap.size w w') : Byt w' b2 L g := fun p hp => by
  rw [hb.cell (p := ⟨b2, p, none⟩) (h.lt hok), hb.frozen (p := ⟨b2, p, none⟩) (h.lt hok)]
  exact h p hp

theorem Byt.set8 {w : World} {b2 : Nat} {L : Lay} {f : Int → Int → Int → Int} (h : Byt w b2 L (L.octF f)) (hok : L.ok) (hB : L.n = 1) {x y c : Int} (hd : L.dom x y c) (v : Int) :
    Byt (w.setCell ⟨b2, (L.plc x y c).toNat, none⟩ (.int .u8 (v % 256))) b2 L (L.octF (Lay.upd f x y c v)) := by
  obtain ⟨p0, p1, _⟩ := L.coords hok hd (d := 0) (by omega) (by omega)
  rw [Int.add_zero] at p0 p1
  intro q hq
  refine ⟨?_, by rw [World.frozen?_setCell]; exact (h q hq).2⟩
  rw [L.octF_upd hok hd f (by omega) (by omega)]
  by_cases e : q = (L.plc x y c).toNat
  · subst e
    rw [World.cell?_setCell_same _ _ _ (h _ hq).1, if_pos (by omega)]
    unfold Lay.byt
    rw [if_neg (by omega)]
  · rw [World.cell?_setCell_other _ _ _ _ (by intro e'; cases e'; exact e rfl), if_neg (by omega)]
    exact (h q hq).1

theorem Byt.set16 {w : World} {b2 : Nat} {L : Lay} {f : Int → Int → Int → Int} (h : Byt w b2 L (L.octF f)) (hok : L.ok) (hB : L.n = 2) {x y c : Int} (hd : L.dom x y c) (v : Int) :
    Byt ((w.setCell ⟨b2, (L.plc x y c).toNat, none⟩ (.int .u8 (v / 256 % 256))).setCell ⟨b2, (L.plc x y c + 1).toNat, none⟩ (.int .u8 (v % 256))) b2 L (L.octF (Lay.upd f x y c v)) := by
  obtain ⟨p0, p1, _⟩ := L.coords hok hd (d := 0) (by omega) (by omega)
  obtain ⟨q0, q1, _⟩ := L.coords hok hd (d := 1) (by omega) (by omega)
  rw [Int.add_zero] at p0 p1
  intro q hq
  refine ⟨?_, by rw [World.frozen?_setCell, World.frozen?_setCell]; exact (h q hq).2⟩
  rw [L.octF_upd hok hd f (by omega) (by omega)]
  by_cases e : q = (L.plc x y c + 1).toNat
  · subst e
    have h1 : (w.setCell ⟨b2, (L.plc x y c).toNat, none⟩ (.int .u8 (v / 256 % 256))).cell? ⟨b2, (L.plc x y c + 1).toNat, none⟩ = _ := (World.cell?_setCell_other _ _ _ _ (by intro e'; have e2 := congrArg Addr.off e'; dsimp only at e2; omega)).trans (h _ hq).1
    rw [World.cell?_setCell_same _ _ _ h1, if_pos (by omega)]
    unfold Lay.byt
    rw [if_neg (by omega)]
  · rw [World.cell?_setCell_other _ _ _ _ (by intro e'; cases e'; exact e rfl)]
    by_cases e2 : q = (L.plc x y c).toNat
    · subst e2
      rw [World.cell?_setCell_same _ _ _ (h _ hq).1, if_pos (by omega)]
      unfold Lay.byt
      rw [if_pos ⟨hB, by omega⟩]
    · rw [World.cell?_setCell_other _ _ _ _ (by intro e'; cases e'; exact e2 rfl), if_neg (by omega)]
      exact (h q hq).1

theorem Byt.congr {w : World} {b2 : Nat} {L : Lay} {g g' : Int → Int} (h : Byt w b2 L g) (hg : ∀ p : Int, 0 ≤ p → p < L.len → g p = g' p) : Byt w b2 L g' := fun p hp => by
  rw [← hg p (by omega) (by omega)]
  exact h p hp

set_option maxRecDepth 100000 in
set_option maxHeartbeats 4000000 in
theorem rput1 (I : Im) (hv : I.vB = true) (hn : I.L.n = 1) (hB : I.L.B = 8) (x y : Int) (xs : List Int) (a : Option Addr) (cap : Nat) (w : World)
    (x0 : 0 ≤ x) (xW : x < I.L.W) (y0 : 0 ≤ y) (yH : y < I.L.H) (hxs : Ints w a xs) (hlen : (xs.length : Int) = I.L.C) (hpos : ∀ v ∈ xs, 0 ≤ v ∧ v < 65536) :
    Calls Try.prog 52 #[I.v, .int .i64 x, .int .i64 y, .slice a xs.length cap] w fun e w' =>
      e = .returned ((imF I.L (putF (I.L.fn I.O) x y xs xs.length)).v) ∧ Below w.heap.size w w' := by
  have hva := vB_yes hv
  have hok := hva.1
  have hlb := I.L.len_bd hok
  have hc1 := hok.c1
  have hc2 := hok.c2
  have hsz := hva.2.1
  obtain ⟨f, hf⟩ : ∃ f, f = I.L.fn I.O := ⟨_, rfl⟩
  have hoct : ∀ p : Int, 0 ≤ p → p < I.L.len → octAt I.O p = I.L.octF f p := fun p p0 p1 => by rw [hf]; exact (I.L.octF_smp hok (octAt I.O) (octAt_range I.O) hva.2.2 p0 p1).symm
  rw [← hf]
  have HO := Lib.hid hoct
  have HPOS := Lib.hid hpos
  have HLEN := Lib.hid hlen
  have HOK := Lib.hid hok
  have HN := Lib.hid hn
  have HSZ := Lib.hid hsz
  have HXS := Lib.hid hxs
  clear hoct hpos hf hva hv hlen hn hsz hxs
  have hpl : ∀ (k : Nat) w, (k : Int) < I.L.C → Calls Try.prog 72 #[imgV I.L.W I.L.H I.L.C I.L.B I.L.pl I.L.P I.O, .int .i64 x, .int .i64 y, .int .i64 k] w fun e w' => e = .returned (.int .i64 (I.L.plc x y k)) ∧ Below w.heap.size w w' :=
    fun k w hk => rplace_any _ _ _ _ _ _ _ x y k w hok x0 xW y0 yH (by omega) hk
  obtain ⟨cap2, CF, hconv, hCF⟩ := conv_bytes (P := Try.prog) 9 70 I.O (by kernel_rfl) (by kernel_rfl) (by kernel_rfl)
  have HPL := Lib.hid hpl
  have HCF := Lib.hid hCF
  clear hpl hCF
  obtain ⟨L, O⟩ := I
  dsimp only at *
  rw [hB] at HPL
  have HBB := Lib.hid hB
  unfold Im.v Lay.img
  dsimp only
  simp only [hB]
  clear hB
  go_enter Try.func52, Try.ntmps52
  go_wp2
  obtain ⟨cp, hcp⟩ : ∃ cp, cp = cap2 ((w.alloc (.cells #[.int .i64 L.W, .int .i64 L.H, .int .i64 L.C, .int .i64 8, .bool L.pl, .int .i64 L.P, .string O] 31)).alloc (.cells #[.int .i64 0, .int .i64 0, .int .i64 0, .int .i64 0, .bool false, .int .i64 0, .string ⟨#[]⟩] 31)) := ⟨_, rfl⟩
  rw [← hcp]
  clear hcp hconv
  go_loopw [10, 11] (fun i _ wr => ∃ k : Nat, k ≤ xs.length ∧ i = .int .i64 k ∧ HasIm wr w.heap.size ⟨⟨L.W, L.H, L.C, 8, L.pl, L.P⟩, O⟩ ∧ HasIm wr (w.heap.size + 1) ⟨⟨0, 0, 0, 0, false, 0⟩, ⟨#[]⟩⟩ ∧ Byt wr (w.heap.size + 1 + 1) L (L.octF (putF f x y xs k)) ∧ Below w.heap.size w wr) (fun i _ _ => xs.length - (intOf i).toNat)
  case atStart =>
    refine ⟨0, Nat.zero_le _, rfl, ⟨by go_simp, by go_simp, by go_simp, by go_simp, by go_simp, by go_simp, by go_simp, by go_simp, fun o => by go_simp⟩, ⟨by go_simp, by go_simp, by go_simp, by go_simp, by go_simp, by go_simp, by go_simp, by go_simp, fun o => by go_simp⟩, ?_, ?_⟩
    · intro p hp
      rw [putF_zero, ← HO.out p (by omega) (by omega)]
      have hp' : p < O.size := by have := HSZ.out; omega
      have h1 := HCF.out ((w.alloc (.cells #[.int .i64 L.W, .int .i64 L.H, .int .i64 L.C, .int .i64 8, .bool L.pl, .int .i64 L.P, .string O] 31)).alloc (.cells #[.int .i64 0, .int .i64 0, .int .i64 0, .int .i64 0, .bool false, .int .i64 0, .string ⟨#[]⟩] 31)) p hp'
      obtain ⟨W0, hW0⟩ : ∃ W0, W0 = (w.alloc (.cells #[.int .i64 L.W, .int .i64 L.H, .int .i64 L.C, .int .i64 8, .bool L.pl, .int .i64 L.P, .string O] 31)).alloc (.cells #[.int .i64 0, .int .i64 0, .int .i64 0, .int .i64 0, .bool false, .int .i64 0, .string ⟨#[]⟩] 31) := ⟨_, rfl⟩
      have hs0 : w.heap.size + 1 + 1 = W0.heap.size := by rw [hW0]; simp
      rw [← hW0] at h1 ⊢
      rw [World.cell?_drew, hs0]
      rw [World.frozen?_drew, World.frozen?_alloc_mark W0 (CF W0) 5 (CF W0).size ((CF W0).size + 1) p, World.cell?_alloc_mark W0 (CF W0) 5 ((CF W0).size, (CF W0).size + 1) p]
      refine ⟨h1, ?_⟩
      have h2 := (Array.getElem?_eq_some_iff.1 h1).1
      simp; omega
    · ((repeat (first | (with_reducible exact Below.refl _ _) | (with_reducible refine Below.setCell ?_ ?_ _) | (with_reducible refine Below.alloc ?_ ?_ _) | (with_reducible refine Below.drew ?_) | (with_reducible refine Below.trans ?_ (Below.mono (by assumption) ?_)))); all_goals ((try simp only [World.size_alloc, World.size_drew, World.size_setCell]); omega))
  case round =>
    obtain ⟨k, hk, rfl, hI, hZ, hY, hB⟩ := hrel
    obtain ⟨il, i0, i1, i2, i3, i4, i5, i6, iz⟩ := hI
    dsimp only at i0 i1 i2 i3 i4 i5 i6
    have HIM : Hid (HasIm wr w.heap.size ⟨⟨L.W, L.H, L.C, 8, L.pl, L.P⟩, O⟩) := Lib.hid ⟨il, i0, i1, i2, i3, i4, i5, i6, iz⟩
    have HZ := Lib.hid hZ
    have HY := Lib.hid hY
    have HB := Lib.hid hB
    by_cases hlt : k < xs.length
    · clear hZ hY hB
      have hkC : (k : Int) < L.C := by have := HLEN.out; omega
      have hkC' : ¬ L.C ≤ (k : Int) := by omega
      go_wp2_with fail
      (with_reducible refine (HPL.out k _ hkC).mono ?_)
      rintro e w1 ⟨rfl, hb1⟩
      have HIM1 := Lib.hid (HIM.out.below hb1)
      have HZ1 := Lib.hid (HZ.out.below hb1)
      have HY1 := Lib.hid (HY.out.below HOK.out hb1)
      have HB1 := Lib.hid (HB.out.trans (hb1.mono HB.out.size))
      obtain ⟨il, i0, i1, i2, i3, i4, i5, i6, iz⟩ := HIM1.out
      dsimp only at i0 i1 i2 i3 i4 i5 i6
      have hxs1 := HXS.out.below (w' := w1) HB1.out
      obtain ⟨ab, off, v, rfl, hc, HX⟩ := hxs1.at hlt
      have hab : ab < w.heap.size := by
        obtain ⟨ab', off', v', e', hc', _⟩ := HXS.out.at hlt
        cases e'
        exact World.block_lt_of_cell? _ _ hc'
      obtain ⟨hv0, hv1⟩ := HPOS.out v (List.mem_of_getElem? HX.out)
      have hdom : L.dom x y k := ⟨⟨x0, xW⟩, ⟨y0, yH⟩, ⟨by omega, hkC⟩⟩
      obtain ⟨p0, p1, _⟩ := L.coords HOK.out hdom (d := 0) (by omega) (by have := HN.out; omega)
      
      rw [Int.add_zero] at p0 p1
      have hpO : L.plc x y k < O.size := by have := HSZ.out; omega
      have hc0 := (HY1.out (L.plc x y k).toNat (by omega)).1
      have hf0 := (HY1.out (L.plc x y k).toNat (by omega)).2
      have hlO : (O.size : Int) ≤ 133120 := by have := HSZ.out; omega
      have HDOM := Lib.hid hdom
      clear hdom hb1 hxs1
      go_wp2_with fail
      go_roundw
      case rel =>
        refine ⟨k + 1, by omega, by go_num, (HIM1.out).set_other (by show _ ≠ w.heap.size + 1 + 1; omega) _, (HZ1.out).set_other (by show _ ≠ w.heap.size + 1 + 1; omega) _, ?_, (HB1.out).setCell (by show _ ≤ w.heap.size + 1 + 1; omega) _⟩
        rw [← putF_succ f x y xs k v HX.out]
        have hset := HY1.out.set8 HOK.out HN.out HDOM.out v
        try rw [show v / 256 % 256 = v / 256 by omega] at hset
        exact hset
      case measure => simp [intOf]; omega
    · have hkk : k = xs.length := by omega
      have hNN : O.size = L.len.toNat := by have := HSZ.out; omega
      have hcv := run_convert_bytes_arg (P := Try.prog) wr 70 5 Try.underlying70 Try.underlying5 (w.heap.size + 1 + 1) 0 O.size cp ((List.range O.size).map fun p => L.octF (putF f x y xs k) (p : Nat)) (by simp) (fun i hi => by
        have hi' : i < O.size := by simpa using hi
        rw [Nat.zero_add, (hY i (by omega)).1]
        simp [List.getD, hi']) 9 Try.underlying9
      have HKK := Lib.hid hkk
      have HNN := Lib.hid hNN
      have HCV := Lib.hid hcv
      obtain ⟨zl, z0, z1, z2, z3, z4, z5, z6, zz⟩ := hZ
      dsimp only at z0 z1 z2 z3 z4 z5 z6
      have hkC' : L.C ≤ (k : Int) := by have := HLEN.out; omega
      have hB' := hB
      clear hkk hNN hY
      clear hB
      go_wp2_with fail
      refine bodyPost_ret (v := (⟨L.W, L.H, L.C, 8, L.pl, L.P⟩ : Lay).img (octS O.size (L.octF (putF f x y xs k)))) ?_ rfl ?_
      · simp [results, Try.results52, go_sem, Lay.img, octS, z0, z1, z2, z3, z4, z5, z6]
      · refine ⟨?_, ?_⟩
        · rw [HNN.out, ← HKK.out]
          unfold imF Lay.img
          dsimp only
          rw [HBB.out]
        · ((repeat (first | (with_reducible exact Below.refl _ _) | (with_reducible refine Below.setCell ?_ ?_ _) | (with_reducible refine Below.alloc ?_ ?_ _) | (with_reducible refine Below.drew ?_) | (with_reducible refine Below.trans ?_ (Below.mono (by assumption) ?_)))); all_goals ((try simp only [World.size_alloc, World.size_drew, World.size_setCell]); omega))

set_option maxRecDepth 100000 in
set_option maxHeartbeats 4000000 in
theorem rput2 (I : Im) (hv : I.vB = true) (hn : I.L.n = 2) (hB : I.L.B = 16) (x y : Int) (xs : List Int) (a : Option Addr) (cap : Nat) (w : World)
    (x0 : 0 ≤ x) (xW : x < I.L.W) (y0 : 0 ≤ y) (yH : y < I.L.H) (hxs : Ints w a xs) (hlen : (xs.length : Int) = I.L.C) (hpos : ∀ v ∈ xs, 0 ≤ v ∧ v < 65536) :
    Calls Try.prog 52 #[I.v, .int .i64 x, .int .i64 y, .slice a xs.length cap] w fun e w' =>
      e = .returned ((imF I.L (putF (I.L.fn I.O) x y xs xs.length)).v) ∧ Below w.heap.size w w' := by
  have hva := vB_yes hv
  have hok := hva.1
  have hlb := I.L.len_bd hok
  have hc1 := hok.c1
  have hc2 := hok.c2
  have hsz := hva.2.1
  obtain ⟨f, hf⟩ : ∃ f, f = I.L.fn I.O := ⟨_, rfl⟩
  have hoct : ∀ p : Int, 0 ≤ p → p < I.L.len → octAt I.O p = I.L.octF f p := fun p p0 p1 => by rw [hf]; exact (I.L.octF_smp hok (octAt I.O) (octAt_range I.O) hva.2.2 p0 p1).symm
  rw [← hf]
  have HO := Lib.hid hoct
  have HPOS := Lib.hid hpos
  have HLEN := Lib.hid hlen
  have HOK := Lib.hid hok
  have HN := Lib.hid hn
  have HSZ := Lib.hid hsz
  have HXS := Lib.hid hxs
  clear hoct hpos hf hva hv hlen hn hsz hxs
  have hpl : ∀ (k : Nat) w, (k : Int) < I.L.C → Calls Try.prog 72 #[imgV I.L.W I.L.H I.L.C I.L.B I.L.pl I.L.P I.O, .int .i64 x, .int .i64 y, .int .i64 k] w fun e w' => e = .returned (.int .i64 (I.L.plc x y k)) ∧ Below w.heap.size w w' :=
    fun k w hk => rplace_any _ _ _ _ _ _ _ x y k w hok x0 xW y0 yH (by omega) hk
  obtain ⟨cap2, CF, hconv, hCF⟩ := conv_bytes (P := Try.prog) 9 70 I.O (by kernel_rfl) (by kernel_rfl) (by kernel_rfl)
  have HPL := Lib.hid hpl
  have HCF := Lib.hid hCF
  clear hpl hCF
  obtain ⟨L, O⟩ := I
  dsimp only at *
  rw [hB] at HPL
  have HBB := Lib.hid hB
  unfold Im.v Lay.img
  dsimp only
  simp only [hB]
  clear hB
  go_enter Try.func52, Try.ntmps52
  go_wp2
  obtain ⟨cp, hcp⟩ : ∃ cp, cp = cap2 ((w.alloc (.cells #[.int .i64 L.W, .int .i64 L.H, .int .i64 L.C, .int .i64 16, .bool L.pl, .int .i64 L.P, .string O] 31)).alloc (.cells #[.int .i64 0, .int .i64 0, .int .i64 0, .int .i64 0, .bool false, .int .i64 0, .string ⟨#[]⟩] 31)) := ⟨_, rfl⟩
  rw [← hcp]
  clear hcp hconv
  go_loopw [10, 11] (fun i _ wr => ∃ k : Nat, k ≤ xs.length ∧ i = .int .i64 k ∧ HasIm wr w.heap.size ⟨⟨L.W, L.H, L.C, 16, L.pl, L.P⟩, O⟩ ∧ HasIm wr (w.heap.size + 1) ⟨⟨0, 0, 0, 0, false, 0⟩, ⟨#[]⟩⟩ ∧ Byt wr (w.heap.size + 1 + 1) L (L.octF (putF f x y xs k)) ∧ Below w.heap.size w wr) (fun i _ _ => xs.length - (intOf i).toNat)
  case atStart =>
    refine ⟨0, Nat.zero_le _, rfl, ⟨by go_simp, by go_simp, by go_simp, by go_simp, by go_simp, by go_simp, by go_simp, by go_simp, fun o => by go_simp⟩, ⟨by go_simp, by go_simp, by go_simp, by go_simp, by go_simp, by go_simp, by go_simp, by go_simp, fun o => by go_simp⟩, ?_, ?_⟩
    · intro p hp
      rw [putF_zero, ← HO.out p (by omega) (by omega)]
      have hp' : p < O.size := by have := HSZ.out; omega
      have h1 := HCF.out ((w.alloc (.cells #[.int .i64 L.W, .int .i64 L.H, .int .i64 L.C, .int .i64 16, .bool L.pl, .int .i64 L.P, .string O] 31)).alloc (.cells #[.int .i64 0, .int .i64 0, .int .i64 0, .int .i64 0, .bool false, .int .i64 0, .string ⟨#[]⟩] 31)) p hp'
      obtain ⟨W0, hW0⟩ : ∃ W0, W0 = (w.alloc (.cells #[.int .i64 L.W, .int .i64 L.H, .int .i64 L.C, .int .i64 16, .bool L.pl, .int .i64 L.P, .string O] 31)).alloc (.cells #[.int .i64 0, .int .i64 0, .int .i64 0, .int .i64 0, .bool false, .int .i64 0, .string ⟨#[]⟩] 31) := ⟨_, rfl⟩
      have hs0 : w.heap.size + 1 + 1 = W0.heap.size := by rw [hW0]; simp
      rw [← hW0] at h1 ⊢
      rw [World.cell?_drew, hs0]
      rw [World.frozen?_drew, World.frozen?_alloc_mark W0 (CF W0) 5 (CF W0).size ((CF W0).size + 1) p, World.cell?_alloc_mark W0 (CF W0) 5 ((CF W0).size, (CF W0).size + 1) p]
      refine ⟨h1, ?_⟩
      have h2 := (Array.getElem?_eq_some_iff.1 h1).1
      simp; omega
    · ((repeat (first | (with_reducible exact Below.refl _ _) | (with_reducible refine Below.setCell ?_ ?_ _) | (with_reducible refine Below.alloc ?_ ?_ _) | (with_reducible refine Below.drew ?_) | (with_reducible refine Below.trans ?_ (Below.mono (by assumption) ?_)))); all_goals ((try simp only [World.size_alloc, World.size_drew, World.size_setCell]); omega))
  case round =>
    obtain ⟨k, hk, rfl, hI, hZ, hY, hB⟩ := hrel
    obtain ⟨il, i0, i1, i2, i3, i4, i5, i6, iz⟩ := hI
    dsimp only at i0 i1 i2 i3 i4 i5 i6
    have HIM : Hid (HasIm wr w.heap.size ⟨⟨L.W, L.H, L.C, 16, L.pl, L.P⟩, O⟩) := Lib.hid ⟨il, i0, i1, i2, i3, i4, i5, i6, iz⟩
    have HZ := Lib.hid hZ
    have HY := Lib.hid hY
    have HB := Lib.hid hB
    by_cases hlt : k < xs.length
    · clear hZ hY hB
      have hkC : (k : Int) < L.C := by have := HLEN.out; omega
      have hkC' : ¬ L.C ≤ (k : Int) := by omega
      go_wp2_with fail
      (with_reducible refine (HPL.out k _ hkC).mono ?_)
      rintro e w1 ⟨rfl, hb1⟩
      have HIM1 := Lib.hid (HIM.out.below hb1)
      have HZ1 := Lib.hid (HZ.out.below hb1)
      have HY1 := Lib.hid (HY.out.below HOK.out hb1)
      have HB1 := Lib.hid (HB.out.trans (hb1.mono HB.out.size))
      obtain ⟨il, i0, i1, i2, i3, i4, i5, i6, iz⟩ := HIM1.out
      dsimp only at i0 i1 i2 i3 i4 i5 i6
      have hxs1 := HXS.out.below (w' := w1) HB1.out
      obtain ⟨ab, off, v, rfl, hc, HX⟩ := hxs1.at hlt
      have hab : ab < w.heap.size := by
        obtain ⟨ab', off', v', e', hc', _⟩ := HXS.out.at hlt
        cases e'
        exact World.block_lt_of_cell? _ _ hc'
      obtain ⟨hv0, hv1⟩ := HPOS.out v (List.mem_of_getElem? HX.out)
      have hdom : L.dom x y k := ⟨⟨x0, xW⟩, ⟨y0, yH⟩, ⟨by omega, hkC⟩⟩
      obtain ⟨p0, p1, _⟩ := L.coords HOK.out hdom (d := 0) (by omega) (by have := HN.out; omega)
      obtain ⟨q0, q1, _⟩ := L.coords HOK.out hdom (d := 1) (by omega) (by have := HN.out; omega)
      have hc9 := (HY1.out (L.plc x y k + 1).toNat (by omega)).1
      have hf9 := (HY1.out (L.plc x y k + 1).toNat (by omega)).2
      have hpO9 : L.plc x y k + 1 < O.size := by have := HSZ.out; omega
      have hne9 : (L.plc x y k).toNat ≠ (L.plc x y k + 1).toNat := by omega
      have hne8 : (L.plc x y k + 1).toNat ≠ (L.plc x y k).toNat := by omega
      rw [Int.add_zero] at p0 p1
      have hpO : L.plc x y k < O.size := by have := HSZ.out; omega
      have hc0 := (HY1.out (L.plc x y k).toNat (by omega)).1
      have hf0 := (HY1.out (L.plc x y k).toNat (by omega)).2
      have hlO : (O.size : Int) ≤ 133120 := by have := HSZ.out; omega
      have HDOM := Lib.hid hdom
      clear hdom hb1 hxs1
      go_wp2_with fail
      go_roundw
      case rel =>
        refine ⟨k + 1, by omega, by go_num, ((HIM1.out).set_other (by show _ ≠ w.heap.size + 1 + 1; omega) _).set_other (by show _ ≠ w.heap.size + 1 + 1; omega) _, ((HZ1.out).set_other (by show _ ≠ w.heap.size + 1 + 1; omega) _).set_other (by show _ ≠ w.heap.size + 1 + 1; omega) _, ?_, ((HB1.out).setCell (by show _ ≤ w.heap.size + 1 + 1; omega) _).setCell (by show _ ≤ w.heap.size + 1 + 1; omega) _⟩
        rw [← putF_succ f x y xs k v HX.out]
        have hset := HY1.out.set16 HOK.out HN.out HDOM.out v
        try rw [show v / 256 % 256 = v / 256 by omega] at hset
        exact hset
      case measure => simp [intOf]; omega
    · have hkk : k = xs.length := by omega
      have hNN : O.size = L.len.toNat := by have := HSZ.out; omega
      have hcv := run_convert_bytes_arg (P := Try.prog) wr 70 5 Try.underlying70 Try.underlying5 (w.heap.size + 1 + 1) 0 O.size cp ((List.range O.size).map fun p => L.octF (putF f x y xs k) (p : Nat)) (by simp) (fun i hi => by
        have hi' : i < O.size := by simpa using hi
        rw [Nat.zero_add, (hY i (by omega)).1]
        simp [List.getD, hi']) 9 Try.underlying9
      have HKK := Lib.hid hkk
      have HNN := Lib.hid hNN
      have HCV := Lib.hid hcv
      obtain ⟨zl, z0, z1, z2, z3, z4, z5, z6, zz⟩ := hZ
      dsimp only at z0 z1 z2 z3 z4 z5 z6
      have hkC' : L.C ≤ (k : Int) := by have := HLEN.out; omega
      have hB' := hB
      clear hkk hNN hY
      clear hB
      go_wp2_with fail
      refine bodyPost_ret (v := (⟨L.W, L.H, L.C, 16, L.pl, L.P⟩ : Lay).img (octS O.size (L.octF (putF f x y xs k)))) ?_ rfl ?_
      · simp [results, Try.results52, go_sem, Lay.img, octS, z0, z1, z2, z3, z4, z5, z6]
      · refine ⟨?_, ?_⟩
        · rw [HNN.out, ← HKK.out]
          unfold imF Lay.img
          dsimp only
          rw [HBB.out]
        · ((repeat (first | (with_reducible exact Below.refl _ _) | (with_reducible refine Below.setCell ?_ ?_ _) | (with_reducible refine Below.alloc ?_ ?_ _) | (with_reducible refine Below.drew ?_) | (with_reducible refine Below.trans ?_ (Below.mono (by assumption) ?_)))); all_goals ((try simp only [World.size_alloc, World.size_drew, World.size_setCell]); omega))

theorem rput_any (I : Im) (hv : I.vB = true) (x y : Int) (xs : List Int) (a : Option Addr) (cap : Nat) (w : World)
    (x0 : 0 ≤ x) (xW : x < I.L.W) (y0 : 0 ≤ y) (yH : y < I.L.H) (hxs : Ints w a xs) (hlen : (xs.length : Int) = I.L.C) (hpos : ∀ v ∈ xs, 0 ≤ v ∧ v < 65536) :
    Calls Try.prog 52 #[I.v, .int .i64 x, .int .i64 y, .slice a xs.length cap] w fun e w' =>
      e = .returned ((imF I.L (putF (I.L.fn I.O) x y xs xs.length)).v) ∧ Below w.heap.size w w' := by
  rcases I.L.n_cases (vB_yes hv).1 with ⟨hn, hB⟩ | ⟨hn, hB⟩
  · exact rput1 I hv hn hB x y xs a cap w x0 xW y0 yH hxs hlen hpos
  · exact rput2 I hv hn hB x y xs a cap w x0 xW y0 yH hxs hlen hpos

end Go.Proofs.Ytphfbjeaklpddaa

/- Layer 42, the reference: sample, Get. -/
namespace Go.Proofs.Ytphfbjeaklpddaa
open Go.RowKit

attribute [local go_sem] Oper.semAt_some

theorem octAt_get' (O : ByteArray) (p : Int) (p0 : 0 ≤ p) (h : p.toNat < O.size) : octAt O p = (O[p.toNat].toNat : Int) := by
  obtain ⟨q, rfl⟩ := Int.eq_ofNat_of_zero_le p0
  exact octAt_get O q h

set_option maxHeartbeats 1000000 in
theorem rsample_any (I : Im) (x y c : Int) (w : World) (hv : I.vB = true) (hd : I.L.dom x y c) :
    Calls Try.prog 49 #[I.v, .int .i64 x, .int .i64 y, .int .i64 c] w fun e w' => e = .returned (.int .i64 (I.L.fn I.O x y c)) ∧ Below w.heap.size w w' := by
  have hva := vB_yes hv
  have hok := hva.1
  have hsz := hva.2.1
  have hlb := I.L.len_bd hok
  have hpl : ∀ w, Calls Try.prog 72 #[imgV I.L.W I.L.H I.L.C I.L.B I.L.pl I.L.P I.O, .int .i64 x, .int .i64 y, .int .i64 c] w fun e w' => e = .returned (.int .i64 (I.L.plc x y c)) ∧ Below w.heap.size w w' :=
    fun w => rplace_any _ _ _ _ _ _ _ x y c w hok hd.1.1 hd.1.2 hd.2.1.1 hd.2.1.2 hd.2.2.1 hd.2.2.2
  have HPL := Lib.hid hpl
  obtain ⟨p0, p1, _⟩ := I.L.coords hok hd (d := 0) (by omega) (by have := I.L.n_cases hok; omega)
  rw [Int.add_zero] at p0 p1
  have hpO : (I.L.plc x y c).toNat < I.O.size := by omega
  have hpO' : I.L.plc x y c < I.O.size := by omega
  have e0 := octAt_get' I.O (I.L.plc x y c) p0 hpO
  obtain ⟨g0, g1⟩ := octAt_range I.O (I.L.plc x y c)
  have hlO : (I.O.size : Int) ≤ 133120 := by omega
  rcases I.L.n_cases hok with ⟨hn, hB⟩ | ⟨hn, hB⟩
  · have hr : I.L.fn I.O x y c = octAt I.O (I.L.plc x y c) := by unfold Lay.fn Lay.smp; rw [if_pos hB]
    have HR := Lib.hid hr
    have E0 := Lib.hid e0
    rw [hB] at HPL
    clear hr e0 hpl hsz hlb hd hva hv hok hn
    rw [E0.out] at g0 g1
    obtain ⟨L, O⟩ := I
    unfold Im.v Lay.img
    dsimp only at *
    simp only [hB]
    clear hB
    go_enter Try.func49, Try.ntmps49
    go_wp2_with fail
    (with_reducible refine (HPL.out _).mono ?_)
    rintro e w1 ⟨rfl, hb⟩
    obtain ⟨hc, hf, hz⟩ := after hb
    simp only [World.size_alloc] at hz
    have hx : w.heap.size < w1.heap.size := by omega
    go_wp2_with fail
    go_ret
    exact ⟨by rw [HR.out, E0.out]; rfl, ((Below.refl _ _).alloc (Nat.le_refl _) _).trans (hb.mono (by simp))⟩
  · obtain ⟨q0, q1, _⟩ := I.L.coords hok hd (d := 1) (by omega) (by omega)
    have hqO : (I.L.plc x y c + 1).toNat < I.O.size := by omega
    have hqO' : I.L.plc x y c + 1 < I.O.size := by omega
    have e1 := octAt_get' I.O (I.L.plc x y c + 1) q0 hqO
    obtain ⟨k0, k1⟩ := octAt_range I.O (I.L.plc x y c + 1)
    have hr : I.L.fn I.O x y c = 256 * octAt I.O (I.L.plc x y c) + octAt I.O (I.L.plc x y c + 1) := by unfold Lay.fn Lay.smp; rw [if_neg (by omega)]
    have HR := Lib.hid hr
    have E0 := Lib.hid e0
    have E1 := Lib.hid e1
    rw [hB] at HPL
    clear hr e0 e1 hpl hsz hlb hd hva hv hok hn
    rw [E0.out] at g0 g1
    rw [E1.out] at k0 k1
    obtain ⟨L, O⟩ := I
    unfold Im.v Lay.img
    dsimp only at *
    simp only [hB]
    clear hB
    go_enter Try.func49, Try.ntmps49
    go_wp2_with fail
    (with_reducible refine (HPL.out _).mono ?_)
    rintro e w1 ⟨rfl, hb⟩
    obtain ⟨hc, hf, hz⟩ := after hb
    simp only [World.size_alloc] at hz
    have hx : w.heap.size < w1.heap.size := by omega
    go_wp2_with fail
    go_region
    go_wp2_with fail
    go_ret
    exact ⟨by rw [HR.out, E0.out, E1.out]; rfl, (((Below.refl _ _).alloc (Nat.le_refl _) _).trans (hb.mono (by simp))).drew⟩

end Go.Proofs.Ytphfbjeaklpddaa

/- Layer 42, the reference: Get. A slice of ints that a function appends to. -/
namespace Go.Proofs.Ytphfbjeaklpddaa
open Go.RowKit

attribute [local go_sem] Oper.semAt_some

/-- the function's own slice of ints holds xs -/
def Owns (w : World) (base : Nat) (v : Value) (xs : List Int) : Prop := w.ownsRow base 3 1 v xs.length (xs.map (.int .i64))

theorem Owns.nil (w : World) (base : Nat) : Owns w base (.slice none 0 0) [] := World.ownsRow_nil _ _ _ _

theorem Owns.slice {w : World} {base : Nat} {v : Value} {xs : List Int} (h : Owns w base v xs) :
    ∃ a cap, v = .slice a xs.length cap ∧ Ints w a xs ∧ (∀ c off, a = some ⟨c, off, none⟩ → base ≤ c) ∧ (∀ k, v.ownBlock = some k ↔ a = some ⟨k, 0, none⟩) := by
  rcases h.2 with ⟨rfl, hn⟩ | ⟨g, cap, cur, rfl, hb, _⟩
  · have : xs = [] := List.eq_nil_of_length_eq_zero hn
    subst this
    exact ⟨none, 0, rfl, Ints_nil w, by simp, fun k => by simp [Value.ownBlock]⟩
  · refine ⟨some ⟨g, 0, none⟩, cap, rfl, fun _ => ⟨g, 0, rfl, fun i hi => ?_⟩, fun c off e => by cases e; exact hb, fun k => by simp [Value.ownBlock]⟩
    have := World.ownsRow.cells h (g := g) rfl i (.int .i64 (xs[i]?.getD 0)) (by simp [hi])
    have ha : (⟨g, 0, none⟩ : Addr).add i = ⟨g, i, none⟩ := by unfold Addr.add; split <;> simp_all
    rw [ha] at this
    rw [Nat.zero_add]
    exact this

theorem HasIm.grownBy {W W' : World} {b : Nat} {I : Im} {row : Option Nat} (h : HasIm W b I) (hg : W.grownBy W' row) (hne : row ≠ some b) : HasIm W' b I := by
  have e : W'.heap[b]? = W.heap[b]? := hg.block b h.lt (fun e => hne e.symm)
  have c : ∀ o, W'.cell? ⟨b, o, none⟩ = W.cell? ⟨b, o, none⟩ := fun o => World.cell?_of_block (a := ⟨b, o, none⟩) e
  have f : ∀ o, W'.frozen? ⟨b, o, none⟩ = W.frozen? ⟨b, o, none⟩ := fun o => World.frozen?_of_block (a := ⟨b, o, none⟩) e
  exact ⟨Nat.lt_of_lt_of_le h.lt hg.size, (c 0).trans h.c0, (c 1).trans h.c1, (c 2).trans h.c2, (c 3).trans h.c3, (c 4).trans h.c4, (c 5).trans h.c5, (c 6).trans h.c6, fun o => (f o).trans (h.fz o)⟩

theorem Owns.below {w w' : World} {base : Nat} {v : Value} {xs : List Int} (h : Owns w base v xs) (hb : Below w.heap.size w w') : Owns w' base v xs := by
  refine ⟨h.1, ?_⟩
  rcases h.2 with hn | ⟨g, cap, cur, rfl, hb', hg, hr⟩
  · exact .inl hn
  · exact .inr ⟨g, cap, cur, rfl, hb', (hb.block g (Array.getElem?_eq_some_iff.1 hg).1).trans hg, hr⟩

theorem Owns.push {w : World} {base : Nat} {v : Value} {xs : List Int} {x : Int} (h : w.ownsRow base 3 1 v (xs.length + 1) (xs.map (.int .i64) ++ [.int .i64 x])) : Owns w base v (xs ++ [x]) := by
  unfold Owns
  rw [List.length_append, List.map_append]
  exact h

set_option maxHeartbeats 1000000 in
theorem rget_bad (I : Im) (x y : Int) (w : World) (hv : I.vB = false) :
    Calls Try.prog 20 #[I.v, .int .i64 x, .int .i64 y] w fun e w' => e = .returned (.tuple #[.slice none 0 0, .int .i64 420]) ∧ Below w.heap.size w w' := by
  have HR := right_any I
  rw [hv] at HR
  unfold Im.v Lay.img at *
  have HO := Lib.hid HR
  clear HR
  go_enter Try.func20, Try.ntmps20
  go_wp2_with fail
  (with_reducible refine (HO.out _).mono ?_)
  rintro e w1 ⟨rfl, hb⟩
  go_wp2_with fail
  go_ret2
  exact ⟨rfl, ((Below.refl _ _).alloc (Nat.le_refl _) _).trans (hb.mono (by simp))⟩

set_option maxHeartbeats 1000000 in
theorem rget_none (I : Im) (x y : Int) (w : World) (hv : I.vB = true) (ht : thereB I.L x y = false) :
    Calls Try.prog 20 #[I.v, .int .i64 x, .int .i64 y] w fun e w' => e = .returned (.tuple #[.slice none 0 0, .int .i64 2]) ∧ Below w.heap.size w w' := by
  have HR := right_any I
  rw [hv] at HR
  have HT := fun w => there_any I x y w (vB_yes hv).1
  rw [ht] at HT
  unfold Im.v Lay.img at *
  have HO := Lib.hid HR
  have HTT := Lib.hid HT
  clear HR HT
  go_enter Try.func20, Try.ntmps20
  go_wp2_with fail
  (with_reducible refine (HO.out _).mono ?_)
  rintro e w1 ⟨rfl, hb⟩
  obtain ⟨hc, hf, hz⟩ := after hb
  simp only [World.size_alloc] at hz
  have hx : w.heap.size < w1.heap.size := by omega
  go_wp2_with fail
  (with_reducible refine (HTT.out _).mono ?_)
  rintro e w2 ⟨rfl, hb2⟩
  go_wp2_with fail
  go_ret2
  exact ⟨rfl, ((Below.refl _ _).alloc (Nat.le_refl _) _).trans ((hb.mono (by simp)).trans (hb2.mono (by omega)))⟩

set_option maxHeartbeats 2000000 in
theorem rget_ok (I : Im) (x y : Int) (w : World) (hv : I.vB = true) (ht : thereB I.L x y = true) :
    Calls Try.prog 20 #[I.v, .int .i64 x, .int .i64 y] w (IntsPost ((List.range I.L.C.toNat).map fun c => I.L.fn I.O x y (c : Nat), 0) w) := by
  have HR := right_any I
  rw [hv] at HR
  have hok := (vB_yes hv).1
  have hc1 := hok.c1
  have hc2 := hok.c2
  have HT := fun w => there_any I x y w hok
  rw [ht] at HT
  obtain ⟨⟨x0, xW⟩, ⟨y0, yH⟩⟩ := (thereB_iff I.L x y).1 ht
  have HSM : ∀ (c : Nat) w, (c : Int) < I.L.C → _ := fun c w hc => rsample_any I x y c w hv ⟨⟨x0, xW⟩, ⟨y0, yH⟩, ⟨by omega, hc⟩⟩
  unfold Im.v Lay.img at *
  have HO := Lib.hid HR
  have HTT := Lib.hid HT
  have HS := Lib.hid HSM
  clear HR HT HSM
  obtain ⟨i0, hi, hz0, hz1, hz2⟩ : ∃ i, Try.prog.info? 3 = some i ∧ i.zero = some (.int .i64 0) ∧ i.size = 1 ∧ i.bytes = 8 := by
    have h := info_int
    cases e : Try.prog.info? 3 with
    | none => rw [e] at h; cases h
    | some i => rw [e] at h; simp at h; exact ⟨i, rfl, h.1, h.2.1, h.2.2⟩
  go_enter Try.func20, Try.ntmps20
  go_wp2_with fail
  (with_reducible refine (HO.out _).mono ?_)
  rintro e w1 ⟨rfl, hb⟩
  obtain ⟨hc, hf, hz⟩ := after hb
  simp only [World.size_alloc] at hz
  have hx : w.heap.size < w1.heap.size := by omega
  go_wp2_with fail
  (with_reducible refine (HTT.out _).mono ?_)
  rintro e w2 ⟨rfl, hb2⟩
  have hM : HasIm w2 w.heap.size I := (HasIm.below (W := w.alloc (.cells #[.int .i64 I.L.W, .int .i64 I.L.H, .int .i64 I.L.C, .int .i64 I.L.B, .bool I.L.pl, .int .i64 I.L.P, .string I.O] 31)) ⟨by go_simp, by go_simp, by go_simp, by go_simp, by go_simp, by go_simp, by go_simp, by go_simp, fun o => by go_simp⟩ hb).below hb2
  have hB2 : Below w.heap.size w w2 := ((Below.refl _ _).alloc (Nat.le_refl _) _).trans ((hb.mono (by simp)).trans (hb2.mono (by omega)))
  have HM := Lib.hid hM
  have HB2 := Lib.hid hB2
  clear hM hB2 hb hb2 hc hf
  go_wp2_with fail
  go_loopw [8, 9] (fun s i wr => ∃ (k : Nat) (ao : Option Addr) (cv : Nat), k ≤ I.L.C.toNat ∧ i = .int .i64 k ∧ s = .slice ao k cv ∧ Owns wr (w.heap.size + 1) s ((List.range k).map fun c => I.L.fn I.O x y (c : Nat)) ∧ HasIm wr w.heap.size I ∧ Below w.heap.size w wr) (fun _ i _ => I.L.C.toNat - (intOf i).toNat)
  case atStart => exact ⟨0, none, 0, Nat.zero_le _, rfl, rfl, Owns.nil _ _, HM.out, HB2.out⟩
  case round =>
    obtain ⟨k, ao, cv, hk, rfl, rfl, hown, hI, hB⟩ := hrel
    obtain ⟨il, i0', i1, i2, i3, i4, i5, i6, iz⟩ := hI
    have HI := Lib.hid (⟨il, i0', i1, i2, i3, i4, i5, i6, iz⟩ : HasIm wr w.heap.size I)
    have HB := Lib.hid hB
    have HOWN := Lib.hid hown
    clear hB
    by_cases hlt : (k : Int) < I.L.C
    · clear hown
      go_wp2_with fail
      (with_reducible refine (HS.out k _ hlt).mono ?_)
      rintro e w3 ⟨rfl, hb3⟩
      have hown3 := HOWN.out.below hb3
      have hsz3 := hb3.size
      have hszB := HB.out.size
      have HI3 := Lib.hid (HI.out.below hb3)
      have HB3 := Lib.hid (HB.out.trans (hb3.mono HB.out.size))
      clear hb3
      unfold Owns at hown3
      rw [List.length_map, List.length_range] at hown3
      go_wp2_with (first | (at_builtin; refine wpList_append_own _ rfl _ _ 44 rfl (w.heap.size + 1) 3 i0 (.int .i64 0) 1 8 Try.underlying44 hi hz0 hz1 hz2 rfl (by decide) _ _ _ rfl (hown3.alloc _) ⟨w3.heap.size, 0, none⟩ 1 1 [.int .i64 (I.L.fn I.O x y k)] rfl rfl (cell_one_new _ _ _) (fun x hx => by simp at hx; subst hx; rfl) (by unfold maxLen; omega) (by omega) (by simp; omega) ?_; intro v' w4 hown' hgrow3 hnil3))
      go_roundw
      case rel =>
        have hO : Owns w4 (w.heap.size + 1) v' ((List.range (k + 1)).map fun c => I.L.fn I.O x y (c : Nat)) := by
          rw [List.range_succ, List.map_append]
          exact Owns.push (by rw [List.length_map, List.length_range]; exact hown')
        have hO' := hO
        rw [List.range_succ, List.map_append] at hO
        obtain ⟨a4, c4, hv4, _, _, _⟩ := hO.slice
        have hlow : ∀ q, Value.ownBlock (.slice ao k cv) = some q → w.heap.size + 1 ≤ q := fun q hq => (hown3.lt q hq).1
        refine ⟨k + 1, a4, c4, by omega, by go_num, by rw [hv4]; simp, hO', ?_, ?_⟩
        · exact (HI3.out.below ((Below.refl _ _).alloc (Nat.le_refl _) _)).grownBy hgrow3 (fun e => by have := hlow _ e; omega)
        · exact (HB3.out.alloc (by omega) _).grown hgrow3 (by simp; omega) (fun q hq => by have := hlow q hq; omega)
      case measure => simp [intOf]; omega
    · have hkk : k = I.L.C.toNat := by omega
      have HKK := Lib.hid hkk
      obtain ⟨a4, c4, hv4, hi4, hlo4, _⟩ := hown.slice
      have HI4 := Lib.hid hi4
      have HLO := Lib.hid hlo4
      have HV4 := Lib.hid hv4
      clear hkk hown hi4 hlo4 hv4
      go_wp2_with fail
      go_ret2
      have hv4 := HV4.out
      rw [List.length_map, List.length_range] at hv4
      refine ⟨ao, cv, ?_, ?_, ?_, HB.out⟩
      · rw [List.length_map, List.length_range, ← HKK.out]; rfl
      · cases hv4; rw [← HKK.out]; exact HI4.out
      · cases hv4; exact fun c off e => by have := HLO.out c off e; omega

theorem rget_any (I : Im) (x y : Int) (w : World) : Calls Try.prog 20 #[I.v, .int .i64 x, .int .i64 y] w (IntsPost (getR I x y) w) := by
  unfold getR
  cases h : I.vB
  · refine (rget_bad I x y w h).mono ?_
    rintro e w' ⟨rfl, hb⟩
    exact ⟨none, 0, rfl, Ints_nil _, (by simp), hb⟩
  · cases ht : thereB I.L x y
    · refine (rget_none I x y w h ht).mono ?_
      rintro e w' ⟨rfl, hb⟩
      exact ⟨none, 0, rfl, Ints_nil _, (by simp), hb⟩
    · exact rget_ok I x y w h ht

end Go.Proofs.Ytphfbjeaklpddaa

/- Layer 42, the reference: drafts, the plain part. -/
namespace Go.Proofs.Ytphfbjeaklpddaa
open Go.RowKit

/-- the slice's head a: the numbers xs lie there, of 16 bits each -/
def U16s (w : World) (a : Option Addr) (xs : List Int) : Prop :=
  xs ≠ [] → ∃ b off, a = some ⟨b, off, none⟩ ∧ ∀ i, i < xs.length → w.cell? ⟨b, off + i, none⟩ = some (.int .u16 (xs[i]?.getD 0))

theorem U16s.at {w : World} {a : Option Addr} {xs : List Int} (h : U16s w a xs) {k : Nat} (hk : k < xs.length) :
    ∃ b off x, a = some ⟨b, off, none⟩ ∧ w.cell? ⟨b, off + k, none⟩ = some (.int .u16 x) ∧ Hid (xs[k]? = some x) := by
  obtain ⟨b, off, e, g⟩ := h (by rintro rfl; simp at hk)
  exact ⟨b, off, xs[k], e, by have := g k hk; simpa [hk] using this, Lib.hid (by simp [hk])⟩

theorem U16s.below {w w' : World} {a : Option Addr} {xs : List Int} (h : U16s w a xs) (hb : Below w.heap.size w w') : U16s w' a xs := by
  intro hx
  obtain ⟨b, off, e, g⟩ := h hx
  refine ⟨b, off, e, fun i hi => ?_⟩
  have := g i hi
  rw [hb.cell (p := ⟨b, off + i, none⟩) (World.block_lt_of_cell? _ _ this)]
  exact this

/-- a draft -/
structure Dr where
  w : Int
  h : Int
  c : Int
  p : Int
  deep : Bool
  pl : Bool
  vs : List Int

structure Dr.ok (D : Dr) : Prop where
  w0 : 0 ≤ D.w
  w1 : D.w < 256
  h0 : 0 ≤ D.h
  h1 : D.h < 256
  c0 : 0 ≤ D.c
  c1 : D.c < 256
  p0 : 0 ≤ D.p
  p1 : D.p < 256
  vs : ∀ v ∈ D.vs, 0 ≤ v ∧ v < 65536
  len : D.vs.length ≤ maxLen

def Dr.v (D : Dr) (a : Option Addr) (cap : Nat) : Value := .agg #[.int .u8 D.w, .int .u8 D.h, .int .u8 D.c, .int .u8 D.p, .bool D.deep, .bool D.pl, .slice a D.vs.length cap]

/-- the variable b holds the draft -/
structure HasDr (W : World) (b : Nat) (D : Dr) (a : Option Addr) (cap : Nat) : Prop where
  lt : b < W.heap.size
  c0 : W.cell? ⟨b, 0, none⟩ = some (.int .u8 D.w)
  c1 : W.cell? ⟨b, 1, none⟩ = some (.int .u8 D.h)
  c2 : W.cell? ⟨b, 2, none⟩ = some (.int .u8 D.c)
  c3 : W.cell? ⟨b, 3, none⟩ = some (.int .u8 D.p)
  c4 : W.cell? ⟨b, 4, none⟩ = some (.bool D.deep)
  c5 : W.cell? ⟨b, 5, none⟩ = some (.bool D.pl)
  c6 : W.cell? ⟨b, 6, none⟩ = some (.slice a D.vs.length cap)
  fz : ∀ o, W.frozen? ⟨b, o, none⟩ = false

theorem HasDr.below {W W' : World} {b : Nat} {D : Dr} {a : Option Addr} {cap : Nat} (h : HasDr W b D a cap) (hb : Below W.heap.size W W') : HasDr W' b D a cap :=
  ⟨Nat.lt_of_lt_of_le h.lt hb.size, (hb.cell (p := ⟨b, 0, none⟩) h.lt).trans h.c0, (hb.cell (p := ⟨b, 1, none⟩) h.lt).trans h.c1, (hb.cell (p := ⟨b, 2, none⟩) h.lt).trans h.c2,
   (hb.cell (p := ⟨b, 3, none⟩) h.lt).trans h.c3, (hb.cell (p := ⟨b, 4, none⟩) h.lt).trans h.c4, (hb.cell (p := ⟨b, 5, none⟩) h.lt).trans h.c5, (hb.cell (p := ⟨b, 6, none⟩) h.lt).trans h.c6,
   fun o => (hb.frozen (p := ⟨b, o, none⟩) h.lt).trans (h.fz o)⟩

theorem HasDr.set_other {W : World} {b : Nat} {D : Dr} {a : Option Addr} {cap : Nat} (h : HasDr W b D a cap) {p : Addr} (hp : b ≠ p.block) (v : Value) : HasDr (W.setCell p v) b D a cap := by
  have e : ∀ o, (W.setCell p v).cell? ⟨b, o, none⟩ = W.cell? ⟨b, o, none⟩ := fun o => World.cell?_setCell_other W p ⟨b, o, none⟩ v (by rintro rfl; exact hp rfl)
  exact ⟨by rw [World.size_setCell]; exact h.lt, (e 0).trans h.c0, (e 1).trans h.c1, (e 2).trans h.c2, (e 3).trans h.c3, (e 4).trans h.c4, (e 5).trans h.c5, (e 6).trans h.c6, fun o => (World.frozen?_setCell ..).trans (h.fz o)⟩

theorem HasDr.grownBy {W W' : World} {b : Nat} {D : Dr} {a : Option Addr} {cap : Nat} {row : Option Nat} (h : HasDr W b D a cap) (hg : W.grownBy W' row) (hne : row ≠ some b) : HasDr W' b D a cap := by
  have e : W'.heap[b]? = W.heap[b]? := hg.block b h.lt (fun e => hne e.symm)
  have c : ∀ o, W'.cell? ⟨b, o, none⟩ = W.cell? ⟨b, o, none⟩ := fun o => World.cell?_of_block (a := ⟨b, o, none⟩) e
  have f : ∀ o, W'.frozen? ⟨b, o, none⟩ = W.frozen? ⟨b, o, none⟩ := fun o => World.frozen?_of_block (a := ⟨b, o, none⟩) e
  exact ⟨Nat.lt_of_lt_of_le h.lt hg.size, (c 0).trans h.c0, (c 1).trans h.c1, (c 2).trans h.c2, (c 3).trans h.c3, (c 4).trans h.c4, (c 5).trans h.c5, (c 6).trans h.c6, fun o => (f o).trans (h.fz o)⟩

def padOf (p : Int) : Int := if p % 4 = 0 then 1 else if p % 4 = 1 then 2 else if p % 4 = 2 then 4 else 8
def Dr.B (D : Dr) : Int := if D.deep then 16 else 8
def Dr.most (D : Dr) : Int := if D.deep then 65536 else 256
/-- the layout of a draft's image with n channels -/
def Dr.lay (D : Dr) (n : Int) : Lay := ⟨1 + D.w % 6, 1 + D.h % 6, n, D.B, D.pl, padOf D.p⟩
/-- its value number i -/
def Dr.val (D : Dr) (i : Nat) : Int := if D.vs = [] then 0 else D.vs[i % D.vs.length]?.getD 0 % D.most
/-- its samples -/
def Dr.fn (D : Dr) (n : Int) (x y c : Int) : Int := D.val ((y * (1 + D.w % 6) + x) * n + c).toNat
/-- its image with n channels -/
def Dr.some (D : Dr) (n : Int) : Im := imF (D.lay n) (D.fn n)

theorem Dr.lay_ok (D : Dr) (h : D.ok) (n : Int) (n1 : 1 ≤ n) (n4 : n ≤ 4) : (D.lay n).ok := by
  have a1 := h.w0; have a2 := h.h0; have a3 := h.p0
  have hW : 1 ≤ 1 + D.w % 6 ∧ 1 + D.w % 6 ≤ 6 := by omega
  have hH : 1 ≤ 1 + D.h % 6 ∧ 1 + D.h % 6 ≤ 6 := by omega
  obtain ⟨m1, m2⟩ := mul_bd (a := 1 + D.w % 6) (b := 1 + D.h % 6) (A := 6) (B := 6) (by omega) hW.2 (by omega) hH.2
  obtain ⟨k1, k2⟩ := mul_bd (a := (1 + D.w % 6) * (1 + D.h % 6)) (b := n) (A := 36) (B := 4) m1 (by omega) (by omega) n4
  refine ⟨hW.1, by show 1 + D.w % 6 ≤ 64; omega, hH.1, by show 1 + D.h % 6 ≤ 64; omega, n1, n4, ?_, ?_, by show (1 + D.w % 6) * (1 + D.h % 6) * n ≤ 4096; omega⟩
  · show D.B = 8 ∨ D.B = 16
    unfold Dr.B
    split <;> simp
  · show padOf D.p = 1 ∨ padOf D.p = 2 ∨ padOf D.p = 4 ∨ padOf D.p = 8
    unfold padOf
    split
    · simp
    · split
      · simp
      · split <;> simp

theorem Dr.val_bd (D : Dr) (h : D.ok) (i : Nat) : 0 ≤ D.val i ∧ D.val i < D.most := by
  have hm : 0 < D.most := by unfold Dr.most; split <;> omega
  unfold Dr.val
  split
  · exact ⟨Int.le_refl _, hm⟩
  · exact ⟨Int.emod_nonneg _ (by omega), Int.emod_lt_of_pos _ hm⟩

theorem Dr.fits (D : Dr) (h : D.ok) (n : Int) : Fits (D.lay n) (D.fn n) := by
  intro x y c _
  have := D.val_bd h ((y * (1 + D.w % 6) + x) * n + c).toNat
  unfold Dr.fn
  refine ⟨this.1, Int.lt_of_lt_of_le this.2 ?_⟩
  show D.most ≤ if D.B = 8 then 256 else 65536
  unfold Dr.most Dr.B
  cases D.deep <;> simp

theorem Dr.some_valid (D : Dr) (h : D.ok) (n : Int) (n1 : 1 ≤ n) (n4 : n ≤ 4) : (D.some n).vB = true := imF_valid _ (D.lay_ok h n n1 n4) _

end Go.Proofs.Ytphfbjeaklpddaa

/- Layer 42, the reference: Draft.Some. -/
namespace Go.Proofs.Ytphfbjeaklpddaa
open Go.RowKit

attribute [local go_sem] Oper.semAt_some

theorem padOf_at (p : Int) (p0 : 0 ≤ p) : ([1, 2, 4, 8] : List Int)[(p % 4).toNat]?.getD 0 = padOf p := by
  unfold padOf
  have h : p % 4 = 0 ∨ p % 4 = 1 ∨ p % 4 = 2 ∨ p % 4 = 3 := by omega
  rcases h with h | h | h | h <;> rw [h] <;> rfl

theorem info_of_int : ∃ i, Try.prog.info? 3 = some i ∧ i.zero = some (.int .i64 0) ∧ i.size = 1 ∧ i.bytes = 8 := by
  have h := info_int
  cases e : Try.prog.info? 3 with
  | none => rw [e] at h; cases h
  | some i => rw [e] at h; simp at h; exact ⟨i, rfl, h.1, h.2.1, h.2.2⟩

/-- the octets of a draft's image when k pixels are put -/
def drF (D : Dr) (n : Int) (k : Nat) : Int → Int → Int → Int := shpF (D.fn n) chg1 (1 + D.w % 6) k
def drO (D : Dr) (n : Int) (k : Nat) : ByteArray := (imF (D.lay n) (drF D n k)).O

theorem drF_fits (D : Dr) (h : D.ok) (n : Int) (k : Nat) : Fits (D.lay n) (drF D n k) := by
  intro x y c hd
  unfold drF shpF chg1
  split
  · exact D.fits h n x y c hd
  · refine ⟨Int.le_refl _, ?_⟩; split <;> omega

theorem putF_congr (f g : Int → Int → Int → Int) (x y : Int) (xs : List Int) (k : Nat) (a b c : Int) (h : f a b c = g a b c) : putF f x y xs k a b c = putF g x y xs k a b c := by
  unfold putF
  split
  · rfl
  · exact h

theorem drput (D : Dr) (hD : D.ok) (n : Int) (n1 : 1 ≤ n) (n4 : n ≤ 4) (V : World) (ao : Option Addr) (cv X Y k Wn Cn : Nat) (hW : 1 + D.w % 6 = (Wn : Int)) (hC : n = (Cn : Int)) (hk : k = Y * Wn + X) (hX : X < Wn) (hY : (Y : Int) < 1 + D.h % 6)
    (hi : Ints V ao ((List.range Cn).map fun j => D.fn n (X : Nat) (Y : Nat) (j : Nat))) :
    Calls Try.prog 52 #[(⟨D.lay n, drO D n k⟩ : Im).v, .int .i64 X, .int .i64 Y, .slice ao Cn cv] V fun e w' => e = .returned ((⟨D.lay n, drO D n (k + 1)⟩ : Im).v) ∧ Below V.heap.size V w' := by
  have hok := D.lay_ok hD n n1 n4
  have h := rput_any (imF (D.lay n) (drF D n k)) (imF_valid _ hok _) X Y ((List.range Cn).map fun j => D.fn n (X : Nat) (Y : Nat) (j : Nat)) ao cv V (by omega) (by show (X : Int) < 1 + D.w % 6; omega) (by omega) hY hi (by show _ = n; simp; omega) (by
    intro v hv
    obtain ⟨j, _, rfl⟩ := List.mem_map.1 hv
    have := D.val_bd hD ((((Y : Nat) : Int) * (1 + D.w % 6) + (X : Nat)) * n + (j : Nat)).toNat
    unfold Dr.fn
    refine ⟨this.1, Int.lt_of_lt_of_le this.2 ?_⟩
    unfold Dr.most
    split <;> omega)
  rw [show ((List.range Cn).map fun j => D.fn n (X : Nat) (Y : Nat) (j : Nat)).length = Cn by simp] at h
  have e : imF (D.lay n) (putF ((D.lay n).fn (imF (D.lay n) (drF D n k)).O) X Y ((List.range Cn).map fun j => D.fn n (X : Nat) (Y : Nat) (j : Nat)) Cn) = imF (D.lay n) (drF D n (k + 1)) := by
    refine imF_congr _ hok _ _ fun a b c hd => ?_
    rw [putF_congr _ _ _ _ _ _ a b c (imF_fn (D.lay n) hok (drF D n k) (drF_fits D hD n k) hd)]
    have hp := shpF_put' (D.fn n) chg1 (1 + D.w % 6) (by omega) X Y k (by rw [hW]; simpa using hk) (by rw [hW]; simpa using hX) Cn a b c hd.1.1 hd.1.2 hd.2.1.1 hd.2.2.1 (by have := hd.2.2.2; show c < (Cn : Int); rw [← hC]; exact this)
    rw [show ((List.range Cn).map fun j => chg1 (D.fn n (X : Nat) (Y : Nat) (j : Nat))).length = Cn by simp] at hp
    exact hp
  rw [show (imF (D.lay n) (drF D n k)).L = D.lay n from rfl] at h
  rw [e] at h
  exact h

theorem drO_zero (D : Dr) (hD : D.ok) (n : Int) (n1 : 1 ≤ n) (n4 : n ≤ 4) : (imF (D.lay n) fun _ _ _ => 0).O = drO D n 0 := by
  unfold drO
  rw [imF_congr (D.lay n) (D.lay_ok hD n n1 n4) (fun _ _ _ => 0) (drF D n 0) fun a b c hd => (shpF_zero _ _ _ _ _ _ hd.1.1 hd.2.1.1 (by have := hD.w0; omega)).symm]

theorem dr_full (D : Dr) (hD : D.ok) (n : Int) (n1 : 1 ≤ n) (n4 : n ≤ 4) (Wn Hn : Nat) (hW : 1 + D.w % 6 = (Wn : Int)) (hH : 1 + D.h % 6 = (Hn : Int)) : drO D n (Hn * Wn) = (D.some n).O := by
  unfold drO Dr.some
  rw [imF_congr (D.lay n) (D.lay_ok hD n n1 n4) (drF D n (Hn * Wn)) (D.fn n) fun a b c hd => by
    have h := shpF_full (D.fn n) chg1 (1 + D.w % 6) (1 + D.h % 6) a b c hd.1.1 hd.1.2 hd.2.1.1 hd.2.1.2
    rw [hW, hH] at h
    unfold drF
    rw [hW]
    simpa [chg1] using h]

theorem imF_zero (L : Lay) : (⟨L, octS L.len.toNat fun _ => 0⟩ : Im) = imF L fun _ _ _ => 0 := by
  unfold imF
  rw [octS_congr L.len.toNat (L.octF fun _ _ _ => 0) (fun _ => 0) fun p _ _ => L.octF_zero p]

set_option maxRecDepth 100000 in
set_option maxHeartbeats 8000000 in
theorem somefalse (D : Dr) (hD : D.ok) (hdeep : D.deep = false) (n : Int) (n1 : 1 ≤ n) (n4 : n ≤ 4) (a : Option Addr) (cap : Nat) (w : World) (hvs : U16s w a D.vs) :
    Calls Try.prog 30 #[D.v a cap, .int .i64 n] w fun e w' => e = .returned (D.some n).v ∧ Below w.heap.size w w' := by
  have hok := D.lay_ok hD n n1 n4
  have hmk : ∀ V, Calls Try.prog 18 #[.int .i64 (1 + D.w % 6), .int .i64 (1 + D.h % 6), .int .i64 n, .int .i64 8, .bool D.pl, .int .i64 (padOf D.p)] V fun e w' =>
      e = .returned (.tuple #[imgV (1 + D.w % 6) (1 + D.h % 6) n 8 D.pl (padOf D.p) (imF (D.lay n) fun _ _ _ => 0).O, .int .i64 0]) ∧ Below V.heap.size V w' := fun V => by
    have h := rmake_ok (D.lay n) V hok
    have e : octS (D.lay n).len.toNat (fun _ => 0) = (imF (D.lay n) fun _ _ _ => 0).O := by rw [← imF_zero]
    rw [e] at h
    have eB : (D.lay n).B = 8 := by show D.B = 8; unfold Dr.B; rw [hdeep]; rfl
    unfold Lay.img at h
    rw [eB] at h
    exact h
  obtain ⟨O0, hO0⟩ : ∃ O0, O0 = (imF (D.lay n) fun _ _ _ => 0).O := ⟨_, rfl⟩
  rw [← hO0] at hmk
  have HO0 := Lib.hid hO0
  have HMK := Lib.hid hmk
  have HD := Lib.hid hD
  have HOK := Lib.hid hok
  have HDEEP := Lib.hid hdeep
  have HVS := Lib.hid hvs
  have a1 := hD.w0; have a2 := hD.w1; have a3 := hD.h0; have a4 := hD.h1; have a5 := hD.p0; have a6 := hD.p1
  have hlen := hD.len
  unfold maxLen at hlen
  clear hO0 hmk hD hok hvs
  unfold Dr.v
  rw [hdeep]
  clear hdeep
  go_enter Try.func30, Try.ntmps30
  go_upto_region 5 with fail
  (with_reducible refine wp_gen ?_)
  intro W0 hW0
  have hdr : HasDr W0 w.heap.size ⟨D.w, D.h, D.c, D.p, false, D.pl, D.vs⟩ a cap := ⟨by rw [hW0]; go_simp, by rw [hW0]; go_simp, by rw [hW0]; go_simp, by rw [hW0]; go_simp, by rw [hW0]; go_simp, by rw [hW0]; go_simp, by rw [hW0]; go_simp, by rw [hW0]; go_simp, fun o => by rw [hW0]; go_simp⟩
  have hz : HasIm W0 (w.heap.size + 1) ⟨⟨0, 0, 0, 0, false, 0⟩, ⟨#[]⟩⟩ := ⟨by rw [hW0]; go_simp, by rw [hW0]; go_simp, by rw [hW0]; go_simp, by rw [hW0]; go_simp, by rw [hW0]; go_simp, by rw [hW0]; go_simp, by rw [hW0]; go_simp, by rw [hW0]; go_simp, fun o => by rw [hW0]; go_simp⟩
  have hB : Below w.heap.size w W0 := by
    rw [hW0]
    ((repeat (first | (with_reducible exact Below.refl _ _) | (with_reducible refine Below.setCell ?_ ?_ _) | (with_reducible refine Below.alloc ?_ ?_ _) | (with_reducible refine Below.drew ?_) | (with_reducible refine Below.trans ?_ (Below.mono (by assumption) ?_)))); all_goals ((try simp only [World.size_alloc, World.size_drew, World.size_setCell]); omega))
  have hsz : w.heap.size + 1 < W0.heap.size := by rw [hW0]; simp
  clear hW0
  go_cut [7, 8] from 17 to 40 (fun s7 _ wx => ∃ b7, s7 = .pointer (some ⟨b7, 0, none⟩) ∧ w.heap.size + 1 < b7 ∧ HasIm wx b7 ⟨⟨1 + D.w % 6, 1 + D.h % 6, n, 8, D.pl, padOf D.p⟩, O0⟩ ∧ HasDr wx w.heap.size ⟨D.w, D.h, D.c, D.p, false, D.pl, D.vs⟩ a cap ∧ HasIm wx (w.heap.size + 1) ⟨⟨0, 0, 0, 0, false, 0⟩, ⟨#[]⟩⟩ ∧ Below w.heap.size w wx)
  case first =>
    have q1 : 0 ≤ D.w % 6 ∧ D.w % 6 < 6 := by omega
    have q2 : 0 ≤ D.h % 6 ∧ D.h % 6 < 6 := by omega
    have q3 : 0 ≤ D.p % 4 ∧ D.p % 4 < 4 := by omega
    have t1 : D.w.tmod 6 = D.w % 6 := Int.tmod_eq_emod_of_nonneg a1
    have t2 : D.h.tmod 6 = D.h % 6 := Int.tmod_eq_emod_of_nonneg a3
    have t3 : D.p.tmod 4 = D.p % 4 := Int.tmod_eq_emod_of_nonneg a5
    have w1 : IntKind.i64.wrap (D.w % 6) = D.w % 6 := by rw [IntKind.wrap_i64]; omega
    have w2 : IntKind.i64.wrap (D.h % 6) = D.h % 6 := by rw [IntKind.wrap_i64]; omega
    have w3 : IntKind.i64.wrap (1 + D.w % 6) = 1 + D.w % 6 := by rw [IntKind.wrap_i64]; omega
    have w4 : IntKind.i64.wrap (1 + D.h % 6) = 1 + D.h % 6 := by rw [IntKind.wrap_i64]; omega
    refine wp_region_held_drew (S := fun V => HasDr V w.heap.size ⟨D.w, D.h, D.c, D.p, false, D.pl, D.vs⟩ a cap ∧ HasIm V (w.heap.size + 1) ⟨⟨0, 0, 0, 0, false, 0⟩, ⟨#[]⟩⟩ ∧ Below w.heap.size w V) (by kernel_rfl) ⟨hdr.below (Below.refl _ _).drew, hz.below (Below.refl _ _).drew, hB.drew⟩ (fun hHeld => ?_)
    refine wpAnyH_gen ?_
    intro U0 hU
    have hM0 : HasDr U0 w.heap.size ⟨D.w, D.h, D.c, D.p, false, D.pl, D.vs⟩ a cap := by rw [hU]; exact hHeld.1
    have hM1 : HasIm U0 (w.heap.size + 1) ⟨⟨0, 0, 0, 0, false, 0⟩, ⟨#[]⟩⟩ := by rw [hU]; exact hHeld.2.1
    have hKB : Below w.heap.size w U0 := by rw [hU]; exact hHeld.2.2
    replace hHeld : HasDr U0 w.heap.size ⟨D.w, D.h, D.c, D.p, false, D.pl, D.vs⟩ a cap ∧ HasIm U0 (w.heap.size + 1) ⟨⟨0, 0, 0, 0, false, 0⟩, ⟨#[]⟩⟩ ∧ Below w.heap.size w U0 := ⟨hM0, hM1, hKB⟩
    clear hU
    refine wpAnyH_take (i := 0) (v := .pointer (some ⟨w.heap.size, 0, none⟩)) rfl (by kernel_rfl) (by kernel_rfl) (by kernel_rfl) (fun _ _ _ h => h) (Or.inl ⟨by rfl, ?_⟩) hHeld ?_
    · rintro V ⟨⟨x0l, x00, x01, x02, x03, x04, x05, x06, x0z⟩, ⟨x1l, x10, x11, x12, x13, x14, x15, x16, x1z⟩, -⟩
      go_simp
    try simp only [Act.put, List.getElem_toArray, List.getElem_cons_succ, List.getElem_cons_zero, List.setIfInBounds_toArray, List.set_cons_zero, List.set_cons_succ]
    refine wpAnyH_take (i := 1) (v := .int .u8 D.w) rfl (by kernel_rfl) (by kernel_rfl) (by kernel_rfl) (fun _ _ _ h => h) (Or.inl ⟨by rfl, ?_⟩) hHeld ?_
    · rintro V ⟨⟨x0l, x00, x01, x02, x03, x04, x05, x06, x0z⟩, ⟨x1l, x10, x11, x12, x13, x14, x15, x16, x1z⟩, -⟩
      go_simp
    try simp only [Act.put, List.getElem_toArray, List.getElem_cons_succ, List.getElem_cons_zero, List.setIfInBounds_toArray, List.set_cons_zero, List.set_cons_succ]
    refine wpAnyH_take (i := 2) (v := .int .u8 (D.w % 6)) rfl (by kernel_rfl) (by kernel_rfl) (by kernel_rfl) (fun _ _ _ h => h) (Or.inl ⟨by rfl, ?_⟩) hHeld ?_
    · rintro V ⟨⟨x0l, x00, x01, x02, x03, x04, x05, x06, x0z⟩, ⟨x1l, x10, x11, x12, x13, x14, x15, x16, x1z⟩, -⟩
      go_simp
    try simp only [Act.put, List.getElem_toArray, List.getElem_cons_succ, List.getElem_cons_zero, List.setIfInBounds_toArray, List.set_cons_zero, List.set_cons_succ]
    refine wpAnyH_take (i := 3) (v := .int .i64 (D.w % 6)) rfl (by kernel_rfl) (by kernel_rfl) (by kernel_rfl) (fun _ _ _ h => h) (Or.inl ⟨by rfl, ?_⟩) hHeld ?_
    · rintro V ⟨⟨x0l, x00, x01, x02, x03, x04, x05, x06, x0z⟩, ⟨x1l, x10, x11, x12, x13, x14, x15, x16, x1z⟩, -⟩
      go_simp
    try simp only [Act.put, List.getElem_toArray, List.getElem_cons_succ, List.getElem_cons_zero, List.setIfInBounds_toArray, List.set_cons_zero, List.set_cons_succ]
    refine wpAnyH_take (i := 4) (v := .int .i64 (1 + D.w % 6)) rfl (by kernel_rfl) (by kernel_rfl) (by kernel_rfl) (fun _ _ _ h => h) (Or.inl ⟨by rfl, ?_⟩) hHeld ?_
    · rintro V ⟨⟨x0l, x00, x01, x02, x03, x04, x05, x06, x0z⟩, ⟨x1l, x10, x11, x12, x13, x14, x15, x16, x1z⟩, -⟩
      go_simp
    try simp only [Act.put, List.getElem_toArray, List.getElem_cons_succ, List.getElem_cons_zero, List.setIfInBounds_toArray, List.set_cons_zero, List.set_cons_succ]
    refine wpAnyH_take (i := 5) (v := .pointer (some ⟨w.heap.size, 1, none⟩)) rfl (by kernel_rfl) (by kernel_rfl) (by kernel_rfl) (fun _ _ _ h => h) (Or.inl ⟨by rfl, ?_⟩) hHeld ?_
    · rintro V ⟨⟨x0l, x00, x01, x02, x03, x04, x05, x06, x0z⟩, ⟨x1l, x10, x11, x12, x13, x14, x15, x16, x1z⟩, -⟩
      go_simp
    try simp only [Act.put, List.getElem_toArray, List.getElem_cons_succ, List.getElem_cons_zero, List.setIfInBounds_toArray, List.set_cons_zero, List.set_cons_succ]
    refine wpAnyH_take (i := 6) (v := .int .u8 D.h) rfl (by kernel_rfl) (by kernel_rfl) (by kernel_rfl) (fun _ _ _ h => h) (Or.inl ⟨by rfl, ?_⟩) hHeld ?_
    · rintro V ⟨⟨x0l, x00, x01, x02, x03, x04, x05, x06, x0z⟩, ⟨x1l, x10, x11, x12, x13, x14, x15, x16, x1z⟩, -⟩
      go_simp
    try simp only [Act.put, List.getElem_toArray, List.getElem_cons_succ, List.getElem_cons_zero, List.setIfInBounds_toArray, List.set_cons_zero, List.set_cons_succ]
    refine wpAnyH_take (i := 7) (v := .int .u8 (D.h % 6)) rfl (by kernel_rfl) (by kernel_rfl) (by kernel_rfl) (fun _ _ _ h => h) (Or.inl ⟨by rfl, ?_⟩) hHeld ?_
    · rintro V ⟨⟨x0l, x00, x01, x02, x03, x04, x05, x06, x0z⟩, ⟨x1l, x10, x11, x12, x13, x14, x15, x16, x1z⟩, -⟩
      go_simp
    try simp only [Act.put, List.getElem_toArray, List.getElem_cons_succ, List.getElem_cons_zero, List.setIfInBounds_toArray, List.set_cons_zero, List.set_cons_succ]
    refine wpAnyH_take (i := 8) (v := .int .i64 (D.h % 6)) rfl (by kernel_rfl) (by kernel_rfl) (by kernel_rfl) (fun _ _ _ h => h) (Or.inl ⟨by rfl, ?_⟩) hHeld ?_
    · rintro V ⟨⟨x0l, x00, x01, x02, x03, x04, x05, x06, x0z⟩, ⟨x1l, x10, x11, x12, x13, x14, x15, x16, x1z⟩, -⟩
      go_simp
    try simp only [Act.put, List.getElem_toArray, List.getElem_cons_succ, List.getElem_cons_zero, List.setIfInBounds_toArray, List.set_cons_zero, List.set_cons_succ]
    refine wpAnyH_take (i := 9) (v := .int .i64 (1 + D.h % 6)) rfl (by kernel_rfl) (by kernel_rfl) (by kernel_rfl) (fun _ _ _ h => h) (Or.inl ⟨by rfl, ?_⟩) hHeld ?_
    · rintro V ⟨⟨x0l, x00, x01, x02, x03, x04, x05, x06, x0z⟩, ⟨x1l, x10, x11, x12, x13, x14, x15, x16, x1z⟩, -⟩
      go_simp
    try simp only [Act.put, List.getElem_toArray, List.getElem_cons_succ, List.getElem_cons_zero, List.setIfInBounds_toArray, List.set_cons_zero, List.set_cons_succ]
    refine wpAnyH_take (i := 10) (v := .int .i64 n) rfl (by kernel_rfl) (by kernel_rfl) (by kernel_rfl) (fun _ _ _ h => h) (Or.inl ⟨by rfl, ?_⟩) hHeld ?_
    · rintro V ⟨⟨x0l, x00, x01, x02, x03, x04, x05, x06, x0z⟩, ⟨x1l, x10, x11, x12, x13, x14, x15, x16, x1z⟩, -⟩
      go_simp
    try simp only [Act.put, List.getElem_toArray, List.getElem_cons_succ, List.getElem_cons_zero, List.setIfInBounds_toArray, List.set_cons_zero, List.set_cons_succ]
    refine wpAnyH_take (i := 11) (v := .int .i64 8) rfl (by kernel_rfl) (by kernel_rfl) (by kernel_rfl) (fun _ _ _ h => h) (Or.inl ⟨by rfl, ?_⟩) hHeld ?_
    · rintro V ⟨⟨x0l, x00, x01, x02, x03, x04, x05, x06, x0z⟩, ⟨x1l, x10, x11, x12, x13, x14, x15, x16, x1z⟩, -⟩
      go_simp
    try simp only [Act.put, List.getElem_toArray, List.getElem_cons_succ, List.getElem_cons_zero, List.setIfInBounds_toArray, List.set_cons_zero, List.set_cons_succ]
    refine wpAnyH_take (i := 12) (v := .pointer (some ⟨w.heap.size, 5, none⟩)) rfl (by kernel_rfl) (by kernel_rfl) (by kernel_rfl) (fun _ _ _ h => h) (Or.inl ⟨by rfl, ?_⟩) hHeld ?_
    · rintro V ⟨⟨x0l, x00, x01, x02, x03, x04, x05, x06, x0z⟩, ⟨x1l, x10, x11, x12, x13, x14, x15, x16, x1z⟩, -⟩
      go_simp
    try simp only [Act.put, List.getElem_toArray, List.getElem_cons_succ, List.getElem_cons_zero, List.setIfInBounds_toArray, List.set_cons_zero, List.set_cons_succ]
    refine wpAnyH_take (i := 13) (v := .bool D.pl) rfl (by kernel_rfl) (by kernel_rfl) (by kernel_rfl) (fun _ _ _ h => h) (Or.inl ⟨by rfl, ?_⟩) hHeld ?_
    · rintro V ⟨⟨x0l, x00, x01, x02, x03, x04, x05, x06, x0z⟩, ⟨x1l, x10, x11, x12, x13, x14, x15, x16, x1z⟩, -⟩
      go_simp
    try simp only [Act.put, List.getElem_toArray, List.getElem_cons_succ, List.getElem_cons_zero, List.setIfInBounds_toArray, List.set_cons_zero, List.set_cons_succ]
    refine wpAnyH_take (i := 15) (v := .pointer (some ⟨w.heap.size, 3, none⟩)) rfl (by kernel_rfl) (by kernel_rfl) (by kernel_rfl) (fun _ _ _ h => h) (Or.inl ⟨by rfl, ?_⟩) hHeld ?_
    · rintro V ⟨⟨x0l, x00, x01, x02, x03, x04, x05, x06, x0z⟩, ⟨x1l, x10, x11, x12, x13, x14, x15, x16, x1z⟩, -⟩
      go_simp
    try simp only [Act.put, List.getElem_toArray, List.getElem_cons_succ, List.getElem_cons_zero, List.setIfInBounds_toArray, List.set_cons_zero, List.set_cons_succ]
    refine wpAnyH_take (i := 16) (v := .int .u8 D.p) rfl (by kernel_rfl) (by kernel_rfl) (by kernel_rfl) (fun _ _ _ h => h) (Or.inl ⟨by rfl, ?_⟩) hHeld ?_
    · rintro V ⟨⟨x0l, x00, x01, x02, x03, x04, x05, x06, x0z⟩, ⟨x1l, x10, x11, x12, x13, x14, x15, x16, x1z⟩, -⟩
      go_simp
    try simp only [Act.put, List.getElem_toArray, List.getElem_cons_succ, List.getElem_cons_zero, List.setIfInBounds_toArray, List.set_cons_zero, List.set_cons_succ]
    refine wpAnyH_take (i := 17) (v := .int .u8 (D.p % 4)) rfl (by kernel_rfl) (by kernel_rfl) (by kernel_rfl) (fun _ _ _ h => h) (Or.inl ⟨by rfl, ?_⟩) hHeld ?_
    · rintro V ⟨⟨x0l, x00, x01, x02, x03, x04, x05, x06, x0z⟩, ⟨x1l, x10, x11, x12, x13, x14, x15, x16, x1z⟩, -⟩
      go_simp
    try simp only [Act.put, List.getElem_toArray, List.getElem_cons_succ, List.getElem_cons_zero, List.setIfInBounds_toArray, List.set_cons_zero, List.set_cons_succ]
    refine wpAnyH_ready (rs := [14, 24]) (by kernel_rfl) (by simp) ?_
    refine AllReadyH.cons rfl (fun K hK => ?_) ?_
    · go_simp
      refine hK.out _ _ ⟨hHeld.1.below ((Below.refl _ _).alloc (Nat.le_refl _) _), hHeld.2.1.below ((Below.refl _ _).alloc (Nat.le_refl _) _), hHeld.2.2.alloc hHeld.2.2.size _⟩ (fun hHeld => ?_)
      clear hK
      have hXL : Ints (U0.alloc (.cells #[.int .i64 1, .int .i64 2, .int .i64 4, .int .i64 8] 3)) (some ⟨U0.heap.size, 0, none⟩) [1, 2, 4, 8] := fun _ => ⟨_, _, rfl, fun i hi => by
        have : i = 0 ∨ i = 1 ∨ i = 2 ∨ i = 3 := by simp at hi; omega
        rcases this with rfl | rfl | rfl | rfl <;> go_simp⟩
      refine wpAnyH_gen ?_
      intro U1 hU
      have hM0 : HasDr U1 w.heap.size ⟨D.w, D.h, D.c, D.p, false, D.pl, D.vs⟩ a cap := by rw [hU]; exact hHeld.1
      have hM1 : HasIm U1 (w.heap.size + 1) ⟨⟨0, 0, 0, 0, false, 0⟩, ⟨#[]⟩⟩ := by rw [hU]; exact hHeld.2.1
      have hKB : Below w.heap.size w U1 := by rw [hU]; exact hHeld.2.2
      have hXL : Ints U1 (some ⟨U0.heap.size, 0, none⟩) [1, 2, 4, 8] := by rw [hU]; exact hXL
      replace hHeld : HasDr U1 w.heap.size ⟨D.w, D.h, D.c, D.p, false, D.pl, D.vs⟩ a cap ∧ HasIm U1 (w.heap.size + 1) ⟨⟨0, 0, 0, 0, false, 0⟩, ⟨#[]⟩⟩ ∧ Below w.heap.size w U1 := ⟨hM0, hM1, hKB⟩
      clear hU
      refine wpAnyH_ready (rs := [18, 24]) (by kernel_rfl) (by simp) ?_
      refine AllReadyH.cons rfl (fun K hK => ?_) ?_
      · go_simp
        refine hK.out _ _ hHeld (fun hHeld => ?_)
        clear hK
        refine wpAnyH_ready (rs := [19, 24]) (by kernel_rfl) (by simp) ?_
        refine AllReadyH.cons rfl (fun K hK => ?_) ?_
        · obtain ⟨lb, lo, lx, le, lc, lX⟩ := hXL.at (k := (D.p % 4).toNat) (by simp; omega)
          cases le
          have lX' := lX.out
          have lpad := padOf_at D.p a5
          rw [lX', Option.getD_some] at lpad
          rw [lpad, Nat.zero_add] at lc
          clear lX lX' lpad
          go_simp
          refine hK.out _ _ hHeld (fun hHeld => ?_)
          clear hK
          refine wpAnyH_ready (rs := [20, 24]) (by kernel_rfl) (by simp) ?_
          refine AllReadyH.cons rfl (fun K hK => ?_) ?_
          · go_simp
            (with_reducible refine calls_gen ?_)
            intro U2 hU
            have hM0 : HasDr U2 w.heap.size ⟨D.w, D.h, D.c, D.p, false, D.pl, D.vs⟩ a cap := by rw [hU]; exact hHeld.1
            have hM1 : HasIm U2 (w.heap.size + 1) ⟨⟨0, 0, 0, 0, false, 0⟩, ⟨#[]⟩⟩ := by rw [hU]; exact hHeld.2.1
            have hKB : Below w.heap.size w U2 := by rw [hU]; exact hHeld.2.2
            have hXL : Ints U2 (some ⟨U0.heap.size, 0, none⟩) [1, 2, 4, 8] := by rw [hU]; exact hXL
            (with_reducible refine (HMK.out U2).mono ?_)
            rintro e N2 ⟨rfl, hb⟩
            replace hXL := hXL.below hb
            refine hK.out _ _ ⟨hM0.below hb, hM1.below hb, hKB.trans (hb.mono hKB.size)⟩ (fun hHeld => ?_)
            clear hK
            refine wpAnyH_take (i := 21) (v := .tuple #[imgV (1 + D.w % 6) (1 + D.h % 6) n 8 D.pl (padOf D.p) O0, .int .i64 0]) rfl (by kernel_rfl) (by kernel_rfl) (by kernel_rfl) (fun _ _ _ h => h) (Or.inl ⟨by rfl, ?_⟩) hHeld ?_
            · rintro V ⟨⟨x0l, x00, x01, x02, x03, x04, x05, x06, x0z⟩, ⟨x1l, x10, x11, x12, x13, x14, x15, x16, x1z⟩, -⟩
              go_simp
            try simp only [Act.put, List.getElem_toArray, List.getElem_cons_succ, List.getElem_cons_zero, List.setIfInBounds_toArray, List.set_cons_zero, List.set_cons_succ]
            refine wpAnyH_take (i := 22) (v := imgV (1 + D.w % 6) (1 + D.h % 6) n 8 D.pl (padOf D.p) O0) rfl (by kernel_rfl) (by kernel_rfl) (by kernel_rfl) (fun _ _ _ h => h) (Or.inl ⟨by rfl, ?_⟩) hHeld ?_
            · rintro V ⟨⟨x0l, x00, x01, x02, x03, x04, x05, x06, x0z⟩, ⟨x1l, x10, x11, x12, x13, x14, x15, x16, x1z⟩, -⟩
              go_simp
            try simp only [Act.put, List.getElem_toArray, List.getElem_cons_succ, List.getElem_cons_zero, List.setIfInBounds_toArray, List.set_cons_zero, List.set_cons_succ]
            refine wpAnyH_take (i := 23) (v := .int .i64 0) rfl (by kernel_rfl) (by kernel_rfl) (by kernel_rfl) (fun _ _ _ h => h) (Or.inl ⟨by rfl, ?_⟩) hHeld ?_
            · rintro V ⟨⟨x0l, x00, x01, x02, x03, x04, x05, x06, x0z⟩, ⟨x1l, x10, x11, x12, x13, x14, x15, x16, x1z⟩, -⟩
              go_simp
            try simp only [Act.put, List.getElem_toArray, List.getElem_cons_succ, List.getElem_cons_zero, List.setIfInBounds_toArray, List.set_cons_zero, List.set_cons_succ]
            refine wpAnyH_ready (rs := [24]) (by kernel_rfl) (by simp) ?_
            refine AllReadyH.cons rfl (fun K hK => ?_) AllReadyH.nil
            go_simp
            have hgtT0 : w.heap.size < N2.heap.size := hHeld.1.lt
            have hneT0 : w.heap.size ≠ N2.heap.size := Nat.ne_of_lt hHeld.1.lt
            have hgtT1 : (w.heap.size + 1) < N2.heap.size := hHeld.2.1.lt
            have hneT1 : (w.heap.size + 1) ≠ N2.heap.size := Nat.ne_of_lt hHeld.2.1.lt
            have hleT : w.heap.size ≤ N2.heap.size := hHeld.2.2.size
            replace hXL := hXL.below ((Below.refl N2.heap.size N2).alloc (Nat.le_refl _) (.cells #[.int .i64 0, .int .i64 0, .int .i64 0, .int .i64 0, .bool false, .int .i64 0, .string ⟨#[]⟩] 31))
            refine hK.out _ _ ⟨hHeld.1.below ((Below.refl _ _).alloc (Nat.le_refl _) _), hHeld.2.1.below ((Below.refl _ _).alloc (Nat.le_refl _) _), hHeld.2.2.alloc hHeld.2.2.size _⟩ (fun hHeld => ?_)
            clear hK
            have hXT : HasIm (N2.alloc (.cells #[.int .i64 0, .int .i64 0, .int .i64 0, .int .i64 0, .bool false, .int .i64 0, .string ⟨#[]⟩] 31)) N2.heap.size ⟨⟨0, 0, 0, 0, false, 0⟩, ⟨#[]⟩⟩ := ⟨by go_simp, by go_simp, by go_simp, by go_simp, by go_simp, by go_simp, by go_simp, by go_simp, fun o => by go_simp⟩
            refine wpAnyH_gen ?_
            intro U3 hU
            have hM0 : HasDr U3 w.heap.size ⟨D.w, D.h, D.c, D.p, false, D.pl, D.vs⟩ a cap := by rw [hU]; exact hHeld.1
            have hM1 : HasIm U3 (w.heap.size + 1) ⟨⟨0, 0, 0, 0, false, 0⟩, ⟨#[]⟩⟩ := by rw [hU]; exact hHeld.2.1
            have hKB : Below w.heap.size w U3 := by rw [hU]; exact hHeld.2.2
            have hXL : Ints U3 (some ⟨U0.heap.size, 0, none⟩) [1, 2, 4, 8] := by rw [hU]; exact hXL
            have hXT : HasIm U3 N2.heap.size ⟨⟨0, 0, 0, 0, false, 0⟩, ⟨#[]⟩⟩ := by rw [hU]; exact hXT
            replace hHeld : HasDr U3 w.heap.size ⟨D.w, D.h, D.c, D.p, false, D.pl, D.vs⟩ a cap ∧ HasIm U3 (w.heap.size + 1) ⟨⟨0, 0, 0, 0, false, 0⟩, ⟨#[]⟩⟩ ∧ Below w.heap.size w U3 := ⟨hM0, hM1, hKB⟩
            clear hU
            refine wpAnyH_ready (rs := [25]) (by kernel_rfl) (by simp) ?_
            refine AllReadyH.cons rfl (fun K hK => ?_) AllReadyH.nil
            obtain ⟨oXl, oX0, oX1, oX2, oX3, oX4, oX5, oX6, oXz⟩ := hXT
            try dsimp only at oX0 oX1 oX2 oX3 oX4 oX5 oX6
            go_simp
            refine hK.out _ _ ⟨(((((((hHeld.1.set_other hneT0 _).set_other hneT0 _).set_other hneT0 _).set_other hneT0 _).set_other hneT0 _).set_other hneT0 _).set_other hneT0 _), (((((((hHeld.2.1.set_other hneT1 _).set_other hneT1 _).set_other hneT1 _).set_other hneT1 _).set_other hneT1 _).set_other hneT1 _).set_other hneT1 _), (((((((hHeld.2.2.setCell hleT _).setCell hleT _).setCell hleT _).setCell hleT _).setCell hleT _).setCell hleT _).setCell hleT _)⟩ (fun hHeld => ?_)
            clear hK
            refine wpAnyH_gen ?_
            intro U4 hU
            have hXT : HasIm U4 N2.heap.size ⟨⟨1 + D.w % 6, 1 + D.h % 6, n, 8, D.pl, padOf D.p⟩, O0⟩ := ⟨by rw [hU]; go_simp, by rw [hU]; go_simp, by rw [hU]; go_simp, by rw [hU]; go_simp, by rw [hU]; go_simp, by rw [hU]; go_simp, by rw [hU]; go_simp, by rw [hU]; go_simp, fun o => by rw [hU]; go_simp⟩
            have hM0 : HasDr U4 w.heap.size ⟨D.w, D.h, D.c, D.p, false, D.pl, D.vs⟩ a cap := by rw [hU]; exact hHeld.1
            have hM1 : HasIm U4 (w.heap.size + 1) ⟨⟨0, 0, 0, 0, false, 0⟩, ⟨#[]⟩⟩ := by rw [hU]; exact hHeld.2.1
            have hKB : Below w.heap.size w U4 := by rw [hU]; exact hHeld.2.2
            replace hHeld : HasDr U4 w.heap.size ⟨D.w, D.h, D.c, D.p, false, D.pl, D.vs⟩ a cap ∧ HasIm U4 (w.heap.size + 1) ⟨⟨0, 0, 0, 0, false, 0⟩, ⟨#[]⟩⟩ ∧ Below w.heap.size w U4 := ⟨hM0, hM1, hKB⟩
            clear hU
            refine wpAnyH_take (i := 26) (v := .int .i64 0) rfl (by kernel_rfl) (by kernel_rfl) (by kernel_rfl) (fun _ _ _ h => h) (Or.inl ⟨by rfl, ?_⟩) hHeld ?_
            · rintro V ⟨⟨x0l, x00, x01, x02, x03, x04, x05, x06, x0z⟩, ⟨x1l, x10, x11, x12, x13, x14, x15, x16, x1z⟩, -⟩
              go_simp
            try simp only [Act.put, List.getElem_toArray, List.getElem_cons_succ, List.getElem_cons_zero, List.setIfInBounds_toArray, List.set_cons_zero, List.set_cons_succ]
            refine wpAnyH_done (by kernel_rfl) ?_ _
            try simp only [Act.put, List.getElem_toArray, List.getElem_cons_succ, List.getElem_cons_zero, List.setIfInBounds_toArray, List.set_cons_zero, List.set_cons_succ]
            go_wp2_with fail
            go_meet
            exact ⟨N2.heap.size, rfl, hgtT1, hXT, hHeld.1, hHeld.2.1, hHeld.2.2⟩
          refine AllReadyH.cons rfl (fun K hK => ?_) AllReadyH.nil
          go_simp
          have hgtT0 : w.heap.size < U1.heap.size := hHeld.1.lt
          have hneT0 : w.heap.size ≠ U1.heap.size := Nat.ne_of_lt hHeld.1.lt
          have hgtT1 : (w.heap.size + 1) < U1.heap.size := hHeld.2.1.lt
          have hneT1 : (w.heap.size + 1) ≠ U1.heap.size := Nat.ne_of_lt hHeld.2.1.lt
          have hleT : w.heap.size ≤ U1.heap.size := hHeld.2.2.size
          replace hXL := hXL.below ((Below.refl U1.heap.size U1).alloc (Nat.le_refl _) (.cells #[.int .i64 0, .int .i64 0, .int .i64 0, .int .i64 0, .bool false, .int .i64 0, .string ⟨#[]⟩] 31))
          refine hK.out _ _ ⟨hHeld.1.below ((Below.refl _ _).alloc (Nat.le_refl _) _), hHeld.2.1.below ((Below.refl _ _).alloc (Nat.le_refl _) _), hHeld.2.2.alloc hHeld.2.2.size _⟩ (fun hHeld => ?_)
          clear hK
          have hXT : HasIm (U1.alloc (.cells #[.int .i64 0, .int .i64 0, .int .i64 0, .int .i64 0, .bool false, .int .i64 0, .string ⟨#[]⟩] 31)) U1.heap.size ⟨⟨0, 0, 0, 0, false, 0⟩, ⟨#[]⟩⟩ := ⟨by go_simp, by go_simp, by go_simp, by go_simp, by go_simp, by go_simp, by go_simp, by go_simp, fun o => by go_simp⟩
          refine wpAnyH_gen ?_
          intro U5 hU
          have hM0 : HasDr U5 w.heap.size ⟨D.w, D.h, D.c, D.p, false, D.pl, D.vs⟩ a cap := by rw [hU]; exact hHeld.1
          have hM1 : HasIm U5 (w.heap.size + 1) ⟨⟨0, 0, 0, 0, false, 0⟩, ⟨#[]⟩⟩ := by rw [hU]; exact hHeld.2.1
          have hKB : Below w.heap.size w U5 := by rw [hU]; exact hHeld.2.2
          have hXL : Ints U5 (some ⟨U0.heap.size, 0, none⟩) [1, 2, 4, 8] := by rw [hU]; exact hXL
          have hXT : HasIm U5 U1.heap.size ⟨⟨0, 0, 0, 0, false, 0⟩, ⟨#[]⟩⟩ := by rw [hU]; exact hXT
          replace hHeld : HasDr U5 w.heap.size ⟨D.w, D.h, D.c, D.p, false, D.pl, D.vs⟩ a cap ∧ HasIm U5 (w.heap.size + 1) ⟨⟨0, 0, 0, 0, false, 0⟩, ⟨#[]⟩⟩ ∧ Below w.heap.size w U5 := ⟨hM0, hM1, hKB⟩
          clear hU
          refine wpAnyH_ready (rs := [20]) (by kernel_rfl) (by simp) ?_
          refine AllReadyH.cons rfl (fun K hK => ?_) AllReadyH.nil
          go_simp
          (with_reducible refine calls_gen ?_)
          intro U6 hU
          have hM0 : HasDr U6 w.heap.size ⟨D.w, D.h, D.c, D.p, false, D.pl, D.vs⟩ a cap := by rw [hU]; exact hHeld.1
          have hM1 : HasIm U6 (w.heap.size + 1) ⟨⟨0, 0, 0, 0, false, 0⟩, ⟨#[]⟩⟩ := by rw [hU]; exact hHeld.2.1
          have hKB : Below w.heap.size w U6 := by rw [hU]; exact hHeld.2.2
          have hXL : Ints U6 (some ⟨U0.heap.size, 0, none⟩) [1, 2, 4, 8] := by rw [hU]; exact hXL
          have hXT : HasIm U6 U1.heap.size ⟨⟨0, 0, 0, 0, false, 0⟩, ⟨#[]⟩⟩ := by rw [hU]; exact hXT
          (with_reducible refine (HMK.out U6).mono ?_)
          rintro e N6 ⟨rfl, hb⟩
          replace hXL := hXL.below hb
          replace hXT := hXT.below hb
          refine hK.out _ _ ⟨hM0.below hb, hM1.below hb, hKB.trans (hb.mono hKB.size)⟩ (fun hHeld => ?_)
          clear hK
          refine wpAnyH_take (i := 21) (v := .tuple #[imgV (1 + D.w % 6) (1 + D.h % 6) n 8 D.pl (padOf D.p) O0, .int .i64 0]) rfl (by kernel_rfl) (by kernel_rfl) (by kernel_rfl) (fun _ _ _ h => h) (Or.inl ⟨by rfl, ?_⟩) hHeld ?_
          · rintro V ⟨⟨x0l, x00, x01, x02, x03, x04, x05, x06, x0z⟩, ⟨x1l, x10, x11, x12, x13, x14, x15, x16, x1z⟩, -⟩
            go_simp
          try simp only [Act.put, List.getElem_toArray, List.getElem_cons_succ, List.getElem_cons_zero, List.setIfInBounds_toArray, List.set_cons_zero, List.set_cons_succ]
          refine wpAnyH_take (i := 22) (v := imgV (1 + D.w % 6) (1 + D.h % 6) n 8 D.pl (padOf D.p) O0) rfl (by kernel_rfl) (by kernel_rfl) (by kernel_rfl) (fun _ _ _ h => h) (Or.inl ⟨by rfl, ?_⟩) hHeld ?_
          · rintro V ⟨⟨x0l, x00, x01, x02, x03, x04, x05, x06, x0z⟩, ⟨x1l, x10, x11, x12, x13, x14, x15, x16, x1z⟩, -⟩
            go_simp
          try simp only [Act.put, List.getElem_toArray, List.getElem_cons_succ, List.getElem_cons_zero, List.setIfInBounds_toArray, List.set_cons_zero, List.set_cons_succ]
          refine wpAnyH_take (i := 23) (v := .int .i64 0) rfl (by kernel_rfl) (by kernel_rfl) (by kernel_rfl) (fun _ _ _ h => h) (Or.inl ⟨by rfl, ?_⟩) hHeld ?_
          · rintro V ⟨⟨x0l, x00, x01, x02, x03, x04, x05, x06, x0z⟩, ⟨x1l, x10, x11, x12, x13, x14, x15, x16, x1z⟩, -⟩
            go_simp
          try simp only [Act.put, List.getElem_toArray, List.getElem_cons_succ, List.getElem_cons_zero, List.setIfInBounds_toArray, List.set_cons_zero, List.set_cons_succ]
          refine wpAnyH_ready (rs := [25]) (by kernel_rfl) (by simp) ?_
          refine AllReadyH.cons rfl (fun K hK => ?_) AllReadyH.nil
          obtain ⟨oXl, oX0, oX1, oX2, oX3, oX4, oX5, oX6, oXz⟩ := hXT
          try dsimp only at oX0 oX1 oX2 oX3 oX4 oX5 oX6
          go_simp
          refine hK.out _ _ ⟨(((((((hHeld.1.set_other hneT0 _).set_other hneT0 _).set_other hneT0 _).set_other hneT0 _).set_other hneT0 _).set_other hneT0 _).set_other hneT0 _), (((((((hHeld.2.1.set_other hneT1 _).set_other hneT1 _).set_other hneT1 _).set_other hneT1 _).set_other hneT1 _).set_other hneT1 _).set_other hneT1 _), (((((((hHeld.2.2.setCell hleT _).setCell hleT _).setCell hleT _).setCell hleT _).setCell hleT _).setCell hleT _).setCell hleT _)⟩ (fun hHeld => ?_)
          clear hK
          refine wpAnyH_gen ?_
          intro U7 hU
          have hXT : HasIm U7 U1.heap.size ⟨⟨1 + D.w % 6, 1 + D.h % 6, n, 8, D.pl, padOf D.p⟩, O0⟩ := ⟨by rw [hU]; go_simp, by rw [hU]; go_simp, by rw [hU]; go_simp, by rw [hU]; go_simp, by rw [hU]; go_simp, by rw [hU]; go_simp, by rw [hU]; go_simp, by rw [hU]; go_simp, fun o => by rw [hU]; go_simp⟩
          have hM0 : HasDr U7 w.heap.size ⟨D.w, D.h, D.c, D.p, false, D.pl, D.vs⟩ a cap := by rw [hU]; exact hHeld.1
          have hM1 : HasIm U7 (w.heap.size + 1) ⟨⟨0, 0, 0, 0, false, 0⟩, ⟨#[]⟩⟩ := by rw [hU]; exact hHeld.2.1
          have hKB : Below w.heap.size w U7 := by rw [hU]; exact hHeld.2.2
          replace hHeld : HasDr U7 w.heap.size ⟨D.w, D.h, D.c, D.p, false, D.pl, D.vs⟩ a cap ∧ HasIm U7 (w.heap.size + 1) ⟨⟨0, 0, 0, 0, false, 0⟩, ⟨#[]⟩⟩ ∧ Below w.heap.size w U7 := ⟨hM0, hM1, hKB⟩
          clear hU
          refine wpAnyH_take (i := 26) (v := .int .i64 0) rfl (by kernel_rfl) (by kernel_rfl) (by kernel_rfl) (fun _ _ _ h => h) (Or.inl ⟨by rfl, ?_⟩) hHeld ?_
          · rintro V ⟨⟨x0l, x00, x01, x02, x03, x04, x05, x06, x0z⟩, ⟨x1l, x10, x11, x12, x13, x14, x15, x16, x1z⟩, -⟩
            go_simp
          try simp only [Act.put, List.getElem_toArray, List.getElem_cons_succ, List.getElem_cons_zero, List.setIfInBounds_toArray, List.set_cons_zero, List.set_cons_succ]
          refine wpAnyH_done (by kernel_rfl) ?_ _
          try simp only [Act.put, List.getElem_toArray, List.getElem_cons_succ, List.getElem_cons_zero, List.setIfInBounds_toArray, List.set_cons_zero, List.set_cons_succ]
          go_wp2_with fail
          go_meet
          exact ⟨U1.heap.size, rfl, hgtT1, hXT, hHeld.1, hHeld.2.1, hHeld.2.2⟩
        refine AllReadyH.cons rfl (fun K hK => ?_) AllReadyH.nil
        go_simp
        have hgtT0 : w.heap.size < U1.heap.size := hHeld.1.lt
        have hneT0 : w.heap.size ≠ U1.heap.size := Nat.ne_of_lt hHeld.1.lt
        have hgtT1 : (w.heap.size + 1) < U1.heap.size := hHeld.2.1.lt
        have hneT1 : (w.heap.size + 1) ≠ U1.heap.size := Nat.ne_of_lt hHeld.2.1.lt
        have hleT : w.heap.size ≤ U1.heap.size := hHeld.2.2.size
        replace hXL := hXL.below ((Below.refl U1.heap.size U1).alloc (Nat.le_refl _) (.cells #[.int .i64 0, .int .i64 0, .int .i64 0, .int .i64 0, .bool false, .int .i64 0, .string ⟨#[]⟩] 31))
        refine hK.out _ _ ⟨hHeld.1.below ((Below.refl _ _).alloc (Nat.le_refl _) _), hHeld.2.1.below ((Below.refl _ _).alloc (Nat.le_refl _) _), hHeld.2.2.alloc hHeld.2.2.size _⟩ (fun hHeld => ?_)
        clear hK
        have hXT : HasIm (U1.alloc (.cells #[.int .i64 0, .int .i64 0, .int .i64 0, .int .i64 0, .bool false, .int .i64 0, .string ⟨#[]⟩] 31)) U1.heap.size ⟨⟨0, 0, 0, 0, false, 0⟩, ⟨#[]⟩⟩ := ⟨by go_simp, by go_simp, by go_simp, by go_simp, by go_simp, by go_simp, by go_simp, by go_simp, fun o => by go_simp⟩
        refine wpAnyH_gen ?_
        intro U8 hU
        have hM0 : HasDr U8 w.heap.size ⟨D.w, D.h, D.c, D.p, false, D.pl, D.vs⟩ a cap := by rw [hU]; exact hHeld.1
        have hM1 : HasIm U8 (w.heap.size + 1) ⟨⟨0, 0, 0, 0, false, 0⟩, ⟨#[]⟩⟩ := by rw [hU]; exact hHeld.2.1
        have hKB : Below w.heap.size w U8 := by rw [hU]; exact hHeld.2.2
        have hXL : Ints U8 (some ⟨U0.heap.size, 0, none⟩) [1, 2, 4, 8] := by rw [hU]; exact hXL
        have hXT : HasIm U8 U1.heap.size ⟨⟨0, 0, 0, 0, false, 0⟩, ⟨#[]⟩⟩ := by rw [hU]; exact hXT
        replace hHeld : HasDr U8 w.heap.size ⟨D.w, D.h, D.c, D.p, false, D.pl, D.vs⟩ a cap ∧ HasIm U8 (w.heap.size + 1) ⟨⟨0, 0, 0, 0, false, 0⟩, ⟨#[]⟩⟩ ∧ Below w.heap.size w U8 := ⟨hM0, hM1, hKB⟩
        clear hU
        refine wpAnyH_ready (rs := [19]) (by kernel_rfl) (by simp) ?_
        refine AllReadyH.cons rfl (fun K hK => ?_) AllReadyH.nil
        obtain ⟨lb, lo, lx, le, lc, lX⟩ := hXL.at (k := (D.p % 4).toNat) (by simp; omega)
        cases le
        have lX' := lX.out
        have lpad := padOf_at D.p a5
        rw [lX', Option.getD_some] at lpad
        rw [lpad, Nat.zero_add] at lc
        clear lX lX' lpad
        go_simp
        refine hK.out _ _ hHeld (fun hHeld => ?_)
        clear hK
        refine wpAnyH_ready (rs := [20]) (by kernel_rfl) (by simp) ?_
        refine AllReadyH.cons rfl (fun K hK => ?_) AllReadyH.nil
        go_simp
        (with_reducible refine calls_gen ?_)
        intro U9 hU
        have hM0 : HasDr U9 w.heap.size ⟨D.w, D.h, D.c, D.p, false, D.pl, D.vs⟩ a cap := by rw [hU]; exact hHeld.1
        have hM1 : HasIm U9 (w.heap.size + 1) ⟨⟨0, 0, 0, 0, false, 0⟩, ⟨#[]⟩⟩ := by rw [hU]; exact hHeld.2.1
        have hKB : Below w.heap.size w U9 := by rw [hU]; exact hHeld.2.2
        have hXL : Ints U9 (some ⟨U0.heap.size, 0, none⟩) [1, 2, 4, 8] := by rw [hU]; exact hXL
        have hXT : HasIm U9 U1.heap.size ⟨⟨0, 0, 0, 0, false, 0⟩, ⟨#[]⟩⟩ := by rw [hU]; exact hXT
        (with_reducible refine (HMK.out U9).mono ?_)
        rintro e N9 ⟨rfl, hb⟩
        replace hXL := hXL.below hb
        replace hXT := hXT.below hb
        refine hK.out _ _ ⟨hM0.below hb, hM1.below hb, hKB.trans (hb.mono hKB.size)⟩ (fun hHeld => ?_)
        clear hK
        refine wpAnyH_take (i := 21) (v := .tuple #[imgV (1 + D.w % 6) (1 + D.h % 6) n 8 D.pl (padOf D.p) O0, .int .i64 0]) rfl (by kernel_rfl) (by kernel_rfl) (by kernel_rfl) (fun _ _ _ h => h) (Or.inl ⟨by rfl, ?_⟩) hHeld ?_
        · rintro V ⟨⟨x0l, x00, x01, x02, x03, x04, x05, x06, x0z⟩, ⟨x1l, x10, x11, x12, x13, x14, x15, x16, x1z⟩, -⟩
          go_simp
        try simp only [Act.put, List.getElem_toArray, List.getElem_cons_succ, List.getElem_cons_zero, List.setIfInBounds_toArray, List.set_cons_zero, List.set_cons_succ]
        refine wpAnyH_take (i := 22) (v := imgV (1 + D.w % 6) (1 + D.h % 6) n 8 D.pl (padOf D.p) O0) rfl (by kernel_rfl) (by kernel_rfl) (by kernel_rfl) (fun _ _ _ h => h) (Or.inl ⟨by rfl, ?_⟩) hHeld ?_
        · rintro V ⟨⟨x0l, x00, x01, x02, x03, x04, x05, x06, x0z⟩, ⟨x1l, x10, x11, x12, x13, x14, x15, x16, x1z⟩, -⟩
          go_simp
        try simp only [Act.put, List.getElem_toArray, List.getElem_cons_succ, List.getElem_cons_zero, List.setIfInBounds_toArray, List.set_cons_zero, List.set_cons_succ]
        refine wpAnyH_take (i := 23) (v := .int .i64 0) rfl (by kernel_rfl) (by kernel_rfl) (by kernel_rfl) (fun _ _ _ h => h) (Or.inl ⟨by rfl, ?_⟩) hHeld ?_
        · rintro V ⟨⟨x0l, x00, x01, x02, x03, x04, x05, x06, x0z⟩, ⟨x1l, x10, x11, x12, x13, x14, x15, x16, x1z⟩, -⟩
          go_simp
        try simp only [Act.put, List.getElem_toArray, List.getElem_cons_succ, List.getElem_cons_zero, List.setIfInBounds_toArray, List.set_cons_zero, List.set_cons_succ]
        refine wpAnyH_ready (rs := [25]) (by kernel_rfl) (by simp) ?_
        refine AllReadyH.cons rfl (fun K hK => ?_) AllReadyH.nil
        obtain ⟨oXl, oX0, oX1, oX2, oX3, oX4, oX5, oX6, oXz⟩ := hXT
        try dsimp only at oX0 oX1 oX2 oX3 oX4 oX5 oX6
        go_simp
        refine hK.out _ _ ⟨(((((((hHeld.1.set_other hneT0 _).set_other hneT0 _).set_other hneT0 _).set_other hneT0 _).set_other hneT0 _).set_other hneT0 _).set_other hneT0 _), (((((((hHeld.2.1.set_other hneT1 _).set_other hneT1 _).set_other hneT1 _).set_other hneT1 _).set_other hneT1 _).set_other hneT1 _).set_other hneT1 _), (((((((hHeld.2.2.setCell hleT _).setCell hleT _).setCell hleT _).setCell hleT _).setCell hleT _).setCell hleT _).setCell hleT _)⟩ (fun hHeld => ?_)
        clear hK
        refine wpAnyH_gen ?_
        intro U10 hU
        have hXT : HasIm U10 U1.heap.size ⟨⟨1 + D.w % 6, 1 + D.h % 6, n, 8, D.pl, padOf D.p⟩, O0⟩ := ⟨by rw [hU]; go_simp, by rw [hU]; go_simp, by rw [hU]; go_simp, by rw [hU]; go_simp, by rw [hU]; go_simp, by rw [hU]; go_simp, by rw [hU]; go_simp, by rw [hU]; go_simp, fun o => by rw [hU]; go_simp⟩
        have hM0 : HasDr U10 w.heap.size ⟨D.w, D.h, D.c, D.p, false, D.pl, D.vs⟩ a cap := by rw [hU]; exact hHeld.1
        have hM1 : HasIm U10 (w.heap.size + 1) ⟨⟨0, 0, 0, 0, false, 0⟩, ⟨#[]⟩⟩ := by rw [hU]; exact hHeld.2.1
        have hKB : Below w.heap.size w U10 := by rw [hU]; exact hHeld.2.2
        replace hHeld : HasDr U10 w.heap.size ⟨D.w, D.h, D.c, D.p, false, D.pl, D.vs⟩ a cap ∧ HasIm U10 (w.heap.size + 1) ⟨⟨0, 0, 0, 0, false, 0⟩, ⟨#[]⟩⟩ ∧ Below w.heap.size w U10 := ⟨hM0, hM1, hKB⟩
        clear hU
        refine wpAnyH_take (i := 26) (v := .int .i64 0) rfl (by kernel_rfl) (by kernel_rfl) (by kernel_rfl) (fun _ _ _ h => h) (Or.inl ⟨by rfl, ?_⟩) hHeld ?_
        · rintro V ⟨⟨x0l, x00, x01, x02, x03, x04, x05, x06, x0z⟩, ⟨x1l, x10, x11, x12, x13, x14, x15, x16, x1z⟩, -⟩
          go_simp
        try simp only [Act.put, List.getElem_toArray, List.getElem_cons_succ, List.getElem_cons_zero, List.setIfInBounds_toArray, List.set_cons_zero, List.set_cons_succ]
        refine wpAnyH_done (by kernel_rfl) ?_ _
        try simp only [Act.put, List.getElem_toArray, List.getElem_cons_succ, List.getElem_cons_zero, List.setIfInBounds_toArray, List.set_cons_zero, List.set_cons_succ]
        go_wp2_with fail
        go_meet
        exact ⟨U1.heap.size, rfl, hgtT1, hXT, hHeld.1, hHeld.2.1, hHeld.2.2⟩
      refine AllReadyH.cons rfl (fun K hK => ?_) AllReadyH.nil
      go_simp
      have hgtT0 : w.heap.size < U1.heap.size := hHeld.1.lt
      have hneT0 : w.heap.size ≠ U1.heap.size := Nat.ne_of_lt hHeld.1.lt
      have hgtT1 : (w.heap.size + 1) < U1.heap.size := hHeld.2.1.lt
      have hneT1 : (w.heap.size + 1) ≠ U1.heap.size := Nat.ne_of_lt hHeld.2.1.lt
      have hleT : w.heap.size ≤ U1.heap.size := hHeld.2.2.size
      replace hXL := hXL.below ((Below.refl U1.heap.size U1).alloc (Nat.le_refl _) (.cells #[.int .i64 0, .int .i64 0, .int .i64 0, .int .i64 0, .bool false, .int .i64 0, .string ⟨#[]⟩] 31))
      refine hK.out _ _ ⟨hHeld.1.below ((Below.refl _ _).alloc (Nat.le_refl _) _), hHeld.2.1.below ((Below.refl _ _).alloc (Nat.le_refl _) _), hHeld.2.2.alloc hHeld.2.2.size _⟩ (fun hHeld => ?_)
      clear hK
      have hXT : HasIm (U1.alloc (.cells #[.int .i64 0, .int .i64 0, .int .i64 0, .int .i64 0, .bool false, .int .i64 0, .string ⟨#[]⟩] 31)) U1.heap.size ⟨⟨0, 0, 0, 0, false, 0⟩, ⟨#[]⟩⟩ := ⟨by go_simp, by go_simp, by go_simp, by go_simp, by go_simp, by go_simp, by go_simp, by go_simp, fun o => by go_simp⟩
      refine wpAnyH_gen ?_
      intro U11 hU
      have hM0 : HasDr U11 w.heap.size ⟨D.w, D.h, D.c, D.p, false, D.pl, D.vs⟩ a cap := by rw [hU]; exact hHeld.1
      have hM1 : HasIm U11 (w.heap.size + 1) ⟨⟨0, 0, 0, 0, false, 0⟩, ⟨#[]⟩⟩ := by rw [hU]; exact hHeld.2.1
      have hKB : Below w.heap.size w U11 := by rw [hU]; exact hHeld.2.2
      have hXL : Ints U11 (some ⟨U0.heap.size, 0, none⟩) [1, 2, 4, 8] := by rw [hU]; exact hXL
      have hXT : HasIm U11 U1.heap.size ⟨⟨0, 0, 0, 0, false, 0⟩, ⟨#[]⟩⟩ := by rw [hU]; exact hXT
      replace hHeld : HasDr U11 w.heap.size ⟨D.w, D.h, D.c, D.p, false, D.pl, D.vs⟩ a cap ∧ HasIm U11 (w.heap.size + 1) ⟨⟨0, 0, 0, 0, false, 0⟩, ⟨#[]⟩⟩ ∧ Below w.heap.size w U11 := ⟨hM0, hM1, hKB⟩
      clear hU
      refine wpAnyH_ready (rs := [18]) (by kernel_rfl) (by simp) ?_
      refine AllReadyH.cons rfl (fun K hK => ?_) AllReadyH.nil
      go_simp
      refine hK.out _ _ hHeld (fun hHeld => ?_)
      clear hK
      refine wpAnyH_ready (rs := [19]) (by kernel_rfl) (by simp) ?_
      refine AllReadyH.cons rfl (fun K hK => ?_) AllReadyH.nil
      obtain ⟨lb, lo, lx, le, lc, lX⟩ := hXL.at (k := (D.p % 4).toNat) (by simp; omega)
      cases le
      have lX' := lX.out
      have lpad := padOf_at D.p a5
      rw [lX', Option.getD_some] at lpad
      rw [lpad, Nat.zero_add] at lc
      clear lX lX' lpad
      go_simp
      refine hK.out _ _ hHeld (fun hHeld => ?_)
      clear hK
      refine wpAnyH_ready (rs := [20]) (by kernel_rfl) (by simp) ?_
      refine AllReadyH.cons rfl (fun K hK => ?_) AllReadyH.nil
      go_simp
      (with_reducible refine calls_gen ?_)
      intro U12 hU
      have hM0 : HasDr U12 w.heap.size ⟨D.w, D.h, D.c, D.p, false, D.pl, D.vs⟩ a cap := by rw [hU]; exact hHeld.1
      have hM1 : HasIm U12 (w.heap.size + 1) ⟨⟨0, 0, 0, 0, false, 0⟩, ⟨#[]⟩⟩ := by rw [hU]; exact hHeld.2.1
      have hKB : Below w.heap.size w U12 := by rw [hU]; exact hHeld.2.2
      have hXL : Ints U12 (some ⟨U0.heap.size, 0, none⟩) [1, 2, 4, 8] := by rw [hU]; exact hXL
      have hXT : HasIm U12 U1.heap.size ⟨⟨0, 0, 0, 0, false, 0⟩, ⟨#[]⟩⟩ := by rw [hU]; exact hXT
      (with_reducible refine (HMK.out U12).mono ?_)
      rintro e N12 ⟨rfl, hb⟩
      replace hXL := hXL.below hb
      replace hXT := hXT.below hb
      refine hK.out _ _ ⟨hM0.below hb, hM1.below hb, hKB.trans (hb.mono hKB.size)⟩ (fun hHeld => ?_)
      clear hK
      refine wpAnyH_take (i := 21) (v := .tuple #[imgV (1 + D.w % 6) (1 + D.h % 6) n 8 D.pl (padOf D.p) O0, .int .i64 0]) rfl (by kernel_rfl) (by kernel_rfl) (by kernel_rfl) (fun _ _ _ h => h) (Or.inl ⟨by rfl, ?_⟩) hHeld ?_
      · rintro V ⟨⟨x0l, x00, x01, x02, x03, x04, x05, x06, x0z⟩, ⟨x1l, x10, x11, x12, x13, x14, x15, x16, x1z⟩, -⟩
        go_simp
      try simp only [Act.put, List.getElem_toArray, List.getElem_cons_succ, List.getElem_cons_zero, List.setIfInBounds_toArray, List.set_cons_zero, List.set_cons_succ]
      refine wpAnyH_take (i := 22) (v := imgV (1 + D.w % 6) (1 + D.h % 6) n 8 D.pl (padOf D.p) O0) rfl (by kernel_rfl) (by kernel_rfl) (by kernel_rfl) (fun _ _ _ h => h) (Or.inl ⟨by rfl, ?_⟩) hHeld ?_
      · rintro V ⟨⟨x0l, x00, x01, x02, x03, x04, x05, x06, x0z⟩, ⟨x1l, x10, x11, x12, x13, x14, x15, x16, x1z⟩, -⟩
        go_simp
      try simp only [Act.put, List.getElem_toArray, List.getElem_cons_succ, List.getElem_cons_zero, List.setIfInBounds_toArray, List.set_cons_zero, List.set_cons_succ]
      refine wpAnyH_take (i := 23) (v := .int .i64 0) rfl (by kernel_rfl) (by kernel_rfl) (by kernel_rfl) (fun _ _ _ h => h) (Or.inl ⟨by rfl, ?_⟩) hHeld ?_
      · rintro V ⟨⟨x0l, x00, x01, x02, x03, x04, x05, x06, x0z⟩, ⟨x1l, x10, x11, x12, x13, x14, x15, x16, x1z⟩, -⟩
        go_simp
      try simp only [Act.put, List.getElem_toArray, List.getElem_cons_succ, List.getElem_cons_zero, List.setIfInBounds_toArray, List.set_cons_zero, List.set_cons_succ]
      refine wpAnyH_ready (rs := [25]) (by kernel_rfl) (by simp) ?_
      refine AllReadyH.cons rfl (fun K hK => ?_) AllReadyH.nil
      obtain ⟨oXl, oX0, oX1, oX2, oX3, oX4, oX5, oX6, oXz⟩ := hXT
      try dsimp only at oX0 oX1 oX2 oX3 oX4 oX5 oX6
      go_simp
      refine hK.out _ _ ⟨(((((((hHeld.1.set_other hneT0 _).set_other hneT0 _).set_other hneT0 _).set_other hneT0 _).set_other hneT0 _).set_other hneT0 _).set_other hneT0 _), (((((((hHeld.2.1.set_other hneT1 _).set_other hneT1 _).set_other hneT1 _).set_other hneT1 _).set_other hneT1 _).set_other hneT1 _).set_other hneT1 _), (((((((hHeld.2.2.setCell hleT _).setCell hleT _).setCell hleT _).setCell hleT _).setCell hleT _).setCell hleT _).setCell hleT _)⟩ (fun hHeld => ?_)
      clear hK
      refine wpAnyH_gen ?_
      intro U13 hU
      have hXT : HasIm U13 U1.heap.size ⟨⟨1 + D.w % 6, 1 + D.h % 6, n, 8, D.pl, padOf D.p⟩, O0⟩ := ⟨by rw [hU]; go_simp, by rw [hU]; go_simp, by rw [hU]; go_simp, by rw [hU]; go_simp, by rw [hU]; go_simp, by rw [hU]; go_simp, by rw [hU]; go_simp, by rw [hU]; go_simp, fun o => by rw [hU]; go_simp⟩
      have hM0 : HasDr U13 w.heap.size ⟨D.w, D.h, D.c, D.p, false, D.pl, D.vs⟩ a cap := by rw [hU]; exact hHeld.1
      have hM1 : HasIm U13 (w.heap.size + 1) ⟨⟨0, 0, 0, 0, false, 0⟩, ⟨#[]⟩⟩ := by rw [hU]; exact hHeld.2.1
      have hKB : Below w.heap.size w U13 := by rw [hU]; exact hHeld.2.2
      replace hHeld : HasDr U13 w.heap.size ⟨D.w, D.h, D.c, D.p, false, D.pl, D.vs⟩ a cap ∧ HasIm U13 (w.heap.size + 1) ⟨⟨0, 0, 0, 0, false, 0⟩, ⟨#[]⟩⟩ ∧ Below w.heap.size w U13 := ⟨hM0, hM1, hKB⟩
      clear hU
      refine wpAnyH_take (i := 26) (v := .int .i64 0) rfl (by kernel_rfl) (by kernel_rfl) (by kernel_rfl) (fun _ _ _ h => h) (Or.inl ⟨by rfl, ?_⟩) hHeld ?_
      · rintro V ⟨⟨x0l, x00, x01, x02, x03, x04, x05, x06, x0z⟩, ⟨x1l, x10, x11, x12, x13, x14, x15, x16, x1z⟩, -⟩
        go_simp
      try simp only [Act.put, List.getElem_toArray, List.getElem_cons_succ, List.getElem_cons_zero, List.setIfInBounds_toArray, List.set_cons_zero, List.set_cons_succ]
      refine wpAnyH_done (by kernel_rfl) ?_ _
      try simp only [Act.put, List.getElem_toArray, List.getElem_cons_succ, List.getElem_cons_zero, List.setIfInBounds_toArray, List.set_cons_zero, List.set_cons_succ]
      go_wp2_with fail
      go_meet
      exact ⟨U1.heap.size, rfl, hgtT1, hXT, hHeld.1, hHeld.2.1, hHeld.2.2⟩
    refine AllReadyH.cons rfl (fun K hK => ?_) AllReadyH.nil
    go_simp
    have hgtT0 : w.heap.size < U0.heap.size := hHeld.1.lt
    have hneT0 : w.heap.size ≠ U0.heap.size := Nat.ne_of_lt hHeld.1.lt
    have hgtT1 : (w.heap.size + 1) < U0.heap.size := hHeld.2.1.lt
    have hneT1 : (w.heap.size + 1) ≠ U0.heap.size := Nat.ne_of_lt hHeld.2.1.lt
    have hleT : w.heap.size ≤ U0.heap.size := hHeld.2.2.size
    refine hK.out _ _ ⟨hHeld.1.below ((Below.refl _ _).alloc (Nat.le_refl _) _), hHeld.2.1.below ((Below.refl _ _).alloc (Nat.le_refl _) _), hHeld.2.2.alloc hHeld.2.2.size _⟩ (fun hHeld => ?_)
    clear hK
    have hXT : HasIm (U0.alloc (.cells #[.int .i64 0, .int .i64 0, .int .i64 0, .int .i64 0, .bool false, .int .i64 0, .string ⟨#[]⟩] 31)) U0.heap.size ⟨⟨0, 0, 0, 0, false, 0⟩, ⟨#[]⟩⟩ := ⟨by go_simp, by go_simp, by go_simp, by go_simp, by go_simp, by go_simp, by go_simp, by go_simp, fun o => by go_simp⟩
    refine wpAnyH_gen ?_
    intro U14 hU
    have hM0 : HasDr U14 w.heap.size ⟨D.w, D.h, D.c, D.p, false, D.pl, D.vs⟩ a cap := by rw [hU]; exact hHeld.1
    have hM1 : HasIm U14 (w.heap.size + 1) ⟨⟨0, 0, 0, 0, false, 0⟩, ⟨#[]⟩⟩ := by rw [hU]; exact hHeld.2.1
    have hKB : Below w.heap.size w U14 := by rw [hU]; exact hHeld.2.2
    have hXT : HasIm U14 U0.heap.size ⟨⟨0, 0, 0, 0, false, 0⟩, ⟨#[]⟩⟩ := by rw [hU]; exact hXT
    replace hHeld : HasDr U14 w.heap.size ⟨D.w, D.h, D.c, D.p, false, D.pl, D.vs⟩ a cap ∧ HasIm U14 (w.heap.size + 1) ⟨⟨0, 0, 0, 0, false, 0⟩, ⟨#[]⟩⟩ ∧ Below w.heap.size w U14 := ⟨hM0, hM1, hKB⟩
    clear hU
    refine wpAnyH_ready (rs := [14]) (by kernel_rfl) (by simp) ?_
    refine AllReadyH.cons rfl (fun K hK => ?_) AllReadyH.nil
    go_simp
    replace hXT := hXT.below ((Below.refl U14.heap.size U14).alloc (Nat.le_refl _) (.cells #[.int .i64 1, .int .i64 2, .int .i64 4, .int .i64 8] 3))
    refine hK.out _ _ ⟨hHeld.1.below ((Below.refl _ _).alloc (Nat.le_refl _) _), hHeld.2.1.below ((Below.refl _ _).alloc (Nat.le_refl _) _), hHeld.2.2.alloc hHeld.2.2.size _⟩ (fun hHeld => ?_)
    clear hK
    have hXL : Ints (U14.alloc (.cells #[.int .i64 1, .int .i64 2, .int .i64 4, .int .i64 8] 3)) (some ⟨U14.heap.size, 0, none⟩) [1, 2, 4, 8] := fun _ => ⟨_, _, rfl, fun i hi => by
      have : i = 0 ∨ i = 1 ∨ i = 2 ∨ i = 3 := by simp at hi; omega
      rcases this with rfl | rfl | rfl | rfl <;> go_simp⟩
    refine wpAnyH_gen ?_
    intro U15 hU
    have hM0 : HasDr U15 w.heap.size ⟨D.w, D.h, D.c, D.p, false, D.pl, D.vs⟩ a cap := by rw [hU]; exact hHeld.1
    have hM1 : HasIm U15 (w.heap.size + 1) ⟨⟨0, 0, 0, 0, false, 0⟩, ⟨#[]⟩⟩ := by rw [hU]; exact hHeld.2.1
    have hKB : Below w.heap.size w U15 := by rw [hU]; exact hHeld.2.2
    have hXT : HasIm U15 U0.heap.size ⟨⟨0, 0, 0, 0, false, 0⟩, ⟨#[]⟩⟩ := by rw [hU]; exact hXT
    have hXL : Ints U15 (some ⟨U14.heap.size, 0, none⟩) [1, 2, 4, 8] := by rw [hU]; exact hXL
    replace hHeld : HasDr U15 w.heap.size ⟨D.w, D.h, D.c, D.p, false, D.pl, D.vs⟩ a cap ∧ HasIm U15 (w.heap.size + 1) ⟨⟨0, 0, 0, 0, false, 0⟩, ⟨#[]⟩⟩ ∧ Below w.heap.size w U15 := ⟨hM0, hM1, hKB⟩
    clear hU
    refine wpAnyH_ready (rs := [18]) (by kernel_rfl) (by simp) ?_
    refine AllReadyH.cons rfl (fun K hK => ?_) AllReadyH.nil
    go_simp
    refine hK.out _ _ hHeld (fun hHeld => ?_)
    clear hK
    refine wpAnyH_ready (rs := [19]) (by kernel_rfl) (by simp) ?_
    refine AllReadyH.cons rfl (fun K hK => ?_) AllReadyH.nil
    obtain ⟨lb, lo, lx, le, lc, lX⟩ := hXL.at (k := (D.p % 4).toNat) (by simp; omega)
    cases le
    have lX' := lX.out
    have lpad := padOf_at D.p a5
    rw [lX', Option.getD_some] at lpad
    rw [lpad, Nat.zero_add] at lc
    clear lX lX' lpad
    go_simp
    refine hK.out _ _ hHeld (fun hHeld => ?_)
    clear hK
    refine wpAnyH_ready (rs := [20]) (by kernel_rfl) (by simp) ?_
    refine AllReadyH.cons rfl (fun K hK => ?_) AllReadyH.nil
    go_simp
    (with_reducible refine calls_gen ?_)
    intro U16 hU
    have hM0 : HasDr U16 w.heap.size ⟨D.w, D.h, D.c, D.p, false, D.pl, D.vs⟩ a cap := by rw [hU]; exact hHeld.1
    have hM1 : HasIm U16 (w.heap.size + 1) ⟨⟨0, 0, 0, 0, false, 0⟩, ⟨#[]⟩⟩ := by rw [hU]; exact hHeld.2.1
    have hKB : Below w.heap.size w U16 := by rw [hU]; exact hHeld.2.2
    have hXT : HasIm U16 U0.heap.size ⟨⟨0, 0, 0, 0, false, 0⟩, ⟨#[]⟩⟩ := by rw [hU]; exact hXT
    have hXL : Ints U16 (some ⟨U14.heap.size, 0, none⟩) [1, 2, 4, 8] := by rw [hU]; exact hXL
    (with_reducible refine (HMK.out U16).mono ?_)
    rintro e N16 ⟨rfl, hb⟩
    replace hXT := hXT.below hb
    replace hXL := hXL.below hb
    refine hK.out _ _ ⟨hM0.below hb, hM1.below hb, hKB.trans (hb.mono hKB.size)⟩ (fun hHeld => ?_)
    clear hK
    refine wpAnyH_take (i := 21) (v := .tuple #[imgV (1 + D.w % 6) (1 + D.h % 6) n 8 D.pl (padOf D.p) O0, .int .i64 0]) rfl (by kernel_rfl) (by kernel_rfl) (by kernel_rfl) (fun _ _ _ h => h) (Or.inl ⟨by rfl, ?_⟩) hHeld ?_
    · rintro V ⟨⟨x0l, x00, x01, x02, x03, x04, x05, x06, x0z⟩, ⟨x1l, x10, x11, x12, x13, x14, x15, x16, x1z⟩, -⟩
      go_simp
    try simp only [Act.put, List.getElem_toArray, List.getElem_cons_succ, List.getElem_cons_zero, List.setIfInBounds_toArray, List.set_cons_zero, List.set_cons_succ]
    refine wpAnyH_take (i := 22) (v := imgV (1 + D.w % 6) (1 + D.h % 6) n 8 D.pl (padOf D.p) O0) rfl (by kernel_rfl) (by kernel_rfl) (by kernel_rfl) (fun _ _ _ h => h) (Or.inl ⟨by rfl, ?_⟩) hHeld ?_
    · rintro V ⟨⟨x0l, x00, x01, x02, x03, x04, x05, x06, x0z⟩, ⟨x1l, x10, x11, x12, x13, x14, x15, x16, x1z⟩, -⟩
      go_simp
    try simp only [Act.put, List.getElem_toArray, List.getElem_cons_succ, List.getElem_cons_zero, List.setIfInBounds_toArray, List.set_cons_zero, List.set_cons_succ]
    refine wpAnyH_take (i := 23) (v := .int .i64 0) rfl (by kernel_rfl) (by kernel_rfl) (by kernel_rfl) (fun _ _ _ h => h) (Or.inl ⟨by rfl, ?_⟩) hHeld ?_
    · rintro V ⟨⟨x0l, x00, x01, x02, x03, x04, x05, x06, x0z⟩, ⟨x1l, x10, x11, x12, x13, x14, x15, x16, x1z⟩, -⟩
      go_simp
    try simp only [Act.put, List.getElem_toArray, List.getElem_cons_succ, List.getElem_cons_zero, List.setIfInBounds_toArray, List.set_cons_zero, List.set_cons_succ]
    refine wpAnyH_ready (rs := [25]) (by kernel_rfl) (by simp) ?_
    refine AllReadyH.cons rfl (fun K hK => ?_) AllReadyH.nil
    obtain ⟨oXl, oX0, oX1, oX2, oX3, oX4, oX5, oX6, oXz⟩ := hXT
    try dsimp only at oX0 oX1 oX2 oX3 oX4 oX5 oX6
    go_simp
    refine hK.out _ _ ⟨(((((((hHeld.1.set_other hneT0 _).set_other hneT0 _).set_other hneT0 _).set_other hneT0 _).set_other hneT0 _).set_other hneT0 _).set_other hneT0 _), (((((((hHeld.2.1.set_other hneT1 _).set_other hneT1 _).set_other hneT1 _).set_other hneT1 _).set_other hneT1 _).set_other hneT1 _).set_other hneT1 _), (((((((hHeld.2.2.setCell hleT _).setCell hleT _).setCell hleT _).setCell hleT _).setCell hleT _).setCell hleT _).setCell hleT _)⟩ (fun hHeld => ?_)
    clear hK
    refine wpAnyH_gen ?_
    intro U17 hU
    have hXT : HasIm U17 U0.heap.size ⟨⟨1 + D.w % 6, 1 + D.h % 6, n, 8, D.pl, padOf D.p⟩, O0⟩ := ⟨by rw [hU]; go_simp, by rw [hU]; go_simp, by rw [hU]; go_simp, by rw [hU]; go_simp, by rw [hU]; go_simp, by rw [hU]; go_simp, by rw [hU]; go_simp, by rw [hU]; go_simp, fun o => by rw [hU]; go_simp⟩
    have hM0 : HasDr U17 w.heap.size ⟨D.w, D.h, D.c, D.p, false, D.pl, D.vs⟩ a cap := by rw [hU]; exact hHeld.1
    have hM1 : HasIm U17 (w.heap.size + 1) ⟨⟨0, 0, 0, 0, false, 0⟩, ⟨#[]⟩⟩ := by rw [hU]; exact hHeld.2.1
    have hKB : Below w.heap.size w U17 := by rw [hU]; exact hHeld.2.2
    replace hHeld : HasDr U17 w.heap.size ⟨D.w, D.h, D.c, D.p, false, D.pl, D.vs⟩ a cap ∧ HasIm U17 (w.heap.size + 1) ⟨⟨0, 0, 0, 0, false, 0⟩, ⟨#[]⟩⟩ ∧ Below w.heap.size w U17 := ⟨hM0, hM1, hKB⟩
    clear hU
    refine wpAnyH_take (i := 26) (v := .int .i64 0) rfl (by kernel_rfl) (by kernel_rfl) (by kernel_rfl) (fun _ _ _ h => h) (Or.inl ⟨by rfl, ?_⟩) hHeld ?_
    · rintro V ⟨⟨x0l, x00, x01, x02, x03, x04, x05, x06, x0z⟩, ⟨x1l, x10, x11, x12, x13, x14, x15, x16, x1z⟩, -⟩
      go_simp
    try simp only [Act.put, List.getElem_toArray, List.getElem_cons_succ, List.getElem_cons_zero, List.setIfInBounds_toArray, List.set_cons_zero, List.set_cons_succ]
    refine wpAnyH_done (by kernel_rfl) ?_ _
    try simp only [Act.put, List.getElem_toArray, List.getElem_cons_succ, List.getElem_cons_zero, List.setIfInBounds_toArray, List.set_cons_zero, List.set_cons_succ]
    go_wp2_with fail
    go_meet
    exact ⟨U0.heap.size, rfl, hgtT1, hXT, hHeld.1, hHeld.2.1, hHeld.2.2⟩

  case rest =>
    obtain ⟨b7, rfl, hb7, hI7, hdr7, hz7, hB7⟩ := hcut
    clear hdr hz hB hsz
    obtain ⟨Wn, hWn⟩ : ∃ Wn : Nat, 1 + D.w % 6 = (Wn : Int) := Int.eq_ofNat_of_zero_le (by omega)
    obtain ⟨Hn, hHn⟩ : ∃ Hn : Nat, 1 + D.h % 6 = (Hn : Int) := Int.eq_ofNat_of_zero_le (by omega)
    obtain ⟨Cn, hCn⟩ : ∃ Cn : Nat, n = (Cn : Int) := Int.eq_ofNat_of_zero_le (by omega)
    have w6 : Wn ≤ 6 := by omega
    have h6 : Hn ≤ 6 := by omega
    have c4 : Cn ≤ 4 := by omega
    have hput : ∀ V ao cv (X Y k : Nat), k = Y * Wn + X → X < Wn → Y < Hn → Ints V ao ((List.range Cn).map fun j => D.fn n (X : Nat) (Y : Nat) (j : Nat)) →
        Calls Try.prog 52 #[imgV (1 + D.w % 6) (1 + D.h % 6) n 8 D.pl (padOf D.p) (drO D n k), .int .i64 X, .int .i64 Y, .slice ao Cn cv] V fun e w' =>
          e = .returned (imgV (1 + D.w % 6) (1 + D.h % 6) n 8 D.pl (padOf D.p) (drO D n (k + 1))) ∧ Below V.heap.size V w' := fun V ao cv X Y k hk hX hY hi => by
      have h := drput D HD.out n n1 n4 V ao cv X Y k Wn Cn hWn hCn hk hX (by show (Y : Int) < 1 + D.h % 6; omega) hi
      have eB : (D.lay n).B = 8 := by show D.B = 8; unfold Dr.B; rw [HDEEP.out]; rfl
      unfold Im.v Lay.img at h
      dsimp only at h
      rw [eB] at h
      exact h
    have hG0 : O0 = drO D n 0 := by rw [HO0.out]; exact drO_zero D HD.out n n1 n4
    have HPUT := Lib.hid hput
    have HW := Lib.hid hWn
    have HH := Lib.hid hHn
    have HC := Lib.hid hCn
    rw [hG0] at hI7
    have HI7 := Lib.hid hI7
    have HDR7 := Lib.hid hdr7
    have HZ7 := Lib.hid hz7
    have HB7 := Lib.hid hB7
    have hmost : ∀ i : Nat, D.vs ≠ [] → D.val i = D.vs[i % D.vs.length]?.getD 0 % 256 := fun i h => by unfold Dr.val Dr.most; rw [if_neg h, HDEEP.out]; rfl
    have hmost0 : ∀ i : Nat, D.vs = [] → D.val i = 0 := fun i h => by unfold Dr.val; rw [if_pos h]
    have HM := Lib.hid hmost
    have HM0 := Lib.hid hmost0
    obtain ⟨i0, hi, hz0, hz1, hz2⟩ := info_of_int
    clear hput hWn hHn hCn hG0 hI7 hdr7 hz7 hB7 hmost hmost0
    go_wp2_with fail
    go_loopw [9, 10, 11, 12, 13, 14] (fun s9 s10 _ _ _ _ wr => ∃ Y N9 : Nat, Y ≤ Hn ∧ Hid (N9 = Y * Wn * Cn) ∧ s9 = .int .i64 N9 ∧ s10 = .int .i64 Y ∧ HasIm wr b7 ⟨⟨1 + D.w % 6, 1 + D.h % 6, n, 8, D.pl, padOf D.p⟩, drO D n (Y * Wn)⟩ ∧
        HasDr wr w.heap.size ⟨D.w, D.h, D.c, D.p, false, D.pl, D.vs⟩ a cap ∧ HasIm wr (w.heap.size + 1) ⟨⟨0, 0, 0, 0, false, 0⟩, ⟨#[]⟩⟩ ∧ Below w.heap.size w wr) (fun _ s10 _ _ _ _ _ => Hn - (intOf s10).toNat)
    case atStart => exact ⟨0, 0, Nat.zero_le _, Lib.hid (by simp), rfl, rfl, by rw [Nat.zero_mul]; exact HI7.out, HDR7.out, HZ7.out, HB7.out⟩
    case round =>
      obtain ⟨Y, N9, hY, hN9, rfl, rfl, hI, hdr, hz, hB⟩ := hrel
      obtain ⟨il, i0', i1, i2, i3, i4, i5, i6, iz⟩ := hI
      dsimp only at i0' i1 i2 i3 i4 i5 i6
      have HI := Lib.hid (⟨il, i0', i1, i2, i3, i4, i5, i6, iz⟩ : HasIm wr b7 ⟨⟨1 + D.w % 6, 1 + D.h % 6, n, 8, D.pl, padOf D.p⟩, drO D n (Y * Wn)⟩)
      have HDR := Lib.hid hdr
      have HZ := Lib.hid hz
      have HB := Lib.hid hB
      clear hdr hz hB
      by_cases hYl : Y < Hn
      · have hYt : (Y : Int) < 1 + D.h % 6 := by have := HH.out; omega
        go_wp2_with fail
        go_loopw [9, 11, 12, 13, 14] (fun s9 s11 _ _ _ wr => ∃ X N9 : Nat, X ≤ Wn ∧ Hid (N9 = (Y * Wn + X) * Cn) ∧ s9 = .int .i64 N9 ∧ s11 = .int .i64 X ∧ HasIm wr b7 ⟨⟨1 + D.w % 6, 1 + D.h % 6, n, 8, D.pl, padOf D.p⟩, drO D n (Y * Wn + X)⟩ ∧
            HasDr wr w.heap.size ⟨D.w, D.h, D.c, D.p, false, D.pl, D.vs⟩ a cap ∧ HasIm wr (w.heap.size + 1) ⟨⟨0, 0, 0, 0, false, 0⟩, ⟨#[]⟩⟩ ∧ Below w.heap.size w wr) (fun _ s11 _ _ _ _ => Wn - (intOf s11).toNat)
        case atStart => exact ⟨0, N9, Nat.zero_le _, Lib.hid (by rw [Nat.add_zero]; exact hN9.out), rfl, rfl, HI.out, HDR.out, HZ.out, HB.out⟩
        case round =>
          obtain ⟨X, M9, hX, hM9, rfl, rfl, hI, hdr, hz, hB⟩ := hrel
          obtain ⟨jl, j0, j1, j2, j3, j4, j5, j6, jz⟩ := hI
          dsimp only at j0 j1 j2 j3 j4 j5 j6
          have HI2 := Lib.hid (⟨jl, j0, j1, j2, j3, j4, j5, j6, jz⟩ : HasIm wr b7 ⟨⟨1 + D.w % 6, 1 + D.h % 6, n, 8, D.pl, padOf D.p⟩, drO D n (Y * Wn + X)⟩)
          have HDR2 := Lib.hid hdr
          have HZ2 := Lib.hid hz
          have HB2 := Lib.hid hB
          clear hdr hz hB
          by_cases hXl : X < Wn
          · have hXt : (X : Int) < 1 + D.w % 6 := by have := HW.out; omega
            obtain ⟨base, hbase⟩ : ∃ base, base = wr.heap.size := ⟨_, rfl⟩
            have hb7b : b7 < base := by rw [hbase]; exact jl
            have hbz : base ≤ wr.heap.size := by omega
            clear hbase
            go_wp2_with fail
            go_loopw [9, 12, 13, 14] (fun s9 s12 s13 _ wr => ∃ (k N : Nat) (ao : Option Addr) (cv : Nat), k ≤ Cn ∧ Hid (N = (Y * Wn + X) * Cn + k) ∧ s9 = .int .i64 N ∧ s13 = .int .i64 k ∧ s12 = .slice ao k cv ∧
                Owns wr base s12 ((List.range k).map fun j => D.fn n (X : Nat) (Y : Nat) (j : Nat)) ∧ HasIm wr b7 ⟨⟨1 + D.w % 6, 1 + D.h % 6, n, 8, D.pl, padOf D.p⟩, drO D n (Y * Wn + X)⟩ ∧
                HasDr wr w.heap.size ⟨D.w, D.h, D.c, D.p, false, D.pl, D.vs⟩ a cap ∧ HasIm wr (w.heap.size + 1) ⟨⟨0, 0, 0, 0, false, 0⟩, ⟨#[]⟩⟩ ∧ Below w.heap.size w wr ∧ base ≤ wr.heap.size) (fun _ _ s13 _ _ => Cn - (intOf s13).toNat)
            case atStart => exact ⟨0, M9, none, 0, Nat.zero_le _, Lib.hid (by rw [Nat.add_zero]; exact hM9.out), rfl, rfl, rfl, Owns.nil _ _, HI2.out, HDR2.out, HZ2.out, HB2.out, hbz⟩
            case round =>
              obtain ⟨k, N, ao, cv, hk, hN, rfl, rfl, rfl, hown, hI, hdr, hz, hB, hbs⟩ := hrel
              have HI3 := Lib.hid hI
              obtain ⟨dl, d0, d1, d2, d3, d4, d5, d6, dz⟩ := hdr
              dsimp only at d0 d1 d2 d3 d4 d5 d6
              have HDR3 := Lib.hid (⟨dl, d0, d1, d2, d3, d4, d5, d6, dz⟩ : HasDr wr w.heap.size ⟨D.w, D.h, D.c, D.p, false, D.pl, D.vs⟩ a cap)
              have HZ3 := Lib.hid hz
              have HB3 := Lib.hid hB
              have HOWN := Lib.hid hown
              have hown3 := hown
              unfold Owns at hown3
              rw [List.length_map, List.length_range] at hown3
              have hlow : ∀ q, Value.ownBlock (.slice ao k cv) = some q → base ≤ q := fun q hq => (hown3.lt q hq).1
              have HLOW := Lib.hid hlow
              clear hz hB hown hlow hI
              by_cases hkl : k < Cn
              · have hkt : (k : Int) < n := by have := HC.out; omega
                have hfn : D.fn n (X : Nat) (Y : Nat) (k : Nat) = D.val N := by
                  unfold Dr.fn
                  rw [HW.out, HC.out, hN.out]
                  congr 1
                have HFN := Lib.hid hfn
                have hNb : (N : Int) ≤ 1000 := by
                  have e1 : Y * Wn ≤ 6 * 6 := Nat.mul_le_mul (by omega) w6
                  have e2 : (Y * Wn + X) * Cn ≤ 42 * 4 := Nat.mul_le_mul (by omega) c4
                  have := hN.out
                  omega
                clear hfn
                by_cases hvs : D.vs = []
                · have hl0 : ¬ (0 : Int) < (D.vs.length : Int) := by rw [hvs]; simp
                  have hl1 : (D.vs.length : Int) ≤ 0 := by rw [hvs]; simp
                  have HVZ := Lib.hid (HM0.out N hvs)
                  clear hvs
                  go_wp2_with (first | (at_builtin; refine wpList_append_own _ rfl _ _ 44 rfl base 3 i0 (.int .i64 0) 1 8 Try.underlying44 hi hz0 hz1 hz2 rfl (by decide) _ _ _ rfl (hown3.alloc _) ⟨wr.heap.size, 0, none⟩ 1 1 [.int .i64 (0)] rfl rfl (cell_one_new _ _ _) (fun x hx => by simp at hx; subst hx; rfl) (by unfold maxLen; omega) (by omega) (by simp; omega) ?_; intro v' w4 hown' hgrow3 hnil3))
                  go_roundw
                  case rel =>
                    have hO : Owns w4 base v' ((List.range (k + 1)).map fun j => D.fn n (X : Nat) (Y : Nat) (j : Nat)) := by
                      rw [List.range_succ, List.map_append]
                      exact Owns.push (x := D.fn n (X : Nat) (Y : Nat) (k : Nat)) (by rw [List.length_map, List.length_range, show D.fn n (X : Nat) (Y : Nat) (k : Nat) = 0 from HFN.out.trans HVZ.out]; exact hown')
                    have hO' := hO
                    obtain ⟨a4, c4, hv4, _, _, _⟩ := hO.slice
                    rw [List.length_map, List.length_range] at hv4
                    have hsz3 := HB3.out.size
                    have hgs := hgrow3.size
                    rw [World.size_alloc] at hgs
                    refine ⟨k + 1, N + 1, a4, c4, by omega, Lib.hid (by have := hN.out; omega), by go_num, by go_num, hv4, hO', ?_, ?_, ?_, ?_, by omega⟩
                    · exact (HI3.out.below ((Below.refl _ _).alloc (Nat.le_refl _) _)).grownBy hgrow3 (fun e => by have := HLOW.out _ e; omega)
                    · exact (HDR3.out.below ((Below.refl _ _).alloc (Nat.le_refl _) _)).grownBy hgrow3 (fun e => by have := HLOW.out _ e; omega)
                    · exact (HZ3.out.below ((Below.refl _ _).alloc (Nat.le_refl _) _)).grownBy hgrow3 (fun e => by have := HLOW.out _ e; omega)
                    · exact (HB3.out.alloc (by omega) _).grown hgrow3 (by simp; omega) (fun q hq => by have := HLOW.out q hq; omega)
                  case measure => simp [intOf]; omega
                · have hl0 : (0 : Int) < (D.vs.length : Int) := by have := List.length_pos_iff.2 hvs; omega
                  have hl0n : 0 < D.vs.length := by omega
                  have hVZ := HM.out N hvs
                  obtain ⟨ub, uo, u, rfl, huc, hU⟩ := (HVS.out.below HB3.out).at (k := N % D.vs.length) (Nat.mod_lt _ hl0n)
                  rw [hU.out, Option.getD_some] at hVZ
                  obtain ⟨u0, u1⟩ := HD.out.vs u (List.mem_of_getElem? hU.out)
                  
                  have HVZ := Lib.hid hVZ
                  have hidx : ((N : Int) % (D.vs.length : Int)).toNat = N % D.vs.length := by rw [← Int.natCast_emod, Int.toNat_natCast]
                  have hix0 : 0 ≤ (N : Int) % (D.vs.length : Int) := Int.emod_nonneg _ (by omega)
                  have hix1 : (N : Int) % (D.vs.length : Int) < (D.vs.length : Int) := Int.emod_lt_of_pos _ hl0
                  clear hvs hVZ hidx
                  go_wp2_with fail
                  go_region
                  have hown4 : wr.drew.ownsRow base 3 1 (.slice ao k cv) k (((List.range k).map fun j => D.fn n (X : Nat) (Y : Nat) (j : Nat)).map (.int .i64)) := hown3
                  have hdrw : Below wr.heap.size wr wr.drew := (Below.refl _ _).drew
                  have hds : wr.drew.heap.size = wr.heap.size := rfl
                  generalize wr.drew = wd at hown4 hdrw hds ⊢
                  have hbs4 : base ≤ wd.heap.size := by omega
                  clear hds
                  go_wp2_with (first | (at_builtin; refine wpList_append_own _ rfl _ _ 44 rfl base 3 i0 (.int .i64 0) 1 8 Try.underlying44 hi hz0 hz1 hz2 rfl (by decide) _ _ _ rfl (hown4.alloc _) ⟨wd.heap.size, 0, none⟩ 1 1 [.int .i64 (u % 256)] rfl rfl (cell_one_new _ _ _) (fun x hx => by simp at hx; subst hx; rfl) (by unfold maxLen; omega) (by omega) (by simp; omega) ?_; intro v' w4 hown' hgrow3 hnil3))
                  go_roundw
                  case rel =>
                    have hO : Owns w4 base v' ((List.range (k + 1)).map fun j => D.fn n (X : Nat) (Y : Nat) (j : Nat)) := by
                      rw [List.range_succ, List.map_append]
                      exact Owns.push (x := D.fn n (X : Nat) (Y : Nat) (k : Nat)) (by rw [List.length_map, List.length_range, show D.fn n (X : Nat) (Y : Nat) (k : Nat) = u % 256 from HFN.out.trans HVZ.out]; exact hown')
                    have hO' := hO
                    obtain ⟨a4, c4, hv4, _, _, _⟩ := hO.slice
                    rw [List.length_map, List.length_range] at hv4
                    have hsz3 := HB3.out.size
                    have hgs := hgrow3.size
                    have hd4 := hdrw.size
                    rw [World.size_alloc] at hgs
                    refine ⟨k + 1, N + 1, a4, c4, by omega, Lib.hid (by have := hN.out; omega), by go_num, by go_num, hv4, hO', ?_, ?_, ?_, ?_, by omega⟩
                    · exact ((HI3.out.below hdrw).below ((Below.refl _ _).alloc (Nat.le_refl _) _)).grownBy hgrow3 (fun e => by have := HLOW.out _ e; omega)
                    · exact ((HDR3.out.below hdrw).below ((Below.refl _ _).alloc (Nat.le_refl _) _)).grownBy hgrow3 (fun e => by have := HLOW.out _ e; omega)
                    · exact ((HZ3.out.below hdrw).below ((Below.refl _ _).alloc (Nat.le_refl _) _)).grownBy hgrow3 (fun e => by have := HLOW.out _ e; omega)
                    · exact ((HB3.out.trans (hdrw.mono HB3.out.size)).alloc (by omega) _).grown hgrow3 (by simp; omega) (fun q hq => by have := HLOW.out q hq; omega)
                  case measure => simp [intOf]; omega
              · have hkk : k = Cn := by omega
                subst hkk
                have hkt' : n ≤ (k : Int) := by have := HC.out; omega
                obtain ⟨al, cl, hsl, hints, _, _⟩ := HOWN.out.slice
                rw [List.length_map, List.length_range] at hsl
                cases hsl
                obtain ⟨jl, j0, j1, j2, j3, j4, j5, j6, jz⟩ := HI3.out
                dsimp only at j0 j1 j2 j3 j4 j5 j6
                have hbb : w.heap.size ≠ b7 := by omega
                have hbb' : w.heap.size + 1 ≠ b7 := by omega
                go_wp2_with fail
                (with_reducible refine (HPUT.out _ _ _ X Y _ rfl hXl hYl hints).mono ?_)
                rintro e w5 ⟨rfl, hb5⟩
                have hI5 := HI3.out.below hb5
                have HDR5 := Lib.hid (HDR3.out.below hb5)
                have HZ5 := Lib.hid (HZ3.out.below hb5)
                have HB5 := Lib.hid (HB3.out.trans (hb5.mono HB3.out.size))
                clear jl j0 j1 j2 j3 j4 j5 j6 jz hb5
                obtain ⟨jl, j0, j1, j2, j3, j4, j5, j6, jz⟩ := hI5
                dsimp only at j0 j1 j2 j3 j4 j5 j6
                go_wp2_with fail
                go_roundw
                case rel =>
                  refine ⟨X + 1, N, by omega, Lib.hid (by rw [← Nat.add_assoc, Nat.succ_mul]; exact hN.out), rfl, by go_num, ?_, (((((((HDR5.out).set_other (by show _ ≠ b7; omega) _).set_other (by show _ ≠ b7; omega) _).set_other (by show _ ≠ b7; omega) _).set_other (by show _ ≠ b7; omega) _).set_other (by show _ ≠ b7; omega) _).set_other (by show _ ≠ b7; omega) _).set_other (by show _ ≠ b7; omega) _, (((((((HZ5.out).set_other (by show _ ≠ b7; omega) _).set_other (by show _ ≠ b7; omega) _).set_other (by show _ ≠ b7; omega) _).set_other (by show _ ≠ b7; omega) _).set_other (by show _ ≠ b7; omega) _).set_other (by show _ ≠ b7; omega) _).set_other (by show _ ≠ b7; omega) _, (((((((HB5.out).setCell (by show _ ≤ b7; omega) _).setCell (by show _ ≤ b7; omega) _).setCell (by show _ ≤ b7; omega) _).setCell (by show _ ≤ b7; omega) _).setCell (by show _ ≤ b7; omega) _).setCell (by show _ ≤ b7; omega) _).setCell (by show _ ≤ b7; omega) _⟩
                  show HasIm _ b7 ⟨_, drO D n (Y * Wn + X + 1)⟩
                  exact ⟨by go_simp, by go_simp, by go_simp, by go_simp, by go_simp, by go_simp, by go_simp, by go_simp, fun o => by go_simp⟩
                case measure => simp [intOf]; omega
          · have hXe : X = Wn := by omega
            subst hXe
            have hXt : 1 + D.w % 6 ≤ (X : Int) := by have := HW.out; omega
            go_wp2_with fail
            go_roundw
            case rel => exact ⟨Y + 1, M9, by omega, Lib.hid (by rw [Nat.succ_mul]; exact hM9.out), rfl, by go_num, by rw [Nat.succ_mul]; exact HI2.out, HDR2.out, HZ2.out, HB2.out⟩
            case measure => simp [intOf]; omega
      · have hYe : Y = Hn := by omega
        subst hYe
        have hYt : 1 + D.h % 6 ≤ (Y : Int) := by have := HH.out; omega
        obtain ⟨zl, z0, z1, z2, z3, z4, z5, z6, zz⟩ := HZ.out
        dsimp only at z0 z1 z2 z3 z4 z5 z6
        go_wp2_with fail
        refine bodyPost_ret (v := imgV (1 + D.w % 6) (1 + D.h % 6) n 8 D.pl (padOf D.p) (drO D n (Y * Wn))) ?_ rfl ?_
        · simp [results, Try.results30, go_sem, z0, z1, z2, z3, z4, z5, z6]
        · refine ⟨?_, ?_⟩
          · rw [dr_full D HD.out n n1 n4 Wn Y HW.out HH.out]
            have eB : D.B = 8 := by unfold Dr.B; rw [HDEEP.out]; rfl
            show _ = Ending.returned (imgV (1 + D.w % 6) (1 + D.h % 6) n D.B D.pl (padOf D.p) (D.some n).O)
            rw [eB]
          · have hB := HB.out
            ((repeat (first | (with_reducible exact Below.refl _ _) | (with_reducible refine Below.setCell ?_ ?_ _) | (with_reducible refine Below.alloc ?_ ?_ _) | (with_reducible refine Below.drew ?_) | (with_reducible refine Below.trans ?_ (Below.mono (by assumption) ?_)))); all_goals ((try simp only [World.size_alloc, World.size_drew, World.size_setCell]); omega))

end Go.Proofs.Ytphfbjeaklpddaa
