/-
  Layer 42: copied.
-/
import Derived.Test.YtphfbjeaklpddaaJg
namespace Go.Proofs.Ytphfbjeaklpddaa
open Go.RowKit

/-- i columns and k samples of the next one have been copied -/
def cpyF (s h : Int → Int → Int → Int) (x y dx dy high : Int) (i k : Int) : Int → Int → Int → Int :=
  fun a b c => if (dx ≤ a ∧ a < dx + i ∧ dy ≤ b ∧ b < dy + high) ∨ (a = dx + i ∧ dy ≤ b ∧ b < dy + k) then s (x + (a - dx)) (y + (b - dy)) c else h a b c

theorem cpyF_zero (s h : Int → Int → Int → Int) (x y dx dy high : Int) : cpyF s h x y dx dy high 0 0 = h := by
  funext a b c
  unfold cpyF
  rw [if_neg (by omega)]

theorem cpyF_col (s h : Int → Int → Int → Int) (x y dx dy high i : Int) (hi : 0 ≤ i) : cpyF s h x y dx dy high i high = cpyF s h x y dx dy high (i + 1) 0 := by
  funext a b c
  unfold cpyF
  by_cases e : (dx ≤ a ∧ a < dx + i ∧ dy ≤ b ∧ b < dy + high) ∨ (a = dx + i ∧ dy ≤ b ∧ b < dy + high)
  · rw [if_pos e, if_pos (by omega)]
  · rw [if_neg e, if_neg (by omega)]

theorem cpyF_put (s h : Int → Int → Int → Int) (x y dx dy high : Int) (i k : Nat) (hk : (k : Int) < high) (n : Nat) (a b c : Int) (c0 : 0 ≤ c) (cn : c < n) :
    putF (cpyF s h x y dx dy high i k) (dx + i) (dy + k) ((List.range n).map fun j => s (x + i) (y + k) (j : Nat)) ((List.range n).map fun j => s (x + i) (y + k) (j : Nat)).length a b c = cpyF s h x y dx dy high i (k + 1) a b c := by
  unfold putF
  by_cases e : a = dx + i ∧ b = dy + k
  · obtain ⟨rfl, rfl⟩ := e
    have hl : c.toNat < n := by omega
    rw [if_pos ⟨rfl, rfl, c0, by simpa using cn⟩]
    unfold cpyF
    rw [if_pos (by omega)]
    simp [hl, Int.toNat_of_nonneg c0]
    congr 1 <;> omega
  · rw [if_neg (by omega)]
    unfold cpyF
    by_cases e2 : (dx ≤ a ∧ a < dx + i ∧ dy ≤ b ∧ b < dy + high) ∨ (a = dx + i ∧ dy ≤ b ∧ b < dy + k)
    · rw [if_pos e2, if_pos (by omega)]
    · rw [if_neg e2, if_neg (by omega)]

/-- what copied does -/
def CopyPost (L M : Lay) (base c c2 : Nat) (g : Int → Int) (h : Int → Int → Int → Int) (x y dx dy wide high : Int) (w : World) : Ending → World → Prop := fun e w' =>
  e = .returned (.tuple #[]) ∧ View w' base c c2 M (M.octF (cpyF (L.smp g) h x y dx dy high wide 0)) ∧ Upd c2 w w'

set_option maxRecDepth 100000 in
set_option maxHeartbeats 2000000 in
theorem copied_any (L M : Lay) (hL : L.ok) (hM : M.ok) (hC : L.C = M.C) (base0 base b b2 c c2 : Nat) (g : Int → Int) (hg : ∀ p, 0 ≤ g p ∧ g p < 256) (h : Int → Int → Int → Int) (x y dx dy wide high : Int) (w : World)
    (hv : View w base0 b b2 L g) (ht : View w base c c2 M (M.octF h)) (n1 : b ≠ c2) (n2 : b2 ≠ c2)
    (x0 : 0 ≤ x) (x1 : x + wide ≤ L.W) (y0 : 0 ≤ y) (y1 : y + high ≤ L.H) (d0 : 0 ≤ dx) (d1 : dx + wide ≤ M.W) (e0 : 0 ≤ dy) (e1 : dy + high ≤ M.H) (w0 : 1 ≤ wide) (h0 : 1 ≤ high) :
    Calls Try.prog 61 #[.pointer (some ⟨b, 0, none⟩), .pointer (some ⟨c, 0, none⟩), .int .i64 x, .int .i64 y, .int .i64 dx, .int .i64 dy, .int .i64 wide, .int .i64 high] w (CopyPost L M base c c2 g h x y dx dy wide high w) := by
  have q1 := hL.w2
  have q2 := hL.h2
  have q3 := hM.w2
  have q4 := hM.h2
  have q5 := hM.c1
  have HV := Lib.hid hv
  have HT := Lib.hid ht
  have HC := Lib.hid hC
  clear hv ht hC
  go_enter Try.func61, Try.ntmps61
  go_wp2
  go_loopw [17, 19] (fun _ i wr => ∃ k : Nat, (k : Int) ≤ wide ∧ i = .int .i64 k ∧ View wr base c c2 M (M.octF (cpyF (L.smp g) h x y dx dy high k 0)) ∧ Upd c2 w wr) (fun _ i _ => (wide - intOf i).toNat)
  case atStart => exact ⟨0, by omega, rfl, by have := cpyF_zero (L.smp g) h x y dx dy high; rw [show ((0 : Nat) : Int) = 0 from rfl, this]; exact HT.out, Upd.refl _ _⟩
  case round =>
    obtain ⟨i, hi, rfl, hvr, hU⟩ := hrel
    have HVR := Lib.hid hvr
    have HU := Lib.hid hU
    clear hvr hU
    by_cases hlt : (i : Int) < wide
    · obtain ⟨wo, hwo⟩ : ∃ wo : World, wo = wr := ⟨_, rfl⟩
      go_wp2
      go_loopw [23] (fun j wq => ∃ k : Nat, (k : Int) ≤ high ∧ j = .int .i64 k ∧ View wq base c c2 M (M.octF (cpyF (L.smp g) h x y dx dy high i k)) ∧ Upd c2 w wq) (fun j _ => (high - intOf j).toNat)
      case atStart => exact ⟨0, by omega, rfl, HVR.out, HU.out⟩
      case round =>
        obtain ⟨k, hk, rfl, hvq, hUq⟩ := hrel
        have HVQ := Lib.hid hvq
        have HUQ := Lib.hid hUq
        clear hvq hUq
        by_cases hlk : (k : Int) < high
        · have hsrc : View wr base0 b b2 L g := HV.out.upd hL HUQ.out n1 n2
          have HP := Lib.hid (pixel_any L hL base0 b b2 g hg (x + i) (y + k) wr hsrc (by omega) (by omega) (by omega) (by omega))
          clear hsrc
          go_wp2_with fail
          (with_reducible refine HP.out.mono ?_)
          rintro e w1 ⟨b3, cap, rfl, hi3, hz3, hl3, hb3⟩
          have hlen : ((List.range L.C.toNat).map fun j => L.smp g (x + i) (y + k) (j : Nat)).length = L.C.toNat := by simp
          have hcc := HC.out
          have hput := put_any M hM base c c2 _ (dx + i) (dy + k) ((List.range L.C.toNat).map fun j => L.smp g (x + i) (y + k) (j : Nat)) (some ⟨b3, 0, none⟩) cap w1 (HVQ.out.below hM hb3) (by omega) (by omega) (by omega) (by omega) hi3 (by rw [hlen]; omega) (fun c' off e => by cases e; have := (HVQ.out.lt2 hM); omega)
          rw [hlen] at hput
          have hcg : ∀ W, View W base c c2 M (M.octF (putF (cpyF (L.smp g) h x y dx dy high i k) (dx + i) (dy + k) ((List.range L.C.toNat).map fun j => L.smp g (x + i) (y + k) (j : Nat)) ((List.range L.C.toNat).map fun j => L.smp g (x + i) (y + k) (j : Nat)).length)) → View W base c c2 M (M.octF (cpyF (L.smp g) h x y dx dy high i ((k + 1 : Nat) : Int))) := fun W hW =>
            hW.congr fun p p0 p1 => M.octF_congr hM (fun a' b' c' hd => by
              have := cpyF_put (L.smp g) h x y dx dy high i k hlk L.C.toNat a' b' c' hd.2.2.1 (by have := hd.2.2.2; omega)
              rw [this]; congr 1) p0 p1
          have HPUT := Lib.hid hput
          have HCG := Lib.hid hcg
          have HB3 := Lib.hid hb3
          clear hput hcg hi3 hb3 hcc hlen
          go_wp2_with fail
          (with_reducible refine HPUT.out.mono ?_)
          rintro e w2 ⟨rfl, hv2, hu2⟩
          have HV2 := Lib.hid hv2
          have HU2 := Lib.hid hu2
          clear hv2 hu2
          go_wp2_with fail
          go_roundw
          case rel => exact ⟨k + 1, by omega, by go_num, HCG.out _ (by simpa using HV2.out), (HUQ.out.trans (Upd.of_below HB3.out)).trans HU2.out⟩
          case measure => simp [intOf]; omega
        · have hkk : (k : Int) = high := by omega
          have hv' : View wr base c c2 M (M.octF (cpyF (L.smp g) h x y dx dy high ((i + 1 : Nat) : Int) 0)) := by
            have h1 := HVQ.out
            rw [hkk, cpyF_col _ _ _ _ _ _ _ _ (by omega)] at h1
            exact h1
          have HV' := Lib.hid hv'
          clear hkk hv'
          go_wp2
          go_roundw
          case rel => exact ⟨i + 1, by omega, by go_num, HV'.out, HUQ.out⟩
          case measure => simp [intOf]; omega
    · have hii : (i : Int) = wide := by omega
      have HI := Lib.hid hii
      clear hii
      go_wp2
      go_end0
      exact ⟨rfl, by rw [← HI.out]; exact HVR.out, HU.out⟩

end Go.Proofs.Ytphfbjeaklpddaa
