/-
  slices.Equal of two slices of ints.
-/
import Derived.Test.YtphfbjeaklpddaaIa
namespace Go.Proofs.Ytphfbjeaklpddaa
open Go.RowKit

theorem take_eq_succ {xs ys : List Int} {k : Nat} {x y : Int} (hx : xs[k]? = some x) (hy : ys[k]? = some y) (h : xs.take k = ys.take k) (e : x = y) : xs.take (k + 1) = ys.take (k + 1) := by
  rw [List.take_add_one, List.take_add_one, hx, hy, h, e]

set_option maxHeartbeats 1000000 in
theorem equal_any (xs ys : List Int) (a b : Option Addr) (ca cb : Nat) (w : World) (hx : Ints w a xs) (hy : Ints w b ys) (hl : xs.length ≤ maxLen) (hm : ys.length ≤ maxLen) :
    Calls Try.prog 21 #[.slice a xs.length ca, .slice b ys.length cb] w fun e w' => e = .returned (.bool (decide (xs = ys))) ∧ Below w.heap.size w w' := by
  unfold maxLen at hl hm
  by_cases hlen : xs.length = ys.length
  · have HLEN := Lib.hid hlen
    have HX := Lib.hid hx
    have HY := Lib.hid hy
    clear hlen hx hy
    have hne : ((xs.length : Int) != (ys.length : Int)) = false := by have := HLEN.out; simp [this]
    go_enter Try.func21, Try.ntmps21
    go_wp2
    go_loopw [5, 13] (fun _ i wr => ∃ k : Nat, k ≤ xs.length ∧ i = .int .i64 k ∧ xs.take k = ys.take k ∧ Below w.heap.size w wr) (fun _ i _ => xs.length - (intOf i).toNat)
    case atStart => exact ⟨0, Nat.zero_le _, rfl, rfl, Below.refl _ _⟩
    case round =>
      obtain ⟨k, hk, rfl, ht, hB⟩ := hrel
      have HT := Lib.hid ht
      have HB := Lib.hid hB
      clear ht hB
      by_cases hlt : k < xs.length
      · obtain ⟨b1, o1, x, rfl, hc1, HX1⟩ := (HX.out.below HB.out).at hlt
        obtain ⟨b2, o2, y, rfl, hc2, HY1⟩ := (HY.out.below HB.out).at (k := k) (by rw [← HLEN.out]; exact hlt)
        have hlt2 : k < ys.length := by rw [← HLEN.out]; exact hlt
        by_cases hxy : x = y
        · subst hxy
          have HS := Lib.hid (take_eq_succ HX1.out HY1.out HT.out rfl)
          go_wp2
          go_region
          go_wp2
          go_roundw
          case rel => exact ⟨k + 1, by omega, by go_num, HS.out, HB.out.drew⟩
          case measure => simp [intOf]; omega
        · have hd : decide (xs = ys) = false := by
            rw [decide_eq_false_iff_not]
            rintro e
            have h1 := HX1.out
            have h2 := HY1.out
            rw [e, h2] at h1
            exact hxy (Option.some.inj h1).symm
          have HD := Lib.hid hd
          clear hd
          have hxy' : (x != y) = true := by simp [hxy]
          go_wp2
          go_region
          go_wp2
          go_ret
          exact ⟨by rw [HD.out]; rfl, HB.out.drew⟩
      · have hd : decide (xs = ys) = true := by
          have h := HT.out
          rw [List.take_of_length_le (by omega), List.take_of_length_le (by rw [← HLEN.out]; omega)] at h
          simp [h]
        have HD := Lib.hid hd
        clear hd
        go_wp2
        go_ret
        exact ⟨by rw [HD.out]; rfl, HB.out⟩
  · have hd : decide (xs = ys) = false := by
      rw [decide_eq_false_iff_not]
      rintro rfl
      exact hlen rfl
    have HD := Lib.hid hd
    have hne : ((xs.length : Int) != (ys.length : Int)) = true := by simp; omega
    clear hd
    go_enter Try.func21, Try.ntmps21
    go_wp2
    go_ret
    exact ⟨by rw [HD.out]; rfl, Below.refl _ _⟩

end Go.Proofs.Ytphfbjeaklpddaa
