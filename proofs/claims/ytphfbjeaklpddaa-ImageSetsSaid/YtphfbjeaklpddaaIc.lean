/-
  Layer 42, the program's small functions: between and what it calls, shaped.
-/
import Derived.Test.YtphfbjeaklpddaaIa
namespace Go.Proofs.Ytphfbjeaklpddaa
open Go.RowKit

set_option maxHeartbeats 400000 in
theorem btw1_any (x lo hi : Int) (a b : Addr) (w : World) (ha : w.cell? a = some (.int .i64 lo)) (hb : w.cell? b = some (.int .i64 hi)) :
    Calls Try.prog 74 #[.int .i64 x, .pointer (some a), .pointer (some b)] w fun e w' => e = .returned (.bool (!inB x lo hi)) ∧ w = w' := by
  unfold inB
  by_cases h1 : lo ≤ x
  · have e1 : decide (x < lo) = false := decide_eq_false (by omega)
    have e2 : decide (lo ≤ x) = true := decide_eq_true (by omega)
    have H1 := Lib.hid e2
    clear e2
    go_enter Try.func74, Try.ntmps74
    go_wp2
    go_ret
    exact ⟨by rw [H1.out]; (cases h : decide (x ≤ hi) <;> simp at h ⊢ <;> omega), rfl⟩
  · have e1 : decide (x < lo) = true := decide_eq_true (by omega)
    have e2 : decide (lo ≤ x) = false := decide_eq_false (by omega)
    have H1 := Lib.hid e2
    clear e2
    go_enter Try.func74, Try.ntmps74
    go_wp2
    go_ret
    exact ⟨by rw [H1.out]; rfl, rfl⟩

set_option maxHeartbeats 400000 in
theorem indexFunc_btw (xs : List Int) (a : Option Addr) (cap : Nat) (lo hi : Int) (p q : Addr) (w : World) (hx : Ints w a xs) (hl : xs.length ≤ maxLen) (ha : w.cell? p = some (.int .i64 lo)) (hb : w.cell? q = some (.int .i64 hi)) :
    Calls Try.prog 79 #[.slice a xs.length cap, .func (.func 74) #[] #[.pointer (some p), .pointer (some q)]] w fun e w' => e = .returned (.int .i64 (idxF (fun x => !inB x lo hi) xs)) ∧ w = w' := by
  unfold maxLen at hl
  go_enter Try.func79, Try.ntmps79
  go_wp2
  go_loop [8] (fun i => ∃ k : Nat, k ≤ xs.length ∧ i = .int .i64 k ∧ (xs.take k).any (fun x => !inB x lo hi) = false) (fun i => xs.length - (intOf i).toNat)
  case atStart => exact ⟨0, Nat.zero_le _, rfl, rfl⟩
  case round =>
    obtain ⟨k, hk, rfl, ht⟩ := hrel
    have HT := Lib.hid ht
    clear ht
    by_cases hlt : k < xs.length
    · obtain ⟨b, off, x, rfl, hc, HX⟩ := hx.at hlt
      have hs := any_take_succ (p := fun x => !inB x lo hi) HX.out HT.out
      cases hp : (!inB x lo hi)
      · have HS := Lib.hid (hs.trans hp)
        have HP := Lib.hid hp
        clear hs hp
        go_wp2_with (go_at_call 74; refine (btw1_any _ lo hi p q _ ha hb).mono ?_; rintro e w1 ⟨rfl, rfl⟩; rw [HP.out])
        go_round
        case rel => exact ⟨k + 1, by omega, by go_num, HS.out⟩
        case measure => simp [intOf]; omega
      · have HS := Lib.hid (idxF_here (p := fun x => !inB x lo hi) HX.out HT.out hp)
        have HP := Lib.hid hp
        clear hs hp
        go_wp2_with (go_at_call 74; refine (btw1_any _ lo hi p q _ ha hb).mono ?_; rintro e w1 ⟨rfl, rfl⟩; rw [HP.out])
        go_ret
        exact ⟨by rw [HS.out]; rfl, rfl⟩
    · have HS := Lib.hid (idxF_none (fun x => !inB x lo hi) xs k (by omega) HT.out)
      go_wp2
      go_ret
      exact ⟨by rw [HS.out]; rfl, rfl⟩

theorem any_not_all (p : Int → Bool) (xs : List Int) : (!xs.any (fun x => !p x)) = xs.all p := by
  induction xs with
  | nil => rfl
  | cons x xs ih => simp only [List.any_cons, List.all_cons, Bool.not_or, Bool.not_not, ih]

set_option maxHeartbeats 400000 in
theorem containsFunc_btw (xs : List Int) (a : Option Addr) (cap : Nat) (lo hi : Int) (p q : Addr) (w : World) (hx : Ints w a xs) (hl : xs.length ≤ maxLen) (ha : w.cell? p = some (.int .i64 lo)) (hb : w.cell? q = some (.int .i64 hi)) :
    Calls Try.prog 73 #[.slice a xs.length cap, .func (.func 74) #[] #[.pointer (some p), .pointer (some q)]] w fun e w' => e = .returned (.bool (xs.any (fun x => !inB x lo hi))) ∧ w = w' := by
  have h0 := idxF_nonneg (fun x => !inB x lo hi) xs
  have H0 := Lib.hid h0
  clear h0
  go_enter Try.func73, Try.ntmps73
  go_wp2_with (go_at_call 79; refine (indexFunc_btw _ _ _ lo hi p q _ hx hl ha hb).mono ?_; rintro e w1 ⟨rfl, rfl⟩)
  go_ret
  exact ⟨by rw [← H0.out]; rfl, rfl⟩

set_option maxHeartbeats 400000 in
theorem between_any (lo hi : Int) (xs : List Int) (a : Option Addr) (cap : Nat) (w : World) (hx : Ints w a xs) (hl : xs.length ≤ maxLen) :
    Calls Try.prog 50 #[.int .i64 lo, .int .i64 hi, .slice a xs.length cap] w fun e w' => e = .returned (.bool (xs.all (fun x => inB x lo hi))) ∧ Below w.heap.size w w' := by
  have h0 := any_not_all (fun x => inB x lo hi) xs
  have H0 := Lib.hid h0
  clear h0
  have hb2 : Below w.heap.size w ((w.alloc (.cells #[.int .i64 lo] 3)).alloc (.cells #[.int .i64 hi] 3)) := ((Below.refl _ _).alloc (Nat.le_refl _) _).alloc (by simp) _
  go_enter Try.func50, Try.ntmps50
  go_wp2_with (go_at_call 73; refine (containsFunc_btw xs a cap lo hi _ _ _ (hx.below hb2) hl ?_ ?_).mono ?_; go_simp; go_simp; rintro e w1 ⟨rfl, rfl⟩)
  go_ret
  exact ⟨by rw [← H0.out]; rfl, hb2⟩

set_option maxHeartbeats 400000 in
theorem index_any (xs : List Int) (a : Option Addr) (cap : Nat) (v : Int) (w : World) (hx : Ints w a xs) (hl : xs.length ≤ maxLen) :
    Calls Try.prog 80 #[.slice a xs.length cap, .int .i64 v] w fun e w' => e = .returned (.int .i64 (idxF (fun x => v == x) xs)) ∧ w = w' := by
  unfold maxLen at hl
  go_enter Try.func80, Try.ntmps80
  go_wp2
  go_loop [8] (fun i => ∃ k : Nat, k ≤ xs.length ∧ i = .int .i64 k ∧ (xs.take k).any (fun x => v == x) = false) (fun i => xs.length - (intOf i).toNat)
  case atStart => exact ⟨0, Nat.zero_le _, rfl, rfl⟩
  case round =>
    obtain ⟨k, hk, rfl, ht⟩ := hrel
    have HT := Lib.hid ht
    clear ht
    by_cases hlt : k < xs.length
    · obtain ⟨b, off, x, rfl, hc, HX⟩ := hx.at hlt
      have hs := any_take_succ (p := fun x => v == x) HX.out HT.out
      cases hp : (v == x)
      · have HS := Lib.hid (hs.trans hp)
        clear hs
        go_wp2
        go_round
        case rel => exact ⟨k + 1, by omega, by go_num, HS.out⟩
        case measure => simp [intOf]; omega
      · have HS := Lib.hid (idxF_here (p := fun x => v == x) HX.out HT.out hp)
        clear hs
        go_wp2
        go_ret
        exact ⟨by rw [HS.out]; rfl, rfl⟩
    · have HS := Lib.hid (idxF_none (fun x => v == x) xs k (by omega) HT.out)
      go_wp2
      go_ret
      exact ⟨by rw [HS.out]; rfl, rfl⟩

set_option maxHeartbeats 400000 in
theorem contains_any (xs : List Int) (a : Option Addr) (cap : Nat) (v : Int) (w : World) (hx : Ints w a xs) (hl : xs.length ≤ maxLen) :
    Calls Try.prog 78 #[.slice a xs.length cap, .int .i64 v] w fun e w' => e = .returned (.bool (xs.any (fun x => v == x))) ∧ w = w' := by
  have h0 := idxF_nonneg (fun x => v == x) xs
  have H0 := Lib.hid h0
  clear h0
  go_enter Try.func78, Try.ntmps78
  go_wp2_with (go_at_call 80; refine (index_any _ _ _ _ _ hx hl).mono ?_; rintro e w1 ⟨rfl, rfl⟩)
  go_ret
  exact ⟨by rw [← H0.out]; rfl, rfl⟩

end Go.Proofs.Ytphfbjeaklpddaa
