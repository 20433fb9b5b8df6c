/-
  Layer 42: what each function answers, as one law.
-/
import Derived.Test.YtphfbjeaklpddaaJd
import Derived.Test.YtphfbjeaklpddaaJf
import Derived.Test.YtphfbjeaklpddaaJg
import Derived.Test.YtphfbjeaklpddaaJk
import Derived.Test.YtphfbjeaklpddaaJl
import Derived.Test.YtphfbjeaklpddaaJn
import Derived.Test.YtphfbjeaklpddaaJq
import Derived.Test.YtphfbjeaklpddaaJr
import Derived.Test.YtphfbjeaklpddaaJs
namespace Go.Proofs.Ytphfbjeaklpddaa
open Go.RowKit

/-- an image: its layout and its octets -/
structure Im where
  L : Lay
  O : ByteArray

def Im.v (I : Im) : Value := I.L.img I.O
def Im.z : Im := ⟨⟨0, 0, 0, 0, false, 0⟩, ⟨#[]⟩⟩
theorem Im.z_v : Im.z.v = zimg := rfl

def Lay.vB (L : Lay) (O : ByteArray) : Bool :=
  shpB L.W L.H L.C L.B L.P && (decide ((O.size : Int) = L.len) && (List.range O.size).all fun p => decide ((p : Int) % L.str < L.row) || decide (octAt O p = 0))
def Im.vB (I : Im) : Bool := I.L.vB I.O

theorem Lay.vB_iff (L : Lay) (O : ByteArray) : L.vB O = true ↔ L.valid O := by
  unfold Lay.vB Lay.valid Lay.ok Lay.pad
  simp only [Bool.and_eq_true, shpB_iff, decide_eq_true_eq, List.all_eq_true, List.mem_range, Bool.or_eq_true]
  refine and_congr_right fun h1 => and_congr_right fun h2 => ⟨fun h p p0 p1 hp => ?_, fun h p hp => ?_⟩
  · obtain ⟨q, rfl⟩ := Int.eq_ofNat_of_zero_le p0
    rcases h q (by omega) with h3 | h3
    · exact absurd hp (by omega)
    · exact h3
  · by_cases hq : (p : Int) % L.str < L.row
    · exact .inl hq
    · exact .inr (h p (by omega) (by omega) (by omega))

def chkR (I : Im) : Int := if I.vB then 0 else 420
def strR (I : Im) : Int × Int := if I.vB then (I.L.str, 0) else (0, 420)
def makR (L : Lay) : Im × Int := if shpB L.W L.H L.C L.B L.P then (⟨L, octS L.len.toNat fun _ => 0⟩, 0) else (Im.z, 2)
def getR (I : Im) (x y : Int) : List Int × Int :=
  if I.vB then (if thereB I.L x y then ((List.range I.L.C.toNat).map fun c => I.L.fn I.O x y (c : Nat), 0) else ([], 2)) else ([], 420)
def setR (I : Im) (x y : Int) (xs : List Int) : Im × Int :=
  if I.vB then
    if thereB I.L x y && (decide ((xs.length : Int) = I.L.C) && rngB I.L xs) then (⟨I.L, octS I.L.len.toNat (I.L.octF (putF (I.L.fn I.O) x y xs xs.length))⟩, 0) else (Im.z, 2)
  else (Im.z, 420)
def chgT (f t v : Int) : Int := if f < t then 257 * v else if t < f then (v + 128) / 257 else v
def Im.lay (I : Im) (bits : Int) (pl : Bool) (pad : Int) : Im :=
  ⟨I.L.lay bits pl pad, octS (I.L.lay bits pl pad).len.toNat ((I.L.lay bits pl pad).octF fun a b c => chgT I.L.B bits (I.L.fn I.O a b c))⟩
def shpR (I : Im) (bits : Int) (pl : Bool) (pad : Int) : Im × Int :=
  if I.vB then
    if decide (bits = I.L.B) && ((pl == I.L.pl) && decide (pad = I.L.P)) then (I, 0)
    else if shpB I.L.W I.L.H I.L.C bits pad then (I.lay bits pl pad, 0) else (Im.z, 2)
  else (Im.z, 420)
def cutR (I : Im) (x y wide high : Int) : Im × Int :=
  if I.vB then
    if inB wide 1 I.L.W && (inB high 1 I.L.H && insB I.L x y wide high) then
      (⟨I.L.part wide high, octS (I.L.part wide high).len.toNat ((I.L.part wide high).octF (cpyF (I.L.fn I.O) (fun _ _ _ => 0) x y 0 0 high wide 0))⟩, 0)
    else (Im.z, 2)
  else (Im.z, 420)
def pasR (I J : Im) (x y : Int) : Im × Int :=
  if I.vB && J.vB then
    if decide (I.L.C = J.L.C) && (decide (I.L.B = J.L.B) && insB I.L x y J.L.W J.L.H) then
      (⟨I.L, octS I.L.len.toNat (I.L.octF (cpyF (J.L.fn J.O) (I.L.fn I.O) 0 0 x y J.L.H J.L.W 0))⟩, 0)
    else (Im.z, 2)
  else (Im.z, 420)

/-- an image and an error -/
def ImPost (R : Im × Int) (w : World) : Ending → World → Prop := fun e w' => e = .returned (.tuple #[R.1.v, .int .i64 R.2]) ∧ Below w.heap.size w w'
/-- numbers and an error -/
def IntsPost (R : List Int × Int) (w : World) : Ending → World → Prop := fun e w' =>
  ∃ (a : Option Addr) (cap : Nat), e = .returned (.tuple #[.slice a R.1.length cap, .int .i64 R.2]) ∧ Ints w' a R.1 ∧ (∀ c off, a = some ⟨c, off, none⟩ → w.heap.size ≤ c) ∧ Below w.heap.size w w'

theorem Ints_nil (w : World) : Ints w none [] := fun h => absurd rfl h
theorem vB_no {I : Im} (h : I.vB = false) : ¬ I.L.valid I.O := by
  rw [← Lay.vB_iff]
  unfold Im.vB at h
  rw [h]
  simp
theorem vB_yes {I : Im} (h : I.vB = true) : I.L.valid I.O := (Lay.vB_iff _ _).1 h

theorem Img_check (I : Im) (w : World) : Calls Try.prog 15 #[I.v] w fun e w' => e = .returned (.int .i64 (chkR I)) ∧ Below w.heap.size w w' := by
  unfold chkR
  cases h : I.vB
  · exact check_bad I.L I.O w (vB_no h)
  · exact check_ok I.L I.O w (vB_yes h)

theorem Img_stride (I : Im) (w : World) : Calls Try.prog 13 #[I.v] w fun e w' => e = .returned (.tuple #[.int .i64 (strR I).1, .int .i64 (strR I).2]) ∧ Below w.heap.size w w' := by
  unfold strR
  cases h : I.vB
  · exact stride_bad I.L I.O w (vB_no h)
  · exact stride_ok I.L I.O w (vB_yes h)

theorem Img_make (L : Lay) (w : World) : Calls Try.prog 17 #[.int .i64 L.W, .int .i64 L.H, .int .i64 L.C, .int .i64 L.B, .bool L.pl, .int .i64 L.P] w (ImPost (makR L) w) := by
  unfold makR
  cases h : shpB L.W L.H L.C L.B L.P
  · exact make_bad L.W L.H L.C L.B L.pl L.P w h
  · exact make_ok L w ((shpB_iff _ _ _ _ _).1 h)

theorem Img_get (I : Im) (x y : Int) (w : World) : Calls Try.prog 19 #[I.v, .int .i64 x, .int .i64 y] w (IntsPost (getR I x y) w) := by
  unfold getR
  cases h : I.vB
  · refine (get_bad I.L I.O x y w (vB_no h)).mono ?_
    rintro e w' ⟨rfl, hb⟩
    exact ⟨none, 0, rfl, Ints_nil _, (by simp), hb⟩
  · cases ht : thereB I.L x y
    · refine (get_none I.L I.O x y w (vB_yes h) ht).mono ?_
      rintro e w' ⟨rfl, hb⟩
      exact ⟨none, 0, rfl, Ints_nil _, (by simp), hb⟩
    · refine (get_ok I.L I.O x y w (vB_yes h) ht).mono ?_
      rintro e w' ⟨b, cap, rfl, hi, hbz, hbl, hb⟩
      exact ⟨some ⟨b, 0, none⟩, cap, by simp, hi, by rintro c off h; cases h; exact hbz, hb⟩

theorem Img_set (I : Im) (x y : Int) (xs : List Int) (a : Option Addr) (cap : Nat) (w : World) (hxs : Ints w a xs) (hl : xs.length ≤ maxLen) :
    Calls Try.prog 22 #[I.v, .int .i64 x, .int .i64 y, .slice a xs.length cap] w (ImPost (setR I x y xs) w) := by
  unfold setR
  cases h : I.vB
  · exact set_bad I.L I.O x y xs a cap w (vB_no h)
  · have hv := vB_yes h
    cases ht : thereB I.L x y
    · exact set_none I.L I.O x y xs a cap w hv ht
    · by_cases hlen : (xs.length : Int) = I.L.C
      · have hlen' : ((xs.length : Int) != I.L.C) = false := by simp [hlen]
        rcases I.L.n_cases hv.1 with ⟨_, hB⟩ | ⟨_, hB⟩
        · cases hr : rngB I.L xs
          · simp only [hlen, decide_true, Bool.and_false, if_true]
            exact set_range8 I.L hB I.O x y xs a cap w hxs hl hv ht hlen' hr
          · simp only [hlen, decide_true, Bool.and_self, if_true]
            exact set_ok8 I.L hB I.O x y xs a cap w hxs hl hv ht hlen' hr
        · cases hr : rngB I.L xs
          · simp only [hlen, decide_true, Bool.and_false, if_true]
            exact set_range16 I.L hB I.O x y xs a cap w hxs hl hv ht hlen' hr
          · simp only [hlen, decide_true, Bool.and_self, if_true]
            exact set_ok16 I.L hB I.O x y xs a cap w hxs hl hv ht hlen' hr
      · have hlen' : ((xs.length : Int) != I.L.C) = true := by simp [hlen]
        simp only [hlen, decide_false, Bool.false_and, Bool.and_false, if_true]
        exact set_len I.L I.O x y xs a cap w hl hv ht hlen'

theorem Img_shape (I : Im) (bits : Int) (pl : Bool) (pad : Int) (w : World) :
    Calls Try.prog 25 #[I.v, .int .i64 bits, .bool pl, .int .i64 pad] w (ImPost (shpR I bits pl pad) w) := by
  unfold shpR
  cases h : I.vB
  · exact shape_bad I.L I.O bits pl pad w (vB_no h)
  have hv := vB_yes h
  simp only [if_true]
  by_cases hb : bits = I.L.B
  · cases hp : pl == I.L.pl
    · simp only [hb, decide_true, Bool.false_and, Bool.and_false]
      have hbb : (bits == I.L.B) = true := by simp [hb]
      cases hs : shpB I.L.W I.L.H I.L.C bits pad
      · rw [← hb, hs]
        exact shape_arg2 I.L I.O bits pl pad w hv hs hbb hp
      · rw [← hb, hs]
        have e : I.lay bits pl pad = ⟨I.L.lay bits pl pad, octS (I.L.lay bits pl pad).len.toNat ((I.L.lay bits pl pad).octF fun a b c => chg1 (I.L.fn I.O a b c))⟩ := by
          unfold Im.lay chgT chg1
          subst hb
          simp
        rw [e]
        exact shape_ok1a I.L I.O bits pl pad w hv ((shpB_iff _ _ _ _ _).1 hs) hbb (by omega) (by omega) hp
    · by_cases hq : pad = I.L.P
      · subst hb
        rw [eq_of_beq hp, hq]
        simp only [decide_true, Bool.and_self, if_true, beq_self_eq_true]
        exact shape_same I.L I.O w hv
      · simp only [hb, hq, decide_true, decide_false, Bool.and_false]
        have hbb : (bits == I.L.B) = true := by simp [hb]
        have hqq : (pad == I.L.P) = false := by simp [hq]
        cases hs : shpB I.L.W I.L.H I.L.C bits pad
        · rw [← hb, hs]
          exact shape_arg3 I.L I.O bits pl pad w hv hs hbb hp hqq
        · rw [← hb, hs]
          have e : I.lay bits pl pad = ⟨I.L.lay bits pl pad, octS (I.L.lay bits pl pad).len.toNat ((I.L.lay bits pl pad).octF fun a b c => chg1 (I.L.fn I.O a b c))⟩ := by
            unfold Im.lay chgT chg1
            subst hb
            simp
          rw [e]
          exact shape_ok1b I.L I.O bits pl pad w hv ((shpB_iff _ _ _ _ _).1 hs) hbb (by omega) (by omega) hp hqq
  · have hbb : (bits == I.L.B) = false := by simp [hb]
    simp only [hb, decide_false, Bool.false_and]
    cases hs : shpB I.L.W I.L.H I.L.C bits pad
    · exact shape_arg1 I.L I.O bits pl pad w hv hs hbb
    · by_cases h4 : I.L.B < bits
      · have e : I.lay bits pl pad = ⟨I.L.lay bits pl pad, octS (I.L.lay bits pl pad).len.toNat ((I.L.lay bits pl pad).octF fun a b c => chg2 (I.L.fn I.O a b c))⟩ := by
          unfold Im.lay chgT chg2
          simp only [h4, if_true]
        rw [e]
        exact shape_ok2 I.L I.O bits pl pad w hv ((shpB_iff _ _ _ _ _).1 hs) hbb h4
      · have h5 : bits < I.L.B := by omega
        have e : I.lay bits pl pad = ⟨I.L.lay bits pl pad, octS (I.L.lay bits pl pad).len.toNat ((I.L.lay bits pl pad).octF fun a b c => chg3 (I.L.fn I.O a b c))⟩ := by
          unfold Im.lay chgT chg3
          simp only [h4, if_false, h5, if_true]
        rw [e]
        exact shape_ok3 I.L I.O bits pl pad w hv ((shpB_iff _ _ _ _ _).1 hs) hbb h4 h5

theorem Img_cut (I : Im) (x y wide high : Int) (w : World) :
    Calls Try.prog 28 #[I.v, .int .i64 x, .int .i64 y, .int .i64 wide, .int .i64 high] w (ImPost (cutR I x y wide high) w) := by
  unfold cutR
  cases h : I.vB
  · exact cut_bad I.L I.O x y wide high w (vB_no h)
  have hv := vB_yes h
  cases h1 : inB wide 1 I.L.W
  · exact cut_arg1 I.L I.O x y wide high w hv h1
  cases h2 : inB high 1 I.L.H
  · exact cut_arg2 I.L I.O x y wide high w hv h1 h2
  cases h3 : insB I.L x y wide high
  · exact cut_arg3 I.L I.O x y wide high w hv h1 h2 h3
  · exact cut_ok I.L I.O x y wide high w hv h1 h2 h3

theorem Img_paste (I J : Im) (x y : Int) (w : World) :
    Calls Try.prog 31 #[I.v, J.v, .int .i64 x, .int .i64 y] w (ImPost (pasR I J x y) w) := by
  unfold pasR
  cases h : I.vB
  · exact paste_bad1 I.L J.L I.O J.O x y w (vB_no h)
  have hv := vB_yes h
  cases h' : J.vB
  · exact paste_bad2 I.L J.L I.O J.O x y w hv (vB_no h')
  have hv' := vB_yes h'
  by_cases h1 : I.L.C = J.L.C
  · have h1' : (I.L.C != J.L.C) = false := by simp [h1]
    by_cases h2 : I.L.B = J.L.B
    · have h2' : (I.L.B != J.L.B) = false := by simp [h2]
      cases h3 : insB I.L x y J.L.W J.L.H
      · simp only [Bool.and_false, Bool.and_self, if_true]
        exact paste_arg3 I.L J.L I.O J.O x y w hv hv' h1' h2' h3
      · simp only [h1, h2, decide_true, Bool.and_self, if_true]
        exact paste_ok I.L J.L I.O J.O x y w hv hv' h1' h2' h3
    · have h2' : (I.L.B != J.L.B) = true := by simp [h2]
      simp only [h2, decide_false, Bool.false_and, Bool.and_false, Bool.and_self, if_true]
      exact paste_arg2 I.L J.L I.O J.O x y w hv hv' h1' h2'
  · have h1' : (I.L.C != J.L.C) = true := by simp [h1]
    simp only [h1, decide_false, Bool.false_and, Bool.and_self, if_true]
    exact paste_arg1 I.L J.L I.O J.O x y w hv hv' h1'

end Go.Proofs.Ytphfbjeaklpddaa
