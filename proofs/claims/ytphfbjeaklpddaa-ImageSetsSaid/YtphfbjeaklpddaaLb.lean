/-
  Layer 42, the reference: Right.
-/
import Derived.Test.YtphfbjeaklpddaaKc
namespace Go.Proofs.Ytphfbjeaklpddaa
open Go.RowKit

attribute [local go_sem] Oper.semAt_some

/-- an octet is a sample's, or 0 -/
def padB (L : Lay) (O : ByteArray) (p : Nat) : Bool := decide ((p : Int) % L.str < L.row) || decide (octAt O p = 0)

theorem octAt_get (O : ByteArray) (k : Nat) (h : k < O.size) : octAt O k = (O[k].toNat : Int) := by
  unfold octAt
  have h' : k < O.data.toList.length := by simpa using h
  rw [Int.toNat_natCast, List.getElem?_eq_getElem h', Option.getD_some]
  rfl

theorem vB_false (L : Lay) (O : ByteArray) (p : Nat) (hp : p < O.size) (h : padB L O p = false) : L.vB O = false := by
  cases e : L.vB O
  · rfl
  · unfold Lay.vB at e
    simp only [Bool.and_eq_true, List.all_eq_true, List.mem_range] at e
    have := e.2.2 p hp
    unfold padB at h
    rw [h] at this
    cases this

theorem vB_true (L : Lay) (O : ByteArray) (h1 : shpB L.W L.H L.C L.B L.P = true) (h2 : (O.size : Int) = L.len) (h : ∀ p, p < O.size → padB L O p = true) : L.vB O = true := by
  unfold Lay.vB
  simp only [Bool.and_eq_true, List.all_eq_true, List.mem_range, decide_eq_true_eq]
  exact ⟨h1, h2, h⟩

set_option maxHeartbeats 1000000 in
theorem right_bad1 (I : Im) (w : World) (h : shpB I.L.W I.L.H I.L.C I.L.B I.L.P = false) :
    Calls Try.prog 39 #[I.v] w fun e w' => e = .returned (.bool I.vB) ∧ Below w.heap.size w w' := by
  have hv : I.vB = false := by unfold Im.vB Lay.vB; rw [h]; rfl
  have HV := Lib.hid hv
  clear hv
  unfold Im.v Lay.img
  go_enter Try.func39, Try.ntmps39
  go_wp2
  refine wp_region_grow (by kernel_rfl) (by kernel_rfl) ?_
  repeat (go_big_quiet_step (first
    | (go_at_call 43; exact calls_grow (rshaped_any _ _ _ _ _ _ _ _))))
  refine wpQuiet_nil ?_
  intro _ hw'
  obtain ⟨nq, hw''⟩ := hw'
  subst hw''
  go_wp2
  go_ret
  exact ⟨by rw [HV.out]; rfl, ((Below.refl _ _).alloc (Nat.le_refl _) _).trans ((grow_below _ _).mono (by simp))⟩

set_option maxHeartbeats 1000000 in
theorem right_bad2 (I : Im) (w : World) (hok : I.L.ok) (hne : ((I.O.size : Int) != I.L.len) = true) :
    Calls Try.prog 39 #[I.v] w fun e w' => e = .returned (.bool I.vB) ∧ Below w.heap.size w w' := by
  have h := (shpB_iff _ _ _ _ _).2 hok
  have hv : I.vB = false := by
    unfold Im.vB Lay.vB
    rw [show decide ((I.O.size : Int) = I.L.len) = false by simp at hne; simp; omega]
    simp
  have hr := I.L.rows_bd hok
  have hst := I.L.row_str hok
  have HV := Lib.hid hv
  clear hv
  obtain ⟨⟨W, H, C, B, pl, P⟩, O⟩ := I
  unfold Im.v Lay.img
  unfold Lay.len Lay.rows Lay.str at *
  unfold Lay.row at *
  unfold Lay.ok at *
  dsimp only at h hok hr hst hne ⊢
  obtain ⟨r1, r2⟩ := hr
  obtain ⟨s0, s1, s2⟩ := hst
  obtain ⟨m1, m2⟩ := mul_bd (a := rowsS H C pl) (b := strS W C B pl P) (A := 256) (B := 520) (by omega) r2 (by omega) s2
  go_enter Try.func39, Try.ntmps39
  go_wp2
  refine wp_region_grow (by kernel_rfl) (by kernel_rfl) ?_
  repeat (go_big_quiet_step (first
    | (go_at_call 43; exact calls_grow (rshaped_any _ _ _ _ _ _ _ _))
    | (go_at_call 45; exact calls_grow (rrows_any _ _ _ _ _ _ _ _ hok))
    | (go_at_call 40; exact calls_grow (rstride_any _ _ _ _ _ _ _ _ hok))))
  refine wpQuiet_nil ?_
  intro _ hw'
  obtain ⟨nq, hw''⟩ := hw'
  subst hw''
  go_wp2
  go_ret
  exact ⟨by rw [HV.out]; rfl, ((Below.refl _ _).alloc (Nat.le_refl _) _).trans ((grow_below _ _).mono (by simp))⟩

set_option maxHeartbeats 2000000 in
theorem right_loop (I : Im) (w : World) (hok : I.L.ok) (hs : (I.O.size : Int) = I.L.len) :
    Calls Try.prog 39 #[I.v] w fun e w' => e = .returned (.bool I.vB) ∧ Below w.heap.size w w' := by
  have h := (shpB_iff _ _ _ _ _).2 hok
  have hr := I.L.rows_bd hok
  have hst := I.L.row_str hok
  have HF := Lib.hid (vB_false I.L I.O)
  have HT := Lib.hid (vB_true I.L I.O h hs)
  obtain ⟨⟨W, H, C, B, pl, P⟩, O⟩ := I
  unfold Im.v Im.vB Lay.img
  unfold padB at *
  unfold Lay.len Lay.rows Lay.str at *
  unfold Lay.row at *
  unfold Lay.ok at *
  dsimp only at h hok hr hst hs HF HT ⊢
  have hne : ((O.size : Int) != rowsS H C pl * strS W C B pl P) = false := by rw [hs]; simp
  obtain ⟨r1, r2⟩ := hr
  obtain ⟨s0, s1, s2⟩ := hst
  obtain ⟨m1, m2⟩ := mul_bd (a := rowsS H C pl) (b := strS W C B pl P) (A := 256) (B := 520) (by omega) r2 (by omega) s2
  have hsz : (O.size : Int) ≤ 133120 := by omega
  have HS := Lib.hid hs
  clear hs
  go_enter Try.func39, Try.ntmps39
  go_wp2
  refine wp_region_grow (by kernel_rfl) (by kernel_rfl) ?_
  repeat (go_big_quiet_step (first
    | (go_at_call 43; exact calls_grow (rshaped_any _ _ _ _ _ _ _ _))
    | (go_at_call 45; exact calls_grow (rrows_any _ _ _ _ _ _ _ _ hok))
    | (go_at_call 40; exact calls_grow (rstride_any _ _ _ _ _ _ _ _ hok))))
  refine wpQuiet_nil ?_
  intro _ hw'
  obtain ⟨nq, hw''⟩ := hw'
  subst hw''
  have hb1 := grow_below (w.alloc (.cells #[.int .i64 W, .int .i64 H, .int .i64 C, .int .i64 B, .bool pl, .int .i64 P, .string O] 31)) nq
  generalize grow _ nq = w1 at hb1 ⊢
  have hB1 : Below w.heap.size w w1 := ((Below.refl _ _).alloc (Nat.le_refl _) _).trans (hb1.mono (by simp))
  have hM : HasIm w1 w.heap.size ⟨⟨W, H, C, B, pl, P⟩, O⟩ := HasIm.below ⟨by go_simp, by go_simp, by go_simp, by go_simp, by go_simp, by go_simp, by go_simp, by go_simp, fun o => by go_simp⟩ hb1
  have HM := Lib.hid hM
  have HB1 := Lib.hid hB1
  clear hb1 hM hB1 hne
  go_wp2
  clear h
  go_loopw [3] (fun i wr => ∃ k : Nat, k ≤ O.size ∧ i = .int .i64 k ∧ (∀ p, p < k → (decide ((p : Int) % strS W C B pl P < rowS W C B pl) || decide (octAt O p = 0)) = true) ∧ HasIm wr w.heap.size ⟨⟨W, H, C, B, pl, P⟩, O⟩ ∧ Below w.heap.size w wr) (fun i _ => O.size - (intOf i).toNat)
  case atStart => exact ⟨0, Nat.zero_le _, rfl, fun p hp => absurd hp (Nat.not_lt_zero p), HM.out, HB1.out⟩
  case round =>
    obtain ⟨k, hk, rfl, hpre, hI, hB⟩ := hrel
    obtain ⟨il, i0, i1, i2, i3, i4, i5, i6, iz⟩ := hI
    dsimp only at i0 i1 i2 i3 i4 i5 i6
    have HP := Lib.hid hpre
    have HB := Lib.hid hB
    clear hpre hB
    by_cases hlt : k < O.size
    · have hrange := octAt_range O k
      obtain ⟨g0, g1⟩ := hrange
      by_cases hpad : (k : Int) % strS W C B pl P < rowS W C B pl
      · have hdec : decide (rowS W C B pl ≤ (k : Int) % strS W C B pl P) = false := decide_eq_false (by omega)
        go_wp2
        refine wp_region_grow (by kernel_rfl) (by kernel_rfl) ?_
        repeat (go_big_quiet_step (first
          | (go_at_call 40; exact calls_grow (rstride_any _ _ _ _ _ _ _ _ hok))
          | (go_at_call 66; exact calls_grow (rrow_any _ _ _ _ _ _ _ _ hok))))
        refine wpQuiet_nil ?_
        intro _ hw'
        obtain ⟨nq, hw''⟩ := hw'
        subst hw''
        have hb2 := grow_below wr nq
        generalize grow _ nq = w2 at hb2 ⊢
        have HB2 := Lib.hid hb2
        have HI2 := Lib.hid (HasIm.below ⟨il, i0, i1, i2, i3, i4, i5, i6, iz⟩ hb2 : HasIm w2 w.heap.size ⟨⟨W, H, C, B, pl, P⟩, O⟩)
        clear hb2
        go_wp2
        go_roundw
        case rel =>
          refine ⟨k + 1, by omega, by go_num, fun p hp => ?_, HI2.out, HB.out.trans (HB2.out.mono HB.out.size)⟩
          by_cases e : p = k
          · subst e; simp [hpad]
          · exact HP.out p (by omega)
        case measure => simp [intOf]; omega
      · have hpad' : rowS W C B pl ≤ (k : Int) % strS W C B pl P := by omega
        cases h0 : ((O[k].toNat : Int) != 0)
        · go_wp2
          refine wp_region_grow (by kernel_rfl) (by kernel_rfl) ?_
          repeat (go_big_quiet_step (first
            | (go_at_call 40; exact calls_grow (rstride_any _ _ _ _ _ _ _ _ hok))
            | (go_at_call 66; exact calls_grow (rrow_any _ _ _ _ _ _ _ _ hok))))
          refine wpQuiet_nil ?_
          intro _ hw'
          obtain ⟨nq, hw''⟩ := hw'
          subst hw''
          have hb2 := grow_below wr nq
          generalize grow _ nq = w2 at hb2 ⊢
          have HB2 := Lib.hid hb2
          have HI2 := Lib.hid (HasIm.below ⟨il, i0, i1, i2, i3, i4, i5, i6, iz⟩ hb2 : HasIm w2 w.heap.size ⟨⟨W, H, C, B, pl, P⟩, O⟩)
          have H0 := Lib.hid h0
          clear hb2
          go_wp2
          go_roundw
          case rel =>
            refine ⟨k + 1, by omega, by go_num, fun p hp => ?_, HI2.out, HB.out.trans (HB2.out.mono HB.out.size)⟩
            by_cases e : p = k
            · subst e
              have h0 := H0.out
              rw [bne_eq_false_iff_eq] at h0
              rw [octAt_get O p hlt, h0]
              simp
            · exact HP.out p (by omega)
          case measure => simp [intOf]; omega
        · have hno : Lay.vB ⟨W, H, C, B, pl, P⟩ O = false := HF.out k hlt (by
            rw [octAt_get O k hlt]
            simp only [bne_iff_ne, ne_eq] at h0
            simp [hpad]
            omega)
          have HN := Lib.hid hno
          clear hno
          go_wp2
          refine wp_region_grow (by kernel_rfl) (by kernel_rfl) ?_
          repeat (go_big_quiet_step (first
            | (go_at_call 40; exact calls_grow (rstride_any _ _ _ _ _ _ _ _ hok))
            | (go_at_call 66; exact calls_grow (rrow_any _ _ _ _ _ _ _ _ hok))))
          refine wpQuiet_nil ?_
          intro _ hw'
          obtain ⟨nq, hw''⟩ := hw'
          subst hw''
          have hb2 := grow_below wr nq
          generalize grow _ nq = w2 at hb2 ⊢
          have HB2 := Lib.hid hb2
          clear hb2
          go_wp2
          try rw [Exit.noGoto_ret]
          go_ret
          exact ⟨by rw [HN.out]; rfl, HB.out.trans (HB2.out.mono HB.out.size)⟩
    · have hall : Lay.vB ⟨W, H, C, B, pl, P⟩ O = true := HT.out fun p hp => HP.out p (by omega)
      have HA := Lib.hid hall
      clear hall
      go_wp2
      go_ret
      exact ⟨by rw [HA.out]; rfl, HB.out⟩

theorem right_any (I : Im) (w : World) :
    Calls Try.prog 39 #[I.v] w fun e w' => e = .returned (.bool I.vB) ∧ Below w.heap.size w w' := by
  cases h : shpB I.L.W I.L.H I.L.C I.L.B I.L.P
  · exact right_bad1 I w h
  · have hok := (shpB_iff _ _ _ _ _).1 h
    by_cases hs : (I.O.size : Int) = I.L.len
    · exact right_loop I w hok hs
    · exact right_bad2 I w hok (by simpa using hs)

end Go.Proofs.Ytphfbjeaklpddaa
