/-
  ImageGets answers true. No condition.
-/
import Derived.Test.YtphfbjeaklpddaaQG10
import Derived.Test.YtphfbjeaklpddaaQG12
set_option linter.unusedSimpArgs false
set_option linter.unusedVariables false

/- ImageChecks answers true. No condition. -/
namespace Go.Proofs.Ytphfbjeaklpddaa
open Go.ChangeShapes Go.WideShapes Go.ChangeAt Go.RowKit
set_option maxRecDepth 100000 in
theorem open_i64x5 {H : Type} {enc : TypeId × Value → H} {W : World} {base base' : Nat} {r : Reach} {v : Value} {d : DataW H} {p : List MemPlace}
    (hv : Value.okWide Try.prog W r base' 28 v) (h : DataW.Trod enc Try.prog W base (fun _ => true) true 28 v d p) :
    ∃ n0 n1 n2 n3 n4 : Int, v = .agg #[.int .i64 n0, .int .i64 n1, .int .i64 n2, .int .i64 n3, .int .i64 n4] ∧ (-9223372036854775808 ≤ n0 ∧ n0 < 9223372036854775808) ∧ (-9223372036854775808 ≤ n1 ∧ n1 < 9223372036854775808) ∧ (-9223372036854775808 ≤ n2 ∧ n2 < 9223372036854775808) ∧ (-9223372036854775808 ≤ n3 ∧ n3 < 9223372036854775808) ∧ (-9223372036854775808 ≤ n4 ∧ n4 < 9223372036854775808) := by
  have hs := Try.underlying28
  have ke : Try.prog.cellsOf 3 = 1 := by kernel_rfl
  obtain ⟨cs, rfl, hsz⟩ : ∃ cs, v = .agg cs ∧ cs.size = Try.prog.cellsOf 28 := by
    simp only [Value.okWide, hs] at hv
    obtain ⟨cs, h1, h2, _⟩ := hv
    exact ⟨cs, h1, h2⟩
  obtain ⟨fuel, hf⟩ := h
  obtain ⟨xs, n, _, _, _, hxl, hall⟩ := DataW.trod_array hs hf
  have hszn : cs.size = 5 := hsz.trans (by kernel_rfl)
  obtain ⟨x0, x1, x2, x3, x4, rfl⟩ : ∃ x0 x1 x2 x3 x4, xs = [x0, x1, x2, x3, x4] := by
    match xs, hxl with
    | [x0, x1, x2, x3, x4], _ => exact ⟨x0, x1, x2, x3, x4, rfl⟩
  obtain ⟨c0, c1, c2, c3, c4, hcs⟩ : ∃ c0 c1 c2 c3 c4, cs = #[c0, c1, c2, c3, c4] := by
    obtain ⟨l⟩ := cs
    have hl : l.length = 5 := hszn
    match l, hl with
    | [c0, c1, c2, c3, c4], _ => exact ⟨c0, c1, c2, c3, c4, rfl⟩
  subst hcs
  have g0 : DataW.trod enc Try.prog W base (fun _ => true) true n 3 [c0] = some x0 := by
    have h := hall 0 (by omega)
    simpa [Value.cells, ke] using h
  obtain ⟨n0, e0, -, wf0⟩ := DataW.trod_int Try.underlying3 g0
  cases e0
  have b0 := bounds_i64 wf0
  have g1 : DataW.trod enc Try.prog W base (fun _ => true) true n 3 [c1] = some x1 := by
    have h := hall 1 (by omega)
    simpa [Value.cells, ke] using h
  obtain ⟨n1, e1, -, wf1⟩ := DataW.trod_int Try.underlying3 g1
  cases e1
  have b1 := bounds_i64 wf1
  have g2 : DataW.trod enc Try.prog W base (fun _ => true) true n 3 [c2] = some x2 := by
    have h := hall 2 (by omega)
    simpa [Value.cells, ke] using h
  obtain ⟨n2, e2, -, wf2⟩ := DataW.trod_int Try.underlying3 g2
  cases e2
  have b2 := bounds_i64 wf2
  have g3 : DataW.trod enc Try.prog W base (fun _ => true) true n 3 [c3] = some x3 := by
    have h := hall 3 (by omega)
    simpa [Value.cells, ke] using h
  obtain ⟨n3, e3, -, wf3⟩ := DataW.trod_int Try.underlying3 g3
  cases e3
  have b3 := bounds_i64 wf3
  have g4 : DataW.trod enc Try.prog W base (fun _ => true) true n 3 [c4] = some x4 := by
    have h := hall 4 (by omega)
    simpa [Value.cells, ke] using h
  obtain ⟨n4, e4, -, wf4⟩ := DataW.trod_int Try.underlying3 g4
  cases e4
  have b4 := bounds_i64 wf4
  exact ⟨n0, n1, n2, n3, n4, rfl, ⟨b0.1, by omega⟩, ⟨b1.1, by omega⟩, ⟨b2.1, by omega⟩, ⟨b3.1, by omega⟩, ⟨b4.1, by omega⟩⟩

set_option maxRecDepth 100000 in
theorem open_bends {H : Type} {enc : TypeId × Value → H} {W : World} {base base' : Nat} {r : Reach} {v : Value} {d : DataW H} {p : List MemPlace}
    (hv : Value.okWide Try.prog W r base' 27 v) (h : DataW.Trod enc Try.prog W base (fun _ => true) true 27 v d p) :
    ∃ b0 b1 : Bn, v = .agg #[.int .u8 b0.wh, .int .u8 b0.ap, .int .u8 b0.oc, .int .i64 b0.n, .int .u8 b1.wh, .int .u8 b1.ap, .int .u8 b1.oc, .int .i64 b1.n] ∧ b0.ok ∧ b1.ok := by
  have hs := Try.underlying27
  have hs2 := Try.underlying26
  have ke : Try.prog.cellsOf 26 = 4 := by kernel_rfl
  have k5 : Try.prog.cellsOf 5 = 1 := by kernel_rfl
  have k3 : Try.prog.cellsOf 3 = 1 := by kernel_rfl
  obtain ⟨cs, rfl, hsz⟩ : ∃ cs, v = .agg cs ∧ cs.size = Try.prog.cellsOf 27 := by
    simp only [Value.okWide, hs] at hv
    obtain ⟨cs, h1, h2, _⟩ := hv
    exact ⟨cs, h1, h2⟩
  obtain ⟨fuel, hf⟩ := h
  obtain ⟨xs, n, _, _, _, hxl, hall⟩ := DataW.trod_array hs hf
  have hszn : cs.size = 8 := hsz.trans (by kernel_rfl)
  obtain ⟨x0, x1, rfl⟩ : ∃ x0 x1, xs = [x0, x1] := by
    match xs, hxl with
    | [x0, x1], _ => exact ⟨x0, x1, rfl⟩
  obtain ⟨c0, c1, c2, c3, c4, c5, c6, c7, hcs⟩ : ∃ c0 c1 c2 c3 c4 c5 c6 c7, cs = #[c0, c1, c2, c3, c4, c5, c6, c7] := by
    obtain ⟨l⟩ := cs
    have hl : l.length = 8 := hszn
    match l, hl with
    | [c0, c1, c2, c3, c4, c5, c6, c7], _ => exact ⟨c0, c1, c2, c3, c4, c5, c6, c7, rfl⟩
  subst hcs
  have g0 : DataW.trod enc Try.prog W base (fun _ => true) true n 26 [c0, c1, c2, c3] = some x0 := by
    have h := hall 0 (by omega)
    simpa [Value.cells, ke] using h
  obtain ⟨ys0, m0, _, _, _, hyl0, hall0⟩ := DataW.trod_struct hs2 g0
  obtain ⟨y00, y01, y02, y03, rfl⟩ : ∃ a b c d, ys0 = [a, b, c, d] := by
    match ys0, hyl0 with
    | [a, b, c, d], _ => exact ⟨a, b, c, d, rfl⟩
  have f00 : DataW.trod enc Try.prog W base (fun _ => true) true m0 5 [c0] = some y00 := by
    have h := hall0 0 _ rfl
    simpa [Value.cells, k5, k3] using h
  obtain ⟨n00, e00, -, wf00⟩ := DataW.trod_int Try.underlying5 f00
  cases e00
  have b00 := bounds_u8 wf00
  have f01 : DataW.trod enc Try.prog W base (fun _ => true) true m0 5 [c1] = some y01 := by
    have h := hall0 1 _ rfl
    simpa [Value.cells, k5, k3] using h
  obtain ⟨n01, e01, -, wf01⟩ := DataW.trod_int Try.underlying5 f01
  cases e01
  have b01 := bounds_u8 wf01
  have f02 : DataW.trod enc Try.prog W base (fun _ => true) true m0 5 [c2] = some y02 := by
    have h := hall0 2 _ rfl
    simpa [Value.cells, k5, k3] using h
  obtain ⟨n02, e02, -, wf02⟩ := DataW.trod_int Try.underlying5 f02
  cases e02
  have b02 := bounds_u8 wf02
  have f03 : DataW.trod enc Try.prog W base (fun _ => true) true m0 3 [c3] = some y03 := by
    have h := hall0 3 _ rfl
    simpa [Value.cells, k5, k3] using h
  obtain ⟨n03, e03, -, wf03⟩ := DataW.trod_int Try.underlying3 f03
  cases e03
  have g1 : DataW.trod enc Try.prog W base (fun _ => true) true n 26 [c4, c5, c6, c7] = some x1 := by
    have h := hall 1 (by omega)
    simpa [Value.cells, ke] using h
  obtain ⟨ys1, m1, _, _, _, hyl1, hall1⟩ := DataW.trod_struct hs2 g1
  obtain ⟨y10, y11, y12, y13, rfl⟩ : ∃ a b c d, ys1 = [a, b, c, d] := by
    match ys1, hyl1 with
    | [a, b, c, d], _ => exact ⟨a, b, c, d, rfl⟩
  have f10 : DataW.trod enc Try.prog W base (fun _ => true) true m1 5 [c4] = some y10 := by
    have h := hall1 0 _ rfl
    simpa [Value.cells, k5, k3] using h
  obtain ⟨n10, e10, -, wf10⟩ := DataW.trod_int Try.underlying5 f10
  cases e10
  have b10 := bounds_u8 wf10
  have f11 : DataW.trod enc Try.prog W base (fun _ => true) true m1 5 [c5] = some y11 := by
    have h := hall1 1 _ rfl
    simpa [Value.cells, k5, k3] using h
  obtain ⟨n11, e11, -, wf11⟩ := DataW.trod_int Try.underlying5 f11
  cases e11
  have b11 := bounds_u8 wf11
  have f12 : DataW.trod enc Try.prog W base (fun _ => true) true m1 5 [c6] = some y12 := by
    have h := hall1 2 _ rfl
    simpa [Value.cells, k5, k3] using h
  obtain ⟨n12, e12, -, wf12⟩ := DataW.trod_int Try.underlying5 f12
  cases e12
  have b12 := bounds_u8 wf12
  have f13 : DataW.trod enc Try.prog W base (fun _ => true) true m1 3 [c7] = some y13 := by
    have h := hall1 3 _ rfl
    simpa [Value.cells, k5, k3] using h
  obtain ⟨n13, e13, -, wf13⟩ := DataW.trod_int Try.underlying3 f13
  cases e13
  exact ⟨⟨n00, n01, n02, n03⟩, ⟨n10, n11, n12, n13⟩, rfl, ⟨⟨b00.1, by show n00 < 256; omega⟩, ⟨b01.1, by show n01 < 256; omega⟩, ⟨b02.1, by show n02 < 256; omega⟩⟩, ⟨⟨b10.1, by show n10 < 256; omega⟩, ⟨b11.1, by show n11 < 256; omega⟩, ⟨b12.1, by show n12 < 256; omega⟩⟩⟩


theorem bends_rv {w : World} {M : Nat → Prop} {b0 b1 : Bn} : RV w M noRho (.agg #[.int .u8 b0.wh, .int .u8 b0.ap, .int .u8 b0.oc, .int .i64 b0.n, .int .u8 b1.wh, .int .u8 b1.ap, .int .u8 b1.oc, .int .i64 b1.n])
    (.agg [.d (.int .u8 b0.wh), .d (.int .u8 b0.ap), .d (.int .u8 b0.oc), .d (.int .i64 b0.n), .d (.int .u8 b1.wh), .d (.int .u8 b1.ap), .d (.int .u8 b1.oc), .d (.int .i64 b1.n)]) :=
  RV.of_ex (x := .agg [.d (.int .u8 b0.wh), .d (.int .u8 b0.ap), .d (.int .u8 b0.oc), .d (.int .i64 b0.n), .d (.int .u8 b1.wh), .d (.int .u8 b1.ap), .d (.int .u8 b1.oc), .d (.int .i64 b1.n)]) rfl
theorem i5_rv {w : World} {M : Nat → Prop} {n0 n1 n2 n3 n4 : Int} : RV w M noRho (.agg #[.int .i64 n0, .int .i64 n1, .int .i64 n2, .int .i64 n3, .int .i64 n4]) (.agg [.d (.int .i64 n0), .d (.int .i64 n1), .d (.int .i64 n2), .d (.int .i64 n3), .d (.int .i64 n4)]) :=
  RV.of_ex (x := .agg [.d (.int .i64 n0), .d (.int .i64 n1), .d (.int .i64 n2), .d (.int .i64 n3), .d (.int .i64 n4)]) rfl

theorem imageChecks_own : ownKnob Try.prog.godebug = none := by kernel_rfl
theorem imageChecks_laid : laidOutB Try.prog = true := by kernel_rfl

set_option maxRecDepth 100000 in
theorem imageChecks_lifted (os : Os) (started : os.Started) (H : Type) (enc : TypeId × Value → H) :
    ReturnsInHanded {} Try.checked os 3 .any (Rows.imageChecksSpec.pre6 enc Try.prog Try.f3 Rows.imageChecksRow.domain false) (Rows.imageChecksSpec.post enc Try.prog Try.f3 false true false false) := by
  refine returnsInHanded_of_change (C := Try.checked) imageChecks_own started (by kernel_rfl) Try.func3
    (ChangeSpec.witness6 (enc := enc) (C := Try.checked) false ⟨#[], #[.agg #[.int .u8 0, .int .u8 0, .int .u8 0, .int .u8 0, .bool false, .bool false, .slice none 0 0], .agg #[.int .u8 0, .int .u8 0, .int .u8 0, .int .i64 0, .int .u8 0, .int .u8 0, .int .u8 0, .int .i64 0], .agg #[.int .i64 0, .int .i64 0, .int .i64 0, .int .i64 0, .int .i64 0]], []⟩ 8 (by kernel_rfl) (by kernel_rfl) (by kernel_rfl) (by kernel_rfl)) ?_
  intro W base args ds gs before hval0 hW hcnd _
  have hval : ∀ (j : Nat) t v, Try.f3.params[j]? = some t → args[j]? = some v → Value.okWide Try.prog W .any base t v := hval0
  have hW' := hW
  obtain ⟨p, q, hA0, hV, rfl, hfz, hnd⟩ := hW
  have hA : DataW.TrodAll enc Try.prog W 0 (fun _ => true) true Try.f3.params.toList args.toList ds p := hA0
  rw [Try.params3] at hA hval
  obtain ⟨v0, v1, v2, d0, d1, d2, p0, p1, p2, rfl, rfl, rfl, h0, h1, h2⟩ := trodAll_three hA
  obtain ⟨rfl, rfl⟩ := trodVars_none hV
  obtain ⟨D, a, cap, rfl, hD, hvs⟩ := open_dr (hval 0 _ v0 rfl rfl) h0
  obtain ⟨b0, b1, rfl, hb0, hb1⟩ := open_bends (hval 1 _ v1 rfl rfl) h1
  obtain ⟨n0, n1, n2, n3, n4, rfl, hn0, hn1, hn2, hn3, hn4⟩ := open_i64x5 (hval 2 _ v2 rfl rfl) h2
  clear hA0 hval0
  refine (law_calls (checks_core D hD b0 b1 _ _ _ hb0 hb1 rfl rfl rfl n0 n1 n2 n3 n4) rfl (rvC (dr_rv hvs) (rvC bends_rv (rvC i5_rv rv0)))).mono fun e W' ⟨he, hw⟩ => ?_
  subst he
  exact ⟨_, rfl, law_post hW' rfl imageChecks_laid (by rw [Try.params3]; intro t ht; simp only [List.mem_cons, List.not_mem_nil, or_false] at ht; rcases ht with rfl | rfl | rfl <;> exact ⟨by kernel_rfl, of_decide_eq_true (by kernel_rfl)⟩) (bt := 4) rfl Try.underlying4 rfl rfl rfl hw⟩

theorem imageChecks_holds : Rows.ImageChecksSaid :=
  OpenClaim.holds_of_wide 3 Try.f3 rfl rfl rfl rfl rfl rfl rfl ⟨rfl, rfl, rfl, rfl, rfl⟩ rfl rfl rfl rfl rfl (by kernel_rfl) Try.func3 (by kernel_rfl)
    (of_decide_eq_true (by kernel_rfl)) (by unfold Func.isWrapper; first | (rw [if_pos (by decide +kernel)]; kernel_rfl) | (rw [if_neg (by decide +kernel)]; exact ⟨rfl, rfl⟩))
    (fun os started H enc _ => imageChecks_lifted os started H enc)

end Go.Proofs.Ytphfbjeaklpddaa

/- ImageGets answers true. No condition. -/
namespace Go.Proofs.Ytphfbjeaklpddaa
open Go.ChangeShapes Go.WideShapes Go.ChangeAt Go.RowKit
set_option maxRecDepth 100000 in
theorem open_i64x2 {H : Type} {enc : TypeId × Value → H} {W : World} {base base' : Nat} {r : Reach} {v : Value} {d : DataW H} {p : List MemPlace}
    (hv : Value.okWide Try.prog W r base' 42 v) (h : DataW.Trod enc Try.prog W base (fun _ => true) true 42 v d p) :
    ∃ n0 n1 : Int, v = .agg #[.int .i64 n0, .int .i64 n1] ∧ (-9223372036854775808 ≤ n0 ∧ n0 < 9223372036854775808) ∧ (-9223372036854775808 ≤ n1 ∧ n1 < 9223372036854775808) := by
  have hs := Try.underlying42
  have ke : Try.prog.cellsOf 3 = 1 := by kernel_rfl
  obtain ⟨cs, rfl, hsz⟩ : ∃ cs, v = .agg cs ∧ cs.size = Try.prog.cellsOf 42 := by
    simp only [Value.okWide, hs] at hv
    obtain ⟨cs, h1, h2, _⟩ := hv
    exact ⟨cs, h1, h2⟩
  obtain ⟨fuel, hf⟩ := h
  obtain ⟨xs, n, _, _, _, hxl, hall⟩ := DataW.trod_array hs hf
  have hszn : cs.size = 2 := hsz.trans (by kernel_rfl)
  obtain ⟨x0, x1, rfl⟩ : ∃ x0 x1, xs = [x0, x1] := by
    match xs, hxl with
    | [x0, x1], _ => exact ⟨x0, x1, rfl⟩
  obtain ⟨c0, c1, hcs⟩ : ∃ c0 c1, cs = #[c0, c1] := by
    obtain ⟨l⟩ := cs
    have hl : l.length = 2 := hszn
    match l, hl with
    | [c0, c1], _ => exact ⟨c0, c1, rfl⟩
  subst hcs
  have g0 : DataW.trod enc Try.prog W base (fun _ => true) true n 3 [c0] = some x0 := by
    have h := hall 0 (by omega)
    simpa [Value.cells, ke] using h
  obtain ⟨n0, e0, -, wf0⟩ := DataW.trod_int Try.underlying3 g0
  cases e0
  have b0 := bounds_i64 wf0
  have g1 : DataW.trod enc Try.prog W base (fun _ => true) true n 3 [c1] = some x1 := by
    have h := hall 1 (by omega)
    simpa [Value.cells, ke] using h
  obtain ⟨n1, e1, -, wf1⟩ := DataW.trod_int Try.underlying3 g1
  cases e1
  have b1 := bounds_i64 wf1
  exact ⟨n0, n1, rfl, ⟨b0.1, by omega⟩, ⟨b1.1, by omega⟩⟩


set_option maxRecDepth 100000 in
theorem open_isl {H : Type} {enc : TypeId × Value → H} {W : World} {base : Nat} {v : Value} {d : DataW H} {p : List MemPlace} {base' : Nat} {r : Reach} (hv : Value.okWide Try.prog W r base' 44 v) (h : DataW.Trod enc Try.prog W base (fun _ => true) true 44 v d p) :
    ∃ vs : List Int, vs.length ≤ maxLen ∧ RV W (fun _ => False) noRho v (.d (.sl vs.length 1 (intsD vs))) := by
  obtain ⟨fuel, hf⟩ := h
  have ke : Try.prog.cellsOf 3 = 1 := by kernel_rfl
  have hu := Try.underlying44
  have hone : v.cells = #[v] := by cases v <;> first | rfl | (exfalso; simp [Value.okWide, hu, Cell.okWide, Cell.ok] at hv)
  rcases open_ints hu Try.underlying3 ke hf with ⟨e, -⟩ | ⟨a, len, cap, zs, e, _, hl, hm, hz, -, hcell, hwf⟩
  · have : v = .slice none 0 0 := by
      rw [hone] at e
      simpa using e
    subst this
    exact ⟨[], Nat.zero_le _, .d (.nil _ _ 1 (by decide))⟩
  · have hv : v = .slice (some a) len cap := by
      rw [hone] at e
      simpa using e
    subst hv
    rw [if_pos rfl] at hz
    have hlt : (zs.take len).length = len := by rw [List.length_take]; omega
    refine ⟨zs.take len, by omega, ?_⟩
    rw [hlt]
    rcases Nat.eq_zero_or_pos len with h0 | h0
    · subst h0
      rw [List.take_zero]
      exact .d (.nil _ _ 1 (by decide))
    · obtain ⟨b, off, rfl, hc⟩ := ints_at hcell (by omega)
      have hb : b < W.heap.size := by
        have := hc 0 (by omega)
        simp only [World.cell?] at this
        cases hh : W.heap[b]? with
        | none => rw [hh] at this; simp at this
        | some o => exact (Array.getElem?_eq_some_iff.1 hh).1
      refine .d (.sl b off len cap 1 _ (fun i => .int .i64 (zs[i]?.getD 0)) h0 hl (by simp [intsD]; omega) hb (fun h => h) (fun i hi => ?_) fun i x hx => ?_)
      · rw [hc i (by omega)]
        simp [List.getD]
      · unfold intsD at hx
        rw [List.getElem?_map] at hx
        cases hq : (zs.take len)[i]? with
        | none => rw [hq] at hx; cases hx
        | some y =>
          rw [hq] at hx
          cases hx
          have hi : i < len := by
            have := (List.getElem?_eq_some_iff.1 hq).1
            omega
          rw [List.getElem?_take_of_lt hi] at hq
          rw [hq]
          exact .int _ _

theorem i2_rv {w : World} {M : Nat → Prop} {n0 n1 : Int} : RV w M noRho (.agg #[.int .i64 n0, .int .i64 n1]) (.agg [.d (.int .i64 n0), .d (.int .i64 n1)]) :=
  RV.of_ex (x := .agg [.d (.int .i64 n0), .d (.int .i64 n1)]) rfl
theorem u2_rv {w : World} {M : Nat → Prop} {n0 n1 : Int} : RV w M noRho (.agg #[.int .u8 n0, .int .u8 n1]) (.agg [.d (.int .u8 n0), .d (.int .u8 n1)]) :=
  RV.of_ex (x := .agg [.d (.int .u8 n0), .d (.int .u8 n1)]) rfl
theorem g4_rv {w : World} {M : Nat → Prop} {n0 n1 n2 n3 : Int} : RV w M noRho (.agg #[.int .u16 n0, .int .u16 n1, .int .u16 n2, .int .u16 n3]) (.agg [.d (.int .u16 n0), .d (.int .u16 n1), .d (.int .u16 n2), .d (.int .u16 n3)]) :=
  RV.of_ex (x := .agg [.d (.int .u16 n0), .d (.int .u16 n1), .d (.int .u16 n2), .d (.int .u16 n3)]) rfl

theorem imageGets_own : ownKnob Try.prog.godebug = none := by kernel_rfl
theorem imageGets_laid : laidOutB Try.prog = true := by kernel_rfl

set_option maxRecDepth 100000 in
theorem imageGets_lifted (os : Os) (started : os.Started) (H : Type) (enc : TypeId × Value → H) :
    ReturnsInHanded {} Try.checked os 4 .any (Rows.imageGetsSpec.pre6 enc Try.prog Try.f4 Rows.imageGetsRow.domain false) (Rows.imageGetsSpec.post enc Try.prog Try.f4 false true false false) := by
  refine returnsInHanded_of_change (C := Try.checked) imageGets_own started (by kernel_rfl) Try.func4
    (ChangeSpec.witness6 (enc := enc) (C := Try.checked) false ⟨#[], #[.agg #[.int .u8 0, .int .u8 0, .int .u8 0, .int .u8 0, .bool false, .bool false, .slice none 0 0], .agg #[.int .u8 0, .int .u8 0, .int .u8 0, .int .i64 0, .int .u8 0, .int .u8 0, .int .u8 0, .int .i64 0], .agg #[.int .i64 0, .int .i64 0], .agg #[.int .u8 0, .int .u8 0], .slice none 0 0, .agg #[.int .u16 0, .int .u16 0, .int .u16 0, .int .u16 0]], []⟩ 8 (by kernel_rfl) (by kernel_rfl) (by kernel_rfl) (by kernel_rfl)) ?_
  intro W base args ds gs before hval0 hW hcnd _
  have hval : ∀ (j : Nat) t v, Try.f4.params[j]? = some t → args[j]? = some v → Value.okWide Try.prog W .any base t v := hval0
  have hW' := hW
  obtain ⟨p, q, hA0, hV, rfl, hfz, hnd⟩ := hW
  have hA : DataW.TrodAll enc Try.prog W 0 (fun _ => true) true Try.f4.params.toList args.toList ds p := hA0
  rw [Try.params4] at hA hval
  obtain ⟨v0, vs0, d0, ds0, p0, q0, hargs, rfl, rfl, h0, r0⟩ := trodAll_cons hA
  obtain ⟨v1, vs1, d1, ds1, p1, q1, rfl, rfl, rfl, h1, r1⟩ := trodAll_cons r0
  obtain ⟨v2, vs2, d2, ds2, p2, q2, rfl, rfl, rfl, h2, r2⟩ := trodAll_cons r1
  obtain ⟨v3, vs3, d3, ds3, p3, q3, rfl, rfl, rfl, h3, r3⟩ := trodAll_cons r2
  obtain ⟨v4, vs4, d4, ds4, p4, q4, rfl, rfl, rfl, h4, r4⟩ := trodAll_cons r3
  obtain ⟨v5, vs5, d5, ds5, p5, q5, rfl, rfl, rfl, h5, r5⟩ := trodAll_cons r4
  obtain ⟨rfl, rfl, rfl⟩ := trodAll_nil r5
  obtain rfl : args = #[v0, v1, v2, v3, v4, v5] := by cases args; simp_all
  obtain ⟨rfl, rfl⟩ := trodVars_none hV
  obtain ⟨D, a, cap, rfl, hD, hvs⟩ := open_dr (hval 0 _ v0 rfl rfl) h0
  obtain ⟨b0, b1, rfl, hb0, hb1⟩ := open_bends (hval 1 _ v1 rfl rfl) h1
  obtain ⟨x0, x1, rfl, hx0, hx1⟩ := open_i64x2 (hval 2 _ v2 rfl rfl) h2
  obtain ⟨y0, y1, rfl, hy0, hy1⟩ := open_u8x2 (hval 3 _ v3 rfl rfl) h3
  obtain ⟨vs, hvl, hvr⟩ := open_isl (hval 4 _ v4 rfl rfl) h4
  obtain ⟨g0, g1, g2, g3, rfl, hg0, hg1, hg2, hg3⟩ := open_u16x4 (hval 5 _ v5 rfl rfl) h5
  clear hA0 hval0
  refine (law_calls (gets_core D hD b0 b1 _ _ _ hb0 hb1 rfl rfl rfl x0 x1 y0 y1 hy0 hy1 vs hvl g0 g1 g2 g3 hg0 hg1 hg2 hg3) rfl (rvC (dr_rv hvs) (rvC bends_rv (rvC i2_rv (rvC u2_rv (rvC hvr (rvC g4_rv rv0))))))).mono fun e W' ⟨he, hw⟩ => ?_
  subst he
  exact ⟨_, rfl, law_post hW' rfl imageGets_laid (by rw [Try.params4]; intro t ht; simp only [List.mem_cons, List.not_mem_nil, or_false] at ht; rcases ht with rfl | rfl | rfl | rfl | rfl | rfl <;> exact ⟨by kernel_rfl, of_decide_eq_true (by kernel_rfl)⟩) (bt := 4) rfl Try.underlying4 rfl rfl rfl hw⟩

theorem imageGets_holds : Rows.ImageGetsSaid :=
  OpenClaim.holds_of_wide 4 Try.f4 rfl rfl rfl rfl rfl rfl rfl ⟨rfl, rfl, rfl, rfl, rfl⟩ rfl rfl rfl rfl rfl (by kernel_rfl) Try.func4 (by kernel_rfl)
    (of_decide_eq_true (by kernel_rfl)) (by unfold Func.isWrapper; first | (rw [if_pos (by decide +kernel)]; kernel_rfl) | (rw [if_neg (by decide +kernel)]; exact ⟨rfl, rfl⟩))
    (fun os started H enc _ => imageGets_lifted os started H enc)

end Go.Proofs.Ytphfbjeaklpddaa
