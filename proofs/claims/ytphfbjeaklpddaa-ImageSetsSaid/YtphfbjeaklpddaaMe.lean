/-
  ImageSets answers true. No condition.
-/
import Derived.Test.YtphfbjeaklpddaaMc
import Derived.Test.YtphfbjeaklpddaaMd
namespace Go.Proofs.Ytphfbjeaklpddaa
open Go.ChangeShapes Go.WideShapes Go.ChangeAt Go.RowKit

theorem sets_any (D : Dr) (hD : D.ok) (a : Option Addr) (cap : Nat) (t0 t1 e0 e1 e2 e3 : Int) (w : World) (hvs : U16s w a D.vs) (ht0 : 0 ≤ t0 ∧ t0 < 256) (ht1 : 0 ≤ t1 ∧ t1 < 256)
    (he0 : 0 ≤ e0 ∧ e0 < 65536) (he1 : 0 ≤ e1 ∧ e1 < 65536) (he2 : 0 ≤ e2 ∧ e2 < 65536) (he3 : 0 ≤ e3 ∧ e3 < 65536) :
    Calls Try.prog 5 #[D.v a cap, .agg #[.int .u8 t0, .int .u8 t1], .agg #[.int .u16 e0, .int .u16 e1, .int .u16 e2, .int .u16 e3]] w fun e w' => e = .returned (.bool true) ∧ Below w.heap.size w w' := by
  cases h : D.deep
  · exact setsfalse D hD h a cap t0 t1 e0 e1 e2 e3 w hvs ht0 ht1 he0 he1 he2 he3
  · exact setstrue D hD h a cap t0 t1 e0 e1 e2 e3 w hvs ht0 ht1 he0 he1 he2 he3

theorem imageSets_own : ownKnob Try.prog.godebug = none := by kernel_rfl
theorem imageSets_laid : laidOutB Try.prog = true := by kernel_rfl

set_option maxRecDepth 100000 in
theorem imageSets_lifted (os : Os) (started : os.Started) (H : Type) (enc : TypeId × Value → H) :
    ReturnsInHanded {} Try.checked os 5 .any (Rows.imageSetsSpec.pre6 enc Try.prog Try.f5 Rows.imageSetsRow.domain false) (Rows.imageSetsSpec.post enc Try.prog Try.f5 false true false false) := by
  refine returnsInHanded_of_change (C := Try.checked) imageSets_own started (by kernel_rfl) Try.func5
    (ChangeSpec.witness6 (enc := enc) (C := Try.checked) false ⟨#[], #[.agg #[.int .u8 0, .int .u8 0, .int .u8 0, .int .u8 0, .bool false, .bool false, .slice none 0 0], .agg #[.int .u8 0, .int .u8 0], .agg #[.int .u16 0, .int .u16 0, .int .u16 0, .int .u16 0]], []⟩ 8 (by kernel_rfl) (by kernel_rfl) (by kernel_rfl) (by kernel_rfl)) ?_
  intro W base args ds gs before hval0 hW hcnd _
  have hval : ∀ (j : Nat) t v, Try.f5.params[j]? = some t → args[j]? = some v → Value.okWide Try.prog W .any base t v := hval0
  have hW' := hW
  obtain ⟨p, q, hA0, hV, rfl, hfz, hnd⟩ := hW
  have hA : DataW.TrodAll enc Try.prog W 0 (fun _ => true) true Try.f5.params.toList args.toList ds p := hA0
  rw [Try.params5] at hA hval
  obtain ⟨v0, v1, v2, d0, d1, d2, p0, p1, p2, rfl, rfl, rfl, h0, h1, h2⟩ := trodAll_three hA
  obtain ⟨rfl, rfl⟩ := trodVars_none hV
  obtain ⟨D, a, cap, rfl, hD, hvs⟩ := open_dr (hval 0 _ v0 rfl rfl) h0
  obtain ⟨t0, t1, rfl, ht0, ht1⟩ := open_u8x2 (hval 1 _ v1 rfl rfl) h1
  obtain ⟨e0, e1, e2, e3, rfl, he0, he1, he2, he3⟩ := open_u16x4 (hval 2 _ v2 rfl rfl) h2
  clear hA0 hval0
  refine (sets_any D hD a cap t0 t1 e0 e1 e2 e3 W hvs ht0 ht1 he0 he1 he2 he3).mono fun e W' ⟨he, hw⟩ => ?_
  subst he
  exact ⟨_, rfl, law_post hW' rfl imageSets_laid (by rw [Try.params5]; intro t ht; simp only [List.mem_cons, List.not_mem_nil, or_false] at ht; rcases ht with rfl | rfl | rfl <;> exact ⟨by kernel_rfl, of_decide_eq_true (by kernel_rfl)⟩) (bt := 4) rfl Try.underlying4 rfl rfl rfl hw⟩

theorem imageSets_holds : Rows.ImageSetsSaid :=
  OpenClaim.holds_of_wide 5 Try.f5 rfl rfl rfl rfl rfl rfl rfl ⟨rfl, rfl, rfl, rfl, rfl⟩ rfl rfl rfl rfl rfl (by kernel_rfl) Try.func5 (by kernel_rfl)
    (of_decide_eq_true (by kernel_rfl)) (by unfold Func.isWrapper; first | (rw [if_pos (by decide +kernel)]; kernel_rfl) | (rw [if_neg (by decide +kernel)]; exact ⟨rfl, rfl⟩))
    (fun os started H enc _ => imageSets_lifted os started H enc)

end Go.Proofs.Ytphfbjeaklpddaa
