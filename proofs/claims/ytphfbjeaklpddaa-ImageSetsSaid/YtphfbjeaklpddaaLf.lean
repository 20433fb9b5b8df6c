/-
  Layer 42, the reference: Get. A slice of ints that a function appends to.
-/
import Derived.Test.YtphfbjeaklpddaaLe
namespace Go.Proofs.Ytphfbjeaklpddaa
open Go.RowKit

attribute [local go_sem] Oper.semAt_some

/-- the function's own slice of ints holds xs -/
def Owns (w : World) (base : Nat) (v : Value) (xs : List Int) : Prop := w.ownsRow base 3 1 v xs.length (xs.map (.int .i64))

theorem Owns.nil (w : World) (base : Nat) : Owns w base (.slice none 0 0) [] := World.ownsRow_nil _ _ _ _

theorem Owns.slice {w : World} {base : Nat} {v : Value} {xs : List Int} (h : Owns w base v xs) :
    ∃ a cap, v = .slice a xs.length cap ∧ Ints w a xs ∧ (∀ c off, a = some ⟨c, off, none⟩ → base ≤ c) ∧ (∀ k, v.ownBlock = some k ↔ a = some ⟨k, 0, none⟩) := by
  rcases h.2 with ⟨rfl, hn⟩ | ⟨g, cap, cur, rfl, hb, _⟩
  · have : xs = [] := List.eq_nil_of_length_eq_zero hn
    subst this
    exact ⟨none, 0, rfl, Ints_nil w, by simp, fun k => by simp [Value.ownBlock]⟩
  · refine ⟨some ⟨g, 0, none⟩, cap, rfl, fun _ => ⟨g, 0, rfl, fun i hi => ?_⟩, fun c off e => by cases e; exact hb, fun k => by simp [Value.ownBlock]⟩
    have := World.ownsRow.cells h (g := g) rfl i (.int .i64 (xs[i]?.getD 0)) (by simp [hi])
    have ha : (⟨g, 0, none⟩ : Addr).add i = ⟨g, i, none⟩ := by unfold Addr.add; split <;> simp_all
    rw [ha] at this
    rw [Nat.zero_add]
    exact this

theorem HasIm.grownBy {W W' : World} {b : Nat} {I : Im} {row : Option Nat} (h : HasIm W b I) (hg : W.grownBy W' row) (hne : row ≠ some b) : HasIm W' b I := by
  have e : W'.heap[b]? = W.heap[b]? := hg.block b h.lt (fun e => hne e.symm)
  have c : ∀ o, W'.cell? ⟨b, o, none⟩ = W.cell? ⟨b, o, none⟩ := fun o => World.cell?_of_block (a := ⟨b, o, none⟩) e
  have f : ∀ o, W'.frozen? ⟨b, o, none⟩ = W.frozen? ⟨b, o, none⟩ := fun o => World.frozen?_of_block (a := ⟨b, o, none⟩) e
  exact ⟨Nat.lt_of_lt_of_le h.lt hg.size, (c 0).trans h.c0, (c 1).trans h.c1, (c 2).trans h.c2, (c 3).trans h.c3, (c 4).trans h.c4, (c 5).trans h.c5, (c 6).trans h.c6, fun o => (f o).trans (h.fz o)⟩

theorem Owns.below {w w' : World} {base : Nat} {v : Value} {xs : List Int} (h : Owns w base v xs) (hb : Below w.heap.size w w') : Owns w' base v xs := by
  refine ⟨h.1, ?_⟩
  rcases h.2 with hn | ⟨g, cap, cur, rfl, hb', hg, hr⟩
  · exact .inl hn
  · exact .inr ⟨g, cap, cur, rfl, hb', (hb.block g (Array.getElem?_eq_some_iff.1 hg).1).trans hg, hr⟩

theorem Owns.push {w : World} {base : Nat} {v : Value} {xs : List Int} {x : Int} (h : w.ownsRow base 3 1 v (xs.length + 1) (xs.map (.int .i64) ++ [.int .i64 x])) : Owns w base v (xs ++ [x]) := by
  unfold Owns
  rw [List.length_append, List.map_append]
  exact h

set_option maxHeartbeats 1000000 in
theorem rget_bad (I : Im) (x y : Int) (w : World) (hv : I.vB = false) :
    Calls Try.prog 20 #[I.v, .int .i64 x, .int .i64 y] w fun e w' => e = .returned (.tuple #[.slice none 0 0, .int .i64 420]) ∧ Below w.heap.size w w' := by
  have HR := right_any I
  rw [hv] at HR
  unfold Im.v Lay.img at *
  have HO := Lib.hid HR
  clear HR
  go_enter Try.func20, Try.ntmps20
  go_wp2_with fail
  (with_reducible refine (HO.out _).mono ?_)
  rintro e w1 ⟨rfl, hb⟩
  go_wp2_with fail
  go_ret2
  exact ⟨rfl, ((Below.refl _ _).alloc (Nat.le_refl _) _).trans (hb.mono (by simp))⟩

set_option maxHeartbeats 1000000 in
theorem rget_none (I : Im) (x y : Int) (w : World) (hv : I.vB = true) (ht : thereB I.L x y = false) :
    Calls Try.prog 20 #[I.v, .int .i64 x, .int .i64 y] w fun e w' => e = .returned (.tuple #[.slice none 0 0, .int .i64 2]) ∧ Below w.heap.size w w' := by
  have HR := right_any I
  rw [hv] at HR
  have HT := fun w => there_any I x y w (vB_yes hv).1
  rw [ht] at HT
  unfold Im.v Lay.img at *
  have HO := Lib.hid HR
  have HTT := Lib.hid HT
  clear HR HT
  go_enter Try.func20, Try.ntmps20
  go_wp2_with fail
  (with_reducible refine (HO.out _).mono ?_)
  rintro e w1 ⟨rfl, hb⟩
  obtain ⟨hc, hf, hz⟩ := after hb
  simp only [World.size_alloc] at hz
  have hx : w.heap.size < w1.heap.size := by omega
  go_wp2_with fail
  (with_reducible refine (HTT.out _).mono ?_)
  rintro e w2 ⟨rfl, hb2⟩
  go_wp2_with fail
  go_ret2
  exact ⟨rfl, ((Below.refl _ _).alloc (Nat.le_refl _) _).trans ((hb.mono (by simp)).trans (hb2.mono (by omega)))⟩

set_option maxHeartbeats 2000000 in
theorem rget_ok (I : Im) (x y : Int) (w : World) (hv : I.vB = true) (ht : thereB I.L x y = true) :
    Calls Try.prog 20 #[I.v, .int .i64 x, .int .i64 y] w (IntsPost ((List.range I.L.C.toNat).map fun c => I.L.fn I.O x y (c : Nat), 0) w) := by
  have HR := right_any I
  rw [hv] at HR
  have hok := (vB_yes hv).1
  have hc1 := hok.c1
  have hc2 := hok.c2
  have HT := fun w => there_any I x y w hok
  rw [ht] at HT
  obtain ⟨⟨x0, xW⟩, ⟨y0, yH⟩⟩ := (thereB_iff I.L x y).1 ht
  have HSM : ∀ (c : Nat) w, (c : Int) < I.L.C → _ := fun c w hc => rsample_any I x y c w hv ⟨⟨x0, xW⟩, ⟨y0, yH⟩, ⟨by omega, hc⟩⟩
  unfold Im.v Lay.img at *
  have HO := Lib.hid HR
  have HTT := Lib.hid HT
  have HS := Lib.hid HSM
  clear HR HT HSM
  obtain ⟨i0, hi, hz0, hz1, hz2⟩ : ∃ i, Try.prog.info? 3 = some i ∧ i.zero = some (.int .i64 0) ∧ i.size = 1 ∧ i.bytes = 8 := by
    have h := info_int
    cases e : Try.prog.info? 3 with
    | none => rw [e] at h; cases h
    | some i => rw [e] at h; simp at h; exact ⟨i, rfl, h.1, h.2.1, h.2.2⟩
  go_enter Try.func20, Try.ntmps20
  go_wp2_with fail
  (with_reducible refine (HO.out _).mono ?_)
  rintro e w1 ⟨rfl, hb⟩
  obtain ⟨hc, hf, hz⟩ := after hb
  simp only [World.size_alloc] at hz
  have hx : w.heap.size < w1.heap.size := by omega
  go_wp2_with fail
  (with_reducible refine (HTT.out _).mono ?_)
  rintro e w2 ⟨rfl, hb2⟩
  have hM : HasIm w2 w.heap.size I := (HasIm.below (W := w.alloc (.cells #[.int .i64 I.L.W, .int .i64 I.L.H, .int .i64 I.L.C, .int .i64 I.L.B, .bool I.L.pl, .int .i64 I.L.P, .string I.O] 31)) ⟨by go_simp, by go_simp, by go_simp, by go_simp, by go_simp, by go_simp, by go_simp, by go_simp, fun o => by go_simp⟩ hb).below hb2
  have hB2 : Below w.heap.size w w2 := ((Below.refl _ _).alloc (Nat.le_refl _) _).trans ((hb.mono (by simp)).trans (hb2.mono (by omega)))
  have HM := Lib.hid hM
  have HB2 := Lib.hid hB2
  clear hM hB2 hb hb2 hc hf
  go_wp2_with fail
  go_loopw [8, 9] (fun s i wr => ∃ (k : Nat) (ao : Option Addr) (cv : Nat), k ≤ I.L.C.toNat ∧ i = .int .i64 k ∧ s = .slice ao k cv ∧ Owns wr (w.heap.size + 1) s ((List.range k).map fun c => I.L.fn I.O x y (c : Nat)) ∧ HasIm wr w.heap.size I ∧ Below w.heap.size w wr) (fun _ i _ => I.L.C.toNat - (intOf i).toNat)
  case atStart => exact ⟨0, none, 0, Nat.zero_le _, rfl, rfl, Owns.nil _ _, HM.out, HB2.out⟩
  case round =>
    obtain ⟨k, ao, cv, hk, rfl, rfl, hown, hI, hB⟩ := hrel
    obtain ⟨il, i0', i1, i2, i3, i4, i5, i6, iz⟩ := hI
    have HI := Lib.hid (⟨il, i0', i1, i2, i3, i4, i5, i6, iz⟩ : HasIm wr w.heap.size I)
    have HB := Lib.hid hB
    have HOWN := Lib.hid hown
    clear hB
    by_cases hlt : (k : Int) < I.L.C
    · clear hown
      go_wp2_with fail
      (with_reducible refine (HS.out k _ hlt).mono ?_)
      rintro e w3 ⟨rfl, hb3⟩
      have hown3 := HOWN.out.below hb3
      have hsz3 := hb3.size
      have hszB := HB.out.size
      have HI3 := Lib.hid (HI.out.below hb3)
      have HB3 := Lib.hid (HB.out.trans (hb3.mono HB.out.size))
      clear hb3
      unfold Owns at hown3
      rw [List.length_map, List.length_range] at hown3
      go_wp2_with (first | (at_builtin; refine wpList_append_own _ rfl _ _ 44 rfl (w.heap.size + 1) 3 i0 (.int .i64 0) 1 8 Try.underlying44 hi hz0 hz1 hz2 rfl (by decide) _ _ _ rfl (hown3.alloc _) ⟨w3.heap.size, 0, none⟩ 1 1 [.int .i64 (I.L.fn I.O x y k)] rfl rfl (cell_one_new _ _ _) (fun x hx => by simp at hx; subst hx; rfl) (by unfold maxLen; omega) (by omega) (by simp; omega) ?_; intro v' w4 hown' hgrow3 hnil3))
      go_roundw
      case rel =>
        have hO : Owns w4 (w.heap.size + 1) v' ((List.range (k + 1)).map fun c => I.L.fn I.O x y (c : Nat)) := by
          rw [List.range_succ, List.map_append]
          exact Owns.push (by rw [List.length_map, List.length_range]; exact hown')
        have hO' := hO
        rw [List.range_succ, List.map_append] at hO
        obtain ⟨a4, c4, hv4, _, _, _⟩ := hO.slice
        have hlow : ∀ q, Value.ownBlock (.slice ao k cv) = some q → w.heap.size + 1 ≤ q := fun q hq => (hown3.lt q hq).1
        refine ⟨k + 1, a4, c4, by omega, by go_num, by rw [hv4]; simp, hO', ?_, ?_⟩
        · exact (HI3.out.below ((Below.refl _ _).alloc (Nat.le_refl _) _)).grownBy hgrow3 (fun e => by have := hlow _ e; omega)
        · exact (HB3.out.alloc (by omega) _).grown hgrow3 (by simp; omega) (fun q hq => by have := hlow q hq; omega)
      case measure => simp [intOf]; omega
    · have hkk : k = I.L.C.toNat := by omega
      have HKK := Lib.hid hkk
      obtain ⟨a4, c4, hv4, hi4, hlo4, _⟩ := hown.slice
      have HI4 := Lib.hid hi4
      have HLO := Lib.hid hlo4
      have HV4 := Lib.hid hv4
      clear hkk hown hi4 hlo4 hv4
      go_wp2_with fail
      go_ret2
      have hv4 := HV4.out
      rw [List.length_map, List.length_range] at hv4
      refine ⟨ao, cv, ?_, ?_, ?_, HB.out⟩
      · rw [List.length_map, List.length_range, ← HKK.out]; rfl
      · cases hv4; rw [← HKK.out]; exact HI4.out
      · cases hv4; exact fun c off e => by have := HLO.out c off e; omega

theorem rget_any (I : Im) (x y : Int) (w : World) : Calls Try.prog 20 #[I.v, .int .i64 x, .int .i64 y] w (IntsPost (getR I x y) w) := by
  unfold getR
  cases h : I.vB
  · refine (rget_bad I x y w h).mono ?_
    rintro e w' ⟨rfl, hb⟩
    exact ⟨none, 0, rfl, Ints_nil _, (by simp), hb⟩
  · cases ht : thereB I.L x y
    · refine (rget_none I x y w h ht).mono ?_
      rintro e w' ⟨rfl, hb⟩
      exact ⟨none, 0, rfl, Ints_nil _, (by simp), hb⟩
    · exact rget_ok I x y w h ht

end Go.Proofs.Ytphfbjeaklpddaa
