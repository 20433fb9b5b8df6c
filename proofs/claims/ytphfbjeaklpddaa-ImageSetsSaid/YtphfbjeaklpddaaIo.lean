/-
  Layer 42: open.
-/
import Derived.Test.YtphfbjeaklpddaaIv
import Derived.Laws.IdiomStrings
import Derived.Laws.BytesArg
namespace Go.Proofs.Ytphfbjeaklpddaa
open Go.RowKit

namespace Lay
/-- the image of a layout and octets -/
def img (L : Lay) (O : ByteArray) : Value := imgV L.W L.H L.C L.B L.pl L.P O
end Lay

/-- the octet at p of a string, 0 beyond -/
def octAt (O : ByteArray) (p : Int) : Int := ((O.data.toList[p.toNat]?.getD 0).toNat : Int)

def Lay.valid (L : Lay) (O : ByteArray) : Prop := L.ok ∧ (O.size : Int) = L.len ∧ ∀ p, 0 ≤ p → p < L.len → L.pad p → octAt O p = 0

theorem octAt_range (O : ByteArray) (p : Int) : 0 ≤ octAt O p ∧ octAt O p < 256 := by
  unfold octAt
  have := (O.data.toList[p.toNat]?.getD 0).toNat_lt
  omega

/-- block b holds the view of a layout, block b2 its octets -/
structure View (w : World) (base b b2 : Nat) (L : Lay) (g : Int → Int) : Prop where
  hd : Vw w b L.W L.H L.C L.B L.pl L.P
  fz : ∀ o, o < 8 → w.frozen? ⟨b, o, none⟩ = false
  o6 : ∃ s, w.cell? ⟨b, 6, none⟩ = some (.string s)
  sl : ∃ cap, w.cell? ⟨b, 7, none⟩ = some (.slice (some ⟨b2, 0, none⟩) L.len.toNat cap)
  bt : ∀ p : Nat, p < L.len.toNat → w.cell? ⟨b2, p, none⟩ = some (.int .u8 (g p)) ∧ w.frozen? ⟨b2, p, none⟩ = false
  ne : b ≠ b2
  b1 : base ≤ b
  b2 : base ≤ b2

/-- what '[]byte(s)' does -/
theorem conv_bytes {P : Program} (src dst : TypeId) (s : ByteArray) (hs : P.underlying src = some .string) (hd : P.underlying dst = some (.slice 5)) (he : P.underlying 5 = some (.int .u8)) :
    ∃ (cap : World → Nat) (C : World → Array Value), (∀ w, (convert src dst (.string s)).run P w = .ok (.slice (some ⟨w.heap.size, 0, none⟩) s.size (cap w)) (w.drew.alloc (.cells (C w) 5 ((C w).size, (C w).size + 1)))) ∧
      ∀ w (j : Nat), j < s.size → (C w)[j]? = some (.int .u8 (octAt s j)) := by
  refine ⟨fun w => grownCap w s.size 0 5, fun w => bytesRow s (grownCap w s.size 0 5), fun w => run_bytes_of_string w src dst _ s hs hd he, fun w j hj => ?_⟩
  have h' : j < s.data.size := hj
  rw [bytesRow_at _ _ _ h']
  unfold octAt
  rw [show s.data.toList[((j : Nat) : Int).toNat]? = some s.data[j] by simp]
  rfl

set_option maxHeartbeats 1000000 in
theorem open_bad1 (L : Lay) (O : ByteArray) (w : World) (h : shpB L.W L.H L.C L.B L.P = false) :
    Calls Try.prog 37 #[L.img O] w fun e w' => e = .returned (.tuple #[.pointer none, .int .i64 420]) ∧ Below w.heap.size w w' := by
  obtain ⟨W, H, C, B, pl, P⟩ := L
  unfold Lay.img
  dsimp only at h ⊢
  go_enter Try.func37, Try.ntmps37
  go_wp2
  go_step3
  go_wp2
  refine wp_region_grow (by kernel_rfl) (by kernel_rfl) ?_
  repeat (go_big_quiet_step ((go_at_call 63; exact calls_grow (shaped_any _ _ _ _ _ _ _ _))))
  refine wpQuiet_nil ?_
  intro _ hw'
  obtain ⟨nq, hw''⟩ := hw'
  subst hw''
  go_wp2
  rw [Exit.noGoto_ret]
  go_ret2
  refine ⟨rfl, (Below.trans ?_ ((grow_below _ _).mono ?_))⟩
  repeat (first | exact Below.refl _ _ | (refine Below.alloc ?_ ?_ _) | (refine Below.trans ?_ (Below.mono (by assumption) ?_)))
  all_goals ((try simp only [World.size_alloc]); omega)

set_option maxHeartbeats 1000000 in
theorem open_bad2 (L : Lay) (O : ByteArray) (w : World) (hok : L.ok) (hs : (O.size : Int) ≠ L.len) :
    Calls Try.prog 37 #[L.img O] w fun e w' => e = .returned (.tuple #[.pointer none, .int .i64 420]) ∧ Below w.heap.size w w' := by
  have h := (shpB_iff _ _ _ _ _).2 hok
  have hr := L.rows_bd hok
  have hst := L.row_str hok
  obtain ⟨W, H, C, B, pl, P⟩ := L
  unfold Lay.img
  unfold Lay.len Lay.rows Lay.str at *
  unfold Lay.row at *
  unfold Lay.ok at *
  dsimp only at h hs hok hr hst ⊢
  have hne : ((O.size : Int) != rowsS H C pl * strS W C B pl P) = true := by rw [bne_iff_ne]; exact hs
  obtain ⟨r1, r2⟩ := hr
  obtain ⟨_, s1, s2⟩ := hst
  obtain ⟨m1, m2⟩ := mul_bd (a := rowsS H C pl) (b := strS W C B pl P) (A := 256) (B := 520) (by omega) r2 (by omega) s2
  clear hs
  go_enter Try.func37, Try.ntmps37
  go_wp2
  go_step3
  go_wp2
  refine wp_region_grow (by kernel_rfl) (by kernel_rfl) ?_
  repeat (go_big_quiet_step (first
    | (go_at_call 63; exact calls_grow (shaped_any _ _ _ _ _ _ _ _))
    | (go_at_call 64; exact calls_grow (vrows_any _ W H C B pl P _ (Vw.below ⟨by go_simp, by go_simp, by go_simp, by go_simp, by go_simp, by go_simp⟩ (grow_below _ _)) hok))
    | (go_at_call 38; exact calls_grow (vstride_any _ W H C B pl P _ (Vw.below ⟨by go_simp, by go_simp, by go_simp, by go_simp, by go_simp, by go_simp⟩ (grow_below _ _)) hok))))
  refine wpQuiet_nil ?_
  intro _ hw'
  obtain ⟨nq, hw''⟩ := hw'
  subst hw''
  go_wp2
  rw [Exit.noGoto_ret]
  go_ret2
  refine ⟨rfl, (Below.trans ?_ ((grow_below _ _).mono ?_))⟩
  repeat (first | exact Below.refl _ _ | (refine Below.alloc ?_ ?_ _) | (refine Below.trans ?_ (Below.mono (by assumption) ?_)))
  all_goals ((try simp only [World.size_alloc]); omega)

end Go.Proofs.Ytphfbjeaklpddaa
