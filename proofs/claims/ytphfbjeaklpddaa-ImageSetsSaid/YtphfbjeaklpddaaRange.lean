/-
  A range over a function whose body never leaves early: one law, for method values and closures alike, in the walk that knows no fence.
-/
import Derived.Test.YtphfbjeaklpddaaGrow
import Derived.RangeFuncFrom
import Derived.RangeFuncCalls
import Derived.RangeFuncLeaves
import Derived.Shelf.Abstract
import Derived.Shelf.RegionOpen
import Derived.OwnWalkIn
import Derived.TacticsInMore
import Derived.LoopNIn
import Derived.LoopIn
namespace Go.Proofs.Ytphfbjeaklpddaa
open Go.RowKit Go.Shelf

/-- the iterator gf yields the elements xs in their order, whatever the rounds do that keeps Kp -/
def SeqAll {α : Type} (n : Nat) (P : Program) (gf : FuncId) (first caps : Array Value) (encs : α → Array Value) (xs : List α) (Kp : World → World → Prop) (w0 : World) : Prop :=
  ∀ (l : Nat) (J : Nat → World → Prop) (W : World), Below w0.heap.size w0 W →
    (∀ k x W1, xs[k]? = some x → J k W1 → YieldAt Fence.wide (n - 1) P l (encs x) W1 fun e W' => e = .returned (.bool true) ∧ J (k + 1) W' ∧ Kp W1 W') →
    J 0 W → CallsIn Fence.wide n P gf (first ++ #[.func (.yield l) #[] #[]] ++ caps) W fun e W' => (∃ v, e = .returned v) ∧ J xs.length W'

/-- a round's body has come to its end -/
def roundEnd (R : World → Prop) : Exit → Act → World → Prop
  | .normal, _, W' => R W'
  | _, _, _ => False

/-- the invariant bears a turn of the loop's own record -/
def Bears (B : Nat) (I : Nat → World → Prop) : Prop :=
  (∀ k W o, I k W → I k (W.alloc o)) ∧ ∀ k W l o o', I k W → B ≤ l → W.heap[l]? = some o → o.isCells = false → I k (W.putObj l o')

theorem wp_rangeSeq {P : Program} {α : Type} {g : Operand} {ps : Array Tmp} {assign body : Code} {Q : Exit → Act → World → Prop} {a : Act} {w : World} (n : Nat) (hn : 1 ≤ n)
    {gf : Nat} {first caps : Array Value} (hg : a.eval g = .func (.func gf) first caps) (eg : ∀ args w, (callFunc gf args).run P w = .ok (.enter gf args) w)
    {encs : α → Array Value} {xs : List α} {Kp : World → World → Prop} (hseq : SeqAll (n - 1) P gf first caps encs xs Kp w) (hps : ∀ x, (encs x).size = ps.size)
    (hKt : ∀ {A B C : World}, Kp A B → Kp B C → Kp A C) (hKb : ∀ (W : World) (l : Nat) (o o' : Obj), w.heap.size ≤ l → W.heap[l]? = some o → o.isCells = false → Kp W (W.putObj l o'))
    (I : Nat → World → Prop) (hI : Bears w.heap.size I) (h0 : I 0 w) (act : α → Act)
    (hassign : ∀ (l : Nat) (x : α) (W : World) (K : Act → World → Prop), K (act x) W →
      assign.wpIn (Fence.wide.inRound l) (n - 1 - 1) P (Exit.then K (fun _ _ _ => False)) { tmps := (ps.zip (encs x)).foldl (fun t (p, v) => t.setIfInBounds p v) a.tmps, defers := [] } W)
    (hbody : ∀ (l k : Nat) (x : α) (W : World), xs[k]? = some x → I k W → body.wpIn (Fence.wide.inRound l) (n - 1 - 1) P (roundEnd fun W' => KeepsOthers W W' ∧ Kp W W' ∧ I (k + 1) W') (act x) W)
    (hdone : ∀ (D : Nat) (W : World), w.heap.size ≤ D → I xs.length W → W.heap[D]? = some (.deferred (some [])) → Q .normal { a with defers := { target := .collected D, args := #[] } :: a.defers } W) :
    (Code.rangeFunc g ps assign body).wp P Q a w := by
  refine (wpIn_wide (n := n)).1 (wpIn_rangeFunc fun fn hfn => ?_)
  -- the loop's record, in each of its states
  let rec' : LoopState → Loop := fun st => { state := st, pending := none, fn, tmps := a.tmps, params := ps, assign, body, defers := w.heap.size }
  have hnew : ∀ (U : World) (o : Obj), (U.alloc o).heap[U.heap.size]? = some o := fun U o => World.alloc_heap_new U o
  let U1 := w.alloc (.deferred (some []))
  let U2 := U1.alloc (.loop (rec' .ready))
  have hs1 : U1.heap.size = w.heap.size + 1 := World.size_alloc _ _
  have hl2 : U2.heap[w.heap.size + 1]? = some (.loop (rec' .ready)) := by have := hnew U1 (.loop (rec' .ready)); rwa [hs1] at this
  have hd2 : U2.heap[w.heap.size]? = some (.deferred (some [])) := (Below.heap_alloc U1 _ _ (by omega)).trans (hnew w _)
  have hI2 : I 0 U2 := hI.1 _ _ _ (hI.1 _ _ _ h0)
  have hB2 : Below w.heap.size w U2 := ((Below.refl _ _).alloc (Nat.le_refl _) _).alloc (by simp) _
  refine ⟨w.heap.size + 1, [{ target := .collected w.heap.size, args := #[] }], U2, { target := .fn (.func gf) caps, args := first ++ #[.func (.yield (w.heap.size + 1)) #[] #[]] }, U2, gf,
    first ++ #[.func (.yield (w.heap.size + 1)) #[] #[]] ++ caps, U2, run_enterLoop_outer _ _ _ _ _, ?_, fun _ _ => trivial, ?_, fun _ => hn, ?_⟩
  · simp only [resolve, hg]
    simp [go_sem]
  · simp [invoke, go_sem, eg]
  -- what is carried from round to round
  let J : Nat → World → Prop := fun k W => I k W ∧ W.heap[w.heap.size + 1]? = some (.loop (rec' .ready)) ∧ W.heap[w.heap.size]? = some (.deferred (some []))
  refine (hseq (w.heap.size + 1) J U2 hB2 ?_ ⟨hI2, hl2, hd2⟩).mono ?_
  · rintro k x W hx ⟨hi, hl, hd⟩
    have hsz : w.heap.size + 1 < W.heap.size := (Array.getElem?_eq_some_iff.1 hl).1
    have hy := run_yield (P := P) (args := encs x) hl (hps x)
    refine ⟨fn, _, assign, body, hy, roundIn_of_wpIn trivial (hassign _ x W _ ⟨_, run_beginRound hl rfl, ?_⟩)⟩
    let V := W.putObj (w.heap.size + 1) (.loop (rec' .busy))
    have hlV : V.heap[w.heap.size + 1]? = some (.loop (rec' .busy)) := World.putObj_heap_same hsz
    have hdV : V.heap[w.heap.size]? = some (.deferred (some [])) := (World.putObj_heap_other (by omega)).trans hd
    have hkV : Kp W V := hKb W _ _ _ (by omega) hl rfl
    refine wpIn_mono (hbody (w.heap.size + 1) k x V hx (hI.2 _ _ _ _ _ hi (by omega) hl rfl)) ?_
    rintro e b W3 hp
    cases e <;> try exact hp.elim
    obtain ⟨ho, hk3, hi3⟩ := hp
    have hl3 := ho.same _ _ hlV rfl
    have hd3 := ho.same _ _ hdV rfl
    have hend := run_endRound (P := P) none hl3
    refine ⟨_, _, hend, rfl, ⟨hI.2 _ _ _ _ _ hi3 (by omega) hl3 rfl, World.putObj_heap_same (Array.getElem?_eq_some_iff.1 hl3).1, (World.putObj_heap_other (by omega)).trans hd3⟩, hKt (hKt hkV hk3) (hKb _ _ _ _ (by omega) hl3 rfl)⟩
  · rintro e W2 ⟨⟨v, rfl⟩, hi, hl, hd⟩
    exact ⟨none, _, run_endLoop (P := P) hl (by simp [rec']), hdone _ _ (Nat.le_refl _) (hI.2 _ _ _ _ _ hi (by omega) hl rfl) ((World.putObj_heap_other (by omega)).trans hd)⟩

/-- a function's contract from its body, where the body holds such a loop -/
theorem calls_marks {P : Program} {f : FuncId} {fn : Func} {c : Code} {args : Array Value} {w : World} {R : Ending → World → Prop} (n : Nat)
    (hf : P.funcs[f]? = some fn) (hb : fn.body = some c)
    (h : c.wp P (bodyPostM Fence.wide n P fn R) { tmps := args ++ Array.replicate (fn.ntmps - args.size) undef, defers := [] } w) : Calls P f args w R :=
  callsIn_wide.1 (callsIn_of_wp_marks hf hb trivial (wpIn_wide.2 h) rfl)

end Go.Proofs.Ytphfbjeaklpddaa
