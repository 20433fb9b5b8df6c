/-
  Joined texts: A calculus of states without addresses. A state says what the slots hold (X) and what the  · The calculus of states: an operation by itself (LT), and regions, drawn or not. · The calculus of states: a region that draws its order. One walk of the text's order serves · The calculus of states: the operations, one law each. · The calculus of states: the operations on memory, one law each.
-/
import Derived.WalkKit
import Derived.Below
import Derived.Orders
import Derived.Laws.CopyRow
import Derived.ChangeKeysEq
set_option linter.unusedSimpArgs false
set_option linter.unusedVariables false

/- A calculus of states without addresses. A state says what the slots hold (X) and what the blocks that the call has made hold (H); what the call was handed is data (D), which nothing that the call does can turn. The rules say how a state is represented in a world. -/
namespace Go.Proofs.YtaacgmcgmljjeaaGreat
open Go.RowKit

/-! ### data -/
/-- what is only read -/
inductive D where
  | bool (b : Bool)
  | int (k : IntKind) (n : Int)
  | str (s : ByteArray)
  /-- a slice of n elements of e cells each; c: all cells -/
  | sl (n e : Nat) (c : List D)
  /-- a slice of whose capacity nothing is known -/
  | slw (n e : Nat) (c : List D)
  | fn (f : FuncId)
  | nilf
  | nili
  /-- a pointer to nothing -/
  | nilp
  deriving Inhabited

inductive RD (w : World) (M : Nat → Prop) : Value → D → Prop where
  | bool (b : Bool) : RD w M (.bool b) (.bool b)
  | int (k : IntKind) (n : Int) : RD w M (.int k n) (.int k n)
  | str (s : ByteArray) : RD w M (.string s) (.str s)
  | fn (f : FuncId) : RD w M (.func (.func f) #[] #[]) (.fn f)
  | nilf : RD w M .nilFunc .nilf
  | nili : RD w M .nilIface .nili
  | nilp : RD w M (.pointer none) .nilp
  /-- nil itself: its elements have no cells -/
  | nil0 : RD w M (.slice none 0 0) (.sl 0 0 [])
  | nil (a : Option Addr) (cap e : Nat) (he : 0 < e) : RD w M (.slice a 0 cap) (.sl 0 e [])
  | sl (b off n cap e : Nat) (c : List D) (g : Nat → Value) (hn : 0 < n) (hcap : n ≤ cap) (hc : c.length = n * e) (hb : b < w.heap.size) (hm : ¬ M b)
      (hg : ∀ i, i < n * e → w.cell? ⟨b, off + i, .none⟩ = some (g i)) (hr : ∀ i x, c[i]? = some x → RD w M (g i) x) :
      RD w M (.slice (some ⟨b, off, .none⟩) n cap) (.sl n e c)
  | slw (a : Option Addr) (n cap e : Nat) (c : List D) (g : Nat → Value) (hc : c.length = n * e) (ha : 0 < n → ∃ b off, a = some ⟨b, off, .none⟩ ∧ b < w.heap.size ∧ ¬ M b ∧ ∀ i, i < n * e → w.cell? ⟨b, off + i, .none⟩ = some (g i))
      (hr : ∀ i x, c[i]? = some x → RD w M (g i) x) : RD w M (.slice a n cap) (.slw n e c)

/-! ### what slots hold -/
inductive X where
  | d (v : D)
  /-- a slice of n elements of e cells each: block id from its beginning -/
  | own (id n e : Nat)
  | ptr (id off : Nat)
  /-- a pointer to data -/
  | dptr (c : List D)
  | func (fn : Fn) (first caps : List X)
  | agg (cs : List X)
  | tup (vs : List X)
  /-- x, if g holds; else nothing: what an operation under a guard has left -/
  | opt (g : Bool) (x : X)
  | undef
  deriving Inhabited

abbrev Rho := Nat → Option (Nat × Nat)

inductive RV (w : World) (M : Nat → Prop) (ρ : Rho) : Value → X → Prop where
  | d {v : Value} {d : D} (h : RD w M v d) : RV w M ρ v (.d d)
  | own (id n e b cap : Nat) (h : ρ id = some (b, cap)) : RV w M ρ (.slice (some ⟨b, 0, none⟩) n cap) (.own id n e)
  | own0 (id e : Nat) : RV w M ρ (.slice none 0 0) (.own id 0 e)
  | ptr (id off b cap : Nat) (h : ρ id = some (b, cap)) : RV w M ρ (.pointer (some ⟨b, off, none⟩)) (.ptr id off)
  | dptr (b off : Nat) (c : List D) (g : Nat → Value) (hb : b < w.heap.size) (hm : ¬ M b) (hg : ∀ i, i < c.length → w.cell? ⟨b, off + i, none⟩ = some (g i))
      (hr : ∀ i x, c[i]? = some x → RD w M (g i) x) : RV w M ρ (.pointer (some ⟨b, off, none⟩)) (.dptr c)
  | func (fn : Fn) (fs cs : Array Value) (xs ys : List X) (hf : fs.size = xs.length) (hc : cs.size = ys.length)
      (h1 : ∀ (i : Nat) v x, fs[i]? = some v → xs[i]? = some x → RV w M ρ v x) (h2 : ∀ (i : Nat) v x, cs[i]? = some v → ys[i]? = some x → RV w M ρ v x) : RV w M ρ (.func fn fs cs) (.func fn xs ys)
  | agg (cs : Array Value) (xs : List X) (hs : cs.size = xs.length) (h : ∀ (i : Nat) v x, cs[i]? = some v → xs[i]? = some x → RV w M ρ v x) : RV w M ρ (.agg cs) (.agg xs)
  | tup (cs : Array Value) (xs : List X) (hs : cs.size = xs.length) (h : ∀ (i : Nat) v x, cs[i]? = some v → xs[i]? = some x → RV w M ρ v x) : RV w M ρ (.tuple cs) (.tup xs)
  | optT {v : Value} {x : X} (h : RV w M ρ v x) : RV w M ρ v (.opt true x)
  | optF (x : X) : RV w M ρ (.tuple #[]) (.opt false x)
  | undef (v : Value) : RV w M ρ v .undef

/-! ### steps of worlds -/
/-- from w to w': only blocks of T, and new ones, have turned -/
structure Turn (T : Nat → Prop) (w w' : World) : Prop where
  os : w'.os = w.os
  tape : w'.tape = w.tape
  output : w'.output = w.output
  size : w.heap.size ≤ w'.heap.size
  block : ∀ b, b < w.heap.size → ¬ T b → w'.heap[b]? = w.heap[b]?

theorem Turn.refl (T : Nat → Prop) (w : World) : Turn T w w := ⟨rfl, rfl, rfl, Nat.le_refl _, fun _ _ _ => rfl⟩
theorem Turn.of_below {T : Nat → Prop} {w w' : World} (h : Below w.heap.size w w') : Turn T w w' := ⟨h.os, h.tape, h.output, h.size, fun b hb _ => h.block b hb⟩
theorem Turn.mono {T T' : Nat → Prop} {w w' : World} (h : Turn T w w') (hT : ∀ b, b < w.heap.size → T b → T' b) : Turn T' w w' := ⟨h.os, h.tape, h.output, h.size, fun b hb ht => h.block b hb fun h' => ht (hT b hb h')⟩
theorem Turn.trans {T : Nat → Prop} {a b c : World} (h : Turn T a b) (k : Turn T b c) : Turn T a c :=
  ⟨k.os.trans h.os, k.tape.trans h.tape, k.output.trans h.output, Nat.le_trans h.size k.size, fun i hi ht => (k.block i (Nat.lt_of_lt_of_le hi h.size) ht).trans (h.block i hi ht)⟩
theorem Turn.below {T : Nat → Prop} {B : Nat} {a w w' : World} (h : Turn T w w') (hb : Below B a w) (hB : B ≤ w.heap.size) (hT : ∀ b, T b → B ≤ b) : Below B a w' :=
  hb.trans ⟨h.os, h.tape, h.output, h.size, fun k hk => h.block k (by omega) fun ht => by have := hT k ht; omega⟩

theorem Turn.below0 {w w' : World} (h : Turn (fun _ => False) w w') : Below w.heap.size w w' := ⟨h.os, h.tape, h.output, h.size, fun b hb => h.block b hb fun h => h⟩
/-- a block that may turn, or a new one, has turned -/
theorem Turn.set {F : Nat → Prop} {a w w' : World} {b : Nat} (h : Turn F a w) (k : Turn (· = b) w w') (hb : a.heap.size ≤ b ∨ F b) : Turn F a w' :=
  ⟨k.os.trans h.os, k.tape.trans h.tape, k.output.trans h.output, Nat.le_trans h.size k.size, fun i hi ht => by
    have hne : i ≠ b := by
      rintro rfl
      rcases hb with hb | hb
      · omega
      · exact ht hb
    exact (k.block i (Nat.lt_of_lt_of_le hi h.size) hne).trans (h.block i hi ht)⟩

theorem cell_eq {w w' : World} {b : Nat} (h : w'.heap[b]? = w.heap[b]?) (o : Nat) : w'.cell? ⟨b, o, none⟩ = w.cell? ⟨b, o, none⟩ := by
  simp only [World.cell?, h]

/-- M' has, of the blocks of w, those of M alone; w' differs from w in blocks of M alone -/
structure Later (w : World) (M : Nat → Prop) (w' : World) (M' : Nat → Prop) : Prop where
  size : w.heap.size ≤ w'.heap.size
  block : ∀ b, b < w.heap.size → ¬ M b → w'.heap[b]? = w.heap[b]?
  sub : ∀ b, b < w.heap.size → M' b → M b

theorem Later.refl (w : World) (M : Nat → Prop) : Later w M w M := ⟨Nat.le_refl _, fun _ _ _ => rfl, fun _ _ h => h⟩

theorem RD.later {w w' : World} {M M' : Nat → Prop} {v : Value} {d : D} (h : RD w M v d) (hl : Later w M w' M') : RD w' M' v d := by
  induction h with
  | bool b => exact .bool b
  | int k n => exact .int k n
  | str s => exact .str s
  | fn f => exact .fn f
  | nilf => exact .nilf
  | nili => exact .nili
  | nilp => exact .nilp
  | nil0 => exact .nil0
  | nil a cap e he => exact .nil a cap e he
  | sl b off n cap e c g hn hcap hc hb hm hg hr ih =>
    exact .sl b off n cap e c g hn hcap hc (Nat.lt_of_lt_of_le hb hl.size) (fun h => hm (hl.sub b hb h)) (fun i hi => (cell_eq (hl.block b hb hm) _).trans (hg i hi)) ih
  | slw a n cap e c g hc ha hr ih =>
    refine .slw a n cap e c g hc (fun h => ?_) ih
    obtain ⟨b, off, rfl, hb, hm, hg⟩ := ha h
    exact ⟨b, off, rfl, Nat.lt_of_lt_of_le hb hl.size, fun h => hm (hl.sub b hb h), fun i hi => (cell_eq (hl.block b hb hm) _).trans (hg i hi)⟩

def Ext (ρ ρ' : Rho) : Prop := ∀ id p, ρ id = some p → ρ' id = some p
theorem Ext.refl (ρ : Rho) : Ext ρ ρ := fun _ _ h => h
theorem Ext.trans {a b c : Rho} (h : Ext a b) (k : Ext b c) : Ext a c := fun id p e => k id p (h id p e)

theorem RV.later {w w' : World} {M M' : Nat → Prop} {ρ ρ' : Rho} {v : Value} {x : X} (h : RV w M ρ v x) (hl : Later w M w' M') (he : Ext ρ ρ') : RV w' M' ρ' v x := by
  induction h with
  | d h => exact .d (h.later hl)
  | own id n e b cap h => exact .own id n e b cap (he _ _ h)
  | own0 id e => exact .own0 id e
  | ptr id off b cap h => exact .ptr id off b cap (he _ _ h)
  | dptr b off c g hb hm hg hr => exact .dptr b off c g (Nat.lt_of_lt_of_le hb hl.size) (fun h => hm (hl.sub b hb h)) (fun i hi => (cell_eq (hl.block b hb hm) _).trans (hg i hi)) fun i x hx => (hr i x hx).later hl
  | func fn fs cs xs ys hf hc _ _ ih1 ih2 => exact .func fn fs cs xs ys hf hc ih1 ih2
  | agg cs xs hs _ ih => exact .agg cs xs hs ih
  | tup cs xs hs _ ih => exact .tup cs xs hs ih
  | optT _ ih => exact .optT ih
  | optF x => exact .optF x
  | undef v => exact .undef v

/-! ### the ids that a thing names -/
mutual
def X.ids : X → List Nat
  | .own id _ _ => [id]
  | .ptr id _ => [id]
  | .func _ a b => X.idsL a ++ X.idsL b
  | .agg cs => X.idsL cs
  | .tup cs => X.idsL cs
  | .opt _ x => x.ids
  | _ => []
def X.idsL : List X → List Nat
  | [] => []
  | x :: xs => x.ids ++ X.idsL xs
end

theorem X.mem_idsL {xs : List X} {x : X} {id : Nat} (hx : x ∈ xs) (hi : id ∈ x.ids) : id ∈ X.idsL xs := by
  induction xs with
  | nil => cases hx
  | cons y ys ih =>
    simp only [X.idsL, List.mem_append]
    rcases List.mem_cons.1 hx with rfl | h
    · exact .inl hi
    · exact .inr (ih h)

/-- a thing is represented by fewer names, if those that it names stay -/
theorem RV.fewer {w : World} {M : Nat → Prop} {ρ ρ' : Rho} {v : Value} {x : X} (h : RV w M ρ v x) (he : ∀ id, id ∈ x.ids → ρ' id = ρ id) : RV w M ρ' v x := by
  induction h with
  | d h => exact .d h
  | own id n e b cap h => exact .own id n e b cap ((he id (by simp [X.ids])).trans h)
  | own0 id e => exact .own0 id e
  | ptr id off b cap h => exact .ptr id off b cap ((he id (by simp [X.ids])).trans h)
  | dptr b off c g hb hm hg hr => exact .dptr b off c g hb hm hg hr
  | func fn fs cs xs ys hf hc _ _ ih1 ih2 =>
    exact .func fn fs cs xs ys hf hc (fun i v x hv hx => ih1 i v x hv hx fun id hid => he id (by simp only [X.ids, List.mem_append]; exact .inl (X.mem_idsL (List.mem_of_getElem? hx) hid)))
      (fun i v x hv hx => ih2 i v x hv hx fun id hid => he id (by simp only [X.ids, List.mem_append]; exact .inr (X.mem_idsL (List.mem_of_getElem? hx) hid)))
  | agg cs xs hs _ ih => exact .agg cs xs hs fun i v x hv hx => ih i v x hv hx fun id hid => he id (by simp only [X.ids]; exact X.mem_idsL (List.mem_of_getElem? hx) hid)
  | tup cs xs hs _ ih => exact .tup cs xs hs fun i v x hv hx => ih i v x hv hx fun id hid => he id (by simp only [X.ids]; exact X.mem_idsL (List.mem_of_getElem? hx) hid)
  | optT _ ih => exact .optT (ih fun id hid => he id (by simpa [X.ids] using hid))
  | optF x => exact .optF x
  | undef v => exact .undef v

/-- what stands behind a guard that holds -/
def X.opn : X → X
  | .opt b x => bif b then x else .undef
  | x => x

theorem RV.opn {w : World} {M : Nat → Prop} {ρ : Rho} {v : Value} {x : X} (h : RV w M ρ v x) : RV w M ρ v x.opn := by
  cases h with
  | optT h => exact h
  | optF x => exact .undef _
  | d h => exact .d h
  | own id n e b cap h => exact .own id n e b cap h
  | own0 id e => exact .own0 id e
  | ptr id off b cap h => exact .ptr id off b cap h
  | dptr b off c g hb hm hg hr => exact .dptr b off c g hb hm hg hr
  | func fn fs cs xs ys hf hc h1 h2 => exact .func fn fs cs xs ys hf hc h1 h2
  | agg cs xs hs h => exact .agg cs xs hs h
  | tup cs xs hs h => exact .tup cs xs hs h
  | undef v => exact .undef v

/-! ### blocks of the call's own -/
structure Ob where
  T : TypeId
  /-- the cells of an element -/
  e : Nat
  cs : List X

abbrev Heap := List (Nat × Option Ob)

def look : Heap → Nat → Option Ob
  | [], _ => none
  | (j, o) :: r, i => if j = i then o else look r i

abbrev Env := List (Nat × X)

def get : Env → Nat → X
  | [], _ => .undef
  | (j, x) :: r, i => if j = i then x else get r i

/-- what holds for the whole of a call: the world in which it began; the blocks that are its caller's own; the names that its caller had given -/
structure Ctx where
  w0 : World
  M0 : Nat → Prop
  ρ0 : Rho
  hM : ∀ b, M0 b → b < w0.heap.size
  /-- the blocks of its caller that it was handed, to turn -/
  F : Nat → Prop := fun _ => False
  hF : ∀ b, F b → ¬ M0 b := by exact fun _ h => h.elim

/-- the blocks that may turn -/
def Mt (ρ : Rho) (H : Heap) (b : Nat) : Prop := ∃ id o cap, look H id = some o ∧ ρ id = some (b, cap)
def Ctx.M (G : Ctx) (ρ : Rho) (H : Heap) (b : Nat) : Prop := G.M0 b ∨ Mt ρ H b

structure Sat (G : Ctx) (ρ : Rho) (H : Heap) (w : World) : Prop where
  below : Turn G.F G.w0 w
  base : Ext G.ρ0 ρ
  inj : ∀ id id' b cap cap', look H id ≠ none → look H id' ≠ none → ρ id = some (b, cap) → ρ id' = some (b, cap') → id = id'
  obj : ∀ id o, look H id = some o → (o.cs = [] ∧ ρ id = none) ∨ ∃ b cap cs, ρ id = some (b, cap) ∧ (G.w0.heap.size ≤ b ∨ G.F b) ∧ w.heap[b]? = some (.cells cs o.T (0, 0)) ∧ cs.size = cap * o.e ∧ o.cs.length ≤ cs.size ∧
    ∀ (i : Nat) v x, cs[i]? = some v → o.cs[i]? = some x → RV w (G.M ρ H) ρ v x

theorem Sat.size {G : Ctx} {ρ : Rho} {H : Heap} {w : World} (h : Sat G ρ H w) : G.w0.heap.size ≤ w.heap.size := h.below.size

theorem lt_of_heap {w : World} {b : Nat} {o : Obj} (h : w.heap[b]? = some o) : b < w.heap.size := (Array.getElem?_eq_some_iff.1 h).1

theorem Sat.Mt_lt {G : Ctx} {ρ : Rho} {H : Heap} {w : World} (h : Sat G ρ H w) {b : Nat} (hm : Mt ρ H b) : (G.w0.heap.size ≤ b ∨ G.F b) ∧ b < w.heap.size := by
  obtain ⟨id, o, cap, hl, hr⟩ := hm
  rcases h.obj id o hl with ⟨_, hn⟩ | ⟨b', cap', cs, hr', hb, hh, _⟩
  · rw [hr] at hn; cases hn
  · rw [hr] at hr'
    cases hr'
    exact ⟨hb, lt_of_heap hh⟩

theorem Sat.M_lt {G : Ctx} {ρ : Rho} {H : Heap} {w : World} (h : Sat G ρ H w) {b : Nat} (hm : G.M ρ H b) : b < w.heap.size := by
  rcases hm with hm | hm
  · exact Nat.lt_of_lt_of_le (G.hM b hm) h.size
  · exact (h.Mt_lt hm).2

/-- the world has only grown -/
theorem Sat.grow {G : Ctx} {ρ : Rho} {H : Heap} {w w' : World} (h : Sat G ρ H w) (hb : Below w.heap.size w w') : Sat G ρ H w' := by
  have hl : Later w (G.M ρ H) w' (G.M ρ H) := ⟨hb.size, fun b h1 _ => hb.block b h1, fun _ _ h => h⟩
  refine ⟨h.below.trans (.of_below hb), h.base, h.inj, fun id o ho => ?_⟩
  rcases h.obj id o ho with hz | ⟨b, cap, cs, h1, h2, h3, h4, h5, h6⟩
  · exact .inl hz
  · exact .inr ⟨b, cap, cs, h1, h2, (hb.block b (lt_of_heap h3)).trans h3, h4, h5, fun i v x hv hx => (h6 i v x hv hx).later hl (Ext.refl _)⟩

theorem later_grow {M : Nat → Prop} {w w' : World} (hb : Below w.heap.size w w') : Later w M w' M := ⟨hb.size, fun b h1 _ => hb.block b h1, fun _ _ h => h⟩

/-! ### states -/
structure St where
  E : Env
  H : Heap
  /-- the names that have been given -/
  U : List Nat

/-- how many slots -/
structure Rep (G : Ctx) (N : Nat) (ρ : Rho) (s : St) (a : Act) (w : World) : Prop where
  sat : Sat G ρ s.H w
  env : ∀ t, RV w (G.M ρ s.H) ρ (a.tmps.getD t undef) (get s.E t)
  used : ∀ id, ρ id ≠ none → G.ρ0 id = none → id ∈ s.U
  size : a.tmps.size = N
  defers : a.defers = []

/-- the code c, from state s on -/
def AW (P : Program) (G : Ctx) (N : Nat) (c : Code) (s : St) (Q : Exit → St → Prop) : Prop :=
  ∀ ρ a w, Rep G N ρ s a w → ∀ K : Exit → Act → World → Prop, (∀ ex s' ρ' a' w', Q ex s' → Rep G N ρ' s' a' w' → K ex a' w') → c.wp P K a w

section rules
variable {P : Program} {G : Ctx} {N : Nat} {s : St} {Q : Exit → St → Prop}

theorem AW.mono {c : Code} {Q' : Exit → St → Prop} (h : AW P G N c s Q) (hq : ∀ ex s', Q ex s' → Q' ex s') : AW P G N c s Q' :=
  fun ρ a w hr K hK => h ρ a w hr K fun ex s' ρ' a' w' hh hr' => hK ex s' ρ' a' w' (hq _ _ hh) hr'

def aft (Q : Exit → St → Prop) (R : St → Prop) : Exit → St → Prop
  | .normal, s' => R s'
  | ex, s' => Q ex s'

theorem aw_seq {c d : Code} (h : AW P G N c s (aft Q fun s' => AW P G N d s' Q)) : AW P G N (.seq c d) s Q := by
  intro ρ a w hr K hK
  refine wp_seq (h ρ a w hr _ fun ex s' ρ' a' w' hq hr' => ?_)
  cases ex <;> first
    | exact hq ρ' a' w' hr' K hK
    | exact hK _ s' ρ' a' w' hq hr'

theorem aw_skip (h : Q .normal s) : AW P G N .skip s Q := fun ρ a w hr _ hK => wp_skip (hK _ s ρ a w h hr)
theorem aw_label {l : Nat} (h : Q .normal s) : AW P G N (.label l) s Q := fun ρ a w hr _ hK => wp_label (hK _ s ρ a w h hr)
theorem aw_ret (h : Q .ret s) : AW P G N .ret s Q := fun ρ a w hr _ hK => wp_ret (hK _ s ρ a w h hr)
theorem aw_exit {id : Nat} (h : Q (.exit id) s) : AW P G N (.exit id) s Q := fun ρ a w hr _ hK => wp_exit (hK _ s ρ a w h hr)

def inBlk (id : Nat) (Q : Exit → St → Prop) : Exit → St → Prop
  | .exit id', s' => if id' = id then Q .normal s' else Q (.exit id') s'
  | ex, s' => Q ex s'

theorem aw_block {id : Nat} {c : Code} (h : AW P G N c s (inBlk id Q)) : AW P G N (.block id c) s Q := by
  intro ρ a w hr K hK
  refine wp_block (h ρ a w hr _ fun ex s' ρ' a' w' hq hr' => ?_)
  cases ex <;> try exact hK _ s' ρ' a' w' hq hr'
  rename_i id'
  simp only [inBlk] at hq
  simp only [Exit.inBlock]
  split
  · rename_i e; rw [if_pos e] at hq; exact hK _ s' ρ' a' w' hq hr'
  · rename_i e; rw [if_neg e] at hq; exact hK _ s' ρ' a' w' hq hr'

theorem RV.bool_inv {w : World} {M : Nat → Prop} {ρ : Rho} {v : Value} {b : Bool} (h : RV w M ρ v (.d (.bool b))) : v = .bool b := by
  cases h with | d h => cases h; rfl
theorem RV.int_inv {w : World} {M : Nat → Prop} {ρ : Rho} {v : Value} {k : IntKind} {n : Int} (h : RV w M ρ v (.d (.int k n))) : v = .int k n := by
  cases h with | d h => cases h; rfl
theorem RV.str_inv {w : World} {M : Nat → Prop} {ρ : Rho} {v : Value} {b : ByteArray} (h : RV w M ρ v (.d (.str b))) : v = .string b := by
  cases h with | d h => cases h; rfl

theorem aw_cond {t : Nat} {c d : Code} (b : Bool) (hb : get s.E t = .d (.bool b)) (h1 : b = true → AW P G N c s Q) (h2 : b = false → AW P G N d s Q) : AW P G N (.cond (.tmp t) c d) s Q := by
  intro ρ a w hr K hK
  have he : a.eval (.tmp t) = .bool b := by
    have := hr.env t
    rw [hb] at this
    exact this.bool_inv
  cases b
  · exact wp_cond_false he (h2 rfl ρ a w hr K hK)
  · exact wp_cond_true he (h1 rfl ρ a w hr K hK)

/-- whatever is represented by s is represented by s' -/
def Weak (G : Ctx) (N : Nat) (s s' : St) : Prop := ∀ ρ a w, Rep G N ρ s a w → ∃ ρ', Rep G N ρ' s' a w

theorem Weak.refl (s : St) : Weak G N s s := fun ρ _ _ h => ⟨ρ, h⟩
theorem Weak.trans {s' s'' : St} (h : Weak G N s s') (k : Weak G N s' s'') : Weak G N s s'' := fun ρ a w hr => let ⟨ρ', hr'⟩ := h ρ a w hr; k ρ' a w hr'

theorem aw_weak {s' : St} {c : Code} (hw : Weak G N s s') (h : AW P G N c s' Q) : AW P G N c s Q := by
  intro ρ a w hr K hK
  obtain ⟨ρ', hr'⟩ := hw ρ a w hr
  exact h ρ' a w hr' K hK

/-- a loop, by a family of states with a measure -/
theorem aw_loop {c : Code} {α : Type} (I : α → St) (μ : α → Nat) (x0 : α) (h0 : Weak G N s (I x0))
    (h : ∀ x, AW P G N c (I x) (aft Q fun s' => ∃ y, μ y < μ x ∧ Weak G N s' (I y))) : AW P G N (.loop c) s Q := by
  intro ρ a w hr K hK b k cs
  have key : ∀ n x ρ a w, μ x = n → Rep G N ρ (I x) a w → ∃ e a' w', K e a' w' ∧ Arrives P (lone (b.at a (.code c :: .inLoop c :: k)) cs w) b k cs e a' w' := by
    intro n
    induction n using Nat.strongRecOn with
    | _ n ih =>
      intro x ρ a w hn hr
      obtain ⟨e, a₁, w₁, hq, harr⟩ := h x ρ a w hr (fun ex a' w' => match ex with | .normal => ∃ y ρ', μ y < μ x ∧ Rep G N ρ' (I y) a' w' | ex => K ex a' w')
        (fun ex s' ρ' a' w' hq hr' => by
          cases ex <;> try exact hK _ s' ρ' a' w' hq hr'
          obtain ⟨y, hy, hwk⟩ := hq
          obtain ⟨ρ3, h3⟩ := hwk ρ' a' w' hr'
          exact ⟨y, ρ3, hy, h3⟩) b (.inLoop c :: k) cs
      cases e with
      | normal =>
        obtain ⟨y, ρ', hlt, hr'⟩ := hq
        obtain ⟨e₂, a₂, w₂, hq₂, harr₂⟩ := ih (μ y) (hn ▸ hlt) y ρ' a₁ w₁ rfl hr'
        exact ⟨e₂, a₂, w₂, hq₂, .of_steps (Steps.trans harr (.one step_inLoop)) harr₂⟩
      | exit id => exact ⟨_, a₁, w₁, hq, .pass (x := .inLoop c) rfl (fun _ _ => .inl (by simp)) harr⟩
      | goto l => exact ⟨_, a₁, w₁, hq, .pass (x := .inLoop c) rfl (fun _ _ => .inl (by simp)) harr⟩
      | ret => exact ⟨_, a₁, w₁, hq, .pass (x := .inLoop c) rfl (fun _ _ => .inl (by simp)) harr⟩
      | panic ch => exact ⟨_, a₁, w₁, hq, .pass (x := .inLoop c) rfl (fun _ _ => .inl (by simp)) harr⟩
      | outgrown => exact ⟨_, a₁, w₁, hq, .pass (x := .inLoop c) rfl (fun _ _ => .inl (by simp)) harr⟩
  obtain ⟨ρ0, h00⟩ := h0 ρ a w hr
  obtain ⟨e, a', w', hq, harr⟩ := key _ x0 ρ0 a w rfl h00
  exact ⟨e, a', w', hq, .of_steps (.one step_loop) harr⟩

/-! ### less is known -/
def subE : Env → Env → Prop
  | [], _ => True
  | (t, x) :: r, E => get E t = x ∧ subE r E
def subH : Heap → Heap → Prop
  | [], _ => True
  | (i, o) :: r, H => look H i = o ∧ subH r H
def Env.ids : Env → List Nat
  | [] => []
  | (_, x) :: r => x.ids ++ Env.ids r
def Heap.ids : Heap → List Nat
  | [] => []
  | (_, some o) :: r => X.idsL o.cs ++ Heap.ids r
  | (_, none) :: r => Heap.ids r

theorem subE_get {E' E : Env} (h : subE E' E) (t : Nat) : get E' t = .undef ∨ (get E' t = get E t ∧ ∀ id, id ∈ (get E' t).ids → id ∈ E'.ids) := by
  induction E' with
  | nil => exact .inl rfl
  | cons p r ih =>
    obtain ⟨j, x⟩ := p
    obtain ⟨h1, h2⟩ := h
    by_cases hj : j = t
    · subst hj
      refine .inr ⟨by simp [get, h1], fun id hid => ?_⟩
      simp only [get, if_true] at hid
      simp [Env.ids, hid]
    · simp only [get, if_neg hj]
      rcases ih h2 with h3 | ⟨h3, h4⟩
      · exact .inl h3
      · exact .inr ⟨h3, fun id hid => by simp [Env.ids, h4 id hid]⟩

theorem subH_look {H' H : Heap} (h : subH H' H) {id : Nat} {o : Ob} (hl : look H' id = some o) : look H id = some o ∧ ∀ i, i ∈ X.idsL o.cs → i ∈ H'.ids := by
  induction H' with
  | nil => cases hl
  | cons p r ih =>
    obtain ⟨j, x⟩ := p
    obtain ⟨h1, h2⟩ := h
    by_cases hj : j = id
    · subst hj
      simp only [look, if_true] at hl
      subst hl
      exact ⟨h1, fun i hi => by simp [Heap.ids, hi]⟩
    · simp only [look, if_neg hj] at hl
      obtain ⟨h3, h4⟩ := ih h2 hl
      refine ⟨h3, fun i hi => ?_⟩
      cases x <;> simp [Heap.ids, h4 i hi]

theorem weak_of (E' : Env) (H' : Heap) (U' : List Nat) (hE : subE E' s.E) (hH : subH H' s.H) (hU : (E'.ids ++ H'.ids ++ H'.map (·.1)).all (U'.contains ·) = true) : Weak G N s ⟨E', H', U'⟩ := by
  classical
  intro ρ a w hr
  simp only [List.all_eq_true, List.mem_append, List.contains_iff_mem] at hU
  let ρ' : Rho := fun id => if G.ρ0 id ≠ none ∨ id ∈ U' then ρ id else none
  have hsame : ∀ id, id ∈ U' → ρ' id = ρ id := fun id h => if_pos (.inr h)
  have hdom : ∀ {id}, look H' id ≠ none → id ∈ U' := by
    intro id h
    refine hU id (.inr ?_)
    clear hE hU hH
    induction H' with
    | nil => exact absurd rfl h
    | cons p r ih =>
      obtain ⟨j, x⟩ := p
      by_cases hj : j = id
      · subst hj; simp
      · simp only [look, if_neg hj] at h
        have := ih h
        simp only [List.map_cons, List.mem_cons]
        exact .inr this
  have hmt : ∀ b, Mt ρ' H' b → Mt ρ s.H b := by
    rintro b ⟨id, o, cap, hl, hr⟩
    refine ⟨id, o, cap, (subH_look hH hl).1, ?_⟩
    rw [← hsame id (hdom (by rw [hl]; simp))]
    exact hr
  have hl : Later w (G.M ρ s.H) w (G.M ρ' H') := ⟨Nat.le_refl _, fun _ _ _ => rfl, fun b _ h => h.imp id (hmt b)⟩
  refine ⟨ρ', ⟨hr.sat.below, ?_, ?_, ?_⟩, ?_, ?_, hr.size, hr.defers⟩
  · intro id p hp
    show (if _ then _ else _) = _
    rw [if_pos (.inl (by rw [hp]; simp))]
    exact hr.sat.base id p hp
  · intro id id' b cap cap' h1 h2 h3 h4
    rw [hsame _ (hdom h1)] at h3
    rw [hsame _ (hdom h2)] at h4
    cases e1 : look H' id with
    | none => exact absurd e1 h1
    | some o =>
      cases e2 : look H' id' with
      | none => exact absurd e2 h2
      | some o' => exact hr.sat.inj id id' b cap cap' (by rw [(subH_look hH e1).1]; simp) (by rw [(subH_look hH e2).1]; simp) h3 h4
  · intro id o ho
    obtain ⟨h1, h2⟩ := subH_look hH ho
    rcases hr.sat.obj id o h1 with ⟨z1, z2⟩ | ⟨b, cap, cs, g1, g2, g3, g4, g5, g6⟩
    · exact .inl ⟨z1, (hsame id (hdom (by rw [ho]; simp))).trans z2⟩
    refine .inr ⟨b, cap, cs, (hsame id (hdom (by rw [ho]; simp))).trans g1, g2, g3, g4, g5, fun i v x hv hx => ?_⟩
    exact ((g6 i v x hv hx).later hl (Ext.refl _)).fewer fun i hi => hsame i (hU i (.inl (.inr (h2 i (X.mem_idsL (List.mem_of_getElem? hx) hi)))))
  · intro t
    rcases subE_get hE t with h | ⟨h1, h2⟩
    · rw [h]; exact .undef _
    · have := hr.env t
      rw [← h1] at this
      exact (this.later hl (Ext.refl _)).fewer fun i hi => hsame i (hU i (.inl (.inl (h2 i hi))))
  · intro id hid h0
    by_cases h : G.ρ0 id ≠ none ∨ id ∈ U'
    · rcases h with h | h
      · exact absurd h0 h
      · exact h
    · exact absurd (if_neg h) hid

end rules
end Go.Proofs.YtaacgmcgmljjeaaGreat

/- The calculus of states: an operation by itself (LT), and regions, drawn or not. -/
namespace Go.Proofs.YtaacgmcgmljjeaaGreat
open Go.RowKit

/-- what a constant is -/
def cL : Value → X
  | .bool b => .d (.bool b)
  | .int k n => .d (.int k n)
  | .string s => .d (.str s)
  | .slice none 0 0 => .d (.sl 0 0 [])
  | .nilFunc => .d .nilf
  | .nilIface => .d .nili
  | .pointer none => .d .nilp
  | _ => .undef

def cX : Value → X
  | .agg cs => .agg (cs.toList.map cL)
  | v => cL v

def opX (E : Env) : Operand → X
  | .tmp t => (get E t).opn
  | .const v => cX v
  | .global _ => .undef
  | .func f => .d (.fn f)

theorem cL_rel (w : World) (M : Nat → Prop) (ρ : Rho) (v : Value) : RV w M ρ v (cL v) := by
  unfold cL
  split
  · exact .d (.bool _)
  · exact .d (.int _ _)
  · exact .d (.str _)
  · exact .d .nil0
  · exact .d .nilf
  · exact .d .nili
  · exact .d .nilp
  · exact .undef _

theorem cX_rel (w : World) (M : Nat → Prop) (ρ : Rho) (v : Value) : RV w M ρ v (cX v) := by
  unfold cX
  split
  · rename_i cs
    refine .agg _ _ (by simp) fun i v x hv hx => ?_
    rw [List.getElem?_map] at hx
    have h : cs.toList[i]? = some v := by simpa using hv
    rw [h] at hx
    cases hx
    exact cL_rel w M ρ v
  · exact cL_rel w M ρ _

theorem opX_rel {w : World} {M : Nat → Prop} {ρ : Rho} {E : Env} {a : Act} (h : ∀ t, RV w M ρ (a.tmps.getD t undef) (get E t)) (y : Operand) : RV w M ρ (a.eval y) (opX E y) := by
  cases y with
  | tmp t => exact (h t).opn
  | const v => exact cX_rel w M ρ v
  | global g => exact .undef _
  | func f => exact .d (.fn f)

abbrev Upds := List (Nat × Option Ob)

/-- the operation o by itself: it reads the names R, gives the names nw, turns the blocks as u says, and answers x -/
def LT (P : Program) (o : Oper) (E : Env) (H : Heap) (R nw : List Nat) (u : Upds) (x : X) : Prop :=
  ∀ (G : Ctx) (ρ : Rho) (H1 : Heap) (a : Act) (w : World), Sat G ρ H1 w → (∀ y, y ∈ o.op.operands.toList → RV w (G.M ρ H1) ρ (a.eval y) (opX E y)) → (∀ id, id ∈ R → look H1 id = look H id) → (∀ id, id ∈ nw → ρ id = none) →
    ∀ (next : Act → World → Prop) (Q : Exit → Act → World → Prop),
      (∀ v w' ρ', Ext ρ ρ' → (∀ id, ρ' id ≠ none → ρ id ≠ none ∨ id ∈ nw) → Later w (G.M ρ H1) w' (G.M ρ' (u ++ H1)) → RV w' (G.M ρ' (u ++ H1)) ρ' v x → Sat G ρ' (u ++ H1) w' → next (a.put o.dst v) w') →
      o.wp P a w next Q

/-- what is claimed of an operation: its answer, its turns, the names that it gives and reads -/
structure Sp where
  x : X
  u : Upds := []
  nw : List Nat := []
  R : List Nat := []

def St.step (s : St) (dst : Option Nat) (p : Sp) : St :=
  ⟨match dst with | some d => (d, p.x) :: s.E | none => s.E, p.u ++ s.H, p.nw ++ s.U⟩

/-- is the operation wanted? -/
def wantX (ops : Array Oper) (E : Env) (o : Oper) : Option Bool :=
  match o.guard with
  | none => some true
  | some (j, want) =>
    match (ops[j]?).bind (·.dst) with
    | none => none
    | some t => match get E t with
      | .d (.bool b) => some (b == want)
      | .opt g (.d (.bool b)) => some (g && (b == want))
      | .tup [] => some false
      | _ => none

/-- an operation and what is claimed of it -/
def Ok1 (P : Program) (ops : Array Oper) (o : Oper) (s : St) (p : Sp) : Prop :=
  (wantX ops s.E o = some true ∧ LT P o s.E s.H p.R p.nw p.u p.x) ∨ (wantX ops s.E o = some false ∧ p.x = .tup [] ∧ p.u = []) ∨
  (∃ g y, wantX ops s.E o = some g ∧ p.x = .opt g y ∧ p.u = [] ∧ (g = true → LT P o s.E s.H p.R p.nw [] y))

def OkL (P : Program) (ops : Array Oper) : List Oper → List Sp → St → Prop
  | [], _, _ => True
  | _ :: _, [], _ => False
  | o :: os, p :: ps, s => Ok1 P ops o s p ∧ OkL P ops os ps (s.step o.dst p)

/-- the state behind a region -/
def runL : List Oper → List Sp → St → St
  | o :: os, p :: ps, s => runL os ps (s.step o.dst p)
  | _, _, s => s

theorem wantX_spec {ops : Array Oper} {E : Env} {o : Oper} {b : Bool} (h : wantX ops E o = some b) {w : World} {M : Nat → Prop} {ρ : Rho} {a : Act}
    (hs : ∀ t, ops.any (fun o => o.dst == some t) = true → t < a.tmps.size)
    (hr : ∀ t, t ∈ o.looksAt ops → RV w M ρ (a.tmps.getD t undef) (get E t)) : Region.wanted o (yielded ops a.tmps) = b := by
  unfold wantX at h
  unfold Region.wanted
  split at h
  · rename_i hg
    simp only [hg]
    cases h; rfl
  · rename_i j want hg
    simp only [hg]
    split at h
    · cases h
    · rename_i t ht
      have hlt : t < a.tmps.size := by
        refine hs t ?_
        rw [Array.any_eq_true]
        cases hj : ops[j]? with
        | none => rw [hj] at ht; cases ht
        | some oj =>
          rw [hj] at ht
          obtain ⟨hl, he⟩ := Array.getElem?_eq_some_iff.1 hj
          exact ⟨j, hl, by rw [he]; simpa using ht⟩
      have hm : t ∈ o.looksAt ops := by
        unfold Oper.looksAt
        refine List.mem_append_right _ ?_
        simp [hg, ht]
      have hv := hr t hm
      have hget : a.tmps[t]? = some (a.tmps.getD t undef) := by simp [hlt]
      unfold yielded
      rw [ht]
      simp only [Option.bind_some, hget]
      split at h
      · rename_i b' hx
        rw [hx] at hv
        rw [hv.bool_inv]
        cases h
        cases b' <;> cases want <;> rfl
      · rename_i g b' hx
        rw [hx] at hv
        generalize a.tmps.getD t undef = v at hv
        cases h
        cases hv with
        | optT hv => rw [hv.bool_inv]; cases b' <;> cases want <;> rfl
        | optF => rfl
      · rename_i hx
        rw [hx] at hv
        generalize a.tmps.getD t undef = v at hv
        cases hv
        cases h
        rfl
      · cases h

/-! ### one operation in a represented state -/
theorem get_step (s : St) (dst : Option Nat) (p : Sp) (t : Nat) : get (s.step dst p).E t = if dst = some t then p.x else get s.E t := by
  cases dst with
  | none => simp [St.step]
  | some d =>
    simp only [St.step, get, Option.some.injEq]

theorem getD_put {a : Act} {dst : Option Nat} {v : Value} {t : Nat} : (a.put dst v).tmps.getD t undef = if dst = some t ∧ t < a.tmps.size then v else a.tmps.getD t undef := by
  cases dst with
  | none => simp [Act.put]
  | some d =>
    simp only [Act.put, Option.some.injEq]
    by_cases h : d = t
    · subst h
      by_cases hl : d < a.tmps.size
      · simp [hl]
      · simp [hl, Array.getD, Array.setIfInBounds]
    · simp [h, Array.getElem?_setIfInBounds_ne h]

theorem size_put {a : Act} {dst : Option Nat} {v : Value} : (a.put dst v).tmps.size = a.tmps.size := by
  cases dst <;> simp [Act.put]

theorem defers_put {a : Act} {dst : Option Nat} {v : Value} : (a.put dst v).defers = a.defers := by
  cases dst <;> rfl

section
variable {P : Program} {ops : Array Oper} {G : Ctx} {N : Nat}

/-- an operation, executed where the state s' stands; what is claimed of it is claimed at s, and what it looks at is the same in both -/
theorem step_rep {o : Oper} {s s' : St} {p : Sp} {ρ : Rho} {a : Act} {w : World} (i : Nat) (hi : ops[i]? = some o) (hr : Rep G N ρ s' a w) (hok : Ok1 P ops o s p)
    (hN : ∀ t, ops.any (fun o => o.dst == some t) = true → t < N)
    (hE : ∀ t, t ∈ o.looksAt ops → get s'.E t = get s.E t) (hR : ∀ id, id ∈ p.R → look s'.H id = look s.H id) (hnew : ∀ id, id ∈ p.nw → ρ id = none)
    (K : Act → World → Prop) (Q : Exit → Act → World → Prop) (hK : ∀ ρ' a' w', Rep G N ρ' (s'.step o.dst p) a' w' → Ext ρ ρ' → (∀ id, ρ' id ≠ none → ρ id ≠ none ∨ id ∈ p.nw) → K a' w') : wpOp P ops Q i K a w := by
  have hlooks : ∀ t, t ∈ o.looksAt ops → RV w (G.M ρ s'.H) ρ (a.tmps.getD t undef) (get s.E t) := fun t ht => by rw [← hE t ht]; exact hr.env t
  have hd : ∀ t, o.dst = some t → t < a.tmps.size := fun t ht => by
    rw [hr.size]
    refine hN t ?_
    rw [Array.any_eq_true]
    obtain ⟨hl, he⟩ := Array.getElem?_eq_some_iff.1 hi
    exact ⟨i, hl, by rw [he]; simpa using ht⟩
  have hyes : ∀ (q : Sp) (x : X), q = p → LT P o s.E s.H p.R p.nw p.u x → (∀ w M ρ v, RV w M ρ v x → RV w M ρ v p.x) → o.wp P a w K Q := by
    rintro q x rfl hlt hx
    refine hlt G ρ s'.H a w hr.sat (fun y hy => ?_) hR hnew K Q fun v w' ρ' he hdom hl hv hs => ?_
    · cases y with
      | tmp t => exact (hlooks t (List.mem_append_left _ (List.mem_filterMap.2 ⟨.tmp t, by simpa using hy, rfl⟩))).opn
      | const v => exact cX_rel _ _ _ v
      | global g => exact .undef _
      | func f => exact .d (.fn f)
    · refine hK ρ' _ w' ⟨hs, fun t => ?_, fun id hid h0 => ?_, by rw [size_put]; exact hr.size, by rw [defers_put]; exact hr.defers⟩ he hdom
      · rw [get_step, getD_put]
        by_cases ht : o.dst = some t
        · rw [if_pos ⟨ht, hd t ht⟩, if_pos ht]; exact hx _ _ _ _ hv
        · rw [if_neg fun h => ht h.1, if_neg ht]; exact (hr.env t).later hl he
      · show id ∈ q.nw ++ s'.U
        rcases hdom id hid with h | h
        · exact List.mem_append_right _ (hr.used id h h0)
        · exact List.mem_append_left _ h
  have hno : p.u = [] → (∀ w M ρ, RV w M ρ (.tuple #[]) p.x) → K (a.put o.dst undef) w := by
    intro hu hx
    refine hK ρ _ w ⟨by show Sat G ρ (p.u ++ s'.H) w; rw [hu]; exact hr.sat, fun t => ?_, fun id hid h0 => List.mem_append_right _ (hr.used id hid h0), by rw [size_put]; exact hr.size, by rw [defers_put]; exact hr.defers⟩ (Ext.refl _) (fun id h => .inl h)
    rw [get_step, getD_put]
    have hH : (s'.step o.dst p).H = s'.H := by show p.u ++ s'.H = _; rw [hu]; rfl
    rw [hH]
    by_cases ht : o.dst = some t
    · rw [if_pos ⟨ht, hd t ht⟩, if_pos ht]
      exact hx _ _ _
    · rw [if_neg fun h => ht h.1, if_neg ht]; exact hr.env t
  unfold wpOp
  simp only [hi]
  have hwant : ∀ b, wantX ops s.E o = some b → Region.wanted o (yielded ops a.tmps) = b := fun b hw => wantX_spec hw (fun t ht => by rw [hr.size]; exact hN t ht) hlooks
  rcases hok with ⟨hw, hlt⟩ | ⟨hw, hx, hu⟩ | ⟨g, y, hw, hx, hu, hlt⟩
  · rw [hwant _ hw, if_pos rfl]
    exact .inl (hyes p p.x rfl hlt fun _ _ _ _ h => h)
  · rw [hwant _ hw, if_neg (by simp)]
    refine hno hu fun w M ρ => ?_
    rw [hx]
    exact .tup #[] [] rfl (fun i v x hv _ => by simp at hv)
  · rw [hwant _ hw]
    cases g
    · rw [if_neg (by simp)]
      refine hno hu fun w M ρ => ?_
      rw [hx]
      exact .optF y
    · rw [if_pos rfl]
      refine .inl (hyes p y rfl (by rw [hu]; exact hlt rfl) fun _ _ _ _ h => ?_)
      rw [hx]
      exact .optT h

/-! ### a region in its text's order -/
theorem seq_rep {Q : Exit → Act → World → Prop} (hN : ∀ t, ops.any (fun o => o.dst == some t) = true → t < N) :
    ∀ (os : List Oper) (ps : List Sp) (k : Nat) (s : St) (ρ : Rho) (a : Act) (w : World), (∀ j, os[j]? = ops[k + j]?) → OkL P ops os ps s → Rep G N ρ s a w →
      (∀ id, id ∈ ps.flatMap (·.nw) → G.ρ0 id = none ∧ id ∉ s.U) → (ps.flatMap (·.nw)).Nodup →
      (∀ ρ' a' w', Rep G N ρ' (runL os ps s) a' w' → Q .normal a' w') → wpOps P ops Q (List.range' k os.length) a w
  | [], ps, k, s, ρ, a, w, _, _, hr, _, _, hQ => by
    simp only [List.length_nil, List.range'_zero, wpOps]
    exact hQ ρ a w (by cases ps <;> exact hr)
  | o :: os, [], k, s, ρ, a, w, _, hok, _, _, _, _ => hok.elim
  | o :: os, p :: ps, k, s, ρ, a, w, hl, hok, hr, hf, hnd, hQ => by
    rw [List.length_cons, List.range'_succ, wpOps_cons]
    have h0 : ops[k]? = some o := by simpa using (hl 0).symm
    simp only [List.flatMap_cons] at hf hnd
    refine step_rep (s := s) k h0 hr hok.1 hN (fun _ _ => rfl) (fun _ _ => rfl) (fun id hid => ?_) _ _ fun ρ' a' w' hr' _ _ => ?_
    · obtain ⟨h1, h2⟩ := hf id (List.mem_append_left _ hid)
      cases hh : ρ id with
      | none => rfl
      | some q => exact absurd (hr.used id (by rw [hh]; simp) h1) h2
    · refine seq_rep hN os ps (k + 1) _ ρ' a' w' (fun j => ?_) hok.2 hr' (fun id hid => ?_) (List.nodup_append.1 hnd).2.1 hQ
      · have := hl (j + 1)
        rw [show k + 1 + j = k + (j + 1) by omega, ← this]; rfl
      · obtain ⟨h1, h2⟩ := hf id (List.mem_append_right _ hid)
        refine ⟨h1, fun h => ?_⟩
        rcases List.mem_append.1 h with h | h
        · exact (List.nodup_append.1 hnd).2.2 id h id hid rfl
        · exact h2 h

/-- the bounds of slots -/
def fitB (N : Nat) (ops : List Oper) : Bool := ops.all fun o => match o.dst with | some d => decide (d < N) | none => true

theorem fitB_spec {l : List Oper} (h : fitB N l = true) : ∀ t, l.toArray.any (fun o => o.dst == some t) = true → t < N := by
  intro t ht
  rw [Array.any_eq_true] at ht
  obtain ⟨i, hi, he⟩ := ht
  unfold fitB at h
  rw [List.all_eq_true] at h
  have := h l.toArray[i] (by simp)
  simp only [beq_iff_eq] at he
  rw [he] at this
  simpa using this

def newB (ps : List Sp) (U : List Nat) : Bool := decide ((ps.flatMap (·.nw)).Nodup) && (ps.flatMap (·.nw)).all fun id => !U.contains id

theorem newB_spec {ps : List Sp} {U : List Nat} (h : newB ps U = true) : (ps.flatMap (·.nw)).Nodup ∧ ∀ id, id ∈ ps.flatMap (·.nw) → id ∉ U := by
  unfold newB at h
  simp only [Bool.and_eq_true, decide_eq_true_eq, List.all_eq_true, Bool.not_eq_true', ← Bool.not_eq_true, List.contains_iff_mem] at h
  exact ⟨h.1, h.2⟩

theorem aw_region_seq {id : Nat} {l : List Oper} {s : St} {Q : Exit → St → Prop} (ps : List Sp) (hN : fitB N l = true) (hU : newB ps s.U = true) (hG : ∀ id, id ∈ ps.flatMap (·.nw) → G.ρ0 id = none)
    (hok : OkL P l.toArray l ps s) (h : Q .normal (runL l ps s)) : AW P G N (.region id l.toArray false) s Q := by
  intro ρ a w hr K hK
  obtain ⟨h1, h2⟩ := newB_spec hU
  refine wp_region ?_
  have := seq_rep (P := P) (ops := l.toArray) (Q := K) (fitB_spec hN) l ps 0 s ρ a w (fun j => by simp) hok hr (fun id hid => ⟨hG id hid, h2 id hid⟩) h1 fun ρ' a' w' hr' => hK _ _ ρ' a' w' h hr'
  rwa [← List.range_eq_range'] at this

end
end Go.Proofs.YtaacgmcgmljjeaaGreat

/- The calculus of states: a region that draws its order. One walk of the text's order serves every order, if operations that no order binds touch different slots and different blocks. -/
namespace Go.Proofs.YtaacgmcgmljjeaaGreat
open Go.RowKit

/-- operation i must come before operation j -/
inductive Pre (ops : Array Oper) : Nat → Nat → Prop where
  | edge {j : Nat} {o : Oper} {e : Edge} (h : ops[j]? = some o) (he : e ∈ o.after) (hb : Region.binds .any e = true) : Pre ops j e.on
  | step {j i : Nat} {o : Oper} {e : Edge} (h : ops[j]? = some o) (he : e ∈ o.after) (hb : Region.binds .any e = true) (hp : Pre ops e.on i) : Pre ops j i

def rowOf (acc : List Nat) (es : List Edge) (s : Nat) : Nat := es.foldl (fun s e => if Region.binds .any e then s ||| 2 ^ e.on ||| acc.getD e.on 0 else s) s
def rowsL : List Oper → List Nat → List Nat
  | [], acc => acc
  | o :: os, acc => rowsL os (acc ++ [rowOf acc o.after.toList 0])

theorem rowOf_spec {ops : Array Oper} {acc : List Nat} {j : Nat} {o : Oper} (hacc : ∀ j i, (acc.getD j 0).testBit i = true → Pre ops j i) (hj : ops[j]? = some o) :
    ∀ (es : List Edge) (s : Nat), (∀ e, e ∈ es → e ∈ o.after) → (∀ i, s.testBit i = true → Pre ops j i) → ∀ i, (rowOf acc es s).testBit i = true → Pre ops j i
  | [], s, _, hs, i, h => hs i h
  | e :: es, s, he, hs, i, h => by
    unfold rowOf at h
    rw [List.foldl_cons] at h
    refine rowOf_spec hacc hj es _ (fun e' h' => he e' (by simp [h'])) ?_ i h
    intro i' h'
    split at h'
    · rename_i hb
      rw [Nat.testBit_or, Nat.testBit_or, Nat.testBit_two_pow, Bool.or_eq_true, Bool.or_eq_true] at h'
      rcases h' with (h' | h') | h'
      · exact hs i' h'
      · rw [← of_decide_eq_true h']; exact .edge hj (he e (by simp)) hb
      · exact .step hj (he e (by simp)) hb (hacc _ _ h')
    · exact hs i' h'

theorem rowsL_spec {ops : Array Oper} : ∀ (os : List Oper) (acc : List Nat), (∀ j, os[j]? = ops[acc.length + j]?) → (∀ j i, (acc.getD j 0).testBit i = true → Pre ops j i) → ∀ j i, ((rowsL os acc).getD j 0).testBit i = true → Pre ops j i
  | [], _, _, h, j, i, hh => h j i hh
  | o :: os, acc, hl, h, j, i, hh => by
    refine rowsL_spec os (acc ++ [rowOf acc o.after.toList 0]) (fun j => ?_) (fun j i h' => ?_) j i hh
    · have := hl (j + 1)
      rw [List.length_append, show acc.length + [rowOf acc o.after.toList 0].length + j = acc.length + (j + 1) by simp; omega, ← this]
      rfl
    · by_cases hlt : j < acc.length
      · rw [List.getD_eq_getElem?_getD, List.getElem?_append_left hlt, ← List.getD_eq_getElem?_getD] at h'
        exact h j i h'
      · by_cases he : j = acc.length
        · subst he
          rw [List.getD_eq_getElem?_getD, List.getElem?_append_right (Nat.le_refl _), Nat.sub_self] at h'
          simp only [List.getElem?_cons_zero, Option.getD_some] at h'
          exact rowOf_spec h (by simpa using (hl 0).symm) _ 0 (fun e h => by simpa using h) (fun i h => by simp at h) i h'
        · rw [List.getD_eq_getElem?_getD, List.getElem?_eq_none (by rw [List.length_append, List.length_singleton]; omega)] at h'
          simp at h'

def ks (u : Upds) : List Nat := u.map (·.1)
def disj (a b : List Nat) : Bool := a.all fun x => !b.contains x
def nmB (p q : Sp) : Bool := disj (ks p.u) (ks q.u ++ q.R) && disj (ks q.u) p.R

/-- operations that no order binds do not meet -/
def anyB (l : List Oper) (ps : List Sp) : Bool :=
  let rows := rowsL l []
  (List.range l.length).all fun j => match l[j]?, ps[j]? with
    | some oj, some pj => (oj.after.toList.all fun e => !Region.binds .any e || decide (e.on < j)) && (List.range j).all fun i => match l[i]?, ps[i]? with
      | some oi, some pi => (rows.getD j 0).testBit i || (oi.apart l.toArray oj && nmB pi pj)
      | _, _ => true
    | _, _ => true

/-- of the operations, those of A alone -/
def runD (A : Nat → Bool) : Nat → List Oper → List Sp → St → St
  | k, o :: os, p :: ps, s => runD A (k + 1) os ps (if A k then s.step o.dst p else s)
  | _, _, _, s => s

theorem look_app_not {u : Upds} {H : Heap} {id : Nat} (h : id ∉ ks u) : look (u ++ H) id = look H id := by
  induction u with
  | nil => rfl
  | cons p r ih =>
    obtain ⟨j, o⟩ := p
    simp only [ks, List.map_cons, List.mem_cons, not_or] at h
    simp only [List.cons_append, look, if_neg (Ne.symm h.1)]
    exact ih h.2

theorem look_app_in {u : Upds} {H H' : Heap} {id : Nat} (h : id ∈ ks u) : look (u ++ H) id = look (u ++ H') id := by
  induction u with
  | nil => cases h
  | cons p r ih =>
    obtain ⟨j, o⟩ := p
    by_cases hj : j = id
    · simp only [List.cons_append, look, if_pos hj]
    · simp only [List.cons_append, look, if_neg hj]
      simp only [ks, List.map_cons, List.mem_cons] at h
      exact ih (h.resolve_left fun e => hj e.symm)

theorem look_app_eq {u : Upds} {H H' : Heap} {id : Nat} (h : look H id = look H' id) : look (u ++ H) id = look (u ++ H') id := by
  by_cases hm : id ∈ ks u
  · exact look_app_in hm
  · rw [look_app_not hm, look_app_not hm, h]

theorem agreeE (t : Nat) (A B : Nat → Bool) : ∀ (os : List Oper) (ps : List Sp) (k : Nat) (s s' : St), (∀ (j : Nat) o, os[j]? = some o → A (k + j) ≠ B (k + j) → o.dst ≠ some t) → get s.E t = get s'.E t →
    get (runD A k os ps s).E t = get (runD B k os ps s').E t
  | [], ps, k, s, s', _, h => by cases ps <;> exact h
  | o :: os, [], k, s, s', _, h => h
  | o :: os, p :: ps, k, s, s', hd, h => by
    unfold runD
    refine agreeE t A B os ps (k + 1) _ _ (fun j o' ho' => ?_) ?_
    · have := hd (j + 1) o' ho'
      rwa [show k + (j + 1) = k + 1 + j by omega] at this
    · have h0 := hd 0 o rfl
      rw [Nat.add_zero] at h0
      cases hA : A k <;> cases hB : B k
      · exact h
      · simp only [if_true, if_false, Bool.false_eq_true]
        rw [get_step, if_neg (h0 (by rw [hA, hB]; simp))]; exact h
      · simp only [if_true, if_false, Bool.false_eq_true]
        rw [get_step, if_neg (h0 (by rw [hA, hB]; simp))]; exact h
      · simp only [if_true]
        rw [get_step, get_step, h]

theorem agreeH (id : Nat) (A B : Nat → Bool) : ∀ (os : List Oper) (ps : List Sp) (k : Nat) (s s' : St), (∀ (j : Nat) p, j < os.length → ps[j]? = some p → A (k + j) ≠ B (k + j) → id ∉ ks p.u) → look s.H id = look s'.H id →
    look (runD A k os ps s).H id = look (runD B k os ps s').H id
  | [], ps, k, s, s', _, h => by cases ps <;> exact h
  | o :: os, [], k, s, s', _, h => h
  | o :: os, p :: ps, k, s, s', hd, h => by
    unfold runD
    refine agreeH id A B os ps (k + 1) _ _ (fun j p' hj hp' => ?_) ?_
    · have := hd (j + 1) p' (by simp; omega) hp'
      rwa [show k + (j + 1) = k + 1 + j by omega] at this
    · have h0 := hd 0 p (by simp) rfl
      rw [Nat.add_zero] at h0
      have e : ∀ s : St, (s.step o.dst p).H = p.u ++ s.H := fun _ => rfl
      cases hA : A k <;> cases hB : B k
      · exact h
      · simp only [if_true, if_false, Bool.false_eq_true]
        rw [e, look_app_not (h0 (by rw [hA, hB]; simp))]; exact h
      · simp only [if_true, if_false, Bool.false_eq_true]
        rw [e, look_app_not (h0 (by rw [hA, hB]; simp))]; exact h
      · simp only [if_true]
        rw [e, e]; exact look_app_eq h

theorem memU (A : Nat → Bool) (id : Nat) : ∀ (os : List Oper) (ps : List Sp) (k : Nat) (s : St), id ∈ (runD A k os ps s).U ↔ id ∈ s.U ∨ ∃ j p, j < os.length ∧ ps[j]? = some p ∧ A (k + j) = true ∧ id ∈ p.nw
  | [], ps, k, s => by
    rw [show runD A k [] ps s = s by cases ps <;> rfl]
    exact ⟨.inl, fun h => h.elim (fun x => x) fun ⟨j, p, hj, _⟩ => by cases hj⟩
  | o :: os, [], k, s => ⟨.inl, fun h => h.elim (fun x => x) fun ⟨j, p, _, hp, _⟩ => by cases hp⟩
  | o :: os, p :: ps, k, s => by
    unfold runD
    rw [memU A id os ps (k + 1)]
    constructor
    · rintro (h | ⟨j, q, hj, hq, ha, hm⟩)
      · split at h
        · rename_i hA
          rcases List.mem_append.1 h with h | h
          · exact .inr ⟨0, p, by simp, rfl, hA, h⟩
          · exact .inl h
        · exact .inl h
      · exact .inr ⟨j + 1, q, by simp; omega, hq, by rwa [show k + (j + 1) = k + 1 + j by omega], hm⟩
    · rintro (h | ⟨j, q, hj, hq, ha, hm⟩)
      · refine .inl ?_
        split
        · exact List.mem_append_right _ h
        · exact h
      · cases j with
        | zero =>
          cases hq
          rw [Nat.add_zero] at ha
          rw [if_pos ha]
          exact .inl (List.mem_append_left _ hm)
        | succ j => exact .inr ⟨j, q, by simp at hj; omega, hq, by rwa [show k + 1 + j = k + (j + 1) by omega], hm⟩

theorem runD_none (A : Nat → Bool) : ∀ (os : List Oper) (ps : List Sp) (k : Nat) (s : St), (∀ j, k ≤ j → A j = false) → runD A k os ps s = s
  | [], ps, k, s, _ => by cases ps <;> rfl
  | o :: os, [], k, s, _ => rfl
  | o :: os, p :: ps, k, s, h => by
    unfold runD
    rw [h k (Nat.le_refl _)]
    exact runD_none A os ps (k + 1) s fun j hj => h j (by omega)

theorem runD_all (A : Nat → Bool) : ∀ (os : List Oper) (ps : List Sp) (k : Nat) (s : St), (∀ j, j < os.length → A (k + j) = true) → runD A k os ps s = runL os ps s
  | [], ps, k, s, _ => by cases ps <;> rfl
  | o :: os, [], k, s, _ => rfl
  | o :: os, p :: ps, k, s, h => by
    unfold runD runL
    have h0 := h 0 (by simp)
    rw [Nat.add_zero] at h0
    rw [h0, if_pos rfl]
    exact runD_all A os ps (k + 1) _ fun j hj => by
      have := h (j + 1) (by simp; omega)
      rwa [show k + (j + 1) = k + 1 + j by omega] at this

theorem okL_get {P : Program} {ops : Array Oper} : ∀ (os : List Oper) (ps : List Sp) (k : Nat) (s : St), OkL P ops os ps s → ∀ (i : Nat) o, os[i]? = some o →
    ∃ p, ps[i]? = some p ∧ Ok1 P ops o (runD (fun j => decide (j < k + i)) k os ps s) p ∧
      runD (fun j => decide (j ≤ k + i)) k os ps s = (runD (fun j => decide (j < k + i)) k os ps s).step o.dst p
  | [], _, _, _, _, i, o, h => by simp at h
  | _ :: _, [], _, _, h, _, _, _ => h.elim
  | o :: os, p :: ps, k, s, h, 0, o', ho => by
    cases ho
    refine ⟨p, rfl, ?_, ?_⟩
    · rw [runD_none _ _ _ _ _ fun j hj => by simp; omega]
      exact h.1
    · rw [runD_none (fun j => decide (j < k + 0)) _ _ _ _ fun j hj => by simp; omega]
      unfold runD
      rw [if_pos (by simp)]
      exact runD_none _ _ _ _ _ fun j hj => by simp; omega
  | o :: os, p :: ps, k, s, h, i + 1, o', ho => by
    obtain ⟨q, h1, h2, h3⟩ := okL_get os ps (k + 1) _ h.2 i o' ho
    refine ⟨q, h1, ?_, ?_⟩
    · unfold runD
      rw [if_pos (by simp), show k + (i + 1) = k + 1 + i by omega]
      exact h2
    · unfold runD
      rw [if_pos (by simp), if_pos (by simp), show k + (i + 1) = k + 1 + i by omega]
      exact h3

theorem Rep.congr {G : Ctx} {N : Nat} {ρ : Rho} {s s' : St} {a : Act} {w : World} (h : Rep G N ρ s a w) (hE : ∀ t, get s'.E t = get s.E t) (hH : ∀ id, look s'.H id = look s.H id) (hU : ∀ id, id ∈ s.U → id ∈ s'.U) : Rep G N ρ s' a w := by
  have hM : G.M ρ s'.H = G.M ρ s.H := by
    funext b
    unfold Ctx.M Mt
    simp only [hH]
  refine ⟨⟨h.sat.below, h.sat.base, fun id id' b cap cap' h1 h2 => ?_, fun id o ho => ?_⟩, fun t => ?_, fun id h1 h2 => hU id (h.used id h1 h2), h.size, h.defers⟩
  · rw [hH] at h1 h2
    exact h.sat.inj id id' b cap cap' h1 h2
  · rw [hH] at ho
    rw [hM]
    exact h.sat.obj id o ho
  · rw [hM, hE]
    exact h.env t

section
variable {P : Program} {G : Ctx} {N : Nat} {l : List Oper} {ps : List Sp} {s : St} {Q : Exit → Act → World → Prop}

theorem ready_mem {done : Array Bool} {i : Nat} (h : i ∈ Region.ready .any l.toArray done) : ∃ o, l[i]? = some o ∧ i < l.length ∧ done.getD i true = false ∧ ∀ e, e ∈ o.after → Region.binds .any e = true → done.getD e.on false = true := by
  unfold Region.ready at h
  rw [List.mem_filter] at h
  obtain ⟨h1, h2⟩ := h
  have hi : i < l.length := by simpa using h1
  simp only [Bool.and_eq_true, Bool.not_eq_true', List.getElem?_toArray] at h2
  obtain ⟨h2, h3⟩ := h2
  refine ⟨l[i], by simp [hi], hi, h2, fun e he hb => ?_⟩
  rw [List.getElem?_eq_getElem hi] at h3
  simp only [Option.map_some, Option.getD_some, Array.all_eq_true'] at h3
  have := h3 e he
  simpa [hb] using this

theorem mem_ready_of {done : Array Bool} {i : Nat} {o : Oper} (ho : l[i]? = some o) (hd : done.getD i true = false) (he : ∀ e, e ∈ o.after → Region.binds .any e = true → done.getD e.on false = true) : i ∈ Region.ready .any l.toArray done := by
  unfold Region.ready
  rw [List.mem_filter]
  refine ⟨by simpa using (List.getElem?_eq_some_iff.1 ho).1, ?_⟩
  simp only [Bool.and_eq_true, Bool.not_eq_true', List.getElem?_toArray]
  refine ⟨hd, ?_⟩
  rw [ho]
  simp only [Option.map_some, Option.getD_some, Array.all_eq_true']
  intro e hm
  cases hb : Region.binds .any e
  · rfl
  · simpa using he e hm hb

/-- what is done is closed under what must come before -/
def Closed (l : List Oper) (done : Array Bool) : Prop := ∀ (j : Nat) o, l[j]? = some o → done.getD j false = true → ∀ e, e ∈ o.after → Region.binds .any e = true → done.getD e.on false = true

theorem Closed.pre {done : Array Bool} (h : Closed l done) {j i : Nat} (hp : Pre l.toArray j i) (hj : done.getD j false = true ∨ ∀ o, l[j]? = some o → ∀ e, e ∈ o.after → Region.binds .any e = true → done.getD e.on false = true) : done.getD i false = true := by
  induction hp with
  | edge ho he hb =>
    rw [List.getElem?_toArray] at ho
    rcases hj with hj | hj
    · exact h _ _ ho hj _ he hb
    · exact hj _ ho _ he hb
  | step ho he hb _ ih =>
    rw [List.getElem?_toArray] at ho
    refine ih (.inl ?_)
    rcases hj with hj | hj
    · exact h _ _ ho hj _ he hb
    · exact hj _ ho _ he hb

theorem anyB_spec (h : anyB l ps = true) : (∀ (j : Nat) o, l[j]? = some o → j < ps.length → ∀ e, e ∈ o.after → Region.binds .any e = true → e.on < j) ∧
    ∀ (i j : Nat) oi oj pi pj, i < j → l[i]? = some oi → l[j]? = some oj → ps[i]? = some pi → ps[j]? = some pj → Pre l.toArray j i ∨ (oi.apart l.toArray oj = true ∧ nmB pi pj = true) := by
  unfold anyB at h
  simp only [List.all_eq_true, List.mem_range] at h
  constructor
  · intro j o ho hj e he hb
    have h1 := h j (List.getElem?_eq_some_iff.1 ho).1
    rw [ho, List.getElem?_eq_getElem hj] at h1
    simp only [Bool.and_eq_true, List.all_eq_true] at h1
    have := h1.1 e (by simpa using he)
    simpa [hb] using this
  · intro i j oi oj pi pj hij hi hj hpi hpj
    have h1 := h j (List.getElem?_eq_some_iff.1 hj).1
    rw [hj, hpj] at h1
    simp only [Bool.and_eq_true, List.all_eq_true, List.mem_range] at h1
    have h2 := h1.2 i hij
    rw [hi, hpi] at h2
    simp only [Bool.or_eq_true, Bool.and_eq_true] at h2
    rcases h2 with h2 | h2
    · exact .inl (rowsL_spec (ops := l.toArray) l [] (fun j => by simp) (fun j i h => by simp at h) j i h2)
    · exact .inr h2

theorem disj_spec {a b : List Nat} (h : disj a b = true) {x : Nat} (hx : x ∈ a) : x ∉ b := by
  unfold disj at h
  rw [List.all_eq_true] at h
  have := h x hx
  simpa using this

theorem getD_set_true {done : Array Bool} {i k : Nat} (hi : i < done.size) : (done.setIfInBounds i true).getD k false = (done.getD k false || decide (k = i)) := by
  by_cases h : k = i
  · subst h
    simp [hi, Array.getD]
  · simp [h, Array.getD_eq_getD_getElem?, Array.getElem?_setIfInBounds_ne (Ne.symm h)]

theorem count_set {done : Array Bool} {i : Nat} (h : done.getD i true = false) : (done.setIfInBounds i true).toList.count false + 1 = done.toList.count false := by
  have hi : i < done.size := by
    rcases Nat.lt_or_ge i done.size with h1 | h1
    · exact h1
    · simp [Array.getD, Nat.not_lt.2 h1] at h
  have he : done.toList[i]'(by simpa using hi) = false := by simpa [Array.getD, hi] using h
  rw [Array.toList_setIfInBounds, List.count_set (by simpa using hi)]
  have : 0 < done.toList.count false := List.count_pos_iff.2 (he ▸ List.getElem_mem _)
  simp only [he, beq_self_eq_true, if_true]
  generalize done.toList.count false = n at *
  simp
  omega

theorem any_rep (hany : anyB l ps = true) (hN : ∀ t, l.toArray.any (fun o => o.dst == some t) = true → t < N) (hok : OkL P l.toArray l ps s) (hf : ∀ id, id ∈ ps.flatMap (·.nw) → G.ρ0 id = none ∧ id ∉ s.U) (hnd : (ps.flatMap (·.nw)).Nodup)
    (hQ : ∀ ρ' a' w', Rep G N ρ' (runL l ps s) a' w' → Q .normal a' w') :
    ∀ (fuel : Nat) (done : Array Bool) (ρ : Rho) (a : Act) (w : World), done.size = l.length → done.toList.count false = fuel → Closed l done → Rep G N ρ (runD (fun k => done.getD k false) 0 l ps s) a w → wpAny P .any l.toArray Q fuel done a w := by
  obtain ⟨hback, hpair⟩ := anyB_spec hany
  have hlen : ∀ i, i < l.length → i < ps.length := fun i hi => by
    obtain ⟨p, hp, _⟩ := okL_get l ps 0 s hok i l[i] (by simp [hi])
    exact (List.getElem?_eq_some_iff.1 hp).1
  have hpw := List.pairwise_flatMap.1 hnd
  -- nothing is ready: all is done
  have hend : ∀ (done : Array Bool) (ρ : Rho) (a : Act) (w : World), done.size = l.length → Closed l done → Rep G N ρ (runD (fun k => done.getD k false) 0 l ps s) a w → Region.ready .any l.toArray done = [] → Q .normal a w := by
    intro done ρ a w hsz hcl hr hnil
    have hall : ∀ n k, k ≤ n → k < l.length → done.getD k false = true := by
      intro n
      induction n with
      | zero =>
        intro k hk hkl
        cases hd : done.getD k false with
        | true => rfl
        | false =>
          have hk' : k < done.size := by omega
          have hdt : done.getD k true = false := by simpa [Array.getD, hk'] using hd
          have : k ∈ Region.ready .any l.toArray done := mem_ready_of (o := l[k]) (by simp [hkl]) hdt fun e he hb => by
            have := hback k l[k] (by simp [hkl]) (hlen k hkl) e he hb
            omega
          rw [hnil] at this; cases this
      | succ n ih =>
        intro k hk hkl
        cases hd : done.getD k false with
        | true => rfl
        | false =>
          have hk' : k < done.size := by omega
          have hdt : done.getD k true = false := by simpa [Array.getD, hk'] using hd
          have : k ∈ Region.ready .any l.toArray done := mem_ready_of (o := l[k]) (by simp [hkl]) hdt fun e he hb => by
            have := hback k l[k] (by simp [hkl]) (hlen k hkl) e he hb
            exact ih _ (by omega) (by omega)
          rw [hnil] at this; cases this
    rw [runD_all _ _ _ _ _ fun j hj => by rw [Nat.zero_add]; exact hall j j (Nat.le_refl _) hj] at hr
    exact hQ ρ a w hr
  intro fuel
  induction fuel with
  | zero =>
    intro done ρ a w hsz hcnt hcl hr
    have hnil : Region.ready .any l.toArray done = [] := by
      rw [List.eq_nil_iff_forall_not_mem]
      intro i hi
      obtain ⟨o, ho, hil, hd, _⟩ := ready_mem hi
      have := count_set hd
      omega
    exact ⟨hnil, hend done ρ a w hsz hcl hr hnil⟩
  | succ fuel ih =>
    intro done ρ a w hsz hcnt hcl hr
    refine ⟨hend done ρ a w hsz hcl hr, fun i hi => ?_⟩
    obtain ⟨o, ho, hil, hd, hedge⟩ := ready_mem hi
    have hdf : done.getD i false = false := by
      have : i < done.size := by omega
      simpa [Array.getD, this] using hd
    obtain ⟨p, hp, hok1, hstep⟩ := okL_get l ps 0 s hok i o ho
    rw [Nat.zero_add] at hok1 hstep
    -- an operation that is done and stands behind, or is not done and stands before
    have hfar : ∀ (k : Nat) ok pk, l[k]? = some ok → ps[k]? = some pk → done.getD k false ≠ decide (k < i) → k ≠ i →
        (∀ d, ok.dst = some d → d ∉ o.looksAt l.toArray ∧ o.dst ≠ some d) ∧ (∀ id, id ∈ ks pk.u → id ∉ p.R ∧ id ∉ ks p.u) := by
      intro k ok pk hk hpk hne hki
      rcases Nat.lt_or_ge k i with hlt | hge
      · rw [decide_eq_true hlt] at hne
        rcases hpair k i ok o pk p hlt hk ho hpk hp with h | ⟨h1, h2⟩
        · exact absurd (hcl.pre h (.inr fun o' ho' => by rw [ho] at ho'; cases ho'; exact hedge)) hne
        · obtain ⟨a1, a2, a3⟩ := Oper.apart_spec h1
          unfold nmB at h2
          rw [Bool.and_eq_true] at h2
          refine ⟨fun d hd => ⟨a1 d hd, a2 d hd⟩, fun id hid => ?_⟩
          have := disj_spec h2.1 hid
          rw [List.mem_append, not_or] at this
          exact ⟨this.2, this.1⟩
      · have hlt : i < k := by omega
        have hdk : done.getD k false = true := by
          cases h : done.getD k false with
          | true => rfl
          | false => rw [h, decide_eq_false (by omega)] at hne; exact absurd rfl hne
        rcases hpair i k o ok p pk hlt ho hk hp hpk with h | ⟨h1, h2⟩
        · have := hcl.pre h (.inl hdk)
          rw [hdf] at this; cases this
        · obtain ⟨a1, a2, a3⟩ := Oper.apart_spec h1
          unfold nmB at h2
          rw [Bool.and_eq_true] at h2
          refine ⟨fun d hd => ⟨a3 d hd, fun e => a2 d e hd⟩, fun id hid => ⟨disj_spec h2.2 hid, fun h => ?_⟩⟩
          have := disj_spec h2.1 h
          rw [List.mem_append, not_or] at this
          exact this.1 hid
    have hfarE : ∀ (k : Nat) ok, l[k]? = some ok → done.getD k false ≠ decide (k < i) → k ≠ i → ∀ d, ok.dst = some d → d ∉ o.looksAt l.toArray ∧ o.dst ≠ some d := by
      intro k ok hk hne hki
      have hkl := (List.getElem?_eq_some_iff.1 hk).1
      exact (hfar k ok (ps[k]'(hlen k hkl)) hk (by simp [hlen k hkl]) hne hki).1
    have hfarH : ∀ (k : Nat) pk, k < l.length → ps[k]? = some pk → done.getD k false ≠ decide (k < i) → k ≠ i → ∀ id, id ∈ ks pk.u → id ∉ p.R ∧ id ∉ ks p.u := by
      intro k pk hk hpk hne hki
      exact (hfar k l[k] pk (by simp [hk]) hpk hne hki).2
    refine step_rep (s := runD (fun j => decide (j < i)) 0 l ps s) i (by simpa using ho) hr hok1 hN (fun t ht => ?_) (fun id hid => ?_) (fun id hid => ?_) _ _ fun ρ' a' w' hr' he hdom => ?_
    · refine agreeE t _ _ l ps 0 s s (fun j oj hoj hne => ?_) rfl
      rw [Nat.zero_add] at hne
      intro hd'
      have hji : j ≠ i := by rintro rfl; simp [hdf] at hne
      exact (hfarE j oj hoj hne hji t hd').1 ht
    · refine agreeH id _ _ l ps 0 s s (fun j pj hj hpj hne => ?_) rfl
      rw [Nat.zero_add] at hne
      intro hm
      have hji : j ≠ i := by rintro rfl; simp [hdf] at hne
      exact (hfarH j pj hj hpj hne hji id hm).1 hid
    · have hmem : p ∈ ps := List.mem_of_getElem? hp
      obtain ⟨h1, h2⟩ := hf id (List.mem_flatMap.2 ⟨p, hmem, hid⟩)
      cases hh : ρ id with
      | none => rfl
      | some q =>
        have := hr.used id (by rw [hh]; simp) h1
        rw [memU] at this
        rcases this with h | ⟨j, pj, hj, hpj, hA, hm⟩
        · exact absurd h h2
        · rw [Nat.zero_add] at hA
          have hji : j ≠ i := by rintro rfl; rw [hdf] at hA; cases hA
          have hpw2 := List.pairwise_iff_getElem.1 hpw.2
          obtain ⟨hjl, hje⟩ := List.getElem?_eq_some_iff.1 hpj
          obtain ⟨hil', hie⟩ := List.getElem?_eq_some_iff.1 hp
          rcases Nat.lt_or_ge j i with hlt | hge
          · exact absurd rfl (hpw2 j i hjl hil' hlt id (by rw [hje]; exact hm) id (by rw [hie]; exact hid))
          · exact absurd rfl (hpw2 i j hil' hjl (by omega) id (by rw [hie]; exact hid) id (by rw [hje]; exact hm))
    · have hsetA : (fun k => (done.setIfInBounds i true).getD k false) = fun k => (done.getD k false || decide (k = i)) := by
        funext k; exact getD_set_true (by omega)
      refine ih (done.setIfInBounds i true) ρ' a' w' (by simpa using hsz) ?_ ?_ ?_
      · have := count_set hd; omega
      · intro j oj hoj hj e he' hb
        rw [getD_set_true (by omega)] at hj ⊢
        simp only [Bool.or_eq_true, decide_eq_true_eq] at hj ⊢
        rcases hj with hj | rfl
        · exact .inl (hcl j oj hoj hj e he' hb)
        · rw [ho] at hoj; cases hoj
          exact .inl (hedge e he' hb)
      · rw [hsetA]
        refine hr'.congr (fun t => ?_) (fun id => ?_) (fun id hid => ?_)
        · rw [get_step]
          split
          · rename_i hdt
            have h1 := agreeE t (fun k => (done.getD k false || decide (k = i))) (fun j => decide (j ≤ i)) l ps 0 s s (fun j oj hoj hne hdj => by
              rw [Nat.zero_add] at hne
              by_cases hji : j = i
              · subst hji; simp at hne
              · refine (hfarE j oj hoj (fun e => hne ?_) hji t hdj).2 hdt
                rw [e]
                by_cases h : j < i
                · simp [h, Nat.le_of_lt h]
                · simp [h, hji]; omega) rfl
            rw [h1, hstep, get_step, if_pos hdt]
          · rename_i hdt
            refine agreeE t _ _ l ps 0 s s (fun j oj hoj hne hdj => ?_) rfl
            rw [Nat.zero_add] at hne
            by_cases hji : j = i
            · subst hji; rw [ho] at hoj; cases hoj; exact hdt hdj
            · simp [hji] at hne
        · show _ = look (p.u ++ _) id
          by_cases hid : id ∈ ks p.u
          · have h1 := agreeH id (fun k => (done.getD k false || decide (k = i))) (fun j => decide (j ≤ i)) l ps 0 s s (fun j pj hj hpj hne hm => by
              rw [Nat.zero_add] at hne
              by_cases hji : j = i
              · subst hji; simp at hne
              · refine (hfarH j pj hj hpj (fun e => hne ?_) hji id hm).2 hid
                rw [e]
                by_cases h : j < i
                · simp [h, Nat.le_of_lt h]
                · simp [h, hji]; omega) rfl
            rw [h1, hstep]
            exact look_app_in hid
          · rw [look_app_not hid]
            refine agreeH id _ _ l ps 0 s s (fun j pj hj hpj hne hm => ?_) rfl
            rw [Nat.zero_add] at hne
            by_cases hji : j = i
            · subst hji; rw [hp] at hpj; cases hpj; exact hid hm
            · simp [hji] at hne
        · rw [memU]
          rcases List.mem_append.1 hid with h | h
          · exact .inr ⟨i, p, hil, hp, by simp, h⟩
          · rw [memU] at h
            rcases h with h | ⟨j, pj, hj, hpj, hA, hm⟩
            · exact .inl h
            · exact .inr ⟨j, pj, hj, hpj, by simp only [hA, Bool.true_or], hm⟩

theorem aw_region_any {id : Nat} {Q : Exit → St → Prop} (hmo : P.follows .mixedOrders = true) (ps : List Sp) (hany : anyB l ps = true) (hN : fitB N l = true) (hU : newB ps s.U = true) (hG : ∀ id, id ∈ ps.flatMap (·.nw) → G.ρ0 id = none)
    (hok : OkL P l.toArray l ps s) (h : Q .normal (runL l ps s)) : AW P G N (.region id l.toArray true) s Q := by
  intro ρ a w hr K hK
  obtain ⟨h1, h2⟩ := newB_spec hU
  refine wp_region_any hmo ?_
  refine any_rep (s := s) hany (fitB_spec hN) hok (fun id hid => ⟨hG id hid, h2 id hid⟩) h1 (fun ρ' a' w' hr' => hK _ _ ρ' a' w' h hr') _ _ ρ a _ (by simp) (by simp) ?_ ?_
  · intro j o ho hj
    simp [Array.getD] at hj
  · rw [runD_none _ _ _ _ _ fun j _ => by simp [Array.getD]]
    have hb : Below w.heap.size w { w with drawn := w.drawn + 1 } := (Below.refl _ w).drew
    have hl := later_grow (M := G.M ρ s.H) hb
    exact ⟨hr.sat.grow hb, fun t => (hr.env t).later hl (Ext.refl _), hr.used, hr.size, hr.defers⟩

end
end Go.Proofs.YtaacgmcgmljjeaaGreat

/- The calculus of states: the operations, one law each. -/
namespace Go.Proofs.YtaacgmcgmljjeaaGreat
open Go.RowKit

section
variable {P : Program} {o : Oper} {E : Env} {H : Heap} {R nw : List Nat}

theorem LT_read {x : X} (h : ∀ (G : Ctx) (ρ : Rho) (H1 : Heap) (a : Act) (w : World), Sat G ρ H1 w → (∀ y, y ∈ o.op.operands.toList → RV w (G.M ρ H1) ρ (a.eval y) (opX E y)) → (∀ id, id ∈ R → look H1 id = look H id) →
    ∃ v, (execOp a.eval o).run P w = .ok (.value v) w ∧ RV w (G.M ρ H1) ρ v x) : LT P o E H R nw [] x := by
  intro G ρ H1 a w hs ho hR _ next Q hK
  obtain ⟨v, hr, hv⟩ := h G ρ H1 a w hs ho hR
  unfold Oper.wp
  rw [hr]
  exact hK v w ρ (Ext.refl _) (fun _ h => .inl h) (Later.refl _ _) hv hs

theorem LT.weaken {u : Upds} {x x' : X} (h : LT P o E H R nw u x) (hx : ∀ w M ρ v, RV w M ρ v x → RV w M ρ v x') : LT P o E H R nw u x' :=
  fun G ρ H1 a w hs ho hR hn next Q hK => h G ρ H1 a w hs ho hR hn next Q fun v w' ρ' h1 h2 h3 h4 h5 => hK v w' ρ' h1 h2 h3 (hx _ _ _ _ h4) h5

theorem LT.undef {u : Upds} {x : X} (h : LT P o E H R nw u x) : LT P o E H R nw u .undef := h.weaken fun _ _ _ v _ => .undef v

theorem LT_move {y : Operand} {x : X} (ho : o.op = .move y) (hx : opX E y = x) : LT P o E H R nw [] x :=
  LT_read fun G ρ H1 a w _ h _ => ⟨a.eval y, by simp [execOp, ho], hx ▸ h y (by simp [ho, Op.operands])⟩
theorem LT_assign {y : Operand} {x : X} (ho : o.op = .assign y) (hx : opX E y = x) : LT P o E H R nw [] x :=
  LT_read fun G ρ H1 a w _ h _ => ⟨a.eval y, by simp [execOp, ho], hx ▸ h y (by simp [ho, Op.operands])⟩

theorem LT_pick {c y z : Operand} {b : Bool} {x : X} (ho : o.op = .pick c y z) (hc : opX E c = .d (.bool b)) (hy : b = true → ∀ w M ρ v, RV w M ρ v (opX E y) → RV w M ρ v x) (hz : b = false → ∀ w M ρ v, RV w M ρ v (opX E z) → RV w M ρ v x) : LT P o E H R nw [] x :=
  LT_read fun G ρ H1 a w _ h _ => by
    have h1 := h c (by simp [ho, Op.operands])
    have h2 := h y (by simp [ho, Op.operands])
    have h3 := h z (by simp [ho, Op.operands])
    rw [hc] at h1
    have e := h1.bool_inv
    refine ⟨if b then a.eval y else a.eval z, by simp [execOp, ho, e, asBool], ?_⟩
    cases b
    · exact hz rfl _ _ _ _ h3
    · exact hy rfl _ _ _ _ h2

section ints
variable {T U : TypeId} {y z : Operand} {k : IntKind} {a b : Int}

theorem LT_bin {op : BinOp} {d : D} (ho : o.op = .binOp op T y z U) (hy : opX E y = .d (.int k a)) (hz : opX E z = .d (.int k b))
    (h : ∀ v w, binOp op T (.int k a) (.int k b) = pure v → (binOp op T (.int k a) (.int k b)).run P w = .ok v w) (v : Value) (hv : binOp op T (.int k a) (.int k b) = pure v) (hd : ∀ w M, RD w M v d) : LT P o E H R nw [] (.d d) :=
  LT_read fun G ρ H1 ac w _ hh _ => by
    have h1 := hh y (by simp [ho, Op.operands])
    have h2 := hh z (by simp [ho, Op.operands])
    rw [hy] at h1
    rw [hz] at h2
    have e1 := h1.int_inv
    have e2 := h2.int_inv
    refine ⟨v, ?_, .d (hd _ _)⟩
    have hg : (eqGuard op T y z (.int k a) (.int k b)).run P w = .ok () w := by
      unfold eqGuard; split <;> rfl
    simp [execOp, ho, e1, e2, hv]
    rw [hg]
    rfl

theorem LT_add {r : Int} (ho : o.op = .binOp .add T y z U) (hy : opX E y = .d (.int k a)) (hz : opX E z = .d (.int k b)) (hr : k.wrap (a + b) = r) : LT P o E H R nw [] (.d (.int k r)) :=
  LT_bin ho hy hz (fun v w h => by rw [h]; rfl) (.int k (k.wrap (a + b))) (by simp [binOp, Op.intArith]) (fun _ _ => by rw [hr]; exact .int _ _)
theorem LT_sub {r : Int} (ho : o.op = .binOp .sub T y z U) (hy : opX E y = .d (.int k a)) (hz : opX E z = .d (.int k b)) (hr : k.wrap (a - b) = r) : LT P o E H R nw [] (.d (.int k r)) :=
  LT_bin ho hy hz (fun v w h => by rw [h]; rfl) (.int k (k.wrap (a - b))) (by simp [binOp, Op.intArith]) (fun _ _ => by rw [hr]; exact .int _ _)
theorem LT_mul {r : Int} (ho : o.op = .binOp .mul T y z U) (hy : opX E y = .d (.int k a)) (hz : opX E z = .d (.int k b)) (hr : k.wrap (a * b) = r) : LT P o E H R nw [] (.d (.int k r)) :=
  LT_bin ho hy hz (fun v w h => by rw [h]; rfl) (.int k (k.wrap (a * b))) (by simp [binOp, Op.intArith]) (fun _ _ => by rw [hr]; exact .int _ _)
theorem LT_quo {r : Int} (ho : o.op = .binOp .quo T y z U) (hy : opX E y = .d (.int k a)) (hz : opX E z = .d (.int k b)) (h0 : b ≠ 0) (hr : k.wrap (a.tdiv b) = r) : LT P o E H R nw [] (.d (.int k r)) :=
  LT_bin ho hy hz (fun v w h => by rw [h]; rfl) (.int k (k.wrap (a.tdiv b))) (by simp [binOp, Op.intDiv, h0]) (fun _ _ => by rw [hr]; exact .int _ _)
theorem LT_rem {r : Int} (ho : o.op = .binOp .rem T y z U) (hy : opX E y = .d (.int k a)) (hz : opX E z = .d (.int k b)) (h0 : b ≠ 0) (hr : a.tmod b = r) : LT P o E H R nw [] (.d (.int k r)) :=
  LT_bin ho hy hz (fun v w h => by rw [h]; rfl) (.int k (a.tmod b)) (by simp [binOp, Op.intDiv, h0]) (fun _ _ => by rw [hr]; exact .int _ _)
theorem LT_bits {op : BinOp} {r : Int} (ho : o.op = .binOp op T y z U) (hop : op = .and ∨ op = .or ∨ op = .xor ∨ op = .andNot) (hy : opX E y = .d (.int k a)) (hz : opX E z = .d (.int k b)) (hr : Op.intBits op k a b = pure (.int k r)) : LT P o E H R nw [] (.d (.int k r)) :=
  LT_bin ho hy hz (fun v w h => by rw [h]; rfl) (.int k r) (by rcases hop with rfl | rfl | rfl | rfl <;> simp [binOp, hr]) (fun _ _ => .int _ _)
theorem LT_shift {op : BinOp} {k2 : IntKind} {s r : Int} (ho : o.op = .binOp op T y z U) (hop : op = .shl ∨ op = .shr) (hy : opX E y = .d (.int k a)) (hz : opX E z = .d (.int k2 s)) (hr : Op.shift op k a k2 s = pure (.int k r)) : LT P o E H R nw [] (.d (.int k r)) :=
  LT_read fun G ρ H1 ac w _ hh _ => by
    have h1 := hh y (by simp [ho, Op.operands])
    have h2 := hh z (by simp [ho, Op.operands])
    rw [hy] at h1
    rw [hz] at h2
    refine ⟨.int k r, ?_, .d (.int _ _)⟩
    have hb : binOp op T (.int k a) (.int k2 s) = pure (.int k r) := by
      rcases hop with rfl | rfl <;> simp only [binOp] <;> exact hr
    have hg : (eqGuard op T y z (.int k a) (.int k2 s)).run P w = .ok () w := by
      unfold eqGuard; split <;> rfl
    simp [execOp, ho, h1.int_inv, h2.int_inv, hb]
    rw [hg]
    rfl

def cmpI : BinOp → Int → Int → Bool
  | .eql, x, y => x == y
  | .neq, x, y => x != y
  | .lss, x, y => decide (x < y)
  | .leq, x, y => decide (x ≤ y)
  | .gtr, x, y => decide (y < x)
  | .geq, x, y => decide (y ≤ x)
  | _, _, _ => false
def isCmp : BinOp → Bool
  | .eql | .neq | .lss | .leq | .gtr | .geq => true
  | _ => false
theorem LT_cmp {op : BinOp} {r : Bool} (ho : o.op = .binOp op T y z U) (hop : isCmp op = true) (hy : opX E y = .d (.int k a)) (hz : opX E z = .d (.int k b)) (hr : cmpI op a b = r) : LT P o E H R nw [] (.d (.bool r)) :=
  LT_bin ho hy hz (fun v w h => by rw [h]; rfl) (.bool (cmpI op a b)) (by cases op <;> simp_all [binOp, Op.intCmp, cmpI, isCmp]) (fun _ _ => by rw [hr]; exact .bool _)

theorem LT_neg {r : Int} (ho : o.op = .unOp .neg T y) (hy : opX E y = .d (.int k a)) (hr : k.wrap (0 - a) = r) : LT P o E H R nw [] (.d (.int k r)) :=
  LT_read fun G ρ H1 ac w _ hh _ => by
    have h1 := hh y (by simp [ho, Op.operands])
    rw [hy] at h1
    exact ⟨.int k r, by simp [execOp, ho, h1.int_inv, Op.unary, Op.intArith, ← hr], .d (.int _ _)⟩
theorem LT_not {c : Bool} {r : Bool} (ho : o.op = .unOp .not T y) (hy : opX E y = .d (.bool c)) (hr : (!c) = r) : LT P o E H R nw [] (.d (.bool r)) :=
  LT_read fun G ρ H1 ac w _ hh _ => by
    have h1 := hh y (by simp [ho, Op.operands])
    rw [hy] at h1
    exact ⟨.bool r, by simp [execOp, ho, h1.bool_inv, Op.unary, ← hr], .d (.bool _)⟩
theorem LT_conv {S : TypeId} {ds : TypeDesc} {k2 : IntKind} {r : Int} (ho : o.op = .convert S T y) (hS : P.underlying S = some ds) (hT : P.underlying T = some (.int k2)) (hy : opX E y = .d (.int k a)) (hr : k2.wrap a = r) : LT P o E H R nw [] (.d (.int k2 r)) :=
  LT_read fun G ρ H1 ac w _ hh _ => by
    have h1 := hh y (by simp [ho, Op.operands])
    rw [hy] at h1
    exact ⟨.int k2 r, by simp [execOp, ho, h1.int_inv, convert, run_underlying hS, run_underlying hT, Conv.intToInt, ← hr], .d (.int _ _)⟩
end ints

section strs
variable {T U : TypeId} {y z : Operand} {s t : ByteArray}
theorem LT_strcat (ho : o.op = .binOp .add T y z U) (hy : opX E y = .d (.str s)) (hz : opX E z = .d (.str t)) {r : ByteArray} (hl : s.size + t.size ≤ 9223372036854775807) (hr : s ++ t = r) : LT P o E H R nw [] (.d (.str r)) := by
  subst hr
  exact LT_read fun G ρ H1 ac w _ hh _ => by
    have h1 := hh y (by simp [ho, Op.operands])
    have h2 := hh z (by simp [ho, Op.operands])
    rw [hy] at h1
    rw [hz] at h2
    refine ⟨.string (s ++ t), ?_, .d (.str _)⟩
    have hb : binOp .add T (.string s) (.string t) = pure (.string (s ++ t)) := by
      simp only [binOp, Op.stringOp]
      rw [if_neg]
      show ¬ (((s.size + t.size : Nat) : Int) > 9223372036854775807)
      omega
    simp [execOp, ho, h1.str_inv, h2.str_inv, hb]
    rfl
def cmpS : BinOp → ByteArray → ByteArray → Bool
  | .eql, x, y => x.toList == y.toList
  | .neq, x, y => !(x.toList == y.toList)
  | .lss, x, y => Op.bytesLess x.toList y.toList
  | .leq, x, y => Op.bytesLess x.toList y.toList || x.toList == y.toList
  | .gtr, x, y => !(Op.bytesLess x.toList y.toList || x.toList == y.toList)
  | .geq, x, y => !Op.bytesLess x.toList y.toList
  | _, _, _ => false
theorem LT_strcmp {op : BinOp} {r : Bool} (ho : o.op = .binOp op T y z U) (hop : isCmp op = true) (hy : opX E y = .d (.str s)) (hz : opX E z = .d (.str t)) (hr : cmpS op s t = r) : LT P o E H R nw [] (.d (.bool r)) :=
  LT_read fun G ρ H1 ac w _ hh _ => by
    have h1 := hh y (by simp [ho, Op.operands])
    have h2 := hh z (by simp [ho, Op.operands])
    rw [hy] at h1
    rw [hz] at h2
    refine ⟨.bool r, ?_, .d (.bool _)⟩
    have hb : binOp op T (.string s) (.string t) = pure (.bool r) := by
      rw [← hr]
      cases op <;> simp_all [binOp, Op.stringOp, cmpS, isCmp]
    have hg : (eqGuard op T y z (.string s) (.string t)).run P w = .ok () w := by
      unfold eqGuard; split <;> rfl
    simp [execOp, ho, h1.str_inv, h2.str_inv, hb]
    rw [hg]
    rfl
theorem LT_convS {S : TypeId} {ds : TypeDesc} (ho : o.op = .convert S T y) (hS : P.underlying S = some ds) (hT : P.underlying T = some .string) (hy : opX E y = .d (.str s)) : LT P o E H R nw [] (.d (.str s)) :=
  LT_read fun G ρ H1 ac w _ hh _ => by
    have h1 := hh y (by simp [ho, Op.operands])
    rw [hy] at h1
    refine ⟨.string s, ?_, .d (.str _)⟩
    simp [execOp, ho, h1.str_inv, convert, run_underlying hS, run_underlying hT]
end strs

theorem LT_nilCheck {y : Operand} {id off : Nat} (ho : o.op = .nilCheck y) (hy : opX E y = .ptr id off) : LT P o E H R nw [] (.ptr id off) :=
  LT_read fun G ρ H1 ac w _ hh _ => by
    have h1 := hh y (by simp [ho, Op.operands])
    rw [hy] at h1
    refine ⟨ac.eval y, ?_, h1⟩
    generalize he : ac.eval y = v at h1
    cases h1
    simp [execOp, ho, he]

theorem LT_nilCheckD {y : Operand} {c : List D} (ho : o.op = .nilCheck y) (hy : opX E y = .dptr c) : LT P o E H R nw [] (.dptr c) :=
  LT_read fun G ρ H1 ac w _ hh _ => by
    have h1 := hh y (by simp [ho, Op.operands])
    rw [hy] at h1
    refine ⟨ac.eval y, ?_, h1⟩
    generalize he : ac.eval y = v at h1
    cases h1
    simp [execOp, ho, he]

theorem LT_extract {y : Operand} {xs : List X} {i : Nat} {x : X} (ho : o.op = .extract y i) (hy : opX E y = .tup xs) (hx : xs[i]? = some x) : LT P o E H R nw [] x :=
  LT_read fun G ρ H1 ac w _ hh _ => by
    have h1 := hh y (by simp [ho, Op.operands])
    rw [hy] at h1
    generalize he : ac.eval y = v at h1
    cases h1 with
    | tup cs _ hs h =>
      have hi : i < cs.size := by rw [hs]; exact (List.getElem?_eq_some_iff.1 hx).1
      have hv : cs[i]? = some cs[i] := by simp [hi]
      refine ⟨cs[i], ?_, h i _ _ hv hx⟩
      simp [execOp, ho, he, Instr.extract, hv]

theorem LT_makeFunc {fn : Fn} {fs cs : Array Operand} {xs ys : List X} (ho : o.op = .makeFunc fn fs cs) (hxs : fs.toList.map (opX E) = xs) (hys : cs.toList.map (opX E) = ys) : LT P o E H R nw [] (.func fn xs ys) := by
  subst hxs hys
  exact LT_read fun G ρ H1 ac w _ hh _ => by
    refine ⟨.func fn (fs.map ac.eval) (cs.map ac.eval), by simp [execOp, ho, Instr.makeFunc], ?_⟩
    refine .func fn _ _ _ _ (by simp) (by simp) (fun i v x hv hx => ?_) fun i v x hv hx => ?_
    · rw [Array.getElem?_map] at hv
      rw [List.getElem?_map, Array.getElem?_toList] at hx
      cases hq : fs[i]? with
      | none => rw [hq] at hv; cases hv
      | some q =>
        rw [hq] at hv hx
        cases hv; cases hx
        exact hh q (by simp [ho, Op.operands, Array.mem_of_getElem? hq])
    · rw [Array.getElem?_map] at hv
      rw [List.getElem?_map, Array.getElem?_toList] at hx
      cases hq : cs[i]? with
      | none => rw [hq] at hv; cases hv
      | some q =>
        rw [hq] at hv hx
        cases hv; cases hx
        exact hh q (by simp [ho, Op.operands, Array.mem_of_getElem? hq])

end
end Go.Proofs.YtaacgmcgmljjeaaGreat

/- The calculus of states: the operations on memory, one law each. -/
namespace Go.Proofs.YtaacgmcgmljjeaaGreat
open Go.RowKit

def aggB : TypeDesc → Bool
  | .struct _ | .array _ _ => true
  | _ => false

section
variable {P : Program} {o : Oper} {E : Env} {H : Heap} {R nw : List Nat}

theorem run_isAgg {T : TypeId} {d : TypeDesc} (h : P.underlying T = some d) (w : World) : (isAgg T).run P w = .ok (aggB d) w := by
  unfold isAgg
  rw [Sem.run_bind, run_underlying h w]
  cases d <;> rfl

theorem run_size {T : TypeId} {i : TypeInfo} (h : P.info? T = some i) (w : World) : (sizeOf T).run P w = .ok i.size w := by
  simp [sizeOf, typeInfo, h]

theorem run_zero {T : TypeId} {i : TypeInfo} {z : Value} (h : P.info? T = some i) (hz : i.zero = some z) (w : World) : (zeroValue T).run P w = .ok z w := by
  simp [zeroValue, typeInfo, h, hz]

/-- cells from off on, read as a variable of type T -/
theorem run_loadVar_cells {T : TypeId} {d : TypeDesc} {i : TypeInfo} {w : World} {b off : Nat} (hu : P.underlying T = some d) (hi : P.info? T = some i) (g : Nat → Value) (n : Nat) (hn : aggB d = true → i.size = n) (hn1 : aggB d = false → n = 1)
    (hg : ∀ j, j < n → w.cell? ⟨b, off + j, none⟩ = some (g j)) : (loadVar T ⟨b, off, none⟩).run P w = .ok (if aggB d then .agg ((List.range n).map g).toArray else g 0) w := by
  have hadd : ∀ j, (⟨b, off, none⟩ : Addr).add j = ⟨b, off + j, none⟩ := fun j => by unfold Addr.add; split <;> simp_all
  unfold loadVar
  rw [Sem.run_bind, run_isAgg hu]
  simp only [Result.andThen_ok]
  cases hd : aggB d with
  | true =>
    have hl := run_loadCells (P := P) w ⟨b, off, none⟩ n g (fun j hj => by rw [hadd]; exact hg j hj)
    simp [run_size hi, hn hd, hl]
  | false =>
    have h0 := hg 0 (by rw [hn1 hd]; omega)
    simp only [Nat.add_zero] at h0
    simp [h0]

theorem obj_cells {G : Ctx} {ρ : Rho} {H1 : Heap} {w : World} (hs : Sat G ρ H1 w) {id b cap off n : Nat} {ob : Ob} (hl : look H1 id = some ob) (hr : ρ id = some (b, cap)) (hn : off + n ≤ ob.cs.length) :
    ∃ g : Nat → Value, (∀ j, j < n → w.cell? ⟨b, off + j, none⟩ = some (g j)) ∧ ∀ j x, j < n → ob.cs[off + j]? = some x → RV w (G.M ρ H1) ρ (g j) x := by
  rcases hs.obj id ob hl with ⟨_, hz⟩ | ⟨b', cap', cs, h1, _, h3, h4, h5, h6⟩
  · rw [hr] at hz; cases hz
  rw [hr] at h1
  cases h1
  refine ⟨fun j => cs[off + j]?.getD undef, fun j hj => ?_, fun j x hj hx => ?_⟩
  · have : off + j < cs.size := by omega
    simp [World.cell?, h3, this]
  · have : off + j < cs.size := by omega
    exact h6 (off + j) _ x (by simp [this]) hx

theorem LT_load {T : TypeId} {y : Operand} {d : TypeDesc} {i : TypeInfo} {id off : Nat} {ob : Ob} {x : X} (n : Nat) (ho : o.op = .load T y) (hy : opX E y = .ptr id off) (hl : look H id = some ob) (hR : id ∈ R) (hu : P.underlying T = some d) (hi : P.info? T = some i)
    (hn : off + n ≤ ob.cs.length) (hx : (aggB d = true ∧ i.size = n ∧ x = .agg ((ob.cs.drop off).take n)) ∨ (aggB d = false ∧ n = 1 ∧ ob.cs[off]? = some x)) : LT P o E H R nw [] x :=
  LT_read fun G ρ H1 ac w hs hh hRR => by
    have h1 := hh y (by simp [ho, Op.operands])
    rw [hy] at h1
    generalize he : ac.eval y = v at h1
    cases h1 with
    | ptr _ _ b cap hr =>
      have hl1 : look H1 id = some ob := (hRR id hR).trans hl
      obtain ⟨g, g1, g2⟩ := obj_cells hs hl1 hr hn
      have hv := run_loadVar_cells (P := P) (w := w) (b := b) (off := off) hu hi g n (fun h => by rcases hx with hx | hx; exact hx.2.1; rw [hx.1] at h; cases h) (fun h => by rcases hx with hx | hx; rw [hx.1] at h; cases h; exact hx.2.1) g1
      refine ⟨if aggB d then .agg ((List.range n).map g).toArray else g 0, by simp [execOp, ho, he, Instr.loadAt, Instr.sureAddr, hv], ?_⟩
      rcases hx with ⟨hd, _, rfl⟩ | ⟨hd, hn1, hx⟩
      · rw [if_pos hd]
        refine .agg _ _ (by simp; omega) fun j v x hv hx => ?_
        have hj : j < n := by
          have := (Array.getElem?_eq_some_iff.1 hv).1
          simpa using this
        rw [List.getElem?_take_of_lt hj, List.getElem?_drop] at hx
        have e : v = g j := by simpa [hj] using hv.symm
        rw [e]
        exact g2 j x hj hx
      · rw [if_neg (by simp [hd])]
        exact g2 0 x (by omega) (by rw [Nat.add_zero]; exact hx)

theorem LT_loadD {T : TypeId} {y : Operand} {d : TypeDesc} {i : TypeInfo} {c : List D} {x : X} (n : Nat) (ho : o.op = .load T y) (hy : opX E y = .dptr c) (hu : P.underlying T = some d) (hi : P.info? T = some i)
    (hn : n ≤ c.length) (hx : (aggB d = true ∧ i.size = n ∧ x = .agg ((c.take n).map .d)) ∨ (aggB d = false ∧ n = 1 ∧ (c[0]?).map X.d = some x)) : LT P o E H R nw [] x :=
  LT_read fun G ρ H1 ac w hs hh hRR => by
    have h1 := hh y (by simp [ho, Op.operands])
    rw [hy] at h1
    generalize he : ac.eval y = v at h1
    cases h1 with
    | dptr b off _ g hb hm hg hr =>
      have hv := run_loadVar_cells (P := P) (w := w) (b := b) (off := off) hu hi g n (fun h => by rcases hx with hx | hx; exact hx.2.1; rw [hx.1] at h; cases h) (fun h => by rcases hx with hx | hx; rw [hx.1] at h; cases h; exact hx.2.1) (fun j hj => hg j (by omega))
      refine ⟨if aggB d then .agg ((List.range n).map g).toArray else g 0, by simp [execOp, ho, he, Instr.loadAt, Instr.sureAddr, hv], ?_⟩
      rcases hx with ⟨hd, _, rfl⟩ | ⟨hd, hn1, hx⟩
      · rw [if_pos hd]
        refine .agg _ _ (by simp; omega) fun j v x hv hx => ?_
        have hj : j < n := by
          have := (Array.getElem?_eq_some_iff.1 hv).1
          simpa using this
        rw [List.getElem?_map, List.getElem?_take_of_lt hj] at hx
        have e : v = g j := by simpa [hj] using hv.symm
        rw [e]
        cases hc : c[j]? with
        | none => rw [hc] at hx; cases hx
        | some y =>
          rw [hc] at hx
          cases hx
          exact .d (hr j y hc)
      · rw [if_neg (by simp [hd])]
        cases hc : c[0]? with
        | none => rw [hc] at hx; cases hx
        | some y =>
          rw [hc] at hx
          cases hx
          exact .d (hr 0 y hc)

/-! ### new blocks -/
def X.cells : X → List X
  | .agg cs => cs
  | x => [x]

/-- a thing of one cell -/
def X.leaf : X → Bool
  | .d _ | .own .. | .ptr .. | .dptr _ | .func .. => true
  | _ => false

theorem RV.leaf {w : World} {M : Nat → Prop} {ρ : Rho} {v : Value} {x : X} (h : RV w M ρ v x) (hx : x.leaf = true) : v.oneCell' = true ∧ v.cells = #[v] := by
  cases h <;> try (simp [X.leaf] at hx; done)
  · rename_i h
    cases h <;> exact ⟨rfl, rfl⟩
  all_goals exact ⟨rfl, rfl⟩

/-- the cells of a value -/
theorem RV.cells {w : World} {M : Nat → Prop} {ρ : Rho} {v : Value} {x : X} (h : RV w M ρ v x) (hx : x.cells.all X.leaf = true) :
    v.cells.size = x.cells.length ∧ (∀ u, u ∈ v.cells.toList → u.oneCell' = true) ∧ ∀ (i : Nat) u y, v.cells[i]? = some u → x.cells[i]? = some y → RV w M ρ u y := by
  rw [List.all_eq_true] at hx
  cases h with
  | agg cs xs hs hh =>
    refine ⟨hs, fun u hu => ?_, hh⟩
    obtain ⟨i, hi, he⟩ := List.getElem_of_mem hu
    have hi' : i < cs.size := by simpa [Value.cells] using hi
    have hix : i < xs.length := by rw [← hs]; exact hi'
    have h1 : cs[i]? = some u := by rw [Array.getElem?_eq_getElem hi']; congr 1
    exact ((hh i u xs[i] h1 (by simp [hix])).leaf (hx _ (List.getElem_mem hix))).1
  | d h =>
    have hl := (RV.d (ρ := ρ) h).leaf rfl
    refine ⟨by rw [hl.2]; rfl, fun u hu => ?_, fun i u y hu hy => ?_⟩
    · rw [hl.2] at hu; simp at hu; rw [hu]; exact hl.1
    · rw [hl.2] at hu
      cases i with
      | zero => simp [X.cells] at hu hy; rw [← hu, ← hy]; exact .d h
      | succ i => simp [X.cells] at hy
  | own id n e b cap h =>
    refine ⟨rfl, fun u hu => ?_, fun i u y hu hy => ?_⟩
    · simp [Value.cells] at hu; rw [hu]; rfl
    · cases i with
      | zero => simp [X.cells, Value.cells] at hu hy; rw [← hu, ← hy]; exact .own id n e b cap h
      | succ i => simp [X.cells] at hy
  | own0 id e =>
    refine ⟨rfl, fun u hu => ?_, fun i u y hu hy => ?_⟩
    · simp [Value.cells] at hu; rw [hu]; rfl
    · cases i with
      | zero => simp [X.cells, Value.cells] at hu hy; rw [← hu, ← hy]; exact .own0 id e
      | succ i => simp [X.cells] at hy
  | ptr id off b cap h =>
    refine ⟨rfl, fun u hu => ?_, fun i u y hu hy => ?_⟩
    · simp [Value.cells] at hu; rw [hu]; rfl
    · cases i with
      | zero => simp [X.cells, Value.cells] at hu hy; rw [← hu, ← hy]; exact .ptr id off b cap h
      | succ i => simp [X.cells] at hy
  | dptr b off c g hb hm hg hr =>
    refine ⟨rfl, fun u hu => ?_, fun i u y hu hy => ?_⟩
    · simp [Value.cells] at hu; rw [hu]; rfl
    · cases i with
      | zero => simp [X.cells, Value.cells] at hu hy; rw [← hu, ← hy]; exact .dptr b off c g hb hm hg hr
      | succ i => simp [X.cells] at hy
  | func fn fs cs xs ys hf hc h1 h2 =>
    refine ⟨rfl, fun u hu => ?_, fun i u y hu hy => ?_⟩
    · simp [Value.cells] at hu; rw [hu]; rfl
    · cases i with
      | zero => simp [X.cells, Value.cells] at hu hy; rw [← hu, ← hy]; exact .func fn fs cs xs ys hf hc h1 h2
      | succ i => simp [X.cells] at hy
  | tup cs xs hs h => have := hx (.tup xs) (by simp [X.cells]); simp [X.leaf] at this
  | optT h => rename_i x; have := hx (.opt true x) (by simp [X.cells]); simp [X.leaf] at this
  | optF x => have := hx (.opt false x) (by simp [X.cells]); simp [X.leaf] at this
  | undef v => have := hx .undef (by simp [X.cells]); simp [X.leaf] at this

theorem heap_new (w : World) (o : Obj) : (w.alloc o).heap[w.heap.size]? = some o := by
  show (w.heap.push o)[w.heap.size]? = _
  simp

/-- a new block -/
theorem Sat.new {G : Ctx} {ρ : Rho} {H1 : Heap} {w : World} (hs : Sat G ρ H1 w) {id : Nat} (hid : ρ id = none) (cells : Array Value) (cap : Nat) (ob : Ob) (hcap : cells.size = cap * ob.e) (hlen : ob.cs.length ≤ cells.size)
    (hc : ∀ (i : Nat) v x, cells[i]? = some v → ob.cs[i]? = some x → RV w (G.M ρ H1) ρ v x) :
    ∃ ρ' : Rho, Ext ρ ρ' ∧ (∀ j, ρ' j ≠ none → ρ j ≠ none ∨ j = id) ∧ ρ' id = some (w.heap.size, cap) ∧ Later w (G.M ρ H1) (w.alloc (.cells cells ob.T)) (G.M ρ' ((id, some ob) :: H1)) ∧ Sat G ρ' ((id, some ob) :: H1) (w.alloc (.cells cells ob.T)) := by
  let ρ' : Rho := fun j => if j = id then some (w.heap.size, cap) else ρ j
  have he : Ext ρ ρ' := fun j p hj => by
    show (if j = id then _ else _) = _
    rw [if_neg (by rintro rfl; rw [hid] at hj; cases hj)]
    exact hj
  have hold : ∀ j b c, look ((id, some ob) :: H1) j ≠ none → ρ' j = some (b, c) → b < w.heap.size → look H1 j ≠ none ∧ ρ j = some (b, c) := by
    intro j b c hl hr hb
    by_cases hj : j = id
    · subst hj
      have : ρ' j = some (w.heap.size, cap) := if_pos rfl
      rw [this] at hr
      cases hr
      omega
    · rw [show look ((id, some ob) :: H1) j = look H1 j by simp [look, Ne.symm hj]] at hl
      exact ⟨hl, by rw [show ρ' j = ρ j from if_neg hj] at hr; exact hr⟩
  have hb : Below w.heap.size w (w.alloc (.cells cells ob.T)) := (Below.refl _ _).alloc (Nat.le_refl _) _
  have hl : Later w (G.M ρ H1) (w.alloc (.cells cells ob.T)) (G.M ρ' ((id, some ob) :: H1)) := by
    refine ⟨by simp, fun b h1 _ => hb.block b h1, fun b h1 h2 => ?_⟩
    rcases h2 with h2 | ⟨j, ob', c, h3, h4⟩
    · exact .inl h2
    · obtain ⟨h5, h6⟩ := hold j b c (by rw [h3]; simp) h4 h1
      cases h7 : look H1 j with
      | none => exact absurd h7 h5
      | some ob2 => exact .inr ⟨j, ob2, c, h7, h6⟩
  refine ⟨ρ', he, fun j hj => ?_, if_pos rfl, hl, ⟨hs.below.trans (.of_below hb), hs.base.trans he, ?_, ?_⟩⟩
  · by_cases hji : j = id
    · exact .inr hji
    · exact .inl (by rw [show ρ' j = ρ j from if_neg hji] at hj; exact hj)
  · intro i j b c c' h1 h2 h3 h4
    rcases Nat.lt_or_ge b w.heap.size with hlt | hge
    · obtain ⟨a1, a2⟩ := hold i b c h1 h3 hlt
      obtain ⟨b1, b2⟩ := hold j b c' h2 h4 hlt
      exact hs.inj i j b c c' a1 b1 a2 b2
    · have key : ∀ k c, look ((id, some ob) :: H1) k ≠ none → ρ' k = some (b, c) → k = id := by
        intro k c hk hk'
        by_cases hki : k = id
        · exact hki
        · exfalso
          rw [show look ((id, some ob) :: H1) k = look H1 k by simp [look, Ne.symm hki]] at hk
          rw [show ρ' k = ρ k from if_neg hki] at hk'
          cases h7 : look H1 k with
          | none => exact hk h7
          | some ob2 =>
            rcases hs.obj k ob2 h7 with ⟨_, g1⟩ | ⟨b', _, _, g1, _, g3, _⟩
            · rw [hk'] at g1
              cases g1
            · rw [hk'] at g1
              cases g1
              have := lt_of_heap g3
              omega
      rw [key i c h1 h3, key j c' h2 h4]
  · intro j ob' hj
    by_cases hji : j = id
    · subst hji
      have : ob' = ob := by simpa [look] using hj.symm
      subst this
      exact .inr ⟨w.heap.size, cap, cells, if_pos rfl, .inl hs.size, heap_new w _, hcap, hlen, fun i v x hv hx => (hc i v x hv hx).later hl he⟩
    · rw [show look ((id, some ob) :: H1) j = look H1 j by simp [look, Ne.symm hji]] at hj
      rcases hs.obj j ob' hj with ⟨z1, z2⟩ | ⟨b, c, cs, h1, h2, h3, h4, h5, h6⟩
      · exact .inl ⟨z1, (if_neg hji).trans z2⟩
      exact .inr ⟨b, c, cs, he _ _ h1, h2, (hb.block b (lt_of_heap h3)).trans h3, h4, h5, fun i v x hv hx => (h6 i v x hv hx).later hl he⟩

theorem LT_new {id : Nat} {ob : Ob} {x : X} (hid : id ∈ nw)
    (h : ∀ (G : Ctx) (ρ : Rho) (H1 : Heap) (a : Act) (w : World), Sat G ρ H1 w → (∀ y, y ∈ o.op.operands.toList → RV w (G.M ρ H1) ρ (a.eval y) (opX E y)) →
      ∃ cells cap v, (execOp a.eval o).run P w = .ok (.value v) (w.alloc (.cells cells ob.T)) ∧ cells.size = cap * ob.e ∧ ob.cs.length ≤ cells.size ∧ (∀ (i : Nat) v x, cells[i]? = some v → ob.cs[i]? = some x → RV w (G.M ρ H1) ρ v x) ∧
        ∀ w' M ρ', ρ' id = some (w.heap.size, cap) → RV w' M ρ' v x) : LT P o E H R nw [(id, some ob)] x := by
  intro G ρ H1 a w hs ho hR hn next Q hK
  obtain ⟨cells, cap, v, hr, h1, h2, h3, h4⟩ := h G ρ H1 a w hs ho
  obtain ⟨ρ', g1, g2, g3, g4, g5⟩ := hs.new (hn id hid) cells cap ob h1 h2 h3
  unfold Oper.wp
  rw [hr]
  exact hK v _ ρ' g1 (fun j hj => (g2 j hj).imp (fun h => h) fun h => by rw [h]; exact hid) g4 (h4 _ _ _ g3) g5

theorem run_newVar (T : TypeId) (v : Value) (w : World) : (newVar T v).run P w = .ok ⟨w.heap.size, 0, none⟩ (w.alloc (.cells v.cells T)) := by
  simp [newVar, newRow]

theorem LT_alloc {T : TypeId} {i : TypeInfo} {z : Value} (id : Nat) (ho : o.op = .alloc T) (hi : P.info? T = some i) (hz : i.zero = some z) (e : Nat) (he : z.cells.size = e) (hid : id ∈ nw) : LT P o E H R nw [(id, some ⟨T, e, z.cells.toList.map cL⟩)] (.ptr id 0) :=
  LT_new hid fun G ρ H1 a w hs hh => by
    refine ⟨z.cells, 1, .pointer (some ⟨w.heap.size, 0, none⟩), ?_, by simp [he], by simp, fun i v x hv hx => ?_, fun w' M ρ' h => .ptr id 0 _ _ h⟩
    · simp [execOp, ho, Instr.alloc, run_zero hi hz, run_newVar]
    · rw [List.getElem?_map, Array.getElem?_toList, hv] at hx
      cases hx
      exact cL_rel _ _ _ _

theorem LT_box {T : TypeId} {y : Operand} {x : X} (id : Nat) (ho : o.op = .box T y) (hy : opX E y = x) (hx : x.cells.all X.leaf = true) (e : Nat) (he : x.cells.length = e) (hid : id ∈ nw) : LT P o E H R nw [(id, some ⟨T, e, x.cells⟩)] (.ptr id 0) :=
  LT_new hid fun G ρ H1 a w hs hh => by
    have h1 := hh y (by simp [ho, Op.operands])
    rw [hy] at h1
    obtain ⟨c1, c2, c3⟩ := h1.cells hx
    refine ⟨(a.eval y).cells, 1, .pointer (some ⟨w.heap.size, 0, none⟩), ?_, by simp [← he, c1], by simp [c1], c3, fun w' M ρ' h => .ptr id 0 _ _ h⟩
    simp [execOp, ho, Instr.box, run_newVar]

/-! ### stores -/
/-- a block turned -/
theorem Sat.set {G : Ctx} {ρ : Rho} {H1 : Heap} {w w' : World} (hs : Sat G ρ H1 w) {id b cap : Nat} {ob ob' : Ob} (hl : look H1 id = some ob) (hr : ρ id = some (b, cap)) (cells : Array Value) (hT : ob'.T = ob.T) (he : ob'.e = ob.e) (hlen : ob'.cs.length ≤ cells.size) (hcap : cells.size = cap * ob.e)
    (hb : w'.heap[b]? = some (.cells cells ob.T (0, 0))) (ht : Turn (· = b) w w')
    (hc : ∀ (i : Nat) v x, cells[i]? = some v → ob'.cs[i]? = some x → RV w (G.M ρ H1) ρ v x) :
    Later w (G.M ρ H1) w' (G.M ρ ((id, some ob') :: H1)) ∧ Sat G ρ ((id, some ob') :: H1) w' := by
  have hm : G.M ρ ((id, some ob') :: H1) = G.M ρ H1 := by
    funext c
    unfold Ctx.M Mt
    refine propext (or_congr Iff.rfl ⟨?_, ?_⟩)
    · rintro ⟨j, o1, c1, h1, h2⟩
      by_cases hj : j = id
      · subst hj; exact ⟨j, ob, c1, hl, h2⟩
      · exact ⟨j, o1, c1, by rwa [show look ((id, some ob') :: H1) j = look H1 j by simp [look, Ne.symm hj]] at h1, h2⟩
    · rintro ⟨j, o1, c1, h1, h2⟩
      by_cases hj : j = id
      · subst hj; exact ⟨j, ob', c1, by simp [look], h2⟩
      · exact ⟨j, o1, c1, by rwa [show look ((id, some ob') :: H1) j = look H1 j by simp [look, Ne.symm hj]], h2⟩
  have hMb : G.M ρ H1 b := .inr ⟨id, ob, cap, hl, hr⟩
  have hlat : Later w (G.M ρ H1) w' (G.M ρ ((id, some ob') :: H1)) := by
    rw [hm]
    exact ⟨ht.size, fun c h1 h2 => ht.block c h1 (by rintro rfl; exact h2 hMb), fun _ _ h => h⟩
  rcases hs.obj id ob hl with ⟨_, h1⟩ | ⟨b0, _, _, h1, hb0, _⟩
  · rw [hr] at h1
    cases h1
  rw [hr] at h1
  cases h1
  refine ⟨hlat, ⟨hs.below.set ht hb0, hs.base, ?_, ?_⟩⟩
  · intro i j c c1 c2 h1 h2 h3 h4
    have key : ∀ k, look ((id, some ob') :: H1) k ≠ none → look H1 k ≠ none := by
      intro k hk
      by_cases hki : k = id
      · subst hki; rw [hl]; simp
      · rwa [show look ((id, some ob') :: H1) k = look H1 k by simp [look, Ne.symm hki]] at hk
    exact hs.inj i j c c1 c2 (key i h1) (key j h2) h3 h4
  · intro j o1 hj
    by_cases hji : j = id
    · subst hji
      have : o1 = ob' := by simpa [look] using hj.symm
      subst this
      exact .inr ⟨b, cap, cells, hr, hb0, by rw [hT]; exact hb, by rw [he]; exact hcap, hlen, fun i v x hv hx => (hc i v x hv hx).later hlat (Ext.refl _)⟩
    · rw [show look ((id, some ob') :: H1) j = look H1 j by simp [look, Ne.symm hji]] at hj
      rcases hs.obj j o1 hj with hz | ⟨c, c1, cs, g1, g2, g3, g4, g5, g6⟩
      · exact .inl hz
      refine .inr ⟨c, c1, cs, g1, g2, ?_, g4, g5, fun i v x hv hx => (g6 i v x hv hx).later hlat (Ext.refl _)⟩
      rw [ht.block c (lt_of_heap g3) ?_]
      · exact g3
      · rintro rfl
        exact hji (hs.inj j id c c1 cap (by rw [hj]; simp) (by rw [hl]; simp) g1 hr)

theorem turn_setRow (w : World) (b : Nat) (cells : Array Value) : Turn (· = b) w (w.setRow b cells) := by
  refine ⟨rfl, rfl, rfl, by simp [World.setRow], fun k _ hk => ?_⟩
  simp only [World.setRow, Array.getElem?_modify]
  rw [if_neg (fun e => hk e.symm)]

theorem LT_store {T : TypeId} {y z : Operand} {i : TypeInfo} {id off : Nat} {ob : Ob} {x : X} (ho : o.op = .store T y z) (hy : opX E y = .ptr id off) (hl : look H id = some ob) (hR : id ∈ R) (hi : P.info? T = some i) (hz : opX E z = x)
    (hx : x.cells.all X.leaf = true) (hn : x.cells.length = i.size) (hoff : off + x.cells.length ≤ ob.cs.length) (cs' : List X) (hcs : ob.cs.take off ++ x.cells ++ ob.cs.drop (off + x.cells.length) = cs') : LT P o E H R nw [(id, some ⟨ob.T, ob.e, cs'⟩)] (.tup []) := by
  intro G ρ H1 a w hs hh hRR _ next Q hK
  have h1 := hh y (by simp [ho, Op.operands])
  have h2 := hh z (by simp [ho, Op.operands])
  rw [hy] at h1
  rw [hz] at h2
  generalize he : a.eval y = v at h1
  cases h1 with
  | ptr _ _ b cap hr =>
    have hl1 : look H1 id = some ob := (hRR id hR).trans hl
    rcases hs.obj id ob hl1 with ⟨_, g1⟩ | ⟨b', cap', cs, g1, g2, g3, g4, g5, g6⟩
    · rw [hr] at g1
      cases g1
    rw [hr] at g1
    cases g1
    obtain ⟨c1, c2, c3⟩ := h2.cells hx
    have hst := run_storeCells_at P b off ob.T (a.eval z).cells.toList 0 cs w g3 (by simp [c1]; omega) c2
    rw [Nat.add_zero] at hst
    have hlen : (a.eval z).cells.toList.length = x.cells.length := by simpa using c1
    rw [hlen] at hst
    have hrun : (execOp a.eval o).run P w = .ok .skip (w.setRow b (cs.toList.take off ++ (a.eval z).cells.toList ++ cs.toList.drop (off + x.cells.length)).toArray) := by
      simp [execOp, ho, he, Instr.storeAt, Instr.sureAddr, storeVar, run_size hi, c1, hn, hst] at hst ⊢
    have hsz : (cs.toList.take off ++ (a.eval z).cells.toList ++ cs.toList.drop (off + x.cells.length)).length = cs.size := by
      simp [c1]; omega
    obtain ⟨k1, k2⟩ := hs.set hl1 hr (ob' := ⟨ob.T, ob.e, cs'⟩) (w' := w.setRow b (cs.toList.take off ++ (a.eval z).cells.toList ++ cs.toList.drop (off + x.cells.length)).toArray) (cs.toList.take off ++ (a.eval z).cells.toList ++ cs.toList.drop (off + x.cells.length)).toArray rfl rfl
      (by rw [← hcs, List.size_toArray, hsz]; simp; omega) (by rw [List.size_toArray, hsz]; exact g4) (setRow_heap w b cs _ ob.T _ g3) (turn_setRow _ _ _) (fun j v y hv hy => by
        rw [List.getElem?_toArray] at hv
        change cs'[j]? = some y at hy
        rw [← hcs] at hy
        rw [List.append_assoc] at hv hy
        by_cases hj : j < off
        · rw [List.getElem?_append_left (by simp; omega), List.getElem?_take_of_lt hj] at hv hy
          exact g6 j v y (by simpa using hv) hy
        · rw [List.getElem?_append_right (by simp; omega)] at hv hy
          have e1 : (cs.toList.take off).length = off := by simp; omega
          have e2 : (ob.cs.take off).length = off := by simp; omega
          rw [e1] at hv
          rw [e2] at hy
          by_cases hj2 : j - off < x.cells.length
          · rw [List.getElem?_append_left (by rw [hlen]; exact hj2)] at hv
            rw [List.getElem?_append_left hj2] at hy
            exact c3 (j - off) v y (by simpa using hv) hy
          · rw [List.getElem?_append_right (by rw [hlen]; omega), List.getElem?_drop, hlen] at hv
            rw [List.getElem?_append_right (by omega), List.getElem?_drop] at hy
            exact g6 _ v y (by simpa using hv) hy)
    unfold Oper.wp
    rw [hrun]
    exact hK undef _ ρ (Ext.refl _) (fun _ h => .inl h) k1 (.tup #[] [] rfl fun i v x hv _ => by simp at hv) k2

end
end Go.Proofs.YtaacgmcgmljjeaaGreat
