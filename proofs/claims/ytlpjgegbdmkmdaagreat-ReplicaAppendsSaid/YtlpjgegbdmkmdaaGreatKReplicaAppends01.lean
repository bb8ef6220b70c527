/- Lemmas for the statement ReplicaAppends (joined texts); no condition. -/
import Derived.Test.YtlpjgegbdmkmdaaGreatProg
import Derived.Test.YtlpjgegbdmkmdaaGreatKReplicaAppends00
namespace Go.Ws
open Go Go.RowKit
set_option linter.unusedVariables false
theorem _root_.Go.Code.wpIn_mono' {F : Fence} {n : Nat} {P : Program} {c : Code} {Q Q' : Exit → Act → World → Prop} {a : Act} {w : World} (hq : ∀ e a w, Q e a w → Q' e a w) (h : c.wpIn F n P Q a w) : c.wpIn F n P Q' a w := Go.wpIn_mono h hq

/-! ### The walk modulo later worlds -/
abbrev Post := Exit → Act → World → Prop
abbrev Res := Ending → World → Prop
def UpQ (Q : Post) : Post := fun e a w' => ∃ w0, Ext w0 w' ∧ Q e a w0
def Up (R : Res) : Res := fun e w' => ∃ w0, Ext w0 w' ∧ R e w0
/-- The code, walked from w and from whatever comes after w; ρ: the round that it is in, if any. -/
def Wp (ρ : Option Nat) (P : Program) (c : Code) (Q : Post) (a : Act) (w : World) : Prop := ∀ x : Later w, c.wpIn (RF ρ) 0 P (UpQ Q) a (w.later x)
/-- A function's contract at w and at whatever comes after w. -/
def Fn (P : Program) (f : FuncId) (args : Array Value) (w : World) (R : Res) : Prop := ∀ x : Later w, Calls P f args (w.later x) (Up R)
/-- What is said of a function that returns. -/
def Rets (R : Value → World → Prop) : Res := fun e w' => match e with | .returned v => R v w' | _ => False
abbrev Ret (P : Program) (f : FuncId) (args : Array Value) (w : World) (R : Value → World → Prop) : Prop := Fn P f args w (Rets R)
/-- A function that returns v and leaves what was there. -/
abbrev Pure (P : Program) (f : FuncId) (args : Array Value) (w : World) (v : Value) : Prop := Ret P f args w fun v' w' => v' = v ∧ Ext w w'

theorem Wp.intro {ρ : Option Nat} {P : Program} {c : Code} {Q : Post} {a : Act} {w : World} (h : ∀ x : Later w, c.wpIn (RF ρ) 0 P (UpQ Q) a (w.later x)) : Wp ρ P c Q a w := h
theorem Wp.get {ρ : Option Nat} {P : Program} {c : Code} {Q : Post} {a : Act} {w : World} (h : Wp ρ P c Q a w) (x : Later w) : c.wpIn (RF ρ) 0 P (UpQ Q) a (w.later x) := h x
theorem Fn.intro {P : Program} {f : FuncId} {args : Array Value} {w : World} {R : Res} (h : ∀ x : Later w, Calls P f args (w.later x) (Up R)) : Fn P f args w R := h
theorem Fn.get {P : Program} {f : FuncId} {args : Array Value} {w : World} {R : Res} (h : Fn P f args w R) (x : Later w) : Calls P f args (w.later x) (Up R) := h x
theorem Fn.mono {P : Program} {f : FuncId} {args : Array Value} {w : World} {R R' : Res} (h : Fn P f args w R) (hr : ∀ e w', R e w' → R' e w') : Fn P f args w R' :=
  fun x => (h x).mono fun _ _ ⟨w0, hE, hR⟩ => ⟨w0, hE, hr _ _ hR⟩
theorem Ret.mono {P : Program} {f : FuncId} {args : Array Value} {w : World} {R R' : Value → World → Prop} (h : Ret P f args w R) (hr : ∀ v w', R v w' → R' v w') : Ret P f args w R' :=
  Fn.mono h fun e w' hR => by cases e with | returned v => exact hr _ _ hR | _ => exact hR
theorem Fn.calls {P : Program} {f : FuncId} {args : Array Value} {w : World} {R : Res} (h : Fn P f args w R) : Calls P f args w (Up R) := h ⟨w, Ext.refl w⟩

section
variable {ρ : Option Nat} {P : Program} {Q : Post} {a : Act} {w : World}
theorem W_mono {c : Code} {Q' : Post} (h : Wp ρ P c Q a w) (hq : ∀ e a w, Q e a w → Q' e a w) : Wp ρ P c Q' a w :=
  fun x => Code.wpIn_mono' (fun _ _ _ ⟨w0, hE, hQ⟩ => ⟨w0, hE, hq _ _ _ hQ⟩) (h x)
theorem W_skip (h : Q .normal a w) : Wp ρ P .skip Q a w := fun x => wpIn_skip ⟨w, x.2, h⟩
theorem W_ret (h : Q .ret a w) : Wp ρ P .ret Q a w := fun x => wpIn_ret ⟨w, x.2, h⟩
theorem W_exit {id : Nat} (h : Q (.exit id) a w) : Wp ρ P (.exit id) Q a w := fun x => wpIn_exit ⟨w, x.2, h⟩
theorem W_goto {l : Nat} (h : Q (.goto l) a w) : Wp ρ P (.goto l) Q a w := fun x => wpIn_goto ⟨w, x.2, h⟩
theorem W_label {l : Nat} (h : Q .normal a w) : Wp ρ P (.label l) Q a w := fun x => wpIn_label ⟨w, x.2, h⟩
theorem W_seq {c d : Code} (h : Wp ρ P c (Exit.then (Wp ρ P d Q) Q) a w) : Wp ρ P (.seq c d) Q a w := fun x =>
  wpIn_seq (Code.wpIn_mono' (fun e a' w' hq => by
    obtain ⟨w0, hE, hQ⟩ := hq
    cases e with
    | normal => exact hQ ⟨w', hE⟩
    | _ => exact ⟨w0, hE, hQ⟩) (h x))
theorem W_seqk {c d : Code} (h : ∀ K : Act → World → Prop, (∀ a w, Wp ρ P d Q a w → K a w) → Wp ρ P c (Exit.then K Q) a w) : Wp ρ P (.seq c d) Q a w := W_seq (h _ fun _ _ h => h)
theorem W_cond {c : Operand} {d e : Code} {t : Bool} (hc : a.eval c = .bool t) (ht : t = true → Wp ρ P d Q a w) (hf : t = false → Wp ρ P e Q a w) : Wp ρ P (.cond c d e) Q a w := fun x =>
  wpIn_cond_split hc (fun h => ht h x) (fun h => hf h x)
theorem W_if {c : Operand} {d e : Code} (hc : a.eval c = .bool true) (ht : Wp ρ P d Q a w) : Wp ρ P (.cond c d e) Q a w := fun x => wpIn_cond_true hc (ht x)
theorem W_else {c : Operand} {d e : Code} (hc : a.eval c = .bool false) (ht : Wp ρ P e Q a w) : Wp ρ P (.cond c d e) Q a w := fun x => wpIn_cond_false hc (ht x)
theorem W_block {id : Nat} {c : Code} (h : Wp ρ P c (Exit.inBlock id Q) a w) : Wp ρ P (.block id c) Q a w := fun x =>
  wpIn_block (Code.wpIn_mono' (fun e a' w' hq => by
    obtain ⟨w0, hE, hQ⟩ := hq
    cases e with
    | exit id' =>
      simp only [Exit.inBlock] at hQ ⊢
      by_cases hid : id' = id
      · simp only [hid, if_true] at hQ ⊢; exact ⟨w0, hE, hQ⟩
      · simp only [hid, if_false] at hQ ⊢; exact ⟨w0, hE, hQ⟩
    | _ => exact ⟨w0, hE, hQ⟩) (h x))
/-- A loop: I n: what holds at a round's head with at most n rounds to come. -/
theorem W_loop {c : Code} (I : Nat → Act → World → Prop) (n : Nat) (h0 : I n a w)
    (round : ∀ n a w, I n a w → Wp ρ P c (Exit.then (fun a' w' => ∃ m, m < n ∧ I m a' w') Q) a w) : Wp ρ P (.loop c) Q a w := by
  intro x b k cs hro hb hr
  have key : ∀ n a w w1, Ext w w1 → I n a w →
      ∃ e a' w', UpQ Q e a' w' ∧ ArrivesIn (Machine.fenced P (RF ρ)) P (lone (b.atR a (.code c :: .inLoop c :: k)) cs w1) b k cs e a' w' := by
    intro n
    induction n using Nat.strongRecOn with
    | _ n ih =>
      intro a w w1 hE hI
      obtain ⟨e, a₁, w₁, hq, harr⟩ := round n a w hI ⟨w1, hE⟩ b (.inLoop c :: k) cs hro hb hr
      obtain ⟨w0, hE0, hq⟩ := hq
      cases e with
      | normal =>
        obtain ⟨m, hlt, hI₁⟩ := hq
        obtain ⟨e₂, a₂, w₂, hq₂, harr₂⟩ := ih m hlt a₁ w0 w₁ hE0 hI₁
        exact ⟨e₂, a₂, w₂, hq₂, .of_steps (StepsIn.trans harr (.one (fenced_calm hb hr rfl) stepR_inLoop)) harr₂⟩
      | exit id => exact ⟨_, a₁, w₁, ⟨w0, hE0, hq⟩, .pass (x := .inLoop c) rfl (fun _ _ => .inl (by simp)) harr⟩
      | goto l => exact ⟨_, a₁, w₁, ⟨w0, hE0, hq⟩, .pass (x := .inLoop c) rfl (fun _ _ => .inl (by simp)) harr⟩
      | ret => exact ⟨_, a₁, w₁, ⟨w0, hE0, hq⟩, .pass (x := .inLoop c) rfl (fun _ _ => .inl (by simp)) harr⟩
      | panic ch => exact ⟨_, a₁, w₁, ⟨w0, hE0, hq⟩, .pass (x := .inLoop c) rfl (fun _ _ => .inl (by simp)) harr⟩
      | outgrown => exact ⟨_, a₁, w₁, ⟨w0, hE0, hq⟩, .pass (x := .inLoop c) rfl (fun _ _ => .inl (by simp)) harr⟩
  obtain ⟨e, a', w', hq, harr⟩ := key n a w (w.later x) x.2 h0
  exact ⟨e, a', w', hq, .of_steps (.one (fenced_calm hb hr rfl) stepR_loop) harr⟩

/-- The marks of ranges over functions among the deferred calls are taken up, one behind the other. -/
def After : List Deferred → World → World → Prop
  | [], w, w' => w' = w
  | d :: ds, w, w' => ∃ r, d.target = .collected r ∧ w.heap[r]? = some (.deferred (some [])) ∧ After ds (w.putObj r (.deferred none)) w'
theorem ext_putObj {w W : World} (h : Ext w W) (r : Nat) (o : Obj) : Ext (w.putObj r o) (W.putObj r o) := by
  refine ⟨h.os, h.tape, h.output, ?_, fun k hk _ => ?_⟩
  · simp only [World.putObj, Array.size_setIfInBounds]; exact h.size
  · simp only [World.putObj, Array.size_setIfInBounds] at hk ⊢
    by_cases hkr : r = k
    · subst hkr
      have : r < W.heap.size := Nat.lt_of_lt_of_le hk h.size
      simp [hk, this]
    · rw [Array.getElem?_setIfInBounds_ne hkr, Array.getElem?_setIfInBounds_ne hkr]
      exact h.block k hk (fun h => h)
theorem leaves_of_after {fn : Func} {tmps : Array Value} {R : Ending → World → Prop} {u : FrameMode} (hu : u ≠ .run) : ∀ (ds : List Deferred) (w w' W : World), After ds w w' → Ext w W →
    (∀ W', Ext w' W' → LeavesInM (RF none) 0 P fn tmps R [] u W') → LeavesInM (RF none) 0 P fn tmps R ds u W
  | [], w, w', W, h, hE, hl => by cases h; exact hl W hE
  | d :: ds, w, w', W, h, hE, hl => by
    obtain ⟨r, ht, hr, h⟩ := h
    have hlt : r < w.heap.size := (Array.getElem?_eq_some_iff.1 hr).1
    exact ⟨hu, .inl ⟨r, _, ht, run_takeDeferred ((hE.block r hlt (fun h => h)).trans hr), leaves_of_after hu ds _ _ _ h (ext_putObj hE r _) hl⟩⟩
/-- What is asked where a body ends. -/
def Body (P : Program) (fn : Func) (R : Res) : Post
  | .normal, a, w | .ret, a, w => ∃ w', After a.defers w w' ∧ ∃ v, (∀ x : Later w', (results fn a.tmps).run P (w'.later x) = .ok v (w'.later x)) ∧ R (.returned v) w'
  | .panic chain, a, w => ∃ w', After a.defers w w' ∧ R (.panicked chain) w'
  | .outgrown, _, w => R .outgrown w
  | _, _, _ => False
theorem Fn_ofW {f : FuncId} {fn : Func} {c : Code} {args : Array Value} {R : Res} (hf : P.funcs[f]? = some fn) (hb : fn.body = some c)
    (h : Wp none P c (Body P fn R) { tmps := args ++ Array.replicate (fn.ntmps - args.size) undef, defers := [] } w) : Fn P f args w R := fun x => by
  refine (callsIn_wide (n := 0)).1 (callsIn_of_wp_marks (F := RF none) hf hb trivial (Code.wpIn_mono' (fun e a' w' hq => ?_) (h x)))
  obtain ⟨w0, hE, hq⟩ := hq
  cases e with
  | normal => obtain ⟨w1, hA, v, hr, hR⟩ := hq; exact leaves_of_after (by simp) _ _ _ _ hA hE fun W' hE' => ⟨v, hr ⟨W', hE'⟩, w1, hE', hR⟩
  | ret => obtain ⟨w1, hA, v, hr, hR⟩ := hq; exact leaves_of_after (by simp) _ _ _ _ hA hE fun W' hE' => ⟨v, hr ⟨W', hE'⟩, w1, hE', hR⟩
  | panic chain => obtain ⟨w1, hA, hR⟩ := hq; exact leaves_of_after (by simp) _ _ _ _ hA hE fun W' hE' => ⟨w1, hE', hR⟩
  | outgrown => exact ⟨w0, hE, hq⟩
  | exit id => exact hq
  | goto l => exact hq
/-- An equation that simp leaves alone. -/
def Is {α : Type} (a b : α) : Prop := a = b
theorem Is.mk {α : Type} (a : α) : Is a a := rfl
/-- An equation that is kept from simp; `repeat cases ‹Eqn _ _›` takes all. -/
inductive Eqn {α : Type} : α → α → Prop
  | mk (a : α) : Eqn a a
theorem Is.eq {α : Type} {a b : α} (h : Is a b) : a = b := h
/-! ### Frames: what has been put, the latest first, over a base -/
def lkp (t : Nat) : List (Nat × Value) → Act → Value
  | [], A => A.tmps.getD t undef
  | (d, v) :: l, A => if d = t then v else lkp t l A
def tmpsOf : List (Nat × Value) → Array Value → Array Value
  | [], B => B
  | (d, v) :: l, B => (tmpsOf l B).setIfInBounds d v
def fr (l : List (Nat × Value)) (A : Act) : Act := { tmps := tmpsOf l A.tmps, defers := A.defers }
@[congr] theorem fr_congr (l : List (Nat × Value)) (A : Act) : fr l A = fr l A := rfl
@[simp] theorem size_tmpsOf (B : Array Value) : ∀ l, (tmpsOf l B).size = B.size
  | [] => rfl
  | (d, v) :: l => by simp [tmpsOf, size_tmpsOf B l]
theorem get_tmpsOf (A : Act) (t : Nat) (ht : t < A.tmps.size) : ∀ l, (tmpsOf l A.tmps).getD t undef = lkp t l A
  | [] => rfl
  | (d, v) :: l => by
    unfold tmpsOf lkp
    rw [← get_tmpsOf A t ht l]
    by_cases h : d = t
    · subst h; simp [ht]
    · simp [h]
theorem fr_tmps (l : List (Nat × Value)) (A : Act) : (fr l A).tmps = tmpsOf l A.tmps := rfl
theorem fr_mk (l : List (Nat × Value)) (A : Act) (t : Array Value) (d : List Deferred) (h : A.tmps = t) : ({ tmps := tmpsOf l t, defers := d } : Act) = fr l { tmps := A.tmps, defers := d } := by rw [h]; rfl
theorem fr_defers (l : List (Nat × Value)) (A : Act) : (fr l A).defers = A.defers := rfl
@[go_sem ↓, simp ↓] theorem fr_eval (l : List (Nat × Value)) (A : Act) (t : Nat) (ht : t < A.tmps.size) : (fr l A).eval (.tmp t) = lkp t l A := get_tmpsOf A t ht l
@[go_sem ↓, simp ↓] theorem fr_const (l : List (Nat × Value)) (A : Act) (v : Value) : (fr l A).eval (.const v) = v := rfl
@[go_sem ↓, simp ↓] theorem fr_func (l : List (Nat × Value)) (A : Act) (f : FuncId) : (fr l A).eval (.func f) = .func (.func f) #[] #[] := rfl
@[go_sem ↓, simp ↓] theorem fr_get (l : List (Nat × Value)) (A : Act) (t : Nat) (ht : t < A.tmps.size) : (fr l A).tmps.getD t undef = lkp t l A := get_tmpsOf A t ht l
@[go_sem, simp] theorem fr_getq (l : List (Nat × Value)) (A : Act) (t : Nat) (ht : t < A.tmps.size) : ((fr l A).tmps[t]?).getD undef = lkp t l A := by rw [← fr_get l A t ht, Array.getD_eq_getD_getElem?]
@[go_sem ↓, simp ↓] theorem lkp_hit (t : Nat) (v : Value) (l : List (Nat × Value)) (A : Act) : lkp t ((t, v) :: l) A = v := by simp [lkp]
@[go_sem ↓, simp ↓] theorem lkp_miss (t d : Nat) (v : Value) (l : List (Nat × Value)) (A : Act) (h : d ≠ t) : lkp t ((d, v) :: l) A = lkp t l A := by simp [lkp, h]
@[congr] theorem lkp_congr (t : Nat) (l : List (Nat × Value)) (A : Act) : lkp t l A = lkp t l A := rfl
theorem fr_put (l : List (Nat × Value)) (A : Act) (d : Nat) (v : Value) : (fr l A).put (some d) v = fr ((d, v) :: l) A := rfl

def ix : Nat → List Value → List (Nat × Value)
  | _, [] => []
  | k, v :: vs => (k, v) :: ix (k + 1) vs
theorem tmpsOf_args : ∀ (vals pre : List Value) (m : Nat), (pre ++ (vals ++ List.replicate m undef)).toArray = tmpsOf (ix pre.length vals) (pre ++ (vals ++ List.replicate m undef)).toArray
  | [], pre, m => by simp [ix, tmpsOf]
  | v :: vs, pre, m => by
    have ih := tmpsOf_args vs (pre ++ [v]) m
    simp only [List.append_assoc, List.singleton_append, List.length_append, List.length_singleton] at ih
    simp only [ix, tmpsOf, List.cons_append]
    rw [← ih]
    simp
theorem Fn_of {f : FuncId} {fn : Func} {c : Code} {vals : List Value} {R : Res} (hf : P.funcs[f]? = some fn) (hb : fn.body = some c) (hn : vals.length ≤ fn.ntmps)
    (h : ∀ A : Act, A.defers = [] → A.tmps.size = fn.ntmps → Wp none P c (Body P fn R) (fr (ix 0 vals) A) w) : Fn P f vals.toArray w R := by
  refine Fn_ofW hf hb ?_
  have h1 := tmpsOf_args vals [] (fn.ntmps - vals.length)
  simp only [List.nil_append, List.length_nil] at h1
  have h2 : vals.toArray ++ Array.replicate (fn.ntmps - vals.toArray.size) undef = (vals ++ List.replicate (fn.ntmps - vals.length) undef).toArray := by
    apply Array.ext'; simp
  rw [h2]
  have h3 := h { tmps := (vals ++ List.replicate (fn.ntmps - vals.length) undef).toArray, defers := [] } rfl (by simp; omega)
  unfold fr at h3
  rw [← h1] at h3
  exact h3
theorem Body_ret {fn : Func} {R : Res} {e : Exit} {t : Tmp} {v : Value} {l : List (Nat × Value)} {A : Act} (hd : A.defers = []) (hR : R (.returned v) w) (hr : fn.results = #[.tmp t] := by rfl) (he : e = .ret ∨ e = .normal := by first | exact .inl rfl | exact .inr rfl)
    (hv : Is ((fr l A).tmps.getD t undef) v := by go_simp; exact Is.mk _) : Body P fn R e (fr l A) w := by
  rcases he with rfl | rfl <;> exact ⟨w, by rw [fr_defers, hd]; rfl, v, fun x => by rw [results_tmp hr, hv.eq], hR⟩
theorem Body_ret2 {fn : Func} {R : Res} {e : Exit} {t u : Tmp} {v v' : Value} {l : List (Nat × Value)} {A : Act} (hd : A.defers = []) (hR : R (.returned (.tuple #[v, v'])) w) (hr : fn.results = #[.tmp t, .tmp u] := by rfl) (he : e = .ret ∨ e = .normal := by first | exact .inl rfl | exact .inr rfl)
    (hv : Is ((fr l A).tmps.getD t undef) v := by go_simp; exact Is.mk _) (hv' : Is ((fr l A).tmps.getD u undef) v' := by go_simp; exact Is.mk _) : Body P fn R e (fr l A) w := by
  rcases he with rfl | rfl <;> exact ⟨w, by rw [fr_defers, hd]; rfl, _, fun x => by rw [results_tmp2 hr, hv.eq, hv'.eq], hR⟩
theorem Body_ret3 {fn : Func} {R : Res} {e : Exit} {t u s : Tmp} {v v' v'' : Value} {l : List (Nat × Value)} {A : Act} (hd : A.defers = []) (hR : R (.returned (.tuple #[v, v', v''])) w) (hr : fn.results = #[.tmp t, .tmp u, .tmp s] := by rfl) (he : e = .ret ∨ e = .normal := by first | exact .inl rfl | exact .inr rfl)
    (hv : Is ((fr l A).tmps.getD t undef) v := by go_simp; exact Is.mk _) (hv' : Is ((fr l A).tmps.getD u undef) v' := by go_simp; exact Is.mk _) (hv'' : Is ((fr l A).tmps.getD s undef) v'' := by go_simp; exact Is.mk _) : Body P fn R e (fr l A) w := by
  rcases he with rfl | rfl <;> exact ⟨w, by rw [fr_defers, hd]; rfl, .tuple #[v, v', v''], fun x => by simp [results, hr, ← hv.eq, ← hv'.eq, ← hv''.eq], hR⟩
theorem Body_ret0 {fn : Func} {R : Res} {e : Exit} {l : List (Nat × Value)} {A : Act} (hd : A.defers = []) (hR : R (.returned (.tuple #[])) w) (hr : fn.results = #[] := by rfl) (he : e = .ret ∨ e = .normal := by first | exact .inl rfl | exact .inr rfl) : Body P fn R e (fr l A) w := by
  rcases he with rfl | rfl <;> exact ⟨w, by rw [fr_defers, hd]; rfl, _, fun x => results_none hr _ _ _, hR⟩
/-- A test, its outcome read off the frame. -/
theorem W_test {c : Operand} {d e : Code} {t : Bool} {l : List (Nat × Value)} {A : Act} (ht : t = true → Wp ρ P d Q (fr l A) w) (hf : t = false → Wp ρ P e Q (fr l A) w) (hc : Is ((fr l A).eval c) (.bool t) := by go_simp; exact Is.mk _) : Wp ρ P (.cond c d e) Q (fr l A) w :=
  W_cond hc.eq ht hf
theorem W_tt {c : Operand} {d e : Code} {l : List (Nat × Value)} {A : Act} (ht : Wp ρ P d Q (fr l A) w) (hc : Is ((fr l A).eval c) (.bool true) := by go_simp; exact Is.mk _) : Wp ρ P (.cond c d e) Q (fr l A) w :=
  W_if hc.eq ht
theorem W_ff {c : Operand} {d e : Code} {l : List (Nat × Value)} {A : Act} (ht : Wp ρ P e Q (fr l A) w) (hc : Is ((fr l A).eval c) (.bool false) := by go_simp; exact Is.mk _) : Wp ρ P (.cond c d e) Q (fr l A) w :=
  W_else hc.eq ht
/-- A loop over the values of some slots. -/
theorem W_loops {c : Code} {l : List (Nat × Value)} {A : Act} {N : Nat} {ds : List Deferred} (ss : List Nat) (I : Nat → List Value → World → Prop) (n : Nat) (hd : A.defers = ds) (hA : A.tmps.size = N) (hs : ∀ s ∈ ss, s < N) (h0 : I n (ss.map fun s => lkp s l A) w)
    (round : ∀ (n : Nat) (vs : List Value) (B : Act) (w : World), B.defers = ds → B.tmps.size = N → vs.length = ss.length → I n vs w →
      Wp ρ P c (Exit.then (fun a' w' => ∃ (l' : List (Nat × Value)) (B' : Act), a' = fr l' B' ∧ B'.defers = ds ∧ B'.tmps.size = N ∧ ∃ m, m < n ∧ I m (ss.map fun s => lkp s l' B') w') Q) (fr (ss.zip vs) B) w) : Wp ρ P (.loop c) Q (fr l A) w := by
  subst hA
  refine W_loop (fun n a w => a.defers = ds ∧ a.tmps.size = A.tmps.size ∧ I n (ss.map fun s => a.tmps.getD s undef) w) n ⟨hd, by simp [fr], ?_⟩ ?_
  · have : (ss.map fun s => (fr l A).tmps.getD s undef) = ss.map fun s => lkp s l A := List.map_congr_left fun s hs' => get_tmpsOf A s (hs s hs') l
    rw [this]; exact h0
  · intro n a w hI
    obtain ⟨had, has, hI⟩ := hI
    have hr := round n (ss.map fun s => a.tmps.getD s undef) a w had has (by simp) hI
    have hfr : fr (ss.zip (ss.map fun s => a.tmps.getD s undef)) a = a := by
      obtain ⟨tm, de⟩ := a
      unfold fr
      simp only
      congr 1
      clear hI hr round h0 hs
      induction ss with
      | nil => rfl
      | cons s ss ih =>
        simp only [List.map_cons, List.zip_cons_cons, tmpsOf]
        rw [ih]
        apply Array.ext
        · simp
        · intro i h1 h2
          rw [Array.getElem_setIfInBounds]
          split
          · rename_i e; subst e; simp [h2]
          · rfl
    rw [hfr] at hr
    refine W_mono hr ?_
    intro e a' w' hQ
    cases e with
    | normal =>
      obtain ⟨l', B', rfl, hd', hs', m, hm, hI'⟩ := hQ
      refine ⟨m, hm, hd', by simp [fr, hs'], ?_⟩
      have : (ss.map fun s => (fr l' B').tmps.getD s undef) = ss.map fun s => lkp s l' B' := List.map_congr_left fun s hs'' => get_tmpsOf B' s (by rw [hs']; exact hs s hs'') l'
      rw [this]; exact hI'
    | _ => exact hQ

/-! ### Regions -/
/-- A guarded value. -/
def gv (g : Bool) (v : Value) : Value := match g with | true => v | false => undef
/-- Does a guard say so? -/
def gw (v : Value) (want : Bool) : Bool := match v with | .bool b => b == want | _ => false
@[simp, go_sem] theorem gv_true (v : Value) : gv true v = v := rfl
@[simp, go_sem] theorem gv_false (v : Value) : gv false v = undef := rfl
@[simp, go_sem] theorem gw_true (b : Bool) : gw (.bool b) true = b := by cases b <;> rfl
@[simp, go_sem] theorem gw_false (b : Bool) : gw (.bool b) false = !b := by cases b <;> rfl
@[simp, go_sem] theorem gw_undef (b : Bool) : gw undef b = false := rfl
@[simp, go_sem] theorem gw_gv (g : Bool) (v : Value) (b : Bool) : gw (gv g v) b = (g && gw v b) := by cases g <;> rfl
@[simp, go_sem] theorem pick_or (x y : Bool) : (if x = true then Value.bool true else gv (!x) (.bool y)) = .bool (x || y) := by cases x <;> rfl
@[simp, go_sem] theorem pick_and (x y : Bool) : (if x = true then gv x (.bool y) else Value.bool false) = .bool (x && y) := by cases x <;> rfl
theorem wanted_gw {ops : Array Oper} {o : Oper} {j t : Nat} {want : Bool} (hg : o.guard = some (j, want)) (ht : (ops[j]?).bind (·.dst) = some t) (tmps : Array Value) :
    Region.wanted o (yielded ops tmps) = gw (tmps.getD t undef) want := by
  unfold Region.wanted yielded
  simp only [hg, ht, Option.bind_some]
  rw [Array.getD_eq_getD_getElem?]
  cases tmps[t]? with
  | none => rfl
  | some v => cases v <;> simp [gw]

/-- The kind in which an operation is met: 0: it reads; 1: it makes memory; 2: all else. -/
def kindOf (o : Oper) : Nat :=
  match o.op with
  | .move _ | .assign _ | .pick .. | .load .. | .nilCheck _ | .binOp .. | .unOp .. | .convert .. | .fieldAddr .. | .field .. | .indexAddr .. | .index .. | .extract .. | .slice .. | .build .. | .lookup .. | .entry _
  | .typeAssert .. | .makeInterface .. | .makeFunc .. => 0
  | .alloc _ | .box .. | .buildSlice .. | .makeMap .. | .makeSlice .. | .range .. => 1
  | .call { callee := .builtin .len, .. } | .call { callee := .builtin .cap, .. } | .call { callee := .builtin .min, .. } | .call { callee := .builtin .max, .. } => 0
  | _ => 2
abbrev tag (o : Oper) : Oper × Nat := (o, kindOf o)

/-- The walk through a region's operations, each with its kind. -/
def wpX (P : Program) (ops : Array Oper) (Q : Post) : List (Oper × Nat) → Act → World → Prop
  | [], a, w => Q .normal a w
  | (o, 0) :: rest, a, w => ∃ v, YieldsQ P ops o v a w ∧ wpX P ops Q rest (a.put o.dst v) w
  | (o, 1) :: rest, a, w => ∀ x : Later w, if Region.wanted o (yielded ops a.tmps) = true
      then OpW P o a (w.later x) (fun a' w' => Ext (w.later x) w' ∧ ∃ w0, Ext w0 w' ∧ wpX P ops Q rest a' w0) (fun _ _ _ => False)
      else ∃ w0, Ext w0 (w.later x) ∧ wpX P ops Q rest (a.put o.dst undef) w0
  | (o, _) :: rest, a, w => ∀ x : Later w, if Region.wanted o (yielded ops a.tmps) = true
      then OpW P o a (w.later x) (fun a' w' => ∃ w0, Ext w0 w' ∧ wpX P ops Q rest a' w0) (UpQ Q)
      else ∃ w0, Ext w0 (w.later x) ∧ wpX P ops Q rest (a.put o.dst undef) w0

theorem YieldsQ.wp {ops : Array Oper} {o : Oper} {v : Value} (hy : YieldsQ P ops o v a w) {K : Act → World → Prop} {Q' : Post} (x : Later w)
    (h : ∀ w', Ext w w' → K (a.put o.dst v) w') :
    if Region.wanted o (yielded ops a.tmps) = true then OpW P o a (w.later x) K Q' else K (a.put o.dst undef) (w.later x) := by
  rcases hy with ⟨hw, hv⟩ | ⟨hw, rfl⟩
  · simp only [hw, if_true]
    have h3 := hv x
    unfold Oper.quietAt at h3
    unfold OpW
    generalize (execOp a.eval o).run P (w.later x) = r at *
    cases r with
    | ok n w' =>
      cases n <;> simp only [Oper.quietUpon] at h3 <;> simp only [uponW]
      case value u => obtain ⟨e1, e2⟩ := h3; rw [e1, e2]; exact h _ x.2
      case skip => obtain ⟨e1, e2⟩ := h3; rw [e1, ← e2]; exact h _ x.2
      case enter f args =>
        obtain ⟨e1, hc⟩ := h3
        rw [e1]
        exact hc.mono fun e w'' ⟨he, hw''⟩ => by subst he; exact h _ (Ext.trans x.2 hw'')
    | halt x w' => simp only [Oper.quietUpon] at h3
  · simp only [hw, Bool.false_eq_true, if_false]; exact h _ x.2

theorem wpList_of_wpX {ops : Array Oper} : ∀ (l : List (Oper × Nat)), (ρ = none ∨ ∀ p ∈ l, noDefer p.1 = true) → ∀ (a : Act) (w w1 : World), Ext w w1 → wpX P ops Q l a w → wpListIn (RF ρ) 0 P ops (UpQ Q) (l.map (·.1)) a w1
  | [], _, a, w, w1, hE, h => ⟨w, hE, h⟩
  | (o, 0) :: rest, hn, a, w, w1, hE, h => by
    obtain ⟨v, hy, hr⟩ := h
    have := hy.wp (K := wpListIn (RF ρ) 0 P ops (UpQ Q) (rest.map (·.1))) (Q' := UpQ Q) ⟨w1, hE⟩ (fun w' hw' => wpList_of_wpX rest (hn.imp id fun h p hp => h p (by simp [hp])) _ _ _ hw' hr)
    simp only [List.map_cons, wpListIn]
    split
    · rename_i hw; rw [if_pos hw] at this; exact opIn_of_W (hn.imp id fun h => h (o, 0) (by simp)) this
    · rename_i hw; rw [if_neg hw] at this; exact ⟨fun _ _ => trivial, this⟩
  | (o, 1) :: rest, hn, a, w, w1, hE, h => by
    have := h ⟨w1, hE⟩
    simp only [List.map_cons, wpListIn]
    split
    · rename_i hw; rw [if_pos hw] at this
      exact opIn_of_W (hn.imp id fun h => h (o, 1) (by simp)) (this.mono (fun a' w' ⟨_, w0, hE0, h0⟩ => wpList_of_wpX rest (hn.imp id fun h p hp => h p (by simp [hp])) _ _ _ hE0 h0) (fun _ _ _ h => h.elim))
    · rename_i hw; rw [if_neg hw] at this
      obtain ⟨w0, hE0, h0⟩ := this
      exact ⟨fun _ _ => trivial, wpList_of_wpX rest (hn.imp id fun h p hp => h p (by simp [hp])) _ _ _ hE0 h0⟩
  | (o, k + 2) :: rest, hn, a, w, w1, hE, h => by
    have := h ⟨w1, hE⟩
    simp only [List.map_cons, wpListIn]
    split
    · rename_i hw; rw [if_pos hw] at this
      exact opIn_of_W (hn.imp id fun h => h (o, k + 2) (by simp)) (this.mono (fun a' w' ⟨w0, hE0, h0⟩ => wpList_of_wpX rest (hn.imp id fun h p hp => h p (by simp [hp])) _ _ _ hE0 h0) (fun _ _ _ h => h))
    · rename_i hw; rw [if_neg hw] at this
      obtain ⟨w0, hE0, h0⟩ := this
      exact ⟨fun _ _ => trivial, wpList_of_wpX rest (hn.imp id fun h p hp => h p (by simp [hp])) _ _ _ hE0 h0⟩

/-- What is asked behind a region that draws its order: that nothing panics. -/
def Calm (Q : Post) : Post
  | .normal, a, w => Q .normal a w
  | _, _, _ => False
theorem calm_le {Q : Post} (e : Exit) (a : Act) (w : World) (h : UpQ (Calm Q) e a w) : UpQ Q e a w := by
  obtain ⟨w0, hE, h⟩ := h
  cases e with
  | normal => exact ⟨w0, hE, h⟩
  | _ => exact h.elim
theorem wpMix_of_wpX {ops : Array Oper} : ∀ (l : List (Oper × Nat)) (σ : List (Nat × Nat)) (a : Act) (w : World), (∀ p ∈ l.zip σ, ops[p.2.1]? = some p.1.1 ∧ p.1.2 = p.2.2) → l.length = σ.length → wpX P ops (Calm Q) l a w → wpMix P ops (UpQ (Calm Q)) σ a w
  | [], [], a, w, _, _, h => fun x => ⟨w, x.2, h⟩
  | [], _ :: _, _, _, _, hl, _ => by cases hl
  | _ :: _, [], _, _, _, hl, _ => by cases hl
  | (o, k) :: rest, (i, k') :: σ, a, w, hz, hl, h => by
    have h0 := hz ((o, k), (i, k')) (by simp)
    obtain ⟨ho, rfl⟩ : ops[i]? = some o ∧ k = k' := h0
    have hz' : ∀ p ∈ rest.zip σ, ops[p.2.1]? = some p.1.1 ∧ p.1.2 = p.2.2 := fun p hp => hz p (by simp [hp])
    have hl' : rest.length = σ.length := by simpa using hl
    match k with
    | 0 =>
      obtain ⟨v, hy, hr⟩ := h
      exact ⟨v, o, ho, hy, wpMix_of_wpX rest σ _ _ hz' hl' hr⟩
    | 1 =>
      intro x
      have := h x
      unfold softOp
      simp only [ho]
      split
      · rename_i hw; rw [if_pos hw] at this
        exact this.mono (fun a' w' ⟨h1, w0, hE0, h0⟩ => ⟨h1, (wpMix_of_wpX rest σ _ _ hz' hl' h0).later hE0⟩) (fun _ _ _ h => h)
      · rename_i hw; rw [if_neg hw] at this
        obtain ⟨w0, hE0, h0⟩ := this
        exact ⟨Ext.refl _, (wpMix_of_wpX rest σ _ _ hz' hl' h0).later hE0⟩
    | k + 2 =>
      intro x
      have := h x
      unfold softOp
      simp only [ho]
      split
      · rename_i hw; rw [if_pos hw] at this
        exact this.mono (fun a' w' ⟨w0, hE0, h0⟩ => (wpMix_of_wpX rest σ _ _ hz' hl' h0).later hE0) (fun _ _ _ ⟨_, _, h⟩ => h)
      · rename_i hw; rw [if_neg hw] at this
        obtain ⟨w0, hE0, h0⟩ := this
        exact (wpMix_of_wpX rest σ _ _ hz' hl' h0).later hE0

/-- A region whose order is fixed. -/
theorem W_seqr {rid : Nat} {l : List Oper} (h : wpX P l.toArray Q (l.map tag) a w) (hnd : calmIn ρ l := by first | exact .inl rfl | exact .inr (by kernel_rfl)) : Wp ρ P (.region rid l.toArray false) Q a w := fun x => by
  have := wpList_of_wpX (ρ := ρ) _ (hnd.imp id fun h p hp => by
    obtain ⟨o, ho, rfl⟩ := List.mem_map.1 hp
    exact List.all_eq_true.1 h o ho) _ _ _ x.2 h
  simp only [List.map_map] at this
  rw [show (fun x : Oper × Nat => x.fst) ∘ tag = id from rfl, List.map_id] at this
  exact wpIn_region_lit this
def lexσ (l : List Oper) : List (Nat × Nat) := l.zipIdx.map fun p => (p.2, kindOf p.1)
theorem lex_zip {ops : Array Oper} : ∀ (l : List Oper) (n : Nat), (∀ j, l[j]? = ops[n + j]?) → ∀ p ∈ (l.map tag).zip ((l.zipIdx n).map fun p => (p.2, kindOf p.1)), ops[p.2.1]? = some p.1.1 ∧ p.1.2 = p.2.2
  | [], _, _, p, hp => by simp at hp
  | o :: l, n, h, p, hp => by
    simp only [List.map_cons, List.zipIdx_cons, List.zip_cons_cons, List.mem_cons] at hp
    rcases hp with rfl | hp
    · exact ⟨by have := h 0; simpa using this.symm, rfl⟩
    · exact lex_zip l (n + 1) (fun j => by have := h (j + 1); simp only [List.getElem?_cons_succ] at this; rw [this]; congr 1; omega) p hp
/-- A region that draws its order, walked in the text's. -/
theorem W_draw {id : Nat} {l : List Oper} (hm : P.follows .mixedOrders = true) (hB : mixOk .any l.toArray (lexσ l) = true) (h : wpX P l.toArray (Calm Q) (l.map tag) a w) (hnd : calmIn ρ l := by first | exact .inl rfl | exact .inr (by kernel_rfl)) : Wp ρ P (.region id l.toArray true) Q a w := fun x => by
  refine Code.wpIn_mono' calm_le (wp_region_mix (lexσ l) hnd hm hB ?_)
  exact (wpMix_of_wpX (l.map tag) (lexσ l) a w (lex_zip l 0 (by simp)) (by simp [lexσ]) h).later x.2
/-- A region that draws its order, walked in one of ours. -/
theorem W_drawσ {id : Nat} {l : List Oper} (σ : List (Nat × Nat)) (hm : P.follows .mixedOrders = true) (hB : mixOk .any l.toArray σ = true)
    (h : wpX P l.toArray (Calm Q) (σ.map fun p => (l.getD p.1 default, p.2)) a w) (hnd : calmIn ρ l := by first | exact .inl rfl | exact .inr (by kernel_rfl)) : Wp ρ P (.region id l.toArray true) Q a w := fun x => by
  refine Code.wpIn_mono' calm_le (wp_region_mix σ hnd hm hB ?_)
  refine (wpMix_of_wpX _ σ a w ?_ (by simp) h).later x.2
  have hlt : ∀ (σ : List (Nat × Nat)) (listed : Array Bool), mixB .any l.toArray σ listed = true → ∀ p ∈ σ, p.1 < l.toArray.size := by
    intro σ
    induction σ with
    | nil => intro _ _ p hp; cases hp
    | cons q rest ih =>
      intro listed hB p hp
      obtain ⟨i, k⟩ := q
      simp only [mixB, Bool.and_eq_true] at hB
      rcases List.mem_cons.1 hp with rfl | hp
      · have hr : i ∈ Region.ready .any l.toArray listed := by
          match k with
          | 0 => have h1 := hB.1; simp only [Bool.and_eq_true] at h1; simpa using h1.1
          | k + 1 => have := hB.1; simp only [decide_eq_true_eq] at this; rw [this]; simp
        obtain ⟨_, o, ho, _⟩ := mem_ready.1 hr
        exact (Array.getElem?_eq_some_iff.1 ho).1
      · exact ih _ hB.2 p hp
  simp only [mixOk, Bool.and_eq_true] at hB
  have hlt' := hlt σ _ hB.2
  intro p hp
  have : ∀ (τ : List (Nat × Nat)), (∀ q ∈ τ, q.1 < l.toArray.size) → p ∈ (τ.map fun q => (l.getD q.1 default, q.2)).zip τ → l.toArray[p.2.1]? = some p.1.1 ∧ p.1.2 = p.2.2 := by
    intro τ
    induction τ with
    | nil => intro _ h; simp at h
    | cons q τ ih =>
      intro hq h
      simp only [List.map_cons, List.zip_cons_cons, List.mem_cons] at h
      rcases h with rfl | h
      · have := hq q (by simp)
        simp only [List.size_toArray] at this
        refine ⟨?_, rfl⟩
        simp [this]
      · exact ih (fun r hr => hq r (by simp [hr])) h
  exact this σ hlt' hp

/-! ### Steps -/
/-- Does an operation's slot guard another one? -/
def defs (ops : Array Oper) (o : Oper) : Bool :=
  ops.toList.any fun o' => match o'.guard with | some (j, _) => (match ops[j]? with | some oj => o.dst.isSome && oj.dst == o.dst | none => false) | none => false
variable {ops : Array Oper} {o : Oper} {l : List Oper}
theorem X_nil (h : Q .normal a w) : wpX P ops Q [] a w := h
theorem X_niln (h : Q .normal a w) : wpX P ops (Calm Q) [] a w := h
variable {A : Act} {fl : List (Nat × Value)}
/-- An operation that reads, not guarded. -/
theorem X_q {rest : List (Oper × Nat)} {v : Value} {d : Nat} (h : wpX P ops Q rest (fr ((d, v) :: fl) A) w) (hd : o.dst = some d := by rfl) (hg : o.guard = none := by rfl)
    (hv : ∀ x : Later w, o.quietAt P (fr fl A) (Ext (w.later x)) (w.later x) v := by intro x; go_simp; (try go_bits); exact rfl) : wpX P ops Q ((o, 0) :: rest) (fr fl A) w :=
  ⟨v, .inl ⟨by simp [Region.wanted, hg], hv⟩, by rw [hd]; exact h⟩
/-- .. guarded. -/
theorem X_g {rest : List (Oper × Nat)} {v : Value} {d : Nat} {j t : Nat} {want g : Bool} (h : wpX P ops Q rest (fr ((d, gv g v) :: fl) A) w) (hd : o.dst = some d := by rfl) (hg : o.guard = some (j, want) := by rfl) (ht : (ops[j]?).bind (·.dst) = some t := by rfl)
    (hgg : Is (gw ((fr fl A).tmps.getD t undef) want) g := by go_simp; exact Is.mk _)
    (hv : g = true → ∀ x : Later w, o.quietAt P (fr fl A) (Ext (w.later x)) (w.later x) v := by intro hb x; (try simp only [Bool.and_eq_true, Bool.not_eq_true', Bool.or_eq_true, Bool.or_eq_false_iff] at hb); go_simp; (try go_bits); exact rfl) : wpX P ops Q ((o, 0) :: rest) (fr fl A) w := by
  refine ⟨gv g v, ?_, by rw [hd]; exact h⟩
  cases hc : g with
  | true => exact .inl ⟨by rw [wanted_gw hg ht, hgg.eq, hc], hv hc⟩
  | false => exact .inr ⟨by rw [wanted_gw hg ht, hgg.eq, hc], rfl⟩
/-- .. guarded, and not wanted. -/
theorem X_gf {rest : List (Oper × Nat)} {d : Nat} {j t m : Nat} {want : Bool} (h : wpX P ops Q rest (fr ((d, undef) :: fl) A) w) (hd : o.dst = some d := by rfl) (hg : o.guard = some (j, want) := by rfl) (ht : (ops[j]?).bind (·.dst) = some t := by rfl)
    (hgg : Is (gw ((fr fl A).tmps.getD t undef) want) false := by go_simp; exact Is.mk _) (hm : m = 0 := by rfl) : wpX P ops Q ((o, m) :: rest) (fr fl A) w := by
  subst hm
  exact ⟨undef, .inr ⟨by rw [wanted_gw hg ht, hgg.eq], rfl⟩, by rw [hd]; exact h⟩
/-- A test's outcome by which others are guarded gets a name. -/
theorem X_d {rest : List (Oper × Nat)} {e : Bool} {s d : Nat} (h : ∀ b, Eqn b e → wpX P ops Q rest (fr ((d, .bool b) :: fl) A) w) (hop : o.op = .move (.tmp s) := by rfl) (hd : o.dst = some d := by rfl) (hg : o.guard = none := by rfl) (hdf : defs ops o = true := by rfl)
    (hv : Is ((fr fl A).eval (.tmp s)) (.bool e) := by go_simp; exact Is.mk _) : wpX P ops Q ((o, 0) :: rest) (fr fl A) w :=
  ⟨.bool e, .inl ⟨by simp [Region.wanted, hg], fun x => by
    have := hv.eq
    simp only [Oper.quietAt, execOp, hop, Sem.run_pure, Oper.quietUpon]
    exact ⟨trivial, this⟩⟩, by rw [hd]; exact h e (.mk e)⟩
theorem X_dg {rest : List (Oper × Nat)} {e : Bool} {s d : Nat} {j t : Nat} {want g : Bool} (h : ∀ b, Eqn b e → wpX P ops Q rest (fr ((d, gv g (.bool b)) :: fl) A) w) (hop : o.op = .move (.tmp s) := by rfl) (hd : o.dst = some d := by rfl)
    (hg : o.guard = some (j, want) := by rfl) (ht : (ops[j]?).bind (·.dst) = some t := by rfl) (hdf : defs ops o = true := by rfl)
    (hgg : Is (gw ((fr fl A).tmps.getD t undef) want) g := by go_simp; exact Is.mk _)
    (hv : Is ((fr fl A).eval (.tmp s)) (gv g (.bool e)) := by go_simp; exact Is.mk _) : wpX P ops Q ((o, 0) :: rest) (fr fl A) w := by
  refine ⟨gv g (.bool e), ?_, by rw [hd]; exact h e (.mk e)⟩
  cases hc : g with
  | true =>
    have hv := hv.eq
    rw [hc] at hv
    refine .inl ⟨by rw [wanted_gw hg ht, hgg.eq, hc], fun x => ?_⟩
    simp only [Oper.quietAt, execOp, hop, Sem.run_pure, Oper.quietUpon]
    exact ⟨trivial, hv⟩
  | false => exact .inr ⟨by rw [wanted_gw hg ht, hgg.eq, hc], rfl⟩
/-- What is asked of an operation that calls nothing. -/
def uponV (K : Value → World → Prop) : Result Next → Prop
  | .ok (.value v) w' => K v w'
  | .ok .skip w' => K undef w'
  | _ => False
@[go_sem] theorem uponV_value (K : Value → World → Prop) (v : Value) (w' : World) : uponV K (.ok (.value v) w') = K v w' := rfl
@[go_sem] theorem uponV_skip (K : Value → World → Prop) (w' : World) : uponV K (.ok .skip w') = K undef w' := rfl
@[go_sem] def runV (P : Program) (o : Oper) (a : Act) (w : World) (K : Value → World → Prop) : Prop := uponV K ((execOp a.eval o).run P w)
theorem wp_of_runV {K : Value → World → Prop} {K' : Act → World → Prop} {Q' : Post} (h : runV P o a w K) (hk : ∀ v w', K v w' → K' (a.put o.dst v) w') : OpW P o a w K' Q' := by
  unfold runV at h
  unfold OpW
  generalize (execOp a.eval o).run P w = r at *
  cases r with
  | ok n w' => cases n <;> simp only [uponV] at h <;> simp only [uponW] <;> exact hk _ _ h
  | halt x w' => simp only [uponV] at h
theorem X_s {rest : List (Oper × Nat)} {d : Nat} (h : ∀ (x : Later w) (K : Value → World → Prop), (∀ v w', Ext (w.later x) w' → wpX P ops Q rest (fr ((d, v) :: fl) A) w' → K v w') → runV P o (fr fl A) (w.later x) K) (hd : o.dst = some d := by rfl) (hg : o.guard = none := by rfl) :
    wpX P ops Q ((o, 1) :: rest) (fr fl A) w := fun x => by
  rw [if_pos (by simp [Region.wanted, hg])]
  exact wp_of_runV (h x (fun v w' => Ext (w.later x) w' ∧ wpX P ops Q rest (fr ((d, v) :: fl) A) w') fun v w' hE h => ⟨hE, h⟩) fun v w' hk => ⟨hk.1, w', Ext.refl _, by rw [hd]; exact hk.2⟩
/-- A write: an operation without a slot. -/
theorem X_w {rest : List (Oper × Nat)} (h : ∀ (x : Later w) (K : Value → World → Prop), (∀ v w', wpX P ops Q rest (fr fl A) w' → K v w') → runV P o (fr fl A) (w.later x) K) (hd : o.dst = none := by rfl) (hg : o.guard = none := by rfl) :
    wpX P ops Q ((o, 2) :: rest) (fr fl A) w := fun x => by
  rw [if_pos (by simp [Region.wanted, hg])]
  exact wp_of_runV (h x (fun v w' => wpX P ops Q rest (fr fl A) w') fun v w' h => h) fun v w' hk => ⟨w', Ext.refl _, by rw [hd]; exact hk⟩
/-- .. with a slot. -/
theorem X_v {rest : List (Oper × Nat)} {d : Nat} (h : ∀ (x : Later w) (K : Value → World → Prop), (∀ v w', wpX P ops Q rest (fr ((d, v) :: fl) A) w' → K v w') → runV P o (fr fl A) (w.later x) K) (hd : o.dst = some d := by rfl) (hg : o.guard = none := by rfl) :
    wpX P ops Q ((o, 2) :: rest) (fr fl A) w := fun x => by
  rw [if_pos (by simp [Region.wanted, hg])]
  exact wp_of_runV (h x (fun v w' => wpX P ops Q rest (fr ((d, v) :: fl) A) w') fun v w' h => h) fun v w' hk => ⟨w', Ext.refl _, by rw [hd]; exact hk⟩

/-! ### Calls -/
def callable (fn : Func) : Bool := fn.name != "runtime.NumGoroutine" && fn.body.isSome
theorem run_call {f : FuncId} {fn : Func} (hf : P.funcs[f]? = some fn) (hn : callable fn = true) {la : List Operand} {ats : Array TypeId} (hop : o.op = .call { callee := .value (.func f), args := la.toArray, argTypes := ats }) (w : World) :
    (execOp a.eval o).run P w = .ok (.enter f (la.map a.eval).toArray) w := by
  obtain ⟨dst, op, type, pos, after, guard⟩ := o
  simp only at hop
  subst hop
  simp only [callable, Bool.and_eq_true] at hn
  have h1 : (fn.name == "runtime.NumGoroutine") = false := by have := hn.1; simpa [bne] using this
  have h2 : fn.body.isNone = false := by cases hb : fn.body <;> simp_all
  rw [execOp_call_go]
  unfold callFunc
  simp only [program, Sem.run_bind, Sem.run, hf, h1, h2, Result.andThen_ok, Bool.false_eq_true, if_false, Sem.run_pure, List.map_toArray, Array.empty_append, Array.append_empty]
/-- A call of a named function, by its contract. -/
theorem X_call {rest : List (Oper × Nat)} {f : FuncId} {fn : Func} {la : List Operand} {ats : Array TypeId} {lv lv' : List Value} {R : Value → World → Prop} (hf : P.funcs[f]? = some fn)
    (hc : Ret P f lv.toArray w R) (h : ∀ v w', R v w' → wpX P ops Q rest ((fr fl A).put o.dst v) w') (hop : o.op = .call { callee := .value (.func f), args := la.toArray, argTypes := ats } := by rfl) (hn : callable fn = true := by kernel_rfl)
    (hg : o.guard = none := by rfl) (hargs : Is (la.map (fr fl A).eval) lv' := by go_simp; exact Is.mk _) (hlv : lv' = lv := by rfl) : wpX P ops Q ((o, 2) :: rest) (fr fl A) w := by
  intro x
  rw [if_pos (by simp [Region.wanted, hg])]
  unfold OpW
  rw [run_call hf hn hop, hargs.eq, hlv]
  simp only [uponW]
  refine Calls.mono (hc x) fun e w' hR => ?_
  obtain ⟨w0, hE, hR⟩ := hR
  cases e with
  | returned v => exact ⟨w0, hE, h v w0 hR⟩
  | panicked c => exact hR.elim
  | outgrown => exact hR.elim
theorem X_ret {rest : List (Oper × Nat)} {f : FuncId} {fn : Func} {la : List Operand} {ats : Array TypeId} {lv lv' : List Value} {R : Value → World → Prop} {d : Nat} (hf : P.funcs[f]? = some fn)
    (hc : Ret P f lv.toArray w R) (h : ∀ v w', R v w' → wpX P ops Q rest (fr ((d, v) :: fl) A) w') (hd : o.dst = some d := by rfl) (hop : o.op = .call { callee := .value (.func f), args := la.toArray, argTypes := ats } := by rfl) (hn : callable fn = true := by kernel_rfl)
    (hg : o.guard = none := by rfl) (hargs : Is (la.map (fr fl A).eval) lv' := by go_simp; exact Is.mk _) (hlv : lv' = lv := by rfl) : wpX P ops Q ((o, 2) :: rest) (fr fl A) w :=
  X_call hf hc (fun v w' hR => by rw [hd, fr_put]; exact h v w' hR) hop hn hg hargs hlv
theorem X_pure {rest : List (Oper × Nat)} {f : FuncId} {fn : Func} {la : List Operand} {ats : Array TypeId} {lv lv' : List Value} {v : Value} {d : Nat} (hf : P.funcs[f]? = some fn)
    (hc : Pure P f lv.toArray w v) (h : wpX P ops Q rest (fr ((d, v) :: fl) A) w) (hd : o.dst = some d := by rfl) (hop : o.op = .call { callee := .value (.func f), args := la.toArray, argTypes := ats } := by rfl) (hn : callable fn = true := by kernel_rfl)
    (hg : o.guard = none := by rfl) (hargs : Is (la.map (fr fl A).eval) lv' := by go_simp; exact Is.mk _) (hlv : lv' = lv := by rfl) : wpX P ops Q ((o, 2) :: rest) (fr fl A) w := by
  intro x
  rw [if_pos (by simp [Region.wanted, hg])]
  unfold OpW
  rw [run_call hf hn hop, hargs.eq, hlv]
  simp only [uponW]
  refine Calls.mono (hc x) fun e w' hR => ?_
  obtain ⟨w0, hE, hR⟩ := hR
  cases e with
  | returned v' => obtain ⟨rfl, hE0⟩ := hR; exact ⟨w, Ext.trans hE0 hE, by rw [hd]; exact h⟩
  | panicked c => exact hR.elim
  | outgrown => exact hR.elim
theorem X_gpure {rest : List (Oper × Nat)} {f : FuncId} {fn : Func} {la : List Operand} {ats : Array TypeId} {lv lv' : List Value} {v : Value} {d : Nat} {j t : Nat} {want g : Bool} (hf : P.funcs[f]? = some fn)
    (hc : g = true → Pure P f lv.toArray w v) (h : wpX P ops Q rest (fr ((d, gv g v) :: fl) A) w) (hd : o.dst = some d := by rfl) (hop : o.op = .call { callee := .value (.func f), args := la.toArray, argTypes := ats } := by rfl) (hn : callable fn = true := by kernel_rfl)
    (hg : o.guard = some (j, want) := by rfl) (ht : (ops[j]?).bind (·.dst) = some t := by rfl)
    (hgg : Is (gw ((fr fl A).tmps.getD t undef) want) g := by go_simp; exact Is.mk _)
    (hargs : g = true → Is (la.map (fr fl A).eval) lv' := by intro hb; (try simp only [Bool.and_eq_true, Bool.not_eq_true', Bool.or_eq_true, Bool.or_eq_false_iff] at hb); go_simp; exact Is.mk _) (hlv : lv' = lv := by rfl) : wpX P ops Q ((o, 2) :: rest) (fr fl A) w := by
  intro x
  rw [wanted_gw hg ht, hgg.eq]
  cases hgb : g with
  | true =>
    simp only [if_true]
    unfold OpW
    rw [run_call hf hn hop, (hargs hgb).eq, hlv]
    simp only [uponW]
    refine Calls.mono (hc hgb x) fun e w' hR => ?_
    obtain ⟨w0, hE, hR⟩ := hR
    cases e with
    | returned v' => obtain ⟨rfl, hE0⟩ := hR; rw [hgb] at h; exact ⟨w, Ext.trans hE0 hE, by rw [hd]; exact h⟩
    | panicked c => exact hR.elim
    | outgrown => exact hR.elim
  | false =>
    simp only [Bool.false_eq_true, if_false]
    rw [hgb] at h
    exact ⟨w, x.2, by rw [hd]; exact h⟩

theorem X_pure1 {rest : List (Oper × Nat)} {f : FuncId} {fn : Func} {la : List Operand} {ats : Array TypeId} {lv lv' : List Value} {v : Value} {d : Nat} (hf : P.funcs[f]? = some fn)
    (hc : ∀ x : Later w, Pure P f lv.toArray (w.later x) v) (h : wpX P ops Q rest (fr ((d, v) :: fl) A) w) (hd : o.dst = some d := by rfl) (hop : o.op = .call { callee := .value (.func f), args := la.toArray, argTypes := ats } := by rfl) (hn : callable fn = true := by kernel_rfl)
    (hg : o.guard = none := by rfl) (hargs : Is (la.map (fr fl A).eval) lv' := by go_simp; exact Is.mk _) (hlv : lv' = lv := by rfl) : wpX P ops Q ((o, 1) :: rest) (fr fl A) w := by
  intro x
  rw [if_pos (by simp [Region.wanted, hg])]
  unfold OpW
  rw [run_call hf hn hop, hargs.eq, hlv]
  simp only [uponW]
  refine Calls.mono (Fn.calls (hc x)) fun e w' hR => ?_
  obtain ⟨w0, hE, hR⟩ := hR
  cases e with
  | returned v' => obtain ⟨rfl, hE0⟩ := hR; exact ⟨Ext.trans hE0 hE, w, Ext.trans x.2 (Ext.trans hE0 hE), by rw [hd]; exact h⟩
  | panicked c => exact hR.elim
  | outgrown => exact hR.elim
theorem X_gpure1 {rest : List (Oper × Nat)} {f : FuncId} {fn : Func} {la : List Operand} {ats : Array TypeId} {lv lv' : List Value} {v : Value} {d : Nat} {j t : Nat} {want g : Bool} (hf : P.funcs[f]? = some fn)
    (hc : g = true → ∀ x : Later w, Pure P f lv.toArray (w.later x) v) (h : wpX P ops Q rest (fr ((d, gv g v) :: fl) A) w) (hd : o.dst = some d := by rfl) (hop : o.op = .call { callee := .value (.func f), args := la.toArray, argTypes := ats } := by rfl) (hn : callable fn = true := by kernel_rfl)
    (hg : o.guard = some (j, want) := by rfl) (ht : (ops[j]?).bind (·.dst) = some t := by rfl)
    (hgg : Is (gw ((fr fl A).tmps.getD t undef) want) g := by go_simp; exact Is.mk _)
    (hargs : g = true → Is (la.map (fr fl A).eval) lv' := by intro hb; (try simp only [Bool.and_eq_true, Bool.not_eq_true', Bool.or_eq_true, Bool.or_eq_false_iff] at hb); go_simp; exact Is.mk _) (hlv : lv' = lv := by rfl) : wpX P ops Q ((o, 1) :: rest) (fr fl A) w := by
  intro x
  rw [wanted_gw hg ht, hgg.eq]
  cases hgb : g with
  | true =>
    simp only [if_true]
    unfold OpW
    rw [run_call hf hn hop, (hargs hgb).eq, hlv]
    simp only [uponW]
    refine Calls.mono (Fn.calls (hc hgb x)) fun e w' hR => ?_
    obtain ⟨w0, hE, hR⟩ := hR
    cases e with
    | returned v' => obtain ⟨rfl, hE0⟩ := hR; rw [hgb] at h; exact ⟨Ext.trans hE0 hE, w, Ext.trans x.2 (Ext.trans hE0 hE), by rw [hd]; exact h⟩
    | panicked c => exact hR.elim
    | outgrown => exact hR.elim
  | false =>
    simp only [Bool.false_eq_true, if_false]
    rw [hgb] at h
    exact ⟨w, x.2, by rw [hd]; exact h⟩
/-- A guard that says so. -/
theorem X_gt {rest : List (Oper × Nat)} {dst : Option Tmp} {op : Op} {type : TypeId} {pos : String} {after : Array Edge} {j t k : Nat} {want : Bool}
    (h : wpX P ops Q ((⟨dst, op, type, pos, after, none⟩, k) :: rest) (fr fl A) w) (ht : (ops[j]?).bind (·.dst) = some t := by rfl)
    (hgg : Is (gw ((fr fl A).tmps.getD t undef) want) true := by go_simp; exact Is.mk _) : wpX P ops Q ((⟨dst, op, type, pos, after, some (j, want)⟩, k) :: rest) (fr fl A) w := by
  have hw : Region.wanted (⟨dst, op, type, pos, after, some (j, want)⟩ : Oper) (yielded ops (fr fl A).tmps) = true := by rw [wanted_gw rfl ht, hgg.eq]
  have hw' : Region.wanted (⟨dst, op, type, pos, after, none⟩ : Oper) (yielded ops (fr fl A).tmps) = true := by simp [Region.wanted]
  match k with
  | 0 =>
    obtain ⟨v, hy, hr⟩ := h
    refine ⟨v, .inl ⟨hw, ?_⟩, hr⟩
    rcases hy with ⟨_, hv⟩ | ⟨hn, _⟩
    · exact hv
    · rw [hw'] at hn; cases hn
  | 1 =>
    intro x
    have := h x
    rw [if_pos hw'] at this
    rw [if_pos hw]
    exact this
  | k + 2 =>
    intro x
    have := h x
    rw [if_pos hw'] at this
    rw [if_pos hw]
    exact this
theorem X_op {rest : List (Oper × Nat)} (h : ∀ x : Later w, OpW P o (fr fl A) (w.later x) (fun a' w' => ∃ w0, Ext w0 w' ∧ wpX P ops Q rest a' w0) (UpQ Q)) (hg : o.guard = none := by rfl) : wpX P ops Q ((o, 2) :: rest) (fr fl A) w := fun x => by
  rw [if_pos (by simp [Region.wanted, hg])]
  exact h x
/-- .. guarded. -/
theorem X_gop {rest : List (Oper × Nat)} {j t : Nat} {want g : Bool} (h : g = true → ∀ x : Later w, OpW P o (fr fl A) (w.later x) (fun a' w' => ∃ w0, Ext w0 w' ∧ wpX P ops Q rest a' w0) (UpQ Q)) (hf : g = false → wpX P ops Q rest ((fr fl A).put o.dst undef) w)
    (hg : o.guard = some (j, want) := by rfl) (ht : (ops[j]?).bind (·.dst) = some t := by rfl) (hgg : Is (gw ((fr fl A).tmps.getD t undef) want) g := by go_simp; exact Is.mk _) : wpX P ops Q ((o, 2) :: rest) (fr fl A) w := fun x => by
  rw [wanted_gw hg ht, hgg.eq]
  cases hc : g with
  | true => simp only [if_true]; exact h hc x
  | false => simp only [Bool.false_eq_true, if_false]; exact ⟨w, x.2, hf hc⟩
/-- A call of a function value: a closure. -/
theorem run_valcall {f : FuncId} {fn : Func} (hf : P.funcs[f]? = some fn) (hn : callable fn = true) {s : Operand} {la : List Operand} {ats : Array TypeId} {first captured : Array Value} (hop : o.op = .call { callee := .value s, args := la.toArray, argTypes := ats })
    (hs : a.eval s = .func (.func f) first captured) (w : World) : (execOp a.eval o).run P w = .ok (.enter f (first ++ (la.map a.eval).toArray ++ captured)) w := by
  obtain ⟨dst, op, type, pos, after, guard⟩ := o
  simp only at hop
  subst hop
  simp only [callable, Bool.and_eq_true] at hn
  have h1 : (fn.name == "runtime.NumGoroutine") = false := by have := hn.1; simpa [bne] using this
  have h2 : fn.body.isNone = false := by cases hb : fn.body <;> simp_all
  have e : execOp a.eval { dst := dst, op := .call { callee := .value s, args := la.toArray, argTypes := ats }, type := type, pos := pos, after := after, guard := guard } =
      (do let d ← Deferred.ofValue (a.eval s) (la.toArray.map a.eval); invoke d.target d.args) := rfl
  rw [e, hs]
  simp only [Deferred.ofValue, Sem.run_bind, Sem.run_pure, Result.andThen_ok, invoke]
  unfold callFunc
  simp only [program, Sem.run_bind, Sem.run, hf, h1, h2, Result.andThen_ok, Bool.false_eq_true, if_false, Sem.run_pure, List.map_toArray]
theorem run_yieldcall {l : Nat} {s : Operand} {la : List Operand} {ats : Array TypeId} (hop : o.op = .call { callee := .value s, args := la.toArray, argTypes := ats }) (hs : a.eval s = .func (.yield l) #[] #[]) (w : World) :
    (execOp a.eval o).run P w = (Instr.yield l (la.map a.eval).toArray).run P w := by
  obtain ⟨dst, op, type, pos, after, guard⟩ := o
  simp only at hop
  subst hop
  have e : execOp a.eval { dst := dst, op := .call { callee := .value s, args := la.toArray, argTypes := ats }, type := type, pos := pos, after := after, guard := guard } =
      (do let d ← Deferred.ofValue (a.eval s) (la.toArray.map a.eval); invoke d.target d.args) := rfl
  rw [e, hs]
  simp [Deferred.ofValue, invoke]
/-- A closure's call, by its contract. -/
theorem X_valret {rest : List (Oper × Nat)} {f : FuncId} {fn : Func} {s : Operand} {la : List Operand} {ats : Array TypeId} {lv lv' : List Value} {first captured : Array Value} {R : Value → World → Prop} {d : Nat} (hf : P.funcs[f]? = some fn)
    (hc : Ret P f (first ++ lv.toArray ++ captured) w R) (h : ∀ v w', R v w' → wpX P ops Q rest (fr ((d, v) :: fl) A) w') (hd : o.dst = some d := by rfl) (hop : o.op = .call { callee := .value s, args := la.toArray, argTypes := ats } := by rfl) (hn : callable fn = true := by kernel_rfl)
    (hg : o.guard = none := by rfl) (hs : Is ((fr fl A).eval s) (.func (.func f) first captured) := by go_simp; exact Is.mk _) (hargs : Is (la.map (fr fl A).eval) lv' := by go_simp; exact Is.mk _) (hlv : lv' = lv := by rfl) : wpX P ops Q ((o, 2) :: rest) (fr fl A) w := by
  refine X_op (fun x => ?_) hg
  unfold OpW
  rw [run_valcall hf hn hop hs.eq, hargs.eq, hlv]
  simp only [uponW]
  refine Calls.mono (hc x) fun e w' hR => ?_
  obtain ⟨w0, hE, hR⟩ := hR
  cases e with
  | returned v => exact ⟨w0, hE, by rw [hd, fr_put]; exact h v w0 hR⟩
  | panicked c => exact hR.elim
  | outgrown => exact hR.elim

/-! ### New blocks -/
theorem X_al {rest : List (Oper × Nat)} (x : Later w) {cs : Array Value} {e : TypeId} (h : ∀ y : Later w, w.heap.size ≤ (w.later x).heap.size → (w.later x).heap.size < (w.later y).heap.size →
    (∀ k, (w.later y).cell? ⟨(w.later x).heap.size, k, none⟩ = cs[k]?) → (∀ k, (w.later y).frozen? ⟨(w.later x).heap.size, k, none⟩ = false) → Hid ((w.later y).heap[(w.later x).heap.size]? = some (.cells cs e)) → wpX P ops Q rest a (w.later y)) :
    wpX P ops Q rest a ((w.later x).alloc (.cells cs e)) :=
  h ⟨_, Ext.trans x.2 (Ext.alloc _ _)⟩ (size_later _ _) (by show _ < ((w.later x).alloc _).heap.size; simp) (fun k => World.cell?_alloc_new _ _ _ _) (fun k => World.frozen?_alloc_new _ _ _ _) (heap_alloc_new _ _)
theorem X_alm {rest : List (Oper × Nat)} (x : Later w) {es : Array MapEntry} {c : Nat} (h : ∀ y : Later w, w.heap.size ≤ (w.later x).heap.size → (w.later x).heap.size < (w.later y).heap.size →
    Hid ((w.later y).heap[(w.later x).heap.size]? = some (.map es c)) → wpX P ops Q rest a (w.later y)) : wpX P ops Q rest a ((w.later x).alloc (.map es c)) :=
  h ⟨_, Ext.trans x.2 (Ext.alloc _ _)⟩ (size_later _ _) (by show _ < ((w.later x).alloc _).heap.size; simp) (heap_alloc_new _ _)
@[simp] theorem ext_rfl (w : World) : Ext w w := Ext.refl w
@[simp] theorem ext_l0 (w : World) (y : Later w) : Ext w (w.later y) := y.2
@[simp] theorem ext_l1 (w : World) (y : Later w) (z : Later (w.later y)) : Ext w ((w.later y).later z) := Ext.trans y.2 z.2
@[simp] theorem ext_l2 (w : World) (y : Later w) (z : Later (w.later y)) (u : Later ((w.later y).later z)) : Ext w (((w.later y).later z).later u) := Ext.trans y.2 (Ext.trans z.2 u.2)
@[simp] theorem ext_l3 (w : World) (y : Later w) (z : Later (w.later y)) (u : Later ((w.later y).later z)) (t : Later (((w.later y).later z).later u)) : Ext w ((((w.later y).later z).later u).later t) := Ext.trans y.2 (Ext.trans z.2 (Ext.trans u.2 t.2))
@[simp] theorem ext_l4 (w : World) (y : Later w) (z : Later (w.later y)) (u : Later ((w.later y).later z)) (t : Later (((w.later y).later z).later u)) (s : Later ((((w.later y).later z).later u).later t)) : Ext w (((((w.later y).later z).later u).later t).later s) := Ext.trans y.2 (Ext.trans z.2 (Ext.trans u.2 (Ext.trans t.2 s.2)))
@[simp] theorem ext_lr {w W : World} (y : Later W) (h : Ext w W) : Ext w (W.later y) := Ext.trans h y.2
end
attribute [irreducible] wpX Wp fr lkp tmpsOf gv gw Fn Body Is
end Go.Ws
namespace Go.Ws
open Go Go.RowKit
set_option linter.unusedVariables false

/-! ### Lists in memory -/
/-- An entry of a log. -/
structure Ent where
  ep : Int
  id : Int
  num : Int
  seq : Int
  kind : Int
  val : Int
  deriving DecidableEq, Inhabited
def Ent.cs (e : Ent) : List Value := [.int .i64 e.ep, .int .i64 e.id, .int .i64 e.num, .int .i64 e.seq, .int .i64 e.kind, .int .i64 e.val]
abbrev Ent.v (e : Ent) : Value := .agg #[.int .i64 e.ep, .int .i64 e.id, .int .i64 e.num, .int .i64 e.seq, .int .i64 e.kind, .int .i64 e.val]

/-- Cells of a block from an offset on, k an element, are these elements. -/
def RowAt {α : Type} (enc : α → List Value) (k : Nat) (w : World) (b o : Nat) (xs : List α) : Prop :=
  ∀ i x, xs[i]? = some x → ∀ j u, (enc x)[j]? = some u → w.cell? ⟨b, o + i * k + j, none⟩ = some u
/-- A slice value that reads as a list. -/
def Rd {α : Type} (enc : α → List Value) (k : Nat) (w : World) (v : Value) (xs : List α) : Prop :=
  ∃ A c, v = .slice A xs.length c ∧ xs.length ≤ c ∧ c ≤ maxLen ∧ ((A = none ∧ xs = []) ∨ ∃ b o, A = some ⟨b, o, none⟩ ∧ b < w.heap.size ∧ RowAt enc k w b o xs)

variable {α : Type} {enc : α → List Value} {k : Nat} {w w' : World} {v : Value} {xs : List α}
theorem RowAt.of_heap {b o : Nat} (h : RowAt enc k w b o xs) (hb : w'.heap[b]? = w.heap[b]?) : RowAt enc k w' b o xs :=
  fun i x hx j u hu => (World.cell?_of_block (a := ⟨b, o + i * k + j, none⟩) hb).trans (h i x hx j u hu)
theorem RowAt.later {b o : Nat} (h : RowAt enc k w b o xs) (hb : b < w.heap.size) (hE : Ext w w') : RowAt enc k w' b o xs :=
  h.of_heap (hE.block b hb (fun h => h))
theorem Rd.later (h : Rd enc k w v xs) (hE : Ext w w') : Rd enc k w' v xs := by
  obtain ⟨A, c, h1, h2, h3, h4⟩ := h
  refine ⟨A, c, h1, h2, h3, ?_⟩
  rcases h4 with h4 | ⟨b, o, e, hb, hr⟩
  · exact .inl h4
  · exact .inr ⟨b, o, e, Nat.lt_of_lt_of_le hb hE.size, hr.later hb hE⟩
theorem Rd.mod {F : Nat → Prop} (h : Rd enc k w v xs) (hM : Mod F w w') (hF : ∀ b, v.ownBlock = some b → ¬ F b) : Rd enc k w' v xs := by
  obtain ⟨A, c, rfl, h2, h3, h4⟩ := h
  refine ⟨A, c, rfl, h2, h3, ?_⟩
  rcases h4 with h4 | ⟨b, o, rfl, hb, hr⟩
  · exact .inl h4
  · exact .inr ⟨b, o, rfl, Nat.lt_of_lt_of_le hb hM.size, hr.of_heap (hM.block b hb (hF b rfl))⟩
theorem Rd.nil (w : World) : Rd enc k w (.slice none 0 0) ([] : List α) := ⟨none, 0, rfl, Nat.le_refl _, Nat.zero_le _, .inl ⟨rfl, rfl⟩⟩
theorem RowAt.take {b o : Nat} (h : RowAt enc k w b o xs) (n : Nat) : RowAt enc k w b o (xs.take n) := fun i x hx j u hu => by
  rw [List.getElem?_take] at hx
  split at hx
  · exact h i x hx j u hu
  · cases hx
theorem RowAt.drop {b o : Nat} (h : RowAt enc k w b o xs) (n : Nat) : RowAt enc k w b (o + n * k) (xs.drop n) := fun i x hx j u hu => by
  rw [List.getElem?_drop] at hx
  have := h (n + i) x hx j u hu
  rw [Nat.add_mul] at this
  rw [← this]; congr 2; omega

theorem Rd.take {A : Option Addr} {n c : Nat} (h : Rd enc k w (.slice A n c) xs) (m : Nat) (hm : m ≤ xs.length) : Rd enc k w (.slice A m c) (xs.take m) := by
  obtain ⟨A', c', h1, h2, h3, h4⟩ := h
  cases h1
  have hl : (xs.take m).length = m := by simp; omega
  refine ⟨A, c, by rw [hl], by rw [hl]; omega, h3, ?_⟩
  rcases h4 with ⟨h, h'⟩ | ⟨b, o, e, hb, hr⟩
  · exact .inl ⟨h, by simp [h']⟩
  · exact .inr ⟨b, o, e, hb, hr.take m⟩
theorem Rd.length {A : Option Addr} {n c : Nat} (h : Rd enc k w (.slice A n c) xs) : xs.length = n := by
  obtain ⟨A', c', h1, h2, h3, h4⟩ := h
  cases h1; rfl
/-- What is read of an entry of a list. -/
theorem Rd.ent {w : World} {v : Value} {l : List Ent} (h : Rd Ent.cs 6 w v l) : ∃ A c, v = .slice A l.length c ∧ l.length ≤ c ∧ c ≤ 9223372036854775807 ∧
    Hid (∀ i, i < l.length → ∃ e b o, Hid (l[i]? = some e) ∧ A = some ⟨b, o, none⟩ ∧ b < w.heap.size ∧ w.cell? ⟨b, o + i * 6, none⟩ = some (.int .i64 e.ep) ∧ w.cell? ⟨b, o + i * 6 + 1, none⟩ = some (.int .i64 e.id) ∧
      w.cell? ⟨b, o + i * 6 + 2, none⟩ = some (.int .i64 e.num) ∧ w.cell? ⟨b, o + i * 6 + 3, none⟩ = some (.int .i64 e.seq) ∧ w.cell? ⟨b, o + i * 6 + 4, none⟩ = some (.int .i64 e.kind) ∧ w.cell? ⟨b, o + i * 6 + 5, none⟩ = some (.int .i64 e.val)) := by
  obtain ⟨A, c, h1, h2, h3, h4⟩ := h
  refine ⟨A, c, h1, h2, h3, fun i hi => ?_⟩
  have he : l[i]? = some l[i] := by simp [hi]
  rcases h4 with ⟨_, rfl⟩ | ⟨b, o, hA, hb, hr⟩
  · simp at hi
  · exact ⟨l[i], b, o, he, hA, hb, hr i _ he 0 _ rfl, hr i _ he 1 _ rfl, hr i _ he 2 _ rfl, hr i _ he 3 _ rfl, hr i _ he 4 _ rfl, hr i _ he 5 _ rfl⟩
theorem take_snoc {α : Type} {l : List α} {k : Nat} {e : α} (h : l[k]? = some e) : l.take (k + 1) = l.take k ++ [e] := by
  rw [List.take_add_one, h]; rfl
theorem mem_of_get {α : Type} {l : List α} {k : Nat} {e : α} (h : l[k]? = some e) : e ∈ l := List.mem_of_getElem? h
abbrev RdE := Rd Ent.cs 6
abbrev RdI := Rd (fun n : Int => [Value.int .i64 n]) 1
end Go.Ws
namespace Go.Ws
open Go Go.RowKit
set_option linter.unusedVariables false
set_option linter.unusedSectionVars false

/-! ### Slices of our own, and append -/
section
variable {P : Program} {w : World}
theorem run_append2 (t ty e : TypeId) (i : TypeInfo) (z : Value) (size bytes : Nat) (ht : P.underlying t = some (.slice e)) (hi : P.info? e = some i) (hz : i.zero = some z)
    (hsize : i.size = size) (hby : i.bytes = bytes) (hzs : z.cells.size = size) (hsz : 0 < size)
    (v : Value) (n : Nat) (xs : List Value) (hown : w.ownsRow 0 e size v n xs)
    (a : Addr) (m c : Nat) (news : List Value) (hl : news.length = m * size) (hnews : ∀ j u, news[j]? = some u → w.cell? (a.add j) = some u) (h1 : ∀ u ∈ news, u.oneCell' = true)
    (h63 : n + m ≤ maxLen) (hbytes : (n + m) * bytes ≤ 140737488355328) :
    ∃ v' w', (Builtin.append_ #[t, t] ty #[v, .slice (some a) m c]).run P w = .ok v' w' ∧ w'.ownsRow 0 e size v' (n + m) (xs ++ news) ∧ Mod (fun b => v.ownBlock = some b) w w' ∧
      (v'.ownBlock = v.ownBlock ∨ ∃ g, v'.ownBlock = some g ∧ w.heap.size ≤ g) ∧ (v' = .slice none 0 0 ↔ v = .slice none 0 0 ∧ m = 0) := by
  subst hsize
  subst hby
  have hsmall : n + m ≤ 9223372036854775807 := by simp only [maxLen] at h63; omega
  have hlen : (xs ++ news).length = (n + m) * i.size := by rw [List.length_append, hown.1, hl, Nat.add_mul]
  have grown : ∀ (old : Nat), old < n + m → ∀ (row : Option Nat),
      (w.drew.alloc (.cells (xs.toArray ++ news.toArray ++ Builtin.zeroCells z.cells (grownCap w (n + m) old e - (n + m))) e)).ownsRow 0 e i.size
        (.slice (some ⟨w.heap.size, 0, none⟩) (n + m) (grownCap w (n + m) old e)) (n + m) (xs ++ news) ∧
      Mod (fun b => row = some b) w (w.drew.alloc (.cells (xs.toArray ++ news.toArray ++ Builtin.zeroCells z.cells (grownCap w (n + m) old e - (n + m))) e)) := by
    intro old ho row
    have hge := grownCap_ge w (n + m) old e
    have hcm : grownCap w (n + m) old e ≤ maxLen := grownCap_le_maxLen w (n + m) old e h63
    refine ⟨⟨hlen, .inr ⟨w.heap.size, _, _, rfl, Nat.zero_le _, heap_alloc_new w.drew _, hge, hcm, ?_, ?_⟩⟩, ⟨rfl, rfl, rfl, by simp, fun k hk _ => Below.heap_alloc w.drew _ k hk⟩⟩
    · simp only [Array.size_append, List.size_toArray, size_zeroCells, hzs, hown.1, hl, ← Nat.add_mul]
      congr 1
      omega
    · simp only [Array.toList_append, List.append_assoc]
      rw [← List.append_assoc, ← hlen]
      exact List.take_left
  rcases hown.2 with ⟨rfl, rfl⟩ | ⟨g, cap, cur, rfl, hbg, hg, hnc, hcm, hcs, htake⟩
  · have hx : xs = [] := List.eq_nil_of_length_eq_zero (by simpa using hown.1)
    subst hx
    by_cases hm : m = 0
    · subst hm
      have hn : news = [] := List.eq_nil_of_length_eq_zero (by simpa using hl)
      subst hn
      refine ⟨.slice none 0 0, w, ?_, World.ownsRow_nil w 0 e i.size, Mod.refl _ w, .inl rfl, by simp⟩
      simp [Builtin.append_, run_underlying ht, sizeOf, typeInfo, hi, Builtin.lenOf, Builtin.firstCells, loadCells, loadCellsFrom]
    · have hr := run_append_nil (P := P) w t ty e i z ht hi hz a m c news hl hnews (by omega) (by omega) (by have hb := hbytes; simp only [Nat.zero_add] at hb; omega)
      have hgr := grown 0 (by omega) (Value.ownBlock (.slice none 0 0))
      simp only [Nat.zero_add, List.nil_append, Array.empty_append] at hgr ⊢
      exact ⟨_, _, hr, hgr.1, hgr.2, .inr ⟨_, rfl, Nat.le_refl _⟩, by simp [hm]⟩
  · by_cases hroom : n + m ≤ cap
    · have hfit : n * i.size + news.length ≤ cur.size := by rw [hl, hcs, ← Nat.add_mul]; exact Nat.mul_le_mul_right _ hroom
      have hr := run_append_room (P := P) w t ty e i ht hi g n cap cur hg a m c news hl hnews h1 hroom hfit
      refine ⟨_, _, hr, ⟨hlen, .inr ⟨g, cap, _, rfl, hbg, setRow_heap w g cur _ e _ hg, hroom, hcm, ?_, ?_⟩⟩, ⟨rfl, rfl, rfl, by simp, fun k _ hk => setRow_other w g k _ (fun e => hk (by simp [Value.ownBlock, e]))⟩, .inl rfl, by simp⟩
      · simp only [List.size_toArray, List.length_append, List.length_take, List.length_drop, Array.length_toList]
        omega
      · rw [htake, ← hlen]
        exact List.take_left
    · have holds : ∀ j u, xs[j]? = some u → w.cell? ((⟨g, 0, none⟩ : Addr).add j) = some u := hown.cells (g := g) rfl
      have hr := run_append_grow (P := P) w t ty e i z ht hi hz ⟨g, 0, none⟩ n cap xs hown.1 holds a m c news hl hnews (by omega) (by omega) (growslice_fits (by omega) hbytes)
      have hgr := grown cap (by omega) (Value.ownBlock (.slice (some ⟨g, 0, none⟩) n cap))
      exact ⟨_, _, hr, hgr.1, hgr.2, .inr ⟨_, rfl, Nat.le_refl _⟩, by simp⟩

theorem Ext.fresh {F : Nat → Prop} {a b c : World} (h : Ext a b) (k : Mod F b c) (hF : ∀ i, F i → a.heap.size ≤ i) : Ext a c :=
  Mod.trans h k (fun _ _ h => h) (fun i hi hf => by have := hF i hf; omega)
/-- A slice of our own that reads as a list. -/
def Own {α : Type} (enc : α → List Value) (k : Nat) (E : TypeId) (w : World) (v : Value) (xs : List α) : Prop := w.ownsRow 0 E k v xs.length (xs.flatMap enc)
variable {α : Type} {enc : α → List Value} {k : Nat} {E : TypeId} {v : Value} {xs : List α} {w' : World}
theorem Own.nil (w : World) : Own enc k E w (.slice none 0 0) ([] : List α) := World.ownsRow_nil w 0 E k
theorem Own.lt (h : Own enc k E w v xs) : ∀ b, v.ownBlock = some b → b < w.heap.size := fun b hb => (World.ownsRow.lt h b hb).2
theorem Own.mod {F : Nat → Prop} (h : Own enc k E w v xs) (hM : Mod F w w') (hF : ∀ b, v.ownBlock = some b → ¬ F b) : Own enc k E w' v xs := by
  refine ⟨h.1, ?_⟩
  rcases h.2 with hn | ⟨g, cap, cur, rfl, hb, hgg, rest⟩
  · exact .inl hn
  · refine .inr ⟨g, cap, cur, rfl, hb, ?_, rest⟩
    rw [hM.block g (Array.getElem?_eq_some_iff.1 hgg).1 (hF g rfl)]
    exact hgg
theorem Own.later (h : Own enc k E w v xs) (hE : Ext w w') : Own enc k E w' v xs := h.mod hE (fun _ _ h => h)
theorem flat_get (hk : ∀ x, (enc x).length = k) : ∀ (xs : List α) (i : Nat) (x : α) (j : Nat) (u : Value), xs[i]? = some x → (enc x)[j]? = some u → (xs.flatMap enc)[i * k + j]? = some u
  | [], i, x, j, u, h, _ => by simp at h
  | y :: ys, 0, x, j, u, h, hu => by
    simp at h; subst h
    have hj : j < (enc y).length := by
      rcases Nat.lt_or_ge j (enc y).length with h | h
      · exact h
      · rw [List.getElem?_eq_none h] at hu; cases hu
    rw [List.flatMap_cons, Nat.zero_mul, Nat.zero_add, List.getElem?_append_left hj]; exact hu
  | y :: ys, i + 1, x, j, u, h, hu => by
    simp only [List.getElem?_cons_succ] at h
    rw [List.flatMap_cons, List.getElem?_append_right (by rw [hk, Nat.add_mul]; omega), hk]
    have := flat_get hk ys i x j u h hu
    rw [← this]; congr 1; rw [Nat.add_mul]; omega
theorem flat_len (hk : ∀ x, (enc x).length = k) : ∀ (xs : List α), (xs.flatMap enc).length = xs.length * k
  | [] => by simp
  | y :: ys => by rw [List.flatMap_cons, List.length_append, hk, flat_len hk ys, List.length_cons, Nat.add_mul]; omega
theorem Own.rd (hk : ∀ x, (enc x).length = k) (h : Own enc k E w v xs) : Rd enc k w v xs := by
  rcases h.2 with ⟨rfl, hn⟩ | ⟨g, cap, cur, rfl, hb, hgg, hnc, hcm, hcs, ht⟩
  · have : xs = [] := List.eq_nil_of_length_eq_zero hn
    subst this
    exact Rd.nil w
  · refine ⟨_, cap, rfl, hnc, hcm, .inr ⟨g, 0, rfl, (Array.getElem?_eq_some_iff.1 hgg).1, fun i x hx j u hu => ?_⟩⟩
    have h1 := World.ownsRow.cells h (g := g) rfl (i * k + j) u (flat_get hk xs i x j u hx hu)
    have hadd : (⟨g, 0, none⟩ : Addr).add (i * k + j) = ⟨g, 0 + i * k + j, none⟩ := by unfold Addr.add; split <;> simp_all
    rw [← hadd]; exact h1
theorem Own.shape (h : Own enc k E w v xs) : (v = .slice none 0 0 ∧ xs = []) ∨ ∃ g c, v = .slice (some ⟨g, 0, none⟩) xs.length c ∧ xs.length ≤ c ∧ c ≤ maxLen ∧ g < w.heap.size := by
  rcases h.2 with ⟨rfl, hn⟩ | ⟨g, cap, cur, rfl, hb, hgg, hnc, hcm, hcs, ht⟩
  · exact .inl ⟨rfl, List.eq_nil_of_length_eq_zero hn⟩
  · exact .inr ⟨g, cap, rfl, hnc, hcm, (Array.getElem?_eq_some_iff.1 hgg).1⟩
theorem Own.lit (w : World) (x : Later w) {y : Later w} {b : Nat} (hk : ∀ x, (enc x).length = k) (cs : Array Value) (xs : List α) (hcs : cs.toList = xs.flatMap enc) (hb : (w.later y).heap[b]? = some (.cells cs E)) (hm : xs.length ≤ maxLen) :
    Own enc k E (w.later y) (.slice (some ⟨b, 0, none⟩) xs.length xs.length) xs := by
  refine ⟨flat_len hk xs, .inr ⟨b, xs.length, cs, rfl, Nat.zero_le _, hb, Nat.le_refl _, hm, ?_, ?_⟩⟩
  · rw [← Array.length_toList, hcs, flat_len hk]
  · rw [hcs, ← flat_len hk xs]; exact List.take_length

/-- Cells at an address. -/
def Src (w : World) (a : Addr) (news : List Value) : Prop := ∀ j u, news[j]? = some u → w.cell? (a.add j) = some u
variable {Q : Post} {A : Act} {fl : List (Nat × Value)} {ops : Array Oper} {o : Oper}
theorem Rd.src {w : World} {vs : Value} {ys : List α} (hk : ∀ x, (enc x).length = k) (h : Rd enc k w vs ys) :
    (∃ c, vs = .slice none 0 c ∧ ys = []) ∨ ∃ b o c, vs = .slice (some ⟨b, o, none⟩) ys.length c ∧ Src w ⟨b, o, none⟩ (ys.flatMap enc) ∧ b < w.heap.size := by
  obtain ⟨A, c, rfl, h2, h3, h4⟩ := h
  rcases h4 with ⟨rfl, rfl⟩ | ⟨b, o, rfl, hb, hr⟩
  · exact .inl ⟨c, rfl, rfl⟩
  · refine .inr ⟨b, o, c, rfl, fun j u hu => ?_, hb⟩
    have hadd : (⟨b, o, none⟩ : Addr).add j = ⟨b, o + j, none⟩ := by unfold Addr.add; split <;> simp_all
    rw [hadd]
    have key : ∀ (ys : List α) (j : Nat) (u : Value), (ys.flatMap enc)[j]? = some u → ∃ i x j', ys[i]? = some x ∧ (enc x)[j']? = some u ∧ j = i * k + j' := by
      intro ys
      induction ys with
      | nil => intro j u h; simp at h
      | cons y ys ih =>
        intro j u h
        rw [List.flatMap_cons] at h
        rcases Nat.lt_or_ge j (enc y).length with hj | hj
        · rw [List.getElem?_append_left hj] at h
          exact ⟨0, y, j, rfl, h, by omega⟩
        · rw [List.getElem?_append_right hj] at h
          obtain ⟨i, x, j', h1, h2, h3⟩ := ih _ _ h
          refine ⟨i + 1, x, j', h1, h2, ?_⟩
          rw [hk] at h3 hj
          rw [Nat.add_mul]; omega
    obtain ⟨i, x, j', h1, h2, rfl⟩ := key ys j u hu
    rw [← Nat.add_assoc]
    exact hr i x h1 j' u h2
theorem Rd.one {w : World} {b : Nat} {cs : Array Value} {x : α} (hb : b < w.heap.size) (h : ∀ k, w.cell? ⟨b, k, none⟩ = cs[k]?) (hcs : cs.toList = enc x) : Rd enc k w (.slice (some ⟨b, 0, none⟩) 1 1) [x] := by
  refine ⟨_, 1, rfl, Nat.le_refl _, by unfold maxLen; omega, .inr ⟨b, 0, rfl, hb, fun i y hy j u hu => ?_⟩⟩
  cases i with
  | zero =>
    simp at hy; subst hy
    have h0 : 0 + 0 * k + j = j := by omega
    rw [h0, h, ← Array.getElem?_toList, hcs]; exact hu
  | succ i => simp at hy
/-- What is known of an element type. -/
structure Elem (P : Program) (enc : α → List Value) (k : Nat) (t E : TypeId) (bytes : Nat) : Prop where
  len : ∀ x, (enc x).length = k
  one : ∀ x, ∀ u ∈ enc x, u.oneCell' = true
  ty : P.underlying t = some (.slice E)
  pos : 0 < k
  info : ∃ z, (P.info? E).map (fun i => (i.zero, i.size, i.bytes)) = some (some z, k, bytes) ∧ z.cells.size = k
theorem run_append3 {t E : TypeId} {bytes : Nat} (he : Elem P enc k t E bytes) (ty : TypeId) {w : World} {v vs : Value} {xs ys : List α} (hown : Own enc k E w v xs) (hs : Rd enc k w vs ys) (hb : (xs.length + ys.length) * bytes ≤ 140737488355328) (hm : xs.length + ys.length ≤ maxLen) :
    ∃ v' w', (Builtin.append_ #[t, t] ty #[v, vs]).run P w = .ok v' w' ∧ Own enc k E w' v' (xs ++ ys) ∧ Mod (fun b => v.ownBlock = some b) w w' ∧
      (v'.ownBlock = v.ownBlock ∨ ∃ g, v'.ownBlock = some g ∧ w.heap.size ≤ g) ∧ (v' = .slice none 0 0 ↔ v = .slice none 0 0 ∧ ys = []) := by
  obtain ⟨z, hi, hz⟩ := he.info
  obtain ⟨i, hi', hz', hs', hb'⟩ := info_parts hi
  rcases hs.src he.len with ⟨c, rfl, rfl⟩ | ⟨b, o, c, rfl, hsrc, hlt⟩
  · have hl0 : xs.length + 0 ≤ maxLen := hm
    refine ⟨v, w, ?_, by simpa using hown, Mod.refl _ _, .inl rfl, by simp⟩
    rcases hown.shape with ⟨rfl, rfl⟩ | ⟨g, cap, rfl, h1, _, _⟩
    · simp [Builtin.append_, run_underlying he.ty, sizeOf, typeInfo, hi', Builtin.lenOf, Builtin.firstCells]
    · simp [Builtin.append_, run_underlying he.ty, sizeOf, typeInfo, hi', Builtin.lenOf, Builtin.firstCells, h1, storeCells]
  · have h1 : ∀ u ∈ ys.flatMap enc, u.oneCell' = true := fun u hu => by
      obtain ⟨x, _, hx⟩ := List.mem_flatMap.1 hu
      exact he.one x u hx
    obtain ⟨v', w', hr, h2, h3, h4, h5⟩ := run_append2 (P := P) (w := w) t ty E i z k bytes he.ty hi' hz' hs' hb' hz he.pos v xs.length _ hown ⟨b, o, none⟩ ys.length c _ (flat_len he.len ys) hsrc h1 hm hb
    refine ⟨v', w', hr, ?_, h3, h4, ?_⟩
    · unfold Own
      rw [List.length_append, List.flatMap_append]; exact h2
    · rw [h5]
      constructor
      · rintro ⟨h, h'⟩; exact ⟨h, List.eq_nil_of_length_eq_zero h'⟩
      · rintro ⟨h, h'⟩; exact ⟨h, by rw [h']; rfl⟩
theorem run_append_op {t : TypeId} {s x : Operand} (ho : o.op = .call { callee := .builtin .append, args := #[s, x], argTypes := #[t, t] }) {a : Act} {v vs v' : Value} {w w' : World} (hs : a.eval s = v) (hx : a.eval x = vs)
    (hr : (Builtin.append_ #[t, t] o.type #[v, vs]).run P w = .ok v' w') : (execOp a.eval o).run P w = .ok (.value v') w' := by
  unfold execOp
  simp only [ho, resolve, invoke, builtin, Sem.run_bind, Sem.run_pure, Result.andThen_ok, List.map_toArray, List.map_cons, List.map_nil, hs, hx, hr]
/-- append onto a slice of our own. -/
theorem X_append {rest : List (Oper × Nat)} {s x : Operand} {t : TypeId} {d : Nat} {E : TypeId} {bytes : Nat} {v vs : Value} {xs ys : List α}
    (he : Elem P enc k t E bytes) (hown : Own enc k E w v xs) (hsrc : Rd enc k w vs ys) (hbytes : (xs.length + ys.length) * bytes ≤ 140737488355328) (hm : xs.length + ys.length ≤ maxLen)
    (h : ∀ v' W', Mod (fun b => v.ownBlock = some b) w W' → Own enc k E W' v' (xs ++ ys) → (v'.ownBlock = v.ownBlock ∨ ∃ g, v'.ownBlock = some g ∧ w.heap.size ≤ g) → (v' = .slice none 0 0 ↔ v = .slice none 0 0 ∧ ys = []) → wpX P ops Q rest (fr ((d, v') :: fl) A) W')
    (ho : o.op = .call { callee := .builtin .append, args := #[s, x], argTypes := #[t, t] } := by rfl) (hd : o.dst = some d := by rfl) (hg : o.guard = none := by rfl)
    (hs : Is ((fr fl A).eval s) v := by go_simp; exact Is.mk _) (hx : Is ((fr fl A).eval x) vs := by go_simp; exact Is.mk _) :
    wpX P ops Q ((o, 2) :: rest) (fr fl A) w := by
  refine X_v (fun X K hK => ?_) hd hg
  obtain ⟨v', W', hr, h2, h3, h4, h5⟩ := run_append3 (P := P) (w := w.later X) he o.type (hown.later X.2) (hsrc.later X.2) hbytes hm
  unfold runV
  rw [run_append_op ho hs.eq hx.eq hr]
  refine hK v' W' (h v' W' (Mod.trans X.2 h3 (fun _ _ h => h.elim) (fun _ _ h => h)) h2 ?_ h5)
  rcases h4 with h4 | ⟨g, hg, hle⟩
  · exact .inl h4
  · exact .inr ⟨g, hg, Nat.le_trans X.2.size hle⟩
/-- append onto a slice that was made since w0: w0's later world. -/
theorem X_push {rest : List (Oper × Nat)} {s x : Operand} {t : TypeId} {d : Nat} {E : TypeId} {bytes : Nat} {v vs : Value} {xs ys : List α} {w0 : World} (hE0 : Ext w0 w)
    (he : Elem P enc k t E bytes) (hown : Own enc k E w v xs) (hf : ∀ b, v.ownBlock = some b → w0.heap.size ≤ b) (hsrc : Rd enc k w vs ys) (hbytes : (xs.length + ys.length) * bytes ≤ 140737488355328) (hm : xs.length + ys.length ≤ maxLen)
    (h : ∀ (y' : Later w0) v', Own enc k E (w0.later y') v' (xs ++ ys) → (∀ b, v'.ownBlock = some b → w0.heap.size ≤ b) → (v' = .slice none 0 0 ↔ v = .slice none 0 0 ∧ ys = []) → Mod (fun b => v.ownBlock = some b) w (w0.later y') → wpX P ops Q rest (fr ((d, v') :: fl) A) (w0.later y'))
    (ho : o.op = .call { callee := .builtin .append, args := #[s, x], argTypes := #[t, t] } := by rfl) (hd : o.dst = some d := by rfl) (hg : o.guard = none := by rfl)
    (hs : Is ((fr fl A).eval s) v := by go_simp; exact Is.mk _) (hx : Is ((fr fl A).eval x) vs := by go_simp; exact Is.mk _) :
    wpX P ops Q ((o, 2) :: rest) (fr fl A) w :=
  X_append he hown hsrc hbytes hm (fun v' W' hM hO hF hN =>
    have hE : Ext w0 W' := Ext.fresh hE0 hM hf
    h ⟨W', hE⟩ v' hO (fun b hb => by
      rcases hF with h | ⟨g, h, hle⟩
      · exact hf b (h ▸ hb)
      · rw [h] at hb; cases hb; exact Nat.le_trans hE0.size hle) hN hM) ho hd hg hs hx
/-- A new variable and its first value: 'x := v' of a struct. -/
theorem X_var {rest : List (Oper × Nat)} {o2 : Oper} {d : Nat} {E : TypeId} {x : Operand} {z : Value} {cs : Array Value} {n : Nat}
    (h : ∀ (y : Later w) (b : Nat), w.heap.size ≤ b → b < (w.later y).heap.size → (∀ k, (w.later y).cell? ⟨b, k, none⟩ = cs[k]?) → (∀ k, (w.later y).frozen? ⟨b, k, none⟩ = false) →
      Hid ((w.later y).heap[b]? = some (.cells cs E)) → wpX P ops Q rest (fr ((d, .pointer (some ⟨b, 0, none⟩)) :: fl) A) (w.later y))
    (ho : o.op = .alloc E := by rfl) (ho2 : o2.op = .store E (.tmp d) x := by rfl) (hd : o.dst = some d := by rfl) (hd2 : o2.dst = none := by rfl) (hg : o.guard = none := by rfl) (hg2 : o2.guard = none := by rfl)
    (hz : ∀ w, (zeroValue E).run P w = .ok z w := by intro w; go_simp; exact rfl) (hn : (P.info? E).map (·.size) = some n := by kernel_rfl) (hzn : z.cells.size = n := by rfl)
    (hdA : d < A.tmps.size := by simp only [hA]; decide)
    (hx : ∀ b, Is ((fr ((d, .pointer (some ⟨b, 0, none⟩)) :: fl) A).eval x) (.agg cs) := by intro b; go_simp; exact Is.mk _) (hcn : cs.size = n := by rfl) (h1 : cs.all (·.oneCell') = true := by simp [Value.oneCell']) :
    wpX P ops Q ((o, 1) :: (o2, 2) :: rest) (fr fl A) w := by
  refine X_s (fun X K hK => ?_) hd hg
  have hrun : (execOp (fr fl A).eval o).run P (w.later X) = .ok (.value (.pointer (some ⟨(w.later X).heap.size, 0, none⟩))) ((w.later X).alloc (.cells z.cells E)) := by
    unfold execOp
    simp only [ho, Instr.alloc, Sem.run_bind, hz, Result.andThen_ok, newVar, newRow, newObj, Sem.run, World.alloc_eq, Sem.run_pure]
  unfold runV
  rw [hrun]
  refine hK _ _ (Ext.alloc _ _) ?_
  refine X_w (fun Y K hK => ?_) hd2 hg2
  have hb : ((w.later X).alloc (.cells z.cells E)).heap[(w.later X).heap.size]? = some (.cells z.cells E) := heap_alloc_new _ _
  have hlt : (w.later X).heap.size < ((w.later X).alloc (.cells z.cells E)).heap.size := by simp
  have hb' : (((w.later X).alloc (.cells z.cells E)).later Y).heap[(w.later X).heap.size]? = some (.cells z.cells E) := (heap_later _ Y _ hlt).trans hb
  have hst := run_storeVar_row (P := P) (((w.later X).alloc (.cells z.cells E)).later Y) (w.later X).heap.size E E z.cells cs hb' (by rw [hn, hcn]) (by rw [hzn, hcn]) h1
  have hev : (fr ((d, .pointer (some ⟨(w.later X).heap.size, 0, none⟩)) :: fl) A).eval (.tmp d) = .pointer (some ⟨(w.later X).heap.size, 0, none⟩) := by
    rw [fr_eval _ _ _ hdA, lkp_hit]
  have hrun2 : (execOp (fr ((d, .pointer (some ⟨(w.later X).heap.size, 0, none⟩)) :: fl) A).eval o2).run P (((w.later X).alloc (.cells z.cells E)).later Y) = .ok .skip ((((w.later X).alloc (.cells z.cells E)).later Y).setRow (w.later X).heap.size cs) := by
    unfold execOp
    simp only [ho2, hev, (hx _).eq, Instr.storeAt, Instr.sureAddr, Sem.run_bind, Sem.run_pure, Result.andThen_ok, hst]
  unfold runV
  rw [hrun2]
  refine hK undef _ ?_
  have hE : Ext w ((((w.later X).alloc (.cells z.cells E)).later Y).setRow (w.later X).heap.size cs) := by
    have h0 := X.2.size
    refine ⟨?_, ?_, ?_, ?_, fun k hk _ => ?_⟩
    · exact Y.2.os.trans ((Ext.alloc _ _).os.trans X.2.os)
    · exact Y.2.tape.trans ((Ext.alloc _ _).tape.trans X.2.tape)
    · exact Y.2.output.trans ((Ext.alloc _ _).output.trans X.2.output)
    · rw [setRow_size]; exact Nat.le_trans h0 (Nat.le_trans (Ext.alloc _ _).size Y.2.size)
    · have h0' : w.heap.size ≤ (w.later X).heap.size := h0
      rw [setRow_other _ _ _ _ (by omega)]
      have hk1 : k < (w.later X).heap.size := by omega
      exact (heap_later _ Y k (by simp; omega)).trans ((Below.heap_alloc _ _ _ hk1).trans (heap_later _ X k hk))
  have hbn : ((((w.later X).alloc (.cells z.cells E)).later Y).setRow (w.later X).heap.size cs).heap[(w.later X).heap.size]? = some (.cells cs E) := setRow_heap _ _ _ _ _ _ hb'
  have hlt2 : (w.later X).heap.size < ((((w.later X).alloc (.cells z.cells E)).later Y).setRow (w.later X).heap.size cs).heap.size := (Array.getElem?_eq_some_iff.1 hbn).1
  have := h ⟨_, hE⟩ (w.later X).heap.size X.2.size hlt2 (fun k => cell_of_row _ _ _ _ _ _ hbn) (fun k => by
    show World.frozen? ((((w.later X).alloc (.cells z.cells E)).later Y).setRow (w.later X).heap.size cs) _ = false
    unfold World.frozen?; simp only [hbn]; simp) hbn
  exact this
end
end Go.Ws
namespace Go.Ws
open Go Go.RowKit
set_option linter.unusedVariables false
set_option linter.unusedSimpArgs false

/-! ### A region, operation by operation, where two that make memory may come up in either order -/
section
variable {ρ : Option Nat} {P : Program} {ops : Array Oper} {Q : Post}
def closedB (ops : Array Oper) (listed : Array Bool) : Bool :=
  (List.range ops.size).all fun j => !listed.getD j false || match ops[j]? with | some o => o.after.all fun e => !Region.binds .any e || listed.getD e.on false | none => true
theorem closed_of {listed : Array Bool} (h : closedB ops listed = true) : Closed .any ops listed := by
  intro j oj hj hl e he hb
  have hlt : j < ops.size := (Array.getElem?_eq_some_iff.1 hj).1
  have h1 := List.all_eq_true.1 h j (List.mem_range.2 hlt)
  simp only [hl, Bool.not_true, Bool.false_or, hj, Array.all_eq_true_iff_forall_mem] at h1
  have := h1 e he
  simpa [hb] using this
/-- All that is asked of one that is taken first. -/
def firstB (ops : Array Oper) (hs : List Nat) (listed : Array Bool) (i : Nat) : Bool :=
  Region.noSelect ops && !hs.contains i && (Region.ready .any ops listed).contains i && Region.free .any ops listed i && closedB ops listed &&
    ((hs.all fun j => ((Region.before ops).getD j 0).testBit i || ((Region.before ops).getD i 0).testBit j) || (match ops[i]? with | some o => Oper.mover o | none => false))
abbrev wpF (P : Program) (ops : Array Oper) (hs : List Nat) (Q : Post) (f : Nat) (listed : Array Bool) (a : Act) (w : World) : Prop := wpS P .any ops (fun j => hs.contains j) (UpQ Q) f listed a w
variable {hs : List Nat} {f : Nat} {listed : Array Bool} {a : Act} {w : World} {A : Act} {fl : List (Nat × Value)}
theorem F_first {i : Nat} {o : Oper} {v : Value} (hi : ops[i]? = some o) (hB : firstB ops hs listed i = true) (hy : YieldsQ P ops o v a w) (h : wpF P ops hs Q f (listed.setIfInBounds i true) (a.put o.dst v) w) : wpF P ops hs Q (f + 1) listed a w := by
  simp only [firstB, Bool.and_eq_true, Bool.not_eq_true'] at hB
  obtain ⟨⟨⟨⟨⟨hsel, hih⟩, hr⟩, hf⟩, hc⟩, hre⟩ := hB
  refine wpS_first hi (Region.noSelect_spec hsel) hih ?_ f listed a w (closed_of hc) (Region.free_spec hi hf) (by simpa using hr) hy h
  rw [Bool.or_eq_true] at hre
  rcases hre with hre | hmv
  · left
    intro j hj
    have h1 := List.all_eq_true.1 hre j (by simpa using hj)
    simp only [Bool.or_eq_true] at h1
    exact h1.imp (before_reach ops i j) (before_reach ops j i)
  · right
    simpa only [hi] using hmv
theorem F_nil (hr : Region.ready .any ops listed = [] := by kernel_rfl) (h : Q .normal a w) : wpF P ops hs Q 0 listed a w := ⟨hr, fun x => ⟨w, x.2, h⟩⟩
theorem F_q {i : Nat} {o : Oper} {v : Value} {d : Nat} (h : wpF P ops hs Q f (listed.setIfInBounds i true) (fr ((d, v) :: fl) A) w) (hi : ops[i]? = some o := by rfl) (hB : firstB ops hs listed i = true := by kernel_rfl)
    (hd : o.dst = some d := by rfl) (hg : o.guard = none := by rfl) (hv : ∀ x : Later w, o.quietAt P (fr fl A) (Ext (w.later x)) (w.later x) v := by intro x; go_simp; (try go_bits); exact rfl) : wpF P ops hs Q (f + 1) listed (fr fl A) w :=
  F_first hi hB (.inl ⟨by simp [Region.wanted, hg], hv⟩) (by rw [hd, fr_put]; exact h)
theorem wpF.later {w' : World} (h : wpF P ops hs Q f listed a w) (hE : Ext w w') : wpF P ops hs Q f listed a w' := wpS.later h hE
/-- The one that may come up makes memory. -/
theorem F_s {i : Nat} {o : Oper} {d : Nat} (h : ∀ (x : Later w) (K : Value → World → Prop), (∀ v w' w0, Ext (w.later x) w' → Ext w0 w' → wpF P ops hs Q f (listed.setIfInBounds i true) (fr ((d, v) :: fl) A) w0 → K v w') → runV P o (fr fl A) (w.later x) K)
    (hi : ops[i]? = some o := by rfl) (hr : Region.ready .any ops listed = [i] := by kernel_rfl) (hh : hs.contains i = false := by rfl) (hd : o.dst = some d := by rfl) (hg : o.guard = none := by rfl) : wpF P ops hs Q (f + 1) listed (fr fl A) w := by
  intro x
  refine ⟨fun h0 => (by rw [hr] at h0; cases h0), fun j hj => ?_⟩
  rw [hr] at hj
  obtain rfl : j = i := by simpa using hj
  simp only [hh, Bool.false_eq_true, if_false]
  unfold softOp
  simp only [hi]
  rw [if_pos (by simp [Region.wanted, hg])]
  refine wp_of_runV (h x (fun v w' => Ext (w.later x) w' ∧ wpF P ops hs Q f (listed.setIfInBounds j true) (fr ((d, v) :: fl) A) w') fun v w' w0 hE hE0 h => ⟨hE, wpF.later h hE0⟩) fun v w' hk => ⟨hk.1, ?_⟩
  rw [hd, fr_put]; exact hk.2
/-- The one that may come up changes memory. -/
theorem F_h {i : Nat} {o : Oper} {d : Nat} (h : ∀ (x : Later w) (K : Value → World → Prop), (∀ v w', wpF P ops hs Q f (listed.setIfInBounds i true) (fr ((d, v) :: fl) A) w' → K v w') → runV P o (fr fl A) (w.later x) K)
    (hi : ops[i]? = some o := by rfl) (hr : Region.ready .any ops listed = [i] := by kernel_rfl) (hh : hs.contains i = true := by rfl) (hd : o.dst = some d := by rfl) (hg : o.guard = none := by rfl) : wpF P ops hs Q (f + 1) listed (fr fl A) w := by
  intro x
  refine ⟨fun h0 => (by rw [hr] at h0; cases h0), fun j hj => ?_⟩
  rw [hr] at hj
  obtain rfl : j = i := by simpa using hj
  simp only [hh, if_true]
  unfold softOp
  simp only [hi]
  rw [if_pos (by simp [Region.wanted, hg])]
  refine (wp_of_runV (h x (fun v w' => wpF P ops hs Q f (listed.setIfInBounds j true) (fr ((d, v) :: fl) A) w') fun v w' h => h) fun v w' hk => ?_)
  rw [hd, fr_put]; exact hk
/-- Two that make memory may come up. -/
theorem F_two {i j : Nat} {o o' : Oper} {d d' : Nat}
    (h : ∀ (x : Later w) (K : Value → World → Prop), (∀ v w' w0, Ext (w.later x) w' → Ext w0 w' → wpF P ops hs Q f (listed.setIfInBounds i true) (fr ((d, v) :: fl) A) w0 → K v w') → runV P o (fr fl A) (w.later x) K)
    (h' : ∀ (x : Later w) (K : Value → World → Prop), (∀ v w' w0, Ext (w.later x) w' → Ext w0 w' → wpF P ops hs Q f (listed.setIfInBounds j true) (fr ((d', v) :: fl) A) w0 → K v w') → runV P o' (fr fl A) (w.later x) K)
    (hr : Region.ready .any ops listed = [i, j] := by kernel_rfl) (hi : ops[i]? = some o := by rfl) (hj : ops[j]? = some o' := by rfl) (hh : hs.contains i = false := by rfl) (hh' : hs.contains j = false := by rfl)
    (hd : o.dst = some d := by rfl) (hd' : o'.dst = some d' := by rfl) (hg : o.guard = none := by rfl) (hg' : o'.guard = none := by rfl) : wpF P ops hs Q (f + 1) listed (fr fl A) w := by
  intro x
  refine ⟨fun h0 => (by rw [hr] at h0; cases h0), fun k hk => ?_⟩
  rw [hr] at hk
  rcases (by simpa using hk : k = i ∨ k = j) with rfl | rfl
  · simp only [hh, Bool.false_eq_true, if_false]
    unfold softOp
    simp only [hi]
    rw [if_pos (by simp [Region.wanted, hg])]
    refine wp_of_runV (h x (fun v w' => Ext (w.later x) w' ∧ wpF P ops hs Q f (listed.setIfInBounds k true) (fr ((d, v) :: fl) A) w') fun v w' w0 hE hE0 h => ⟨hE, wpF.later h hE0⟩) fun v w' hk => ⟨hk.1, ?_⟩
    rw [hd, fr_put]; exact hk.2
  · simp only [hh', Bool.false_eq_true, if_false]
    unfold softOp
    simp only [hj]
    rw [if_pos (by simp [Region.wanted, hg'])]
    refine wp_of_runV (h' x (fun v w' => Ext (w.later x) w' ∧ wpF P ops hs Q f (listed.setIfInBounds k true) (fr ((d', v) :: fl) A) w') fun v w' w0 hE hE0 h => ⟨hE, wpF.later h hE0⟩) fun v w' hk => ⟨hk.1, ?_⟩
    rw [hd', fr_put]; exact hk.2
/-- Any of those that may come up. -/
def stepF (P : Program) (ops : Array Oper) (hs : List Nat) (Q : Post) (f : Nat) (listed : Array Bool) (a : Act) (w : World) (i : Nat) : Prop :=
  ∀ x : Later w, softOp P ops i (fun a' w' => (hs.contains i = false → Ext (w.later x) w') ∧ wpF P ops hs Q f (listed.setIfInBounds i true) a' w') a (w.later x)
theorem F_alts {i : Nat} {rs : List Nat} (h : ∀ j ∈ i :: rs, stepF P ops hs Q f listed a w j) (hr : Region.ready .any ops listed = i :: rs := by kernel_rfl) : wpF P ops hs Q (f + 1) listed a w := by
  intro x
  refine ⟨fun h0 => (by rw [hr] at h0; cases h0), fun j hj => ?_⟩
  rw [hr] at hj
  have hs' := h j hj x
  split
  · exact softOp_mono (fun _ _ h => h.2) hs'
  · rename_i hc
    exact softOp_mono (fun _ _ h => ⟨h.1 (by simpa using hc), h.2⟩) hs'
theorem S_cons {p : Nat → Prop} {i : Nat} {rs : List Nat} (h : p i) (hr : ∀ j ∈ rs, p j) : ∀ j ∈ i :: rs, p j := by
  intro j hj
  rcases List.mem_cons.1 hj with rfl | hj
  · exact h
  · exact hr j hj
theorem S_end {p : Nat → Prop} : ∀ j ∈ ([] : List Nat), p j := by intro j hj; cases hj
/-- One that reads. -/
theorem S_q {i : Nat} {o : Oper} {v : Value} {d : Nat} (h : wpF P ops hs Q f (listed.setIfInBounds i true) (fr ((d, v) :: fl) A) w) (hi : ops[i]? = some o := by rfl)
    (hd : o.dst = some d := by rfl) (hg : o.guard = none := by rfl) (hv : ∀ x : Later w, o.quietAt P (fr fl A) (Ext (w.later x)) (w.later x) v := by intro x; go_simp; (try go_bits); exact rfl) : stepF P ops hs Q f listed (fr fl A) w i := by
  intro x
  unfold softOp
  simp only [hi]
  have hy : YieldsQ P ops o v (fr fl A) w := .inl ⟨by simp [Region.wanted, hg], hv⟩
  have := hy.wp (K := fun a' w' => Ext (w.later x) w' ∧ wpF P ops hs Q f (listed.setIfInBounds i true) a' w') (Q' := fun _ _ _ => False) x
  have hw : Region.wanted o (yielded ops (fr fl A).tmps) = true := by simp [Region.wanted, hg]
  rw [if_pos hw]
  have hv' := hv x
  unfold Oper.quietAt at hv'
  unfold OpW
  generalize (execOp (fr fl A).eval o).run P (w.later x) = r at *
  have k : ∀ w', Ext (w.later x) w' → (hs.contains i = false → Ext (w.later x) w') ∧ wpF P ops hs Q f (listed.setIfInBounds i true) ((fr fl A).put o.dst v) w' := fun w' hE => ⟨fun _ => hE, by rw [hd, fr_put]; exact h.later (Ext.trans x.2 hE)⟩
  cases r with
  | ok n w' =>
    cases n <;> simp only [Oper.quietUpon] at hv' <;> simp only [uponW]
    case value u => obtain ⟨e1, e2⟩ := hv'; rw [e1, e2]; exact k _ (Ext.refl _)
    case skip => obtain ⟨e1, e2⟩ := hv'; rw [e1, ← e2]; exact k _ (Ext.refl _)
    case enter g args =>
      obtain ⟨e1, hc⟩ := hv'
      rw [e1]
      exact hc.mono fun e w'' ⟨he, hw''⟩ => by subst he; exact k _ hw''
  | halt z w' => simp only [Oper.quietUpon] at hv'
/-- One that makes memory. -/
theorem S_s {i : Nat} {o : Oper} {d : Nat} (h : ∀ (x : Later w) (K : Value → World → Prop), (∀ v w' w0, Ext (w.later x) w' → Ext w0 w' → wpF P ops hs Q f (listed.setIfInBounds i true) (fr ((d, v) :: fl) A) w0 → K v w') → runV P o (fr fl A) (w.later x) K)
    (hi : ops[i]? = some o := by rfl) (hd : o.dst = some d := by rfl) (hg : o.guard = none := by rfl) : stepF P ops hs Q f listed (fr fl A) w i := by
  intro x
  unfold softOp
  simp only [hi]
  rw [if_pos (by simp [Region.wanted, hg])]
  refine wp_of_runV (h x (fun v w' => Ext (w.later x) w' ∧ wpF P ops hs Q f (listed.setIfInBounds i true) (fr ((d, v) :: fl) A) w') fun v w' w0 hE hE0 h => ⟨hE, wpF.later h hE0⟩) fun v w' hk => ⟨fun _ => hk.1, ?_⟩
  rw [hd, fr_put]; exact hk.2
/-- One that writes. -/
theorem S_w {i : Nat} {o : Oper} (h : ∀ (x : Later w) (K : Value → World → Prop), (∀ v w', wpF P ops hs Q f (listed.setIfInBounds i true) (fr fl A) w' → K v w') → runV P o (fr fl A) (w.later x) K)
    (hi : ops[i]? = some o := by rfl) (hh : hs.contains i = true := by rfl) (hd : o.dst = none := by rfl) (hg : o.guard = none := by rfl) : stepF P ops hs Q f listed (fr fl A) w i := by
  intro x
  unfold softOp
  simp only [hi]
  rw [if_pos (by simp [Region.wanted, hg])]
  refine wp_of_runV (h x (fun v w' => wpF P ops hs Q f (listed.setIfInBounds i true) (fr fl A) w') fun v w' h => h) fun v w' hk => ⟨fun h0 => absurd h0 (by rw [hh]; decide), ?_⟩
  rw [hd]; exact hk
/-- A region whose order is drawn, operation by operation; hs: those that may change what was there. -/
theorem W_fork {rid : Nat} {l : List Oper} (hs : List Nat) (hm : P.follows .mixedOrders = true) (h : wpF P l.toArray hs Q l.length (Array.replicate l.length false) a w) (hnd : calmIn ρ l := by first | exact .inl rfl | exact .inr (by kernel_rfl)) : Wp ρ P (.region rid l.toArray true) Q a w := Wp.intro fun x => by
  refine wpIn_region_any hm ?_
  have := wpAny_of_wpS (n := 0) hnd.get _ _ _ _ (wpF.later h (Ext.trans x.2 (Ext.drew _)))
  rw [List.size_toArray]
  exact this
theorem F_al (x : Later w) {cs : Array Value} {e : TypeId} (h : ∀ y : Later w, w.heap.size ≤ (w.later x).heap.size → (w.later x).heap.size < (w.later y).heap.size →
    (∀ k, (w.later y).cell? ⟨(w.later x).heap.size, k, none⟩ = cs[k]?) → (∀ k, (w.later y).frozen? ⟨(w.later x).heap.size, k, none⟩ = false) → Hid ((w.later y).heap[(w.later x).heap.size]? = some (.cells cs e)) → wpF P ops hs Q f listed a (w.later y)) :
    wpF P ops hs Q f listed a ((w.later x).alloc (.cells cs e)) :=
  h ⟨_, Ext.trans x.2 (Ext.alloc _ _)⟩ (size_later _ _) (by show _ < ((w.later x).alloc _).heap.size; simp) (fun k => World.cell?_alloc_new _ _ _ _) (fun k => World.frozen?_alloc_new _ _ _ _) (heap_alloc_new _ _)
variable {α : Type} {enc : α → List Value} {k : Nat}
/-- append([]T{}, l...): a copy, in memory that is new. -/
theorem run_append_empty {t E : TypeId} {bytes : Nat} (he : Elem P enc k t E bytes) (ty : TypeId) {b : Nat} {vs : Value} {ys : List α} (hb : w.heap[b]? = some (.cells #[] E)) (hs : Rd enc k w vs ys) (hbytes : ys.length * bytes ≤ 140737488355328) (hm : ys.length ≤ maxLen) :
    ∃ v' w', (Builtin.append_ #[t, t] ty #[.slice (some ⟨b, 0, none⟩) 0 0, vs]).run P w = .ok v' w' ∧ Own enc k E w' v' ys ∧ Ext w w' ∧ (∀ g, v'.ownBlock = some g → g = b ∨ w.heap.size ≤ g) := by
  obtain ⟨z, hi, hz⟩ := he.info
  obtain ⟨i, hi', hz', hs', hb'⟩ := info_parts hi
  have hown : Own enc k E w (.slice (some ⟨b, 0, none⟩) 0 0) ([] : List α) := ⟨by simp, .inr ⟨b, 0, #[], rfl, Nat.zero_le _, hb, Nat.le_refl _, Nat.zero_le _, by simp, by simp⟩⟩
  rcases hs.src he.len with ⟨c, rfl, rfl⟩ | ⟨b1, o1, c, rfl, hsrc, hlt⟩
  · refine ⟨_, w, ?_, hown, Ext.refl _, fun g h => by cases h; exact .inl rfl⟩
    simp [Builtin.append_, run_underlying he.ty, sizeOf, typeInfo, hi', Builtin.lenOf, Builtin.firstCells, storeCells]
  · by_cases hy : ys.length = 0
    · have : ys = [] := List.eq_nil_of_length_eq_zero hy
      subst this
      refine ⟨_, w, ?_, hown, Ext.refl _, fun g h => by cases h; exact .inl rfl⟩
      have hr := run_append_room (P := P) w t ty E i he.ty hi' b 0 0 #[] hb ⟨b1, o1, none⟩ 0 c [] (by simp) (by simp) (by simp) (by simp) (by simp)
      simp only [Nat.add_zero, Nat.zero_mul, List.take_zero, List.nil_append, List.length_nil, List.drop_zero] at hr
      rw [List.length_nil, hr]
      congr 1
      exact setRow_self w b #[] E (0, 0) hb
    · have hr := run_append_grow (P := P) w t ty E i z he.ty hi' hz' ⟨b, 0, none⟩ 0 0 [] (by simp) (by simp) ⟨b1, o1, none⟩ ys.length c (ys.flatMap enc) (by rw [flat_len he.len, hs']) hsrc (by omega) (by simp only [maxLen] at hm; omega) (by
        rw [hb', Nat.zero_add]; exact growslice_fits (by omega) (by simpa using hbytes))
      simp only [Nat.zero_add, Array.empty_append, List.size_toArray] at hr
      refine ⟨_, _, hr, ?_, (Ext.trans (Ext.drew w) (Ext.alloc _ _)), fun g h => by cases h; exact .inr (Nat.le_refl _)⟩
      have hge := grownCap_ge w ys.length 0 E
      have hcm : grownCap w ys.length 0 E ≤ maxLen := grownCap_le_maxLen w ys.length 0 E hm
      refine ⟨flat_len he.len ys, .inr ⟨w.heap.size, _, _, rfl, Nat.zero_le _, heap_alloc_new w.drew _, hge, hcm, ?_, ?_⟩⟩
      · simp only [Array.size_append, List.size_toArray, size_zeroCells, hz, flat_len he.len, List.length_nil, Nat.zero_mul, Nat.zero_add, Nat.sub_zero, ← Nat.add_mul]
        congr 1; omega
      · simp only [Array.toList_append, List.nil_append]
        rw [← flat_len he.len ys]
        exact List.take_left
/-- As an operation that makes memory. -/
theorem F_copy {o : Oper} {t E : TypeId} {bytes b : Nat} {vs : Value} {ys : List α} {s x : Operand} (he : Elem P enc k t E bytes) (hb : w.heap[b]? = some (.cells #[] E)) (hr : Rd enc k w vs ys) (hbytes : ys.length * bytes ≤ 140737488355328) (hm : ys.length ≤ maxLen)
    (X : Later w) (K : Value → World → Prop) (hK : ∀ (y : Later w) v', Ext (w.later X) (w.later y) → Own enc k E (w.later y) v' ys → (∀ g, v'.ownBlock = some g → g = b ∨ w.heap.size ≤ g) → K v' (w.later y))
    (ho : o.op = .call { callee := .builtin .append, args := #[s, x], argTypes := #[t, t] } := by rfl)
    (hs : Is ((fr fl A).eval s) (.slice (some ⟨b, 0, none⟩) 0 0) := by go_simp; exact Is.mk _) (hx : Is ((fr fl A).eval x) vs := by go_simp; exact Is.mk _) : runV P o (fr fl A) (w.later X) K := by
  have hlt : b < w.heap.size := (Array.getElem?_eq_some_iff.1 hb).1
  obtain ⟨v', w', h1, h2, h3, h4⟩ := run_append_empty (P := P) (w := w.later X) he o.type ((heap_later w X b hlt).trans hb) (hr.later X.2) hbytes hm
  unfold runV
  rw [run_append_op ho hs.eq hx.eq h1]
  exact hK ⟨w', Ext.trans X.2 h3⟩ v' h3 h2 fun g hg => (h4 g hg).imp id (fun h => Nat.le_trans X.2.size h)
/-- append onto a slice that was made since w0. -/
theorem F_push {i : Nat} {o : Oper} {s x : Operand} {t : TypeId} {d : Nat} {E : TypeId} {bytes : Nat} {v vs : Value} {xs ys : List α} {w0 : World} (hE0 : Ext w0 w)
    (he : Elem P enc k t E bytes) (hown : Own enc k E w v xs) (hf : ∀ b, v.ownBlock = some b → w0.heap.size ≤ b) (hsrc : Rd enc k w vs ys) (hbytes : (xs.length + ys.length) * bytes ≤ 140737488355328) (hm : xs.length + ys.length ≤ maxLen)
    (h : ∀ (y' : Later w0) v', Own enc k E (w0.later y') v' (xs ++ ys) → (∀ b, v'.ownBlock = some b → w0.heap.size ≤ b) → wpF P ops hs Q f (listed.setIfInBounds i true) (fr ((d, v') :: fl) A) (w0.later y'))
    (hi : ops[i]? = some o := by rfl) (hr : Region.ready .any ops listed = [i] := by kernel_rfl) (hh : hs.contains i = true := by rfl)
    (ho : o.op = .call { callee := .builtin .append, args := #[s, x], argTypes := #[t, t] } := by rfl) (hd : o.dst = some d := by rfl) (hg : o.guard = none := by rfl)
    (hs' : Is ((fr fl A).eval s) v := by go_simp; exact Is.mk _) (hx : Is ((fr fl A).eval x) vs := by go_simp; exact Is.mk _) :
    wpF P ops hs Q (f + 1) listed (fr fl A) w := by
  refine F_h (fun X K hK => ?_) hi hr hh hd hg
  obtain ⟨v', W', hr, h2, h3, h4, h5⟩ := run_append3 (P := P) (w := w.later X) he o.type (hown.later X.2) (hsrc.later X.2) hbytes hm
  unfold runV
  rw [run_append_op ho hs'.eq hx.eq hr]
  have hM : Mod (fun b => v.ownBlock = some b) w W' := Mod.trans X.2 h3 (fun _ _ h => h.elim) (fun _ _ h => h)
  refine hK v' W' (h ⟨W', Ext.fresh hE0 hM hf⟩ v' h2 fun b hb => ?_)
  rcases h4 with h4 | ⟨g, hg, hle⟩
  · exact hf b (h4 ▸ hb)
  · rw [hg] at hb; cases hb
    exact Nat.le_trans hE0.size (Nat.le_trans X.2.size hle)
end
end Go.Ws
namespace Go.Ws
open Go Go.RowKit Go.Proofs
set_option linter.unusedVariables false

structure Opn where
  num : Int
  first : Int
  deriving DecidableEq, Inhabited
def Opn.cs (o : Opn) : List Value := [.int .i64 o.num, .int .i64 o.first]
theorem Opn.len (o : Opn) : o.cs.length = 2 := rfl
theorem Ent.len (o : Ent) : o.cs.length = 6 := rfl
theorem Rd.opn {w : World} {v : Value} {l : List Opn} (h : Rd Opn.cs 2 w v l) : ∃ A c, v = .slice A l.length c ∧ l.length ≤ c ∧ c ≤ 9223372036854775807 ∧
    Hid (∀ i, i < l.length → ∃ e b o, Hid (l[i]? = some e) ∧ A = some ⟨b, o, none⟩ ∧ b < w.heap.size ∧ w.cell? ⟨b, o + i * 2, none⟩ = some (.int .i64 e.num) ∧ w.cell? ⟨b, o + i * 2 + 1, none⟩ = some (.int .i64 e.first)) := by
  obtain ⟨A, c, h1, h2, h3, h4⟩ := h
  refine ⟨A, c, h1, h2, h3, fun i hi => ?_⟩
  have he : l[i]? = some l[i] := by simp [hi]
  rcases h4 with ⟨_, rfl⟩ | ⟨b, o, hA, hb, hr⟩
  · simp at hi
  · exact ⟨l[i], b, o, he, hA, hb, hr i _ he 0 _ rfl, hr i _ he 1 _ rfl⟩
abbrev ics (n : Int) : List Value := [.int .i64 n]
theorem Rd.int {w : World} {v : Value} {l : List Int} (h : Rd ics 1 w v l) : ∃ A c, v = .slice A l.length c ∧ l.length ≤ c ∧ c ≤ 9223372036854775807 ∧
    Hid (∀ i, i < l.length → ∃ e b o, Hid (l[i]? = some e) ∧ A = some ⟨b, o, none⟩ ∧ b < w.heap.size ∧ w.cell? ⟨b, o + i, none⟩ = some (.int .i64 e)) := by
  obtain ⟨A, c, h1, h2, h3, h4⟩ := h
  refine ⟨A, c, h1, h2, h3, fun i hi => ?_⟩
  have he : l[i]? = some l[i] := by simp [hi]
  rcases h4 with ⟨_, rfl⟩ | ⟨b, o, hA, hb, hr⟩
  · simp at hi
  · have := hr i _ he 0 _ rfl
    exact ⟨l[i], b, o, he, hA, hb, by simpa using this⟩
theorem infoOpn : (Tryz.prog.info? 199).map (fun i => (i.zero, i.size, i.bytes)) = some (some (.agg #[.int .i64 0, .int .i64 0]), 2, 16) := by kernel_rfl
theorem infoEnt : (Tryz.prog.info? 45).map (fun i => (i.zero, i.size, i.bytes)) = some (some (.agg #[.int .i64 0, .int .i64 0, .int .i64 0, .int .i64 0, .int .i64 0, .int .i64 0]), 6, 48) := by kernel_rfl
theorem infoInt : (Tryz.prog.info? 3).map (fun i => (i.zero, i.size, i.bytes)) = some (some (.int .i64 0), 1, 8) := by kernel_rfl
theorem elemOpn : Elem Tryz.prog Opn.cs 2 175 199 16 := ⟨Opn.len, fun x u h => by simp [Opn.cs] at h; rcases h with rfl | rfl <;> rfl, Tryz.underlying175, by decide, _, infoOpn, rfl⟩
theorem elemEnt : Elem Tryz.prog Ent.cs 6 29 45 48 := ⟨Ent.len, fun x u h => by simp [Ent.cs] at h; rcases h with rfl | rfl | rfl | rfl | rfl | rfl <;> rfl, Tryz.underlying29, by decide, _, infoEnt, rfl⟩
theorem elemInt : Elem Tryz.prog ics 1 30 3 8 := ⟨fun _ => rfl, fun x u h => by simp [ics] at h; subst h; rfl, Tryz.underlying30, by decide, _, infoInt, rfl⟩
theorem eqGuardEnt (ox oy : Operand) (a b : Array Value) (w : World) : (eqGuard .neq 45 ox oy (.agg a) (.agg b)).run Tryz.prog w = .ok () w := by
  have hg : Tryz.prog.eqGuardType Tryz.prog.depth 45 = false := by kernel_rfl
  simp [eqGuard, program, Sem.run, hg]
set_option maxHeartbeats 1000000 in
theorem equalEnt (x y : Ent) (w : World) : (Op.equal 45 x.v y.v).run Tryz.prog w = .ok (decide (x = y)) w := by
  have hst : Tryz.prog.stoodInHeld 45 = false := by kernel_rfl
  have key : ∀ (t : TypeId), Tryz.prog.underlying t = some (.int .i64) → ∀ (a b : Int) (cs ds : Array Value) (i : Nat) (w : World), cs[i]? = some (.int .i64 a) → ds[i]? = some (.int .i64 b) →
      (part t cs i).run Tryz.prog w = .ok (.int .i64 a) w ∧ (part t ds i).run Tryz.prog w = .ok (.int .i64 b) w ∧ (Op.equalIn 9999 t (.int .i64 a) (.int .i64 b)).run Tryz.prog w = .ok (a == b) w :=
    fun t ht a b cs ds i w h1 h2 => ⟨part_int ht cs i _ w h1, part_int ht ds i _ w h2, equalIn_int ht 9998 a b w⟩
  obtain ⟨a0, a1, a2, a3, a4, a5⟩ := x
  obtain ⟨b0, b1, b2, b3, b4, b5⟩ := y
  have k0 := key 2 Tryz.underlying2 a0 b0 #[.int .i64 a0, .int .i64 a1, .int .i64 a2, .int .i64 a3, .int .i64 a4, .int .i64 a5] #[.int .i64 b0, .int .i64 b1, .int .i64 b2, .int .i64 b3, .int .i64 b4, .int .i64 b5] 0 w rfl rfl
  have k1 := key 3 Tryz.underlying3 a1 b1 #[.int .i64 a0, .int .i64 a1, .int .i64 a2, .int .i64 a3, .int .i64 a4, .int .i64 a5] #[.int .i64 b0, .int .i64 b1, .int .i64 b2, .int .i64 b3, .int .i64 b4, .int .i64 b5] 1 w rfl rfl
  have k2 := key 2 Tryz.underlying2 a2 b2 #[.int .i64 a0, .int .i64 a1, .int .i64 a2, .int .i64 a3, .int .i64 a4, .int .i64 a5] #[.int .i64 b0, .int .i64 b1, .int .i64 b2, .int .i64 b3, .int .i64 b4, .int .i64 b5] 2 w rfl rfl
  have k3 := key 2 Tryz.underlying2 a3 b3 #[.int .i64 a0, .int .i64 a1, .int .i64 a2, .int .i64 a3, .int .i64 a4, .int .i64 a5] #[.int .i64 b0, .int .i64 b1, .int .i64 b2, .int .i64 b3, .int .i64 b4, .int .i64 b5] 3 w rfl rfl
  have k4 := key 43 Tryz.underlying43 a4 b4 #[.int .i64 a0, .int .i64 a1, .int .i64 a2, .int .i64 a3, .int .i64 a4, .int .i64 a5] #[.int .i64 b0, .int .i64 b1, .int .i64 b2, .int .i64 b3, .int .i64 b4, .int .i64 b5] 4 w rfl rfl
  have k5 := key 2 Tryz.underlying2 a5 b5 #[.int .i64 a0, .int .i64 a1, .int .i64 a2, .int .i64 a3, .int .i64 a4, .int .i64 a5] #[.int .i64 b0, .int .i64 b1, .int .i64 b2, .int .i64 b3, .int .i64 b4, .int .i64 b5] 5 w rfl rfl
  unfold Op.equal Op.maxDepth
  rw [show (10000 : Nat) = 9999 + 1 from rfl, Op.equalIn]
  simp only [Sem.run_bind, run_underlying Tryz.underlying45, Result.andThen_ok, program, Sem.run, hst]
  by_cases h0 : a0 = b0
  rotate_left; · simp [k0, h0]
  subst h0
  by_cases h1 : a1 = b1
  rotate_left; · simp [k0, k1, h1]
  subst h1
  by_cases h2 : a2 = b2
  rotate_left; · simp [k0, k1, k2, h2]
  subst h2
  by_cases h3 : a3 = b3
  rotate_left; · simp [k0, k1, k2, k3, h3]
  subst h3
  by_cases h4 : a4 = b4
  rotate_left; · simp [k0, k1, k2, k3, k4, h4]
  subst h4
  by_cases h5 : a5 = b5
  rotate_left; · simp [k0, k1, k2, k3, k4, k5, h5]
  subst h5
  simp [k0, k1, k2, k3, k4, k5]
theorem neqEnt (x y : Ent) (w : World) : (binOp .neq 45 x.v y.v).run Tryz.prog w = .ok (.bool (decide (x ≠ y))) w := by
  have h := equalEnt x y w
  have e : binOp .neq 45 x.v y.v = (do pure (.bool (!(← Op.equal 45 x.v y.v)))) := rfl
  rw [e]
  simp only [Sem.run_bind, h, Result.andThen_ok, Sem.run_pure]
  rw [← decide_not]
abbrev OwnE := Own Ent.cs 6 45
abbrev OwnI := Own ics 1 3
end Go.Ws
