import Derived.Test.YtkdcgmloapmpkaaOwn
namespace Go.Ws
open Go Go.RowKit
set_option linter.unusedVariables false
set_option linter.unusedSimpArgs false

/-! ### A region, operation by operation, where two that make memory may come up in either order -/
section
variable {ρ : Option Nat} {P : Program} {ops : Array Oper} {Q : Post}
def closedB (ops : Array Oper) (listed : Array Bool) : Bool :=
  (List.range ops.size).all fun j => !listed.getD j false || match ops[j]? with | some o => o.after.all fun e => !Region.binds .any e || listed.getD e.on false | none => true
theorem closed_of {listed : Array Bool} (h : closedB ops listed = true) : Closed .any ops listed := by
  intro j oj hj hl e he hb
  have hlt : j < ops.size := (Array.getElem?_eq_some_iff.1 hj).1
  have h1 := List.all_eq_true.1 h j (List.mem_range.2 hlt)
  simp only [hl, Bool.not_true, Bool.false_or, hj, Array.all_eq_true_iff_forall_mem] at h1
  have := h1 e he
  simpa [hb] using this
/-- All that is asked of one that is taken first. -/
def firstB (ops : Array Oper) (hs : List Nat) (listed : Array Bool) (i : Nat) : Bool :=
  Region.noSelect ops && !hs.contains i && (Region.ready .any ops listed).contains i && Region.free .any ops listed i && closedB ops listed &&
    ((hs.all fun j => ((Region.before ops).getD j 0).testBit i || ((Region.before ops).getD i 0).testBit j) || (match ops[i]? with | some o => Oper.mover o | none => false))
abbrev wpF (P : Program) (ops : Array Oper) (hs : List Nat) (Q : Post) (f : Nat) (listed : Array Bool) (a : Act) (w : World) : Prop := wpS P .any ops (fun j => hs.contains j) (UpQ Q) f listed a w
variable {hs : List Nat} {f : Nat} {listed : Array Bool} {a : Act} {w : World} {A : Act} {fl : List (Nat × Value)}
theorem F_first {i : Nat} {o : Oper} {v : Value} (hi : ops[i]? = some o) (hB : firstB ops hs listed i = true) (hy : YieldsQ P ops o v a w) (h : wpF P ops hs Q f (listed.setIfInBounds i true) (a.put o.dst v) w) : wpF P ops hs Q (f + 1) listed a w := by
  simp only [firstB, Bool.and_eq_true, Bool.not_eq_true'] at hB
  obtain ⟨⟨⟨⟨⟨hsel, hih⟩, hr⟩, hf⟩, hc⟩, hre⟩ := hB
  refine wpS_first hi (Region.noSelect_spec hsel) hih ?_ f listed a w (closed_of hc) (Region.free_spec hi hf) (by simpa using hr) hy h
  rw [Bool.or_eq_true] at hre
  rcases hre with hre | hmv
  · left
    intro j hj
    have h1 := List.all_eq_true.1 hre j (by simpa using hj)
    simp only [Bool.or_eq_true] at h1
    exact h1.imp (before_reach ops i j) (before_reach ops j i)
  · right
    simpa only [hi] using hmv
theorem F_nil (hr : Region.ready .any ops listed = [] := by kernel_rfl) (h : Q .normal a w) : wpF P ops hs Q 0 listed a w := ⟨hr, fun x => ⟨w, x.2, h⟩⟩
theorem F_q {i : Nat} {o : Oper} {v : Value} {d : Nat} (h : wpF P ops hs Q f (listed.setIfInBounds i true) (fr ((d, v) :: fl) A) w) (hi : ops[i]? = some o := by rfl) (hB : firstB ops hs listed i = true := by kernel_rfl)
    (hd : o.dst = some d := by rfl) (hg : o.guard = none := by rfl) (hv : ∀ x : Later w, o.quietAt P (fr fl A) (Ext (w.later x)) (w.later x) v := by intro x; go_simp; (try go_bits); exact rfl) : wpF P ops hs Q (f + 1) listed (fr fl A) w :=
  F_first hi hB (.inl ⟨by simp [Region.wanted, hg], hv⟩) (by rw [hd, fr_put]; exact h)
theorem wpF.later {w' : World} (h : wpF P ops hs Q f listed a w) (hE : Ext w w') : wpF P ops hs Q f listed a w' := wpS.later h hE
/-- The one that may come up makes memory. -/
theorem F_s {i : Nat} {o : Oper} {d : Nat} (h : ∀ (x : Later w) (K : Value → World → Prop), (∀ v w' w0, Ext (w.later x) w' → Ext w0 w' → wpF P ops hs Q f (listed.setIfInBounds i true) (fr ((d, v) :: fl) A) w0 → K v w') → runV P o (fr fl A) (w.later x) K)
    (hi : ops[i]? = some o := by rfl) (hr : Region.ready .any ops listed = [i] := by kernel_rfl) (hh : hs.contains i = false := by rfl) (hd : o.dst = some d := by rfl) (hg : o.guard = none := by rfl) : wpF P ops hs Q (f + 1) listed (fr fl A) w := by
  intro x
  refine ⟨fun h0 => (by rw [hr] at h0; cases h0), fun j hj => ?_⟩
  rw [hr] at hj
  obtain rfl : j = i := by simpa using hj
  simp only [hh, Bool.false_eq_true, if_false]
  unfold softOp
  simp only [hi]
  rw [if_pos (by simp [Region.wanted, hg])]
  refine wp_of_runV (h x (fun v w' => Ext (w.later x) w' ∧ wpF P ops hs Q f (listed.setIfInBounds j true) (fr ((d, v) :: fl) A) w') fun v w' w0 hE hE0 h => ⟨hE, wpF.later h hE0⟩) fun v w' hk => ⟨hk.1, ?_⟩
  rw [hd, fr_put]; exact hk.2
/-- The one that may come up changes memory. -/
theorem F_h {i : Nat} {o : Oper} {d : Nat} (h : ∀ (x : Later w) (K : Value → World → Prop), (∀ v w', wpF P ops hs Q f (listed.setIfInBounds i true) (fr ((d, v) :: fl) A) w' → K v w') → runV P o (fr fl A) (w.later x) K)
    (hi : ops[i]? = some o := by rfl) (hr : Region.ready .any ops listed = [i] := by kernel_rfl) (hh : hs.contains i = true := by rfl) (hd : o.dst = some d := by rfl) (hg : o.guard = none := by rfl) : wpF P ops hs Q (f + 1) listed (fr fl A) w := by
  intro x
  refine ⟨fun h0 => (by rw [hr] at h0; cases h0), fun j hj => ?_⟩
  rw [hr] at hj
  obtain rfl : j = i := by simpa using hj
  simp only [hh, if_true]
  unfold softOp
  simp only [hi]
  rw [if_pos (by simp [Region.wanted, hg])]
  refine (wp_of_runV (h x (fun v w' => wpF P ops hs Q f (listed.setIfInBounds j true) (fr ((d, v) :: fl) A) w') fun v w' h => h) fun v w' hk => ?_)
  rw [hd, fr_put]; exact hk
/-- Two that make memory may come up. -/
theorem F_two {i j : Nat} {o o' : Oper} {d d' : Nat}
    (h : ∀ (x : Later w) (K : Value → World → Prop), (∀ v w' w0, Ext (w.later x) w' → Ext w0 w' → wpF P ops hs Q f (listed.setIfInBounds i true) (fr ((d, v) :: fl) A) w0 → K v w') → runV P o (fr fl A) (w.later x) K)
    (h' : ∀ (x : Later w) (K : Value → World → Prop), (∀ v w' w0, Ext (w.later x) w' → Ext w0 w' → wpF P ops hs Q f (listed.setIfInBounds j true) (fr ((d', v) :: fl) A) w0 → K v w') → runV P o' (fr fl A) (w.later x) K)
    (hr : Region.ready .any ops listed = [i, j] := by kernel_rfl) (hi : ops[i]? = some o := by rfl) (hj : ops[j]? = some o' := by rfl) (hh : hs.contains i = false := by rfl) (hh' : hs.contains j = false := by rfl)
    (hd : o.dst = some d := by rfl) (hd' : o'.dst = some d' := by rfl) (hg : o.guard = none := by rfl) (hg' : o'.guard = none := by rfl) : wpF P ops hs Q (f + 1) listed (fr fl A) w := by
  intro x
  refine ⟨fun h0 => (by rw [hr] at h0; cases h0), fun k hk => ?_⟩
  rw [hr] at hk
  rcases (by simpa using hk : k = i ∨ k = j) with rfl | rfl
  · simp only [hh, Bool.false_eq_true, if_false]
    unfold softOp
    simp only [hi]
    rw [if_pos (by simp [Region.wanted, hg])]
    refine wp_of_runV (h x (fun v w' => Ext (w.later x) w' ∧ wpF P ops hs Q f (listed.setIfInBounds k true) (fr ((d, v) :: fl) A) w') fun v w' w0 hE hE0 h => ⟨hE, wpF.later h hE0⟩) fun v w' hk => ⟨hk.1, ?_⟩
    rw [hd, fr_put]; exact hk.2
  · simp only [hh', Bool.false_eq_true, if_false]
    unfold softOp
    simp only [hj]
    rw [if_pos (by simp [Region.wanted, hg'])]
    refine wp_of_runV (h' x (fun v w' => Ext (w.later x) w' ∧ wpF P ops hs Q f (listed.setIfInBounds k true) (fr ((d', v) :: fl) A) w') fun v w' w0 hE hE0 h => ⟨hE, wpF.later h hE0⟩) fun v w' hk => ⟨hk.1, ?_⟩
    rw [hd', fr_put]; exact hk.2
/-- Any of those that may come up. -/
def stepF (P : Program) (ops : Array Oper) (hs : List Nat) (Q : Post) (f : Nat) (listed : Array Bool) (a : Act) (w : World) (i : Nat) : Prop :=
  ∀ x : Later w, softOp P ops i (fun a' w' => (hs.contains i = false → Ext (w.later x) w') ∧ wpF P ops hs Q f (listed.setIfInBounds i true) a' w') a (w.later x)
theorem F_alts {i : Nat} {rs : List Nat} (h : ∀ j ∈ i :: rs, stepF P ops hs Q f listed a w j) (hr : Region.ready .any ops listed = i :: rs := by kernel_rfl) : wpF P ops hs Q (f + 1) listed a w := by
  intro x
  refine ⟨fun h0 => (by rw [hr] at h0; cases h0), fun j hj => ?_⟩
  rw [hr] at hj
  have hs' := h j hj x
  split
  · exact softOp_mono (fun _ _ h => h.2) hs'
  · rename_i hc
    exact softOp_mono (fun _ _ h => ⟨h.1 (by simpa using hc), h.2⟩) hs'
theorem S_cons {p : Nat → Prop} {i : Nat} {rs : List Nat} (h : p i) (hr : ∀ j ∈ rs, p j) : ∀ j ∈ i :: rs, p j := by
  intro j hj
  rcases List.mem_cons.1 hj with rfl | hj
  · exact h
  · exact hr j hj
theorem S_end {p : Nat → Prop} : ∀ j ∈ ([] : List Nat), p j := by intro j hj; cases hj
/-- One that reads. -/
theorem S_q {i : Nat} {o : Oper} {v : Value} {d : Nat} (h : wpF P ops hs Q f (listed.setIfInBounds i true) (fr ((d, v) :: fl) A) w) (hi : ops[i]? = some o := by rfl)
    (hd : o.dst = some d := by rfl) (hg : o.guard = none := by rfl) (hv : ∀ x : Later w, o.quietAt P (fr fl A) (Ext (w.later x)) (w.later x) v := by intro x; go_simp; (try go_bits); exact rfl) : stepF P ops hs Q f listed (fr fl A) w i := by
  intro x
  unfold softOp
  simp only [hi]
  have hy : YieldsQ P ops o v (fr fl A) w := .inl ⟨by simp [Region.wanted, hg], hv⟩
  have := hy.wp (K := fun a' w' => Ext (w.later x) w' ∧ wpF P ops hs Q f (listed.setIfInBounds i true) a' w') (Q' := fun _ _ _ => False) x
  have hw : Region.wanted o (yielded ops (fr fl A).tmps) = true := by simp [Region.wanted, hg]
  rw [if_pos hw]
  have hv' := hv x
  unfold Oper.quietAt at hv'
  unfold OpW
  generalize (execOp (fr fl A).eval o).run P (w.later x) = r at *
  have k : ∀ w', Ext (w.later x) w' → (hs.contains i = false → Ext (w.later x) w') ∧ wpF P ops hs Q f (listed.setIfInBounds i true) ((fr fl A).put o.dst v) w' := fun w' hE => ⟨fun _ => hE, by rw [hd, fr_put]; exact h.later (Ext.trans x.2 hE)⟩
  cases r with
  | ok n w' =>
    cases n <;> simp only [Oper.quietUpon] at hv' <;> simp only [uponW]
    case value u => obtain ⟨e1, e2⟩ := hv'; rw [e1, e2]; exact k _ (Ext.refl _)
    case skip => obtain ⟨e1, e2⟩ := hv'; rw [e1, ← e2]; exact k _ (Ext.refl _)
    case enter g args =>
      obtain ⟨e1, hc⟩ := hv'
      rw [e1]
      exact hc.mono fun e w'' ⟨he, hw''⟩ => by subst he; exact k _ hw''
  | halt z w' => simp only [Oper.quietUpon] at hv'
/-- One that makes memory. -/
theorem S_s {i : Nat} {o : Oper} {d : Nat} (h : ∀ (x : Later w) (K : Value → World → Prop), (∀ v w' w0, Ext (w.later x) w' → Ext w0 w' → wpF P ops hs Q f (listed.setIfInBounds i true) (fr ((d, v) :: fl) A) w0 → K v w') → runV P o (fr fl A) (w.later x) K)
    (hi : ops[i]? = some o := by rfl) (hd : o.dst = some d := by rfl) (hg : o.guard = none := by rfl) : stepF P ops hs Q f listed (fr fl A) w i := by
  intro x
  unfold softOp
  simp only [hi]
  rw [if_pos (by simp [Region.wanted, hg])]
  refine wp_of_runV (h x (fun v w' => Ext (w.later x) w' ∧ wpF P ops hs Q f (listed.setIfInBounds i true) (fr ((d, v) :: fl) A) w') fun v w' w0 hE hE0 h => ⟨hE, wpF.later h hE0⟩) fun v w' hk => ⟨fun _ => hk.1, ?_⟩
  rw [hd, fr_put]; exact hk.2
/-- One that writes. -/
theorem S_w {i : Nat} {o : Oper} (h : ∀ (x : Later w) (K : Value → World → Prop), (∀ v w', wpF P ops hs Q f (listed.setIfInBounds i true) (fr fl A) w' → K v w') → runV P o (fr fl A) (w.later x) K)
    (hi : ops[i]? = some o := by rfl) (hh : hs.contains i = true := by rfl) (hd : o.dst = none := by rfl) (hg : o.guard = none := by rfl) : stepF P ops hs Q f listed (fr fl A) w i := by
  intro x
  unfold softOp
  simp only [hi]
  rw [if_pos (by simp [Region.wanted, hg])]
  refine wp_of_runV (h x (fun v w' => wpF P ops hs Q f (listed.setIfInBounds i true) (fr fl A) w') fun v w' h => h) fun v w' hk => ⟨fun h0 => absurd h0 (by rw [hh]; decide), ?_⟩
  rw [hd]; exact hk
/-- A call that leaves what was there. -/
theorem S_ret {i : Nat} {o : Oper} {g : FuncId} {fn : Func} {la : List Operand} {ats : Array TypeId} {lv lv' : List Value} {R : World → Value → World → Prop} {d : Nat} (hf : P.funcs[g]? = some fn)
    (hc : ∀ x : Later w, Ret P g lv.toArray (w.later x) (R (w.later x))) (h : ∀ (x : Later w) v w', R (w.later x) v w' → Ext (w.later x) w' ∧ wpF P ops hs Q f (listed.setIfInBounds i true) (fr ((d, v) :: fl) A) w') (hi : ops[i]? = some o := by rfl) (hd : o.dst = some d := by rfl)
    (hop : o.op = .call { callee := .value (.func g), args := la.toArray, argTypes := ats } := by rfl) (hn : callable fn = true := by kernel_rfl) (hg : o.guard = none := by rfl) (hargs : Is (la.map (fr fl A).eval) lv' := by go_simp; exact Is.mk _) (hlv : lv' = lv := by rfl) : stepF P ops hs Q f listed (fr fl A) w i := by
  intro x
  unfold softOp
  simp only [hi]
  rw [if_pos (by simp [Region.wanted, hg])]
  unfold OpW
  rw [run_call hf hn hop, hargs.eq, hlv]
  simp only [uponW]
  refine Calls.mono (Fn.calls (hc x)) fun e w' hR => ?_
  obtain ⟨w0, hE, hR⟩ := hR
  cases e with
  | returned v =>
    obtain ⟨h1, h2⟩ := h x v w0 hR
    exact ⟨fun _ => Ext.trans h1 hE, by rw [hd, fr_put]; exact h2.later hE⟩
  | panicked c => exact hR.elim
  | outgrown => exact hR.elim
/-- A region whose order is drawn, operation by operation; hs: those that may change what was there. -/
theorem W_fork {rid : Nat} {l : List Oper} (hs : List Nat) (hm : P.follows .mixedOrders = true) (h : wpF P l.toArray hs Q l.length (Array.replicate l.length false) a w) (hnd : calmIn ρ l := by first | exact .inl rfl | exact .inr (by kernel_rfl)) : Wp ρ P (.region rid l.toArray true) Q a w := Wp.intro fun x => by
  refine wpIn_region_any hm ?_
  have := wpAny_of_wpS (n := 0) hnd.get _ _ _ _ (wpF.later h (Ext.trans x.2 (Ext.drew _)))
  rw [List.size_toArray]
  exact this
theorem F_al (x : Later w) {cs : Array Value} {e : TypeId} (h : ∀ y : Later w, w.heap.size ≤ (w.later x).heap.size → (w.later x).heap.size < (w.later y).heap.size →
    (∀ k, (w.later y).cell? ⟨(w.later x).heap.size, k, none⟩ = cs[k]?) → (∀ k, (w.later y).frozen? ⟨(w.later x).heap.size, k, none⟩ = false) → Hid ((w.later y).heap[(w.later x).heap.size]? = some (.cells cs e)) → wpF P ops hs Q f listed a (w.later y)) :
    wpF P ops hs Q f listed a ((w.later x).alloc (.cells cs e)) :=
  h ⟨_, Ext.trans x.2 (Ext.alloc _ _)⟩ (size_later _ _) (by show _ < ((w.later x).alloc _).heap.size; simp) (fun k => World.cell?_alloc_new _ _ _ _) (fun k => World.frozen?_alloc_new _ _ _ _) (heap_alloc_new _ _)
variable {α : Type} {enc : α → List Value} {k : Nat}
/-- append([]T{}, l...): a copy, in memory that is new. -/
theorem run_append_empty {t E : TypeId} {bytes : Nat} (he : Elem P enc k t E bytes) (ty : TypeId) {b : Nat} {vs : Value} {ys : List α} (hb : w.heap[b]? = some (.cells #[] E)) (hs : Rd enc k w vs ys) (hbytes : ys.length * bytes ≤ 140737488355328) (hm : ys.length ≤ maxLen) :
    ∃ v' w', (Builtin.append_ #[t, t] ty #[.slice (some ⟨b, 0, none⟩) 0 0, vs]).run P w = .ok v' w' ∧ Own enc k E w' v' ys ∧ Ext w w' ∧ (∀ g, v'.ownBlock = some g → g = b ∨ w.heap.size ≤ g) := by
  obtain ⟨z, hi, hz⟩ := he.info
  obtain ⟨i, hi', hz', hs', hb'⟩ := info_parts hi
  have hown : Own enc k E w (.slice (some ⟨b, 0, none⟩) 0 0) ([] : List α) := ⟨by simp, .inr ⟨b, 0, #[], rfl, Nat.zero_le _, hb, Nat.le_refl _, Nat.zero_le _, by simp, by simp⟩⟩
  rcases hs.src he.len with ⟨c, rfl, rfl⟩ | ⟨b1, o1, c, rfl, hsrc, hlt⟩
  · refine ⟨_, w, ?_, hown, Ext.refl _, fun g h => by cases h; exact .inl rfl⟩
    simp [Builtin.append_, run_underlying he.ty, sizeOf, typeInfo, hi', Builtin.lenOf, Builtin.firstCells, storeCells]
  · by_cases hy : ys.length = 0
    · have : ys = [] := List.eq_nil_of_length_eq_zero hy
      subst this
      refine ⟨_, w, ?_, hown, Ext.refl _, fun g h => by cases h; exact .inl rfl⟩
      have hr := run_append_room (P := P) w t ty E i he.ty hi' b 0 0 #[] hb ⟨b1, o1, none⟩ 0 c [] (by simp) (by simp) (by simp) (by simp) (by simp)
      simp only [Nat.add_zero, Nat.zero_mul, List.take_zero, List.nil_append, List.length_nil, List.drop_zero] at hr
      rw [List.length_nil, hr]
      congr 1
      exact setRow_self w b #[] E (0, 0) hb
    · have hr := run_append_grow (P := P) w t ty E i z he.ty hi' hz' ⟨b, 0, none⟩ 0 0 [] (by simp) (by simp) ⟨b1, o1, none⟩ ys.length c (ys.flatMap enc) (by rw [flat_len he.len, hs']) hsrc (by omega) (by simp only [maxLen] at hm; omega) (by
        rw [hb', Nat.zero_add]; exact growslice_fits (by omega) (by simpa using hbytes))
      simp only [Nat.zero_add, Array.empty_append, List.size_toArray] at hr
      refine ⟨_, _, hr, ?_, (Ext.trans (Ext.drew w) (Ext.alloc _ _)), fun g h => by cases h; exact .inr (Nat.le_refl _)⟩
      have hge := grownCap_ge w ys.length 0 E
      have hcm : grownCap w ys.length 0 E ≤ maxLen := grownCap_le_maxLen w ys.length 0 E hm
      refine ⟨flat_len he.len ys, .inr ⟨w.heap.size, _, _, rfl, Nat.zero_le _, heap_alloc_new w.drew _, hge, hcm, ?_, ?_⟩⟩
      · simp only [Array.size_append, List.size_toArray, size_zeroCells, hz, flat_len he.len, List.length_nil, Nat.zero_mul, Nat.zero_add, Nat.sub_zero, ← Nat.add_mul]
        congr 1; omega
      · simp only [Array.toList_append, List.nil_append]
        rw [← flat_len he.len ys]
        exact List.take_left
/-- As an operation that makes memory. -/
theorem F_copy {o : Oper} {t E : TypeId} {bytes b : Nat} {vs : Value} {ys : List α} {s x : Operand} (he : Elem P enc k t E bytes) (hb : w.heap[b]? = some (.cells #[] E)) (hr : Rd enc k w vs ys) (hbytes : ys.length * bytes ≤ 140737488355328) (hm : ys.length ≤ maxLen)
    (X : Later w) (K : Value → World → Prop) (hK : ∀ (y : Later w) v', Ext (w.later X) (w.later y) → Own enc k E (w.later y) v' ys → (∀ g, v'.ownBlock = some g → g = b ∨ w.heap.size ≤ g) → K v' (w.later y))
    (ho : o.op = .call { callee := .builtin .append, args := #[s, x], argTypes := #[t, t] } := by rfl)
    (hs : Is ((fr fl A).eval s) (.slice (some ⟨b, 0, none⟩) 0 0) := by go_simp; exact Is.mk _) (hx : Is ((fr fl A).eval x) vs := by go_simp; exact Is.mk _) : runV P o (fr fl A) (w.later X) K := by
  have hlt : b < w.heap.size := (Array.getElem?_eq_some_iff.1 hb).1
  obtain ⟨v', w', h1, h2, h3, h4⟩ := run_append_empty (P := P) (w := w.later X) he o.type ((heap_later w X b hlt).trans hb) (hr.later X.2) hbytes hm
  unfold runV
  rw [run_append_op ho hs.eq hx.eq h1]
  exact hK ⟨w', Ext.trans X.2 h3⟩ v' h3 h2 fun g hg => (h4 g hg).imp id (fun h => Nat.le_trans X.2.size h)
/-- append onto a slice that was made since w0. -/
theorem F_push {i : Nat} {o : Oper} {s x : Operand} {t : TypeId} {d : Nat} {E : TypeId} {bytes : Nat} {v vs : Value} {xs ys : List α} {w0 : World} (hE0 : Ext w0 w)
    (he : Elem P enc k t E bytes) (hown : Own enc k E w v xs) (hf : ∀ b, v.ownBlock = some b → w0.heap.size ≤ b) (hsrc : Rd enc k w vs ys) (hbytes : (xs.length + ys.length) * bytes ≤ 140737488355328) (hm : xs.length + ys.length ≤ maxLen)
    (h : ∀ (y' : Later w0) v', Own enc k E (w0.later y') v' (xs ++ ys) → (∀ b, v'.ownBlock = some b → w0.heap.size ≤ b) → wpF P ops hs Q f (listed.setIfInBounds i true) (fr ((d, v') :: fl) A) (w0.later y'))
    (hi : ops[i]? = some o := by rfl) (hr : Region.ready .any ops listed = [i] := by kernel_rfl) (hh : hs.contains i = true := by rfl)
    (ho : o.op = .call { callee := .builtin .append, args := #[s, x], argTypes := #[t, t] } := by rfl) (hd : o.dst = some d := by rfl) (hg : o.guard = none := by rfl)
    (hs' : Is ((fr fl A).eval s) v := by go_simp; exact Is.mk _) (hx : Is ((fr fl A).eval x) vs := by go_simp; exact Is.mk _) :
    wpF P ops hs Q (f + 1) listed (fr fl A) w := by
  refine F_h (fun X K hK => ?_) hi hr hh hd hg
  obtain ⟨v', W', hr, h2, h3, h4, h5⟩ := run_append3 (P := P) (w := w.later X) he o.type (hown.later X.2) (hsrc.later X.2) hbytes hm
  unfold runV
  rw [run_append_op ho hs'.eq hx.eq hr]
  have hM : Mod (fun b => v.ownBlock = some b) w W' := Mod.trans X.2 h3 (fun _ _ h => h.elim) (fun _ _ h => h)
  refine hK v' W' (h ⟨W', Ext.fresh hE0 hM hf⟩ v' h2 fun b hb => ?_)
  rcases h4 with h4 | ⟨g, hg, hle⟩
  · exact hf b (h4 ▸ hb)
  · rw [hg] at hb; cases hb
    exact Nat.le_trans hE0.size (Nat.le_trans X.2.size hle)
end
end Go.Ws
