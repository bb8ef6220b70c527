import Derived.Test.YtkdcgmloapmpkaaBlk
namespace Go.Ws
open Go Go.RowKit
set_option linter.unusedVariables false
set_option linter.unusedSimpArgs false

/-! ### Ranges over functions -/
/-- A call of yield for loop l: it comes to a round, and so does the round end. -/
def YieldW (P : Program) (l : Nat) (args : Array Value) (W : World) (R : Ending → World → Prop) : Prop :=
  ∃ fn tmps assign body, (Instr.yield l args).run P W = .ok (.round l fn tmps assign body) W ∧ RoundIn Fence.wide 0 P l fn tmps assign body W R
/-- What an iterator does, whatever the rounds do within B, a set of blocks that the iterator does not read (Rd), and that grows by new ones alone.
S: all has come; Pre: a part that may come. -/
def Iter {α : Type} (P : Program) (gf : FuncId) (lb : Array Value) (encs : α → Array Value) (S Pre : List α → Prop) (Rd : Nat → Prop) (w : World) : Prop :=
  ∀ (l : Nat) (J : List α → (Nat → Prop) → World → Prop) (Jx : List α → World → Prop) (B0 : Nat → Prop) (W : World), Ext w W →
    (∀ pre B V V', J pre B V → Mod (fun k => ¬ B k ∧ W.heap.size ≤ k) V V' → J pre B V') → (∀ pre W W', Jx pre W → Ext W W' → Jx pre W') → (∀ pre B W, J pre B W → ∀ k, B k → k < W.heap.size) →
    (∀ pre B x W1, J pre B W1 → Pre (pre ++ [x]) → YieldW P l (encs x) W1 fun e W' =>
      (e = .returned (.bool true) ∧ ∃ B', J (pre ++ [x]) B' W' ∧ Mod B W1 W' ∧ ∀ k, B' k → B k ∨ W1.heap.size ≤ k) ∨ (e = .returned (.bool false) ∧ Jx (pre ++ [x]) W')) →
    J [] B0 W → (∀ k, B0 k → ¬ Rd k) →
    Calls P gf (#[.func (.yield l) #[] #[]] ++ lb) W fun e W' => ∃ v, e = .returned v ∧ ((∃ xs B, S xs ∧ J xs B W') ∨ ∃ pre, Jx pre W')
theorem Iter.later {α : Type} {P : Program} {gf : FuncId} {lb : Array Value} {encs : α → Array Value} {S Pre : List α → Prop} {Rd : Nat → Prop} {w w' : World} (h : Iter P gf lb encs S Pre Rd w) (hE : Ext w w') : Iter P gf lb encs S Pre Rd w' :=
  fun l J Jx B0 W hW => h l J Jx B0 W (Ext.trans hE hW)

/-- What is asked where a round's body ends: it began at W (its record busy at W2). -/
def RoundQ {α : Type} (I : List α → (Nat → Prop) → World → Prop) (Ix : Code → List α → (Nat → Prop) → World → Prop) (pre : List α) (B : Nat → Prop) (x : α) (W W2 : World) : Post
  | .normal, _, W3 => ∃ B', I (pre ++ [x]) B' W3 ∧ Mod (fun k => B k ∨ W.heap.size ≤ k) W2 W3 ∧ ∀ k, B' k → (B k ∨ W.heap.size ≤ k) ∧ k < W3.heap.size
  | .ret, _, W3 => ∃ B', Ix .ret (pre ++ [x]) B' W3 ∧ Mod (fun k => B k ∨ W.heap.size ≤ k) W2 W3 ∧ ∀ k, B' k → (B k ∨ W.heap.size ≤ k) ∧ k < W3.heap.size
  | .exit id, _, W3 => ∃ B', Ix (.exit id) (pre ++ [x]) B' W3 ∧ Mod (fun k => B k ∨ W.heap.size ≤ k) W2 W3 ∧ ∀ k, B' k → (B k ∨ W.heap.size ≤ k) ∧ k < W3.heap.size
  | .goto t, _, W3 => ∃ B', Ix (.goto t) (pre ++ [x]) B' W3 ∧ Mod (fun k => B k ∨ W.heap.size ≤ k) W2 W3 ∧ ∀ k, B' k → (B k ∨ W.heap.size ≤ k) ∧ k < W3.heap.size
  | _, _, _ => False
/-- It says nothing of new blocks outside B. -/
def Holds (n : Nat) (I : (Nat → Prop) → World → Prop) : Prop := ∀ B W W', I B W → Mod (fun k => ¬ B k ∧ n ≤ k) W W' → I B W'
section
variable {P : Program} {Q : Post} {w : World} {A : Act} {fl : List (Nat × Value)}
theorem mod_putObj (w : World) (b : Nat) (o : Obj) : Mod (· = b) w (w.putObj b o) :=
  ⟨rfl, rfl, rfl, by simp, fun k _ hk => World.putObj_heap_other (fun e => hk e)⟩
theorem fr_foldl (l : List (Nat × Value)) (ps : List Nat) : ∀ (xs : List Value) (fl : List (Nat × Value)) (A : Act), (ps.zip xs).foldl (fun t (p : Nat × Value) => t.setIfInBounds p.1 p.2) (tmpsOf fl A.tmps) = tmpsOf ((ps.zip xs).reverse ++ fl) A.tmps := by
  induction ps with
  | nil => intro xs fl A; simp
  | cons p ps ih =>
    intro xs fl A
    cases xs with
    | nil => simp
    | cons x xs =>
      simp only [List.zip_cons_cons, List.foldl_cons, List.reverse_cons, List.append_assoc, List.singleton_append]
      have := ih xs ((p, x) :: fl) A
      simp only [tmpsOf] at this
      exact this
/-- The loop 'for .. := range g { .. }', in no round. -/
theorem W_range {α : Type} {g : Operand} {ps : List Tmp} {assign body : Code} {gf : FuncId} {lb : Array Value} {encs : α → List Value} {S Pre : List α → Prop} {Rd : Nat → Prop} {fn : Func}
    (hgf : P.funcs[gf]? = some fn) (hcall : callable fn = true) (hseq : Iter P gf lb (fun x => (encs x).toArray) S Pre Rd w) (hps : ∀ x, (encs x).length = ps.length)
    (hg : Is ((fr fl A).eval g) (.func (.func gf) #[] lb))
    (I : List α → (Nat → Prop) → World → Prop) (Ix : Code → List α → (Nat → Prop) → World → Prop) (hI : ∀ pre, Holds w.heap.size (I pre)) (hIx : ∀ c pre, Holds w.heap.size (Ix c pre))
    (B0 : Nat → Prop) (h0 : I [] B0 w) (hB0 : ∀ k, B0 k → k < w.heap.size ∧ ¬ Rd k)
    (round : ∀ (l : Nat) pre B x W, w.heap.size ≤ l → l < W.heap.size → I pre B W → (∀ k, B k → k ≠ l ∧ k < W.heap.size) → Pre (pre ++ [x]) →
      Wp (some l) P assign (Exit.then (fun a1 W1 => Ext W W1 ∧ ∀ W2, Mod (· = l) W1 W2 → Wp (some l) P body (RoundQ I Ix pre B x W W2) a1 W2) (fun _ _ _ => False)) (fr ((ps.zip (encs x)).reverse ++ fl) { tmps := A.tmps, defers := [] }) W)
    (hdone : ∀ (D : Nat) xs B W, w.heap.size ≤ D → ¬ B D → S xs → I xs B W → W.heap[D]? = some (.deferred (some [])) → Q .normal (fr fl { tmps := A.tmps, defers := { target := .collected D, args := #[] } :: A.defers }) W)
    (hstop : ∀ (D : Nat) c pre B W, w.heap.size ≤ D → ¬ B D → Ix c pre B W → W.heap[D]? = some (.deferred (some [])) → Wp none P c Q (fr fl { tmps := A.tmps, defers := { target := .collected D, args := #[] } :: A.defers }) W) :
    Wp none P (.rangeFunc g ps.toArray assign body) Q (fr fl A) w := Wp.intro fun X => by
  refine wpIn_rangeFunc ?_
  intro fid hfid
  obtain ⟨W, hW⟩ : ∃ W, w.later X = W := ⟨_, rfl⟩
  have hEW : Ext w W := hW ▸ X.2
  rw [hW]
  obtain ⟨rec, hrec⟩ : ∃ rec : LoopState → Option Code → Loop, rec = fun st pe => { state := st, pending := pe, fn := fid, tmps := (fr fl A).tmps, params := ps.toArray, assign, body, defers := W.heap.size } := ⟨_, rfl⟩
  obtain ⟨W1, hW1⟩ : ∃ W1, (W.alloc (.deferred (some []))).alloc (.loop (rec .ready none)) = W1 := ⟨_, rfl⟩
  have hL1 : W1.heap[W.heap.size + 1]? = some (.loop (rec .ready none)) := by
    rw [← hW1]; have := World.alloc_heap_new (W.alloc (.deferred (some []))) (.loop (rec .ready none)); rwa [World.size_alloc] at this
  have hK1 : W1.heap[W.heap.size]? = some (.deferred (some [])) := by
    rw [← hW1]; exact (Below.heap_alloc _ _ _ (by simp)).trans (World.alloc_heap_new W _)
  have hE1 : Ext w W1 := Ext.trans hEW (by rw [← hW1]; exact Ext.trans (Ext.alloc _ _) (Ext.alloc _ _))
  have hwW : w.heap.size ≤ W.heap.size := hEW.size
  have hup : ∀ {I' : (Nat → Prop) → World → Prop}, Holds w.heap.size I' → ∀ {B : Nat → Prop} {V V' : World}, I' B V → Ext V V' → I' B V' := fun {I'} hI' {B} {V} {V'} h hE => hI' B V V' h (Mod.mono hE (fun _ _ h => h.elim))
  generalize hl : W.heap.size + 1 = l at *
  generalize hD : W.heap.size = D at *
  have hwD : w.heap.size ≤ D := by omega
  have hwl : w.heap.size ≤ l := by omega
  have hlD : l ≠ D := by omega
  obtain ⟨d, hd⟩ : ∃ d : Deferred, d = { target := .fn (.func gf) lb, args := #[.func (.yield l) #[] #[]] } := ⟨_, rfl⟩
  refine ⟨l, [{ target := .collected D, args := #[] }], W1, d, W1, gf, #[.func (.yield l) #[] #[]] ++ lb, W1, ?_, ?_, fun _ _ => trivial, ?_, fun h => (by cases h), ?_⟩
  · rw [← hW1, hrec, ← hl, ← hD]; exact run_enterLoop_outer _ _ _ _ _
  · rw [hd]; simp only [resolve, hg.eq]
    simp [go_sem]
  · rw [hd]
    simp only [callable, Bool.and_eq_true] at hcall
    have h1 : (fn.name == "runtime.NumGoroutine") = false := by have := hcall.1; simpa [bne] using this
    have h2 : fn.body.isNone = false := by cases hb : fn.body <;> simp_all
    have eg : ∀ args w, (callFunc gf args).run P w = .ok (.enter gf args) w := by
      intro args w
      unfold callFunc
      simp only [program, Sem.run_bind, Sem.run, hgf, h1, h2, Result.andThen_ok, Bool.false_eq_true, if_false, Sem.run_pure]
    simp [invoke, go_sem, eg]
  -- the iterator
  refine callsIn_RF (Calls.mono (hseq l
    (fun pre B V => I pre B V ∧ V.heap[l]? = some (.loop (rec .ready none)) ∧ V.heap[D]? = some (.deferred (some [])) ∧ ∀ k, B k → k ≠ l ∧ k ≠ D ∧ k < V.heap.size)
    (fun pre V => ∃ c B, Ix c pre B V ∧ V.heap[l]? = some (.loop (rec .done (some c))) ∧ V.heap[D]? = some (.deferred (some [])) ∧ ∀ k, B k → k ≠ l ∧ k ≠ D ∧ k < V.heap.size)
    B0 W1 hE1 ?_ ?_ ?_ ?_ ⟨hup (hI []) h0 hE1, hL1, hK1, fun k hk => ?_⟩ (fun k hk => (hB0 k hk).2)) ?_)
  · rintro pre B V V' ⟨h, hl', hD', hB⟩ hE
    have l1 := (Array.getElem?_eq_some_iff.1 hl').1
    have l2 := (Array.getElem?_eq_some_iff.1 hD').1
    have l3 := (Array.getElem?_eq_some_iff.1 hL1).1
    exact ⟨hI pre B V V' h (Mod.mono hE (fun k _ h => ⟨h.1, Nat.le_trans hE1.size h.2⟩)), (hE.block l l1 (fun h => by have := h.2; omega)).trans hl', (hE.block D l2 (fun h => by have := h.2; omega)).trans hD', fun k hk => ⟨(hB k hk).1, (hB k hk).2.1, Nat.lt_of_lt_of_le (hB k hk).2.2 hE.size⟩⟩
  · rintro pre V V' ⟨c, B, h, hl', hD', hB⟩ hE
    have l1 := (Array.getElem?_eq_some_iff.1 hl').1
    have l2 := (Array.getElem?_eq_some_iff.1 hD').1
    exact ⟨c, B, hup (hIx c pre) h hE, (hE.block l l1 (fun h => h)).trans hl', (hE.block D l2 (fun h => h)).trans hD', fun k hk => ⟨(hB k hk).1, (hB k hk).2.1, Nat.lt_of_lt_of_le (hB k hk).2.2 hE.size⟩⟩
  · rintro pre B V ⟨_, _, _, hB⟩ k hk
    exact (hB k hk).2.2
  · -- one round
    rintro pre B x V ⟨hi, hlV, hDV, hB⟩ hpre
    have hlt : l < V.heap.size := (Array.getElem?_eq_some_iff.1 hlV).1
    have hDt : D < V.heap.size := (Array.getElem?_eq_some_iff.1 hDV).1
    have hy := run_yield (P := P) (args := (encs x).toArray) hlV (by rw [hrec]; simpa using hps x)
    refine ⟨_, _, _, _, hy, ?_⟩
    rw [hrec]
    simp only
    have htm : (ps.toArray.zip (encs x).toArray).foldl (fun tmps (p : Nat × Value) => tmps.setIfInBounds p.1 p.2) (fr fl A).tmps = tmpsOf ((ps.zip (encs x)).reverse ++ fl) A.tmps := by
      rw [List.zip_toArray, List.foldl_toArray]
      rw [fr_tmps]
      exact fr_foldl [] ps (encs x) fl A
    rw [htm]
    refine roundIn_of_wpIn (F := Fence.wide) trivial ?_
    rw [fr_mk _ A _ _ rfl]
    refine Go.wpIn_mono ((round l pre B x V hwl hlt hi (fun k hk => ⟨(hB k hk).1, (hB k hk).2.2⟩) hpre).get ⟨V, Ext.refl V⟩) ?_
    rintro e a1 V1 ⟨V0, hE01, hq⟩
    cases e with
    | normal =>
      obtain ⟨hE0, hb⟩ := hq
      have hEV1 : Ext V V1 := Ext.trans hE0 hE01
      have hlV1 : V1.heap[l]? = some (.loop (rec .ready none)) := (hEV1.block l hlt (fun h => h)).trans hlV
      have hbr := run_beginRound (P := P) hlV1 (by rw [hrec])
      refine ⟨_, hbr, ?_⟩
      generalize hV2 : V1.putObj l (.loop { rec .ready none with state := .busy }) = V2 at *
      have hM12 : Mod (· = l) V1 V2 := hV2 ▸ mod_putObj V1 l _
      have hlV1' : l < V1.heap.size := Nat.lt_of_lt_of_le hlt hEV1.size
      have hl2 : V2.heap[l]? = some (.loop { rec .ready none with state := .busy }) := hV2 ▸ World.putObj_heap_same hlV1'
      refine Go.wpIn_mono ((hb V2 (Mod.trans hE01 hM12 (fun _ _ h => h.elim) (fun _ _ h => h))).get ⟨V2, Ext.refl V2⟩) ?_
      rintro e a3 V3 ⟨V3', hE3, hq⟩
      have fin : ∀ (jump : Option Code) (B' : Nat → Prop) (I' : (Nat → Prop) → World → Prop), Holds w.heap.size I' → I' B' V3' → Mod (fun k => B k ∨ V.heap.size ≤ k) V2 V3' → (∀ k, B' k → (B k ∨ V.heap.size ≤ k) ∧ k < V3'.heap.size) →
          ∃ V4, (Instr.endRound l jump).run P V3 = .ok (.bool jump.isNone) V4 ∧ I' B' V4 ∧ V4.heap[l]? = some (.loop (rec (if jump.isNone then .ready else .done) jump)) ∧ V4.heap[D]? = some (.deferred (some [])) ∧
            (∀ k, B' k → k ≠ l ∧ k ≠ D ∧ k < V4.heap.size) ∧ (jump = none → Mod B V V4) ∧ ∀ k, B' k → B k ∨ V.heap.size ≤ k := by
        intro jump B' I' hI' hI3 hM hB'
        have hnl : ¬ (B l ∨ V.heap.size ≤ l) := by
          rintro (h | h)
          · exact (hB l h).1 rfl
          · omega
        have hnD : ¬ (B D ∨ V.heap.size ≤ D) := by
          rintro (h | h)
          · exact (hB D h).2.1 rfl
          · omega
        have s1 := hEV1.size
        have s2 := hM12.size
        have s3 := hM.size
        have s4 := hE3.size
        have hl3' : V3'.heap[l]? = some (.loop { rec .ready none with state := .busy }) := (hM.block l (by omega) hnl).trans hl2
        have hl3 : V3.heap[l]? = some (.loop { rec .ready none with state := .busy }) := (hE3.block l (by omega) (fun h => h)).trans hl3'
        have hD3 : V3.heap[D]? = some (.deferred (some [])) :=
          (hE3.block D (by omega) (fun h => h)).trans ((hM.block D (by omega) hnD).trans ((hM12.block D (by omega) (fun h => hlD h.symm)).trans ((hEV1.block D hDt (fun h => h)).trans hDV)))
        have hend := run_endRound (P := P) jump hl3
        have hM34 : Mod (· = l) V3 (V3.putObj l (.loop { ({ rec .ready none with state := .busy } : Loop) with state := if jump.isNone then .ready else .done, pending := jump })) := mod_putObj _ _ _
        refine ⟨_, hend, hI' _ _ _ hI3 (Mod.trans hE3 hM34 (fun _ _ h => h.elim) ?_), ?_, (World.putObj_heap_other (fun h => hlD h.symm)).trans hD3, ?_, ?_, ?_⟩
        · rintro k _ rfl
          exact ⟨fun h => hnl (hB' _ h).1, hwl⟩
        · rw [World.putObj_heap_same (by omega), hrec]
        · intro k hk
          refine ⟨fun h => hnl (h ▸ (hB' k hk).1), fun h => hnD (h ▸ (hB' k hk).1), ?_⟩
          have := (hB' k hk).2
          simp; omega
        · rintro rfl
          refine ⟨?_, ?_, ?_, ?_, ?_⟩
          · exact hM34.os.trans (hE3.os.trans (hM.os.trans (hM12.os.trans hEV1.os)))
          · exact hM34.tape.trans (hE3.tape.trans (hM.tape.trans (hM12.tape.trans hEV1.tape)))
          · exact hM34.output.trans (hE3.output.trans (hM.output.trans (hM12.output.trans hEV1.output)))
          · simp; omega
          · intro k hk hBk
            by_cases hkl : k = l
            · subst hkl
              rw [World.putObj_heap_same (by omega), hlV, hrec]
              rfl
            · rw [World.putObj_heap_other hkl]
              exact (hE3.block k (by omega) (fun h => h)).trans ((hM.block k (by omega) (fun h => h.elim hBk (fun h => by omega))).trans ((hM12.block k (by omega) hkl).trans (hEV1.block k hk (fun h => h))))
        · exact fun k hk => (hB' k hk).1
      cases e with
      | normal =>
        obtain ⟨B', hI3, hM, hB'⟩ := hq
        obtain ⟨V4, hend, h1, h2, h3, h4, h5, h6⟩ := fin none B' _ (hI (pre ++ [x])) hI3 hM hB'
        rw [hrec] at h2
        exact ⟨_, V4, hend, .inl ⟨rfl, B', ⟨h1, h2, h3, h4⟩, h5 rfl, h6⟩⟩
      | ret =>
        obtain ⟨B', hI3, hM, hB'⟩ := hq
        obtain ⟨V4, hend, h1, h2, h3, h4, h5, h6⟩ := fin (some .ret) B' _ (hIx .ret (pre ++ [x])) hI3 hM hB'
        rw [hrec] at h2
        exact ⟨_, V4, hend, .inr ⟨rfl, .ret, B', h1, h2, h3, h4⟩⟩
      | exit id =>
        obtain ⟨B', hI3, hM, hB'⟩ := hq
        obtain ⟨V4, hend, h1, h2, h3, h4, h5, h6⟩ := fin (some (.exit id)) B' _ (hIx (.exit id) (pre ++ [x])) hI3 hM hB'
        rw [hrec] at h2
        exact ⟨_, V4, hend, .inr ⟨rfl, .exit id, B', h1, h2, h3, h4⟩⟩
      | goto t =>
        obtain ⟨B', hI3, hM, hB'⟩ := hq
        obtain ⟨V4, hend, h1, h2, h3, h4, h5, h6⟩ := fin (some (.goto t)) B' _ (hIx (.goto t) (pre ++ [x])) hI3 hM hB'
        rw [hrec] at h2
        exact ⟨_, V4, hend, .inr ⟨rfl, .goto t, B', h1, h2, h3, h4⟩⟩
      | panic ch => exact hq.elim
      | outgrown => exact hq.elim
    | _ => exact hq.elim
  · have := (hB0 k hk).1
    exact ⟨by omega, by omega, Nat.lt_of_lt_of_le this hE1.size⟩
  · -- behind it
    rintro e V ⟨v, rfl, hq⟩
    have hact : ({ (fr fl A) with defers := [{ target := .collected D, args := #[] }] ++ (fr fl A).defers } : Act) = fr fl { tmps := A.tmps, defers := { target := .collected D, args := #[] } :: A.defers } := by
      rw [fr_defers]
      have := fr_mk fl A A.tmps ({ target := .collected D, args := #[] } :: A.defers) rfl
      rw [← this, ← fr_tmps]; rfl
    rcases hq with ⟨xs, B, hS, hi, hl', hD', hB⟩ | ⟨pre, c, B, hi, hl', hD', hB⟩
    · have hend := run_endLoop (P := P) hl' (by rw [hrec]; simp)
      refine ⟨none, _, by rw [hrec] at hend; exact hend, ?_⟩
      refine ⟨_, Ext.refl _, ?_⟩
      show Q .normal _ _
      rw [hact]
      refine hdone D xs B _ hwD (fun h => (hB D h).2.1 rfl) hS (hI xs B _ _ hi (Mod.mono (mod_putObj _ _ _) ?_)) ((World.putObj_heap_other (fun h => hlD h.symm)).trans hD')
      rintro k _ rfl
      exact ⟨fun h => (hB _ h).1 rfl, hwl⟩
    · have hend := run_endLoop (P := P) hl' (by rw [hrec]; simp)
      refine ⟨some c, _, by rw [hrec] at hend; exact hend, ?_⟩
      show Code.wpIn _ _ _ _ _ _ _
      rw [hact]
      refine (hstop D c pre B _ hwD (fun h => (hB D h).2.1 rfl) (hIx c pre B _ _ hi (Mod.mono (mod_putObj _ _ _) ?_)) ((World.putObj_heap_other (fun h => hlD h.symm)).trans hD')).get ⟨_, Ext.refl _⟩
      rintro k _ rfl
      exact ⟨fun h => (hB _ h).1 rfl, hwl⟩
theorem X_yield {ops : Array Oper} {o : Oper} {rest : List (Oper × Nat)} {l : Nat} {s : Operand} {la : List Operand} {ats : Array TypeId} {lv lv' : List Value} {R : Bool → World → Prop} {d : Nat}
    (hY : ∀ x : Later w, YieldW P l lv.toArray (w.later x) fun e W' => ∃ b, e = .returned (.bool b) ∧ R b W') (h : ∀ b W', R b W' → wpX P ops Q rest (fr ((d, .bool b) :: fl) A) W')
    (hop : o.op = .call { callee := .value s, args := la.toArray, argTypes := ats } := by rfl) (hd : o.dst = some d := by rfl) (hg : o.guard = none := by rfl)
    (hs : Is ((fr fl A).eval s) (.func (.yield l) #[] #[]) := by go_simp; exact Is.mk _) (hargs : Is (la.map (fr fl A).eval) lv' := by go_simp; exact Is.mk _) (hlv : lv' = lv := by rfl) : wpX P ops Q ((o, 2) :: rest) (fr fl A) w := by
  refine X_op (fun x => ?_) hg
  unfold OpW
  obtain ⟨fn, tmps, assign, body, hy, hR⟩ := hY x
  rw [run_yieldcall hop hs.eq, hargs.eq, hlv, hy]
  simp only [uponW]
  refine RoundIn.mono hR fun e w' hR' => ?_
  obtain ⟨b, rfl, hb⟩ := hR'
  exact ⟨w', Ext.refl _, by rw [hd, fr_put]; exact h b w' hb⟩
theorem after_one {D : Nat} (hd : A.defers = [{ target := .collected D, args := #[] }]) (hD : w.heap[D]? = some (.deferred (some []))) (l : List (Nat × Value)) : After (fr l A).defers w (w.putObj D (.deferred none)) := by
  rw [fr_defers, hd]; exact ⟨D, rfl, hD, rfl⟩
theorem Body_retm {fn : Func} {R : Res} {e : Exit} {t : Tmp} {v : Value} {l : List (Nat × Value)} {D : Nat} (hd : A.defers = [{ target := .collected D, args := #[] }]) (hD : w.heap[D]? = some (.deferred (some []))) (hR : R (.returned v) (w.putObj D (.deferred none))) (hr : fn.results = #[.tmp t] := by rfl) (he : e = .ret ∨ e = .normal := by first | exact .inl rfl | exact .inr rfl)
    (hv : Is ((fr l A).tmps.getD t undef) v := by go_simp; exact Is.mk _) : Body P fn R e (fr l A) w := by
  unfold Body
  rcases he with rfl | rfl <;> exact ⟨_, after_one hd hD l, v, fun x => by rw [results_tmp hr, hv.eq], hR⟩
theorem Body_retm0 {fn : Func} {R : Res} {e : Exit} {l : List (Nat × Value)} {D : Nat} (hd : A.defers = [{ target := .collected D, args := #[] }]) (hD : w.heap[D]? = some (.deferred (some []))) (hR : R (.returned (.tuple #[])) (w.putObj D (.deferred none))) (hr : fn.results = #[] := by rfl) (he : e = .ret ∨ e = .normal := by first | exact .inl rfl | exact .inr rfl) : Body P fn R e (fr l A) w := by
  unfold Body
  rcases he with rfl | rfl <;> exact ⟨_, after_one hd hD l, _, fun x => results_none hr _ _ _, hR⟩
theorem Ext.putNew {w W : World} (h : Ext w W) {D : Nat} (hD : w.heap.size ≤ D) (o : Obj) : Ext w (W.putObj D o) :=
  Mod.trans h (mod_putObj W D o) (fun _ _ h => h) (fun k hk e => by subst e; omega)
end
end Go.Ws
