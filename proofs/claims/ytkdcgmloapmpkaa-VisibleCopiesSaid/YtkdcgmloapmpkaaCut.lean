import Derived.Test.YtkdcgmloapmpkaaBlk
namespace Go.Ws
open Go Go.RowKit
set_option linter.unusedVariables false
set_option linter.unusedSimpArgs false

theorem fr_self (N : Nat) : ∀ (ss : List Nat) (a : Act), fr (ss.zip (ss.map fun s => a.tmps.getD s undef)) a = a := by
  intro ss a
  have e : ∀ L : List (Nat × Value), fr L a = { tmps := tmpsOf L a.tmps, defers := a.defers } := fun L => by
    have h1 := fr_tmps L a
    have h2 := fr_defers L a
    generalize fr L a = b at *
    cases b; simp only at h1 h2; rw [h1, h2]
  rw [e]
  have : tmpsOf (ss.zip (ss.map fun s => a.tmps.getD s undef)) a.tmps = a.tmps := by
    induction ss with
    | nil => simp [tmpsOf]
    | cons s ss ih =>
      simp only [List.map_cons, List.zip_cons_cons, tmpsOf]
      rw [ih]
      apply Array.ext
      · simp
      · intro i h1 h2
        rw [Array.getElem_setIfInBounds]
        split
        · rename_i e; subst e; simp [h2]
        · rfl
  rw [this]
/-- The walk, cut behind a piece of code: what some slots hold there. -/
theorem W_cut {ρ : Option Nat} {P : Program} {Q : Post} {c : Code} {l : List (Nat × Value)} {A : Act} {w : World} {N : Nat} {ds : List Deferred} (ss : List Nat) (I : List Value → World → Prop) (hd : A.defers = ds) (hA : A.tmps.size = N) (hs : ∀ s ∈ ss, s < N)
    (h1 : Wp ρ P c (fun e a' w' => e = .normal ∧ ∃ (l' : List (Nat × Value)) (B' : Act), a' = fr l' B' ∧ B'.defers = ds ∧ B'.tmps.size = N ∧ I (ss.map fun s => lkp s l' B') w') (fr l A) w)
    (h2 : ∀ (vs : List Value) (B : Act) (w' : World), B.defers = ds → B.tmps.size = N → I vs w' → Q .normal (fr (ss.zip vs) B) w') : Wp ρ P c Q (fr l A) w := by
  refine W_mono h1 ?_
  rintro e a w' ⟨rfl, l', B', rfl, hd', hA', hI⟩
  have h := h2 _ (fr l' B') w' (by rw [fr_defers]; exact hd') (by rw [fr_tmps, size_tmpsOf]; exact hA') hI
  have hm : (ss.map fun s => lkp s l' B') = ss.map fun s => (fr l' B').tmps.getD s undef := List.map_congr_left fun s hs' => (fr_get l' B' s (by rw [hA']; exact hs s hs')).symm
  rw [hm, fr_self N] at h
  exact h
section
variable {P : Program} {Q : Post} {A : Act} {fl : List (Nat × Value)} {ops : Array Oper} {o : Oper} {hs : List Nat} {f : Nat} {listed : Array Bool} {w : World} {b n : Nat} {E : TypeId} {g : Nat → Value}
/-- A store into a block, where more than one operation may come up. -/
theorem S_store {i : Nat} {x y : Operand} {t : TypeId} {off : Nat} {v : Value} (hb : Blk w b E n g)
    (h : ∀ W', Mod (· = b) w W' → Blk W' b E n (put g off v.cells.toList) → wpF P ops hs Q f (listed.setIfInBounds i true) (fr fl A) W') (hi' : ops[i]? = some o := by rfl) (hh : hs.contains i = true := by rfl)
    (ho : o.op = .store t x y := by rfl) (hd : o.dst = none := by rfl) (hg : o.guard = none := by rfl)
    (hx : Is ((fr fl A).eval x) (.pointer (some ⟨b, off, none⟩)) := by go_simp; exact Is.mk _) (hy : Is ((fr fl A).eval y) v := by go_simp; exact Is.mk _)
    (hi : (P.info? t).map (·.size) = some v.cells.size := by kernel_rfl) (hoff : off + v.cells.size ≤ n := by simp [Value.cells] <;> omega) (h1 : v.cells.all (·.oneCell') = true := by simp [Value.cells, Value.oneCell']) :
    stepF P ops hs Q f listed (fr fl A) w i := by
  refine S_w (fun X K hK => ?_) hi' hh hd hg
  obtain ⟨W', hr, hM, hB⟩ := run_store_blk (P := P) (w := w.later X) (hb.later X.2) t off v hi hoff h1
  unfold runV execOp
  simp only [ho, hx.eq, hy.eq, Sem.run_bind, hr, Result.andThen_ok, Sem.run_pure]
  exact hK undef W' (h W' (Mod.trans X.2 hM (fun _ _ h => h.elim) (fun _ _ h => h)) hB)
end
end Go.Ws
