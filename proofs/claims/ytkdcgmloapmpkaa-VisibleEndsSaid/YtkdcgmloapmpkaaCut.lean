import Derived.Test.YtkdcgmloapmpkaaBlk
namespace Go.Ws
open Go Go.RowKit
set_option linter.unusedVariables false
set_option linter.unusedSimpArgs false

theorem fr_self (N : Nat) : ∀ (ss : List Nat) (a : Act), fr (ss.zip (ss.map fun s => a.tmps.getD s undef)) a = a := by
  intro ss a
  have e : ∀ L : List (Nat × Value), fr L a = { tmps := tmpsOf L a.tmps, defers := a.defers } := fun L => by
    have h1 := fr_tmps L a
    have h2 := fr_defers L a
    generalize fr L a = b at *
    cases b; simp only at h1 h2; rw [h1, h2]
  rw [e]
  have : tmpsOf (ss.zip (ss.map fun s => a.tmps.getD s undef)) a.tmps = a.tmps := by
    induction ss with
    | nil => simp [tmpsOf]
    | cons s ss ih =>
      simp only [List.map_cons, List.zip_cons_cons, tmpsOf]
      rw [ih]
      apply Array.ext
      · simp
      · intro i h1 h2
        rw [Array.getElem_setIfInBounds]
        split
        · rename_i e; subst e; simp [h2]
        · rfl
  rw [this]
/-- The walk, cut behind a piece of code: what some slots hold there. -/
theorem W_cut {ρ : Option Nat} {P : Program} {Q : Post} {c : Code} {l : List (Nat × Value)} {A : Act} {w : World} {N : Nat} {ds : List Deferred} (ss : List Nat) (I : List Value → World → Prop) (hd : A.defers = ds) (hA : A.tmps.size = N) (hs : ∀ s ∈ ss, s < N)
    (h1 : Wp ρ P c (fun e a' w' => e = .normal ∧ ∃ (l' : List (Nat × Value)) (B' : Act), a' = fr l' B' ∧ B'.defers = ds ∧ B'.tmps.size = N ∧ I (ss.map fun s => lkp s l' B') w') (fr l A) w)
    (h2 : ∀ (vs : List Value) (B : Act) (w' : World), B.defers = ds → B.tmps.size = N → I vs w' → Q .normal (fr (ss.zip vs) B) w') : Wp ρ P c Q (fr l A) w := by
  refine W_mono h1 ?_
  rintro e a w' ⟨rfl, l', B', rfl, hd', hA', hI⟩
  have h := h2 _ (fr l' B') w' (by rw [fr_defers]; exact hd') (by rw [fr_tmps, size_tmpsOf]; exact hA') hI
  have hm : (ss.map fun s => lkp s l' B') = ss.map fun s => (fr l' B').tmps.getD s undef := List.map_congr_left fun s hs' => (fr_get l' B' s (by rw [hA']; exact hs s hs')).symm
  rw [hm, fr_self N] at h
  exact h
end Go.Ws
