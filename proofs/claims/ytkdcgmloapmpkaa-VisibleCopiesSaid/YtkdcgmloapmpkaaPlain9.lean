import Derived.Test.YtkdcgmloapmpkaaVisI
namespace Go.Ws
open Go Go.RowKit Go.Proofs
set_option linter.unusedVariables false

theorem wasM_behind {l : List Ent} (hk : ∀ x ∈ l, 1 ≤ x.kind) (e : Ent) : wasM l e = behindB l e := by
  unfold wasM behindB mkOf
  by_cases h0 : 0 ≤ e.id
  · rw [Bool.eq_iff_iff]
    simp only [h0, decide_true, Bool.true_and, List.any_eq_true, Bool.and_eq_true, beq_iff_eq, decide_eq_true_eq, Prod.mk.injEq]
    constructor
    · intro h
      split at h
      · rename_i hx
        obtain ⟨x, hx, h1, h2, h3⟩ := hx
        exact ⟨x, hx, ⟨h2, h3⟩, by have := hk x hx; omega⟩
      · cases h
    · rintro ⟨x, hx, ⟨h2, h3⟩, h1⟩
      rw [if_pos ⟨x, hx, by omega, h2, h3⟩]; rfl
  · simp [h0]
theorem goodFrom_ref : ∀ (es log : List Ent), ofNo log = 0 → goodFrom log es = (decide (ofFrom log es = 0) && (List.range es.length).all fun i => match es[i]? with | some e => !behindB (log ++ es.take i) e | none => true)
  | [], log, _ => by simp [goodFrom, ofFrom]
  | e :: es, log, h => by
    rw [goodFrom, ofFrom]
    have hk := kinds_of h
    by_cases ha : appendNo log e = 0
    · rw [if_pos ha]
      have hr : (List.range (e :: es).length).all (fun i => match (e :: es)[i]? with | some e' => !behindB (log ++ (e :: es).take i) e' | none => true) = (!behindB log e && (List.range es.length).all fun i => match es[i]? with | some e' => !behindB ((log ++ [e]) ++ es.take i) e' | none => true) := by
        rw [List.length_cons, List.range_succ_eq_map]
        simp [List.all_map, Function.comp_def]
      rw [hr, goodFrom_ref es (log ++ [e]) ((ofNo_snoc h).trans ha)]
      unfold pushNo
      rw [if_neg (by simp [ha]), wasM_behind hk]
      cases behindB log e <;> simp
    · rw [if_neg ha]
      unfold pushNo
      rw [if_pos ha]
      simp [ha]
theorem goodP_ref (l : List Ent) : goodP l = goodL l := by
  unfold goodP goodL goodTo
  rw [goodFrom_ref l [] rfl, rightL_of]
  rfl
end Go.Ws
