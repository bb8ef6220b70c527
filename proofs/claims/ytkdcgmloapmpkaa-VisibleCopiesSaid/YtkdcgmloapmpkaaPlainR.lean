import Derived.Test.YtkdcgmloapmpkaaRefR
namespace Go.Ws
open Go Go.RowKit Go.Proofs
set_option linter.unusedVariables false

theorem refNo_push {l : List Ent} (h : ofNo l = 0) (e : Ent) : refNo l e = pushNo l e := by
  unfold refNo pushNo
  rw [wasM_behind (kinds_of h)]
theorem refLog_push {l : List Ent} (h : ofNo l = 0) (e : Ent) : refLog l e = pushLog l e := by
  unfold refLog pushLog
  rw [refNo_push h]
theorem pushLog_good {l : List Ent} (h : goodP l = true) (e : Ent) : goodP (pushLog l e) = true := by
  unfold pushLog
  split
  · rename_i h0
    rw [goodP_snoc, h, h0]; rfl
  · exact h
theorem pushLog_len (l : List Ent) (e : Ent) : l.length ≤ (pushLog l e).length ∧ (pushLog l e).length ≤ l.length + 1 := by
  unfold pushLog
  split <;> simp
theorem pushLog_take {l : List Ent} (e : Ent) {m : Nat} (hm : m ≤ l.length) : (pushLog l e).take m = l.take m := by
  unfold pushLog
  split
  · rw [List.take_append_of_le_length hm]
  · rfl
/-- What a reader was told, and what it is told more. -/
theorem more_same {l : List Ent} (h : goodP l = true) {m n : Nat} (hmn : m ≤ n) : (viewL (l.take m)).length ≤ (viewL (l.take n)).length ∧ viewL (l.take m) ++ toMore l (viewL (l.take m)) n = viewL (l.take n) ∧ refMore l (viewL (l.take m)) n = toMore l (viewL (l.take m)) n := by
  obtain ⟨t, ht⟩ := view_prefix h hmn
  have hnd : (viewL (l.take n)).Nodup := viewTo_nodup _ _
  unfold toMore refMore
  simp only [Int.toNat_natCast]
  rw [ht] at hnd ⊢
  rw [List.nodup_append] at hnd
  refine ⟨by simp, by simp, ?_⟩
  rw [List.filter_append, List.drop_left]
  have h1 : (viewL (l.take m)).filter (fun x => !((viewL (l.take m)).any (· == x))) = [] := by
    rw [List.filter_eq_nil_iff]
    intro x hx
    simp only [Bool.not_eq_true', Bool.not_eq_false, List.any_eq_true, beq_iff_eq]
    exact ⟨x, hx, rfl⟩
  have h2 : t.filter (fun x => !((viewL (l.take m)).any (· == x))) = t := by
    rw [List.filter_eq_self]
    intro x hx
    rw [Bool.not_eq_true', List.any_eq_false]
    intro y hy e
    exact hnd.2.2 y hy x hx (by simpa using e)
  rw [h1, h2, List.nil_append]
theorem goodP_ok {l : List Ent} (h : goodP l = true) : ofNo l = 0 := (goodP_parts h).1
end Go.Ws
