import Derived.Test.YtkdcgmloapmpkaaPlain8
namespace Go.Ws
open Go Go.RowKit Go.Proofs
set_option linter.unusedVariables false
set_option linter.unusedSimpArgs false

/-! ### The plain law of what is kept of an ID -/
def highB (l : List Ent) (i : Int) : Int := l.foldl (fun n e => if e.id = i then max n e.num else n) 0
def markB (l : List Ent) (i : Int) : Int := l.foldl (fun n e => if e.id = i ∧ 1 < e.kind then max n e.num else n) 0
def nextB (l : List Ent) (i num : Int) : Int := l.foldl (fun n e => if e.id = i ∧ e.num = num ∧ e.kind = 1 then max n (e.seq + 1) else n) 0
theorem gmax_eq (a b : Int) : gmax a b = max a b := by unfold gmax; rw [Int.max_def]; split <;> split <;> omega
theorem highB_snoc (l : List Ent) (e : Ent) (i : Int) : highB (l ++ [e]) i = if e.id = i then max (highB l i) e.num else highB l i := by simp [highB, List.foldl_append]
theorem markB_snoc (l : List Ent) (e : Ent) (i : Int) : markB (l ++ [e]) i = if e.id = i ∧ 1 < e.kind then max (markB l i) e.num else markB l i := by simp [markB, List.foldl_append]
theorem nextB_snoc (l : List Ent) (e : Ent) (i num : Int) : nextB (l ++ [e]) i num = if e.id = i ∧ e.num = num ∧ e.kind = 1 then max (nextB l i num) (e.seq + 1) else nextB l i num := by simp [nextB, List.foldl_append]
theorem wr_high (l : List Ent) (i : Int) : (wrOf l i).high = highB l i := by
  induction l using snocInd with
  | h0 => rfl
  | hs l e ih =>
    rw [wrOf_snoc, highB_snoc]
    by_cases hi : e.id = i
    · rw [if_pos hi, if_pos hi, ← ih, ← gmax_eq]
      unfold Wr.step
      split <;> rfl
    · rw [if_neg hi, if_neg hi, ih]
theorem wr_marked (l : List Ent) (i : Int) : (∀ e ∈ l, 1 ≤ e.kind) → (wrOf l i).marked = markB l i := by
  induction l using snocInd with
  | h0 => intro _; rfl
  | hs l e ih =>
    intro hk
    have ih := ih (fun x hx => hk x (by simp [hx]))
    have he := hk e (by simp)
    rw [wrOf_snoc, markB_snoc]
    by_cases hi : e.id = i
    · rw [if_pos hi]
      unfold Wr.step
      by_cases h1 : e.kind ≠ 1
      · rw [if_pos h1, if_pos ⟨hi, by omega⟩, ← ih, ← gmax_eq]
      · have h2 : ¬ (e.id = i ∧ 1 < e.kind) := fun h => by have := h.2; omega
        rw [if_neg h1, if_neg h2, ← ih]
    · rw [if_neg hi, if_neg (fun h => hi h.1), ih]
theorem wr_next (l : List Ent) (i num : Int) : ((wrOf l i).next num).getD 0 = nextB l i num := by
  induction l using snocInd with
  | h0 => rfl
  | hs l e ih =>
    rw [wrOf_snoc, nextB_snoc]
    by_cases hi : e.id = i
    · rw [if_pos hi]
      unfold Wr.step
      by_cases h1 : e.kind ≠ 1
      · rw [if_pos h1, if_neg (fun h => h1 h.2.2), ← ih]
      · rw [if_neg h1]
        simp only [upd]
        by_cases hn : num = e.num
        · subst hn
          rw [if_pos rfl, if_pos ⟨hi, rfl, by omega⟩, ← ih, ← gmax_eq]; rfl
        · rw [if_neg hn, if_neg (fun h => hn h.2.1.symm), ih]
    · rw [if_neg hi, if_neg (fun h => hi h.1), ih]
theorem nextB_nonneg (l : List Ent) (i num : Int) : 0 ≤ nextB l i num := by
  induction l using snocInd with
  | h0 => exact Int.le_refl _
  | hs l e ih => rw [nextB_snoc]; split <;> omega
theorem highB_nonneg (l : List Ent) (i : Int) : 0 ≤ highB l i := by
  induction l using snocInd with
  | h0 => exact Int.le_refl _
  | hs l e ih => rw [highB_snoc]; split <;> omega
/-- The open transactions stand in the order of their first data. -/
theorem opensTo_sorted (l : List Ent) (i : Int) (p : List Ent) : (opensTo l i 0 p []).Pairwise (fun a b => a.first < b.first) ∧ ∀ o ∈ opensTo l i 0 p [], o.first < p.length := by
  induction p using snocInd with
  | h0 => exact ⟨List.Pairwise.nil, fun o ho => by cases ho⟩
  | hs p e ih =>
    obtain ⟨ih1, ih2⟩ := ih
    rw [opensTo_snoc]
    have hl : (p ++ [e]).length = p.length + 1 := by simp
    have ih3 : ∀ o ∈ opensTo l i 0 p [], o.first < ((p ++ [e]).length : Int) := fun o ho => by have := ih2 o ho; omega
    unfold openStep
    split
    · exact ⟨ih1, ih3⟩
    · split
      · exact ⟨ih1, ih3⟩
      · refine ⟨List.pairwise_append.2 ⟨ih1, List.pairwise_singleton _ _, fun a ha b hb => ?_⟩, fun o ho => ?_⟩
        · rw [List.mem_singleton] at hb; subst hb; have := ih2 a ha; simp; omega
        · rcases List.mem_append.1 ho with ho | ho
          · exact ih3 o ho
          · rw [List.mem_singleton] at ho; subst ho; simp; omega
theorem opensB_sorted (l : List Ent) (i : Int) : (opensB l i).Pairwise (fun a b => a.first < b.first) := (opensTo_sorted l i l).1
theorem firstOf_inj {l : List Ent} {i a b f : Int} (ha : firstOf l i a = some f) (hb : firstOf l i b = some f) : a = b := by
  unfold firstOf at ha hb
  cases h1 : l.findIdx? (dataB i a) with
  | none => rw [h1] at ha; cases ha
  | some n =>
    cases h2 : l.findIdx? (dataB i b) with
    | none => rw [h2] at hb; cases hb
    | some m =>
      rw [h1] at ha; rw [h2] at hb
      simp only [Option.map_some, Option.some.injEq] at ha hb
      obtain rfl : n = m := by omega
      obtain ⟨hn, p1, -⟩ := List.findIdx?_eq_some_iff_getElem.1 h1
      obtain ⟨hm, p2, -⟩ := List.findIdx?_eq_some_iff_getElem.1 h2
      simp only [dataB, Bool.and_eq_true, beq_iff_eq] at p1 p2
      omega
theorem sorted_uniq {α : Type} {f : α → Int} : ∀ {xs ys : List α}, xs.Pairwise (fun a b => f a < f b) → ys.Pairwise (fun a b => f a < f b) → (∀ x, x ∈ xs ↔ x ∈ ys) → xs = ys
  | [], [], _, _, _ => rfl
  | [], y :: ys, _, _, h => by have := (h y).2 (by simp); cases this
  | x :: xs, [], _, _, h => by have := (h x).1 (by simp); cases this
  | x :: xs, y :: ys, h1, h2, h => by
    obtain ⟨a1, b1⟩ := List.pairwise_cons.1 h1
    obtain ⟨a2, b2⟩ := List.pairwise_cons.1 h2
    have hxy : x = y := by
      have m1 := (h x).1 (by simp)
      have m2 := (h y).2 (by simp)
      rcases List.mem_cons.1 m1 with e | m1
      · exact e
      · rcases List.mem_cons.1 m2 with e | m2
        · exact e.symm
        · have := a1 y m2; have := a2 x m1; omega
    subst hxy
    congr 1
    refine sorted_uniq b1 b2 fun z => ⟨fun hz => ?_, fun hz => ?_⟩
    · rcases List.mem_cons.1 ((h z).1 (by simp [hz])) with e | m
      · subst e; have := a1 z hz; omega
      · exact m
    · rcases List.mem_cons.1 ((h z).2 (by simp [hz])) with e | m
      · subst e; have := a2 z hz; omega
      · exact m
/-- Keys in the order of their values are the document's list. -/
theorem keys_sorted {l : List Ent} (hk : ∀ e ∈ l, 1 ≤ e.kind) (i : Int) {xs : List Int} (hnd : xs.Nodup) (hm : ∀ n, n ∈ xs ↔ ((wrOf l i).opens n).isSome = true)
    (hs : xs.Pairwise (fun a b => ((wrOf l i).opens a).getD 0 ≤ ((wrOf l i).opens b).getD 0)) : xs.map (fun n => (⟨n, ((wrOf l i).opens n).getD 0⟩ : Opn)) = opensB l i := by
  refine sorted_uniq (f := (·.first)) ?_ (opensB_sorted l i) ?_
  · rw [List.pairwise_map]
    have h2 := List.pairwise_and_iff.2 ⟨hs, hnd⟩
    refine List.Pairwise.imp_of_mem ?_ h2
    rintro a b ha hb ⟨h, hne⟩
    obtain ⟨f, hf⟩ := Option.isSome_iff_exists.1 ((hm a).1 ha)
    obtain ⟨g, hg⟩ := Option.isSome_iff_exists.1 ((hm b).1 hb)
    rw [hf, hg] at h ⊢
    simp only [Option.getD_some] at h ⊢
    have : f ≠ g := by
      rintro rfl
      have p1 := ((mem_opensB l i ⟨a, f⟩).1 ((opens_iff hk i a f).1 hf)).2
      have p2 := ((mem_opensB l i ⟨b, f⟩).1 ((opens_iff hk i b f).1 hg)).2
      exact hne (firstOf_inj p1 p2)
    omega
  · rintro ⟨num, f⟩
    rw [← opens_iff hk, List.mem_map]
    constructor
    · rintro ⟨a, ha, he⟩
      obtain ⟨g, hg⟩ := Option.isSome_iff_exists.1 ((hm a).1 ha)
      cases he
      rw [hg]; rfl
    · intro h
      exact ⟨num, (hm num).2 (by rw [h]; rfl), by rw [h]; rfl⟩
end Go.Ws
