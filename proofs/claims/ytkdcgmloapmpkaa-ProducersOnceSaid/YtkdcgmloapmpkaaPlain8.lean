import Derived.Test.YtkdcgmloapmpkaaTabT
namespace Go.Ws
open Go Go.RowKit Go.Proofs
set_option linter.unusedVariables false
set_option linter.unusedSimpArgs false

/-! ### The plain law of the producers' open transactions -/
theorem snocInd {α : Type} {C : List α → Prop} (h0 : C []) (hs : ∀ l a, C l → C (l ++ [a])) : ∀ l, C l := fun l => by
  have : ∀ r : List α, C r.reverse := by
    intro r
    induction r with
    | nil => exact h0
    | cons a r ih => rw [List.reverse_cons]; exact hs _ _ ih
  simpa using this l.reverse
def dataB (i num : Int) (e : Ent) : Bool := (e.id == i) && (e.kind == 1) && (e.num == num)
/-- Where a transaction's first data stand. -/
def firstOf (l : List Ent) (i num : Int) : Option Int := (l.findIdx? (dataB i num)).map (fun n : Nat => (n : Int))
theorem firstOf_snoc (l : List Ent) (e : Ent) (i num : Int) : firstOf (l ++ [e]) i num = (firstOf l i num).or (if dataB i num e = true then some (l.length : Int) else none) := by
  unfold firstOf
  rw [List.findIdx?_append]
  cases h : l.findIdx? (dataB i num) with
  | some n => simp
  | none =>
    by_cases hp : dataB i num e = true
    · simp [hp, List.findIdx?_cons]
    · simp [hp, List.findIdx?_cons]
theorem markedB_snoc (l : List Ent) (e : Ent) (i num : Int) : markedB (l ++ [e]) i num = (markedB l i num || ((e.id == i) && (e.num == num) && decide (1 < e.kind))) := by
  simp [markedB]
theorem wr_done (l : List Ent) (i : Int) : (∀ e ∈ l, 1 ≤ e.kind) → ∀ num, (wrOf l i).done num = if markedB l i num then some true else none := by
  induction l using snocInd with
  | h0 => intro _ num; rfl
  | hs l e ih =>
    intro hk num
    have ih := ih (fun x hx => hk x (by simp [hx])) num
    have he := hk e (by simp)
    rw [wrOf_snoc, markedB_snoc]
    by_cases hi : e.id = i
    · rw [if_pos hi]
      unfold Wr.step
      by_cases h1 : e.kind ≠ 1
      · rw [if_pos h1]
        simp only [upd]
        by_cases hn : num = e.num
        · subst hn
          have : 1 < e.kind := by omega
          simp [hi, this]
        · have : (e.num == num) = false := by simp; exact fun h => hn h.symm
          simp [hn, ih, this]
      · rw [if_neg h1]
        have : ¬ 1 < e.kind := by omega
        simp only [ih, this, decide_false, Bool.and_false, Bool.or_false]
    · rw [if_neg hi]
      have : (e.id == i) = false := by simpa using hi
      simp [this, ih]
theorem wr_opens (l : List Ent) (i : Int) : (∀ e ∈ l, 1 ≤ e.kind) → ∀ num, (wrOf l i).opens num = if markedB l i num then none else firstOf l i num := by
  induction l using snocInd with
  | h0 => intro _ num; rfl
  | hs l e ih =>
    intro hk num
    have hk' : ∀ x ∈ l, 1 ≤ x.kind := fun x hx => hk x (by simp [hx])
    have ih := ih hk'
    have hdn := wr_done l i hk'
    have he := hk e (by simp)
    rw [wrOf_snoc, markedB_snoc, firstOf_snoc]
    by_cases hi : e.id = i
    · rw [if_pos hi]
      unfold Wr.step
      by_cases h1 : e.kind ≠ 1
      · rw [if_pos h1]
        have hgt : 1 < e.kind := by omega
        have hf : dataB i num e = false := by simp [dataB, h1]
        simp only [upd]
        by_cases hn : num = e.num
        · subst hn; simp [hi, hgt]
        · have : (e.num == num) = false := by simp; exact fun h => hn h.symm
          simp [hn, ih, this, hf]
      · rw [if_neg h1]
        have hng : ¬ 1 < e.kind := by omega
        have hk1 : e.kind = 1 := by omega
        simp only [hng, decide_false, Bool.and_false, Bool.or_false]
        by_cases hc : (!((wrOf l i).opens e.num).isSome && !((wrOf l i).done e.num).getD false) = true
        · rw [if_pos hc]
          simp only [Bool.and_eq_true, Bool.not_eq_true'] at hc
          obtain ⟨hc1, hc2⟩ := hc
          have hnm : markedB l i e.num = false := by
            rw [hdn] at hc2
            cases hm : markedB l i e.num <;> simp [hm] at hc2 ⊢
          have hno : firstOf l i e.num = none := by
            rw [ih, hnm] at hc1
            simpa using hc1
          simp only [upd]
          by_cases hn : num = e.num
          · subst hn; simp [hnm, hno, dataB, hi, hk1]
          · have : (e.num == num) = false := by simp; exact fun h => hn h.symm
            simp [hn, ih, dataB, this]
        · rw [if_neg hc, ih]
          by_cases hn : num = e.num
          · subst hn
            cases hm : markedB l i e.num with
            | true => simp
            | false =>
              have : (firstOf l i e.num).isSome = true := by
                rw [ih, hdn, hm] at hc
                cases hq : firstOf l i e.num <;> simp [hq] at hc ⊢
              obtain ⟨n, hfn⟩ := Option.isSome_iff_exists.1 this
              simp [hfn]
          · have : (e.num == num) = false := by simp; exact fun h => hn h.symm
            simp [dataB, this]
    · rw [if_neg hi]
      have : (e.id == i) = false := by simpa using hi
      simp [this, ih, dataB]
/-- The document's open transactions. -/
theorem mem_opensTo (l : List Ent) (i : Int) (p : List Ent) : ∀ o, o ∈ opensTo l i 0 p [] ↔ markedB l i o.num = false ∧ firstOf p i o.num = some o.first := by
  induction p using snocInd with
  | h0 => intro o; simp [opensTo, firstOf]
  | hs p e ih =>
    intro o
    rw [opensTo_snoc, firstOf_snoc]
    unfold openStep
    have hany : ((opensTo l i 0 p []).any fun o => o.num == e.num) = true ↔ markedB l i e.num = false ∧ (firstOf p i e.num).isSome = true := by
      rw [List.any_eq_true]
      constructor
      · rintro ⟨x, hx, hn⟩
        have hn : x.num = e.num := by simpa using hn
        have := (ih x).1 hx
        rw [hn] at this
        exact ⟨this.1, by rw [this.2]; rfl⟩
      · rintro ⟨h1, h2⟩
        obtain ⟨f, hf⟩ := Option.isSome_iff_exists.1 h2
        exact ⟨⟨e.num, f⟩, (ih _).2 ⟨h1, hf⟩, by simp⟩
    by_cases hc : (e.id != i || e.kind != 1 || markedB l i e.num) = true
    · rw [if_pos hc, ih]
      by_cases hf : dataB i o.num e = true
      · have hm : markedB l i o.num = true := by
          simp only [dataB, Bool.and_eq_true, beq_iff_eq] at hf
          obtain ⟨⟨h1, h2⟩, h3⟩ := hf
          simpa [h1, h2, h3] using hc
        simp [hm]
      · simp [hf]
    · rw [if_neg hc]
      simp only [Bool.or_eq_true, bne_iff_ne, ne_eq, not_or, Decidable.not_not, Bool.not_eq_true] at hc
      obtain ⟨⟨h1, h2⟩, h3⟩ := hc
      by_cases ha : ((opensTo l i 0 p []).any fun o => o.num == e.num) = true
      · rw [if_pos ha, ih]
        obtain ⟨_, hs⟩ := hany.1 ha
        by_cases hn : o.num = e.num
        · rw [hn]
          obtain ⟨f, hf⟩ := Option.isSome_iff_exists.1 hs
          simp [hf]
        · have : dataB i o.num e = false := by simp [dataB]; intro _ _ h; exact absurd h.symm hn
          simp [this]
      · rw [if_neg ha, List.mem_append, ih, List.mem_singleton]
        have hnone : firstOf p i e.num = none := by
          cases hq : firstOf p i e.num with
          | none => rfl
          | some f => exact absurd (hany.2 ⟨h3, by rw [hq]; rfl⟩) ha
        by_cases hn : o.num = e.num
        · have hfb : dataB i o.num e = true := by simp [dataB, h1, h2, hn]
          rw [hfb]
          obtain ⟨on, of⟩ := o
          simp only at hn
          subst hn
          simp only [hnone, h3, if_true, Option.none_or, true_and, Option.some.injEq, Opn.mk.injEq]
          simp only [reduceCtorEq, false_or]
          constructor
          · intro h; omega
          · intro h; omega
        · have hfb : dataB i o.num e = false := by simp [dataB]; intro _ _ h; exact absurd h.symm hn
          have : o ≠ ⟨e.num, ((0 + p.length : Nat) : Int)⟩ := fun h => hn (by rw [h])
          rw [hfb]
          constructor
          · rintro (h | h)
            · simpa using h
            · exact absurd h this
          · intro h; left; simpa using h
theorem mem_opensB (l : List Ent) (i : Int) (o : Opn) : o ∈ opensB l i ↔ markedB l i o.num = false ∧ firstOf l i o.num = some o.first := mem_opensTo l i l o
theorem opens_iff {l : List Ent} (hk : ∀ e ∈ l, 1 ≤ e.kind) (i : Int) (num f : Int) : (wrOf l i).opens num = some f ↔ (⟨num, f⟩ : Opn) ∈ opensB l i := by
  rw [wr_opens l i hk, mem_opensB]
  cases hm : markedB l i num <;> simp
/-! ### Least of the same -/
theorem foldl_min_le (xs : List Int) : ∀ n : Int, xs.foldl min n ≤ n ∧ ∀ x ∈ xs, xs.foldl min n ≤ x := by
  induction xs with
  | nil => intro n; simp
  | cons x xs ih =>
    intro n
    simp only [List.foldl_cons, List.mem_cons]
    obtain ⟨h1, h2⟩ := ih (min n x)
    refine ⟨Int.le_trans h1 (Int.min_le_left _ _), ?_⟩
    rintro y (rfl | hy)
    · exact Int.le_trans h1 (Int.min_le_right _ _)
    · exact h2 y hy
theorem foldl_min_mem (xs : List Int) : ∀ n : Int, xs.foldl min n = n ∨ xs.foldl min n ∈ xs := by
  induction xs with
  | nil => intro n; simp
  | cons x xs ih =>
    intro n
    simp only [List.foldl_cons, List.mem_cons]
    rcases ih (min n x) with h | h
    · rw [h]
      by_cases h : n ≤ x
      · exact .inl (by rw [Int.min_def, if_pos h])
      · exact .inr (.inl (by rw [Int.min_def, if_neg h]))
    · exact .inr (.inr h)
theorem foldl_min_congr {xs ys : List Int} (n : Int) (h : ∀ x, x ∈ xs ↔ x ∈ ys) : xs.foldl min n = ys.foldl min n := by
  have key : ∀ (a b : List Int), (∀ x, x ∈ a ↔ x ∈ b) → a.foldl min n ≤ b.foldl min n := by
    intro a b h
    rcases foldl_min_mem b n with e | e
    · rw [e]; exact (foldl_min_le a n).1
    · exact (foldl_min_le a n).2 _ ((h _).2 e)
  exact Int.le_antisymm (key xs ys h) (key ys xs fun x => (h x).symm)
theorem minF_eq (n : Int) (os : List Opn) : minF n os = (os.map (·.first)).foldl min n := by
  unfold minF; rw [List.foldl_map]
end Go.Ws
