import Derived.Test.YtkdcgmloapmpkaaLawN
namespace Go.Ws
open Go Go.RowKit Go.Proofs
set_option maxHeartbeats 2000000
set_option maxRecDepth 100000
set_option linter.unusedVariables false
set_option linter.unusedSimpArgs false
set_option pp.deepTerms true
set_option pp.maxSteps 100000000

/-! ### The plain law: each once -/
def ck (l : List Ent) : Prop := ∀ (i : Nat) e, l[i]? = some e → checkNo (l.take i) e = 0
theorem ck_nil : ck [] := fun i e h => by simp at h
theorem ck_snoc {l : List Ent} {e : Ent} (h : ck l) (he : checkNo l e = 0) : ck (l ++ [e]) := by
  intro i x hx
  by_cases hi : i < l.length
  · rw [List.getElem?_append_left hi] at hx
    rw [List.take_append_of_le_length (by omega)]
    exact h i x hx
  · have hlt := (List.getElem?_eq_some_iff.1 hx).1
    have : i = l.length := by simp at hlt; omega
    subst this
    simp at hx
    subst hx
    simpa using he
theorem ck_take {l : List Ent} (h : ck l) (n : Nat) : ck (l.take n) := by
  intro i x hx
  have hlt := (List.getElem?_eq_some_iff.1 hx).1
  have hin : i < n := by simp at hlt; omega
  rw [List.getElem?_take_of_lt hin] at hx
  rw [List.take_take, Nat.min_eq_left (by omega)]
  exact h i x hx
theorem nums_mark (l : List Ent) (i : Int) : ∀ e ∈ l, e.id = i → 1 < e.kind → e.num ≤ markB l i := by
  induction l using snocInd with
  | h0 => intro e he; cases he
  | hs l x ih =>
    intro e he hi hk
    rw [markB_snoc]
    rcases List.mem_append.1 he with he | he
    · have := ih e he hi hk
      split <;> omega
    · rw [List.mem_singleton] at he; subst he; rw [if_pos ⟨hi, hk⟩]; omega
theorem check_facts {l : List Ent} {e : Ent} (h : checkNo l e = 0) (hid : 0 ≤ e.id) : appendNo l e = 0 ∧ markB l e.id < e.num ∧ highB l e.id ≤ e.num ∧ otherB (opensB l e.id) e.num = false ∧ (¬ 1 < e.kind → e.seq = nextB l e.id e.num) := by
  have hno := check_append h
  refine ⟨hno, ?_⟩
  have hw : wrNo (highB l e.id) (nextB l e.id (highB l e.id)) (markB l e.id) (otherB (opensB l e.id) e.num) e = 0 := by
    unfold checkNo at h
    rwa [if_neg (by simpa using hno), if_neg (by omega)] at h
  have hab : e.num ≠ highB l e.id → ¬ e.num < highB l e.id → nextB l e.id e.num = 0 := fun h1 h2 => nextB_above l e.id e.num fun x hx hxi => by have := nums_high l e.id x hx hxi; omega
  rcases wrNo_cases hw with ⟨_, _, h⟩ | ⟨_, _, _, h⟩ | ⟨_, _, _, _, h⟩ | ⟨h1, h2, h3, h4, _⟩ | ⟨_, _, h⟩ | ⟨_, _, _, h⟩ | ⟨_, _, _, _, h⟩ | ⟨_, _, _, _, _, _, h⟩ | ⟨_, _, _, _, _, _, _, h⟩ | ⟨h1, h2, h3, h4, h5, h6, h7, _⟩ | ⟨_, _, _, _, _, _, h⟩ | ⟨_, _, _, _, _, _, _, h⟩ | ⟨h1, h2, h3, h4, h5, h6, h7, _⟩
  all_goals first
    | exact absurd h (by decide)
    | exact ⟨by omega, by omega, h4, fun h => absurd h1 h⟩
    | exact ⟨by omega, by omega, h4, fun _ => by rw [← h5] at h6 h7; rw [← h5] at *; omega⟩
    | exact ⟨by omega, by omega, h4, fun _ => by rw [hab h5 h3]; omega⟩
/-- How many data of a transaction there are. -/
def cntB (l : List Ent) (i num : Int) : Nat := l.countP fun e => (e.id == i) && (e.num == num) && (e.kind == 1)
theorem cntB_snoc (l : List Ent) (e : Ent) (i num : Int) : cntB (l ++ [e]) i num = cntB l i num + if (e.id == i && e.num == num && e.kind == 1) = true then 1 else 0 := by
  unfold cntB; rw [List.countP_append, List.countP_singleton]
theorem ck_last {l : List Ent} {e : Ent} (h : ck (l ++ [e])) : ck l ∧ checkNo l e = 0 := by
  constructor
  · have := ck_take h l.length
    simpa using this
  · have := h l.length e (by simp)
    simpa using this
theorem next_count (l : List Ent) : ck l → ∀ (i num : Int), 0 ≤ i → nextB l i num = cntB l i num := by
  induction l using snocInd with
  | h0 => intro _ i num _; rfl
  | hs l e ih =>
    intro hck i num hi
    obtain ⟨h1, h2⟩ := ck_last hck
    have ih := ih h1 i num hi
    rw [nextB_snoc, cntB_snoc]
    by_cases hc : e.id = i ∧ e.num = num ∧ e.kind = 1
    · obtain ⟨rfl, rfl, hk⟩ := hc
      obtain ⟨-, -, -, -, hs⟩ := check_facts h2 hi
      have hs := hs (by omega)
      rw [if_pos ⟨rfl, rfl, hk⟩, if_pos (by simp [hk])]
      omega
    · rw [if_neg hc, if_neg (by simpa [and_assoc] using hc), ih]; omega
theorem once_order {l : List Ent} (h : ck l) {i k : Nat} {x e : Ent} (hki : k < i) (hx : l[k]? = some x) (he : l[i]? = some e) (hid : x.id = e.id) (h0 : 0 ≤ e.id) : x.num ≤ e.num ∧ (x.num = e.num → ¬ 1 < x.kind) := by
  have hc := h i e he
  obtain ⟨-, hm, hh, -, -⟩ := check_facts hc h0
  have hmem : x ∈ l.take i := by
    refine List.mem_of_getElem? (i := k) ?_
    rw [List.getElem?_take_of_lt hki]; exact hx
  refine ⟨Int.le_trans (nums_high _ _ x hmem hid) hh, fun hn hk => ?_⟩
  have := nums_mark _ _ x hmem hid hk
  omega
theorem once_seq {l : List Ent} (h : ck l) {i : Nat} {e : Ent} (he : l[i]? = some e) (h0 : 0 ≤ e.id) (hk : ¬ 1 < e.kind) : e.seq = cntB (l.take i) e.id e.num := by
  obtain ⟨-, -, -, -, hs⟩ := check_facts (h i e he) h0
  rw [hs hk, next_count _ (ck_take h i) _ _ h0]
theorem once_open (l : List Ent) : ck l → ∀ i : Int, 0 ≤ i → ∃ n, ∀ o ∈ opensB l i, o.num = n := by
  induction l using snocInd with
  | h0 => intro _ i _; exact ⟨0, fun o ho => by cases ho⟩
  | hs l e ih =>
    intro hck i hi
    obtain ⟨h1, h2⟩ := ck_last hck
    obtain ⟨n, hn⟩ := ih h1 i hi
    have old : ∀ o, o ∈ opensB (l ++ [e]) i → (firstOf l i o.num).isSome = true → ∃ f, (⟨o.num, f⟩ : Opn) ∈ opensB l i := by
      intro o ho hf
      obtain ⟨hm, -⟩ := (mem_opensB _ _ _).1 ho
      rw [markedB_snoc] at hm
      obtain ⟨f, hf⟩ := Option.isSome_iff_exists.1 hf
      exact ⟨f, (mem_opensB l i _).2 ⟨by simpa using (Bool.or_eq_false_iff.1 hm).1, hf⟩⟩
    by_cases hc : e.id = i ∧ ¬ 1 < e.kind
    · obtain ⟨rfl, hk⟩ := hc
      obtain ⟨-, -, -, ho, -⟩ := check_facts h2 hi
      refine ⟨e.num, fun o hmem => ?_⟩
      by_cases hf : (firstOf l e.id o.num).isSome = true
      · obtain ⟨f, hf⟩ := old o hmem hf
        unfold otherB at ho
        rw [List.any_eq_false] at ho
        have := ho _ hf
        simpa using this
      · obtain ⟨-, h⟩ := (mem_opensB _ _ _).1 hmem
        rw [firstOf_snoc] at h
        cases hq : firstOf l e.id o.num with
        | some f => rw [hq] at hf; simp at hf
        | none =>
          rw [hq, Option.none_or] at h
          by_cases hp : dataB e.id o.num e = true
          · simp only [dataB, Bool.and_eq_true, beq_iff_eq] at hp; exact hp.2.symm
          · rw [if_neg hp] at h; cases h
    · refine ⟨n, fun o hmem => ?_⟩
      have hf : (firstOf l i o.num).isSome = true := by
        obtain ⟨-, h⟩ := (mem_opensB _ _ _).1 hmem
        rw [firstOf_snoc] at h
        cases hq : firstOf l i o.num with
        | some f => rfl
        | none =>
          rw [hq, Option.none_or] at h
          by_cases hp : dataB i o.num e = true
          · simp only [dataB, Bool.and_eq_true, beq_iff_eq] at hp
            exact absurd ⟨hp.1.1, by omega⟩ hc
          · rw [if_neg hp] at h; cases h
      obtain ⟨f, hf⟩ := old o hmem hf
      have := hn ⟨o.num, f⟩ hf
      exact this
theorem once_len {l : List Ent} (h : ck l) {i : Int} (hi : 0 ≤ i) : (opensB l i).length ≤ 1 := by
  obtain ⟨n, hn⟩ := once_open l h i hi
  have hs := opensB_sorted l i
  match hq : opensB l i with
  | [] => simp
  | [a] => simp
  | a :: b :: r =>
    exfalso
    rw [hq] at hs hn
    have ha := ((mem_opensB l i a).1 (by rw [hq]; simp)).2
    have hb := ((mem_opensB l i b).1 (by rw [hq]; simp)).2
    have h1 := hn a (by simp)
    have h2 := hn b (by simp)
    rw [h1] at ha
    rw [h2] at hb
    have : a.first < b.first := (List.pairwise_cons.1 hs).1 b (by simp)
    rw [ha] at hb
    have := Option.some.inj hb
    omega
end Go.Ws
