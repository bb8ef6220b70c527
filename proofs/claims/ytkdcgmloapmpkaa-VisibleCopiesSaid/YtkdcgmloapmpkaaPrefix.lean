import Derived.Test.YtkdcgmloapmpkaaPlain9
namespace Go.Ws
open Go Go.RowKit Go.Proofs
set_option linter.unusedVariables false

theorem stTo_le (l : List Ent) : ∀ k : Nat, stTo l k ≤ l.length ∧ ∀ i : Nat, i < k → ∀ o ∈ opensB l i, stTo l k ≤ o.first
  | 0 => ⟨by simp [stTo], fun i hi => by omega⟩
  | k + 1 => by
    obtain ⟨h1, h2⟩ := stTo_le l k
    have h := foldl_min_le ((opensB l k).map (·.first)) (stTo l k)
    rw [stTo, minF_eq]
    refine ⟨Int.le_trans h.1 h1, fun i hi o ho => ?_⟩
    by_cases hik : i = k
    · subst hik; exact h.2 _ (List.mem_map.2 ⟨o, ho, rfl⟩)
    · exact Int.le_trans h.1 (h2 i (by omega) o ho)
theorem stTo_mem (l : List Ent) : ∀ k : Nat, stTo l k = l.length ∨ ∃ i : Nat, i < k ∧ ∃ o ∈ opensB l i, stTo l k = o.first
  | 0 => .inl (by simp [stTo])
  | k + 1 => by
    rw [stTo, minF_eq]
    rcases foldl_min_mem ((opensB l k).map (·.first)) (stTo l k) with h | h
    · rw [h]
      rcases stTo_mem l k with h1 | ⟨i, hi, o, ho, h1⟩
      · exact .inl h1
      · exact .inr ⟨i, by omega, o, ho, h1⟩
    · obtain ⟨o, ho, e⟩ := List.mem_map.1 h
      exact .inr ⟨k, by omega, o, ho, e.symm⟩
theorem firstOf_get {l : List Ent} {i num f : Int} (h : firstOf l i num = some f) : ∃ n : Nat, f = n ∧ ∃ e, l[n]? = some e ∧ dataB i num e = true ∧ ∀ j < n, ∀ x, l[j]? = some x → dataB i num x = false := by
  unfold firstOf at h
  cases hx : l.findIdx? (dataB i num) with
  | none => rw [hx] at h; cases h
  | some n =>
    rw [hx] at h
    simp at h
    obtain ⟨hn, h1, h2⟩ := List.findIdx?_eq_some_iff_getElem.1 hx
    refine ⟨n, h.symm, l[n], by simp [hn], h1, fun j hj x hxj => ?_⟩
    have := h2 j hj
    rw [List.getElem?_eq_getElem (by omega)] at hxj
    cases hxj
    simpa using this
theorem firstOf_of {l : List Ent} {i num : Int} {k : Nat} {e : Ent} (h : l[k]? = some e) (hd : dataB i num e = true) : ∃ n : Nat, n ≤ k ∧ firstOf l i num = some n := by
  have hk : k < l.length := (List.getElem?_eq_some_iff.1 h).1
  cases hx : l.findIdx? (dataB i num) with
  | none =>
    have := List.findIdx?_eq_none_iff.1 hx e (List.mem_of_getElem? h)
    rw [hd] at this; cases this
  | some n =>
    refine ⟨n, ?_, by unfold firstOf; rw [hx]; rfl⟩
    obtain ⟨hn, h1, h2⟩ := List.findIdx?_eq_some_iff_getElem.1 hx
    rcases Nat.lt_or_ge k n with h3 | h3
    · have := h2 k h3
      rw [List.getElem?_eq_getElem hk] at h
      cases h
      rw [hd] at this; exact absurd rfl this
    · exact h3
theorem marked_take {l : List Ent} {i num : Int} {m n : Nat} (hmn : m ≤ n) (h : markedB (l.take m) i num = true) : markedB (l.take n) i num = true := by
  unfold markedB at *
  rw [List.any_eq_true] at *
  obtain ⟨x, hx, h⟩ := h
  exact ⟨x, (List.take_subset_take_left l hmn) hx, h⟩
/-- What is stable stays so. -/
theorem stable_mono (l : List Ent) {m n : Nat} (hmn : m ≤ n) : stableB (l.take m) ≤ stableB (l.take n) := by
  rcases stTo_mem (l.take n) 4 with h | ⟨i, hi, o, ho, h⟩
  · have := (stTo_le (l.take m) 4).1
    unfold stableB
    rw [h]
    simp at this ⊢; omega
  · obtain ⟨hm, hf⟩ := (mem_opensB _ _ _).1 ho
    obtain ⟨f, hff, e, he, hd, hbefore⟩ := firstOf_get hf
    unfold stableB
    rw [h, hff]
    rcases Nat.lt_or_ge f m with hfm | hfm
    · have he' : (l.take m)[f]? = some e := by
        rw [List.getElem?_take] at he ⊢
        split at he
        · rw [if_pos hfm]; exact he
        · cases he
      have hm' : markedB (l.take m) i o.num = false := by
        cases hx : markedB (l.take m) i o.num with
        | false => rfl
        | true => rw [marked_take hmn hx] at hm; cases hm
      obtain ⟨g, hgf, hg⟩ := firstOf_of he' hd
      have := (stTo_le (l.take m) 4).2 i hi ⟨o.num, g⟩ ((mem_opensB _ _ _).2 ⟨hm', hg⟩)
      simp at this
      omega
    · have := (stTo_le (l.take m) 4).1
      simp at this
      omega
/-- A stable entry's transaction was marked. -/
theorem stable_marked {l : List Ent} (hok : ofNo l = 0) {k : Nat} {e : Ent} (hk : (k : Int) < stableB l) (he : l[k]? = some e) (h1 : e.kind = 1) (h0 : 0 ≤ e.id) : markedB l e.id e.num = true := by
  cases hx : markedB l e.id e.num with
  | true => rfl
  | false =>
    exfalso
    have hr := right_bounds (of_right l [] hok e (List.mem_of_getElem? he))
    obtain ⟨g, hgk, hg⟩ := firstOf_of (i := e.id) (num := e.num) he (by simp [dataB, h1])
    have := (stTo_le l 4).2 e.id.toNat (by omega) ⟨e.num, g⟩ ((mem_opensB _ _ _).2 ⟨by rw [show ((e.id.toNat : Nat) : Int) = e.id by omega]; exact hx, by rw [show ((e.id.toNat : Nat) : Int) = e.id by omega]; exact hg⟩)
    unfold stableB at hk
    simp at this
    omega
theorem goodP_parts {l : List Ent} (h : goodP l = true) : ofNo l = 0 ∧ ∀ (j : Nat) x, l[j]? = some x → behindB (l.take j) x = false := by
  rw [goodP_ref] at h
  unfold goodL at h
  rw [Bool.and_eq_true] at h
  refine ⟨by have := h.1; rw [rightL_of] at this; simpa using this, fun j x hx => ?_⟩
  have hj : j < l.length := (List.getElem?_eq_some_iff.1 hx).1
  have := List.all_eq_true.1 (show goodTo l l.length = true from h.2) j (List.mem_range.2 hj)
  simp only [hx] at this
  simpa using this
theorem seen_same {l : List Ent} (h : goodP l = true) {m n k : Nat} (hmn : m ≤ n) {e : Ent} (hk : (k : Int) < stableB (l.take m)) (he : (l.take m)[k]? = some e) (h1 : e.kind = 1) : seenB (l.take m) e = seenB (l.take n) e := by
  obtain ⟨hok, hbe⟩ := goodP_parts h
  by_cases h0 : e.id < 0
  · simp [seenB, h0]
  have hm := stable_marked (ofNo_take hok m) hk he h1 (by omega)
  unfold seenB
  congr 1
  rw [Bool.eq_iff_iff, List.any_eq_true, List.any_eq_true]
  constructor
  · rintro ⟨x, hx, h⟩
    exact ⟨x, (List.take_subset_take_left l hmn) hx, h⟩
  · rintro ⟨x, hx, h⟩
    obtain ⟨j, hj⟩ := List.mem_iff_getElem?.1 hx
    have hj2 := hj
    rw [List.getElem?_take] at hj
    split at hj
    · rename_i hjn
      rcases Nat.lt_or_ge j m with hjm | hjm
      · exact ⟨x, List.mem_iff_getElem?.2 ⟨j, by rw [List.getElem?_take, if_pos hjm]; exact hj⟩, h⟩
      · exfalso
        have hb := hbe j x hj
        unfold markedB at hm
        rw [List.any_eq_true] at hm
        obtain ⟨y, hy, hy2⟩ := hm
        have : behindB (l.take j) x = true := by
          unfold behindB
          rw [List.any_eq_true]
          refine ⟨y, (List.take_subset_take_left l hjm) hy, ?_⟩
          simp only [Bool.and_eq_true, beq_iff_eq, decide_eq_true_eq] at h hy2 ⊢
          refine ⟨⟨⟨by omega, by omega⟩, by omega⟩, hy2.2⟩
        rw [this] at hb; cases hb
    · cases hj
theorem viewTo_add (p : List Ent) (i : Nat) : ∀ d, ∃ t, viewTo p (i + d) = viewTo p i ++ t
  | 0 => ⟨[], by simp⟩
  | d + 1 => by
    obtain ⟨t, ht⟩ := viewTo_add p i d
    cases hx : p[i + d]? with
    | none =>
      refine ⟨t, ?_⟩
      rw [← Nat.add_assoc, viewTo, hx]
      exact ht
    | some e =>
      rw [← Nat.add_assoc, viewTo_succ hx, ht]
      exact ⟨t ++ _, by rw [List.append_assoc]⟩
/-- Of a good log the view of fewer entries is a beginning of that of more. -/
theorem view_prefix {l : List Ent} (h : goodP l = true) {m n : Nat} (hmn : m ≤ n) : ∃ t, viewL (l.take n) = viewL (l.take m) ++ t := by
  have hs := stable_mono l hmn
  have h0 := stableB_nonneg (l.take m)
  have hle := stableB_le (l.take m)
  have same : ∀ i : Nat, (i : Int) ≤ stableB (l.take m) → viewTo (l.take n) i = viewTo (l.take m) i := by
    intro i
    induction i with
    | zero => intro _; rfl
    | succ i ih =>
      intro hi
      have hlt : i < (l.take m).length := by omega
      have hlm : i < m ∧ i < l.length := by simp at hlt; omega
      have he : (l.take m)[i]? = some l[i] := by rw [List.getElem?_take, if_pos hlm.1]; simp
      have he' : (l.take n)[i]? = some l[i] := by rw [List.getElem?_take, if_pos (by omega)]; simp
      rw [viewTo_succ he, viewTo_succ he', ih (by omega)]
      by_cases hk : l[i].kind = 1
      · rw [seen_same h hmn (by omega) he hk]
      · simp [hk]
  unfold viewL
  have e : (stableB (l.take n)).toNat = (stableB (l.take m)).toNat + ((stableB (l.take n)).toNat - (stableB (l.take m)).toNat) := by omega
  rw [e, ← same (stableB (l.take m)).toNat (by omega)]
  exact viewTo_add _ _ _
theorem mem_viewTo (p : List Ent) : ∀ (i : Nat) (x : Int), x ∈ viewTo p i ↔ ∃ k : Nat, x = k ∧ k < i ∧ ∃ e, p[k]? = some e ∧ e.kind = 1 ∧ seenB p e = true
  | 0, x => by simp [viewTo]
  | i + 1, x => by
    cases hx : p[i]? with
    | none =>
      rw [viewTo, hx]
      simp only
      rw [mem_viewTo p i x]
      constructor
      · rintro ⟨k, h1, h2, h⟩; exact ⟨k, h1, by omega, h⟩
      · rintro ⟨k, h1, h2, e, he, h⟩
        refine ⟨k, h1, ?_, e, he, h⟩
        rcases Nat.lt_or_ge k i with h3 | h3
        · exact h3
        · obtain rfl : k = i := by omega
          rw [hx] at he; cases he
    | some a =>
      rw [viewTo_succ hx, List.mem_append, mem_viewTo p i x]
      constructor
      · rintro (⟨k, h1, h2, h⟩ | h)
        · exact ⟨k, h1, by omega, h⟩
        · split at h
          · rename_i hc
            rw [Bool.and_eq_true, beq_iff_eq] at hc
            rw [List.mem_singleton] at h
            exact ⟨i, h, by omega, a, hx, hc.1, hc.2⟩
          · cases h
      · rintro ⟨k, h1, h2, e, he, h3, h4⟩
        rcases Nat.lt_or_ge k i with h5 | h5
        · exact .inl ⟨k, h1, h5, e, he, h3, h4⟩
        · obtain rfl : k = i := by omega
          rw [hx] at he; cases he
          right
          rw [if_pos (by rw [Bool.and_eq_true, beq_iff_eq]; exact ⟨h3, h4⟩), h1]
          simp
theorem viewTo_nodup (p : List Ent) : ∀ i : Nat, (viewTo p i).Nodup
  | 0 => by simp [viewTo]
  | i + 1 => by
    cases hx : p[i]? with
    | none => rw [viewTo, hx]; exact viewTo_nodup p i
    | some a =>
      rw [viewTo_succ hx, List.nodup_append]
      refine ⟨viewTo_nodup p i, by split <;> simp, fun x hx' y hy e => ?_⟩
      subst e
      split at hy
      · rw [List.mem_singleton] at hy
        obtain ⟨k, h1, h2, _⟩ := (mem_viewTo p i x).1 hx'
        omega
      · cases hy
end Go.Ws
