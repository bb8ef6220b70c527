import Derived.Maps.RangeRun
import Derived.Test.YtkdcgmloapmpkaaIter
namespace Go.Ws
open Go Go.RowKit
set_option linter.unusedVariables false
set_option linter.unusedSimpArgs false

/-! ### Ranges over maps -/
theorem inj_of_nodup {α γ : Type} {g : α → γ} : ∀ {l : List α}, (l.map g).Nodup → ∀ {x y : α}, x ∈ l → y ∈ l → g x = g y → x = y
  | [], _, _, _, h, _, _ => by cases h
  | a :: l, hn, x, y, hx, hy, e => by
    rw [List.map_cons, List.nodup_cons] at hn
    rcases List.mem_cons.1 hx with h1 | h1
    · rcases List.mem_cons.1 hy with h2 | h2
      · rw [h1, h2]
      · exact absurd (List.mem_map.2 ⟨y, h2, by rw [← e, h1]⟩ : g a ∈ l.map g) hn.1
    · rcases List.mem_cons.1 hy with h2 | h2
      · exact absurd (List.mem_map.2 ⟨x, h1, by rw [e, h2]⟩ : g a ∈ l.map g) hn.1
      · exact inj_of_nodup hn.2 h1 h2 e
theorem nodup_of_map {α γ : Type} (g : α → γ) : ∀ {l : List α}, (l.map g).Nodup → l.Nodup
  | [], _ => List.nodup_nil
  | a :: l, hn => by
    rw [List.map_cons, List.nodup_cons] at hn
    exact List.nodup_cons.2 ⟨fun h => hn.1 (List.mem_map.2 ⟨a, h, rfl⟩), nodup_of_map g hn.2⟩
theorem nodup_len {α : Type} : ∀ {a b : List α}, a.Nodup → (∀ x ∈ a, x ∈ b) → a.length ≤ b.length
  | [], b, _, _ => Nat.zero_le _
  | x :: a, b, hn, h => by
    obtain ⟨s, t, rfl⟩ := List.append_of_mem (h x (by simp))
    have hn' := List.nodup_cons.1 hn
    have := nodup_len (b := s ++ t) hn'.2 (fun y hy => by
      have := h y (by simp [hy])
      rcases List.mem_append.1 this with h1 | h1
      · exact List.mem_append.2 (.inl h1)
      · rcases List.mem_cons.1 h1 with h2 | h2
        · exact absurd (h2 ▸ hy) hn'.1
        · exact List.mem_append.2 (.inr h2))
    simp at this ⊢; omega
section
variable {κ β : Type} {P : Program} {t kt et : TypeId} {kenc : κ → Value} {venc : β → Value} {w w' : World} {m r clock : Nat} {L pre : List (κ × β × Nat)}
/-- Amidst a range over map m: pre has come. -/
structure Going (kenc : κ → Value) (venc : β → Value) (w : World) (r m : Nat) (L : List (κ × β × Nat)) (clock : Nat) (pre : List (κ × β × Nat)) : Prop where
  map : MapL kenc venc w m L clock
  it : w.heap[r]? = some (.mapIter (some m) clock (pre.map (·.2.2)).toArray clock)
  sub : ∀ x ∈ pre, x ∈ L
  nd : pre.Nodup
theorem MapL.of_heap (h : MapL kenc venc w m L clock) (hb : w'.heap[m]? = w.heap[m]?) : MapL kenc venc w' m L clock := ⟨hb.trans h.heap, h.keys, h.borns, h.fresh⟩
theorem MapL.lt (h : MapL kenc venc w m L clock) : m < w.heap.size := (Array.getElem?_eq_some_iff.1 h.heap).1
theorem MapL.mod {F : Nat → Prop} (h : MapL kenc venc w m L clock) (hM : Mod F w w') (hm : ¬ F m) : MapL kenc venc w' m L clock := h.of_heap (hM.block m h.lt hm)
theorem MapL.later (h : MapL kenc venc w m L clock) (hE : Ext w w') : MapL kenc venc w' m L clock := h.mod hE (fun h => h)
theorem MapL.nodup (h : MapL kenc venc w m L clock) : L.Nodup := nodup_of_map _ h.keys
theorem Going.mod {F : Nat → Prop} (h : Going kenc venc w r m L clock pre) (hM : Mod F w w') (hr : ¬ F r) (hm : ¬ F m) : Going kenc venc w' r m L clock pre :=
  ⟨h.map.mod hM hm, (hM.block r (Array.getElem?_eq_some_iff.1 h.it).1 hr).trans h.it, h.sub, h.nd⟩
theorem Going.later (h : Going kenc venc w r m L clock pre) (hE : Ext w w') : Going kenc venc w' r m L clock pre := h.mod hE (fun h => h) (fun h => h)
theorem Going.lt (h : Going kenc venc w r m L clock pre) : r < w.heap.size := (Array.getElem?_eq_some_iff.1 h.it).1
theorem Going.full (h : Going kenc venc w r m L clock pre) (hall : ∀ x ∈ L, x ∈ pre) : pre.Perm L := (List.perm_ext_iff_of_nodup h.nd h.map.nodup).2 fun x => ⟨h.sub x, hall x⟩
theorem Going.len (h : Going kenc venc w r m L clock pre) : pre.length ≤ L.length := nodup_len h.nd h.sub
theorem Going.step (h : Going kenc venc w r m L clock pre) (ty : TypeId) :
    ((∀ x ∈ L, x ∈ pre) ∧ (Instr.next (.pointer (some ⟨r, 0, none⟩)) false ty).run P w = .ok (.tuple #[.bool false]) w) ∨
    ∃ x w1, x ∈ L ∧ x ∉ pre ∧ (Instr.next (.pointer (some ⟨r, 0, none⟩)) false ty).run P w = .ok (.tuple #[.bool true, kenc x.1, venc x.2.1]) w1 ∧ Mod (· = r) w w1 ∧ Going kenc venc w1 r m L clock (pre ++ [x]) := by
  have hmem : ∀ x ∈ L, ¬ (x.2.2 ∈ pre.map (·.2.2)) ↔ x ∉ pre := fun x hx => by
    constructor
    · exact fun hn hp => hn (List.mem_map.2 ⟨x, hp, rfl⟩)
    · intro hn hp
      obtain ⟨y, hy, e⟩ := List.mem_map.1 hp
      have := inj_of_nodup h.map.borns (h.sub y hy) hx e
      exact hn (this ▸ hy)
  have hrm : r ≠ m := by
    rintro rfl
    have := h.it.symm.trans h.map.heap
    cases this
  rcases run_next_at (P := P) w ty r m clock clock (pre.map (·.2.2)).toArray (L.map (ment kenc venc)).toArray clock h.it h.map.heap (fun x hx => by
      simp only [List.toList_toArray, List.mem_map] at hx
      obtain ⟨y, hy, rfl⟩ := hx
      exact h.map.fresh y hy) (Nat.le_refl _) with ⟨h0, hr⟩ | ⟨e, he, w1, hw1, hr⟩
  · left
    refine ⟨fun x hx => ?_, hr⟩
    by_cases hp : x ∈ pre
    · exact hp
    · exfalso
      have : ment kenc venc x ∈ (leftOf (L.map (ment kenc venc)).toArray (pre.map (·.2.2)).toArray).toList := by
        unfold leftOf
        simp only [Array.toList_filter, List.toList_toArray, List.mem_filter]
        refine ⟨List.mem_map.2 ⟨x, hx, rfl⟩, ?_⟩
        simpa using (hmem x hx).2 hp
      rw [Array.eq_empty_of_size_eq_zero h0] at this
      simp at this
  · right
    unfold leftOf at he
    simp only [Array.toList_filter, List.toList_toArray, List.mem_filter] at he
    obtain ⟨he1, he2⟩ := he
    obtain ⟨x, hx, rfl⟩ := List.mem_map.1 he1
    have hxp : x ∉ pre := (hmem x hx).1 (by simpa using he2)
    have hE : Ext w w1 := by rcases hw1 with rfl | rfl; exact Ext.refl _; exact Ext.drew _
    have hM : Mod (· = r) w (w1.setObj r (.mapIter (some m) clock ((pre.map (·.2.2)).toArray.push x.2.2) clock)) := Mod.trans hE (mod_setObj _ _ _) (fun _ _ h => h.elim) (fun _ _ h => h)
    refine ⟨x, _, hx, hxp, hr, hM, h.map.mod hM (fun e => hrm e.symm), ?_, ?_, ?_⟩
    · have := heap_setObj_same w1 (b := r) (.mapIter (some m) clock ((pre.map (·.2.2)).toArray.push x.2.2) clock) (Nat.lt_of_lt_of_le h.lt hE.size)
      rw [show (pre ++ [x]).map (·.2.2) = pre.map (·.2.2) ++ [x.2.2] by simp, ← List.push_toArray]
      exact this
    · intro y hy
      rcases List.mem_append.1 hy with hy | hy
      · exact h.sub y hy
      · rw [List.mem_singleton.1 hy]; exact hx
    · rw [List.nodup_append]
      exact ⟨h.nd, by simp, fun a ha b hb e => hxp (by rw [List.mem_singleton.1 hb] at e; exact e ▸ ha)⟩
variable {Q : Post} {A : Act} {fl : List (Nat × Value)} {ops : Array Oper} {o : Oper}
theorem X_range {rest : List (Oper × Nat)} {x : Operand} {d : Nat} (hm : MapL kenc venc w m L clock) (ht : P.underlying t = some (.map kt et))
    (h : ∀ (y : Later w) r, w.heap.size ≤ r → Going kenc venc (w.later y) r m L clock [] → wpX P ops Q rest (fr ((d, .pointer (some ⟨r, 0, none⟩)) :: fl) A) (w.later y))
    (ho : o.op = .range t x := by rfl) (hd : o.dst = some d := by rfl) (hg : o.guard = none := by rfl) (hx : Is ((fr fl A).eval x) (.map (some m)) := by go_simp; exact Is.mk _) : wpX P ops Q ((o, 1) :: rest) (fr fl A) w := by
  refine X_s (fun X K hK => ?_) hd hg
  have hgo : Sem.run P (getObj m) (w.later X) = .ok (.map (L.map (ment kenc venc)).toArray clock) (w.later X) := by simp [getObj, Sem.run, (hm.later (w' := w.later X) X.2).heap]
  have hrun : (Instr.range t (.map (some m))).run P (w.later X) = .ok (.pointer (some ⟨(w.later X).heap.size, 0, none⟩)) ((w.later X).alloc (.mapIter (some m) clock #[] clock)) := by
    unfold Instr.range
    simp only [Sem.run_bind, run_underlying ht, Result.andThen_ok, hgo, Sem.run_pure, newObj, Sem.run, World.alloc_eq]
  unfold runV execOp
  simp only [ho, hx.eq, Sem.run_bind, hrun, Result.andThen_ok, Sem.run_pure]
  have hE : Ext (w.later X) ((w.later X).alloc (.mapIter (some m) clock #[] clock)) := Ext.alloc _ _
  refine hK _ _ hE (h ⟨_, Ext.trans X.2 hE⟩ _ X.2.size ⟨hm.later (Ext.trans X.2 hE), ?_, by simp, by simp⟩)
  exact heap_alloc_new _ _
theorem X_next {rest : List (Oper × Nat)} {x : Operand} {d : Nat} (hgo : Going kenc venc w r m L clock pre)
    (hno : (∀ x ∈ L, x ∈ pre) → wpX P ops Q rest (fr ((d, .tuple #[.bool false]) :: fl) A) w)
    (hyes : ∀ x W', x ∈ L → x ∉ pre → Mod (· = r) w W' → Going kenc venc W' r m L clock (pre ++ [x]) → wpX P ops Q rest (fr ((d, .tuple #[.bool true, kenc x.1, venc x.2.1]) :: fl) A) W')
    (ho : o.op = .next x false := by rfl) (hd : o.dst = some d := by rfl) (hg : o.guard = none := by rfl) (hx : Is ((fr fl A).eval x) (.pointer (some ⟨r, 0, none⟩)) := by go_simp; exact Is.mk _) : wpX P ops Q ((o, 2) :: rest) (fr fl A) w := by
  refine X_op (fun X => ?_) hg
  have hgo' : Going kenc venc (w.later X) r m L clock pre := hgo.later X.2
  unfold OpW execOp
  simp only [ho, hx.eq, Sem.run_bind]
  rcases hgo'.step (P := P) o.type with ⟨hall, hr⟩ | ⟨y, w1, hy, hyp, hr, hM, hG⟩
  · rw [hr]
    simp only [Result.andThen_ok, Sem.run_pure, uponW]
    exact ⟨w, X.2, by rw [hd, fr_put]; exact hno hall⟩
  · rw [hr]
    simp only [Result.andThen_ok, Sem.run_pure, uponW]
    exact ⟨w1, Ext.refl _, by rw [hd, fr_put]; exact hyes y w1 hy hyp (Mod.trans X.2 hM (fun _ _ h => h.elim) (fun _ _ h => h)) hG⟩
theorem X_entry {rest : List (Oper × Nat)} {x : Operand} {d : Nat} {y : κ × β × Nat} (hgo : Going kenc venc w r m L clock (pre ++ [y]))
    (h : wpX P ops Q rest (fr ((d, .tuple #[kenc y.1, venc y.2.1]) :: fl) A) w)
    (ho : o.op = .entry x := by rfl) (hd : o.dst = some d := by rfl) (hg : o.guard = none := by rfl) (hx : Is ((fr fl A).eval x) (.pointer (some ⟨r, 0, none⟩)) := by go_simp; exact Is.mk _) : wpX P ops Q ((o, 0) :: rest) (fr fl A) w := by
  refine X_q h hd hg (fun X => ?_)
  have hgo' : Going kenc venc (w.later X) r m L clock (pre ++ [y]) := hgo.later X.2
  have := run_entry_at (P := P) (w.later X) r m clock (pre.map (·.2.2)).toArray (L.map (ment kenc venc)).toArray clock (ment kenc venc y) (by rw [hgo'.it]; simp) hgo'.map.heap
    (by rw [List.toList_toArray]; exact List.mem_map.2 ⟨y, hgo.sub y (by simp), rfl⟩) (by simpa [Function.comp_def] using hgo.map.borns)
  unfold Oper.quietAt execOp
  simp only [ho, hx.eq, Sem.run_bind, this, Result.andThen_ok, Sem.run_pure, Oper.quietUpon]
  exact ⟨trivial, trivial⟩
end
end Go.Ws
