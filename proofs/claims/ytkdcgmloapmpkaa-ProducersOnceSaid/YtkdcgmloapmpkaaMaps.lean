import Derived.Test.YtkdcgmloapmpkaaBase
namespace Go.Ws
open Go Go.RowKit
set_option linter.unusedVariables false

/-! ### Maps as functions -/
section
variable {κ β : Type} [DecidableEq κ]

def posOf (k : κ) : List κ → Option Nat
  | [] => none
  | x :: xs => if x = k then some 0 else (posOf k xs).map (· + 1)
theorem posOf_none {k : κ} : ∀ {l : List κ}, posOf k l = none ↔ k ∉ l
  | [] => by simp [posOf]
  | x :: xs => by
    unfold posOf
    by_cases h : x = k
    · simp [h]
    · have ih := @posOf_none k xs
      rw [if_neg h, Option.map_eq_none_iff, ih]
      simp [Ne.symm h]

/-- How keys of a type behave. -/
structure Keys (P : Program) (kt : TypeId) (kenc : κ → Value) : Prop where
  check : ∀ (b : Bool) (k : κ) (w : World), (Instr.checkKey b 10000 kt (kenc k)).run P w = .ok () w
  find : ∀ (k : κ) (es : List MapEntry) (ks : List κ) (w : World), es.map (·.key) = ks.map kenc →
    (Instr.findKey kt (kenc k) es).run P w = .ok ((posOf k ks).bind fun i => (es[i]?).map fun e => (i, e.val)) w
  stays : ∀ (k : κ) (w : World), (Instr.keyThatStays (kenc k) (kenc k)).run P w = .ok (kenc k) w

abbrev ment (kenc : κ → Value) (venc : β → Value) (x : κ × β × Nat) : MapEntry := ⟨kenc x.1, venc x.2.1, x.2.2⟩

/-- The block's entries are these. -/
structure MapL (kenc : κ → Value) (venc : β → Value) (w : World) (b : Nat) (L : List (κ × β × Nat)) (clock : Nat) : Prop where
  heap : w.heap[b]? = some (.map (L.map (ment kenc venc)).toArray clock)
  keys : (L.map (·.1)).Nodup
  borns : (L.map (·.2.2)).Nodup
  fresh : ∀ x ∈ L, x.2.2 < clock

/-- What a list of entries tells of a key. -/
def look (L : List (κ × β × Nat)) (k : κ) : Option β := (L.find? (fun x => decide (x.1 = k))).map (·.2.1)

/-- Block b is a map that is this function. -/
def MapIs (kenc : κ → Value) (venc : β → Value) (w : World) (b : Nat) (f : κ → Option β) : Prop :=
  ∃ L clock, MapL kenc venc w b L clock ∧ ∀ k, f k = look L k

theorem MapIs.lt {kenc : κ → Value} {venc : β → Value} {w : World} {b : Nat} {f : κ → Option β} (h : MapIs kenc venc w b f) : b < w.heap.size := by
  obtain ⟨L, c, h, _⟩ := h
  exact (Array.getElem?_eq_some_iff.1 h.heap).1
theorem MapIs.of_heap {kenc : κ → Value} {venc : β → Value} {w w' : World} {b : Nat} {f : κ → Option β} (h : MapIs kenc venc w b f) (hb : w'.heap[b]? = w.heap[b]?) : MapIs kenc venc w' b f := by
  obtain ⟨L, c, h, hf⟩ := h
  exact ⟨L, c, ⟨by rw [hb]; exact h.heap, h.keys, h.borns, h.fresh⟩, hf⟩
theorem MapIs.congr {kenc : κ → Value} {venc : β → Value} {w : World} {b : Nat} {f g : κ → Option β} (h : MapIs kenc venc w b f) (hg : ∀ k, g k = f k) : MapIs kenc venc w b g := by
  obtain ⟨L, c, h, hf⟩ := h
  exact ⟨L, c, h, fun k => (hg k).trans (hf k)⟩
theorem MapIs.made (kenc : κ → Value) (venc : β → Value) (w : World) : MapIs kenc venc (w.alloc (.map #[] 0)) w.heap.size (fun _ => none) :=
  ⟨[], 0, ⟨heap_alloc_new w _, by simp, by simp, by simp⟩, fun k => rfl⟩

theorem look_pos {L : List (κ × β × Nat)} {k : κ} : look L k = (posOf k (L.map (·.1))).bind fun i => (L[i]?).map (·.2.1) := by
  induction L with
  | nil => rfl
  | cons x xs ih =>
    unfold look at *
    simp only [List.map_cons, posOf, List.find?_cons]
    by_cases h : x.1 = k
    · simp [h]
    · simp only [h, decide_false, if_false]
      rw [ih]
      cases posOf k (xs.map (·.1)) <;> simp
theorem posOf_get {k : κ} : ∀ {l : List κ} {i : Nat}, posOf k l = some i → l[i]? = some k
  | [], _, h => by simp [posOf] at h
  | x :: xs, i, h => by
    unfold posOf at h
    by_cases hx : x = k
    · rw [if_pos hx] at h; obtain rfl := Option.some.inj h; simp [hx]
    · rw [if_neg hx] at h
      cases hp : posOf k xs with
      | none => simp [hp] at h
      | some j => simp [hp] at h; subst h; simpa using posOf_get hp
theorem look_mem {L : List (κ × β × Nat)} {k : κ} {v : β} (h : look L k = some v) : ∃ n, (k, v, n) ∈ L := by
  unfold look at h
  cases hf : L.find? (fun x => decide (x.1 = k)) with
  | none => simp [hf] at h
  | some x =>
    simp [hf] at h
    have h1 := List.find?_some hf
    simp at h1
    exact ⟨x.2.2, by have := List.mem_of_find?_eq_some hf; obtain ⟨a, b, c⟩ := x; simp at h h1; subst h; subst h1; exact this⟩
theorem mem_look {L : List (κ × β × Nat)} (hn : (L.map (·.1)).Nodup) {k : κ} {v : β} {n : Nat} (h : (k, v, n) ∈ L) : look L k = some v := by
  induction L with
  | nil => cases h
  | cons x xs ih =>
    simp only [List.map_cons, List.nodup_cons] at hn
    unfold look
    simp only [List.find?_cons]
    rcases List.mem_cons.1 h with rfl | h'
    · simp
    · have hne : x.1 ≠ k := fun e => hn.1 (List.mem_map.2 ⟨_, h', e.symm⟩)
      simp only [hne, decide_false]
      exact ih hn.2 h'

variable {P : Program} {t kt et : TypeId} {kenc : κ → Value} {venc : β → Value} {w : World} {b : Nat} {f : κ → Option β}

omit [DecidableEq κ] in
theorem keys_map (L : List (κ × β × Nat)) : (L.map (ment kenc venc)).map (·.key) = (L.map (·.1)).map kenc := by simp

/-- m[k] -/
theorem MapIs.lookup (hK : Keys P kt kenc) (ht : P.underlying t = some (.map kt et)) {z : Value} (hz : (zeroValue et).run P w = .ok z w) (h : MapIs kenc venc w b f) (k : κ) (ok : Bool) :
    (Instr.lookup t (.map (some b)) (kenc k) ok).run P w = .ok (if ok then .tuple #[((f k).map venc).getD z, .bool (f k).isSome] else ((f k).map venc).getD z) w := by
  obtain ⟨L, c, h, hf⟩ := h
  have hfind := hK.find k (L.map (ment kenc venc)) (L.map (·.1)) w (keys_map L)
  have hgo : Sem.run P (getObj b) w = .ok (.map (L.map (ment kenc venc)).toArray c) w := by simp [getObj, Sem.run, h.heap]
  have hl : f k = (posOf k (L.map (·.1))).bind fun i => (L[i]?).map (·.2.1) := (hf k).trans look_pos
  unfold Instr.lookup
  simp only [Sem.run_bind, run_underlying ht, Result.andThen_ok, hgo, Sem.run_pure, hK.check, hfind]
  cases hp : posOf k (L.map (·.1)) with
  | none =>
    rw [hp] at hl
    simp only [Option.bind_none] at hl ⊢
    simp only [Sem.run_bind, hz, Result.andThen_ok, Sem.run_pure, hl]
    cases ok <;> rfl
  | some i =>
    have hi := posOf_get hp
    rw [List.getElem?_map] at hi
    cases hL : L[i]? with
    | none => simp [hL] at hi
    | some x =>
      rw [hp] at hl
      simp only [Option.bind_some, hL, Option.map_some] at hl
      simp only [Option.bind_some, List.getElem?_map, hL, Option.map_some, hl]
      cases ok <;> rfl

def upd (f : κ → Option β) (k : κ) (v : Option β) : κ → Option β := fun x => if x = k then v else f x

theorem modify_pos {k : κ} {v : β} : ∀ {L : List (κ × β × Nat)} {i : Nat}, (L.map (·.1)).Nodup → posOf k (L.map (·.1)) = some i →
    L.modify i (fun x => (x.1, v, x.2.2)) = L.map (fun x => if x.1 = k then (x.1, v, x.2.2) else x)
  | [], _, _, h => by simp [posOf] at h
  | x :: xs, i, hn, h => by
    simp only [List.map_cons, posOf] at h
    simp only [List.map_cons, List.nodup_cons] at hn
    by_cases hx : x.1 = k
    · rw [if_pos hx] at h
      obtain rfl := Option.some.inj h
      simp only [List.modify_zero_cons, List.map_cons, if_pos hx]
      congr 1
      conv => lhs; rw [← List.map_id xs]
      refine List.map_congr_left fun y hy => ?_
      have : y.1 ≠ k := fun e => hn.1 (List.mem_map.2 ⟨y, hy, e.trans hx.symm⟩)
      simp [this]
    · rw [if_neg hx] at h
      cases hp : posOf k (xs.map (·.1)) with
      | none => simp [hp] at h
      | some j =>
        simp [hp] at h
        subst h
        simp only [List.modify_succ_cons, List.map_cons, if_neg hx]
        rw [modify_pos hn.2 hp]
theorem erase_pos {k : κ} : ∀ {L : List (κ × β × Nat)} {i : Nat}, (L.map (·.1)).Nodup → posOf k (L.map (·.1)) = some i →
    L.eraseIdx i = L.filter (fun x => decide (x.1 ≠ k))
  | [], _, _, h => by simp [posOf] at h
  | x :: xs, i, hn, h => by
    simp only [List.map_cons, posOf] at h
    simp only [List.map_cons, List.nodup_cons] at hn
    by_cases hx : x.1 = k
    · rw [if_pos hx] at h
      obtain rfl := Option.some.inj h
      simp only [List.eraseIdx_zero, List.tail_cons, List.filter_cons, hx, ne_eq, not_true_eq_false, decide_false]
      symm
      simp only [Bool.false_eq_true, if_false]
      rw [List.filter_eq_self]
      intro y hy
      have : y.1 ≠ k := fun e => hn.1 (List.mem_map.2 ⟨y, hy, e.trans hx.symm⟩)
      simp [this]
    · rw [if_neg hx] at h
      cases hp : posOf k (xs.map (·.1)) with
      | none => simp [hp] at h
      | some j =>
        simp [hp] at h
        subst h
        simp only [List.eraseIdx_cons_succ, List.filter_cons, ne_eq, hx, not_false_eq_true, decide_true, if_true]
        rw [erase_pos hn.2 hp]

theorem map_eraseIdx {α γ : Type} (g : α → γ) : ∀ (l : List α) (i : Nat), (l.eraseIdx i).map g = (l.map g).eraseIdx i
  | [], _ => by simp
  | x :: xs, 0 => by simp
  | x :: xs, i + 1 => by simp [map_eraseIdx g xs i]
theorem look_upd {L : List (κ × β × Nat)} {k : κ} {v : β} (hk : k ∈ L.map (·.1)) (x : κ) : look (L.map (fun y => if y.1 = k then (y.1, v, y.2.2) else y)) x = upd (look L) k (some v) x := by
  induction L with
  | nil => simp at hk
  | cons y ys ih =>
    unfold look upd at *
    simp only [List.map_cons, List.find?_cons]
    by_cases hy : y.1 = k
    · rw [if_pos hy]
      by_cases hx : x = k
      · subst hx; simp [hy]
      · have : y.1 ≠ x := fun e => hx (e.symm.trans hy)
        simp only [this, decide_false, if_neg hx]
        by_cases hk' : k ∈ ys.map (·.1)
        · have := ih hk'; rw [if_neg hx] at this; exact this
        · have e : ys.map (fun y => if y.1 = k then (y.1, v, y.2.2) else y) = ys := by
            conv => rhs; rw [← List.map_id ys]
            refine List.map_congr_left fun z hz => ?_
            have : z.1 ≠ k := fun e => hk' (List.mem_map.2 ⟨z, hz, e⟩)
            simp [this]
          rw [e]
    · rw [if_neg hy]
      have hk' : k ∈ ys.map (·.1) := by
        rcases List.mem_cons.1 hk with h | h
        · exact absurd h.symm hy
        · exact h
      have ih' := ih hk'
      by_cases hx : y.1 = x
      · have hxk : x ≠ k := fun e => hy (hx.trans e)
        simp [hx, hxk]
      · simp only [hx, decide_false]
        exact ih'
theorem look_push {L : List (κ × β × Nat)} {k : κ} {v : β} {n : Nat} (hk : k ∉ L.map (·.1)) (x : κ) : look (L ++ [(k, v, n)]) x = upd (look L) k (some v) x := by
  unfold look upd
  rw [List.find?_append]
  by_cases hx : x = k
  · subst hx
    have : L.find? (fun y => decide (y.1 = x)) = none := List.find?_eq_none.2 fun y hy => by
      simp; exact fun e => hk (List.mem_map.2 ⟨y, hy, e⟩)
    simp [this]
  · have hne : ¬ k = x := fun e => hx e.symm
    simp [hx, hne]
theorem look_erase {L : List (κ × β × Nat)} {k : κ} (x : κ) : look (L.filter (fun y => decide (y.1 ≠ k))) x = upd (look L) k none x := by
  unfold look upd
  rw [List.find?_filter]
  by_cases hx : x = k
  · subst hx
    have : L.find? (fun a => decide (a.1 ≠ x) && decide (a.1 = x)) = none := List.find?_eq_none.2 fun y _ => by
      by_cases h : y.1 = x <;> simp [h]
    simp only [if_true]
    rw [show (fun a : κ × β × Nat => decide (decide (a.fst ≠ x) = true ∧ decide (a.fst = x) = true)) = (fun a => decide (a.1 ≠ x) && decide (a.1 = x)) from by funext a; by_cases h : a.1 = x <;> simp [h]]
    rw [this]; rfl
  · simp only [if_neg hx]
    rw [show (fun a : κ × β × Nat => decide (decide (a.fst ≠ k) = true ∧ decide (a.fst = x) = true)) = (fun a => decide (a.1 = x)) from by
      funext a; by_cases h : a.1 = x
      · have : a.1 ≠ k := fun e => hx (h.symm.trans e)
        simp [h]; exact hx
      · simp [h]]

def _root_.Go.World.setObj (w : World) (b : Nat) (o : Obj) : World := { w with heap := w.heap.setIfInBounds b o }
@[simp] theorem size_setObj (w : World) (b : Nat) (o : Obj) : (w.setObj b o).heap.size = w.heap.size := by simp [World.setObj]
theorem heap_setObj_ne (w : World) {b k : Nat} (o : Obj) (h : b ≠ k) : (w.setObj b o).heap[k]? = w.heap[k]? := by
  simp only [World.setObj]; exact Array.getElem?_setIfInBounds_ne h
theorem heap_setObj_same (w : World) {b : Nat} (o : Obj) (h : b < w.heap.size) : (w.setObj b o).heap[b]? = some o := by
  simp [World.setObj, h]
theorem mod_setObj (w : World) (b : Nat) (o : Obj) : Mod (· = b) w (w.setObj b o) :=
  ⟨rfl, rfl, rfl, by simp, fun k _ hk => heap_setObj_ne w o (fun e => hk e.symm)⟩

theorem run_getObj_map {es : Array MapEntry} {c : Nat} (h : w.heap[b]? = some (.map es c)) : Sem.run P (getObj b) w = .ok (.map es c) w := by simp [getObj, Sem.run, h]
theorem run_setObj_map {es : Array MapEntry} {c : Nat} (o : Obj) (h : w.heap[b]? = some (.map es c)) : Sem.run P (setObj b o) w = .ok () (w.setObj b o) := by simp [setObj, Sem.run, h, World.setObj]

/-- m[k] = v -/
theorem MapIs.update (hK : Keys P kt kenc) (ht : P.underlying t = some (.map kt et)) (h : MapIs kenc venc w b f) (k : κ) (v : β) :
    ∃ o, (Instr.mapUpdate t (.map (some b)) (kenc k) (venc v)).run P w = .ok () (w.setObj b o) ∧ MapIs kenc venc (w.setObj b o) b (upd f k (some v)) := by
  have hlt := h.lt
  obtain ⟨L, c, h, hf⟩ := h
  have hfind := hK.find k (L.map (ment kenc venc)) (L.map (·.1)) w (keys_map L)
  have hgo := run_getObj_map (P := P) h.heap
  unfold Instr.mapUpdate
  simp only [Sem.run_bind, run_underlying ht, Result.andThen_ok, hgo, hK.check, hfind]
  cases hp : posOf k (L.map (·.1)) with
  | none =>
    have hk : k ∉ L.map (·.1) := posOf_none.1 hp
    refine ⟨.map ((L.map (ment kenc venc)).toArray.push ⟨kenc k, venc v, c⟩) (c + 1), ?_, L ++ [(k, v, c)], c + 1, ⟨?_, ?_, ?_, ?_⟩, ?_⟩
    · simp only [Option.bind_none]; exact run_setObj_map _ h.heap
    · rw [heap_setObj_same _ _ hlt]; simp
    · rw [List.map_append]; simp only [List.map_cons, List.map_nil]
      rw [List.nodup_append]
      exact ⟨h.keys, by simp, fun x hx y hy => by simp at hy; subst hy; exact fun e => hk (e ▸ hx)⟩
    · rw [List.map_append]; simp only [List.map_cons, List.map_nil]
      rw [List.nodup_append]
      exact ⟨h.borns, by simp, fun x hx y hy => by
        simp at hy; subst hy
        obtain ⟨z, hz, rfl⟩ := List.mem_map.1 hx
        have := h.fresh z hz; omega⟩
    · intro x hx
      rcases List.mem_append.1 hx with hx | hx
      · have := h.fresh x hx; omega
      · simp at hx; subst hx; simp
    · intro x; rw [look_push hk]; unfold upd; split; · rfl
      · exact hf x
  | some i =>
    have hi := posOf_get hp
    rw [List.getElem?_map] at hi
    cases hL : L[i]? with
    | none => simp [hL] at hi
    | some x =>
      have hx : x.1 = k := by simpa [hL] using hi
      have hkm : k ∈ L.map (·.1) := List.mem_map.2 ⟨x, List.mem_of_getElem? hL, hx⟩
      simp only [Option.bind_some, List.getElem?_map, hL, Option.map_some, Sem.run_bind, List.getElem?_toArray, Option.getD_some, hx, hK.stays, Result.andThen_ok]
      refine ⟨_, run_setObj_map _ h.heap, L.map (fun y => if y.1 = k then (y.1, v, y.2.2) else y), c, ⟨?_, ?_, ?_, ?_⟩, ?_⟩
      · rw [heap_setObj_same _ _ hlt]
        congr 2
        apply Array.ext'
        simp only [List.modify_toArray]
        rw [← modify_pos h.keys hp]
        apply List.ext_getElem?
        intro j
        simp only [List.getElem?_modify, List.getElem?_map]
        by_cases hj : i = j
        · subst hj; simp [hL, hx]
        · simp [hj]
      · rw [List.map_map]
        have : L.map ((fun x => x.1) ∘ fun y => if y.1 = k then (y.1, v, y.2.2) else y) = L.map (·.1) := List.map_congr_left fun y _ => by
          simp only [Function.comp]; split <;> rfl
        rw [this]; exact h.keys
      · rw [List.map_map]
        have : L.map ((fun x => x.2.2) ∘ fun y => if y.1 = k then (y.1, v, y.2.2) else y) = L.map (·.2.2) := List.map_congr_left fun y _ => by
          simp only [Function.comp]; split <;> rfl
        rw [this]; exact h.borns
      · intro y hy
        obtain ⟨z, hz, rfl⟩ := List.mem_map.1 hy
        have := h.fresh z hz
        split <;> exact this
      · intro y; rw [look_upd hkm]; unfold upd; split; · rfl
        · exact hf y

/-- delete(m, k) -/
theorem MapIs.delete (hK : Keys P kt kenc) (ht : P.underlying t = some (.map kt et)) (h : MapIs kenc venc w b f) (k : κ) (ts : Array TypeId) (hts : ts[0]? = some t) (ty : TypeId) :
    ∃ o, (Builtin.delete_ ts ty #[.map (some b), kenc k]).run P w = .ok (.tuple #[]) (w.setObj b o) ∧ MapIs kenc venc (w.setObj b o) b (upd f k none) := by
  have hlt := h.lt
  obtain ⟨L, c, h, hf⟩ := h
  have hfind := hK.find k (L.map (ment kenc venc)) (L.map (·.1)) w (keys_map L)
  have hgo := run_getObj_map (P := P) h.heap
  unfold Builtin.delete_
  have a0 : (#[Value.map (some b), kenc k])[0]? = some (.map (some b)) := rfl
  have a1 : (#[Value.map (some b), kenc k])[1]? = some (kenc k) := rfl
  simp only [hts, a0, a1, Sem.run_bind, run_underlying ht, Result.andThen_ok, hgo, hK.check, hfind]
  cases hp : posOf k (L.map (·.1)) with
  | none =>
    have hk : k ∉ L.map (·.1) := posOf_none.1 hp
    simp only [Option.bind_none]
    refine ⟨.map (L.map (ment kenc venc)).toArray c, ?_, L, c, ⟨heap_setObj_same _ _ hlt, h.keys, h.borns, h.fresh⟩, ?_⟩
    · simp only [Sem.run_bind, run_setObj_map _ h.heap, Result.andThen_ok, Sem.run_pure]
    · intro x; unfold upd
      split
      · rename_i e; subst e
        rw [look_pos, hp]; rfl
      · exact hf x
  | some i =>
    have hi := posOf_get hp
    rw [List.getElem?_map] at hi
    cases hL : L[i]? with
    | none => simp [hL] at hi
    | some x =>
      simp only [Option.bind_some, List.getElem?_map, hL, Option.map_some]
      refine ⟨.map ((L.map (ment kenc venc)).toArray.eraseIdxIfInBounds i) c, ?_, L.filter (fun y => decide (y.1 ≠ k)), c, ⟨?_, ?_, ?_, ?_⟩, ?_⟩
      · simp only [Sem.run_bind, run_setObj_map _ h.heap, Result.andThen_ok, Sem.run_pure]
      · rw [heap_setObj_same _ _ hlt]
        congr 2
        apply Array.ext'
        have hilt : i < (L.map (ment kenc venc)).toArray.size := by simpa using (List.getElem?_eq_some_iff.1 hL).1
        simp only [Array.eraseIdxIfInBounds, hilt, dif_pos, Array.toList_eraseIdx]
        rw [← erase_pos h.keys hp]
        exact (map_eraseIdx _ _ _).symm
      · exact (List.filter_sublist.map _).nodup h.keys
      · exact (List.filter_sublist.map _).nodup h.borns
      · exact fun y hy => h.fresh y (List.mem_filter.1 hy).1
      · intro y; rw [look_erase]; unfold upd; split; · rfl
        · exact hf y
end

/-! ### Keys of the kind int64, and pairs of them -/
abbrev ki (n : Int) : Value := .int .i64 n

theorem findNow_ints (k : Int) : ∀ (es : List MapEntry) (ks : List Int) (i : Nat), es.map (·.key) = ks.map ki →
    Instr.findNow (.int .i64) (ki k) es i = some ((posOf k ks).bind fun j => (es[j]?).map fun e => (i + j, e.val))
  | [], [], _, _ => rfl
  | [], _ :: _, _, h => by simp at h
  | _ :: _, [], _, h => by simp at h
  | e :: es, x :: xs, i, h => by
    simp only [List.map_cons, List.cons.injEq] at h
    unfold Instr.findNow
    rw [h.1]
    by_cases hx : x = k
    · subst hx
      simp [Instr.sameNow, posOf]
    · have hb : (k == x) = false := by simp; exact fun e => hx e.symm
      simp only [Instr.sameNow, if_true, hb, posOf, if_neg hx]
      rw [findNow_ints k es xs (i + 1) h.2]
      cases posOf k xs with
      | none => rfl
      | some j => simp only [Option.bind_some, Option.map_some, List.getElem?_cons_succ, Nat.add_assoc, Nat.add_comm 1 j]

theorem ints_keys {P : Program} {kt : TypeId} (hk : P.underlying kt = some (.int .i64)) : Keys P kt ki where
  check b k w := by
    rw [show (10000 : Nat) = 9999 + 1 from rfl, Instr.checkKey]
    simp only [Sem.run_bind, run_underlying hk, Result.andThen_ok]
    rfl
  find k es ks w h := by
    unfold Instr.findKey
    simp only [Sem.run_bind, run_underlying hk, Result.andThen_ok]
    rw [findNow_ints k es ks 0 h]
    simp only [Nat.zero_add, Sem.run_pure]
  stays k w := by
    unfold Instr.keyThatStays
    rw [show Instr.sameBits 10000 (ki k) (ki k) = true from by simp [Instr.sameBits]]
    rfl

abbrev kp (p : Int × Int) : Value := .agg #[.int .i64 p.1, .int .i64 p.2]

theorem equalIn_int {P : Program} {e : TypeId} (he : P.underlying e = some (.int .i64)) (d : Nat) (a b : Int) (w : World) :
    (Op.equalIn (d + 1) e (.int .i64 a) (.int .i64 b)).run P w = .ok (a == b) w := by
  rw [Op.equalIn]
  simp only [Sem.run_bind, run_underlying he, Result.andThen_ok, if_true]
  rfl
theorem part_int {P : Program} {e : TypeId} (he : P.underlying e = some (.int .i64)) (cs : Array Value) (i : Nat) (v : Value) (w : World) (h : cs[i]? = some v) :
    (part e cs i).run P w = .ok v w := by
  simp [part, isAgg, run_underlying he, h]
theorem equal_pairs {P : Program} {kt e2 : TypeId} {i2 : TypeInfo} (hk : P.underlying kt = some (.array 2 e2)) (he : P.underlying e2 = some (.int .i64)) (hi : P.info? e2 = some i2) (hs : i2.size = 1) (p q : Int × Int) (w : World) :
    (Op.equal kt (kp p) (kp q)).run P w = .ok (decide (p = q)) w := by
  have hsz : ∀ w, (sizeOf e2).run P w = .ok 1 w := fun w => by simp [sizeOf, typeInfo, hi, hs]
  obtain ⟨a, b⟩ := p
  obtain ⟨c, d⟩ := q
  unfold Op.equal Op.maxDepth
  rw [show (10000 : Nat) = 9998 + 1 + 1 from rfl, Op.equalIn]
  have h0 := part_int (P := P) he #[.int .i64 a, .int .i64 b] 0 (.int .i64 a) w rfl
  have h1 := part_int (P := P) he #[.int .i64 a, .int .i64 b] 1 (.int .i64 b) w rfl
  have h2 := part_int (P := P) he #[.int .i64 c, .int .i64 d] 0 (.int .i64 c) w rfl
  have h3 := part_int (P := P) he #[.int .i64 c, .int .i64 d] 1 (.int .i64 d) w rfl
  have hr : List.range' 0 2 1 = [0, 1] := rfl
  have k1 : (Op.equalIn 9999 e2 (.int .i64 a) (.int .i64 c)).run P w = .ok (a == c) w := equalIn_int he 9998 a c w
  have k2 : (Op.equalIn 9999 e2 (.int .i64 b) (.int .i64 d)).run P w = .ok (b == d) w := equalIn_int he 9998 b d w
  by_cases e1 : a = c
  · subst e1
    by_cases e2 : b = d
    · subst e2
      simp [run_underlying hk, Std.Legacy.Range.forIn_eq_forIn_range', Std.Legacy.Range.size, hsz, hr, h0, h1, k1, k2]
    · simp [run_underlying hk, Std.Legacy.Range.forIn_eq_forIn_range', Std.Legacy.Range.size, hsz, hr, h0, h1, h2, h3, k1, k2, e2]
  · simp [run_underlying hk, Std.Legacy.Range.forIn_eq_forIn_range', Std.Legacy.Range.size, hsz, hr, h0, h2, k1, e1]

theorem findAsking_keys {P : Program} {kt : TypeId} {κ : Type} [DecidableEq κ] {kenc : κ → Value} (heq : ∀ (p q : κ) (w : World), (Op.equal kt (kenc p) (kenc q)).run P w = .ok (decide (p = q)) w) (k : κ) (w : World) :
    ∀ (es : List MapEntry) (ks : List κ) (i : Nat), es.map (·.key) = ks.map kenc →
    (Instr.findAsking kt (kenc k) es i).run P w = .ok ((posOf k ks).bind fun j => (es[j]?).map fun e => (i + j, e.val)) w
  | [], [], _, _ => rfl
  | [], _ :: _, _, h => by simp at h
  | _ :: _, [], _, h => by simp at h
  | e :: es, x :: xs, i, h => by
    simp only [List.map_cons, List.cons.injEq] at h
    unfold Instr.findAsking
    rw [h.1]
    simp only [Sem.run_bind, heq, Result.andThen_ok]
    by_cases hx : k = x
    · subst hx
      simp [posOf]
    · have hx' : ¬ x = k := fun e => hx e.symm
      simp only [hx, decide_false, Bool.false_eq_true, if_false, posOf, if_neg hx']
      rw [findAsking_keys heq k w es xs (i + 1) h.2]
      cases posOf k xs with
      | none => rfl
      | some j => simp only [Option.bind_some, Option.map_some, List.getElem?_cons_succ, Nat.add_assoc, Nat.add_comm 1 j]

theorem pairs_keys {P : Program} {kt e2 : TypeId} {i2 : TypeInfo} (hk : P.underlying kt = some (.array 2 e2)) (he : P.underlying e2 = some (.int .i64)) (hi : P.info? e2 = some i2) (hs : i2.size = 1) : Keys P kt kp where
  check b k w := by
    have hsz : ∀ w, (sizeOf e2).run P w = .ok 1 w := fun w => by simp [sizeOf, typeInfo, hi, hs]
    have hr : List.range' 0 2 1 = [0, 1] := rfl
    obtain ⟨a, c⟩ := k
    have h0 := part_int (P := P) he #[.int .i64 a, .int .i64 c] 0 (.int .i64 a) w rfl
    have h1 := part_int (P := P) he #[.int .i64 a, .int .i64 c] 1 (.int .i64 c) w rfl
    have hc : ∀ (v : Int), (Instr.checkKey b 9999 e2 (.int .i64 v)).run P w = .ok () w := fun v => by
      rw [show (9999 : Nat) = 9998 + 1 from rfl, Instr.checkKey]
      simp only [Sem.run_bind, run_underlying he, Result.andThen_ok]
      rfl
    rw [show (10000 : Nat) = 9999 + 1 from rfl, Instr.checkKey]
    simp [run_underlying hk, Std.Legacy.Range.forIn_eq_forIn_range', Std.Legacy.Range.size, hsz, hr, h0, h1, hc]
  find k es ks w h := by
    unfold Instr.findKey
    simp only [Sem.run_bind, run_underlying hk, Result.andThen_ok]
    cases es with
    | nil =>
      cases ks with
      | nil => rfl
      | cons x xs => simp at h
    | cons e es =>
      cases ks with
      | nil => simp at h
      | cons x xs =>
        have hn : Instr.findNow (.array 2 e2) (kp k) (e :: es) 0 = none := by
          unfold Instr.findNow
          simp [Instr.sameNow]
        rw [hn]
        simp only
        rw [findAsking_keys (fun p q w => equal_pairs hk he hi hs p q w) k w (e :: es) (x :: xs) 0 h]
        simp only [Nat.zero_add]
  stays k w := by
    unfold Instr.keyThatStays
    rw [show Instr.sameBits 10000 (kp k) (kp k) = true from by
      rw [show (10000 : Nat) = 9999 + 1 from rfl]; simp [Instr.sameBits]]
    rfl
end Go.Ws
