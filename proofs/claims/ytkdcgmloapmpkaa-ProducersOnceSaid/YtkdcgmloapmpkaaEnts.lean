import Derived.Test.YtkdcgmloapmpkaaWalk
namespace Go.Ws
open Go Go.RowKit
set_option linter.unusedVariables false

/-! ### Lists in memory -/
/-- An entry of a log. -/
structure Ent where
  ep : Int
  id : Int
  num : Int
  seq : Int
  kind : Int
  val : Int
  deriving DecidableEq, Inhabited
def Ent.cs (e : Ent) : List Value := [.int .i64 e.ep, .int .i64 e.id, .int .i64 e.num, .int .i64 e.seq, .int .i64 e.kind, .int .i64 e.val]
abbrev Ent.v (e : Ent) : Value := .agg #[.int .i64 e.ep, .int .i64 e.id, .int .i64 e.num, .int .i64 e.seq, .int .i64 e.kind, .int .i64 e.val]

/-- Cells of a block from an offset on, k an element, are these elements. -/
def RowAt {α : Type} (enc : α → List Value) (k : Nat) (w : World) (b o : Nat) (xs : List α) : Prop :=
  ∀ i x, xs[i]? = some x → ∀ j u, (enc x)[j]? = some u → w.cell? ⟨b, o + i * k + j, none⟩ = some u
/-- A slice value that reads as a list. -/
def Rd {α : Type} (enc : α → List Value) (k : Nat) (w : World) (v : Value) (xs : List α) : Prop :=
  ∃ A c, v = .slice A xs.length c ∧ xs.length ≤ c ∧ c ≤ maxLen ∧ ((A = none ∧ xs = []) ∨ ∃ b o, A = some ⟨b, o, none⟩ ∧ b < w.heap.size ∧ RowAt enc k w b o xs)

variable {α : Type} {enc : α → List Value} {k : Nat} {w w' : World} {v : Value} {xs : List α}
theorem RowAt.of_heap {b o : Nat} (h : RowAt enc k w b o xs) (hb : w'.heap[b]? = w.heap[b]?) : RowAt enc k w' b o xs :=
  fun i x hx j u hu => (World.cell?_of_block (a := ⟨b, o + i * k + j, none⟩) hb).trans (h i x hx j u hu)
theorem RowAt.later {b o : Nat} (h : RowAt enc k w b o xs) (hb : b < w.heap.size) (hE : Ext w w') : RowAt enc k w' b o xs :=
  h.of_heap (hE.block b hb (fun h => h))
theorem Rd.later (h : Rd enc k w v xs) (hE : Ext w w') : Rd enc k w' v xs := by
  obtain ⟨A, c, h1, h2, h3, h4⟩ := h
  refine ⟨A, c, h1, h2, h3, ?_⟩
  rcases h4 with h4 | ⟨b, o, e, hb, hr⟩
  · exact .inl h4
  · exact .inr ⟨b, o, e, Nat.lt_of_lt_of_le hb hE.size, hr.later hb hE⟩
theorem Rd.mod {F : Nat → Prop} (h : Rd enc k w v xs) (hM : Mod F w w') (hF : ∀ b, v.ownBlock = some b → ¬ F b) : Rd enc k w' v xs := by
  obtain ⟨A, c, rfl, h2, h3, h4⟩ := h
  refine ⟨A, c, rfl, h2, h3, ?_⟩
  rcases h4 with h4 | ⟨b, o, rfl, hb, hr⟩
  · exact .inl h4
  · exact .inr ⟨b, o, rfl, Nat.lt_of_lt_of_le hb hM.size, hr.of_heap (hM.block b hb (hF b rfl))⟩
theorem Rd.nil (w : World) : Rd enc k w (.slice none 0 0) ([] : List α) := ⟨none, 0, rfl, Nat.le_refl _, Nat.zero_le _, .inl ⟨rfl, rfl⟩⟩
theorem RowAt.take {b o : Nat} (h : RowAt enc k w b o xs) (n : Nat) : RowAt enc k w b o (xs.take n) := fun i x hx j u hu => by
  rw [List.getElem?_take] at hx
  split at hx
  · exact h i x hx j u hu
  · cases hx
theorem RowAt.drop {b o : Nat} (h : RowAt enc k w b o xs) (n : Nat) : RowAt enc k w b (o + n * k) (xs.drop n) := fun i x hx j u hu => by
  rw [List.getElem?_drop] at hx
  have := h (n + i) x hx j u hu
  rw [Nat.add_mul] at this
  rw [← this]; congr 2; omega

theorem Rd.take {A : Option Addr} {n c : Nat} (h : Rd enc k w (.slice A n c) xs) (m : Nat) (hm : m ≤ xs.length) : Rd enc k w (.slice A m c) (xs.take m) := by
  obtain ⟨A', c', h1, h2, h3, h4⟩ := h
  cases h1
  have hl : (xs.take m).length = m := by simp; omega
  refine ⟨A, c, by rw [hl], by rw [hl]; omega, h3, ?_⟩
  rcases h4 with ⟨h, h'⟩ | ⟨b, o, e, hb, hr⟩
  · exact .inl ⟨h, by simp [h']⟩
  · exact .inr ⟨b, o, e, hb, hr.take m⟩
theorem Rd.length {A : Option Addr} {n c : Nat} (h : Rd enc k w (.slice A n c) xs) : xs.length = n := by
  obtain ⟨A', c', h1, h2, h3, h4⟩ := h
  cases h1; rfl
/-- What is read of an entry of a list. -/
theorem Rd.ent {w : World} {v : Value} {l : List Ent} (h : Rd Ent.cs 6 w v l) : ∃ A c, v = .slice A l.length c ∧ l.length ≤ c ∧ c ≤ 9223372036854775807 ∧
    Hid (∀ i, i < l.length → ∃ e b o, Hid (l[i]? = some e) ∧ A = some ⟨b, o, none⟩ ∧ b < w.heap.size ∧ w.cell? ⟨b, o + i * 6, none⟩ = some (.int .i64 e.ep) ∧ w.cell? ⟨b, o + i * 6 + 1, none⟩ = some (.int .i64 e.id) ∧
      w.cell? ⟨b, o + i * 6 + 2, none⟩ = some (.int .i64 e.num) ∧ w.cell? ⟨b, o + i * 6 + 3, none⟩ = some (.int .i64 e.seq) ∧ w.cell? ⟨b, o + i * 6 + 4, none⟩ = some (.int .i64 e.kind) ∧ w.cell? ⟨b, o + i * 6 + 5, none⟩ = some (.int .i64 e.val)) := by
  obtain ⟨A, c, h1, h2, h3, h4⟩ := h
  refine ⟨A, c, h1, h2, h3, fun i hi => ?_⟩
  have he : l[i]? = some l[i] := by simp [hi]
  rcases h4 with ⟨_, rfl⟩ | ⟨b, o, hA, hb, hr⟩
  · simp at hi
  · exact ⟨l[i], b, o, he, hA, hb, hr i _ he 0 _ rfl, hr i _ he 1 _ rfl, hr i _ he 2 _ rfl, hr i _ he 3 _ rfl, hr i _ he 4 _ rfl, hr i _ he 5 _ rfl⟩
theorem take_snoc {α : Type} {l : List α} {k : Nat} {e : α} (h : l[k]? = some e) : l.take (k + 1) = l.take k ++ [e] := by
  rw [List.take_add_one, h]; rfl
theorem mem_of_get {α : Type} {l : List α} {k : Nat} {e : α} (h : l[k]? = some e) : e ∈ l := List.mem_of_getElem? h
abbrev RdE := Rd Ent.cs 6
abbrev RdI := Rd (fun n : Int => [Value.int .i64 n]) 1
end Go.Ws
