import Derived.Test.YtkdcgmloapmpkaaTypes
import Derived.Test.YtkdcgmloapmpkaaRows
import Derived.ProofKit
import Derived.OpenShut
import Derived.Deep.Slices
import Derived.Below
namespace Go.Ws
open Go Go.RowKit Go.Proofs Go.ChangeShapes Go.WideShapes
set_option linter.unusedVariables false
set_option maxRecDepth 100000

section
variable {H : Type} {enc : TypeId × Value → H} {W : World} {base : Nat} {sp : Nat → Bool} {held : Bool} {v : Value} {d : DataW H} {ps : List MemPlace}
theorem slice_home {P : Program} {t e : TypeId} {a : Addr} {n c : Nat} (ht : P.underlying t = some (.slice e)) (h : Value.okWide P W .any base t (.slice (some a) n c)) : a.spot = none ∧ a.block < W.heap.size := by
  unfold Value.okWide at h
  rw [ht] at h
  simp only [Cell.okWide, ht, Cell.ok] at h
  obtain ⟨_, _, _, hs, row, cells, hsh, _⟩ := h
  refine ⟨hs, ?_⟩
  unfold World.shape? at hsh
  rcases Nat.lt_or_ge a.block W.heap.size with h1 | h1
  · exact h1
  · rw [Array.getElem?_eq_none h1] at hsh; cases hsh
/-- A slice that came in, opened: of structs or of numbers, by what one element is. -/
theorem open_rd {α : Type} {en : α → List Value} {k : Nat} {P : Program} {t e : TypeId} (ht : P.underlying t = some (.slice e)) (hk : P.cellsOf e = k) (hpos : 0 < k) (hlen : ∀ x, (en x).length = k)
    (one : ∀ n cs x, DataW.trod enc P W 0 sp held n e cs = some x → ∃ y, cs = en y)
    (hok : Value.okWide P W .any base t v) (h : DataW.Trod enc P W 0 sp held t v d ps) : ∃ l, Rd en k W v l := by
  obtain ⟨fuel, hf⟩ := h
  obtain ⟨a0, len, cap, rfl⟩ := okWide_slice ht hok
  rcases Deep.open_slice ht hf with ⟨hcs, _⟩ | ⟨a, len', cap', m, n, D, Pl, hcs, _, hl, hm, hmm, _, hx⟩
  · simp [Value.cells] at hcs
    obtain ⟨rfl, rfl, rfl⟩ := hcs
    exact ⟨[], Rd.nil W⟩
  · simp [Value.cells] at hcs
    obtain ⟨rfl, rfl, rfl⟩ := hcs
    obtain ⟨hsp, hb⟩ := slice_home ht hok
    obtain ⟨b, o, s⟩ := a
    simp only at hsp hb
    subst hsp
    have hlm : len ≤ m := by rw [hmm]; split <;> omega
    have each : ∀ i, i < len → ∃ y, ∀ j u, (en y)[j]? = some u → W.cell? ⟨b, o + i * k + j, none⟩ = some u := by
      intro i hi
      obtain ⟨cs', h1, h2⟩ := hx i (by omega)
      obtain ⟨_, hcl, hcell⟩ := World.cells?_some h1
      obtain ⟨y, rfl⟩ := one _ _ _ h2
      refine ⟨y, fun j u hu => ?_⟩
      have hj : j < k := by
        rw [← hlen y]
        exact (List.getElem?_eq_some_iff.1 hu).1
      have := hcell j (by omega)
      rw [hk] at this
      rw [hu] at this
      rw [← this, add_plain, add_plain]
    by_cases hl0 : len = 0
    · subst hl0
      exact ⟨[], _, cap, rfl, Nat.zero_le _, hm, .inr ⟨b, o, rfl, hb, fun i x hx => by simp at hx⟩⟩
    have hne : Nonempty α := ⟨(each 0 (by omega)).choose⟩
    have hin : Inhabited α := ⟨Classical.choice hne⟩
    obtain ⟨f, hf⟩ := Deep.choose_lt each
    refine ⟨(List.range len).map f, _, cap, by simp, by simpa using hl, hm, .inr ⟨b, o, rfl, hb, fun i x hx j u hu => ?_⟩⟩
    simp only [List.getElem?_map] at hx
    rcases Nat.lt_or_ge i len with hi | hi
    · rw [List.getElem?_range hi] at hx
      cases hx
      exact hf i hi j u hu
    · rw [List.getElem?_eq_none (by simpa using hi)] at hx; cases hx
theorem one_ent (n : Nat) (cs : List Value) (x : DataW H × List MemPlace) (h : DataW.trod enc Try.prog W 0 sp held n 39 cs = some x) : ∃ y : Ent, cs = y.cs := by
  obtain ⟨xs, m, _, _, hl, hxl, hf⟩ := DataW.trod_struct Try.underlying39 h
  have hc : Try.prog.cellsOf 39 = 6 := by kernel_rfl
  rw [hc] at hl
  match cs, hl with
  | [c0, c1, c2, c3, c4, c5], _ =>
    have hxs : xs.length = 6 := hxl
    have go : ∀ (i : Nat) (t : TypeId) (c : Value), Try.prog.underlying t = some (.int .i64) → DataW.trod enc Try.prog W 0 sp held m t [c] = xs[i]? → i < 6 → ∃ z, c = .int .i64 z := by
      intro i t c ht hd hi
      rw [List.getElem?_eq_getElem (by omega)] at hd
      obtain ⟨z, hz, _⟩ := DataW.trod_int ht hd
      simp at hz
      exact ⟨z, hz⟩
    have g0 := hf 0 _ rfl
    have g1 := hf 1 _ rfl
    have g2 := hf 2 _ rfl
    have g3 := hf 3 _ rfl
    have g4 := hf 4 _ rfl
    have g5 := hf 5 _ rfl
    have k1 : Try.prog.cellsOf 2 = 1 := by kernel_rfl
    have k2 : Try.prog.cellsOf 3 = 1 := by kernel_rfl
    have k3 : Try.prog.cellsOf 37 = 1 := by kernel_rfl
    simp [k1, k2, k3] at g0 g1 g2 g3 g4 g5
    obtain ⟨z0, rfl⟩ := go 0 _ c0 Try.underlying2 g0 (by omega)
    obtain ⟨z1, rfl⟩ := go 1 _ c1 Try.underlying3 g1 (by omega)
    obtain ⟨z2, rfl⟩ := go 2 _ c2 Try.underlying2 g2 (by omega)
    obtain ⟨z3, rfl⟩ := go 3 _ c3 Try.underlying2 g3 (by omega)
    obtain ⟨z4, rfl⟩ := go 4 _ c4 Try.underlying37 g4 (by omega)
    obtain ⟨z5, rfl⟩ := go 5 _ c5 Try.underlying2 g5 (by omega)
    exact ⟨⟨z0, z1, z2, z3, z4, z5⟩, rfl⟩
theorem open_ents (hok : Value.okWide Try.prog W .any base 22 v) (h : DataW.Trod enc Try.prog W 0 sp held 22 v d ps) : ∃ l, RdE W v l :=
  open_rd (en := Ent.cs) (k := 6) Try.underlying22 (by kernel_rfl) (by omega) Ent.len one_ent hok h
theorem open_ilist (hok : Value.okWide Try.prog W .any base 24 v) (h : DataW.Trod enc Try.prog W 0 sp held 24 v d ps) : ∃ l, RdI W v l :=
  open_rd (en := ics) (k := 1) Try.underlying24 (by kernel_rfl) (by omega) (fun _ => rfl) (fun n cs x h => by
    obtain ⟨z, rfl, _⟩ := DataW.trod_int Try.underlying3 h
    exact ⟨z, rfl⟩) hok h
theorem open_entv (hok : Value.okWide Try.prog W .any base 39 v) (h : DataW.Trod enc Try.prog W 0 sp held 39 v d ps) : ∃ e : Ent, v = e.v := by
  obtain ⟨fuel, hf⟩ := h
  obtain ⟨y, hy⟩ := one_ent _ _ _ hf
  unfold Value.okWide at hok
  rw [Try.underlying39] at hok
  obtain ⟨cs, rfl, _⟩ := hok
  refine ⟨y, ?_⟩
  have : cs.toList = y.cs := hy
  show Value.agg cs = _
  rw [show cs = y.cs.toArray by rw [← this]]
  rfl
end
theorem ownKn : ownKnob Try.prog.godebug = none := by kernel_rfl
theorem laidOut : laidOutB Try.prog = true := by kernel_rfl
end Go.Ws
