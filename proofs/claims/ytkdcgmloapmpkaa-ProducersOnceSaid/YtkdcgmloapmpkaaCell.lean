import Derived.Test.YtkdcgmloapmpkaaSoft
namespace Go.Ws
open Go Go.RowKit
set_option maxHeartbeats 2000000
set_option maxRecDepth 100000
set_option linter.unusedVariables false
set_option linter.unusedSimpArgs false
set_option pp.deepTerms true
set_option pp.maxSteps 100000000

section
variable {P : Program} {fn : Func} {R : Res} {e : Exit} {t b : Nat} {ty : TypeId} {td : TypeDesc} {cs : List Value} {w : World} {l : List (Nat × Value)} {A : Act} {g : Nat → Value} {E : TypeId}
theorem blk_cells1 (hb : Blk w b E cs.length g) (hg : ∀ k, k < cs.length → cs[k]? = some (g k)) (x : Later w) : (w.later x).heap[b]? = some (.cells cs.toArray E) := by
  obtain ⟨arr, h, hs, hk⟩ := hb.later (w' := w.later x) x.2
  have : arr = cs.toArray := by
    apply Array.ext
    · simpa using hs
    · intro k h1 h2
      have h3 := hk k (by omega)
      have h4 := hg k (by omega)
      rw [← h4] at h3
      simpa [h1, List.getElem?_eq_getElem (show k < cs.length by omega)] using h3
  rw [h, this]
theorem Body_retcell1 (hd : A.defers = []) (hR : R (.returned (.agg cs.toArray)) w) (hb : Blk w b E cs.length g) (hg : ∀ k, k < cs.length → cs[k]? = some (g k))
    (hu : P.underlying ty = some td) (hr : fn.results = #[.cell t ty] := by rfl) (htd : (match td with | .struct _ | .array _ _ => true | _ => false) = true := by rfl) (hi : (P.info? ty).map (·.size) = some cs.length := by kernel_rfl)
    (he : e = .ret ∨ e = .normal := by first | exact .inl rfl | exact .inr rfl) (hv : Is ((fr l A).tmps.getD t undef) (.pointer (some ⟨b, 0, none⟩)) := by go_simp; exact Is.mk _) : Body P fn R e (fr l A) w := by
  have key : ∀ x : Later w, (results fn (fr l A).tmps).run P (w.later x) = .ok (.agg cs.toArray) (w.later x) := by
    intro x
    have h1 := blk_cells1 hb hg x
    have h2 : (fr l A).tmps[t]?.getD undef = .pointer (some ⟨b, 0, none⟩) := by simpa using hv.eq
    simp [results, hr, h2, asAddr, run_loadVar_row (P := P) (w.later x) b E ty cs.toArray (0, 0) td h1 hu htd (by simpa using hi)]
  unfold Body
  rcases he with rfl | rfl <;> exact ⟨w, by rw [fr_defers, hd]; rfl, _, key, hR⟩
/-- A row and a value. -/
theorem Body_retcellv {u : Tmp} {v2 : Value} (hd : A.defers = []) (hR : R (.returned (.tuple #[.agg cs.toArray, v2])) w) (hb : Blk w b E cs.length g) (hg : ∀ k, k < cs.length → cs[k]? = some (g k))
    (hu : P.underlying ty = some td) (hr : fn.results = #[.cell t ty, .tmp u] := by rfl) (htd : (match td with | .struct _ | .array _ _ => true | _ => false) = true := by rfl) (hi : (P.info? ty).map (·.size) = some cs.length := by kernel_rfl)
    (he : e = .ret ∨ e = .normal := by first | exact .inl rfl | exact .inr rfl) (hv : Is ((fr l A).tmps.getD t undef) (.pointer (some ⟨b, 0, none⟩)) := by go_simp; exact Is.mk _) (hv2 : Is ((fr l A).tmps.getD u undef) v2 := by go_simp; exact Is.mk _) : Body P fn R e (fr l A) w := by
  have key : ∀ x : Later w, (results fn (fr l A).tmps).run P (w.later x) = .ok (.tuple #[.agg cs.toArray, v2]) (w.later x) := by
    intro x
    have h1 := blk_cells1 hb hg x
    have h2 : (fr l A).tmps[t]?.getD undef = .pointer (some ⟨b, 0, none⟩) := by simpa using hv.eq
    have h3 : (fr l A).tmps[u]?.getD undef = v2 := by simpa using hv2.eq
    simp [results, hr, h2, h3, asAddr, run_loadVar_row (P := P) (w.later x) b E ty cs.toArray (0, 0) td h1 hu htd (by simpa using hi)]
  unfold Body
  rcases he with rfl | rfl <;> exact ⟨w, by rw [fr_defers, hd]; rfl, _, key, hR⟩
/-- One cell. -/
theorem Body_retcell0 {v : Value} (hd : A.defers = []) (hR : R (.returned v) w) (hlt : b < w.heap.size) (hc : w.cell? ⟨b, 0, none⟩ = some v) (hag : ∀ w, (isAgg ty).run P w = .ok false w)
    (hr : fn.results = #[.cell t ty] := by rfl) (h1 : v.oneCell' = true := by rfl)
    (he : e = .ret ∨ e = .normal := by first | exact .inl rfl | exact .inr rfl) (hv : Is ((fr l A).tmps.getD t undef) (.pointer (some ⟨b, 0, none⟩)) := by go_simp; exact Is.mk _) : Body P fn R e (fr l A) w := by
  have key : ∀ x : Later w, (results fn (fr l A).tmps).run P (w.later x) = .ok v (w.later x) := by
    intro x
    have h0 : (w.later x).cell? ⟨b, 0, none⟩ = some v := by rw [cell?_later _ _ _ _ hlt]; exact hc
    have h2 : (fr l A).tmps[t]?.getD undef = .pointer (some ⟨b, 0, none⟩) := by simpa using hv.eq
    simp [results, hr, h2, asAddr, loadVar, hag, Go.load, Sem.run_bind, Sem.run, h0]
  unfold Body
  rcases he with rfl | rfl <;> exact ⟨w, by rw [fr_defers, hd]; rfl, _, key, hR⟩
end
section
variable {P : Program} {ops : Array Oper} {o : Oper} {Q : Post} {fl : List (Nat × Value)} {A : Act} {w : World}
/-- Guarded, not quiet, and not wanted. -/
theorem X_gf2 {rest : List (Oper × Nat)} {d : Nat} {j t m : Nat} {want : Bool} (h : wpX P ops Q rest (fr ((d, undef) :: fl) A) w) (hd : o.dst = some d := by rfl) (hg : o.guard = some (j, want) := by rfl) (ht : (ops[j]?).bind (·.dst) = some t := by rfl)
    (hgg : Is (gw ((fr fl A).tmps.getD t undef) want) false := by go_simp; exact Is.mk _) (hm : m = 1 ∨ m = 2 := by first | exact .inl rfl | exact .inr rfl) : wpX P ops Q ((o, m) :: rest) (fr fl A) w := by
  rcases hm with rfl | rfl
  · rw [wpX_one]
    intro x
    rw [wanted_gw hg ht, hgg.eq]
    exact ⟨w, x.2, by rw [hd, fr_put]; exact h⟩
  · exact X_gop (g := false) (fun h => by cases h) (fun _ => by rw [hd, fr_put]; exact h) hg ht hgg
end
end Go.Ws
