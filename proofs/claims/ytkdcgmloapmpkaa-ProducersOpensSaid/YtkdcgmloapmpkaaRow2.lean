import Derived.Test.YtkdcgmloapmpkaaRow
import Derived.Test.YtkdcgmloapmpkaaRows
import Derived.ProofKit
import Derived.OpenShut
import Derived.Deep.Slices
import Derived.Below
namespace Go.Ws
open Go Go.RowKit Go.Proofs Go.ChangeShapes Go.WideShapes
set_option linter.unusedVariables false
set_option maxRecDepth 100000

abbrev bcs (b : Bool) : List Value := [.bool b]
abbrev RdB := Rd bcs 1
abbrev RdL := Rd ics 1
theorem Rd.bool {w : World} {v : Value} {l : List Bool} (h : RdB w v l) : ∃ A c, v = .slice A l.length c ∧ l.length ≤ c ∧ c ≤ 9223372036854775807 ∧
    ∀ i, i < l.length → ∃ e b o, l[i]? = some e ∧ A = some ⟨b, o, none⟩ ∧ b < w.heap.size ∧ w.cell? ⟨b, o + i, none⟩ = some (.bool e) := by
  obtain ⟨A, c, rfl, hc, hm, h⟩ := h
  refine ⟨A, c, rfl, hc, hm, fun i hi => ?_⟩
  rcases h with ⟨_, rfl⟩ | ⟨b, o, rfl, hb, hr⟩
  · simp at hi
  · exact ⟨l[i], b, o, List.getElem?_eq_getElem hi, rfl, hb, by have := hr i l[i] (List.getElem?_eq_getElem hi) 0 (.bool l[i]) rfl; simpa using this⟩
section
variable {H : Type} {enc : TypeId × Value → H} {W : World} {sp : Nat → Bool} {held : Bool} {base : Nat} {v : Value} {d : DataW H} {ps : List MemPlace}
theorem open_i64s (hok : Value.okWide Try.prog W .any base 77 v) (h : DataW.Trod enc Try.prog W 0 sp held 77 v d ps) : ∃ l, RdL W v l :=
  open_rd (en := ics) (k := 1) Try.underlying77 (by kernel_rfl) (by omega) (fun _ => rfl) (fun n cs x h => by
    obtain ⟨z, rfl, _⟩ := DataW.trod_int Try.underlying2 h
    exact ⟨z, rfl⟩) hok h
theorem open_bools (hok : Value.okWide Try.prog W .any base 78 v) (h : DataW.Trod enc Try.prog W 0 sp held 78 v d ps) : ∃ l, RdB W v l :=
  open_rd (en := bcs) (k := 1) Try.underlying78 (by kernel_rfl) (by omega) (fun _ => rfl) (fun n cs x h => by
    obtain ⟨z, rfl, _⟩ := DataW.trod_bool Try.underlying4 h
    exact ⟨z, rfl⟩) hok h
end
end Go.Ws
