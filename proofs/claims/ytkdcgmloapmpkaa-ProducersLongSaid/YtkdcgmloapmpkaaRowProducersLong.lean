/- The function ProducersLong of waystationlaw08 returns true at every input, and what was handed in reads as before; no condition. -/
import Derived.Test.YtkdcgmloapmpkaaWords
import Derived.Test.YtkdcgmloapmpkaaLawU
namespace Go.Proofs.Ytkdcgmloapmpkaa
open Go Go.RowKit Go.Proofs Go.Ws Go.ChangeShapes Go.WideShapes Go.ChangeAt
set_option linter.unusedVariables false
set_option maxRecDepth 100000
theorem producersLong_lifted (os : Os) (started : os.Started) (H : Type) (enc : TypeId × Value → H) :
    ReturnsInHanded {} Try.checked os 12 .any (Rows.producersLongSpec.pre6 enc Try.prog Try.f12 Rows.producersLongRow.domain false) (Rows.producersLongSpec.post enc Try.prog Try.f12 false true false false) := by
  refine returnsInHanded_of_change (C := Try.checked) ownKn started (by kernel_rfl) Try.func12
    (ChangeSpec.witness6 (enc := enc) (C := Try.checked) false ⟨#[], #[], []⟩ 8 (by kernel_rfl) (by kernel_rfl) (by kernel_rfl) (by kernel_rfl)) ?_
  intro W base args ds gs before hval0 hW hcnd _
  have hval : ∀ (j : Nat) t v, Try.f12.params[j]? = some t → args[j]? = some v → Value.okWide Try.prog W .any base t v := hval0
  have hW' := hW
  obtain ⟨p, q, hA0, hV, rfl, hfz, hnd⟩ := hW
  have hA : DataW.TrodAll enc Try.prog W 0 (fun _ => true) true Try.f12.params.toList args.toList ds p := hA0
  rw [Try.params12] at hA hval
  obtain ⟨rfl, rfl, rfl⟩ := trodAll_none hA
  obtain ⟨rfl, rfl⟩ := trodVars_none hV
  clear hA0 hval0
  refine (Fn.calls (long8_calls  W )).mono fun e W' hR => ?_
  obtain ⟨w0, hE0, hR⟩ := hR
  cases e with
  | returned v =>
    obtain ⟨rfl, hE⟩ := hR
    have bel := (Ext.trans hE hE0).below
    exact ⟨_, rfl, _, _, _, [], _, [], hW', trodAll_mk1 (shut_bool Try.underlying4 _), trodAll_mk0, rfl, bel.frame _, fun h => by cases h⟩
  | panicked c => exact hR.elim
  | outgrown => exact hR.elim
theorem producersLong_closed : joinedFacts Try.prog 12 Try.f12 Rows.producersLongSpec Rows.producersLongRow = true :=
  joined_of (by kernel_rfl) laidOut mapsRow (by kernel_rfl) (by kernel_rfl) rfl stopsIs rfl stopKnobsIs (by kernel_rfl) (by kernel_rfl) (by kernel_rfl) (by kernel_rfl) (by kernel_rfl) (by kernel_rfl) (by kernel_rfl) (by kernel_rfl) (by kernel_rfl) (by kernel_rfl) (by kernel_rfl) (by kernel_rfl) (by kernel_rfl) (by rw [plainKeysIs]; rfl) rfl stopsHeardIs mayEnter (by rw [liftsFinal]; rfl) (by rw [makeIs]; rfl) (by kernel_rfl) (by kernel_rfl) (by kernel_rfl) (by kernel_rfl)
theorem producersLong_holds : Rows.ProducersLongSaid :=
  OpenClaim.holds_of_wide 12 Try.f12 rfl rfl rfl rfl rfl rfl rfl ⟨rfl, rfl, rfl, rfl, rfl⟩ rfl rfl rfl rfl rfl (by kernel_rfl) Try.func12 producersLong_closed
    (of_decide_eq_true (by kernel_rfl)) (by unfold Func.isWrapper; first | (rw [if_pos (by decide +kernel)]; kernel_rfl) | (rw [if_neg (by decide +kernel)]; exact ⟨rfl, rfl⟩))
    (fun os started H enc _ => producersLong_lifted os started H enc)
#print axioms producersLong_holds
end Go.Proofs.Ytkdcgmloapmpkaa
