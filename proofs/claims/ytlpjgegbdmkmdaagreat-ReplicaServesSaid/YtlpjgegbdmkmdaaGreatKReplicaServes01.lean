/- The function ReplicaServes of waystationlaw11 returns true at every input, and what was handed in reads as before; no condition. -/
import Derived.Test.YtlpjgegbdmkmdaaGreatBa03
import Derived.Test.YtlpjgegbdmkmdaaGreatBa27
import Derived.Test.YtlpjgegbdmkmdaaGreatKReplicaServes00
namespace Go.Proofs.YtlpjgegbdmkmdaaGreat
open Go Go.RowKit Go.Proofs Go.Ws Go.ChangeShapes Go.WideShapes Go.ChangeAt
set_option linter.unusedVariables false
set_option maxRecDepth 100000
theorem replicaServes_lifted (os : Os) (started : os.Started) (H : Type) (enc : TypeId × Value → H) :
    ReturnsInHanded {} Tryz.checked os 6 .any (Rows.replicaServesSpec.pre6 enc Tryz.prog Tryz.f6 Rows.replicaServesRow.domain false) (Rows.replicaServesSpec.post enc Tryz.prog Tryz.f6 false true false false) := by
  refine returnsInHanded_of_change (C := Tryz.checked) ownKn started (by kernel_rfl) Tryz.func6
    (ChangeSpec.witness6 (enc := enc) (C := Tryz.checked) false ⟨#[], #[.int .u8 0, .slice none 0 0], []⟩ 8 (by kernel_rfl) (by kernel_rfl) (by kernel_rfl) (by kernel_rfl)) ?_
  intro W base args ds gs before hval0 hW hcnd _
  have hval : ∀ (j : Nat) t v, Tryz.f6.params[j]? = some t → args[j]? = some v → Value.okWide Tryz.prog W .any base t v := hval0
  have hW' := hW
  obtain ⟨p, q, hA0, hV, rfl, hfz, hnd⟩ := hW
  have hA : DataW.TrodAll enc Tryz.prog W 0 (fun _ => true) true Tryz.f6.params.toList args.toList ds p := hA0
  rw [Tryz.params6] at hA hval
  obtain ⟨v0, v1, d0, d1, p0, p1, rfl, rfl, rfl, h0, h1⟩ := trodAll_two hA
  obtain ⟨rfl, rfl⟩ := trodVars_none hV
  obtain ⟨a0, rfl, rfl, rfl, w0⟩ := open_int Tryz.underlying5 (hval 0 5 v0 rfl rfl) h0
  have lt1 : ∀ x ∈ p1, x.block < W.heap.size := by obtain ⟨m, hm⟩ := h1; exact DataW.trod_lt m _ _ _ hm
  have k1 := h1
  obtain ⟨l1, r1, i1⟩ := open_quads (hval 1 53 v1 rfl rfl) h1
  clear hA0 hval0
  refine (Fn.calls (serves_calls a0 l1 v1 W (wf_u8 w0) r1 i1)).mono fun e W' hR => ?_
  obtain ⟨wz, hE0, hR⟩ := hR
  cases e with
  | returned v =>
    obtain ⟨rfl, hE⟩ := hR
    have bel := (Ext.trans hE hE0).below
    exact ⟨_, rfl, _, _, _, [], _, [], hW', trodAll_mk1 (shut_bool Tryz.underlying4 _), trodAll_mk2 (shut_int Tryz.underlying5 w0) (Below.trod laidOut (by kernel_rfl) (of_decide_eq_true (by kernel_rfl)) k1 bel lt1), rfl, bel.frame _, fun h => by cases h⟩
  | panicked c => exact hR.elim
  | outgrown => exact hR.elim
theorem replicaServes_closed : joinedFacts Tryz.prog 6 Tryz.f6 Rows.replicaServesSpec Rows.replicaServesRow = true :=
  joined_of (by kernel_rfl) laidOut mapsRow (by kernel_rfl) (by kernel_rfl) rfl stopsIs rfl stopKnobsIs (by kernel_rfl) (by kernel_rfl) (by kernel_rfl) (by kernel_rfl) (by kernel_rfl) (by kernel_rfl) (by kernel_rfl) (by kernel_rfl) (by kernel_rfl) (by kernel_rfl) (by kernel_rfl) (by kernel_rfl) (by kernel_rfl) (by rw [plainKeysIs]; rfl) rfl stopsHeardIs mayEnter (by rw [liftsFinal]; rfl) (by rw [makeIs]; rfl) (by kernel_rfl) (by kernel_rfl) (by kernel_rfl) (by kernel_rfl)
theorem replicaServes_holds : Rows.ReplicaServesSaid :=
  OpenClaim.holds_of_wide 6 Tryz.f6 rfl rfl rfl rfl rfl rfl rfl ⟨rfl, rfl, rfl, rfl, rfl⟩ rfl rfl rfl rfl rfl (by kernel_rfl) Tryz.func6 replicaServes_closed
    (of_decide_eq_true (by kernel_rfl)) (by unfold Func.isWrapper; first | (rw [if_pos (by decide +kernel)]; kernel_rfl) | (rw [if_neg (by decide +kernel)]; exact ⟨rfl, rfl⟩))
    (fun os started H enc _ => replicaServes_lifted os started H enc)
#print axioms replicaServes_holds
end Go.Proofs.YtlpjgegbdmkmdaaGreat
