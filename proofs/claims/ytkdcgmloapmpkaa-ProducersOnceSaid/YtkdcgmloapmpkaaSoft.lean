import Derived.Test.YtkdcgmloapmpkaaBlk
namespace Go.Ws
open Go Go.RowKit
set_option linter.unusedVariables false
set_option linter.unusedSimpArgs false

section
variable {P : Program} {w : World} {Q : Post} {A : Act} {a : Act} {fl : List (Nat × Value)} {ops : Array Oper} {o : Oper}
theorem wpX_one {rest : List (Oper × Nat)} : wpX P ops Q ((o, 1) :: rest) a w = (∀ x : Later w, if Region.wanted o (yielded ops a.tmps) = true
      then OpW P o a (w.later x) (fun a' w' => Ext (w.later x) w' ∧ ∃ w0, Ext w0 w' ∧ wpX P ops Q rest a' w0) (fun _ _ _ => False)
      else ∃ w0, Ext w0 (w.later x) ∧ wpX P ops Q rest (a.put o.dst undef) w0) := by with_unfolding_all rfl
/-- A call that leaves what was there, in a region that draws its order. -/
theorem X_ret1 {rest : List (Oper × Nat)} {f : FuncId} {fn : Func} {la : List Operand} {ats : Array TypeId} {lv lv' : List Value} {R : World → Value → World → Prop} {d : Nat} (hf : P.funcs[f]? = some fn)
    (hc : ∀ x : Later w, Ret P f lv.toArray (w.later x) (R (w.later x))) (h : ∀ (x : Later w) v w', R (w.later x) v w' → Ext (w.later x) w' ∧ wpX P ops Q rest (fr ((d, v) :: fl) A) w') (hd : o.dst = some d := by rfl) (hop : o.op = .call { callee := .value (.func f), args := la.toArray, argTypes := ats } := by rfl) (hn : callable fn = true := by kernel_rfl)
    (hg : o.guard = none := by rfl) (hargs : Is (la.map (fr fl A).eval) lv' := by go_simp; exact Is.mk _) (hlv : lv' = lv := by rfl) : wpX P ops Q ((o, 1) :: rest) (fr fl A) w := by
  rw [wpX_one]
  intro x
  rw [if_pos (by simp [Region.wanted, hg])]
  unfold OpW
  rw [run_call hf hn hop, hargs.eq, hlv]
  simp only [uponW]
  refine Calls.mono (Fn.calls (hc x)) fun e w' hR => ?_
  obtain ⟨w0, hE, hR⟩ := hR
  cases e with
  | returned v =>
    obtain ⟨h1, h2⟩ := h x v w0 hR
    exact ⟨Ext.trans h1 hE, w0, hE, by rw [hd, fr_put]; exact h2⟩
  | panicked c => exact hR.elim
  | outgrown => exact hR.elim
end
end Go.Ws
