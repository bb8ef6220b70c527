import Derived.Test.YtkdcgmloapmpkaaTypes
namespace Go.Ws
open Go Go.RowKit Go.Proofs
set_option maxHeartbeats 1000000
set_option maxRecDepth 100000
set_option linter.unusedVariables false
set_option linter.unusedSimpArgs false
set_option pp.deepTerms true
set_option pp.maxSteps 100000000

def inB (n a b : Int) : Bool := decide (a ≤ n) && decide (n ≤ b)
def rightB (e : Ent) : Bool :=
  inB e.ep 1 2147483647 && decide (1 ≤ e.kind) && decide (e.kind ≤ 3) && inB e.id (-1) 3 && !(decide (1 < e.kind) && decide (e.id < 0)) &&
  !(decide (e.id < 0) && (decide (e.num ≠ 0) || decide (e.seq ≠ 0))) && !(decide (0 ≤ e.id) && !inB e.num 1 2147483647) &&
  !(decide (1 < e.kind) && (decide (e.seq ≠ 0) || decide (e.val ≠ 0))) && inB e.seq 0 2147483647 && inB e.val (-2147483648) 2147483647
theorem within_calls (n a b : Int) (w : World) :
    Pure Try.prog 105 #[.int .i64 n, .int .i64 a, .int .i64 b] w (.bool (inB n a b)) := by
  refine Fn_of Try.func105 rfl (Nat.le_of_ble_eq_true rfl) ?_; intro A hd hA; simp only [ix, Nat.reduceAdd]; replace hA : A.tmps.size = 15 := hA
  repeat' (first | refine X_d (fun vb hvb => ?_) | refine X_dg (fun vb hvb => ?_) | refine X_q ?_ | refine X_g ?_ | refine X_gf ?_ | refine X_niln ?_ | refine X_nil ?_ | (refine X_var (fun yn bn hn1 hn2 hn3 hn4 hn5 => ?_)) | refine W_seqk (fun K hK => ?_) | refine W_seqr ?_ | refine W_draw (by kernel_rfl) (by kernel_rfl) ?_ | refine W_ret ?_ | refine W_skip ?_ | refine W_block ?_ | refine W_exit ?_ | (refine X_s (fun x K hK => ?_); go_simp; refine hK _ _ (Ext.alloc _ _) ?_; clear hK K; refine X_al x ?_; generalize (World.later _ x).heap.size = bn; intro yn hn1 hn2 hn3 hn4 hn5; clear x) | refine W_tt ?_ | refine W_ff ?_ | refine W_test (fun hc => ?_) (fun hc => ?_) | go_step)
  refine Body_ret hd ⟨?_, Ext.refl _⟩
  repeat cases ‹Eqn _ _›
  rfl
theorem right_calls (e : Ent) (w : World) : Pure Try.prog 80 #[e.v] w (.bool (rightB e)) := by
  refine Fn_of Try.func80 rfl (Nat.le_of_ble_eq_true rfl) ?_; intro A hd hA; simp only [ix, Nat.reduceAdd]; replace hA : A.tmps.size = 77 := hA
  repeat' (first | refine X_pure Try.func105 (within_calls _ _ _ _) ?_ | refine X_gpure Try.func105 (fun _ => within_calls _ _ _ _) ?_ | refine X_d (fun vb hvb => ?_) | refine X_dg (fun vb hvb => ?_) | refine X_q ?_ | refine X_g ?_ | refine X_gf ?_ | refine X_niln ?_ | refine X_nil ?_ | (refine X_var (fun yn bn hn1 hn2 hn3 hn4 hn5 => ?_)) | refine W_seqk (fun K hK => ?_) | refine W_seqr ?_ | refine W_draw (by kernel_rfl) (by kernel_rfl) ?_ | refine W_ret ?_ | refine W_skip ?_ | refine W_block ?_ | refine W_exit ?_ | (refine X_s (fun x K hK => ?_); go_simp; refine hK _ _ (Ext.alloc _ _) ?_; clear hK K; refine X_al x ?_; generalize (World.later _ x).heap.size = bn; intro yn hn1 hn2 hn3 hn4 hn5; clear x) | refine W_tt ?_ | refine W_ff ?_ | refine W_test (fun hc => ?_) (fun hc => ?_) | go_step)
  all_goals (refine Body_ret hd ⟨congrArg Value.bool ?_, by simp⟩; rw [Bool.eq_iff_iff]; clear hn1 hn2 hn3 hn4 hn5; repeat cases ‹Eqn _ _›)
  all_goals (simp [rightB, inB] at *; omega)

theorem same_calls (l m : List Ent) (u v : Value) (w : World) (hl : RdE w u l) (hm : RdE w v m) :
    Pure Try.prog 22 #[u, v] w (.bool (decide (l = m))) := by
  obtain ⟨A0, c, rfl, hc, hcm, HR⟩ := hl.ent
  obtain ⟨A1, c1, rfl, hc1, hcm1, HR1⟩ := hm.ent
  clear hl hm
  refine Fn_of Try.func22 rfl (Nat.le_of_ble_eq_true rfl) ?_; intro A hd hA; simp only [ix, Nat.reduceAdd]; replace hA : A.tmps.size = 26 := hA
  repeat' (first | refine X_d (fun vb hvb => ?_) | refine X_dg (fun vb hvb => ?_) | refine X_q ?_ | refine X_g ?_ | refine X_gf ?_ | refine X_niln ?_ | refine X_nil ?_ | (refine X_var (fun yn bn hn1 hn2 hn3 hn4 hn5 => ?_)) | refine W_seqk (fun K hK => ?_) | refine W_seqr ?_ | refine W_draw (by kernel_rfl) (by kernel_rfl) ?_ | refine W_ret ?_ | refine W_skip ?_ | refine W_block ?_ | refine W_exit ?_ | (refine X_s (fun x K hK => ?_); go_simp; refine hK _ _ (Ext.alloc _ _) ?_; clear hK K; refine X_al x ?_; generalize (World.later _ x).heap.size = bn; intro yn hn1 hn2 hn3 hn4 hn5; clear x) | refine W_tt ?_ | refine W_ff ?_ | refine W_test (fun hc => ?_) (fun hc => ?_) | go_step)
  · refine Body_ret hd ⟨congrArg Value.bool ?_, by simp⟩
    have : l ≠ m := fun e => by subst e; simp at hc
    simp [this]
  have heq : l.length = m.length := by have := hc; simp at this; omega
  refine W_loops [0, 1, 5] (fun n vs w' => ∃ k : Nat, w' = w ∧ k + n = l.length ∧ vs = [.slice A0 l.length c, .slice A1 m.length c1, .int .i64 k] ∧ l.take k = m.take k) l.length hd hA (by decide) ⟨0, rfl, by omega, by simp, by simp⟩ ?_
  clear hd hA A; intro n vs B w' hd hA _ ⟨k, hw, hk, hvs, hm⟩; subst hw hvs
  simp only [List.zip_cons_cons, List.zip_nil_right, List.zip_nil_left]
  have Hm := Lib.hid hm; clear hm
  have HQ := Lib.hid heq; clear heq hc
  by_cases hlt : k < l.length
  · obtain ⟨e, b, o, HE, rfl, hb, c0, c1, c2, c3, c4, c5⟩ := HR.out k hlt
    have hlt2 : k < m.length := by rw [← HQ.out]; exact hlt
    obtain ⟨x, b1, o1, HX, rfl, hb1, d0, d1, d2, d3, d4, d5⟩ := HR1.out k hlt2
    have g1 := fun ox oy a b w => eqGuardEnt ox oy a b w
    have g2 := neqEnt e x
    repeat' (first | refine X_d (fun vb hvb => ?_) | refine X_dg (fun vb hvb => ?_) | refine X_q ?_ | refine X_g ?_ | refine X_gf ?_ | refine X_niln ?_ | refine X_nil ?_ | (refine X_var (fun yn bn hn1 hn2 hn3 hn4 hn5 => ?_)) | refine W_seqk (fun K hK => ?_) | refine W_seqr ?_ | refine W_draw (by kernel_rfl) (by kernel_rfl) ?_ | refine W_ret ?_ | refine W_skip ?_ | refine W_block ?_ | refine W_exit ?_ | (refine X_s (fun x K hK => ?_); go_simp; refine hK _ _ (Ext.alloc _ _) ?_; clear hK K; refine X_al x ?_; generalize (World.later _ x).heap.size = bn; intro yn hn1 hn2 hn3 hn4 hn5; clear x) | refine W_tt ?_ | refine W_ff ?_ | refine W_test (fun hc => ?_) (fun hc => ?_) | go_step)
    · refine Body_ret hd ⟨congrArg Value.bool ?_, by simp⟩
      have : l ≠ m := fun h => by subst h; rw [HE.out] at HX; cases HX.out; simp at hc
      simp [this]
    · refine ⟨_, _, rfl, hd, hA, n - 1, by omega, k + 1, trivial, by omega, by simp, ?_⟩
      rw [take_snoc HE.out, take_snoc HX.out, Hm.out]
      simp at hc
      rw [hc]
  · repeat' (first | refine X_d (fun vb hvb => ?_) | refine X_dg (fun vb hvb => ?_) | refine X_q ?_ | refine X_g ?_ | refine X_gf ?_ | refine X_niln ?_ | refine X_nil ?_ | (refine X_var (fun yn bn hn1 hn2 hn3 hn4 hn5 => ?_)) | refine W_seqk (fun K hK => ?_) | refine W_seqr ?_ | refine W_draw (by kernel_rfl) (by kernel_rfl) ?_ | refine W_ret ?_ | refine W_skip ?_ | refine W_block ?_ | refine W_exit ?_ | (refine X_s (fun x K hK => ?_); go_simp; refine hK _ _ (Ext.alloc _ _) ?_; clear hK K; refine X_al x ?_; generalize (World.later _ x).heap.size = bn; intro yn hn1 hn2 hn3 hn4 hn5; clear x) | refine W_tt ?_ | refine W_ff ?_ | refine W_test (fun hc => ?_) (fun hc => ?_) | go_step)
    obtain rfl : k = l.length := by omega
    refine Body_ret hd ⟨congrArg Value.bool ?_, by simp⟩
    have := Hm.out
    rw [List.take_length, HQ.out, List.take_length] at this
    simp [this]
end Go.Ws
