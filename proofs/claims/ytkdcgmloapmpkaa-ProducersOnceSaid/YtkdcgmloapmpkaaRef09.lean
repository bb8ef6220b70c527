import Derived.Test.YtkdcgmloapmpkaaRef08A
namespace Go.Ws
open Go Go.RowKit Go.Proofs
set_option maxHeartbeats 1000000
set_option maxRecDepth 100000
set_option linter.unusedVariables false
set_option linter.unusedSimpArgs false
set_option pp.deepTerms true
set_option pp.maxSteps 100000000

theorem num9_calls (n : Int) (w : World) : Pure Try.prog 24 #[.int .i64 n] w (.int .i64 n) := by
  refine Fn_of Try.func24 rfl (Nat.le_of_ble_eq_true rfl) ?_; intro A hd hA; simp only [ix, Nat.reduceAdd]; replace hA : A.tmps.size = 4 := hA
  repeat' (first | refine X_d (fun vb hvb => ?_) | refine X_dg (fun vb hvb => ?_) | refine X_q ?_ | refine X_g ?_ | refine X_gf ?_ | refine X_niln ?_ | refine X_nil ?_ | (refine X_var (fun yn bn hn1 hn2 hn3 hn4 hn5 => ?_)) | refine W_seqk (fun K hK => ?_) | refine W_seqr ?_ | refine W_draw (by kernel_rfl) (by kernel_rfl) ?_ | refine W_ret ?_ | refine W_skip ?_ | refine W_block ?_ | refine W_exit ?_ | (refine X_s (fun x K hK => ?_); go_simp; refine hK _ _ (Ext.alloc _ _) ?_; clear hK K; refine X_al x ?_; generalize (World.later _ x).heap.size = bn; intro yn hn1 hn2 hn3 hn4 hn5; clear x) | refine W_tt ?_ | refine W_ff ?_ | refine W_test (fun hc => ?_) (fun hc => ?_) | go_step)
  exact Body_ret hd ⟨rfl, by simp⟩
theorem same9_calls (l m : List Int) (u v : Value) (w : World) (hl : RdI w u l) (hm : RdI w v m) :
    Pure Try.prog 25 #[u, v] w (.bool (decide (l = m))) := by
  obtain ⟨A0, c, rfl, hc, hcm, HR⟩ := hl.int
  obtain ⟨A1, c1, rfl, hc1, hcm1, HR1⟩ := hm.int
  clear hl hm
  refine Fn_of Try.func25 rfl (Nat.le_of_ble_eq_true rfl) ?_; intro A hd hA; simp only [ix, Nat.reduceAdd]; replace hA : A.tmps.size = 26 := hA
  repeat' (first | refine X_d (fun vb hvb => ?_) | refine X_dg (fun vb hvb => ?_) | refine X_q ?_ | refine X_g ?_ | refine X_gf ?_ | refine X_niln ?_ | refine X_nil ?_ | (refine X_var (fun yn bn hn1 hn2 hn3 hn4 hn5 => ?_)) | refine W_seqk (fun K hK => ?_) | refine W_seqr ?_ | refine W_draw (by kernel_rfl) (by kernel_rfl) ?_ | refine W_ret ?_ | refine W_skip ?_ | refine W_block ?_ | refine W_exit ?_ | (refine X_s (fun x K hK => ?_); go_simp; refine hK _ _ (Ext.alloc _ _) ?_; clear hK K; refine X_al x ?_; generalize (World.later _ x).heap.size = bn; intro yn hn1 hn2 hn3 hn4 hn5; clear x) | refine W_tt ?_ | refine W_ff ?_ | refine W_test (fun hc => ?_) (fun hc => ?_) | go_step)
  · refine Body_ret hd ⟨congrArg Value.bool ?_, by simp⟩
    have : l ≠ m := fun e => by subst e; simp at hc
    simp [this]
  have heq : l.length = m.length := by have := hc; simp at this; omega
  refine W_loops [0, 1, 5] (fun n vs w' => ∃ k : Nat, w' = w ∧ k + n = l.length ∧ vs = [.slice A0 l.length c, .slice A1 m.length c1, .int .i64 k] ∧ l.take k = m.take k) l.length hd hA (by decide) ⟨0, rfl, by omega, by simp, by simp⟩ ?_
  clear hd hA A; intro n vs B w' hd hA _ ⟨k, hw, hk, hvs, hm⟩; subst hw hvs
  simp only [List.zip_cons_cons, List.zip_nil_right, List.zip_nil_left]
  have Hm := Lib.hid hm; clear hm
  have HQ := Lib.hid heq; clear heq hc
  by_cases hlt : k < l.length
  · obtain ⟨e, b, o, HE, rfl, hb, c0⟩ := HR.out k hlt
    have hlt2 : k < m.length := by rw [← HQ.out]; exact hlt
    obtain ⟨x, b1, o1, HX, rfl, hb1, d0⟩ := HR1.out k hlt2
    repeat' (first | refine X_d (fun vb hvb => ?_) | refine X_dg (fun vb hvb => ?_) | refine X_q ?_ | refine X_g ?_ | refine X_gf ?_ | refine X_niln ?_ | refine X_nil ?_ | (refine X_var (fun yn bn hn1 hn2 hn3 hn4 hn5 => ?_)) | refine W_seqk (fun K hK => ?_) | refine W_seqr ?_ | refine W_draw (by kernel_rfl) (by kernel_rfl) ?_ | refine W_ret ?_ | refine W_skip ?_ | refine W_block ?_ | refine W_exit ?_ | (refine X_s (fun x K hK => ?_); go_simp; refine hK _ _ (Ext.alloc _ _) ?_; clear hK K; refine X_al x ?_; generalize (World.later _ x).heap.size = bn; intro yn hn1 hn2 hn3 hn4 hn5; clear x) | refine W_tt ?_ | refine W_ff ?_ | refine W_test (fun hc => ?_) (fun hc => ?_) | go_step)
    · refine Body_ret hd ⟨congrArg Value.bool ?_, by simp⟩
      have : l ≠ m := fun h => by subst h; rw [HE.out] at HX; cases HX.out; simp at hc
      simp [this]
    · refine ⟨_, _, rfl, hd, hA, n - 1, by omega, k + 1, trivial, by omega, by simp, ?_⟩
      rw [take_snoc HE.out, take_snoc HX.out, Hm.out]
      simp at hc
      rw [hc]
  · repeat' (first | refine X_d (fun vb hvb => ?_) | refine X_dg (fun vb hvb => ?_) | refine X_q ?_ | refine X_g ?_ | refine X_gf ?_ | refine X_niln ?_ | refine X_nil ?_ | (refine X_var (fun yn bn hn1 hn2 hn3 hn4 hn5 => ?_)) | refine W_seqk (fun K hK => ?_) | refine W_seqr ?_ | refine W_draw (by kernel_rfl) (by kernel_rfl) ?_ | refine W_ret ?_ | refine W_skip ?_ | refine W_block ?_ | refine W_exit ?_ | (refine X_s (fun x K hK => ?_); go_simp; refine hK _ _ (Ext.alloc _ _) ?_; clear hK K; refine X_al x ?_; generalize (World.later _ x).heap.size = bn; intro yn hn1 hn2 hn3 hn4 hn5; clear x) | refine W_tt ?_ | refine W_ff ?_ | refine W_test (fun hc => ?_) (fun hc => ?_) | go_step)
    obtain rfl : k = l.length := by omega
    refine Body_ret hd ⟨congrArg Value.bool ?_, by simp⟩
    have := Hm.out
    rw [List.take_length, HQ.out, List.take_length] at this
    simp [this]
theorem among_calls (l : List Int) (u : Value) (n : Int) (w : World) (hl : RdI w u l) :
    Pure Try.prog 33 #[u, .int .i64 n] w (.bool (decide (n ∈ l))) := by
  obtain ⟨A0, c, rfl, hc, hcm, HR⟩ := hl.int
  clear hl
  refine Fn_of Try.func33 rfl (Nat.le_of_ble_eq_true rfl) ?_; intro A hd hA; simp only [ix, Nat.reduceAdd]; replace hA : A.tmps.size = 18 := hA
  repeat' (first | refine X_d (fun vb hvb => ?_) | refine X_dg (fun vb hvb => ?_) | refine X_q ?_ | refine X_g ?_ | refine X_gf ?_ | refine X_niln ?_ | refine X_nil ?_ | (refine X_var (fun yn bn hn1 hn2 hn3 hn4 hn5 => ?_)) | refine W_seqk (fun K hK => ?_) | refine W_seqr ?_ | refine W_draw (by kernel_rfl) (by kernel_rfl) ?_ | refine W_ret ?_ | refine W_skip ?_ | refine W_block ?_ | refine W_exit ?_ | (refine X_s (fun x K hK => ?_); go_simp; refine hK _ _ (Ext.alloc _ _) ?_; clear hK K; refine X_al x ?_; generalize (World.later _ x).heap.size = bn; intro yn hn1 hn2 hn3 hn4 hn5; clear x) | refine W_tt ?_ | refine W_ff ?_ | refine W_test (fun hc => ?_) (fun hc => ?_) | go_step)
  refine W_loops [0, 1, 5] (fun z vs w' => ∃ k : Nat, w' = w ∧ k + z = l.length ∧ vs = [.slice A0 l.length c, .int .i64 n, .int .i64 k] ∧ n ∉ l.take k) l.length hd hA (by decide) ⟨0, rfl, by omega, by simp, by simp⟩ ?_
  clear hd hA A; intro z vs B w' hd hA _ ⟨k, hw, hk, hvs, hm⟩; subst hw hvs
  simp only [List.zip_cons_cons, List.zip_nil_right, List.zip_nil_left]
  have Hm := Lib.hid hm; clear hm
  by_cases hlt : k < l.length
  · obtain ⟨e, b, o, HE, rfl, hb, c0⟩ := HR.out k hlt
    repeat' (first | refine X_d (fun vb hvb => ?_) | refine X_dg (fun vb hvb => ?_) | refine X_q ?_ | refine X_g ?_ | refine X_gf ?_ | refine X_niln ?_ | refine X_nil ?_ | (refine X_var (fun yn bn hn1 hn2 hn3 hn4 hn5 => ?_)) | refine W_seqk (fun K hK => ?_) | refine W_seqr ?_ | refine W_draw (by kernel_rfl) (by kernel_rfl) ?_ | refine W_ret ?_ | refine W_skip ?_ | refine W_block ?_ | refine W_exit ?_ | (refine X_s (fun x K hK => ?_); go_simp; refine hK _ _ (Ext.alloc _ _) ?_; clear hK K; refine X_al x ?_; generalize (World.later _ x).heap.size = bn; intro yn hn1 hn2 hn3 hn4 hn5; clear x) | refine W_tt ?_ | refine W_ff ?_ | refine W_test (fun hc => ?_) (fun hc => ?_) | go_step)
    · refine Body_ret hd ⟨congrArg Value.bool ?_, by simp⟩
      simp at hc
      subst hc
      simp [mem_of_get HE.out]
    · refine ⟨_, _, rfl, hd, hA, z - 1, by omega, k + 1, trivial, by omega, by simp, ?_⟩
      rw [take_snoc HE.out]
      simp at hc
      have := Hm.out
      simp only [List.mem_append, List.mem_singleton, not_or]
      exact ⟨this, fun h => hc h.symm⟩
  · repeat' (first | refine X_d (fun vb hvb => ?_) | refine X_dg (fun vb hvb => ?_) | refine X_q ?_ | refine X_g ?_ | refine X_gf ?_ | refine X_niln ?_ | refine X_nil ?_ | (refine X_var (fun yn bn hn1 hn2 hn3 hn4 hn5 => ?_)) | refine W_seqk (fun K hK => ?_) | refine W_seqr ?_ | refine W_draw (by kernel_rfl) (by kernel_rfl) ?_ | refine W_ret ?_ | refine W_skip ?_ | refine W_block ?_ | refine W_exit ?_ | (refine X_s (fun x K hK => ?_); go_simp; refine hK _ _ (Ext.alloc _ _) ?_; clear hK K; refine X_al x ?_; generalize (World.later _ x).heap.size = bn; intro yn hn1 hn2 hn3 hn4 hn5; clear x) | refine W_tt ?_ | refine W_ff ?_ | refine W_test (fun hc => ?_) (fun hc => ?_) | go_step)
    obtain rfl : k = l.length := by omega
    refine Body_ret hd ⟨congrArg Value.bool ?_, by simp⟩
    have := Hm.out
    rw [List.take_length] at this
    simp [this]

def behindB (l : List Ent) (e : Ent) : Bool := l.any fun x => decide (0 ≤ e.id) && (x.id == e.id) && (x.num == e.num) && decide (1 < x.kind)
theorem behind_calls (l : List Ent) (v : Value) (e : Ent) (w : World) (hl : RdE w v l) :
    Pure Try.prog 69 #[v, e.v] w (.bool (behindB l e)) := by
  obtain ⟨A0, c, rfl, hc, hcm, HR⟩ := hl.ent
  clear hl
  refine Fn_of Try.func69 rfl (Nat.le_of_ble_eq_true rfl) ?_; intro A hd hA; simp only [ix, Nat.reduceAdd]; replace hA : A.tmps.size = 43 := hA
  repeat' (first | refine X_d (fun vb hvb => ?_) | refine X_dg (fun vb hvb => ?_) | refine X_q ?_ | refine X_g ?_ | refine X_gf ?_ | refine X_niln ?_ | refine X_nil ?_ | (refine X_var (fun yn bn hn1 hn2 hn3 hn4 hn5 => ?_)) | refine W_seqk (fun K hK => ?_) | refine W_seqr ?_ | refine W_draw (by kernel_rfl) (by kernel_rfl) ?_ | refine W_ret ?_ | refine W_skip ?_ | refine W_block ?_ | refine W_exit ?_ | (refine X_s (fun x K hK => ?_); go_simp; refine hK _ _ (Ext.alloc _ _) ?_; clear hK K; refine X_al x ?_; generalize (World.later _ x).heap.size = bn; intro yn hn1 hn2 hn3 hn4 hn5; clear x) | refine W_tt ?_ | refine W_ff ?_ | refine W_test (fun hc => ?_) (fun hc => ?_) | go_step)
  refine W_loops [0, 3, 5] (fun n vs w' => ∃ k : Nat, w' = w.later yn ∧ k + n = l.length ∧ vs = [.slice A0 l.length c, .pointer (some ⟨bn, 0, none⟩), .int .i64 k] ∧ behindB (l.take k) e = false) l.length hd hA (by decide) ⟨0, rfl, by omega, by simp, by simp [behindB]⟩ ?_
  clear hd hA A; intro n vs B w' hd hA _ ⟨k, hw, hk, hvs, hm⟩; subst hw hvs
  simp only [List.zip_cons_cons, List.zip_nil_right, List.zip_nil_left]
  have Hm := Lib.hid hm; clear hm
  by_cases hlt : k < l.length
  · obtain ⟨x, b, o, HE, rfl, hb, c0, c1, c2, c3, c4, c5⟩ := HR.out k hlt
    repeat' (first | refine X_d (fun vb hvb => ?_) | refine X_dg (fun vb hvb => ?_) | refine X_q ?_ | refine X_g ?_ | refine X_gf ?_ | refine X_niln ?_ | refine X_nil ?_ | (refine X_var (fun yn bn hn1 hn2 hn3 hn4 hn5 => ?_)) | refine W_seqk (fun K hK => ?_) | refine W_seqr ?_ | refine W_draw (by kernel_rfl) (by kernel_rfl) ?_ | refine W_ret ?_ | refine W_skip ?_ | refine W_block ?_ | refine W_exit ?_ | (refine X_s (fun x K hK => ?_); go_simp; refine hK _ _ (Ext.alloc _ _) ?_; clear hK K; refine X_al x ?_; generalize (World.later _ x).heap.size = bn; intro yn hn1 hn2 hn3 hn4 hn5; clear x) | refine W_tt ?_ | refine W_ff ?_ | refine W_test (fun hc => ?_) (fun hc => ?_) | go_step)
    · refine Body_ret hd ⟨congrArg Value.bool ?_, by simp⟩
      repeat cases ‹Eqn _ _›
      simp [behindB]
      exact ⟨x, mem_of_get HE, by simpa [and_assoc] using hc⟩
    · refine ⟨_, _, rfl, hd, hA, n - 1, by omega, k + 1, trivial, by omega, by simp, ?_⟩
      have := Hm.out
      repeat cases ‹Eqn _ _›
      unfold behindB at *
      rw [take_snoc HE, List.any_append, this]
      simpa using hc
  · repeat' (first | refine X_d (fun vb hvb => ?_) | refine X_dg (fun vb hvb => ?_) | refine X_q ?_ | refine X_g ?_ | refine X_gf ?_ | refine X_niln ?_ | refine X_nil ?_ | (refine X_var (fun yn bn hn1 hn2 hn3 hn4 hn5 => ?_)) | refine W_seqk (fun K hK => ?_) | refine W_seqr ?_ | refine W_draw (by kernel_rfl) (by kernel_rfl) ?_ | refine W_ret ?_ | refine W_skip ?_ | refine W_block ?_ | refine W_exit ?_ | (refine X_s (fun x K hK => ?_); go_simp; refine hK _ _ (Ext.alloc _ _) ?_; clear hK K; refine X_al x ?_; generalize (World.later _ x).heap.size = bn; intro yn hn1 hn2 hn3 hn4 hn5; clear x) | refine W_tt ?_ | refine W_ff ?_ | refine W_test (fun hc => ?_) (fun hc => ?_) | go_step)
    obtain rfl : k = l.length := by omega
    refine Body_ret hd ⟨congrArg Value.bool ?_, by simp⟩
    have := Hm.out
    rw [List.take_length] at this
    simp [this]
end Go.Ws
