import Derived.Test.YtkdcgmloapmpkaaLawL
namespace Go.Ws
open Go Go.RowKit Go.Proofs
set_option maxHeartbeats 2000000
set_option maxRecDepth 100000
set_option linter.unusedVariables false
set_option linter.unusedSimpArgs false
set_option pp.deepTerms true
set_option pp.maxSteps 100000000

theorem noneNil {w : World} : Pure Try.prog 74 #[.pointer none] w (.bool true) := by
  refine Fn_of Try.func74 rfl (Nat.le_of_ble_eq_true rfl) ?_; intro A hd hA; simp only [ix, Nat.reduceAdd]; replace hA : A.tmps.size = 12 := hA
  repeat' (first | refine X_gt ?_ | refine X_q ?_ | refine X_g ?_ | refine X_gf ?_ | refine X_niln ?_ | refine X_nil ?_ | (refine X_var (fun yn bn hn1 hn2 hn3 hn4 hn5 => ?_)) | refine W_seqk (fun K hK => ?_) | refine W_seqr ?_ | refine W_ret ?_ | refine W_skip ?_ | refine W_block ?_ | refine W_exit ?_ | (refine X_s (fun x K hK => ?_); go_simp; refine hK _ _ (Ext.alloc _ _) ?_; clear hK K; refine X_al x ?_; generalize (World.later _ x).heap.size = bn; intro yn hn1 hn2 hn3 hn4 hn5; clear x) | refine W_tt ?_ | refine W_ff ?_ | refine W_test (fun hc => ?_) (fun hc => ?_) | go_step)
  exact Body_ret hd ⟨rfl, by simp⟩
theorem mayNil {w : World} (e : Ent) : Pure Try.prog 76 #[.pointer none, e.v] w (.int .i64 1) := by
  refine Fn_of Try.func76 rfl (Nat.le_of_ble_eq_true rfl) ?_; intro A hd hA; simp only [ix, Nat.reduceAdd]; replace hA : A.tmps.size = 44 := hA
  repeat' (first | refine X_pure Try.func74 (noneNil) ?_ | refine X_gpure Try.func74 (fun _ => noneNil) ?_ | refine X_gt ?_ | refine X_q ?_ | refine X_g ?_ | refine X_gf ?_ | refine X_niln ?_ | refine X_nil ?_ | (refine X_var (fun yn bn hn1 hn2 hn3 hn4 hn5 => ?_)) | refine W_seqk (fun K hK => ?_) | refine W_seqr ?_ | refine W_ret ?_ | refine W_skip ?_ | refine W_block ?_ | refine W_exit ?_ | (refine X_s (fun x K hK => ?_); go_simp; refine hK _ _ (Ext.alloc _ _) ?_; clear hK K; refine X_al x ?_; generalize (World.later _ x).heap.size = bn; intro yn hn1 hn2 hn3 hn4 hn5; clear x) | refine W_tt ?_ | refine W_ff ?_ | refine W_test (fun hc => ?_) (fun hc => ?_) | go_step)
  exact Body_ret hd ⟨rfl, by simp⟩
theorem tCheck_nil {w : World} (e : Ent) : Pure Try.prog 49 #[.pointer none, e.v] w (.int .i64 1) := by
  refine Fn_of Try.func49 rfl (Nat.le_of_ble_eq_true rfl) ?_; intro A hd hA; simp only [ix, Nat.reduceAdd]; replace hA : A.tmps.size = 41 := hA
  repeat' (first | refine X_pure Try.func76 (mayNil e) ?_ | refine X_gpure Try.func76 (fun _ => mayNil e) ?_ | (refine W_scope ?_) | refine X_gt ?_ | refine X_q ?_ | refine X_g ?_ | refine X_gf ?_ | refine X_niln ?_ | refine X_nil ?_ | (refine X_var (fun yn bn hn1 hn2 hn3 hn4 hn5 => ?_)) | refine W_seqk (fun K hK => ?_) | refine W_seqr ?_ | refine W_ret ?_ | refine W_skip ?_ | refine W_block ?_ | refine W_exit ?_ | (refine X_s (fun x K hK => ?_); go_simp; refine hK _ _ (Ext.alloc _ _) ?_; clear hK K; refine X_al x ?_; generalize (World.later _ x).heap.size = bn; intro yn hn1 hn2 hn3 hn4 hn5; clear x) | refine W_tt ?_ | refine W_ff ?_ | refine W_test (fun hc => ?_) (fun hc => ?_) | go_step)
  exact Body_ret hd ⟨rfl, by simp⟩
theorem tAppend_nil {w : World} (e : Ent) : Pure Try.prog 50 #[.pointer none, e.v] w (.int .i64 1) := by
  refine Fn_of Try.func50 rfl (Nat.le_of_ble_eq_true rfl) ?_; intro A hd hA; simp only [ix, Nat.reduceAdd]; replace hA : A.tmps.size = 124 := hA
  repeat' (first | refine X_pure Try.func76 (mayNil e) ?_ | refine X_gpure Try.func76 (fun _ => mayNil e) ?_ | refine X_gt ?_ | refine X_q ?_ | refine X_g ?_ | refine X_gf ?_ | refine X_niln ?_ | refine X_nil ?_ | (refine X_var (fun yn bn hn1 hn2 hn3 hn4 hn5 => ?_)) | refine W_seqk (fun K hK => ?_) | refine W_seqr ?_ | refine W_ret ?_ | refine W_skip ?_ | refine W_block ?_ | refine W_exit ?_ | (refine X_s (fun x K hK => ?_); go_simp; refine hK _ _ (Ext.alloc _ _) ?_; clear hK K; refine X_al x ?_; generalize (World.later _ x).heap.size = bn; intro yn hn1 hn2 hn3 hn4 hn5; clear x) | refine W_tt ?_ | refine W_ff ?_ | refine W_test (fun hc => ?_) (fun hc => ?_) | go_step)
  exact Body_ret hd ⟨rfl, by simp⟩
theorem tTrunc_nil {w : World} (n : Int) : Pure Try.prog 54 #[.pointer none, .int .i64 n] w (.int .i64 1) := by
  refine Fn_of Try.func54 rfl (Nat.le_of_ble_eq_true rfl) ?_; intro A hd hA; simp only [ix, Nat.reduceAdd]; replace hA : A.tmps.size = 42 := hA
  repeat' (first | refine X_pure Try.func74 (noneNil) ?_ | refine X_gpure Try.func74 (fun _ => noneNil) ?_ | refine X_gt ?_ | refine X_q ?_ | refine X_g ?_ | refine X_gf ?_ | refine X_niln ?_ | refine X_nil ?_ | (refine X_var (fun yn bn hn1 hn2 hn3 hn4 hn5 => ?_)) | refine W_seqk (fun K hK => ?_) | refine W_seqr ?_ | refine W_ret ?_ | refine W_skip ?_ | refine W_block ?_ | refine W_exit ?_ | (refine X_s (fun x K hK => ?_); go_simp; refine hK _ _ (Ext.alloc _ _) ?_; clear hK K; refine X_al x ?_; generalize (World.later _ x).heap.size = bn; intro yn hn1 hn2 hn3 hn4 hn5; clear x) | refine W_tt ?_ | refine W_ff ?_ | refine W_test (fun hc => ?_) (fun hc => ?_) | go_step)
  exact Body_ret hd ⟨rfl, by simp⟩
theorem tStable_nil {w : World} : Pure Try.prog 53 #[.pointer none] w (.int .i64 0) := by
  refine Fn_of Try.func53 rfl (Nat.le_of_ble_eq_true rfl) ?_; intro A hd hA; simp only [ix, Nat.reduceAdd]; replace hA : A.tmps.size = 28 := hA
  repeat' (first | refine X_pure Try.func74 (noneNil) ?_ | refine X_gpure Try.func74 (fun _ => noneNil) ?_ | refine X_gt ?_ | refine X_q ?_ | refine X_g ?_ | refine X_gf ?_ | refine X_niln ?_ | refine X_nil ?_ | (refine X_var (fun yn bn hn1 hn2 hn3 hn4 hn5 => ?_)) | refine W_seqk (fun K hK => ?_) | refine W_seqr ?_ | refine W_ret ?_ | refine W_skip ?_ | refine W_block ?_ | refine W_exit ?_ | (refine X_s (fun x K hK => ?_); go_simp; refine hK _ _ (Ext.alloc _ _) ?_; clear hK K; refine X_al x ?_; generalize (World.later _ x).heap.size = bn; intro yn hn1 hn2 hn3 hn4 hn5; clear x) | refine W_tt ?_ | refine W_ff ?_ | refine W_test (fun hc => ?_) (fun hc => ?_) | go_step)
  exact Body_ret hd ⟨rfl, by simp⟩
theorem tLog_nil {w : World} : Pure Try.prog 59 #[.pointer none] w (.slice none 0 0) := by
  refine Fn_of Try.func59 rfl (Nat.le_of_ble_eq_true rfl) ?_; intro A hd hA; simp only [ix, Nat.reduceAdd]; replace hA : A.tmps.size = 20 := hA
  repeat' (first | refine X_pure Try.func74 (noneNil) ?_ | refine X_gpure Try.func74 (fun _ => noneNil) ?_ | refine X_gt ?_ | refine X_q ?_ | refine X_g ?_ | refine X_gf ?_ | refine X_niln ?_ | refine X_nil ?_ | (refine X_var (fun yn bn hn1 hn2 hn3 hn4 hn5 => ?_)) | refine W_seqk (fun K hK => ?_) | refine W_seqr ?_ | refine W_ret ?_ | refine W_skip ?_ | refine W_block ?_ | refine W_exit ?_ | (refine X_s (fun x K hK => ?_); go_simp; refine hK _ _ (Ext.alloc _ _) ?_; clear hK K; refine X_al x ?_; generalize (World.later _ x).heap.size = bn; intro yn hn1 hn2 hn3 hn4 hn5; clear x) | refine W_tt ?_ | refine W_ff ?_ | refine W_test (fun hc => ?_) (fun hc => ?_) | go_step)
  exact Body_ret hd ⟨rfl, by simp⟩
theorem tWriter_nil {w : World} (id : Int) : Pure Try.prog 44 #[.pointer none, .int .i64 id] w (.tuple #[wrV 0 0 0 (.slice none 0 0), .int .i64 1]) := by
  refine Fn_of Try.func44 rfl (Nat.le_of_ble_eq_true rfl) ?_; intro A hd hA; simp only [ix, Nat.reduceAdd]; replace hA : A.tmps.size = 59 := hA
  repeat' (first | refine X_pure Try.func74 (noneNil) ?_ | refine X_gpure Try.func74 (fun _ => noneNil) ?_ | refine X_gt ?_ | refine X_q ?_ | refine X_g ?_ | refine X_gf ?_ | refine X_niln ?_ | refine X_nil ?_ | (refine X_var (fun yn bn hn1 hn2 hn3 hn4 hn5 => ?_)) | refine W_seqk (fun K hK => ?_) | refine W_seqr ?_ | refine W_ret ?_ | refine W_skip ?_ | refine W_block ?_ | refine W_exit ?_ | (refine X_s (fun x K hK => ?_); go_simp; refine hK _ _ (Ext.alloc _ _) ?_; clear hK K; refine X_al x ?_; generalize (World.later _ x).heap.size = bn; intro yn hn1 hn2 hn3 hn4 hn5; clear x) | refine W_tt ?_ | refine W_ff ?_ | refine W_test (fun hc => ?_) (fun hc => ?_) | go_step)
  refine X_store (off := 0) (Blk.new hn5.out) (fun W1 hM1 hB1 => ?_)
  have hE1 : Ext w W1 := Ext.fresh yn.2 hM1 (fun i hi => by omega)
  repeat' (first | refine X_gt ?_ | refine X_q ?_ | refine X_g ?_ | refine X_gf ?_ | refine X_niln ?_ | refine X_nil ?_ | (refine X_var (fun yn bn hn1 hn2 hn3 hn4 hn5 => ?_)) | refine W_seqk (fun K hK => ?_) | refine W_seqr ?_ | refine W_ret ?_ | refine W_skip ?_ | refine W_block ?_ | refine W_exit ?_ | (refine X_s (fun x K hK => ?_); go_simp; refine hK _ _ (Ext.alloc _ _) ?_; clear hK K; refine X_al x ?_; generalize (World.later _ x).heap.size = bn; intro yn hn1 hn2 hn3 hn4 hn5; clear x) | refine W_tt ?_ | refine W_ff ?_ | refine W_test (fun hc => ?_) (fun hc => ?_) | go_step)
  exact Body_retcellv (cs := [.int .i64 0, .int .i64 0, .int .i64 0, .slice none 0 0]) hd ⟨rfl, hE1⟩ hB1 (fun k hk => by
    have hk : k < 4 := hk
    rw [put_in k (by simpa [Value.cells] using hk) (by omega)]
    obtain rfl | rfl | rfl | rfl : k = 0 ∨ k = 1 ∨ k = 2 ∨ k = 3 := by omega
    all_goals rfl) Try.underlying63
theorem checks8_calls (l : List Ent) (v : Value) (e : Ent) (w : World) (hl : RdE w v l) : Pure Try.prog 17 #[v, e.v] w (.bool true) := by
  have hl0 := Lib.hid hl
  obtain ⟨A0, c, rfl, hc, hcm, HR⟩ := hl.ent
  clear hl HR
  by_cases hlen : l.length ≤ 60
  · have hli : ¬ (60 : Int) < (l.length : Int) := by omega
    obtain ⟨hok, hll⟩ := ofL_ok l
    have hRT := Lib.hid (of_right (ofL l) [] hok)
    obtain ⟨lg, hlg⟩ : ∃ x, ofL l = x := ⟨_, rfl⟩
    rw [hlg] at hok hll hRT
    have HLG := Lib.hid hlg
    have hln : lg.length < 1000000 := by omega
    clear hlg
    refine Fn_of Try.func17 rfl (Nat.le_of_ble_eq_true rfl) ?_; intro A hd hA; simp only [ix, Nat.reduceAdd]; replace hA : A.tmps.size = 88 := hA
    repeat' (first | refine X_gt ?_ | refine X_q ?_ | refine X_g ?_ | refine X_gf ?_ | refine X_niln ?_ | refine X_nil ?_ | (refine X_var (fun yn bn hn1 hn2 hn3 hn4 hn5 => ?_)) | refine W_seqk (fun K hK => ?_) | refine W_seqr ?_ | refine W_ret ?_ | refine W_skip ?_ | refine W_block ?_ | refine W_exit ?_ | (refine X_s (fun x K hK => ?_); go_simp; refine hK _ _ (Ext.alloc _ _) ?_; clear hK K; refine X_al x ?_; generalize (World.later _ x).heap.size = bn; intro yn hn1 hn2 hn3 hn4 hn5; clear x) | refine W_tt ?_ | refine W_ff ?_ | refine W_test (fun hc => ?_) (fun hc => ?_) | go_step)
    refine X_ret Try.func42 (of8_calls l _ _ (hl0.out.later (by simp))) (fun v' w1 hR => ?_)
    obtain ⟨hE1, hR1⟩ := hR
    rw [HLG.out] at hR1
    have HL := Lib.hid hR1
    obtain ⟨A1, n1, c1, rfl⟩ := slice_of1 hR1
    obtain ⟨y1, rfl⟩ := hE1.get
    clear hE1 hR1
    repeat' (first | refine X_gt ?_ | refine X_q ?_ | refine X_g ?_ | refine X_gf ?_ | refine X_niln ?_ | refine X_nil ?_ | (refine X_var (fun yn bn hn1 hn2 hn3 hn4 hn5 => ?_)) | refine W_seqk (fun K hK => ?_) | refine W_seqr ?_ | refine W_ret ?_ | refine W_skip ?_ | refine W_block ?_ | refine W_exit ?_ | (refine X_s (fun x K hK => ?_); go_simp; refine hK _ _ (Ext.alloc _ _) ?_; clear hK K; refine X_al x ?_; generalize (World.later _ x).heap.size = bn; intro yn hn1 hn2 hn3 hn4 hn5; clear x) | refine W_tt ?_ | refine W_ff ?_ | refine W_test (fun hc => ?_) (fun hc => ?_) | go_step)
    refine X_ret Try.func43 (tabOf_calls lg _ _ (HL.out.later (by simp))) (fun v' w2 hR => ?_)
    obtain ⟨hE2, hR1, -⟩ := hR
    obtain ⟨bt, rfl, hT⟩ := hR1 hok
    obtain ⟨y2, rfl⟩ := hE2.get
    have HT := Lib.hid hT
    clear hR1 hT hE2
    repeat' (first | refine X_pure Try.func44 (tWriter_nil _) ?_ | refine X_gpure Try.func44 (fun _ => tWriter_nil _) ?_ | refine X_pure Try.func45 (num8_calls _ _) ?_ | refine X_gpure Try.func45 (fun _ => num8_calls _ _) ?_ | refine X_pure Try.func49 (tCheck_nil e) ?_ | refine X_gpure Try.func49 (fun _ => tCheck_nil e) ?_ | refine X_pure Try.func50 (tAppend_nil e) ?_ | refine X_gpure Try.func50 (fun _ => tAppend_nil e) ?_ | refine X_pure Try.func54 (tTrunc_nil _) ?_ | refine X_gpure Try.func54 (fun _ => tTrunc_nil _) ?_ | refine X_pure Try.func53 (tStable_nil) ?_ | refine X_gpure Try.func53 (fun _ => tStable_nil) ?_ | refine X_pure Try.func51 (tabLen_nil_calls) ?_ | refine X_gpure Try.func51 (fun _ => tabLen_nil_calls) ?_ | refine X_pure Try.func59 (tLog_nil) ?_ | refine X_gpure Try.func59 (fun _ => tLog_nil) ?_ | refine X_pure Try.func60 (tabCopy_nil_calls) ?_ | refine X_gpure Try.func60 (fun _ => tabCopy_nil_calls) ?_ | refine X_gt ?_ | refine X_q ?_ | refine X_g ?_ | refine X_gf ?_ | refine X_niln ?_ | refine X_nil ?_ | (refine X_var (fun yn bn hn1 hn2 hn3 hn4 hn5 => ?_)) | refine W_seqk (fun K hK => ?_) | refine W_seqr ?_ | refine W_ret ?_ | refine W_skip ?_ | refine W_block ?_ | refine W_exit ?_ | (refine X_s (fun x K hK => ?_); go_simp; refine hK _ _ (Ext.alloc _ _) ?_; clear hK K; refine X_al x ?_; generalize (World.later _ x).heap.size = bn; intro yn hn1 hn2 hn3 hn4 hn5; clear x) | refine W_tt ?_ | refine W_ff ?_ | refine W_test (fun hc => ?_) (fun hc => ?_) | go_step)
    refine W_drawσ [(0, 0), (1, 1), (2, 0), (3, 0), (4, 0), (5, 0), (8, 0), (9, 0), (6, 1), (7, 1), (10, 1), (11, 0), (12, 0), (13, 0), (14, 0), (15, 0), (16, 1), (17, 0), (18, 0), (19, 1), (20, 0), (21, 0)] (by kernel_rfl) (by kernel_rfl) ?_
    simp only [List.map_cons, List.map_nil, List.getD_cons_zero, List.getD_cons_succ]
    repeat' (first | (refine X_pure1 Try.func45 (fun x => num8_calls _ _) ?_) | (refine X_pure1 Try.func49 (fun x => tabCheck_calls (HT.out.later (by simp)) hok e) ?_) | (refine X_pure1 Try.func57 (fun x => rcheck_calls lg _ e _ (HL.out.later (by simp)) (by omega) hRT.out) ?_) | (refine X_pure1 Try.func56 (fun x => is8_calls (HT.out.later (by simp)) hok hln (HL.out.later (by simp))) ?_) | (refine X_pure1 Try.func41 (fun z => works8_calls) ?_) | refine X_gt ?_ | refine X_q ?_ | refine X_g ?_ | refine X_gf ?_ | refine X_niln ?_ | refine X_nil ?_ | (refine X_var (fun yn bn hn1 hn2 hn3 hn4 hn5 => ?_)) | refine W_seqk (fun K hK => ?_) | refine W_seqr ?_ | refine W_ret ?_ | refine W_skip ?_ | refine W_block ?_ | refine W_exit ?_ | (refine X_s (fun x K hK => ?_); go_simp; refine hK _ _ (Ext.alloc _ _) ?_; clear hK K; refine X_al x ?_; generalize (World.later _ x).heap.size = bn; intro yn hn1 hn2 hn3 hn4 hn5; clear x) | refine W_tt ?_ | refine W_ff ?_ | refine W_test (fun hc => ?_) (fun hc => ?_) | go_step)
    exact Body_ret hd ⟨rfl, by simp⟩
  · have hli : (60 : Int) < (l.length : Int) := by omega
    refine Fn_of Try.func17 rfl (Nat.le_of_ble_eq_true rfl) ?_; intro A hd hA; simp only [ix, Nat.reduceAdd]; replace hA : A.tmps.size = 88 := hA
    repeat' (first | refine X_pure Try.func41 (works8_calls) ?_ | refine X_gpure Try.func41 (fun _ => works8_calls) ?_ | refine X_gt ?_ | refine X_q ?_ | refine X_g ?_ | refine X_gf ?_ | refine X_niln ?_ | refine X_nil ?_ | (refine X_var (fun yn bn hn1 hn2 hn3 hn4 hn5 => ?_)) | refine W_seqk (fun K hK => ?_) | refine W_seqr ?_ | refine W_ret ?_ | refine W_skip ?_ | refine W_block ?_ | refine W_exit ?_ | (refine X_s (fun x K hK => ?_); go_simp; refine hK _ _ (Ext.alloc _ _) ?_; clear hK K; refine X_al x ?_; generalize (World.later _ x).heap.size = bn; intro yn hn1 hn2 hn3 hn4 hn5; clear x) | refine W_tt ?_ | refine W_ff ?_ | refine W_test (fun hc => ?_) (fun hc => ?_) | go_step)
    exact Body_ret hd ⟨rfl, by simp⟩
end Go.Ws
