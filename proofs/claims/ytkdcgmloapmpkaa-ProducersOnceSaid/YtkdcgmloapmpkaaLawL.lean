import Derived.Test.YtkdcgmloapmpkaaLawJ
namespace Go.Ws
open Go Go.RowKit Go.Proofs
set_option maxHeartbeats 2000000
set_option maxRecDepth 100000
set_option linter.unusedVariables false
set_option linter.unusedSimpArgs false
set_option pp.deepTerms true
set_option pp.maxSteps 100000000

theorem is8_calls {w : World} {b : Nat} {F : Nat → Prop} {l : List Ent} {v : Value} (h : Tab w b F l) (hok : ofNo l = 0) (hn : l.length < 1000000) (hl : RdE w v l) : Pure Try.prog 56 #[.pointer (some ⟨b, 0, none⟩), v] w (.bool true) := by
  have HT := Lib.hid h
  have hl0 := Lib.hid hl
  have HRT := Lib.hid (of_right l [] hok)
  obtain ⟨A0, n0, c0, rfl⟩ := slice_of1 hl
  clear h hl
  refine Fn_of Try.func56 rfl (Nat.le_of_ble_eq_true rfl) ?_; intro A hd hA; simp only [ix, Nat.reduceAdd]; replace hA : A.tmps.size = 47 := hA
  repeat' (first | refine X_d (fun vb hvb => ?_) | refine X_dg (fun vb hvb => ?_) | refine X_q ?_ | refine X_g ?_ | refine X_gf ?_ | refine X_niln ?_ | refine X_nil ?_ | (refine X_var (fun yn bn hn1 hn2 hn3 hn4 hn5 => ?_)) | refine W_seqk (fun K hK => ?_) | refine W_seqr ?_ | refine W_ret ?_ | refine W_skip ?_ | refine W_block ?_ | refine W_exit ?_ | (refine X_s (fun x K hK => ?_); go_simp; refine hK _ _ (Ext.alloc _ _) ?_; clear hK K; refine X_al x ?_; generalize (World.later _ x).heap.size = bn; intro yn hn1 hn2 hn3 hn4 hn5; clear x) | refine W_tt ?_ | refine W_ff ?_ | refine W_test (fun hc => ?_) (fun hc => ?_) | go_step)
  refine W_loops [0, 1, 5] (fun n vs w' => ∃ (k : Nat) (y : Later w), w' = w.later y ∧ k + n = 4 ∧ vs = [.pointer (some ⟨b, 0, none⟩), .slice A0 n0 c0, .int .i64 k]) 4 hd hA (by decide) ⟨0, ⟨w, Ext.refl w⟩, rfl, by omega, by simp⟩ ?_
  clear hd hA A; intro n vs B w' hd hA _ ⟨k, y, hw, hk, hvs⟩; subst hw hvs
  simp only [List.zip_cons_cons, List.zip_nil_right, List.zip_nil_left]
  by_cases hk4 : k < 4
  · have hki : (k : Int) < 4 := by omega
    refine W_seqk (fun K hK => ?_)
    repeat' (first | refine X_gt ?_ | refine X_q ?_ | refine X_g ?_ | refine X_gf ?_ | refine X_niln ?_ | refine X_nil ?_ | (refine X_var (fun yn bn hn1 hn2 hn3 hn4 hn5 => ?_)) | refine W_seqk (fun K hK => ?_) | refine W_seqr ?_ | refine W_ret ?_ | refine W_skip ?_ | refine W_block ?_ | refine W_exit ?_ | (refine X_s (fun x K hK => ?_); go_simp; refine hK _ _ (Ext.alloc _ _) ?_; clear hK K; refine X_al x ?_; generalize (World.later _ x).heap.size = bn; intro yn hn1 hn2 hn3 hn4 hn5; clear x) | refine W_tt ?_ | refine W_ff ?_ | refine W_test (fun hc => ?_) (fun hc => ?_) | go_step)
    refine X_ret Try.func44 (tabWriter_calls (HT.out.later (by simp)) hok hn k) (fun v' w2 hR => ?_)
    rw [if_neg (by omega)] at hR
    obtain ⟨u, rfl, hE2, hu, -⟩ := hR
    have HU := Lib.hid (hu.rd Opn.len)
    obtain ⟨A9, n9, c9, rfl⟩ := slice_of1 HU.out
    obtain ⟨y2, rfl⟩ := hE2.get
    clear hu hE2
    repeat' (first | refine X_gt ?_ | refine X_q ?_ | refine X_g ?_ | refine X_gf ?_ | refine X_niln ?_ | refine X_nil ?_ | (refine X_var (fun yn bn hn1 hn2 hn3 hn4 hn5 => ?_)) | refine W_seqk (fun K hK => ?_) | refine W_seqr ?_ | refine W_ret ?_ | refine W_skip ?_ | refine W_block ?_ | refine W_exit ?_ | (refine X_s (fun x K hK => ?_); go_simp; refine hK _ _ (Ext.alloc _ _) ?_; clear hK K; refine X_al x ?_; generalize (World.later _ x).heap.size = bn; intro yn hn1 hn2 hn3 hn4 hn5; clear x) | refine W_tt ?_ | refine W_ff ?_ | refine W_test (fun hc => ?_) (fun hc => ?_) | go_step)
    refine W_drawσ [(0, 0), (1, 1), (2, 0), (3, 0), (4, 0), (5, 0), (6, 0), (7, 1), (8, 1), (9, 0), (10, 0)] (by kernel_rfl) (by kernel_rfl) ?_
    simp only [List.map_cons, List.map_nil, List.getD_cons_zero, List.getD_cons_succ]
    repeat' (first | (refine X_pure1 Try.func45 (fun x => num8_calls 0 _) ?_) | refine X_gt ?_ | refine X_q ?_ | refine X_g ?_ | refine X_gf ?_ | refine X_niln ?_ | refine X_nil ?_ | (refine X_var (fun yn bn hn1 hn2 hn3 hn4 hn5 => ?_)) | refine W_seqk (fun K hK => ?_) | refine W_seqr ?_ | refine W_ret ?_ | refine W_skip ?_ | refine W_block ?_ | refine W_exit ?_ | (refine X_s (fun x K hK => ?_); go_simp; refine hK _ _ (Ext.alloc _ _) ?_; clear hK K; refine X_al x ?_; generalize (World.later _ x).heap.size = bn; intro yn hn1 hn2 hn3 hn4 hn5; clear x) | refine W_tt ?_ | refine W_ff ?_ | refine W_test (fun hc => ?_) (fun hc => ?_) | go_step)
    refine X_ret1 (R := fun w0 v' w' => ∃ u', v' = wrV (highB l k) (nextB l k (highB l k)) (markB l k) u' ∧ Ext w0 w' ∧ RdO w' u' (opensB l k)) Try.func47 (fun x => rwriter_calls l _ k _ (hl0.out.later (by simp)) (by omega) HRT.out) (fun x v' w' hR => ?_)
    obtain ⟨u', rfl, hE, hU'⟩ := hR
    refine ⟨hE, ?_⟩
    have HU' := Lib.hid hU'
    obtain ⟨A8, n8, c8, rfl⟩ := slice_of1 hU'
    have HEU := Lib.hid (Ext.trans (by simp : Ext (((w.later y).later y2)) (World.later _ x)) hE)
    have hEw : Ext w w' := Ext.trans (by simp) hE
    clear hU' hE
    repeat' (first | (refine X_pure1 Try.func46 (fun z => sameW_calls (opensB l k) (opensB l k) _ _ _ _ _ _ _ _ _ (HU.out.later (Ext.trans HEU.out z.2)) (HU'.out.later z.2)) ?_) | refine X_gt ?_ | refine X_q ?_ | refine X_g ?_ | refine X_gf ?_ | refine X_niln ?_ | refine X_nil ?_ | (refine X_var (fun yn bn hn1 hn2 hn3 hn4 hn5 => ?_)) | refine W_seqk (fun K hK => ?_) | refine W_seqr ?_ | refine W_ret ?_ | refine W_skip ?_ | refine W_block ?_ | refine W_exit ?_ | (refine X_s (fun x K hK => ?_); go_simp; refine hK _ _ (Ext.alloc _ _) ?_; clear hK K; refine X_al x ?_; generalize (World.later _ x).heap.size = bn; intro yn hn1 hn2 hn3 hn4 hn5; clear x) | refine W_tt ?_ | refine W_ff ?_ | refine W_test (fun hc => ?_) (fun hc => ?_) | go_step)
    · refine ⟨_, _, rfl, hd, hA, n - 1, by omega, k + 1, ⟨w', hEw⟩, rfl, by omega, by simp⟩
  · obtain rfl : k = 4 := by omega
    have HS := Lib.hid (stable8_calls l _ (w.later y) (hl0.out.later (by simp)) (by omega))
    obtain ⟨rfl⟩ : n0 = l.length := by obtain ⟨A', c', h, -⟩ := hl0.out.ent; cases h; rfl
    repeat' (first | refine X_pure Try.func51 (tabLen_calls (HT.out.later (by simp))) ?_ | refine X_gpure Try.func51 (fun _ => tabLen_calls (HT.out.later (by simp))) ?_ | refine X_pure Try.func53 (tabStable_calls (HT.out.later (by simp)) hok) ?_ | refine X_gpure Try.func53 (fun _ => tabStable_calls (HT.out.later (by simp)) hok) ?_ | refine X_pure Try.func27 (stable8_calls l _ _ (hl0.out.later (by simp)) (by omega)) ?_ | refine X_gpure Try.func27 (fun _ => stable8_calls l _ _ (hl0.out.later (by simp)) (by omega)) ?_ | refine X_gt ?_ | refine X_q ?_ | refine X_g ?_ | refine X_gf ?_ | refine X_niln ?_ | refine X_nil ?_ | (refine X_var (fun yn bn hn1 hn2 hn3 hn4 hn5 => ?_)) | refine W_seqk (fun K hK => ?_) | refine W_seqr ?_ | refine W_ret ?_ | refine W_skip ?_ | refine W_block ?_ | refine W_exit ?_ | (refine X_s (fun x K hK => ?_); go_simp; refine hK _ _ (Ext.alloc _ _) ?_; clear hK K; refine X_al x ?_; generalize (World.later _ x).heap.size = bn; intro yn hn1 hn2 hn3 hn4 hn5; clear x) | refine W_tt ?_ | refine W_ff ?_ | refine W_test (fun hc => ?_) (fun hc => ?_) | go_step)
    refine X_ret Try.func59 (tabLog_calls (HT.out.later (by simp)) (by omega)) (fun v' w2 hR => ?_)
    obtain ⟨hE2, hO, -⟩ := hR
    obtain ⟨y2, rfl⟩ := hE2.get
    have HO := Lib.hid (hO.rd Ent.len)
    obtain ⟨A9, n9, c9, rfl⟩ := slice_of1 HO.out
    clear hO hE2
    repeat' (first | refine X_pure Try.func22 (same_calls l l _ _ _ (HO.out.later (by simp)) (hl0.out.later (by simp))) ?_ | refine X_gpure Try.func22 (fun _ => same_calls l l _ _ _ (HO.out.later (by simp)) (hl0.out.later (by simp))) ?_ | refine X_gt ?_ | refine X_q ?_ | refine X_g ?_ | refine X_gf ?_ | refine X_niln ?_ | refine X_nil ?_ | (refine X_var (fun yn bn hn1 hn2 hn3 hn4 hn5 => ?_)) | refine W_seqk (fun K hK => ?_) | refine W_seqr ?_ | refine W_ret ?_ | refine W_skip ?_ | refine W_block ?_ | refine W_exit ?_ | (refine X_s (fun x K hK => ?_); go_simp; refine hK _ _ (Ext.alloc _ _) ?_; clear hK K; refine X_al x ?_; generalize (World.later _ x).heap.size = bn; intro yn hn1 hn2 hn3 hn4 hn5; clear x) | refine W_tt ?_ | refine W_ff ?_ | refine W_test (fun hc => ?_) (fun hc => ?_) | go_step)
    exact Body_ret hd ⟨rfl, by simp⟩
end Go.Ws
