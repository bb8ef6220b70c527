import Derived.Test.YtkdcgmloapmpkaaLawE
import Derived.Test.YtkdcgmloapmpkaaPlainR
import Derived.Test.YtkdcgmloapmpkaaSoft
namespace Go.Ws
open Go Go.RowKit Go.Proofs
set_option maxHeartbeats 2000000
set_option maxRecDepth 100000
set_option linter.unusedVariables false
set_option linter.unusedSimpArgs false
set_option pp.deepTerms true
set_option pp.maxSteps 100000000

theorem is9_calls {rb : Nat} {w : World} {F : Nat → Prop} {log : List Ent} {at_ : Int} {told : List Int} {u v : Value} (h : Rdr w rb F log at_ told) (hl : RdE w u log) (ht : RdI w v told) (htn : told.length ≤ 1000000) :
    Pure Try.prog 36 #[.pointer (some ⟨rb, 0, none⟩), .agg #[u, .int .i64 at_, v]] w (.bool true) := by
  have H := Lib.hid h
  have hl0 := Lib.hid hl
  have ht0 := Lib.hid ht
  obtain ⟨A0, c, rfl, hc, hcm, -⟩ := hl.ent
  obtain ⟨A1, c1, rfl, hc1, hcm1, -⟩ := ht.int
  clear h hl ht
  refine Fn_of Try.func36 rfl (Nat.le_of_ble_eq_true rfl) ?_; intro A hd hA; simp only [ix, Nat.reduceAdd]; replace hA : A.tmps.size = 25 := hA
  repeat' (first | refine X_gt ?_ | refine X_q ?_ | refine X_g ?_ | refine X_gf ?_ | refine X_niln ?_ | refine X_nil ?_ | (refine X_var (fun yn bn hn1 hn2 hn3 hn4 hn5 => ?_)) | refine W_seqk (fun K hK => ?_) | refine W_seqr ?_ | refine W_ret ?_ | refine W_skip ?_ | refine W_block ?_ | refine W_exit ?_ | (refine X_s (fun x K hK => ?_); go_simp; refine hK _ _ (Ext.alloc _ _) ?_; clear hK K; refine X_al x ?_; generalize (World.later _ x).heap.size = bn; intro yn hn1 hn2 hn3 hn4 hn5; clear x) | refine W_tt ?_ | refine W_ff ?_ | refine W_test (fun hc => ?_) (fun hc => ?_) | go_step)
  refine W_drawσ [(0, 0), (2, 0), (3, 0), (4, 0), (1, 1), (5, 0), (6, 0), (7, 0), (9, 0), (10, 0), (8, 1), (11, 0), (12, 0), (13, 0), (14, 0), (16, 0), (17, 0), (15, 1), (18, 1), (19, 0), (20, 0)] (by kernel_rfl) (by kernel_rfl) ?_
  simp only [List.map_cons, List.map_nil, List.getD_cons_zero, List.getD_cons_succ]
  repeat' (first | (refine X_pure1 Try.func37 (fun x => rlen_calls (H.out.later (by simp))) ?_) | (refine X_pure1 Try.func38 (fun x => rat_calls (H.out.later (by simp))) ?_) | refine X_gt ?_ | refine X_q ?_ | refine X_g ?_ | refine X_gf ?_ | refine X_niln ?_ | refine X_nil ?_ | (refine X_var (fun yn bn hn1 hn2 hn3 hn4 hn5 => ?_)) | refine W_seqk (fun K hK => ?_) | refine W_seqr ?_ | refine W_ret ?_ | refine W_skip ?_ | refine W_block ?_ | refine W_exit ?_ | (refine X_s (fun x K hK => ?_); go_simp; refine hK _ _ (Ext.alloc _ _) ?_; clear hK K; refine X_al x ?_; generalize (World.later _ x).heap.size = bn; intro yn hn1 hn2 hn3 hn4 hn5; clear x) | refine W_tt ?_ | refine W_ff ?_ | refine W_test (fun hc => ?_) (fun hc => ?_) | go_step)
  refine X_ret1 (R := fun w0 v' w' => Ext w0 w' ∧ OwnI w' v' told ∧ ∀ b, v'.ownBlock = some b → w0.heap.size ≤ b) Try.func39 (fun x => rtold_calls (H.out.later (by simp)) htn) (fun x v' w' hR => ⟨hR.1, ?_⟩)
  obtain ⟨hE, hO, -⟩ := hR
  have HO := Lib.hid (hO.rd (enc := ics) (k := 1) (fun _ => rfl))
  have hEw : Ext w w' := Ext.trans (by simp) hE
  clear hO hE
  repeat' (first | (refine X_pure1 Try.func25 (fun z => same9_calls told told v' _ _ (HO.out.later z.2) (ht0.out.later (Ext.trans hEw z.2))) ?_) | refine X_gt ?_ | refine X_q ?_ | refine X_g ?_ | refine X_gf ?_ | refine X_niln ?_ | refine X_nil ?_ | (refine X_var (fun yn bn hn1 hn2 hn3 hn4 hn5 => ?_)) | refine W_seqk (fun K hK => ?_) | refine W_seqr ?_ | refine W_ret ?_ | refine W_skip ?_ | refine W_block ?_ | refine W_exit ?_ | (refine X_s (fun x K hK => ?_); go_simp; refine hK _ _ (Ext.alloc _ _) ?_; clear hK K; refine X_al x ?_; generalize (World.later _ x).heap.size = bn; intro yn hn1 hn2 hn3 hn4 hn5; clear x) | refine W_tt ?_ | refine W_ff ?_ | refine W_test (fun hc => ?_) (fun hc => ?_) | go_step)
  exact Body_ret hd ⟨rfl, hEw⟩
end Go.Ws
