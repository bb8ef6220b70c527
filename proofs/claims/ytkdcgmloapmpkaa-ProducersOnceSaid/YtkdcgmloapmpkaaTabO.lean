import Derived.Test.YtkdcgmloapmpkaaTabN
import Derived.Test.YtkdcgmloapmpkaaRef09B
namespace Go.Ws
open Go Go.RowKit Go.Proofs
set_option maxHeartbeats 2000000
set_option maxRecDepth 100000
set_option linter.unusedVariables false
set_option linter.unusedSimpArgs false
set_option pp.deepTerms true
set_option pp.maxSteps 100000000

def ofFrom : List Ent → List Ent → Int
  | _, [] => 0
  | log, e :: es => if appendNo log e = 0 then ofFrom (log ++ [e]) es else appendNo log e
def ofNo (l : List Ent) : Int := ofFrom [] l
theorem rightFrom_of : ∀ (es log : List Ent), rightFrom log es = decide (ofFrom log es = 0)
  | [], log => by simp [rightFrom, ofFrom]
  | e :: es, log => by
    rw [rightFrom, ofFrom, rightFrom_of es]
    by_cases h : appendNo log e = 0 <;> simp [h]
theorem rightL_of (l : List Ent) : rightL l = decide (ofNo l = 0) := rightFrom_of l []
theorem tabOf_calls (l : List Ent) (v : Value) (w : World) (hl : RdE w v l) : Ret Try.prog 43 #[v] w fun v' w' => Ext w w' ∧
    (ofNo l = 0 → ∃ b, v' = .tuple #[.pointer (some ⟨b, 0, none⟩), .int .i64 0] ∧ Tab w' b (fun k => w.heap.size ≤ k) l) ∧ (ofNo l ≠ 0 → v' = .tuple #[.pointer none, .int .i64 (ofNo l)]) := by
  obtain ⟨A0, c, rfl, hc, hcm, HR⟩ := hl.ent
  clear hl
  refine Fn_of Try.func43 rfl (Nat.le_of_ble_eq_true rfl) ?_; intro A hd hA; simp only [ix, Nat.reduceAdd]; replace hA : A.tmps.size = 23 := hA
  repeat' (first | (refine X_ret Try.func48 (tabNew_calls _) (fun v' w' hR => ?_); obtain ⟨bt, rfl, hE', hR'⟩ := hR; obtain ⟨y', rfl⟩ := hE'.get; have HT := Lib.hid hR'; clear hR' hE') | refine X_d (fun vb hvb => ?_) | refine X_dg (fun vb hvb => ?_) | refine X_q ?_ | refine X_g ?_ | refine X_gf ?_ | refine X_niln ?_ | refine X_nil ?_ | (refine X_var (fun yn bn hn1 hn2 hn3 hn4 hn5 => ?_)) | refine W_seqk (fun K hK => ?_) | refine W_seqr ?_ | refine W_draw (by kernel_rfl) (by kernel_rfl) ?_ | refine W_ret ?_ | refine W_skip ?_ | refine W_block ?_ | refine W_exit ?_ | (refine X_s (fun x K hK => ?_); go_simp; refine hK _ _ (Ext.alloc _ _) ?_; clear hK K; refine X_al x ?_; generalize (World.later _ x).heap.size = bn; intro yn hn1 hn2 hn3 hn4 hn5; clear x) | refine W_tt ?_ | refine W_ff ?_ | refine W_test (fun hc => ?_) (fun hc => ?_) | go_step)
  refine W_loops [4, 9, 10, 11] (fun n vs w' => ∃ (k : Nat) (y : Later w), w' = w.later y ∧ k + n = l.length ∧ vs = [.pointer (some ⟨bt, 0, none⟩), .slice A0 l.length c, .int .i64 l.length, .int .i64 k] ∧ Tab (w.later y) bt (fun k => w.heap.size ≤ k) (l.take k) ∧ ofNo l = ofFrom (l.take k) (l.drop k)) l.length hd hA (by decide) ?_ ?_
  · exact ⟨0, y', rfl, by omega, by simp, by simpa using HT.out, rfl⟩
  clear hd hA A HT; intro n vs B w' hd hA _ ⟨k, y, hw, hk, hvs, hT, hm⟩; subst hw hvs
  simp only [List.zip_cons_cons, List.zip_nil_right, List.zip_nil_left]
  have HT := Lib.hid hT; clear hT
  have HM := Lib.hid hm; clear hm
  by_cases hlt : k < l.length
  · obtain ⟨e, b, o, HE, rfl, hb, c0, c1, c2, c3, c4, c5⟩ := HR.out k hlt
    have hm := HM.out
    rw [drop_get HE.out, ofFrom] at hm
    have Hm := Lib.hid hm; clear hm
    repeat' (first | (refine X_ret Try.func50 (tabAppend_calls (HT.out.later (by simp)) e) (fun v' w' hR => ?_); obtain ⟨rfl, hM', hR'⟩ := hR; have hE' := Ext.fresh (by simp) hM' (fun i h => h); obtain ⟨y', rfl⟩ := hE'.get; have HT' := Lib.hid hR'; clear hR' hE') | refine X_d (fun vb hvb => ?_) | refine X_dg (fun vb hvb => ?_) | refine X_q ?_ | refine X_g ?_ | refine X_gf ?_ | refine X_niln ?_ | refine X_nil ?_ | (refine X_var (fun yn bn hn1 hn2 hn3 hn4 hn5 => ?_)) | refine W_seqk (fun K hK => ?_) | refine W_seqr ?_ | refine W_draw (by kernel_rfl) (by kernel_rfl) ?_ | refine W_ret ?_ | refine W_skip ?_ | refine W_block ?_ | refine W_exit ?_ | (refine X_s (fun x K hK => ?_); go_simp; refine hK _ _ (Ext.alloc _ _) ?_; clear hK K; refine X_al x ?_; generalize (World.later _ x).heap.size = bn; intro yn hn1 hn2 hn3 hn4 hn5; clear x) | refine W_tt ?_ | refine W_ff ?_ | refine W_test (fun hc => ?_) (fun hc => ?_) | go_step)
    · have hq : appendNo (l.take k) e ≠ 0 := by simpa using hc
      have h0 : ofNo l = appendNo (l.take k) e := by rw [Hm.out, if_neg hq]
      refine Body_ret2 hd ⟨y'.2, fun h => absurd (h0 ▸ h) hq, fun _ => by rw [h0]⟩
    · have hq : appendNo (l.take k) e = 0 := by simpa using hc
      refine ⟨_, _, rfl, hd, hA, n - 1, by omega, k + 1, y', rfl, by omega, by simp, ?_, ?_⟩
      · have := HT'.out
        rw [if_pos hq, ← take_snoc HE.out] at this
        refine this.mono ?_
        rintro j (h | h)
        · exact h
        · exact Nat.le_trans (ext_l1 w y _).size h
      · rw [Hm.out, if_pos hq, take_snoc HE.out]
  · obtain rfl : k = l.length := by omega
    repeat' (first | refine X_d (fun vb hvb => ?_) | refine X_dg (fun vb hvb => ?_) | refine X_q ?_ | refine X_g ?_ | refine X_gf ?_ | refine X_niln ?_ | refine X_nil ?_ | (refine X_var (fun yn bn hn1 hn2 hn3 hn4 hn5 => ?_)) | refine W_seqk (fun K hK => ?_) | refine W_seqr ?_ | refine W_draw (by kernel_rfl) (by kernel_rfl) ?_ | refine W_ret ?_ | refine W_skip ?_ | refine W_block ?_ | refine W_exit ?_ | (refine X_s (fun x K hK => ?_); go_simp; refine hK _ _ (Ext.alloc _ _) ?_; clear hK K; refine X_al x ?_; generalize (World.later _ x).heap.size = bn; intro yn hn1 hn2 hn3 hn4 hn5; clear x) | refine W_tt ?_ | refine W_ff ?_ | refine W_test (fun hc => ?_) (fun hc => ?_) | go_step)
    have h0 : ofNo l = 0 := by rw [HM.out, List.drop_length]; rfl
    refine Body_ret2 hd ⟨y.2, fun _ => ⟨bt, rfl, by simpa using HT.out⟩, fun h => absurd h0 h⟩
end Go.Ws
