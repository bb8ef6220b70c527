import Derived.Test.YtkdcgmloapmpkaaLawA
namespace Go.Ws
open Go Go.RowKit Go.Proofs
set_option maxHeartbeats 2000000
set_option maxRecDepth 100000
set_option linter.unusedVariables false
set_option linter.unusedSimpArgs false
set_option pp.deepTerms true
set_option pp.maxSteps 100000000

theorem some_ok : ofNo someL = 0 := by decide
theorem some_view3 : viewL (someL.take 3) = [0] := by decide
theorem some_view5 : viewL (someL.take 5) = [0, 1, 2, 4] := by decide
theorem some_stable3 : stableB (someL.take 3) = 1 := by decide
theorem some_good : goodP someL = true := by decide
theorem some_push : pushNo [] someN = 0 := by decide
theorem some_to : toNo [someN] 0 1 = 0 := by decide
theorem some_more : toMore [someN] [] 1 = [0] := by decide
theorem Rd.lits {α : Type} {enc : α → List Value} {k b : Nat} {E : TypeId} {w : World} (hk : ∀ x, (enc x).length = k) (cs : Array Value) (xs : List α) (hcs : cs.toList = xs.flatMap enc) (hb : w.heap[b]? = some (.cells cs E)) (hm : xs.length ≤ maxLen) :
    Rd enc k w (.slice (some ⟨b, 0, none⟩) xs.length xs.length) xs :=
  (Own.lit (E := E) w ⟨w, Ext.refl w⟩ (y := ⟨w, Ext.refl w⟩) hk cs xs hcs hb hm).rd hk
theorem works_calls {w : World} : Pure Try.prog 19 #[] w (.bool true) := by
  refine Fn_of Try.func19 rfl (Nat.le_of_ble_eq_true rfl) ?_; intro A hd hA; simp only [ix, Nat.reduceAdd]; replace hA : A.tmps.size = 75 := hA
  repeat' (first | refine X_gt ?_ | refine X_q ?_ | refine X_g ?_ | refine X_gf ?_ | refine X_niln ?_ | refine X_nil ?_ | (refine X_var (fun yn bn hn1 hn2 hn3 hn4 hn5 => ?_)) | refine W_seqk (fun K hK => ?_) | refine W_seqr ?_ | refine W_ret ?_ | refine W_skip ?_ | refine W_block ?_ | refine W_exit ?_ | (refine X_s (fun x K hK => ?_); go_simp; refine hK _ _ (Ext.alloc _ _) ?_; clear hK K; refine X_al x ?_; generalize (World.later _ x).heap.size = bn; intro yn hn1 hn2 hn3 hn4 hn5; clear x) | refine W_tt ?_ | refine W_ff ?_ | refine W_test (fun hc => ?_) (fun hc => ?_) | go_step)
  refine X_ret Try.func62 some_calls (fun s1 w1 hR => ?_)
  obtain ⟨hE, hs⟩ := hR
  repeat' (first | refine X_gt ?_ | refine X_q ?_ | refine X_g ?_ | refine X_gf ?_ | refine X_niln ?_ | refine X_nil ?_ | (refine X_var (fun yn bn hn1 hn2 hn3 hn4 hn5 => ?_)) | refine W_seqk (fun K hK => ?_) | refine W_seqr ?_ | refine W_ret ?_ | refine W_skip ?_ | refine W_block ?_ | refine W_exit ?_ | (refine X_s (fun x K hK => ?_); go_simp; refine hK _ _ (Ext.alloc _ _) ?_; clear hK K; refine X_al x ?_; generalize (World.later _ x).heap.size = bn; intro yn hn1 hn2 hn3 hn4 hn5; clear x) | refine W_tt ?_ | refine W_ff ?_ | refine W_test (fun hc => ?_) (fun hc => ?_) | go_step)
  refine X_ret Try.func20 (visView_calls someL s1 3 _ hs (by decide)) (fun v2 w2 hR => ?_)
  obtain ⟨hE2, -, -, hR⟩ := hR
  obtain ⟨va, rfl, hva, -⟩ := hR some_ok (by decide)
  have HA := Lib.hid ((some_view3 : viewL (someL.take (3 : Int).toNat) = [0]) ▸ hva).rd
  replace hE := Ext.trans hE hE2
  clear hE2 hs hR hva
  repeat' (first | refine X_gt ?_ | refine X_q ?_ | refine X_g ?_ | refine X_gf ?_ | refine X_niln ?_ | refine X_nil ?_ | (refine X_var (fun yn bn hn1 hn2 hn3 hn4 hn5 => ?_)) | refine W_seqk (fun K hK => ?_) | refine W_seqr ?_ | refine W_ret ?_ | refine W_skip ?_ | refine W_block ?_ | refine W_exit ?_ | (refine X_s (fun x K hK => ?_); go_simp; refine hK _ _ (Ext.alloc _ _) ?_; clear hK K; refine X_al x ?_; generalize (World.later _ x).heap.size = bn; intro yn hn1 hn2 hn3 hn4 hn5; clear x) | refine W_tt ?_ | refine W_ff ?_ | refine W_test (fun hc => ?_) (fun hc => ?_) | go_step)
  refine X_ret Try.func62 some_calls (fun s2 w3 hR => ?_)
  obtain ⟨hE2, hs⟩ := hR
  replace HA := Lib.hid ((HA.out (fun _ => rfl)).later hE2)
  replace hE := Ext.trans hE hE2
  repeat' (first | refine X_gt ?_ | refine X_q ?_ | refine X_g ?_ | refine X_gf ?_ | refine X_niln ?_ | refine X_nil ?_ | (refine X_var (fun yn bn hn1 hn2 hn3 hn4 hn5 => ?_)) | refine W_seqk (fun K hK => ?_) | refine W_seqr ?_ | refine W_ret ?_ | refine W_skip ?_ | refine W_block ?_ | refine W_exit ?_ | (refine X_s (fun x K hK => ?_); go_simp; refine hK _ _ (Ext.alloc _ _) ?_; clear hK K; refine X_al x ?_; generalize (World.later _ x).heap.size = bn; intro yn hn1 hn2 hn3 hn4 hn5; clear x) | refine W_tt ?_ | refine W_ff ?_ | refine W_test (fun hc => ?_) (fun hc => ?_) | go_step)
  refine X_ret Try.func20 (visView_calls someL s2 5 _ hs (by decide)) (fun v2 w4 hR => ?_)
  obtain ⟨hE2, -, -, hR⟩ := hR
  obtain ⟨vb, rfl, hvb, -⟩ := hR some_ok (by decide)
  have HB := Lib.hid ((some_view5 : viewL (someL.take (5 : Int).toNat) = [0, 1, 2, 4]) ▸ hvb).rd
  replace hE := Ext.trans hE hE2
  replace HA := Lib.hid (HA.out.later hE2)
  clear hE2 hs hR hvb
  repeat' (first | refine X_gt ?_ | refine X_q ?_ | refine X_g ?_ | refine X_gf ?_ | refine X_niln ?_ | refine X_nil ?_ | (refine X_var (fun yn bn hn1 hn2 hn3 hn4 hn5 => ?_)) | refine W_seqk (fun K hK => ?_) | refine W_seqr ?_ | refine W_ret ?_ | refine W_skip ?_ | refine W_block ?_ | refine W_exit ?_ | (refine X_s (fun x K hK => ?_); go_simp; refine hK _ _ (Ext.alloc _ _) ?_; clear hK K; refine X_al x ?_; generalize (World.later _ x).heap.size = bn; intro yn hn1 hn2 hn3 hn4 hn5; clear x) | refine W_tt ?_ | refine W_ff ?_ | refine W_test (fun hc => ?_) (fun hc => ?_) | go_step)
  refine X_ret Try.func62 some_calls (fun s3 w5 hR => ?_)
  obtain ⟨hE2, hs⟩ := hR
  replace HA := Lib.hid (HA.out.later hE2)
  replace HB := Lib.hid ((HB.out (fun _ => rfl)).later hE2)
  replace hE := Ext.trans hE hE2
  clear hE2
  repeat' (first | refine X_gt ?_ | refine X_q ?_ | refine X_g ?_ | refine X_gf ?_ | refine X_niln ?_ | refine X_nil ?_ | (refine X_var (fun yn bn hn1 hn2 hn3 hn4 hn5 => ?_)) | refine W_seqk (fun K hK => ?_) | refine W_seqr ?_ | refine W_ret ?_ | refine W_skip ?_ | refine W_block ?_ | refine W_exit ?_ | (refine X_s (fun x K hK => ?_); go_simp; refine hK _ _ (Ext.alloc _ _) ?_; clear hK K; refine X_al x ?_; generalize (World.later _ x).heap.size = bn; intro yn hn1 hn2 hn3 hn4 hn5; clear x) | refine W_tt ?_ | refine W_ff ?_ | refine W_test (fun hc => ?_) (fun hc => ?_) | go_step)
  refine X_ret Try.func21 (visStable_calls someL s3 3 _ hs) (fun v2 w6 hR => ?_)
  obtain ⟨hE2, hR⟩ := hR
  rw [if_neg (by decide), if_neg (by decide), show stableB (someL.take (3 : Int).toNat) = 1 from some_stable3] at hR
  subst hR
  replace HA := Lib.hid (HA.out.later hE2)
  replace HB := Lib.hid (HB.out.later hE2)
  replace hE := Ext.trans hE hE2
  clear hE2 hs
  repeat' (first | refine X_gt ?_ | refine X_q ?_ | refine X_g ?_ | refine X_gf ?_ | refine X_niln ?_ | refine X_nil ?_ | (refine X_var (fun yn bn hn1 hn2 hn3 hn4 hn5 => ?_)) | refine W_seqk (fun K hK => ?_) | refine W_seqr ?_ | refine W_ret ?_ | refine W_skip ?_ | refine W_block ?_ | refine W_exit ?_ | (refine X_s (fun x K hK => ?_); go_simp; refine hK _ _ (Ext.alloc _ _) ?_; clear hK K; refine X_al x ?_; generalize (World.later _ x).heap.size = bn; intro yn hn1 hn2 hn3 hn4 hn5; clear x) | refine W_tt ?_ | refine W_ff ?_ | refine W_test (fun hc => ?_) (fun hc => ?_) | go_step)
  refine X_ret Try.func30 rnew_calls (fun v2 w7 hR => ?_)
  obtain ⟨rb, rfl, hE7, hR⟩ := hR
  have HR := Lib.hid hR
  clear hR
  repeat' (first | refine X_gt ?_ | refine X_q ?_ | refine X_g ?_ | refine X_gf ?_ | refine X_niln ?_ | refine X_nil ?_ | (refine X_var (fun yn bn hn1 hn2 hn3 hn4 hn5 => ?_)) | refine W_seqk (fun K hK => ?_) | refine W_seqr ?_ | refine W_ret ?_ | refine W_skip ?_ | refine W_block ?_ | refine W_exit ?_ | (refine X_s (fun x K hK => ?_); go_simp; refine hK _ _ (Ext.alloc _ _) ?_; clear hK K; refine X_al x ?_; generalize (World.later _ x).heap.size = bn; intro yn hn1 hn2 hn3 hn4 hn5; clear x) | refine W_tt ?_ | refine W_ff ?_ | refine W_test (fun hc => ?_) (fun hc => ?_) | go_step)
  refine X_ret Try.func62 some_calls (fun s4 w8 hR => ?_)
  obtain ⟨hE2, hs⟩ := hR
  replace HR := Lib.hid (HR.out.later hE2)
  replace hE7 := Ext.trans hE7 hE2
  clear hE2
  obtain ⟨A0, c, rfl, hc, hcm, HRR⟩ := hs.ent
  obtain ⟨e, be, oe, he, hA0, hbe, r0, r1, r2, r3, r4, r5⟩ := HRR.out 0 (by decide)
  subst hA0
  obtain rfl : e = someN := by have := he.out; cases this; rfl
  have hlen : someL.length = 5 := rfl
  rw [hlen]
  simp only [Nat.zero_mul, Nat.add_zero] at r0 r1 r2 r3 r4 r5
  have g0 : (0 : Int) < 5 := by decide
  repeat' (first | refine X_gt ?_ | refine X_q ?_ | refine X_g ?_ | refine X_gf ?_ | refine X_niln ?_ | refine X_nil ?_ | (refine X_var (fun yn bn hn1 hn2 hn3 hn4 hn5 => ?_)) | refine W_seqk (fun K hK => ?_) | refine W_seqr ?_ | refine W_ret ?_ | refine W_skip ?_ | refine W_block ?_ | refine W_exit ?_ | (refine X_s (fun x K hK => ?_); go_simp; refine hK _ _ (Ext.alloc _ _) ?_; clear hK K; refine X_al x ?_; generalize (World.later _ x).heap.size = bn; intro yn hn1 hn2 hn3 hn4 hn5; clear x) | refine W_tt ?_ | refine W_ff ?_ | refine W_test (fun hc => ?_) (fun hc => ?_) | go_step)
  refine X_ret Try.func31 (rpush_calls HR.out someN) (fun v2 w9 hR => ?_)
  obtain ⟨rfl, hM, hR⟩ := hR
  rw [some_push]
  have HR2 := Lib.hid ((show pushLog [] someN = [someN] from rfl) ▸ hR)
  have hs8 := hE7.size
  replace hE7 := Ext.fresh hE7 hM (fun _ h => h)
  clear hR HR hM r0 r1 r2 r3 r4 r5 hbe hs HRR
  repeat' (first | refine X_gt ?_ | refine X_q ?_ | refine X_g ?_ | refine X_gf ?_ | refine X_niln ?_ | refine X_nil ?_ | (refine X_var (fun yn bn hn1 hn2 hn3 hn4 hn5 => ?_)) | refine W_seqk (fun K hK => ?_) | refine W_seqr ?_ | refine W_ret ?_ | refine W_skip ?_ | refine W_block ?_ | refine W_exit ?_ | (refine X_s (fun x K hK => ?_); go_simp; refine hK _ _ (Ext.alloc _ _) ?_; clear hK K; refine X_al x ?_; generalize (World.later _ x).heap.size = bn; intro yn hn1 hn2 hn3 hn4 hn5; clear x) | refine W_tt ?_ | refine W_ff ?_ | refine W_test (fun hc => ?_) (fun hc => ?_) | go_step)
  refine X_ret Try.func32 (rto_calls HR2.out 1 (by decide) (by decide) (fun _ => by decide)) (fun v2 w10 hR => ?_)
  obtain ⟨q, rfl, hM, G, -, -, hq, -⟩ := hR.2 some_to
  replace hE7 := Ext.fresh hE7 hM (fun k h => h.elim id (fun h => Nat.le_trans hs8 h))
  have HQ := Lib.hid (((some_more : toMore [someN] [] 1 = [0]) ▸ hq).rd (enc := ics) (k := 1) (fun _ => rfl))
  replace HA := Lib.hid (HA.out.later hE7)
  replace HB := Lib.hid (HB.out.later hE7)
  replace hE := Ext.trans hE hE7
  clear hR hq hM HR2 hE7 g0 he
  repeat' (first | refine X_pure Try.func24 (num9_calls _ _) ?_ | refine X_gpure Try.func24 (fun _ => num9_calls _ _) ?_ | refine X_gt ?_ | refine X_q ?_ | refine X_g ?_ | refine X_gf ?_ | refine X_niln ?_ | refine X_nil ?_ | (refine X_var (fun yn bn hn1 hn2 hn3 hn4 hn5 => ?_)) | refine W_seqk (fun K hK => ?_) | refine W_seqr ?_ | refine W_ret ?_ | refine W_skip ?_ | refine W_block ?_ | refine W_exit ?_ | (refine X_s (fun x K hK => ?_); go_simp; refine hK _ _ (Ext.alloc _ _) ?_; clear hK K; refine X_al x ?_; generalize (World.later _ x).heap.size = bn; intro yn hn1 hn2 hn3 hn4 hn5; clear x) | refine W_tt ?_ | refine W_ff ?_ | refine W_test (fun hc => ?_) (fun hc => ?_) | go_step)
  refine X_pure Try.func25 (same9_calls [0] [0] va _ _ (HA.out.later (by simp)) (Rd.lits (enc := ics) (k := 1) (E := 3) (fun _ => rfl) _ [0] rfl hn5.out (by decide))) ?_
  repeat' (first | refine X_gt ?_ | refine X_q ?_ | refine X_g ?_ | refine X_gf ?_ | refine X_niln ?_ | refine X_nil ?_ | (refine X_var (fun yn bn hn1 hn2 hn3 hn4 hn5 => ?_)) | refine W_seqk (fun K hK => ?_) | refine W_seqr ?_ | refine W_ret ?_ | refine W_skip ?_ | refine W_block ?_ | refine W_exit ?_ | (refine X_s (fun x K hK => ?_); go_simp; refine hK _ _ (Ext.alloc _ _) ?_; clear hK K; refine X_al x ?_; generalize (World.later _ x).heap.size = bn; intro yn hn1 hn2 hn3 hn4 hn5; clear x) | refine W_tt ?_ | refine W_ff ?_ | refine W_test (fun hc => ?_) (fun hc => ?_) | go_step)
  refine X_pure Try.func25 (same9_calls [0, 1, 2, 4] [0, 1, 2, 4] vb _ _ (HB.out.later (by simp)) (Rd.lits (enc := ics) (k := 1) (E := 3) (fun _ => rfl) _ [0, 1, 2, 4] rfl hn5.out (by decide))) ?_
  repeat' (first | refine X_gt ?_ | refine X_q ?_ | refine X_g ?_ | refine X_gf ?_ | refine X_niln ?_ | refine X_nil ?_ | (refine X_var (fun yn bn hn1 hn2 hn3 hn4 hn5 => ?_)) | refine W_seqk (fun K hK => ?_) | refine W_seqr ?_ | refine W_ret ?_ | refine W_skip ?_ | refine W_block ?_ | refine W_exit ?_ | (refine X_s (fun x K hK => ?_); go_simp; refine hK _ _ (Ext.alloc _ _) ?_; clear hK K; refine X_al x ?_; generalize (World.later _ x).heap.size = bn; intro yn hn1 hn2 hn3 hn4 hn5; clear x) | refine W_tt ?_ | refine W_ff ?_ | refine W_test (fun hc => ?_) (fun hc => ?_) | go_step)
  refine X_pure Try.func25 (same9_calls [0] [0] q _ _ (HQ.out.later (by simp)) (Rd.lits (enc := ics) (k := 1) (E := 3) (fun _ => rfl) _ [0] rfl hn5.out (by decide))) ?_
  repeat' (first | refine X_gt ?_ | refine X_q ?_ | refine X_g ?_ | refine X_gf ?_ | refine X_niln ?_ | refine X_nil ?_ | (refine X_var (fun yn bn hn1 hn2 hn3 hn4 hn5 => ?_)) | refine W_seqk (fun K hK => ?_) | refine W_seqr ?_ | refine W_ret ?_ | refine W_skip ?_ | refine W_block ?_ | refine W_exit ?_ | (refine X_s (fun x K hK => ?_); go_simp; refine hK _ _ (Ext.alloc _ _) ?_; clear hK K; refine X_al x ?_; generalize (World.later _ x).heap.size = bn; intro yn hn1 hn2 hn3 hn4 hn5; clear x) | refine W_tt ?_ | refine W_ff ?_ | refine W_test (fun hc => ?_) (fun hc => ?_) | go_step)
  refine X_ret Try.func62 some_calls (fun s5 w11 hR => ?_)
  obtain ⟨hE2, hs⟩ := hR
  repeat' (first | refine X_pure Try.func28 ((show goodP someL = true from some_good) ▸ visGood_calls someL s5 _ hs) ?_ | refine X_gpure Try.func28 (fun _ => (show goodP someL = true from some_good) ▸ visGood_calls someL s5 _ hs) ?_ | refine X_gt ?_ | refine X_q ?_ | refine X_g ?_ | refine X_gf ?_ | refine X_niln ?_ | refine X_nil ?_ | (refine X_var (fun yn bn hn1 hn2 hn3 hn4 hn5 => ?_)) | refine W_seqk (fun K hK => ?_) | refine W_seqr ?_ | refine W_ret ?_ | refine W_skip ?_ | refine W_block ?_ | refine W_exit ?_ | (refine X_s (fun x K hK => ?_); go_simp; refine hK _ _ (Ext.alloc _ _) ?_; clear hK K; refine X_al x ?_; generalize (World.later _ x).heap.size = bn; intro yn hn1 hn2 hn3 hn4 hn5; clear x) | refine W_tt ?_ | refine W_ff ?_ | refine W_test (fun hc => ?_) (fun hc => ?_) | go_step)
  exact Body_ret hd ⟨rfl, Ext.trans hE (Ext.trans (by simp) hE2)⟩
end Go.Ws
