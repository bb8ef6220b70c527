import Derived.Test.YtkdcgmloapmpkaaLawC
namespace Go.Ws
open Go Go.RowKit Go.Proofs
set_option maxHeartbeats 2000000
set_option maxRecDepth 100000
set_option linter.unusedVariables false
set_option linter.unusedSimpArgs false
set_option pp.deepTerms true
set_option pp.maxSteps 100000000

theorem goods_calls (l : List Ent) (v : Value) (w : World) (hl : RdE w v l) : Pure Try.prog 4 #[v] w (.bool true) := by
  have hl0 := Lib.hid hl
  obtain ⟨A0, c, rfl, hc, hcm, HR⟩ := hl.ent
  clear hl HR
  by_cases hlen : l.length ≤ 60
  · have hli : ¬ (60 : Int) < (l.length : Int) := by omega
    refine Fn_of Try.func4 rfl (Nat.le_of_ble_eq_true rfl) ?_; intro A hd hA; simp only [ix, Nat.reduceAdd]; replace hA : A.tmps.size = 15 := hA
    repeat' (first | refine X_pure Try.func28 (goodP_ref l ▸ visGood_calls l _ _ hl0.out) ?_ | refine X_gpure Try.func28 (fun _ => goodP_ref l ▸ visGood_calls l _ _ hl0.out) ?_ | refine X_pure Try.func29 (good9_calls l _ _ hl0.out) ?_ | refine X_gpure Try.func29 (fun _ => good9_calls l _ _ hl0.out) ?_ | refine X_pure Try.func19 (works_calls) ?_ | refine X_gpure Try.func19 (fun _ => works_calls) ?_ | refine X_gt ?_ | refine X_q ?_ | refine X_g ?_ | refine X_gf ?_ | refine X_niln ?_ | refine X_nil ?_ | (refine X_var (fun yn bn hn1 hn2 hn3 hn4 hn5 => ?_)) | refine W_seqk (fun K hK => ?_) | refine W_seqr ?_ | refine W_ret ?_ | refine W_skip ?_ | refine W_block ?_ | refine W_exit ?_ | (refine X_s (fun x K hK => ?_); go_simp; refine hK _ _ (Ext.alloc _ _) ?_; clear hK K; refine X_al x ?_; generalize (World.later _ x).heap.size = bn; intro yn hn1 hn2 hn3 hn4 hn5; clear x) | refine W_tt ?_ | refine W_ff ?_ | refine W_test (fun hc => ?_) (fun hc => ?_) | go_step)
    exact Body_ret hd ⟨rfl, by simp⟩
  · have hli : (60 : Int) < l.length := by omega
    refine Fn_of Try.func4 rfl (Nat.le_of_ble_eq_true rfl) ?_; intro A hd hA; simp only [ix, Nat.reduceAdd]; replace hA : A.tmps.size = 15 := hA
    repeat' (first | refine X_pure Try.func19 (works_calls) ?_ | refine X_gpure Try.func19 (fun _ => works_calls) ?_ | refine X_gt ?_ | refine X_q ?_ | refine X_g ?_ | refine X_gf ?_ | refine X_niln ?_ | refine X_nil ?_ | (refine X_var (fun yn bn hn1 hn2 hn3 hn4 hn5 => ?_)) | refine W_seqk (fun K hK => ?_) | refine W_seqr ?_ | refine W_ret ?_ | refine W_skip ?_ | refine W_block ?_ | refine W_exit ?_ | (refine X_s (fun x K hK => ?_); go_simp; refine hK _ _ (Ext.alloc _ _) ?_; clear hK K; refine X_al x ?_; generalize (World.later _ x).heap.size = bn; intro yn hn1 hn2 hn3 hn4 hn5; clear x) | refine W_tt ?_ | refine W_ff ?_ | refine W_test (fun hc => ?_) (fun hc => ?_) | go_step)
    exact Body_ret hd ⟨rfl, by simp⟩
theorem all9_calls (l : List Ent) (v : Value) (w : World) (hl : RdE w v l) : Pure Try.prog 5 #[v] w (.bool true) := by
  have hl0 := Lib.hid hl
  obtain ⟨A0, c, rfl, hc, hcm, HR⟩ := hl.ent
  clear hl HR
  by_cases hlen : l.length ≤ 40
  · have hli : ¬ (40 : Int) < (l.length : Int) := by omega
    by_cases h0 : ofNo l = 0
    · have hrt : rightL l = true := by rw [rightL_of]; simpa using h0
      have HRT := Lib.hid hrt
      clear hrt
      refine Fn_of Try.func5 rfl (Nat.le_of_ble_eq_true rfl) ?_; intro A hd hA; simp only [ix, Nat.reduceAdd]; replace hA : A.tmps.size = 58 := hA
      repeat' (first | refine X_pure Try.func23 (HRT.out ▸ right9_calls l _ _ hl0.out) ?_ | refine X_gpure Try.func23 (fun _ => HRT.out ▸ right9_calls l _ _ hl0.out) ?_ | refine X_gt ?_ | refine X_q ?_ | refine X_g ?_ | refine X_gf ?_ | refine X_niln ?_ | refine X_nil ?_ | (refine X_var (fun yn bn hn1 hn2 hn3 hn4 hn5 => ?_)) | refine W_seqk (fun K hK => ?_) | refine W_seqr ?_ | refine W_ret ?_ | refine W_skip ?_ | refine W_block ?_ | refine W_exit ?_ | (refine X_s (fun x K hK => ?_); go_simp; refine hK _ _ (Ext.alloc _ _) ?_; clear hK K; refine X_al x ?_; generalize (World.later _ x).heap.size = bn; intro yn hn1 hn2 hn3 hn4 hn5; clear x) | refine W_tt ?_ | refine W_ff ?_ | refine W_test (fun hc => ?_) (fun hc => ?_) | go_step)
      refine W_loops [0, 3] (fun n vs w' => ∃ (k : Nat) (y : Later w), w' = w.later y ∧ n + k = l.length + 1 ∧ vs = [.slice A0 l.length c, .int .i64 k]) (l.length + 1) hd hA (by decide) ⟨0, ⟨w, Ext.refl w⟩, rfl, by omega, by simp⟩ ?_
      clear hd hA A; intro n vs B w' hd hA _ ⟨k, y, hw, hk, hvs⟩; subst hw hvs
      simp only [List.zip_cons_cons, List.zip_nil_right, List.zip_nil_left]
      by_cases hlt : k ≤ l.length
      · have hki : (k : Int) ≤ l.length := by omega
        have hk0 : (0 : Int) ≤ k := by omega
        have hkc : (k : Int) ≤ c := by omega
        have htl : (l.take k).length = k := by simp; omega
        have hrg : ¬ ((k : Int) < 0 ∨ (l.length : Int) < k) := by omega
        repeat' (first | refine X_gt ?_ | refine X_q ?_ | refine X_g ?_ | refine X_gf ?_ | refine X_niln ?_ | refine X_nil ?_ | (refine X_var (fun yn bn hn1 hn2 hn3 hn4 hn5 => ?_)) | refine W_seqk (fun K hK => ?_) | refine W_seqr ?_ | refine W_ret ?_ | refine W_skip ?_ | refine W_block ?_ | refine W_exit ?_ | (refine X_s (fun x K hK => ?_); go_simp; refine hK _ _ (Ext.alloc _ _) ?_; clear hK K; refine X_al x ?_; generalize (World.later _ x).heap.size = bn; intro yn hn1 hn2 hn3 hn4 hn5; clear x) | refine W_tt ?_ | refine W_ff ?_ | refine W_test (fun hc => ?_) (fun hc => ?_) | go_step)
        refine X_ret Try.func20 (visView_calls l _ k _ (hl0.out.later (by simp)) (by omega)) (fun v2 w2 hR => ?_)
        obtain ⟨hE, -, -, h3⟩ := hR
        obtain ⟨u, rfl, hu, -⟩ := h3 h0 hrg
        have HU := Lib.hid (hu.rd (enc := ics) (k := 1) (fun _ => rfl))
        replace hE := Ext.trans y.2 hE
        clear h3 hu
        obtain ⟨y2, rfl⟩ := hE.get
        repeat' (first | refine X_gt ?_ | refine X_q ?_ | refine X_g ?_ | refine X_gf ?_ | refine X_niln ?_ | refine X_nil ?_ | (refine X_var (fun yn bn hn1 hn2 hn3 hn4 hn5 => ?_)) | refine W_seqk (fun K hK => ?_) | refine W_seqr ?_ | refine W_ret ?_ | refine W_skip ?_ | refine W_block ?_ | refine W_exit ?_ | (refine X_s (fun x K hK => ?_); go_simp; refine hK _ _ (Ext.alloc _ _) ?_; clear hK K; refine X_al x ?_; generalize (World.later _ x).heap.size = bn; intro yn hn1 hn2 hn3 hn4 hn5; clear x) | refine W_tt ?_ | refine W_ff ?_ | refine W_test (fun hc => ?_) (fun hc => ?_) | go_step)
        refine X_ret Try.func21 (visStable_calls l _ k _ (hl0.out.later (by simp))) (fun v2 w3 hR => ?_)
        obtain ⟨hE2, hR⟩ := hR
        rw [if_neg (fun h => h h0), if_neg hrg] at hR
        subst hR
        replace hE := Ext.trans hE hE2
        replace HU := Lib.hid (HU.out.later hE2)
        clear hE2 hrg
        obtain ⟨y3, rfl⟩ := hE.get
        simp only [Int.toNat_natCast] at HU ⊢
        repeat' (first | refine X_pure Try.func24 (num9_calls _ _) ?_ | refine X_gpure Try.func24 (fun _ => num9_calls _ _) ?_ | refine X_gt ?_ | refine X_q ?_ | refine X_g ?_ | refine X_gf ?_ | refine X_niln ?_ | refine X_nil ?_ | (refine X_var (fun yn bn hn1 hn2 hn3 hn4 hn5 => ?_)) | refine W_seqk (fun K hK => ?_) | refine W_seqr ?_ | refine W_ret ?_ | refine W_skip ?_ | refine W_block ?_ | refine W_exit ?_ | (refine X_s (fun x K hK => ?_); go_simp; refine hK _ _ (Ext.alloc _ _) ?_; clear hK K; refine X_al x ?_; generalize (World.later _ x).heap.size = bn; intro yn hn1 hn2 hn3 hn4 hn5; clear x) | refine W_tt ?_ | refine W_ff ?_ | refine W_test (fun hc => ?_) (fun hc => ?_) | go_step)
        refine X_ret Try.func26 (view9_calls l A0 c k _ (hl0.out.later (by simp)) hlt (by omega)) (fun v2 w4 hR => ?_)
        obtain ⟨hE2, hR⟩ := hR
        have HU2 := Lib.hid hR
        replace HU := Lib.hid (HU.out.later hE2)
        replace hE := Ext.trans hE hE2
        clear hE2 hR
        obtain ⟨y4, rfl⟩ := hE.get
        repeat' (first | refine X_pure Try.func25 (same9_calls _ _ u v2 _ HU.out HU2.out) ?_ | refine X_gpure Try.func25 (fun _ => same9_calls _ _ u v2 _ HU.out HU2.out) ?_ | refine X_gt ?_ | refine X_q ?_ | refine X_g ?_ | refine X_gf ?_ | refine X_niln ?_ | refine X_nil ?_ | (refine X_var (fun yn bn hn1 hn2 hn3 hn4 hn5 => ?_)) | refine W_seqk (fun K hK => ?_) | refine W_seqr ?_ | refine W_ret ?_ | refine W_skip ?_ | refine W_block ?_ | refine W_exit ?_ | (refine X_s (fun x K hK => ?_); go_simp; refine hK _ _ (Ext.alloc _ _) ?_; clear hK K; refine X_al x ?_; generalize (World.later _ x).heap.size = bn; intro yn hn1 hn2 hn3 hn4 hn5; clear x) | refine W_tt ?_ | refine W_ff ?_ | refine W_test (fun hc => ?_) (fun hc => ?_) | go_step)
        refine X_pure Try.func27 (stable8_calls (l.take k) _ _ ((hl0.out.later y4.2).take k hlt) (by omega)) ?_
        repeat' (first | refine X_gt ?_ | refine X_q ?_ | refine X_g ?_ | refine X_gf ?_ | refine X_niln ?_ | refine X_nil ?_ | (refine X_var (fun yn bn hn1 hn2 hn3 hn4 hn5 => ?_)) | refine W_seqk (fun K hK => ?_) | refine W_seqr ?_ | refine W_ret ?_ | refine W_skip ?_ | refine W_block ?_ | refine W_exit ?_ | (refine X_s (fun x K hK => ?_); go_simp; refine hK _ _ (Ext.alloc _ _) ?_; clear hK K; refine X_al x ?_; generalize (World.later _ x).heap.size = bn; intro yn hn1 hn2 hn3 hn4 hn5; clear x) | refine W_tt ?_ | refine W_ff ?_ | refine W_test (fun hc => ?_) (fun hc => ?_) | go_step)
        exact ⟨_, _, rfl, hd, hA, n - 1, by omega, k + 1, y4, rfl, by omega, by simp⟩
      · have hki : ¬ (k : Int) ≤ l.length := by omega
        repeat' (first | refine X_pure Try.func19 (works_calls) ?_ | refine X_gpure Try.func19 (fun _ => works_calls) ?_ | refine X_gt ?_ | refine X_q ?_ | refine X_g ?_ | refine X_gf ?_ | refine X_niln ?_ | refine X_nil ?_ | (refine X_var (fun yn bn hn1 hn2 hn3 hn4 hn5 => ?_)) | refine W_seqk (fun K hK => ?_) | refine W_seqr ?_ | refine W_ret ?_ | refine W_skip ?_ | refine W_block ?_ | refine W_exit ?_ | (refine X_s (fun x K hK => ?_); go_simp; refine hK _ _ (Ext.alloc _ _) ?_; clear hK K; refine X_al x ?_; generalize (World.later _ x).heap.size = bn; intro yn hn1 hn2 hn3 hn4 hn5; clear x) | refine W_tt ?_ | refine W_ff ?_ | refine W_test (fun hc => ?_) (fun hc => ?_) | go_step)
        exact Body_ret hd ⟨rfl, by simp⟩
    · have hrt : rightL l = false := by rw [rightL_of]; simpa using h0
      have HRT := Lib.hid hrt
      clear hrt h0
      refine Fn_of Try.func5 rfl (Nat.le_of_ble_eq_true rfl) ?_; intro A hd hA; simp only [ix, Nat.reduceAdd]; replace hA : A.tmps.size = 58 := hA
      repeat' (first | refine X_pure Try.func23 (HRT.out ▸ right9_calls l _ _ hl0.out) ?_ | refine X_gpure Try.func23 (fun _ => HRT.out ▸ right9_calls l _ _ hl0.out) ?_ | refine X_pure Try.func19 (works_calls) ?_ | refine X_gpure Try.func19 (fun _ => works_calls) ?_ | refine X_gt ?_ | refine X_q ?_ | refine X_g ?_ | refine X_gf ?_ | refine X_niln ?_ | refine X_nil ?_ | (refine X_var (fun yn bn hn1 hn2 hn3 hn4 hn5 => ?_)) | refine W_seqk (fun K hK => ?_) | refine W_seqr ?_ | refine W_ret ?_ | refine W_skip ?_ | refine W_block ?_ | refine W_exit ?_ | (refine X_s (fun x K hK => ?_); go_simp; refine hK _ _ (Ext.alloc _ _) ?_; clear hK K; refine X_al x ?_; generalize (World.later _ x).heap.size = bn; intro yn hn1 hn2 hn3 hn4 hn5; clear x) | refine W_tt ?_ | refine W_ff ?_ | refine W_test (fun hc => ?_) (fun hc => ?_) | go_step)
      exact Body_ret hd ⟨rfl, by simp⟩
  · have hli : (40 : Int) < l.length := by omega
    refine Fn_of Try.func5 rfl (Nat.le_of_ble_eq_true rfl) ?_; intro A hd hA; simp only [ix, Nat.reduceAdd]; replace hA : A.tmps.size = 58 := hA
    repeat' (first | refine X_pure Try.func23 (right9_calls l _ _ hl0.out) ?_ | refine X_gpure Try.func23 (fun _ => right9_calls l _ _ hl0.out) ?_ | refine X_pure Try.func19 (works_calls) ?_ | refine X_gpure Try.func19 (fun _ => works_calls) ?_ | refine X_gt ?_ | refine X_q ?_ | refine X_g ?_ | refine X_gf ?_ | refine X_niln ?_ | refine X_nil ?_ | (refine X_var (fun yn bn hn1 hn2 hn3 hn4 hn5 => ?_)) | refine W_seqk (fun K hK => ?_) | refine W_seqr ?_ | refine W_ret ?_ | refine W_skip ?_ | refine W_block ?_ | refine W_exit ?_ | (refine X_s (fun x K hK => ?_); go_simp; refine hK _ _ (Ext.alloc _ _) ?_; clear hK K; refine X_al x ?_; generalize (World.later _ x).heap.size = bn; intro yn hn1 hn2 hn3 hn4 hn5; clear x) | refine W_tt ?_ | refine W_ff ?_ | refine W_test (fun hc => ?_) (fun hc => ?_) | go_step)
    exact Body_ret hd ⟨rfl, by simp⟩
end Go.Ws
