import Derived.Test.YtkdcgmloapmpkaaLawB
import Derived.Test.YtkdcgmloapmpkaaPlain9
namespace Go.Ws
open Go Go.RowKit Go.Proofs
set_option maxHeartbeats 2000000
set_option maxRecDepth 100000
set_option linter.unusedVariables false
set_option linter.unusedSimpArgs false
set_option pp.deepTerms true
set_option pp.maxSteps 100000000

theorem views_calls (l : List Ent) (v : Value) (n : Int) (w : World) (hl : RdE w v l) : Pure Try.prog 3 #[v, .int .i64 n] w (.bool true) := by
  have hl0 := Lib.hid hl
  obtain ⟨A0, c, rfl, hc, hcm, HR⟩ := hl.ent
  clear hl HR
  by_cases hlen : l.length ≤ 60
  · have hli : ¬ (60 : Int) < (l.length : Int) := by omega
    refine Fn_of Try.func3 rfl (Nat.le_of_ble_eq_true rfl) ?_; intro A hd hA; simp only [ix, Nat.reduceAdd]; replace hA : A.tmps.size = 104 := hA
    repeat' (first | refine X_gt ?_ | refine X_q ?_ | refine X_g ?_ | refine X_gf ?_ | refine X_niln ?_ | refine X_nil ?_ | (refine X_var (fun yn bn hn1 hn2 hn3 hn4 hn5 => ?_)) | refine W_seqk (fun K hK => ?_) | refine W_seqr ?_ | refine W_ret ?_ | refine W_skip ?_ | refine W_block ?_ | refine W_exit ?_ | (refine X_s (fun x K hK => ?_); go_simp; refine hK _ _ (Ext.alloc _ _) ?_; clear hK K; refine X_al x ?_; generalize (World.later _ x).heap.size = bn; intro yn hn1 hn2 hn3 hn4 hn5; clear x) | refine W_tt ?_ | refine W_ff ?_ | refine W_test (fun hc => ?_) (fun hc => ?_) | go_step)
    refine X_append (xs := []) elemEnt (Own.empty hn5.out) (hl0.out.later (by simp)) (by simp; omega) (by unfold maxLen; simp; omega) (fun m w1 hM hO hF _ => ?_)
    have hE : Ext w w1 := Ext.fresh (yn.2) hM (fun b hb => by cases hb; exact hn1)
    have Hm := Lib.hid (hO.rd Ent.len)
    simp only [List.nil_append] at Hm
    clear hM hO hF hn1 hn2 hn3 hn4 hn5 yn
    repeat' (first | refine X_gt ?_ | refine X_q ?_ | refine X_g ?_ | refine X_gf ?_ | refine X_niln ?_ | refine X_nil ?_ | (refine X_var (fun yn bn hn1 hn2 hn3 hn4 hn5 => ?_)) | refine W_seqk (fun K hK => ?_) | refine W_seqr ?_ | refine W_ret ?_ | refine W_skip ?_ | refine W_block ?_ | refine W_exit ?_ | (refine X_s (fun x K hK => ?_); go_simp; refine hK _ _ (Ext.alloc _ _) ?_; clear hK K; refine X_al x ?_; generalize (World.later _ x).heap.size = bn; intro yn hn1 hn2 hn3 hn4 hn5; clear x) | refine W_tt ?_ | refine W_ff ?_ | refine W_test (fun hc => ?_) (fun hc => ?_) | go_step)
    refine X_ret Try.func20 (visView_calls l m n _ Hm.out (by omega)) (fun v2 w2 hR => ?_)
    obtain ⟨hE2, h1, h2, h3⟩ := hR
    replace hE := Ext.trans hE hE2
    replace Hm := Lib.hid (Hm.out.later hE2)
    clear hE2
    by_cases h0 : ofNo l = 0
    · have hrt : rightL l = true := by rw [rightL_of]; simpa using h0
      have HRT := Lib.hid hrt
      clear hrt
      by_cases hn : n < 0 ∨ (l.length : Int) < n
      · obtain rfl := h2 h0 hn
        clear h1 h2 h3
        repeat' (first | refine X_gt ?_ | refine X_q ?_ | refine X_g ?_ | refine X_gf ?_ | refine X_niln ?_ | refine X_nil ?_ | (refine X_var (fun yn bn hn1 hn2 hn3 hn4 hn5 => ?_)) | refine W_seqk (fun K hK => ?_) | refine W_seqr ?_ | refine W_ret ?_ | refine W_skip ?_ | refine W_block ?_ | refine W_exit ?_ | (refine X_s (fun x K hK => ?_); go_simp; refine hK _ _ (Ext.alloc _ _) ?_; clear hK K; refine X_al x ?_; generalize (World.later _ x).heap.size = bn; intro yn hn1 hn2 hn3 hn4 hn5; clear x) | refine W_tt ?_ | refine W_ff ?_ | refine W_test (fun hc => ?_) (fun hc => ?_) | go_step)
        refine X_ret Try.func21 (visStable_calls l m n _ Hm.out) (fun v2 w3 hR => ?_)
        obtain ⟨hE2, hR⟩ := hR
        rw [if_neg (fun h => h h0), if_pos hn] at hR
        subst hR
        replace hE := Ext.trans hE hE2
        replace Hm := Lib.hid (Hm.out.later hE2)
        obtain ⟨y', rfl⟩ := hE.get
        clear hE2 h0
        rcases hn with hn | hn
        · repeat' (first | refine X_pure Try.func22 (same_calls l l m _ _ Hm.out (hl0.out.later (by simp))) ?_ | refine X_gpure Try.func22 (fun _ => same_calls l l m _ _ Hm.out (hl0.out.later (by simp))) ?_ | refine X_pure Try.func23 (HRT.out ▸ right9_calls l _ _ (hl0.out.later (by simp))) ?_ | refine X_gpure Try.func23 (fun _ => HRT.out ▸ right9_calls l _ _ (hl0.out.later (by simp))) ?_ | refine X_pure Try.func24 (num9_calls _ _) ?_ | refine X_gpure Try.func24 (fun _ => num9_calls _ _) ?_ | refine X_pure Try.func19 (works_calls) ?_ | refine X_gpure Try.func19 (fun _ => works_calls) ?_ | refine X_gt ?_ | refine X_q ?_ | refine X_g ?_ | refine X_gf ?_ | refine X_niln ?_ | refine X_nil ?_ | (refine X_var (fun yn bn hn1 hn2 hn3 hn4 hn5 => ?_)) | refine W_seqk (fun K hK => ?_) | refine W_seqr ?_ | refine W_ret ?_ | refine W_skip ?_ | refine W_block ?_ | refine W_exit ?_ | (refine X_s (fun x K hK => ?_); go_simp; refine hK _ _ (Ext.alloc _ _) ?_; clear hK K; refine X_al x ?_; generalize (World.later _ x).heap.size = bn; intro yn hn1 hn2 hn3 hn4 hn5; clear x) | refine W_tt ?_ | refine W_ff ?_ | refine W_test (fun hc => ?_) (fun hc => ?_) | go_step)
          exact Body_ret hd ⟨rfl, by simp⟩
        · have hn0 : ¬ n < 0 := by omega
          repeat' (first | refine X_pure Try.func22 (same_calls l l m _ _ Hm.out (hl0.out.later (by simp))) ?_ | refine X_gpure Try.func22 (fun _ => same_calls l l m _ _ Hm.out (hl0.out.later (by simp))) ?_ | refine X_pure Try.func23 (HRT.out ▸ right9_calls l _ _ (hl0.out.later (by simp))) ?_ | refine X_gpure Try.func23 (fun _ => HRT.out ▸ right9_calls l _ _ (hl0.out.later (by simp))) ?_ | refine X_pure Try.func24 (num9_calls _ _) ?_ | refine X_gpure Try.func24 (fun _ => num9_calls _ _) ?_ | refine X_pure Try.func19 (works_calls) ?_ | refine X_gpure Try.func19 (fun _ => works_calls) ?_ | refine X_gt ?_ | refine X_q ?_ | refine X_g ?_ | refine X_gf ?_ | refine X_niln ?_ | refine X_nil ?_ | (refine X_var (fun yn bn hn1 hn2 hn3 hn4 hn5 => ?_)) | refine W_seqk (fun K hK => ?_) | refine W_seqr ?_ | refine W_ret ?_ | refine W_skip ?_ | refine W_block ?_ | refine W_exit ?_ | (refine X_s (fun x K hK => ?_); go_simp; refine hK _ _ (Ext.alloc _ _) ?_; clear hK K; refine X_al x ?_; generalize (World.later _ x).heap.size = bn; intro yn hn1 hn2 hn3 hn4 hn5; clear x) | refine W_tt ?_ | refine W_ff ?_ | refine W_test (fun hc => ?_) (fun hc => ?_) | go_step)
          exact Body_ret hd ⟨rfl, by simp⟩
      · obtain ⟨u, rfl, hu, -⟩ := h3 h0 hn
        clear h1 h2 h3
        have HU := Lib.hid (hu.rd (enc := ics) (k := 1) (fun _ => rfl))
        clear hu
        repeat' (first | refine X_gt ?_ | refine X_q ?_ | refine X_g ?_ | refine X_gf ?_ | refine X_niln ?_ | refine X_nil ?_ | (refine X_var (fun yn bn hn1 hn2 hn3 hn4 hn5 => ?_)) | refine W_seqk (fun K hK => ?_) | refine W_seqr ?_ | refine W_ret ?_ | refine W_skip ?_ | refine W_block ?_ | refine W_exit ?_ | (refine X_s (fun x K hK => ?_); go_simp; refine hK _ _ (Ext.alloc _ _) ?_; clear hK K; refine X_al x ?_; generalize (World.later _ x).heap.size = bn; intro yn hn1 hn2 hn3 hn4 hn5; clear x) | refine W_tt ?_ | refine W_ff ?_ | refine W_test (fun hc => ?_) (fun hc => ?_) | go_step)
        refine X_ret Try.func21 (visStable_calls l m n _ Hm.out) (fun v2 w3 hR => ?_)
        obtain ⟨hE2, hR⟩ := hR
        rw [if_neg (fun h => h h0), if_neg hn] at hR
        subst hR
        replace hE := Ext.trans hE hE2
        replace Hm := Lib.hid (Hm.out.later hE2)
        replace HU := Lib.hid (HU.out.later hE2)
        obtain ⟨y', rfl⟩ := hE.get
        clear hE2 h0
        obtain ⟨N, rfl⟩ : ∃ N : Nat, n = N := ⟨n.toNat, by omega⟩
        simp only [Int.toNat_natCast] at HU ⊢
        have hN0 : ¬ (N : Int) < 0 := by omega
        have hN1 : ¬ (l.length : Int) < N := by omega
        have hN2 : (N : Int) ≤ l.length := by omega
        have hN3 : (N : Int) ≤ c := by omega
        have hN4 : (0 : Int) ≤ N := by omega
        have hNl : N ≤ l.length := by omega
        have htl : (l.take N).length = N := by simp; omega
        clear hn
        repeat' (first | refine X_pure Try.func22 (same_calls l l m _ _ Hm.out (hl0.out.later (by simp))) ?_ | refine X_gpure Try.func22 (fun _ => same_calls l l m _ _ Hm.out (hl0.out.later (by simp))) ?_ | refine X_pure Try.func23 (HRT.out ▸ right9_calls l _ _ (hl0.out.later (by simp))) ?_ | refine X_gpure Try.func23 (fun _ => HRT.out ▸ right9_calls l _ _ (hl0.out.later (by simp))) ?_ | refine X_pure Try.func24 (num9_calls _ _) ?_ | refine X_gpure Try.func24 (fun _ => num9_calls _ _) ?_ | refine X_pure Try.func19 (works_calls) ?_ | refine X_gpure Try.func19 (fun _ => works_calls) ?_ | refine X_gt ?_ | refine X_q ?_ | refine X_g ?_ | refine X_gf ?_ | refine X_niln ?_ | refine X_nil ?_ | (refine X_var (fun yn bn hn1 hn2 hn3 hn4 hn5 => ?_)) | refine W_seqk (fun K hK => ?_) | refine W_seqr ?_ | refine W_ret ?_ | refine W_skip ?_ | refine W_block ?_ | refine W_exit ?_ | (refine X_s (fun x K hK => ?_); go_simp; refine hK _ _ (Ext.alloc _ _) ?_; clear hK K; refine X_al x ?_; generalize (World.later _ x).heap.size = bn; intro yn hn1 hn2 hn3 hn4 hn5; clear x) | refine W_tt ?_ | refine W_ff ?_ | refine W_test (fun hc => ?_) (fun hc => ?_) | go_step)
        refine X_ret Try.func26 (view9_calls l A0 c N _ (hl0.out.later (by simp)) hNl (by omega)) (fun v2 w4 hR => ?_)
        obtain ⟨hE2, hR⟩ := hR
        have HU2 := Lib.hid hR
        replace HU := Lib.hid (HU.out.later hE2)
        replace hE := Ext.trans hE hE2
        clear hE2 hR
        obtain ⟨y4, rfl⟩ := hE.get
        repeat' (first | refine X_pure Try.func25 (same9_calls _ _ u v2 _ HU.out HU2.out) ?_ | refine X_gpure Try.func25 (fun _ => same9_calls _ _ u v2 _ HU.out HU2.out) ?_ | refine X_pure Try.func19 (works_calls) ?_ | refine X_gpure Try.func19 (fun _ => works_calls) ?_ | refine X_gt ?_ | refine X_q ?_ | refine X_g ?_ | refine X_gf ?_ | refine X_niln ?_ | refine X_nil ?_ | (refine X_var (fun yn bn hn1 hn2 hn3 hn4 hn5 => ?_)) | refine W_seqk (fun K hK => ?_) | refine W_seqr ?_ | refine W_ret ?_ | refine W_skip ?_ | refine W_block ?_ | refine W_exit ?_ | (refine X_s (fun x K hK => ?_); go_simp; refine hK _ _ (Ext.alloc _ _) ?_; clear hK K; refine X_al x ?_; generalize (World.later _ x).heap.size = bn; intro yn hn1 hn2 hn3 hn4 hn5; clear x) | refine W_tt ?_ | refine W_ff ?_ | refine W_test (fun hc => ?_) (fun hc => ?_) | go_step)
        refine X_pure Try.func27 (stable8_calls (l.take N) _ _ ((hl0.out.later y4.2).take N hNl) (by omega)) ?_
        repeat' (first | refine X_pure Try.func19 (works_calls) ?_ | refine X_gpure Try.func19 (fun _ => works_calls) ?_ | refine X_gt ?_ | refine X_q ?_ | refine X_g ?_ | refine X_gf ?_ | refine X_niln ?_ | refine X_nil ?_ | (refine X_var (fun yn bn hn1 hn2 hn3 hn4 hn5 => ?_)) | refine W_seqk (fun K hK => ?_) | refine W_seqr ?_ | refine W_ret ?_ | refine W_skip ?_ | refine W_block ?_ | refine W_exit ?_ | (refine X_s (fun x K hK => ?_); go_simp; refine hK _ _ (Ext.alloc _ _) ?_; clear hK K; refine X_al x ?_; generalize (World.later _ x).heap.size = bn; intro yn hn1 hn2 hn3 hn4 hn5; clear x) | refine W_tt ?_ | refine W_ff ?_ | refine W_test (fun hc => ?_) (fun hc => ?_) | go_step)
        exact Body_ret hd ⟨rfl, by simp⟩
    · obtain rfl := h1 h0
      have hrt : rightL l = false := by rw [rightL_of]; simpa using h0
      have HRT := Lib.hid hrt
      clear h1 h2 h3
      repeat' (first | refine X_gt ?_ | refine X_q ?_ | refine X_g ?_ | refine X_gf ?_ | refine X_niln ?_ | refine X_nil ?_ | (refine X_var (fun yn bn hn1 hn2 hn3 hn4 hn5 => ?_)) | refine W_seqk (fun K hK => ?_) | refine W_seqr ?_ | refine W_ret ?_ | refine W_skip ?_ | refine W_block ?_ | refine W_exit ?_ | (refine X_s (fun x K hK => ?_); go_simp; refine hK _ _ (Ext.alloc _ _) ?_; clear hK K; refine X_al x ?_; generalize (World.later _ x).heap.size = bn; intro yn hn1 hn2 hn3 hn4 hn5; clear x) | refine W_tt ?_ | refine W_ff ?_ | refine W_test (fun hc => ?_) (fun hc => ?_) | go_step)
      refine X_ret Try.func21 (visStable_calls l m n _ Hm.out) (fun v2 w3 hR => ?_)
      obtain ⟨hE2, hR⟩ := hR
      rw [if_pos h0] at hR
      subst hR
      replace hE := Ext.trans hE hE2
      replace Hm := Lib.hid (Hm.out.later hE2)
      obtain ⟨y', rfl⟩ := hE.get
      clear hE2 hrt h0
      repeat' (first | refine X_pure Try.func22 (same_calls l l m _ _ Hm.out (hl0.out.later (by simp))) ?_ | refine X_gpure Try.func22 (fun _ => same_calls l l m _ _ Hm.out (hl0.out.later (by simp))) ?_ | refine X_pure Try.func23 (HRT.out ▸ right9_calls l _ _ (hl0.out.later (by simp))) ?_ | refine X_gpure Try.func23 (fun _ => HRT.out ▸ right9_calls l _ _ (hl0.out.later (by simp))) ?_ | refine X_pure Try.func24 (num9_calls _ _) ?_ | refine X_gpure Try.func24 (fun _ => num9_calls _ _) ?_ | refine X_pure Try.func19 (works_calls) ?_ | refine X_gpure Try.func19 (fun _ => works_calls) ?_ | refine X_gt ?_ | refine X_q ?_ | refine X_g ?_ | refine X_gf ?_ | refine X_niln ?_ | refine X_nil ?_ | (refine X_var (fun yn bn hn1 hn2 hn3 hn4 hn5 => ?_)) | refine W_seqk (fun K hK => ?_) | refine W_seqr ?_ | refine W_ret ?_ | refine W_skip ?_ | refine W_block ?_ | refine W_exit ?_ | (refine X_s (fun x K hK => ?_); go_simp; refine hK _ _ (Ext.alloc _ _) ?_; clear hK K; refine X_al x ?_; generalize (World.later _ x).heap.size = bn; intro yn hn1 hn2 hn3 hn4 hn5; clear x) | refine W_tt ?_ | refine W_ff ?_ | refine W_test (fun hc => ?_) (fun hc => ?_) | go_step)
      exact Body_ret hd ⟨rfl, by simp⟩
  · have hli : (60 : Int) < l.length := by omega
    refine Fn_of Try.func3 rfl (Nat.le_of_ble_eq_true rfl) ?_; intro A hd hA; simp only [ix, Nat.reduceAdd]; replace hA : A.tmps.size = 104 := hA
    repeat' (first | refine X_pure Try.func19 (works_calls) ?_ | refine X_gpure Try.func19 (fun _ => works_calls) ?_ | refine X_gt ?_ | refine X_q ?_ | refine X_g ?_ | refine X_gf ?_ | refine X_niln ?_ | refine X_nil ?_ | (refine X_var (fun yn bn hn1 hn2 hn3 hn4 hn5 => ?_)) | refine W_seqk (fun K hK => ?_) | refine W_seqr ?_ | refine W_ret ?_ | refine W_skip ?_ | refine W_block ?_ | refine W_exit ?_ | (refine X_s (fun x K hK => ?_); go_simp; refine hK _ _ (Ext.alloc _ _) ?_; clear hK K; refine X_al x ?_; generalize (World.later _ x).heap.size = bn; intro yn hn1 hn2 hn3 hn4 hn5; clear x) | refine W_tt ?_ | refine W_ff ?_ | refine W_test (fun hc => ?_) (fun hc => ?_) | go_step)
    exact Body_ret hd ⟨rfl, by simp⟩
end Go.Ws
