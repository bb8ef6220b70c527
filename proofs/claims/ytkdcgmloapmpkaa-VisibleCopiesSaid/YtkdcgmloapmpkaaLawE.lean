import Derived.Test.YtkdcgmloapmpkaaLawD
import Derived.Test.YtkdcgmloapmpkaaCut
namespace Go.Ws
open Go Go.RowKit Go.Proofs
set_option maxHeartbeats 2000000
set_option maxRecDepth 100000
set_option linter.unusedVariables false
set_option linter.unusedSimpArgs false
set_option pp.deepTerms true
set_option pp.maxSteps 100000000

theorem ends_calls (l : List Ent) (v : Value) (e : Ent) (w : World) (hl : RdE w v l) : Pure Try.prog 6 #[v, e.v] w (.bool true) := by
  have hl0 := Lib.hid hl
  obtain ⟨A0, c, rfl, hc, hcm, HR⟩ := hl.ent
  clear hl HR
  obtain ⟨all, hall⟩ : ∃ all, all = l ++ [e] := ⟨_, rfl⟩
  by_cases hlen : l.length ≤ 40
  · have hli : ¬ (40 : Int) < (l.length : Int) := by omega
    refine Fn_of Try.func6 rfl (Nat.le_of_ble_eq_true rfl) ?_; intro A hd hA; simp only [ix, Nat.reduceAdd]; replace hA : A.tmps.size = 70 := hA
    repeat' (first | refine X_gt ?_ | refine X_q ?_ | refine X_g ?_ | refine X_gf ?_ | refine X_niln ?_ | refine X_nil ?_ | (refine X_var (fun yn bn hn1 hn2 hn3 hn4 hn5 => ?_)) | refine W_seqk (fun K hK => ?_) | refine W_seqr ?_ | refine W_ret ?_ | refine W_skip ?_ | refine W_block ?_ | refine W_exit ?_ | (refine X_s (fun x K hK => ?_); go_simp; refine hK _ _ (Ext.alloc _ _) ?_; clear hK K; refine X_al x ?_; generalize (World.later _ x).heap.size = bn; intro yn hn1 hn2 hn3 hn4 hn5; clear x) | refine W_tt ?_ | refine W_ff ?_ | refine W_test (fun hc => ?_) (fun hc => ?_) | go_step)
    rename Nat => b3
    rename Later w => y3
    refine W_cut [0, 5] (fun vs w' => ∃ (u : Value) (y : Later w), w' = w.later y ∧ vs = [.slice A0 l.length c, u] ∧ RdE (w.later y) u all) hd hA (by decide) ?_ ?_
    · refine W_fork [5] (by kernel_rfl) ?_
      refine F_q (i := 1) ?_
      refine F_q (i := 3) ?_
      refine F_two (i := 0) (j := 4) (fun x K hK => ?_) (fun x K hK => ?_)
      all_goals (go_simp; refine hK _ _ _ (Ext.alloc _ _) (Ext.refl _) ?_; clear hK K; refine F_al x ?_; generalize (World.later _ x).heap.size = bm; intro ym hm1 hm2 hm3 hm4 hm5; clear x)
      · refine F_two (i := 2) (j := 4) (fun x K hK => ?_) (fun x K hK => ?_)
        · refine F_copy elemEnt hm5.out (hl0.out.later (by simp)) (by omega) (by unfold maxLen; omega) x K (fun y v' hE hO hF => hK v' _ _ hE (Ext.refl _) ?_)
          clear hK K hE x
          refine F_s (i := 4) (fun x K hK => ?_)
          go_simp; refine hK _ _ _ (Ext.alloc _ _) (Ext.refl _) ?_; clear hK K; refine F_al x ?_; generalize (World.later _ x).heap.size = bk; intro yk hk1 hk2 hk3 hk4 hk5; clear x
          refine F_push (i := 5) (w0 := w) (by simp) elemEnt (hO.later (by simp)) (fun g hg => by have := y3.2.size; exact (hF g hg).elim (fun h => by omega) (fun h => by omega)) (Rd.one (x := e) hk2 hk3 rfl) (by simp; omega) (by unfold maxLen; simp; omega) (fun y' v' hO hF => ?_)
          refine F_q (i := 6) ?_
          exact F_nil (by kernel_rfl) ⟨rfl, _, _, rfl, hd, hA, v', y', rfl, by simp, hall ▸ hO.rd Ent.len⟩
        · go_simp; refine hK _ _ _ (Ext.alloc _ _) (Ext.refl _) ?_; clear hK K; refine F_al x ?_; generalize (World.later _ x).heap.size = bk; intro yk hk1 hk2 hk3 hk4 hk5; clear x
          refine F_s (i := 2) (fun x K hK => ?_)
          refine F_copy (b := bm) elemEnt (by rw [heap_later _ _ _ hm2]; exact hm5.out) (hl0.out.later (by simp)) (by omega) (by unfold maxLen; omega) x K (fun y v' hE hO hF => hK v' _ _ hE (Ext.refl _) ?_)
          clear hK K hE x
          refine F_push (i := 5) (w0 := w) (by simp) elemEnt hO (fun g hg => by have := y3.2.size; have := ym.2.size; have := yk.2.size; exact (hF g hg).elim (fun h => by omega) (fun h => by omega)) ((Rd.one (x := e) hk2 hk3 rfl).later (by simp)) (by simp; omega) (by unfold maxLen; simp; omega) (fun y' v' hO hF => ?_)
          refine F_q (i := 6) ?_
          exact F_nil (by kernel_rfl) ⟨rfl, _, _, rfl, hd, hA, v', y', rfl, by simp, hall ▸ hO.rd Ent.len⟩
      · refine F_s (i := 0) (fun x K hK => ?_)
        go_simp; refine hK _ _ _ (Ext.alloc _ _) (Ext.refl _) ?_; clear hK K; refine F_al x ?_; generalize (World.later _ x).heap.size = bk; intro yk hk1 hk2 hk3 hk4 hk5; clear x
        refine F_s (i := 2) (fun x K hK => ?_)
        refine F_copy (b := bk) elemEnt hk5.out (hl0.out.later (by simp)) (by omega) (by unfold maxLen; omega) x K (fun y v' hE hO hF => hK v' _ _ hE (Ext.refl _) ?_)
        clear hK K hE x
        refine F_push (i := 5) (w0 := w) (by simp) elemEnt hO (fun g hg => by have := y3.2.size; have := ym.2.size; have := yk.2.size; exact (hF g hg).elim (fun h => by omega) (fun h => by omega)) ((Rd.one (x := e) hm2 hm3 rfl).later (by simp)) (by simp; omega) (by unfold maxLen; simp; omega) (fun y' v' hO hF => ?_)
        refine F_q (i := 6) ?_
        exact F_nil (by kernel_rfl) ⟨rfl, _, _, rfl, hd, hA, v', y', rfl, by simp, hall ▸ hO.rd Ent.len⟩
    clear hd hA A hn1 hn2 hn3 hn4 hn5 y3 b3
    rintro vs B w' hd hA ⟨u, y, rfl, rfl, hr⟩
    simp only [List.zip_cons_cons, List.zip_nil_right, List.zip_nil_left]
    refine hK _ _ ?_
    clear hK
    have hu := Lib.hid hr
    obtain ⟨A1, c1, rfl, hc1, hcm1, -⟩ := hr.ent
    clear hr
    have hlenA : all.length = l.length + 1 := by simp [hall]
    have hai : (l.length : Int) ≤ all.length := by omega
    have hac : (l.length : Int) ≤ c1 := by omega
    have hl0' : (0 : Int) ≤ l.length := by omega
    have hal : (0 : Int) ≤ all.length := by omega
    have htk : (all.take l.length).length = l.length := by simp; omega
    have hla : l.length ≤ all.length := by omega
    have hla41 : all.length ≤ 41 := by omega
    clear hlenA hall
    by_cases h0 : ofNo all = 0
    · have hrt : rightL all = true := by rw [rightL_of]; simpa using h0
      have HRT := Lib.hid hrt
      clear hrt
      repeat' (first | refine X_pure Try.func23 (HRT.out ▸ right9_calls all _ _ hu.out) ?_ | refine X_gpure Try.func23 (fun _ => HRT.out ▸ right9_calls all _ _ hu.out) ?_ | refine X_gt ?_ | refine X_q ?_ | refine X_g ?_ | refine X_gf ?_ | refine X_niln ?_ | refine X_nil ?_ | (refine X_var (fun yn bn hn1 hn2 hn3 hn4 hn5 => ?_)) | refine W_seqk (fun K hK => ?_) | refine W_seqr ?_ | refine W_ret ?_ | refine W_skip ?_ | refine W_block ?_ | refine W_exit ?_ | (refine X_s (fun x K hK => ?_); go_simp; refine hK _ _ (Ext.alloc _ _) ?_; clear hK K; refine X_al x ?_; generalize (World.later _ x).heap.size = bn; intro yn hn1 hn2 hn3 hn4 hn5; clear x) | refine W_tt ?_ | refine W_ff ?_ | refine W_test (fun hc => ?_) (fun hc => ?_) | go_step)
      refine X_ret Try.func20 (visView_calls all _ l.length _ hu.out (by omega)) (fun v2 w2 hR => ?_)
      obtain ⟨hE, -, -, h3⟩ := hR
      obtain ⟨ua, rfl, hua, -⟩ := h3 h0 (by omega)
      have HA := Lib.hid (hua.rd (enc := ics) (k := 1) (fun _ => rfl))
      replace hu := Lib.hid (hu.out.later hE)
      replace hE := Ext.trans y.2 hE
      clear h3 hua
      obtain ⟨y2, rfl⟩ := hE.get
      repeat' (first | refine X_gt ?_ | refine X_q ?_ | refine X_g ?_ | refine X_gf ?_ | refine X_niln ?_ | refine X_nil ?_ | (refine X_var (fun yn bn hn1 hn2 hn3 hn4 hn5 => ?_)) | refine W_seqk (fun K hK => ?_) | refine W_seqr ?_ | refine W_ret ?_ | refine W_skip ?_ | refine W_block ?_ | refine W_exit ?_ | (refine X_s (fun x K hK => ?_); go_simp; refine hK _ _ (Ext.alloc _ _) ?_; clear hK K; refine X_al x ?_; generalize (World.later _ x).heap.size = bn; intro yn hn1 hn2 hn3 hn4 hn5; clear x) | refine W_tt ?_ | refine W_ff ?_ | refine W_test (fun hc => ?_) (fun hc => ?_) | go_step)
      refine X_ret Try.func20 (visView_calls all _ all.length _ hu.out (by omega)) (fun v2 w3 hR => ?_)
      obtain ⟨hE2, -, -, h3⟩ := hR
      obtain ⟨ub, rfl, hub, -⟩ := h3 h0 (by omega)
      have HB := Lib.hid (hub.rd (enc := ics) (k := 1) (fun _ => rfl))
      replace hu := Lib.hid (hu.out.later hE2)
      replace HA := Lib.hid (HA.out.later hE2)
      replace hE := Ext.trans hE hE2
      clear h3 hub hE2
      obtain ⟨y3, rfl⟩ := hE.get
      simp only [Int.toNat_natCast] at HA HB
      repeat' (first | refine X_pure Try.func24 (num9_calls _ _) ?_ | refine X_gpure Try.func24 (fun _ => num9_calls _ _) ?_ | refine X_gt ?_ | refine X_q ?_ | refine X_g ?_ | refine X_gf ?_ | refine X_niln ?_ | refine X_nil ?_ | (refine X_var (fun yn bn hn1 hn2 hn3 hn4 hn5 => ?_)) | refine W_seqk (fun K hK => ?_) | refine W_seqr ?_ | refine W_ret ?_ | refine W_skip ?_ | refine W_block ?_ | refine W_exit ?_ | (refine X_s (fun x K hK => ?_); go_simp; refine hK _ _ (Ext.alloc _ _) ?_; clear hK K; refine X_al x ?_; generalize (World.later _ x).heap.size = bn; intro yn hn1 hn2 hn3 hn4 hn5; clear x) | refine W_tt ?_ | refine W_ff ?_ | refine W_test (fun hc => ?_) (fun hc => ?_) | go_step)
      refine X_ret Try.func26 (view9_calls all A1 c1 l.length _ hu.out (by omega) (by omega)) (fun v2 w4 hR => ?_)
      obtain ⟨hE2, hR⟩ := hR
      have HA2 := Lib.hid hR
      replace hu := Lib.hid (hu.out.later hE2)
      replace HA := Lib.hid (HA.out.later hE2)
      replace HB := Lib.hid (HB.out.later hE2)
      replace hE := Ext.trans hE hE2
      clear hE2 hR
      obtain ⟨y4, rfl⟩ := hE.get
      repeat' (first | refine X_pure Try.func25 (same9_calls _ _ ua v2 _ HA.out HA2.out) ?_ | refine X_gpure Try.func25 (fun _ => same9_calls _ _ ua v2 _ HA.out HA2.out) ?_ | refine X_gt ?_ | refine X_q ?_ | refine X_g ?_ | refine X_gf ?_ | refine X_niln ?_ | refine X_nil ?_ | (refine X_var (fun yn bn hn1 hn2 hn3 hn4 hn5 => ?_)) | refine W_seqk (fun K hK => ?_) | refine W_seqr ?_ | refine W_ret ?_ | refine W_skip ?_ | refine W_block ?_ | refine W_exit ?_ | (refine X_s (fun x K hK => ?_); go_simp; refine hK _ _ (Ext.alloc _ _) ?_; clear hK K; refine X_al x ?_; generalize (World.later _ x).heap.size = bn; intro yn hn1 hn2 hn3 hn4 hn5; clear x) | refine W_tt ?_ | refine W_ff ?_ | refine W_test (fun hc => ?_) (fun hc => ?_) | go_step)
      refine X_ret Try.func26 (view9_calls all A1 c1 all.length _ hu.out (by omega) (by omega)) (fun v3 w5 hR => ?_)
      obtain ⟨hE2, hR⟩ := hR
      have HB2 := Lib.hid hR
      replace hu := Lib.hid (hu.out.later hE2)
      replace HB := Lib.hid (HB.out.later hE2)
      replace hE := Ext.trans hE hE2
      clear hE2 hR
      obtain ⟨y5, rfl⟩ := hE.get
      repeat' (first | refine X_pure Try.func25 (same9_calls _ _ ub v3 _ HB.out HB2.out) ?_ | refine X_gpure Try.func25 (fun _ => same9_calls _ _ ub v3 _ HB.out HB2.out) ?_ | refine X_pure Try.func28 (goodP_ref all ▸ visGood_calls all _ _ hu.out) ?_ | refine X_gpure Try.func28 (fun _ => goodP_ref all ▸ visGood_calls all _ _ hu.out) ?_ | refine X_pure Try.func29 (good9_calls all _ _ hu.out) ?_ | refine X_gpure Try.func29 (fun _ => good9_calls all _ _ hu.out) ?_ | refine X_pure Try.func19 (works_calls) ?_ | refine X_gpure Try.func19 (fun _ => works_calls) ?_ | refine X_gt ?_ | refine X_q ?_ | refine X_g ?_ | refine X_gf ?_ | refine X_niln ?_ | refine X_nil ?_ | (refine X_var (fun yn bn hn1 hn2 hn3 hn4 hn5 => ?_)) | refine W_seqk (fun K hK => ?_) | refine W_seqr ?_ | refine W_ret ?_ | refine W_skip ?_ | refine W_block ?_ | refine W_exit ?_ | (refine X_s (fun x K hK => ?_); go_simp; refine hK _ _ (Ext.alloc _ _) ?_; clear hK K; refine X_al x ?_; generalize (World.later _ x).heap.size = bn; intro yn hn1 hn2 hn3 hn4 hn5; clear x) | refine W_tt ?_ | refine W_ff ?_ | refine W_test (fun hc => ?_) (fun hc => ?_) | go_step)
      exact Body_ret hd ⟨rfl, by simp⟩
    · have hrt : rightL all = false := by rw [rightL_of]; simpa using h0
      have HRT := Lib.hid hrt
      clear hrt h0
      repeat' (first | refine X_pure Try.func23 (HRT.out ▸ right9_calls all _ _ hu.out) ?_ | refine X_gpure Try.func23 (fun _ => HRT.out ▸ right9_calls all _ _ hu.out) ?_ | refine X_pure Try.func19 (works_calls) ?_ | refine X_gpure Try.func19 (fun _ => works_calls) ?_ | refine X_gt ?_ | refine X_q ?_ | refine X_g ?_ | refine X_gf ?_ | refine X_niln ?_ | refine X_nil ?_ | (refine X_var (fun yn bn hn1 hn2 hn3 hn4 hn5 => ?_)) | refine W_seqk (fun K hK => ?_) | refine W_seqr ?_ | refine W_ret ?_ | refine W_skip ?_ | refine W_block ?_ | refine W_exit ?_ | (refine X_s (fun x K hK => ?_); go_simp; refine hK _ _ (Ext.alloc _ _) ?_; clear hK K; refine X_al x ?_; generalize (World.later _ x).heap.size = bn; intro yn hn1 hn2 hn3 hn4 hn5; clear x) | refine W_tt ?_ | refine W_ff ?_ | refine W_test (fun hc => ?_) (fun hc => ?_) | go_step)
      exact Body_ret hd ⟨rfl, by simp⟩
  · have hli : (40 : Int) < l.length := by omega
    refine Fn_of Try.func6 rfl (Nat.le_of_ble_eq_true rfl) ?_; intro A hd hA; simp only [ix, Nat.reduceAdd]; replace hA : A.tmps.size = 70 := hA
    repeat' (first | refine X_pure Try.func19 (works_calls) ?_ | refine X_gpure Try.func19 (fun _ => works_calls) ?_ | refine X_gt ?_ | refine X_q ?_ | refine X_g ?_ | refine X_gf ?_ | refine X_niln ?_ | refine X_nil ?_ | (refine X_var (fun yn bn hn1 hn2 hn3 hn4 hn5 => ?_)) | refine W_seqk (fun K hK => ?_) | refine W_seqr ?_ | refine W_ret ?_ | refine W_skip ?_ | refine W_block ?_ | refine W_exit ?_ | (refine X_s (fun x K hK => ?_); go_simp; refine hK _ _ (Ext.alloc _ _) ?_; clear hK K; refine X_al x ?_; generalize (World.later _ x).heap.size = bn; intro yn hn1 hn2 hn3 hn4 hn5; clear x) | refine W_tt ?_ | refine W_ff ?_ | refine W_test (fun hc => ?_) (fun hc => ?_) | go_step)
    exact Body_ret hd ⟨rfl, by simp⟩
end Go.Ws
