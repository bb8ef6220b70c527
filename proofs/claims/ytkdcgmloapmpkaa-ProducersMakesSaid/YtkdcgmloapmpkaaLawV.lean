import Derived.Test.YtkdcgmloapmpkaaLawS
namespace Go.Ws
open Go Go.RowKit Go.Proofs
set_option maxHeartbeats 2000000
set_option maxRecDepth 100000
set_option linter.unusedVariables false
set_option linter.unusedSimpArgs false
set_option pp.deepTerms true
set_option pp.maxSteps 100000000

def e77 : Ent := ⟨0, 0, 0, 77, 0, 0⟩
theorem of_step {l : List Ent} {k : Nat} {e : Ent} (h : l[k]? = some e) (hl : k < l.length) : ofFrom (l.take k) (l.drop k) = if appendNo (l.take k) e = 0 then ofFrom (l.take (k + 1)) (l.drop (k + 1)) else appendNo (l.take k) e := by
  have : l.drop k = e :: l.drop (k + 1) := by
    rw [List.drop_eq_getElem_cons hl]
    rw [List.getElem?_eq_getElem hl] at h; cases h; rfl
  rw [this, ofFrom, take_snoc h]
theorem makes8_calls (l : List Ent) (v : Value) (w : World) (hl : RdE w v l) : Pure Try.prog 13 #[v] w (.bool true) := by
  have hl0 := Lib.hid hl
  obtain ⟨A0, c, rfl, hc, hcm, HR⟩ := hl.ent
  clear hl HR
  by_cases hlen : l.length ≤ 60
  · have hli : ¬ (60 : Int) < (l.length : Int) := by omega
    refine Fn_of Try.func13 rfl (Nat.le_of_ble_eq_true rfl) ?_; intro A hd hA; simp only [ix, Nat.reduceAdd]; replace hA : A.tmps.size = 102 := hA
    repeat' (first | refine X_gt ?_ | refine X_q ?_ | refine X_g ?_ | refine X_gf ?_ | refine X_niln ?_ | refine X_nil ?_ | (refine X_var (fun yn bn hn1 hn2 hn3 hn4 hn5 => ?_)) | refine W_seqk (fun K hK => ?_) | refine W_seqr ?_ | refine W_ret ?_ | refine W_skip ?_ | refine W_block ?_ | refine W_exit ?_ | (refine X_s (fun x K hK => ?_); go_simp; refine hK _ _ (Ext.alloc _ _) ?_; clear hK K; refine X_al x ?_; generalize (World.later _ x).heap.size = bn; intro yn hn1 hn2 hn3 hn4 hn5; clear x) | refine W_tt ?_ | refine W_ff ?_ | refine W_test (fun hc => ?_) (fun hc => ?_) | go_step)
    refine X_append (xs := []) elemEnt (Own.empty hn5.out) (hl0.out.later (by simp)) (by simp; omega) (by unfold maxLen; simp; omega) (fun v1 w1 hM1 hO1 hF1 _ => ?_)
    have hE1 : Ext w w1 := Ext.fresh yn.2 hM1 (fun b hb => by cases hb; exact hn1)
    rw [List.nil_append] at hO1
    have HO1 := Lib.hid hO1
    have hf1 : ∀ g, v1.ownBlock = some g → w.heap.size ≤ g := by
      intro g hg
      rcases hF1 with h | ⟨g', h, hg'⟩
      · rw [h] at hg; cases hg; exact hn1
      · rw [h] at hg; cases hg; exact Nat.le_trans yn.2.size hg'
    have HF1 := Lib.hid hf1
    obtain ⟨A1, n1, c1, rfl⟩ := slice_of1 (hO1.rd Ent.len)
    obtain ⟨y1, rfl⟩ := hE1.get
    clear hM1 hO1 hF1 hf1 hE1 hn1 hn2 hn3 hn4 hn5 yn
    repeat' (first | refine X_gt ?_ | refine X_q ?_ | refine X_g ?_ | refine X_gf ?_ | refine X_niln ?_ | refine X_nil ?_ | (refine X_var (fun yn bn hn1 hn2 hn3 hn4 hn5 => ?_)) | refine W_seqk (fun K hK => ?_) | refine W_seqr ?_ | refine W_ret ?_ | refine W_skip ?_ | refine W_block ?_ | refine W_exit ?_ | (refine X_s (fun x K hK => ?_); go_simp; refine hK _ _ (Ext.alloc _ _) ?_; clear hK K; refine X_al x ?_; generalize (World.later _ x).heap.size = bn; intro yn hn1 hn2 hn3 hn4 hn5; clear x) | refine W_tt ?_ | refine W_ff ?_ | refine W_test (fun hc => ?_) (fun hc => ?_) | go_step)
    refine X_append (ys := [e77]) elemEnt (HO1.out.later (by simp)) (Rd.one (x := e77) hn2 hn3 rfl) (by simp; omega) (by unfold maxLen; simp; omega) (fun v2 w2 hM2 hO2 hF2 _ => ?_)
    have hE2 : Ext w w2 := Ext.fresh (by simp : Ext w (World.later _ yn)) hM2 (fun b hb => HF1.out b hb)
    have HO2 := Lib.hid hO2
    have hf2 : ∀ g, v2.ownBlock = some g → w.heap.size ≤ g := by
      intro g hg
      rcases hF2 with h | ⟨g', h, hg'⟩
      · exact HF1.out g (h ▸ hg)
      · rw [h] at hg; cases hg
        have : w.heap.size ≤ (World.later _ yn).heap.size := (by simp : Ext w (World.later _ yn)).size
        omega
    obtain ⟨g, c2, rfl, hc2, hcm2, hg2⟩ : ∃ g c2, v2 = .slice (some ⟨g, 0, none⟩) (l.length + 1) c2 ∧ l.length + 1 ≤ c2 ∧ c2 ≤ maxLen ∧ g < w2.heap.size := by
      rcases hO2.shape with ⟨-, h⟩ | ⟨g, c2, h, h1, h2, h3⟩
      · simp at h
      · exact ⟨g, c2, by simpa using h, by simpa using h1, h2, h3⟩
    have hgw := hf2 g rfl
    have hcap : (l.length : Int) ≤ c2 := by omega
    have hcap1 : (l.length : Int) + 1 ≤ c2 := by omega
    obtain ⟨e', b', o', he', hA', hat⟩ := (hO2.rd Ent.len).entAt (k := l.length) (by simp)
    cases hA'
    obtain rfl : e' = e77 := by simpa using he'.symm
    have h77 := hat.2.2.2.2.1
    rw [Nat.zero_add] at h77
    have HM := Lib.hid ((hO2.rd Ent.len).take l.length (by simp))
    rw [List.take_append_of_le_length (Nat.le_refl _), List.take_length] at HM
    have hmx : c2 ≤ 9223372036854775807 := by unfold maxLen at hcm2; omega
    obtain ⟨y2, rfl⟩ := hE2.get
    clear hM2 hO2 hF2 hf2 hE2 hn1 hn2 hn3 hn4 hn5 yn hat he'
    repeat' (first | refine X_gt ?_ | refine X_q ?_ | refine X_g ?_ | refine X_gf ?_ | refine X_niln ?_ | refine X_nil ?_ | (refine X_var (fun yn bn hn1 hn2 hn3 hn4 hn5 => ?_)) | refine W_seqk (fun K hK => ?_) | refine W_seqr ?_ | refine W_ret ?_ | refine W_skip ?_ | refine W_block ?_ | refine W_exit ?_ | (refine X_s (fun x K hK => ?_); go_simp; refine hK _ _ (Ext.alloc _ _) ?_; clear hK K; refine X_al x ?_; generalize (World.later _ x).heap.size = bn; intro yn hn1 hn2 hn3 hn4 hn5; clear x) | refine W_tt ?_ | refine W_ff ?_ | refine W_test (fun hc => ?_) (fun hc => ?_) | go_step)
    refine X_ret Try.func43 (tabOf_calls l _ _ (HM.out.later (by simp))) (fun v' w3 hR => ?_)
    obtain ⟨hE3, hR1, hR2⟩ := hR
    obtain ⟨y3, rfl⟩ := hE3.get
    have HOF : ∃ tv, v' = .tuple #[tv, .int .i64 (ofNo l)] ∧ (ofNo l = 0 → ∃ bt, tv = .pointer (some ⟨bt, 0, none⟩) ∧ Tab ((w.later y2).later y3) bt (fun k => (w.later y2).heap.size ≤ k) l) ∧ (ofNo l ≠ 0 → tv = .pointer none) := by
      by_cases hz : ofNo l = 0
      · obtain ⟨bt, h1, h2⟩ := hR1 hz
        exact ⟨_, by rw [h1, hz], fun _ => ⟨bt, rfl, h2⟩, fun h => absurd hz h⟩
      · exact ⟨_, hR2 hz, fun h => absurd h hz, fun _ => rfl⟩
    obtain ⟨tv, rfl, hT0, hTn⟩ := HOF
    have HT0 := Lib.hid hT0
    have HTn := Lib.hid hTn
    have HO2' : Hid (OwnE ((w.later y2).later y3) (.slice (some ⟨g, 0, none⟩) (l.length + 1) c2) (l ++ [e77])) := Lib.hid (HO2.out.later y3.2)
    have hg3 : g < (w.later y2).heap.size := hg2
    have hEW : Ext w ((w.later y2).later y3) := by simp
    have hz23 : (w.later y2).heap.size ≤ ((w.later y2).later y3).heap.size := y3.2.size
    have htv : tv = .pointer none ∨ ∃ bt, tv = .pointer (some ⟨bt, 0, none⟩) := by
      by_cases hz : ofNo l = 0
      · obtain ⟨bt, h, -⟩ := hT0 hz; exact .inr ⟨bt, h⟩
      · exact .inl (hTn hz)
    clear hR1 hR2 hE3 hT0 hTn
    obtain ⟨no0, hno0⟩ : ∃ no0, no0 = ofNo l := ⟨_, rfl⟩
    rw [← hno0]
    have HNO0 := Lib.hid hno0
    clear hno0
    have hng : ¬ (l.length : Int) + 1 < 0 := by omega
    have hl1 : (l.length : Int) < (l.length : Int) + 1 := by omega
    have hl2 : ¬ (l.length : Int) + 1 ≤ (l.length : Int) := by omega
    have htn : ((l.length : Int) + 1).toNat = l.length + 1 := by omega
    have hgt : ¬ (c2 : Int) < (l.length : Int) + 1 := by omega
    have hge0 : (0 : Int) ≤ (l.length : Int) + 1 := by omega
    repeat' (first | refine X_pure Try.func22 (same_calls l l _ _ _ (HM.out.later (by simp)) (hl0.out.later (by simp))) ?_ | refine X_gpure Try.func22 (fun _ => same_calls l l _ _ _ (HM.out.later (by simp)) (hl0.out.later (by simp))) ?_ | refine X_gt ?_ | refine X_q ?_ | refine X_g ?_ | refine X_gf ?_ | refine X_niln ?_ | refine X_nil ?_ | (refine X_var (fun yn bn hn1 hn2 hn3 hn4 hn5 => ?_)) | refine W_seqk (fun K hK => ?_) | refine W_seqr ?_ | refine W_ret ?_ | refine W_skip ?_ | refine W_block ?_ | refine W_exit ?_ | (refine X_s (fun x K hK => ?_); go_simp; refine hK _ _ (Ext.alloc _ _) ?_; clear hK K; refine X_al x ?_; generalize (World.later _ x).heap.size = bn; intro yn hn1 hn2 hn3 hn4 hn5; clear x) | refine W_tt ?_ | refine W_ff ?_ | refine W_test (fun hc => ?_) (fun hc => ?_) | go_step)
    refine W_loops [0, 3, 4, 5, 6, 7, 8] (fun n vs W => ∃ (k : Nat) (u : Value) (no : Int), Ext ((w.later y2).later y3) W ∧ k + n = l.length ∧ vs = [.slice A0 l.length c, .slice (some ⟨g, 0, none⟩) l.length c2, tv, .int .i64 no0, u, .int .i64 no, .int .i64 k] ∧
      (∃ A n c, u = .slice A n c) ∧ ((no = 0 ∧ RdE W u (l.take k) ∧ ofFrom (l.take k) (l.drop k) = no0) ∨ (no ≠ 0 ∧ no = no0))) l.length hd hA (by decide) ?_ ?_
    · exact ⟨0, .slice none 0 0, 0, Ext.refl _, by omega, by simp, ⟨_, _, _, rfl⟩, .inl ⟨rfl, by simpa using Rd.nil _, by rw [List.take_zero, List.drop_zero]; exact HNO0.out.symm⟩⟩
    clear hd hA A; intro n2 vs B W hd hA _ ⟨k, u, no, hE, hk, hvs, ⟨A9, n9, c9, hus⟩, hst⟩; subst hus hvs
    simp only [List.zip_cons_cons, List.zip_nil_right, List.zip_nil_left]
    have hEw := Ext.trans hEW hE
    by_cases hno : no = 0
    · subst hno
      obtain ⟨hu, hof⟩ : RdE W (.slice A9 n9 c9) (l.take k) ∧ ofFrom (l.take k) (l.drop k) = no0 := by
        rcases hst with ⟨-, h⟩ | ⟨h, -⟩
        · exact h
        · exact absurd rfl h
      by_cases hlt : k < l.length
      · obtain ⟨e, b, o, HE, rfl, hat⟩ := hl0.out.entAt hlt
        obtain ⟨hbW, c0, c1', c2', c3, c4, c5⟩ := hat.later hEw
        have hki : (k : Int) < l.length := by omega
        rw [of_step HE hlt] at hof
        have HU := Lib.hid hu
        have HOF := Lib.hid hof
        have HEE := Lib.hid hE
        have HTK := Lib.hid (take_snoc HE)
        clear hu hof hE hEw hst hat HE
        refine W_seqk (fun K hK => ?_)
        repeat' (first | refine X_gt ?_ | refine X_q ?_ | refine X_g ?_ | refine X_gf ?_ | refine X_niln ?_ | refine X_nil ?_ | (refine X_var (fun yn bn hn1 hn2 hn3 hn4 hn5 => ?_)) | refine W_seqk (fun K hK => ?_) | refine W_seqr ?_ | refine W_ret ?_ | refine W_skip ?_ | refine W_block ?_ | refine W_exit ?_ | (refine X_s (fun x K hK => ?_); go_simp; refine hK _ _ (Ext.alloc _ _) ?_; clear hK K; refine X_al x ?_; generalize (World.later _ x).heap.size = bn; intro yn hn1 hn2 hn3 hn4 hn5; clear x) | refine W_tt ?_ | refine W_ff ?_ | refine W_test (fun hc => ?_) (fun hc => ?_) | go_step)
        refine X_ret Try.func55 (append_calls (l.take k) _ e _ (HU.out.later (by simp))) (fun r w4 hR => ?_)
        obtain ⟨u', rfl, hE4, hU4⟩ := hR
        have HU4 := Lib.hid hU4
        obtain ⟨A8, n8, c8, rfl⟩ := slice_of1 hU4
        have HE4 := Lib.hid (Ext.trans HEE.out hE4)
        clear hU4 hE4
        by_cases hap : appendNo (l.take k) e = 0
        · rw [if_pos hap] at HOF
          rw [hap] at HU4 ⊢
          repeat' (first | refine X_gt ?_ | refine X_q ?_ | refine X_g ?_ | refine X_gf ?_ | refine X_niln ?_ | refine X_nil ?_ | (refine X_var (fun yn bn hn1 hn2 hn3 hn4 hn5 => ?_)) | refine W_seqk (fun K hK => ?_) | refine W_seqr ?_ | refine W_ret ?_ | refine W_skip ?_ | refine W_block ?_ | refine W_exit ?_ | (refine X_s (fun x K hK => ?_); go_simp; refine hK _ _ (Ext.alloc _ _) ?_; clear hK K; refine X_al x ?_; generalize (World.later _ x).heap.size = bn; intro yn hn1 hn2 hn3 hn4 hn5; clear x) | refine W_tt ?_ | refine W_ff ?_ | refine W_test (fun hc => ?_) (fun hc => ?_) | go_step)
          refine ⟨_, _, rfl, hd, hA, n2 - 1, by omega, k + 1, .slice A8 n8 c8, 0, HE4.out, by omega, by simp, ⟨_, _, _, rfl⟩, .inl ⟨rfl, ?_, HOF.out⟩⟩
          rw [HTK.out]; exact HU4.out
        · rw [if_neg hap] at HOF
          rw [HOF.out]
          repeat' (first | refine X_gt ?_ | refine X_q ?_ | refine X_g ?_ | refine X_gf ?_ | refine X_niln ?_ | refine X_nil ?_ | (refine X_var (fun yn bn hn1 hn2 hn3 hn4 hn5 => ?_)) | refine W_seqk (fun K hK => ?_) | refine W_seqr ?_ | refine W_ret ?_ | refine W_skip ?_ | refine W_block ?_ | refine W_exit ?_ | (refine X_s (fun x K hK => ?_); go_simp; refine hK _ _ (Ext.alloc _ _) ?_; clear hK K; refine X_al x ?_; generalize (World.later _ x).heap.size = bn; intro yn hn1 hn2 hn3 hn4 hn5; clear x) | refine W_tt ?_ | refine W_ff ?_ | refine W_test (fun hc => ?_) (fun hc => ?_) | go_step)
          exact ⟨_, _, rfl, hd, hA, n2 - 1, by omega, k + 1, .slice A8 n8 c8, no0, HE4.out, by omega, by simp, ⟨_, _, _, rfl⟩, .inr ⟨fun h => hap (HOF.out.trans h), rfl⟩⟩
      · obtain rfl : k = l.length := by omega
        rw [List.take_length, List.drop_length] at hof
        have hz : no0 = 0 := hof.symm
        subst hz
        obtain ⟨bt, rfl, hT⟩ := HT0.out HNO0.out.symm
        have HEE := Lib.hid hE
        have HTB := Lib.hid hT.here
        have HBK := Lib.hid (OwnE.blkN HO2'.out)
        clear hu hof hE hEw hst hT HT0 HTn htv
        repeat' (first | refine X_gt ?_ | refine X_q ?_ | refine X_g ?_ | refine X_gf ?_ | refine X_niln ?_ | refine X_nil ?_ | (refine X_var (fun yn bn hn1 hn2 hn3 hn4 hn5 => ?_)) | refine W_seqk (fun K hK => ?_) | refine W_seqr ?_ | refine W_ret ?_ | refine W_skip ?_ | refine W_block ?_ | refine W_exit ?_ | (refine X_s (fun x K hK => ?_); go_simp; refine hK _ _ (Ext.alloc _ _) ?_; clear hK K; refine X_al x ?_; generalize (World.later _ x).heap.size = bn; intro yn hn1 hn2 hn3 hn4 hn5; clear x) | refine W_tt ?_ | refine W_ff ?_ | refine W_test (fun hc => ?_) (fun hc => ?_) | go_step)
        refine W_loops [0, 3, 4, 5, 9] (fun n vs V => ∃ j : Nat, Mod (fun i => i = g) W V ∧ j + n = l.length ∧ vs = [.slice A0 l.length c, .slice (some ⟨g, 0, none⟩) l.length c2, .pointer (some ⟨bt, 0, none⟩), .int .i64 0, .int .i64 j] ∧ ∃ N f, Blk V g 39 N f ∧ l.length * 6 ≤ N) l.length hd hA (by decide) ?_ ?_
        · obtain ⟨N, f, h1, h2⟩ := HBK.out
          exact ⟨0, Mod.refl _ _, by omega, by simp, N, f, h1.later HEE.out, by simp at h2; omega⟩
        clear hd hA B; intro n3 vs B V hd hA _ ⟨j, hM, hj, hvs, hB⟩; subst hvs
        simp only [List.zip_cons_cons, List.zip_nil_right, List.zip_nil_left]
        have HMM := Lib.hid hM
        obtain ⟨N, f, hblk, hN⟩ := hB
        have hgW := hblk.lt
        have HBK := Lib.hid hblk
        clear hblk hM
        by_cases hlt : j < l.length
        · have hji : (j : Int) < l.length := by omega
          refine W_seqk (fun K hK => ?_)
          repeat' (first | refine X_gt ?_ | refine X_q ?_ | refine X_g ?_ | refine X_gf ?_ | refine X_niln ?_ | refine X_nil ?_ | (refine X_var (fun yn bn hn1 hn2 hn3 hn4 hn5 => ?_)) | refine W_seqk (fun K hK => ?_) | refine W_seqr ?_ | refine W_ret ?_ | refine W_skip ?_ | refine W_block ?_ | refine W_exit ?_ | (refine X_s (fun x K hK => ?_); go_simp; refine hK _ _ (Ext.alloc _ _) ?_; clear hK K; refine X_al x ?_; generalize (World.later _ x).heap.size = bn; intro yn hn1 hn2 hn3 hn4 hn5; clear x) | refine W_tt ?_ | refine W_ff ?_ | refine W_test (fun hc => ?_) (fun hc => ?_) | go_step)
          refine X_store (off := j * 6) (v := .agg #[.int .i64 0, .int .i64 0, .int .i64 0, .int .i64 0, .int .i64 0, .int .i64 0]) HBK.out (fun W1 hM1 hB1 => ?_)
          have HM1 := Lib.hid (Mod.trans HMM.out hM1 (fun _ _ h => h) (fun j _ h => h) : Mod (fun i => i = g) W W1)
          repeat' (first | refine X_gt ?_ | refine X_q ?_ | refine X_g ?_ | refine X_gf ?_ | refine X_niln ?_ | refine X_nil ?_ | (refine X_var (fun yn bn hn1 hn2 hn3 hn4 hn5 => ?_)) | refine W_seqk (fun K hK => ?_) | refine W_seqr ?_ | refine W_ret ?_ | refine W_skip ?_ | refine W_block ?_ | refine W_exit ?_ | (refine X_s (fun x K hK => ?_); go_simp; refine hK _ _ (Ext.alloc _ _) ?_; clear hK K; refine X_al x ?_; generalize (World.later _ x).heap.size = bn; intro yn hn1 hn2 hn3 hn4 hn5; clear x) | refine W_tt ?_ | refine W_ff ?_ | refine W_test (fun hc => ?_) (fun hc => ?_) | go_step)
          exact ⟨_, _, rfl, hd, hA, n3 - 1, by omega, j + 1, HM1.out, by omega, by simp, N, _, hB1, hN⟩
        · have HTV := Lib.hid ((HTB.out.later HEE.out).mod HMM.out (fun k hk h => by have := hk.1; omega))
          have HEV := Lib.hid (Ext.fresh (Ext.trans hEW HEE.out) HMM.out (fun i hi => by omega))
          have hok : ofNo l = 0 := HNO0.out.symm
          clear HMM HBK
          repeat' (first | refine X_pure Try.func45 (num8_calls _ _) ?_ | refine X_gpure Try.func45 (fun _ => num8_calls _ _) ?_ | (refine X_pure Try.func56 (is8_calls (HTV.out.later (by simp)) hok (by omega) (hl0.out.later (Ext.trans HEV.out (by simp)))) ?_) | refine X_gt ?_ | refine X_q ?_ | refine X_g ?_ | refine X_gf ?_ | refine X_niln ?_ | refine X_nil ?_ | (refine X_var (fun yn bn hn1 hn2 hn3 hn4 hn5 => ?_)) | refine W_seqk (fun K hK => ?_) | refine W_seqr ?_ | refine W_ret ?_ | refine W_skip ?_ | refine W_block ?_ | refine W_exit ?_ | (refine X_s (fun x K hK => ?_); go_simp; refine hK _ _ (Ext.alloc _ _) ?_; clear hK K; refine X_al x ?_; generalize (World.later _ x).heap.size = bn; intro yn hn1 hn2 hn3 hn4 hn5; clear x) | refine W_tt ?_ | refine W_ff ?_ | refine W_test (fun hc => ?_) (fun hc => ?_) | go_step)
          refine X_ret Try.func48 (tabNew_calls _) (fun v' w9 hR => ?_)
          obtain ⟨b9, rfl, hE9, hT9⟩ := hR
          have HT9 := Lib.hid hT9
          have HE9 := Lib.hid (Ext.trans (Ext.trans HEV.out (by simp)) hE9)
          clear hE9 hT9
          repeat' (first | (refine X_pure Try.func56 (is8_calls (HT9.out.later (by simp)) rfl (by simp) (Rd.nil _)) ?_) | refine X_pure Try.func41 (works8_calls) ?_ | refine X_gpure Try.func41 (fun _ => works8_calls) ?_ | refine X_gt ?_ | refine X_q ?_ | refine X_g ?_ | refine X_gf ?_ | refine X_niln ?_ | refine X_nil ?_ | (refine X_var (fun yn bn hn1 hn2 hn3 hn4 hn5 => ?_)) | refine W_seqk (fun K hK => ?_) | refine W_seqr ?_ | refine W_ret ?_ | refine W_skip ?_ | refine W_block ?_ | refine W_exit ?_ | (refine X_s (fun x K hK => ?_); go_simp; refine hK _ _ (Ext.alloc _ _) ?_; clear hK K; refine X_al x ?_; generalize (World.later _ x).heap.size = bn; intro yn hn1 hn2 hn3 hn4 hn5; clear x) | refine W_tt ?_ | refine W_ff ?_ | refine W_test (fun hc => ?_) (fun hc => ?_) | go_step)
          exact Body_ret hd ⟨rfl, Ext.trans HE9.out (by simp)⟩
    · obtain rfl : no = no0 := by
        rcases hst with ⟨h, -⟩ | ⟨-, h⟩
        · exact absurd h hno
        · exact h
      obtain rfl := HTn.out (fun h => hno (HNO0.out.trans h))
      have hnb : (no == 0) = false := beq_false_of_ne hno
      have hnn : (no != 0) = true := by simp [hno]
      have HEw := Lib.hid hEw
      clear hE hst HT0 HTn htv hEw
      by_cases hlt : k < l.length
      · have hki : (k : Int) < l.length := by omega
        repeat' (first | refine X_pure Try.func45 (num8_calls _ _) ?_ | refine X_gpure Try.func45 (fun _ => num8_calls _ _) ?_ | refine X_pure Try.func41 (works8_calls) ?_ | refine X_gpure Try.func41 (fun _ => works8_calls) ?_ | refine X_gt ?_ | refine X_q ?_ | refine X_g ?_ | refine X_gf ?_ | refine X_niln ?_ | refine X_nil ?_ | (refine X_var (fun yn bn hn1 hn2 hn3 hn4 hn5 => ?_)) | refine W_seqk (fun K hK => ?_) | refine W_seqr ?_ | refine W_ret ?_ | refine W_skip ?_ | refine W_block ?_ | refine W_exit ?_ | (refine X_s (fun x K hK => ?_); go_simp; refine hK _ _ (Ext.alloc _ _) ?_; clear hK K; refine X_al x ?_; generalize (World.later _ x).heap.size = bn; intro yn hn1 hn2 hn3 hn4 hn5; clear x) | refine W_tt ?_ | refine W_ff ?_ | refine W_test (fun hc => ?_) (fun hc => ?_) | go_step)
        exact Body_ret hd ⟨rfl, Ext.trans HEw.out (by simp)⟩
      · have hki : ¬ (k : Int) < l.length := by omega
        repeat' (first | refine X_pure Try.func45 (num8_calls _ _) ?_ | refine X_gpure Try.func45 (fun _ => num8_calls _ _) ?_ | refine X_pure Try.func41 (works8_calls) ?_ | refine X_gpure Try.func41 (fun _ => works8_calls) ?_ | refine X_gt ?_ | refine X_q ?_ | refine X_g ?_ | refine X_gf ?_ | refine X_niln ?_ | refine X_nil ?_ | (refine X_var (fun yn bn hn1 hn2 hn3 hn4 hn5 => ?_)) | refine W_seqk (fun K hK => ?_) | refine W_seqr ?_ | refine W_ret ?_ | refine W_skip ?_ | refine W_block ?_ | refine W_exit ?_ | (refine X_s (fun x K hK => ?_); go_simp; refine hK _ _ (Ext.alloc _ _) ?_; clear hK K; refine X_al x ?_; generalize (World.later _ x).heap.size = bn; intro yn hn1 hn2 hn3 hn4 hn5; clear x) | refine W_tt ?_ | refine W_ff ?_ | refine W_test (fun hc => ?_) (fun hc => ?_) | go_step)
        exact Body_ret hd ⟨rfl, Ext.trans HEw.out (by simp)⟩
  · have hli : (60 : Int) < (l.length : Int) := by omega
    refine Fn_of Try.func13 rfl (Nat.le_of_ble_eq_true rfl) ?_; intro A hd hA; simp only [ix, Nat.reduceAdd]; replace hA : A.tmps.size = 102 := hA
    repeat' (first | refine X_pure Try.func41 (works8_calls) ?_ | refine X_gpure Try.func41 (fun _ => works8_calls) ?_ | refine X_gt ?_ | refine X_q ?_ | refine X_g ?_ | refine X_gf ?_ | refine X_niln ?_ | refine X_nil ?_ | (refine X_var (fun yn bn hn1 hn2 hn3 hn4 hn5 => ?_)) | refine W_seqk (fun K hK => ?_) | refine W_seqr ?_ | refine W_ret ?_ | refine W_skip ?_ | refine W_block ?_ | refine W_exit ?_ | (refine X_s (fun x K hK => ?_); go_simp; refine hK _ _ (Ext.alloc _ _) ?_; clear hK K; refine X_al x ?_; generalize (World.later _ x).heap.size = bn; intro yn hn1 hn2 hn3 hn4 hn5; clear x) | refine W_tt ?_ | refine W_ff ?_ | refine W_test (fun hc => ?_) (fun hc => ?_) | go_step)
    exact Body_ret hd ⟨rfl, by simp⟩
end Go.Ws
