import Derived.Test.YtkdcgmloapmpkaaVisF
namespace Go.Ws
open Go Go.RowKit Go.Proofs
set_option maxHeartbeats 2000000
set_option maxRecDepth 100000
set_option linter.unusedVariables false
set_option linter.unusedSimpArgs false
set_option pp.deepTerms true
set_option pp.maxSteps 100000000

/-- Was the entry's transaction marked? -/
def wasM (l : List Ent) (e : Ent) : Bool := decide (0 ≤ e.id) && (mkOf l (e.id, e.num)).getD false
def pushNo (l : List Ent) (e : Ent) : Int := if appendNo l e ≠ 0 then appendNo l e else if wasM l e = true then 190 else 0
def pushLog (l : List Ent) (e : Ent) : List Ent := if pushNo l e = 0 then l ++ [e] else l
theorem RdrAt.copy {w w' : World} {b tb m : Nat} {u : Value} {T F : Nat → Prop} {log : List Ent} {at_ : Int} {told : List Int} (h : RdrAt w b tb m u T log at_ told) (hE : Ext w w') (f1 : F b) (f2 : F m) (f3 : ∀ k, u.ownBlock = some k → F k) (f4 : ∀ k, T k → F k) : Rdr w' b F log at_ told :=
  ⟨tb, m, u, T, h.later hE, f1, f2, f3, f4⟩
theorem ofNo_snoc {l : List Ent} {e : Ent} (h : ofNo l = 0) : ofNo (l ++ [e]) = appendNo l e := by
  unfold ofNo at *
  rw [ofFrom_append l [e] [] h]
  simp only [List.nil_append, ofFrom]
  by_cases h0 : appendNo l e = 0
  · simp [h0]
  · simp [h0]
theorem RdrAt.push {w w1 w' : World} {b tb m : Nat} {u : Value} {T T' : Nat → Prop} {log log' : List Ent} {at_ : Int} {told : List Int} (h : RdrAt w b tb m u T log at_ told) (hE : Ext w w1) (hM : Mod (fun k => T k ∨ k = m) w1 w') (hT : Tab w' tb T' log')
    (hT' : ∀ k, T' k → (T k ∨ w1.heap.size ≤ k) ∧ k < w'.heap.size) (hok : ofNo log' = 0) (hm : MapIs kp vB w' m (mkOf log')) : RdrAt w' b tb m u T' log' at_ told := by
  have h1 := h.later hE
  have hs := hE.size
  have hlt := h.here
  have nT : ∀ k, ¬ T k → k < w.heap.size → ¬ T' k := fun k hk hl h => by
    rcases (hT' k h).1 with h | h
    · exact hk h
    · omega
  refine ⟨h1.blk.mod hM ?_, hT, hok, fun k hk => (hT' k hk).2, nT _ h.nb (hlt _ (.inl rfl)), nT _ h.nm (hlt _ (.inr (.inl rfl))), fun k hk => ⟨nT _ (h.nu k hk).1 (hlt _ (.inr (.inr (.inl hk)))), (h.nu k hk).2⟩, hm, h1.own.mod hM ?_⟩
  · rintro (h2 | h2)
    · exact h.nb h2
    · exact h.bm h2
  · rintro k hk (h2 | h2)
    · exact (h.nu k hk).1 h2
    · exact (h.nu k hk).2.2 h2
theorem pushNo_zero {l : List Ent} {e : Ent} (ha : appendNo l e = 0) (hw : wasM l e = false) : pushNo l e = 0 ∧ pushLog l e = l ++ [e] := by
  have : pushNo l e = 0 := by unfold pushNo; rw [if_neg (by simp [ha]), if_neg (by simp [hw])]
  exact ⟨this, by unfold pushLog; rw [if_pos this]⟩
theorem pushNo_no {l : List Ent} {e : Ent} (ha : ¬ appendNo l e = 0) : pushNo l e = appendNo l e ∧ pushLog l e = l := by
  have : pushNo l e = appendNo l e := by unfold pushNo; rw [if_pos ha]
  exact ⟨this, by unfold pushLog; rw [this, if_neg ha]⟩
theorem pushNo_was {l : List Ent} {e : Ent} (ha : appendNo l e = 0) (hw : wasM l e = true) : pushNo l e = 190 ∧ pushLog l e = l := by
  have : pushNo l e = 190 := by unfold pushNo; rw [if_neg (by simp [ha]), if_pos hw]
  exact ⟨this, by unfold pushLog; rw [this]; rfl⟩
theorem rpush_calls {b : Nat} {w : World} {F : Nat → Prop} {log : List Ent} {at_ : Int} {told : List Int} (h : Rdr w b F log at_ told) (e : Ent) : Ret Try.prog 31 #[.pointer (some ⟨b, 0, none⟩), e.v] w fun v w' =>
    v = .int .i64 (pushNo log e) ∧ Mod F w w' ∧ Rdr w' b (fun k => F k ∨ w.heap.size ≤ k) (pushLog log e) at_ told := by
  obtain ⟨tb, m, u, T, h, f1, f2, f3, f4⟩ := h
  have H := Lib.hid h
  have HF := Lib.hid (And.intro f1 (And.intro f2 (And.intro f3 f4)))
  obtain ⟨hb, h0, h1, h2, h3⟩ := h.cells
  clear h f1 f2 f3 f4
  refine Fn_of Try.func31 rfl (Nat.le_of_ble_eq_true rfl) ?_; intro A hd hA; simp only [ix, Nat.reduceAdd]; replace hA : A.tmps.size = 55 := hA
  repeat' (first | refine X_pure Try.func70 (rnone_calls (b := b) (tb := tb) (by simp [hb]) (by simp [hb, h0])) ?_ | refine X_gpure Try.func70 (fun _ => rnone_calls (b := b) (tb := tb) (by simp [hb]) (by simp [hb, h0])) ?_ | refine X_d (fun vb hvb => ?_) | refine X_dg (fun vb hvb => ?_) | refine X_q ?_ | refine X_g ?_ | refine X_gf ?_ | refine X_niln ?_ | refine X_nil ?_ | (refine X_var (fun yn bn hn1 hn2 hn3 hn4 hn5 => ?_)) | refine W_seqk (fun K hK => ?_) | refine W_seqr ?_ | refine W_ret ?_ | refine W_skip ?_ | refine W_block ?_ | refine W_exit ?_ | (refine X_s (fun x K hK => ?_); go_simp; refine hK _ _ (Ext.alloc _ _) ?_; clear hK K; refine X_al x ?_; generalize (World.later _ x).heap.size = bn; intro yn hn1 hn2 hn3 hn4 hn5; clear x) | refine W_tt ?_ | refine W_ff ?_ | refine W_test (fun hc => ?_) (fun hc => ?_) | go_step)
  refine W_drawσ [(0, 0), (1, 0), (2, 0), (3, 0), (4, 0), (5, 0), (6, 0), (7, 0), (8, 0), (9, 1), (10, 0), (11, 0)] (by kernel_rfl) (by kernel_rfl) ?_
  simp only [List.map_cons, List.map_nil, List.getD_cons_zero, List.getD_cons_succ]
  repeat' (first | (refine X_gpure1 Try.func71 (fun _ x => txnOf_calls e _) ?_) | refine X_d (fun vb hvb => ?_) | refine X_dg (fun vb hvb => ?_) | refine X_q ?_ | refine X_g ?_ | refine X_gf ?_ | refine X_niln ?_ | refine X_nil ?_ | (refine X_var (fun yn bn hn1 hn2 hn3 hn4 hn5 => ?_)) | refine W_seqk (fun K hK => ?_) | refine W_seqr ?_ | refine W_ret ?_ | refine W_skip ?_ | refine W_block ?_ | refine W_exit ?_ | (refine X_s (fun x K hK => ?_); go_simp; refine hK _ _ (Ext.alloc _ _) ?_; clear hK K; refine X_al x ?_; generalize (World.later _ x).heap.size = bn; intro yn hn1 hn2 hn3 hn4 hn5; clear x) | refine W_tt ?_ | refine W_ff ?_ | refine W_test (fun hc => ?_) (fun hc => ?_) | go_step)
  refine X_glook (H.out.hm.later (by simp)) keysTxn Try.underlying93 (z := default) (e.id, e.num) ?_
  repeat' (first | refine X_d (fun vb hvb => ?_) | refine X_dg (fun vb hvb => ?_) | refine X_q ?_ | refine X_g ?_ | refine X_gf ?_ | refine X_niln ?_ | refine X_nil ?_ | (refine X_var (fun yn bn hn1 hn2 hn3 hn4 hn5 => ?_)) | refine W_seqk (fun K hK => ?_) | refine W_seqr ?_ | refine W_ret ?_ | refine W_skip ?_ | refine W_block ?_ | refine W_exit ?_ | (refine X_s (fun x K hK => ?_); go_simp; refine hK _ _ (Ext.alloc _ _) ?_; clear hK K; refine X_al x ?_; generalize (World.later _ x).heap.size = bn; intro yn hn1 hn2 hn3 hn4 hn5; clear x) | refine W_tt ?_ | refine W_ff ?_ | refine W_test (fun hc => ?_) (fun hc => ?_) | go_step)
  · have hwm : wasM log e = true := by repeat cases ‹Eqn _ _›
                                       simpa [wasM] using hc
    have HW := Lib.hid hwm
    have hE0 : Ext w (w.later yn) := by simp
    clear hwm hc
    refine X_ret Try.func60 (tabCopy_calls (H.out.tab.later (by simp)) H.out.ok) (fun v' w1 hR => ?_)
    obtain ⟨b', rfl, hE1, hT1⟩ := hR
    have HT1 := Lib.hid hT1
    clear hT1 h1 h2 h3
    obtain ⟨y1, rfl⟩ := hE1.get
    repeat' (first | refine X_d (fun vb hvb => ?_) | refine X_dg (fun vb hvb => ?_) | refine X_q ?_ | refine X_g ?_ | refine X_gf ?_ | refine X_niln ?_ | refine X_nil ?_ | (refine X_var (fun yn bn hn1 hn2 hn3 hn4 hn5 => ?_)) | refine W_seqk (fun K hK => ?_) | refine W_seqr ?_ | refine W_ret ?_ | refine W_skip ?_ | refine W_block ?_ | refine W_exit ?_ | (refine X_s (fun x K hK => ?_); go_simp; refine hK _ _ (Ext.alloc _ _) ?_; clear hK K; refine X_al x ?_; generalize (World.later _ x).heap.size = bn; intro yn hn1 hn2 hn3 hn4 hn5; clear x) | refine W_tt ?_ | refine W_ff ?_ | refine W_test (fun hc => ?_) (fun hc => ?_) | go_step)
    refine X_ret Try.func50 (tabAppend_calls HT1.out e) (fun v' w2 hR => ?_)
    obtain ⟨rfl, hM, -⟩ := hR
    have hE2 : Ext (w.later yn) w2 := Ext.fresh y1.2 hM (fun k h => h)
    have HE2 := Lib.hid (Ext.trans hE0 hE2)
    clear hM hE0 hE1 hE2
    by_cases ha : appendNo log e = 0
    · obtain ⟨hp0, hpl⟩ := pushNo_was ha HW.out
      rw [hp0, hpl] at hK
      rw [ha]
      have HA := Lib.hid ha
      clear ha
      repeat' (first | refine X_d (fun vb hvb => ?_) | refine X_dg (fun vb hvb => ?_) | refine X_q ?_ | refine X_g ?_ | refine X_gf ?_ | refine X_niln ?_ | refine X_nil ?_ | (refine X_var (fun yn bn hn1 hn2 hn3 hn4 hn5 => ?_)) | refine W_seqk (fun K hK => ?_) | refine W_seqr ?_ | refine W_ret ?_ | refine W_skip ?_ | refine W_block ?_ | refine W_exit ?_ | (refine X_s (fun x K hK => ?_); go_simp; refine hK _ _ (Ext.alloc _ _) ?_; clear hK K; refine X_al x ?_; generalize (World.later _ x).heap.size = bn; intro yn hn1 hn2 hn3 hn4 hn5; clear x) | refine W_tt ?_ | refine W_ff ?_ | refine W_test (fun hc => ?_) (fun hc => ?_) | go_step)
      exact Body_ret hd ⟨by rw [hp0], Mod.mono HE2.out (fun _ _ h => h.elim), by rw [hpl]; exact (H.out.copy HE2.out HF.out.1 HF.out.2.1 HF.out.2.2.1 HF.out.2.2.2).mono (fun k h => .inl h)⟩
    · obtain ⟨hp0, hpl⟩ := pushNo_no ha
      rw [hp0, hpl] at hK
      have HA := Lib.hid ha
      have ha' : (appendNo log e == 0) = false := by simpa using ha
      clear ha
      repeat' (first | refine X_d (fun vb hvb => ?_) | refine X_dg (fun vb hvb => ?_) | refine X_q ?_ | refine X_g ?_ | refine X_gf ?_ | refine X_niln ?_ | refine X_nil ?_ | (refine X_var (fun yn bn hn1 hn2 hn3 hn4 hn5 => ?_)) | refine W_seqk (fun K hK => ?_) | refine W_seqr ?_ | refine W_ret ?_ | refine W_skip ?_ | refine W_block ?_ | refine W_exit ?_ | (refine X_s (fun x K hK => ?_); go_simp; refine hK _ _ (Ext.alloc _ _) ?_; clear hK K; refine X_al x ?_; generalize (World.later _ x).heap.size = bn; intro yn hn1 hn2 hn3 hn4 hn5; clear x) | refine W_tt ?_ | refine W_ff ?_ | refine W_test (fun hc => ?_) (fun hc => ?_) | go_step)
      · exact Body_ret hd ⟨rfl, Mod.mono HE2.out (fun _ _ h => h.elim), (H.out.copy HE2.out HF.out.1 HF.out.2.1 HF.out.2.2.1 HF.out.2.2.2).mono (fun k h => .inl h)⟩
      · exact absurd (by simpa using hc) HA.out
  · have hwm : wasM log e = false := by repeat cases ‹Eqn _ _›
                                        simpa [wasM] using hc
    have HW := Lib.hid hwm
    clear hwm hc
    repeat cases ‹Eqn _ _›
    refine W_draw (by kernel_rfl) (by kernel_rfl) ?_
    repeat' (first | refine X_d (fun vb hvb => ?_) | refine X_dg (fun vb hvb => ?_) | refine X_q ?_ | refine X_g ?_ | refine X_gf ?_ | refine X_niln ?_ | refine X_nil ?_ | (refine X_var (fun yn bn hn1 hn2 hn3 hn4 hn5 => ?_)) | refine W_seqk (fun K hK => ?_) | refine W_seqr ?_ | refine W_ret ?_ | refine W_skip ?_ | refine W_block ?_ | refine W_exit ?_ | (refine X_s (fun x K hK => ?_); go_simp; refine hK _ _ (Ext.alloc _ _) ?_; clear hK K; refine X_al x ?_; generalize (World.later _ x).heap.size = bn; intro yn hn1 hn2 hn3 hn4 hn5; clear x) | refine W_tt ?_ | refine W_ff ?_ | refine W_test (fun hc => ?_) (fun hc => ?_) | go_step)
    refine X_ret Try.func50 (tabAppend_calls (H.out.tab.later (by simp)) e) (fun v' w2 hR => ?_)
    obtain ⟨rfl, hM, hT⟩ := hR
    have hTl := H.out.ftl
    have hs1 : w.heap.size ≤ (w.later yn).heap.size := yn.2.size
    have hs2 := hM.size
    have hbn : bn < w2.heap.size := by omega
    have q : ∀ k, w2.cell? ⟨bn, k, none⟩ = _ := fun k => (cell?_mod hM hn2 (fun h => by have := hTl _ h; omega)).trans (hn3 k)
    have c1 : w2.cell? ⟨b, 1, none⟩ = some (.map (some m)) := (cell?_mod hM (by omega) H.out.nb).trans (by simp [hb, h1])
    have hb2 : b < w2.heap.size := by omega
    have HQ := Lib.hid q
    have HM := Lib.hid hM
    have HT := Lib.hid hT
    have hmm := Lib.hid ((H.out.hm.later (w' := w.later yn) yn.2).mod hM H.out.nm)
    clear hn3 hn4 hn5 hM hT hTl h1 h2 h3
    by_cases ha : appendNo log e = 0
    · have HA := Lib.hid ha
      rw [ha]
      clear ha
      have hT2 := HT.out
      rw [if_pos HA.out] at hT2
      have HT2 := Lib.hid hT2.here
      clear HT hT2
      obtain ⟨hp0, hpl⟩ := pushNo_zero HA.out HW.out
      rw [hp0, hpl] at hK
      repeat' (first | refine X_d (fun vb hvb => ?_) | refine X_dg (fun vb hvb => ?_) | refine X_q ?_ | refine X_g ?_ | refine X_gf ?_ | refine X_niln ?_ | refine X_nil ?_ | (refine X_var (fun yn bn hn1 hn2 hn3 hn4 hn5 => ?_)) | refine W_seqk (fun K hK => ?_) | refine W_seqr ?_ | refine W_ret ?_ | refine W_skip ?_ | refine W_block ?_ | refine W_exit ?_ | (refine X_s (fun x K hK => ?_); go_simp; refine hK _ _ (Ext.alloc _ _) ?_; clear hK K; refine X_al x ?_; generalize (World.later _ x).heap.size = bn; intro yn hn1 hn2 hn3 hn4 hn5; clear x) | refine W_tt ?_ | refine W_ff ?_ | refine W_test (fun hc => ?_) (fun hc => ?_) | go_step)
      · cases hvb
        have hk : e.kind ≠ 1 := by simpa using hc
        clear hc
        refine W_drawσ [(0, 0), (1, 0), (2, 0), (3, 0), (4, 0), (5, 1), (6, 1), (7, 2)] (by kernel_rfl) (by kernel_rfl) ?_
        simp only [List.map_cons, List.map_nil, List.getD_cons_zero, List.getD_cons_succ]
        have q := HQ.out
        repeat' (first | (refine X_pure1 Try.func71 (fun x => txnOf_calls e _) ?_) | refine X_d (fun vb hvb => ?_) | refine X_dg (fun vb hvb => ?_) | refine X_q ?_ | refine X_g ?_ | refine X_gf ?_ | refine X_niln ?_ | refine X_nil ?_ | (refine X_var (fun yn bn hn1 hn2 hn3 hn4 hn5 => ?_)) | refine W_seqk (fun K hK => ?_) | refine W_seqr ?_ | refine W_ret ?_ | refine W_skip ?_ | refine W_block ?_ | refine W_exit ?_ | (refine X_s (fun x K hK => ?_); go_simp; refine hK _ _ (Ext.alloc _ _) ?_; clear hK K; refine X_al x ?_; generalize (World.later _ x).heap.size = bn; intro yn hn1 hn2 hn3 hn4 hn5; clear x) | refine W_tt ?_ | refine W_ff ?_ | refine W_test (fun hc => ?_) (fun hc => ?_) | go_step)
        have q0 := hn3 0
        have q1 := hn3 1
        have hml := H.out.hm.lt
        refine X_ret Try.func72 (with_calls (p := (e.id, e.num)) (hmm.out.later (by simp)) hn2 q0 q1 (by omega)) (fun v' w' hR => ?_)
        obtain ⟨rfl, hM, hMI⟩ := hR
        repeat' (first | refine X_d (fun vb hvb => ?_) | refine X_dg (fun vb hvb => ?_) | refine X_q ?_ | refine X_g ?_ | refine X_gf ?_ | refine X_niln ?_ | refine X_nil ?_ | (refine X_var (fun yn bn hn1 hn2 hn3 hn4 hn5 => ?_)) | refine W_seqk (fun K hK => ?_) | refine W_seqr ?_ | refine W_ret ?_ | refine W_skip ?_ | refine W_block ?_ | refine W_exit ?_ | (refine X_s (fun x K hK => ?_); go_simp; refine hK _ _ (Ext.alloc _ _) ?_; clear hK K; refine X_al x ?_; generalize (World.later _ x).heap.size = bn; intro yn hn1 hn2 hn3 hn4 hn5; clear x) | refine W_tt ?_ | refine W_ff ?_ | refine W_test (fun hc => ?_) (fun hc => ?_) | go_step)
        have hs3 : w2.heap.size ≤ (w2.later yn).heap.size := yn.2.size
        have hs4 := hM.size
        rename Later w => y1
        have hMM : Mod (fun k => T k ∨ k = m) (w.later y1) w' := Mod.trans (Mod.trans HM.out yn.2 (fun k _ h => .inl h) (fun _ _ h => h.elim)) hM (fun _ _ h => h) (fun k _ h => .inr h)
        have hTT : Tab w' tb _ (log ++ [e]) := (HT2.out.later yn.2).mod hM (fun k hk h => by
          subst h
          rcases hk.1 with h | h
          · exact H.out.nm h
          · omega)
        refine Body_ret hd ⟨rfl, Mod.trans y1.2 hMM (fun _ _ h => h.elim) (fun k _ h => h.elim (HF.out.2.2.2 k) (fun e => e ▸ HF.out.2.1)), tb, m, u, _, H.out.push y1.2 hMM hTT (fun k h => ⟨h.1, by omega⟩) ((ofNo_snoc H.out.ok).trans HA.out) ?_, ?_, ?_, ?_, ?_⟩
        · rw [mkOf_snoc, if_pos hk]; exact hMI
        · exact .inl HF.out.1
        · exact .inl HF.out.2.1
        · exact fun k hk => .inl (HF.out.2.2.1 k hk)
        · rintro k ⟨h | h, _⟩
          · exact .inl (HF.out.2.2.2 k h)
          · exact .inr (Nat.le_trans hs1 h)
      · cases hvb
        have hk : e.kind = 1 := by simpa using hc
        refine Body_ret hd ⟨rfl, Mod.trans yn.2 HM.out (fun _ _ h => h.elim) (fun k _ h => HF.out.2.2.2 k h), tb, m, u, _, H.out.push yn.2 (HM.out.mono (fun k _ h => .inl h)) HT2.out (fun k h => h) ((ofNo_snoc H.out.ok).trans HA.out) ?_, ?_, ?_, ?_, ?_⟩
        · rw [mkOf_snoc, if_neg (by simp [hk])]; exact hmm.out
        · exact .inl HF.out.1
        · exact .inl HF.out.2.1
        · exact fun k hk => .inl (HF.out.2.2.1 k hk)
        · rintro k ⟨h | h, _⟩
          · exact .inl (HF.out.2.2.2 k h)
          · exact .inr (Nat.le_trans hs1 h)
    · have HA := Lib.hid ha
      have ha' : (appendNo log e == 0) = false := by simpa using ha
      clear ha
      have hT2 := HT.out
      rw [if_neg HA.out] at hT2
      have HT2 := Lib.hid hT2.here
      clear HT hT2
      obtain ⟨hp0, hpl⟩ := pushNo_no HA.out
      rw [hp0, hpl] at hK
      repeat' (first | refine X_d (fun vb hvb => ?_) | refine X_dg (fun vb hvb => ?_) | refine X_q ?_ | refine X_g ?_ | refine X_gf ?_ | refine X_niln ?_ | refine X_nil ?_ | (refine X_var (fun yn bn hn1 hn2 hn3 hn4 hn5 => ?_)) | refine W_seqk (fun K hK => ?_) | refine W_seqr ?_ | refine W_ret ?_ | refine W_skip ?_ | refine W_block ?_ | refine W_exit ?_ | (refine X_s (fun x K hK => ?_); go_simp; refine hK _ _ (Ext.alloc _ _) ?_; clear hK K; refine X_al x ?_; generalize (World.later _ x).heap.size = bn; intro yn hn1 hn2 hn3 hn4 hn5; clear x) | refine W_tt ?_ | refine W_ff ?_ | refine W_test (fun hc => ?_) (fun hc => ?_) | go_step)
      · cases hvb; cases hc
      · refine Body_ret hd ⟨rfl, Mod.trans yn.2 HM.out (fun _ _ h => h.elim) (fun k _ h => HF.out.2.2.2 k h), tb, m, u, _, H.out.push yn.2 (HM.out.mono (fun k _ h => .inl h)) HT2.out (fun k h => h) H.out.ok hmm.out, ?_, ?_, ?_, ?_⟩
        · exact .inl HF.out.1
        · exact .inl HF.out.2.1
        · exact fun k hk => .inl (HF.out.2.2.1 k hk)
        · rintro k ⟨h | h, _⟩
          · exact .inl (HF.out.2.2.2 k h)
          · exact .inr (Nat.le_trans hs1 h)
end Go.Ws
