import Derived.Test.YtkdcgmloapmpkaaTabC
namespace Go.Ws
open Go Go.RowKit Go.Proofs
set_option maxHeartbeats 2000000
set_option maxRecDepth 100000
set_option linter.unusedVariables false
set_option linter.unusedSimpArgs false
set_option pp.deepTerms true
set_option pp.maxSteps 100000000

theorem Own.empty {α : Type} {enc : α → List Value} {k b : Nat} {E : TypeId} {w : World} (hb : w.heap[b]? = some (.cells #[] E)) : Own enc k E w (.slice (some ⟨b, 0, none⟩) 0 0) ([] : List α) :=
  ⟨by simp, .inr ⟨b, 0, #[], rfl, Nat.zero_le _, hb, Nat.le_refl _, Nat.zero_le _, by simp, by simp⟩⟩
theorem tabLen_calls {b : Nat} {w : World} {F : Nat → Prop} {l : List Ent} (h : Tab w b F l) : Pure Try.prog 51 #[.pointer (some ⟨b, 0, none⟩)] w (.int .i64 l.length) := by
  obtain ⟨u, mb, g, h, hF⟩ := h
  have hs := h.seen
  obtain ⟨hlt, hmade, hlog, hrd⟩ := hs
  obtain ⟨A0, c, rfl, hc, hcm, -⟩ := hrd.ent
  clear h hF hrd
  refine Fn_of Try.func51 rfl (Nat.le_of_ble_eq_true rfl) ?_; intro A hd hA; simp only [ix, Nat.reduceAdd]; replace hA : A.tmps.size = 11 := hA
  repeat' (first | refine X_pure Try.func74 (none_calls (b := b) (by simp [hlt]) (by simp [hlt, hmade])) ?_ | refine X_gpure Try.func74 (fun _ => none_calls (b := b) (by simp [hlt]) (by simp [hlt, hmade])) ?_ | refine X_d (fun vb hvb => ?_) | refine X_dg (fun vb hvb => ?_) | refine X_q ?_ | refine X_g ?_ | refine X_gf ?_ | refine X_niln ?_ | refine X_nil ?_ | (refine X_var (fun yn bn hn1 hn2 hn3 hn4 hn5 => ?_)) | refine W_seqk (fun K hK => ?_) | refine W_seqr ?_ | refine W_draw (by kernel_rfl) (by kernel_rfl) ?_ | refine W_ret ?_ | refine W_skip ?_ | refine W_block ?_ | refine W_exit ?_ | (refine X_s (fun x K hK => ?_); go_simp; refine hK _ _ (Ext.alloc _ _) ?_; clear hK K; refine X_al x ?_; generalize (World.later _ x).heap.size = bn; intro yn hn1 hn2 hn3 hn4 hn5; clear x) | refine W_tt ?_ | refine W_ff ?_ | refine W_test (fun hc => ?_) (fun hc => ?_) | go_step)
  · exact Body_ret hd ⟨rfl, by simp⟩
theorem tabLen_nil_calls {w : World} : Pure Try.prog 51 #[.pointer none] w (.int .i64 0) := by
  refine Fn_of Try.func51 rfl (Nat.le_of_ble_eq_true rfl) ?_; intro A hd hA; simp only [ix, Nat.reduceAdd]; replace hA : A.tmps.size = 11 := hA
  repeat' (first | refine X_pure Try.func74 (none_nil_calls) ?_ | refine X_gpure Try.func74 (fun _ => none_nil_calls) ?_ | refine X_d (fun vb hvb => ?_) | refine X_dg (fun vb hvb => ?_) | refine X_q ?_ | refine X_g ?_ | refine X_gf ?_ | refine X_niln ?_ | refine X_nil ?_ | (refine X_var (fun yn bn hn1 hn2 hn3 hn4 hn5 => ?_)) | refine W_seqk (fun K hK => ?_) | refine W_seqr ?_ | refine W_draw (by kernel_rfl) (by kernel_rfl) ?_ | refine W_ret ?_ | refine W_skip ?_ | refine W_block ?_ | refine W_exit ?_ | (refine X_s (fun x K hK => ?_); go_simp; refine hK _ _ (Ext.alloc _ _) ?_; clear hK K; refine X_al x ?_; generalize (World.later _ x).heap.size = bn; intro yn hn1 hn2 hn3 hn4 hn5; clear x) | refine W_tt ?_ | refine W_ff ?_ | refine W_test (fun hc => ?_) (fun hc => ?_) | go_step)
  · exact Body_ret hd ⟨rfl, by simp⟩
theorem tabCopy_calls {b : Nat} {w : World} {F : Nat → Prop} {l : List Ent} (h : Tab w b F l) (hok : ofNo l = 0) : Ret Try.prog 60 #[.pointer (some ⟨b, 0, none⟩)] w fun v w' => ∃ b', v = .pointer (some ⟨b', 0, none⟩) ∧ Ext w w' ∧ Tab w' b' (fun k => w.heap.size ≤ k) l := by
  obtain ⟨u, mb, g, h, hF⟩ := h
  have hs := h.seen
  obtain ⟨hlt, hmade, hlog, hrd⟩ := hs
  have hr0 := Lib.hid hrd
  obtain ⟨A0, c, rfl, hc, hcm, -⟩ := hrd.ent
  clear h hF hrd
  refine Fn_of Try.func60 rfl (Nat.le_of_ble_eq_true rfl) ?_; intro A hd hA; simp only [ix, Nat.reduceAdd]; replace hA : A.tmps.size = 17 := hA
  repeat' (first | refine X_pure Try.func74 (none_calls (b := b) (by simp [hlt]) (by simp [hlt, hmade])) ?_ | refine X_gpure Try.func74 (fun _ => none_calls (b := b) (by simp [hlt]) (by simp [hlt, hmade])) ?_ | refine X_d (fun vb hvb => ?_) | refine X_dg (fun vb hvb => ?_) | refine X_q ?_ | refine X_g ?_ | refine X_gf ?_ | refine X_niln ?_ | refine X_nil ?_ | (refine X_var (fun yn bn hn1 hn2 hn3 hn4 hn5 => ?_)) | refine W_seqk (fun K hK => ?_) | refine W_seqr ?_ | refine W_draw (by kernel_rfl) (by kernel_rfl) ?_ | refine W_ret ?_ | refine W_skip ?_ | refine W_block ?_ | refine W_exit ?_ | (refine X_s (fun x K hK => ?_); go_simp; refine hK _ _ (Ext.alloc _ _) ?_; clear hK K; refine X_al x ?_; generalize (World.later _ x).heap.size = bn; intro yn hn1 hn2 hn3 hn4 hn5; clear x) | refine W_tt ?_ | refine W_ff ?_ | refine W_test (fun hc => ?_) (fun hc => ?_) | go_step)
  refine X_ret Try.func43 (tabOf_calls l _ _ hr0.out) (fun v' w' hR => ?_)
  obtain ⟨hE, hR0, hR1⟩ := hR
  obtain ⟨b', rfl, hT⟩ := hR0 hok
  clear hR0 hR1
  have HT := Lib.hid hT
  clear hT
  repeat' (first | refine X_d (fun vb hvb => ?_) | refine X_dg (fun vb hvb => ?_) | refine X_q ?_ | refine X_g ?_ | refine X_gf ?_ | refine X_niln ?_ | refine X_nil ?_ | (refine X_var (fun yn bn hn1 hn2 hn3 hn4 hn5 => ?_)) | refine W_seqk (fun K hK => ?_) | refine W_seqr ?_ | refine W_draw (by kernel_rfl) (by kernel_rfl) ?_ | refine W_ret ?_ | refine W_skip ?_ | refine W_block ?_ | refine W_exit ?_ | (refine X_s (fun x K hK => ?_); go_simp; refine hK _ _ (Ext.alloc _ _) ?_; clear hK K; refine X_al x ?_; generalize (World.later _ x).heap.size = bn; intro yn hn1 hn2 hn3 hn4 hn5; clear x) | refine W_tt ?_ | refine W_ff ?_ | refine W_test (fun hc => ?_) (fun hc => ?_) | go_step)
  exact Body_ret hd ⟨b', rfl, hE, HT.out⟩
theorem tabCopy_nil_calls {w : World} : Pure Try.prog 60 #[.pointer none] w (.pointer none) := by
  refine Fn_of Try.func60 rfl (Nat.le_of_ble_eq_true rfl) ?_; intro A hd hA; simp only [ix, Nat.reduceAdd]; replace hA : A.tmps.size = 17 := hA
  repeat' (first | refine X_pure Try.func74 (none_nil_calls) ?_ | refine X_gpure Try.func74 (fun _ => none_nil_calls) ?_ | refine X_d (fun vb hvb => ?_) | refine X_dg (fun vb hvb => ?_) | refine X_q ?_ | refine X_g ?_ | refine X_gf ?_ | refine X_niln ?_ | refine X_nil ?_ | (refine X_var (fun yn bn hn1 hn2 hn3 hn4 hn5 => ?_)) | refine W_seqk (fun K hK => ?_) | refine W_seqr ?_ | refine W_draw (by kernel_rfl) (by kernel_rfl) ?_ | refine W_ret ?_ | refine W_skip ?_ | refine W_block ?_ | refine W_exit ?_ | (refine X_s (fun x K hK => ?_); go_simp; refine hK _ _ (Ext.alloc _ _) ?_; clear hK K; refine X_al x ?_; generalize (World.later _ x).heap.size = bn; intro yn hn1 hn2 hn3 hn4 hn5; clear x) | refine W_tt ?_ | refine W_ff ?_ | refine W_test (fun hc => ?_) (fun hc => ?_) | go_step)
  · exact Body_ret hd ⟨rfl, by simp⟩
theorem eqlSlI (a : Option Addr) (n c : Nat) (w : World) : (binOp .eql 24 (.slice a n c) (.slice none 0 0)).run Try.prog w = .ok (.bool a.isNone) w := by
  cases a <;> rfl
theorem cloneI_calls {w : World} {v : Value} {l : List Int} (hl : RdI w v l) (hn : l.length ≤ 1000000) : Ret Try.prog 73 #[v] w fun v' w' => Ext w w' ∧ OwnI w' v' l ∧ ∀ b, v'.ownBlock = some b → w.heap.size ≤ b := by
  have hl0 := Lib.hid hl
  obtain ⟨A0, c, rfl, hc, hcm, HA⟩ := hl
  clear HA
  cases A0 with
  | none =>
    have hl1 : l = [] := by
      obtain ⟨A', c', h1, _, _, h4⟩ := hl0.out
      cases h1
      rcases h4 with ⟨_, h⟩ | ⟨b, o, h, _⟩
      · exact h
      · cases h
    subst hl1
    have g := fun w => eqlSlI none 0 c w
    refine Fn_of Try.func73 rfl (Nat.le_of_ble_eq_true rfl) ?_; intro A hd hA; simp only [ix, Nat.reduceAdd]; replace hA : A.tmps.size = 8 := hA
    repeat' (first | refine X_d (fun vb hvb => ?_) | refine X_dg (fun vb hvb => ?_) | refine X_q ?_ | refine X_g ?_ | refine X_gf ?_ | refine X_niln ?_ | refine X_nil ?_ | (refine X_var (fun yn bn hn1 hn2 hn3 hn4 hn5 => ?_)) | refine W_seqk (fun K hK => ?_) | refine W_seqr ?_ | refine W_draw (by kernel_rfl) (by kernel_rfl) ?_ | refine W_ret ?_ | refine W_skip ?_ | refine W_block ?_ | refine W_exit ?_ | (refine X_s (fun x K hK => ?_); go_simp; refine hK _ _ (Ext.alloc _ _) ?_; clear hK K; refine X_al x ?_; generalize (World.later _ x).heap.size = bn; intro yn hn1 hn2 hn3 hn4 hn5; clear x) | refine W_tt ?_ | refine W_ff ?_ | refine W_test (fun hc => ?_) (fun hc => ?_) | go_step)
    exact Body_ret hd ⟨by simp, Own.nil _, by intro b hb; cases hb⟩
  | some a =>
    have g := fun w => eqlSlI (some a) l.length c w
    refine Fn_of Try.func73 rfl (Nat.le_of_ble_eq_true rfl) ?_; intro A hd hA; simp only [ix, Nat.reduceAdd]; replace hA : A.tmps.size = 8 := hA
    repeat' (first | refine X_d (fun vb hvb => ?_) | refine X_dg (fun vb hvb => ?_) | refine X_q ?_ | refine X_g ?_ | refine X_gf ?_ | refine X_niln ?_ | refine X_nil ?_ | (refine X_var (fun yn bn hn1 hn2 hn3 hn4 hn5 => ?_)) | refine W_seqk (fun K hK => ?_) | refine W_seqr ?_ | refine W_draw (by kernel_rfl) (by kernel_rfl) ?_ | refine W_ret ?_ | refine W_skip ?_ | refine W_block ?_ | refine W_exit ?_ | (refine X_s (fun x K hK => ?_); go_simp; refine hK _ _ (Ext.alloc _ _) ?_; clear hK K; refine X_al x ?_; generalize (World.later _ x).heap.size = bn; intro yn hn1 hn2 hn3 hn4 hn5; clear x) | refine W_tt ?_ | refine W_ff ?_ | refine W_test (fun hc => ?_) (fun hc => ?_) | go_step)
    refine X_append (xs := []) elemInt (Own.empty hn5.out) (hl0.out.later (by simp)) (by simp; omega) (by unfold maxLen; simp; omega) (fun v' W' hM hO hF _ => ?_)
    repeat' (first | refine X_d (fun vb hvb => ?_) | refine X_dg (fun vb hvb => ?_) | refine X_q ?_ | refine X_g ?_ | refine X_gf ?_ | refine X_niln ?_ | refine X_nil ?_ | (refine X_var (fun yn bn hn1 hn2 hn3 hn4 hn5 => ?_)) | refine W_seqk (fun K hK => ?_) | refine W_seqr ?_ | refine W_draw (by kernel_rfl) (by kernel_rfl) ?_ | refine W_ret ?_ | refine W_skip ?_ | refine W_block ?_ | refine W_exit ?_ | (refine X_s (fun x K hK => ?_); go_simp; refine hK _ _ (Ext.alloc _ _) ?_; clear hK K; refine X_al x ?_; generalize (World.later _ x).heap.size = bn; intro yn hn1 hn2 hn3 hn4 hn5; clear x) | refine W_tt ?_ | refine W_ff ?_ | refine W_test (fun hc => ?_) (fun hc => ?_) | go_step)
    refine Body_ret hd ⟨Ext.fresh yn.2 hM (fun b hb => by cases hb; exact hn1), hO, fun b hb => ?_⟩
    have hs : w.heap.size ≤ (w.later yn).heap.size := yn.2.size
    rcases hF with h | ⟨g, h, hg⟩
    · rw [h] at hb; cases hb; exact hn1
    · rw [h] at hb; cases hb; omega
theorem tabLog_calls {b : Nat} {w : World} {F : Nat → Prop} {l : List Ent} (h : Tab w b F l) (hN : l.length ≤ 1000000) : Ret Try.prog 59 #[.pointer (some ⟨b, 0, none⟩)] w fun v w' => Ext w w' ∧ OwnE w' v l ∧ ∀ b, v.ownBlock = some b → w.heap.size ≤ b := by
  obtain ⟨u, mb, g, h, hF⟩ := h
  have hs := h.seen
  obtain ⟨hlt, hmade, hlog, hrd⟩ := hs
  have hr0 := Lib.hid hrd
  obtain ⟨A0, c, rfl, hc, hcm, -⟩ := hrd.ent
  clear h hF hrd
  refine Fn_of Try.func59 rfl (Nat.le_of_ble_eq_true rfl) ?_; intro A hd hA; simp only [ix, Nat.reduceAdd]; replace hA : A.tmps.size = 20 := hA
  repeat' (first | refine X_pure Try.func74 (none_calls (b := b) (by simp [hlt]) (by simp [hlt, hmade])) ?_ | refine X_gpure Try.func74 (fun _ => none_calls (b := b) (by simp [hlt]) (by simp [hlt, hmade])) ?_ | refine X_d (fun vb hvb => ?_) | refine X_dg (fun vb hvb => ?_) | refine X_q ?_ | refine X_g ?_ | refine X_gf ?_ | refine X_niln ?_ | refine X_nil ?_ | (refine X_var (fun yn bn hn1 hn2 hn3 hn4 hn5 => ?_)) | refine W_seqk (fun K hK => ?_) | refine W_seqr ?_ | refine W_ret ?_ | refine W_skip ?_ | refine W_block ?_ | refine W_exit ?_ | (refine X_s (fun x K hK => ?_); go_simp; refine hK _ _ (Ext.alloc _ _) ?_; clear hK K; refine X_al x ?_; generalize (World.later _ x).heap.size = bn; intro yn hn1 hn2 hn3 hn4 hn5; clear x) | refine W_tt ?_ | refine W_ff ?_ | refine W_test (fun hc => ?_) (fun hc => ?_) | go_step)
  rename Nat => bx
  refine X_ret Try.func82 (logall_calls (hr0.out.later yn.2)) (fun v' w' hR => ?_)
  obtain ⟨ba, rfl, hE, hba0, hba, hca⟩ := hR
  have hseq := all_iter (hr0.out.later (Ext.trans yn.2 hE)) hba hca
  have hbk : Blk w' bx 22 1 (fun _ => .slice none 0 0) := (Blk.one hn5.out).later hE
  have hwn : w.heap.size ≤ (w.later yn).heap.size := yn.2.size
  have hwn' : (w.later yn).heap.size ≤ w'.heap.size := hE.size
  have hEw : Ext w w' := Ext.trans yn.2 hE
  repeat' (first | refine X_d (fun vb hvb => ?_) | refine X_dg (fun vb hvb => ?_) | refine X_q ?_ | refine X_g ?_ | refine X_gf ?_ | refine X_niln ?_ | refine X_nil ?_ | (refine X_var (fun yn bn hn1 hn2 hn3 hn4 hn5 => ?_)) | refine W_seqk (fun K hK => ?_) | refine W_seqr ?_ | refine W_ret ?_ | refine W_skip ?_ | refine W_block ?_ | refine W_exit ?_ | (refine X_s (fun x K hK => ?_); go_simp; refine hK _ _ (Ext.alloc _ _) ?_; clear hK K; refine X_al x ?_; generalize (World.later _ x).heap.size = bn; intro yn hn1 hn2 hn3 hn4 hn5; clear x) | refine W_tt ?_ | refine W_ff ?_ | refine W_test (fun hc => ?_) (fun hc => ?_) | go_step)
  refine W_range (ps := [13, 14]) (encs := fun x : Int × Ent => [.int .i64 x.1, x.2.v]) Try.func113 (by kernel_rfl) hseq (fun _ => rfl) (by go_simp; exact Is.mk _)
    (fun pre B W => ∃ u, B = (fun k => k = bx ∨ u.ownBlock = some k) ∧ Ext w W ∧ Blk W bx 22 1 (fun _ => u) ∧ OwnE W u (pre.map (·.2)) ∧ ∀ b, u.ownBlock = some b → w.heap.size ≤ b ∧ b ≠ bx) (fun _ _ _ _ => False) ?_ ?_ (fun k => k = bx ∨ Value.ownBlock (.slice none 0 0) = some k) ⟨_, rfl, hEw, hbk, Own.nil _, by intro b hb; cases hb⟩ ?_ ?_ ?_ ?_
  · rintro pre B W W' ⟨u, rfl, hE, hB, hO, hf⟩ hM
    exact ⟨u, rfl, Mod.trans hE hM (fun _ _ h => h) (fun k hk h => by have := h.2; omega), hB.mod hM (fun h => h.1 (.inl rfl)), hO.mod hM (fun b hb h => h.1 (.inr hb)), hf⟩
  · intro c pre B W W' h; exact h.elim
  · rintro k (rfl | h)
    · refine ⟨by omega, ?_⟩
      rintro (h | h)
      · omega
      · have := hr0.out.own_lt k h; omega
    · cases h
  · rintro l1 pre B x W hl1 hl2 ⟨u, rfl, hE, hB, hO, hf⟩ hBl hpre
    simp only [List.zip_cons_cons, List.zip_nil_right, List.reverse_cons, List.reverse_nil, List.nil_append, List.singleton_append, List.cons_append]
    repeat' (first | refine X_d (fun vb hvb => ?_) | refine X_dg (fun vb hvb => ?_) | refine X_q ?_ | refine X_g ?_ | refine X_gf ?_ | refine X_niln ?_ | refine X_nil ?_ | (refine X_var (fun yn bn hn1 hn2 hn3 hn4 hn5 => ?_)) | refine W_seqk (fun K hK => ?_) | refine W_seqr ?_ | refine W_ret ?_ | refine W_skip ?_ | refine W_block ?_ | refine W_exit ?_ | (refine X_s (fun x K hK => ?_); go_simp; refine hK _ _ (Ext.alloc _ _) ?_; clear hK K; refine X_al x ?_; generalize (World.later _ x).heap.size = bn; intro yn hn1 hn2 hn3 hn4 hn5; clear x) | refine W_tt ?_ | refine W_ff ?_ | refine W_test (fun hc => ?_) (fun hc => ?_) | go_step)
    rename Nat => b5
    refine ⟨by simp, fun W2 hM2 => ?_⟩
    have hY5 : W.heap.size ≤ (W.later yn).heap.size := yn.2.size
    have h5 : Blk W2 b5 39 6 _ := (Blk.new hn5.out).mod hM2 (by omega)
    have q0 := h5.cell (k := 0) (by omega)
    have q1 := h5.cell (k := 1) (by omega)
    have q2 := h5.cell (k := 2) (by omega)
    have q3 := h5.cell (k := 3) (by omega)
    have q4 := h5.cell (k := 4) (by omega)
    have q5 := h5.cell (k := 5) (by omega)
    have hl5 := h5.lt
    have hW2 := hM2.size
    clear hn3 hn4 hn5 h5
    have hbl := (hBl bx (.inl rfl)).1
    have hB2 := (hB.later yn.2).mod hM2 hbl
    have hO2 : OwnE W2 u (pre.map (·.2)) := (hO.later yn.2).mod hM2 (fun b hb => (hBl b (.inr hb)).1)
    have c0 := hB2.cell (k := 0) (by omega)
    have hlt := hB2.lt
    have HO := Lib.hid hO2
    have HB := Lib.hid hB2
    have HF := Lib.hid hf
    have HP := Lib.hid hpre
    have hE2 : Ext w W2 := Mod.trans (Ext.trans hE yn.2) hM2 (fun _ _ h => h) (fun k hk e => by subst e; have := hEw.size; omega)
    clear hB hO hO2 hB2 hf hpre hBl hbk hM2
    rename Later W => y5
    repeat' (first | refine X_d (fun vb hvb => ?_) | refine X_dg (fun vb hvb => ?_) | refine X_q ?_ | refine X_g ?_ | refine X_gf ?_ | refine X_niln ?_ | refine X_nil ?_ | (refine X_var (fun yn bn hn1 hn2 hn3 hn4 hn5 => ?_)) | refine W_seqk (fun K hK => ?_) | refine W_seqr ?_ | refine W_ret ?_ | refine W_skip ?_ | refine W_block ?_ | refine W_exit ?_ | (refine X_s (fun x K hK => ?_); go_simp; refine hK _ _ (Ext.alloc _ _) ?_; clear hK K; refine X_al x ?_; generalize (World.later _ x).heap.size = bn; intro yn hn1 hn2 hn3 hn4 hn5; clear x) | refine W_tt ?_ | refine W_ff ?_ | refine W_test (fun hc => ?_) (fun hc => ?_) | go_step)
    refine X_append (ys := [x.2]) elemEnt (HO.out.later yn.2) (Rd.one (x := x.2) ‹_ < (W2.later yn).heap.size› ‹∀ k, (W2.later yn).cell? _ = _› rfl) (by have := HP.out; simp at this ⊢; omega) (by have := HP.out; unfold maxLen; simp at this ⊢; omega) (fun v' W3 hM3 hO3 hF3 _ => ?_)
    obtain ⟨A9, n9, c9, rfl⟩ : ∃ A9 n9 c9, v' = .slice A9 n9 c9 := by obtain ⟨A9, c9, h, _⟩ := Own.rd Ent.len hO3; exact ⟨_, _, _, h⟩
    have hB3 : Blk W3 bx 22 1 (fun _ => u) := (HB.out.later yn.2).mod hM3 (fun h => (HF.out bx h).2 rfl)
    refine X_store (off := 0) hB3 (fun W4 hM4 hB4 => ?_)
    have hnb : ∀ b, Value.ownBlock (.slice A9 n9 c9) = some b → w.heap.size ≤ b ∧ b ≠ bx ∧ b < W3.heap.size ∧ (u.ownBlock = some b ∨ W.heap.size ≤ b) := by
      intro b hb
      have hbl := hO3.lt b hb
      have hY : W2.heap.size ≤ (W2.later yn).heap.size := yn.2.size
      have hWs := hE.size
      rcases hF3 with h | ⟨g, h, hg⟩
      · have := HF.out b (h ▸ hb)
        exact ⟨this.1, this.2, hbl, .inl (h ▸ hb)⟩
      · obtain rfl : g = b := by rw [h] at hb; cases hb; rfl
        exact ⟨by omega, by omega, hbl, .inr (by omega)⟩
    have hO4 : OwnE W4 (.slice A9 n9 c9) (pre.map (·.2) ++ [x.2]) := hO3.mod hM4 (fun b hb h => (hnb b hb).2.1 h)
    have hB5 : Blk W4 bx 22 1 (fun _ => .slice A9 n9 c9) := hB4.congr (fun k hk => by
      obtain rfl : k = 0 := by omega
      simp [put_one, Value.cells])
    have hMM : Mod (fun k => (k = bx ∨ u.ownBlock = some k) ∨ W.heap.size ≤ k) W2 W4 := Mod.trans (Mod.trans yn.2 hM3 (fun _ _ h => h.elim) (fun k _ h => .inl (.inr h))) hM4 (fun _ _ h => h) (fun k _ h => .inl (.inl h))
    have hE4 : Ext w W4 := by
      refine Mod.trans hE2 hMM (fun _ _ h => h) (fun k hk h => ?_)
      rcases h with (h | h) | h
      · subst h; omega
      · have := (HF.out k h).1; omega
      · have := hE.size; omega
    repeat' (first | refine X_d (fun vb hvb => ?_) | refine X_dg (fun vb hvb => ?_) | refine X_q ?_ | refine X_g ?_ | refine X_gf ?_ | refine X_niln ?_ | refine X_nil ?_ | (refine X_var (fun yn bn hn1 hn2 hn3 hn4 hn5 => ?_)) | refine W_seqk (fun K hK => ?_) | refine W_seqr ?_ | refine W_ret ?_ | refine W_skip ?_ | refine W_block ?_ | refine W_exit ?_ | (refine X_s (fun x K hK => ?_); go_simp; refine hK _ _ (Ext.alloc _ _) ?_; clear hK K; refine X_al x ?_; generalize (World.later _ x).heap.size = bn; intro yn hn1 hn2 hn3 hn4 hn5; clear x) | refine W_tt ?_ | refine W_ff ?_ | refine W_test (fun hc => ?_) (fun hc => ?_) | go_step)
    exact ⟨_, ⟨_, rfl, hE4, hB5, by simpa using hO4, fun b hb => ⟨(hnb b hb).1, (hnb b hb).2.1⟩⟩, hMM, fun k hk => by
      have hs4 := hM4.size
      rcases hk with h | h
      · subst h; exact ⟨.inl (.inl rfl), hB5.lt⟩
      · exact ⟨(hnb k h).2.2.2.elim (fun h => .inl (.inr h)) .inr, Nat.lt_of_lt_of_le (hnb k h).2.2.1 hs4⟩⟩
  · rintro D xs B W hD hBD hS ⟨u, rfl, hE, hB, hO, hf⟩ hDD
    have c0 := hB.cell (k := 0) (by omega)
    have hlt := hB.lt
    have hwD : w.heap.size ≤ D := Nat.le_trans hEw.size hD
    have HO := Lib.hid hO
    have HF := Lib.hid hf
    clear hO hf
    repeat' (first | refine X_d (fun vb hvb => ?_) | refine X_dg (fun vb hvb => ?_) | refine X_q ?_ | refine X_g ?_ | refine X_gf ?_ | refine X_niln ?_ | refine X_nil ?_ | (refine X_var (fun yn bn hn1 hn2 hn3 hn4 hn5 => ?_)) | refine W_seqk (fun K hK => ?_) | refine W_seqr ?_ | refine W_ret ?_ | refine W_skip ?_ | refine W_block ?_ | refine W_exit ?_ | (refine X_s (fun x K hK => ?_); go_simp; refine hK _ _ (Ext.alloc _ _) ?_; clear hK K; refine X_al x ?_; generalize (World.later _ x).heap.size = bn; intro yn hn1 hn2 hn3 hn4 hn5; clear x) | refine W_tt ?_ | refine W_ff ?_ | refine W_test (fun hc => ?_) (fun hc => ?_) | go_step)
    refine Body_retm (by simp [hd]) hDD ⟨hE.putNew hwD _, ?_, fun b hb => (HF.out b hb).1⟩
    have := HO.out.mod (mod_putObj W D (.deferred none)) (fun b hb e => hBD (.inr (e ▸ hb)))
    rw [hS] at this
    exact this
  · intro D c pre B W _ _ h
    exact h.elim
end Go.Ws
