import Derived.Test.YtkdcgmloapmpkaaTabL
namespace Go.Ws
open Go Go.RowKit Go.Proofs
set_option maxHeartbeats 2000000
set_option maxRecDepth 100000
set_option linter.unusedVariables false
set_option linter.unusedSimpArgs false
set_option pp.deepTerms true
set_option pp.maxSteps 100000000

/-- The transactions that were marked. -/
def mkOf (l : List Ent) : Int × Int → Option Bool := fun p => if ∃ e ∈ l, e.kind ≠ 1 ∧ (e.id, e.num) = p then some true else none
theorem mkOf_nil : mkOf [] = fun _ => none := by funext p; simp [mkOf]
theorem mkOf_snoc (l : List Ent) (e : Ent) : mkOf (l ++ [e]) = if e.kind ≠ 1 then upd (mkOf l) (e.id, e.num) (some true) else mkOf l := by
  funext p
  by_cases hk : e.kind = 1
  · simp only [hk, ne_eq, not_true_eq_false, if_false, mkOf]
    congr 1
    apply propext
    constructor
    · rintro ⟨x, hx, h1, h2⟩
      rcases List.mem_append.1 hx with hx | hx
      · exact ⟨x, hx, h1, h2⟩
      · rw [List.mem_singleton.1 hx] at h1; exact absurd hk h1
    · rintro ⟨x, hx, h⟩; exact ⟨x, by simp [hx], h⟩
  · simp only [hk, ne_eq, not_false_eq_true, if_true, upd]
    by_cases hp : (e.id, e.num) = p
    · subst hp
      simp only [if_true, mkOf]
      rw [if_pos ⟨e, by simp, hk, rfl⟩]
    · have hp' : ¬ p = (e.id, e.num) := fun h => hp h.symm
      simp only [hp', if_false, mkOf]
      congr 1
      apply propext
      constructor
      · rintro ⟨x, hx, h1, h2⟩
        rcases List.mem_append.1 hx with hx | hx
        · exact ⟨x, hx, h1, h2⟩
        · rw [List.mem_singleton.1 hx] at h2; exact absurd h2 hp
      · rintro ⟨x, hx, h⟩; exact ⟨x, by simp [hx], h⟩
/-- A reader in memory: its block, its table's, its map's, the slice of what it was told. -/
structure RdrAt (w : World) (b tb m : Nat) (u : Value) (T : Nat → Prop) (log : List Ent) (at_ : Int) (told : List Int) : Prop where
  blk : Blk w b 95 4 (fun k => if k = 0 then .pointer (some ⟨tb, 0, none⟩) else if k = 1 then .map (some m) else if k = 2 then .int .i64 at_ else u)
  tab : Tab w tb T log
  ok : ofNo log = 0
  ftl : ∀ k, T k → k < w.heap.size
  nb : ¬ T b
  nm : ¬ T m
  nu : ∀ k, u.ownBlock = some k → ¬ T k ∧ k ≠ b ∧ k ≠ m
  hm : MapIs kp vB w m (mkOf log)
  own : OwnI w u told
/-- A reader, all of whose blocks are in F. -/
def Rdr (w : World) (b : Nat) (F : Nat → Prop) (log : List Ent) (at_ : Int) (told : List Int) : Prop :=
  ∃ tb m u T, RdrAt w b tb m u T log at_ told ∧ F b ∧ F m ∧ (∀ k, u.ownBlock = some k → F k) ∧ ∀ k, T k → F k
section
variable {w w' : World} {b tb m : Nat} {u : Value} {T F G : Nat → Prop} {log : List Ent} {at_ : Int} {told : List Int}
theorem RdrAt.bm (h : RdrAt w b tb m u T log at_ told) : b ≠ m := h.hm.nblk h.blk
theorem RdrAt.mod (h : RdrAt w b tb m u T log at_ told) (hM : Mod G w w') (h1 : ¬ G b) (h2 : ¬ G m) (h3 : ∀ k, u.ownBlock = some k → ¬ G k) (h4 : ∀ k, T k → ¬ G k) : RdrAt w' b tb m u T log at_ told :=
  ⟨h.blk.mod hM h1, h.tab.mod hM h4, h.ok, fun k hk => Nat.lt_of_lt_of_le (h.ftl k hk) hM.size, h.nb, h.nm, h.nu, h.hm.mod hM h2, h.own.mod hM h3⟩
theorem RdrAt.later (h : RdrAt w b tb m u T log at_ told) (hE : Ext w w') : RdrAt w' b tb m u T log at_ told := h.mod hE (fun h => h) (fun h => h) (fun _ _ h => h) (fun _ _ h => h)
theorem RdrAt.cells (h : RdrAt w b tb m u T log at_ told) : b < w.heap.size ∧ w.cell? ⟨b, 0, none⟩ = some (.pointer (some ⟨tb, 0, none⟩)) ∧ w.cell? ⟨b, 1, none⟩ = some (.map (some m)) ∧ w.cell? ⟨b, 2, none⟩ = some (.int .i64 at_) ∧ w.cell? ⟨b, 3, none⟩ = some u :=
  ⟨h.blk.lt, (h.blk.cell (k := 0) (by omega)).trans rfl, (h.blk.cell (k := 1) (by omega)).trans rfl, (h.blk.cell (k := 2) (by omega)).trans rfl, (h.blk.cell (k := 3) (by omega)).trans rfl⟩
theorem Rdr.mod (h : Rdr w b F log at_ told) (hM : Mod G w w') (hF : ∀ k, F k → ¬ G k) : Rdr w' b F log at_ told := by
  obtain ⟨tb, m, u, T, h, f1, f2, f3, f4⟩ := h
  exact ⟨tb, m, u, T, h.mod hM (hF _ f1) (hF _ f2) (fun k hk => hF _ (f3 k hk)) (fun k hk => hF _ (f4 k hk)), f1, f2, f3, f4⟩
theorem Rdr.later (h : Rdr w b F log at_ told) (hE : Ext w w') : Rdr w' b F log at_ told := h.mod hE (fun _ _ h => h)
theorem Rdr.mono (h : Rdr w b F log at_ told) (hF : ∀ k, F k → G k) : Rdr w b G log at_ told := by
  obtain ⟨tb, m, u, T, h, f1, f2, f3, f4⟩ := h
  exact ⟨tb, m, u, T, h, hF _ f1, hF _ f2, fun k hk => hF _ (f3 k hk), fun k hk => hF _ (f4 k hk)⟩
theorem Rdr.ok (h : Rdr w b F log at_ told) : ofNo log = 0 := by obtain ⟨tb, m, u, T, h, _⟩ := h; exact h.ok
theorem RdrAt.here (h : RdrAt w b tb m u T log at_ told) : ∀ k, (k = b ∨ k = m ∨ u.ownBlock = some k ∨ T k) → k < w.heap.size := by
  rintro k (rfl | rfl | hk | hk)
  · exact h.blk.lt
  · exact h.hm.lt
  · exact h.own.lt k hk
  · exact h.ftl k hk
theorem Rdr.here (h : Rdr w b F log at_ told) : Rdr w b (fun k => F k ∧ k < w.heap.size) log at_ told := by
  obtain ⟨tb, m, u, T, h, f1, f2, f3, f4⟩ := h
  have hh := h.here
  exact ⟨tb, m, u, T, h, ⟨f1, hh _ (.inl rfl)⟩, ⟨f2, hh _ (.inr (.inl rfl))⟩, fun k hk => ⟨f3 k hk, hh _ (.inr (.inr (.inl hk)))⟩, fun k hk => ⟨f4 k hk, hh _ (.inr (.inr (.inr hk)))⟩⟩
end
theorem rnone_calls {b tb : Nat} {w : World} (hb : b < w.heap.size) (h0 : w.cell? ⟨b, 0, none⟩ = some (.pointer (some ⟨tb, 0, none⟩))) : Pure Try.prog 70 #[.pointer (some ⟨b, 0, none⟩)] w (.bool false) := by
  refine Fn_of Try.func70 rfl (Nat.le_of_ble_eq_true rfl) ?_; intro A hd hA; simp only [ix, Nat.reduceAdd]; replace hA : A.tmps.size = 12 := hA
  repeat' (first | refine X_d (fun vb hvb => ?_) | refine X_dg (fun vb hvb => ?_) | refine X_q ?_ | refine X_g ?_ | refine X_gf ?_ | refine X_niln ?_ | refine X_nil ?_ | (refine X_var (fun yn bn hn1 hn2 hn3 hn4 hn5 => ?_)) | refine W_seqk (fun K hK => ?_) | refine W_seqr ?_ | refine W_draw (by kernel_rfl) (by kernel_rfl) ?_ | refine W_ret ?_ | refine W_skip ?_ | refine W_block ?_ | refine W_exit ?_ | (refine X_s (fun x K hK => ?_); go_simp; refine hK _ _ (Ext.alloc _ _) ?_; clear hK K; refine X_al x ?_; generalize (World.later _ x).heap.size = bn; intro yn hn1 hn2 hn3 hn4 hn5; clear x) | refine W_tt ?_ | refine W_ff ?_ | refine W_test (fun hc => ?_) (fun hc => ?_) | go_step)
  all_goals (cases hvb)
  repeat' (first | refine X_d (fun vb hvb => ?_) | refine X_dg (fun vb hvb => ?_) | refine X_q ?_ | refine X_g ?_ | refine X_gf ?_ | refine X_niln ?_ | refine X_nil ?_ | (refine X_var (fun yn bn hn1 hn2 hn3 hn4 hn5 => ?_)) | refine W_seqk (fun K hK => ?_) | refine W_seqr ?_ | refine W_draw (by kernel_rfl) (by kernel_rfl) ?_ | refine W_ret ?_ | refine W_skip ?_ | refine W_block ?_ | refine W_exit ?_ | (refine X_s (fun x K hK => ?_); go_simp; refine hK _ _ (Ext.alloc _ _) ?_; clear hK K; refine X_al x ?_; generalize (World.later _ x).heap.size = bn; intro yn hn1 hn2 hn3 hn4 hn5; clear x) | refine W_tt ?_ | refine W_ff ?_ | refine W_test (fun hc => ?_) (fun hc => ?_) | go_step)
  exact Body_ret hd ⟨rfl, by simp⟩
theorem rnone_nil_calls {w : World} : Pure Try.prog 70 #[.pointer none] w (.bool true) := by
  refine Fn_of Try.func70 rfl (Nat.le_of_ble_eq_true rfl) ?_; intro A hd hA; simp only [ix, Nat.reduceAdd]; replace hA : A.tmps.size = 12 := hA
  repeat' (first | refine X_d (fun vb hvb => ?_) | refine X_dg (fun vb hvb => ?_) | refine X_q ?_ | refine X_g ?_ | refine X_gf ?_ | refine X_niln ?_ | refine X_nil ?_ | (refine X_var (fun yn bn hn1 hn2 hn3 hn4 hn5 => ?_)) | refine W_seqk (fun K hK => ?_) | refine W_seqr ?_ | refine W_draw (by kernel_rfl) (by kernel_rfl) ?_ | refine W_ret ?_ | refine W_skip ?_ | refine W_block ?_ | refine W_exit ?_ | (refine X_s (fun x K hK => ?_); go_simp; refine hK _ _ (Ext.alloc _ _) ?_; clear hK K; refine X_al x ?_; generalize (World.later _ x).heap.size = bn; intro yn hn1 hn2 hn3 hn4 hn5; clear x) | refine W_tt ?_ | refine W_ff ?_ | refine W_test (fun hc => ?_) (fun hc => ?_) | go_step)
  all_goals (cases hvb)
  repeat' (first | refine X_d (fun vb hvb => ?_) | refine X_dg (fun vb hvb => ?_) | refine X_q ?_ | refine X_g ?_ | refine X_gf ?_ | refine X_niln ?_ | refine X_nil ?_ | (refine X_var (fun yn bn hn1 hn2 hn3 hn4 hn5 => ?_)) | refine W_seqk (fun K hK => ?_) | refine W_seqr ?_ | refine W_draw (by kernel_rfl) (by kernel_rfl) ?_ | refine W_ret ?_ | refine W_skip ?_ | refine W_block ?_ | refine W_exit ?_ | (refine X_s (fun x K hK => ?_); go_simp; refine hK _ _ (Ext.alloc _ _) ?_; clear hK K; refine X_al x ?_; generalize (World.later _ x).heap.size = bn; intro yn hn1 hn2 hn3 hn4 hn5; clear x) | refine W_tt ?_ | refine W_ff ?_ | refine W_test (fun hc => ?_) (fun hc => ?_) | go_step)
  exact Body_ret hd ⟨rfl, by simp⟩
theorem rlen_calls {b : Nat} {w : World} {F : Nat → Prop} {log : List Ent} {at_ : Int} {told : List Int} (h : Rdr w b F log at_ told) : Pure Try.prog 37 #[.pointer (some ⟨b, 0, none⟩)] w (.int .i64 log.length) := by
  obtain ⟨tb, m, u, T, h, -⟩ := h
  obtain ⟨hb, h0, h1, h2, h3⟩ := h.cells
  have hT := Lib.hid h.tab
  clear h h1 h2 h3
  refine Fn_of Try.func37 rfl (Nat.le_of_ble_eq_true rfl) ?_; intro A hd hA; simp only [ix, Nat.reduceAdd]; replace hA : A.tmps.size = 10 := hA
  repeat' (first | refine X_pure Try.func70 (rnone_calls (b := b) (tb := tb) (by simp [hb]) (by simp [hb, h0])) ?_ | refine X_gpure Try.func70 (fun _ => rnone_calls (b := b) (tb := tb) (by simp [hb]) (by simp [hb, h0])) ?_ | refine X_pure Try.func51 (tabLen_calls hT.out) ?_ | refine X_gpure Try.func51 (fun _ => tabLen_calls hT.out) ?_ | refine X_d (fun vb hvb => ?_) | refine X_dg (fun vb hvb => ?_) | refine X_q ?_ | refine X_g ?_ | refine X_gf ?_ | refine X_niln ?_ | refine X_nil ?_ | (refine X_var (fun yn bn hn1 hn2 hn3 hn4 hn5 => ?_)) | refine W_seqk (fun K hK => ?_) | refine W_seqr ?_ | refine W_draw (by kernel_rfl) (by kernel_rfl) ?_ | refine W_ret ?_ | refine W_skip ?_ | refine W_block ?_ | refine W_exit ?_ | (refine X_s (fun x K hK => ?_); go_simp; refine hK _ _ (Ext.alloc _ _) ?_; clear hK K; refine X_al x ?_; generalize (World.later _ x).heap.size = bn; intro yn hn1 hn2 hn3 hn4 hn5; clear x) | refine W_tt ?_ | refine W_ff ?_ | refine W_test (fun hc => ?_) (fun hc => ?_) | go_step)
  exact Body_ret hd ⟨rfl, by simp⟩
theorem rlen_nil_calls {w : World} : Pure Try.prog 37 #[.pointer none] w (.int .i64 0) := by
  refine Fn_of Try.func37 rfl (Nat.le_of_ble_eq_true rfl) ?_; intro A hd hA; simp only [ix, Nat.reduceAdd]; replace hA : A.tmps.size = 10 := hA
  repeat' (first | refine X_pure Try.func70 (rnone_nil_calls) ?_ | refine X_gpure Try.func70 (fun _ => rnone_nil_calls) ?_ | refine X_d (fun vb hvb => ?_) | refine X_dg (fun vb hvb => ?_) | refine X_q ?_ | refine X_g ?_ | refine X_gf ?_ | refine X_niln ?_ | refine X_nil ?_ | (refine X_var (fun yn bn hn1 hn2 hn3 hn4 hn5 => ?_)) | refine W_seqk (fun K hK => ?_) | refine W_seqr ?_ | refine W_draw (by kernel_rfl) (by kernel_rfl) ?_ | refine W_ret ?_ | refine W_skip ?_ | refine W_block ?_ | refine W_exit ?_ | (refine X_s (fun x K hK => ?_); go_simp; refine hK _ _ (Ext.alloc _ _) ?_; clear hK K; refine X_al x ?_; generalize (World.later _ x).heap.size = bn; intro yn hn1 hn2 hn3 hn4 hn5; clear x) | refine W_tt ?_ | refine W_ff ?_ | refine W_test (fun hc => ?_) (fun hc => ?_) | go_step)
  exact Body_ret hd ⟨rfl, by simp⟩
theorem rat_calls {b : Nat} {w : World} {F : Nat → Prop} {log : List Ent} {at_ : Int} {told : List Int} (h : Rdr w b F log at_ told) : Pure Try.prog 38 #[.pointer (some ⟨b, 0, none⟩)] w (.int .i64 at_) := by
  obtain ⟨tb, m, u, T, h, -⟩ := h
  obtain ⟨hb, h0, h1, h2, h3⟩ := h.cells
  clear h h1 h3
  refine Fn_of Try.func38 rfl (Nat.le_of_ble_eq_true rfl) ?_; intro A hd hA; simp only [ix, Nat.reduceAdd]; replace hA : A.tmps.size = 9 := hA
  repeat' (first | refine X_pure Try.func70 (rnone_calls (b := b) (tb := tb) (by simp [hb]) (by simp [hb, h0])) ?_ | refine X_gpure Try.func70 (fun _ => rnone_calls (b := b) (tb := tb) (by simp [hb]) (by simp [hb, h0])) ?_ | refine X_d (fun vb hvb => ?_) | refine X_dg (fun vb hvb => ?_) | refine X_q ?_ | refine X_g ?_ | refine X_gf ?_ | refine X_niln ?_ | refine X_nil ?_ | (refine X_var (fun yn bn hn1 hn2 hn3 hn4 hn5 => ?_)) | refine W_seqk (fun K hK => ?_) | refine W_seqr ?_ | refine W_draw (by kernel_rfl) (by kernel_rfl) ?_ | refine W_ret ?_ | refine W_skip ?_ | refine W_block ?_ | refine W_exit ?_ | (refine X_s (fun x K hK => ?_); go_simp; refine hK _ _ (Ext.alloc _ _) ?_; clear hK K; refine X_al x ?_; generalize (World.later _ x).heap.size = bn; intro yn hn1 hn2 hn3 hn4 hn5; clear x) | refine W_tt ?_ | refine W_ff ?_ | refine W_test (fun hc => ?_) (fun hc => ?_) | go_step)
  exact Body_ret hd ⟨rfl, by simp⟩
theorem rat_nil_calls {w : World} : Pure Try.prog 38 #[.pointer none] w (.int .i64 0) := by
  refine Fn_of Try.func38 rfl (Nat.le_of_ble_eq_true rfl) ?_; intro A hd hA; simp only [ix, Nat.reduceAdd]; replace hA : A.tmps.size = 9 := hA
  repeat' (first | refine X_pure Try.func70 (rnone_nil_calls) ?_ | refine X_gpure Try.func70 (fun _ => rnone_nil_calls) ?_ | refine X_d (fun vb hvb => ?_) | refine X_dg (fun vb hvb => ?_) | refine X_q ?_ | refine X_g ?_ | refine X_gf ?_ | refine X_niln ?_ | refine X_nil ?_ | (refine X_var (fun yn bn hn1 hn2 hn3 hn4 hn5 => ?_)) | refine W_seqk (fun K hK => ?_) | refine W_seqr ?_ | refine W_draw (by kernel_rfl) (by kernel_rfl) ?_ | refine W_ret ?_ | refine W_skip ?_ | refine W_block ?_ | refine W_exit ?_ | (refine X_s (fun x K hK => ?_); go_simp; refine hK _ _ (Ext.alloc _ _) ?_; clear hK K; refine X_al x ?_; generalize (World.later _ x).heap.size = bn; intro yn hn1 hn2 hn3 hn4 hn5; clear x) | refine W_tt ?_ | refine W_ff ?_ | refine W_test (fun hc => ?_) (fun hc => ?_) | go_step)
  exact Body_ret hd ⟨rfl, by simp⟩
theorem rtold_calls {b : Nat} {w : World} {F : Nat → Prop} {log : List Ent} {at_ : Int} {told : List Int} (h : Rdr w b F log at_ told) (hn : told.length ≤ 1000000) :
    Ret Try.prog 39 #[.pointer (some ⟨b, 0, none⟩)] w fun v' w' => Ext w w' ∧ OwnI w' v' told ∧ ∀ b, v'.ownBlock = some b → w.heap.size ≤ b := by
  obtain ⟨tb, m, u, T, h, -⟩ := h
  obtain ⟨hb, h0, h1, h2, h3⟩ := h.cells
  have hu := h.own.rd (enc := ics) (k := 1) (fun _ => rfl)
  have hu0 := Lib.hid hu
  obtain ⟨A0, c, rfl, hc, hcm, HR⟩ := hu.int
  clear h h1 h2 HR hu
  refine Fn_of Try.func39 rfl (Nat.le_of_ble_eq_true rfl) ?_; intro A hd hA; simp only [ix, Nat.reduceAdd]; replace hA : A.tmps.size = 10 := hA
  repeat' (first | refine X_pure Try.func70 (rnone_calls (b := b) (tb := tb) (by simp [hb]) (by simp [hb, h0])) ?_ | refine X_gpure Try.func70 (fun _ => rnone_calls (b := b) (tb := tb) (by simp [hb]) (by simp [hb, h0])) ?_ | refine X_d (fun vb hvb => ?_) | refine X_dg (fun vb hvb => ?_) | refine X_q ?_ | refine X_g ?_ | refine X_gf ?_ | refine X_niln ?_ | refine X_nil ?_ | (refine X_var (fun yn bn hn1 hn2 hn3 hn4 hn5 => ?_)) | refine W_seqk (fun K hK => ?_) | refine W_seqr ?_ | refine W_draw (by kernel_rfl) (by kernel_rfl) ?_ | refine W_ret ?_ | refine W_skip ?_ | refine W_block ?_ | refine W_exit ?_ | (refine X_s (fun x K hK => ?_); go_simp; refine hK _ _ (Ext.alloc _ _) ?_; clear hK K; refine X_al x ?_; generalize (World.later _ x).heap.size = bn; intro yn hn1 hn2 hn3 hn4 hn5; clear x) | refine W_tt ?_ | refine W_ff ?_ | refine W_test (fun hc => ?_) (fun hc => ?_) | go_step)
  refine X_ret Try.func73 (cloneI_calls hu0.out hn) (fun v' w' hR => ?_)
  have HR := Lib.hid hR
  clear hR
  repeat' (first | refine X_d (fun vb hvb => ?_) | refine X_dg (fun vb hvb => ?_) | refine X_q ?_ | refine X_g ?_ | refine X_gf ?_ | refine X_niln ?_ | refine X_nil ?_ | (refine X_var (fun yn bn hn1 hn2 hn3 hn4 hn5 => ?_)) | refine W_seqk (fun K hK => ?_) | refine W_seqr ?_ | refine W_draw (by kernel_rfl) (by kernel_rfl) ?_ | refine W_ret ?_ | refine W_skip ?_ | refine W_block ?_ | refine W_exit ?_ | (refine X_s (fun x K hK => ?_); go_simp; refine hK _ _ (Ext.alloc _ _) ?_; clear hK K; refine X_al x ?_; generalize (World.later _ x).heap.size = bn; intro yn hn1 hn2 hn3 hn4 hn5; clear x) | refine W_tt ?_ | refine W_ff ?_ | refine W_test (fun hc => ?_) (fun hc => ?_) | go_step)
  exact Body_ret hd HR.out
theorem rtold_nil_calls {w : World} : Pure Try.prog 39 #[.pointer none] w (.slice none 0 0) := by
  refine Fn_of Try.func39 rfl (Nat.le_of_ble_eq_true rfl) ?_; intro A hd hA; simp only [ix, Nat.reduceAdd]; replace hA : A.tmps.size = 10 := hA
  repeat' (first | refine X_pure Try.func70 (rnone_nil_calls) ?_ | refine X_gpure Try.func70 (fun _ => rnone_nil_calls) ?_ | refine X_d (fun vb hvb => ?_) | refine X_dg (fun vb hvb => ?_) | refine X_q ?_ | refine X_g ?_ | refine X_gf ?_ | refine X_niln ?_ | refine X_nil ?_ | (refine X_var (fun yn bn hn1 hn2 hn3 hn4 hn5 => ?_)) | refine W_seqk (fun K hK => ?_) | refine W_seqr ?_ | refine W_draw (by kernel_rfl) (by kernel_rfl) ?_ | refine W_ret ?_ | refine W_skip ?_ | refine W_block ?_ | refine W_exit ?_ | (refine X_s (fun x K hK => ?_); go_simp; refine hK _ _ (Ext.alloc _ _) ?_; clear hK K; refine X_al x ?_; generalize (World.later _ x).heap.size = bn; intro yn hn1 hn2 hn3 hn4 hn5; clear x) | refine W_tt ?_ | refine W_ff ?_ | refine W_test (fun hc => ?_) (fun hc => ?_) | go_step)
  exact Body_ret hd ⟨rfl, by simp⟩
theorem rnew_calls {w : World} : Ret Try.prog 30 #[] w fun v w' => ∃ b, v = .pointer (some ⟨b, 0, none⟩) ∧ Ext w w' ∧ Rdr w' b (fun k => w.heap.size ≤ k) [] 0 [] := by
  refine Fn_of Try.func30 rfl (Nat.le_of_ble_eq_true rfl) ?_; intro A hd hA; simp only [ix, Nat.reduceAdd]; replace hA : A.tmps.size = 5 := hA
  repeat' (first | refine X_d (fun vb hvb => ?_) | refine X_dg (fun vb hvb => ?_) | refine X_q ?_ | refine X_g ?_ | refine X_gf ?_ | refine X_niln ?_ | refine X_nil ?_ | (refine X_var (fun yn bn hn1 hn2 hn3 hn4 hn5 => ?_)) | refine W_seqk (fun K hK => ?_) | refine W_seqr ?_ | refine W_ret ?_ | refine W_skip ?_ | refine W_block ?_ | refine W_exit ?_ | (refine X_s (fun x K hK => ?_); go_simp; refine hK _ _ (Ext.alloc _ _) ?_; clear hK K; refine X_al x ?_; generalize (World.later _ x).heap.size = bn; intro yn hn1 hn2 hn3 hn4 hn5; clear x) | refine W_tt ?_ | refine W_ff ?_ | refine W_test (fun hc => ?_) (fun hc => ?_) | go_step)
  refine X_ret Try.func48 (tabNew_calls w) (fun v' w' hR => ?_)
  obtain ⟨tb, rfl, hE, hT⟩ := hR
  have HT := Lib.hid hT
  clear hT
  refine X_s (fun x K hK => ?_); go_simp; refine hK _ _ (Ext.alloc _ _) ?_; clear hK K; refine X_alm x ?_; generalize (World.later _ x).heap.size = m; intro ym hm1 hm2 hm3; clear x
  repeat' (first | refine X_d (fun vb hvb => ?_) | refine X_dg (fun vb hvb => ?_) | refine X_q ?_ | refine X_g ?_ | refine X_gf ?_ | refine X_niln ?_ | refine X_nil ?_ | (refine X_var (fun yn bn hn1 hn2 hn3 hn4 hn5 => ?_)) | refine W_seqk (fun K hK => ?_) | refine W_seqr ?_ | refine W_ret ?_ | refine W_skip ?_ | refine W_block ?_ | refine W_exit ?_ | (refine X_s (fun x K hK => ?_); go_simp; refine hK _ _ (Ext.alloc _ _) ?_; clear hK K; refine X_al x ?_; generalize (World.later _ x).heap.size = bn; intro yn hn1 hn2 hn3 hn4 hn5; clear x) | refine W_tt ?_ | refine W_ff ?_ | refine W_test (fun hc => ?_) (fun hc => ?_) | go_step)
  have hs1 := hE.size
  have hs2 : w'.heap.size ≤ (w'.later ym).heap.size := ym.2.size
  refine Body_ret hd ⟨bn, rfl, Ext.trans hE (by simp), tb, m, .slice none 0 0, fun k => w.heap.size ≤ k ∧ k < w'.heap.size, ⟨?_, HT.out.here.later (by simp), by simp [ofNo, ofFrom], ?_, ?_, ?_, ?_, ?_, Own.nil _⟩, ?_, ?_, ?_, ?_⟩
  · exact (Blk.new hn5.out).congr (fun k hk => by
      obtain rfl | rfl | rfl | rfl : k = 0 ∨ k = 1 ∨ k = 2 ∨ k = 3 := by simp at hk; omega
      all_goals rfl)
  · intro k hk
    have : (w'.later ym).heap.size ≤ ((w'.later ym).later yn).heap.size := yn.2.size
    omega
  · intro h; omega
  · intro h; omega
  · intro k hk; cases hk
  · rw [mkOf_nil]
    exact MapIs.empty ((heap_later _ yn _ hm2).trans hm3.out)
  · omega
  · omega
  · intro k hk; cases hk
  · intro k hk; exact hk.1
end Go.Ws
