import Derived.Test.YtkdcgmloapmpkaaRef02
import Derived.Test.YtkdcgmloapmpkaaRef08
namespace Go.Ws
open Go Go.RowKit Go.Proofs
set_option maxHeartbeats 1000000
set_option maxRecDepth 100000
set_option linter.unusedVariables false
set_option linter.unusedSimpArgs false
set_option pp.deepTerms true
set_option pp.maxSteps 100000000

def lastEp (l : List Ent) (e : Ent) : Bool := match l.getLast? with | some x => decide (e.ep < x.ep) | none => false
def appendNo (l : List Ent) (e : Ent) : Int := if rightB e = false then 2 else if 4096 ≤ l.length then 3 else if lastEp l e = true then 180 else 0
theorem lastEp_get {l : List Ent} {e x : Ent} {i : Nat} (h : l[i]? = some x) (hi : i + 1 = l.length) : lastEp l e = decide (e.ep < x.ep) := by
  have : l.getLast? = some x := by rw [List.getLast?_eq_getElem?]; rw [show l.length - 1 = i by omega]; exact h
  simp [lastEp, this]
theorem append_callsF (l : List Ent) (v : Value) (e : Ent) (w : World) (hl : RdE w v l) :
    Ret Try.prog 55 #[v, e.v] w fun v' w' => ∃ u, v' = .tuple #[u, .int .i64 (appendNo l e)] ∧ Ext w w' ∧ RdE w' u (if appendNo l e = 0 then l ++ [e] else l) ∧ (u = v ∨ ∀ b, u.ownBlock = some b → w.heap.size ≤ b) := by
  have hl0 := Lib.hid hl
  obtain ⟨A0, c, rfl, hc, hcm, HR⟩ := hl.ent
  clear hl
  have HLEN : ∃ n, Hid (l.length = n) := ⟨_, rfl⟩
  obtain ⟨n, hln⟩ := HLEN
  rw [hln.out] at hc
  have hl1 : Hid (RdE w (.slice A0 n c) l) := by rw [hln.out] at hl0; exact hl0
  rw [hln.out]
  clear hl0
  have T2 : rightB e = false → appendNo l e = 2 := fun h => by simp [appendNo, h]
  have T3 : rightB e = true → 4096 ≤ l.length → appendNo l e = 3 := fun h h1 => by simp [appendNo, h, h1]
  have T4 : rightB e = true → l.length < 4096 → lastEp l e = true → appendNo l e = 180 := fun h h1 h2 => by simp [appendNo, h, h2]; omega
  have T0 : rightB e = true → l.length < 4096 → lastEp l e = false → appendNo l e = 0 := fun h h1 h2 => by simp [appendNo, h, h2]; omega
  rcases n with _ | m
  · refine Fn_of Try.func55 rfl (Nat.le_of_ble_eq_true rfl) ?_; intro A hd hA; simp only [ix, Nat.reduceAdd]; replace hA : A.tmps.size = 36 := hA
    repeat' (first | refine X_pure Try.func80 (right_calls e _) ?_ | refine X_gpure Try.func80 (fun _ => right_calls e _) ?_ | refine X_d (fun vb hvb => ?_) | refine X_dg (fun vb hvb => ?_) | refine X_q ?_ | refine X_g ?_ | refine X_gf ?_ | refine X_niln ?_ | refine X_nil ?_ | (refine X_var (fun yn bn hn1 hn2 hn3 hn4 hn5 => ?_)) | refine W_seqk (fun K hK => ?_) | refine W_seqr ?_ | refine W_draw (by kernel_rfl) (by kernel_rfl) ?_ | refine W_ret ?_ | refine W_skip ?_ | refine W_block ?_ | refine W_exit ?_ | (refine X_s (fun x K hK => ?_); go_simp; refine hK _ _ (Ext.alloc _ _) ?_; clear hK K; refine X_al x ?_; generalize (World.later _ x).heap.size = bn; intro yn hn1 hn2 hn3 hn4 hn5; clear x) | refine W_tt ?_ | refine W_ff ?_ | refine W_test (fun hc => ?_) (fun hc => ?_) | go_step)
    · rw [T2 (by simpa using hc)]
      exact Body_ret2 hd ⟨_, rfl, by simp, by simpa using hl1.out.later (by simp), .inl rfl⟩
    · cases hvb
      repeat' (first | refine X_d (fun vb hvb => ?_) | refine X_dg (fun vb hvb => ?_) | refine X_q ?_ | refine X_g ?_ | refine X_gf ?_ | refine X_niln ?_ | refine X_nil ?_ | (refine X_var (fun yn bn hn1 hn2 hn3 hn4 hn5 => ?_)) | refine W_seqk (fun K hK => ?_) | refine W_seqr ?_ | refine W_ret ?_ | refine W_skip ?_ | refine W_block ?_ | refine W_exit ?_ | (refine X_s (fun x K hK => ?_); go_simp; refine hK _ _ (Ext.alloc _ _) ?_; clear hK K; refine X_al x ?_; generalize (World.later _ x).heap.size = bn; intro yn hn1 hn2 hn3 hn4 hn5; clear x) | refine W_tt ?_ | refine W_ff ?_ | refine W_test (fun hc => ?_) (fun hc => ?_) | go_step)
      have hl4 : l.length < 4096 := by rw [hln.out]; omega
      have hno : appendNo l e = 0 := T0 (by simpa using hc) hl4 (by
        have : l = [] := List.eq_nil_of_length_eq_zero hln.out
        subst this; rfl)
      rw [hno] at hK
      simp only [if_true] at hK
      refine W_fork [5] (by kernel_rfl) ?_
      refine F_q (i := 1) ?_
      refine F_q (i := 3) ?_
      refine F_two (i := 0) (j := 4) (fun x K hK => ?_) (fun x K hK => ?_)
      all_goals (go_simp; refine hK _ _ _ (Ext.alloc _ _) (Ext.refl _) ?_; clear hK K; refine F_al x ?_; generalize (World.later _ x).heap.size = bm; intro ym hm1 hm2 hm3 hm4 hm5; clear x)
      · refine F_two (i := 2) (j := 4) (fun x K hK => ?_) (fun x K hK => ?_)
        · refine F_copy elemEnt hm5.out (hl1.out.later (by simp)) (by omega) (by unfold maxLen; omega) x K (fun y v' hE hO hF => hK v' _ _ hE (Ext.refl _) ?_)
          clear hK K hE x
          refine F_s (i := 4) (fun x K hK => ?_)
          go_simp; refine hK _ _ _ (Ext.alloc _ _) (Ext.refl _) ?_; clear hK K; refine F_al x ?_; generalize (World.later _ x).heap.size = bk; intro yk hk1 hk2 hk3 hk4 hk5; clear x
          refine F_push (i := 5) (w0 := w) (by simp) elemEnt (hO.later (by simp)) (fun g hg => (hF g hg).elim (fun h => by omega) (fun h => by omega)) (Rd.one (x := e) hk2 hk3 rfl) (by simp; omega) (by unfold maxLen; simp; omega) (fun y' v' hO hF => ?_)
          refine F_q (i := 6) ?_
          refine F_q (i := 7) ?_
          refine F_nil (by kernel_rfl) (hK _ _ (W_ret (Body_ret2 hd ⟨_, rfl, y'.2, ?_, .inr hF⟩)))
          exact hO.rd Ent.len
        · go_simp; refine hK _ _ _ (Ext.alloc _ _) (Ext.refl _) ?_; clear hK K; refine F_al x ?_; generalize (World.later _ x).heap.size = bk; intro yk hk1 hk2 hk3 hk4 hk5; clear x
          refine F_s (i := 2) (fun x K hK => ?_)
          refine F_copy (b := bm) elemEnt (by rw [heap_later _ _ _ hm2]; exact hm5.out) (hl1.out.later (by simp)) (by omega) (by unfold maxLen; omega) x K (fun y v' hE hO hF => hK v' _ _ hE (Ext.refl _) ?_)
          clear hK K hE x
          refine F_push (i := 5) (w0 := w) (by simp) elemEnt hO (fun g hg => (hF g hg).elim (fun h => by omega) (fun h => by omega)) ((Rd.one (x := e) hk2 hk3 rfl).later (by simp)) (by simp; omega) (by unfold maxLen; simp; omega) (fun y' v' hO hF => ?_)
          refine F_q (i := 6) ?_
          refine F_q (i := 7) ?_
          refine F_nil (by kernel_rfl) (hK _ _ (W_ret (Body_ret2 hd ⟨_, rfl, y'.2, ?_, .inr hF⟩)))
          exact hO.rd Ent.len
      · refine F_s (i := 0) (fun x K hK => ?_)
        go_simp; refine hK _ _ _ (Ext.alloc _ _) (Ext.refl _) ?_; clear hK K; refine F_al x ?_; generalize (World.later _ x).heap.size = bk; intro yk hk1 hk2 hk3 hk4 hk5; clear x
        refine F_s (i := 2) (fun x K hK => ?_)
        refine F_copy (b := bk) elemEnt hk5.out (hl1.out.later (by simp)) (by omega) (by unfold maxLen; omega) x K (fun y v' hE hO hF => hK v' _ _ hE (Ext.refl _) ?_)
        clear hK K hE x
        refine F_push (i := 5) (w0 := w) (by simp) elemEnt hO (fun g hg => (hF g hg).elim (fun h => by omega) (fun h => by omega)) ((Rd.one (x := e) hm2 hm3 rfl).later (by simp)) (by simp; omega) (by unfold maxLen; simp; omega) (fun y' v' hO hF => ?_)
        refine F_q (i := 6) ?_
        refine F_q (i := 7) ?_
        refine F_nil (by kernel_rfl) (hK _ _ (W_ret (Body_ret2 hd ⟨_, rfl, y'.2, ?_, .inr hF⟩)))
        exact hO.rd Ent.len
  · obtain ⟨x, b, o, HE, rfl, hb, c0, c1, c2, c3, c4, c5⟩ := HR.out m (by rw [hln.out]; omega)
    have HLE := lastEp_get (e := e) HE.out (by rw [hln.out])
    refine Fn_of Try.func55 rfl (Nat.le_of_ble_eq_true rfl) ?_; intro A hd hA; simp only [ix, Nat.reduceAdd]; replace hA : A.tmps.size = 36 := hA
    repeat' (first | refine X_pure Try.func80 (right_calls e _) ?_ | refine X_gpure Try.func80 (fun _ => right_calls e _) ?_ | refine X_d (fun vb hvb => ?_) | refine X_dg (fun vb hvb => ?_) | refine X_q ?_ | refine X_g ?_ | refine X_gf ?_ | refine X_niln ?_ | refine X_nil ?_ | (refine X_var (fun yn bn hn1 hn2 hn3 hn4 hn5 => ?_)) | refine W_seqk (fun K hK => ?_) | refine W_seqr ?_ | refine W_draw (by kernel_rfl) (by kernel_rfl) ?_ | refine W_ret ?_ | refine W_skip ?_ | refine W_block ?_ | refine W_exit ?_ | (refine X_s (fun x K hK => ?_); go_simp; refine hK _ _ (Ext.alloc _ _) ?_; clear hK K; refine X_al x ?_; generalize (World.later _ x).heap.size = bn; intro yn hn1 hn2 hn3 hn4 hn5; clear x) | refine W_tt ?_ | refine W_ff ?_ | refine W_test (fun hc => ?_) (fun hc => ?_) | go_step)
    · rw [T2 (by simpa using hc)]
      exact Body_ret2 hd ⟨_, rfl, by simp, by simpa using hl1.out.later (by simp), .inl rfl⟩
    · rename_i hcr
      rw [T3 (by simpa using hcr) (by rw [hln.out]; simp at hc; omega)]
      exact Body_ret2 hd ⟨_, rfl, by simp, by simpa using hl1.out.later (by simp), .inl rfl⟩
    · cases hvb
      have hmm : (m : Int) < m + 1 := by omega
      have hcr := ‹(!rightB e) = false›
      have hl4 : l.length < 4096 := by rw [hln.out]; simp at hc; omega
      repeat' (first | refine X_d (fun vb hvb => ?_) | refine X_dg (fun vb hvb => ?_) | refine X_q ?_ | refine X_g ?_ | refine X_gf ?_ | refine X_niln ?_ | refine X_nil ?_ | (refine X_var (fun yn bn hn1 hn2 hn3 hn4 hn5 => ?_)) | refine W_seqk (fun K hK => ?_) | refine W_seqr ?_ | refine W_ret ?_ | refine W_skip ?_ | refine W_block ?_ | refine W_exit ?_ | (refine X_s (fun x K hK => ?_); go_simp; refine hK _ _ (Ext.alloc _ _) ?_; clear hK K; refine X_al x ?_; generalize (World.later _ x).heap.size = bn; intro yn hn1 hn2 hn3 hn4 hn5; clear x) | refine W_tt ?_ | refine W_ff ?_ | refine W_test (fun hc => ?_) (fun hc => ?_) | go_step)
      · rw [T4 (by simpa using hcr) hl4 (by rw [HLE]; exact hc)]
        exact Body_ret2 hd ⟨_, rfl, by simp, by simpa using hl1.out.later (by simp), .inl rfl⟩
      rw [T0 (by simpa using hcr) hl4 (by rw [HLE]; exact hc)] at hK
      simp only [if_true] at hK
      refine W_fork [5] (by kernel_rfl) ?_
      refine F_q (i := 1) ?_
      refine F_q (i := 3) ?_
      refine F_two (i := 0) (j := 4) (fun x K hK => ?_) (fun x K hK => ?_)
      all_goals (go_simp; refine hK _ _ _ (Ext.alloc _ _) (Ext.refl _) ?_; clear hK K; refine F_al x ?_; generalize (World.later _ x).heap.size = bm; intro ym hm1 hm2 hm3 hm4 hm5; clear x)
      · refine F_two (i := 2) (j := 4) (fun x K hK => ?_) (fun x K hK => ?_)
        · refine F_copy elemEnt hm5.out (hl1.out.later (by simp)) (by omega) (by unfold maxLen; omega) x K (fun y v' hE hO hF => hK v' _ _ hE (Ext.refl _) ?_)
          clear hK K hE x
          refine F_s (i := 4) (fun x K hK => ?_)
          go_simp; refine hK _ _ _ (Ext.alloc _ _) (Ext.refl _) ?_; clear hK K; refine F_al x ?_; generalize (World.later _ x).heap.size = bk; intro yk hk1 hk2 hk3 hk4 hk5; clear x
          refine F_push (i := 5) (w0 := w) (by simp) elemEnt (hO.later (by simp)) (fun g hg => (hF g hg).elim (fun h => by omega) (fun h => by omega)) (Rd.one (x := e) hk2 hk3 rfl) (by simp; omega) (by unfold maxLen; simp; omega) (fun y' v' hO hF => ?_)
          refine F_q (i := 6) ?_
          refine F_q (i := 7) ?_
          refine F_nil (by kernel_rfl) (hK _ _ (W_ret (Body_ret2 hd ⟨_, rfl, y'.2, ?_, .inr hF⟩)))
          exact hO.rd Ent.len
        · go_simp; refine hK _ _ _ (Ext.alloc _ _) (Ext.refl _) ?_; clear hK K; refine F_al x ?_; generalize (World.later _ x).heap.size = bk; intro yk hk1 hk2 hk3 hk4 hk5; clear x
          refine F_s (i := 2) (fun x K hK => ?_)
          refine F_copy (b := bm) elemEnt (by rw [heap_later _ _ _ hm2]; exact hm5.out) (hl1.out.later (by simp)) (by omega) (by unfold maxLen; omega) x K (fun y v' hE hO hF => hK v' _ _ hE (Ext.refl _) ?_)
          clear hK K hE x
          refine F_push (i := 5) (w0 := w) (by simp) elemEnt hO (fun g hg => (hF g hg).elim (fun h => by omega) (fun h => by omega)) ((Rd.one (x := e) hk2 hk3 rfl).later (by simp)) (by simp; omega) (by unfold maxLen; simp; omega) (fun y' v' hO hF => ?_)
          refine F_q (i := 6) ?_
          refine F_q (i := 7) ?_
          refine F_nil (by kernel_rfl) (hK _ _ (W_ret (Body_ret2 hd ⟨_, rfl, y'.2, ?_, .inr hF⟩)))
          exact hO.rd Ent.len
      · refine F_s (i := 0) (fun x K hK => ?_)
        go_simp; refine hK _ _ _ (Ext.alloc _ _) (Ext.refl _) ?_; clear hK K; refine F_al x ?_; generalize (World.later _ x).heap.size = bk; intro yk hk1 hk2 hk3 hk4 hk5; clear x
        refine F_s (i := 2) (fun x K hK => ?_)
        refine F_copy (b := bk) elemEnt hk5.out (hl1.out.later (by simp)) (by omega) (by unfold maxLen; omega) x K (fun y v' hE hO hF => hK v' _ _ hE (Ext.refl _) ?_)
        clear hK K hE x
        refine F_push (i := 5) (w0 := w) (by simp) elemEnt hO (fun g hg => (hF g hg).elim (fun h => by omega) (fun h => by omega)) ((Rd.one (x := e) hm2 hm3 rfl).later (by simp)) (by simp; omega) (by unfold maxLen; simp; omega) (fun y' v' hO hF => ?_)
        refine F_q (i := 6) ?_
        refine F_q (i := 7) ?_
        refine F_nil (by kernel_rfl) (hK _ _ (W_ret (Body_ret2 hd ⟨_, rfl, y'.2, ?_, .inr hF⟩)))
        exact hO.rd Ent.len
theorem append_calls (l : List Ent) (v : Value) (e : Ent) (w : World) (hl : RdE w v l) :
    Ret Try.prog 55 #[v, e.v] w fun v' w' => ∃ u, v' = .tuple #[u, .int .i64 (appendNo l e)] ∧ Ext w w' ∧ RdE w' u (if appendNo l e = 0 then l ++ [e] else l) :=
  (append_callsF l v e w hl).mono fun v' w' ⟨u, h1, h2, h3, _⟩ => ⟨u, h1, h2, h3⟩
end Go.Ws
