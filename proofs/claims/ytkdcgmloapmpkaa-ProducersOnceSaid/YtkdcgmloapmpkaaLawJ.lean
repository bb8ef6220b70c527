import Derived.Test.YtkdcgmloapmpkaaTabCk
import Derived.Test.YtkdcgmloapmpkaaTabW
import Derived.Test.YtkdcgmloapmpkaaTabL
import Derived.Test.YtkdcgmloapmpkaaRefW
import Derived.Test.YtkdcgmloapmpkaaRef09B
namespace Go.Ws
open Go Go.RowKit Go.Proofs
set_option maxHeartbeats 2000000
set_option maxRecDepth 100000
set_option linter.unusedVariables false
set_option linter.unusedSimpArgs false
set_option pp.deepTerms true
set_option pp.maxSteps 100000000

theorem num8_calls (n : Int) (w : World) : Pure Try.prog 45 #[.int .i64 n] w (.int .i64 n) := by
  refine Fn_of Try.func45 rfl (Nat.le_of_ble_eq_true rfl) ?_; intro A hd hA; simp only [ix, Nat.reduceAdd]; replace hA : A.tmps.size = 4 := hA
  repeat' (first | refine X_d (fun vb hvb => ?_) | refine X_dg (fun vb hvb => ?_) | refine X_q ?_ | refine X_g ?_ | refine X_gf ?_ | refine X_niln ?_ | refine X_nil ?_ | (refine X_var (fun yn bn hn1 hn2 hn3 hn4 hn5 => ?_)) | refine W_seqk (fun K hK => ?_) | refine W_seqr ?_ | refine W_draw (by kernel_rfl) (by kernel_rfl) ?_ | refine W_ret ?_ | refine W_skip ?_ | refine W_block ?_ | refine W_exit ?_ | (refine X_s (fun x K hK => ?_); go_simp; refine hK _ _ (Ext.alloc _ _) ?_; clear hK K; refine X_al x ?_; generalize (World.later _ x).heap.size = bn; intro yn hn1 hn2 hn3 hn4 hn5; clear x) | refine W_tt ?_ | refine W_ff ?_ | refine W_test (fun hc => ?_) (fun hc => ?_) | go_step)
  exact Body_ret hd ⟨rfl, by simp⟩
theorem data8_calls (n s : Int) (w : World) : Pure Try.prog 52 #[.int .i64 n, .int .i64 s] w (⟨1, 0, n, s, 1, s⟩ : Ent).v := by
  refine Fn_of Try.func52 rfl (Nat.le_of_ble_eq_true rfl) ?_; intro A hd hA; simp only [ix, Nat.reduceAdd]; replace hA : A.tmps.size = 9 := hA
  repeat' (first | refine X_d (fun vb hvb => ?_) | refine X_dg (fun vb hvb => ?_) | refine X_q ?_ | refine X_g ?_ | refine X_gf ?_ | refine X_niln ?_ | refine X_nil ?_ | (refine X_var (fun yn bn hn1 hn2 hn3 hn4 hn5 => ?_)) | refine W_seqk (fun K hK => ?_) | refine W_seqr ?_ | refine W_ret ?_ | refine W_skip ?_ | refine W_block ?_ | refine W_exit ?_ | (refine X_s (fun x K hK => ?_); go_simp; refine hK _ _ (Ext.alloc _ _) ?_; clear hK K; refine X_al x ?_; generalize (World.later _ x).heap.size = bn; intro yn hn1 hn2 hn3 hn4 hn5; clear x) | refine W_tt ?_ | refine W_ff ?_ | refine W_test (fun hc => ?_) (fun hc => ?_) | go_step)
  refine X_store (off := 0) (v := (⟨1, 0, n, s, 1, s⟩ : Ent).v) (Blk.new hn5.out) (fun W1 hM1 hB1 => ?_)
  have hE1 : Ext w W1 := Ext.fresh yn.2 hM1 (fun i hi => by omega)
  repeat' (first | refine X_d (fun vb hvb => ?_) | refine X_dg (fun vb hvb => ?_) | refine X_q ?_ | refine X_g ?_ | refine X_gf ?_ | refine X_niln ?_ | refine X_nil ?_ | (refine X_var (fun yn bn hn1 hn2 hn3 hn4 hn5 => ?_)) | refine W_seqk (fun K hK => ?_) | refine W_seqr ?_ | refine W_ret ?_ | refine W_skip ?_ | refine W_block ?_ | refine W_exit ?_ | (refine X_s (fun x K hK => ?_); go_simp; refine hK _ _ (Ext.alloc _ _) ?_; clear hK K; refine X_al x ?_; generalize (World.later _ x).heap.size = bn; intro yn hn1 hn2 hn3 hn4 hn5; clear x) | refine W_tt ?_ | refine W_ff ?_ | refine W_test (fun hc => ?_) (fun hc => ?_) | go_step)
  exact Body_retcell1 (cs := (⟨1, 0, n, s, 1, s⟩ : Ent).cs) hd ⟨rfl, hE1⟩ hB1 (fun k hk => by
    have hk : k < 6 := hk
    rw [put_in k (by simpa [Value.cells] using hk) (by omega)]
    obtain rfl | rfl | rfl | rfl | rfl | rfl : k = 0 ∨ k = 1 ∨ k = 2 ∨ k = 3 ∨ k = 4 ∨ k = 5 := by omega
    all_goals rfl) Try.underlying39
theorem mark8_calls (n k : Int) (w : World) : Pure Try.prog 58 #[.int .i64 n, .int .i64 k] w (⟨1, 0, n, 0, k, 0⟩ : Ent).v := by
  refine Fn_of Try.func58 rfl (Nat.le_of_ble_eq_true rfl) ?_; intro A hd hA; simp only [ix, Nat.reduceAdd]; replace hA : A.tmps.size = 8 := hA
  repeat' (first | refine X_d (fun vb hvb => ?_) | refine X_dg (fun vb hvb => ?_) | refine X_q ?_ | refine X_g ?_ | refine X_gf ?_ | refine X_niln ?_ | refine X_nil ?_ | (refine X_var (fun yn bn hn1 hn2 hn3 hn4 hn5 => ?_)) | refine W_seqk (fun K hK => ?_) | refine W_seqr ?_ | refine W_ret ?_ | refine W_skip ?_ | refine W_block ?_ | refine W_exit ?_ | (refine X_s (fun x K hK => ?_); go_simp; refine hK _ _ (Ext.alloc _ _) ?_; clear hK K; refine X_al x ?_; generalize (World.later _ x).heap.size = bn; intro yn hn1 hn2 hn3 hn4 hn5; clear x) | refine W_tt ?_ | refine W_ff ?_ | refine W_test (fun hc => ?_) (fun hc => ?_) | go_step)
  refine X_store (off := 0) (v := (⟨1, 0, n, 0, k, 0⟩ : Ent).v) (Blk.new hn5.out) (fun W1 hM1 hB1 => ?_)
  have hE1 : Ext w W1 := Ext.fresh yn.2 hM1 (fun i hi => by omega)
  repeat' (first | refine X_d (fun vb hvb => ?_) | refine X_dg (fun vb hvb => ?_) | refine X_q ?_ | refine X_g ?_ | refine X_gf ?_ | refine X_niln ?_ | refine X_nil ?_ | (refine X_var (fun yn bn hn1 hn2 hn3 hn4 hn5 => ?_)) | refine W_seqk (fun K hK => ?_) | refine W_seqr ?_ | refine W_ret ?_ | refine W_skip ?_ | refine W_block ?_ | refine W_exit ?_ | (refine X_s (fun x K hK => ?_); go_simp; refine hK _ _ (Ext.alloc _ _) ?_; clear hK K; refine X_al x ?_; generalize (World.later _ x).heap.size = bn; intro yn hn1 hn2 hn3 hn4 hn5; clear x) | refine W_tt ?_ | refine W_ff ?_ | refine W_test (fun hc => ?_) (fun hc => ?_) | go_step)
  exact Body_retcell1 (cs := (⟨1, 0, n, 0, k, 0⟩ : Ent).cs) hd ⟨rfl, hE1⟩ hB1 (fun j hk => by
    have hk : j < 6 := hk
    rw [put_in j (by simpa [Value.cells] using hk) (by omega)]
    obtain rfl | rfl | rfl | rfl | rfl | rfl : j = 0 ∨ j = 1 ∨ j = 2 ∨ j = 3 ∨ j = 4 ∨ j = 5 := by omega
    all_goals rfl) Try.underlying39
/-- Those entries that may be appended, one by one. -/
def takeOne (log : List Ent) (e : Ent) : List Ent := if appendNo log e = 0 then log ++ [e] else log
def ofL (l : List Ent) : List Ent := l.foldl takeOne []
theorem ofL_snoc (l : List Ent) (e : Ent) : ofL (l ++ [e]) = takeOne (ofL l) e := by simp [ofL, List.foldl_append]
theorem ofL_take {l : List Ent} {k : Nat} {e : Ent} (h : l[k]? = some e) : ofL (l.take (k + 1)) = takeOne (ofL (l.take k)) e := by rw [take_snoc h, ofL_snoc]
theorem ofNo_snoc {l : List Ent} {e : Ent} (h : ofNo l = 0) (he : appendNo l e = 0) : ofNo (l ++ [e]) = 0 := by
  have := ofFrom_append l [e] [] h
  unfold ofNo
  rw [this, List.nil_append, ofFrom, if_pos he]; rfl
theorem takeOne_ok {l : List Ent} (h : ofNo l = 0) (e : Ent) : ofNo (takeOne l e) = 0 := by
  unfold takeOne
  split
  · rename_i he; exact ofNo_snoc h he
  · exact h
theorem takeOne_len (l : List Ent) (e : Ent) : (takeOne l e).length ≤ l.length + 1 := by unfold takeOne; split <;> simp
theorem ofL_ok (l : List Ent) : ofNo (ofL l) = 0 ∧ (ofL l).length ≤ l.length := by
  induction l using snocInd with
  | h0 => exact ⟨rfl, Nat.le_refl _⟩
  | hs l e ih =>
    rw [ofL_snoc]
    refine ⟨takeOne_ok ih.1 e, ?_⟩
    have := takeOne_len (ofL l) e
    have := ih.2
    simp; omega
theorem of8_calls (l : List Ent) (v : Value) (w : World) (hl : RdE w v l) : Ret Try.prog 42 #[v] w fun v' w' => Ext w w' ∧ RdE w' v' (ofL l) := by
  have hl0 := Lib.hid hl
  obtain ⟨A0, c, rfl, hc, hcm, HR⟩ := hl.ent
  clear hl
  refine Fn_of Try.func42 rfl (Nat.le_of_ble_eq_true rfl) ?_; intro A hd hA; simp only [ix, Nat.reduceAdd]; replace hA : A.tmps.size = 21 := hA
  repeat' (first | refine X_d (fun vb hvb => ?_) | refine X_dg (fun vb hvb => ?_) | refine X_q ?_ | refine X_g ?_ | refine X_gf ?_ | refine X_niln ?_ | refine X_nil ?_ | (refine X_var (fun yn bn hn1 hn2 hn3 hn4 hn5 => ?_)) | refine W_seqk (fun K hK => ?_) | refine W_seqr ?_ | refine W_ret ?_ | refine W_skip ?_ | refine W_block ?_ | refine W_exit ?_ | (refine X_s (fun x K hK => ?_); go_simp; refine hK _ _ (Ext.alloc _ _) ?_; clear hK K; refine X_al x ?_; generalize (World.later _ x).heap.size = bn; intro yn hn1 hn2 hn3 hn4 hn5; clear x) | refine W_tt ?_ | refine W_ff ?_ | refine W_test (fun hc => ?_) (fun hc => ?_) | go_step)
  refine W_loops [0, 3, 4] (fun n vs w' => ∃ (k : Nat) (y : Later w) (u : Value), w' = w.later y ∧ k + n = l.length ∧ vs = [.slice A0 l.length c, u, .int .i64 k] ∧ RdE (w.later y) u (ofL (l.take k))) l.length hd hA (by decide) ⟨0, ⟨w, Ext.refl w⟩, _, rfl, by omega, by simp, Rd.nil _⟩ ?_
  clear hd hA A; intro n vs B w' hd hA _ ⟨k, y, u, hw, hk, hvs, hu⟩; subst hw hvs
  simp only [List.zip_cons_cons, List.zip_nil_right, List.zip_nil_left]
  by_cases hlt : k < l.length
  · obtain ⟨e, b, o, HE, rfl, hb, c0, c1, c2, c3, c4, c5⟩ := HR.out k hlt
    have hno := takeOne_len (ofL (l.take k)) e
    have hu0 := Lib.hid hu
    obtain ⟨A9, n9, c9, rfl⟩ := slice_of1 hu
    clear hu
    repeat' (first | refine X_d (fun vb hvb => ?_) | refine X_dg (fun vb hvb => ?_) | refine X_q ?_ | refine X_g ?_ | refine X_gf ?_ | refine X_niln ?_ | refine X_nil ?_ | (refine X_var (fun yn bn hn1 hn2 hn3 hn4 hn5 => ?_)) | refine W_seqk (fun K hK => ?_) | refine W_seqr ?_ | refine W_ret ?_ | refine W_skip ?_ | refine W_block ?_ | refine W_exit ?_ | (refine X_s (fun x K hK => ?_); go_simp; refine hK _ _ (Ext.alloc _ _) ?_; clear hK K; refine X_al x ?_; generalize (World.later _ x).heap.size = bn; intro yn hn1 hn2 hn3 hn4 hn5; clear x) | refine W_tt ?_ | refine W_ff ?_ | refine W_test (fun hc => ?_) (fun hc => ?_) | go_step)
    refine X_ret Try.func55 (append_calls (ofL (l.take k)) _ e _ (hu0.out.later (by simp))) (fun r w1 hR => ?_)
    obtain ⟨u, rfl, hE1, hU⟩ := hR
    obtain ⟨y1, rfl⟩ := hE1.get
    have hU0 := Lib.hid hU
    obtain ⟨A8, n8, c8, rfl⟩ := slice_of1 hU
    clear hU hE1
    repeat' (first | refine X_d (fun vb hvb => ?_) | refine X_dg (fun vb hvb => ?_) | refine X_q ?_ | refine X_g ?_ | refine X_gf ?_ | refine X_niln ?_ | refine X_nil ?_ | (refine X_var (fun yn bn hn1 hn2 hn3 hn4 hn5 => ?_)) | refine W_seqk (fun K hK => ?_) | refine W_seqr ?_ | refine W_ret ?_ | refine W_skip ?_ | refine W_block ?_ | refine W_exit ?_ | (refine X_s (fun x K hK => ?_); go_simp; refine hK _ _ (Ext.alloc _ _) ?_; clear hK K; refine X_al x ?_; generalize (World.later _ x).heap.size = bn; intro yn hn1 hn2 hn3 hn4 hn5; clear x) | refine W_tt ?_ | refine W_ff ?_ | refine W_test (fun hc => ?_) (fun hc => ?_) | go_step)
    refine ⟨_, _, rfl, hd, hA, n - 1, by omega, k + 1, y.trans y1, .slice A8 n8 c8, rfl, by omega, by simp, ?_⟩
    rw [ofL_take HE.out]
    exact hU0.out
  · obtain rfl : k = l.length := by omega
    rw [List.take_length] at hu
    have hu0 := Lib.hid hu
    obtain ⟨A9, n9, c9, rfl⟩ := slice_of1 hu
    clear hu
    repeat' (first | refine X_d (fun vb hvb => ?_) | refine X_dg (fun vb hvb => ?_) | refine X_q ?_ | refine X_g ?_ | refine X_gf ?_ | refine X_niln ?_ | refine X_nil ?_ | (refine X_var (fun yn bn hn1 hn2 hn3 hn4 hn5 => ?_)) | refine W_seqk (fun K hK => ?_) | refine W_seqr ?_ | refine W_ret ?_ | refine W_skip ?_ | refine W_block ?_ | refine W_exit ?_ | (refine X_s (fun x K hK => ?_); go_simp; refine hK _ _ (Ext.alloc _ _) ?_; clear hK K; refine X_al x ?_; generalize (World.later _ x).heap.size = bn; intro yn hn1 hn2 hn3 hn4 hn5; clear x) | refine W_tt ?_ | refine W_ff ?_ | refine W_test (fun hc => ?_) (fun hc => ?_) | go_step)
    exact Body_ret hd ⟨by simp, hu0.out⟩
def wkL : List Ent := [⟨1, 0, 1, 0, 1, 0⟩, ⟨1, 0, 1, 1, 1, 1⟩]
theorem wk_ok : ofNo wkL = 0 := by decide
theorem wk_high : highB wkL (0 : Int) = 1 := by decide
theorem wk_next : nextB wkL (0 : Int) 1 = 2 := by decide
theorem wk_mark : markB wkL (0 : Int) = 0 := by decide
theorem wk_opens : opensB wkL (0 : Int) = [⟨1, 0⟩] := by decide
theorem wk_stable : stableB wkL = 0 := by decide
theorem wk_c1 : checkNo wkL ⟨1, 0, 1, 1, 1, 1⟩ = 183 := by decide
theorem wk_c2 : checkNo wkL ⟨1, 0, 1, 3, 1, 3⟩ = 184 := by decide
theorem wk_c3 : checkNo wkL ⟨1, 0, 2, 0, 1, 0⟩ = 182 := by decide
theorem wk_c4 : checkNo wkL ⟨1, 0, 2, 0, 2, 0⟩ = 181 := by decide
theorem wk_c5 : checkNo wkL ⟨1, 0, 1, 0, 2, 0⟩ = 0 := by decide
theorem wkStable {w : World} {b : Nat} {F : Nat → Prop} (h : Tab w b F wkL) : Pure Try.prog 53 #[.pointer (some ⟨b, 0, none⟩)] w (.int .i64 0) := wk_stable ▸ tabStable_calls h wk_ok
theorem wkCheck {w : World} {b : Nat} {F : Nat → Prop} (h : Tab w b F wkL) (e : Ent) {r : Int} (hr : checkNo wkL e = r) : Pure Try.prog 49 #[.pointer (some ⟨b, 0, none⟩), e.v] w (.int .i64 r) := hr ▸ tabCheck_calls h wk_ok e
theorem works8_calls {w : World} : Pure Try.prog 41 #[] w (.bool true) := by
  refine Fn_of Try.func41 rfl (Nat.le_of_ble_eq_true rfl) ?_; intro A hd hA; simp only [ix, Nat.reduceAdd]; replace hA : A.tmps.size = 70 := hA
  repeat' (first | refine X_pure Try.func52 (data8_calls _ _ _) ?_ | refine X_gpure Try.func52 (fun _ => data8_calls _ _ _) ?_ | refine X_gt ?_ | refine X_q ?_ | refine X_g ?_ | refine X_gf ?_ | refine X_niln ?_ | refine X_nil ?_ | (refine X_var (fun yn bn hn1 hn2 hn3 hn4 hn5 => ?_)) | refine W_seqk (fun K hK => ?_) | refine W_seqr ?_ | refine W_ret ?_ | refine W_skip ?_ | refine W_block ?_ | refine W_exit ?_ | (refine X_s (fun x K hK => ?_); go_simp; refine hK _ _ (Ext.alloc _ _) ?_; clear hK K; refine X_al x ?_; generalize (World.later _ x).heap.size = bn; intro yn hn1 hn2 hn3 hn4 hn5; clear x) | refine W_tt ?_ | refine W_ff ?_ | refine W_test (fun hc => ?_) (fun hc => ?_) | go_step)
  refine X_ret Try.func43 (tabOf_calls wkL _ _ ((Own.lit (enc := Ent.cs) (k := 6) (E := 39) _ yn (y := yn) Ent.len _ wkL rfl hn5.out (by decide)).rd Ent.len)) (fun v' w1 hR => ?_)
  obtain ⟨hE1, hR1, -⟩ := hR
  obtain ⟨bt, rfl, hT⟩ := hR1 wk_ok
  obtain ⟨y1, rfl⟩ := hE1.get
  have HT := Lib.hid hT
  clear hR1 hT hE1
  repeat' (first | refine X_gt ?_ | refine X_q ?_ | refine X_g ?_ | refine X_gf ?_ | refine X_niln ?_ | refine X_nil ?_ | (refine X_var (fun yn bn hn1 hn2 hn3 hn4 hn5 => ?_)) | refine W_seqk (fun K hK => ?_) | refine W_seqr ?_ | refine W_ret ?_ | refine W_skip ?_ | refine W_block ?_ | refine W_exit ?_ | (refine X_s (fun x K hK => ?_); go_simp; refine hK _ _ (Ext.alloc _ _) ?_; clear hK K; refine X_al x ?_; generalize (World.later _ x).heap.size = bn; intro yn hn1 hn2 hn3 hn4 hn5; clear x) | refine W_tt ?_ | refine W_ff ?_ | refine W_test (fun hc => ?_) (fun hc => ?_) | go_step)
  refine X_ret Try.func44 (tabWriter_calls (HT.out.later (by simp)) wk_ok (by decide) 0) (fun v' w2 hR => ?_)
  rw [if_neg (by decide)] at hR
  obtain ⟨u, rfl, hE2, hu, -⟩ := hR
  rw [wk_high, wk_next, wk_mark, wk_opens] at *
  have HU := Lib.hid (hu.rd Opn.len)
  obtain ⟨A9, n9, c9, rfl⟩ := slice_of1 HU.out
  obtain ⟨y2, rfl⟩ := hE2.get
  clear hu hE2
  repeat' (first | refine X_pure Try.func45 (num8_calls _ _) ?_ | refine X_gpure Try.func45 (fun _ => num8_calls _ _) ?_ | refine X_gt ?_ | refine X_q ?_ | refine X_g ?_ | refine X_gf ?_ | refine X_niln ?_ | refine X_nil ?_ | (refine X_var (fun yn bn hn1 hn2 hn3 hn4 hn5 => ?_)) | refine W_seqk (fun K hK => ?_) | refine W_seqr ?_ | refine W_ret ?_ | refine W_skip ?_ | refine W_block ?_ | refine W_exit ?_ | (refine X_s (fun x K hK => ?_); go_simp; refine hK _ _ (Ext.alloc _ _) ?_; clear hK K; refine X_al x ?_; generalize (World.later _ x).heap.size = bn; intro yn hn1 hn2 hn3 hn4 hn5; clear x) | refine W_tt ?_ | refine W_ff ?_ | refine W_test (fun hc => ?_) (fun hc => ?_) | go_step)
  refine X_pure Try.func46 (sameW_calls [⟨1, 0⟩] [⟨1, 0⟩] _ _ _ _ _ _ _ _ _ (HU.out.later (by simp)) ((Own.lit (enc := Opn.cs) (k := 2) (E := 68) _ yn (y := yn) Opn.len _ [⟨1, 0⟩] rfl hn5.out (by decide)).rd Opn.len)) ?_
  repeat' (first | refine X_pure Try.func45 (num8_calls _ _) ?_ | refine X_gpure Try.func45 (fun _ => num8_calls _ _) ?_ | refine X_pure Try.func52 (data8_calls _ _ _) ?_ | refine X_gpure Try.func52 (fun _ => data8_calls _ _ _) ?_ | refine X_pure Try.func58 (mark8_calls _ _ _) ?_ | refine X_gpure Try.func58 (fun _ => mark8_calls _ _ _) ?_ | refine X_pure Try.func53 (wkStable (HT.out.later (by simp))) ?_ | refine X_gpure Try.func53 (fun _ => wkStable (HT.out.later (by simp))) ?_ | (refine X_pure Try.func49 (wkCheck (HT.out.later (by simp)) ⟨1, 0, 1, 1, 1, 1⟩ wk_c1) ?_) | (refine X_pure Try.func49 (wkCheck (HT.out.later (by simp)) ⟨1, 0, 1, 3, 1, 3⟩ wk_c2) ?_) | (refine X_pure Try.func49 (wkCheck (HT.out.later (by simp)) ⟨1, 0, 2, 0, 1, 0⟩ wk_c3) ?_) | (refine X_pure Try.func49 (wkCheck (HT.out.later (by simp)) ⟨1, 0, 2, 0, 2, 0⟩ wk_c4) ?_) | (refine X_pure Try.func49 (wkCheck (HT.out.later (by simp)) ⟨1, 0, 1, 0, 2, 0⟩ wk_c5) ?_) | refine X_gt ?_ | refine X_q ?_ | refine X_g ?_ | refine X_gf ?_ | refine X_niln ?_ | refine X_nil ?_ | (refine X_var (fun yn bn hn1 hn2 hn3 hn4 hn5 => ?_)) | refine W_seqk (fun K hK => ?_) | refine W_seqr ?_ | refine W_ret ?_ | refine W_skip ?_ | refine W_block ?_ | refine W_exit ?_ | (refine X_s (fun x K hK => ?_); go_simp; refine hK _ _ (Ext.alloc _ _) ?_; clear hK K; refine X_al x ?_; generalize (World.later _ x).heap.size = bn; intro yn hn1 hn2 hn3 hn4 hn5; clear x) | refine W_tt ?_ | refine W_ff ?_ | refine W_test (fun hc => ?_) (fun hc => ?_) | go_step)
  exact Body_ret hd ⟨rfl, by simp⟩
end Go.Ws
