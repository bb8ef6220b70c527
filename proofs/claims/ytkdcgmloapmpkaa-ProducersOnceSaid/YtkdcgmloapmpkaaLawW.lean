import Derived.Test.YtkdcgmloapmpkaaPlainO
namespace Go.Ws
open Go Go.RowKit Go.Proofs
set_option maxHeartbeats 2000000
set_option maxRecDepth 100000
set_option linter.unusedVariables false
set_option linter.unusedSimpArgs false
set_option pp.deepTerms true
set_option pp.maxSteps 100000000

theorem TO.step2 {w W W1 W2 : World} {bt : Nat} {u u' : Value} {F : Nat → Prop} {log : List Ent} {e : Ent} (h : TO w W bt u F log) (hM : Mod F W W1) (hT : Tab W1 bt (fun k => F k ∨ W.heap.size ≤ k) (log ++ [e])) (hM2 : Mod (fun j => u.ownBlock = some j) W1 W2) (hO : OwnE W2 u' (log ++ [e]))
    (hF : u'.ownBlock = u.ownBlock ∨ ∃ g, u'.ownBlock = some g ∧ W1.heap.size ≤ g) (hno : appendNo log e = 0) :
    TO w W2 bt u' (fun k => (F k ∨ W.heap.size ≤ k) ∧ k < W1.heap.size) (log ++ [e]) := by
  have hs := h.ext.size
  have hs1 := hM.size
  have hs2 := hM2.size
  have hu : ∀ j, u.ownBlock = some j → ¬ F j ∧ w.heap.size ≤ j ∧ j < W.heap.size := fun j hj => ⟨(h.apart j hj).1, (h.apart j hj).2, h.own.lt j hj⟩
  refine ⟨hT.here.mod hM2 (fun k hk hj => ?_), fun k hk => ⟨?_, by have := hk.2; omega⟩, ?_, hO, fun j hj => ?_, ofNo_snoc h.ok hno⟩
  · have h1 := hu k hj
    rcases hk.1 with h2 | h2
    · exact h1.1 h2
    · omega
  · rcases hk.1 with h1 | h1
    · exact (h.hi k h1).1
    · omega
  · exact Ext.fresh (Ext.fresh h.ext hM (fun j hj => (h.hi j hj).1)) hM2 (fun j hj => (hu j hj).2.1)
  · rcases hF with h1 | ⟨g, h1, h2⟩
    · have h3 := hu j (h1 ▸ hj)
      exact ⟨fun hf => by rcases hf.1 with h4 | h4; exact h3.1 h4; omega, h3.2.1⟩
    · obtain rfl : g = j := by rw [h1] at hj; cases hj; rfl
      exact ⟨fun hf => by have := hf.2; omega, by omega⟩
def cnt2 (l : List Ent) (i num : Int) : Nat := l.countP fun e => (e.id == i) && (e.num == num)
theorem cnt2_snoc (l : List Ent) (e : Ent) (i num : Int) : cnt2 (l ++ [e]) i num = cnt2 l i num + if (e.id == i && e.num == num) = true then 1 else 0 := by
  unfold cnt2; rw [List.countP_append, List.countP_singleton]
theorem cnt2_le (l : List Ent) (i num : Int) : cnt2 l i num ≤ l.length := List.countP_le_length
/-- All that stands before an entry of its transaction is data. -/
theorem cnt2_eq {l : List Ent} (h : ck l) (hok : ofNo l = 0) {i : Nat} {e : Ent} (he : l[i]? = some e) (h0 : 0 ≤ e.id) : cnt2 (l.take i) e.id e.num = cntB (l.take i) e.id e.num := by
  unfold cnt2 cntB
  refine List.countP_congr fun x hx => ?_
  obtain ⟨k, hk⟩ := List.mem_iff_getElem?.1 hx
  have hlt := (List.getElem?_eq_some_iff.1 hk).1
  have hki : k < i := by simp at hlt; omega
  rw [List.getElem?_take_of_lt hki] at hk
  have hkd := kinds_of hok x (mem_of_get hk)
  constructor
  · intro h1
    simp only [Bool.and_eq_true, beq_iff_eq] at h1 ⊢
    have := (once_order h hki hk he h1.1 h0).2 h1.2
    exact ⟨⟨h1.1, h1.2⟩, by omega⟩
  · intro h1
    simp only [Bool.and_eq_true, beq_iff_eq] at h1 ⊢
    exact h1.1
theorem once8_calls (l : List Ent) (v : Value) (w : World) (hl : RdE w v l) : Pure Try.prog 11 #[v] w (.bool true) := by
  have hl0 := Lib.hid hl
  obtain ⟨A0, c, rfl, hc, hcm, HR⟩ := hl.ent
  clear hl HR
  by_cases hlen : l.length ≤ 100
  · have hli : ¬ (100 : Int) < (l.length : Int) := by omega
    refine Fn_of Try.func11 rfl (Nat.le_of_ble_eq_true rfl) ?_; intro A hd hA; simp only [ix, Nat.reduceAdd]; replace hA : A.tmps.size = 171 := hA
    repeat' (first | refine X_gt ?_ | refine X_q ?_ | refine X_g ?_ | refine X_gf ?_ | refine X_niln ?_ | refine X_nil ?_ | (refine X_var (fun yn bn hn1 hn2 hn3 hn4 hn5 => ?_)) | refine W_seqk (fun K hK => ?_) | refine W_seqr ?_ | refine W_ret ?_ | refine W_skip ?_ | refine W_block ?_ | refine W_exit ?_ | (refine X_s (fun x K hK => ?_); go_simp; refine hK _ _ (Ext.alloc _ _) ?_; clear hK K; refine X_al x ?_; generalize (World.later _ x).heap.size = bn; intro yn hn1 hn2 hn3 hn4 hn5; clear x) | refine W_tt ?_ | refine W_ff ?_ | refine W_test (fun hc => ?_) (fun hc => ?_) | go_step)
    refine X_ret Try.func48 (tabNew_calls _) (fun v' w1 hR => ?_)
    obtain ⟨bt, rfl, hE1, hT⟩ := hR
    have HTO := Lib.hid (TO.start hE1 hT)
    clear hE1 hT
    repeat' (first | refine X_gt ?_ | refine X_q ?_ | refine X_g ?_ | refine X_gf ?_ | refine X_niln ?_ | refine X_nil ?_ | (refine X_var (fun yn bn hn1 hn2 hn3 hn4 hn5 => ?_)) | refine W_seqk (fun K hK => ?_) | refine W_seqr ?_ | refine W_ret ?_ | refine W_skip ?_ | refine W_block ?_ | refine W_exit ?_ | (refine X_s (fun x K hK => ?_); go_simp; refine hK _ _ (Ext.alloc _ _) ?_; clear hK K; refine X_al x ?_; generalize (World.later _ x).heap.size = bn; intro yn hn1 hn2 hn3 hn4 hn5; clear x) | refine W_tt ?_ | refine W_ff ?_ | refine W_test (fun hc => ?_) (fun hc => ?_) | go_step)
    refine W_loops [0, 3, 4, 5] (fun n vs W => ∃ (k : Nat) (u : Value) (log : List Ent) (F : Nat → Prop), k + n = l.length ∧ vs = [.slice A0 l.length c, .pointer (some ⟨bt, 0, none⟩), u, .int .i64 k] ∧ TO w W bt u F log ∧ log.length ≤ k ∧ ck log) l.length hd hA (by decide) ⟨0, _, [], _, by omega, by simp, HTO.out, by simp, ck_nil⟩ ?_
    clear hd hA A HTO; intro n vs B W hd hA _ ⟨k, u, log, F, hk, hvs, hT, hlk, hck⟩; subst hvs
    simp only [List.zip_cons_cons, List.zip_nil_right, List.zip_nil_left]
    obtain ⟨A9, n9, c9, rfl⟩ := hT.u_slice
    have hE := hT.ext
    have HT := Lib.hid hT
    have HRT := Lib.hid (of_right log [] hT.ok)
    have HCK := Lib.hid hck
    clear hT hck
    by_cases hlt : k < l.length
    · obtain ⟨e, b, o, HE, rfl, hat⟩ := hl0.out.entAt hlt
      have HAT := Lib.hid hat
      obtain ⟨hbW, c0, c1, c2, c3, c4, c5⟩ := hat.later hE
      clear hE hat
      have hki : (k : Int) < l.length := by omega
      refine W_seqk (fun K hK => ?_)
      by_cases hck : checkNo log e = 0
      · have hno := check_append hck
        have HNO := Lib.hid hno
        have HC0 := Lib.hid hck
        clear hno hck
        repeat' (first | refine X_pure Try.func49 (HC0.out ▸ tabCheck_calls (HT.out.tab.later (by simp)) HT.out.ok e) ?_ | refine X_gpure Try.func49 (fun _ => HC0.out ▸ tabCheck_calls (HT.out.tab.later (by simp)) HT.out.ok e) ?_ | refine X_pure Try.func45 (num8_calls _ _) ?_ | refine X_gpure Try.func45 (fun _ => num8_calls _ _) ?_ | refine X_gt ?_ | refine X_q ?_ | refine X_g ?_ | refine X_gf ?_ | refine X_niln ?_ | refine X_nil ?_ | (refine X_var (fun yn bn hn1 hn2 hn3 hn4 hn5 => ?_)) | refine W_seqk (fun K hK => ?_) | refine W_seqr ?_ | refine W_ret ?_ | refine W_skip ?_ | refine W_block ?_ | refine W_exit ?_ | (refine X_s (fun x K hK => ?_); go_simp; refine hK _ _ (Ext.alloc _ _) ?_; clear hK K; refine X_al x ?_; generalize (World.later _ x).heap.size = bn; intro yn hn1 hn2 hn3 hn4 hn5; clear x) | refine W_tt ?_ | refine W_ff ?_ | refine W_test (fun hc => ?_) (fun hc => ?_) | go_step)
        refine X_ret Try.func50 (tabAppend_calls (HT.out.tab.later (by simp)) e) (fun v' W1 hR => ?_)
        obtain ⟨rfl, hM1, hT1⟩ := hR
        rw [HNO.out] at hT1 ⊢
        rw [if_pos rfl] at hT1
        have hE1 : Ext w W1 := Ext.fresh HT.out.ext hM1 (fun j hj => (HT.out.hi j hj).1)
        have HM1 := Lib.hid hM1
        have HT1 := Lib.hid hT1
        have HO1 : Hid (OwnE W1 (.slice A9 n9 c9) log) := Lib.hid (HT.out.own.mod hM1 (fun j hj hf => (HT.out.apart j hj).1 hf))
        clear hM1 hT1 c0 c1 c2 c3 c4 c5 hbW
        obtain ⟨hbW, c0, c1, c2, c3, c4, c5⟩ := HAT.out.later hE1
        repeat' (first | refine X_pure Try.func45 (num8_calls _ _) ?_ | refine X_gpure Try.func45 (fun _ => num8_calls _ _) ?_ | refine X_gt ?_ | refine X_q ?_ | refine X_g ?_ | refine X_gf ?_ | refine X_niln ?_ | refine X_nil ?_ | (refine X_var (fun yn bn hn1 hn2 hn3 hn4 hn5 => ?_)) | refine W_seqk (fun K hK => ?_) | refine W_seqr ?_ | refine W_ret ?_ | refine W_skip ?_ | refine W_block ?_ | refine W_exit ?_ | (refine X_s (fun x K hK => ?_); go_simp; refine hK _ _ (Ext.alloc _ _) ?_; clear hK K; refine X_al x ?_; generalize (World.later _ x).heap.size = bn; intro yn hn1 hn2 hn3 hn4 hn5; clear x) | refine W_tt ?_ | refine W_ff ?_ | refine W_test (fun hc => ?_) (fun hc => ?_) | go_step)
        refine X_append (xs := log) elemEnt (HO1.out.later (by simp)) (Rd.one (x := e) hn2 hn3 rfl) (by simp; omega) (by unfold maxLen; simp; omega) (fun v2 W2 hM2 hO2 hF2 _ => ?_)
        obtain ⟨A5, n5, c5', rfl⟩ := slice_of1 (hO2.rd Ent.len)
        have hTO : TO w W2 bt (.slice A5 n5 c5') _ (log ++ [e]) := HT.out.step2 HM1.out HT1.out (Mod.trans yn.2 hM2 (fun _ _ h => h.elim) (fun _ _ h => h)) hO2 (hF2.imp id (fun ⟨g, h1, h2⟩ => ⟨g, h1, Nat.le_trans yn.2.size h2⟩)) HNO.out
        have HT2 := Lib.hid hTO
        have hck2 := ck_snoc HCK.out HC0.out
        have HCK2 := Lib.hid hck2
        have hll2 : (log ++ [e]).length ≤ k + 1 := by simp; omega
        have HAT2 := Lib.hid (hTO.ext)
        clear hM2 hO2 hF2 hTO hck2 HM1 HT1 HO1 HT HCK HRT c0 c1 c2 c3 c4 c5 hbW hn1 hn2 hn3 hn4 hn5 yn hE1
        generalize (fun j => (F j ∨ W.heap.size ≤ j) ∧ j < W1.heap.size) = F2 at *
        generalize log ++ [e] = log2 at *
        repeat' (first | refine X_gt ?_ | refine X_q ?_ | refine X_g ?_ | refine X_gf ?_ | refine X_niln ?_ | refine X_nil ?_ | (refine X_var (fun yn bn hn1 hn2 hn3 hn4 hn5 => ?_)) | refine W_seqk (fun K hK => ?_) | refine W_seqr ?_ | refine W_ret ?_ | refine W_skip ?_ | refine W_block ?_ | refine W_exit ?_ | (refine X_s (fun x K hK => ?_); go_simp; refine hK _ _ (Ext.alloc _ _) ?_; clear hK K; refine X_al x ?_; generalize (World.later _ x).heap.size = bn; intro yn hn1 hn2 hn3 hn4 hn5; clear x) | refine W_tt ?_ | refine W_ff ?_ | refine W_test (fun hc => ?_) (fun hc => ?_) | go_step)
        refine W_loops [0, 3, 4, 5, 6] (fun n2 vs V => ∃ j : Nat, Ext W2 V ∧ j + n2 = 4 ∧ vs = [.slice (some ⟨b, o, none⟩) l.length c, .pointer (some ⟨bt, 0, none⟩), .slice A5 n5 c5', .int .i64 k, .int .i64 j]) 4 hd hA (by decide) ?_ ?_
        · exact ⟨0, Ext.refl _, by omega, by simp⟩
        clear hd hA B; intro n3 vs B V hd hA _ ⟨j, hEV, hj, hvs⟩; subst hvs
        simp only [List.zip_cons_cons, List.zip_nil_right, List.zip_nil_left]
        have HTV := Lib.hid (HT2.out.later hEV)
        have HEV := Lib.hid hEV
        clear hEV
        by_cases hj4 : j < 4
        · have hji : (j : Int) < 4 := by omega
          refine W_seqk (fun K hK => ?_)
          repeat' (first | refine X_gt ?_ | refine X_q ?_ | refine X_g ?_ | refine X_gf ?_ | refine X_niln ?_ | refine X_nil ?_ | (refine X_var (fun yn bn hn1 hn2 hn3 hn4 hn5 => ?_)) | refine W_seqk (fun K hK => ?_) | refine W_seqr ?_ | refine W_ret ?_ | refine W_skip ?_ | refine W_block ?_ | refine W_exit ?_ | (refine X_s (fun x K hK => ?_); go_simp; refine hK _ _ (Ext.alloc _ _) ?_; clear hK K; refine X_al x ?_; generalize (World.later _ x).heap.size = bn; intro yn hn1 hn2 hn3 hn4 hn5; clear x) | refine W_tt ?_ | refine W_ff ?_ | refine W_test (fun hc => ?_) (fun hc => ?_) | go_step)
          refine X_ret Try.func44 (tabWriter_calls (HTV.out.tab.later (by simp)) HTV.out.ok (by omega) j) (fun v' V2 hR => ?_)
          rw [if_neg (by omega)] at hR
          obtain ⟨u, rfl, hE2, hu, -⟩ := hR
          obtain ⟨A8, c8, rfl, -⟩ := (hu.rd Opn.len).opn
          have hlo := once_len HCK2.out (i := (j : Int)) (by omega)
          have hlo2 : ¬ (1 : Int) < ((opensB log2 j).length : Int) := by omega
          obtain ⟨y2, rfl⟩ := hE2.get
          clear hE2 hu hlo
          repeat' (first | refine X_pure Try.func45 (num8_calls _ _) ?_ | refine X_gpure Try.func45 (fun _ => num8_calls _ _) ?_ | refine X_gt ?_ | refine X_q ?_ | refine X_g ?_ | refine X_gf ?_ | refine X_niln ?_ | refine X_nil ?_ | (refine X_var (fun yn bn hn1 hn2 hn3 hn4 hn5 => ?_)) | refine W_seqk (fun K hK => ?_) | refine W_seqr ?_ | refine W_ret ?_ | refine W_skip ?_ | refine W_block ?_ | refine W_exit ?_ | (refine X_s (fun x K hK => ?_); go_simp; refine hK _ _ (Ext.alloc _ _) ?_; clear hK K; refine X_al x ?_; generalize (World.later _ x).heap.size = bn; intro yn hn1 hn2 hn3 hn4 hn5; clear x) | refine W_tt ?_ | refine W_ff ?_ | refine W_test (fun hc => ?_) (fun hc => ?_) | go_step)
          exact ⟨_, _, rfl, hd, hA, n3 - 1, by omega, j + 1, Ext.trans HEV.out (by simp), by omega, by simp⟩
        · obtain rfl : j = 4 := by omega
          repeat' (first | refine X_gt ?_ | refine X_q ?_ | refine X_g ?_ | refine X_gf ?_ | refine X_niln ?_ | refine X_nil ?_ | (refine X_var (fun yn bn hn1 hn2 hn3 hn4 hn5 => ?_)) | refine W_seqk (fun K hK => ?_) | refine W_seqr ?_ | refine W_ret ?_ | refine W_skip ?_ | refine W_block ?_ | refine W_exit ?_ | (refine X_s (fun x K hK => ?_); go_simp; refine hK _ _ (Ext.alloc _ _) ?_; clear hK K; refine X_al x ?_; generalize (World.later _ x).heap.size = bn; intro yn hn1 hn2 hn3 hn4 hn5; clear x) | refine W_tt ?_ | refine W_ff ?_ | refine W_test (fun hc => ?_) (fun hc => ?_) | go_step)
          exact ⟨_, _, rfl, hd, hA, n - 1, by omega, k + 1, .slice A5 n5 c5', log2, F2, by omega, by simp, HTV.out.later (by simp), hll2, HCK2.out⟩
      · have hckb : (checkNo log e != 0) = true := by simp [hck]
        repeat' (first | refine X_pure Try.func49 (tabCheck_calls (HT.out.tab.later (by simp)) HT.out.ok e) ?_ | refine X_gpure Try.func49 (fun _ => tabCheck_calls (HT.out.tab.later (by simp)) HT.out.ok e) ?_ | refine X_pure Try.func45 (num8_calls _ _) ?_ | refine X_gpure Try.func45 (fun _ => num8_calls _ _) ?_ | refine X_gt ?_ | refine X_q ?_ | refine X_g ?_ | refine X_gf ?_ | refine X_niln ?_ | refine X_nil ?_ | (refine X_var (fun yn bn hn1 hn2 hn3 hn4 hn5 => ?_)) | refine W_seqk (fun K hK => ?_) | refine W_seqr ?_ | refine W_ret ?_ | refine W_skip ?_ | refine W_block ?_ | refine W_exit ?_ | (refine X_s (fun x K hK => ?_); go_simp; refine hK _ _ (Ext.alloc _ _) ?_; clear hK K; refine X_al x ?_; generalize (World.later _ x).heap.size = bn; intro yn hn1 hn2 hn3 hn4 hn5; clear x) | refine W_tt ?_ | refine W_ff ?_ | refine W_test (fun hc => ?_) (fun hc => ?_) | go_step)
        exact ⟨_, _, rfl, hd, hA, n - 1, by omega, k + 1, .slice A9 n9 c9, log, F, by omega, by simp, HT.out.later (by simp), by omega, HCK.out⟩
    · obtain rfl : k = l.length := by omega
      clear hE
      obtain rfl : n9 = log.length := by obtain ⟨A', c', h, -⟩ := (HT.out.own.rd Ent.len).ent; cases h; rfl
      repeat' (first | refine X_gt ?_ | refine X_q ?_ | refine X_g ?_ | refine X_gf ?_ | refine X_niln ?_ | refine X_nil ?_ | (refine X_var (fun yn bn hn1 hn2 hn3 hn4 hn5 => ?_)) | refine W_seqk (fun K hK => ?_) | refine W_seqr ?_ | refine W_ret ?_ | refine W_skip ?_ | refine W_block ?_ | refine W_exit ?_ | (refine X_s (fun x K hK => ?_); go_simp; refine hK _ _ (Ext.alloc _ _) ?_; clear hK K; refine X_al x ?_; generalize (World.later _ x).heap.size = bn; intro yn hn1 hn2 hn3 hn4 hn5; clear x) | refine W_tt ?_ | refine W_ff ?_ | refine W_test (fun hc => ?_) (fun hc => ?_) | go_step)
      refine W_loops [3, 4, 9] (fun n vs V => ∃ i : Nat, Ext W V ∧ i + n = log.length ∧ vs = [.pointer (some ⟨bt, 0, none⟩), .slice A9 log.length c9, .int .i64 i]) log.length hd hA (by decide) ⟨0, Ext.refl _, by omega, by simp⟩ ?_
      clear hd hA B; intro n3 vs B V hd hA _ ⟨i, hE, hi, hvs⟩; subst hvs
      simp only [List.zip_cons_cons, List.zip_nil_right, List.zip_nil_left]
      have HTV := Lib.hid (HT.out.later hE)
      have HEV := Lib.hid hE
      clear hE
      by_cases hlt : i < log.length
      · obtain ⟨e, b, o, HE, rfl, hat⟩ := (HTV.out.own.rd Ent.len).entAt hlt
        have HAT := Lib.hid hat
        have HEE := Lib.hid HE
        have hii : (i : Int) < log.length := by omega
        clear hat HE
        refine W_seqk (fun K hK => ?_)
        repeat' (first | refine X_gt ?_ | refine X_q ?_ | refine X_g ?_ | refine X_gf ?_ | refine X_niln ?_ | refine X_nil ?_ | (refine X_var (fun yn bn hn1 hn2 hn3 hn4 hn5 => ?_)) | refine W_seqk (fun K hK => ?_) | refine W_seqr ?_ | refine W_ret ?_ | refine W_skip ?_ | refine W_block ?_ | refine W_exit ?_ | (refine X_s (fun x K hK => ?_); go_simp; refine hK _ _ (Ext.alloc _ _) ?_; clear hK K; refine X_al x ?_; generalize (World.later _ x).heap.size = bn; intro yn hn1 hn2 hn3 hn4 hn5; clear x) | refine W_tt ?_ | refine W_ff ?_ | refine W_test (fun hc => ?_) (fun hc => ?_) | go_step)
        refine W_loops [3, 4, 9, 10, 11] (fun n vs V' => ∃ k : Nat, Ext V V' ∧ k + n = i ∧ vs = [.pointer (some ⟨bt, 0, none⟩), .slice (some ⟨b, o, none⟩) log.length c9, .int .i64 i, .int .i64 (if e.id < 0 then (0 : Nat) else cnt2 (log.take k) e.id e.num : Nat), .int .i64 k]) i hd hA (by decide) ?_ ?_
        · exact ⟨0, Ext.refl _, by omega, by simp [cnt2]⟩
        clear hd hA B; intro n4 vs B V' hd hA _ ⟨k, hE', hk, hvs⟩; subst hvs
        simp only [List.zip_cons_cons, List.zip_nil_right, List.zip_nil_left]
        obtain ⟨hbW, c0, c1, c2, c3, c4, c5⟩ := HAT.out.later hE'
        by_cases hki : k < i
        · obtain ⟨x, b', o', HX, hA', hat'⟩ := ((HTV.out.own.rd Ent.len).later hE').entAt (k := k) (by omega)
          cases hA'
          obtain ⟨-, d0, d1, d2, d3, d4, d5⟩ := hat'
          have HXX := Lib.hid HX
          have hkii : (k : Int) < i := by omega
          have hkl : (k : Int) < log.length := by omega
          have hki100 : (k : Int) < 1000 := by omega
          have HE' := Lib.hid hE'
          clear hE' HX
          refine W_seqk (fun K hK => ?_)
          by_cases hid0 : e.id < 0
          · simp only [if_pos hid0]
            by_cases hxe : x.id = e.id
            · repeat' (first | refine X_gt ?_ | refine X_q ?_ | refine X_g ?_ | refine X_gf ?_ | refine X_niln ?_ | refine X_nil ?_ | (refine X_var (fun yn bn hn1 hn2 hn3 hn4 hn5 => ?_)) | refine W_seqk (fun K hK => ?_) | refine W_seqr ?_ | refine W_ret ?_ | refine W_skip ?_ | refine W_block ?_ | refine W_exit ?_ | (refine X_s (fun x K hK => ?_); go_simp; refine hK _ _ (Ext.alloc _ _) ?_; clear hK K; refine X_al x ?_; generalize (World.later _ x).heap.size = bn; intro yn hn1 hn2 hn3 hn4 hn5; clear x) | refine W_tt ?_ | refine W_ff ?_ | refine W_test (fun hc => ?_) (fun hc => ?_) | go_step)
              refine W_draw (by kernel_rfl) (by kernel_rfl) ?_
              repeat' (first | refine X_gt ?_ | refine X_q ?_ | refine X_g ?_ | refine X_gf ?_ | refine X_niln ?_ | refine X_nil ?_ | (refine X_var (fun yn bn hn1 hn2 hn3 hn4 hn5 => ?_)) | refine W_seqk (fun K hK => ?_) | refine W_seqr ?_ | refine W_ret ?_ | refine W_skip ?_ | refine W_block ?_ | refine W_exit ?_ | (refine X_s (fun x K hK => ?_); go_simp; refine hK _ _ (Ext.alloc _ _) ?_; clear hK K; refine X_al x ?_; generalize (World.later _ x).heap.size = bn; intro yn hn1 hn2 hn3 hn4 hn5; clear x) | refine W_tt ?_ | refine W_ff ?_ | refine W_test (fun hc => ?_) (fun hc => ?_) | go_step)
              exact ⟨_, _, rfl, hd, hA, n4 - 1, by omega, k + 1, Ext.trans HE'.out (by simp), by omega, by simp [hid0]⟩
            · have hxb : (x.id != e.id) = true := by simp [hxe]
              repeat' (first | refine X_gt ?_ | refine X_q ?_ | refine X_g ?_ | refine X_gf ?_ | refine X_niln ?_ | refine X_nil ?_ | (refine X_var (fun yn bn hn1 hn2 hn3 hn4 hn5 => ?_)) | refine W_seqk (fun K hK => ?_) | refine W_seqr ?_ | refine W_ret ?_ | refine W_skip ?_ | refine W_block ?_ | refine W_exit ?_ | (refine X_s (fun x K hK => ?_); go_simp; refine hK _ _ (Ext.alloc _ _) ?_; clear hK K; refine X_al x ?_; generalize (World.later _ x).heap.size = bn; intro yn hn1 hn2 hn3 hn4 hn5; clear x) | refine W_tt ?_ | refine W_ff ?_ | refine W_test (fun hc => ?_) (fun hc => ?_) | go_step)
              refine W_draw (by kernel_rfl) (by kernel_rfl) ?_
              repeat' (first | refine X_gt ?_ | refine X_q ?_ | refine X_g ?_ | refine X_gf ?_ | refine X_niln ?_ | refine X_nil ?_ | (refine X_var (fun yn bn hn1 hn2 hn3 hn4 hn5 => ?_)) | refine W_seqk (fun K hK => ?_) | refine W_seqr ?_ | refine W_ret ?_ | refine W_skip ?_ | refine W_block ?_ | refine W_exit ?_ | (refine X_s (fun x K hK => ?_); go_simp; refine hK _ _ (Ext.alloc _ _) ?_; clear hK K; refine X_al x ?_; generalize (World.later _ x).heap.size = bn; intro yn hn1 hn2 hn3 hn4 hn5; clear x) | refine W_tt ?_ | refine W_ff ?_ | refine W_test (fun hc => ?_) (fun hc => ?_) | go_step)
              exact ⟨_, _, rfl, hd, hA, n4 - 1, by omega, k + 1, Ext.trans HE'.out (by simp), by omega, by simp [hid0]⟩
          · simp only [if_neg hid0]
            have hcl := cnt2_le (log.take k) e.id e.num
            rw [List.length_take] at hcl
            by_cases hxe : x.id = e.id
            · obtain ⟨ho1, ho2⟩ := once_order HCK.out hki HXX.out HEE.out hxe (by omega)
              have hgt : ¬ e.num < x.num := by omega
              have hct : cnt2 (log.take (k + 1)) e.id e.num = cnt2 (log.take k) e.id e.num + if (x.id == e.id && x.num == e.num) = true then 1 else 0 := by rw [take_snoc HXX.out, cnt2_snoc]
              have hcb : (cnt2 (log.take k) e.id e.num : Int) < 1000 := by omega
              have HCT := Lib.hid hct
              generalize hcc : cnt2 (log.take k) e.id e.num = cc at *
              have HCC := Lib.hid hcc
              clear hct hcl hcc
              by_cases hn : x.num = e.num
              · have hxk : x.kind = 1 := by
                  have := kinds_of HT.out.ok x (mem_of_get HXX.out)
                  have := ho2 hn
                  omega
                have hc1 : cnt2 (log.take (k + 1)) e.id e.num = cc + 1 := by rw [HCT.out, if_pos (by simp [hxe, hn])]
                have HC1 := Lib.hid hc1
                clear hc1 ho2
                repeat' (first | refine X_gt ?_ | refine X_q ?_ | refine X_g ?_ | refine X_gf ?_ | refine X_niln ?_ | refine X_nil ?_ | (refine X_var (fun yn bn hn1 hn2 hn3 hn4 hn5 => ?_)) | refine W_seqk (fun K hK => ?_) | refine W_seqr ?_ | refine W_ret ?_ | refine W_skip ?_ | refine W_block ?_ | refine W_exit ?_ | (refine X_s (fun x K hK => ?_); go_simp; refine hK _ _ (Ext.alloc _ _) ?_; clear hK K; refine X_al x ?_; generalize (World.later _ x).heap.size = bn; intro yn hn1 hn2 hn3 hn4 hn5; clear x) | refine W_tt ?_ | refine W_ff ?_ | refine W_test (fun hc => ?_) (fun hc => ?_) | go_step)
                refine W_draw (by kernel_rfl) (by kernel_rfl) ?_
                repeat' (first | refine X_gt ?_ | refine X_q ?_ | refine X_g ?_ | refine X_gf ?_ | refine X_niln ?_ | refine X_nil ?_ | (refine X_var (fun yn bn hn1 hn2 hn3 hn4 hn5 => ?_)) | refine W_seqk (fun K hK => ?_) | refine W_seqr ?_ | refine W_ret ?_ | refine W_skip ?_ | refine W_block ?_ | refine W_exit ?_ | (refine X_s (fun x K hK => ?_); go_simp; refine hK _ _ (Ext.alloc _ _) ?_; clear hK K; refine X_al x ?_; generalize (World.later _ x).heap.size = bn; intro yn hn1 hn2 hn3 hn4 hn5; clear x) | refine W_tt ?_ | refine W_ff ?_ | refine W_test (fun hc => ?_) (fun hc => ?_) | go_step)
                refine W_draw (by kernel_rfl) (by kernel_rfl) ?_
                repeat' (first | refine X_gt ?_ | refine X_q ?_ | refine X_g ?_ | refine X_gf ?_ | refine X_niln ?_ | refine X_nil ?_ | (refine X_var (fun yn bn hn1 hn2 hn3 hn4 hn5 => ?_)) | refine W_seqk (fun K hK => ?_) | refine W_seqr ?_ | refine W_ret ?_ | refine W_skip ?_ | refine W_block ?_ | refine W_exit ?_ | (refine X_s (fun x K hK => ?_); go_simp; refine hK _ _ (Ext.alloc _ _) ?_; clear hK K; refine X_al x ?_; generalize (World.later _ x).heap.size = bn; intro yn hn1 hn2 hn3 hn4 hn5; clear x) | refine W_tt ?_ | refine W_ff ?_ | refine W_test (fun hc => ?_) (fun hc => ?_) | go_step)
                refine W_draw (by kernel_rfl) (by kernel_rfl) ?_
                repeat' (first | refine X_gt ?_ | refine X_q ?_ | refine X_g ?_ | refine X_gf ?_ | refine X_niln ?_ | refine X_nil ?_ | (refine X_var (fun yn bn hn1 hn2 hn3 hn4 hn5 => ?_)) | refine W_seqk (fun K hK => ?_) | refine W_seqr ?_ | refine W_ret ?_ | refine W_skip ?_ | refine W_block ?_ | refine W_exit ?_ | (refine X_s (fun x K hK => ?_); go_simp; refine hK _ _ (Ext.alloc _ _) ?_; clear hK K; refine X_al x ?_; generalize (World.later _ x).heap.size = bn; intro yn hn1 hn2 hn3 hn4 hn5; clear x) | refine W_tt ?_ | refine W_ff ?_ | refine W_test (fun hc => ?_) (fun hc => ?_) | go_step)
                exact ⟨_, _, rfl, hd, hA, n4 - 1, by omega, k + 1, Ext.trans HE'.out (by simp), by omega, by rw [if_neg hid0, HC1.out]; simp⟩
              · have hlt2 : x.num < e.num := by omega
                have hnb : (x.num == e.num) = false := beq_false_of_ne hn
                have hc1 : cnt2 (log.take (k + 1)) e.id e.num = cc := by rw [HCT.out, if_neg (by simp [hn])]; rfl
                have HC1 := Lib.hid hc1
                clear hc1 ho2
                repeat' (first | refine X_gt ?_ | refine X_q ?_ | refine X_g ?_ | refine X_gf ?_ | refine X_niln ?_ | refine X_nil ?_ | (refine X_var (fun yn bn hn1 hn2 hn3 hn4 hn5 => ?_)) | refine W_seqk (fun K hK => ?_) | refine W_seqr ?_ | refine W_ret ?_ | refine W_skip ?_ | refine W_block ?_ | refine W_exit ?_ | (refine X_s (fun x K hK => ?_); go_simp; refine hK _ _ (Ext.alloc _ _) ?_; clear hK K; refine X_al x ?_; generalize (World.later _ x).heap.size = bn; intro yn hn1 hn2 hn3 hn4 hn5; clear x) | refine W_tt ?_ | refine W_ff ?_ | refine W_test (fun hc => ?_) (fun hc => ?_) | go_step)
                refine W_draw (by kernel_rfl) (by kernel_rfl) ?_
                repeat' (first | refine X_gt ?_ | refine X_q ?_ | refine X_g ?_ | refine X_gf ?_ | refine X_niln ?_ | refine X_nil ?_ | (refine X_var (fun yn bn hn1 hn2 hn3 hn4 hn5 => ?_)) | refine W_seqk (fun K hK => ?_) | refine W_seqr ?_ | refine W_ret ?_ | refine W_skip ?_ | refine W_block ?_ | refine W_exit ?_ | (refine X_s (fun x K hK => ?_); go_simp; refine hK _ _ (Ext.alloc _ _) ?_; clear hK K; refine X_al x ?_; generalize (World.later _ x).heap.size = bn; intro yn hn1 hn2 hn3 hn4 hn5; clear x) | refine W_tt ?_ | refine W_ff ?_ | refine W_test (fun hc => ?_) (fun hc => ?_) | go_step)
                refine W_draw (by kernel_rfl) (by kernel_rfl) ?_
                repeat' (first | refine X_gt ?_ | refine X_q ?_ | refine X_g ?_ | refine X_gf ?_ | refine X_niln ?_ | refine X_nil ?_ | (refine X_var (fun yn bn hn1 hn2 hn3 hn4 hn5 => ?_)) | refine W_seqk (fun K hK => ?_) | refine W_seqr ?_ | refine W_ret ?_ | refine W_skip ?_ | refine W_block ?_ | refine W_exit ?_ | (refine X_s (fun x K hK => ?_); go_simp; refine hK _ _ (Ext.alloc _ _) ?_; clear hK K; refine X_al x ?_; generalize (World.later _ x).heap.size = bn; intro yn hn1 hn2 hn3 hn4 hn5; clear x) | refine W_tt ?_ | refine W_ff ?_ | refine W_test (fun hc => ?_) (fun hc => ?_) | go_step)
                refine W_draw (by kernel_rfl) (by kernel_rfl) ?_
                repeat' (first | refine X_gt ?_ | refine X_q ?_ | refine X_g ?_ | refine X_gf ?_ | refine X_niln ?_ | refine X_nil ?_ | (refine X_var (fun yn bn hn1 hn2 hn3 hn4 hn5 => ?_)) | refine W_seqk (fun K hK => ?_) | refine W_seqr ?_ | refine W_ret ?_ | refine W_skip ?_ | refine W_block ?_ | refine W_exit ?_ | (refine X_s (fun x K hK => ?_); go_simp; refine hK _ _ (Ext.alloc _ _) ?_; clear hK K; refine X_al x ?_; generalize (World.later _ x).heap.size = bn; intro yn hn1 hn2 hn3 hn4 hn5; clear x) | refine W_tt ?_ | refine W_ff ?_ | refine W_test (fun hc => ?_) (fun hc => ?_) | go_step)
                exact ⟨_, _, rfl, hd, hA, n4 - 1, by omega, k + 1, Ext.trans HE'.out (by simp), by omega, by rw [if_neg hid0, HC1.out]; simp⟩
            · have hxb : (x.id != e.id) = true := by simp [hxe]
              have hc1 : cnt2 (log.take (k + 1)) e.id e.num = cnt2 (log.take k) e.id e.num := by rw [take_snoc HXX.out, cnt2_snoc, if_neg (by simp [hxe])]; rfl
              have HC1 := Lib.hid hc1
              clear hc1
              repeat' (first | refine X_gt ?_ | refine X_q ?_ | refine X_g ?_ | refine X_gf ?_ | refine X_niln ?_ | refine X_nil ?_ | (refine X_var (fun yn bn hn1 hn2 hn3 hn4 hn5 => ?_)) | refine W_seqk (fun K hK => ?_) | refine W_seqr ?_ | refine W_ret ?_ | refine W_skip ?_ | refine W_block ?_ | refine W_exit ?_ | (refine X_s (fun x K hK => ?_); go_simp; refine hK _ _ (Ext.alloc _ _) ?_; clear hK K; refine X_al x ?_; generalize (World.later _ x).heap.size = bn; intro yn hn1 hn2 hn3 hn4 hn5; clear x) | refine W_tt ?_ | refine W_ff ?_ | refine W_test (fun hc => ?_) (fun hc => ?_) | go_step)
              refine W_draw (by kernel_rfl) (by kernel_rfl) ?_
              repeat' (first | refine X_gt ?_ | refine X_q ?_ | refine X_g ?_ | refine X_gf ?_ | refine X_niln ?_ | refine X_nil ?_ | (refine X_var (fun yn bn hn1 hn2 hn3 hn4 hn5 => ?_)) | refine W_seqk (fun K hK => ?_) | refine W_seqr ?_ | refine W_ret ?_ | refine W_skip ?_ | refine W_block ?_ | refine W_exit ?_ | (refine X_s (fun x K hK => ?_); go_simp; refine hK _ _ (Ext.alloc _ _) ?_; clear hK K; refine X_al x ?_; generalize (World.later _ x).heap.size = bn; intro yn hn1 hn2 hn3 hn4 hn5; clear x) | refine W_tt ?_ | refine W_ff ?_ | refine W_test (fun hc => ?_) (fun hc => ?_) | go_step)
              exact ⟨_, _, rfl, hd, hA, n4 - 1, by omega, k + 1, Ext.trans HE'.out (by simp), by omega, by rw [if_neg hid0, HC1.out]; simp⟩
        · obtain rfl : k = i := by omega
          have HE' := Lib.hid (Ext.trans HEV.out hE')
          clear hE'
          by_cases hid0 : e.id < 0
          · simp only [if_pos hid0]
            have hge : ¬ (0 : Int) ≤ e.id := by omega
            repeat' (first | refine X_gt ?_ | refine X_q ?_ | refine X_g ?_ | refine X_gf ?_ | refine X_niln ?_ | refine X_nil ?_ | (refine X_var (fun yn bn hn1 hn2 hn3 hn4 hn5 => ?_)) | refine W_seqk (fun K hK => ?_) | refine W_seqr ?_ | refine W_ret ?_ | refine W_skip ?_ | refine W_block ?_ | refine W_exit ?_ | (refine X_s (fun x K hK => ?_); go_simp; refine hK _ _ (Ext.alloc _ _) ?_; clear hK K; refine X_al x ?_; generalize (World.later _ x).heap.size = bn; intro yn hn1 hn2 hn3 hn4 hn5; clear x) | refine W_tt ?_ | refine W_ff ?_ | refine W_test (fun hc => ?_) (fun hc => ?_) | go_step)
            exact ⟨_, _, rfl, hd, hA, n3 - 1, by omega, k + 1, Ext.trans HE'.out (by simp), by omega, by simp⟩
          · simp only [if_neg hid0]
            have hge : (0 : Int) ≤ e.id := by omega
            by_cases hkd : e.kind = 1
            · have hsq := once_seq HCK.out HEE.out hge (by omega)
              rw [← cnt2_eq HCK.out HT.out.ok HEE.out hge] at hsq
              generalize cnt2 (log.take k) e.id e.num = cc at *
              repeat' (first | refine X_gt ?_ | refine X_q ?_ | refine X_g ?_ | refine X_gf ?_ | refine X_niln ?_ | refine X_nil ?_ | (refine X_var (fun yn bn hn1 hn2 hn3 hn4 hn5 => ?_)) | refine W_seqk (fun K hK => ?_) | refine W_seqr ?_ | refine W_ret ?_ | refine W_skip ?_ | refine W_block ?_ | refine W_exit ?_ | (refine X_s (fun x K hK => ?_); go_simp; refine hK _ _ (Ext.alloc _ _) ?_; clear hK K; refine X_al x ?_; generalize (World.later _ x).heap.size = bn; intro yn hn1 hn2 hn3 hn4 hn5; clear x) | refine W_tt ?_ | refine W_ff ?_ | refine W_test (fun hc => ?_) (fun hc => ?_) | go_step)
              exact ⟨_, _, rfl, hd, hA, n3 - 1, by omega, k + 1, Ext.trans HE'.out (by simp), by omega, by simp⟩
            · have hkb : (e.kind == 1) = false := beq_false_of_ne hkd
              generalize cnt2 (log.take k) e.id e.num = cc at *
              repeat' (first | refine X_gt ?_ | refine X_q ?_ | refine X_g ?_ | refine X_gf ?_ | refine X_niln ?_ | refine X_nil ?_ | (refine X_var (fun yn bn hn1 hn2 hn3 hn4 hn5 => ?_)) | refine W_seqk (fun K hK => ?_) | refine W_seqr ?_ | refine W_ret ?_ | refine W_skip ?_ | refine W_block ?_ | refine W_exit ?_ | (refine X_s (fun x K hK => ?_); go_simp; refine hK _ _ (Ext.alloc _ _) ?_; clear hK K; refine X_al x ?_; generalize (World.later _ x).heap.size = bn; intro yn hn1 hn2 hn3 hn4 hn5; clear x) | refine W_tt ?_ | refine W_ff ?_ | refine W_test (fun hc => ?_) (fun hc => ?_) | go_step)
              exact ⟨_, _, rfl, hd, hA, n3 - 1, by omega, k + 1, Ext.trans HE'.out (by simp), by omega, by simp⟩
      · obtain rfl : i = log.length := by omega
        repeat' (first | refine X_pure Try.func51 (tabLen_calls (HTV.out.tab.later (by simp))) ?_ | refine X_gpure Try.func51 (fun _ => tabLen_calls (HTV.out.tab.later (by simp))) ?_ | refine X_pure Try.func41 (works8_calls) ?_ | refine X_gpure Try.func41 (fun _ => works8_calls) ?_ | refine X_gt ?_ | refine X_q ?_ | refine X_g ?_ | refine X_gf ?_ | refine X_niln ?_ | refine X_nil ?_ | (refine X_var (fun yn bn hn1 hn2 hn3 hn4 hn5 => ?_)) | refine W_seqk (fun K hK => ?_) | refine W_seqr ?_ | refine W_ret ?_ | refine W_skip ?_ | refine W_block ?_ | refine W_exit ?_ | (refine X_s (fun x K hK => ?_); go_simp; refine hK _ _ (Ext.alloc _ _) ?_; clear hK K; refine X_al x ?_; generalize (World.later _ x).heap.size = bn; intro yn hn1 hn2 hn3 hn4 hn5; clear x) | refine W_tt ?_ | refine W_ff ?_ | refine W_test (fun hc => ?_) (fun hc => ?_) | go_step)
        exact Body_ret hd ⟨rfl, Ext.trans HTV.out.ext (by simp)⟩
  · have hli : (100 : Int) < (l.length : Int) := by omega
    refine Fn_of Try.func11 rfl (Nat.le_of_ble_eq_true rfl) ?_; intro A hd hA; simp only [ix, Nat.reduceAdd]; replace hA : A.tmps.size = 171 := hA
    repeat' (first | refine X_pure Try.func41 (works8_calls) ?_ | refine X_gpure Try.func41 (fun _ => works8_calls) ?_ | refine X_gt ?_ | refine X_q ?_ | refine X_g ?_ | refine X_gf ?_ | refine X_niln ?_ | refine X_nil ?_ | (refine X_var (fun yn bn hn1 hn2 hn3 hn4 hn5 => ?_)) | refine W_seqk (fun K hK => ?_) | refine W_seqr ?_ | refine W_ret ?_ | refine W_skip ?_ | refine W_block ?_ | refine W_exit ?_ | (refine X_s (fun x K hK => ?_); go_simp; refine hK _ _ (Ext.alloc _ _) ?_; clear hK K; refine X_al x ?_; generalize (World.later _ x).heap.size = bn; intro yn hn1 hn2 hn3 hn4 hn5; clear x) | refine W_tt ?_ | refine W_ff ?_ | refine W_test (fun hc => ?_) (fun hc => ?_) | go_step)
    exact Body_ret hd ⟨rfl, by simp⟩
end Go.Ws
