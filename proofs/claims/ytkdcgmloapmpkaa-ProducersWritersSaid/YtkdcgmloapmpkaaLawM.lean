import Derived.Test.YtkdcgmloapmpkaaLawL
namespace Go.Ws
open Go Go.RowKit Go.Proofs
set_option maxHeartbeats 2000000
set_option maxRecDepth 100000
set_option linter.unusedVariables false
set_option linter.unusedSimpArgs false
set_option pp.deepTerms true
set_option pp.maxSteps 100000000

theorem Ext.of_same {W W' : World} {b n : Nat} {E : TypeId} {g : Nat → Value} (hM : Mod (· = b) W W') (h : Blk W b E n g) (h' : Blk W' b E n g) : Ext W W' := by
  obtain ⟨cs, h1, h2, h3⟩ := h
  obtain ⟨cs', h1', h2', h3'⟩ := h'
  have hcs : cs' = cs := by
    apply Array.ext
    · omega
    · intro k k1 k2
      have a := h3 k (by omega)
      have c := h3' k (by omega)
      rw [← a] at c
      simpa [k1, k2] using c
  refine ⟨hM.os, hM.tape, hM.output, hM.size, fun k hk _ => ?_⟩
  by_cases hkb : k = b
  · subst hkb; rw [h1', hcs, h1]
  · exact hM.block k hk hkb
/-- An own slice of open transactions, as a block. -/
theorem OwnO.blk {W : World} {g n c : Nat} {os : List Opn} (h : OwnO W (.slice (some ⟨g, 0, none⟩) n c) os) : ∃ N f, Blk W g 68 N f ∧ os.length * 2 ≤ N ∧ n = os.length ∧ ∀ (k : Nat) x, os[k]? = some x → f (k * 2) = .int .i64 x.num ∧ f (k * 2 + 1) = .int .i64 x.first := by
  obtain ⟨hlen, hsh⟩ := h
  rcases hsh with ⟨h, -⟩ | ⟨g', cap, cur, he, -, hb, hcl, hcm, hcs, hpre⟩
  · cases h
  · cases he
    refine ⟨_, _, Blk.new hb, by omega, rfl, fun k x hx => ?_⟩
    have hk : k < os.length := (List.getElem?_eq_some_iff.1 hx).1
    have key : ∀ j u, x.cs[j]? = some u → cur.getD (k * 2 + j) undef = u := by
      intro j u hj
      have h1 := flat_get (enc := Opn.cs) (k := 2) Opn.len os k x j u hx hj
      rw [← hpre] at h1
      have hj2 : j < 2 := by have := (List.getElem?_eq_some_iff.1 hj).1; simpa [Opn.cs] using this
      rw [List.getElem?_take_of_lt (by omega), Array.getElem?_toList] at h1
      rw [Array.getD_eq_getD_getElem?, h1]; rfl
    exact ⟨key 0 _ rfl, key 1 _ rfl⟩
theorem firstOf_mem {l : List Ent} {i num f : Int} (h : firstOf l i num = some f) : ∃ e ∈ l, e.num = num := by
  unfold firstOf at h
  cases h1 : l.findIdx? (dataB i num) with
  | none => rw [h1] at h; cases h
  | some n =>
    obtain ⟨hn, p1, -⟩ := List.findIdx?_eq_some_iff_getElem.1 h1
    simp only [dataB, Bool.and_eq_true, beq_iff_eq] at p1
    exact ⟨_, List.getElem_mem hn, p1.2⟩
theorem writers8_calls (l : List Ent) (v : Value) (id : Int) (w : World) (hl : RdE w v l) : Pure Try.prog 10 #[v, .int .i64 id] w (.bool true) := by
  have hl0 := Lib.hid hl
  obtain ⟨A0, c, rfl, hc, hcm, HR⟩ := hl.ent
  clear hl HR
  by_cases hlen : l.length ≤ 60
  · have hli : ¬ (60 : Int) < (l.length : Int) := by omega
    obtain ⟨hok, hll⟩ := ofL_ok l
    have hRT := Lib.hid (of_right (ofL l) [] hok)
    obtain ⟨lg, hlg⟩ : ∃ x, ofL l = x := ⟨_, rfl⟩
    rw [hlg] at hok hll hRT
    have HLG := Lib.hid hlg
    have hln : lg.length < 1000000 := by omega
    clear hlg
    by_cases hid : id < 0 ∨ 3 < id
    · have main : ∀ (h1 : id < 0 ∨ (¬ id < 0 ∧ 3 < id)), Pure Try.prog 10 #[.slice A0 l.length c, .int .i64 id] w (.bool true) := by
        intro h1
        rcases h1 with h1 | ⟨h1, h2⟩
        all_goals (
          have hid' := Lib.hid hid
          clear hid
          refine Fn_of Try.func10 rfl (Nat.le_of_ble_eq_true rfl) ?_; intro A hd hA; simp only [ix, Nat.reduceAdd]; replace hA : A.tmps.size = 85 := hA
          repeat' (first | refine X_gt ?_ | refine X_q ?_ | refine X_g ?_ | refine X_gf ?_ | refine X_niln ?_ | refine X_nil ?_ | (refine X_var (fun yn bn hn1 hn2 hn3 hn4 hn5 => ?_)) | refine W_seqk (fun K hK => ?_) | refine W_seqr ?_ | refine W_ret ?_ | refine W_skip ?_ | refine W_block ?_ | refine W_exit ?_ | (refine X_s (fun x K hK => ?_); go_simp; refine hK _ _ (Ext.alloc _ _) ?_; clear hK K; refine X_al x ?_; generalize (World.later _ x).heap.size = bn; intro yn hn1 hn2 hn3 hn4 hn5; clear x) | refine W_tt ?_ | refine W_ff ?_ | refine W_test (fun hc => ?_) (fun hc => ?_) | go_step)
          refine X_ret Try.func42 (of8_calls l _ _ (hl0.out.later (by simp))) (fun v' w1 hR => ?_)
          obtain ⟨hE1, hR1⟩ := hR
          rw [HLG.out] at hR1
          have HL := Lib.hid hR1
          obtain ⟨A1, n1, c1, rfl⟩ := slice_of1 hR1
          obtain ⟨y1, rfl⟩ := hE1.get
          clear hE1 hR1
          repeat' (first | refine X_gt ?_ | refine X_q ?_ | refine X_g ?_ | refine X_gf ?_ | refine X_niln ?_ | refine X_nil ?_ | (refine X_var (fun yn bn hn1 hn2 hn3 hn4 hn5 => ?_)) | refine W_seqk (fun K hK => ?_) | refine W_seqr ?_ | refine W_ret ?_ | refine W_skip ?_ | refine W_block ?_ | refine W_exit ?_ | (refine X_s (fun x K hK => ?_); go_simp; refine hK _ _ (Ext.alloc _ _) ?_; clear hK K; refine X_al x ?_; generalize (World.later _ x).heap.size = bn; intro yn hn1 hn2 hn3 hn4 hn5; clear x) | refine W_tt ?_ | refine W_ff ?_ | refine W_test (fun hc => ?_) (fun hc => ?_) | go_step)
          refine X_ret Try.func43 (tabOf_calls lg _ _ (HL.out.later (by simp))) (fun v' w2 hR => ?_)
          obtain ⟨hE2, hR1, -⟩ := hR
          obtain ⟨bt, rfl, hT⟩ := hR1 hok
          obtain ⟨y2, rfl⟩ := hE2.get
          have HT := Lib.hid hT
          clear hR1 hT hE2
          repeat' (first | refine X_gt ?_ | refine X_q ?_ | refine X_g ?_ | refine X_gf ?_ | refine X_niln ?_ | refine X_nil ?_ | (refine X_var (fun yn bn hn1 hn2 hn3 hn4 hn5 => ?_)) | refine W_seqk (fun K hK => ?_) | refine W_seqr ?_ | refine W_ret ?_ | refine W_skip ?_ | refine W_block ?_ | refine W_exit ?_ | (refine X_s (fun x K hK => ?_); go_simp; refine hK _ _ (Ext.alloc _ _) ?_; clear hK K; refine X_al x ?_; generalize (World.later _ x).heap.size = bn; intro yn hn1 hn2 hn3 hn4 hn5; clear x) | refine W_tt ?_ | refine W_ff ?_ | refine W_test (fun hc => ?_) (fun hc => ?_) | go_step)
          refine X_ret Try.func44 (tabWriter_calls (HT.out.later (by simp)) hok hln id) (fun v' w3 hR => ?_)
          rw [if_pos hid'.out] at hR
          obtain ⟨rfl, hE3⟩ := hR
          obtain ⟨y3, rfl⟩ := hE3.get
          clear hE3
          repeat' (first | refine X_pure Try.func45 (num8_calls _ _) ?_ | refine X_gpure Try.func45 (fun _ => num8_calls _ _) ?_ | refine X_gt ?_ | refine X_q ?_ | refine X_g ?_ | refine X_gf ?_ | refine X_niln ?_ | refine X_nil ?_ | (refine X_var (fun yn bn hn1 hn2 hn3 hn4 hn5 => ?_)) | refine W_seqk (fun K hK => ?_) | refine W_seqr ?_ | refine W_ret ?_ | refine W_skip ?_ | refine W_block ?_ | refine W_exit ?_ | (refine X_s (fun x K hK => ?_); go_simp; refine hK _ _ (Ext.alloc _ _) ?_; clear hK K; refine X_al x ?_; generalize (World.later _ x).heap.size = bn; intro yn hn1 hn2 hn3 hn4 hn5; clear x) | refine W_tt ?_ | refine W_ff ?_ | refine W_test (fun hc => ?_) (fun hc => ?_) | go_step)
          refine X_pure Try.func46 (sameW_calls [] [] _ _ _ _ _ _ _ _ _ (Rd.nil _) (Rd.nil _)) ?_
          repeat' (first | refine X_pure Try.func41 (works8_calls) ?_ | refine X_gpure Try.func41 (fun _ => works8_calls) ?_ | refine X_gt ?_ | refine X_q ?_ | refine X_g ?_ | refine X_gf ?_ | refine X_niln ?_ | refine X_nil ?_ | (refine X_var (fun yn bn hn1 hn2 hn3 hn4 hn5 => ?_)) | refine W_seqk (fun K hK => ?_) | refine W_seqr ?_ | refine W_ret ?_ | refine W_skip ?_ | refine W_block ?_ | refine W_exit ?_ | (refine X_s (fun x K hK => ?_); go_simp; refine hK _ _ (Ext.alloc _ _) ?_; clear hK K; refine X_al x ?_; generalize (World.later _ x).heap.size = bn; intro yn hn1 hn2 hn3 hn4 hn5; clear x) | refine W_tt ?_ | refine W_ff ?_ | refine W_test (fun hc => ?_) (fun hc => ?_) | go_step)
          exact Body_ret hd ⟨rfl, by simp⟩)
      exact main (by omega)
    · have h1 : ¬ id < 0 := by omega
      have h2 : ¬ (3 : Int) < id := by omega
      have hid' := Lib.hid hid
      clear hid
      refine Fn_of Try.func10 rfl (Nat.le_of_ble_eq_true rfl) ?_; intro A hd hA; simp only [ix, Nat.reduceAdd]; replace hA : A.tmps.size = 85 := hA
      repeat' (first | refine X_gt ?_ | refine X_q ?_ | refine X_g ?_ | refine X_gf ?_ | refine X_niln ?_ | refine X_nil ?_ | (refine X_var (fun yn bn hn1 hn2 hn3 hn4 hn5 => ?_)) | refine W_seqk (fun K hK => ?_) | refine W_seqr ?_ | refine W_ret ?_ | refine W_skip ?_ | refine W_block ?_ | refine W_exit ?_ | (refine X_s (fun x K hK => ?_); go_simp; refine hK _ _ (Ext.alloc _ _) ?_; clear hK K; refine X_al x ?_; generalize (World.later _ x).heap.size = bn; intro yn hn1 hn2 hn3 hn4 hn5; clear x) | refine W_tt ?_ | refine W_ff ?_ | refine W_test (fun hc => ?_) (fun hc => ?_) | go_step)
      refine X_ret Try.func42 (of8_calls l _ _ (hl0.out.later (by simp))) (fun v' w1 hR => ?_)
      obtain ⟨hE1, hR1⟩ := hR
      rw [HLG.out] at hR1
      have HL := Lib.hid hR1
      obtain ⟨A1, n1, c1, rfl⟩ := slice_of1 hR1
      obtain ⟨y1, rfl⟩ := hE1.get
      clear hE1 hR1
      repeat' (first | refine X_gt ?_ | refine X_q ?_ | refine X_g ?_ | refine X_gf ?_ | refine X_niln ?_ | refine X_nil ?_ | (refine X_var (fun yn bn hn1 hn2 hn3 hn4 hn5 => ?_)) | refine W_seqk (fun K hK => ?_) | refine W_seqr ?_ | refine W_ret ?_ | refine W_skip ?_ | refine W_block ?_ | refine W_exit ?_ | (refine X_s (fun x K hK => ?_); go_simp; refine hK _ _ (Ext.alloc _ _) ?_; clear hK K; refine X_al x ?_; generalize (World.later _ x).heap.size = bn; intro yn hn1 hn2 hn3 hn4 hn5; clear x) | refine W_tt ?_ | refine W_ff ?_ | refine W_test (fun hc => ?_) (fun hc => ?_) | go_step)
      refine X_ret Try.func43 (tabOf_calls lg _ _ (HL.out.later (by simp))) (fun v' w2 hR => ?_)
      obtain ⟨hE2, hR1, -⟩ := hR
      obtain ⟨bt, rfl, hT⟩ := hR1 hok
      obtain ⟨y2, rfl⟩ := hE2.get
      have HT := Lib.hid hT
      clear hR1 hT hE2
      repeat' (first | refine X_gt ?_ | refine X_q ?_ | refine X_g ?_ | refine X_gf ?_ | refine X_niln ?_ | refine X_nil ?_ | (refine X_var (fun yn bn hn1 hn2 hn3 hn4 hn5 => ?_)) | refine W_seqk (fun K hK => ?_) | refine W_seqr ?_ | refine W_ret ?_ | refine W_skip ?_ | refine W_block ?_ | refine W_exit ?_ | (refine X_s (fun x K hK => ?_); go_simp; refine hK _ _ (Ext.alloc _ _) ?_; clear hK K; refine X_al x ?_; generalize (World.later _ x).heap.size = bn; intro yn hn1 hn2 hn3 hn4 hn5; clear x) | refine W_tt ?_ | refine W_ff ?_ | refine W_test (fun hc => ?_) (fun hc => ?_) | go_step)
      refine X_ret Try.func44 (tabWriter_calls (HT.out.later (by simp)) hok hln id) (fun v' w3 hR => ?_)
      rw [if_neg hid'.out] at hR
      obtain ⟨u, rfl, hE3, hO, -⟩ := hR
      obtain ⟨y3, rfl⟩ := hE3.get
      have HO := Lib.hid hO
      obtain ⟨A9, n9, c9, rfl⟩ := slice_of1 (hO.rd Opn.len)
      clear hE3 hO
      repeat' (first | refine X_gt ?_ | refine X_q ?_ | refine X_g ?_ | refine X_gf ?_ | refine X_niln ?_ | refine X_nil ?_ | (refine X_var (fun yn bn hn1 hn2 hn3 hn4 hn5 => ?_)) | refine W_seqk (fun K hK => ?_) | refine W_seqr ?_ | refine W_ret ?_ | refine W_skip ?_ | refine W_block ?_ | refine W_exit ?_ | (refine X_s (fun x K hK => ?_); go_simp; refine hK _ _ (Ext.alloc _ _) ?_; clear hK K; refine X_al x ?_; generalize (World.later _ x).heap.size = bn; intro yn hn1 hn2 hn3 hn4 hn5; clear x) | refine W_tt ?_ | refine W_ff ?_ | refine W_test (fun hc => ?_) (fun hc => ?_) | go_step)
      rename Nat => b8
      rename Later _ => y8
      have g8 : Blk ((((w.later y1).later y2).later y3).later y8) b8 63 4 _ := Blk.new hn5.out
      have hHL : Hid (RdE ((((w.later y1).later y2).later y3).later y8) (.slice A1 n1 c1) lg) := Lib.hid (((HL.out.later y2.2).later y3.2).later y8.2)
      have hHO : Hid (OwnO ((((w.later y1).later y2).later y3).later y8) (.slice A9 n9 c9) (opensB lg id)) := Lib.hid (HO.out.later y8.2)
      have hHE : Hid (Ext w ((((w.later y1).later y2).later y3).later y8)) := Lib.hid (by simp)
      generalize ((((w.later y1).later y2).later y3).later y8) = W0 at *
      generalize hH : highB lg id = H at *
      generalize hN : nextB lg id H = N at *
      generalize hM : markB lg id = MM at *
      have HV := Lib.hid (show highB lg id = H ∧ nextB lg id H = N ∧ markB lg id = MM from ⟨hH, hN, hM⟩)
      have G8 := Lib.hid g8
      obtain ⟨rfl⟩ : n9 = (opensB lg id).length := by obtain ⟨A', c', h, -⟩ := (hHO.out.rd Opn.len).opn; cases h; rfl
      have hosl : (opensB lg id).length ≤ 1000000 := by have := opensTo_len lg id lg 0 []; simp [opensB] at this ⊢; omega
      generalize hOS : opensB lg id = os at *
      have HOS := Lib.hid hOS
      clear g8 hH hN hM HO HL HT hn3 hn4 hn5 hn1 hOS
      refine W_loops [1, 5, 7, 8, 9, 10] (fun n vs W => ∃ k : Nat, Ext W0 W ∧ k + n = os.length ∧ vs = [.int .i64 id, .slice A1 n1 c1, .int .i64 0, .pointer (some ⟨b8, 0, none⟩), .int .i64 0, .int .i64 k]) os.length hd hA (by decide) ⟨0, Ext.refl _, by omega, by simp⟩ ?_
      clear hd hA A; intro n2 vs B W hd hA _ ⟨k, hE, hk, hvs⟩; subst hvs
      simp only [List.zip_cons_cons, List.zip_nil_right, List.zip_nil_left]
      obtain ⟨r8, r0, r1, r2, r3⟩ := (G8.out.later hE).wr
      have HO2 := Lib.hid (hHO.out.later hE)
      have HE := Lib.hid hE
      clear hE
      by_cases hlt : k < os.length
      · obtain ⟨x, hx⟩ : ∃ x, os[k]? = some x := ⟨_, List.getElem?_eq_getElem hlt⟩
        have hki : (k : Int) < os.length := by omega
        have hkb : (k : Int) < 1000000 := by omega
        have hxb : 0 ≤ x.num ∧ x.num ≤ 2147483647 := by
          have hm : x ∈ opensB lg id := by rw [HOS.out]; exact List.mem_of_getElem? hx
          obtain ⟨e, he, hen⟩ := firstOf_mem ((mem_opensB lg id x).1 hm).2
          have := right_bounds (hRT.out e he)
          omega
        obtain ⟨hx1, hx2⟩ := hxb
        obtain ⟨g, rfl⟩ : ∃ g, A9 = some ⟨g, 0, none⟩ := by
          rcases HO2.out.shape with ⟨h, h'⟩ | ⟨g, c, h, -⟩
          · rw [h'] at hlt; simp at hlt
          · cases h; exact ⟨_, rfl⟩
        obtain ⟨NN, f, hblk, hN2, -, hcell⟩ := OwnO.blk HO2.out
        have hf := (hcell k x hx).1
        have e0 := (hblk.cell (k := k * 2) (by omega)).trans (congrArg some hf)
        have hgW := hblk.lt
        have HB := Lib.hid hblk
        clear hblk hcell
        refine W_seqk (fun K hK => ?_)
        repeat' (first | refine X_gt ?_ | refine X_q ?_ | refine X_g ?_ | refine X_gf ?_ | refine X_niln ?_ | refine X_nil ?_ | (refine X_var (fun yn bn hn1 hn2 hn3 hn4 hn5 => ?_)) | refine W_seqk (fun K hK => ?_) | refine W_seqr ?_ | refine W_ret ?_ | refine W_skip ?_ | refine W_block ?_ | refine W_exit ?_ | (refine X_s (fun x K hK => ?_); go_simp; refine hK _ _ (Ext.alloc _ _) ?_; clear hK K; refine X_al x ?_; generalize (World.later _ x).heap.size = bn; intro yn hn1 hn2 hn3 hn4 hn5; clear x) | refine W_tt ?_ | refine W_ff ?_ | refine W_test (fun hc => ?_) (fun hc => ?_) | go_step)
        refine W_draw (by kernel_rfl) (by kernel_rfl) ?_
        repeat' (first | refine X_gt ?_ | refine X_q ?_ | refine X_g ?_ | refine X_gf ?_ | refine X_niln ?_ | refine X_nil ?_ | (refine X_var (fun yn bn hn1 hn2 hn3 hn4 hn5 => ?_)) | refine W_seqk (fun K hK => ?_) | refine W_seqr ?_ | refine W_ret ?_ | refine W_skip ?_ | refine W_block ?_ | refine W_exit ?_ | (refine X_s (fun x K hK => ?_); go_simp; refine hK _ _ (Ext.alloc _ _) ?_; clear hK K; refine X_al x ?_; generalize (World.later _ x).heap.size = bn; intro yn hn1 hn2 hn3 hn4 hn5; clear x) | refine W_tt ?_ | refine W_ff ?_ | refine W_test (fun hc => ?_) (fun hc => ?_) | go_step)
        refine X_store (off := k * 2) (v := .int .i64 x.num) HB.out (fun W1 hM1 hB1 => ?_)
        have hE1 : Ext W W1 := Ext.of_same hM1 HB.out (hB1.congr (fun j hj => by
          simp only [Value.cells]
          rw [put_one]; split
          · rename_i h; rw [h, hf]
          · rfl))
        clear hM1 hB1
        repeat' (first | refine X_gt ?_ | refine X_q ?_ | refine X_g ?_ | refine X_gf ?_ | refine X_niln ?_ | refine X_nil ?_ | (refine X_var (fun yn bn hn1 hn2 hn3 hn4 hn5 => ?_)) | refine W_seqk (fun K hK => ?_) | refine W_seqr ?_ | refine W_ret ?_ | refine W_skip ?_ | refine W_block ?_ | refine W_exit ?_ | (refine X_s (fun x K hK => ?_); go_simp; refine hK _ _ (Ext.alloc _ _) ?_; clear hK K; refine X_al x ?_; generalize (World.later _ x).heap.size = bn; intro yn hn1 hn2 hn3 hn4 hn5; clear x) | refine W_tt ?_ | refine W_ff ?_ | refine W_test (fun hc => ?_) (fun hc => ?_) | go_step)
        exact ⟨_, _, rfl, hd, hA, n2 - 1, by omega, k + 1, Ext.trans HE.out hE1, by omega, by simp⟩
      · have hEw := Lib.hid (Ext.trans hHE.out HE.out)
        have HL2 := Lib.hid (hHL.out.later HE.out)
        have HOr := Lib.hid (HO2.out.rd Opn.len)
        repeat' (first | refine X_gt ?_ | refine X_q ?_ | refine X_g ?_ | refine X_gf ?_ | refine X_niln ?_ | refine X_nil ?_ | (refine X_var (fun yn bn hn1 hn2 hn3 hn4 hn5 => ?_)) | refine W_seqk (fun K hK => ?_) | refine W_seqr ?_ | refine W_ret ?_ | refine W_skip ?_ | refine W_block ?_ | refine W_exit ?_ | (refine X_s (fun x K hK => ?_); go_simp; refine hK _ _ (Ext.alloc _ _) ?_; clear hK K; refine X_al x ?_; generalize (World.later _ x).heap.size = bn; intro yn hn1 hn2 hn3 hn4 hn5; clear x) | refine W_tt ?_ | refine W_ff ?_ | refine W_test (fun hc => ?_) (fun hc => ?_) | go_step)
        refine W_drawσ [(0, 0), (2, 0), (1, 1), (3, 1), (4, 0), (5, 0), (6, 0), (7, 0), (8, 0), (9, 0), (10, 1), (11, 1), (12, 0), (13, 0), (14, 1), (15, 0), (16, 0)] (by kernel_rfl) (by kernel_rfl) ?_
        simp only [List.map_cons, List.map_nil, List.getD_cons_zero, List.getD_cons_succ]
        repeat' (first | (refine X_pure1 Try.func45 (fun x => num8_calls 0 _) ?_) | refine X_gt ?_ | refine X_q ?_ | refine X_g ?_ | refine X_gf ?_ | refine X_niln ?_ | refine X_nil ?_ | (refine X_var (fun yn bn hn1 hn2 hn3 hn4 hn5 => ?_)) | refine W_seqk (fun K hK => ?_) | refine W_seqr ?_ | refine W_ret ?_ | refine W_skip ?_ | refine W_block ?_ | refine W_exit ?_ | (refine X_s (fun x K hK => ?_); go_simp; refine hK _ _ (Ext.alloc _ _) ?_; clear hK K; refine X_al x ?_; generalize (World.later _ x).heap.size = bn; intro yn hn1 hn2 hn3 hn4 hn5; clear x) | refine W_tt ?_ | refine W_ff ?_ | refine W_test (fun hc => ?_) (fun hc => ?_) | go_step)
        refine X_ret1 (R := fun w0 v' w' => ∃ u', v' = wrV (highB lg id) (nextB lg id (highB lg id)) (markB lg id) u' ∧ Ext w0 w' ∧ RdO w' u' (opensB lg id)) Try.func47 (fun x => rwriter_calls lg _ id _ (HL2.out.later (by simp)) (by omega) hRT.out) (fun x v' w' hR => ?_)
        obtain ⟨u', rfl, hE, hU'⟩ := hR
        refine ⟨hE, ?_⟩
        rw [HV.out.1, HV.out.2.1, HV.out.2.2]
        rw [HOS.out] at hU'
        have HU' := Lib.hid hU'
        obtain ⟨A8, n8, c8, rfl⟩ := slice_of1 hU'
        have HEU := Lib.hid (Ext.trans (by simp : Ext W (World.later _ x)) hE)
        clear hU' hE
        repeat' (first | (refine X_pure1 Try.func46 (fun z => sameW_calls os os _ _ _ _ _ _ _ _ _ (HOr.out.later (Ext.trans HEU.out z.2)) (HU'.out.later z.2)) ?_) | (refine X_pure1 Try.func41 (fun z => works8_calls) ?_) | refine X_gt ?_ | refine X_q ?_ | refine X_g ?_ | refine X_gf ?_ | refine X_niln ?_ | refine X_nil ?_ | (refine X_var (fun yn bn hn1 hn2 hn3 hn4 hn5 => ?_)) | refine W_seqk (fun K hK => ?_) | refine W_seqr ?_ | refine W_ret ?_ | refine W_skip ?_ | refine W_block ?_ | refine W_exit ?_ | (refine X_s (fun x K hK => ?_); go_simp; refine hK _ _ (Ext.alloc _ _) ?_; clear hK K; refine X_al x ?_; generalize (World.later _ x).heap.size = bn; intro yn hn1 hn2 hn3 hn4 hn5; clear x) | refine W_tt ?_ | refine W_ff ?_ | refine W_test (fun hc => ?_) (fun hc => ?_) | go_step)
        exact Body_ret hd ⟨rfl, Ext.trans hEw.out HEU.out⟩
  · have hli : (60 : Int) < (l.length : Int) := by omega
    refine Fn_of Try.func10 rfl (Nat.le_of_ble_eq_true rfl) ?_; intro A hd hA; simp only [ix, Nat.reduceAdd]; replace hA : A.tmps.size = 85 := hA
    repeat' (first | refine X_pure Try.func41 (works8_calls) ?_ | refine X_gpure Try.func41 (fun _ => works8_calls) ?_ | refine X_gt ?_ | refine X_q ?_ | refine X_g ?_ | refine X_gf ?_ | refine X_niln ?_ | refine X_nil ?_ | (refine X_var (fun yn bn hn1 hn2 hn3 hn4 hn5 => ?_)) | refine W_seqk (fun K hK => ?_) | refine W_seqr ?_ | refine W_ret ?_ | refine W_skip ?_ | refine W_block ?_ | refine W_exit ?_ | (refine X_s (fun x K hK => ?_); go_simp; refine hK _ _ (Ext.alloc _ _) ?_; clear hK K; refine X_al x ?_; generalize (World.later _ x).heap.size = bn; intro yn hn1 hn2 hn3 hn4 hn5; clear x) | refine W_tt ?_ | refine W_ff ?_ | refine W_test (fun hc => ?_) (fun hc => ?_) | go_step)
    exact Body_ret hd ⟨rfl, by simp⟩
end Go.Ws
