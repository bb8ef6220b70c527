import Derived.Test.YtkdcgmloapmpkaaRules
import Derived.Test.YtkdcgmloapmpkaaTabS
import Derived.Test.YtkdcgmloapmpkaaScope
import Derived.Test.YtkdcgmloapmpkaaRefCk
namespace Go.Ws
open Go Go.RowKit Go.Proofs
set_option maxHeartbeats 2000000
set_option maxRecDepth 100000
set_option linter.unusedVariables false
set_option linter.unusedSimpArgs false
set_option pp.deepTerms true
set_option pp.maxSteps 100000000

theorem check_core {b : Nat} {w : World} {u : Value} {l : List Ent} {m0 m1 : Nat} (hS : Seen w b u l) (e : Ent) (hno : appendNo l e = 0) {i : Nat} (hid : e.id = i) (hi : i < 4) (hat : WrAt w b (1 + i * 5) (wrOf l i) m0 m1) (cond : Nat → Bool) (r : Int)
    (hw : ∀ k p, (rules (e.kind == 1))[k]? = some p → (p.2 = 0 ↔ False) ∧ (∃ fn, Try.prog.funcs[p.1]? = some fn ∧ callable fn = true) ∧ ∀ w', Ext w w' → WhyP p.1 b (1 + i * 5) e w' (cond k))
    (h1 : ∀ k p, (rules (e.kind == 1))[k]? = some p → (∀ j, j < k → cond j = false) → cond k = true → r = p.2) (h0 : (∀ j, j < (rules (e.kind == 1)).length → cond j = false) → r = 0) :
    Pure Try.prog 49 #[.pointer (some ⟨b, 0, none⟩), e.v] w (.int .i64 r) := by
  obtain ⟨ep, eid, enum, eseq, ekind, eval⟩ := e
  simp only at hid
  subst hid
  have HW := Lib.hid hw
  have H1 := Lib.hid h1
  have H0 := Lib.hid h0
  have hbl := hS.1
  have hi4 : (i : Int) < 4 := by omega
  have hii : ¬ (i : Int) < 0 := by omega
  have hmay := Lib.hid (fun w' (hE : Ext w w') => (hno ▸ may_calls (hS.later hE) (⟨ep, (i : Int), enum, eseq, ekind, eval⟩ : Ent) : Pure Try.prog 76 #[.pointer (some ⟨b, 0, none⟩), (⟨ep, (i : Int), enum, eseq, ekind, eval⟩ : Ent).v] w' (.int .i64 0)))
  clear hw h1 h0 hS hno hat
  simp only at HW H1 H0
  generalize hdt : (ekind == 1) = data at *
  refine Fn_of Try.func49 rfl (Nat.le_of_ble_eq_true rfl) ?_; intro A hd hA; simp only [ix, Nat.reduceAdd]; replace hA : A.tmps.size = 41 := hA
  repeat' (first | refine X_pure Try.func76 (hmay.out _ (by simp)) ?_ | refine X_gpure Try.func76 (fun _ => hmay.out _ (by simp)) ?_ | (refine W_label ?_) | (refine W_scope ?_) | refine X_gt ?_ | refine X_q ?_ | refine X_g ?_ | refine X_gf ?_ | refine X_niln ?_ | refine X_nil ?_ | (refine X_var (fun yn bn hn1 hn2 hn3 hn4 hn5 => ?_)) | refine W_seqk (fun K hK => ?_) | refine W_seqr ?_ | refine W_ret ?_ | refine W_skip ?_ | refine W_block ?_ | refine W_exit ?_ | (refine X_s (fun x K hK => ?_); go_simp; refine hK _ _ (Ext.alloc _ _) ?_; clear hK K; refine X_al x ?_; generalize (World.later _ x).heap.size = bn; intro yn hn1 hn2 hn3 hn4 hn5; clear x) | refine W_tt ?_ | refine W_ff ?_ | refine W_test (fun hc => ?_) (fun hc => ?_) | go_step)
  rename Nat => be
  rename Later w => ye
  have ge : Blk (w.later ye) be 39 6 _ := Blk.new hn5.out
  clear hn3 hn4 hn5
  refine X_ret Try.func77 (refuses_calls data) (fun v' w1 hR => ?_)
  obtain ⟨hE1, g, rfl, hg, hrules⟩ := hR
  have GE := Lib.hid (ge.later hE1)
  have HE1 := Lib.hid (Ext.trans ye.2 hE1)
  have HR := Lib.hid hrules
  have hbe : be < w1.heap.size := by have := hE1.size; have : (w.later ye).heap.size ≤ w1.heap.size := this; omega
  clear hE1 hrules ge
  repeat' (first | refine X_gt ?_ | refine X_q ?_ | refine X_g ?_ | refine X_gf ?_ | refine X_niln ?_ | refine X_nil ?_ | (refine X_var (fun yn bn hn1 hn2 hn3 hn4 hn5 => ?_)) | refine W_seqk (fun K hK => ?_) | refine W_seqr ?_ | refine W_ret ?_ | refine W_skip ?_ | refine W_block ?_ | refine W_exit ?_ | (refine X_s (fun x K hK => ?_); go_simp; refine hK _ _ (Ext.alloc _ _) ?_; clear hK K; refine X_al x ?_; generalize (World.later _ x).heap.size = bn; intro yn hn1 hn2 hn3 hn4 hn5; clear x) | refine W_tt ?_ | refine W_ff ?_ | refine W_test (fun hc => ?_) (fun hc => ?_) | go_step)
  have hlen : (rules data).length ≤ 4 := by cases data <;> simp [rules]
  refine W_loops [0, 3, 5, 22, 23, 24] (fun n vs W => ∃ k : Nat, Ext w1 W ∧ k + n = (rules data).length ∧ vs = [.pointer (some ⟨b, 0, none⟩), .pointer (some ⟨be, 0, none⟩), .int .i64 0, .slice (some ⟨g, 0, none⟩) (rules data).length (rules data).length, .int .i64 (rules data).length, .int .i64 k] ∧
    ∀ j, j < k → cond j = false) (rules data).length hd hA (by decide) ⟨0, Ext.refl _, by omega, by simp, by intro j hj; omega⟩ ?_
  clear hd hA A; intro n2 vs B W hd hA _ ⟨k, hE, hk, hvs, hc0⟩; subst hvs
  simp only [List.zip_cons_cons, List.zip_nil_right, List.zip_nil_left]
  have HC := Lib.hid hc0
  have hEw := Ext.trans HE1.out hE
  obtain ⟨t0, t1, t2, t3, t4, t5⟩ : W.cell? ⟨be, 0, none⟩ = some (.int .i64 ep) ∧ W.cell? ⟨be, 1, none⟩ = some (.int .i64 i) ∧ W.cell? ⟨be, 2, none⟩ = some (.int .i64 enum) ∧ W.cell? ⟨be, 3, none⟩ = some (.int .i64 eseq) ∧ W.cell? ⟨be, 4, none⟩ = some (.int .i64 ekind) ∧ W.cell? ⟨be, 5, none⟩ = some (.int .i64 eval) := by
    have G := GE.out.later hE
    exact ⟨G.cell (k := 0) (by omega), G.cell (k := 1) (by omega), G.cell (k := 2) (by omega), G.cell (k := 3) (by omega), G.cell (k := 4) (by omega), G.cell (k := 5) (by omega)⟩
  have hbeW : be < W.heap.size := Nat.lt_of_lt_of_le hbe hE.size
  have hbW : b < W.heap.size := Nat.lt_of_lt_of_le hbl hEw.size
  have hgW : g < W.heap.size := Nat.lt_of_lt_of_le hg hE.size
  by_cases hlt : k < (rules data).length
  · obtain ⟨p, hp⟩ : ∃ p, (rules data)[k]? = some p := ⟨_, List.getElem?_eq_getElem hlt⟩
    obtain ⟨v, hv, hrule⟩ := HR.out k p hp
    obtain ⟨a, c, rfl, ha, hc, ha2, hc2⟩ := hrule.later hE
    have hvW : W.cell? ⟨g, k, none⟩ = some (.func (.func 96) #[] #[.pointer (some ⟨a, 0, none⟩), .pointer (some ⟨c, 0, none⟩)]) := by rw [cell?_mod hE hg (fun h => h)]; exact hv
    obtain ⟨hp0, ⟨fn, hfn, hcall⟩, hwhy⟩ := HW.out k p hp
    have hki : (k : Int) < (rules data).length := by omega
    have HEW := Lib.hid hE
    have HEw := Lib.hid hEw
    have hpure := Lib.hid (fun W' (hEE : Ext W W') => rule_calls (w := W') (E := p.2) (b := b) (o := 1 + i * 5) (e := ⟨ep, (i : Int), enum, eseq, ekind, eval⟩) (v := cond k) hfn hcall (Nat.lt_of_lt_of_le ha hEE.size) (Nat.lt_of_lt_of_le hc hEE.size)
      (by rw [cell?_mod hEE ha (fun h => h)]; exact ha2) (by rw [cell?_mod hEE hc (fun h => h)]; exact hc2) (fun w' hw' => hwhy w' (Ext.trans hEw (Ext.trans hEE hw'))))
    clear hE hEw hv hrule hwhy hfn hcall ha2 hc2 hc0
    refine W_seqk (fun K hK => ?_)
    repeat' (first | refine X_gt ?_ | refine X_q ?_ | refine X_g ?_ | refine X_gf ?_ | refine X_niln ?_ | refine X_nil ?_ | (refine X_var (fun yn bn hn1 hn2 hn3 hn4 hn5 => ?_)) | refine W_seqk (fun K hK => ?_) | refine W_seqr ?_ | refine W_ret ?_ | refine W_skip ?_ | refine W_block ?_ | refine W_exit ?_ | (refine X_s (fun x K hK => ?_); go_simp; refine hK _ _ (Ext.alloc _ _) ?_; clear hK K; refine X_al x ?_; generalize (World.later _ x).heap.size = bn; intro yn hn1 hn2 hn3 hn4 hn5; clear x) | refine W_tt ?_ | refine W_ff ?_ | refine W_test (fun hc => ?_) (fun hc => ?_) | go_step)
    refine W_draw (by kernel_rfl) (by kernel_rfl) ?_
    repeat' (first | refine X_gt ?_ | refine X_q ?_ | refine X_g ?_ | refine X_gf ?_ | refine X_niln ?_ | refine X_nil ?_ | (refine X_var (fun yn bn hn1 hn2 hn3 hn4 hn5 => ?_)) | refine W_seqk (fun K hK => ?_) | refine W_seqr ?_ | refine W_ret ?_ | refine W_skip ?_ | refine W_block ?_ | refine W_exit ?_ | (refine X_s (fun x K hK => ?_); go_simp; refine hK _ _ (Ext.alloc _ _) ?_; clear hK K; refine X_al x ?_; generalize (World.later _ x).heap.size = bn; intro yn hn1 hn2 hn3 hn4 hn5; clear x) | refine W_tt ?_ | refine W_ff ?_ | refine W_test (fun hc => ?_) (fun hc => ?_) | go_step)
    refine X_valret (lv := [.pointer (some ⟨b, 1 + i * 5, none⟩), (⟨ep, (i : Int), enum, eseq, ekind, eval⟩ : Ent).v]) (first := #[]) (captured := #[.pointer (some ⟨a, 0, none⟩), .pointer (some ⟨c, 0, none⟩)]) Try.func96 (hpure.out _ (by simp)) (fun v' w2 hR => ?_)
    obtain ⟨rfl, hE2⟩ := hR
    have HE2 := Lib.hid (Ext.trans HEW.out (Ext.trans (by simp) hE2))
    have HE2w := Lib.hid (Ext.trans HEw.out (Ext.trans (by simp) hE2))
    clear hE2
    cases hck : cond k
    · simp only [hck, Bool.false_eq_true, if_false]
      repeat' (first | refine X_gt ?_ | refine X_q ?_ | refine X_g ?_ | refine X_gf ?_ | refine X_niln ?_ | refine X_nil ?_ | (refine X_var (fun yn bn hn1 hn2 hn3 hn4 hn5 => ?_)) | refine W_seqk (fun K hK => ?_) | refine W_seqr ?_ | refine W_ret ?_ | refine W_skip ?_ | refine W_block ?_ | refine W_exit ?_ | (refine X_s (fun x K hK => ?_); go_simp; refine hK _ _ (Ext.alloc _ _) ?_; clear hK K; refine X_al x ?_; generalize (World.later _ x).heap.size = bn; intro yn hn1 hn2 hn3 hn4 hn5; clear x) | refine W_tt ?_ | refine W_ff ?_ | refine W_test (fun hc => ?_) (fun hc => ?_) | go_step)
      refine ⟨_, _, rfl, hd, hA, n2 - 1, by omega, k + 1, HE2.out, by omega, by simp, fun j hj => ?_⟩
      by_cases hjk : j = k
      · rw [hjk]; exact hck
      · exact HC.out j (by omega)
    · simp only [hck, if_true]
      have hp2 : p.2 ≠ 0 := fun h => (hp0.1 h)
      have hres := H1.out k p hp HC.out hck
      rw [hres]
      have hb2 : (p.2 == 0) = false := by simpa using hp2
      generalize p.2 = E at *
      repeat' (first | refine X_gt ?_ | refine X_q ?_ | refine X_g ?_ | refine X_gf ?_ | refine X_niln ?_ | refine X_nil ?_ | (refine X_var (fun yn bn hn1 hn2 hn3 hn4 hn5 => ?_)) | refine W_seqk (fun K hK => ?_) | refine W_seqr ?_ | refine W_ret ?_ | refine W_skip ?_ | refine W_block ?_ | refine W_exit ?_ | (refine X_s (fun x K hK => ?_); go_simp; refine hK _ _ (Ext.alloc _ _) ?_; clear hK K; refine X_al x ?_; generalize (World.later _ x).heap.size = bn; intro yn hn1 hn2 hn3 hn4 hn5; clear x) | refine W_tt ?_ | refine W_ff ?_ | refine W_test (fun hc => ?_) (fun hc => ?_) | go_step)
      · exact Body_ret hd ⟨rfl, HE2w.out⟩
      · exact absurd (by simpa using hc) hp2
  · obtain rfl : k = (rules data).length := by omega
    have hr0 := H0.out HC.out
    subst hr0
    have HEw := Lib.hid hEw
    clear hE hEw
    repeat' (first | refine X_gt ?_ | refine X_q ?_ | refine X_g ?_ | refine X_gf ?_ | refine X_niln ?_ | refine X_nil ?_ | (refine X_var (fun yn bn hn1 hn2 hn3 hn4 hn5 => ?_)) | refine W_seqk (fun K hK => ?_) | refine W_seqr ?_ | refine W_ret ?_ | refine W_skip ?_ | refine W_block ?_ | refine W_exit ?_ | (refine X_s (fun x K hK => ?_); go_simp; refine hK _ _ (Ext.alloc _ _) ?_; clear hK K; refine X_al x ?_; generalize (World.later _ x).heap.size = bn; intro yn hn1 hn2 hn3 hn4 hn5; clear x) | refine W_tt ?_ | refine W_ff ?_ | refine W_test (fun hc => ?_) (fun hc => ?_) | go_step)
    exact Body_ret hd ⟨rfl, HEw.out⟩

/-! ### Check answers as the document's -/
theorem nums_high (l : List Ent) (i : Int) : ∀ e ∈ l, e.id = i → e.num ≤ highB l i := by
  induction l using snocInd with
  | h0 => intro e he; cases he
  | hs l x ih =>
    intro e he hi
    rw [highB_snoc]
    rcases List.mem_append.1 he with he | he
    · have := ih e he hi
      split <;> omega
    · rw [List.mem_singleton] at he; subst he; rw [if_pos hi]; omega
theorem nextB_above (l : List Ent) (i num : Int) (h : ∀ e ∈ l, e.id = i → e.num < num) : nextB l i num = 0 := by
  induction l using snocInd with
  | h0 => rfl
  | hs l x ih =>
    rw [nextB_snoc, if_neg, ih (fun e he => h e (by simp [he]))]
    rintro ⟨h1, h2, -⟩
    have := h x (by simp) h1
    omega
theorem otherB_iff {l : List Ent} (hk : ∀ e ∈ l, 1 ≤ e.kind) (i num : Int) : otherB (opensB l i) num = true ↔ ∃ n, ((wrOf l i).opens n).isSome = true ∧ n ≠ num := by
  unfold otherB
  rw [List.any_eq_true]
  constructor
  · rintro ⟨o, ho, hne⟩
    exact ⟨o.num, Option.isSome_iff_exists.2 ⟨o.first, (opens_iff hk i o.num o.first).2 ho⟩, by simpa using hne⟩
  · rintro ⟨n, hn, hne⟩
    obtain ⟨f, hf⟩ := Option.isSome_iff_exists.1 hn
    exact ⟨⟨n, f⟩, (opens_iff hk i n f).1 hf, by simpa using hne⟩
theorem wrNo_data {H N M nx : Int} {O : Bool} {e : Ent} (hk : ¬ 1 < e.kind) (hnx : ¬ e.num < H → nx = if e.num = H then N else 0) :
    wrNo H N M O e = if (decide (e.num ≤ M) || decide (e.num < H)) = true then 181 else if O = true then 182 else if decide (e.seq < nx) = true then 183 else if decide (nx < e.seq) = true then 184 else 0 := by
  unfold wrNo
  rw [if_neg hk]
  by_cases h1 : e.num ≤ M
  · rw [if_pos h1, if_pos (by simp [h1])]
  · rw [if_neg h1]
    by_cases h2 : e.num < H
    · rw [if_pos h2, if_pos (by simp [h2])]
    · have hd : ¬ ((decide (e.num ≤ M) || decide (e.num < H)) = true) := by simp [h1, h2]
      rw [if_neg h2, if_neg hd, hnx h2]
      cases O
      · simp only [Bool.false_eq_true, if_false, decide_eq_true_eq]
        by_cases h3 : e.num = H
        · simp only [if_pos h3]
        · simp only [if_neg h3]
      · rw [if_pos rfl, if_pos rfl]
theorem wrNo_mark {H N M : Int} {O : Bool} {e : Ent} (hk : 1 < e.kind) :
    wrNo H N M O e = if decide (e.num ≤ M) = true then 183 else if (decide (e.num < H) || O) = true then 181 else 0 := by
  unfold wrNo
  rw [if_pos hk]
  by_cases h1 : e.num ≤ M
  · simp [h1]
  · by_cases h2 : e.num < H
    · simp [h1, h2]
    · cases O <;> simp [h1, h2]
theorem tabCheck_calls {b : Nat} {w : World} {F : Nat → Prop} {l : List Ent} (h : Tab w b F l) (hok : ofNo l = 0) (e : Ent) : Pure Try.prog 49 #[.pointer (some ⟨b, 0, none⟩), e.v] w (.int .i64 (checkNo l e)) := by
  obtain ⟨u, mb, g, h, hF⟩ := h
  have hS := h.seen
  by_cases hno : appendNo l e = 0
  · by_cases hid : e.id < 0
    · have hck : checkNo l e = 0 := by unfold checkNo; rw [if_neg (by simpa using hno), if_pos hid]
      rw [hck]
      have HS := Lib.hid hS
      have HNO := Lib.hid hno
      clear h hF hS hno hck
      refine Fn_of Try.func49 rfl (Nat.le_of_ble_eq_true rfl) ?_; intro A hd hA; simp only [ix, Nat.reduceAdd]; replace hA : A.tmps.size = 41 := hA
      repeat' (first | refine X_pure Try.func76 (HNO.out ▸ may_calls (HS.out.later (by simp)) e) ?_ | refine X_gpure Try.func76 (fun _ => HNO.out ▸ may_calls (HS.out.later (by simp)) e) ?_ | (refine W_scope ?_) | refine X_gt ?_ | refine X_q ?_ | refine X_g ?_ | refine X_gf ?_ | refine X_niln ?_ | refine X_nil ?_ | (refine X_var (fun yn bn hn1 hn2 hn3 hn4 hn5 => ?_)) | refine W_seqk (fun K hK => ?_) | refine W_seqr ?_ | refine W_ret ?_ | refine W_skip ?_ | refine W_block ?_ | refine W_exit ?_ | (refine X_s (fun x K hK => ?_); go_simp; refine hK _ _ (Ext.alloc _ _) ?_; clear hK K; refine X_al x ?_; generalize (World.later _ x).heap.size = bn; intro yn hn1 hn2 hn3 hn4 hn5; clear x) | refine W_tt ?_ | refine W_ff ?_ | refine W_test (fun hc => ?_) (fun hc => ?_) | go_step)
      exact Body_ret hd ⟨rfl, by simp⟩
    · have hrb := right_bounds (of_no hno).1
      obtain ⟨i, hi⟩ : ∃ i : Nat, e.id = i := ⟨e.id.toNat, by omega⟩
      have hi4 : i < 4 := by omega
      have hat : WrAt w b (1 + i * 5) (wrOf l i) (mb i 0) (mb i 1) :=
        ⟨h.blk.lt, (h.blk.cell (by omega)).trans (by rw [h.high i hi4]), (h.blk.cell (by omega)).trans (by rw [h.marked i hi4]), (h.blk.cell (by omega)).trans (by rw [h.next i hi4]), (h.blk.cell (by omega)).trans (by rw [h.opens i hi4]), h.mnext i hi4, h.mopens i hi4⟩
      have hkd := kinds_of hok
      have hob := otherB_iff hkd i e.num
      have hck : checkNo l e = wrNo (wrOf l i).high (nextB l i (wrOf l i).high) (wrOf l i).marked (otherB (opensB l i) e.num) e := by
        unfold checkNo; rw [if_neg (by simpa using hno), if_neg hid, hi, wr_high, wr_marked l i hkd]
      have hnx : ¬ e.num < (wrOf l i).high → ((wrOf l i).next e.num).getD 0 = if e.num = (wrOf l i).high then nextB l i (wrOf l i).high else 0 := by
        intro hlt
        rw [wr_next]
        split
        · rename_i hh; rw [hh]
        · rename_i hh
          refine nextB_above l i e.num fun x hx hxi => ?_
          have := nums_high l i x hx hxi
          rw [wr_high] at hlt hh
          omega
      generalize hO : otherB (opensB l i) e.num = ob at *
      by_cases hk : e.kind = 1
      · have hkb : (e.kind == 1) = true := by simp [hk]
        rw [wrNo_data (by omega) hnx] at hck
        refine check_core hS e hno hi hi4 hat (fun k => match k with | 0 => (decide (e.num ≤ (wrOf l i).marked) || decide (e.num < (wrOf l i).high)) | 1 => ob | 2 => decide (e.seq < ((wrOf l i).next e.num).getD 0) | _ => decide (((wrOf l i).next e.num).getD 0 < e.seq)) _ ?_ ?_ ?_
        · rw [hkb]
          intro k p hp
          match k, hp with
          | 0, hp => cases hp; exact ⟨by decide, ⟨_, Try.func100, by kernel_rfl⟩, fun w' hE => why100 (hat.later hE) e⟩
          | 1, hp => cases hp; exact ⟨by decide, ⟨_, Try.func101, by kernel_rfl⟩, fun w' hE => why101 (hat.later hE) e ob hob⟩
          | 2, hp => cases hp; exact ⟨by decide, ⟨_, Try.func102, by kernel_rfl⟩, fun w' hE => why102 (hat.later hE) e⟩
          | 3, hp => cases hp; exact ⟨by decide, ⟨_, Try.func103, by kernel_rfl⟩, fun w' hE => why103 (hat.later hE) e⟩
        · rw [hkb, hck]
          intro k p hp hj hc
          match k, hp with
          | 0, hp => cases hp; exact if_pos hc
          | 1, hp => cases hp; have c0 := hj 0 (by omega); simp only at c0 hc; rw [if_neg (by simp [c0]), if_pos hc]
          | 2, hp => cases hp; have c0 := hj 0 (by omega); have c1 := hj 1 (by omega); simp only at c0 c1 hc; rw [if_neg (by simp [c0]), if_neg (by simp [c1]), if_pos hc]
          | 3, hp => cases hp; have c0 := hj 0 (by omega); have c1 := hj 1 (by omega); have c2 := hj 2 (by omega); simp only at c0 c1 c2 hc; rw [if_neg (by simp [c0]), if_neg (by simp [c1]), if_neg (by rw [c2]; simp), if_pos hc]
        · rw [hkb, hck]
          intro hj
          have c0 := hj 0 (by simp [rules]); have c1 := hj 1 (by simp [rules]); have c2 := hj 2 (by simp [rules]); have c3 := hj 3 (by simp [rules]); simp only at c0 c1 c2 c3
          rw [if_neg (by simp [c0]), if_neg (by simp [c1]), if_neg (by rw [c2]; simp), if_neg (by rw [c3]; simp)]
      · have hkb : (e.kind == 1) = false := by simp [hk]
        rw [wrNo_mark (by omega)] at hck
        refine check_core hS e hno hi hi4 hat (fun k => match k with | 0 => decide (e.num ≤ (wrOf l i).marked) | _ => (decide (e.num < (wrOf l i).high) || ob)) _ ?_ ?_ ?_
        · rw [hkb]
          intro k p hp
          match k, hp with
          | 0, hp => cases hp; exact ⟨by decide, ⟨_, Try.func97, by kernel_rfl⟩, fun w' hE => why97 (hat.later hE) e⟩
          | 1, hp => cases hp; exact ⟨by decide, ⟨_, Try.func98, by kernel_rfl⟩, fun w' hE => why98 (hat.later hE) e ob hob⟩
        · rw [hkb, hck]
          intro k p hp hj hc
          match k, hp with
          | 0, hp => cases hp; exact if_pos hc
          | 1, hp => cases hp; have c0 := hj 0 (by omega); simp only at c0 hc; rw [if_neg (by rw [c0]; simp), if_pos hc]
        · rw [hkb, hck]
          intro hj
          have c0 := hj 0 (by simp [rules]); have c1 := hj 1 (by simp [rules]); simp only at c0 c1
          rw [if_neg (by rw [c0]; simp), if_neg (by simp [c1])]
  · have hck : checkNo l e = appendNo l e := by unfold checkNo; rw [if_pos hno]
    rw [hck]
    have HS := Lib.hid hS
    have HM := Lib.hid (fun w' (hE : Ext w w') => may_calls (hS.later hE) e)
    clear h hF hS hck
    generalize appendNo l e = no at *
    refine Fn_of Try.func49 rfl (Nat.le_of_ble_eq_true rfl) ?_; intro A hd hA; simp only [ix, Nat.reduceAdd]; replace hA : A.tmps.size = 41 := hA
    repeat' (first | refine X_pure Try.func76 (HM.out _ (by simp)) ?_ | refine X_gpure Try.func76 (fun _ => HM.out _ (by simp)) ?_ | (refine W_scope ?_) | refine X_gt ?_ | refine X_q ?_ | refine X_g ?_ | refine X_gf ?_ | refine X_niln ?_ | refine X_nil ?_ | (refine X_var (fun yn bn hn1 hn2 hn3 hn4 hn5 => ?_)) | refine W_seqk (fun K hK => ?_) | refine W_seqr ?_ | refine W_ret ?_ | refine W_skip ?_ | refine W_block ?_ | refine W_exit ?_ | (refine X_s (fun x K hK => ?_); go_simp; refine hK _ _ (Ext.alloc _ _) ?_; clear hK K; refine X_al x ?_; generalize (World.later _ x).heap.size = bn; intro yn hn1 hn2 hn3 hn4 hn5; clear x) | refine W_tt ?_ | refine W_ff ?_ | refine W_test (fun hc => ?_) (fun hc => ?_) | go_step)
    exact Body_ret hd ⟨rfl, by simp⟩
end Go.Ws
