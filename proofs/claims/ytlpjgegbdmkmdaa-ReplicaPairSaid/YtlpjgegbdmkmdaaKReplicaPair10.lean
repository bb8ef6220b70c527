/- Lemmas for the statement ReplicaPair (joined texts); no condition. -/
import Derived.Test.YtlpjgegbdmkmdaaKReplicaPair09
namespace Go.Ws
open Go Go.RowKit Go.Proofs
set_option linter.unusedVariables false

theorem appendNo_zero {l : List Ent} {e : Ent} : appendNo l e = 0 ↔ rightB e = true ∧ l.length < 4096 ∧ lastEp l e = false := by
  unfold appendNo
  constructor
  · intro h
    split at h
    · cases h
    · rename_i h1
      split at h
      · cases h
      · rename_i h2
        split at h
        · cases h
        · rename_i h3
          exact ⟨by simpa using h1, by omega, by simpa using h3⟩
  · rintro ⟨h1, h2, h3⟩
    rw [if_neg (by simp [h1]), if_neg (by omega), if_neg (by simp [h3])]
theorem ofNo_app {l : List Ent} {e : Ent} : ofNo (l ++ [e]) = 0 ↔ ofNo l = 0 ∧ appendNo l e = 0 := by
  have key : ofNo l = 0 → ofNo (l ++ [e]) = if appendNo l e = 0 then 0 else appendNo l e := fun h => by
    unfold ofNo at *
    rw [ofFrom_append l [e] [] h]
    simp [ofFrom]
  constructor
  · intro h
    have h1 : ofNo l = 0 := by have := ofNo_take h l.length; simpa using this
    rw [key h1] at h
    refine ⟨h1, ?_⟩
    split at h
    · assumption
    · exact h
  · rintro ⟨h, h2⟩
    rw [key h, if_pos h2]
theorem mayFrom_snoc (e : Ent) : ∀ (l : List Ent) (p : Int), mayFrom p (l ++ [e]) = (mayFrom p l && decide ((l.getLast?.map (·.ep)).getD p ≤ e.ep) && decide (e.ep ≤ 2147483647))
  | [], p => by simp only [List.nil_append, mayFrom, Bool.and_true, Bool.true_and]; rfl
  | x :: xs, p => by
    rw [List.cons_append, mayFrom_cons, mayFrom_cons, mayFrom_snoc e xs x.ep]
    have : ((x :: xs).getLast?.map (·.ep)).getD p = (xs.getLast?.map (·.ep)).getD x.ep := by
      cases xs with
      | nil => rfl
      | cons y ys => rw [List.getLast?_cons_cons]; cases h : (y :: ys).getLast? with
        | none => simp at h
        | some z => rfl
    rw [this]
    simp only [Bool.and_assoc]
theorem snoc_ind {α : Type} {P : List α → Prop} (h0 : P []) (h1 : ∀ l e, P l → P (l ++ [e])) (l : List α) : P l := by
  have key : ∀ r : List α, P r.reverse := by
    intro r
    induction r with
    | nil => exact h0
    | cons x r ih => rw [List.reverse_cons]; exact h1 _ _ ih
  have := key l.reverse
  rwa [List.reverse_reverse] at this
theorem ofNo_all : ∀ (l : List Ent), ofNo l = 0 → (∀ e ∈ l, rightB e = true) ∧ mayFrom 1 l = true ∧ l.length ≤ 4096 := by
  refine snoc_ind ?_ ?_
  · intro _; exact ⟨by simp, rfl, by simp⟩
  · intro l e ih h
    obtain ⟨h1, h2⟩ := ofNo_app.1 h
    obtain ⟨i1, i2, i3⟩ := ih h1
    obtain ⟨a1, a2, a3⟩ := appendNo_zero.1 h2
    refine ⟨?_, ?_, by simp; omega⟩
    · intro x hx
      rw [List.mem_append, List.mem_singleton] at hx
      rcases hx with hx | rfl
      · exact i1 x hx
      · exact a1
    · rw [mayFrom_snoc, i2, Bool.true_and, Bool.and_eq_true, decide_eq_true_eq, decide_eq_true_eq]
      have hr := a1
      simp only [rightB, Bool.and_eq_true] at hr
      have hep := hr.1.1.1.1.1.1.1.1.1
      simp only [inB, Bool.and_eq_true, decide_eq_true_eq] at hep
      refine ⟨?_, hep.2⟩
      unfold lastEp at a3
      cases hl : l.getLast? with
      | none => simp; exact hep.1
      | some x => rw [hl] at a3; simp at a3; simpa using a3
theorem ofNo_may {l : List Ent} (h : ofNo l = 0) : mayE l = true := by
  obtain ⟨h1, h2, h3⟩ := ofNo_all l h
  unfold mayE
  rw [h2, Bool.true_and, decide_eq_true_eq]; omega
theorem ofNo_len {l : List Ent} (h : ofNo l = 0) : l.length ≤ 4096 := (ofNo_all l h).2.2
theorem lastE_snoc (l : List Ent) (e : Ent) : lastE (l ++ [e]) = e.ep := by unfold lastE; simp
theorem lastEp_of {l : List Ent} {e : Ent} (h0 : 1 ≤ e.ep) : lastEp l e = decide (e.ep < lastE l) := by
  unfold lastEp lastE
  cases l.getLast? with
  | none => simp; omega
  | some x => rfl
theorem rightB_ep {e : Ent} (h : rightB e = true) : 1 ≤ e.ep ∧ e.ep ≤ 2147483647 := by
  simp only [rightB, Bool.and_eq_true] at h
  have hep := h.1.1.1.1.1.1.1.1.1
  simp only [inB, Bool.and_eq_true, decide_eq_true_eq] at hep
  exact hep
theorem ofNo_ents : ∀ (es : List Ent) (l : List Ent), ofNo l = 0 → entsFrom (lastE l) es = true → l.length + es.length ≤ 4096 → ofNo (l ++ es) = 0
  | [], l, h, _, _ => by simpa using h
  | x :: xs, l, h, he, hl => by
    rw [entsFrom_cons] at he
    simp only [Bool.and_eq_true, decide_eq_true_eq] at he
    obtain ⟨⟨h1, h2⟩, h3⟩ := he
    simp only [List.length_cons] at hl
    have hx : appendNo l x = 0 := appendNo_zero.2 ⟨h2, by omega, by rw [lastEp_of (rightB_ep h2).1]; simp; omega⟩
    have := ofNo_ents xs (l ++ [x]) (ofNo_app.2 ⟨h, hx⟩) (by rw [lastE_snoc]; exact h3) (by simp; omega)
    simpa using this

/-- What holds of each replica at each time. -/
structure RepS.Good (s : RepS) : Prop where
  ok : ofNo s.log = 0
  self : inB s.self 0 3 = true
  least : inB s.least 1 4 = true
  role : s.role = 1 ∨ s.role = 2 ∨ s.role = 3
  epoch : 0 ≤ s.epoch ∧ s.epoch ≤ 2147483647
  fl : 0 ≤ s.flushed ∧ s.flushed ≤ s.log.length
  hi : 0 ≤ s.high ∧ s.high ≤ s.log.length
  isr : brokersB s.isr = true
  cts : brokersB s.counts = true
theorem RepS.Good.may {s : RepS} (h : s.Good) : mayE s.log = true := ofNo_may h.ok
theorem RepS.Good.len {s : RepS} (h : s.Good) : s.log.length ≤ 4096 := ofNo_len h.ok
theorem RepS.Good.ne {s : RepS} (h : s.Good) : s.least ≠ 0 := by have := h.least; simp [inB] at this; omega
theorem RepS.Good.bks {s : RepS} (h : s.Good) : Bks s.counts := brokersB_bks h.cts
theorem RepS.Good.ilen {s : RepS} (h : s.Good) : s.isr.length ≤ 4 ∧ s.counts.length ≤ 4 := ⟨brokersB_len h.isr, brokersB_len h.cts⟩
theorem good_init {self least : Int} (h : rightNew self least = true) : (RepS.init self least).Good := by
  simp only [rightNew, Bool.and_eq_true] at h
  exact ⟨rfl, h.1, h.2, .inl rfl, by simp [RepS.init], by simp [RepS.init], by simp [RepS.init], rfl, rfl⟩
theorem leastOf_le (self : Int) (known : Nat → Int) (l : List Int) : ∀ n : Int, leastOf self known l n ≤ n := by
  induction l with
  | nil => intro n; exact Int.le_refl _
  | cons b l ih =>
    intro n
    unfold leastOf at *
    rw [List.foldl_cons]
    refine Int.le_trans (ih _) ?_
    split
    · exact Int.le_refl _
    · rw [gmin_eq]; omega
/-- The high watermark behind a count. -/
theorem count_high (s : RepS) : s.high ≤ s.count.high ∧ (s.count.high ≤ s.high ∨ s.count.high ≤ s.flushed) := by
  unfold RepS.count
  split
  · have := leastOf_le s.self s.known s.counts s.flushed
    simp only [gmax_eq]
    omega
  · exact ⟨Int.le_refl _, .inl (Int.le_refl _)⟩
theorem count_isr (s : RepS) : s.count.isr = s.isr ∧ s.count.counts = s.counts ∧ s.count.version = s.version ∧ s.count.beg = s.beg ∧ s.count.known = s.known := by unfold RepS.count; split <;> exact ⟨rfl, rfl, rfl, rfl, rfl⟩
theorem good_count {s : RepS} (h : s.Good) : s.count.Good := by
  obtain ⟨a1, a2, a3, a4, a5, a6⟩ := count_log s
  obtain ⟨b1, b2, -⟩ := count_isr s
  obtain ⟨c1, c2⟩ := count_high s
  have h1 := h.hi
  have h2 := h.fl
  refine ⟨by rw [a1]; exact h.ok, by rw [a3]; exact h.self, by rw [a4]; exact h.least, by rw [a6]; exact h.role, by rw [a2]; exact h.epoch, by rw [a5, a1]; exact h.fl, ?_, by rw [b1]; exact h.isr, by rw [b2]; exact h.cts⟩
  rw [a1]
  rcases c2 with c2 | c2 <;> omega
theorem good_flush {s : RepS} (h : s.Good) : s.flush.Good := by
  unfold RepS.flush
  exact good_count ⟨h.ok, h.self, h.least, h.role, h.epoch, ⟨by simp, by simp⟩, h.hi, h.isr, h.cts⟩
theorem good_app {s : RepS} (h : s.Good) (e : Ent) : (s.app e).Good := by
  unfold RepS.app
  split
  · rename_i h0
    have hc : checkNo s.log (s.sent e) = 0 := by
      unfold RepS.appNo at h0
      split at h0
      · cases h0
      · split at h0
        · cases h0
        · split at h0
          · cases h0
          · split at h0
            · rename_i hc; exact absurd h0 hc
            · rename_i hc; simpa using hc
    have ha : appendNo s.log (s.sent e) = 0 := by
      unfold checkNo at hc
      by_cases ha : appendNo s.log (s.sent e) = 0
      · exact ha
      · rw [if_pos ha] at hc; exact hc
    have hf := h.fl
    have hh := h.hi
    exact ⟨ofNo_app.2 ⟨h.ok, ha⟩, h.self, h.least, h.role, h.epoch, by simp; omega, by simp; omega, h.isr, h.cts⟩
  · exact h
theorem good_serve {s : RepS} (h : s.Good) (f : Fetch) (most : Int) : (s.serve f most).Good := by
  unfold RepS.serve
  split
  · exact h
  · split
    · exact good_count ⟨h.ok, h.self, h.least, h.role, h.epoch, h.fl, h.hi, h.isr, h.cts⟩
    · exact h
theorem good_take {s : RepS} (h : s.Good) (p : Reply) : (s.take p).Good := by
  have hf := h.fl
  have hh := h.hi
  unfold RepS.take
  split
  · exact h
  · rename_i h0
    have h0 : s.takeNo p = 0 := by simpa using h0
    split
    · have hc : 0 ≤ s.cutAt p ∧ s.cutAt p ≤ s.log.length := by
        unfold RepS.cutAt
        rw [gmax_eq, gmin_eq]
        have hab : aboveE s.log p.cutEpoch ≤ s.log.length := by unfold aboveE; exact (List.takeWhile_sublist _).length_le
        omega
      refine ⟨ofNo_take h.ok _, h.self, h.least, h.role, h.epoch, ?_, ?_, h.isr, h.cts⟩
      · simp only [List.length_take, gmin_eq]; omega
      · simp only [List.length_take, gmin_eq]; omega
    · rename_i hcut
      unfold RepS.takeNo at h0
      split at h0
      · cases h0
      · rename_i hr
        split at h0
        · cases h0
        · split at h0
          · cases h0
          · rename_i hfit
            split at h0
            · cases h0
            · rename_i hlen
              have hr : p.right = true := by simpa using hr
              have hfit : s.fitsNow p = true := by simpa using hfit
              simp only [Reply.right, Bool.and_eq_true] at hr
              simp only [RepS.fitsNow, Bool.and_eq_true, beq_iff_eq] at hfit
              have he := hr.1.1.1.1.1.1
              rw [hfit.2] at he
              refine ⟨ofNo_ents _ _ h.ok he (by omega), h.self, h.least, h.role, h.epoch, by simp; omega, ?_, h.isr, h.cts⟩
              simp only [List.length_append, gmax_eq, gmin_eq]; omega
theorem good_steps {s : RepS} (h : s.Good) {v : View} (hv : v.may = true) : (s.steps v).Good := by
  have hb : brokersB v.isr = true := by simp only [View.may, Bool.and_eq_true] at hv; exact hv.1.1.2
  exact ⟨h.ok, h.self, h.least, h.role, h.epoch, h.fl, h.hi, hb, hb⟩
theorem good_learn {s : RepS} (h : s.Good) (v : View) : (s.learn v).1.Good := by
  unfold RepS.learn
  split
  · rename_i hv
    have hv' := hv
    simp only [View.may, Bool.and_eq_true] at hv'
    have hve := hv'.1.1.1.1.2
    simp only [inB, Bool.and_eq_true, decide_eq_true_eq] at hve
    have hb := hv'.1.1.2
    have hturn : (s.turn v).Good := ⟨h.ok, h.self, h.least, .inr (.inl rfl), hve, h.fl, h.hi, rfl, rfl⟩
    split
    · exact h
    · split
      · unfold RepS.again
        split
        · split
          · exact good_count (good_steps h hv)
          · exact h
        · split
          · split
            · exact ⟨h.ok, h.self, h.least, .inr (.inl rfl), h.epoch, h.fl, h.hi, h.isr, h.cts⟩
            · exact h
          · exact h
      · simp only
        split
        · exact ⟨h.ok, h.self, h.least, .inl rfl, hve, h.fl, h.hi, rfl, rfl⟩
        · split
          · unfold RepS.lead
            exact good_count ⟨h.ok, h.self, h.least, .inr (.inr rfl), hve, h.fl, h.hi, hb, hb⟩
          · exact hturn
  · exact h
theorem good_crash {s : RepS} (h : s.Good) (keep : Int) : (s.crash keep).1.Good := by
  have hf := h.fl
  have hh := h.hi
  unfold RepS.crash
  split
  · exact h
  · refine ⟨ofNo_take h.ok _, h.self, h.least, .inl rfl, h.epoch, ?_, ?_, rfl, rfl⟩
    · simp only [List.length_take, gmin_eq]; omega
    · simp only [List.length_take, gmin_eq]; omega
end Go.Ws
namespace Go.Ws
open Go Go.RowKit Go.Proofs
set_option linter.unusedVariables false
set_option linter.unusedSimpArgs false

/-- A replica that was made since w, its blocks in F. -/
structure HR (w W : World) (b : Nat) (F : Nat → Prop) (s : RepS) : Prop where
  rep : Rep W b F s
  hi : ∀ k, F k → w.heap.size ≤ k ∧ k < W.heap.size
  ext : Ext w W
theorem HR.start {w W0 W : World} {b : Nat} {s : RepS} (hE : Ext w W0) (hE2 : Ext W0 W) (h : Rep W b (fun k => W0.heap.size ≤ k) s) : HR w W b (fun k => W0.heap.size ≤ k ∧ k < W.heap.size) s :=
  ⟨h.here, fun k hk => ⟨Nat.le_trans hE.size hk.1, hk.2⟩, Ext.trans hE hE2⟩
theorem HR.later {w W W' : World} {b : Nat} {F : Nat → Prop} {s : RepS} (h : HR w W b F s) (hE : Ext W W') : HR w W' b F s :=
  ⟨h.rep.later hE, fun k hk => ⟨(h.hi k hk).1, Nat.lt_of_lt_of_le (h.hi k hk).2 hE.size⟩, Ext.trans h.ext hE⟩
theorem HR.step {w W W' : World} {b : Nat} {F : Nat → Prop} {s s' : RepS} (h : HR w W b F s) (hM : Mod F W W') (hR : Rep W' b (fun k => F k ∨ W.heap.size ≤ k) s') :
    HR w W' b (fun k => (F k ∨ W.heap.size ≤ k) ∧ k < W'.heap.size) s' := by
  have hs := h.ext.size
  refine ⟨hR.here, fun k hk => ⟨?_, hk.2⟩, Ext.fresh h.ext hM (fun k hk => (h.hi k hk).1)⟩
  rcases hk.1 with h1 | h1
  · exact (h.hi k h1).1
  · omega
theorem HR.stepF {w W W' : World} {b : Nat} {F : Nat → Prop} {s s' : RepS} (h : HR w W b F s) (hM : Mod F W W') (hR : Rep W' b F s') : HR w W' b F s' :=
  ⟨hR, fun k hk => ⟨(h.hi k hk).1, Nat.lt_of_lt_of_le (h.hi k hk).2 hM.size⟩, Ext.fresh h.ext hM (fun k hk => (h.hi k hk).1)⟩
/-- Another replica's step. -/
theorem HR.beside {w W W' : World} {b : Nat} {F G : Nat → Prop} {s : RepS} (h : HR w W b F s) (hM : Mod G W W') (hG : ∀ k, G k → w.heap.size ≤ k) (hFG : ∀ k, F k → ¬ G k) : HR w W' b F s :=
  ⟨h.rep.mod hM hFG, fun k hk => ⟨(h.hi k hk).1, Nat.lt_of_lt_of_le (h.hi k hk).2 hM.size⟩, Ext.fresh h.ext hM hG⟩
/-- A list that is read stays. -/
theorem HR.keeps {α : Type} {enc : α → List Value} {k : Nat} {w W W' : World} {b : Nat} {F : Nat → Prop} {s : RepS} {u : Value} {xs : List α} (h : HR w W b F s) (hM : Mod F W W') (hu : Rd enc k W u xs) (hne : ∀ k, u.ownBlock = some k → ¬ F k) : Rd enc k W' u xs := hu.mod hM hne
theorem HR.old {w W : World} {b : Nat} {F : Nat → Prop} {s : RepS} (h : HR w W b F s) {k : Nat} (hk : k < w.heap.size) : ¬ F k := fun hf => by have := (h.hi k hf).1; omega
theorem HR.new {w W : World} {b : Nat} {F : Nat → Prop} {s : RepS} (h : HR w W b F s) {k : Nat} (hk : W.heap.size ≤ k) : ¬ F k := fun hf => by have := (h.hi k hf).2; omega
end Go.Ws
namespace Go.Ws
open Go Go.RowKit Go.Proofs
set_option maxHeartbeats 2000000
set_option maxRecDepth 100000
set_option linter.unusedVariables false
set_option linter.unusedSimpArgs false
set_option pp.deepTerms true
set_option pp.maxSteps 100000000

@[simp, go_sem] theorem field_high (a b c d e f g h i : Value) (w : World) : (Instr.field 56 (.agg #[a, b, c, d, e, f, g, h, i]) 4).run Try.prog w = .ok e w := by
  unfold Instr.field
  simp [Sem.run_bind, run_underlying Try.underlying56, part, Try.isAgg3, asAgg]
def kv : View := ⟨0, 1, 0, [0, 1]⟩
def ke : Ent := ⟨0, -1, 0, 0, 1, 7⟩
def kf : Fetch := ⟨1, 1, 1, 1, 1⟩
def k0 : RepS := RepS.init 0 1
def k1 : RepS := (k0.learn kv).1
def k2 : RepS := k1.app ke
def k3 : RepS := k2.flush
def k4 : RepS := k3.serve kf 4
theorem k0_good : k0.Good := good_init rfl
theorem k1_good : k1.Good := good_learn k0_good _
theorem k2_good : k2.Good := good_app k1_good _
theorem k3_good : k3.Good := good_flush k2_good
theorem k4_good : k4.Good := good_serve k3_good _ _
theorem k_learn : (k0.learn kv).2 = 0 := by decide
theorem k_app : k1.appNo ke = 0 := by decide
theorem k_high3 : k3.stand.high = 0 := by decide
theorem k_serve : k3.serveNo kf 4 = 0 := by decide
theorem k_high4 : k4.stand.high = 1 := by decide
theorem k_vis : k4.vis.length = 1 := by decide
theorem known11_calls {w : World} : Pure Try.prog 5 #[] w (.bool true) := by
  refine Fn_of Try.func5 rfl (Nat.le_of_ble_eq_true rfl) ?_; intro A hd hA; simp only [ix, Nat.reduceAdd]; replace hA : A.tmps.size = 69 := hA
  repeat' (first | refine X_gt ?_ | refine X_q ?_ | refine X_g ?_ | refine X_gf ?_ | refine X_niln ?_ | refine X_nil ?_ | (refine X_var (fun yn bn hn1 hn2 hn3 hn4 hn5 => ?_)) | refine W_seqk (fun K hK => ?_) | refine W_seqr ?_ | refine W_ret ?_ | refine W_skip ?_ | refine W_block ?_ | refine W_exit ?_ | (refine X_s (fun x K hK => ?_); go_simp; refine hK _ _ (Ext.alloc _ _) ?_; clear hK K; refine X_al x ?_; generalize (World.later _ x).heap.size = bn; intro yn hn1 hn2 hn3 hn4 hn5; clear x) | refine W_tt ?_ | refine W_ff ?_ | refine W_test (fun hc => ?_) (fun hc => ?_) | go_step)
  refine X_ret Try.func6 (repNew_ok 0 1 rfl) (fun r w1 hR => ?_)
  obtain ⟨b, rfl, hE1, -, hR1⟩ := hR
  have HH1 := Lib.hid (HR.start (Ext.refl w) hE1 hR1)
  clear hE1 hR1
  repeat' (first | refine X_gt ?_ | refine X_q ?_ | refine X_g ?_ | refine X_gf ?_ | refine X_niln ?_ | refine X_nil ?_ | (refine X_var (fun yn bn hn1 hn2 hn3 hn4 hn5 => ?_)) | refine W_seqk (fun K hK => ?_) | refine W_seqr ?_ | refine W_ret ?_ | refine W_skip ?_ | refine W_block ?_ | refine W_exit ?_ | (refine X_s (fun x K hK => ?_); go_simp; refine hK _ _ (Ext.alloc _ _) ?_; clear hK K; refine X_al x ?_; generalize (World.later _ x).heap.size = bn; intro yn hn1 hn2 hn3 hn4 hn5; clear x) | refine W_tt ?_ | refine W_ff ?_ | refine W_test (fun hc => ?_) (fun hc => ?_) | go_step)
  have hr2 : RdI (w1.later yn) (.slice (some ⟨bn, 0, none⟩) 2 2) [0, 1] := (Own.lit w1 yn (enc := ics) (k := 1) (fun _ => rfl) _ [0, 1] rfl hn5.out (by unfold maxLen; decide)).rd (fun _ => rfl)
  have hne2 : ¬ (fun k => w.heap.size ≤ k ∧ k < w1.heap.size) bn := fun h => by omega
  refine X_ret Try.func8 (learn_calls (x := kv) (HH1.out.later yn.ext).rep k0_good.ne ⟨_, rfl, hr2⟩ (fun a b c u hu k hk => by cases hu; cases hk; exact hne2)) (fun r w2 hR => ?_)
  obtain ⟨rfl, hM, hR2⟩ := hR
  have HH2 := Lib.hid ((HH1.out.later yn.ext).step hM hR2)
  clear hM hR2 hr2 hne2 hn1 hn2 hn3 hn4 hn5
  rw [show (RepS.learn (RepS.init 0 1) kv).2 = 0 from k_learn]
  rw [show (RepS.learn (RepS.init 0 1) kv).1 = k1 from rfl] at HH2
  obtain ⟨F2, hF2⟩ : ∃ F, HR w w2 b F k1 := ⟨_, HH2.out⟩
  have HF2 := Lib.hid hF2
  clear HH2 hF2 HH1 yn
  repeat' (first | refine X_gt ?_ | refine X_q ?_ | refine X_g ?_ | refine X_gf ?_ | refine X_niln ?_ | refine X_nil ?_ | (refine X_var (fun yn bn hn1 hn2 hn3 hn4 hn5 => ?_)) | refine W_seqk (fun K hK => ?_) | refine W_seqr ?_ | refine W_ret ?_ | refine W_skip ?_ | refine W_block ?_ | refine W_exit ?_ | (refine X_s (fun x K hK => ?_); go_simp; refine hK _ _ (Ext.alloc _ _) ?_; clear hK K; refine X_al x ?_; generalize (World.later _ x).heap.size = bn; intro yn hn1 hn2 hn3 hn4 hn5; clear x) | refine W_tt ?_ | refine W_ff ?_ | refine W_test (fun hc => ?_) (fun hc => ?_) | go_step)
  refine X_ret Try.func9 (append_rep HF2.out.rep k1_good.ne k1_good.ok k1_good.len ke) (fun r w3 hR => ?_)
  obtain ⟨rfl, hM, hR3⟩ := hR
  have hF3 := HF2.out.step hM hR3
  rw [k_app]
  obtain ⟨F3, hF3⟩ : ∃ F, HR w w3 b F k2 := ⟨_, hF3⟩
  have HF3 := Lib.hid hF3
  clear hF3 HF2 hM hR3
  repeat' (first | refine X_gt ?_ | refine X_q ?_ | refine X_g ?_ | refine X_gf ?_ | refine X_niln ?_ | refine X_nil ?_ | (refine X_var (fun yn bn hn1 hn2 hn3 hn4 hn5 => ?_)) | refine W_seqk (fun K hK => ?_) | refine W_seqr ?_ | refine W_ret ?_ | refine W_skip ?_ | refine W_block ?_ | refine W_exit ?_ | (refine X_s (fun x K hK => ?_); go_simp; refine hK _ _ (Ext.alloc _ _) ?_; clear hK K; refine X_al x ?_; generalize (World.later _ x).heap.size = bn; intro yn hn1 hn2 hn3 hn4 hn5; clear x) | refine W_tt ?_ | refine W_ff ?_ | refine W_test (fun hc => ?_) (fun hc => ?_) | go_step)
  refine X_ret Try.func10 (flush_calls HF3.out.rep k2_good.ne k2_good.bks) (fun r w4 hR => ?_)
  obtain ⟨rfl, hM, hR4⟩ := hR
  have hF4 : HR w w4 b F3 k3 := HF3.out.stepF hM hR4
  have HF4 := Lib.hid hF4
  clear hF4 HF3 hM hR4
  repeat' (first | refine X_gt ?_ | refine X_q ?_ | refine X_g ?_ | refine X_gf ?_ | refine X_niln ?_ | refine X_nil ?_ | (refine X_var (fun yn bn hn1 hn2 hn3 hn4 hn5 => ?_)) | refine W_seqk (fun K hK => ?_) | refine W_seqr ?_ | refine W_ret ?_ | refine W_skip ?_ | refine W_block ?_ | refine W_exit ?_ | (refine X_s (fun x K hK => ?_); go_simp; refine hK _ _ (Ext.alloc _ _) ?_; clear hK K; refine X_al x ?_; generalize (World.later _ x).heap.size = bn; intro yn hn1 hn2 hn3 hn4 hn5; clear x) | refine W_tt ?_ | refine W_ff ?_ | refine W_test (fun hc => ?_) (fun hc => ?_) | go_step)
  refine X_ret Try.func16 (standing_rep HF4.out.rep k3_good.ne (by have := k3_good.ilen; omega) (by have := k3_good.ilen; omega)) (fun r w5 hR => ?_)
  obtain ⟨hE5, u1, u2, u3, hv, -⟩ := hR
  have hv' : r = .agg #[.int .i64 k3.stand.role, .int .i64 k3.stand.epoch, .int .i64 k3.stand.version, .int .i64 k3.stand.flushed, .int .i64 k3.stand.high, .int .i64 k3.stand.beg, u1, u2, u3] := hv
  clear hv
  subst hv'
  have HF5 := Lib.hid (HF4.out.later hE5)
  have h3 := k_high3
  clear HF4 hE5
  repeat' (first | refine X_gt ?_ | refine X_q ?_ | refine X_g ?_ | refine X_gf ?_ | refine X_niln ?_ | refine X_nil ?_ | (refine X_var (fun yn bn hn1 hn2 hn3 hn4 hn5 => ?_)) | refine W_seqk (fun K hK => ?_) | refine W_seqr ?_ | refine W_ret ?_ | refine W_skip ?_ | refine W_block ?_ | refine W_exit ?_ | (refine X_s (fun x K hK => ?_); go_simp; refine hK _ _ (Ext.alloc _ _) ?_; clear hK K; refine X_al x ?_; generalize (World.later _ x).heap.size = bn; intro yn hn1 hn2 hn3 hn4 hn5; clear x) | refine W_tt ?_ | refine W_ff ?_ | refine W_test (fun hc => ?_) (fun hc => ?_) | go_step)
  refine X_ret Try.func12 (serve_rep HF5.out.rep k3_good.ne k3_good.may k3_good.len k3_good.bks kf 4) (fun r w6 hR => ?_)
  obtain ⟨⟨u, rfl, hO, -⟩, hM, hR6⟩ := hR
  have hF6 := HF5.out.step hM hR6
  rw [k_serve]
  obtain ⟨F6, hF6⟩ : ∃ F, HR w w6 b F k4 := ⟨_, hF6⟩
  have HF6 := Lib.hid hF6
  obtain ⟨Au, mu, cu, rfl⟩ := own_slice hO
  clear hF6 HF5 hM hR6 hO
  have h4 := k_high4
  have h5 := k_vis
  repeat' (first | refine X_gt ?_ | refine X_q ?_ | refine X_g ?_ | refine X_gf ?_ | refine X_niln ?_ | refine X_nil ?_ | (refine X_var (fun yn bn hn1 hn2 hn3 hn4 hn5 => ?_)) | refine W_seqk (fun K hK => ?_) | refine W_seqr ?_ | refine W_ret ?_ | refine W_skip ?_ | refine W_block ?_ | refine W_exit ?_ | (refine X_s (fun x K hK => ?_); go_simp; refine hK _ _ (Ext.alloc _ _) ?_; clear hK K; refine X_al x ?_; generalize (World.later _ x).heap.size = bn; intro yn hn1 hn2 hn3 hn4 hn5; clear x) | refine W_tt ?_ | refine W_ff ?_ | refine W_test (fun hc => ?_) (fun hc => ?_) | go_step)
  have hE6 := yn.ext
  generalize World.later w6 yn = w7 at *
  clear hn1 hn2 hn3 hn4 hn5 yn
  have HF7 := Lib.hid (HF6.out.later hE6)
  clear HF6 hE6
  refine X_ret Try.func16 (standing_rep HF7.out.rep k4_good.ne (by have := k4_good.ilen; omega) (by have := k4_good.ilen; omega)) (fun r w8 hR => ?_)
  obtain ⟨hE8, u1, u2, u3, hv, -⟩ := hR
  have hv' : r = .agg #[.int .i64 k4.stand.role, .int .i64 k4.stand.epoch, .int .i64 k4.stand.version, .int .i64 k4.stand.flushed, .int .i64 k4.stand.high, .int .i64 k4.stand.beg, u1, u2, u3] := hv
  clear hv
  subst hv'
  have HF8 := Lib.hid (HF7.out.later hE8)
  clear HF7 hE8
  repeat' (first | refine X_gt ?_ | refine X_q ?_ | refine X_g ?_ | refine X_gf ?_ | refine X_niln ?_ | refine X_nil ?_ | (refine X_var (fun yn bn hn1 hn2 hn3 hn4 hn5 => ?_)) | refine W_seqk (fun K hK => ?_) | refine W_seqr ?_ | refine W_ret ?_ | refine W_skip ?_ | refine W_block ?_ | refine W_exit ?_ | (refine X_s (fun x K hK => ?_); go_simp; refine hK _ _ (Ext.alloc _ _) ?_; clear hK K; refine X_al x ?_; generalize (World.later _ x).heap.size = bn; intro yn hn1 hn2 hn3 hn4 hn5; clear x) | refine W_tt ?_ | refine W_ff ?_ | refine W_test (fun hc => ?_) (fun hc => ?_) | go_step)
  refine X_ret Try.func17 (visible_rep HF8.out.rep k4_good.ne k4_good.ok k4_good.len k4_good.hi.1 k4_good.hi.2) (fun r w9 hR => ?_)
  obtain ⟨hE9, hO, -⟩ := hR
  have hE : Ext w w9 := Ext.trans HF8.out.ext hE9
  obtain ⟨A9, c9, rfl, -⟩ := (hO.rd (enc := Ent.cs) (k := 6) (fun _ => rfl)).ent
  have HE := Lib.hid hE
  clear hO hE9 HF8 hE
  repeat' (first | refine X_gt ?_ | refine X_q ?_ | refine X_g ?_ | refine X_gf ?_ | refine X_niln ?_ | refine X_nil ?_ | (refine X_var (fun yn bn hn1 hn2 hn3 hn4 hn5 => ?_)) | refine W_seqk (fun K hK => ?_) | refine W_seqr ?_ | refine W_ret ?_ | refine W_skip ?_ | refine W_block ?_ | refine W_exit ?_ | (refine X_s (fun x K hK => ?_); go_simp; refine hK _ _ (Ext.alloc _ _) ?_; clear hK K; refine X_al x ?_; generalize (World.later _ x).heap.size = bn; intro yn hn1 hn2 hn3 hn4 hn5; clear x) | refine W_tt ?_ | refine W_ff ?_ | refine W_test (fun hc => ?_) (fun hc => ?_) | go_step)
  exact Body_ret hd ⟨rfl, HE.out⟩
end Go.Ws
namespace Go.Ws
open Go Go.RowKit Go.Proofs
set_option linter.unusedVariables false
set_option linter.unusedSimpArgs false

/-! ### A leader and a follower whose messages come at once meet -/
structure Duo (s t : RepS) : Prop where
  gs : s.Good
  gt : t.Good
  sr : s.role = 3
  tr : t.role = 2
  se : s.epoch = 300
  te : t.epoch = 300
  ss : s.self = 0
  ts : t.self = 1
  sc : s.counts = [0, 1]
  sf : s.flushed = s.log.length
  tf : t.flushed = t.log.length
  even : ∀ e ∈ s.log, e.ep % 2 = 0
/-- One round. -/
def rdS (m : Int) (s t : RepS) : RepS := s.serve t.asks m
def rdP (m : Int) (s t : RepS) : Reply := s.reply t.asks m
def rdT (m : Int) (s t : RepS) : RepS := (t.take (rdP m s t)).flush
theorem lastE_take {l : List Ent} {j : Nat} {e : Ent} (h : l[j]? = some e) : lastE (l.take (j + 1)) = e.ep := by rw [take_snoc h, lastE_snoc]
theorem lastE_nonneg {l : List Ent} (h : ofNo l = 0) : 0 ≤ lastE l := by
  unfold lastE
  cases hl : l.getLast? with
  | none => simp
  | some x =>
    have := (ofNo_all l h).1 x (List.mem_of_getLast? hl)
    have := (rightB_ep this).1
    simp; omega
theorem lastE_pos {l : List Ent} (h : ofNo l = 0) (hne : l ≠ []) : 1 ≤ lastE l ∧ ∃ e ∈ l, e.ep = lastE l := by
  unfold lastE
  cases hl : l.getLast? with
  | none => rw [List.getLast?_eq_none_iff] at hl; exact absurd hl hne
  | some x =>
    have hx := List.mem_of_getLast? hl
    have := (ofNo_all l h).1 x hx
    exact ⟨(rightB_ep this).1, x, hx, rfl⟩
section
variable {s t : RepS} {m : Int}
theorem Duo.serveNo (h : Duo s t) (hm : 1 ≤ m) : s.serveNo t.asks m = 0 := by
  have h1 := lastE_nonneg h.gt.ok
  have h2 := h.gt.fl
  have h3 := h.gt.epoch
  have hmay : s.fetchMay t.asks m = true := by
    unfold RepS.fetchMay RepS.asks
    simp only [h.ts, h.ss, h.tf, Bool.and_eq_true, decide_eq_true_eq]
    exact ⟨⟨⟨⟨⟨⟨⟨rfl, rfl⟩, h3.1⟩, by omega⟩, h1⟩, by omega⟩, by omega⟩, by omega⟩
  unfold RepS.serveNo
  rw [if_neg (by simp [hmay]), if_neg (by simp [h.sr]), if_neg (by simp [RepS.asks, h.se, h.te])]
theorem Duo.fits (s : RepS) (j : Nat) (hj : j ≤ s.log.length) : fitsE s.log j (lastE (s.log.take j)) = true := by
  unfold fitsE
  simp only [Int.toNat_natCast, beq_self_eq_true, Bool.and_true, decide_eq_true_eq]
  omega
theorem gmin_m (h1 : 1 ≤ m) (h4 : m ≤ 4) : (gmin m 4096).toNat = m.toNat := by rw [gmin_eq]; omega
theorem leastOf2 (known : Nat → Int) (n : Int) : leastOf 0 known [0, 1] n = gmin n (known 1) := by simp [leastOf]
/-- It fits: the follower has a beginning of the leader's log. -/
theorem Duo.step_in (h : Duo s t) (h1 : 1 ≤ m) (h4 : m ≤ 4) {j : Nat} (hj : j ≤ s.log.length) (ht : t.log = s.log.take j) :
    t.takeNo (rdP m s t) = 0 ∧ Duo (rdS m s t) (rdT m s t) ∧ (rdS m s t).log = s.log ∧ (rdT m s t).log = s.log.take (j + m.toNat) ∧
    (j = s.log.length → (rdS m s t).high = s.log.length ∧ (rdT m s t).high = s.log.length) := by
  have hno := h.serveNo h1
  have hlen : t.log.length = j := by rw [ht]; simp; omega
  have hfit : fitsE s.log t.asks.offset t.asks.last = true := by
    unfold RepS.asks
    simp only [hlen]
    rw [ht]; exact Duo.fits s j hj
  have hsv : rdS m s t = ({ s with known := setK s.known 1 (gmax (s.known 1) t.log.length) } : RepS).count := by
    unfold rdS RepS.serve
    rw [if_neg (by rw [hno]; decide), if_pos hfit]
    unfold RepS.asks
    simp only [h.ts, h.tf]
    rfl
  have hslog : (rdS m s t).log = s.log := by rw [hsv]; exact (count_log _).1
  have hrp : rdP m s t = ⟨300, j, lastE t.log, false, 0, 0, (s.log.drop j).take m.toNat, (rdS m s t).high⟩ := by
    unfold rdP RepS.reply
    rw [if_neg (by rw [hno]; decide), if_pos hfit, gmin_m h1 h4]
    have ho : t.asks.offset = (j : Int) := by unfold RepS.asks; rw [hlen]
    show Reply.mk s.epoch t.asks.offset t.asks.last false 0 0 ((s.log.drop t.asks.offset.toNat).take m.toNat) (rdS m s t).high = _
    rw [h.se, ho, Int.toNat_natCast]
    rfl
  have hen : ofNo (s.log.take (j + m.toNat)) = 0 := ofNo_take h.gs.ok _
  have hsplit : s.log.take (j + m.toNat) = t.log ++ (s.log.drop j).take m.toNat := by rw [ht, List.take_add]
  have hents : entsFrom (lastE t.log) ((s.log.drop j).take m.toNat) = true := by
    have key : ∀ (es l : List Ent), ofNo (l ++ es) = 0 → entsFrom (lastE l) es = true := by
      intro es
      induction es with
      | nil => intro l _; rfl
      | cons x xs ih =>
        intro l hl
        have e1 : l ++ x :: xs = (l ++ [x]) ++ xs := by simp
        rw [e1] at hl
        have h2 : ofNo (l ++ [x]) = 0 := by have := ofNo_take hl (l ++ [x]).length; rwa [List.take_left] at this
        obtain ⟨h3, h4⟩ := ofNo_app.1 h2
        obtain ⟨a1, a2, a3⟩ := appendNo_zero.1 h4
        rw [lastEp_of (rightB_ep a1).1] at a3
        have := ih (l ++ [x]) hl
        rw [lastE_snoc] at this
        rw [entsFrom_cons, a1, this]
        simp at a3
        simpa using a3
    exact key _ _ (hsplit ▸ hen)
  have hlast := lastE_nonneg h.gt.ok
  have hgs : (rdS m s t).Good := good_serve h.gs _ _
  have hright : (rdP m s t).right = true := by
    rw [hrp]
    unfold Reply.right
    simp only [hents, Bool.true_and, Bool.and_eq_true, decide_eq_true_eq]
    exact ⟨⟨⟨⟨⟨by omega, by omega⟩, hlast⟩, by omega⟩, by omega⟩, hgs.hi.1⟩
  have hfn : t.fitsNow (rdP m s t) = true := by
    rw [hrp]
    unfold RepS.fitsNow
    simp [h.te, hlen]
  have hcut : (rdP m s t).cut = false := by rw [hrp]
  have hel : (rdP m s t).entries.length ≤ s.log.length - j := by rw [hrp]; simp; omega
  have hsl := h.gs.len
  have hno2 : t.takeNo (rdP m s t) = 0 := by
    unfold RepS.takeNo
    rw [if_neg (by simp [hright]), if_neg (by simp [h.tr]), if_neg (by simp [hfn]), if_neg (by simp [hcut]), if_neg (by omega)]
  have htk : t.take (rdP m s t) = { t with log := t.log ++ (s.log.drop j).take m.toNat, high := gmax t.high (gmin (rdS m s t).high ((t.log.length + ((s.log.drop j).take m.toNat).length : Nat) : Int)) } := by
    unfold RepS.take
    rw [if_neg (by rw [hno2]; decide), if_neg (by simp [hcut]), hrp]
  have hgt : (rdT m s t).Good := good_flush (good_take h.gt _)
  have htr : (rdT m s t) = { t with log := s.log.take (j + m.toNat), flushed := (s.log.take (j + m.toNat)).length, high := gmax t.high (gmin (rdS m s t).high ((s.log.take (j + m.toNat)).length : Int)) } := by
    unfold rdT
    rw [htk]
    unfold RepS.flush RepS.count
    rw [if_neg (by simp [h.tr]), hsplit]
    simp
  have hsr : (rdS m s t).role = 3 ∧ (rdS m s t).epoch = 300 ∧ (rdS m s t).self = 0 ∧ (rdS m s t).counts = [0, 1] ∧ (rdS m s t).flushed = s.log.length := by
    rw [hsv]
    obtain ⟨a1, a2, a3, a4, a5, a6⟩ := count_log ({ s with known := setK s.known 1 (gmax (s.known 1) t.log.length) } : RepS)
    obtain ⟨b1, b2, -⟩ := count_isr ({ s with known := setK s.known 1 (gmax (s.known 1) t.log.length) } : RepS)
    exact ⟨a6.trans h.sr, a2.trans h.se, a3.trans h.ss, b2.trans h.sc, a5.trans h.sf⟩
  refine ⟨hno2, ⟨hgs, hgt, hsr.1, by rw [htr]; exact h.tr, hsr.2.1, by rw [htr]; exact h.te, hsr.2.2.1, by rw [htr]; exact h.ts, hsr.2.2.2.1, by rw [hslog]; exact hsr.2.2.2.2, by rw [htr], by rw [hslog]; exact h.even⟩, hslog, by rw [htr], fun hjn => ?_⟩
  have hh : (rdS m s t).high = s.log.length := by
    have h0 := hgs.hi.2
    rw [hslog] at h0
    have : (s.log.length : Int) ≤ (rdS m s t).high := by
      rw [hsv]
      unfold RepS.count
      rw [if_pos (by exact h.sr)]
      simp only [h.sc, h.ss, h.sf, leastOf2, setK, gmax_eq, gmin_eq, hlen, hjn]
      simp
      omega
    omega
  refine ⟨hh, ?_⟩
  rw [htr]
  have hf : (s.log.take (j + m.toNat)).length = s.log.length := by simp; omega
  have := h.gt.hi
  simp only [hh, hf, gmax_eq, gmin_eq]
  omega
/-- It does not fit: the follower's log gets less. -/
theorem Duo.step_out (h : Duo s t) (h1 : 1 ≤ m) (h4 : m ≤ 4) (hnf : fitsE s.log t.log.length (lastE t.log) = false) (hne : t.log ≠ []) :
    t.takeNo (rdP m s t) = 0 ∧ Duo (rdS m s t) (rdT m s t) ∧ (rdS m s t).log = s.log ∧ ∃ c, c < t.log.length ∧ (rdT m s t).log = t.log.take c := by
  have hno := h.serveNo h1
  have hpos : 1 ≤ t.log.length := by cases hl : t.log with
    | nil => exact absurd hl hne
    | cons x xs => simp
  have hfit : fitsE s.log t.asks.offset t.asks.last = false := hnf
  have hsv : rdS m s t = s := by
    unfold rdS RepS.serve
    rw [if_neg (by rw [hno]; decide), if_neg (by simp [hfit])]
  have hab : aboveE s.log (lastE t.log) ≤ s.log.length := by unfold aboveE; exact (List.takeWhile_sublist _).length_le
  have hrp : rdP m s t = ⟨300, t.log.length, lastE t.log, true, lastE (s.log.take (aboveE s.log (lastE t.log))), aboveE s.log (lastE t.log), [], s.high⟩ := by
    unfold rdP RepS.reply
    rw [if_neg (by rw [hno]; decide), if_neg (by simp [hfit])]
    unfold RepS.asks
    simp only [h.se]
  have hlast := lastE_nonneg h.gt.ok
  have hlast2 := lastE_nonneg (ofNo_take h.gs.ok (aboveE s.log (lastE t.log)))
  have hright : (rdP m s t).right = true := by
    rw [hrp]
    unfold Reply.right
    simp only [entsFrom, Bool.true_and, Bool.and_eq_true, decide_eq_true_eq]
    exact ⟨⟨⟨⟨⟨by omega, by omega⟩, hlast⟩, hlast2⟩, by omega⟩, h.gs.hi.1⟩
  have hfn : t.fitsNow (rdP m s t) = true := by
    rw [hrp]
    unfold RepS.fitsNow
    simp [h.te]
  have hcut : (rdP m s t).cut = true := by rw [hrp]
  have hno2 : t.takeNo (rdP m s t) = 0 := by
    unfold RepS.takeNo
    rw [if_neg (by simp [hright]), if_neg (by simp [h.tr]), if_neg (by simp [hfn]), if_pos hcut]
  have hc : 0 ≤ t.cutAt (rdP m s t) ∧ t.cutAt (rdP m s t) < t.log.length := by
    unfold RepS.cutAt
    rw [gmax_eq, gmin_eq]
    omega
  have htk : t.take (rdP m s t) = { t with log := t.log.take (t.cutAt (rdP m s t)).toNat, flushed := gmin t.flushed (t.cutAt (rdP m s t)), high := gmin t.high (t.cutAt (rdP m s t)) } := by
    unfold RepS.take
    rw [if_neg (by rw [hno2]; decide), if_pos hcut]
  have hgt : (rdT m s t).Good := good_flush (good_take h.gt _)
  have htr : (rdT m s t).log = t.log.take (t.cutAt (rdP m s t)).toNat ∧ (rdT m s t).role = 2 ∧ (rdT m s t).epoch = 300 ∧ (rdT m s t).self = 1 ∧ (rdT m s t).flushed = (t.log.take (t.cutAt (rdP m s t)).toNat).length := by
    unfold rdT
    rw [htk]
    unfold RepS.flush RepS.count
    rw [if_neg (by simp [h.tr])]
    exact ⟨rfl, h.tr, h.te, h.ts, rfl⟩
  refine ⟨hno2, ⟨by rw [hsv]; exact h.gs, hgt, by rw [hsv]; exact h.sr, htr.2.1, by rw [hsv]; exact h.se, htr.2.2.1, by rw [hsv]; exact h.ss, htr.2.2.2.1, by rw [hsv]; exact h.sc, by rw [hsv]; exact h.sf, by rw [htr.2.2.2.2, htr.1], by rw [hsv]; exact h.even⟩, by rw [hsv], _, ?_, htr.1⟩
  omega
end
/-- How far they are from meeting. -/
def Far (s t : RepS) (μ : Nat) : Prop :=
  (t.log = s.log ∧ s.high = s.log.length ∧ t.high = s.log.length) ∨
  (∃ j, j ≤ s.log.length ∧ t.log = s.log.take j ∧ s.log.length - j + 1 ≤ μ) ∨
  (∃ k O, k ≤ s.log.length ∧ t.log = s.log.take k ++ O ∧ O ≠ [] ∧ (∀ e ∈ O, e.ep % 2 = 1) ∧ t.log.length + s.log.length + 1 ≤ μ)
theorem far_step {s t : RepS} {m : Int} {μ : Nat} (h : Duo s t) (h1 : 1 ≤ m) (h4 : m ≤ 4) (hf : Far s t (μ + 1) ∨ Far s t 0) :
    t.takeNo (rdP m s t) = 0 ∧ Duo (rdS m s t) (rdT m s t) ∧ (rdS m s t).log = s.log ∧ (Far (rdS m s t) (rdT m s t) μ) := by
  have key : ∀ j, j ≤ s.log.length → t.log = s.log.take j → s.log.length - j + 1 ≤ μ + 1 ∨ j = s.log.length → t.takeNo (rdP m s t) = 0 ∧ Duo (rdS m s t) (rdT m s t) ∧ (rdS m s t).log = s.log ∧ (Far (rdS m s t) (rdT m s t) μ) := by
    intro j hj ht hμ
    obtain ⟨a1, a2, a3, a4, a5⟩ := h.step_in h1 h4 hj ht
    refine ⟨a1, a2, a3, ?_⟩
    by_cases hjn : j = s.log.length
    · left
      obtain ⟨b1, b2⟩ := a5 hjn
      exact ⟨by rw [a4, a3]; exact List.take_of_length_le (by omega), by rw [a3]; exact b1, by rw [a3]; exact b2⟩
    · right; left
      refine ⟨min (j + m.toNat) s.log.length, by rw [a3]; omega, ?_, by rw [a3]; omega⟩
      rw [a4, a3]
      rcases Nat.le_total (j + m.toNat) s.log.length with h' | h'
      · rw [Nat.min_eq_left h']
      · rw [Nat.min_eq_right h', List.take_of_length_le h', List.take_of_length_le (Nat.le_refl _)]
  have hin : ∀ ν, Far s t ν → (ν ≤ μ + 1) → t.takeNo (rdP m s t) = 0 ∧ Duo (rdS m s t) (rdT m s t) ∧ (rdS m s t).log = s.log ∧ (Far (rdS m s t) (rdT m s t) μ) := by
    intro ν hf hν
    rcases hf with ⟨d1, d2, d3⟩ | ⟨j, hj, ht, hμ⟩ | ⟨k, O, hk, ht, hO, hodd, hμ⟩
    · exact key s.log.length (Nat.le_refl _) (by rw [d1]; exact (List.take_of_length_le (Nat.le_refl _)).symm) (.inr rfl)
    · exact key j hj ht (.inl (by omega))
    · have hne : t.log ≠ [] := by rw [ht]; intro h; exact hO (List.append_eq_nil_iff.1 h).2
      have hol : ∃ e ∈ O, e.ep = lastE t.log := by
        rw [ht]
        unfold lastE
        rw [List.getLast?_append]
        cases hl : O.getLast? with
        | none => rw [List.getLast?_eq_none_iff] at hl; exact absurd hl hO
        | some x => exact ⟨x, List.mem_of_getLast? hl, rfl⟩
      obtain ⟨e, heO, hel⟩ := hol
      have hod : lastE t.log % 2 = 1 := by rw [← hel]; exact hodd e heO
      have hpos : 1 ≤ t.log.length := by cases hl : t.log with
        | nil => exact absurd hl hne
        | cons x xs => simp
      have hnf : fitsE s.log t.log.length (lastE t.log) = false := by
        cases hx : fitsE s.log t.log.length (lastE t.log) with
        | false => rfl
        | true =>
          exfalso
          unfold fitsE at hx
          simp only [Int.toNat_natCast, Bool.and_eq_true, decide_eq_true_eq, beq_iff_eq] at hx
          obtain ⟨x1, x2⟩ := hx
          have hne' : s.log.take t.log.length ≠ [] := by
            intro h0
            have := congrArg List.length h0
            rw [List.length_take, List.length_nil] at this; omega
          obtain ⟨_, y, hy, hye⟩ := lastE_pos (ofNo_take h.gs.ok t.log.length) hne'
          have := h.even y (List.mem_of_mem_take hy)
          rw [hye, x2] at this
          omega
      obtain ⟨a1, a2, a3, c, hc, a4⟩ := h.step_out h1 h4 hnf hne
      refine ⟨a1, a2, a3, ?_⟩
      have hcl : (t.log.take c).length = c := by rw [List.length_take]; exact Nat.min_eq_left (Nat.le_of_lt hc)
      right
      by_cases hck : c ≤ k
      · left
        have h5 : c ≤ (rdS m s t).log.length := by rw [a3]; exact Nat.le_trans hck hk
        have h6 : (rdS m s t).log.length - c + 1 ≤ μ := by rw [a3]; omega
        refine ⟨c, h5, ?_, h6⟩
        rw [a4, a3, ht, List.take_append_of_le_length (by simp; omega), List.take_take, Nat.min_eq_left hck]
      · right
        have hkl : (s.log.take k).length = k := by simp; omega
        refine ⟨k, O.take (c - k), by rw [a3]; exact hk, ?_, ?_, fun e he => hodd e (List.mem_of_mem_take he), by rw [a4, a3, hcl]; omega⟩
        · rw [a4, a3, ht, List.take_append, hkl, List.take_of_length_le (by rw [hkl]; omega)]
        · intro h0
          have := congrArg List.length h0
          have hol : t.log.length = k + O.length := by rw [ht]; simp; omega
          have hop : 0 < O.length := List.length_pos_iff.2 hO
          rw [List.length_take, List.length_nil] at this
          omega
  rcases hf with hf | hf
  · exact hin _ hf (Nat.le_refl _)
  · exact hin _ hf (by omega)
end Go.Ws
namespace Go.Ws
open Go Go.RowKit Go.Proofs
set_option linter.unusedVariables false
set_option linter.unusedSimpArgs false

def entAt (x : Int) (i : Nat) : Ent := ⟨x, -1, 0, 0, 1, i⟩
def entsAt (l : List Int) : List Ent := l.zipIdx.map fun p => entAt p.1 p.2
theorem entsAt_snoc (l : List Int) (x : Int) : entsAt (l ++ [x]) = entsAt l ++ [entAt x l.length] := by
  unfold entsAt; rw [List.zipIdx_append]; simp [entAt]
theorem entsAt_len (l : List Int) : (entsAt l).length = l.length := by simp [entsAt]
theorem entsAt_take : ∀ (l : List Int) (n : Nat), entsAt (l.take n) = (entsAt l).take n := by
  intro l n
  unfold entsAt
  rw [← List.map_take]
  congr 1
  apply List.ext_getElem?
  intro i
  rw [List.getElem?_take, List.getElem?_zipIdx, List.getElem?_zipIdx, List.getElem?_take]
  split <;> simp
/-- Epochs never get less, from 1 to 101. -/
def Asc (l : List Int) : Prop := ofNo (entsAt l) = 0 ∧ (∀ x ∈ l, 1 ≤ x ∧ x ≤ 101)
theorem right_at {x : Int} {i : Nat} (h1 : 1 ≤ x) (h2 : x ≤ 2147483647) (hi : i ≤ 100000) : rightB (entAt x i) = true := by
  have e1 : ((i : Nat) : Int) ≤ 2147483647 := by omega
  have e2 : (-2147483648 : Int) ≤ (i : Nat) := by omega
  simp [rightB, inB, entAt, h1, h2, e1, e2]
theorem Asc.nil : Asc [] := ⟨rfl, by simp⟩
theorem lastE_entsAt (l : List Int) : lastE (entsAt l) = (l.getLast?).getD 0 := by
  refine snoc_ind (P := fun l => lastE (entsAt l) = (l.getLast?).getD 0) rfl ?_ l
  intro l x _
  rw [entsAt_snoc, lastE_snoc]; simp [entAt]
theorem Asc.snoc {l : List Int} (h : Asc l) {x : Int} (h1 : 1 ≤ x) (h2 : x ≤ 101) (hl : l.length ≤ 100) (hx : (l.getLast?).getD 0 ≤ x) : Asc (l ++ [x]) := by
  refine ⟨?_, ?_⟩
  · rw [entsAt_snoc]
    refine ofNo_app.2 ⟨h.1, appendNo_zero.2 ⟨right_at h1 (by omega) (by omega), by rw [entsAt_len]; omega, ?_⟩⟩
    rw [lastEp_of (by exact h1), lastE_entsAt]
    show decide (x < (l.getLast?).getD 0) = false
    exact decide_eq_false (by omega)
  · intro y hy
    rw [List.mem_append, List.mem_singleton] at hy
    rcases hy with hy | rfl
    · exact h.2 y hy
    · exact ⟨h1, h2⟩
theorem Asc.take {l : List Int} (h : Asc l) (n : Nat) : Asc (l.take n) := ⟨by rw [entsAt_take]; exact ofNo_take h.1 n, fun x hx => h.2 x (List.mem_of_mem_take hx)⟩
/-- The leader's epochs, the follower's. -/
def ownOf (a : List Int) : List Int := a.map (2 * ·)
def stepIts (its : List Int) (x : Int) : List Int := if its.length = 0 ∨ (its.getLast?).getD 0 ≤ 2 * x + 1 then its ++ [2 * x + 1] else its
def itsOf (a b : List Int) (k : Nat) : List Int := b.foldl stepIts ((ownOf a).take k)
def ordFrom : Option Int → List Int → Bool
  | _, [] => true
  | p, x :: xs => decide (1 ≤ x) && decide (x ≤ 50) && (match p with | none => true | some q => decide (q ≤ x)) && ordFrom (some x) xs
theorem ordFrom_cons (p : Option Int) (x : Int) (xs : List Int) : ordFrom p (x :: xs) = (decide (1 ≤ x) && decide (x ≤ 50) && (match p with | none => true | some q => decide (q ≤ x)) && ordFrom (some x) xs) := rfl
def ordB (l : List Int) : Bool := ordFrom none l
theorem ordFrom_mem : ∀ (l : List Int) (p : Option Int), ordFrom p l = true → ∀ x ∈ l, 1 ≤ x ∧ x ≤ 50
  | [], _, _, x, hx => by cases hx
  | y :: ys, p, h, x, hx => by
    rw [ordFrom_cons] at h
    simp only [Bool.and_eq_true, decide_eq_true_eq] at h
    rcases List.mem_cons.1 hx with rfl | hx
    · exact h.1.1
    · exact ordFrom_mem ys _ h.2 x hx
theorem own_asc_from : ∀ (l pre : List Int), Asc (ownOf pre) → ordFrom pre.getLast? l = true → pre.length + l.length ≤ 100 → Asc (ownOf (pre ++ l))
  | [], pre, h, _, _ => by simpa using h
  | x :: xs, pre, h, ho, hl => by
    rw [ordFrom_cons] at ho
    simp only [Bool.and_eq_true, decide_eq_true_eq] at ho
    obtain ⟨⟨⟨h1, h2⟩, h3⟩, h4⟩ := ho
    simp only [List.length_cons] at hl
    have h5 : Asc (ownOf (pre ++ [x])) := by
      have e : ownOf (pre ++ [x]) = ownOf pre ++ [2 * x] := by simp [ownOf]
      rw [e]
      refine h.snoc (by omega) (by omega) (by simp [ownOf]; omega) ?_
      unfold ownOf
      rw [List.getLast?_map]
      cases hp : pre.getLast? with
      | none => simp; omega
      | some q => rw [hp] at h3; simp at h3; simp; omega
    have := own_asc_from xs (pre ++ [x]) h5 (by rw [List.getLast?_append]; simpa using h4) (by simp; omega)
    simpa using this
theorem own_asc {a : List Int} (h : ordB a = true) (hl : a.length ≤ 12) : Asc (ownOf a) := by
  have := own_asc_from a [] Asc.nil h (by simp; omega)
  simpa using this
theorem its_shape (a : List Int) (k : Nat) (hl : a.length ≤ 12) (ha : ordB a = true) : ∀ (b : List Int) (its O : List Int), its = (ownOf a).take k ++ O → (∀ x ∈ O, x % 2 = 1) → Asc its → (∀ x ∈ b, 1 ≤ x ∧ x ≤ 50) → its.length + b.length ≤ 24 →
    ∃ O', b.foldl stepIts its = (ownOf a).take k ++ O' ∧ (∀ x ∈ O', x % 2 = 1) ∧ Asc (b.foldl stepIts its) ∧ (b.foldl stepIts its).length ≤ 24
  | [], its, O, he, ho, hA, _, hl2 => ⟨O, he, ho, hA, by simpa using hl2⟩
  | x :: xs, its, O, he, ho, hA, hb, hl2 => by
    rw [List.foldl_cons]
    have hx := hb x (by simp)
    simp only [List.length_cons] at hl2
    by_cases hc : its.length = 0 ∨ (its.getLast?).getD 0 ≤ 2 * x + 1
    · have e : stepIts its x = its ++ [2 * x + 1] := by unfold stepIts; rw [if_pos hc]
      rw [e]
      refine its_shape a k hl ha xs _ (O ++ [2 * x + 1]) (by rw [he]; simp) ?_ (hA.snoc (by omega) (by omega) (by omega) ?_) (fun y hy => hb y (by simp [hy])) (by simp; omega)
      · intro y hy
        rw [List.mem_append, List.mem_singleton] at hy
        rcases hy with hy | rfl
        · exact ho y hy
        · omega
      · rcases hc with hc | hc
        · rw [List.length_eq_zero_iff.1 hc]; simp; omega
        · exact hc
    · have e : stepIts its x = its := by unfold stepIts; rw [if_neg hc]
      rw [e]
      exact its_shape a k hl ha xs its O he ho hA (fun y hy => hb y (by simp [hy])) (by omega)
theorem its_ok {a b : List Int} {k : Nat} (ha : ordB a = true) (hb : ordB b = true) (la : a.length ≤ 12) (lb : b.length ≤ 12) :
    ∃ O, itsOf a b k = (ownOf a).take k ++ O ∧ (∀ x ∈ O, x % 2 = 1) ∧ Asc (itsOf a b k) ∧ (itsOf a b k).length ≤ 24 :=
  its_shape a k la ha b _ [] (by simp) (by simp) ((own_asc ha la).take k) (fun x hx => ordFrom_mem b none hb x hx) (by simp [ownOf]; omega)

/-! ### The states -/
def v200 : View := ⟨3, 200, 200, [3]⟩
def v300 : View := ⟨0, 300, 300, [0, 1]⟩
def fillP (l : List Int) : Reply := ⟨200, 0, 0, false, 0, 0, entsAt l, 0⟩
def fill1 (self : Int) : RepS := ((RepS.init self 1).learn v200).1
def fill2 (self : Int) (l : List Int) : RepS := (fill1 self).take (fillP l)
def fill3 (self : Int) (l : List Int) : RepS := (fill2 self l).flush
theorem fill1_is {self : Int} (hs : self = 0 ∨ self = 1) : ((RepS.init self 1).learn v200).2 = 0 ∧ fill1 self = { RepS.init self 1 with epoch := 200, role := 2 } := by
  rcases hs with rfl | rfl <;> exact ⟨by decide, rfl⟩
theorem ents_from_asc : ∀ (es l : List Ent), ofNo (l ++ es) = 0 → entsFrom (lastE l) es = true := by
  intro es
  induction es with
  | nil => intro l _; rfl
  | cons x xs ih =>
    intro l hl
    have e1 : l ++ x :: xs = (l ++ [x]) ++ xs := by simp
    rw [e1] at hl
    have h2 : ofNo (l ++ [x]) = 0 := by have := ofNo_take hl (l ++ [x]).length; rwa [List.take_left] at this
    obtain ⟨h3, h4⟩ := ofNo_app.1 h2
    obtain ⟨a1, a2, a3⟩ := appendNo_zero.1 h4
    rw [lastEp_of (rightB_ep a1).1] at a3
    have := ih (l ++ [x]) hl
    rw [lastE_snoc] at this
    rw [entsFrom_cons, a1, this]
    simp at a3
    simpa using a3
theorem fill2_is {self : Int} (hs : self = 0 ∨ self = 1) {l : List Int} (h : Asc l) (hl : l.length ≤ 24) : (fill1 self).takeNo (fillP l) = 0 ∧ fill2 self l = { RepS.init self 1 with epoch := 200, role := 2, log := entsAt l } := by
  obtain ⟨-, h1⟩ := fill1_is hs
  have hr : (fillP l).right = true := by
    have := ents_from_asc (entsAt l) [] h.1
    unfold Reply.right fillP
    simp only [Bool.and_eq_true]
    refine ⟨⟨⟨⟨⟨⟨?_, rfl⟩, rfl⟩, rfl⟩, rfl⟩, rfl⟩, rfl⟩
    exact this
  have hn : (fill1 self).takeNo (fillP l) = 0 := by
    unfold RepS.takeNo
    rw [h1, if_neg (by simp [hr]), if_neg (by simp), if_neg (by simp [RepS.fitsNow, fillP, RepS.init, lastE]), if_neg (by simp [fillP]), if_neg (by simp [RepS.init, fillP, entsAt_len]; omega)]
  refine ⟨hn, ?_⟩
  unfold fill2 RepS.take
  rw [if_neg (by rw [hn]; decide), if_neg (by simp [fillP]), h1]
  simp [RepS.init, fillP, gmax, gmin]
  intro h1 h2
  omega
theorem fill3_is {self : Int} (hs : self = 0 ∨ self = 1) {l : List Int} (h : Asc l) (hl : l.length ≤ 24) : fill3 self l = { RepS.init self 1 with epoch := 200, role := 2, log := entsAt l, flushed := l.length } := by
  unfold fill3 RepS.flush RepS.count
  rw [(fill2_is hs h hl).2]
  simp [entsAt_len]
theorem fill3_good {self : Int} (hs : self = 0 ∨ self = 1) {l : List Int} (h : Asc l) (hl : l.length ≤ 24) : (fill3 self l).Good := by
  refine good_flush (good_take (good_learn (good_init ?_) _) _)
  rcases hs with rfl | rfl <;> rfl
/-- A leader while it appends. -/
structure LeadI (s : RepS) (n : Nat) : Prop where
  good : s.Good
  role : s.role = 3
  epoch : s.epoch = 300
  self : s.self = 0
  least : s.least = 1
  isr : s.isr = [0, 1]
  counts : s.counts = [0, 1]
  len : s.log.length = n
  eps : ∀ e ∈ s.log, e.ep ≤ 300 ∧ e.ep % 2 = 0
def lead0 (a : List Int) : RepS := ((fill3 0 (ownOf a)).learn v300).1
def follow0 (a b : List Int) (k : Nat) : RepS := ((fill3 1 (itsOf a b k)).learn v300).1
theorem mem_entsAt {l : List Int} {e : Ent} (h : e ∈ entsAt l) : e.ep ∈ l := by
  unfold entsAt at h
  rw [List.mem_map] at h
  obtain ⟨p, hp, rfl⟩ := h
  have := List.mem_zipIdx hp
  obtain ⟨_, h2, h3⟩ := this
  show p.1 ∈ l
  rw [h3]; exact List.getElem_mem _
theorem lead0_ok {a : List Int} (ha : ordB a = true) (la : a.length ≤ 12) : ((fill3 0 (ownOf a)).learn v300).2 = 0 ∧ LeadI (lead0 a) a.length ∧ (lead0 a).log = entsAt (ownOf a) := by
  have hA := own_asc ha la
  have hl : (ownOf a).length ≤ 24 := by simp [ownOf]; omega
  have hg := fill3_good (.inl rfl) hA hl
  have h3 := fill3_is (.inl rfl) hA hl
  have hlearn : (fill3 0 (ownOf a)).learn v300 = ((fill3 0 (ownOf a)).lead v300, 0) := by
    unfold RepS.learn
    rw [h3, if_pos (by decide), if_neg (by simp [v300]), if_neg (by simp [v300])]
    simp [v300, RepS.init]
  obtain ⟨a1, a2, a3, a4, a5, a6⟩ := count_log ({ ((({ (fill3 0 (ownOf a)).turn v300 with role := 3 }) : RepS).steps v300) with beg := (fill3 0 (ownOf a)).log.length, known := fun _ => -1 } : RepS)
  obtain ⟨b1, b2, -⟩ := count_isr ({ ((({ (fill3 0 (ownOf a)).turn v300 with role := 3 }) : RepS).steps v300) with beg := (fill3 0 (ownOf a)).log.length, known := fun _ => -1 } : RepS)
  have hlog : (lead0 a).log = entsAt (ownOf a) := by
    unfold lead0; rw [hlearn]
    refine a1.trans ?_
    show (fill3 0 (ownOf a)).log = _
    rw [h3]
  refine ⟨by rw [hlearn], ⟨?_, ?_, ?_, ?_, ?_, ?_, ?_, ?_, ?_⟩, hlog⟩
  · exact good_learn hg v300
  · unfold lead0; rw [hlearn]; exact a6
  · unfold lead0; rw [hlearn]; exact a2
  · unfold lead0; rw [hlearn]; refine a3.trans ?_; show (fill3 0 (ownOf a)).self = _; rw [h3]; rfl
  · unfold lead0; rw [hlearn]; refine a4.trans ?_; show (fill3 0 (ownOf a)).least = _; rw [h3]; rfl
  · unfold lead0; rw [hlearn]; exact b1
  · unfold lead0; rw [hlearn]; exact b2
  · rw [hlog, entsAt_len]; simp [ownOf]
  · intro e he
    rw [hlog] at he
    have := mem_entsAt he
    unfold ownOf at this
    rw [List.mem_map] at this
    obtain ⟨x, hx, hx2⟩ := this
    have := ordFrom_mem a none ha x hx
    omega
def appE (i : Nat) : Ent := ⟨0, -1, 0, 0, 1, i⟩
theorem LeadI.app {s : RepS} {n : Nat} (h : LeadI s n) (hn : n ≤ 100) {i : Nat} (hi : i ≤ 100) : s.appNo (appE i) = 0 ∧ LeadI (s.app (appE i)) (n + 1) := by
  have hsent : s.sent (appE i) = entAt 300 i := by unfold RepS.sent; rw [h.epoch]; rfl
  have hr : rightB (entAt 300 i) = true := right_at (by omega) (by omega) (by omega)
  have hlast : lastE s.log ≤ 300 := by
    by_cases hne : s.log = []
    · rw [hne]; simp [lastE]
    · obtain ⟨-, e, he, h2⟩ := lastE_pos h.good.ok hne
      rw [← h2]; exact (h.eps e he).1
  have hap : appendNo s.log (entAt 300 i) = 0 := appendNo_zero.2 ⟨hr, by rw [h.len]; omega, by rw [lastEp_of (by simp [entAt])]; show decide ((300 : Int) < lastE s.log) = false; exact decide_eq_false (by omega)⟩
  have hck : checkNo s.log (entAt 300 i) = 0 := by
    unfold checkNo
    rw [if_neg (by simp [hap]), if_pos (by simp [entAt])]
  have hno : s.appNo (appE i) = 0 := by
    unfold RepS.appNo
    rw [hsent, if_neg (by simp [hr]), if_neg (by simp [h.role]), if_neg (by rw [h.isr, h.least]; decide), if_neg (by simp [hck]), if_neg (by rw [h.len]; omega)]
  have happ : s.app (appE i) = { s with log := s.log ++ [entAt 300 i] } := by unfold RepS.app; rw [if_pos hno, hsent]
  refine ⟨hno, ⟨good_app h.good _, by rw [happ]; exact h.role, by rw [happ]; exact h.epoch, by rw [happ]; exact h.self, by rw [happ]; exact h.least, by rw [happ]; exact h.isr, by rw [happ]; exact h.counts, by rw [happ]; simp [h.len], ?_⟩⟩
  intro e he
  rw [happ] at he
  simp only [List.mem_append, List.mem_singleton] at he
  rcases he with he | rfl
  · exact h.eps e he
  · exact ⟨by simp [entAt], by simp [entAt]⟩
def apps (s : RepS) : Nat → RepS
  | 0 => s
  | n + 1 => (apps s n).app (appE n)
theorem apps_ok {s : RepS} {m : Nat} (h : LeadI s m) (hm : m ≤ 12) : ∀ n, n ≤ 12 → LeadI (apps s n) (m + n) ∧ (apps s n).log.take m = s.log
  | 0, _ => ⟨h, by rw [← h.len]; exact List.take_length⟩
  | n + 1, hn => by
    obtain ⟨i1, i2⟩ := apps_ok h hm n (by omega)
    obtain ⟨a1, a2⟩ := i1.app (by omega) (i := n) (by omega)
    refine ⟨a2, ?_⟩
    show ((apps s n).app (appE n)).log.take m = s.log
    unfold RepS.app
    rw [if_pos a1]
    simp only
    rw [List.take_append_of_le_length (by rw [i1.len]; omega)]
    exact i2
/-- The start of the exchange. -/
theorem duo_start {a b : List Int} {k more : Nat} (ha : ordB a = true) (hb : ordB b = true) (la : a.length ≤ 12) (lb : b.length ≤ 12) (hm : more ≤ 12) :
    ((fill3 1 (itsOf a b k)).learn v300).2 = 0 ∧ Duo (apps (lead0 a) more).flush (follow0 a b k) ∧ Far (apps (lead0 a) more).flush (follow0 a b k) 49 ∧ (apps (lead0 a) more).flush.log.length = a.length + more := by
  obtain ⟨O, hO, hodd, hA, hl⟩ := its_ok (k := k) ha hb la lb
  have h3 := fill3_is (.inr rfl) hA hl
  have hg := fill3_good (.inr rfl) hA hl
  have hlearn : (fill3 1 (itsOf a b k)).learn v300 = ((fill3 1 (itsOf a b k)).turn v300, 0) := by
    unfold RepS.learn
    rw [h3, if_pos (by decide), if_neg (by simp [v300]), if_neg (by simp [v300])]
    simp [v300, RepS.init]
  obtain ⟨-, hL, hLlog⟩ := lead0_ok ha la
  obtain ⟨hS, hSt⟩ := apps_ok hL la more hm
  have hflog : (follow0 a b k).log = entsAt (itsOf a b k) := by unfold follow0; rw [hlearn]; show (fill3 1 (itsOf a b k)).log = _; rw [h3]
  have hff : (follow0 a b k).flushed = (itsOf a b k).length := by unfold follow0; rw [hlearn]; show (fill3 1 (itsOf a b k)).flushed = _; rw [h3]
  obtain ⟨a1, a2, a3, a4, a5, a6⟩ := count_log ({ (apps (lead0 a) more) with flushed := (apps (lead0 a) more).log.length } : RepS)
  obtain ⟨b1, b2, -⟩ := count_isr ({ (apps (lead0 a) more) with flushed := (apps (lead0 a) more).log.length } : RepS)
  have hslog : (apps (lead0 a) more).flush.log = (apps (lead0 a) more).log := a1
  have hslen : (apps (lead0 a) more).flush.log.length = a.length + more := by rw [hslog, hS.len]
  refine ⟨by rw [hlearn], ⟨good_flush hS.good, good_learn hg _, a6.trans hS.role, ?_, a2.trans hS.epoch, ?_, a3.trans hS.self, ?_, b2.trans hS.counts, ?_, ?_, ?_⟩, ?_, hslen⟩
  · unfold follow0; rw [hlearn]; rfl
  · unfold follow0; rw [hlearn]; rfl
  · unfold follow0; rw [hlearn]; show (fill3 1 (itsOf a b k)).self = _; rw [h3]; rfl
  · rw [hslog]; exact a5
  · rw [hflog, hff, entsAt_len]
  · intro e he; rw [hslog] at he; exact (hS.eps e he).2
  · have hpre : entsAt ((ownOf a).take k) = (apps (lead0 a) more).flush.log.take (min k a.length) := by
      rw [hslog, entsAt_take, ← hLlog]
      rw [← hSt, List.take_take, Nat.min_comm]
    have hll : (itsOf a b k).length ≤ 24 := hl
    by_cases hne : O = []
    · right; left
      refine ⟨min k a.length, by rw [hslen]; omega, ?_, by rw [hslen]; omega⟩
      rw [hflog, hO, hne, List.append_nil, hpre]
    · right; right
      refine ⟨min k a.length, (entsAt (itsOf a b k)).drop ((ownOf a).take k).length, by rw [hslen]; omega, ?_, ?_, ?_, by rw [hflog, entsAt_len, hslen]; omega⟩
      · rw [hflog, ← hpre, entsAt_take]
        have e1 : (entsAt (ownOf a)).take k = (entsAt (itsOf a b k)).take ((ownOf a).take k).length := by
          rw [← entsAt_take, ← entsAt_take, hO, List.take_left]
        rw [e1, List.take_append_drop]
      · intro h0
        have := congrArg List.length h0
        rw [List.length_drop, entsAt_len, hO, List.length_append, List.length_nil] at this
        have hop : 0 < O.length := List.length_pos_iff.2 hne
        omega
      · intro e he
        obtain ⟨i, hi⟩ := List.mem_iff_getElem?.1 he
        rw [List.getElem?_drop] at hi
        unfold entsAt at hi
        rw [List.getElem?_map, List.getElem?_zipIdx, hO, List.getElem?_append_right (by omega)] at hi
        have e2 : ((ownOf a).take k).length + i - ((ownOf a).take k).length = i := by omega
        rw [e2] at hi
        cases hx : O[i]? with
        | none => rw [hx] at hi; simp at hi
        | some x =>
          rw [hx] at hi
          simp at hi
          rw [← hi]
          exact hodd x (List.mem_of_getElem? hx)
end Go.Ws
namespace Go.Ws
open Go Go.RowKit Go.Proofs
set_option maxHeartbeats 2000000
set_option maxRecDepth 100000
set_option linter.unusedVariables false
set_option linter.unusedSimpArgs false
set_option pp.deepTerms true
set_option pp.maxSteps 100000000

theorem samelog_calls (l m : List Ent) (u v : Value) (w : World) (hl : RdE w u l) (hm : RdE w v m) :
    Pure Try.prog 15 #[u, v] w (.bool (decide (l = m))) := by
  obtain ⟨A0, c, rfl, hc, hcm, HR⟩ := hl.ent
  obtain ⟨A1, c1, rfl, hc1, hcm1, HR1⟩ := hm.ent
  clear hl hm
  refine Fn_of Try.func15 rfl (Nat.le_of_ble_eq_true rfl) ?_; intro A hd hA; simp only [ix, Nat.reduceAdd]; replace hA : A.tmps.size = 26 := hA
  repeat' (first | refine X_d (fun vb hvb => ?_) | refine X_dg (fun vb hvb => ?_) | refine X_q ?_ | refine X_g ?_ | refine X_gf ?_ | refine X_niln ?_ | refine X_nil ?_ | (refine X_var (fun yn bn hn1 hn2 hn3 hn4 hn5 => ?_)) | refine W_seqk (fun K hK => ?_) | refine W_seqr ?_ | refine W_draw (by kernel_rfl) (by kernel_rfl) ?_ | refine W_ret ?_ | refine W_skip ?_ | refine W_block ?_ | refine W_exit ?_ | (refine X_s (fun x K hK => ?_); go_simp; refine hK _ _ (Ext.alloc _ _) ?_; clear hK K; refine X_al x ?_; generalize (World.later _ x).heap.size = bn; intro yn hn1 hn2 hn3 hn4 hn5; clear x) | refine W_tt ?_ | refine W_ff ?_ | refine W_test (fun hc => ?_) (fun hc => ?_) | go_step)
  · refine Body_ret hd ⟨congrArg Value.bool ?_, by simp⟩
    have : l ≠ m := fun e => by subst e; simp at hc
    simp [this]
  have heq : l.length = m.length := by have := hc; simp at this; omega
  refine W_loops [0, 1, 5] (fun n vs w' => ∃ k : Nat, w' = w ∧ k + n = l.length ∧ vs = [.slice A0 l.length c, .slice A1 m.length c1, .int .i64 k] ∧ l.take k = m.take k) l.length hd hA (by decide) ⟨0, rfl, by omega, by simp, by simp⟩ ?_
  clear hd hA A; intro n vs B w' hd hA _ ⟨k, hw, hk, hvs, hm⟩; subst hw hvs
  simp only [List.zip_cons_cons, List.zip_nil_right, List.zip_nil_left]
  have Hm := Lib.hid hm; clear hm
  have HQ := Lib.hid heq; clear heq hc
  by_cases hlt : k < l.length
  · obtain ⟨e, b, o, HE, rfl, hb, c0, c1, c2, c3, c4, c5⟩ := HR.out k hlt
    have hlt2 : k < m.length := by rw [← HQ.out]; exact hlt
    obtain ⟨x, b1, o1, HX, rfl, hb1, d0, d1, d2, d3, d4, d5⟩ := HR1.out k hlt2
    have g1 := fun ox oy a b w => eqGuardEnt ox oy a b w
    have g2 := neqEnt e x
    repeat' (first | refine X_d (fun vb hvb => ?_) | refine X_dg (fun vb hvb => ?_) | refine X_q ?_ | refine X_g ?_ | refine X_gf ?_ | refine X_niln ?_ | refine X_nil ?_ | (refine X_var (fun yn bn hn1 hn2 hn3 hn4 hn5 => ?_)) | refine W_seqk (fun K hK => ?_) | refine W_seqr ?_ | refine W_draw (by kernel_rfl) (by kernel_rfl) ?_ | refine W_ret ?_ | refine W_skip ?_ | refine W_block ?_ | refine W_exit ?_ | (refine X_s (fun x K hK => ?_); go_simp; refine hK _ _ (Ext.alloc _ _) ?_; clear hK K; refine X_al x ?_; generalize (World.later _ x).heap.size = bn; intro yn hn1 hn2 hn3 hn4 hn5; clear x) | refine W_tt ?_ | refine W_ff ?_ | refine W_test (fun hc => ?_) (fun hc => ?_) | go_step)
    · refine Body_ret hd ⟨congrArg Value.bool ?_, by simp⟩
      have : l ≠ m := fun h => by subst h; rw [HE.out] at HX; cases HX.out; simp at hc
      simp [this]
    · refine ⟨_, _, rfl, hd, hA, n - 1, by omega, k + 1, trivial, by omega, by simp, ?_⟩
      rw [take_snoc HE.out, take_snoc HX.out, Hm.out]
      simp at hc
      rw [hc]
  · repeat' (first | refine X_d (fun vb hvb => ?_) | refine X_dg (fun vb hvb => ?_) | refine X_q ?_ | refine X_g ?_ | refine X_gf ?_ | refine X_niln ?_ | refine X_nil ?_ | (refine X_var (fun yn bn hn1 hn2 hn3 hn4 hn5 => ?_)) | refine W_seqk (fun K hK => ?_) | refine W_seqr ?_ | refine W_draw (by kernel_rfl) (by kernel_rfl) ?_ | refine W_ret ?_ | refine W_skip ?_ | refine W_block ?_ | refine W_exit ?_ | (refine X_s (fun x K hK => ?_); go_simp; refine hK _ _ (Ext.alloc _ _) ?_; clear hK K; refine X_al x ?_; generalize (World.later _ x).heap.size = bn; intro yn hn1 hn2 hn3 hn4 hn5; clear x) | refine W_tt ?_ | refine W_ff ?_ | refine W_test (fun hc => ?_) (fun hc => ?_) | go_step)
    obtain rfl : k = l.length := by omega
    refine Body_ret hd ⟨congrArg Value.bool ?_, by simp⟩
    have := Hm.out
    rw [List.take_length, HQ.out, List.take_length] at this
    simp [this]
theorem ordered_calls (l : List Int) (v : Value) (w : World) (hl : RdL w v l) : Pure Try.prog 4 #[v] w (.bool (ordB l)) := by
  obtain ⟨A0, c, rfl, hc, hcm, HR⟩ := hl.int
  clear hl
  have HR := Lib.hid HR
  refine Fn_of Try.func4 rfl (Nat.le_of_ble_eq_true rfl) ?_; intro A hd hA; simp only [ix, Nat.reduceAdd]; replace hA : A.tmps.size = 38 := hA
  repeat' (first | refine X_gt ?_ | refine X_q ?_ | refine X_g ?_ | refine X_gf ?_ | refine X_niln ?_ | refine X_nil ?_ | (refine X_var (fun yn bn hn1 hn2 hn3 hn4 hn5 => ?_)) | refine W_seqk (fun K hK => ?_) | refine W_seqr ?_ | refine W_ret ?_ | refine W_skip ?_ | refine W_block ?_ | refine W_exit ?_ | (refine X_s (fun x K hK => ?_); go_simp; refine hK _ _ (Ext.alloc _ _) ?_; clear hK K; refine X_al x ?_; generalize (World.later _ x).heap.size = bn; intro yn hn1 hn2 hn3 hn4 hn5; clear x) | refine W_tt ?_ | refine W_ff ?_ | refine W_test (fun hc => ?_) (fun hc => ?_) | go_step)
  refine W_loops [0, 3] (fun n vs w' => ∃ k : Nat, w' = w ∧ k + n = l.length ∧ vs = [.slice A0 l.length c, .int .i64 k] ∧ ordFrom (prevAt l k) (l.drop k) = ordB l) l.length hd hA (by decide) ⟨0, rfl, by omega, by simp, by simp [prevAt, ordB]⟩ ?_
  clear hd hA A; intro n vs B w' hd hA _ ⟨k, hw, hk, hvs, hm⟩; subst hw hvs
  simp only [List.zip_cons_cons, List.zip_nil_right, List.zip_nil_left]
  by_cases hlt : k < l.length
  · obtain ⟨x, b, o, HX, rfl, hb, c0⟩ := HR.out.out k hlt
    have hki : (k : Int) < l.length := by omega
    have hpn : prevAt l (k + 1) = some x := by simp [prevAt, HX.out]
    rw [drop_at HX.out, ordFrom_cons] at hm
    have Hpn := Lib.hid hpn
    clear hpn
    by_cases hk0 : 0 < k
    · obtain ⟨y, b', o', HY, hb', -, d0⟩ := HR.out.out (k - 1) (by omega)
      cases hb'
      have hp : prevAt l k = some y := by rw [prevAt, if_neg (by omega)]; exact HY.out
      rw [hp] at hm
      have HM := Lib.hid hm
      have hk1 : (k : Int) - 1 = ((k - 1 : Nat) : Int) := by omega
      have hki2 : ((k - 1 : Nat) : Int) < l.length := by omega
      have hkp : (0 : Int) < k := by omega
      clear hm hp
      repeat' (first | refine X_d (fun vb hvb => ?_) | refine X_dg (fun vb hvb => ?_) | refine X_q ?_ | refine X_g ?_ | refine X_gf ?_ | refine X_niln ?_ | refine X_nil ?_ | (refine X_var (fun yn bn hn1 hn2 hn3 hn4 hn5 => ?_)) | refine W_seqk (fun K hK => ?_) | refine W_seqr ?_ | refine W_draw (by kernel_rfl) (by kernel_rfl) ?_ | refine W_ret ?_ | refine W_skip ?_ | refine W_block ?_ | refine W_exit ?_ | (refine X_s (fun x K hK => ?_); go_simp; refine hK _ _ (Ext.alloc _ _) ?_; clear hK K; refine X_al x ?_; generalize (World.later _ x).heap.size = bn; intro yn hn1 hn2 hn3 hn4 hn5; clear x) | refine W_tt ?_ | refine W_ff ?_ | refine W_test (fun hc => ?_) (fun hc => ?_) | go_step)
      · repeat cases ‹Eqn _ _›
        refine Body_ret hd ⟨?_, by simp⟩
        rw [← HM.out]
        simp at hc ⊢
        omega
      · repeat cases ‹Eqn _ _›
        refine ⟨_, _, rfl, hd, hA, n - 1, by omega, k + 1, trivial, by omega, by simp, ?_⟩
        rw [Hpn.out, ← HM.out]
        simp at hc ⊢
        omega
    · have hp : prevAt l k = none := by rw [prevAt, if_pos (by omega)]
      rw [hp] at hm
      have HM := Lib.hid hm
      have hkp : ¬ (0 : Int) < k := by omega
      clear hm hp
      by_cases q1 : 1 ≤ x
      · have q1n : ¬ x < 1 := by omega
        by_cases q2 : x ≤ 50
        · have q2n : ¬ 50 < x := by omega
          refine W_seqk (fun K hK => ?_)
          repeat' (first | refine X_gt ?_ | refine X_q ?_ | refine X_g ?_ | refine X_gf ?_ | refine X_niln ?_ | refine X_nil ?_ | (refine X_var (fun yn bn hn1 hn2 hn3 hn4 hn5 => ?_)) | refine W_seqk (fun K hK => ?_) | refine W_seqr ?_ | refine W_ret ?_ | refine W_skip ?_ | refine W_block ?_ | refine W_exit ?_ | (refine X_s (fun x K hK => ?_); go_simp; refine hK _ _ (Ext.alloc _ _) ?_; clear hK K; refine X_al x ?_; generalize (World.later _ x).heap.size = bn; intro yn hn1 hn2 hn3 hn4 hn5; clear x) | refine W_tt ?_ | refine W_ff ?_ | refine W_test (fun hc => ?_) (fun hc => ?_) | go_step)
          refine W_draw (by kernel_rfl) (by kernel_rfl) ?_
          repeat' (first | refine X_gt ?_ | refine X_q ?_ | refine X_g ?_ | refine X_gf ?_ | refine X_niln ?_ | refine X_nil ?_ | (refine X_var (fun yn bn hn1 hn2 hn3 hn4 hn5 => ?_)) | refine W_seqk (fun K hK => ?_) | refine W_seqr ?_ | refine W_ret ?_ | refine W_skip ?_ | refine W_block ?_ | refine W_exit ?_ | (refine X_s (fun x K hK => ?_); go_simp; refine hK _ _ (Ext.alloc _ _) ?_; clear hK K; refine X_al x ?_; generalize (World.later _ x).heap.size = bn; intro yn hn1 hn2 hn3 hn4 hn5; clear x) | refine W_tt ?_ | refine W_ff ?_ | refine W_test (fun hc => ?_) (fun hc => ?_) | go_step)
          refine ⟨_, _, rfl, hd, hA, n - 1, by omega, k + 1, trivial, by omega, by simp, ?_⟩
          rw [Hpn.out, ← HM.out]
          simp [q1, q2]
        · have q2n : 50 < x := by omega
          refine W_seqk (fun K hK => ?_)
          repeat' (first | refine X_gt ?_ | refine X_q ?_ | refine X_g ?_ | refine X_gf ?_ | refine X_niln ?_ | refine X_nil ?_ | (refine X_var (fun yn bn hn1 hn2 hn3 hn4 hn5 => ?_)) | refine W_seqk (fun K hK => ?_) | refine W_seqr ?_ | refine W_ret ?_ | refine W_skip ?_ | refine W_block ?_ | refine W_exit ?_ | (refine X_s (fun x K hK => ?_); go_simp; refine hK _ _ (Ext.alloc _ _) ?_; clear hK K; refine X_al x ?_; generalize (World.later _ x).heap.size = bn; intro yn hn1 hn2 hn3 hn4 hn5; clear x) | refine W_tt ?_ | refine W_ff ?_ | refine W_test (fun hc => ?_) (fun hc => ?_) | go_step)
          refine W_draw (by kernel_rfl) (by kernel_rfl) ?_
          repeat' (first | refine X_gt ?_ | refine X_q ?_ | refine X_g ?_ | refine X_gf ?_ | refine X_niln ?_ | refine X_nil ?_ | (refine X_var (fun yn bn hn1 hn2 hn3 hn4 hn5 => ?_)) | refine W_seqk (fun K hK => ?_) | refine W_seqr ?_ | refine W_ret ?_ | refine W_skip ?_ | refine W_block ?_ | refine W_exit ?_ | (refine X_s (fun x K hK => ?_); go_simp; refine hK _ _ (Ext.alloc _ _) ?_; clear hK K; refine X_al x ?_; generalize (World.later _ x).heap.size = bn; intro yn hn1 hn2 hn3 hn4 hn5; clear x) | refine W_tt ?_ | refine W_ff ?_ | refine W_test (fun hc => ?_) (fun hc => ?_) | go_step)
          refine Body_ret hd ⟨?_, by simp⟩
          rw [← HM.out]
          simp [q2]
      · have q1n : x < 1 := by omega
        refine W_seqk (fun K hK => ?_)
        repeat' (first | refine X_gt ?_ | refine X_q ?_ | refine X_g ?_ | refine X_gf ?_ | refine X_niln ?_ | refine X_nil ?_ | (refine X_var (fun yn bn hn1 hn2 hn3 hn4 hn5 => ?_)) | refine W_seqk (fun K hK => ?_) | refine W_seqr ?_ | refine W_ret ?_ | refine W_skip ?_ | refine W_block ?_ | refine W_exit ?_ | (refine X_s (fun x K hK => ?_); go_simp; refine hK _ _ (Ext.alloc _ _) ?_; clear hK K; refine X_al x ?_; generalize (World.later _ x).heap.size = bn; intro yn hn1 hn2 hn3 hn4 hn5; clear x) | refine W_tt ?_ | refine W_ff ?_ | refine W_test (fun hc => ?_) (fun hc => ?_) | go_step)
        refine W_draw (by kernel_rfl) (by kernel_rfl) ?_
        repeat' (first | refine X_gt ?_ | refine X_q ?_ | refine X_g ?_ | refine X_gf ?_ | refine X_niln ?_ | refine X_nil ?_ | (refine X_var (fun yn bn hn1 hn2 hn3 hn4 hn5 => ?_)) | refine W_seqk (fun K hK => ?_) | refine W_seqr ?_ | refine W_ret ?_ | refine W_skip ?_ | refine W_block ?_ | refine W_exit ?_ | (refine X_s (fun x K hK => ?_); go_simp; refine hK _ _ (Ext.alloc _ _) ?_; clear hK K; refine X_al x ?_; generalize (World.later _ x).heap.size = bn; intro yn hn1 hn2 hn3 hn4 hn5; clear x) | refine W_tt ?_ | refine W_ff ?_ | refine W_test (fun hc => ?_) (fun hc => ?_) | go_step)
        refine Body_ret hd ⟨?_, by simp⟩
        rw [← HM.out]
        simp [q1]
  · obtain rfl : k = l.length := by omega
    rw [List.drop_length] at hm
    have HM : Hid (ordB l = true) := Lib.hid (by rw [← hm]; rfl)
    clear hm
    repeat' (first | refine X_gt ?_ | refine X_q ?_ | refine X_g ?_ | refine X_gf ?_ | refine X_niln ?_ | refine X_nil ?_ | (refine X_var (fun yn bn hn1 hn2 hn3 hn4 hn5 => ?_)) | refine W_seqk (fun K hK => ?_) | refine W_seqr ?_ | refine W_ret ?_ | refine W_skip ?_ | refine W_block ?_ | refine W_exit ?_ | (refine X_s (fun x K hK => ?_); go_simp; refine hK _ _ (Ext.alloc _ _) ?_; clear hK K; refine X_al x ?_; generalize (World.later _ x).heap.size = bn; intro yn hn1 hn2 hn3 hn4 hn5; clear x) | refine W_tt ?_ | refine W_ff ?_ | refine W_test (fun hc => ?_) (fun hc => ?_) | go_step)
    exact Body_ret hd ⟨by rw [HM.out], by simp⟩
end Go.Ws
namespace Go.Ws
open Go Go.RowKit Go.Proofs
set_option maxHeartbeats 2000000
set_option maxRecDepth 100000
set_option linter.unusedVariables false
set_option linter.unusedSimpArgs false
set_option pp.deepTerms true
set_option pp.maxSteps 100000000

theorem filled_calls {w W : World} {b : Nat} {F : Nat → Prop} {self : Int} (h : HR w W b F (RepS.init self 1)) (hs : self = 0 ∨ self = 1) {v : Value} {l : List Int} (hl : RdL W v l) (hv : ∀ k, v.ownBlock = some k → ¬ F k) (hA0 : Asc l) (hlen : l.length ≤ 24) :
    Ret Try.prog 7 #[.pointer (some ⟨b, 0, none⟩), v] W fun r W' => r = .bool true ∧ Mod F W W' ∧ ∃ F', HR w W' b F' (fill3 self l) ∧ ∀ k, F' k → F k ∨ W.heap.size ≤ k := by
  have HH := Lib.hid h
  have HL := Lib.hid hl
  have HV := Lib.hid hv
  have HA := Lib.hid hA0
  obtain ⟨A0, c, rfl, hc, hcm, -⟩ := hl.int
  have hg0 : (RepS.init self 1).Good := good_init (by rcases hs with rfl | rfl <;> rfl)
  obtain ⟨q1, q2⟩ := fill1_is hs
  obtain ⟨q3, q4⟩ := fill2_is hs hA0 hlen
  have Q := Lib.hid (And.intro q2 (And.intro q3 q4))
  have hF2 := fill3_good hs hA0 hlen
  clear h hl hv hA0 q2 q3 q4
  refine Fn_of Try.func7 rfl (Nat.le_of_ble_eq_true rfl) ?_; intro A hd hA; simp only [ix, Nat.reduceAdd]; replace hA : A.tmps.size = 37 := hA
  repeat' (first | refine X_gt ?_ | refine X_q ?_ | refine X_g ?_ | refine X_gf ?_ | refine X_niln ?_ | refine X_nil ?_ | (refine X_var (fun yn bn hn1 hn2 hn3 hn4 hn5 => ?_)) | refine W_seqk (fun K hK => ?_) | refine W_seqr ?_ | refine W_ret ?_ | refine W_skip ?_ | refine W_block ?_ | refine W_exit ?_ | (refine X_s (fun x K hK => ?_); go_simp; refine hK _ _ (Ext.alloc _ _) ?_; clear hK K; refine X_al x ?_; generalize (World.later _ x).heap.size = bn; intro yn hn1 hn2 hn3 hn4 hn5; clear x) | refine W_tt ?_ | refine W_ff ?_ | refine W_test (fun hc => ?_) (fun hc => ?_) | go_step)
  have hr2 : RdI (W.later yn) (.slice (some ⟨bn, 0, none⟩) 1 1) [3] := (Own.lit W yn (enc := ics) (k := 1) (fun _ => rfl) _ [3] rfl hn5.out (by unfold maxLen; decide)).rd (fun _ => rfl)
  have hne2 : ¬ F bn := (HH.out).new hn1
  refine X_ret Try.func8 (learn_calls (x := v200) (HH.out.later yn.ext).rep hg0.ne ⟨_, rfl, hr2⟩ (fun a b c u hu k hk => by cases hu; cases hk; exact hne2)) (fun r w2 hR => ?_)
  obtain ⟨rfl, hM, hR2⟩ := hR
  rw [q1]
  have hH2 := (HH.out.later yn.ext).step hM hR2
  have hM2 : Mod F W w2 := Mod.trans yn.ext hM (fun _ _ h => h.elim) (fun _ _ h => h)
  have hl2 := HL.out.mod hM2 HV.out
  have HM2 := Lib.hid hM2
  have HL2 := Lib.hid hl2
  obtain ⟨F2, hF2', hF2s⟩ : ∃ F2, HR w w2 b F2 (fill1 self) ∧ ∀ k, F2 k → F k ∨ W.heap.size ≤ k := ⟨_, hH2, fun k hk => hk.1.imp id (fun h => Nat.le_trans yn.ext.size h)⟩
  have HH2 := Lib.hid hF2'
  have HS2 := Lib.hid hF2s
  clear hM hR2 hr2 hne2 hn1 hn2 hn3 hn4 hn5 hH2 hM2 hl2 hF2' hF2s yn
  obtain ⟨A1, c1, hA1, -, -, HRL⟩ := HL2.out.int
  cases hA1
  repeat' (first | refine X_gt ?_ | refine X_q ?_ | refine X_g ?_ | refine X_gf ?_ | refine X_niln ?_ | refine X_nil ?_ | (refine X_var (fun yn bn hn1 hn2 hn3 hn4 hn5 => ?_)) | refine W_seqk (fun K hK => ?_) | refine W_seqr ?_ | refine W_ret ?_ | refine W_skip ?_ | refine W_block ?_ | refine W_exit ?_ | (refine X_s (fun x K hK => ?_); go_simp; refine hK _ _ (Ext.alloc _ _) ?_; clear hK K; refine X_al x ?_; generalize (World.later _ x).heap.size = bn; intro yn hn1 hn2 hn3 hn4 hn5; clear x) | refine W_tt ?_ | refine W_ff ?_ | refine W_test (fun hc => ?_) (fun hc => ?_) | go_step)
  refine W_loops [0, 1, 5, 6] (fun n vs w' => ∃ (k : Nat) (y : Later w2) (u : Value), w' = w2.later y ∧ k + n = l.length ∧ vs = [.pointer (some ⟨b, 0, none⟩), .slice A0 l.length c, u, .int .i64 k] ∧ OwnE (w2.later y) u (entsAt (l.take k)) ∧ ∀ b, u.ownBlock = some b → w2.heap.size ≤ b) l.length hd hA (by decide) ⟨0, ⟨w2, Ext.refl w2⟩, _, rfl, by omega, by simp, Own.nil _, by intro b hb; cases hb⟩ ?_
  clear hd hA A; intro n vs B w' hd hA _ ⟨k, y, u, hw, hk, hvs, hown, hfr⟩; subst hw hvs
  simp only [List.zip_cons_cons, List.zip_nil_right, List.zip_nil_left]
  have Ho := Lib.hid hown; clear hown
  have Hf := Lib.hid hfr; clear hfr
  by_cases hlt : k < l.length
  · obtain ⟨e, b2, o2, HE2, rfl, hb2, c20⟩ := HRL.out k hlt
    have hki : (k : Int) < l.length := by omega
    have HT : Hid (entsAt (l.take (k + 1)) = entsAt (l.take k) ++ [entAt e k]) := Lib.hid (by
      have h1 : (l.take k).length = k := by rw [List.length_take]; omega
      rw [take_snoc HE2.out, entsAt_snoc, h1])
    have hpl : (entsAt (l.take k)).length ≤ 24 := by rw [entsAt_len]; simp; omega
    clear HRL
    repeat' (first | refine X_gt ?_ | refine X_q ?_ | refine X_g ?_ | refine X_gf ?_ | refine X_niln ?_ | refine X_nil ?_ | (refine X_var (fun yn bn hn1 hn2 hn3 hn4 hn5 => ?_)) | refine W_seqk (fun K hK => ?_) | refine W_seqr ?_ | refine W_ret ?_ | refine W_skip ?_ | refine W_block ?_ | refine W_exit ?_ | (refine X_s (fun x K hK => ?_); go_simp; refine hK _ _ (Ext.alloc _ _) ?_; clear hK K; refine X_al x ?_; generalize (World.later _ x).heap.size = bn; intro yn hn1 hn2 hn3 hn4 hn5; clear x) | refine W_tt ?_ | refine W_ff ?_ | refine W_test (fun hc => ?_) (fun hc => ?_) | go_step)
    refine X_push (w0 := w2) (xs := entsAt (l.take k)) (Ext.trans y.ext yn.ext) elemEnt (Ho.out.later yn.ext) Hf.out (Rd.one (x := entAt e k) hn2 hn3 rfl) (by simp; omega) (by unfold maxLen; simp; omega) (fun y2 v' hO2 hF2 hN2 hM2 => ?_)
    have HO2 := Lib.hid hO2
    have HF2 := Lib.hid hF2
    clear hO2 hF2 hN2 hM2
    repeat' (first | refine X_gt ?_ | refine X_q ?_ | refine X_g ?_ | refine X_gf ?_ | refine X_niln ?_ | refine X_nil ?_ | (refine X_var (fun yn bn hn1 hn2 hn3 hn4 hn5 => ?_)) | refine W_seqk (fun K hK => ?_) | refine W_seqr ?_ | refine W_ret ?_ | refine W_skip ?_ | refine W_block ?_ | refine W_exit ?_ | (refine X_s (fun x K hK => ?_); go_simp; refine hK _ _ (Ext.alloc _ _) ?_; clear hK K; refine X_al x ?_; generalize (World.later _ x).heap.size = bn; intro yn hn1 hn2 hn3 hn4 hn5; clear x) | refine W_tt ?_ | refine W_ff ?_ | refine W_test (fun hc => ?_) (fun hc => ?_) | go_step)
    exact ⟨_, _, rfl, hd, hA, n - 1, by omega, k + 1, y2, _, rfl, by omega, by simp, by rw [HT.out]; exact HO2.out, HF2.out⟩
  · obtain rfl : k = l.length := by omega
    have hOl := Ho.out
    clear HRL
    rw [List.take_length] at hOl
    have HO := Lib.hid (hOl.rd (enc := Ent.cs) (k := 6) (fun _ => rfl))
    clear hOl Ho
    have hE := y.ext
    have HH3 := Lib.hid (HH2.out.later hE)
    have HM3 := Lib.hid (HM2.out.ext hE)
    have hWs := HM2.out.size
    have hWs2 := hE.size
    generalize World.later w2 y = W3 at *
    obtain ⟨Au, cu, rfl, -⟩ := HO.out.ent
    have hg1 : (fill1 self).Good := good_learn hg0 _
    have hg2 : (fill2 self l).Good := good_take hg1 _
    repeat' (first | refine X_gt ?_ | refine X_q ?_ | refine X_g ?_ | refine X_gf ?_ | refine X_niln ?_ | refine X_nil ?_ | (refine X_var (fun yn bn hn1 hn2 hn3 hn4 hn5 => ?_)) | refine W_seqk (fun K hK => ?_) | refine W_seqr ?_ | refine W_ret ?_ | refine W_skip ?_ | refine W_block ?_ | refine W_exit ?_ | (refine X_s (fun x K hK => ?_); go_simp; refine hK _ _ (Ext.alloc _ _) ?_; clear hK K; refine X_al x ?_; generalize (World.later _ x).heap.size = bn; intro yn hn1 hn2 hn3 hn4 hn5; clear x) | refine W_tt ?_ | refine W_ff ?_ | refine W_test (fun hc => ?_) (fun hc => ?_) | go_step)
    refine X_ret Try.func13 (take_rep (p := fillP l) HH3.out.rep hg1.ne hg1.may hg1.len HO.out (by show (entsAt l).length ≤ _; rw [entsAt_len]; omega)) (fun r w4 hR => ?_)
    obtain ⟨rfl, hM4, hR4⟩ := hR
    rw [Q.out.2.1]
    have hH4 := HH3.out.step hM4 hR4
    have HM4 := Lib.hid (Mod.trans HM3.out hM4 (fun _ _ h => h) (fun k hk h => (HS2.out k h).elim id (fun h => by omega)) : Mod F W w4)
    obtain ⟨F4, hF4, hF4s⟩ : ∃ F4, HR w w4 b F4 (fill2 self l) ∧ ∀ k, F4 k → F k ∨ W.heap.size ≤ k := ⟨_, hH4, fun k hk => hk.1.elim (HS2.out k) (fun h => .inr (by omega))⟩
    have HH4 := Lib.hid hF4
    have HS4 := Lib.hid hF4s
    clear hM4 hR4 hH4 hF4 hF4s
    repeat' (first | refine X_gt ?_ | refine X_q ?_ | refine X_g ?_ | refine X_gf ?_ | refine X_niln ?_ | refine X_nil ?_ | (refine X_var (fun yn bn hn1 hn2 hn3 hn4 hn5 => ?_)) | refine W_seqk (fun K hK => ?_) | refine W_seqr ?_ | refine W_ret ?_ | refine W_skip ?_ | refine W_block ?_ | refine W_exit ?_ | (refine X_s (fun x K hK => ?_); go_simp; refine hK _ _ (Ext.alloc _ _) ?_; clear hK K; refine X_al x ?_; generalize (World.later _ x).heap.size = bn; intro yn hn1 hn2 hn3 hn4 hn5; clear x) | refine W_tt ?_ | refine W_ff ?_ | refine W_test (fun hc => ?_) (fun hc => ?_) | go_step)
    refine X_ret Try.func10 (flush_calls HH4.out.rep hg2.ne hg2.bks) (fun r w5 hR => ?_)
    obtain ⟨rfl, hM5, hR5⟩ := hR
    have HH5 : Hid (HR w w5 b F4 (fill3 self l)) := Lib.hid (HH4.out.stepF hM5 hR5)
    have HM5 := Lib.hid (Mod.trans HM4.out hM5 (fun _ _ h => h) (fun k hk h => (HS4.out k h).elim id (fun h => by omega)) : Mod F W w5)
    clear hM5 hR5
    repeat' (first | refine X_gt ?_ | refine X_q ?_ | refine X_g ?_ | refine X_gf ?_ | refine X_niln ?_ | refine X_nil ?_ | (refine X_var (fun yn bn hn1 hn2 hn3 hn4 hn5 => ?_)) | refine W_seqk (fun K hK => ?_) | refine W_seqr ?_ | refine W_ret ?_ | refine W_skip ?_ | refine W_block ?_ | refine W_exit ?_ | (refine X_s (fun x K hK => ?_); go_simp; refine hK _ _ (Ext.alloc _ _) ?_; clear hK K; refine X_al x ?_; generalize (World.later _ x).heap.size = bn; intro yn hn1 hn2 hn3 hn4 hn5; clear x) | refine W_tt ?_ | refine W_ff ?_ | refine W_test (fun hc => ?_) (fun hc => ?_) | go_step)
    exact Body_ret hd ⟨rfl, HM5.out, F4, HH5.out, HS4.out⟩
end Go.Ws
