import Derived.Deep.MidRow
import Derived.Test.YtkdcgmloapmpkaaTabO
namespace Go.Ws
open Go Go.RowKit Go.Proofs
set_option maxHeartbeats 2000000
set_option maxRecDepth 100000
set_option linter.unusedVariables false
set_option linter.unusedSimpArgs false
set_option pp.deepTerms true
set_option pp.maxSteps 100000000

section
variable {P : Program} {Q : Post} {A : Act} {fl : List (Nat × Value)} {ops : Array Oper} {o : Oper} {w : World}
/-- A whole block, loaded. -/
theorem X_loadall {rest : List (Oper × Nat)} {x : Operand} {t : TypeId} {d b n : Nat} {E : TypeId} {g : Nat → Value} {td : TypeDesc} (hb : Blk w b E n g)
    (h : wpX P ops Q rest (fr ((d, .agg ((List.range n).map g).toArray) :: fl) A) w) (ho : o.op = .load t x := by rfl) (hd : o.dst = some d := by rfl) (hg : o.guard = none := by rfl)
    (hu : P.underlying t = some td := by kernel_rfl) (htd : td.isRow = true := by rfl) (hi : (P.info? t).map (·.size) = some n := by kernel_rfl)
    (hx : Is ((fr fl A).eval x) (.pointer (some ⟨b, 0, none⟩)) := by go_simp; exact Is.mk _) : wpX P ops Q ((o, 0) :: rest) (fr fl A) w :=
  X_q h hd hg fun X => by
    have hb' : Blk (w.later X) b E n g := hb.later X.2
    have := run_loadAt_mid (P := P) (w.later X) b 0 t ((List.range n).map g) td (fun j v hv => by
      simp only [List.getElem?_map] at hv
      rcases Nat.lt_or_ge j n with hj | hj
      · rw [List.getElem?_range hj] at hv
        cases hv
        rw [Nat.zero_add]; exact hb'.cell hj
      · rw [List.getElem?_eq_none (by simpa using hj)] at hv; cases hv) hu htd (by simpa using hi)
    unfold Oper.quietAt execOp
    simp only [ho, hx.eq, this, Sem.run_bind, Result.andThen_ok, Sem.run_pure, Oper.quietUpon]
    exact ⟨trivial, trivial⟩
end
theorem ofFrom_append : ∀ (a b log : List Ent), ofFrom log a = 0 → ofFrom log (a ++ b) = ofFrom (log ++ a) b
  | [], b, log, _ => by simp
  | x :: a, b, log, h => by
    rw [ofFrom] at h
    rw [List.cons_append, ofFrom]
    by_cases hx : appendNo log x = 0
    · rw [if_pos hx] at h ⊢
      rw [ofFrom_append a b _ h]; simp
    · rw [if_neg hx] at h; exact absurd h hx
theorem ofFrom_take : ∀ (a log : List Ent) (n : Nat), ofFrom log a = 0 → ofFrom log (a.take n) = 0
  | [], log, n, _ => by simp [ofFrom]
  | x :: a, log, 0, _ => by simp [ofFrom]
  | x :: a, log, n + 1, h => by
    rw [ofFrom] at h
    rw [List.take_succ_cons, ofFrom]
    by_cases hx : appendNo log x = 0
    · rw [if_pos hx] at h ⊢
      exact ofFrom_take a _ n h
    · rw [if_neg hx] at h; exact absurd h hx
theorem ofNo_take {l : List Ent} (h : ofNo l = 0) (n : Nat) : ofNo (l.take n) = 0 := ofFrom_take l [] n h
theorem TabAt.one {w : World} {b : Nat} {u : Value} {mb : Nat → Nat → Nat} {g : Nat → Value} {l : List Ent} (h : TabAt w b u mb g l) : ∀ k, k < 22 → (g k).oneCell' = true := by
  intro k hk
  by_cases h0 : k = 0
  · subst h0
    rw [h.g0]
    rcases h.own.shape with ⟨rfl, _⟩ | ⟨x, c, rfl, _⟩ <;> rfl
  by_cases h21 : k = 21
  · subst h21; rw [h.g21]; rfl
  obtain ⟨i, j, hi, hj, rfl⟩ : ∃ i j, i < 4 ∧ j < 5 ∧ k = 1 + i * 5 + j := ⟨(k - 1) / 5, (k - 1) % 5, by omega, by omega, by omega⟩
  obtain rfl | rfl | rfl | rfl | rfl : j = 0 ∨ j = 1 ∨ j = 2 ∨ j = 3 ∨ j = 4 := by omega
  · rw [Nat.add_zero, h.high i hi]; rfl
  · rw [h.marked i hi]; rfl
  · rw [h.next i hi]; rfl
  · rw [h.opens i hi]; rfl
  · rw [h.done i hi]; rfl
/-- *t = *left -/
theorem TabAt.into {w w' : World} {b b' : Nat} {u : Value} {mb : Nat → Nat → Nat} {g : Nat → Value} {l : List Ent} (h : TabAt w b' u mb g l) (hM : Mod (· = b) w w') (hb : Blk w' b 110 22 g) (hne : ∀ k, Foot b' u mb k → k ≠ b) : TabAt w' b u mb g l := by
  have hmb : ∀ i j, i < 4 → j < 3 → ¬ (mb i j = b) := fun i j hi hj => hne _ (.inr (.inr ⟨i, j, hi, hj, rfl⟩))
  exact ⟨hb, h.g0, h.g21, h.own.mod hM (fun k hk => hne k (.inr (.inl hk))), h.high, h.marked, h.next, h.opens, h.done,
    fun i hi => (h.mnext i hi).mod hM (hmb i 0 hi (by omega)), fun i hi => (h.mopens i hi).mod hM (hmb i 1 hi (by omega)), fun i hi => (h.mdone i hi).mod hM (hmb i 2 hi (by omega)), h.inj⟩
theorem tabTrunc_calls {b : Nat} {w : World} {F : Nat → Prop} {l : List Ent} (h : Tab w b F l) (hok : ofNo l = 0) (n : Int) : Ret Try.prog 54 #[.pointer (some ⟨b, 0, none⟩), .int .i64 n] w fun v w' =>
    if n < 0 ∨ (l.length : Int) < n then v = .int .i64 4 ∧ Ext w w' else v = .int .i64 0 ∧ Mod F w w' ∧ Tab w' b (fun k => F k ∨ w.heap.size ≤ k) (l.take n.toNat) := by
  obtain ⟨u, mb, g, h, hF⟩ := h
  have HF := Lib.hid hF
  clear hF
  have HT := Lib.hid h
  have hs := h.seen
  clear h
  obtain ⟨hlt, hmade, hlog, hrd⟩ := hs
  have hrd0 := Lib.hid hrd
  obtain ⟨A0, c, rfl, hc, hcm, -⟩ := hrd.ent
  clear hrd
  by_cases hn : n < 0 ∨ (l.length : Int) < n
  · simp only [if_pos hn]
    have HN := Lib.hid hn
    clear hn
    refine Fn_of Try.func54 rfl (Nat.le_of_ble_eq_true rfl) ?_; intro A hd hA; simp only [ix, Nat.reduceAdd]; replace hA : A.tmps.size = 42 := hA
    repeat' (first | refine X_pure Try.func74 (none_calls (b := b) (by simp [hlt]) (by simp [hlt, hmade])) ?_ | refine X_gpure Try.func74 (fun _ => none_calls (b := b) (by simp [hlt]) (by simp [hlt, hmade])) ?_ | refine X_d (fun vb hvb => ?_) | refine X_dg (fun vb hvb => ?_) | refine X_q ?_ | refine X_g ?_ | refine X_gf ?_ | refine X_niln ?_ | refine X_nil ?_ | (refine X_var (fun yn bn hn1 hn2 hn3 hn4 hn5 => ?_)) | refine W_seqk (fun K hK => ?_) | refine W_seqr ?_ | refine W_ret ?_ | refine W_skip ?_ | refine W_block ?_ | refine W_exit ?_ | (refine X_s (fun x K hK => ?_); go_simp; refine hK _ _ (Ext.alloc _ _) ?_; clear hK K; refine X_al x ?_; generalize (World.later _ x).heap.size = bn; intro yn hn1 hn2 hn3 hn4 hn5; clear x) | refine W_tt ?_ | refine W_ff ?_ | refine W_test (fun hc => ?_) (fun hc => ?_) | go_step)
    · exact Body_ret hd ⟨rfl, by simp⟩
    · exfalso
      cases hvb
      have := HN.out
      simp at hc; omega
  · simp only [if_neg hn]
    obtain ⟨m, rfl⟩ : ∃ m : Nat, n = m := ⟨n.toNat, by omega⟩
    have hml : m ≤ l.length := by omega
    have hmc : (m : Int) ≤ c := by omega
    have hml' : ¬ ((l.length : Int) < m) := by omega
    rw [Int.toNat_natCast]
    clear hn
    refine Fn_of Try.func54 rfl (Nat.le_of_ble_eq_true rfl) ?_; intro A hd hA; simp only [ix, Nat.reduceAdd]; replace hA : A.tmps.size = 42 := hA
    repeat' (first | refine X_pure Try.func74 (none_calls (b := b) (by simp [hlt]) (by simp [hlt, hmade])) ?_ | refine X_gpure Try.func74 (fun _ => none_calls (b := b) (by simp [hlt]) (by simp [hlt, hmade])) ?_ | refine X_d (fun vb hvb => ?_) | refine X_dg (fun vb hvb => ?_) | refine X_q ?_ | refine X_g ?_ | refine X_gf ?_ | refine X_niln ?_ | refine X_nil ?_ | (refine X_var (fun yn bn hn1 hn2 hn3 hn4 hn5 => ?_)) | refine W_seqk (fun K hK => ?_) | refine W_seqr ?_ | refine W_ret ?_ | refine W_skip ?_ | refine W_block ?_ | refine W_exit ?_ | (refine X_s (fun x K hK => ?_); go_simp; refine hK _ _ (Ext.alloc _ _) ?_; clear hK K; refine X_al x ?_; generalize (World.later _ x).heap.size = bn; intro yn hn1 hn2 hn3 hn4 hn5; clear x) | refine W_tt ?_ | refine W_ff ?_ | refine W_test (fun hc => ?_) (fun hc => ?_) | go_step)
    · exfalso
      cases hvb
      simp at hc
      omega
    clear hc hvb
    have hok' := ofNo_take hok m
    refine X_ret Try.func43 (tabOf_calls (l.take m) (.slice A0 m c) _ ((hrd0.out.take m hml).later (by simp))) (fun v' w' hR => ?_)
    obtain ⟨hE', hR1, -⟩ := hR
    obtain ⟨bt, rfl, hTT⟩ := hR1 hok'
    obtain ⟨y', rfl⟩ := hE'.get
    have HTT := Lib.hid hTT
    clear hR1 hTT
    repeat' (first | refine X_d (fun vb hvb => ?_) | refine X_dg (fun vb hvb => ?_) | refine X_q ?_ | refine X_g ?_ | refine X_gf ?_ | refine X_niln ?_ | refine X_nil ?_ | (refine X_var (fun yn bn hn1 hn2 hn3 hn4 hn5 => ?_)) | refine W_seqk (fun K hK => ?_) | refine W_seqr ?_ | refine W_ret ?_ | refine W_skip ?_ | refine W_block ?_ | refine W_exit ?_ | (refine X_s (fun x K hK => ?_); go_simp; refine hK _ _ (Ext.alloc _ _) ?_; clear hK K; refine X_al x ?_; generalize (World.later _ x).heap.size = bn; intro yn hn1 hn2 hn3 hn4 hn5; clear x) | refine W_tt ?_ | refine W_ff ?_ | refine W_test (fun hc => ?_) (fun hc => ?_) | go_step)
    obtain ⟨u', mb', g', T', hF'⟩ := HTT.out
    refine X_loadall T'.blk ?_ (hu := Try.underlying110)
    repeat' (first | refine X_d (fun vb hvb => ?_) | refine X_dg (fun vb hvb => ?_) | refine X_q ?_ | refine X_g ?_ | refine X_gf ?_ | refine X_niln ?_ | refine X_nil ?_ | (refine X_var (fun yn bn hn1 hn2 hn3 hn4 hn5 => ?_)) | refine W_seqk (fun K hK => ?_) | refine W_seqr ?_ | refine W_ret ?_ | refine W_skip ?_ | refine W_block ?_ | refine W_exit ?_ | (refine X_s (fun x K hK => ?_); go_simp; refine hK _ _ (Ext.alloc _ _) ?_; clear hK K; refine X_al x ?_; generalize (World.later _ x).heap.size = bn; intro yn hn1 hn2 hn3 hn4 hn5; clear x) | refine W_tt ?_ | refine W_ff ?_ | refine W_test (fun hc => ?_) (fun hc => ?_) | go_step)
    refine X_store (off := 0) (v := .agg ((List.range 22).map g').toArray) (HT.out.blk.later (by simp)) (fun W' hM' hB' => ?_) rfl rfl rfl (by go_simp; exact Is.mk _) (by go_simp; exact Is.mk _) (by kernel_rfl) (by simp [Value.cells]) (by
      simp only [Value.cells, List.all_toArray, List.all_map, List.all_eq_true, List.mem_range, Function.comp]
      exact fun k hk => T'.one k hk)
    have hFb : ∀ k, Foot bt u' mb' k → k ≠ b := fun k hk => by have := hF' k hk; omega
    have hB : Blk W' b 110 22 g' := hB'.congr fun k hk => by
      rw [put_in k (by simpa [Value.cells] using hk) (by omega)]
      simp [Value.cells, List.getD_eq_getElem?_getD, hk]
    have T2 := Lib.hid (T'.into hM' hB hFb)
    have HF' := Lib.hid hF'
    clear T' hF' hB' hB
    repeat' (first | refine X_d (fun vb hvb => ?_) | refine X_dg (fun vb hvb => ?_) | refine X_q ?_ | refine X_g ?_ | refine X_gf ?_ | refine X_niln ?_ | refine X_nil ?_ | (refine X_var (fun yn bn hn1 hn2 hn3 hn4 hn5 => ?_)) | refine W_seqk (fun K hK => ?_) | refine W_seqr ?_ | refine W_ret ?_ | refine W_skip ?_ | refine W_block ?_ | refine W_exit ?_ | (refine X_s (fun x K hK => ?_); go_simp; refine hK _ _ (Ext.alloc _ _) ?_; clear hK K; refine X_al x ?_; generalize (World.later _ x).heap.size = bn; intro yn hn1 hn2 hn3 hn4 hn5; clear x) | refine W_tt ?_ | refine W_ff ?_ | refine W_test (fun hc => ?_) (fun hc => ?_) | go_step)
    refine Body_ret hd ⟨rfl, Mod.trans y'.2 hM' (fun _ _ h => h.elim) (fun k _ h => by subst h; exact HF.out _ (.inl rfl)), u', mb', g', T2.out, ?_⟩
    rintro k (rfl | h | ⟨i, j, hi, hj, rfl⟩)
    · exact .inl (HF.out _ (.inl rfl))
    · exact .inr (HF'.out k (.inr (.inl h)))
    · exact .inr (HF'.out _ (.inr (.inr ⟨i, j, hi, hj, rfl⟩)))
end Go.Ws
