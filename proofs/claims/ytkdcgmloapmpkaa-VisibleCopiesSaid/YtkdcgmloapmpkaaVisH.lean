import Derived.Test.YtkdcgmloapmpkaaVisG
namespace Go.Ws
open Go Go.RowKit Go.Proofs
set_option maxHeartbeats 2000000
set_option maxRecDepth 100000
set_option linter.unusedVariables false
set_option linter.unusedSimpArgs false
set_option pp.deepTerms true
set_option pp.maxSteps 100000000

/-- What To answers: the number, what more is told. -/
def toNo (log : List Ent) (at_ n : Int) : Int := if n < 0 ∨ (log.length : Int) < n then 4 else if n < at_ then 2 else 0
def toMore (log : List Ent) (told : List Int) (n : Int) : List Int := (viewL (log.take n.toNat)).drop told.length
theorem viewL_len (p : List Ent) : (viewL p).length ≤ p.length := by
  have := viewTo_len p (stableB p).toNat
  have h1 := stableB_le p
  unfold viewL
  omega
theorem Rd.dropI {w : World} {xs : List Int} {A : Option Addr} {n c m : Nat} (h : RdI w (.slice A n c) xs) (hm : m ≤ xs.length) : RdI w (.slice (if c = m then A else A.map (fun x => x.add m)) (xs.length - m) (c - m)) (xs.drop m) := by
  have hn := h.length
  obtain ⟨A', c', h1, h2, h3, h4⟩ := h
  cases h1
  refine ⟨_, _, by rw [List.length_drop], by rw [List.length_drop]; omega, by omega, ?_⟩
  rcases h4 with ⟨rfl, rfl⟩ | ⟨b, o, rfl, hb, hr⟩
  · left; exact ⟨by split <;> rfl, by simp⟩
  · right
    by_cases hc : c = m
    · refine ⟨b, o, by rw [if_pos hc], hb, ?_⟩
      intro i x hx j u hu
      have : xs.drop m = [] := List.drop_eq_nil_of_le (by omega)
      rw [this] at hx; cases hx
    · refine ⟨b, o + m * 1, ?_, hb, hr.drop m⟩
      rw [if_neg hc]
      simp [Addr.add]
theorem rto_calls {b : Nat} {w : World} {F : Nat → Prop} {log : List Ent} {at_ : Int} {told : List Int} (h : Rdr w b F log at_ told) (n : Int) (hln : log.length ≤ 1000000) (htl : told.length ≤ 1000000) (htn : toNo log at_ n = 0 → told.length ≤ (viewL (log.take n.toNat)).length) :
    Ret Try.prog 32 #[.pointer (some ⟨b, 0, none⟩), .int .i64 n] w fun v w' =>
      (toNo log at_ n ≠ 0 → v = .tuple #[.slice none 0 0, .int .i64 (toNo log at_ n)] ∧ Ext w w') ∧
      (toNo log at_ n = 0 → ∃ q, v = .tuple #[q, .int .i64 0] ∧ Mod F w w' ∧ ∃ G : Nat → Prop, (∀ k, G k → F k ∨ w.heap.size ≤ k) ∧ Rdr w' b G log n (told ++ toMore log told n) ∧
        OwnI w' q (toMore log told n) ∧ ∀ k, q.ownBlock = some k → w.heap.size ≤ k ∧ ¬ G k) := by
  obtain ⟨tb, m, u, T, h, f1, f2, f3, f4⟩ := h
  have H := Lib.hid h
  have HF := Lib.hid (And.intro f1 (And.intro f2 (And.intro f3 f4)))
  obtain ⟨hb, h0, h1, h2, h3⟩ := h.cells
  have hus := h.own.rd (enc := ics) (k := 1) (fun _ => rfl)
  obtain ⟨A0, c, rfl, hc, hcm, HR⟩ := hus.int
  clear h f1 f2 f3 f4 h1 hus HR
  have hlen := rlen_calls (b := b) (w := w) (F := F) (log := log) (at_ := at_) (told := told) (H.out.copy (Ext.refl w) HF.out.1 HF.out.2.1 HF.out.2.2.1 HF.out.2.2.2)
  have HLEN := Lib.hid hlen
  clear hlen
  refine Fn_of Try.func32 rfl (Nat.le_of_ble_eq_true rfl) ?_; intro A hd hA; simp only [ix, Nat.reduceAdd]; replace hA : A.tmps.size = 63 := hA
  repeat' (first | refine X_pure Try.func70 (rnone_calls (b := b) (tb := tb) (by simp [hb]) (by simp [hb, h0])) ?_ | refine X_gpure Try.func70 (fun _ => rnone_calls (b := b) (tb := tb) (by simp [hb]) (by simp [hb, h0])) ?_ | refine X_pure Try.func37 (HLEN.out) ?_ | refine X_gpure Try.func37 (fun _ => HLEN.out) ?_ | refine X_d (fun vb hvb => ?_) | refine X_dg (fun vb hvb => ?_) | refine X_q ?_ | refine X_g ?_ | refine X_gf ?_ | refine X_niln ?_ | refine X_nil ?_ | (refine X_var (fun yn bn hn1 hn2 hn3 hn4 hn5 => ?_)) | refine W_seqk (fun K hK => ?_) | refine W_seqr ?_ | refine W_ret ?_ | refine W_skip ?_ | refine W_block ?_ | refine W_exit ?_ | (refine X_s (fun x K hK => ?_); go_simp; refine hK _ _ (Ext.alloc _ _) ?_; clear hK K; refine X_al x ?_; generalize (World.later _ x).heap.size = bn; intro yn hn1 hn2 hn3 hn4 hn5; clear x) | refine W_tt ?_ | refine W_ff ?_ | refine W_test (fun hc => ?_) (fun hc => ?_) | go_step)
  · have hno : toNo log at_ n = 4 := by
      unfold toNo; rw [if_pos]
      repeat cases ‹Eqn _ _›
      simpa using hc
    exact Body_ret2 hd ⟨fun _ => ⟨by rw [hno], by simp⟩, fun h => by rw [hno] at h; cases h⟩
  · rename_i hcr
    have hno : toNo log at_ n = 2 := by
      unfold toNo; rw [if_neg, if_pos (by simpa using hc)]
      repeat cases ‹Eqn _ _›
      simpa using hcr
    exact Body_ret2 hd ⟨fun _ => ⟨by rw [hno], by simp⟩, fun h => by rw [hno] at h; cases h⟩
  · rename_i hcr
    have hrg : ¬ (n < 0 ∨ (log.length : Int) < n) := by
      repeat cases ‹Eqn _ _›
      simpa using hcr
    have hno : toNo log at_ n = 0 := by
      unfold toNo; rw [if_neg hrg, if_neg (by simpa using hc)]
    have htn' := htn hno
    have HN := Lib.hid hno
    have HRG := Lib.hid hrg
    clear hno hrg hcr hc htn
    refine X_ret Try.func59 (tabLog_calls H.out.tab hln) (fun v1 w1 hR => ?_)
    obtain ⟨hE1, hO1, hf1⟩ := hR
    have hd1 := Lib.hid (hO1.rd Ent.len)
    clear hO1 hf1
    obtain ⟨y1, rfl⟩ := hE1.get
    repeat' (first | refine X_d (fun vb hvb => ?_) | refine X_dg (fun vb hvb => ?_) | refine X_q ?_ | refine X_g ?_ | refine X_gf ?_ | refine X_niln ?_ | refine X_nil ?_ | (refine X_var (fun yn bn hn1 hn2 hn3 hn4 hn5 => ?_)) | refine W_seqk (fun K hK => ?_) | refine W_seqr ?_ | refine W_ret ?_ | refine W_skip ?_ | refine W_block ?_ | refine W_exit ?_ | (refine X_s (fun x K hK => ?_); go_simp; refine hK _ _ (Ext.alloc _ _) ?_; clear hK K; refine X_al x ?_; generalize (World.later _ x).heap.size = bn; intro yn hn1 hn2 hn3 hn4 hn5; clear x) | refine W_tt ?_ | refine W_ff ?_ | refine W_test (fun hc => ?_) (fun hc => ?_) | go_step)
    refine X_ret Try.func20 (visView_calls log v1 n _ hd1.out hln) (fun v2 w2 hR => ?_)
    obtain ⟨hE2, -, -, hR⟩ := hR
    obtain ⟨u2, rfl, hO2, -⟩ := hR H.out.ok HRG.out
    have hE3 := Ext.trans hE1 hE2
    clear hd1 hE2 hE1
    obtain ⟨y2, rfl⟩ := hE3.get
    have hO3 := Lib.hid hO2
    have hO4 := Lib.hid (hO2.rd (enc := ics) (k := 1) (fun _ => rfl))
    obtain ⟨A2, c2, rfl, hc2, hcm2, -⟩ := hO4.out
    clear hO2
    generalize hvl : viewL (log.take n.toNat) = vl at *
    have hti : (told.length : Int) ≤ vl.length := by omega
    have htc : (told.length : Int) ≤ c2 := by omega
    repeat' (first | refine X_d (fun vb hvb => ?_) | refine X_dg (fun vb hvb => ?_) | refine X_q ?_ | refine X_g ?_ | refine X_gf ?_ | refine X_niln ?_ | refine X_nil ?_ | (refine X_var (fun yn bn hn1 hn2 hn3 hn4 hn5 => ?_)) | refine W_seqk (fun K hK => ?_) | refine W_seqr ?_ | refine W_ret ?_ | refine W_skip ?_ | refine W_block ?_ | refine W_exit ?_ | (refine X_s (fun x K hK => ?_); go_simp; refine hK _ _ (Ext.alloc _ _) ?_; clear hK K; refine X_al x ?_; generalize (World.later _ x).heap.size = bn; intro yn hn1 hn2 hn3 hn4 hn5; clear x) | refine W_tt ?_ | refine W_ff ?_ | refine W_test (fun hc => ?_) (fun hc => ?_) | go_step)
    have hdr := Rd.dropI hO4.out htn'
    refine X_ret Try.func73 (cloneI_calls hdr (by have := viewL_len (log.take n.toNat); rw [hvl] at this; simp at this ⊢; omega)) (fun q w3 hR => ?_)
    obtain ⟨hE4, hOq, hfq⟩ := hR
    have hE5 := Lib.hid (Ext.trans hE3 hE4)
    have hfq' : ∀ k, q.ownBlock = some k → w.heap.size ≤ k := fun k hk => Nat.le_trans y2.2.size (hfq k hk)
    clear hdr hO3 hO4 hfq hE3 hE4
    obtain ⟨y3, hy3⟩ := hE5.out.get
    subst hy3
    have HOq := Lib.hid hOq
    have HFq := Lib.hid hfq'
    clear hOq hfq'
    repeat' (first | refine X_d (fun vb hvb => ?_) | refine X_dg (fun vb hvb => ?_) | refine X_q ?_ | refine X_g ?_ | refine X_gf ?_ | refine X_niln ?_ | refine X_nil ?_ | (refine X_var (fun yn bn hn1 hn2 hn3 hn4 hn5 => ?_)) | refine W_seqk (fun K hK => ?_) | refine W_seqr ?_ | refine W_ret ?_ | refine W_skip ?_ | refine W_block ?_ | refine W_exit ?_ | (refine X_s (fun x K hK => ?_); go_simp; refine hK _ _ (Ext.alloc _ _) ?_; clear hK K; refine X_al x ?_; generalize (World.later _ x).heap.size = bn; intro yn hn1 hn2 hn3 hn4 hn5; clear x) | refine W_tt ?_ | refine W_ff ?_ | refine W_test (fun hc => ?_) (fun hc => ?_) | go_step)
    have hOu := H.out.own.later y3.2
    have hlq : (vl.drop told.length).length ≤ 1000000 := by have := viewL_len (log.take n.toNat); rw [hvl] at this; simp at this ⊢; omega
    refine X_append (ys := vl.drop told.length) elemInt hOu (HOq.out.rd (enc := ics) (k := 1) (fun _ => rfl)) (by omega) (by unfold maxLen; omega) (fun v' W4 hM4 hO4 hF4 _ => ?_)
    obtain ⟨A9, n9, c9, rfl⟩ : ∃ A9 n9 c9, v' = .slice A9 n9 c9 := by obtain ⟨A9, c9, h, _⟩ := Own.rd (enc := ics) (k := 1) (fun _ => rfl) hO4; exact ⟨_, _, _, h⟩
    repeat' (first | refine X_d (fun vb hvb => ?_) | refine X_dg (fun vb hvb => ?_) | refine X_q ?_ | refine X_g ?_ | refine X_gf ?_ | refine X_niln ?_ | refine X_nil ?_ | (refine X_var (fun yn bn hn1 hn2 hn3 hn4 hn5 => ?_)) | refine W_seqk (fun K hK => ?_) | refine W_seqr ?_ | refine W_ret ?_ | refine W_skip ?_ | refine W_block ?_ | refine W_exit ?_ | (refine X_s (fun x K hK => ?_); go_simp; refine hK _ _ (Ext.alloc _ _) ?_; clear hK K; refine X_al x ?_; generalize (World.later _ x).heap.size = bn; intro yn hn1 hn2 hn3 hn4 hn5; clear x) | refine W_tt ?_ | refine W_ff ?_ | refine W_test (fun hc => ?_) (fun hc => ?_) | go_step)
    have hs3 : w.heap.size ≤ (w.later y3).heap.size := y3.2.size
    have hHB := H.out.here
    have hnu := H.out.nu
    refine X_store (off := 2) ((H.out.blk.later y3.2).mod hM4 (fun h => (hnu b h).2.1 rfl)) (fun W5 hM5 hB5 => ?_)
    repeat' (first | refine X_d (fun vb hvb => ?_) | refine X_dg (fun vb hvb => ?_) | refine X_q ?_ | refine X_g ?_ | refine X_gf ?_ | refine X_niln ?_ | refine X_nil ?_ | (refine X_var (fun yn bn hn1 hn2 hn3 hn4 hn5 => ?_)) | refine W_seqk (fun K hK => ?_) | refine W_seqr ?_ | refine W_ret ?_ | refine W_skip ?_ | refine W_block ?_ | refine W_exit ?_ | (refine X_s (fun x K hK => ?_); go_simp; refine hK _ _ (Ext.alloc _ _) ?_; clear hK K; refine X_al x ?_; generalize (World.later _ x).heap.size = bn; intro yn hn1 hn2 hn3 hn4 hn5; clear x) | refine W_tt ?_ | refine W_ff ?_ | refine W_test (fun hc => ?_) (fun hc => ?_) | go_step)
    refine X_store (off := 3) hB5 (fun W6 hM6 hB6 => ?_)
    repeat' (first | refine X_d (fun vb hvb => ?_) | refine X_dg (fun vb hvb => ?_) | refine X_q ?_ | refine X_g ?_ | refine X_gf ?_ | refine X_niln ?_ | refine X_nil ?_ | (refine X_var (fun yn bn hn1 hn2 hn3 hn4 hn5 => ?_)) | refine W_seqk (fun K hK => ?_) | refine W_seqr ?_ | refine W_ret ?_ | refine W_skip ?_ | refine W_block ?_ | refine W_exit ?_ | (refine X_s (fun x K hK => ?_); go_simp; refine hK _ _ (Ext.alloc _ _) ?_; clear hK K; refine X_al x ?_; generalize (World.later _ x).heap.size = bn; intro yn hn1 hn2 hn3 hn4 hn5; clear x) | refine W_tt ?_ | refine W_ff ?_ | refine W_test (fun hc => ?_) (fun hc => ?_) | go_step)
    have hMM : Mod (fun k => Value.ownBlock (.slice A0 told.length c) = some k ∨ k = b) (w.later y3) W6 := Mod.trans (Mod.trans hM4 hM5 (fun k _ h => .inl h) (fun k _ h => .inr h)) hM6 (fun _ _ h => h) (fun k _ h => .inr h)
    have hs6 := hMM.size
    have hv9 : ∀ k, Value.ownBlock (.slice A9 n9 c9) = some k → (Value.ownBlock (.slice A0 told.length c) = some k) ∨ (w.later y3).heap.size ≤ k := by
      intro k hk
      rcases hF4 with h | ⟨g, h, hg⟩
      · exact .inl (h ▸ hk)
      · rw [h] at hk; cases hk; exact .inr hg
    refine Body_ret2 hd ⟨fun h => absurd HN.out h, fun _ => ⟨q, rfl, Mod.trans y3.2 hMM (fun _ _ h => h.elim) (fun k _ h => h.elim (HF.out.2.2.1 k) (fun e => e ▸ HF.out.1)), fun k => k = b ∨ k = m ∨ Value.ownBlock (.slice A9 n9 c9) = some k ∨ T k, ?_, ⟨tb, m, _, T, ⟨?_, ?_, H.out.ok, ?_, H.out.nb, H.out.nm, ?_, ?_, ?_⟩, .inl rfl, .inr (.inl rfl), fun k hk => .inr (.inr (.inl hk)), fun k hk => .inr (.inr (.inr hk))⟩, ?_, ?_⟩⟩
    · rintro k (rfl | rfl | h | h)
      · exact .inl HF.out.1
      · exact .inl HF.out.2.1
      · rcases hv9 k h with h | h
        · exact .inl (HF.out.2.2.1 k h)
        · exact .inr (by omega)
      · exact .inl (HF.out.2.2.2 k h)
    · exact hB6.congr (fun k hk => by
        obtain rfl | rfl | rfl | rfl : k = 0 ∨ k = 1 ∨ k = 2 ∨ k = 3 := by omega
        all_goals simp [put_one, Value.cells])
    · exact (H.out.tab.later y3.2).mod hMM (fun k hk h => h.elim (fun h => (hnu k h).1 hk) (fun e => H.out.nb (e ▸ hk)))
    · intro k hk; have := H.out.ftl k hk; omega
    · intro k hk
      rcases hv9 k hk with h | h
      · exact hnu k h
      · refine ⟨fun h' => ?_, fun h' => ?_, fun h' => ?_⟩
        · have := H.out.ftl k h'; omega
        · have := hHB b (.inl rfl); omega
        · have := hHB m (.inr (.inl rfl)); omega
    · exact (H.out.hm.later y3.2).mod hMM (fun h => h.elim (fun h => (hnu m h).2.2 rfl) (fun e => H.out.bm e.symm))
    · have hb9 : ∀ k, Value.ownBlock (.slice A9 n9 c9) = some k → ¬ k = b := by
        intro k hk e
        rcases hv9 k hk with h | h
        · exact (hnu k h).2.1 e
        · omega
      have := (hO4.mod hM5 hb9).mod hM6 hb9
      unfold toMore; rw [hvl]; exact this
    · unfold toMore; rw [hvl]
      exact HOq.out.mod hMM (fun k hk h => by
        have := HFq.out k hk
        rcases h with h | h
        · have := hHB k (.inr (.inr (.inl h))); omega
        · omega)
    · intro k hk
      have h1 := HFq.out k hk
      have h2 := HOq.out.lt k hk
      refine ⟨h1, ?_⟩
      rintro (h | h | h | h)
      · omega
      · have := hHB m (.inr (.inl rfl)); omega
      · rcases hv9 k h with h | h
        · have := hHB k (.inr (.inr (.inl h))); omega
        · omega
      · have := H.out.ftl k h; omega
end Go.Ws
