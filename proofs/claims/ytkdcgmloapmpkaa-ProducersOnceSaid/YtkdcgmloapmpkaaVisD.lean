import Derived.Test.YtkdcgmloapmpkaaVisC
namespace Go.Ws
open Go Go.RowKit Go.Proofs
set_option maxHeartbeats 2000000
set_option maxRecDepth 100000
set_option linter.unusedVariables false
set_option linter.unusedSimpArgs false
set_option pp.deepTerms true
set_option pp.maxSteps 100000000

theorem appendSeq_calls {w : World} {gf : FuncId} {fn : Func} {lb : Array Value} {S : List Int → Prop} {Rb : Nat → Prop} {N : Nat} (hgf : Try.prog.funcs[gf]? = some fn) (hcall : callable fn = true) (hseq : Iter Try.prog gf lb (fun x : Int => #[.int .i64 x]) S (fun xs => xs.length ≤ N) Rb w) (hRd : ∀ k, Rb k → k < w.heap.size) (hN : N ≤ 1000000) :
    Ret Try.prog 84 #[.slice none 0 0, .func (.func gf) #[] lb] w fun v w' => ∃ xs, S xs ∧ Ext w w' ∧ OwnI w' v xs ∧ ∀ b, v.ownBlock = some b → w.heap.size ≤ b := by
  refine Fn_of Try.func84 rfl (Nat.le_of_ble_eq_true rfl) ?_; intro A hd hA; simp only [ix, Nat.reduceAdd]; replace hA : A.tmps.size = 13 := hA
  repeat' (first | refine X_d (fun vb hvb => ?_) | refine X_dg (fun vb hvb => ?_) | refine X_q ?_ | refine X_g ?_ | refine X_gf ?_ | refine X_niln ?_ | refine X_nil ?_ | (refine X_var (fun yn bn hn1 hn2 hn3 hn4 hn5 => ?_)) | refine W_seqk (fun K hK => ?_) | refine W_seqr ?_ | refine W_ret ?_ | refine W_skip ?_ | refine W_block ?_ | refine W_exit ?_ | (refine X_s (fun x K hK => ?_); go_simp; refine hK _ _ (Ext.alloc _ _) ?_; clear hK K; refine X_al x ?_; generalize (World.later _ x).heap.size = bn; intro yn hn1 hn2 hn3 hn4 hn5; clear x) | refine W_tt ?_ | refine W_ff ?_ | refine W_test (fun hc => ?_) (fun hc => ?_) | go_step)
  rename Nat => bx
  have hbk : Blk (w.later yn) bx 24 1 (fun _ => .slice none 0 0) := Blk.one hn5.out
  have hwn : w.heap.size ≤ (w.later yn).heap.size := yn.2.size
  refine W_range (ps := [7]) (encs := fun x : Int => [.int .i64 x]) hgf hcall (hseq.later yn.2) (fun _ => rfl) (by go_simp; exact Is.mk _)
    (fun pre B W => ∃ u, B = (fun k => k = bx ∨ u.ownBlock = some k) ∧ Ext w W ∧ Blk W bx 24 1 (fun _ => u) ∧ OwnI W u pre ∧ ∀ b, u.ownBlock = some b → w.heap.size ≤ b ∧ b ≠ bx) (fun _ _ _ _ => False) ?_ ?_ (fun k => k = bx ∨ Value.ownBlock (.slice none 0 0) = some k) ⟨_, rfl, yn.2, hbk, Own.nil _, by intro b hb; cases hb⟩ ?_ ?_ ?_ ?_
  · rintro pre B W W' ⟨u, rfl, hE, hB, hO, hf⟩ hM
    exact ⟨u, rfl, Mod.trans hE hM (fun _ _ h => h) (fun k hk h => by have := h.2; omega), hB.mod hM (fun h => h.1 (.inl rfl)), hO.mod hM (fun b hb h => h.1 (.inr hb)), hf⟩
  · intro c pre B W W' h; exact h.elim
  · rintro k (rfl | h)
    · exact ⟨hn2, fun h => by have := hRd _ h; omega⟩
    · cases h
  · rintro l pre B x W hl1 hl2 ⟨u, rfl, hE, hB, hO, hf⟩ hBl hpre
    simp only [List.zip_cons_cons, List.zip_nil_right, List.reverse_cons, List.reverse_nil, List.nil_append, List.singleton_append]
    repeat' (first | refine X_d (fun vb hvb => ?_) | refine X_dg (fun vb hvb => ?_) | refine X_q ?_ | refine X_g ?_ | refine X_gf ?_ | refine X_niln ?_ | refine X_nil ?_ | (refine X_var (fun yn bn hn1 hn2 hn3 hn4 hn5 => ?_)) | refine W_seqk (fun K hK => ?_) | refine W_seqr ?_ | refine W_ret ?_ | refine W_skip ?_ | refine W_block ?_ | refine W_exit ?_ | (refine X_s (fun x K hK => ?_); go_simp; refine hK _ _ (Ext.alloc _ _) ?_; clear hK K; refine X_al x ?_; generalize (World.later _ x).heap.size = bn; intro yn hn1 hn2 hn3 hn4 hn5; clear x) | refine W_tt ?_ | refine W_ff ?_ | refine W_test (fun hc => ?_) (fun hc => ?_) | go_step)
    refine ⟨by simp, fun W2 hM2 => ?_⟩
    have hbl := (hBl bx (.inl rfl)).1
    have hB2 := hB.mod hM2 hbl
    have hO2 : OwnI W2 u pre := hO.mod hM2 (fun b hb => (hBl b (.inr hb)).1)
    have c0 := hB2.cell (k := 0) (by omega)
    have hlt := hB2.lt
    have HO := Lib.hid hO2
    have HB := Lib.hid hB2
    have HF := Lib.hid hf
    have HP := Lib.hid hpre
    clear hB hO hO2 hf hpre hBl hbk
    repeat' (first | refine X_d (fun vb hvb => ?_) | refine X_dg (fun vb hvb => ?_) | refine X_q ?_ | refine X_g ?_ | refine X_gf ?_ | refine X_niln ?_ | refine X_nil ?_ | (refine X_var (fun yn bn hn1 hn2 hn3 hn4 hn5 => ?_)) | refine W_seqk (fun K hK => ?_) | refine W_seqr ?_ | refine W_ret ?_ | refine W_skip ?_ | refine W_block ?_ | refine W_exit ?_ | (refine X_s (fun x K hK => ?_); go_simp; refine hK _ _ (Ext.alloc _ _) ?_; clear hK K; refine X_al x ?_; generalize (World.later _ x).heap.size = bn; intro yn hn1 hn2 hn3 hn4 hn5; clear x) | refine W_tt ?_ | refine W_ff ?_ | refine W_test (fun hc => ?_) (fun hc => ?_) | go_step)
    refine X_append (ys := [x]) elemInt (HO.out.later yn.2) (Rd.one (x := x) hn2 hn3 rfl) (by have := HP.out; simp at this ⊢; omega) (by have := HP.out; unfold maxLen; simp at this ⊢; omega) (fun v' W3 hM3 hO3 hF3 _ => ?_)
    obtain ⟨A9, n9, c9, rfl⟩ : ∃ A9 n9 c9, v' = .slice A9 n9 c9 := by obtain ⟨A9, c9, h, _⟩ := Own.rd (enc := ics) (k := 1) (fun _ => rfl) hO3; exact ⟨_, _, _, h⟩
    have hB3 : Blk W3 bx 24 1 (fun _ => u) := (HB.out.later yn.2).mod hM3 (fun h => (HF.out bx h).2 rfl)
    refine X_store (off := 0) hB3 (fun W4 hM4 hB4 => ?_)
    have hnb : ∀ b, Value.ownBlock (.slice A9 n9 c9) = some b → w.heap.size ≤ b ∧ b ≠ bx ∧ b < W3.heap.size ∧ (u.ownBlock = some b ∨ W.heap.size ≤ b) := by
      intro b hb
      have hbl := hO3.lt b hb
      have hW2 := hM2.size
      have hY : W2.heap.size ≤ (W2.later yn).heap.size := yn.2.size
      have hWs := hE.size
      rcases hF3 with h | ⟨g, h, hg⟩
      · have := HF.out b (h ▸ hb)
        exact ⟨this.1, this.2, hbl, .inl (h ▸ hb)⟩
      · obtain rfl : g = b := by rw [h] at hb; cases hb; rfl
        exact ⟨by omega, by omega, hbl, .inr (by omega)⟩
    have hO4 : OwnI W4 (.slice A9 n9 c9) (pre ++ [x]) := hO3.mod hM4 (fun b hb h => (hnb b hb).2.1 h)
    have hB5 : Blk W4 bx 24 1 (fun _ => .slice A9 n9 c9) := hB4.congr (fun k hk => by
      obtain rfl : k = 0 := by omega
      simp [put_one, Value.cells])
    have hMM : Mod (fun k => (k = bx ∨ u.ownBlock = some k) ∨ W.heap.size ≤ k) W2 W4 := Mod.trans (Mod.trans yn.2 hM3 (fun _ _ h => h.elim) (fun k _ h => .inl (.inr h))) hM4 (fun _ _ h => h) (fun k _ h => .inl (.inl h))
    have hE4 : Ext w W4 := by
      refine Mod.trans (Mod.trans hE hM2 (fun _ _ h => h) (fun k hk e => by subst e; omega)) hMM (fun _ _ h => h) (fun k hk h => ?_)
      rcases h with (h | h) | h
      · subst h; omega
      · have := (HF.out k h).1; omega
      · have := hE.size; omega
    repeat' (first | refine X_d (fun vb hvb => ?_) | refine X_dg (fun vb hvb => ?_) | refine X_q ?_ | refine X_g ?_ | refine X_gf ?_ | refine X_niln ?_ | refine X_nil ?_ | (refine X_var (fun yn bn hn1 hn2 hn3 hn4 hn5 => ?_)) | refine W_seqk (fun K hK => ?_) | refine W_seqr ?_ | refine W_ret ?_ | refine W_skip ?_ | refine W_block ?_ | refine W_exit ?_ | (refine X_s (fun x K hK => ?_); go_simp; refine hK _ _ (Ext.alloc _ _) ?_; clear hK K; refine X_al x ?_; generalize (World.later _ x).heap.size = bn; intro yn hn1 hn2 hn3 hn4 hn5; clear x) | refine W_tt ?_ | refine W_ff ?_ | refine W_test (fun hc => ?_) (fun hc => ?_) | go_step)
    exact ⟨_, ⟨_, rfl, hE4, hB5, hO4, fun b hb => ⟨(hnb b hb).1, (hnb b hb).2.1⟩⟩, hMM, fun k hk => by
      have hs4 := hM4.size
      rcases hk with h | h
      · subst h; exact ⟨.inl (.inl rfl), hB5.lt⟩
      · exact ⟨(hnb k h).2.2.2.elim (fun h => .inl (.inr h)) .inr, Nat.lt_of_lt_of_le (hnb k h).2.2.1 hs4⟩⟩
  · rintro D xs B W hD hBD hS ⟨u, rfl, hE, hB, hO, hf⟩ hDD
    have c0 := hB.cell (k := 0) (by omega)
    have hlt := hB.lt
    have hwD : w.heap.size ≤ D := Nat.le_trans yn.2.size hD
    have HO := Lib.hid hO
    have HF := Lib.hid hf
    clear hO hf
    repeat' (first | refine X_d (fun vb hvb => ?_) | refine X_dg (fun vb hvb => ?_) | refine X_q ?_ | refine X_g ?_ | refine X_gf ?_ | refine X_niln ?_ | refine X_nil ?_ | (refine X_var (fun yn bn hn1 hn2 hn3 hn4 hn5 => ?_)) | refine W_seqk (fun K hK => ?_) | refine W_seqr ?_ | refine W_ret ?_ | refine W_skip ?_ | refine W_block ?_ | refine W_exit ?_ | (refine X_s (fun x K hK => ?_); go_simp; refine hK _ _ (Ext.alloc _ _) ?_; clear hK K; refine X_al x ?_; generalize (World.later _ x).heap.size = bn; intro yn hn1 hn2 hn3 hn4 hn5; clear x) | refine W_tt ?_ | refine W_ff ?_ | refine W_test (fun hc => ?_) (fun hc => ?_) | go_step)
    refine Body_retm (by simp [hd]) hDD ⟨xs, hS, hE.putNew hwD _, HO.out.mod (mod_putObj _ _ _) (fun b hb e => hBD (.inr (e ▸ hb))), fun b hb => (HF.out b hb).1⟩
  · intro D c pre B W _ _ h
    exact h.elim
end Go.Ws
