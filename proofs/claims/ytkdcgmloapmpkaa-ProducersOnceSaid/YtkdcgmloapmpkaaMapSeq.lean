import Derived.Test.YtkdcgmloapmpkaaMapIter
import Derived.Test.YtkdcgmloapmpkaaTypes
namespace Go.Ws
open Go Go.RowKit Go.Proofs
set_option maxHeartbeats 2000000
set_option maxRecDepth 100000
set_option linter.unusedVariables false
set_option linter.unusedSimpArgs false
set_option pp.deepTerms true
set_option pp.maxSteps 100000000

/-- All of them, in some order. -/
def AllOf {κ β α : Type} (L : List (κ × β × Nat)) (g : κ × β × Nat → α) (xs : List α) : Prop := ∃ P : List (κ × β × Nat), P.Perm L ∧ xs = P.map g
def SomeOf {κ β α : Type} (L : List (κ × β × Nat)) (g : κ × β × Nat → α) (xs : List α) : Prop := ∃ P : List (κ × β × Nat), P.Nodup ∧ (∀ x ∈ P, x ∈ L) ∧ xs = P.map g
theorem YieldW.mono {P : Program} {l : Nat} {args : Array Value} {W : World} {R R' : Ending → World → Prop} (h : YieldW P l args W R) (hr : ∀ e w', R e w' → R' e w') : YieldW P l args W R' := by
  obtain ⟨fn, t, a, b, hy, hR⟩ := h
  exact ⟨fn, t, a, b, hy, RoundIn.mono hR hr⟩
theorem values_iter {w : World} {bx m : Nat} {L : List (Int × Int × Nat)} {clock : Nat} (hlt : bx < w.heap.size) (hbx : w.cell? ⟨bx, 0, none⟩ = some (.map (some m))) (hm : MapL ki ki w m L clock) :
    Iter Try.prog 104 #[.pointer (some ⟨bx, 0, none⟩)] (fun x : Int => #[.int .i64 x]) (AllOf L (·.2.1)) (SomeOf L (·.2.1)) (fun k => k = bx ∨ k = m) w := by
  intro l J Jx B0 W hE hJ hJx hJlt hY h0 hB0
  have hup : ∀ {pre B V V'}, J pre B V → Ext V V' → J pre B V' := fun h hE => hJ _ _ _ _ h (Mod.mono hE (fun _ _ h => h.elim))
  have main : Ret Try.prog 104 #[.func (.yield l) #[] #[], .pointer (some ⟨bx, 0, none⟩)] W fun v W' => (∃ xs B, AllOf L (·.2.1) xs ∧ J xs B W') ∨ ∃ pre, Jx pre W' := by
    obtain ⟨yW, rfl⟩ := hE.get
    have hm' : MapL ki ki (w.later yW) m L clock := hm.later yW.2
    have HY := Lib.hid hY
    have HJ := Lib.hid hJ
    have H0 := Lib.hid h0
    have HB0 := Lib.hid hB0
    have HLT := Lib.hid hJlt
    clear hY hJ h0 hB0 hJlt hJx
    refine Fn_of Try.func104 rfl (Nat.le_of_ble_eq_true rfl) ?_; intro A hd hA; simp only [ix, Nat.reduceAdd]; replace hA : A.tmps.size = 15 := hA
    repeat' (first | refine X_d (fun vb hvb => ?_) | refine X_dg (fun vb hvb => ?_) | refine X_q ?_ | refine X_g ?_ | refine X_gf ?_ | refine X_niln ?_ | refine X_nil ?_ | (refine X_var (fun yn bn hn1 hn2 hn3 hn4 hn5 => ?_)) | refine W_seqk (fun K hK => ?_) | refine W_seqr ?_ | refine W_ret ?_ | refine W_skip ?_ | refine W_block ?_ | refine W_exit ?_ | (refine X_s (fun x K hK => ?_); go_simp; refine hK _ _ (Ext.alloc _ _) ?_; clear hK K; refine X_al x ?_; generalize (World.later _ x).heap.size = bn; intro yn hn1 hn2 hn3 hn4 hn5; clear x) | refine W_tt ?_ | refine W_ff ?_ | refine W_test (fun hc => ?_) (fun hc => ?_) | go_step)
    refine X_range (kenc := ki) (venc := ki) hm' Try.underlying102 (fun y0 r hr0 hG0 => ?_)
    repeat' (first | refine X_d (fun vb hvb => ?_) | refine X_dg (fun vb hvb => ?_) | refine X_q ?_ | refine X_g ?_ | refine X_gf ?_ | refine X_niln ?_ | refine X_nil ?_ | (refine X_var (fun yn bn hn1 hn2 hn3 hn4 hn5 => ?_)) | refine W_seqk (fun K hK => ?_) | refine W_seqr ?_ | refine W_ret ?_ | refine W_skip ?_ | refine W_block ?_ | refine W_exit ?_ | (refine X_s (fun x K hK => ?_); go_simp; refine hK _ _ (Ext.alloc _ _) ?_; clear hK K; refine X_al x ?_; generalize (World.later _ x).heap.size = bn; intro yn hn1 hn2 hn3 hn4 hn5; clear x) | refine W_tt ?_ | refine W_ff ?_ | refine W_test (fun hc => ?_) (fun hc => ?_) | go_step)
    refine W_loops [0, 6] (fun n vs w' => ∃ pre B, n + pre.length = L.length ∧ vs = [.func (.yield l) #[] #[], .pointer (some ⟨r, 0, none⟩)] ∧ J (pre.map (·.2.1)) B w' ∧ Going ki ki w' r m L clock pre ∧ ∀ k, B k → k ≠ r ∧ k ≠ m) L.length hd hA (by decide) ?_ ?_
    · exact ⟨[], B0, by simp, by simp, hup H0.out y0.2, hG0, fun k hk => ⟨fun e => by have := HLT.out _ _ _ H0.out k hk; omega, fun e => HB0.out k hk (.inr e)⟩⟩
    clear hd hA A; intro n vs B w' hd hA _ ⟨pre, Bs, hn, hvs, hj, hg, hb⟩; subst hvs
    simp only [List.zip_cons_cons, List.zip_nil_right, List.zip_nil_left]
    have HG := Lib.hid hg
    have HJ1 := Lib.hid hj
    have HBs := Lib.hid hb
    clear hg hj hb
    repeat' (first | refine X_d (fun vb hvb => ?_) | refine X_dg (fun vb hvb => ?_) | refine X_q ?_ | refine X_g ?_ | refine X_gf ?_ | refine X_niln ?_ | refine X_nil ?_ | (refine X_var (fun yn bn hn1 hn2 hn3 hn4 hn5 => ?_)) | refine W_seqk (fun K hK => ?_) | refine W_seqr ?_ | refine W_ret ?_ | refine W_skip ?_ | refine W_block ?_ | refine W_exit ?_ | (refine X_s (fun x K hK => ?_); go_simp; refine hK _ _ (Ext.alloc _ _) ?_; clear hK K; refine X_al x ?_; generalize (World.later _ x).heap.size = bn; intro yn hn1 hn2 hn3 hn4 hn5; clear x) | refine W_tt ?_ | refine W_ff ?_ | refine W_test (fun hc => ?_) (fun hc => ?_) | go_step)
    refine X_next HG.out (fun hall => ?_) (fun x W2 hx hxp hM2 hG2 => ?_)
    · repeat' (first | refine X_d (fun vb hvb => ?_) | refine X_dg (fun vb hvb => ?_) | refine X_q ?_ | refine X_g ?_ | refine X_gf ?_ | refine X_niln ?_ | refine X_nil ?_ | (refine X_var (fun yn bn hn1 hn2 hn3 hn4 hn5 => ?_)) | refine W_seqk (fun K hK => ?_) | refine W_seqr ?_ | refine W_ret ?_ | refine W_skip ?_ | refine W_block ?_ | refine W_exit ?_ | (refine X_s (fun x K hK => ?_); go_simp; refine hK _ _ (Ext.alloc _ _) ?_; clear hK K; refine X_al x ?_; generalize (World.later _ x).heap.size = bn; intro yn hn1 hn2 hn3 hn4 hn5; clear x) | refine W_tt ?_ | refine W_ff ?_ | refine W_test (fun hc => ?_) (fun hc => ?_) | go_step)
      exact Body_ret0 hd (.inl ⟨_, Bs, ⟨pre, HG.out.full hall, rfl⟩, HJ1.out⟩)
    · have hlen : pre.length < L.length := by
        have := hG2.len
        simp at this; omega
      have hj2 : J (pre.map (·.2.1)) Bs W2 := HJ.out _ _ _ _ HJ1.out (Mod.mono hM2 (fun k _ e => by
        subst e
        exact ⟨fun h => (HBs.out _ h).1 rfl, hr0⟩))
      have HG2 := Lib.hid hG2
      have HJ2 := Lib.hid hj2
      clear hG2 hj2
      repeat' (first | refine X_d (fun vb hvb => ?_) | refine X_dg (fun vb hvb => ?_) | refine X_q ?_ | refine X_g ?_ | refine X_gf ?_ | refine X_niln ?_ | refine X_nil ?_ | (refine X_var (fun yn bn hn1 hn2 hn3 hn4 hn5 => ?_)) | refine W_seqk (fun K hK => ?_) | refine W_seqr ?_ | refine W_ret ?_ | refine W_skip ?_ | refine W_block ?_ | refine W_exit ?_ | (refine X_s (fun x K hK => ?_); go_simp; refine hK _ _ (Ext.alloc _ _) ?_; clear hK K; refine X_al x ?_; generalize (World.later _ x).heap.size = bn; intro yn hn1 hn2 hn3 hn4 hn5; clear x) | refine W_tt ?_ | refine W_ff ?_ | refine W_test (fun hc => ?_) (fun hc => ?_) | go_step)
      refine X_entry HG2.out ?_
      repeat' (first | refine X_d (fun vb hvb => ?_) | refine X_dg (fun vb hvb => ?_) | refine X_q ?_ | refine X_g ?_ | refine X_gf ?_ | refine X_niln ?_ | refine X_nil ?_ | (refine X_var (fun yn bn hn1 hn2 hn3 hn4 hn5 => ?_)) | refine W_seqk (fun K hK => ?_) | refine W_seqr ?_ | refine W_ret ?_ | refine W_skip ?_ | refine W_block ?_ | refine W_exit ?_ | (refine X_s (fun x K hK => ?_); go_simp; refine hK _ _ (Ext.alloc _ _) ?_; clear hK K; refine X_al x ?_; generalize (World.later _ x).heap.size = bn; intro yn hn1 hn2 hn3 hn4 hn5; clear x) | refine W_tt ?_ | refine W_ff ?_ | refine W_test (fun hc => ?_) (fun hc => ?_) | go_step)
      refine X_yield (R := fun b W' => (b = true ∧ ∃ B', J ((pre ++ [x]).map (·.2.1)) B' W' ∧ Going ki ki W' r m L clock (pre ++ [x]) ∧ ∀ k, B' k → k ≠ r ∧ k ≠ m) ∨ (b = false ∧ ∃ pre, Jx pre W')) (l := l) (lv := [.int .i64 x.2.1]) (fun X => ?_) (fun b W3 hR => ?_)
      · refine (HY.out (pre.map (·.2.1)) Bs x.2.1 (W2.later X) (hup HJ2.out X.2) ⟨pre ++ [x], HG2.out.nd, HG2.out.sub, by simp⟩).mono ?_
        rintro e W' (⟨rfl, B', hj', hM', hB'⟩ | ⟨rfl, hx'⟩)
        · have hg3 : Going ki ki (W2.later X) r m L clock (pre ++ [x]) := HG2.out.later X.2
          refine ⟨true, rfl, .inl ⟨rfl, B', by simpa using hj', hg3.mod hM' (fun h => (HBs.out _ h).1 rfl) (fun h => (HBs.out _ h).2 rfl), fun k hk => ?_⟩⟩
          rcases hB' k hk with h | h
          · exact HBs.out k h
          · exact ⟨fun e => by have := hg3.lt; omega, fun e => by have := hg3.map.lt; omega⟩
        · exact ⟨false, rfl, .inr ⟨rfl, _, hx'⟩⟩
      · rcases hR with ⟨rfl, B', hj', hg', hb'⟩ | ⟨rfl, hx'⟩
        · repeat' (first | refine X_d (fun vb hvb => ?_) | refine X_dg (fun vb hvb => ?_) | refine X_q ?_ | refine X_g ?_ | refine X_gf ?_ | refine X_niln ?_ | refine X_nil ?_ | (refine X_var (fun yn bn hn1 hn2 hn3 hn4 hn5 => ?_)) | refine W_seqk (fun K hK => ?_) | refine W_seqr ?_ | refine W_ret ?_ | refine W_skip ?_ | refine W_block ?_ | refine W_exit ?_ | (refine X_s (fun x K hK => ?_); go_simp; refine hK _ _ (Ext.alloc _ _) ?_; clear hK K; refine X_al x ?_; generalize (World.later _ x).heap.size = bn; intro yn hn1 hn2 hn3 hn4 hn5; clear x) | refine W_tt ?_ | refine W_ff ?_ | refine W_test (fun hc => ?_) (fun hc => ?_) | go_step)
          exact ⟨_, _, rfl, hd, hA, n - 1, by omega, pre ++ [x], B', by simp; omega, by simp, hj', hg', hb'⟩
        · repeat' (first | refine X_d (fun vb hvb => ?_) | refine X_dg (fun vb hvb => ?_) | refine X_q ?_ | refine X_g ?_ | refine X_gf ?_ | refine X_niln ?_ | refine X_nil ?_ | (refine X_var (fun yn bn hn1 hn2 hn3 hn4 hn5 => ?_)) | refine W_seqk (fun K hK => ?_) | refine W_seqr ?_ | refine W_ret ?_ | refine W_skip ?_ | refine W_block ?_ | refine W_exit ?_ | (refine X_s (fun x K hK => ?_); go_simp; refine hK _ _ (Ext.alloc _ _) ?_; clear hK K; refine X_al x ?_; generalize (World.later _ x).heap.size = bn; intro yn hn1 hn2 hn3 hn4 hn5; clear x) | refine W_tt ?_ | refine W_ff ?_ | refine W_test (fun hc => ?_) (fun hc => ?_) | go_step)
          exact Body_ret0 hd (.inr hx')
  refine Calls.mono (Fn.calls main) ?_
  rintro e W' ⟨W0, hE0, hR⟩
  cases e with
  | returned v =>
    refine ⟨v, rfl, ?_⟩
    rcases hR with ⟨xs, B, hS, hj⟩ | ⟨pre, hx⟩
    · exact .inl ⟨xs, B, hS, hup hj hE0⟩
    · exact .inr ⟨pre, hJx _ _ _ hx hE0⟩
  | panicked c => exact hR.elim
  | outgrown => exact hR.elim
theorem keys_iter {w : World} {bx m : Nat} {L : List (Int × Int × Nat)} {clock : Nat} (hlt : bx < w.heap.size) (hbx : w.cell? ⟨bx, 0, none⟩ = some (.map (some m))) (hm : MapL ki ki w m L clock) :
    Iter Try.prog 108 #[.pointer (some ⟨bx, 0, none⟩)] (fun x : Int => #[.int .i64 x]) (AllOf L (·.1)) (SomeOf L (·.1)) (fun k => k = bx ∨ k = m) w := by
  intro l J Jx B0 W hE hJ hJx hJlt hY h0 hB0
  have hup : ∀ {pre B V V'}, J pre B V → Ext V V' → J pre B V' := fun h hE => hJ _ _ _ _ h (Mod.mono hE (fun _ _ h => h.elim))
  have main : Ret Try.prog 108 #[.func (.yield l) #[] #[], .pointer (some ⟨bx, 0, none⟩)] W fun v W' => (∃ xs B, AllOf L (·.1) xs ∧ J xs B W') ∨ ∃ pre, Jx pre W' := by
    obtain ⟨yW, rfl⟩ := hE.get
    have hm' : MapL ki ki (w.later yW) m L clock := hm.later yW.2
    have HY := Lib.hid hY
    have HJ := Lib.hid hJ
    have H0 := Lib.hid h0
    have HB0 := Lib.hid hB0
    have HLT := Lib.hid hJlt
    clear hY hJ h0 hB0 hJlt hJx
    refine Fn_of Try.func108 rfl (Nat.le_of_ble_eq_true rfl) ?_; intro A hd hA; simp only [ix, Nat.reduceAdd]; replace hA : A.tmps.size = 14 := hA
    repeat' (first | refine X_d (fun vb hvb => ?_) | refine X_dg (fun vb hvb => ?_) | refine X_q ?_ | refine X_g ?_ | refine X_gf ?_ | refine X_niln ?_ | refine X_nil ?_ | (refine X_var (fun yn bn hn1 hn2 hn3 hn4 hn5 => ?_)) | refine W_seqk (fun K hK => ?_) | refine W_seqr ?_ | refine W_ret ?_ | refine W_skip ?_ | refine W_block ?_ | refine W_exit ?_ | (refine X_s (fun x K hK => ?_); go_simp; refine hK _ _ (Ext.alloc _ _) ?_; clear hK K; refine X_al x ?_; generalize (World.later _ x).heap.size = bn; intro yn hn1 hn2 hn3 hn4 hn5; clear x) | refine W_tt ?_ | refine W_ff ?_ | refine W_test (fun hc => ?_) (fun hc => ?_) | go_step)
    refine X_range (kenc := ki) (venc := ki) hm' Try.underlying102 (fun y0 r hr0 hG0 => ?_)
    repeat' (first | refine X_d (fun vb hvb => ?_) | refine X_dg (fun vb hvb => ?_) | refine X_q ?_ | refine X_g ?_ | refine X_gf ?_ | refine X_niln ?_ | refine X_nil ?_ | (refine X_var (fun yn bn hn1 hn2 hn3 hn4 hn5 => ?_)) | refine W_seqk (fun K hK => ?_) | refine W_seqr ?_ | refine W_ret ?_ | refine W_skip ?_ | refine W_block ?_ | refine W_exit ?_ | (refine X_s (fun x K hK => ?_); go_simp; refine hK _ _ (Ext.alloc _ _) ?_; clear hK K; refine X_al x ?_; generalize (World.later _ x).heap.size = bn; intro yn hn1 hn2 hn3 hn4 hn5; clear x) | refine W_tt ?_ | refine W_ff ?_ | refine W_test (fun hc => ?_) (fun hc => ?_) | go_step)
    refine W_loops [0, 5] (fun n vs w' => ∃ pre B, n + pre.length = L.length ∧ vs = [.func (.yield l) #[] #[], .pointer (some ⟨r, 0, none⟩)] ∧ J (pre.map (·.1)) B w' ∧ Going ki ki w' r m L clock pre ∧ ∀ k, B k → k ≠ r ∧ k ≠ m) L.length hd hA (by decide) ?_ ?_
    · exact ⟨[], B0, by simp, by simp, hup H0.out y0.2, hG0, fun k hk => ⟨fun e => by have := HLT.out _ _ _ H0.out k hk; omega, fun e => HB0.out k hk (.inr e)⟩⟩
    clear hd hA A; intro n vs B w' hd hA _ ⟨pre, Bs, hn, hvs, hj, hg, hb⟩; subst hvs
    simp only [List.zip_cons_cons, List.zip_nil_right, List.zip_nil_left]
    have HG := Lib.hid hg
    have HJ1 := Lib.hid hj
    have HBs := Lib.hid hb
    clear hg hj hb
    repeat' (first | refine X_d (fun vb hvb => ?_) | refine X_dg (fun vb hvb => ?_) | refine X_q ?_ | refine X_g ?_ | refine X_gf ?_ | refine X_niln ?_ | refine X_nil ?_ | (refine X_var (fun yn bn hn1 hn2 hn3 hn4 hn5 => ?_)) | refine W_seqk (fun K hK => ?_) | refine W_seqr ?_ | refine W_ret ?_ | refine W_skip ?_ | refine W_block ?_ | refine W_exit ?_ | (refine X_s (fun x K hK => ?_); go_simp; refine hK _ _ (Ext.alloc _ _) ?_; clear hK K; refine X_al x ?_; generalize (World.later _ x).heap.size = bn; intro yn hn1 hn2 hn3 hn4 hn5; clear x) | refine W_tt ?_ | refine W_ff ?_ | refine W_test (fun hc => ?_) (fun hc => ?_) | go_step)
    refine X_next HG.out (fun hall => ?_) (fun x W2 hx hxp hM2 hG2 => ?_)
    · repeat' (first | refine X_d (fun vb hvb => ?_) | refine X_dg (fun vb hvb => ?_) | refine X_q ?_ | refine X_g ?_ | refine X_gf ?_ | refine X_niln ?_ | refine X_nil ?_ | (refine X_var (fun yn bn hn1 hn2 hn3 hn4 hn5 => ?_)) | refine W_seqk (fun K hK => ?_) | refine W_seqr ?_ | refine W_ret ?_ | refine W_skip ?_ | refine W_block ?_ | refine W_exit ?_ | (refine X_s (fun x K hK => ?_); go_simp; refine hK _ _ (Ext.alloc _ _) ?_; clear hK K; refine X_al x ?_; generalize (World.later _ x).heap.size = bn; intro yn hn1 hn2 hn3 hn4 hn5; clear x) | refine W_tt ?_ | refine W_ff ?_ | refine W_test (fun hc => ?_) (fun hc => ?_) | go_step)
      exact Body_ret0 hd (.inl ⟨_, Bs, ⟨pre, HG.out.full hall, rfl⟩, HJ1.out⟩)
    · have hlen : pre.length < L.length := by
        have := hG2.len
        simp at this; omega
      have hj2 : J (pre.map (·.1)) Bs W2 := HJ.out _ _ _ _ HJ1.out (Mod.mono hM2 (fun k _ e => by
        subst e
        exact ⟨fun h => (HBs.out _ h).1 rfl, hr0⟩))
      have HG2 := Lib.hid hG2
      have HJ2 := Lib.hid hj2
      clear hG2 hj2
      repeat' (first | refine X_d (fun vb hvb => ?_) | refine X_dg (fun vb hvb => ?_) | refine X_q ?_ | refine X_g ?_ | refine X_gf ?_ | refine X_niln ?_ | refine X_nil ?_ | (refine X_var (fun yn bn hn1 hn2 hn3 hn4 hn5 => ?_)) | refine W_seqk (fun K hK => ?_) | refine W_seqr ?_ | refine W_ret ?_ | refine W_skip ?_ | refine W_block ?_ | refine W_exit ?_ | (refine X_s (fun x K hK => ?_); go_simp; refine hK _ _ (Ext.alloc _ _) ?_; clear hK K; refine X_al x ?_; generalize (World.later _ x).heap.size = bn; intro yn hn1 hn2 hn3 hn4 hn5; clear x) | refine W_tt ?_ | refine W_ff ?_ | refine W_test (fun hc => ?_) (fun hc => ?_) | go_step)
      refine X_entry HG2.out ?_
      repeat' (first | refine X_d (fun vb hvb => ?_) | refine X_dg (fun vb hvb => ?_) | refine X_q ?_ | refine X_g ?_ | refine X_gf ?_ | refine X_niln ?_ | refine X_nil ?_ | (refine X_var (fun yn bn hn1 hn2 hn3 hn4 hn5 => ?_)) | refine W_seqk (fun K hK => ?_) | refine W_seqr ?_ | refine W_ret ?_ | refine W_skip ?_ | refine W_block ?_ | refine W_exit ?_ | (refine X_s (fun x K hK => ?_); go_simp; refine hK _ _ (Ext.alloc _ _) ?_; clear hK K; refine X_al x ?_; generalize (World.later _ x).heap.size = bn; intro yn hn1 hn2 hn3 hn4 hn5; clear x) | refine W_tt ?_ | refine W_ff ?_ | refine W_test (fun hc => ?_) (fun hc => ?_) | go_step)
      refine X_yield (R := fun b W' => (b = true ∧ ∃ B', J ((pre ++ [x]).map (·.1)) B' W' ∧ Going ki ki W' r m L clock (pre ++ [x]) ∧ ∀ k, B' k → k ≠ r ∧ k ≠ m) ∨ (b = false ∧ ∃ pre, Jx pre W')) (l := l) (lv := [.int .i64 x.1]) (fun X => ?_) (fun b W3 hR => ?_)
      · refine (HY.out (pre.map (·.1)) Bs x.1 (W2.later X) (hup HJ2.out X.2) ⟨pre ++ [x], HG2.out.nd, HG2.out.sub, by simp⟩).mono ?_
        rintro e W' (⟨rfl, B', hj', hM', hB'⟩ | ⟨rfl, hx'⟩)
        · have hg3 : Going ki ki (W2.later X) r m L clock (pre ++ [x]) := HG2.out.later X.2
          refine ⟨true, rfl, .inl ⟨rfl, B', by simpa using hj', hg3.mod hM' (fun h => (HBs.out _ h).1 rfl) (fun h => (HBs.out _ h).2 rfl), fun k hk => ?_⟩⟩
          rcases hB' k hk with h | h
          · exact HBs.out k h
          · exact ⟨fun e => by have := hg3.lt; omega, fun e => by have := hg3.map.lt; omega⟩
        · exact ⟨false, rfl, .inr ⟨rfl, _, hx'⟩⟩
      · rcases hR with ⟨rfl, B', hj', hg', hb'⟩ | ⟨rfl, hx'⟩
        · repeat' (first | refine X_d (fun vb hvb => ?_) | refine X_dg (fun vb hvb => ?_) | refine X_q ?_ | refine X_g ?_ | refine X_gf ?_ | refine X_niln ?_ | refine X_nil ?_ | (refine X_var (fun yn bn hn1 hn2 hn3 hn4 hn5 => ?_)) | refine W_seqk (fun K hK => ?_) | refine W_seqr ?_ | refine W_ret ?_ | refine W_skip ?_ | refine W_block ?_ | refine W_exit ?_ | (refine X_s (fun x K hK => ?_); go_simp; refine hK _ _ (Ext.alloc _ _) ?_; clear hK K; refine X_al x ?_; generalize (World.later _ x).heap.size = bn; intro yn hn1 hn2 hn3 hn4 hn5; clear x) | refine W_tt ?_ | refine W_ff ?_ | refine W_test (fun hc => ?_) (fun hc => ?_) | go_step)
          exact ⟨_, _, rfl, hd, hA, n - 1, by omega, pre ++ [x], B', by simp; omega, by simp, hj', hg', hb'⟩
        · repeat' (first | refine X_d (fun vb hvb => ?_) | refine X_dg (fun vb hvb => ?_) | refine X_q ?_ | refine X_g ?_ | refine X_gf ?_ | refine X_niln ?_ | refine X_nil ?_ | (refine X_var (fun yn bn hn1 hn2 hn3 hn4 hn5 => ?_)) | refine W_seqk (fun K hK => ?_) | refine W_seqr ?_ | refine W_ret ?_ | refine W_skip ?_ | refine W_block ?_ | refine W_exit ?_ | (refine X_s (fun x K hK => ?_); go_simp; refine hK _ _ (Ext.alloc _ _) ?_; clear hK K; refine X_al x ?_; generalize (World.later _ x).heap.size = bn; intro yn hn1 hn2 hn3 hn4 hn5; clear x) | refine W_tt ?_ | refine W_ff ?_ | refine W_test (fun hc => ?_) (fun hc => ?_) | go_step)
          exact Body_ret0 hd (.inr hx')
  refine Calls.mono (Fn.calls main) ?_
  rintro e W' ⟨W0, hE0, hR⟩
  cases e with
  | returned v =>
    refine ⟨v, rfl, ?_⟩
    rcases hR with ⟨xs, B, hS, hj⟩ | ⟨pre, hx⟩
    · exact .inl ⟨xs, B, hS, hup hj hE0⟩
    · exact .inr ⟨pre, hJx _ _ _ hx hE0⟩
  | panicked c => exact hR.elim
  | outgrown => exact hR.elim
end Go.Ws
