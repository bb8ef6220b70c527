import Derived.Test.YtkdcgmloapmpkaaVisE
namespace Go.Ws
open Go Go.RowKit Go.Proofs
set_option maxHeartbeats 2000000
set_option maxRecDepth 100000
set_option linter.unusedVariables false
set_option linter.unusedSimpArgs false
set_option pp.deepTerms true
set_option pp.maxSteps 100000000

/-- Entries with their places. -/
def idx (l : List Ent) (k : Nat) : List (Int × Ent) := (l.take k).zipIdx.map fun p => ((p.2 : Int), p.1)
theorem idx_succ {l : List Ent} {k : Nat} {e : Ent} (h : l[k]? = some e) : idx l (k + 1) = idx l k ++ [((k : Int), e)] := by
  have hk : k < l.length := (List.getElem?_eq_some_iff.1 h).1
  have hl : (l.take k).length = k := by simp; omega
  unfold idx
  rw [take_snoc h, List.zipIdx_append]
  simp [hl]
theorem idx_len (l : List Ent) (k : Nat) : (idx l k).length ≤ k := by simp [idx]; omega
theorem idx_all (l : List Ent) : (idx l l.length).map (·.2) = l := by
  unfold idx
  rw [List.take_length, List.map_map]
  have : ((fun x : Int × Ent => x.2) ∘ fun p : Ent × Nat => ((p.2 : Int), p.1)) = Prod.fst := rfl
  rw [this]
  exact List.zipIdx_map_fst 0 l
theorem Rd.own_lt {α : Type} {enc : α → List Value} {k : Nat} {w : World} {v : Value} {xs : List α} (h : Rd enc k w v xs) : ∀ b, v.ownBlock = some b → b < w.heap.size := by
  obtain ⟨A, c, rfl, h2, h3, h4⟩ := h
  intro b hb
  rcases h4 with ⟨rfl, _⟩ | ⟨b', o, rfl, hb', _⟩
  · cases hb
  · cases hb; exact hb'
theorem all_iter {w : World} {bx : Nat} {v : Value} {l : List Ent} (hl : RdE w v l) (hbx : bx < w.heap.size) (c1 : w.cell? ⟨bx, 0, none⟩ = some v) :
    Iter Try.prog 113 #[.pointer (some ⟨bx, 0, none⟩)] (fun x : Int × Ent => #[.int .i64 x.1, x.2.v]) (fun xs => xs.map (·.2) = l) (fun xs => xs.length ≤ l.length) (fun k => k = bx ∨ v.ownBlock = some k) w := by
  intro ll J Jx B0 W hE hJ hJx hJlt hY h0 hB0
  have hup : ∀ {pre B V V'}, J pre B V → Ext V V' → J pre B V' := fun h hE => hJ _ _ _ _ h (Mod.mono hE (fun _ _ h => h.elim))
  have main : Ret Try.prog 113 #[.func (.yield ll) #[] #[], .pointer (some ⟨bx, 0, none⟩)] W fun v W' => (∃ xs B, xs.map (·.2) = l ∧ J xs B W') ∨ ∃ pre, Jx pre W' := by
    have hlW := Lib.hid (hl.later hE)
    obtain ⟨yW, rfl⟩ := hE.get
    obtain ⟨A0, c, rfl, hc, hcm, HR⟩ := hl.ent
    clear HR
    have HY := Lib.hid hY
    have HJ := Lib.hid hJ
    have H0 := Lib.hid h0
    have HB0 := Lib.hid hB0
    clear hY hJ h0 hB0 hJlt hJx hl
    refine Fn_of Try.func113 rfl (Nat.le_of_ble_eq_true rfl) ?_; intro A hd hA; simp only [ix, Nat.reduceAdd]; replace hA : A.tmps.size = 18 := hA
    repeat' (first | refine X_d (fun vb hvb => ?_) | refine X_dg (fun vb hvb => ?_) | refine X_q ?_ | refine X_g ?_ | refine X_gf ?_ | refine X_niln ?_ | refine X_nil ?_ | (refine X_var (fun yn bn hn1 hn2 hn3 hn4 hn5 => ?_)) | refine W_seqk (fun K hK => ?_) | refine W_seqr ?_ | refine W_ret ?_ | refine W_skip ?_ | refine W_block ?_ | refine W_exit ?_ | (refine X_s (fun x K hK => ?_); go_simp; refine hK _ _ (Ext.alloc _ _) ?_; clear hK K; refine X_al x ?_; generalize (World.later _ x).heap.size = bn; intro yn hn1 hn2 hn3 hn4 hn5; clear x) | refine W_tt ?_ | refine W_ff ?_ | refine W_test (fun hc => ?_) (fun hc => ?_) | go_step)
    refine W_loops [0, 5, 6, 7] (fun n vs w' => ∃ (k : Nat) (B : Nat → Prop), n + k = l.length ∧ vs = [.func (.yield ll) #[] #[], .slice A0 l.length c, .int .i64 l.length, .int .i64 k] ∧ J (idx l k) B w' ∧ RdE w' (.slice A0 l.length c) l ∧ ∀ k, B k → Value.ownBlock (.slice A0 l.length c) ≠ some k) l.length hd hA (by decide) ?_ ?_
    · exact ⟨0, B0, by omega, by simp, H0.out, hlW.out, fun k hk e => HB0.out k hk (.inr e)⟩
    clear hlW HB0 H0 hbx c1
    generalize w.later yW = W0 at *
    clear hd hA A; intro n vs B w' hd hA _ ⟨k, Bs, hn, hvs, hj, hr, hb⟩; subst hvs
    simp only [List.zip_cons_cons, List.zip_nil_right, List.zip_nil_left]
    have HJ1 := Lib.hid hj
    have HBs := Lib.hid hb
    have HR1 := Lib.hid hr
    obtain ⟨A1, c2, hvv, -, -, HR⟩ := hr.ent
    cases hvv
    clear hj hb hr
    by_cases hlt : k < l.length
    · obtain ⟨e, be, oe, he, hA0, hbe, r0, r1, r2, r3, r4, r5⟩ := HR.out k (by omega)
      subst hA0
      have hki : (k : Int) < l.length := by omega
      clear HR
      repeat' (first | refine X_d (fun vb hvb => ?_) | refine X_dg (fun vb hvb => ?_) | refine X_q ?_ | refine X_g ?_ | refine X_gf ?_ | refine X_niln ?_ | refine X_nil ?_ | (refine X_var (fun yn bn hn1 hn2 hn3 hn4 hn5 => ?_)) | refine W_seqk (fun K hK => ?_) | refine W_seqr ?_ | refine W_ret ?_ | refine W_skip ?_ | refine W_block ?_ | refine W_exit ?_ | (refine X_s (fun x K hK => ?_); go_simp; refine hK _ _ (Ext.alloc _ _) ?_; clear hK K; refine X_al x ?_; generalize (World.later _ x).heap.size = bn; intro yn hn1 hn2 hn3 hn4 hn5; clear x) | refine W_tt ?_ | refine W_ff ?_ | refine W_test (fun hc => ?_) (fun hc => ?_) | go_step)
      refine X_store (off := 0) (n := 6) (v := e.v) (Blk.new hn5.out) (fun W' hM hB => ?_)
      have hE1 : Ext w' W' := Ext.fresh (F := (· = bn)) (by simp : Ext w' (w'.later yn)) hM (fun i h => by subst h; exact hn1)
      have hj := Lib.hid (hup HJ1.out hE1)
      have hr := Lib.hid (HR1.out.later hE1)
      have hbt := hB.lt
      have q0 := hB.cell (k := 0) (by omega)
      have q1 := hB.cell (k := 1) (by omega)
      have q2 := hB.cell (k := 2) (by omega)
      have q3 := hB.cell (k := 3) (by omega)
      have q4 := hB.cell (k := 4) (by omega)
      have q5 := hB.cell (k := 5) (by omega)
      have hf := fun k => hB.frozen k
      clear hn1 hn2 hn3 hn4 hn5 hM hB HJ1 HR1 yn
      obtain ⟨y', rfl⟩ := hE1.get
      repeat' (first | refine X_d (fun vb hvb => ?_) | refine X_dg (fun vb hvb => ?_) | refine X_q ?_ | refine X_g ?_ | refine X_gf ?_ | refine X_niln ?_ | refine X_nil ?_ | (refine X_var (fun yn bn hn1 hn2 hn3 hn4 hn5 => ?_)) | refine W_seqk (fun K hK => ?_) | refine W_seqr ?_ | refine W_ret ?_ | refine W_skip ?_ | refine W_block ?_ | refine W_exit ?_ | (refine X_s (fun x K hK => ?_); go_simp; refine hK _ _ (Ext.alloc _ _) ?_; clear hK K; refine X_al x ?_; generalize (World.later _ x).heap.size = bn; intro yn hn1 hn2 hn3 hn4 hn5; clear x) | refine W_tt ?_ | refine W_ff ?_ | refine W_test (fun hc => ?_) (fun hc => ?_) | go_step)
      refine X_yield (l := ll) (lv := [.int .i64 k, e.v]) (R := fun b W' => (b = true ∧ ∃ B', J (idx l (k + 1)) B' W' ∧ RdE W' (.slice (some ⟨be, oe, none⟩) l.length c) l ∧ ∀ k, B' k → Value.ownBlock (.slice (some ⟨be, oe, none⟩) l.length c) ≠ some k) ∨ (b = false ∧ ∃ pre, Jx pre W')) (fun X => ?_) (fun b W3 hR => ?_)
      · rw [idx_succ he.out]
        have hr1 : RdE ((w'.later y').later X) (.slice (some ⟨be, oe, none⟩) l.length c) l := hr.out.later X.2
        refine (HY.out (idx l k) Bs ((k : Int), e) ((w'.later y').later X) (hup hj.out X.2) (by have := idx_len l k; simp; omega)).mono ?_
        rintro e' W' (⟨rfl, B', hj', hM', hB'⟩ | ⟨rfl, hx'⟩)
        · refine ⟨true, rfl, .inl ⟨rfl, B', hj', hr1.mod hM' (fun b hb h => HBs.out b h hb), fun k hk e => ?_⟩⟩
          rcases hB' k hk with h | h
          · exact HBs.out k h e
          · have := hr1.own_lt k e; omega
        · exact ⟨false, rfl, .inr ⟨rfl, _, hx'⟩⟩
      · clear q0 q1 q2 q3 q4 q5 hf hbt
        rcases hR with ⟨rfl, B', hj', hr3, hb'⟩ | ⟨rfl, hx'⟩
        · have HJ3 := Lib.hid hj'
          have HB3 := Lib.hid hb'
          have HR3 := Lib.hid hr3
          clear hj' hb' hj hr3 hr
          repeat' (first | refine X_d (fun vb hvb => ?_) | refine X_dg (fun vb hvb => ?_) | refine X_q ?_ | refine X_g ?_ | refine X_gf ?_ | refine X_niln ?_ | refine X_nil ?_ | (refine X_var (fun yn bn hn1 hn2 hn3 hn4 hn5 => ?_)) | refine W_seqk (fun K hK => ?_) | refine W_seqr ?_ | refine W_ret ?_ | refine W_skip ?_ | refine W_block ?_ | refine W_exit ?_ | (refine X_s (fun x K hK => ?_); go_simp; refine hK _ _ (Ext.alloc _ _) ?_; clear hK K; refine X_al x ?_; generalize (World.later _ x).heap.size = bn; intro yn hn1 hn2 hn3 hn4 hn5; clear x) | refine W_tt ?_ | refine W_ff ?_ | refine W_test (fun hc => ?_) (fun hc => ?_) | go_step)
          exact ⟨_, _, rfl, hd, hA, n - 1, by omega, k + 1, B', by omega, by simp, HJ3.out, HR3.out, HB3.out⟩
        · have HX := Lib.hid hx'
          clear hx'
          repeat' (first | refine X_d (fun vb hvb => ?_) | refine X_dg (fun vb hvb => ?_) | refine X_q ?_ | refine X_g ?_ | refine X_gf ?_ | refine X_niln ?_ | refine X_nil ?_ | (refine X_var (fun yn bn hn1 hn2 hn3 hn4 hn5 => ?_)) | refine W_seqk (fun K hK => ?_) | refine W_seqr ?_ | refine W_ret ?_ | refine W_skip ?_ | refine W_block ?_ | refine W_exit ?_ | (refine X_s (fun x K hK => ?_); go_simp; refine hK _ _ (Ext.alloc _ _) ?_; clear hK K; refine X_al x ?_; generalize (World.later _ x).heap.size = bn; intro yn hn1 hn2 hn3 hn4 hn5; clear x) | refine W_tt ?_ | refine W_ff ?_ | refine W_test (fun hc => ?_) (fun hc => ?_) | go_step)
          exact Body_ret0 hd (.inr HX.out)
    · obtain rfl : k = l.length := by omega
      have HL := Lib.hid hlt
      clear hlt
      repeat' (first | refine X_d (fun vb hvb => ?_) | refine X_dg (fun vb hvb => ?_) | refine X_q ?_ | refine X_g ?_ | refine X_gf ?_ | refine X_niln ?_ | refine X_nil ?_ | (refine X_var (fun yn bn hn1 hn2 hn3 hn4 hn5 => ?_)) | refine W_seqk (fun K hK => ?_) | refine W_seqr ?_ | refine W_ret ?_ | refine W_skip ?_ | refine W_block ?_ | refine W_exit ?_ | (refine X_s (fun x K hK => ?_); go_simp; refine hK _ _ (Ext.alloc _ _) ?_; clear hK K; refine X_al x ?_; generalize (World.later _ x).heap.size = bn; intro yn hn1 hn2 hn3 hn4 hn5; clear x) | refine W_tt ?_ | refine W_ff ?_ | refine W_test (fun hc => ?_) (fun hc => ?_) | go_step)
      exact Body_ret0 hd (.inl ⟨_, Bs, idx_all l, HJ1.out⟩)
  refine Calls.mono (Fn.calls main) ?_
  rintro e W' ⟨W0, hE0, hR⟩
  cases e with
  | returned v =>
    refine ⟨v, rfl, ?_⟩
    rcases hR with ⟨xs, B, hS, hj⟩ | ⟨pre, hx⟩
    · exact .inl ⟨xs, B, hS, hup hj hE0⟩
    · exact .inr ⟨pre, hJx _ _ _ hx hE0⟩
  | panicked c => exact hR.elim
  | outgrown => exact hR.elim
theorem all_calls {w : World} {v : Value} {l : List Ent} (hl : RdE w v l) : Ret Try.prog 106 #[v] w fun v' w' => ∃ bx, v' = .func (.func 113) #[] #[.pointer (some ⟨bx, 0, none⟩)] ∧ Ext w w' ∧ w.heap.size ≤ bx ∧ bx < w'.heap.size ∧ w'.cell? ⟨bx, 0, none⟩ = some v := by
  obtain ⟨A0, c, rfl, hc, hcm, HR⟩ := hl.ent
  clear hl
  refine Fn_of Try.func106 rfl (Nat.le_of_ble_eq_true rfl) ?_; intro A hd hA; simp only [ix, Nat.reduceAdd]; replace hA : A.tmps.size = 4 := hA
  repeat' (first | refine X_d (fun vb hvb => ?_) | refine X_dg (fun vb hvb => ?_) | refine X_q ?_ | refine X_g ?_ | refine X_gf ?_ | refine X_niln ?_ | refine X_nil ?_ | (refine X_var (fun yn bn hn1 hn2 hn3 hn4 hn5 => ?_)) | refine W_seqk (fun K hK => ?_) | refine W_seqr ?_ | refine W_draw (by kernel_rfl) (by kernel_rfl) ?_ | refine W_ret ?_ | refine W_skip ?_ | refine W_block ?_ | refine W_exit ?_ | (refine X_s (fun x K hK => ?_); go_simp; refine hK _ _ (Ext.alloc _ _) ?_; clear hK K; refine X_al x ?_; generalize (World.later _ x).heap.size = bn; intro yn hn1 hn2 hn3 hn4 hn5; clear x) | refine W_tt ?_ | refine W_ff ?_ | refine W_test (fun hc => ?_) (fun hc => ?_) | go_step)
  exact Body_ret hd ⟨bn, rfl, yn.2, hn1, hn2, hn3 0⟩
theorem logall_calls {w : World} {v : Value} {l : List Ent} (hl : RdE w v l) : Ret Try.prog 82 #[.agg #[v]] w fun v' w' => ∃ bx, v' = .func (.func 113) #[] #[.pointer (some ⟨bx, 0, none⟩)] ∧ Ext w w' ∧ w.heap.size ≤ bx ∧ bx < w'.heap.size ∧ w'.cell? ⟨bx, 0, none⟩ = some v := by
  have hl0 := Lib.hid hl
  obtain ⟨A0, c, rfl, hc, hcm, HR⟩ := hl.ent
  clear hl
  refine Fn_of Try.func82 rfl (Nat.le_of_ble_eq_true rfl) ?_; intro A hd hA; simp only [ix, Nat.reduceAdd]; replace hA : A.tmps.size = 6 := hA
  repeat' (first | refine X_d (fun vb hvb => ?_) | refine X_dg (fun vb hvb => ?_) | refine X_q ?_ | refine X_g ?_ | refine X_gf ?_ | refine X_niln ?_ | refine X_nil ?_ | (refine X_var (fun yn bn hn1 hn2 hn3 hn4 hn5 => ?_)) | refine W_seqk (fun K hK => ?_) | refine W_seqr ?_ | refine W_draw (by kernel_rfl) (by kernel_rfl) ?_ | refine W_ret ?_ | refine W_skip ?_ | refine W_block ?_ | refine W_exit ?_ | (refine X_s (fun x K hK => ?_); go_simp; refine hK _ _ (Ext.alloc _ _) ?_; clear hK K; refine X_al x ?_; generalize (World.later _ x).heap.size = bn; intro yn hn1 hn2 hn3 hn4 hn5; clear x) | refine W_tt ?_ | refine W_ff ?_ | refine W_test (fun hc => ?_) (fun hc => ?_) | go_step)
  refine X_ret Try.func106 (all_calls (hl0.out.later yn.2)) (fun v' w' hR => ?_)
  obtain ⟨bx, rfl, hE, hb0, hb, hc⟩ := hR
  repeat' (first | refine X_d (fun vb hvb => ?_) | refine X_dg (fun vb hvb => ?_) | refine X_q ?_ | refine X_g ?_ | refine X_gf ?_ | refine X_niln ?_ | refine X_nil ?_ | (refine X_var (fun yn bn hn1 hn2 hn3 hn4 hn5 => ?_)) | refine W_seqk (fun K hK => ?_) | refine W_seqr ?_ | refine W_draw (by kernel_rfl) (by kernel_rfl) ?_ | refine W_ret ?_ | refine W_skip ?_ | refine W_block ?_ | refine W_exit ?_ | (refine X_s (fun x K hK => ?_); go_simp; refine hK _ _ (Ext.alloc _ _) ?_; clear hK K; refine X_al x ?_; generalize (World.later _ x).heap.size = bn; intro yn hn1 hn2 hn3 hn4 hn5; clear x) | refine W_tt ?_ | refine W_ff ?_ | refine W_test (fun hc => ?_) (fun hc => ?_) | go_step)
  exact Body_ret hd ⟨bx, rfl, Ext.trans yn.2 hE, Nat.le_trans yn.2.size hb0, hb, hc⟩
end Go.Ws
