import Derived.Test.YtkdcgmloapmpkaaVisI
import Derived.Test.YtkdcgmloapmpkaaCut
import Derived.Test.YtkdcgmloapmpkaaMapSeq
namespace Go.Ws
open Go Go.RowKit Go.Proofs
set_option maxHeartbeats 2000000
set_option maxRecDepth 100000
set_option linter.unusedVariables false
set_option linter.unusedSimpArgs false
set_option pp.deepTerms true
set_option pp.maxSteps 100000000

/-- Amidst Copy: the new reader, its map not yet filled. -/
structure Copying (w W : World) (b tb m : Nat) (u : Value) (T : Nat → Prop) (log : List Ent) (at_ : Int) (told : List Int) (f : Int × Int → Option Bool) : Prop where
  blk : Blk W b 95 4 (fun k => if k = 0 then .pointer (some ⟨tb, 0, none⟩) else if k = 1 then .map (some m) else if k = 2 then .int .i64 at_ else u)
  tab : Tab W tb T log
  t : ∀ k, T k → w.heap.size ≤ k ∧ k < W.heap.size
  nb : ¬ T b
  nm : ¬ T m
  nu : ∀ k, u.ownBlock = some k → ¬ T k ∧ k ≠ b ∧ k ≠ m ∧ w.heap.size ≤ k
  hm : MapIs kp vB W m f
  own : OwnI W u told
  bn : w.heap.size ≤ b
  mn : w.heap.size ≤ m
theorem Copying.mod {w W W' : World} {b tb m : Nat} {u : Value} {T F : Nat → Prop} {log : List Ent} {at_ : Int} {told : List Int} {f : Int × Int → Option Bool} (h : Copying w W b tb m u T log at_ told f) (hM : Mod F W W') (hF : ∀ k, k < W.heap.size → w.heap.size ≤ k → ¬ F k) : Copying w W' b tb m u T log at_ told f :=
  ⟨h.blk.mod hM (hF _ h.blk.lt h.bn), h.tab.mod hM (fun k hk => hF _ (h.t k hk).2 (h.t k hk).1), fun k hk => ⟨(h.t k hk).1, Nat.lt_of_lt_of_le (h.t k hk).2 hM.size⟩, h.nb, h.nm, h.nu, h.hm.mod hM (hF _ h.hm.lt h.mn), h.own.mod hM (fun k hk => hF _ (h.own.lt k hk) (h.nu k hk).2.2.2), h.bn, h.mn⟩
theorem Copying.set {w W W' : World} {b tb m : Nat} {u : Value} {T : Nat → Prop} {log : List Ent} {at_ : Int} {told : List Int} {f g : Int × Int → Option Bool} (h : Copying w W b tb m u T log at_ told f) (hM : Mod (· = m) W W') (hm : MapIs kp vB W' m g) : Copying w W' b tb m u T log at_ told g :=
  ⟨h.blk.mod hM (h.hm.nblk h.blk), h.tab.mod hM (fun k hk e => h.nm (e ▸ hk)), fun k hk => ⟨(h.t k hk).1, Nat.lt_of_lt_of_le (h.t k hk).2 hM.size⟩, h.nb, h.nm, h.nu, hm, h.own.mod hM (fun k hk e => (h.nu k hk).2.2.1 e), h.bn, h.mn⟩
theorem Copying.mod2 {w W W' : World} {b tb m : Nat} {u : Value} {T F : Nat → Prop} {log : List Ent} {at_ : Int} {told : List Int} {f : Int × Int → Option Bool} (h : Copying w W b tb m u T log at_ told f) (hM : Mod F W W') (h1 : ¬ F b) (h2 : ¬ F m) (h3 : ∀ k, u.ownBlock = some k → ¬ F k) (h4 : ∀ k, T k → ¬ F k) : Copying w W' b tb m u T log at_ told f :=
  ⟨h.blk.mod hM h1, h.tab.mod hM h4, fun k hk => ⟨(h.t k hk).1, Nat.lt_of_lt_of_le (h.t k hk).2 hM.size⟩, h.nb, h.nm, h.nu, h.hm.mod hM h2, h.own.mod hM h3, h.bn, h.mn⟩
/-- The keys that have come. -/
def came (pre : List ((Int × Int) × Bool × Nat)) : Int × Int → Option Bool := fun p => if ∃ x ∈ pre, x.1 = p then some true else none
theorem came_snoc (pre : List ((Int × Int) × Bool × Nat)) (x : (Int × Int) × Bool × Nat) : came (pre ++ [x]) = upd (came pre) x.1 (some true) := by
  funext p
  simp only [upd]
  by_cases hp : p = x.1
  · rw [if_pos hp]; unfold came; rw [if_pos ⟨x, by simp, hp.symm⟩]
  · rw [if_neg hp]; unfold came
    congr 1
    apply propext
    constructor
    · rintro ⟨y, hy, e⟩
      rcases List.mem_append.1 hy with hy | hy
      · exact ⟨y, hy, e⟩
      · rw [List.mem_singleton.1 hy] at e; exact absurd e.symm hp
    · rintro ⟨y, hy, e⟩; exact ⟨y, by simp [hy], e⟩
theorem came_all {log : List Ent} {Lm pre : List ((Int × Int) × Bool × Nat)} (hn : (Lm.map (·.1)).Nodup) (hl : ∀ k, mkOf log k = look Lm k) (hp : pre.Perm Lm) : came pre = mkOf log := by
  funext p
  unfold came
  by_cases h : ∃ x ∈ pre, x.1 = p
  · rw [if_pos h]
    obtain ⟨⟨k, v, bn⟩, hx, rfl⟩ := h
    have h1 := (look_iff hn k v).2 ⟨bn, hp.mem_iff.1 hx⟩
    rw [hl, h1]
    have h2 := hl k
    rw [h1] at h2
    unfold mkOf at h2
    split at h2
    · simpa using h2
    · cases h2
  · rw [if_neg h, hl]
    cases h1 : look Lm p with
    | none => rfl
    | some v =>
      obtain ⟨bn, hb⟩ := (look_iff hn p v).1 h1
      exact absurd ⟨_, hp.mem_iff.2 hb, rfl⟩ h
theorem F_alm {P : Program} {ops : Array Oper} {Q : Post} {hs : List Nat} {f : Nat} {listed : Array Bool} {a : Act} {w : World} (x : Later w) {es : Array MapEntry} {c : Nat} (h : ∀ y : Later w, w.heap.size ≤ (w.later x).heap.size → (w.later x).heap.size < (w.later y).heap.size →
    Hid ((w.later y).heap[(w.later x).heap.size]? = some (.map es c)) → wpF P ops hs Q f listed a (w.later y)) : wpF P ops hs Q f listed a ((w.later x).alloc (.map es c)) :=
  h ⟨_, Ext.trans x.2 (Ext.alloc _ _)⟩ (size_later _ _) (by show _ < ((w.later x).alloc _).heap.size; simp) (heap_alloc_new _ _)
theorem rcopy_calls {b : Nat} {w : World} {F : Nat → Prop} {log : List Ent} {at_ : Int} {told : List Int} (h : Rdr w b F log at_ told) (htn : told.length ≤ 1000000) : Ret Try.prog 40 #[.pointer (some ⟨b, 0, none⟩)] w fun v w' =>
    ∃ b', v = .pointer (some ⟨b', 0, none⟩) ∧ Ext w w' ∧ Rdr w' b' (fun k => w.heap.size ≤ k) log at_ told := by
  obtain ⟨tb, m, u, T, h, -⟩ := h
  have H := Lib.hid h
  obtain ⟨hb, h0, h1, h2, h3⟩ := h.cells
  obtain ⟨Au, nu, cu, rfl⟩ : ∃ A n c, u = .slice A n c := by obtain ⟨A, c, h, _⟩ := h.own.rd (enc := ics) (k := 1) (fun _ => rfl); exact ⟨_, _, _, h⟩
  have hok := h.ok
  clear h
  refine Fn_of Try.func40 rfl (Nat.le_of_ble_eq_true rfl) ?_; intro A hd hA; simp only [ix, Nat.reduceAdd]; replace hA : A.tmps.size = 41 := hA
  repeat' (first | refine X_pure Try.func70 (rnone_calls (b := b) (tb := tb) (by simp [hb]) (by simp [hb, h0])) ?_ | refine X_gpure Try.func70 (fun _ => rnone_calls (b := b) (tb := tb) (by simp [hb]) (by simp [hb, h0])) ?_ | refine X_d (fun vb hvb => ?_) | refine X_dg (fun vb hvb => ?_) | refine X_q ?_ | refine X_g ?_ | refine X_gf ?_ | refine X_niln ?_ | refine X_nil ?_ | (refine X_var (fun yn bn hn1 hn2 hn3 hn4 hn5 => ?_)) | refine W_seqk (fun K hK => ?_) | refine W_seqr ?_ | refine W_ret ?_ | refine W_skip ?_ | refine W_block ?_ | refine W_exit ?_ | (refine X_s (fun x K hK => ?_); go_simp; refine hK _ _ (Ext.alloc _ _) ?_; clear hK K; refine X_al x ?_; generalize (World.later _ x).heap.size = bn; intro yn hn1 hn2 hn3 hn4 hn5; clear x) | refine W_tt ?_ | refine W_ff ?_ | refine W_test (fun hc => ?_) (fun hc => ?_) | go_step)
  refine W_cut [0, 3] (fun vs w' => ∃ (b' tb' m' : Nat) (u' : Value) (T' : Nat → Prop), vs = [.pointer (some ⟨b, 0, none⟩), .pointer (some ⟨b', 0, none⟩)] ∧ Ext w w' ∧ Copying w w' b' tb' m' u' T' log at_ told (fun _ => none)) hd hA (by decide) ?_ ?_
  · refine W_fork [] (by kernel_rfl) ?_
    refine F_q (i := 0) ?_
    refine F_q (i := 1) ?_
    refine F_q (i := 2) ?_
    refine F_q (i := 3) ?_
    refine F_q (i := 6) ?_
    refine F_q (i := 7) ?_
    refine F_q (i := 8) ?_
    refine F_q (i := 9) ?_
    refine F_q (i := 10) ?_
    refine F_q (i := 11) ?_
    refine F_q (i := 12) ?_
    refine F_q (i := 13) ?_
    refine F_alts (i := 4) (rs := [5]) (S_cons ?_ (S_cons ?_ S_end))
    · refine S_ret (R := fun w0 v w' => ∃ b', v = .pointer (some ⟨b', 0, none⟩) ∧ Ext w0 w' ∧ Tab w' b' (fun k => w0.heap.size ≤ k) log) Try.func60 (fun x => tabCopy_calls (H.out.tab.later x.2) hok) (fun x v' w1 hR => ?_)
      obtain ⟨tb', rfl, hE1, hT1⟩ := hR
      refine ⟨hE1, ?_⟩
      have s0 : w.heap.size ≤ (w.later x).heap.size := x.2.size
      have s1 := hE1.size
      have hEw1 : Ext w w1 := Ext.trans x.2 hE1
      refine F_alts (i := 5) (rs := [14]) (S_cons ?_ (S_cons ?_ S_end))
      · refine S_s (fun q K hK => ?_)
        go_simp; refine hK _ _ _ (Ext.alloc _ _) (Ext.refl _) ?_; clear hK K; refine F_alm q ?_; generalize (World.later _ q).heap.size = m'; intro ym m1 m2 m3; clear q
        have s2 : w1.heap.size ≤ (w1.later ym).heap.size := ym.2.size
        refine F_alts (i := 14) (rs := []) (S_cons ?_ S_end)
        refine S_ret (R := fun w0 v' w' => Ext w0 w' ∧ OwnI w' v' told ∧ ∀ b, v'.ownBlock = some b → w0.heap.size ≤ b) Try.func73 (fun z => cloneI_calls ((H.out.own.rd (enc := ics) (k := 1) (fun _ => rfl)).later (Ext.trans hEw1 (Ext.trans ym.2 z.2))) htn) (fun z u' w3 hR => ?_)
        obtain ⟨hE3, hO, hf⟩ := hR
        refine ⟨hE3, ?_⟩
        obtain ⟨Az, nz, cz, rfl⟩ : ∃ A n c, u' = .slice A n c := by obtain ⟨A, c, h, _⟩ := hO.rd (enc := ics) (k := 1) (fun _ => rfl); exact ⟨_, _, _, h⟩
        have s3 : (w1.later ym).heap.size ≤ ((w1.later ym).later z).heap.size := z.2.size
        have s4 := hE3.size
        have hEm : Ext w1 w3 := Ext.trans ym.2 (Ext.trans z.2 hE3)
        refine F_q (i := 15) ?_
        refine F_s (i := 16) (fun q K hK => ?_)
        go_simp; refine hK _ _ _ (Ext.alloc _ _) (Ext.refl _) ?_; clear hK K; refine F_al q ?_; generalize (World.later _ q).heap.size = b'; intro yb k1 k2 k3 k4 k5; clear q
        refine F_q (i := 17) ?_
        have s5 : w3.heap.size ≤ (w3.later yb).heap.size := yb.2.size
        refine F_nil (by kernel_rfl) ⟨rfl, _, _, rfl, hd, hA, b', tb', m', .slice Az nz cz, fun k => (w.later x).heap.size ≤ k ∧ k < w1.heap.size, by simp, Ext.trans hEw1 (Ext.trans hEm yb.2), ?_, hT1.here.later (Ext.trans hEm yb.2), fun k hk => ⟨by omega, by omega⟩, fun h => by omega, fun h => by omega, fun k hk => ?_, ?_, hO.later yb.2, by omega, by omega⟩
        · exact (Blk.new k5.out).congr (fun k hk => by
          obtain rfl | rfl | rfl | rfl : k = 0 ∨ k = 1 ∨ k = 2 ∨ k = 3 := by simp at hk; omega
          all_goals rfl)
        · have h1 := hf k hk
          have h2 := hO.lt k hk
          exact ⟨fun h => by omega, by omega, by omega, by omega⟩
        · exact MapIs.empty (((Ext.trans (Ext.trans z.2 hE3) yb.2).block m' m2 (fun h => h)).trans m3.out)
      · refine S_ret (R := fun w0 v' w' => Ext w0 w' ∧ OwnI w' v' told ∧ ∀ b, v'.ownBlock = some b → w0.heap.size ≤ b) Try.func73 (fun z => cloneI_calls ((H.out.own.rd (enc := ics) (k := 1) (fun _ => rfl)).later (Ext.trans hEw1 z.2)) htn) (fun z u' w3 hR => ?_)
        obtain ⟨hE3, hO, hf⟩ := hR
        refine ⟨hE3, ?_⟩
        obtain ⟨Az, nz, cz, rfl⟩ : ∃ A n c, u' = .slice A n c := by obtain ⟨A, c, h, _⟩ := hO.rd (enc := ics) (k := 1) (fun _ => rfl); exact ⟨_, _, _, h⟩
        have s3 : w1.heap.size ≤ (w1.later z).heap.size := z.2.size
        have s4 := hE3.size
        have hEm : Ext w1 w3 := Ext.trans z.2 hE3
        refine F_s (i := 5) (fun q K hK => ?_)
        go_simp; refine hK _ _ _ (Ext.alloc _ _) (Ext.refl _) ?_; clear hK K; refine F_alm q ?_; generalize (World.later _ q).heap.size = m'; intro ym m1 m2 m3; clear q
        have s2 : w3.heap.size ≤ (w3.later ym).heap.size := ym.2.size
        refine F_q (i := 15) ?_
        refine F_s (i := 16) (fun q K hK => ?_)
        go_simp; refine hK _ _ _ (Ext.alloc _ _) (Ext.refl _) ?_; clear hK K; refine F_al q ?_; generalize (World.later _ q).heap.size = b'; intro yb k1 k2 k3 k4 k5; clear q
        refine F_q (i := 17) ?_
        have s5 : (w3.later ym).heap.size ≤ ((w3.later ym).later yb).heap.size := yb.2.size
        refine F_nil (by kernel_rfl) ⟨rfl, _, _, rfl, hd, hA, b', tb', m', .slice Az nz cz, fun k => (w.later x).heap.size ≤ k ∧ k < w1.heap.size, by simp, Ext.trans hEw1 (Ext.trans hEm (Ext.trans ym.2 yb.2)), ?_, hT1.here.later (Ext.trans hEm (Ext.trans ym.2 yb.2)), fun k hk => ⟨by omega, by omega⟩, fun h => by omega, fun h => by omega, fun k hk => ?_, ?_, hO.later (Ext.trans ym.2 yb.2), by omega, by omega⟩
        · exact (Blk.new k5.out).congr (fun k hk => by
          obtain rfl | rfl | rfl | rfl : k = 0 ∨ k = 1 ∨ k = 2 ∨ k = 3 := by simp at hk; omega
          all_goals rfl)
        · have h1 := hf k hk
          have h2 := hO.lt k hk
          exact ⟨fun h => by omega, by omega, by omega, by omega⟩
        · exact MapIs.empty ((yb.2.block m' m2 (fun h => h)).trans m3.out)
    · refine S_s (fun q K hK => ?_)
      go_simp; refine hK _ _ _ (Ext.alloc _ _) (Ext.refl _) ?_; clear hK K; refine F_alm q ?_; generalize (World.later _ q).heap.size = m'; intro ym m1 m2 m3; clear q
      have s2 : w.heap.size ≤ (w.later ym).heap.size := ym.2.size
      refine F_alts (i := 4) (rs := []) (S_cons ?_ S_end)
      refine S_ret (R := fun w0 v w' => ∃ b', v = .pointer (some ⟨b', 0, none⟩) ∧ Ext w0 w' ∧ Tab w' b' (fun k => w0.heap.size ≤ k) log) Try.func60 (fun x => tabCopy_calls (H.out.tab.later (Ext.trans ym.2 x.2)) hok) (fun x v' w1 hR => ?_)
      obtain ⟨tb', rfl, hE1, hT1⟩ := hR
      refine ⟨hE1, ?_⟩
      have s0 : (w.later ym).heap.size ≤ ((w.later ym).later x).heap.size := x.2.size
      have s1 := hE1.size
      have hEm1 : Ext (w.later ym) w1 := Ext.trans x.2 hE1
      refine F_alts (i := 14) (rs := []) (S_cons ?_ S_end)
      refine S_ret (R := fun w0 v' w' => Ext w0 w' ∧ OwnI w' v' told ∧ ∀ b, v'.ownBlock = some b → w0.heap.size ≤ b) Try.func73 (fun z => cloneI_calls ((H.out.own.rd (enc := ics) (k := 1) (fun _ => rfl)).later (Ext.trans ym.2 (Ext.trans hEm1 z.2))) htn) (fun z u' w3 hR => ?_)
      obtain ⟨hE3, hO, hf⟩ := hR
      refine ⟨hE3, ?_⟩
      obtain ⟨Az, nz, cz, rfl⟩ : ∃ A n c, u' = .slice A n c := by obtain ⟨A, c, h, _⟩ := hO.rd (enc := ics) (k := 1) (fun _ => rfl); exact ⟨_, _, _, h⟩
      have s3 : w1.heap.size ≤ (w1.later z).heap.size := z.2.size
      have s4 := hE3.size
      refine F_q (i := 15) ?_
      refine F_s (i := 16) (fun q K hK => ?_)
      go_simp; refine hK _ _ _ (Ext.alloc _ _) (Ext.refl _) ?_; clear hK K; refine F_al q ?_; generalize (World.later _ q).heap.size = b'; intro yb k1 k2 k3 k4 k5; clear q
      refine F_q (i := 17) ?_
      have s5 : w3.heap.size ≤ (w3.later yb).heap.size := yb.2.size
      refine F_nil (by kernel_rfl) ⟨rfl, _, _, rfl, hd, hA, b', tb', m', .slice Az nz cz, fun k => ((w.later ym).later x).heap.size ≤ k ∧ k < w1.heap.size, by simp, Ext.trans ym.2 (Ext.trans hEm1 (Ext.trans z.2 (Ext.trans hE3 yb.2))), ?_, hT1.here.later (Ext.trans z.2 (Ext.trans hE3 yb.2)), fun k hk => ⟨by omega, by omega⟩, fun h => by omega, fun h => by omega, fun k hk => ?_, ?_, hO.later yb.2, by omega, by omega⟩
      · exact (Blk.new k5.out).congr (fun k hk => by
          obtain rfl | rfl | rfl | rfl : k = 0 ∨ k = 1 ∨ k = 2 ∨ k = 3 := by simp at hk; omega
          all_goals rfl)
      · have h1 := hf k hk
        have h2 := hO.lt k hk
        exact ⟨fun h => by omega, by omega, by omega, by omega⟩
      · exact MapIs.empty (((Ext.trans hEm1 (Ext.trans z.2 (Ext.trans hE3 yb.2))).block m' m2 (fun h => h)).trans m3.out)
  · clear hd hA A
    rintro vs B w' hd hA ⟨b', tb', m', u', T', rfl, hE, hC⟩
    simp only [List.zip_cons_cons, List.zip_nil_right, List.zip_nil_left]
    refine hK _ _ ?_
    clear hK
    have hC0 : Copying w w' b' tb' m' u' T' log at_ told (came []) := by
      have : came [] = fun _ => none := by funext p; simp [came]
      rw [this]; exact hC
    clear hC
    obtain ⟨y, rfl⟩ := hE.get
    obtain ⟨Lm, clock, hml, hlook⟩ := H.out.hm
    have HML := Lib.hid hml
    have HLK := Lib.hid hlook
    have hmw : m < w.heap.size := H.out.hm.lt
    clear hml hlook
    repeat' (first | refine X_d (fun vb hvb => ?_) | refine X_dg (fun vb hvb => ?_) | refine X_q ?_ | refine X_g ?_ | refine X_gf ?_ | refine X_niln ?_ | refine X_nil ?_ | (refine X_var (fun yn bn hn1 hn2 hn3 hn4 hn5 => ?_)) | refine W_seqk (fun K hK => ?_) | refine W_seqr ?_ | refine W_ret ?_ | refine W_skip ?_ | refine W_block ?_ | refine W_exit ?_ | (refine X_s (fun x K hK => ?_); go_simp; refine hK _ _ (Ext.alloc _ _) ?_; clear hK K; refine X_al x ?_; generalize (World.later _ x).heap.size = bn; intro yn hn1 hn2 hn3 hn4 hn5; clear x) | refine W_tt ?_ | refine W_ff ?_ | refine W_test (fun hc => ?_) (fun hc => ?_) | go_step)
    refine X_range (kenc := kp) (venc := vB) (HML.out.later y.2) Try.underlying93 (fun y0 r hr0 hG0 => ?_)
    have hC1 : Copying w ((w.later y).later y0) b' tb' m' u' T' log at_ told (came []) := hC0.mod2 (F := fun _ => False) y0.2 (fun h => h) (fun h => h) (fun _ _ h => h) (fun _ _ h => h)
    have HLT : Hid (b' < r ∧ m' < r ∧ (∀ k, u'.ownBlock = some k → k < r) ∧ ∀ k, T' k → k < r) := Lib.hid ⟨Nat.lt_of_lt_of_le hC0.blk.lt hr0, Nat.lt_of_lt_of_le hC0.hm.lt hr0, fun k hk => Nat.lt_of_lt_of_le (hC0.own.lt k hk) hr0, fun k hk => Nat.lt_of_lt_of_le (hC0.t k hk).2 hr0⟩
    have hrw : w.heap.size ≤ r := Nat.le_trans y.2.size hr0
    repeat' (first | refine X_d (fun vb hvb => ?_) | refine X_dg (fun vb hvb => ?_) | refine X_q ?_ | refine X_g ?_ | refine X_gf ?_ | refine X_niln ?_ | refine X_nil ?_ | (refine X_var (fun yn bn hn1 hn2 hn3 hn4 hn5 => ?_)) | refine W_seqk (fun K hK => ?_) | refine W_seqr ?_ | refine W_ret ?_ | refine W_skip ?_ | refine W_block ?_ | refine W_exit ?_ | (refine X_s (fun x K hK => ?_); go_simp; refine hK _ _ (Ext.alloc _ _) ?_; clear hK K; refine X_al x ?_; generalize (World.later _ x).heap.size = bn; intro yn hn1 hn2 hn3 hn4 hn5; clear x) | refine W_tt ?_ | refine W_ff ?_ | refine W_test (fun hc => ?_) (fun hc => ?_) | go_step)
    refine W_loops [3, 28] (fun n vs w' => ∃ pre, n + pre.length = Lm.length ∧ vs = [.pointer (some ⟨b', 0, none⟩), .pointer (some ⟨r, 0, none⟩)] ∧ Ext w w' ∧ Going kp vB w' r m Lm clock pre ∧ Copying w w' b' tb' m' u' T' log at_ told (came pre)) Lm.length hd hA (by decide) ⟨[], by simp, by simp, Ext.trans y.2 y0.2, hG0, hC1⟩ ?_
    clear hC0 hC1 hG0 hE hr0 y0 y
    clear hd hA B; intro n vs B w' hd hA _ ⟨pre, hn, hvs, hE, hg, hC⟩; subst hvs
    simp only [List.zip_cons_cons, List.zip_nil_right, List.zip_nil_left]
    have HG := Lib.hid hg
    have HC := Lib.hid hC
    clear hg hC
    repeat' (first | refine X_d (fun vb hvb => ?_) | refine X_dg (fun vb hvb => ?_) | refine X_q ?_ | refine X_g ?_ | refine X_gf ?_ | refine X_niln ?_ | refine X_nil ?_ | (refine X_var (fun yn bn hn1 hn2 hn3 hn4 hn5 => ?_)) | refine W_seqk (fun K hK => ?_) | refine W_seqr ?_ | refine W_ret ?_ | refine W_skip ?_ | refine W_block ?_ | refine W_exit ?_ | (refine X_s (fun x K hK => ?_); go_simp; refine hK _ _ (Ext.alloc _ _) ?_; clear hK K; refine X_al x ?_; generalize (World.later _ x).heap.size = bn; intro yn hn1 hn2 hn3 hn4 hn5; clear x) | refine W_tt ?_ | refine W_ff ?_ | refine W_test (fun hc => ?_) (fun hc => ?_) | go_step)
    refine X_next HG.out (fun hall => ?_) (fun x W2 hx hxp hM2 hG2 => ?_)
    · have hperm := HG.out.full hall
      repeat' (first | refine X_d (fun vb hvb => ?_) | refine X_dg (fun vb hvb => ?_) | refine X_q ?_ | refine X_g ?_ | refine X_gf ?_ | refine X_niln ?_ | refine X_nil ?_ | (refine X_var (fun yn bn hn1 hn2 hn3 hn4 hn5 => ?_)) | refine W_seqk (fun K hK => ?_) | refine W_seqr ?_ | refine W_ret ?_ | refine W_skip ?_ | refine W_block ?_ | refine W_exit ?_ | (refine X_s (fun x K hK => ?_); go_simp; refine hK _ _ (Ext.alloc _ _) ?_; clear hK K; refine X_al x ?_; generalize (World.later _ x).heap.size = bn; intro yn hn1 hn2 hn3 hn4 hn5; clear x) | refine W_tt ?_ | refine W_ff ?_ | refine W_test (fun hc => ?_) (fun hc => ?_) | go_step)
      refine Body_ret hd ⟨b', rfl, hE, tb', m', u', T', ⟨HC.out.blk, HC.out.tab, hok, fun k hk => (HC.out.t k hk).2, HC.out.nb, HC.out.nm, fun k hk => ⟨(HC.out.nu k hk).1, (HC.out.nu k hk).2.1, (HC.out.nu k hk).2.2.1⟩, came_all HML.out.keys HLK.out hperm ▸ HC.out.hm, HC.out.own⟩, HC.out.bn, HC.out.mn, fun k hk => (HC.out.nu k hk).2.2.2, fun k hk => (HC.out.t k hk).1⟩
    · have hlen : pre.length < Lm.length := by
        have := hG2.len
        simp at this; omega
      obtain ⟨l1, l2, l3, l4⟩ := HLT.out
      have hC2 := HC.out.mod2 hM2 (by omega) (by omega) (fun k hk => by have := l3 k hk; omega) (fun k hk => by have := l4 k hk; omega)
      have hE2 : Ext w W2 := Ext.fresh hE hM2 (by rintro _ rfl; exact hrw)
      have HC2 := Lib.hid hC2
      have HG2 := Lib.hid hG2
      obtain ⟨⟨i1, i2⟩, xv, xb⟩ := x
      have d1 : W2.cell? ⟨b', 1, none⟩ = some (.map (some m')) := (hC2.blk.cell (k := 1) (by omega)).trans rfl
      have d2 := hC2.blk.lt
      clear hC2 hG2 hM2 HC HG
      repeat' (first | refine X_d (fun vb hvb => ?_) | refine X_dg (fun vb hvb => ?_) | refine X_q ?_ | refine X_g ?_ | refine X_gf ?_ | refine X_niln ?_ | refine X_nil ?_ | (refine X_var (fun yn bn hn1 hn2 hn3 hn4 hn5 => ?_)) | refine W_seqk (fun K hK => ?_) | refine W_seqr ?_ | refine W_ret ?_ | refine W_skip ?_ | refine W_block ?_ | refine W_exit ?_ | (refine X_s (fun x K hK => ?_); go_simp; refine hK _ _ (Ext.alloc _ _) ?_; clear hK K; refine X_al x ?_; generalize (World.later _ x).heap.size = bn; intro yn hn1 hn2 hn3 hn4 hn5; clear x) | refine W_tt ?_ | refine W_ff ?_ | refine W_test (fun hc => ?_) (fun hc => ?_) | go_step)
      refine X_entry HG2.out ?_
      repeat' (first | refine X_d (fun vb hvb => ?_) | refine X_dg (fun vb hvb => ?_) | refine X_q ?_ | refine X_g ?_ | refine X_gf ?_ | refine X_niln ?_ | refine X_nil ?_ | (refine X_var (fun yn bn hn1 hn2 hn3 hn4 hn5 => ?_)) | refine W_seqk (fun K hK => ?_) | refine W_seqr ?_ | refine W_ret ?_ | refine W_skip ?_ | refine W_block ?_ | refine W_exit ?_ | (refine X_s (fun x K hK => ?_); go_simp; refine hK _ _ (Ext.alloc _ _) ?_; clear hK K; refine X_al x ?_; generalize (World.later _ x).heap.size = bn; intro yn hn1 hn2 hn3 hn4 hn5; clear x) | refine W_tt ?_ | refine W_ff ?_ | refine W_test (fun hc => ?_) (fun hc => ?_) | go_step)
      refine W_drawσ [(0, 0), (1, 0), (2, 0), (3, 0), (4, 0), (5, 1), (6, 2)] (by kernel_rfl) (by kernel_rfl) ?_
      simp only [List.map_cons, List.map_nil, List.getD_cons_zero, List.getD_cons_succ]
      repeat' (first | refine X_d (fun vb hvb => ?_) | refine X_dg (fun vb hvb => ?_) | refine X_q ?_ | refine X_g ?_ | refine X_gf ?_ | refine X_niln ?_ | refine X_nil ?_ | (refine X_var (fun yn bn hn1 hn2 hn3 hn4 hn5 => ?_)) | refine W_seqk (fun K hK => ?_) | refine W_seqr ?_ | refine W_ret ?_ | refine W_skip ?_ | refine W_block ?_ | refine W_exit ?_ | (refine X_s (fun x K hK => ?_); go_simp; refine hK _ _ (Ext.alloc _ _) ?_; clear hK K; refine X_al x ?_; generalize (World.later _ x).heap.size = bn; intro yn hn1 hn2 hn3 hn4 hn5; clear x) | refine W_tt ?_ | refine W_ff ?_ | refine W_test (fun hc => ?_) (fun hc => ?_) | go_step)
      have q0 := hn3 0
      have q1 := hn3 1
      refine X_ret Try.func72 (with_calls (p := (i1, i2)) (HC2.out.hm.later (by simp)) hn2 q0 q1 ?_) (fun v' w5 hR => ?_)
      · have h1 := HC2.out.hm.lt
        have h2 : W2.heap.size ≤ (W2.later ‹Later W2›).heap.size := (‹Later W2›).2.size
        omega
      obtain ⟨rfl, hM, hMI⟩ := hR
      have hEn : Ext W2 ((W2.later ‹Later W2›).later yn) := by simp
      have hE5 : Ext w w5 := Ext.fresh (Ext.trans hE2 hEn) hM (by rintro _ rfl; exact HC2.out.mn)
      have hG5 := (HG2.out.later hEn).mod hM (by omega) (by have := HC2.out.mn; omega)
      have hC5 := (HC2.out.mod2 (F := fun _ => False) hEn (fun h => h) (fun h => h) (fun _ _ h => h) (fun _ _ h => h)).set hM (by have := came_snoc pre ((i1, i2), xv, xb); rw [← this] at hMI; exact hMI)
      repeat' (first | refine X_d (fun vb hvb => ?_) | refine X_dg (fun vb hvb => ?_) | refine X_q ?_ | refine X_g ?_ | refine X_gf ?_ | refine X_niln ?_ | refine X_nil ?_ | (refine X_var (fun yn bn hn1 hn2 hn3 hn4 hn5 => ?_)) | refine W_seqk (fun K hK => ?_) | refine W_seqr ?_ | refine W_ret ?_ | refine W_skip ?_ | refine W_block ?_ | refine W_exit ?_ | (refine X_s (fun x K hK => ?_); go_simp; refine hK _ _ (Ext.alloc _ _) ?_; clear hK K; refine X_al x ?_; generalize (World.later _ x).heap.size = bn; intro yn hn1 hn2 hn3 hn4 hn5; clear x) | refine W_tt ?_ | refine W_ff ?_ | refine W_test (fun hc => ?_) (fun hc => ?_) | go_step)
      exact ⟨_, _, rfl, hd, hA, n - 1, by omega, pre ++ [((i1, i2), xv, xb)], by simp; omega, by simp, hE5, hG5, hC5⟩
end Go.Ws
