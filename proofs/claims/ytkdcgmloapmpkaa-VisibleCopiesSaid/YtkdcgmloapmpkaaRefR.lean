import Derived.Test.YtkdcgmloapmpkaaPrefix
namespace Go.Ws
open Go Go.RowKit Go.Proofs
set_option maxHeartbeats 2000000
set_option maxRecDepth 100000
set_option linter.unusedVariables false
set_option linter.unusedSimpArgs false
set_option pp.deepTerms true
set_option pp.maxSteps 100000000

section
variable {P : Program} {fn : Func} {R : Res} {e : Exit} {t b : Nat} {ty : TypeId} {td : TypeDesc} {cs : List Value} {w : World} {l : List (Nat × Value)} {A : Act} {g : Nat → Value} {E : TypeId}
theorem blk_cells (hb : Blk w b E cs.length g) (hg : ∀ k, k < cs.length → cs[k]? = some (g k)) (x : Later w) : (w.later x).heap[b]? = some (.cells cs.toArray E) := by
  obtain ⟨arr, h, hs, hk⟩ := hb.later (w' := w.later x) x.2
  have : arr = cs.toArray := by
    apply Array.ext
    · simpa using hs
    · intro k h1 h2
      have h3 := hk k (by omega)
      have h4 := hg k (by omega)
      rw [← h4] at h3
      simpa [h1, List.getElem?_eq_getElem (show k < cs.length by omega)] using h3
  rw [h, this]
theorem Body_retcell2 {u : Tmp} {v2 : Value} (hd : A.defers = []) (hR : R (.returned (.tuple #[.agg cs.toArray, v2])) w) (hb : Blk w b E cs.length g) (hg : ∀ k, k < cs.length → cs[k]? = some (g k))
    (hu : P.underlying ty = some td) (hr : fn.results = #[.cell t ty, .tmp u] := by rfl) (htd : (match td with | .struct _ | .array _ _ => true | _ => false) = true := by rfl) (hi : (P.info? ty).map (·.size) = some cs.length := by kernel_rfl)
    (he : e = .ret ∨ e = .normal := by first | exact .inl rfl | exact .inr rfl) (hv : Is ((fr l A).tmps.getD t undef) (.pointer (some ⟨b, 0, none⟩)) := by go_simp; exact Is.mk _) (hv2 : Is ((fr l A).tmps.getD u undef) v2 := by go_simp; exact Is.mk _) : Body P fn R e (fr l A) w := by
  have key : ∀ x : Later w, (results fn (fr l A).tmps).run P (w.later x) = .ok (.tuple #[.agg cs.toArray, v2]) (w.later x) := by
    intro x
    have h1 := blk_cells hb hg x
    have h2 : (fr l A).tmps[t]?.getD undef = .pointer (some ⟨b, 0, none⟩) := by simpa using hv.eq
    have h3 : (fr l A).tmps[u]?.getD undef = v2 := by simpa using hv2.eq
    simp [results, hr, h2, h3, asAddr, run_loadVar_row (P := P) (w.later x) b E ty cs.toArray (0, 0) td h1 hu htd (by simpa using hi)]
  unfold Body
  rcases he with rfl | rfl <;> exact ⟨w, by rw [fr_defers, hd]; rfl, _, key, hR⟩
theorem Body_retcell3 {u s : Tmp} {v2 v3 : Value} (hd : A.defers = []) (hR : R (.returned (.tuple #[.agg cs.toArray, v2, v3])) w) (hb : Blk w b E cs.length g) (hg : ∀ k, k < cs.length → cs[k]? = some (g k))
    (hu : P.underlying ty = some td) (hr : fn.results = #[.cell t ty, .tmp u, .tmp s] := by rfl) (htd : (match td with | .struct _ | .array _ _ => true | _ => false) = true := by rfl) (hi : (P.info? ty).map (·.size) = some cs.length := by kernel_rfl)
    (he : e = .ret ∨ e = .normal := by first | exact .inl rfl | exact .inr rfl) (hv : Is ((fr l A).tmps.getD t undef) (.pointer (some ⟨b, 0, none⟩)) := by go_simp; exact Is.mk _) (hv2 : Is ((fr l A).tmps.getD u undef) v2 := by go_simp; exact Is.mk _) (hv3 : Is ((fr l A).tmps.getD s undef) v3 := by go_simp; exact Is.mk _) : Body P fn R e (fr l A) w := by
  have key : ∀ x : Later w, (results fn (fr l A).tmps).run P (w.later x) = .ok (.tuple #[.agg cs.toArray, v2, v3]) (w.later x) := by
    intro x
    have h1 := blk_cells hb hg x
    have h2 : (fr l A).tmps[t]?.getD undef = .pointer (some ⟨b, 0, none⟩) := by simpa using hv.eq
    have h3 : (fr l A).tmps[u]?.getD undef = v2 := by simpa using hv2.eq
    have h4 : (fr l A).tmps[s]?.getD undef = v3 := by simpa using hv3.eq
    simp [results, hr, h2, h3, h4, asAddr, run_loadVar_row (P := P) (w.later x) b E ty cs.toArray (0, 0) td h1 hu htd (by simpa using hi)]
  unfold Body
  rcases he with rfl | rfl <;> exact ⟨w, by rw [fr_defers, hd]; rfl, _, key, hR⟩
end
theorem Rd.nblk {w : World} {v : Value} {xs : List Ent} {b n : Nat} {E : TypeId} {g : Nat → Value} (h : RdE w v xs) (hne : xs ≠ []) (hb : Blk w b E n g) (hn : n < 6) : v.ownBlock ≠ some b := by
  obtain ⟨A, c, rfl, h2, h3, h4⟩ := h
  intro hv
  rcases h4 with ⟨_, h⟩ | ⟨b', o, rfl, hb', hr⟩
  · exact hne h
  · cases hv
    obtain ⟨x, xs', rfl⟩ := List.exists_cons_of_ne_nil hne
    have := hr 0 x rfl 5 (.int .i64 x.val) rfl
    obtain ⟨cs, hc, hs, _⟩ := hb
    simp [World.cell?, hc] at this
    have := (Array.getElem?_eq_some_iff.1 this).1
    omega
def refNo (l : List Ent) (e : Ent) : Int := if appendNo l e ≠ 0 then appendNo l e else if behindB l e = true then 190 else 0
def refLog (l : List Ent) (e : Ent) : List Ent := if refNo l e = 0 then l ++ [e] else l
theorem refpush_calls (l : List Ent) (told : List Int) (u v : Value) (at_ : Int) (e : Ent) (w : World) (hl : RdE w u l) (ht : RdI w v told) :
    Ret Try.prog 34 #[.agg #[u, .int .i64 at_, v], e.v] w fun v' w' => Ext w w' ∧ ∃ u', v' = .tuple #[.agg #[u', .int .i64 at_, v], .int .i64 (refNo l e)] ∧ RdE w' u' (refLog l e) ∧ (u' = u ∨ ∀ b, u'.ownBlock = some b → w.heap.size ≤ b) := by
  have hl0 := Lib.hid hl
  have ht0 := Lib.hid ht
  obtain ⟨A0, c, rfl, hc, hcm, -⟩ := hl.ent
  obtain ⟨A1, c1, rfl, hc1, hcm1, -⟩ := ht.int
  clear hl ht
  refine Fn_of Try.func34 rfl (Nat.le_of_ble_eq_true rfl) ?_; intro A hd hA; simp only [ix, Nat.reduceAdd]; replace hA : A.tmps.size = 27 := hA
  repeat' (first | refine X_d (fun vb hvb => ?_) | refine X_dg (fun vb hvb => ?_) | refine X_q ?_ | refine X_g ?_ | refine X_gf ?_ | refine X_niln ?_ | refine X_nil ?_ | (refine X_var (fun yn bn hn1 hn2 hn3 hn4 hn5 => ?_)) | refine W_seqk (fun K hK => ?_) | refine W_seqr ?_ | refine W_ret ?_ | refine W_skip ?_ | refine W_block ?_ | refine W_exit ?_ | (refine X_s (fun x K hK => ?_); go_simp; refine hK _ _ (Ext.alloc _ _) ?_; clear hK K; refine X_al x ?_; generalize (World.later _ x).heap.size = bn; intro yn hn1 hn2 hn3 hn4 hn5; clear x) | refine W_tt ?_ | refine W_ff ?_ | refine W_test (fun hc => ?_) (fun hc => ?_) | go_step)
  rename_i b2 y2 p21 p22 p23 p24 p25 b3 y3 p31 p32 p33 p34 p35
  rename Nat => b4
  rename Later ((w.later y2).later y3) => y4
  have s1 : w.heap.size ≤ (w.later y2).heap.size := y2.2.size
  have s2 : (w.later y2).heap.size ≤ ((w.later y2).later y3).heap.size := y3.2.size
  have s3 : ((w.later y2).later y3).heap.size ≤ (((w.later y2).later y3).later y4).heap.size := y4.2.size
  have hE0 : Ext w (((w.later y2).later y3).later y4) := by simp
  have g2 : Blk (((w.later y2).later y3).later y4) b2 48 3 _ := (Blk.new p25.out).later (by simp)
  have g4 : Blk (((w.later y2).later y3).later y4) b4 48 3 _ := Blk.new hn5.out
  have hn42 : b4 ≠ b2 := by omega
  have HS := Lib.hid (And.intro s1 (And.intro s2 s3))
  have HG2 := Lib.hid g2
  have HG4 := Lib.hid g4
  have HE0 := Lib.hid hE0
  have hw2 : w.heap.size ≤ b2 := p21
  have hw4 : w.heap.size ≤ b4 := by omega
  clear s1 s2 s3 g2 g4 hE0 p24 p25 p34 p35 hn4 hn5
  refine X_ret Try.func55 (append_callsF l _ e _ (hl0.out.later HE0.out)) (fun v' w' hR => ?_)
  obtain ⟨u', rfl, hE, hr, hfu⟩ := hR
  have HFU := Lib.hid hfu
  clear hfu
  have HR := Lib.hid hr
  have hEw := Ext.trans HE0.out hE
  have G2 := Lib.hid (HG2.out.later hE)
  have G4 := Lib.hid (HG4.out.later hE)
  have hl2 := G2.out.lt
  have c0 : w'.cell? ⟨b2, 0, none⟩ = some (.slice A0 l.length c) := (G2.out.cell (k := 0) (by omega)).trans rfl
  have c1' : w'.cell? ⟨b2, 1, none⟩ = some (.int .i64 at_) := (G2.out.cell (k := 1) (by omega)).trans rfl
  have c2 : w'.cell? ⟨b2, 2, none⟩ = some (.slice A1 told.length c1) := (G2.out.cell (k := 2) (by omega)).trans rfl
  have hl3 : b3 < w'.heap.size := by have := HS.out; have := hE.size; omega
  have e3 : ∀ k, w'.cell? ⟨b3, k, none⟩ = _ := fun k => (World.cell?_of_block ((Ext.trans y4.2 hE).block b3 p32 (fun h => h))).trans (p33 k)
  clear hr hn3 p23 p33 HG2 HG4
  by_cases ha : appendNo l e = 0
  · have HA := Lib.hid ha
    rw [ha]
    have hr := HR.out
    rw [if_pos HA.out] at hr
    obtain ⟨A9, nn, c9, rfl⟩ : ∃ A n c, u' = .slice A n c := by obtain ⟨A, c, h, _⟩ := hr; exact ⟨_, _, _, h⟩
    have HR2 := Lib.hid hr
    clear ha HR hr
    repeat' (first | refine X_pure Try.func69 (behind_calls l _ e _ (hl0.out.later hEw)) ?_ | refine X_gpure Try.func69 (fun _ => behind_calls l _ e _ (hl0.out.later hEw)) ?_ | refine X_d (fun vb hvb => ?_) | refine X_dg (fun vb hvb => ?_) | refine X_q ?_ | refine X_g ?_ | refine X_gf ?_ | refine X_niln ?_ | refine X_nil ?_ | (refine X_var (fun yn bn hn1 hn2 hn3 hn4 hn5 => ?_)) | refine W_seqk (fun K hK => ?_) | refine W_seqr ?_ | refine W_ret ?_ | refine W_skip ?_ | refine W_block ?_ | refine W_exit ?_ | (refine X_s (fun x K hK => ?_); go_simp; refine hK _ _ (Ext.alloc _ _) ?_; clear hK K; refine X_al x ?_; generalize (World.later _ x).heap.size = bn; intro yn hn1 hn2 hn3 hn4 hn5; clear x) | refine W_tt ?_ | refine W_ff ?_ | refine W_test (fun hc => ?_) (fun hc => ?_) | go_step)
    · have hb : behindB l e = true := by assumption
      have hno : refNo l e = 190 := by unfold refNo; rw [if_neg (by simp [HA.out]), if_pos hb]
      refine X_store (off := 0) (v := .agg #[.slice A0 l.length c, .int .i64 at_, .slice A1 told.length c1]) G4.out (fun W2 hM hB => ?_)
      have hE2 : Ext w W2 := Ext.fresh hEw hM (by rintro _ rfl; exact hw4)
      repeat' (first | refine X_d (fun vb hvb => ?_) | refine X_dg (fun vb hvb => ?_) | refine X_q ?_ | refine X_g ?_ | refine X_gf ?_ | refine X_niln ?_ | refine X_nil ?_ | (refine X_var (fun yn bn hn1 hn2 hn3 hn4 hn5 => ?_)) | refine W_seqk (fun K hK => ?_) | refine W_seqr ?_ | refine W_ret ?_ | refine W_skip ?_ | refine W_block ?_ | refine W_exit ?_ | (refine X_s (fun x K hK => ?_); go_simp; refine hK _ _ (Ext.alloc _ _) ?_; clear hK K; refine X_al x ?_; generalize (World.later _ x).heap.size = bn; intro yn hn1 hn2 hn3 hn4 hn5; clear x) | refine W_tt ?_ | refine W_ff ?_ | refine W_test (fun hc => ?_) (fun hc => ?_) | go_step)
      refine Body_retcell2 (cs := [.slice A0 l.length c, .int .i64 at_, .slice A1 told.length c1]) hd ⟨hE2, _, by rw [hno], by unfold refLog; rw [hno]; exact hl0.out.later hE2, .inl rfl⟩ hB (fun k hk => by
        obtain rfl | rfl | rfl : k = 0 ∨ k = 1 ∨ k = 2 := by simp at hk; omega
        all_goals rfl) Try.underlying48
    · have hb : behindB l e = false := by assumption
      have hno : refNo l e = 0 := by unfold refNo; rw [if_neg (by simp [HA.out]), if_neg (by simp [hb])]
      refine X_store (off := 0) G2.out (fun W2 hM hB => ?_)
      have hE2 : Ext w W2 := Ext.fresh hEw hM (by rintro _ rfl; exact hw2)
      have G4' := G4.out.mod hM hn42
      have d0 : W2.cell? ⟨b2, 0, none⟩ = some (.slice A9 nn c9) := (hB.cell (k := 0) (by omega)).trans rfl
      have d1 : W2.cell? ⟨b2, 1, none⟩ = some (.int .i64 at_) := (hB.cell (k := 1) (by omega)).trans rfl
      have d2 : W2.cell? ⟨b2, 2, none⟩ = some (.slice A1 told.length c1) := (hB.cell (k := 2) (by omega)).trans rfl
      have d3 := hB.lt
      have HR3 := Lib.hid (HR2.out.mod hM (fun k hk h => by subst h; exact HR2.out.nblk (by simp) G2.out (by omega) hk))
      have G4n : Hid (∀ k, Value.ownBlock (.slice A9 nn c9) = some k → ¬ k = b4) := Lib.hid (fun k hk h => by subst h; exact HR2.out.nblk (by simp) G4.out (by omega) hk)
      clear c0 c1' c2 hl2 hl3 e3 hM hB
      repeat' (first | refine X_d (fun vb hvb => ?_) | refine X_dg (fun vb hvb => ?_) | refine X_q ?_ | refine X_g ?_ | refine X_gf ?_ | refine X_niln ?_ | refine X_nil ?_ | (refine X_var (fun yn bn hn1 hn2 hn3 hn4 hn5 => ?_)) | refine W_seqk (fun K hK => ?_) | refine W_seqr ?_ | refine W_ret ?_ | refine W_skip ?_ | refine W_block ?_ | refine W_exit ?_ | (refine X_s (fun x K hK => ?_); go_simp; refine hK _ _ (Ext.alloc _ _) ?_; clear hK K; refine X_al x ?_; generalize (World.later _ x).heap.size = bn; intro yn hn1 hn2 hn3 hn4 hn5; clear x) | refine W_tt ?_ | refine W_ff ?_ | refine W_test (fun hc => ?_) (fun hc => ?_) | go_step)
      refine X_store (off := 0) (v := .agg #[.slice A9 nn c9, .int .i64 at_, .slice A1 told.length c1]) G4' (fun W3 hM hB => ?_)
      have hE3 : Ext w W3 := Ext.fresh hE2 hM (by rintro _ rfl; exact hw4)
      repeat' (first | refine X_d (fun vb hvb => ?_) | refine X_dg (fun vb hvb => ?_) | refine X_q ?_ | refine X_g ?_ | refine X_gf ?_ | refine X_niln ?_ | refine X_nil ?_ | (refine X_var (fun yn bn hn1 hn2 hn3 hn4 hn5 => ?_)) | refine W_seqk (fun K hK => ?_) | refine W_seqr ?_ | refine W_ret ?_ | refine W_skip ?_ | refine W_block ?_ | refine W_exit ?_ | (refine X_s (fun x K hK => ?_); go_simp; refine hK _ _ (Ext.alloc _ _) ?_; clear hK K; refine X_al x ?_; generalize (World.later _ x).heap.size = bn; intro yn hn1 hn2 hn3 hn4 hn5; clear x) | refine W_tt ?_ | refine W_ff ?_ | refine W_test (fun hc => ?_) (fun hc => ?_) | go_step)
      refine Body_retcell2 (cs := [.slice A9 nn c9, .int .i64 at_, .slice A1 told.length c1]) hd ⟨hE3, _, by rw [hno], by unfold refLog; rw [hno]; exact HR3.out.mod hM G4n.out, HFU.out.imp id (fun h b hb => Nat.le_trans HE0.out.size (h b hb))⟩ hB (fun k hk => by
        obtain rfl | rfl | rfl : k = 0 ∨ k = 1 ∨ k = 2 := by simp at hk; omega
        all_goals rfl) Try.underlying48
  · have HA := Lib.hid ha
    have hr := HR.out
    rw [if_neg HA.out] at hr
    have HR2 := Lib.hid hr
    have hno : refNo l e = appendNo l e := by unfold refNo; rw [if_pos HA.out]
    have ha' : (appendNo l e != 0) = true := by simpa using ha
    clear ha HR hr
    repeat' (first | refine X_d (fun vb hvb => ?_) | refine X_dg (fun vb hvb => ?_) | refine X_q ?_ | refine X_g ?_ | refine X_gf ?_ | refine X_niln ?_ | refine X_nil ?_ | (refine X_var (fun yn bn hn1 hn2 hn3 hn4 hn5 => ?_)) | refine W_seqk (fun K hK => ?_) | refine W_seqr ?_ | refine W_ret ?_ | refine W_skip ?_ | refine W_block ?_ | refine W_exit ?_ | (refine X_s (fun x K hK => ?_); go_simp; refine hK _ _ (Ext.alloc _ _) ?_; clear hK K; refine X_al x ?_; generalize (World.later _ x).heap.size = bn; intro yn hn1 hn2 hn3 hn4 hn5; clear x) | refine W_tt ?_ | refine W_ff ?_ | refine W_test (fun hc => ?_) (fun hc => ?_) | go_step)
    refine X_store (off := 0) (v := .agg #[.slice A0 l.length c, .int .i64 at_, .slice A1 told.length c1]) G4.out (fun W2 hM hB => ?_)
    have hE2 : Ext w W2 := Ext.fresh hEw hM (by rintro _ rfl; exact hw4)
    repeat' (first | refine X_d (fun vb hvb => ?_) | refine X_dg (fun vb hvb => ?_) | refine X_q ?_ | refine X_g ?_ | refine X_gf ?_ | refine X_niln ?_ | refine X_nil ?_ | (refine X_var (fun yn bn hn1 hn2 hn3 hn4 hn5 => ?_)) | refine W_seqk (fun K hK => ?_) | refine W_seqr ?_ | refine W_ret ?_ | refine W_skip ?_ | refine W_block ?_ | refine W_exit ?_ | (refine X_s (fun x K hK => ?_); go_simp; refine hK _ _ (Ext.alloc _ _) ?_; clear hK K; refine X_al x ?_; generalize (World.later _ x).heap.size = bn; intro yn hn1 hn2 hn3 hn4 hn5; clear x) | refine W_tt ?_ | refine W_ff ?_ | refine W_test (fun hc => ?_) (fun hc => ?_) | go_step)
    refine Body_retcell2 (cs := [.slice A0 l.length c, .int .i64 at_, .slice A1 told.length c1]) hd ⟨hE2, _, by rw [hno], by unfold refLog; rw [hno, if_neg HA.out]; exact hl0.out.later hE2, .inl rfl⟩ hB (fun k hk => by
      obtain rfl | rfl | rfl : k = 0 ∨ k = 1 ∨ k = 2 := by simp at hk; omega
      all_goals rfl) Try.underlying48
/-- What the reference's To tells. -/
def refMore (l : List Ent) (told : List Int) (n : Int) : List Int := (viewL (l.take n.toNat)).filter fun x => !(told.any (· == x))
theorem refto_calls (l : List Ent) (told : List Int) (u v : Value) (at_ n : Int) (w : World) (hl : RdE w u l) (ht : RdI w v told) (hln : l.length ≤ 1000) (htn : told.length ≤ 1000) :
    Ret Try.prog 35 #[.agg #[u, .int .i64 at_, v], .int .i64 n] w fun v' w' => Ext w w' ∧
      (toNo l at_ n ≠ 0 → v' = .tuple #[.agg #[u, .int .i64 at_, v], .slice none 0 0, .int .i64 (toNo l at_ n)]) ∧
      (toNo l at_ n = 0 → ∃ t q, v' = .tuple #[.agg #[u, .int .i64 n, t], q, .int .i64 0] ∧ RdI w' t (told ++ refMore l told n) ∧ RdI w' q (refMore l told n) ∧ (∀ b, t.ownBlock = some b → w.heap.size ≤ b) ∧ ∀ b, q.ownBlock = some b → w.heap.size ≤ b) := by
  have hl0 := Lib.hid hl
  have ht0 := Lib.hid ht
  obtain ⟨A0, c, rfl, hc, hcm, -⟩ := hl.ent
  obtain ⟨A1, c1, rfl, hc1, hcm1, HT⟩ := ht.int
  clear hl ht
  refine Fn_of Try.func35 rfl (Nat.le_of_ble_eq_true rfl) ?_; intro A hd hA; simp only [ix, Nat.reduceAdd]; replace hA : A.tmps.size = 77 := hA
  repeat' (first | refine X_d (fun vb hvb => ?_) | refine X_dg (fun vb hvb => ?_) | refine X_q ?_ | refine X_g ?_ | refine X_gf ?_ | refine X_niln ?_ | refine X_nil ?_ | (refine X_var (fun yn bn hn1 hn2 hn3 hn4 hn5 => ?_)) | refine W_seqk (fun K hK => ?_) | refine W_seqr ?_ | refine W_ret ?_ | refine W_skip ?_ | refine W_block ?_ | refine W_exit ?_ | (refine X_s (fun x K hK => ?_); go_simp; refine hK _ _ (Ext.alloc _ _) ?_; clear hK K; refine X_al x ?_; generalize (World.later _ x).heap.size = bn; intro yn hn1 hn2 hn3 hn4 hn5; clear x) | refine W_tt ?_ | refine W_ff ?_ | refine W_test (fun hc => ?_) (fun hc => ?_) | go_step)
  · rename Later w => y2
    have hno : toNo l at_ n = 4 := by
      unfold toNo; rw [if_pos]
      repeat cases ‹Eqn _ _›
      simpa using hc
    have hE0 : Ext w ((w.later y2).later yn) := by simp
    have hbn : w.heap.size ≤ bn := Nat.le_trans y2.2.size hn1
    refine X_store (off := 0) (v := .agg #[.slice A0 l.length c, .int .i64 at_, .slice A1 told.length c1]) (Blk.new hn5.out) (fun W2 hM hB => ?_)
    have hE2 : Ext w W2 := Ext.fresh hE0 hM (by rintro _ rfl; exact hbn)
    repeat' (first | refine X_d (fun vb hvb => ?_) | refine X_dg (fun vb hvb => ?_) | refine X_q ?_ | refine X_g ?_ | refine X_gf ?_ | refine X_niln ?_ | refine X_nil ?_ | (refine X_var (fun yn bn hn1 hn2 hn3 hn4 hn5 => ?_)) | refine W_seqk (fun K hK => ?_) | refine W_seqr ?_ | refine W_ret ?_ | refine W_skip ?_ | refine W_block ?_ | refine W_exit ?_ | (refine X_s (fun x K hK => ?_); go_simp; refine hK _ _ (Ext.alloc _ _) ?_; clear hK K; refine X_al x ?_; generalize (World.later _ x).heap.size = bn; intro yn hn1 hn2 hn3 hn4 hn5; clear x) | refine W_tt ?_ | refine W_ff ?_ | refine W_test (fun hc => ?_) (fun hc => ?_) | go_step)
    refine Body_retcell3 (cs := [.slice A0 l.length c, .int .i64 at_, .slice A1 told.length c1]) hd ⟨hE2, fun _ => by rw [hno], fun h => by rw [hno] at h; cases h⟩ hB (fun k hk => by
      obtain rfl | rfl | rfl : k = 0 ∨ k = 1 ∨ k = 2 := by simp at hk; omega
      all_goals rfl) Try.underlying48
  · rename (_ || _) = false => hcr
    rename Later w => y2
    have hno : toNo l at_ n = 2 := by
      unfold toNo; rw [if_neg, if_pos (by simpa using hc)]
      repeat cases ‹Eqn _ _›
      simpa using hcr
    have hE0 : Ext w ((w.later y2).later yn) := by simp
    have hbn : w.heap.size ≤ bn := Nat.le_trans y2.2.size hn1
    refine X_store (off := 0) (v := .agg #[.slice A0 l.length c, .int .i64 at_, .slice A1 told.length c1]) (Blk.new hn5.out) (fun W2 hM hB => ?_)
    have hE2 : Ext w W2 := Ext.fresh hE0 hM (by rintro _ rfl; exact hbn)
    repeat' (first | refine X_d (fun vb hvb => ?_) | refine X_dg (fun vb hvb => ?_) | refine X_q ?_ | refine X_g ?_ | refine X_gf ?_ | refine X_niln ?_ | refine X_nil ?_ | (refine X_var (fun yn bn hn1 hn2 hn3 hn4 hn5 => ?_)) | refine W_seqk (fun K hK => ?_) | refine W_seqr ?_ | refine W_ret ?_ | refine W_skip ?_ | refine W_block ?_ | refine W_exit ?_ | (refine X_s (fun x K hK => ?_); go_simp; refine hK _ _ (Ext.alloc _ _) ?_; clear hK K; refine X_al x ?_; generalize (World.later _ x).heap.size = bn; intro yn hn1 hn2 hn3 hn4 hn5; clear x) | refine W_tt ?_ | refine W_ff ?_ | refine W_test (fun hc => ?_) (fun hc => ?_) | go_step)
    refine Body_retcell3 (cs := [.slice A0 l.length c, .int .i64 at_, .slice A1 told.length c1]) hd ⟨hE2, fun _ => by rw [hno], fun h => by rw [hno] at h; cases h⟩ hB (fun k hk => by
      obtain rfl | rfl | rfl : k = 0 ∨ k = 1 ∨ k = 2 := by simp at hk; omega
      all_goals rfl) Try.underlying48
  · rename (_ || _) = false => hcr
    have hrg : ¬ (n < 0 ∨ (l.length : Int) < n) := by
      repeat cases ‹Eqn _ _›
      simpa using hcr
    have hno : toNo l at_ n = 0 := by
      unfold toNo; rw [if_neg hrg, if_neg (by simpa using hc)]
    obtain ⟨N, rfl⟩ : ∃ N : Nat, n = N := ⟨n.toNat, by omega⟩
    have hNl : N ≤ l.length := by omega
    have HN := Lib.hid hno
    clear hno hrg hcr hc
    rename_i b2 y2 p21 p22 p23 p24 p25
    obtain ⟨b4, rfl⟩ : ∃ b4, b4 = bn := ⟨_, rfl⟩
    rename Later (w.later y2) => y4
    have s1 : w.heap.size ≤ (w.later y2).heap.size := y2.2.size
    have s2 : (w.later y2).heap.size ≤ ((w.later y2).later y4).heap.size := y4.2.size
    have hw4 : w.heap.size ≤ b4 := by omega
    have hn42 : b4 ≠ b2 := by omega
    have g2 : Blk ((w.later y2).later y4) b2 48 3 _ := (Blk.new p25.out).later (by simp)
    have g4 : Blk ((w.later y2).later y4) b4 48 3 _ := Blk.new hn5.out
    have hE0 : Ext w ((w.later y2).later y4) := by simp
    refine X_ret Try.func26 (view9_calls l A0 c N _ (hl0.out.later hE0) hNl (by omega)) (fun va w1 hR => ?_)
    obtain ⟨hE, hr⟩ := hR
    have hr0 := Lib.hid hr
    have hvn : (viewL (l.take N)).length ≤ 1000 := by have := viewL_len (l.take N); simp at this; omega
    have ht1 := Lib.hid (ht0.out.later (Ext.trans hE0 hE))
    have hl1 := Lib.hid (hl0.out.later (Ext.trans hE0 hE))
    have hEw := Ext.trans hE0 hE
    have G2 := Lib.hid (g2.later hE)
    have G4 := Lib.hid (g4.later hE)
    have hl2 := G2.out.lt
    have c0 : w1.cell? ⟨b2, 0, none⟩ = some (.slice A0 l.length c) := (G2.out.cell (k := 0) (by omega)).trans rfl
    have c1' : w1.cell? ⟨b2, 1, none⟩ = some (.int .i64 at_) := (G2.out.cell (k := 1) (by omega)).trans rfl
    have c2 : w1.cell? ⟨b2, 2, none⟩ = some (.slice A1 told.length c1) := (G2.out.cell (k := 2) (by omega)).trans rfl
    have hw1 : w.heap.size ≤ w1.heap.size := hEw.size
    clear g2 g4 hE0 hE p22 p23 p24 p25 hn1 hn2 hn3 hn4 hn5 HT s1 s2
    repeat cases ‹Eqn _ _›
    obtain ⟨all, hall⟩ : ∃ all, all = viewL (l.take N) := ⟨_, rfl⟩
    rw [← hall] at hvn
    have HALL := Lib.hid hall
    have hr1 : RdI w1 va all := hall ▸ hr
    clear hr hall hr0
    obtain ⟨A2, c3, rfl, hc3, hcm3, HV⟩ := hr1.int
    obtain ⟨A1', c1', hvv, -, -, HT⟩ := ht1.out.int
    cases hvv
    clear hr1 y2 y4
    repeat' (first | refine X_d (fun vb hvb => ?_) | refine X_dg (fun vb hvb => ?_) | refine X_q ?_ | refine X_g ?_ | refine X_gf ?_ | refine X_niln ?_ | refine X_nil ?_ | (refine X_var (fun yn bn hn1 hn2 hn3 hn4 hn5 => ?_)) | refine W_seqk (fun K hK => ?_) | refine W_seqr ?_ | refine W_ret ?_ | refine W_skip ?_ | refine W_block ?_ | refine W_exit ?_ | (refine X_s (fun x K hK => ?_); go_simp; refine hK _ _ (Ext.alloc _ _) ?_; clear hK K; refine X_al x ?_; generalize (World.later _ x).heap.size = bn; intro yn hn1 hn2 hn3 hn4 hn5; clear x) | refine W_tt ?_ | refine W_ff ?_ | refine W_test (fun hc => ?_) (fun hc => ?_) | go_step)
    refine W_loops [1, 2, 4, 7, 8, 9] (fun n vs w' => ∃ (k : Nat) (y : Later w1) (u : Value), w' = w1.later y ∧ k + n = all.length ∧ vs = [.int .i64 N, .pointer (some ⟨b2, 0, none⟩), .pointer (some ⟨b4, 0, none⟩), .slice A2 all.length c3, u, .int .i64 k] ∧ OwnI (w1.later y) u ((all.take k).filter fun x => !(told.any (· == x))) ∧ ∀ b, u.ownBlock = some b → w1.heap.size ≤ b) all.length hd hA (by decide) ?_ ?_
    · exact ⟨0, ⟨w1, Ext.refl w1⟩, _, rfl, by omega, by simp, Own.nil _, by intro b hb; cases hb⟩
    clear hd hA A; intro n vs B w' hd hA _ ⟨k, y, u, hw, hk, hvs, hown, hfr⟩; subst hw hvs
    simp only [List.zip_cons_cons, List.zip_nil_right, List.zip_nil_left]
    have Ho := Lib.hid hown
    have Hf := Lib.hid hfr
    clear hown hfr
    by_cases hlt : k < all.length
    · have hki : (k : Int) < all.length := by omega
      obtain ⟨x, bx, ox, HX, rfl, hbx, cx⟩ := HV.out k hlt
      repeat' (first | refine X_d (fun vb hvb => ?_) | refine X_dg (fun vb hvb => ?_) | refine X_q ?_ | refine X_g ?_ | refine X_gf ?_ | refine X_niln ?_ | refine X_nil ?_ | (refine X_var (fun yn bn hn1 hn2 hn3 hn4 hn5 => ?_)) | refine W_seqk (fun K hK => ?_) | refine W_seqr ?_ | refine W_ret ?_ | refine W_skip ?_ | refine W_block ?_ | refine W_exit ?_ | (refine X_s (fun x K hK => ?_); go_simp; refine hK _ _ (Ext.alloc _ _) ?_; clear hK K; refine X_al x ?_; generalize (World.later _ x).heap.size = bn; intro yn hn1 hn2 hn3 hn4 hn5; clear x) | refine W_tt ?_ | refine W_ff ?_ | refine W_test (fun hc => ?_) (fun hc => ?_) | go_step)
      refine W_loops [1, 2, 4, 7, 8, 9, 10, 11] (fun n vs w' => ∃ (j : Nat), w' = w1.later y ∧ j + n = told.length ∧ vs = [.int .i64 N, .pointer (some ⟨b2, 0, none⟩), .pointer (some ⟨b4, 0, none⟩), .slice (some ⟨bx, ox, none⟩) all.length c3, u, .int .i64 k, .bool ((told.take j).any (· == x)), .int .i64 j]) told.length hd hA (by decide) ⟨0, rfl, by omega, by simp⟩ ?_
      clear hd hA B; intro n2 vs B2 w' hd hA _ ⟨j, hw, hj, hvs⟩; subst hw hvs
      simp only [List.zip_cons_cons, List.zip_nil_right, List.zip_nil_left]
      by_cases hlj : j < told.length
      · obtain ⟨t, b1, o1, HTX, hbe, hb1, d0⟩ := HT.out j hlj
        subst hbe
        have hji : (j : Int) < told.length := by omega
        repeat' (first | refine X_d (fun vb hvb => ?_) | refine X_dg (fun vb hvb => ?_) | refine X_q ?_ | refine X_g ?_ | refine X_gf ?_ | refine X_niln ?_ | refine X_nil ?_ | (refine X_var (fun yn bn hn1 hn2 hn3 hn4 hn5 => ?_)) | refine W_seqk (fun K hK => ?_) | refine W_seqr ?_ | refine W_draw (by kernel_rfl) (by kernel_rfl) ?_ | refine W_ret ?_ | refine W_skip ?_ | refine W_block ?_ | refine W_exit ?_ | (refine X_s (fun x K hK => ?_); go_simp; refine hK _ _ (Ext.alloc _ _) ?_; clear hK K; refine X_al x ?_; generalize (World.later _ x).heap.size = bn; intro yn hn1 hn2 hn3 hn4 hn5; clear x) | refine W_tt ?_ | refine W_ff ?_ | refine W_test (fun hc => ?_) (fun hc => ?_) | go_step)
        refine ⟨_, _, rfl, hd, hA, n2 - 1, by omega, j + 1, trivial, by omega, ?_⟩
        have := take_snoc HTX.out
        repeat cases ‹Eqn _ _›
        simp [this]
      · obtain rfl : j = told.length := by omega
        have HL := Lib.hid hlj
        have hfl : ((all.take k).filter fun x => !(told.any (· == x))).length ≤ 1000 := Nat.le_trans (List.length_filter_le _ _) (by simp; omega)
        have HFL := Lib.hid hfl
        clear hlj hfl
        repeat' (first | refine X_d (fun vb hvb => ?_) | refine X_dg (fun vb hvb => ?_) | refine X_q ?_ | refine X_g ?_ | refine X_gf ?_ | refine X_niln ?_ | refine X_nil ?_ | (refine X_var (fun yn bn hn1 hn2 hn3 hn4 hn5 => ?_)) | refine W_seqk (fun K hK => ?_) | refine W_seqr ?_ | refine W_ret ?_ | refine W_skip ?_ | refine W_block ?_ | refine W_exit ?_ | (refine X_s (fun x K hK => ?_); go_simp; refine hK _ _ (Ext.alloc _ _) ?_; clear hK K; refine X_al x ?_; generalize (World.later _ x).heap.size = bn; intro yn hn1 hn2 hn3 hn4 hn5; clear x) | refine W_tt ?_ | refine W_ff ?_ | refine W_test (fun hc => ?_) (fun hc => ?_) | go_step)
        · refine X_push (w0 := w1) (by simp) elemInt (Ho.out.later (by simp)) Hf.out (Rd.one (x := x) hn2 hn3 rfl) (by have := HFL.out; simp at this ⊢; omega) (by have := HFL.out; unfold maxLen; simp at this ⊢; omega) (fun y' v' hO hF _ _ => ?_)
          repeat' (first | refine X_d (fun vb hvb => ?_) | refine X_dg (fun vb hvb => ?_) | refine X_q ?_ | refine X_g ?_ | refine X_gf ?_ | refine X_niln ?_ | refine X_nil ?_ | (refine X_var (fun yn bn hn1 hn2 hn3 hn4 hn5 => ?_)) | refine W_seqk (fun K hK => ?_) | refine W_seqr ?_ | refine W_ret ?_ | refine W_skip ?_ | refine W_block ?_ | refine W_exit ?_ | (refine X_s (fun x K hK => ?_); go_simp; refine hK _ _ (Ext.alloc _ _) ?_; clear hK K; refine X_al x ?_; generalize (World.later _ x).heap.size = bn; intro yn hn1 hn2 hn3 hn4 hn5; clear x) | refine W_tt ?_ | refine W_ff ?_ | refine W_test (fun hc => ?_) (fun hc => ?_) | go_step)
          refine ⟨_, _, rfl, hd, hA, n - 1, by omega, k + 1, y', v', rfl, by omega, by simp, ?_, hF⟩
          rw [take_snoc HX.out, List.filter_append, List.filter_cons, if_pos hc]
          exact hO
        · refine ⟨_, _, rfl, hd, hA, n - 1, by omega, k + 1, y, u, rfl, by omega, by simp, ?_, Hf.out⟩
          rw [take_snoc HX.out, List.filter_append, List.filter_cons, if_neg (by simpa using hc)]
          simpa using Ho.out
    · obtain rfl : k = all.length := by omega
      have HL := Lib.hid hlt
      have ho := Ho.out
      rw [List.take_length] at ho
      obtain ⟨out, hout⟩ : ∃ out, out = all.filter fun x => !(told.any (· == x)) := ⟨_, rfl⟩
      rw [← hout] at ho
      have hol : out.length ≤ 1000 := by rw [hout]; exact Nat.le_trans (List.length_filter_le _ _) (by omega)
      have hrm : refMore l told N = out := by unfold refMore; rw [hout, HALL.out]; simp
      have HRM := Lib.hid hrm
      have Ho' := Lib.hid ho
      clear hlt ho Ho hout hrm
      repeat' (first | refine X_d (fun vb hvb => ?_) | refine X_dg (fun vb hvb => ?_) | refine X_q ?_ | refine X_g ?_ | refine X_gf ?_ | refine X_niln ?_ | refine X_nil ?_ | (refine X_var (fun yn bn hn1 hn2 hn3 hn4 hn5 => ?_)) | refine W_seqk (fun K hK => ?_) | refine W_seqr ?_ | refine W_ret ?_ | refine W_skip ?_ | refine W_block ?_ | refine W_exit ?_ | (refine X_s (fun x K hK => ?_); go_simp; refine hK _ _ (Ext.alloc _ _) ?_; clear hK K; refine X_al x ?_; generalize (World.later _ x).heap.size = bn; intro yn hn1 hn2 hn3 hn4 hn5; clear x) | refine W_tt ?_ | refine W_ff ?_ | refine W_test (fun hc => ?_) (fun hc => ?_) | go_step)
      refine X_push (xs := []) (w0 := w1.later y) (by simp) elemInt (Own.empty hn5.out) (fun b hb => by cases hb; exact hn1) (ht1.out.later (by simp)) (by simp; omega) (by unfold maxLen; simp; omega) (fun ya va hOa hFa _ _ => ?_)
      repeat' (first | refine X_d (fun vb hvb => ?_) | refine X_dg (fun vb hvb => ?_) | refine X_q ?_ | refine X_g ?_ | refine X_gf ?_ | refine X_niln ?_ | refine X_nil ?_ | (refine X_var (fun yn bn hn1 hn2 hn3 hn4 hn5 => ?_)) | refine W_seqk (fun K hK => ?_) | refine W_seqr ?_ | refine W_ret ?_ | refine W_skip ?_ | refine W_block ?_ | refine W_exit ?_ | (refine X_s (fun x K hK => ?_); go_simp; refine hK _ _ (Ext.alloc _ _) ?_; clear hK K; refine X_al x ?_; generalize (World.later _ x).heap.size = bn; intro yn hn1 hn2 hn3 hn4 hn5; clear x) | refine W_tt ?_ | refine W_ff ?_ | refine W_test (fun hc => ?_) (fun hc => ?_) | go_step)
      refine X_push (xs := told) (w0 := w1.later y) (by simp) elemInt hOa hFa ((Ho'.out.rd (enc := ics) (k := 1) (fun _ => rfl)).later (by simp)) (by omega) (by unfold maxLen; omega) (fun yb v9 hOb hFb _ _ => ?_)
      obtain ⟨A9, n9, c9, rfl⟩ : ∃ A9 n9 c9, v9 = .slice A9 n9 c9 := by obtain ⟨A9, c9, h, _⟩ := Own.rd (enc := ics) (k := 1) (fun _ => rfl) hOb; exact ⟨_, _, _, h⟩
      obtain ⟨A8, n8, c8, rfl⟩ : ∃ A9 n9 c9, u = .slice A9 n9 c9 := by obtain ⟨A9, c9, h, _⟩ := Own.rd (enc := ics) (k := 1) (fun _ => rfl) Ho'.out; exact ⟨_, _, _, h⟩
      have hEb : Ext w1 ((w1.later y).later yb) := by simp
      have hs8 := hEb.size
      have HOB := Lib.hid hOb
      have HFB := Lib.hid hFb
      clear hOa hFa hOb hFb
      repeat' (first | refine X_d (fun vb hvb => ?_) | refine X_dg (fun vb hvb => ?_) | refine X_q ?_ | refine X_g ?_ | refine X_gf ?_ | refine X_niln ?_ | refine X_nil ?_ | (refine X_var (fun yn bn hn1 hn2 hn3 hn4 hn5 => ?_)) | refine W_seqk (fun K hK => ?_) | refine W_seqr ?_ | refine W_ret ?_ | refine W_skip ?_ | refine W_block ?_ | refine W_exit ?_ | (refine X_s (fun x K hK => ?_); go_simp; refine hK _ _ (Ext.alloc _ _) ?_; clear hK K; refine X_al x ?_; generalize (World.later _ x).heap.size = bn; intro yn hn1 hn2 hn3 hn4 hn5; clear x) | refine W_tt ?_ | refine W_ff ?_ | refine W_test (fun hc => ?_) (fun hc => ?_) | go_step)
      refine X_store (off := 1) (G2.out.later hEb) (fun W5 hM5 hB5 => ?_)
      repeat' (first | refine X_d (fun vb hvb => ?_) | refine X_dg (fun vb hvb => ?_) | refine X_q ?_ | refine X_g ?_ | refine X_gf ?_ | refine X_niln ?_ | refine X_nil ?_ | (refine X_var (fun yn bn hn1 hn2 hn3 hn4 hn5 => ?_)) | refine W_seqk (fun K hK => ?_) | refine W_seqr ?_ | refine W_ret ?_ | refine W_skip ?_ | refine W_block ?_ | refine W_exit ?_ | (refine X_s (fun x K hK => ?_); go_simp; refine hK _ _ (Ext.alloc _ _) ?_; clear hK K; refine X_al x ?_; generalize (World.later _ x).heap.size = bn; intro yn hn1 hn2 hn3 hn4 hn5; clear x) | refine W_tt ?_ | refine W_ff ?_ | refine W_test (fun hc => ?_) (fun hc => ?_) | go_step)
      refine X_store (off := 2) hB5 (fun W6 hM6 hB6 => ?_)
      have hMM : Mod (· = b2) ((w1.later y).later yb) W6 := Mod.trans hM5 hM6 (fun _ _ h => h) (fun _ _ h => h)
      have hE6 : Ext w W6 := Ext.fresh (Ext.trans hEw hEb) hMM (by rintro _ rfl; exact p21)
      have G4' := (G4.out.later hEb).mod hMM hn42
      have d0 : W6.cell? ⟨b2, 0, none⟩ = some (.slice A0 l.length c) := (hB6.cell (k := 0) (by omega)).trans rfl
      have d1 : W6.cell? ⟨b2, 1, none⟩ = some (.int .i64 N) := (hB6.cell (k := 1) (by omega)).trans rfl
      have d2 : W6.cell? ⟨b2, 2, none⟩ = some (.slice A9 n9 c9) := (hB6.cell (k := 2) (by omega)).trans rfl
      have d3 := hB6.lt
      have hbs : w1.heap.size ≤ (w1.later y).heap.size := y.2.size
      have r1 := Lib.hid ((HOB.out.rd (enc := ics) (k := 1) (fun _ => rfl)).mod hMM (fun b hb h => by subst h; have := HFB.out _ hb; omega))
      have r2 := Lib.hid (((Ho'.out.rd (enc := ics) (k := 1) (fun _ => rfl)).later yb.2).mod hMM (fun b hb h => by subst h; have := Hf.out _ hb; omega))
      have HF4 : Hid (∀ b, Value.ownBlock (.slice A9 n9 c9) = some b → ¬ b = b4) := Lib.hid (fun b hb h => by subst h; have := HFB.out _ hb; have := G4.out.lt; omega)
      have HF5 : Hid (∀ b, Value.ownBlock (.slice A8 n8 c8) = some b → ¬ b = b4) := Lib.hid (fun b hb h => by subst h; have := Hf.out _ hb; have := G4.out.lt; omega)
      clear hB5 hB6 hM5 hM6 hMM c0 c1' c2 hl2
      repeat' (first | refine X_d (fun vb hvb => ?_) | refine X_dg (fun vb hvb => ?_) | refine X_q ?_ | refine X_g ?_ | refine X_gf ?_ | refine X_niln ?_ | refine X_nil ?_ | (refine X_var (fun yn bn hn1 hn2 hn3 hn4 hn5 => ?_)) | refine W_seqk (fun K hK => ?_) | refine W_seqr ?_ | refine W_ret ?_ | refine W_skip ?_ | refine W_block ?_ | refine W_exit ?_ | (refine X_s (fun x K hK => ?_); go_simp; refine hK _ _ (Ext.alloc _ _) ?_; clear hK K; refine X_al x ?_; generalize (World.later _ x).heap.size = bn; intro yn hn1 hn2 hn3 hn4 hn5; clear x) | refine W_tt ?_ | refine W_ff ?_ | refine W_test (fun hc => ?_) (fun hc => ?_) | go_step)
      refine X_store (off := 0) (v := .agg #[.slice A0 l.length c, .int .i64 N, .slice A9 n9 c9]) G4' (fun W7 hM7 hB7 => ?_)
      have hE7 : Ext w W7 := Ext.fresh hE6 hM7 (by rintro _ rfl; exact hw4)
      repeat' (first | refine X_d (fun vb hvb => ?_) | refine X_dg (fun vb hvb => ?_) | refine X_q ?_ | refine X_g ?_ | refine X_gf ?_ | refine X_niln ?_ | refine X_nil ?_ | (refine X_var (fun yn bn hn1 hn2 hn3 hn4 hn5 => ?_)) | refine W_seqk (fun K hK => ?_) | refine W_seqr ?_ | refine W_ret ?_ | refine W_skip ?_ | refine W_block ?_ | refine W_exit ?_ | (refine X_s (fun x K hK => ?_); go_simp; refine hK _ _ (Ext.alloc _ _) ?_; clear hK K; refine X_al x ?_; generalize (World.later _ x).heap.size = bn; intro yn hn1 hn2 hn3 hn4 hn5; clear x) | refine W_tt ?_ | refine W_ff ?_ | refine W_test (fun hc => ?_) (fun hc => ?_) | go_step)
      refine Body_retcell3 (cs := [.slice A0 l.length c, .int .i64 N, .slice A9 n9 c9]) hd ⟨hE7, fun h => absurd HN.out h, fun _ => ⟨_, _, rfl, by rw [HRM.out]; exact r1.out.mod hM7 HF4.out, by rw [HRM.out]; exact r2.out.mod hM7 HF5.out, fun b hb => by have := HFB.out _ hb; omega, fun b hb => by have := Hf.out _ hb; omega⟩⟩ hB7 (fun k hk => by
        obtain rfl | rfl | rfl : k = 0 ∨ k = 1 ∨ k = 2 := by simp at hk; omega
        all_goals rfl) Try.underlying48
end Go.Ws
