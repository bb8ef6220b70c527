/- Lemmas for the statement ReplicaPair (joined texts); no condition. -/
import Derived.Test.YtlpjgegbdmkmdaaKReplicaPair10
namespace Go.Ws
open Go Go.RowKit Go.Proofs
set_option maxHeartbeats 4000000
set_option maxRecDepth 100000
set_option linter.unusedVariables false
set_option linter.unusedSimpArgs false
set_option pp.deepTerms true
set_option pp.maxSteps 100000000

/-- Two replicas, apart. -/
structure Both (w W : World) (b1 : Nat) (F1 : Nat → Prop) (s : RepS) (b2 : Nat) (F2 : Nat → Prop) (t : RepS) : Prop where
  h1 : HR w W b1 F1 s
  h2 : HR w W b2 F2 t
  ap : ∀ k, F1 k → ¬ F2 k
section
variable {w W W' : World} {b1 b2 : Nat} {F1 F2 F' : Nat → Prop} {s t s' t' : RepS}
theorem Both.later (h : Both w W b1 F1 s b2 F2 t) (hE : Ext W W') : Both w W' b1 F1 s b2 F2 t := ⟨h.h1.later hE, h.h2.later hE, h.ap⟩
theorem Both.left (h : Both w W b1 F1 s b2 F2 t) (hM : Mod F1 W W') (h1 : HR w W' b1 F' s') (hF : ∀ k, F' k → F1 k ∨ W.heap.size ≤ k) : Both w W' b1 F' s' b2 F2 t :=
  ⟨h1, h.h2.beside hM (fun k hk => (h.h1.hi k hk).1) (fun k h2 h1 => h.ap k h1 h2), fun k hk h2 => (hF k hk).elim (fun h1 => h.ap k h1 h2) (fun h3 => by have := (h.h2.hi k h2).2; omega)⟩
theorem Both.right (h : Both w W b1 F1 s b2 F2 t) (hM : Mod F2 W W') (h2 : HR w W' b2 F' t') (hF : ∀ k, F' k → F2 k ∨ W.heap.size ≤ k) : Both w W' b1 F1 s b2 F' t' :=
  ⟨h.h1.beside hM (fun k hk => (h.h2.hi k hk).1) h.ap, h2, fun k h1 hk => (hF k hk).elim (fun h3 => h.ap k h1 h3) (fun h3 => by have := (h.h1.hi k h1).2; omega)⟩
theorem Both.l1 (h : Both w W b1 F1 s b2 F2 t) (hM : Mod F1 W W') (hR : Rep W' b1 (fun k => F1 k ∨ W.heap.size ≤ k) s') : ∃ F', Both w W' b1 F' s' b2 F2 t ∧ ∀ k, F' k → F1 k ∨ W.heap.size ≤ k :=
  ⟨_, h.left hM (h.h1.step hM hR) (fun k hk => hk.1), fun k hk => hk.1⟩
theorem Both.r1 (h : Both w W b1 F1 s b2 F2 t) (hM : Mod F2 W W') (hR : Rep W' b2 (fun k => F2 k ∨ W.heap.size ≤ k) t') : ∃ F', Both w W' b1 F1 s b2 F' t' ∧ ∀ k, F' k → F2 k ∨ W.heap.size ≤ k :=
  ⟨_, h.right hM (h.h2.step hM hR) (fun k hk => hk.1), fun k hk => hk.1⟩
theorem Both.l0 (h : Both w W b1 F1 s b2 F2 t) (hM : Mod F1 W W') (hR : Rep W' b1 F1 s') : Both w W' b1 F1 s' b2 F2 t := h.left hM (h.h1.stepF hM hR) (fun k hk => .inl hk)
theorem Both.r0 (h : Both w W b1 F1 s b2 F2 t) (hM : Mod F2 W W') (hR : Rep W' b2 F2 t') : Both w W' b1 F1 s b2 F2 t' := h.right hM (h.h2.stepF hM hR) (fun k hk => .inl hk)
end
/-- The box of the numbers. -/
structure Fld (W : World) (bx : Nat) (mo ms : Int) : Prop where
  lt : bx < W.heap.size
  c1 : W.cell? ⟨bx, 1, none⟩ = some (.int .u8 mo)
  c2 : W.cell? ⟨bx, 2, none⟩ = some (.int .u8 ms)
theorem Fld.mod {W W' : World} {bx : Nat} {mo ms : Int} {F : Nat → Prop} (h : Fld W bx mo ms) (hM : Mod F W W') (hF : ¬ F bx) : Fld W' bx mo ms :=
  ⟨Nat.lt_of_lt_of_le h.lt hM.size, (cell?_mod hM h.lt hF).trans h.c1, (cell?_mod hM h.lt hF).trans h.c2⟩
def PairV (kp mo ms : Int) : Value := .agg #[.int .u8 kp, .int .u8 mo, .int .u8 ms]
theorem pair_calls (a : List Int) (v0 : Value) (b : List Int) (v2 : Value) (kp mo ms : Int) (hkp : 0 ≤ kp ∧ kp ≤ 255) (hmo : 0 ≤ mo ∧ mo ≤ 255) (hms : 0 ≤ ms ∧ ms ≤ 255) (w : World) (ha : RdL w v0 a) (hb : RdL w v2 b) :
    Pure Try.prog 3 #[v0, .agg #[.int .u8 kp, .int .u8 mo, .int .u8 ms], v2] w (.bool true) := by
  have HLA := Lib.hid ha
  have HLB := Lib.hid hb
  obtain ⟨A0, c0, rfl, hc0, hcm0, HRA⟩ := ha.int
  obtain ⟨A2, c2, rfl, hc2, hcm2, HRB⟩ := hb.int
  clear ha hb
  by_cases la : a.length ≤ 12
  · have lai : ¬ (12 : Int) < a.length := by omega
    by_cases lb : b.length ≤ 12
    · have lbi : ¬ (12 : Int) < b.length := by omega
      by_cases lm : mo ≤ 12
      · have lmi : ¬ 12 < mo := by omega
        by_cases oa : ordB a = true
        · by_cases ob : ordB b = true
          · refine Fn_of Try.func3 rfl (Nat.le_of_ble_eq_true rfl) ?_; intro A hd hA; simp only [ix, Nat.reduceAdd]; replace hA : A.tmps.size = 225 := hA
            repeat' (first | refine X_gt ?_ | refine X_q ?_ | refine X_g ?_ | refine X_gf ?_ | refine X_niln ?_ | refine X_nil ?_ | (refine X_var (fun yn bn hn1 hn2 hn3 hn4 hn5 => ?_)) | refine W_seqk (fun K hK => ?_) | refine W_seqr ?_ | refine W_ret ?_ | refine W_skip ?_ | refine W_block ?_ | refine W_exit ?_ | (refine X_s (fun x K hK => ?_); go_simp; refine hK _ _ (Ext.alloc _ _) ?_; clear hK K; refine X_al x ?_; generalize (World.later _ x).heap.size = bn; intro yn hn1 hn2 hn3 hn4 hn5; clear x) | refine W_tt ?_ | refine W_ff ?_ | refine W_test (fun hc => ?_) (fun hc => ?_) | go_step)
            have hE0 : Ext w (w.later yn) := yn.ext
            obtain ⟨bx, hbx0⟩ : ∃ bx : Nat, bx = bn := ⟨_, rfl⟩
            subst hbx0
            have HX := Lib.hid (Blk.new hn5.out)
            have hbxw : w.heap.size ≤ bx := hn1
            generalize World.later w yn = W0 at *
            clear hn1 hn2 hn3 hn4 hn5 yn
            have hx := HX.out.lt
            have x0 := HX.out.cell (k := 0) (by simp)
            have x1 := HX.out.cell (k := 1) (by simp)
            have x2 := HX.out.cell (k := 2) (by simp)
            simp at x0 x1 x2
            have HE0 := Lib.hid hE0
            clear hE0
            repeat' (first | refine X_pure Try.func4 ((oa ▸ ordered_calls a _ _ (HLA.out.later (Ext.trans HE0.out (by simp))))) ?_ | refine X_gpure Try.func4 (fun _ => (oa ▸ ordered_calls a _ _ (HLA.out.later (Ext.trans HE0.out (by simp))))) ?_ | (refine X_pure Try.func4 (ob ▸ ordered_calls b _ _ (HLB.out.later (Ext.trans HE0.out (by simp)))) ?_) | refine X_gt ?_ | refine X_q ?_ | refine X_g ?_ | refine X_gf ?_ | refine X_niln ?_ | refine X_nil ?_ | (refine X_var (fun yn bn hn1 hn2 hn3 hn4 hn5 => ?_)) | refine W_seqk (fun K hK => ?_) | refine W_seqr ?_ | refine W_ret ?_ | refine W_skip ?_ | refine W_block ?_ | refine W_exit ?_ | (refine X_s (fun x K hK => ?_); go_simp; refine hK _ _ (Ext.alloc _ _) ?_; clear hK K; refine X_al x ?_; generalize (World.later _ x).heap.size = bn; intro yn hn1 hn2 hn3 hn4 hn5; clear x) | refine W_tt ?_ | refine W_ff ?_ | refine W_test (fun hc => ?_) (fun hc => ?_) | go_step)
            refine X_ret Try.func6 (repNew_ok 0 1 rfl) (fun r w1 hR => ?_)
            obtain ⟨b1, rfl, hE1, hb1, hR1⟩ := hR
            have HH1 := Lib.hid (HR.start HE0.out hE1 hR1)
            have HE1 := Lib.hid (Ext.trans HE0.out hE1)
            clear hR1
            repeat' (first | refine X_gt ?_ | refine X_q ?_ | refine X_g ?_ | refine X_gf ?_ | refine X_niln ?_ | refine X_nil ?_ | (refine X_var (fun yn bn hn1 hn2 hn3 hn4 hn5 => ?_)) | refine W_seqk (fun K hK => ?_) | refine W_seqr ?_ | refine W_ret ?_ | refine W_skip ?_ | refine W_block ?_ | refine W_exit ?_ | (refine X_s (fun x K hK => ?_); go_simp; refine hK _ _ (Ext.alloc _ _) ?_; clear hK K; refine X_al x ?_; generalize (World.later _ x).heap.size = bn; intro yn hn1 hn2 hn3 hn4 hn5; clear x) | refine W_tt ?_ | refine W_ff ?_ | refine W_test (fun hc => ?_) (fun hc => ?_) | go_step)
            refine X_ret Try.func6 (repNew_ok 1 1 rfl) (fun r w2 hR => ?_)
            obtain ⟨b2, rfl, hE2, hb2, hR2⟩ := hR
            have hBoth : Both w w2 b1 _ (RepS.init 0 1) b2 _ (RepS.init 1 1) := ⟨HH1.out.later hE2, HR.start HE1.out hE2 hR2, fun k h1 h2 => by have := (HH1.out.hi k h1).2; have := h2.1; omega⟩
            have hs01 := hE1.size
            obtain ⟨F1, F2, hBB, hbxF1, hbxF2⟩ : ∃ F1 F2, Both w w2 b1 F1 (RepS.init 0 1) b2 F2 (RepS.init 1 1) ∧ ¬ F1 bx ∧ ¬ F2 bx := ⟨_, _, hBoth, fun h => by have := h.1; omega, fun h => by have := h.1; omega⟩
            have HB := Lib.hid hBB
            have HFn : Hid (∀ k, w2.heap.size ≤ k → ¬ F1 k ∧ ¬ F2 k) := Lib.hid (fun k hk => ⟨HB.out.h1.new hk, HB.out.h2.new hk⟩)
            have HBX := Lib.hid (And.intro hbxF1 hbxF2)
            clear hbxF1 hbxF2 hs01
            have y0 := (cell?_mod (Ext.trans hE1 hE2) (o := 0) hx (fun h => h)).trans x0
            have y1 := (cell?_mod (Ext.trans hE1 hE2) (o := 1) hx (fun h => h)).trans x1
            have y2 := (cell?_mod (Ext.trans hE1 hE2) (o := 2) hx (fun h => h)).trans x2
            have hx2 : bx < w2.heap.size := Nat.lt_of_lt_of_le hx (Ext.trans hE1 hE2).size
            clear x0 x1 x2 hx HH1 hE1 hE2 hR2 hBoth hBB hb1 hb2 HX
            have HLA2 := Lib.hid (HLA.out.later HB.out.h1.ext)
            have HLB2 := Lib.hid (HLB.out.later HB.out.h1.ext)
            obtain ⟨A', c', hA', -, -, HRA2⟩ := HLA2.out.int
            cases hA'
            obtain ⟨A', c', hA', -, -, HRB2⟩ := HLB2.out.int
            cases hA'
            clear HRA HRB
            repeat' (first | refine X_gt ?_ | refine X_q ?_ | refine X_g ?_ | refine X_gf ?_ | refine X_niln ?_ | refine X_nil ?_ | (refine X_var (fun yn bn hn1 hn2 hn3 hn4 hn5 => ?_)) | refine W_seqk (fun K hK => ?_) | refine W_seqr ?_ | refine W_ret ?_ | refine W_skip ?_ | refine W_block ?_ | refine W_exit ?_ | (refine X_s (fun x K hK => ?_); go_simp; refine hK _ _ (Ext.alloc _ _) ?_; clear hK K; refine X_al x ?_; generalize (World.later _ x).heap.size = bn; intro yn hn1 hn2 hn3 hn4 hn5; clear x) | refine W_tt ?_ | refine W_ff ?_ | refine W_test (fun hc => ?_) (fun hc => ?_) | go_step)
            refine W_loops [0, 2, 4, 7, 8, 9, 10, 11, 12, 13] (fun n vs w' => ∃ (k : Nat) (y : Later w2) (u : Value), w' = w2.later y ∧ k + n = a.length ∧ vs = [.slice A0 a.length c0, .slice A2 b.length c2, .pointer (some ⟨bx, 0, none⟩), .pointer (some ⟨b1, 0, none⟩), .int .i64 0, .pointer (some ⟨b2, 0, none⟩), .int .i64 0, u, .slice none 0 0, .int .i64 k] ∧ OwnL (w2.later y) u (ownOf (a.take k)) ∧ ∀ b, u.ownBlock = some b → w2.heap.size ≤ b) a.length hd hA (by decide) ⟨0, ⟨w2, Ext.refl w2⟩, _, rfl, by omega, by simp, Own.nil _, by intro b hb; cases hb⟩ ?_
            clear hd hA A; intro n vs A w' hd hA _ ⟨k, y, u, hw, hk, hvs, hown, hfr⟩; subst hw hvs
            simp only [List.zip_cons_cons, List.zip_nil_right, List.zip_nil_left]
            have Ho := Lib.hid hown; clear hown
            have Hf := Lib.hid hfr; clear hfr
            by_cases hlt : k < a.length
            · obtain ⟨e, b0, o0, HEe, rfl, hb0, c20⟩ := HRA2.out k hlt
              have hki : (k : Int) < a.length := by omega
              obtain ⟨he1, he2⟩ := ordFrom_mem a none oa e (List.mem_of_getElem? HEe.out)
              have HT : Hid (ownOf (a.take (k + 1)) = ownOf (a.take k) ++ [2 * e]) := Lib.hid (by rw [take_snoc HEe.out]; simp [ownOf])
              have hpl : (ownOf (a.take k)).length ≤ 12 := by simp [ownOf]; omega
              repeat' (first | refine X_gt ?_ | refine X_q ?_ | refine X_g ?_ | refine X_gf ?_ | refine X_niln ?_ | refine X_nil ?_ | (refine X_var (fun yn bn hn1 hn2 hn3 hn4 hn5 => ?_)) | refine W_seqk (fun K hK => ?_) | refine W_seqr ?_ | refine W_ret ?_ | refine W_skip ?_ | refine W_block ?_ | refine W_exit ?_ | (refine X_s (fun x K hK => ?_); go_simp; refine hK _ _ (Ext.alloc _ _) ?_; clear hK K; refine X_al x ?_; generalize (World.later _ x).heap.size = bn; intro yn hn1 hn2 hn3 hn4 hn5; clear x) | refine W_tt ?_ | refine W_ff ?_ | refine W_test (fun hc => ?_) (fun hc => ?_) | go_step)
              refine X_push (w0 := w2) (xs := ownOf (a.take k)) (Ext.trans y.ext yn.ext) elemI64 (Ho.out.later yn.ext) Hf.out (Rd.one (x := 2 * e) hn2 hn3 rfl) (by simp; omega) (by unfold maxLen; simp; omega) (fun y2 v' hO2 hF2 hN2 hM2 => ?_)
              have HO2 := Lib.hid hO2
              have HF2 := Lib.hid hF2
              clear hO2 hF2 hN2 hM2
              repeat' (first | refine X_gt ?_ | refine X_q ?_ | refine X_g ?_ | refine X_gf ?_ | refine X_niln ?_ | refine X_nil ?_ | (refine X_var (fun yn bn hn1 hn2 hn3 hn4 hn5 => ?_)) | refine W_seqk (fun K hK => ?_) | refine W_seqr ?_ | refine W_ret ?_ | refine W_skip ?_ | refine W_block ?_ | refine W_exit ?_ | (refine X_s (fun x K hK => ?_); go_simp; refine hK _ _ (Ext.alloc _ _) ?_; clear hK K; refine X_al x ?_; generalize (World.later _ x).heap.size = bn; intro yn hn1 hn2 hn3 hn4 hn5; clear x) | refine W_tt ?_ | refine W_ff ?_ | refine W_test (fun hc => ?_) (fun hc => ?_) | go_step)
              exact ⟨_, _, rfl, hd, hA, n - 1, by omega, k + 1, y2, _, rfl, by omega, by simp, by rw [HT.out]; exact HO2.out, HF2.out⟩
            · obtain rfl : k = a.length := by omega
              have hOl := Ho.out
              rw [List.take_length] at hOl
              have HO := Lib.hid (hOl.rd (enc := ics) (k := 1) (fun _ => rfl))
              clear hOl Ho
              have hE := y.ext
              generalize World.later w2 y = W3 at *
              have HB3 := Lib.hid (HB.out.later hE)
              have HLA3 := Lib.hid (HLA2.out.later hE)
              have HLB3 := Lib.hid (HLB2.out.later hE)
              have z0 := (cell?_mod hE (o := 0) hx2 (fun h => h)).trans y0
              have z1 := (cell?_mod hE (o := 1) hx2 (fun h => h)).trans y1
              have z2 := (cell?_mod hE (o := 2) hx2 (fun h => h)).trans y2
              have hx3 : bx < W3.heap.size := Nat.lt_of_lt_of_le hx2 hE.size
              have hw23 := hE.size
              obtain ⟨Ao, co, rfl, hco, hcom, -⟩ := HO.out.int
              have hol : (ownOf a).length = a.length := by simp [ownOf]
              rw [hol] at hco
              have HfO := Hf
              clear Hf
              have hkp1 := hkp.1
              have hkp2 := hkp.2
              clear y0 y1 y2 hx2 HB HLA2 HLB2 hE HRA2 HRB2
              obtain ⟨kn, hkn⟩ : ∃ kn : Nat, kp = kn := ⟨kp.toNat, by omega⟩
              have hnz : ¬ ((a.length : Int) + 1 = 0) := by omega
              obtain ⟨kk, hkk, hkl⟩ : ∃ kk : Nat, kp.tmod ((a.length : Int) + 1) = kk ∧ kk ≤ a.length := ⟨kn % (a.length + 1), IntWalk.up_tmod hkn (by simp), by have := Nat.mod_lt kn (show 0 < a.length + 1 by omega); omega⟩
              clear hkn
              have hkc : kk ≤ co := by omega
              have HO2 := Lib.hid (HO.out.take kk (by rw [hol]; exact hkl))
              repeat' (first | refine X_gt ?_ | refine X_q ?_ | refine X_g ?_ | refine X_gf ?_ | refine X_niln ?_ | refine X_nil ?_ | (refine X_var (fun yn bn hn1 hn2 hn3 hn4 hn5 => ?_)) | refine W_seqk (fun K hK => ?_) | refine W_seqr ?_ | refine W_ret ?_ | refine W_skip ?_ | refine W_block ?_ | refine W_exit ?_ | (refine X_s (fun x K hK => ?_); go_simp; refine hK _ _ (Ext.alloc _ _) ?_; clear hK K; refine X_al x ?_; generalize (World.later _ x).heap.size = bn; intro yn hn1 hn2 hn3 hn4 hn5; clear x) | refine W_tt ?_ | refine W_ff ?_ | refine W_test (fun hc => ?_) (fun hc => ?_) | go_step)
              refine X_append (xs := ([] : List Int)) elemI64 (Own.nil _) HO2.out (by simp; omega) (by unfold maxLen; simp; omega) (fun v' W4 hM4 hO4 hF4 hN4 => ?_)
              have hE4 : Ext W3 W4 := Ext.fresh (Ext.refl _) hM4 (fun k hk => by cases hk)
              have HO4 : Hid (OwnL W4 v' ((ownOf a).take kk)) := Lib.hid (by simpa using hO4)
              have HF4 : Hid (∀ k, v'.ownBlock = some k → W3.heap.size ≤ k) := Lib.hid (fun k hk => by
                rcases hF4 with h | ⟨g, h, hg⟩
                · rw [h] at hk; cases hk
                · rw [h] at hk; cases hk; exact hg)
              obtain ⟨y4, rfl⟩ := hE4.get
              clear hM4 hO4 hF4 hN4 hE4
              obtain ⟨A', c', hA', -, -, HRB3⟩ := HLB3.out.int
              cases hA'
              repeat' (first | refine X_gt ?_ | refine X_q ?_ | refine X_g ?_ | refine X_gf ?_ | refine X_niln ?_ | refine X_nil ?_ | (refine X_var (fun yn bn hn1 hn2 hn3 hn4 hn5 => ?_)) | refine W_seqk (fun K hK => ?_) | refine W_seqr ?_ | refine W_ret ?_ | refine W_skip ?_ | refine W_block ?_ | refine W_exit ?_ | (refine X_s (fun x K hK => ?_); go_simp; refine hK _ _ (Ext.alloc _ _) ?_; clear hK K; refine X_al x ?_; generalize (World.later _ x).heap.size = bn; intro yn hn1 hn2 hn3 hn4 hn5; clear x) | refine W_tt ?_ | refine W_ff ?_ | refine W_test (fun hc => ?_) (fun hc => ?_) | go_step)
              refine W_loops [0, 2, 4, 7, 8, 9, 10, 11, 12, 14] (fun n vs w' => ∃ (k : Nat) (y : Later W3) (u : Value), w' = W3.later y ∧ k + n = b.length ∧ vs = [.slice A0 a.length c0, .slice A2 b.length c2, .pointer (some ⟨bx, 0, none⟩), .pointer (some ⟨b1, 0, none⟩), .int .i64 0, .pointer (some ⟨b2, 0, none⟩), .int .i64 0, .slice Ao a.length co, u, .int .i64 k] ∧ OwnL (W3.later y) u ((b.take k).foldl stepIts ((ownOf a).take kk)) ∧ ∀ b, u.ownBlock = some b → W3.heap.size ≤ b) b.length hd hA (by decide) ⟨0, y4, v', rfl, by omega, by simp [hol], HO4.out, HF4.out⟩ ?_
              clear hd hA A HO4 HF4; intro n vs A w' hd hA _ ⟨k, y, u, hw, hk, hvs, hown, hfr⟩; subst hw hvs
              simp only [List.zip_cons_cons, List.zip_nil_right, List.zip_nil_left]
              have Ho := Lib.hid hown; clear hown
              have Hf := Lib.hid hfr; clear hfr
              by_cases hlt : k < b.length
              · obtain ⟨e, b0, o0, HEe, rfl, hb0, c20⟩ := HRB3.out k hlt
                have hki : (k : Int) < b.length := by omega
                obtain ⟨he1, he2⟩ := ordFrom_mem b none ob e (List.mem_of_getElem? HEe.out)
                have HT : Hid ((b.take (k + 1)).foldl stepIts ((ownOf a).take kk) = stepIts ((b.take k).foldl stepIts ((ownOf a).take kk)) e) := Lib.hid (by rw [take_snoc HEe.out, List.foldl_append]; rfl)
                have hq : ((b.take k).foldl stepIts ((ownOf a).take kk)).length ≤ kk + k := by
                  have key : ∀ (l its : List Int), (l.foldl stepIts its).length ≤ its.length + l.length := by
                    intro l
                    induction l with
                    | nil => intro its; simp
                    | cons x xs ih =>
                      intro its
                      rw [List.foldl_cons]
                      refine Nat.le_trans (ih _) ?_
                      unfold stepIts
                      split
                      · simp; omega
                      · simp
                  refine Nat.le_trans (key _ _) ?_
                  simp; omega
                generalize (b.take k).foldl stepIts ((ownOf a).take kk) = its at *
                obtain ⟨Ai, ci, rfl, hci, hcim, HRI⟩ := (Ho.out.rd (enc := ics) (k := 1) (fun _ => rfl)).int
                have HE1 := Lib.hid (And.intro he1 he2)
                by_cases hi0 : its.length = 0
                · have hi0b : ((its.length : Int) == 0) = true := by rw [hi0]; rfl
                  have HT2 : Hid (stepIts its e = its ++ [2 * e + 1]) := Lib.hid (by unfold stepIts; rw [if_pos (.inl hi0)])
                  clear HRI
                  repeat' (first | refine X_gt ?_ | refine X_q ?_ | refine X_g ?_ | refine X_gf ?_ | refine X_niln ?_ | refine X_nil ?_ | (refine X_var (fun yn bn hn1 hn2 hn3 hn4 hn5 => ?_)) | refine W_seqk (fun K hK => ?_) | refine W_seqr ?_ | refine W_ret ?_ | refine W_skip ?_ | refine W_block ?_ | refine W_exit ?_ | (refine X_s (fun x K hK => ?_); go_simp; refine hK _ _ (Ext.alloc _ _) ?_; clear hK K; refine X_al x ?_; generalize (World.later _ x).heap.size = bn; intro yn hn1 hn2 hn3 hn4 hn5; clear x) | refine W_tt ?_ | refine W_ff ?_ | refine W_test (fun hc => ?_) (fun hc => ?_) | go_step)
                  refine X_push (w0 := W3) (xs := its) (Ext.trans y.ext yn.ext) elemI64 (Ho.out.later yn.ext) Hf.out (Rd.one (x := 2 * e + 1) hn2 hn3 rfl) (by simp; omega) (by unfold maxLen; simp; omega) (fun y2 v' hO2 hF2 hN2 hM2 => ?_)
                  have HO2 := Lib.hid hO2
                  have HF2 := Lib.hid hF2
                  clear hO2 hF2 hN2 hM2
                  repeat' (first | refine X_gt ?_ | refine X_q ?_ | refine X_g ?_ | refine X_gf ?_ | refine X_niln ?_ | refine X_nil ?_ | (refine X_var (fun yn bn hn1 hn2 hn3 hn4 hn5 => ?_)) | refine W_seqk (fun K hK => ?_) | refine W_seqr ?_ | refine W_ret ?_ | refine W_skip ?_ | refine W_block ?_ | refine W_exit ?_ | (refine X_s (fun x K hK => ?_); go_simp; refine hK _ _ (Ext.alloc _ _) ?_; clear hK K; refine X_al x ?_; generalize (World.later _ x).heap.size = bn; intro yn hn1 hn2 hn3 hn4 hn5; clear x) | refine W_tt ?_ | refine W_ff ?_ | refine W_test (fun hc => ?_) (fun hc => ?_) | go_step)
                  exact ⟨_, _, rfl, hd, hA, n - 1, by omega, k + 1, y2, _, rfl, by omega, by simp, by rw [HT.out, HT2.out]; exact HO2.out, HF2.out⟩
                · have hi0b : ((its.length : Int) == 0) = false := beq_false_of_ne (by omega)
                  have hi1 : (its.length : Int) - 1 = ((its.length - 1 : Nat) : Int) := by omega
                  have hi2 : ((its.length - 1 : Nat) : Int) < its.length := by omega
                  obtain ⟨z, b5, o5, HZ, rfl, hb5, c5⟩ := HRI.out (its.length - 1) (by omega)
                  have hlast : (its.getLast?).getD 0 = z := by rw [List.getLast?_eq_getElem?, HZ.out]; rfl
                  have HLS := Lib.hid hlast
                  clear hlast HRI
                  by_cases hz : z ≤ 2 * e + 1
                  · have HT2 : Hid (stepIts its e = its ++ [2 * e + 1]) := Lib.hid (by unfold stepIts; rw [if_pos (.inr (by rw [HLS.out]; exact hz))])
                    repeat' (first | refine X_gt ?_ | refine X_q ?_ | refine X_g ?_ | refine X_gf ?_ | refine X_niln ?_ | refine X_nil ?_ | (refine X_var (fun yn bn hn1 hn2 hn3 hn4 hn5 => ?_)) | refine W_seqk (fun K hK => ?_) | refine W_seqr ?_ | refine W_ret ?_ | refine W_skip ?_ | refine W_block ?_ | refine W_exit ?_ | (refine X_s (fun x K hK => ?_); go_simp; refine hK _ _ (Ext.alloc _ _) ?_; clear hK K; refine X_al x ?_; generalize (World.later _ x).heap.size = bn; intro yn hn1 hn2 hn3 hn4 hn5; clear x) | refine W_tt ?_ | refine W_ff ?_ | refine W_test (fun hc => ?_) (fun hc => ?_) | go_step)
                    refine X_push (w0 := W3) (xs := its) (Ext.trans y.ext yn.ext) elemI64 (Ho.out.later yn.ext) Hf.out (Rd.one (x := 2 * e + 1) hn2 hn3 rfl) (by simp; omega) (by unfold maxLen; simp; omega) (fun y2 v' hO2 hF2 hN2 hM2 => ?_)
                    have HO2 := Lib.hid hO2
                    have HF2 := Lib.hid hF2
                    clear hO2 hF2 hN2 hM2
                    repeat' (first | refine X_gt ?_ | refine X_q ?_ | refine X_g ?_ | refine X_gf ?_ | refine X_niln ?_ | refine X_nil ?_ | (refine X_var (fun yn bn hn1 hn2 hn3 hn4 hn5 => ?_)) | refine W_seqk (fun K hK => ?_) | refine W_seqr ?_ | refine W_ret ?_ | refine W_skip ?_ | refine W_block ?_ | refine W_exit ?_ | (refine X_s (fun x K hK => ?_); go_simp; refine hK _ _ (Ext.alloc _ _) ?_; clear hK K; refine X_al x ?_; generalize (World.later _ x).heap.size = bn; intro yn hn1 hn2 hn3 hn4 hn5; clear x) | refine W_tt ?_ | refine W_ff ?_ | refine W_test (fun hc => ?_) (fun hc => ?_) | go_step)
                    exact ⟨_, _, rfl, hd, hA, n - 1, by omega, k + 1, y2, _, rfl, by omega, by simp, by rw [HT.out, HT2.out]; exact HO2.out, HF2.out⟩
                  · have HT2 : Hid (stepIts its e = its) := Lib.hid (by unfold stepIts; rw [if_neg]; rintro (h | h); exact hi0 h; rw [HLS.out] at h; exact hz h)
                    repeat' (first | refine X_gt ?_ | refine X_q ?_ | refine X_g ?_ | refine X_gf ?_ | refine X_niln ?_ | refine X_nil ?_ | (refine X_var (fun yn bn hn1 hn2 hn3 hn4 hn5 => ?_)) | refine W_seqk (fun K hK => ?_) | refine W_seqr ?_ | refine W_ret ?_ | refine W_skip ?_ | refine W_block ?_ | refine W_exit ?_ | (refine X_s (fun x K hK => ?_); go_simp; refine hK _ _ (Ext.alloc _ _) ?_; clear hK K; refine X_al x ?_; generalize (World.later _ x).heap.size = bn; intro yn hn1 hn2 hn3 hn4 hn5; clear x) | refine W_tt ?_ | refine W_ff ?_ | refine W_test (fun hc => ?_) (fun hc => ?_) | go_step)
                    exact ⟨_, _, rfl, hd, hA, n - 1, by omega, k + 1, y, _, rfl, by omega, by simp, by rw [HT.out, HT2.out]; exact Ho.out, Hf.out⟩
              · obtain rfl : k = b.length := by omega
                have hOl := Ho.out
                rw [List.take_length] at hOl
                have HI := Lib.hid (hOl.rd (enc := ics) (k := 1) (fun _ => rfl))
                have HO5 := Lib.hid (HO.out.later y.ext)
                have HB5 := Lib.hid (HB3.out.later y.ext)
                have HLA5 := Lib.hid (HLA3.out.later y.ext)
                have hE5 := y.ext
                clear hOl Ho
                generalize World.later W3 y = W5 at *
                have x0 := (cell?_mod hE5 (o := 0) hx3 (fun h => h)).trans z0
                have x1 := (cell?_mod hE5 (o := 1) hx3 (fun h => h)).trans z1
                have x2 := (cell?_mod hE5 (o := 2) hx3 (fun h => h)).trans z2
                have hx5 : bx < W5.heap.size := Nat.lt_of_lt_of_le hx3 hE5.size
                have hits : (b.foldl stepIts ((ownOf a).take kk)) = itsOf a b kk := rfl
                rw [hits] at HI
                obtain ⟨Oo, hIO, hIo, hIA, hIl⟩ := its_ok (k := kk) oa ob la lb
                have HIA := Lib.hid hIA
                clear hIO hIo hIA hits z0 z1 z2 hx3 HB3 HLA3 HLB3 HO HO2 HRB3
                obtain ⟨Ai, ci, rfl, hci, hcim, -⟩ := HI.out.int
                have HX5 := Lib.hid (⟨hx5, x1, x2⟩ : Fld W5 bx mo ms)
                have hw35 := hE5.size
                have hownl : (ownOf a).length ≤ 24 := by rw [hol]; omega
                clear x0 x1 x2 hx5 hE5
                repeat' (first | refine X_gt ?_ | refine X_q ?_ | refine X_g ?_ | refine X_gf ?_ | refine X_niln ?_ | refine X_nil ?_ | (refine X_var (fun yn bn hn1 hn2 hn3 hn4 hn5 => ?_)) | refine W_seqk (fun K hK => ?_) | refine W_seqr ?_ | refine W_ret ?_ | refine W_skip ?_ | refine W_block ?_ | refine W_exit ?_ | (refine X_s (fun x K hK => ?_); go_simp; refine hK _ _ (Ext.alloc _ _) ?_; clear hK K; refine X_al x ?_; generalize (World.later _ x).heap.size = bn; intro yn hn1 hn2 hn3 hn4 hn5; clear x) | refine W_tt ?_ | refine W_ff ?_ | refine W_test (fun hc => ?_) (fun hc => ?_) | go_step)
                refine X_ret Try.func7 (filled_calls HB5.out.h1 (.inl rfl) (hol ▸ HO5.out) (fun k hk => (HFn.out k (HfO.out k (by rw [hol]; exact hk))).1) (own_asc oa la) hownl) (fun r W6 hR => ?_)
                obtain ⟨rfl, hM6, G1, hG1, hG1s⟩ := hR
                have HB6 := Lib.hid (HB5.out.left hM6 hG1 hG1s)
                have HX6 := Lib.hid (HX5.out.mod hM6 HBX.out.1)
                have HI6 := Lib.hid (HI.out.mod hM6 (fun k hk => (HFn.out k (by have := Hf.out k hk; omega)).1))
                have HG1 := Lib.hid (And.intro hG1s (fun h => (hG1s _ h).elim HBX.out.1 (fun h => by have := HX5.out.lt; omega) : ¬ G1 bx))
                have hw56 := hM6.size
                clear hM6 hG1 hG1s HB5 HX5 HI HO5 HLA5
                repeat' (first | refine X_gt ?_ | refine X_q ?_ | refine X_g ?_ | refine X_gf ?_ | refine X_niln ?_ | refine X_nil ?_ | (refine X_var (fun yn bn hn1 hn2 hn3 hn4 hn5 => ?_)) | refine W_seqk (fun K hK => ?_) | refine W_seqr ?_ | refine W_ret ?_ | refine W_skip ?_ | refine W_block ?_ | refine W_exit ?_ | (refine X_s (fun x K hK => ?_); go_simp; refine hK _ _ (Ext.alloc _ _) ?_; clear hK K; refine X_al x ?_; generalize (World.later _ x).heap.size = bn; intro yn hn1 hn2 hn3 hn4 hn5; clear x) | refine W_tt ?_ | refine W_ff ?_ | refine W_test (fun hc => ?_) (fun hc => ?_) | go_step)
                refine X_ret Try.func7 (filled_calls HB6.out.h2 (.inr rfl) HI6.out (fun k hk => (HFn.out k (by have := Hf.out k hk; omega)).2) HIA.out hIl) (fun r W7 hR => ?_)
                obtain ⟨rfl, hM7, G2, hG2, hG2s⟩ := hR
                have HB7 := Lib.hid (HB6.out.right hM7 hG2 hG2s)
                have HX7 := Lib.hid (HX6.out.mod hM7 HBX.out.2)
                have HG2 : Hid (¬ G2 bx) := Lib.hid (fun h => (hG2s _ h).elim HBX.out.2 (fun h => by have := HX6.out.lt; omega))
                have HG1b := Lib.hid HG1.out.2
                clear hM7 hG2 hG2s HB6 HX6 HI6 HG1 hw56 hw35
                have g1 := fill3_good (.inl rfl) (own_asc oa la) hownl
                have g2 := fill3_good (.inr rfl) HIA.out hIl
                obtain ⟨q1, q2, q3⟩ := lead0_ok oa la
                repeat' (first | refine X_gt ?_ | refine X_q ?_ | refine X_g ?_ | refine X_gf ?_ | refine X_niln ?_ | refine X_nil ?_ | (refine X_var (fun yn bn hn1 hn2 hn3 hn4 hn5 => ?_)) | refine W_seqk (fun K hK => ?_) | refine W_seqr ?_ | refine W_ret ?_ | refine W_skip ?_ | refine W_block ?_ | refine W_exit ?_ | (refine X_s (fun x K hK => ?_); go_simp; refine hK _ _ (Ext.alloc _ _) ?_; clear hK K; refine X_al x ?_; generalize (World.later _ x).heap.size = bn; intro yn hn1 hn2 hn3 hn4 hn5; clear x) | refine W_tt ?_ | refine W_ff ?_ | refine W_test (fun hc => ?_) (fun hc => ?_) | go_step)
                rename_i bi yi p1 p2 p3 p4 p5 KK hKK
                obtain ⟨bw, hbw0⟩ : ∃ bw : Nat, bw = bn := ⟨_, rfl⟩
                subst hbw0
                have hE8 : Ext W7 ((W7.later yi).later yn) := by simp
                have hr7 : RdI (W7.later yi) (.slice (some ⟨bi, 0, none⟩) 2 2) [0, 1] := (Own.lit W7 yi (enc := ics) (k := 1) (fun _ => rfl) _ [0, 1] rfl p5.out (by unfold maxLen; decide)).rd (fun _ => rfl)
                have hr8 := hr7.later yn.ext
                clear hr7
                have hV8 := Blk.new hn5.out
                have hbiF : ¬ G1 bi ∧ ¬ G2 bi := ⟨HB7.out.h1.new p1, HB7.out.h2.new p1⟩
                have hbwF : ¬ G1 bw ∧ ¬ G2 bw := ⟨HB7.out.h1.new (Nat.le_trans yi.ext.size hn1), HB7.out.h2.new (Nat.le_trans yi.ext.size hn1)⟩
                have hi8 : bi < ((W7.later yi).later yn).heap.size := Nat.lt_of_lt_of_le p2 yn.ext.size
                generalize World.later _ yn = W8 at *
                clear p1 p2 p3 p4 p5 hn1 hn2 hn3 hn4 hn5 yn yi
                have HB8 := Lib.hid (HB7.out.later hE8)
                have HX8 := Lib.hid (HX7.out.mod hE8 (fun h => h))
                have HV8 := Lib.hid hV8
                have HR8 := Lib.hid hr8
                have HBI := Lib.hid (And.intro hbiF hbwF)
                clear HB7 HX7 hV8 hr8 hbiF hbwF hE8
                refine X_ret Try.func8 (learn_calls (x := v300) HB8.out.h1.rep g1.ne ⟨_, rfl, HR8.out⟩ (fun a b c u hu k hk => by cases hu; cases hk; exact HBI.out.1.1)) (fun r W9 hR => ?_)
                obtain ⟨rfl, hM9, hR9⟩ := hR
                rw [q1]
                obtain ⟨G1', hG1', hG1s'⟩ := HB8.out.l1 hM9 hR9
                have HB9 : Hid (Both w W9 b1 G1' (lead0 a) b2 G2 (fill3 1 (itsOf a b kk))) := Lib.hid hG1'
                have HX9 := Lib.hid (HX8.out.mod hM9 HG1b.out)
                have hG1x : ¬ G1' bx := fun h => (hG1s' _ h).elim HG1b.out (fun h => by have := HX8.out.lt; omega)
                have HG1x := Lib.hid hG1x
                have HV9 := Lib.hid (HV8.out.mod hM9 HBI.out.2.1)
                have HR9 := Lib.hid (HR8.out.mod hM9 (fun k hk => by cases hk; exact HBI.out.1.1))
                clear hM9 hR9 hG1' hG1s' HB8 HX8 HV8 HR8 HG1b hG1x
                have hlt9 := HV9.out.lt
                have w0 := HV9.out.cell (k := 0) (by simp)
                have w1' := HV9.out.cell (k := 1) (by simp)
                have w2' := HV9.out.cell (k := 2) (by simp)
                have w3' := HV9.out.cell (k := 3) (by simp)
                simp at w0 w1' w2' w3'
                obtain ⟨mn, hmn⟩ : ∃ mn : Nat, mo = mn := ⟨mo.toNat, by omega⟩
                have hmn12 : mn ≤ 12 := by omega
                obtain ⟨hl2, hDuo, hFar, hNlen⟩ := duo_start (k := kk) oa ob la lb hmn12
                have HDU := Lib.hid (And.intro hDuo hFar)
                have HMN := Lib.hid hmn
                clear hDuo hFar hmn
                repeat' (first | refine X_gt ?_ | refine X_q ?_ | refine X_g ?_ | refine X_gf ?_ | refine X_niln ?_ | refine X_nil ?_ | (refine X_var (fun yn bn hn1 hn2 hn3 hn4 hn5 => ?_)) | refine W_seqk (fun K hK => ?_) | refine W_seqr ?_ | refine W_ret ?_ | refine W_skip ?_ | refine W_block ?_ | refine W_exit ?_ | (refine X_s (fun x K hK => ?_); go_simp; refine hK _ _ (Ext.alloc _ _) ?_; clear hK K; refine X_al x ?_; generalize (World.later _ x).heap.size = bn; intro yn hn1 hn2 hn3 hn4 hn5; clear x) | refine W_tt ?_ | refine W_ff ?_ | refine W_test (fun hc => ?_) (fun hc => ?_) | go_step)
                refine X_ret Try.func8 (learn_calls (x := v300) HB9.out.h2.rep g2.ne ⟨_, rfl, HR9.out⟩ (fun a b c u hu k hk => by cases hu; cases hk; exact HBI.out.1.2)) (fun r W10 hR => ?_)
                obtain ⟨rfl, hM10, hR10⟩ := hR
                rw [hl2]
                obtain ⟨G2', hG2', hG2s'⟩ := HB9.out.r1 hM10 hR10
                have HB10 : Hid (Both w W10 b1 G1' (lead0 a) b2 G2' (follow0 a b kk)) := Lib.hid hG2'
                have HX10 := Lib.hid (HX9.out.mod hM10 HG2.out)
                have HG2x : Hid (¬ G2' bx) := Lib.hid (fun h => (hG2s' _ h).elim HG2.out (fun h => by have := HX9.out.lt; omega))
                clear hM10 hR10 hG2' hG2s' HB9 HX9 HV9 HR9 HG2 hlt9 w0 w1' w2' w3'
                repeat' (first | refine X_gt ?_ | refine X_q ?_ | refine X_g ?_ | refine X_gf ?_ | refine X_niln ?_ | refine X_nil ?_ | (refine X_var (fun yn bn hn1 hn2 hn3 hn4 hn5 => ?_)) | refine W_seqk (fun K hK => ?_) | refine W_seqr ?_ | refine W_ret ?_ | refine W_skip ?_ | refine W_block ?_ | refine W_exit ?_ | (refine X_s (fun x K hK => ?_); go_simp; refine hK _ _ (Ext.alloc _ _) ?_; clear hK K; refine X_al x ?_; generalize (World.later _ x).heap.size = bn; intro yn hn1 hn2 hn3 hn4 hn5; clear x) | refine W_tt ?_ | refine W_ff ?_ | refine W_test (fun hc => ?_) (fun hc => ?_) | go_step)
                refine W_loops [0, 4, 7, 9, 17] (fun n vs W => ∃ (k : Nat) (H1 : Nat → Prop), k + n = mn ∧ vs = [.slice A0 a.length c0, .pointer (some ⟨bx, 0, none⟩), .pointer (some ⟨b1, 0, none⟩), .pointer (some ⟨b2, 0, none⟩), .int .u8 k] ∧ Both w W b1 H1 (apps (lead0 a) k) b2 G2' (follow0 a b kk) ∧ Fld W bx mo ms ∧ ¬ H1 bx) mn hd hA (by decide) ⟨0, G1', by omega, by simp, HB10.out, HX10.out, HG1x.out⟩ ?_
                clear hd hA A HB10 HX10 HG1x; intro n vs A W hd hA _ ⟨k, H1, hk, hvs, hB, hX, hH1⟩; subst hvs
                simp only [List.zip_cons_cons, List.zip_nil_right, List.zip_nil_left]
                have HB := Lib.hid hB
                have HX := Lib.hid hX
                have HH1 := Lib.hid hH1
                have hlx := hX.lt
                have hc1 := hX.c1
                have hc2x := hX.c2
                clear hB hX hH1
                by_cases hkm : k < mn
                · have hkmi : (k : Int) < mo := by rw [HMN.out]; omega
                  obtain ⟨hLk, -⟩ := apps_ok q2 la k (by omega)
                  repeat' (first | refine X_gt ?_ | refine X_q ?_ | refine X_g ?_ | refine X_gf ?_ | refine X_niln ?_ | refine X_nil ?_ | (refine X_var (fun yn bn hn1 hn2 hn3 hn4 hn5 => ?_)) | refine W_seqk (fun K hK => ?_) | refine W_seqr ?_ | refine W_ret ?_ | refine W_skip ?_ | refine W_block ?_ | refine W_exit ?_ | (refine X_s (fun x K hK => ?_); go_simp; refine hK _ _ (Ext.alloc _ _) ?_; clear hK K; refine X_al x ?_; generalize (World.later _ x).heap.size = bn; intro yn hn1 hn2 hn3 hn4 hn5; clear x) | refine W_tt ?_ | refine W_ff ?_ | refine W_test (fun hc => ?_) (fun hc => ?_) | go_step)
                  refine X_ret Try.func9 (append_rep HB.out.h1.rep hLk.good.ne hLk.good.ok hLk.good.len (appE k)) (fun r W' hR => ?_)
                  obtain ⟨rfl, hM, hR⟩ := hR
                  obtain ⟨H1', hH1', hH1s'⟩ := HB.out.l1 hM hR
                  have HB' : Hid (Both w W' b1 H1' (apps (lead0 a) (k + 1)) b2 G2' (follow0 a b kk)) := Lib.hid hH1'
                  have HX' := Lib.hid (HX.out.mod hM HH1.out)
                  have HH1' : Hid (¬ H1' bx) := Lib.hid (fun h => (hH1s' _ h).elim HH1.out (fun h => by have := HX.out.lt; omega))
                  clear hM hR hH1' hH1s'
                  repeat' (first | refine X_gt ?_ | refine X_q ?_ | refine X_g ?_ | refine X_gf ?_ | refine X_niln ?_ | refine X_nil ?_ | (refine X_var (fun yn bn hn1 hn2 hn3 hn4 hn5 => ?_)) | refine W_seqk (fun K hK => ?_) | refine W_seqr ?_ | refine W_ret ?_ | refine W_skip ?_ | refine W_block ?_ | refine W_exit ?_ | (refine X_s (fun x K hK => ?_); go_simp; refine hK _ _ (Ext.alloc _ _) ?_; clear hK K; refine X_al x ?_; generalize (World.later _ x).heap.size = bn; intro yn hn1 hn2 hn3 hn4 hn5; clear x) | refine W_tt ?_ | refine W_ff ?_ | refine W_test (fun hc => ?_) (fun hc => ?_) | go_step)
                  exact ⟨_, _, rfl, hd, hA, n - 1, by omega, k + 1, H1', by omega, by simp, HB'.out, HX'.out, HH1'.out⟩
                · obtain rfl : k = mn := by omega
                  have hkmi : ¬ (k : Int) < mo := by rw [HMN.out]; omega
                  obtain ⟨hLk, -⟩ := apps_ok q2 la k (by omega)
                  repeat' (first | refine X_gt ?_ | refine X_q ?_ | refine X_g ?_ | refine X_gf ?_ | refine X_niln ?_ | refine X_nil ?_ | (refine X_var (fun yn bn hn1 hn2 hn3 hn4 hn5 => ?_)) | refine W_seqk (fun K hK => ?_) | refine W_seqr ?_ | refine W_ret ?_ | refine W_skip ?_ | refine W_block ?_ | refine W_exit ?_ | (refine X_s (fun x K hK => ?_); go_simp; refine hK _ _ (Ext.alloc _ _) ?_; clear hK K; refine X_al x ?_; generalize (World.later _ x).heap.size = bn; intro yn hn1 hn2 hn3 hn4 hn5; clear x) | refine W_tt ?_ | refine W_ff ?_ | refine W_test (fun hc => ?_) (fun hc => ?_) | go_step)
                  refine X_ret Try.func10 (flush_calls HB.out.h1.rep hLk.good.ne hLk.good.bks) (fun r W11 hR => ?_)
                  obtain ⟨rfl, hM, hR⟩ := hR
                  have HB11 : Hid (Both w W11 b1 H1 (apps (lead0 a) k).flush b2 G2' (follow0 a b kk)) := Lib.hid (HB.out.l0 hM hR)
                  have HX11 := Lib.hid (HX.out.mod hM HH1.out)
                  clear hM hR HB HX hlx hc1 hc2x
                  obtain ⟨mr, hmr, hmr4⟩ : ∃ mr : Nat, ms.tmod 4 = mr ∧ mr < 4 := ⟨ms.toNat % 4, IntWalk.up_tmod (x := ms.toNat) (by omega) rfl, Nat.mod_lt _ (by omega)⟩
                  have hN4 : (a.length : Int) + k = ((apps (lead0 a) k).flush.log.length : Nat) := by rw [hNlen]; omega
                  generalize hS0 : (apps (lead0 a) k).flush = S0 at *
                  generalize hT0 : follow0 a b kk = T0 at *
                  have HNl := Lib.hid hN4
                  clear hS0 hT0 hN4 hkmi hLk hNlen hl2 q1 q2 q3 g1 g2
                  repeat' (first | refine X_gt ?_ | refine X_q ?_ | refine X_g ?_ | refine X_gf ?_ | refine X_niln ?_ | refine X_nil ?_ | (refine X_var (fun yn bn hn1 hn2 hn3 hn4 hn5 => ?_)) | refine W_seqk (fun K hK => ?_) | refine W_seqr ?_ | refine W_ret ?_ | refine W_skip ?_ | refine W_block ?_ | refine W_exit ?_ | (refine X_s (fun x K hK => ?_); go_simp; refine hK _ _ (Ext.alloc _ _) ?_; clear hK K; refine X_al x ?_; generalize (World.later _ x).heap.size = bn; intro yn hn1 hn2 hn3 hn4 hn5; clear x) | refine W_tt ?_ | refine W_ff ?_ | refine W_test (fun hc => ?_) (fun hc => ?_) | go_step)
                  refine W_loops [0, 4, 7, 9, 18] (fun n vs W => ∃ (j : Nat) (s t : RepS) (K1 K2 : Nat → Prop), j + n = 60 ∧ vs = [.slice A0 a.length c0, .pointer (some ⟨bx, 0, none⟩), .pointer (some ⟨b1, 0, none⟩), .pointer (some ⟨b2, 0, none⟩), .int .i64 j] ∧ Both w W b1 K1 s b2 K2 t ∧ Fld W bx mo ms ∧ ¬ K1 bx ∧ ¬ K2 bx ∧ Duo s t ∧ Far s t (49 - j) ∧ s.log = S0.log) 60 hd hA (by decide) ⟨0, S0, T0, H1, G2', rfl, by simp, HB11.out, HX11.out, HH1.out, HG2x.out, HDU.out.1, HDU.out.2, rfl⟩ ?_
                  clear hd hA A HB11 HX11 HH1 HG2x HDU; intro n vs A W hd hA _ ⟨j, s, t, K1, K2, hj, hvs, hB, hX, hK1, hK2, hD, hF, hSl⟩; subst hvs
                  simp only [List.zip_cons_cons, List.zip_nil_right, List.zip_nil_left]
                  have HB := Lib.hid hB
                  have HX := Lib.hid hX
                  have HK := Lib.hid (And.intro hK1 hK2)
                  have HD := Lib.hid hD
                  have HF := Lib.hid hF
                  have HSl := Lib.hid hSl
                  have hgs := hD.gs
                  have hgt := hD.gt
                  have htr := hD.tr
                  clear hB hX hK1 hK2 hD hF hSl
                  by_cases hj60 : j < 60
                  · have hji : (j : Int) < 60 := by omega
                    have hm1 : (1 : Int) ≤ 1 + mr := by omega
                    have hm4 : (1 : Int) + mr ≤ 4 := by omega
                    obtain ⟨r1, r2, r3, r4⟩ := far_step (μ := 49 - (j + 1)) (m := 1 + (mr : Int)) HD.out hm1 hm4 (by
                      by_cases h49 : j < 49
                      · left; have : 49 - (j + 1) + 1 = 49 - j := by omega
                        rw [this]; exact HF.out
                      · right; have : 49 - j = 0 := by omega
                        rw [← this]; exact HF.out)
                    have hsno := HD.out.serveNo hm1
                    have HR4 := Lib.hid (And.intro r2 (And.intro r3 r4))
                    have HR1 := Lib.hid r1
                    clear r1 r2 r3 r4
                    have hlen : (s.reply t.asks (1 + (mr : Int))).entries.length ≤ 100000 := by
                      have hsl := hgs.len
                      unfold RepS.reply
                      split
                      · simp [Reply.zero]
                      · split
                        · simp; omega
                        · simp
                    repeat' (first | refine X_gt ?_ | refine X_q ?_ | refine X_g ?_ | refine X_gf ?_ | refine X_niln ?_ | refine X_nil ?_ | (refine X_var (fun yn bn hn1 hn2 hn3 hn4 hn5 => ?_)) | refine W_seqk (fun K hK => ?_) | refine W_seqr ?_ | refine W_ret ?_ | refine W_skip ?_ | refine W_block ?_ | refine W_exit ?_ | (refine X_s (fun x K hK => ?_); go_simp; refine hK _ _ (Ext.alloc _ _) ?_; clear hK K; refine X_al x ?_; generalize (World.later _ x).heap.size = bn; intro yn hn1 hn2 hn3 hn4 hn5; clear x) | refine W_tt ?_ | refine W_ff ?_ | refine W_test (fun hc => ?_) (fun hc => ?_) | go_step)
                    refine X_ret Try.func11 (ask_ok HB.out.h2.rep hgt.ne hgt.may htr) (fun r W1 hR => ?_)
                    obtain ⟨rfl, hE1⟩ := hR
                    have HB1 := Lib.hid (HB.out.later hE1)
                    have HX1 := Lib.hid (HX.out.mod hE1 (fun h => h))
                    clear hE1
                    repeat' (first | refine X_gt ?_ | refine X_q ?_ | refine X_g ?_ | refine X_gf ?_ | refine X_niln ?_ | refine X_nil ?_ | (refine X_var (fun yn bn hn1 hn2 hn3 hn4 hn5 => ?_)) | refine W_seqk (fun K hK => ?_) | refine W_seqr ?_ | refine W_ret ?_ | refine W_skip ?_ | refine W_block ?_ | refine W_exit ?_ | (refine X_s (fun x K hK => ?_); go_simp; refine hK _ _ (Ext.alloc _ _) ?_; clear hK K; refine X_al x ?_; generalize (World.later _ x).heap.size = bn; intro yn hn1 hn2 hn3 hn4 hn5; clear x) | refine W_tt ?_ | refine W_ff ?_ | refine W_test (fun hc => ?_) (fun hc => ?_) | go_step)
                    have hE2 : Ext W1 (W1.later yn) := yn.ext
                    obtain ⟨bq, hbq0⟩ : ∃ bq : Nat, bq = bn := ⟨_, rfl⟩
                    subst hbq0
                    have hbq : W1.heap.size ≤ bq := hn1
                    have HQ := Lib.hid (Blk.new hn5.out)
                    generalize World.later W1 yn = W2 at *
                    clear hn1 hn2 hn3 hn4 hn5 yn
                    have HB2 := Lib.hid (HB1.out.later hE2)
                    have hX2 := HX1.out.mod hE2 (fun h => h)
                    have HX2 := Lib.hid hX2
                    have hq0 := HQ.out.cell (k := 0) (by simp)
                    have hq1 := HQ.out.cell (k := 1) (by simp)
                    have hq2 := HQ.out.cell (k := 2) (by simp)
                    have hq3 := HQ.out.cell (k := 3) (by simp)
                    have hq4 := HQ.out.cell (k := 4) (by simp)
                    have hqlt := HQ.out.lt
                    simp at hq0 hq1 hq2 hq3 hq4
                    have hx2 := hX2.c2
                    have hxlt := hX2.lt
                    clear HB1 HX1 hE2 hX2
                    repeat' (first | refine X_gt ?_ | refine X_q ?_ | refine X_g ?_ | refine X_gf ?_ | refine X_niln ?_ | refine X_nil ?_ | (refine X_var (fun yn bn hn1 hn2 hn3 hn4 hn5 => ?_)) | refine W_seqk (fun K hK => ?_) | refine W_seqr ?_ | refine W_ret ?_ | refine W_skip ?_ | refine W_block ?_ | refine W_exit ?_ | (refine X_s (fun x K hK => ?_); go_simp; refine hK _ _ (Ext.alloc _ _) ?_; clear hK K; refine X_al x ?_; generalize (World.later _ x).heap.size = bn; intro yn hn1 hn2 hn3 hn4 hn5; clear x) | refine W_tt ?_ | refine W_ff ?_ | refine W_test (fun hc => ?_) (fun hc => ?_) | go_step)
                    refine X_ret Try.func12 (serve_rep HB2.out.h1.rep hgs.ne hgs.may hgs.len hgs.bks t.asks (1 + (mr : Int))) (fun r W3 hR => ?_)
                    obtain ⟨⟨u, rfl, hO, huF⟩, hM3, hR3⟩ := hR
                    obtain ⟨K1', hK1', hK1s⟩ := HB2.out.l1 hM3 hR3
                    have HB3 : Hid (Both w W3 b1 K1' (rdS (1 + (mr : Int)) s t) b2 K2 t) := Lib.hid hK1'
                    have HX3 := Lib.hid (HX2.out.mod hM3 HK.out.1)
                    have HK3 : Hid (¬ K1' bx) := Lib.hid (fun h => (hK1s _ h).elim HK.out.1 (fun h => by have := HX2.out.lt; omega))
                    have HU := Lib.hid (hO.rd (enc := Ent.cs) (k := 6) (fun _ => rfl))
                    obtain ⟨Au, mu, cu, rfl⟩ := own_slice hO
                    clear hO huF hM3 hR3 hK1' hK1s HB2 HX2 hq0 hq1 hq2 hq3 hq4 hqlt HQ hx2 hxlt
                    rw [hsno]
                    repeat' (first | refine X_gt ?_ | refine X_q ?_ | refine X_g ?_ | refine X_gf ?_ | refine X_niln ?_ | refine X_nil ?_ | (refine X_var (fun yn bn hn1 hn2 hn3 hn4 hn5 => ?_)) | refine W_seqk (fun K hK => ?_) | refine W_seqr ?_ | refine W_ret ?_ | refine W_skip ?_ | refine W_block ?_ | refine W_exit ?_ | (refine X_s (fun x K hK => ?_); go_simp; refine hK _ _ (Ext.alloc _ _) ?_; clear hK K; refine X_al x ?_; generalize (World.later _ x).heap.size = bn; intro yn hn1 hn2 hn3 hn4 hn5; clear x) | refine W_tt ?_ | refine W_ff ?_ | refine W_test (fun hc => ?_) (fun hc => ?_) | go_step)
                    have hE4 : Ext W3 (W3.later yn) := yn.ext
                    generalize World.later W3 yn = W4 at *
                    clear hn1 hn2 hn3 hn4 hn5 yn
                    have HB4 := Lib.hid (HB3.out.later hE4)
                    have HX4 := Lib.hid (HX3.out.mod hE4 (fun h => h))
                    have HU4 := Lib.hid (HU.out.later hE4)
                    clear HB3 HX3 HU hE4
                    refine X_ret Try.func13 (take_rep (p := s.reply t.asks (1 + (mr : Int))) HB4.out.h2.rep hgt.ne hgt.may hgt.len HU4.out hlen) (fun r W5 hR => ?_)
                    obtain ⟨rfl, hM5, hR5⟩ := hR
                    rw [show t.takeNo (s.reply t.asks (1 + (mr : Int))) = 0 from HR1.out]
                    have hg5 : (t.take (s.reply t.asks (1 + (mr : Int)))).Good := good_take hgt _
                    obtain ⟨K2', hK2', hK2s⟩ := HB4.out.r1 hM5 hR5
                    have HB5 := Lib.hid hK2'
                    have HX5 := Lib.hid (HX4.out.mod hM5 HK.out.2)
                    have HK5 : Hid (¬ K2' bx) := Lib.hid (fun h => (hK2s _ h).elim HK.out.2 (fun h => by have := HX4.out.lt; omega))
                    clear hM5 hR5 hK2' hK2s HB4 HX4 HU4
                    repeat' (first | refine X_gt ?_ | refine X_q ?_ | refine X_g ?_ | refine X_gf ?_ | refine X_niln ?_ | refine X_nil ?_ | (refine X_var (fun yn bn hn1 hn2 hn3 hn4 hn5 => ?_)) | refine W_seqk (fun K hK => ?_) | refine W_seqr ?_ | refine W_ret ?_ | refine W_skip ?_ | refine W_block ?_ | refine W_exit ?_ | (refine X_s (fun x K hK => ?_); go_simp; refine hK _ _ (Ext.alloc _ _) ?_; clear hK K; refine X_al x ?_; generalize (World.later _ x).heap.size = bn; intro yn hn1 hn2 hn3 hn4 hn5; clear x) | refine W_tt ?_ | refine W_ff ?_ | refine W_test (fun hc => ?_) (fun hc => ?_) | go_step)
                    refine X_ret Try.func10 (flush_calls HB5.out.h2.rep hg5.ne hg5.bks) (fun r W6 hR => ?_)
                    obtain ⟨rfl, hM6, hR6⟩ := hR
                    have HB6 : Hid (Both w W6 b1 K1' (rdS (1 + (mr : Int)) s t) b2 K2' (rdT (1 + (mr : Int)) s t)) := Lib.hid (HB5.out.r0 hM6 hR6)
                    have HX6 := Lib.hid (HX5.out.mod hM6 HK5.out)
                    clear hM6 hR6 HB5 HX5
                    repeat' (first | refine X_gt ?_ | refine X_q ?_ | refine X_g ?_ | refine X_gf ?_ | refine X_niln ?_ | refine X_nil ?_ | (refine X_var (fun yn bn hn1 hn2 hn3 hn4 hn5 => ?_)) | refine W_seqk (fun K hK => ?_) | refine W_seqr ?_ | refine W_ret ?_ | refine W_skip ?_ | refine W_block ?_ | refine W_exit ?_ | (refine X_s (fun x K hK => ?_); go_simp; refine hK _ _ (Ext.alloc _ _) ?_; clear hK K; refine X_al x ?_; generalize (World.later _ x).heap.size = bn; intro yn hn1 hn2 hn3 hn4 hn5; clear x) | refine W_tt ?_ | refine W_ff ?_ | refine W_test (fun hc => ?_) (fun hc => ?_) | go_step)
                    exact ⟨_, _, rfl, hd, hA, n - 1, by omega, j + 1, _, _, K1', K2', by omega, by simp, HB6.out, HX6.out, HK3.out, HK5.out, HR4.out.1, HR4.out.2.2, HR4.out.2.1.trans HSl.out⟩
                  · obtain rfl : j = 60 := by omega
                    have hDone : t.log = s.log ∧ s.high = s.log.length ∧ t.high = s.log.length := by
                      rcases HF.out with h | ⟨j, h1, h2, h3⟩ | ⟨k', O, h1, h2, h3, h4, h5⟩
                      · exact h
                      · omega
                      · omega
                    have HDN := Lib.hid hDone
                    have hxlt := HX.out.lt
                    have hxc1 := HX.out.c1
                    have hln : (s.log.length : Int) = (a.length : Int) + mo := by rw [HSl.out, HMN.out, ← HNl.out]
                    have HLN := Lib.hid hln
                    have hmo1 := hmo.1
                    have hmo2 := hmo.2
                    clear hDone hln
                    repeat' (first | refine X_gt ?_ | refine X_q ?_ | refine X_g ?_ | refine X_gf ?_ | refine X_niln ?_ | refine X_nil ?_ | (refine X_var (fun yn bn hn1 hn2 hn3 hn4 hn5 => ?_)) | refine W_seqk (fun K hK => ?_) | refine W_seqr ?_ | refine W_ret ?_ | refine W_skip ?_ | refine W_block ?_ | refine W_exit ?_ | (refine X_s (fun x K hK => ?_); go_simp; refine hK _ _ (Ext.alloc _ _) ?_; clear hK K; refine X_al x ?_; generalize (World.later _ x).heap.size = bn; intro yn hn1 hn2 hn3 hn4 hn5; clear x) | refine W_tt ?_ | refine W_ff ?_ | refine W_test (fun hc => ?_) (fun hc => ?_) | go_step)
                    refine X_ret Try.func14 (log_calls HB.out.h1.rep hgs.ne (by have := hgs.len; omega)) (fun r W1 hR => ?_)
                    obtain ⟨hE1, hO1, -⟩ := hR
                    obtain ⟨B1, d1, rfl, -⟩ := (hO1.rd (enc := Ent.cs) (k := 6) (fun _ => rfl)).ent
                    have HB1 := Lib.hid (HB.out.later hE1)
                    have hX1 := HX.out.mod hE1 (fun h => h)
                    have hx1 := hX1.lt
                    have hx1c := hX1.c1
                    clear hO1 hE1 hX1 HX hxlt hxc1
                    have hlnb : ((s.log.length : Int) == (a.length : Int) + mo) = true := by rw [HLN.out]; simp
                    repeat' (first | refine X_gt ?_ | refine X_q ?_ | refine X_g ?_ | refine X_gf ?_ | refine X_niln ?_ | refine X_nil ?_ | (refine X_var (fun yn bn hn1 hn2 hn3 hn4 hn5 => ?_)) | refine W_seqk (fun K hK => ?_) | refine W_seqr ?_ | refine W_ret ?_ | refine W_skip ?_ | refine W_block ?_ | refine W_exit ?_ | (refine X_s (fun x K hK => ?_); go_simp; refine hK _ _ (Ext.alloc _ _) ?_; clear hK K; refine X_al x ?_; generalize (World.later _ x).heap.size = bn; intro yn hn1 hn2 hn3 hn4 hn5; clear x) | refine W_tt ?_ | refine W_ff ?_ | refine W_test (fun hc => ?_) (fun hc => ?_) | go_step)
                    refine X_ret Try.func14 (log_calls HB1.out.h1.rep hgs.ne (by have := hgs.len; omega)) (fun r W2 hR => ?_)
                    obtain ⟨hE2, hO2, -⟩ := hR
                    have HO2 := Lib.hid (hO2.rd (enc := Ent.cs) (k := 6) (fun _ => rfl))
                    have HB2 := Lib.hid (HB1.out.later hE2)
                    obtain ⟨B2, m2, d2, rfl⟩ := own_slice hO2
                    clear hO2 hE2 HB1 hx1 hx1c
                    repeat' (first | refine X_gt ?_ | refine X_q ?_ | refine X_g ?_ | refine X_gf ?_ | refine X_niln ?_ | refine X_nil ?_ | (refine X_var (fun yn bn hn1 hn2 hn3 hn4 hn5 => ?_)) | refine W_seqk (fun K hK => ?_) | refine W_seqr ?_ | refine W_ret ?_ | refine W_skip ?_ | refine W_block ?_ | refine W_exit ?_ | (refine X_s (fun x K hK => ?_); go_simp; refine hK _ _ (Ext.alloc _ _) ?_; clear hK K; refine X_al x ?_; generalize (World.later _ x).heap.size = bn; intro yn hn1 hn2 hn3 hn4 hn5; clear x) | refine W_tt ?_ | refine W_ff ?_ | refine W_test (fun hc => ?_) (fun hc => ?_) | go_step)
                    refine X_ret Try.func14 (log_calls HB2.out.h2.rep hgt.ne (by have := hgt.len; omega)) (fun r W3 hR => ?_)
                    obtain ⟨hE3, hO3, -⟩ := hR
                    have HO3 := Lib.hid (hO3.rd (enc := Ent.cs) (k := 6) (fun _ => rfl))
                    have HO23 := Lib.hid (HO2.out.later hE3)
                    have HB3 := Lib.hid (HB2.out.later hE3)
                    obtain ⟨B3, m3, d3, rfl⟩ := own_slice hO3
                    have HSL : Hid (∀ W, Ext W3 W → Pure Try.prog 15 #[.slice B2 m2 d2, .slice B3 m3 d3] W (.bool true)) := Lib.hid (fun W hE => by
                      have := samelog_calls _ _ _ _ W (HO23.out.later hE) (HO3.out.later hE)
                      rwa [HDN.out.1, decide_eq_true rfl] at this)
                    clear hO3 hE3 HB2 HO2 HO3 HO23
                    repeat' (first | refine X_pure Try.func15 (HSL.out _ (by simp)) ?_ | refine X_gpure Try.func15 (fun _ => HSL.out _ (by simp)) ?_ | refine X_gt ?_ | refine X_q ?_ | refine X_g ?_ | refine X_gf ?_ | refine X_niln ?_ | refine X_nil ?_ | (refine X_var (fun yn bn hn1 hn2 hn3 hn4 hn5 => ?_)) | refine W_seqk (fun K hK => ?_) | refine W_seqr ?_ | refine W_ret ?_ | refine W_skip ?_ | refine W_block ?_ | refine W_exit ?_ | (refine X_s (fun x K hK => ?_); go_simp; refine hK _ _ (Ext.alloc _ _) ?_; clear hK K; refine X_al x ?_; generalize (World.later _ x).heap.size = bn; intro yn hn1 hn2 hn3 hn4 hn5; clear x) | refine W_tt ?_ | refine W_ff ?_ | refine W_test (fun hc => ?_) (fun hc => ?_) | go_step)
                    refine X_ret Try.func16 (standing_rep HB3.out.h1.rep hgs.ne (by have := hgs.ilen; omega) (by have := hgs.ilen; omega)) (fun r W4 hR => ?_)
                    obtain ⟨hE4, u1, u2, u3, hv, -⟩ := hR
                    have hv' : r = .agg #[.int .i64 s.stand.role, .int .i64 s.stand.epoch, .int .i64 s.stand.version, .int .i64 s.stand.flushed, .int .i64 s.stand.high, .int .i64 s.stand.beg, u1, u2, u3] := hv
                    subst hv'
                    have hsh : s.stand.high = (s.log.length : Int) := by unfold RepS.stand; rw [if_pos HD.out.sr]; exact HDN.out.2.1
                    have HB4 := Lib.hid (HB3.out.later hE4)
                    clear hv hE4 HB3 HSL
                    repeat' (first | refine X_gt ?_ | refine X_q ?_ | refine X_g ?_ | refine X_gf ?_ | refine X_niln ?_ | refine X_nil ?_ | (refine X_var (fun yn bn hn1 hn2 hn3 hn4 hn5 => ?_)) | refine W_seqk (fun K hK => ?_) | refine W_seqr ?_ | refine W_ret ?_ | refine W_skip ?_ | refine W_block ?_ | refine W_exit ?_ | (refine X_s (fun x K hK => ?_); go_simp; refine hK _ _ (Ext.alloc _ _) ?_; clear hK K; refine X_al x ?_; generalize (World.later _ x).heap.size = bn; intro yn hn1 hn2 hn3 hn4 hn5; clear x) | refine W_tt ?_ | refine W_ff ?_ | refine W_test (fun hc => ?_) (fun hc => ?_) | go_step)
                    refine X_ret Try.func16 (standing_rep HB4.out.h2.rep hgt.ne (by have := hgt.ilen; omega) (by have := hgt.ilen; omega)) (fun r W5 hR => ?_)
                    obtain ⟨hE5, u4, u5, u6, hv, -⟩ := hR
                    have hv' : r = .agg #[.int .i64 t.stand.role, .int .i64 t.stand.epoch, .int .i64 t.stand.version, .int .i64 t.stand.flushed, .int .i64 t.stand.high, .int .i64 t.stand.beg, u4, u5, u6] := hv
                    subst hv'
                    have hth : t.stand.high = (s.log.length : Int) := by unfold RepS.stand; rw [if_neg (by rw [htr]; decide)]; exact HDN.out.2.2
                    have HE5 := Lib.hid (Ext.trans HB4.out.h1.ext hE5)
                    clear hv hE5 HB4
                    repeat' (first | refine X_pure Try.func5 (known11_calls) ?_ | refine X_gpure Try.func5 (fun _ => known11_calls) ?_ | refine X_gt ?_ | refine X_q ?_ | refine X_g ?_ | refine X_gf ?_ | refine X_niln ?_ | refine X_nil ?_ | (refine X_var (fun yn bn hn1 hn2 hn3 hn4 hn5 => ?_)) | refine W_seqk (fun K hK => ?_) | refine W_seqr ?_ | refine W_ret ?_ | refine W_skip ?_ | refine W_block ?_ | refine W_exit ?_ | (refine X_s (fun x K hK => ?_); go_simp; refine hK _ _ (Ext.alloc _ _) ?_; clear hK K; refine X_al x ?_; generalize (World.later _ x).heap.size = bn; intro yn hn1 hn2 hn3 hn4 hn5; clear x) | refine W_tt ?_ | refine W_ff ?_ | refine W_test (fun hc => ?_) (fun hc => ?_) | go_step)
                    exact Body_ret hd ⟨rfl, Ext.trans HE5.out (by simp)⟩
          · have obf : ordB b = false := by simpa using ob
            refine Fn_of Try.func3 rfl (Nat.le_of_ble_eq_true rfl) ?_; intro A hd hA; simp only [ix, Nat.reduceAdd]; replace hA : A.tmps.size = 225 := hA
            repeat' (first | refine X_gt ?_ | refine X_q ?_ | refine X_g ?_ | refine X_gf ?_ | refine X_niln ?_ | refine X_nil ?_ | (refine X_var (fun yn bn hn1 hn2 hn3 hn4 hn5 => ?_)) | refine W_seqk (fun K hK => ?_) | refine W_seqr ?_ | refine W_ret ?_ | refine W_skip ?_ | refine W_block ?_ | refine W_exit ?_ | (refine X_s (fun x K hK => ?_); go_simp; refine hK _ _ (Ext.alloc _ _) ?_; clear hK K; refine X_al x ?_; generalize (World.later _ x).heap.size = bn; intro yn hn1 hn2 hn3 hn4 hn5; clear x) | refine W_tt ?_ | refine W_ff ?_ | refine W_test (fun hc => ?_) (fun hc => ?_) | go_step)
            have HX := Lib.hid (Blk.new hn5.out)
            have x1 := HX.out.cell (k := 1) (by simp)
            simp at x1
            have hx := HX.out.lt
            repeat' (first | refine X_pure Try.func5 (known11_calls) ?_ | refine X_gpure Try.func5 (fun _ => known11_calls) ?_ | refine X_pure Try.func4 ((oa ▸ ordered_calls a _ _ (HLA.out.later (by simp)))) ?_ | refine X_gpure Try.func4 (fun _ => (oa ▸ ordered_calls a _ _ (HLA.out.later (by simp)))) ?_ | (refine X_pure Try.func4 (obf ▸ ordered_calls b _ _ (HLB.out.later (by simp))) ?_) | (refine X_gf2 ?_) | refine X_gt ?_ | refine X_q ?_ | refine X_g ?_ | refine X_gf ?_ | refine X_niln ?_ | refine X_nil ?_ | (refine X_var (fun yn bn hn1 hn2 hn3 hn4 hn5 => ?_)) | refine W_seqk (fun K hK => ?_) | refine W_seqr ?_ | refine W_ret ?_ | refine W_skip ?_ | refine W_block ?_ | refine W_exit ?_ | (refine X_s (fun x K hK => ?_); go_simp; refine hK _ _ (Ext.alloc _ _) ?_; clear hK K; refine X_al x ?_; generalize (World.later _ x).heap.size = bn; intro yn hn1 hn2 hn3 hn4 hn5; clear x) | refine W_tt ?_ | refine W_ff ?_ | refine W_test (fun hc => ?_) (fun hc => ?_) | go_step)
            exact Body_ret hd ⟨rfl, by simp⟩
        · have oaf : ordB a = false := by simpa using oa
          refine Fn_of Try.func3 rfl (Nat.le_of_ble_eq_true rfl) ?_; intro A hd hA; simp only [ix, Nat.reduceAdd]; replace hA : A.tmps.size = 225 := hA
          repeat' (first | refine X_gt ?_ | refine X_q ?_ | refine X_g ?_ | refine X_gf ?_ | refine X_niln ?_ | refine X_nil ?_ | (refine X_var (fun yn bn hn1 hn2 hn3 hn4 hn5 => ?_)) | refine W_seqk (fun K hK => ?_) | refine W_seqr ?_ | refine W_ret ?_ | refine W_skip ?_ | refine W_block ?_ | refine W_exit ?_ | (refine X_s (fun x K hK => ?_); go_simp; refine hK _ _ (Ext.alloc _ _) ?_; clear hK K; refine X_al x ?_; generalize (World.later _ x).heap.size = bn; intro yn hn1 hn2 hn3 hn4 hn5; clear x) | refine W_tt ?_ | refine W_ff ?_ | refine W_test (fun hc => ?_) (fun hc => ?_) | go_step)
          have HX := Lib.hid (Blk.new hn5.out)
          have x1 := HX.out.cell (k := 1) (by simp)
          simp at x1
          have hx := HX.out.lt
          repeat' (first | refine X_pure Try.func5 (known11_calls) ?_ | refine X_gpure Try.func5 (fun _ => known11_calls) ?_ | refine X_pure Try.func4 ((oaf ▸ ordered_calls a _ _ (HLA.out.later (by simp)))) ?_ | refine X_gpure Try.func4 (fun _ => (oaf ▸ ordered_calls a _ _ (HLA.out.later (by simp)))) ?_ | (refine X_gf2 ?_) | refine X_gt ?_ | refine X_q ?_ | refine X_g ?_ | refine X_gf ?_ | refine X_niln ?_ | refine X_nil ?_ | (refine X_var (fun yn bn hn1 hn2 hn3 hn4 hn5 => ?_)) | refine W_seqk (fun K hK => ?_) | refine W_seqr ?_ | refine W_ret ?_ | refine W_skip ?_ | refine W_block ?_ | refine W_exit ?_ | (refine X_s (fun x K hK => ?_); go_simp; refine hK _ _ (Ext.alloc _ _) ?_; clear hK K; refine X_al x ?_; generalize (World.later _ x).heap.size = bn; intro yn hn1 hn2 hn3 hn4 hn5; clear x) | refine W_tt ?_ | refine W_ff ?_ | refine W_test (fun hc => ?_) (fun hc => ?_) | go_step)
          exact Body_ret hd ⟨rfl, by simp⟩
      · have lmi : 12 < mo := by omega
        refine Fn_of Try.func3 rfl (Nat.le_of_ble_eq_true rfl) ?_; intro A hd hA; simp only [ix, Nat.reduceAdd]; replace hA : A.tmps.size = 225 := hA
        repeat' (first | refine X_gt ?_ | refine X_q ?_ | refine X_g ?_ | refine X_gf ?_ | refine X_niln ?_ | refine X_nil ?_ | (refine X_var (fun yn bn hn1 hn2 hn3 hn4 hn5 => ?_)) | refine W_seqk (fun K hK => ?_) | refine W_seqr ?_ | refine W_ret ?_ | refine W_skip ?_ | refine W_block ?_ | refine W_exit ?_ | (refine X_s (fun x K hK => ?_); go_simp; refine hK _ _ (Ext.alloc _ _) ?_; clear hK K; refine X_al x ?_; generalize (World.later _ x).heap.size = bn; intro yn hn1 hn2 hn3 hn4 hn5; clear x) | refine W_tt ?_ | refine W_ff ?_ | refine W_test (fun hc => ?_) (fun hc => ?_) | go_step)
        have HX := Lib.hid (Blk.new hn5.out)
        have x1 := HX.out.cell (k := 1) (by simp)
        simp at x1
        have hx := HX.out.lt
        repeat' (first | refine X_pure Try.func5 (known11_calls) ?_ | refine X_gpure Try.func5 (fun _ => known11_calls) ?_ | (refine X_gf2 ?_) | refine X_gt ?_ | refine X_q ?_ | refine X_g ?_ | refine X_gf ?_ | refine X_niln ?_ | refine X_nil ?_ | (refine X_var (fun yn bn hn1 hn2 hn3 hn4 hn5 => ?_)) | refine W_seqk (fun K hK => ?_) | refine W_seqr ?_ | refine W_ret ?_ | refine W_skip ?_ | refine W_block ?_ | refine W_exit ?_ | (refine X_s (fun x K hK => ?_); go_simp; refine hK _ _ (Ext.alloc _ _) ?_; clear hK K; refine X_al x ?_; generalize (World.later _ x).heap.size = bn; intro yn hn1 hn2 hn3 hn4 hn5; clear x) | refine W_tt ?_ | refine W_ff ?_ | refine W_test (fun hc => ?_) (fun hc => ?_) | go_step)
        exact Body_ret hd ⟨rfl, by simp⟩
    · have lbi : (12 : Int) < b.length := by omega
      refine Fn_of Try.func3 rfl (Nat.le_of_ble_eq_true rfl) ?_; intro A hd hA; simp only [ix, Nat.reduceAdd]; replace hA : A.tmps.size = 225 := hA
      repeat' (first | refine X_pure Try.func5 (known11_calls) ?_ | refine X_gpure Try.func5 (fun _ => known11_calls) ?_ | (refine X_gf2 ?_) | refine X_gt ?_ | refine X_q ?_ | refine X_g ?_ | refine X_gf ?_ | refine X_niln ?_ | refine X_nil ?_ | (refine X_var (fun yn bn hn1 hn2 hn3 hn4 hn5 => ?_)) | refine W_seqk (fun K hK => ?_) | refine W_seqr ?_ | refine W_ret ?_ | refine W_skip ?_ | refine W_block ?_ | refine W_exit ?_ | (refine X_s (fun x K hK => ?_); go_simp; refine hK _ _ (Ext.alloc _ _) ?_; clear hK K; refine X_al x ?_; generalize (World.later _ x).heap.size = bn; intro yn hn1 hn2 hn3 hn4 hn5; clear x) | refine W_tt ?_ | refine W_ff ?_ | refine W_test (fun hc => ?_) (fun hc => ?_) | go_step)
      exact Body_ret hd ⟨rfl, by simp⟩
  · have lai : (12 : Int) < a.length := by omega
    refine Fn_of Try.func3 rfl (Nat.le_of_ble_eq_true rfl) ?_; intro A hd hA; simp only [ix, Nat.reduceAdd]; replace hA : A.tmps.size = 225 := hA
    repeat' (first | refine X_pure Try.func5 (known11_calls) ?_ | refine X_gpure Try.func5 (fun _ => known11_calls) ?_ | (refine X_gf2 ?_) | refine X_gt ?_ | refine X_q ?_ | refine X_g ?_ | refine X_gf ?_ | refine X_niln ?_ | refine X_nil ?_ | (refine X_var (fun yn bn hn1 hn2 hn3 hn4 hn5 => ?_)) | refine W_seqk (fun K hK => ?_) | refine W_seqr ?_ | refine W_ret ?_ | refine W_skip ?_ | refine W_block ?_ | refine W_exit ?_ | (refine X_s (fun x K hK => ?_); go_simp; refine hK _ _ (Ext.alloc _ _) ?_; clear hK K; refine X_al x ?_; generalize (World.later _ x).heap.size = bn; intro yn hn1 hn2 hn3 hn4 hn5; clear x) | refine W_tt ?_ | refine W_ff ?_ | refine W_test (fun hc => ?_) (fun hc => ?_) | go_step)
    exact Body_ret hd ⟨rfl, by simp⟩
end Go.Ws
namespace Go.Ws
open Go Go.RowKit Go.Proofs Go.ChangeShapes Go.WideShapes
set_option linter.unusedVariables false
set_option maxRecDepth 100000

def u8in (x : Int) : Prop := 0 ≤ x ∧ x ≤ 255
theorem u8_wf {x : Int} (h : (Lit.int .u8 x).wf = true) : u8in x := by
  simp only [Lit.wf, Bool.and_eq_true, decide_eq_true_eq] at h
  exact h
section
variable {H : Type} {enc : TypeId × Value → H} {W : World} {base : Nat} {sp : Nat → Bool} {held : Bool} {v : Value} {d : DataW H} {ps : List MemPlace}
theorem open_pair (hok : Value.okWide Try.prog W .any base 24 v) (h : DataW.Trod enc Try.prog W 0 sp held 24 v d ps) : ∃ a b c, v = .agg #[.int .u8 a, .int .u8 b, .int .u8 c] ∧ u8in a ∧ u8in b ∧ u8in c := by
  obtain ⟨fuel, hf⟩ := h
  have key : ∃ a b c, v.cells.toList = [.int .u8 a, .int .u8 b, .int .u8 c] ∧ u8in a ∧ u8in b ∧ u8in c := by
    obtain ⟨xs, m, _, _, hl, hxl, hff⟩ := DataW.trod_struct Try.underlying24 hf
    have hc : Try.prog.cellsOf 24 = 3 := by kernel_rfl
    rw [hc] at hl
    match hcs : v.cells.toList, hl with
    | [c0, c1, c2], _ =>
      have hxs : xs.length = 3 := hxl
      rw [hcs] at hff
      have go : ∀ (i : Nat) (c : Value), DataW.trod enc Try.prog W 0 sp held m 5 [c] = xs[i]? → i < 3 → ∃ z, c = .int .u8 z ∧ u8in z := by
        intro i c hd hi
        rw [List.getElem?_eq_getElem (by omega)] at hd
        obtain ⟨z, hz, _, hw⟩ := DataW.trod_int Try.underlying5 hd
        simp at hz
        exact ⟨z, hz, u8_wf hw⟩
      have g0 := hff 0 _ rfl
      have g1 := hff 1 _ rfl
      have g2 := hff 2 _ rfl
      have k1 : Try.prog.cellsOf 5 = 1 := by kernel_rfl
      simp [k1] at g0 g1 g2
      obtain ⟨z0, rfl, w0⟩ := go 0 c0 g0 (by omega)
      obtain ⟨z1, rfl, w1⟩ := go 1 c1 g1 (by omega)
      obtain ⟨z2, rfl, w2⟩ := go 2 c2 g2 (by omega)
      exact ⟨z0, z1, z2, rfl, w0, w1, w2⟩
  obtain ⟨a, b, c, hc, w0, w1, w2⟩ := key
  unfold Value.okWide at hok
  rw [Try.underlying24] at hok
  obtain ⟨cs, rfl, _⟩ := hok
  refine ⟨a, b, c, ?_, w0, w1, w2⟩
  have : cs.toList = [.int .u8 a, .int .u8 b, .int .u8 c] := hc
  show Value.agg cs = _
  rw [show cs = [Value.int .u8 a, .int .u8 b, .int .u8 c].toArray by rw [← this]]
end
theorem pairrow_calls (a : List Int) (v0 : Value) (kp mo ms : Int) (q : u8in kp ∧ u8in mo ∧ u8in ms) (b : List Int) (v2 : Value) (w : World) (ha : RdL w v0 a) (hb : RdL w v2 b) :
    Pure Try.prog 3 #[v0, .agg #[.int .u8 kp, .int .u8 mo, .int .u8 ms], v2] w (.bool true) := pair_calls a v0 b v2 kp mo ms q.1 q.2.1 q.2.2 w ha hb
end Go.Ws
