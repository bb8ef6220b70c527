/- Lemmas for the statement ReplicaAppends (joined texts); no condition. -/
import Derived.Test.YtlpjgegbdmkmdaaGreatKReplicaAppends13
namespace Go.Ws
open Go Go.RowKit Go.Proofs
set_option maxHeartbeats 4000000
set_option maxRecDepth 100000
set_option linter.unusedVariables false
set_option linter.unusedSimpArgs false

theorem does4_calls {w0 W : World} {b : Nat} {F X : Nat → Prop} {s : RepS} {uL uI uC vI vE vL : Value} {a : ActD} (h : HR w0 W b F s) (hg : s.Fine) (hX : ∀ k, X k → k < W.heap.size) (hv : VR (fun k => F k ∨ X k) W uL uI uC s) (ha : ActR (fun k => F k ∨ X k) W vI vE vL a) (hk : a.kind = 4) :
    Ret Tryz.prog 16 #[.pointer (some ⟨b, 0, none⟩), s.v uL uI uC, a.v vI vE vL] W fun r W' => DoesR w0 W b F X (s.step (a.atS s)) r W' := by
  have HH := Lib.hid h
  have HG := Lib.hid hg
  have HXW := Lib.hid hX
  clear hX
  have HVR := Lib.hid hv
  have HAC := Lib.hid (ha.at s)
  have NEAR : Hid (∀ W', Ext W W' → Ret Tryz.prog 35 #[a.v vI vE vL, s.v uL uI uC] W' fun r w' => Ext W' w' ∧ r = (a.atS s).v vI vE vL) := Lib.hid (fun W' hE => near_calls (hv.later hE) hg.good hg.ver (ha.later hE))
  have hka : (a.atS s).kind = 4 := (atS_kind a s).1.trans hk
  have ht : s.step (a.atS s) = s := by unfold RepS.step; simp [hka]
  rw [ht]
  clear ht
  obtain ⟨A1, c1, rfl, -⟩ := hv.rl.rd.ent
  obtain ⟨A2, c2, rfl, -⟩ := hv.ri.rd.int
  obtain ⟨A3, c3, rfl, -⟩ := hv.rc.rd.int
  clear h hg hv ha hk
  generalize a.atS s = a' at *
  obtain ⟨A4, c4, rfl, -⟩ := HAC.out.ri.int
  obtain ⟨A5, c5, rfl, -⟩ := HAC.out.re.ent
  obtain ⟨A6, c6, rfl, -⟩ := HAC.out.rl.int
  refine Fn_of Tryz.func16 rfl (Nat.le_of_ble_eq_true rfl) ?_; intro A hd hA; simp only [ix, Nat.reduceAdd]; replace hA : A.tmps.size = 268 := hA
  (repeat' (first | refine W_seqk (fun K hK => ?_) | refine W_seqr ?_ | fail)); (first | (refine X_var (fun yn b4 hn1 hn2 hn3 hn4 hn5 => ?_)) | (refine X_s (fun x K hK => ?_); go_simp; refine hK _ _ (Ext.alloc _ _) ?_; clear hK K; refine X_al x ?_; generalize (World.later _ x).heap.size = b4; intro yn hn1 hn2 hn3 hn4 hn5; clear x)); have HBb4 := Lib.hid (Blk.new hn5.out); have HEb4 := Lib.hid yn.ext; have hlb4 : (World.heap W).size ≤ b4 := hn1; generalize World.later W yn = W0 at *; clear hn1 hn2 hn3 hn4 hn5 yn
  (skip); (first | (refine X_var (fun yn b5 hn1 hn2 hn3 hn4 hn5 => ?_)) | (refine X_s (fun x K hK => ?_); go_simp; refine hK _ _ (Ext.alloc _ _) ?_; clear hK K; refine X_al x ?_; generalize (World.later _ x).heap.size = b5; intro yn hn1 hn2 hn3 hn4 hn5; clear x)); have HBb5 := Lib.hid (Blk.new hn5.out); have HEb5 := Lib.hid yn.ext; have hlb5 : (World.heap W0).size ≤ b5 := hn1; generalize World.later W0 yn = W1 at *; clear hn1 hn2 hn3 hn4 hn5 yn
  (skip); (first | (refine X_var (fun yn b6 hn1 hn2 hn3 hn4 hn5 => ?_)) | (refine X_s (fun x K hK => ?_); go_simp; refine hK _ _ (Ext.alloc _ _) ?_; clear hK K; refine X_al x ?_; generalize (World.later _ x).heap.size = b6; intro yn hn1 hn2 hn3 hn4 hn5; clear x)); have HBb6 := Lib.hid (Blk.new hn5.out); have HEb6 := Lib.hid yn.ext; have hlb6 : (World.heap W1).size ≤ b6 := hn1; generalize World.later W1 yn = W2 at *; clear hn1 hn2 hn3 hn4 hn5 yn
  have HBS := Lib.hid ((fbox2 HBb4.out).later (Ext.trans HEb5.out HEb6.out))
  have HBA : Hid (Blk W2 b5 51 27 (aenc a (.slice A4 a'.view.isr.length c4) (.slice A5 a'.reply.entries.length c5) (.slice A6 a'.list.length c6))) := Lib.hid ((HBb5.out.later HEb6.out).congr (fun k hk => rfl))
  have HBO := HBb6
  have HE := Lib.hid (Ext.trans (Ext.trans HEb4.out HEb5.out) HEb6.out)
  have hbb : b4 < b5 := by have := HBb4.out.lt; omega
  have hbb2 : b5 < b6 := by have := HBb5.out.lt; omega
  have hs0 := HEb4.out.size
  have hs1 := HEb5.out.size
  have h6W : W.heap.size ≤ b6 := by omega
  clear HBb4 HBb5 HBb6 HEb4 HEb5 HEb6
  have HFW : Hid (∀ k, F k → k < W.heap.size) := Lib.hid (fun k hk => (HH.out.hi k hk).2)
  have HVN := Lib.hid (HVR.out.wide (N' := fun k => F k ∨ X k ∨ k = b6) (fun k hk => hk.elim (fun h => .inl (.inl h)) (fun h => h.elim (fun h => .inl (.inr h)) (fun e => .inr (by subst e; exact h6W)))))
  have HAN := Lib.hid (HAC.out.wide (N' := fun k => F k ∨ X k ∨ k = b6) (fun k hk => hk.elim (fun h => .inl (.inl h)) (fun h => h.elim (fun h => .inl (.inr h)) (fun e => .inr (by subst e; exact h6W)))))
  clear HVR HAC
  have hal := HBA.out.lt
  have hsl := HBS.out.lt
  repeat' (first | refine X_q ?_ | refine X_nil ?_ | refine W_seqk (fun K hK => ?_) | refine W_seqr ?_ | go_step)
  refine X_aload HBA.out ?_ (hu := Tryz.underlying51)
  skip
  refine X_fload HBS.out ?_ (hu := Tryz.underlying33)
  skip
  refine X_ret Tryz.func35 (NEAR.out _ HE.out) (fun r w1 hR => ?_)
  obtain ⟨hE1, rfl⟩ := hR
  replace HBS := Lib.hid (HBS.out.later hE1)
  replace HBA := Lib.hid (HBA.out.later hE1)
  replace HBO := Lib.hid (HBO.out.later hE1)
  replace HE := Lib.hid (Ext.trans HE.out hE1)
  clear hE1 NEAR hal hsl
  have hal := HBA.out.lt
  skip
  refine X_store (off := 0) HBA.out (fun W1 hM1 hB1 => ?_); replace HE := Lib.hid (Ext.fresh HE.out hM1 (fun k hk => by subst hk; omega)); replace HBS := Lib.hid (HBS.out.mod hM1 (fun h => by omega)); replace HBO := Lib.hid (HBO.out.mod hM1 (fun h => by omega)); replace HBA := Lib.hid hB1; clear hM1 hB1
  replace HBA := Lib.hid (HBA.out.congr (g' := aenc a' (.slice A4 a'.view.isr.length c4) (.slice A5 a'.reply.entries.length c5) (.slice A6 a'.list.length c6)) (all27 ⟨rfl, rfl, rfl, rfl, rfl, rfl, rfl, rfl, rfl, rfl, rfl, rfl, rfl, rfl, rfl, rfl, rfl, rfl, rfl, rfl, rfl, rfl, rfl, rfl, rfl, rfl, rfl⟩))
  clear hal
  obtain ⟨hlt, d0, d1, d2, d3, d4, d5, d6, d7, d8, d9, d10⟩ := fcells HBS.out
  have hal := HBA.out.lt
  have e0 := HBA.out.cell (k := 0) (by omega)
  change World.cell? _ _ = some (.int .i64 a'.kind) at e0
  rw [hka] at e0
  have hbol := HBO.out.lt
  have hEW := HE.out.size
  have HGG := Lib.hid HG.out.good
  repeat' (first | refine X_q ?_ | refine X_nil ?_ | refine W_seqk (fun K hK => ?_) | refine W_seqr ?_ | refine W_block ?_ | refine W_tt ?_ | refine W_ff ?_ | go_step)
  by_cases hr : s.role = 2
  · have HR2 := Lib.hid hr
    have HASK : Hid (∀ W', Ext W W' → Pure Tryz.prog 39 #[s.v (.slice A1 s.log.length c1) (.slice A2 s.isr.length c2) (.slice A3 s.counts.length c3)] W' (.tuple #[s.asks.v, .int .i64 0])) := Lib.hid (fun W' hE => by
      have := ask11_calls (HVN.out.later hE)
      rw [if_pos hr, if_pos hr] at this
      exact this)
    clear hr
    refine X_fload HBS.out ?_ (hu := Tryz.underlying33)
    skip
    refine X_pure Tryz.func39 (HASK.out _ HE.out) ?_
    have HE1 := HE
    have HVO := Lib.hid (HVN.out.later HE.out)
    replace HE := Lib.hid (Ext.refl W1)
    have h61 := HBO.out.lt
    clear HASK
    (repeat' (first | refine X_q ?_ | fail)); (first | (refine X_var (fun yn b15 hn1 hn2 hn3 hn4 hn5 => ?_)) | (refine X_s (fun x K hK => ?_); go_simp; refine hK _ _ (Ext.alloc _ _) ?_; clear hK K; refine X_al x ?_; generalize (World.later _ x).heap.size = b15; intro yn hn1 hn2 hn3 hn4 hn5; clear x)); have HBb15 := Lib.hid (Blk.new hn5.out); have HEb15 := Lib.hid yn.ext; have hlb15 : (World.heap W1).size ≤ b15 := hn1; generalize World.later W1 yn = W8 at *; clear hn1 hn2 hn3 hn4 hn5 yn
    have HBF := HBb15
    replace HE := HEb15
    replace HBS := Lib.hid (HBS.out.later HEb15.out)
    replace HBA := Lib.hid (HBA.out.later HEb15.out)
    replace HBO := Lib.hid (HBO.out.later HEb15.out)
    clear HBb15 HEb15 hbol e0 hal
    clear hlt d0 d1 d2 d3 d4 d5 d6 d7 d8 d9 d10
    have hbol := HBO.out.lt
    repeat' (first | refine X_q ?_ | refine X_nil ?_ | refine W_seqk (fun K hK => ?_) | refine W_seqr ?_ | go_step)
    refine X_ret Tryz.func22 (ask_ok (((HH.out.later HE1.out).later HE.out).rep) HGG.out.ne HGG.out.may HR2.out) (fun r w4 hR => ?_)
    obtain ⟨rfl, hE9⟩ := hR
    obtain ⟨hM, hRp⟩ : Mod F _ _ ∧ Rep _ b (fun k => F k ∨ W8.heap.size ≤ k) s := ⟨hE9.mono (fun _ _ h => h.elim), ((((HH.out.later HE1.out).later HE.out).later hE9).rep).mono (fun k hk => .inl hk)⟩
    have HMc := Lib.hid hM
    have HRc := Lib.hid hRp
    have HEC := HE
    clear hM hRp
    replace HBS := Lib.hid (HBS.out.later hE9)
    replace HBF := Lib.hid (HBF.out.later hE9)
    replace HBO := Lib.hid (HBO.out.later hE9)
    clear hE9 hbol
    (repeat' (first | refine X_q ?_ | fail)); (first | (refine X_var (fun yn b17 hn1 hn2 hn3 hn4 hn5 => ?_)) | (refine X_s (fun x K hK => ?_); go_simp; refine hK _ _ (Ext.alloc _ _) ?_; clear hK K; refine X_al x ?_; generalize (World.later _ x).heap.size = b17; intro yn hn1 hn2 hn3 hn4 hn5; clear x)); have HBb17 := Lib.hid (Blk.new hn5.out); have HEb17 := Lib.hid yn.ext; have hlb17 : (World.heap w4).size ≤ b17 := hn1; generalize World.later w4 yn = W9 at *; clear hn1 hn2 hn3 hn4 hn5 yn
    have HBF2 := HBb17
    have HM4 := HEb17
    replace HBS := Lib.hid (HBS.out.later HEb17.out)
    replace HBF := Lib.hid (HBF.out.later HEb17.out)
    replace HBO4 := Lib.hid (HBO.out.later HEb17.out)
    clear HBb17 HEb17
    have hbol := HBO4.out.lt
    have hfl := HBF.out.lt
    have hfl2 := HBF2.out.lt
    have hsl := HBS.out.lt
    have f0 := HBF.out.cell (k := 0) (by simp)
    have f1 := HBF.out.cell (k := 1) (by simp)
    have f2 := HBF.out.cell (k := 2) (by simp)
    have f3 := HBF.out.cell (k := 3) (by simp)
    have f4 := HBF.out.cell (k := 4) (by simp)
    simp at f0 f1 f2 f3 f4
    have g0 := HBF2.out.cell (k := 0) (by simp)
    have g1 := HBF2.out.cell (k := 1) (by simp)
    have g2 := HBF2.out.cell (k := 2) (by simp)
    have g3 := HBF2.out.cell (k := 3) (by simp)
    have g4 := HBF2.out.cell (k := 4) (by simp)
    simp at g0 g1 g2 g3 g4
    repeat' (first | refine X_q ?_ | refine X_nil ?_ | refine W_seqk (fun K hK => ?_) | go_step)
    obtain ⟨G, hG⟩ : ∃ G : Nat → Prop, G = (fun k => k = b6) := ⟨_, rfl⟩; have HGo : Hid (G b6) := Lib.hid (by subst hG; rfl); have hGb4 : ¬ G b4 := (by subst hG; show ¬ b4 = b6; omega); clear hG
    refine W_drawG G [(0, 3), (1, 3), (2, 3), (3, 0), (4, 0), (5, 0), (6, 0), (7, 0), (8, 0), (9, 2), (10, 0)] (by kernel_rfl) (by kernel_rfl) ?_
    (first | refine Y_floadr HBS.out ?_ (hu := Tryz.underlying33) | refine Y_fload HBS.out hGb4 ?_ (hu := Tryz.underlying33))
    repeat' (first | refine Y_gt ?_ | refine Y_q ?_ | refine Y_r ?_ | fail)
    refine Y_store (off := 0) HBO4.out HGo.out (fun W5 hM5 hG5x hB5 => ?_)
    have HM5 := Lib.hid hM5
    have HB5 := Lib.hid (fput hB5)
    clear hM5 hG5x hB5
    repeat' (first | refine Y_q ?_ | refine Y_nil ?_)
    repeat' (first | refine W_ret ?_ | go_step)
    have HM6 := Lib.hid (Mod.trans (H := (· = b6)) HM4.out HM5.out (fun _ _ h => h.elim) (fun _ _ h => h))
    exact Body_retcellv (cs := RepS.cs (s) _ _ _) hd (does_end HH.out HE1.out HEC.out HMc.out HRc.out HM6.out h6W h61 HVO.out) HB5.out (fun k hk => cs_fenc hk) Tryz.underlying33
  · have HR2 := Lib.hid hr
    have HASK : Hid (∀ W', Ext W W' → Pure Tryz.prog 39 #[s.v (.slice A1 s.log.length c1) (.slice A2 s.isr.length c2) (.slice A3 s.counts.length c3)] W' (.tuple #[(Fetch.mk 0 0 0 0 0).v, .int .i64 211])) := Lib.hid (fun W' hE => by
      have := ask11_calls (HVN.out.later hE)
      rw [if_neg hr, if_neg hr] at this
      exact this)
    clear hr
    refine X_fload HBS.out ?_ (hu := Tryz.underlying33)
    skip
    refine X_pure Tryz.func39 (HASK.out _ HE.out) ?_
    have HE1 := HE
    have HVO := Lib.hid (HVN.out.later HE.out)
    replace HE := Lib.hid (Ext.refl W1)
    have h61 := HBO.out.lt
    clear HASK
    (repeat' (first | refine X_q ?_ | fail)); (first | (refine X_var (fun yn b15 hn1 hn2 hn3 hn4 hn5 => ?_)) | (refine X_s (fun x K hK => ?_); go_simp; refine hK _ _ (Ext.alloc _ _) ?_; clear hK K; refine X_al x ?_; generalize (World.later _ x).heap.size = b15; intro yn hn1 hn2 hn3 hn4 hn5; clear x)); have HBb15 := Lib.hid (Blk.new hn5.out); have HEb15 := Lib.hid yn.ext; have hlb15 : (World.heap W1).size ≤ b15 := hn1; generalize World.later W1 yn = W8 at *; clear hn1 hn2 hn3 hn4 hn5 yn
    have HBF := HBb15
    replace HE := HEb15
    replace HBS := Lib.hid (HBS.out.later HEb15.out)
    replace HBA := Lib.hid (HBA.out.later HEb15.out)
    replace HBO := Lib.hid (HBO.out.later HEb15.out)
    clear HBb15 HEb15 hbol e0 hal
    clear hlt d0 d1 d2 d3 d4 d5 d6 d7 d8 d9 d10
    have hbol := HBO.out.lt
    repeat' (first | refine X_q ?_ | refine X_nil ?_ | refine W_seqk (fun K hK => ?_) | refine W_seqr ?_ | go_step)
    refine X_ret Tryz.func22 (ask_no (((HH.out.later HE1.out).later HE.out).rep) HGG.out.ne HR2.out) (fun r w4 hR => ?_)
    obtain ⟨rfl, hE9⟩ := hR
    obtain ⟨hM, hRp⟩ : Mod F _ _ ∧ Rep _ b (fun k => F k ∨ W8.heap.size ≤ k) s := ⟨hE9.mono (fun _ _ h => h.elim), ((((HH.out.later HE1.out).later HE.out).later hE9).rep).mono (fun k hk => .inl hk)⟩
    have HMc := Lib.hid hM
    have HRc := Lib.hid hRp
    have HEC := HE
    clear hM hRp
    replace HBS := Lib.hid (HBS.out.later hE9)
    replace HBF := Lib.hid (HBF.out.later hE9)
    replace HBO := Lib.hid (HBO.out.later hE9)
    clear hE9 hbol
    (repeat' (first | refine X_q ?_ | fail)); (first | (refine X_var (fun yn b17 hn1 hn2 hn3 hn4 hn5 => ?_)) | (refine X_s (fun x K hK => ?_); go_simp; refine hK _ _ (Ext.alloc _ _) ?_; clear hK K; refine X_al x ?_; generalize (World.later _ x).heap.size = b17; intro yn hn1 hn2 hn3 hn4 hn5; clear x)); have HBb17 := Lib.hid (Blk.new hn5.out); have HEb17 := Lib.hid yn.ext; have hlb17 : (World.heap w4).size ≤ b17 := hn1; generalize World.later w4 yn = W9 at *; clear hn1 hn2 hn3 hn4 hn5 yn
    have HBF2 := HBb17
    have HM4 := HEb17
    replace HBS := Lib.hid (HBS.out.later HEb17.out)
    replace HBF := Lib.hid (HBF.out.later HEb17.out)
    replace HBO4 := Lib.hid (HBO.out.later HEb17.out)
    clear HBb17 HEb17
    have hbol := HBO4.out.lt
    have hfl := HBF.out.lt
    have hfl2 := HBF2.out.lt
    have hsl := HBS.out.lt
    have f0 := HBF.out.cell (k := 0) (by simp)
    have f1 := HBF.out.cell (k := 1) (by simp)
    have f2 := HBF.out.cell (k := 2) (by simp)
    have f3 := HBF.out.cell (k := 3) (by simp)
    have f4 := HBF.out.cell (k := 4) (by simp)
    simp at f0 f1 f2 f3 f4
    have g0 := HBF2.out.cell (k := 0) (by simp)
    have g1 := HBF2.out.cell (k := 1) (by simp)
    have g2 := HBF2.out.cell (k := 2) (by simp)
    have g3 := HBF2.out.cell (k := 3) (by simp)
    have g4 := HBF2.out.cell (k := 4) (by simp)
    simp at g0 g1 g2 g3 g4
    repeat' (first | refine X_q ?_ | refine X_nil ?_ | refine W_seqk (fun K hK => ?_) | go_step)
    obtain ⟨G, hG⟩ : ∃ G : Nat → Prop, G = (fun k => k = b6) := ⟨_, rfl⟩; have HGo : Hid (G b6) := Lib.hid (by subst hG; rfl); have hGb4 : ¬ G b4 := (by subst hG; show ¬ b4 = b6; omega); clear hG
    refine W_drawG G [(0, 3), (1, 3), (2, 3), (3, 0), (4, 0), (5, 0), (6, 0), (7, 0), (8, 0), (9, 2), (10, 0)] (by kernel_rfl) (by kernel_rfl) ?_
    (first | refine Y_floadr HBS.out ?_ (hu := Tryz.underlying33) | refine Y_fload HBS.out hGb4 ?_ (hu := Tryz.underlying33))
    repeat' (first | refine Y_gt ?_ | refine Y_q ?_ | refine Y_r ?_ | fail)
    refine Y_store (off := 0) HBO4.out HGo.out (fun W5 hM5 hG5x hB5 => ?_)
    have HM5 := Lib.hid hM5
    have HB5 := Lib.hid (fput hB5)
    clear hM5 hG5x hB5
    repeat' (first | refine Y_q ?_ | refine Y_nil ?_)
    repeat' (first | refine W_ret ?_ | go_step)
    have HM6 := Lib.hid (Mod.trans (H := (· = b6)) HM4.out HM5.out (fun _ _ h => h.elim) (fun _ _ h => h))
    exact Body_retcellv (cs := RepS.cs (s) _ _ _) hd (does_end HH.out HE1.out HEC.out HMc.out HRc.out HM6.out h6W h61 HVO.out) HB5.out (fun k hk => cs_fenc hk) Tryz.underlying33
end Go.Ws
namespace Go.Ws
open Go Go.RowKit Go.Proofs
set_option maxHeartbeats 4000000
set_option maxRecDepth 100000
set_option linter.unusedVariables false
set_option linter.unusedSimpArgs false

theorem serve11_all {N : Nat → Prop} {w : World} {uL uI uC : Value} {s : RepS} (hN : ∀ k, N k → k < w.heap.size) (h : VR N w uL uI uC s) (hg : s.Good) (f : Fetch) (most : Int) :
    Ret Tryz.prog 40 #[s.v uL uI uC, f.v, .int .i64 most] w fun r w' => Ext w w' ∧ ∃ v' u, r = .tuple #[v', (s.reply f most).v u, .int .i64 (s.serveNo f most)] ∧ FV N w' v' (s.serve f most) ∧ RdEN N w' u (s.reply f most).entries := by
  by_cases hno : s.serveNo f most = 0
  · rw [hno]
    by_cases hf : fitsE s.log f.offset f.last = true
    · exact serve11_fit hN h hg.bks hg.len f most hno hf
    · exact serve11_cut h f most hno hg.may (by simpa using hf)
  · have h1 : s.reply f most = Reply.zero := by unfold RepS.reply; rw [if_pos hno]
    have h2 : s.serve f most = s := by unfold RepS.serve; rw [if_pos hno]
    rw [h1, h2]
    refine Ret.mono (serve11_no h f most hno) fun r w' hR => ?_
    obtain ⟨hE, v', rfl, hv⟩ := hR
    exact ⟨hE, v', _, rfl, hv, RdN.nil _⟩
theorem does5_calls {w0 W : World} {b : Nat} {F X : Nat → Prop} {s : RepS} {uL uI uC vI vE vL : Value} {a : ActD} (h : HR w0 W b F s) (hg : s.Fine) (hX : ∀ k, X k → k < W.heap.size) (hv : VR (fun k => F k ∨ X k) W uL uI uC s) (ha : ActR (fun k => F k ∨ X k) W vI vE vL a) (hk : a.kind = 5) :
    Ret Tryz.prog 16 #[.pointer (some ⟨b, 0, none⟩), s.v uL uI uC, a.v vI vE vL] W fun r W' => DoesR w0 W b F X (s.step (a.atS s)) r W' := by
  have HH := Lib.hid h
  have HG := Lib.hid hg
  have HXW := Lib.hid hX
  clear hX
  have HVR := Lib.hid hv
  have HAC := Lib.hid (ha.at s)
  have NEAR : Hid (∀ W', Ext W W' → Ret Tryz.prog 35 #[a.v vI vE vL, s.v uL uI uC] W' fun r w' => Ext W' w' ∧ r = (a.atS s).v vI vE vL) := Lib.hid (fun W' hE => near_calls (hv.later hE) hg.good hg.ver (ha.later hE))
  have hka : (a.atS s).kind = 5 := (atS_kind a s).1.trans hk
  have ht : s.step (a.atS s) = s.serve (a.atS s).fetch (a.atS s).n := by unfold RepS.step; simp [hka]
  rw [ht]
  clear ht
  obtain ⟨A1, c1, rfl, -⟩ := hv.rl.rd.ent
  obtain ⟨A2, c2, rfl, -⟩ := hv.ri.rd.int
  obtain ⟨A3, c3, rfl, -⟩ := hv.rc.rd.int
  clear h hg hv ha hk
  generalize a.atS s = a' at *
  obtain ⟨A4, c4, rfl, -⟩ := HAC.out.ri.int
  obtain ⟨A5, c5, rfl, -⟩ := HAC.out.re.ent
  obtain ⟨A6, c6, rfl, -⟩ := HAC.out.rl.int
  refine Fn_of Tryz.func16 rfl (Nat.le_of_ble_eq_true rfl) ?_; intro A hd hA; simp only [ix, Nat.reduceAdd]; replace hA : A.tmps.size = 268 := hA
  (repeat' (first | refine W_seqk (fun K hK => ?_) | refine W_seqr ?_ | fail)); (first | (refine X_var (fun yn b4 hn1 hn2 hn3 hn4 hn5 => ?_)) | (refine X_s (fun x K hK => ?_); go_simp; refine hK _ _ (Ext.alloc _ _) ?_; clear hK K; refine X_al x ?_; generalize (World.later _ x).heap.size = b4; intro yn hn1 hn2 hn3 hn4 hn5; clear x)); have HBb4 := Lib.hid (Blk.new hn5.out); have HEb4 := Lib.hid yn.ext; have hlb4 : (World.heap W).size ≤ b4 := hn1; generalize World.later W yn = W0 at *; clear hn1 hn2 hn3 hn4 hn5 yn
  (skip); (first | (refine X_var (fun yn b5 hn1 hn2 hn3 hn4 hn5 => ?_)) | (refine X_s (fun x K hK => ?_); go_simp; refine hK _ _ (Ext.alloc _ _) ?_; clear hK K; refine X_al x ?_; generalize (World.later _ x).heap.size = b5; intro yn hn1 hn2 hn3 hn4 hn5; clear x)); have HBb5 := Lib.hid (Blk.new hn5.out); have HEb5 := Lib.hid yn.ext; have hlb5 : (World.heap W0).size ≤ b5 := hn1; generalize World.later W0 yn = W1 at *; clear hn1 hn2 hn3 hn4 hn5 yn
  (skip); (first | (refine X_var (fun yn b6 hn1 hn2 hn3 hn4 hn5 => ?_)) | (refine X_s (fun x K hK => ?_); go_simp; refine hK _ _ (Ext.alloc _ _) ?_; clear hK K; refine X_al x ?_; generalize (World.later _ x).heap.size = b6; intro yn hn1 hn2 hn3 hn4 hn5; clear x)); have HBb6 := Lib.hid (Blk.new hn5.out); have HEb6 := Lib.hid yn.ext; have hlb6 : (World.heap W1).size ≤ b6 := hn1; generalize World.later W1 yn = W2 at *; clear hn1 hn2 hn3 hn4 hn5 yn
  have HBS := Lib.hid ((fbox2 HBb4.out).later (Ext.trans HEb5.out HEb6.out))
  have HBA : Hid (Blk W2 b5 51 27 (aenc a (.slice A4 a'.view.isr.length c4) (.slice A5 a'.reply.entries.length c5) (.slice A6 a'.list.length c6))) := Lib.hid ((HBb5.out.later HEb6.out).congr (fun k hk => rfl))
  have HBO := HBb6
  have HE := Lib.hid (Ext.trans (Ext.trans HEb4.out HEb5.out) HEb6.out)
  have hbb : b4 < b5 := by have := HBb4.out.lt; omega
  have hbb2 : b5 < b6 := by have := HBb5.out.lt; omega
  have hs0 := HEb4.out.size
  have hs1 := HEb5.out.size
  have h6W : W.heap.size ≤ b6 := by omega
  clear HBb4 HBb5 HBb6 HEb4 HEb5 HEb6
  have HFW : Hid (∀ k, F k → k < W.heap.size) := Lib.hid (fun k hk => (HH.out.hi k hk).2)
  have HVN := Lib.hid (HVR.out.wide (N' := fun k => F k ∨ X k ∨ k = b6) (fun k hk => hk.elim (fun h => .inl (.inl h)) (fun h => h.elim (fun h => .inl (.inr h)) (fun e => .inr (by subst e; exact h6W)))))
  have HAN := Lib.hid (HAC.out.wide (N' := fun k => F k ∨ X k ∨ k = b6) (fun k hk => hk.elim (fun h => .inl (.inl h)) (fun h => h.elim (fun h => .inl (.inr h)) (fun e => .inr (by subst e; exact h6W)))))
  clear HVR HAC
  have hal := HBA.out.lt
  have hsl := HBS.out.lt
  repeat' (first | refine X_q ?_ | refine X_nil ?_ | refine W_seqk (fun K hK => ?_) | refine W_seqr ?_ | go_step)
  refine X_aload HBA.out ?_ (hu := Tryz.underlying51)
  skip
  refine X_fload HBS.out ?_ (hu := Tryz.underlying33)
  skip
  refine X_ret Tryz.func35 (NEAR.out _ HE.out) (fun r w1 hR => ?_)
  obtain ⟨hE1, rfl⟩ := hR
  replace HBS := Lib.hid (HBS.out.later hE1)
  replace HBA := Lib.hid (HBA.out.later hE1)
  replace HBO := Lib.hid (HBO.out.later hE1)
  replace HE := Lib.hid (Ext.trans HE.out hE1)
  clear hE1 NEAR hal hsl
  have hal := HBA.out.lt
  skip
  refine X_store (off := 0) HBA.out (fun W1 hM1 hB1 => ?_); replace HE := Lib.hid (Ext.fresh HE.out hM1 (fun k hk => by subst hk; omega)); replace HBS := Lib.hid (HBS.out.mod hM1 (fun h => by omega)); replace HBO := Lib.hid (HBO.out.mod hM1 (fun h => by omega)); replace HBA := Lib.hid hB1; clear hM1 hB1
  replace HBA := Lib.hid (HBA.out.congr (g' := aenc a' (.slice A4 a'.view.isr.length c4) (.slice A5 a'.reply.entries.length c5) (.slice A6 a'.list.length c6)) (all27 ⟨rfl, rfl, rfl, rfl, rfl, rfl, rfl, rfl, rfl, rfl, rfl, rfl, rfl, rfl, rfl, rfl, rfl, rfl, rfl, rfl, rfl, rfl, rfl, rfl, rfl, rfl, rfl⟩))
  clear hal
  obtain ⟨hlt, d0, d1, d2, d3, d4, d5, d6, d7, d8, d9, d10⟩ := fcells HBS.out
  have hal := HBA.out.lt
  have e0 := HBA.out.cell (k := 0) (by omega)
  change World.cell? _ _ = some (.int .i64 a'.kind) at e0
  have e1 := HBA.out.cell (k := 1) (by omega)
  change World.cell? _ _ = some (.int .i64 a'.n) at e1
  have e13 := HBA.out.cell (k := 13) (by omega)
  change World.cell? _ _ = some (.int .i64 a'.fetch.src) at e13
  have e14 := HBA.out.cell (k := 14) (by omega)
  change World.cell? _ _ = some (.int .i64 a'.fetch.epoch) at e14
  have e15 := HBA.out.cell (k := 15) (by omega)
  change World.cell? _ _ = some (.int .i64 a'.fetch.offset) at e15
  have e16 := HBA.out.cell (k := 16) (by omega)
  change World.cell? _ _ = some (.int .i64 a'.fetch.last) at e16
  have e17 := HBA.out.cell (k := 17) (by omega)
  change World.cell? _ _ = some (.int .i64 a'.fetch.flushed) at e17
  rw [hka] at e0
  have hbol := HBO.out.lt
  have hEW := HE.out.size
  have HGG := Lib.hid HG.out.good
  repeat' (first | refine X_q ?_ | refine X_nil ?_ | refine W_seqk (fun K hK => ?_) | refine W_seqr ?_ | refine W_block ?_ | refine W_tt ?_ | refine W_ff ?_ | go_step)
  refine X_fload HBS.out ?_ (hu := Tryz.underlying33)
  repeat' (first | refine X_q ?_ | fail)
  refine X_ret Tryz.func40 (serve11_all (N := fun k => F k ∨ X k ∨ k = b6) (fun k hk => hk.elim (fun h => by have := HFW.out k h; omega) (fun h => h.elim (fun h => by have := HXW.out k h; omega) (fun h => by omega))) (HVN.out.later HE.out) HGG.out a'.fetch a'.n) (fun r w1 hR => ?_)
  obtain ⟨hE1, v1, u1, rfl, ⟨oL, oI, oC, rfl, hVO⟩, hU⟩ := hR
  obtain ⟨B1, x1, rfl, -⟩ := hVO.rl.ent
  obtain ⟨B2, x2, rfl, -⟩ := hVO.ri.int
  obtain ⟨B3, x3, rfl, -⟩ := hVO.rc.int
  obtain ⟨B4, x4, rfl, -⟩ := hU.ent
  have HU := Lib.hid hU
  clear hU
  have HE1 := Lib.hid (Ext.trans HE.out hE1)
  have HVO := Lib.hid hVO
  replace HBS := Lib.hid (HBS.out.later hE1)
  replace HBA := Lib.hid (HBA.out.later hE1)
  replace HBO := Lib.hid (HBO.out.later hE1)
  clear hE1 hVO HE hbol hEW e0 e1 e13 e14 e15 e16 e17 hal
  clear hlt d0 d1 d2 d3 d4 d5 d6 d7 d8 d9 d10
  have HE := Lib.hid (Ext.refl w1)
  have hbol := HBO.out.lt
  have hEW := HE1.out.size
  have h61 := HBO.out.lt
  have hal := HBA.out.lt
  have e1 := HBA.out.cell (k := 1) (by omega)
  change World.cell? _ _ = some (.int .i64 a'.n) at e1
  have e13 := HBA.out.cell (k := 13) (by omega)
  change World.cell? _ _ = some (.int .i64 a'.fetch.src) at e13
  have e14 := HBA.out.cell (k := 14) (by omega)
  change World.cell? _ _ = some (.int .i64 a'.fetch.epoch) at e14
  have e15 := HBA.out.cell (k := 15) (by omega)
  change World.cell? _ _ = some (.int .i64 a'.fetch.offset) at e15
  have e16 := HBA.out.cell (k := 16) (by omega)
  change World.cell? _ _ = some (.int .i64 a'.fetch.last) at e16
  have e17 := HBA.out.cell (k := 17) (by omega)
  change World.cell? _ _ = some (.int .i64 a'.fetch.flushed) at e17
  (repeat' (first | refine X_q ?_ | fail)); (first | (refine X_var (fun yn b8 hn1 hn2 hn3 hn4 hn5 => ?_)) | (refine X_s (fun x K hK => ?_); go_simp; refine hK _ _ (Ext.alloc _ _) ?_; clear hK K; refine X_al x ?_; generalize (World.later _ x).heap.size = b8; intro yn hn1 hn2 hn3 hn4 hn5; clear x)); have HBb8 := Lib.hid (Blk.new hn5.out); have HEb8 := Lib.hid yn.ext; have hlb8 : (World.heap w1).size ≤ b8 := hn1; generalize World.later w1 yn = W8 at *; clear hn1 hn2 hn3 hn4 hn5 yn
  (skip); (first | (refine X_var (fun yn b20 hn1 hn2 hn3 hn4 hn5 => ?_)) | (refine X_s (fun x K hK => ?_); go_simp; refine hK _ _ (Ext.alloc _ _) ?_; clear hK K; refine X_al x ?_; generalize (World.later _ x).heap.size = b20; intro yn hn1 hn2 hn3 hn4 hn5; clear x)); have HBb20 := Lib.hid (Blk.new hn5.out); have HEb20 := Lib.hid yn.ext; have hlb20 : (World.heap W8).size ≤ b20 := hn1; generalize World.later W8 yn = W9 at *; clear hn1 hn2 hn3 hn4 hn5 yn
  have HBT := Lib.hid (HBb8.out.later HEb20.out)
  have HBP := HBb20
  replace HE := Lib.hid (Ext.trans HEb8.out HEb20.out)
  replace HBA := Lib.hid (HBA.out.later HE.out)
  replace HBO := Lib.hid (HBO.out.later HE.out)
  have h8b : b8 < b20 := by have := HBb8.out.lt; omega
  have hs8 := HEb8.out.size
  clear HBb8 HEb8 HBb20 HEb20 hbol HBS
  clear hal e1 e13 e14 e15 e16 e17
  have h8l := HBT.out.lt
  have h20l := HBP.out.lt
  skip
  refine X_store (off := 0) HBT.out (fun W1 hM1 hB1 => ?_); replace HE := Lib.hid (Ext.fresh HE.out hM1 (fun k hk => by subst hk; omega)); replace HBP := Lib.hid (HBP.out.mod hM1 (fun h => by omega)); replace HBA := Lib.hid (HBA.out.mod hM1 (fun h => by omega)); replace HBO := Lib.hid (HBO.out.mod hM1 (fun h => by omega)); replace HBT := Lib.hid hB1; clear hM1 hB1
  replace HBT := Lib.hid (fput HBT.out)
  clear h8l h20l
  have h8l := HBT.out.lt
  have h20l := HBP.out.lt
  skip
  refine X_store (off := 0) HBP.out (fun W1 hM1 hB1 => ?_); replace HE := Lib.hid (Ext.fresh HE.out hM1 (fun k hk => by subst hk; omega)); replace HBT := Lib.hid (HBT.out.mod hM1 (fun h => by omega)); replace HBA := Lib.hid (HBA.out.mod hM1 (fun h => by omega)); replace HBO := Lib.hid (HBO.out.mod hM1 (fun h => by omega)); replace HBP := Lib.hid hB1; clear hM1 hB1
  replace HBP := Lib.hid (HBP.out.congr (g' := fun k => ((s.reply a'.fetch a'.n).cs (.slice B4 (s.reply a'.fetch a'.n).entries.length x4)).getD k undef) (alln8 ⟨rfl, rfl, rfl, rfl, rfl, rfl, rfl, rfl⟩))
  clear h8l h20l
  have hal := HBA.out.lt
  have e1 := HBA.out.cell (k := 1) (by omega)
  change World.cell? _ _ = some (.int .i64 a'.n) at e1
  have e13 := HBA.out.cell (k := 13) (by omega)
  change World.cell? _ _ = some (.int .i64 a'.fetch.src) at e13
  have e14 := HBA.out.cell (k := 14) (by omega)
  change World.cell? _ _ = some (.int .i64 a'.fetch.epoch) at e14
  have e15 := HBA.out.cell (k := 15) (by omega)
  change World.cell? _ _ = some (.int .i64 a'.fetch.offset) at e15
  have e16 := HBA.out.cell (k := 16) (by omega)
  change World.cell? _ _ = some (.int .i64 a'.fetch.last) at e16
  have e17 := HBA.out.cell (k := 17) (by omega)
  change World.cell? _ _ = some (.int .i64 a'.fetch.flushed) at e17
  have hbol := HBO.out.lt
  have h8l := HBT.out.lt
  have h20l := HBP.out.lt
  repeat' (first | refine X_q ?_ | refine X_nil ?_ | refine W_seqk (fun K hK => ?_) | refine W_seqr ?_ | go_step)
  refine X_ret Tryz.func23 (serve_rep (((HH.out.later HE1.out).later HE.out).rep) HGG.out.ne HGG.out.may HGG.out.len HGG.out.bks a'.fetch a'.n) (fun r w4 hR => ?_)
  obtain ⟨⟨u2, rfl, hO2, -⟩, hM, hRp⟩ := hR
  have HR2 := Lib.hid (hO2.rd (enc := Ent.cs) (k := 6) (fun _ => rfl))
  obtain ⟨B5, x5, rfl, -⟩ := HR2.out.ent
  have HMc := Lib.hid hM
  have HRc := Lib.hid hRp
  have HEC := HE
  have hEs := HE.out.size
  have HU2 := Lib.hid (((HU.out.later HE.out).mod hM (fun k hk => .inl hk)).rd)
  replace HBO := Lib.hid (HBO.out.mod hM (fun h => by have := HFW.out _ h; omega))
  replace HBT := Lib.hid (HBT.out.mod hM (fun h => by have := HFW.out _ h; omega))
  replace HBP := Lib.hid (HBP.out.mod hM (fun h => by have := HFW.out _ h; omega))
  have hs4 := hM.size
  clear hM hRp hO2 HU HBA hbol h8l h20l
  clear hal e1 e13 e14 e15 e16 e17
  (repeat' (first | refine X_q ?_ | fail)); (first | (refine X_var (fun yn b22 hn1 hn2 hn3 hn4 hn5 => ?_)) | (refine X_s (fun x K hK => ?_); go_simp; refine hK _ _ (Ext.alloc _ _) ?_; clear hK K; refine X_al x ?_; generalize (World.later _ x).heap.size = b22; intro yn hn1 hn2 hn3 hn4 hn5; clear x)); have HBb22 := Lib.hid (Blk.new hn5.out); have HEb22 := Lib.hid yn.ext; have hlb22 : (World.heap w4).size ≤ b22 := hn1; generalize World.later w4 yn = W12 at *; clear hn1 hn2 hn3 hn4 hn5 yn
  have HBQ := HBb22
  have HM4 := HEb22
  replace HBT := Lib.hid (HBT.out.later HEb22.out)
  replace HBP := Lib.hid (HBP.out.later HEb22.out)
  have HBO4 := Lib.hid (HBO.out.later HEb22.out)
  clear HBb22 HEb22 HBO
  have hbol := HBO4.out.lt
  have h8l := HBT.out.lt
  have h20l := HBP.out.lt
  have h22l := HBQ.out.lt
  have p0 := HBP.out.cell (k := 0) (by simp)
  have p1 := HBP.out.cell (k := 1) (by simp)
  have p2 := HBP.out.cell (k := 2) (by simp)
  have p3 := HBP.out.cell (k := 3) (by simp)
  have p4 := HBP.out.cell (k := 4) (by simp)
  have p5 := HBP.out.cell (k := 5) (by simp)
  have p6 := HBP.out.cell (k := 6) (by simp)
  have p7 := HBP.out.cell (k := 7) (by simp)
  simp at p0 p1 p2 p3 p4 p5 p6 p7
  have q0 := HBQ.out.cell (k := 0) (by simp)
  have q1 := HBQ.out.cell (k := 1) (by simp)
  have q2 := HBQ.out.cell (k := 2) (by simp)
  have q3 := HBQ.out.cell (k := 3) (by simp)
  have q4 := HBQ.out.cell (k := 4) (by simp)
  have q5 := HBQ.out.cell (k := 5) (by simp)
  have q6 := HBQ.out.cell (k := 6) (by simp)
  have q7 := HBQ.out.cell (k := 7) (by simp)
  simp at q0 q1 q2 q3 q4 q5 q6 q7
  repeat' (first | refine X_q ?_ | refine X_nil ?_ | refine W_seqk (fun K hK => ?_) | go_step)
  obtain ⟨G, hG⟩ : ∃ G : Nat → Prop, G = (fun k => k = b6) := ⟨_, rfl⟩; have HGo : Hid (G b6) := Lib.hid (by subst hG; rfl); have hGb8 : ¬ G b8 := (by subst hG; show ¬ b8 = b6; omega); have hGb20 : ¬ G b20 := (by subst hG; show ¬ b20 = b6; omega); have hGb22 : ¬ G b22 := (by subst hG; show ¬ b22 = b6; omega); clear hG
  refine W_drawG G [(0, 0), (1, 3), (2, 3), (3, 1), (4, 0), (5, 0), (6, 0), (7, 0), (8, 0), (9, 2), (10, 0)] (by kernel_rfl) (by kernel_rfl) ?_
  (first | refine Y_floadr HBT.out ?_ (hu := Tryz.underlying33) | refine Y_fload HBT.out hGb8 ?_ (hu := Tryz.underlying33))
  repeat' (first | refine Y_r ?_ | fail)
  refine Y_pure Tryz.func41 (fun x => samereply_calls ((HR2.out.later HM4.out).later x.2) ((HU2.out.later HM4.out).later x.2)) ?_
  repeat' (first | refine Y_gt ?_ | refine Y_q ?_ | fail)
  refine Y_store (off := 0) HBO4.out HGo.out (fun W5 hM5 hG5x hB5 => ?_)
  have HM5 := Lib.hid hM5
  have HB5 := Lib.hid (fput hB5)
  clear hM5 hG5x hB5
  repeat' (first | refine Y_q ?_ | refine Y_nil ?_)
  repeat' (first | refine W_ret ?_ | go_step)
  have HM6 := Lib.hid (Mod.trans (H := (· = b6)) HM4.out HM5.out (fun _ _ h => h.elim) (fun _ _ h => h))
  exact Body_retcellv (cs := RepS.cs (s.serve a'.fetch a'.n) _ _ _) hd (does_end HH.out HE1.out HEC.out HMc.out HRc.out HM6.out h6W h61 HVO.out) HB5.out (fun k hk => cs_fenc hk) Tryz.underlying33
end Go.Ws

namespace Go.Ws
open Go Go.RowKit Go.Proofs
set_option maxHeartbeats 4000000
set_option maxRecDepth 100000
set_option linter.unusedVariables false
set_option linter.unusedSimpArgs false

theorem does6_calls {w0 W : World} {b : Nat} {F X : Nat → Prop} {s : RepS} {uL uI uC vI vE vL : Value} {a : ActD} (h : HR w0 W b F s) (hg : s.Fine) (hX : ∀ k, X k → k < W.heap.size) (hv : VR (fun k => F k ∨ X k) W uL uI uC s) (ha : ActR (fun k => F k ∨ X k) W vI vE vL a) (hk : a.kind = 6) (hbe : a.reply.entries.length ≤ 20) :
    Ret Tryz.prog 16 #[.pointer (some ⟨b, 0, none⟩), s.v uL uI uC, a.v vI vE vL] W fun r W' => DoesR w0 W b F X (s.step (a.atS s)) r W' := by
  have HH := Lib.hid h
  have HG := Lib.hid hg
  have HXW := Lib.hid hX
  clear hX
  have HVR := Lib.hid hv
  have HAC := Lib.hid (ha.at s)
  have NEAR : Hid (∀ W', Ext W W' → Ret Tryz.prog 35 #[a.v vI vE vL, s.v uL uI uC] W' fun r w' => Ext W' w' ∧ r = (a.atS s).v vI vE vL) := Lib.hid (fun W' hE => near_calls (hv.later hE) hg.good hg.ver (ha.later hE))
  have hka : (a.atS s).kind = 6 := (atS_kind a s).1.trans hk
  have ht : s.step (a.atS s) = s.take (a.atS s).reply := by unfold RepS.step; simp [hka]
  rw [ht]
  clear ht
  have HEN : Hid ((a.atS s).reply.entries.length ≤ 20) := Lib.hid (by rw [(atS_kind a s).2.2.2.2.2]; exact hbe)
  clear hbe
  obtain ⟨A1, c1, rfl, -⟩ := hv.rl.rd.ent
  obtain ⟨A2, c2, rfl, -⟩ := hv.ri.rd.int
  obtain ⟨A3, c3, rfl, -⟩ := hv.rc.rd.int
  clear h hg hv ha hk
  generalize a.atS s = a' at *
  obtain ⟨A4, c4, rfl, -⟩ := HAC.out.ri.int
  obtain ⟨A5, c5, rfl, -⟩ := HAC.out.re.ent
  obtain ⟨A6, c6, rfl, -⟩ := HAC.out.rl.int
  refine Fn_of Tryz.func16 rfl (Nat.le_of_ble_eq_true rfl) ?_; intro A hd hA; simp only [ix, Nat.reduceAdd]; replace hA : A.tmps.size = 268 := hA
  (repeat' (first | refine W_seqk (fun K hK => ?_) | refine W_seqr ?_ | fail)); (first | (refine X_var (fun yn b4 hn1 hn2 hn3 hn4 hn5 => ?_)) | (refine X_s (fun x K hK => ?_); go_simp; refine hK _ _ (Ext.alloc _ _) ?_; clear hK K; refine X_al x ?_; generalize (World.later _ x).heap.size = b4; intro yn hn1 hn2 hn3 hn4 hn5; clear x)); have HBb4 := Lib.hid (Blk.new hn5.out); have HEb4 := Lib.hid yn.ext; have hlb4 : (World.heap W).size ≤ b4 := hn1; generalize World.later W yn = W0 at *; clear hn1 hn2 hn3 hn4 hn5 yn
  (skip); (first | (refine X_var (fun yn b5 hn1 hn2 hn3 hn4 hn5 => ?_)) | (refine X_s (fun x K hK => ?_); go_simp; refine hK _ _ (Ext.alloc _ _) ?_; clear hK K; refine X_al x ?_; generalize (World.later _ x).heap.size = b5; intro yn hn1 hn2 hn3 hn4 hn5; clear x)); have HBb5 := Lib.hid (Blk.new hn5.out); have HEb5 := Lib.hid yn.ext; have hlb5 : (World.heap W0).size ≤ b5 := hn1; generalize World.later W0 yn = W1 at *; clear hn1 hn2 hn3 hn4 hn5 yn
  (skip); (first | (refine X_var (fun yn b6 hn1 hn2 hn3 hn4 hn5 => ?_)) | (refine X_s (fun x K hK => ?_); go_simp; refine hK _ _ (Ext.alloc _ _) ?_; clear hK K; refine X_al x ?_; generalize (World.later _ x).heap.size = b6; intro yn hn1 hn2 hn3 hn4 hn5; clear x)); have HBb6 := Lib.hid (Blk.new hn5.out); have HEb6 := Lib.hid yn.ext; have hlb6 : (World.heap W1).size ≤ b6 := hn1; generalize World.later W1 yn = W2 at *; clear hn1 hn2 hn3 hn4 hn5 yn
  have HBS := Lib.hid ((fbox2 HBb4.out).later (Ext.trans HEb5.out HEb6.out))
  have HBA : Hid (Blk W2 b5 51 27 (aenc a (.slice A4 a'.view.isr.length c4) (.slice A5 a'.reply.entries.length c5) (.slice A6 a'.list.length c6))) := Lib.hid ((HBb5.out.later HEb6.out).congr (fun k hk => rfl))
  have HBO := HBb6
  have HE := Lib.hid (Ext.trans (Ext.trans HEb4.out HEb5.out) HEb6.out)
  have hbb : b4 < b5 := by have := HBb4.out.lt; omega
  have hbb2 : b5 < b6 := by have := HBb5.out.lt; omega
  have hs0 := HEb4.out.size
  have hs1 := HEb5.out.size
  have h6W : W.heap.size ≤ b6 := by omega
  clear HBb4 HBb5 HBb6 HEb4 HEb5 HEb6
  have HFW : Hid (∀ k, F k → k < W.heap.size) := Lib.hid (fun k hk => (HH.out.hi k hk).2)
  have HVN := Lib.hid (HVR.out.wide (N' := fun k => F k ∨ X k ∨ k = b6) (fun k hk => hk.elim (fun h => .inl (.inl h)) (fun h => h.elim (fun h => .inl (.inr h)) (fun e => .inr (by subst e; exact h6W)))))
  have HAN := Lib.hid (HAC.out.wide (N' := fun k => F k ∨ X k ∨ k = b6) (fun k hk => hk.elim (fun h => .inl (.inl h)) (fun h => h.elim (fun h => .inl (.inr h)) (fun e => .inr (by subst e; exact h6W)))))
  clear HVR HAC
  have hal := HBA.out.lt
  have hsl := HBS.out.lt
  repeat' (first | refine X_q ?_ | refine X_nil ?_ | refine W_seqk (fun K hK => ?_) | refine W_seqr ?_ | go_step)
  refine X_aload HBA.out ?_ (hu := Tryz.underlying51)
  skip
  refine X_fload HBS.out ?_ (hu := Tryz.underlying33)
  skip
  refine X_ret Tryz.func35 (NEAR.out _ HE.out) (fun r w1 hR => ?_)
  obtain ⟨hE1, rfl⟩ := hR
  replace HBS := Lib.hid (HBS.out.later hE1)
  replace HBA := Lib.hid (HBA.out.later hE1)
  replace HBO := Lib.hid (HBO.out.later hE1)
  replace HE := Lib.hid (Ext.trans HE.out hE1)
  clear hE1 NEAR hal hsl
  have hal := HBA.out.lt
  skip
  refine X_store (off := 0) HBA.out (fun W1 hM1 hB1 => ?_); replace HE := Lib.hid (Ext.fresh HE.out hM1 (fun k hk => by subst hk; omega)); replace HBS := Lib.hid (HBS.out.mod hM1 (fun h => by omega)); replace HBO := Lib.hid (HBO.out.mod hM1 (fun h => by omega)); replace HBA := Lib.hid hB1; clear hM1 hB1
  replace HBA := Lib.hid (HBA.out.congr (g' := aenc a' (.slice A4 a'.view.isr.length c4) (.slice A5 a'.reply.entries.length c5) (.slice A6 a'.list.length c6)) (all27 ⟨rfl, rfl, rfl, rfl, rfl, rfl, rfl, rfl, rfl, rfl, rfl, rfl, rfl, rfl, rfl, rfl, rfl, rfl, rfl, rfl, rfl, rfl, rfl, rfl, rfl, rfl, rfl⟩))
  clear hal
  obtain ⟨hlt, d0, d1, d2, d3, d4, d5, d6, d7, d8, d9, d10⟩ := fcells HBS.out
  have hal := HBA.out.lt
  have e0 := HBA.out.cell (k := 0) (by omega)
  change World.cell? _ _ = some (.int .i64 a'.kind) at e0
  have e18 := HBA.out.cell (k := 18) (by omega)
  change World.cell? _ _ = some (.int .i64 a'.reply.epoch) at e18
  have e19 := HBA.out.cell (k := 19) (by omega)
  change World.cell? _ _ = some (.int .i64 a'.reply.base) at e19
  have e20 := HBA.out.cell (k := 20) (by omega)
  change World.cell? _ _ = some (.int .i64 a'.reply.last) at e20
  have e21 := HBA.out.cell (k := 21) (by omega)
  change World.cell? _ _ = some (.bool a'.reply.cut) at e21
  have e22 := HBA.out.cell (k := 22) (by omega)
  change World.cell? _ _ = some (.int .i64 a'.reply.cutEpoch) at e22
  have e23 := HBA.out.cell (k := 23) (by omega)
  change World.cell? _ _ = some (.int .i64 a'.reply.cutEnd) at e23
  have e24 := HBA.out.cell (k := 24) (by omega)
  change World.cell? _ _ = some (.slice A5 a'.reply.entries.length c5) at e24
  have e25 := HBA.out.cell (k := 25) (by omega)
  change World.cell? _ _ = some (.int .i64 a'.reply.high) at e25
  rw [hka] at e0
  have hbol := HBO.out.lt
  have hEW := HE.out.size
  have HGG := Lib.hid HG.out.good
  repeat' (first | refine X_q ?_ | refine X_nil ?_ | refine W_seqk (fun K hK => ?_) | refine W_seqr ?_ | refine W_block ?_ | refine W_tt ?_ | refine W_ff ?_ | go_step)
  refine X_fload HBS.out ?_ (hu := Tryz.underlying33)
  repeat' (first | refine X_q ?_ | fail)
  refine X_ret Tryz.func42 (take11_calls (N := fun k => F k ∨ X k ∨ k = b6) (p := a'.reply) (fun k hk => hk.elim (fun h => by have := HFW.out k h; omega) (fun h => h.elim (fun h => by have := HXW.out k h; omega) (fun h => by omega))) (HVN.out.later HE.out) HGG.out.len HGG.out.may (HAN.out.later HE.out).re.rd (by have := HEN.out; omega)) (fun r w1 hR => ?_)
  obtain ⟨hE1, v1, rfl, oL, oI, oC, rfl, hVO⟩ := hR
  obtain ⟨B1, x1, rfl, -⟩ := hVO.rl.ent
  obtain ⟨B2, x2, rfl, -⟩ := hVO.ri.int
  obtain ⟨B3, x3, rfl, -⟩ := hVO.rc.int
  have HE1 := Lib.hid (Ext.trans HE.out hE1)
  have HVO := Lib.hid hVO
  replace HBS := Lib.hid (HBS.out.later hE1)
  replace HBA := Lib.hid (HBA.out.later hE1)
  replace HBO := Lib.hid (HBO.out.later hE1)
  clear hE1 hVO HE hbol hEW e0 e18 e19 e20 e21 e22 e23 e24 e25 hal
  clear hlt d0 d1 d2 d3 d4 d5 d6 d7 d8 d9 d10
  have HE := Lib.hid (Ext.refl w1)
  have hbol := HBO.out.lt
  have hEW := HE1.out.size
  have h61 := HBO.out.lt
  have hal := HBA.out.lt
  have e18 := HBA.out.cell (k := 18) (by omega)
  change World.cell? _ _ = some (.int .i64 a'.reply.epoch) at e18
  have e19 := HBA.out.cell (k := 19) (by omega)
  change World.cell? _ _ = some (.int .i64 a'.reply.base) at e19
  have e20 := HBA.out.cell (k := 20) (by omega)
  change World.cell? _ _ = some (.int .i64 a'.reply.last) at e20
  have e21 := HBA.out.cell (k := 21) (by omega)
  change World.cell? _ _ = some (.bool a'.reply.cut) at e21
  have e22 := HBA.out.cell (k := 22) (by omega)
  change World.cell? _ _ = some (.int .i64 a'.reply.cutEpoch) at e22
  have e23 := HBA.out.cell (k := 23) (by omega)
  change World.cell? _ _ = some (.int .i64 a'.reply.cutEnd) at e23
  have e24 := HBA.out.cell (k := 24) (by omega)
  change World.cell? _ _ = some (.slice A5 a'.reply.entries.length c5) at e24
  have e25 := HBA.out.cell (k := 25) (by omega)
  change World.cell? _ _ = some (.int .i64 a'.reply.high) at e25
  (repeat' (first | refine X_q ?_ | fail)); (first | (refine X_var (fun yn b8 hn1 hn2 hn3 hn4 hn5 => ?_)) | (refine X_s (fun x K hK => ?_); go_simp; refine hK _ _ (Ext.alloc _ _) ?_; clear hK K; refine X_al x ?_; generalize (World.later _ x).heap.size = b8; intro yn hn1 hn2 hn3 hn4 hn5; clear x)); have HBb8 := Lib.hid (Blk.new hn5.out); have HEb8 := Lib.hid yn.ext; have hlb8 : (World.heap w1).size ≤ b8 := hn1; generalize World.later w1 yn = W8 at *; clear hn1 hn2 hn3 hn4 hn5 yn
  have HBT := Lib.hid (fbox2 HBb8.out)
  replace HE := Lib.hid (HEb8.out)
  replace HBS := Lib.hid (HBS.out.later HEb8.out)
  replace HBA := Lib.hid (HBA.out.later HEb8.out)
  replace HBO := Lib.hid (HBO.out.later HEb8.out)
  clear HBb8 HEb8
  clear hbol
  clear hal e18 e19 e20 e21 e22 e23 e24 e25

  have hal := HBA.out.lt
  have e18 := HBA.out.cell (k := 18) (by omega)
  change World.cell? _ _ = some (.int .i64 a'.reply.epoch) at e18
  have e19 := HBA.out.cell (k := 19) (by omega)
  change World.cell? _ _ = some (.int .i64 a'.reply.base) at e19
  have e20 := HBA.out.cell (k := 20) (by omega)
  change World.cell? _ _ = some (.int .i64 a'.reply.last) at e20
  have e21 := HBA.out.cell (k := 21) (by omega)
  change World.cell? _ _ = some (.bool a'.reply.cut) at e21
  have e22 := HBA.out.cell (k := 22) (by omega)
  change World.cell? _ _ = some (.int .i64 a'.reply.cutEpoch) at e22
  have e23 := HBA.out.cell (k := 23) (by omega)
  change World.cell? _ _ = some (.int .i64 a'.reply.cutEnd) at e23
  have e24 := HBA.out.cell (k := 24) (by omega)
  change World.cell? _ _ = some (.slice A5 a'.reply.entries.length c5) at e24
  have e25 := HBA.out.cell (k := 25) (by omega)
  change World.cell? _ _ = some (.int .i64 a'.reply.high) at e25
  have hbol := HBO.out.lt
  have h8l := HBT.out.lt
  repeat' (first | refine X_q ?_ | refine X_nil ?_ | refine W_seqk (fun K hK => ?_) | go_step)
  obtain ⟨G, hG⟩ : ∃ G : Nat → Prop, G = (fun k => F k ∨ k = b6) := ⟨_, rfl⟩
  have HGo : Hid (G b6) := Lib.hid (by subst hG; exact .inr rfl)
  have HFG : Hid (∀ k, F k → G k) := Lib.hid (fun k hk => by subst hG; exact .inl hk)
  have hG4 : ¬ G b4 := (by subst hG; rintro (h | h); (have := HFW.out _ h; omega); omega)
  have hG5 : ¬ G b5 := (by subst hG; rintro (h | h); (have := HFW.out _ h; omega); omega)
  have hG8 : ¬ G b8 := (by subst hG; rintro (h | h); (have := HFW.out _ h; omega); omega)
  clear hG
  refine W_drawG G [(0, 0), (1, 0), (2, 0), (3, 3), (5, 0), (4, 1), (6, 0), (7, 2), (8, 0)] (by kernel_rfl) (by kernel_rfl) ?_
  refine Y_fload HBT.out hG8 ?_ (hu := Tryz.underlying33)
  repeat' (first | refine Y_q ?_ | refine Y_r ?_ | fail)
  refine Y_ret Tryz.func27 (R := ProgR F b (s.take a'.reply) (· = .int .i64 (s.takeNo a'.reply)) _) (fun x => prog_ret x (take_rep (p := a'.reply) ((((HH.out.later HE1.out).later HE.out).later x.2).rep) HGG.out.ne HGG.out.may HGG.out.len (((HAN.out.later HE1.out).later HE.out).later x.2).re.rd (by have := HEN.out; omega)) HFG.out) (fun r w4 hR => ?_)
  obtain ⟨rfl, hM, hRp⟩ := hR
  have HMc := Lib.hid hM
  have HRc := Lib.hid hRp
  have HEC := HE
  have HBO4 := Lib.hid (HBO.out.mod hM (fun h => by have := HFW.out _ h; omega))
  clear hM hRp HBT HBA HBS
  repeat' (first | refine Y_q ?_ | fail)
  refine Y_store (off := 0) HBO4.out HGo.out (fun W5 hM5 hG5x hB5 => ?_)
  have HM5 := Lib.hid hM5
  have HB5 := Lib.hid (fput hB5)
  clear hM5 hG5x hB5
  repeat' (first | refine Y_q ?_ | refine Y_nil ?_)
  repeat' (first | refine W_ret ?_ | go_step)
  exact Body_retcellv (cs := RepS.cs (s.take a'.reply) _ _ _) hd (does_end HH.out HE1.out HEC.out HMc.out HRc.out HM5.out h6W h61 HVO.out) HB5.out (fun k hk => cs_fenc hk) Tryz.underlying33
end Go.Ws
namespace Go.Ws
open Go Go.RowKit Go.Proofs
set_option maxHeartbeats 2000000
set_option maxRecDepth 100000
set_option linter.unusedVariables false
set_option linter.unusedSimpArgs false

theorem crash_no {w : World} {b : Nat} {F : Nat → Prop} {s : RepS} (h : Rep w b F s) (hs : s.least ≠ 0) (keep : Int) (hk : keep < 0) :
    Ret Tryz.prog 19 #[.pointer (some ⟨b, 0, none⟩), .int .i64 keep] w fun r w' => r = .int .i64 2 ∧ Ext w w' := by
  have HP := Lib.hid h
  have hkb : decide (0 ≤ keep) = false := by simp; omega
  have hkn : ¬ 0 ≤ keep := by omega
  clear h
  refine Fn_ofD Tryz.func19 rfl (Nat.le_of_ble_eq_true rfl) ?_; intro A hd hA; simp only [ix, Nat.reduceAdd]; replace hA : A.tmps.size = 56 := hA
  repeat' (first | refine X_nil ?_ | refine W_seqk (fun K hK => ?_) | refine W_seqr ?_ | (refine X_s (fun x K hK => ?_); go_simp; refine hK _ _ (Ext.alloc _ _) ?_; clear hK K; refine X_al x ?_; generalize (World.later _ x).heap.size = bn; intro yn hn1 hn2 hn3 hn4 hn5; clear x) | go_step)
  refine X_defc (be := bn) hd hA (fun W hE => by unfold execOp caughtD; go_simp) ?_; have hbe := Lib.hid (Blk.one hn5.out); clear hd hA A; intro A hd hA; obtain ⟨be, hbe0⟩ : ∃ be : Nat, be = bn := ⟨_, rfl⟩; subst hbe0
  have HBE := Lib.hid hbe.out
  have hE : Ext w (w.later yn) := yn.ext
  have HE := Lib.hid hE
  have hwbe : w.heap.size ≤ be := by omega
  have HP1 := Lib.hid (HP.out.later hE)
  generalize World.later _ yn = W at *
  clear hbe hE hn1 hn2 hn3 hn4 hn5 yn
  repeat' (first | refine X_pure Tryz.func33 (none_of HP1.out hs) ?_ | (refine X_pure Tryz.func50 (must_ok 1) ?_) | refine X_q ?_ | refine X_nil ?_ | refine W_seqk (fun K hK => ?_) | refine W_seqr ?_ | go_step)
  refine X_die Tryz.func50 (must_no 2) (fun c w' hC => ?_)
  obtain ⟨rfl, hE4⟩ := hC
  refine End_no1 hd (HBE.out.later hE4) (fun W1 hM => ?_)
  exact ⟨rfl, Ext.fresh (Ext.trans HE.out hE4) hM (fun k hk => by subst hk; exact hwbe)⟩
theorem crash_rep {w : World} {b : Nat} {F : Nat → Prop} {s : RepS} (h : Rep w b F s) (hs : s.least ≠ 0) (hl : s.log.length ≤ 4096) (hf0 : 0 ≤ s.flushed) (hf1 : s.flushed ≤ s.log.length) (keep : Int) :
    Ret Tryz.prog 19 #[.pointer (some ⟨b, 0, none⟩), .int .i64 keep] w fun r w' => r = .int .i64 (s.crash keep).2 ∧ Mod F w w' ∧ Rep w' b (fun k => F k ∨ w.heap.size ≤ k) (s.crash keep).1 := by
  by_cases hk : keep < 0
  · have hc : s.crash keep = (s, 2) := by unfold RepS.crash; rw [if_pos hk]
    rw [hc]
    refine Ret.mono (crash_no h hs keep hk) fun r w' hR => ⟨hR.1, hR.2.mono (fun _ _ h => h.elim), (h.later hR.2).mono (fun k hk => .inl hk)⟩
  · have hc : (s.crash keep).2 = 0 := by unfold RepS.crash; rw [if_neg hk]
    rw [hc]
    exact crash_ok h hs hl hf0 hf1 keep (by omega)
end Go.Ws
namespace Go.Ws
open Go Go.RowKit Go.Proofs
set_option maxHeartbeats 4000000
set_option maxRecDepth 100000
set_option linter.unusedVariables false
set_option linter.unusedSimpArgs false

theorem does8_calls {w0 W : World} {b : Nat} {F X : Nat → Prop} {s : RepS} {uL uI uC vI vE vL : Value} {a : ActD} (h : HR w0 W b F s) (hg : s.Fine) (hX : ∀ k, X k → k < W.heap.size) (hv : VR (fun k => F k ∨ X k) W uL uI uC s) (ha : ActR (fun k => F k ∨ X k) W vI vE vL a) (hk : a.kind = 8) :
    Ret Tryz.prog 16 #[.pointer (some ⟨b, 0, none⟩), s.v uL uI uC, a.v vI vE vL] W fun r W' => DoesR w0 W b F X (s.step (a.atS s)) r W' := by
  have HH := Lib.hid h
  have HG := Lib.hid hg
  have HXW := Lib.hid hX
  clear hX
  have HVR := Lib.hid hv
  have HAC := Lib.hid (ha.at s)
  have NEAR : Hid (∀ W', Ext W W' → Ret Tryz.prog 35 #[a.v vI vE vL, s.v uL uI uC] W' fun r w' => Ext W' w' ∧ r = (a.atS s).v vI vE vL) := Lib.hid (fun W' hE => near_calls (hv.later hE) hg.good hg.ver (ha.later hE))
  have hka : (a.atS s).kind = 8 := (atS_kind a s).1.trans hk
  have ht : s.step (a.atS s) = (s.crash (a.atS s).n).1 := by unfold RepS.step; simp [hka]
  rw [ht]
  clear ht
  obtain ⟨A1, c1, rfl, -⟩ := hv.rl.rd.ent
  obtain ⟨A2, c2, rfl, -⟩ := hv.ri.rd.int
  obtain ⟨A3, c3, rfl, -⟩ := hv.rc.rd.int
  clear h hg hv ha hk
  generalize a.atS s = a' at *
  obtain ⟨A4, c4, rfl, -⟩ := HAC.out.ri.int
  obtain ⟨A5, c5, rfl, -⟩ := HAC.out.re.ent
  obtain ⟨A6, c6, rfl, -⟩ := HAC.out.rl.int
  refine Fn_of Tryz.func16 rfl (Nat.le_of_ble_eq_true rfl) ?_; intro A hd hA; simp only [ix, Nat.reduceAdd]; replace hA : A.tmps.size = 268 := hA
  (repeat' (first | refine W_seqk (fun K hK => ?_) | refine W_seqr ?_ | fail)); (first | (refine X_var (fun yn b4 hn1 hn2 hn3 hn4 hn5 => ?_)) | (refine X_s (fun x K hK => ?_); go_simp; refine hK _ _ (Ext.alloc _ _) ?_; clear hK K; refine X_al x ?_; generalize (World.later _ x).heap.size = b4; intro yn hn1 hn2 hn3 hn4 hn5; clear x)); have HBb4 := Lib.hid (Blk.new hn5.out); have HEb4 := Lib.hid yn.ext; have hlb4 : (World.heap W).size ≤ b4 := hn1; generalize World.later W yn = W0 at *; clear hn1 hn2 hn3 hn4 hn5 yn
  (skip); (first | (refine X_var (fun yn b5 hn1 hn2 hn3 hn4 hn5 => ?_)) | (refine X_s (fun x K hK => ?_); go_simp; refine hK _ _ (Ext.alloc _ _) ?_; clear hK K; refine X_al x ?_; generalize (World.later _ x).heap.size = b5; intro yn hn1 hn2 hn3 hn4 hn5; clear x)); have HBb5 := Lib.hid (Blk.new hn5.out); have HEb5 := Lib.hid yn.ext; have hlb5 : (World.heap W0).size ≤ b5 := hn1; generalize World.later W0 yn = W1 at *; clear hn1 hn2 hn3 hn4 hn5 yn
  (skip); (first | (refine X_var (fun yn b6 hn1 hn2 hn3 hn4 hn5 => ?_)) | (refine X_s (fun x K hK => ?_); go_simp; refine hK _ _ (Ext.alloc _ _) ?_; clear hK K; refine X_al x ?_; generalize (World.later _ x).heap.size = b6; intro yn hn1 hn2 hn3 hn4 hn5; clear x)); have HBb6 := Lib.hid (Blk.new hn5.out); have HEb6 := Lib.hid yn.ext; have hlb6 : (World.heap W1).size ≤ b6 := hn1; generalize World.later W1 yn = W2 at *; clear hn1 hn2 hn3 hn4 hn5 yn
  have HBS := Lib.hid ((fbox2 HBb4.out).later (Ext.trans HEb5.out HEb6.out))
  have HBA : Hid (Blk W2 b5 51 27 (aenc a (.slice A4 a'.view.isr.length c4) (.slice A5 a'.reply.entries.length c5) (.slice A6 a'.list.length c6))) := Lib.hid ((HBb5.out.later HEb6.out).congr (fun k hk => rfl))
  have HBO := HBb6
  have HE := Lib.hid (Ext.trans (Ext.trans HEb4.out HEb5.out) HEb6.out)
  have hbb : b4 < b5 := by have := HBb4.out.lt; omega
  have hbb2 : b5 < b6 := by have := HBb5.out.lt; omega
  have hs0 := HEb4.out.size
  have hs1 := HEb5.out.size
  have h6W : W.heap.size ≤ b6 := by omega
  clear HBb4 HBb5 HBb6 HEb4 HEb5 HEb6
  have HFW : Hid (∀ k, F k → k < W.heap.size) := Lib.hid (fun k hk => (HH.out.hi k hk).2)
  have HVN := Lib.hid (HVR.out.wide (N' := fun k => F k ∨ X k ∨ k = b6) (fun k hk => hk.elim (fun h => .inl (.inl h)) (fun h => h.elim (fun h => .inl (.inr h)) (fun e => .inr (by subst e; exact h6W)))))
  have HAN := Lib.hid (HAC.out.wide (N' := fun k => F k ∨ X k ∨ k = b6) (fun k hk => hk.elim (fun h => .inl (.inl h)) (fun h => h.elim (fun h => .inl (.inr h)) (fun e => .inr (by subst e; exact h6W)))))
  clear HVR HAC
  have hal := HBA.out.lt
  have hsl := HBS.out.lt
  repeat' (first | refine X_q ?_ | refine X_nil ?_ | refine W_seqk (fun K hK => ?_) | refine W_seqr ?_ | go_step)
  refine X_aload HBA.out ?_ (hu := Tryz.underlying51)
  skip
  refine X_fload HBS.out ?_ (hu := Tryz.underlying33)
  skip
  refine X_ret Tryz.func35 (NEAR.out _ HE.out) (fun r w1 hR => ?_)
  obtain ⟨hE1, rfl⟩ := hR
  replace HBS := Lib.hid (HBS.out.later hE1)
  replace HBA := Lib.hid (HBA.out.later hE1)
  replace HBO := Lib.hid (HBO.out.later hE1)
  replace HE := Lib.hid (Ext.trans HE.out hE1)
  clear hE1 NEAR hal hsl
  have hal := HBA.out.lt
  skip
  refine X_store (off := 0) HBA.out (fun W1 hM1 hB1 => ?_); replace HE := Lib.hid (Ext.fresh HE.out hM1 (fun k hk => by subst hk; omega)); replace HBS := Lib.hid (HBS.out.mod hM1 (fun h => by omega)); replace HBO := Lib.hid (HBO.out.mod hM1 (fun h => by omega)); replace HBA := Lib.hid hB1; clear hM1 hB1
  replace HBA := Lib.hid (HBA.out.congr (g' := aenc a' (.slice A4 a'.view.isr.length c4) (.slice A5 a'.reply.entries.length c5) (.slice A6 a'.list.length c6)) (all27 ⟨rfl, rfl, rfl, rfl, rfl, rfl, rfl, rfl, rfl, rfl, rfl, rfl, rfl, rfl, rfl, rfl, rfl, rfl, rfl, rfl, rfl, rfl, rfl, rfl, rfl, rfl, rfl⟩))
  clear hal
  obtain ⟨hlt, d0, d1, d2, d3, d4, d5, d6, d7, d8, d9, d10⟩ := fcells HBS.out
  have hal := HBA.out.lt
  have e0 := HBA.out.cell (k := 0) (by omega)
  change World.cell? _ _ = some (.int .i64 a'.kind) at e0
  have e1 := HBA.out.cell (k := 1) (by omega)
  change World.cell? _ _ = some (.int .i64 a'.n) at e1
  rw [hka] at e0
  have hbol := HBO.out.lt
  have hEW := HE.out.size
  have HGG := Lib.hid HG.out.good
  repeat' (first | refine X_q ?_ | refine X_nil ?_ | refine W_seqk (fun K hK => ?_) | refine W_seqr ?_ | refine W_block ?_ | refine W_tt ?_ | refine W_ff ?_ | go_step)
  refine X_fload HBS.out ?_ (hu := Tryz.underlying33)
  repeat' (first | refine X_q ?_ | fail)
  refine X_ret Tryz.func44 (crash11_calls (N := fun k => F k ∨ X k ∨ k = b6) (HVN.out.later HE.out) HGG.out.len HGG.out.fl.1 HGG.out.fl.2 a'.n) (fun r w1 hR => ?_)
  obtain ⟨hE1, v1, rfl, oL, oI, oC, rfl, hVO⟩ := hR
  obtain ⟨B1, x1, rfl, -⟩ := hVO.rl.ent
  obtain ⟨B2, x2, rfl, -⟩ := hVO.ri.int
  obtain ⟨B3, x3, rfl, -⟩ := hVO.rc.int
  have HE1 := Lib.hid (Ext.trans HE.out hE1)
  have HVO := Lib.hid hVO
  replace HBS := Lib.hid (HBS.out.later hE1)
  replace HBA := Lib.hid (HBA.out.later hE1)
  replace HBO := Lib.hid (HBO.out.later hE1)
  clear hE1 hVO HE hbol hEW e0 e1 hal
  clear hlt d0 d1 d2 d3 d4 d5 d6 d7 d8 d9 d10
  have HE := Lib.hid (Ext.refl w1)
  have hbol := HBO.out.lt
  have hEW := HE1.out.size
  have h61 := HBO.out.lt
  have hal := HBA.out.lt
  have e1 := HBA.out.cell (k := 1) (by omega)
  change World.cell? _ _ = some (.int .i64 a'.n) at e1
  (repeat' (first | refine X_q ?_ | fail)); (first | (refine X_var (fun yn b8 hn1 hn2 hn3 hn4 hn5 => ?_)) | (refine X_s (fun x K hK => ?_); go_simp; refine hK _ _ (Ext.alloc _ _) ?_; clear hK K; refine X_al x ?_; generalize (World.later _ x).heap.size = b8; intro yn hn1 hn2 hn3 hn4 hn5; clear x)); have HBb8 := Lib.hid (Blk.new hn5.out); have HEb8 := Lib.hid yn.ext; have hlb8 : (World.heap w1).size ≤ b8 := hn1; generalize World.later w1 yn = W8 at *; clear hn1 hn2 hn3 hn4 hn5 yn
  have HBT := Lib.hid (fbox2 HBb8.out)
  replace HE := Lib.hid (HEb8.out)
  replace HBS := Lib.hid (HBS.out.later HEb8.out)
  replace HBA := Lib.hid (HBA.out.later HEb8.out)
  replace HBO := Lib.hid (HBO.out.later HEb8.out)
  clear HBb8 HEb8
  clear hbol
  clear hal e1

  have hal := HBA.out.lt
  have e1 := HBA.out.cell (k := 1) (by omega)
  change World.cell? _ _ = some (.int .i64 a'.n) at e1
  have hbol := HBO.out.lt
  have h8l := HBT.out.lt
  repeat' (first | refine X_q ?_ | refine X_nil ?_ | refine W_seqk (fun K hK => ?_) | go_step)
  obtain ⟨G, hG⟩ : ∃ G : Nat → Prop, G = (fun k => F k ∨ k = b6) := ⟨_, rfl⟩
  have HGo : Hid (G b6) := Lib.hid (by subst hG; exact .inr rfl)
  have HFG : Hid (∀ k, F k → G k) := Lib.hid (fun k hk => by subst hG; exact .inl hk)
  have hG4 : ¬ G b4 := (by subst hG; rintro (h | h); (have := HFW.out _ h; omega); omega)
  have hG5 : ¬ G b5 := (by subst hG; rintro (h | h); (have := HFW.out _ h; omega); omega)
  have hG8 : ¬ G b8 := (by subst hG; rintro (h | h); (have := HFW.out _ h; omega); omega)
  clear hG
  refine W_drawG G [(0, 0), (1, 0), (2, 0), (3, 3), (5, 0), (4, 1), (6, 0), (7, 2), (8, 0)] (by kernel_rfl) (by kernel_rfl) ?_
  refine Y_fload HBT.out hG8 ?_ (hu := Tryz.underlying33)
  repeat' (first | refine Y_q ?_ | refine Y_r ?_ | fail)
  refine Y_ret Tryz.func19 (R := ProgR F b ((s.crash a'.n).1) (· = .int .i64 ((s.crash a'.n).2)) _) (fun x => prog_ret x (crash_rep ((((HH.out.later HE1.out).later HE.out).later x.2).rep) HGG.out.ne HGG.out.len HGG.out.fl.1 HGG.out.fl.2 a'.n) HFG.out) (fun r w4 hR => ?_)
  obtain ⟨rfl, hM, hRp⟩ := hR
  have HMc := Lib.hid hM
  have HRc := Lib.hid hRp
  have HEC := HE
  have HBO4 := Lib.hid (HBO.out.mod hM (fun h => by have := HFW.out _ h; omega))
  clear hM hRp HBT HBA HBS
  repeat' (first | refine Y_q ?_ | fail)
  refine Y_store (off := 0) HBO4.out HGo.out (fun W5 hM5 hG5x hB5 => ?_)
  have HM5 := Lib.hid hM5
  have HB5 := Lib.hid (fput hB5)
  clear hM5 hG5x hB5
  repeat' (first | refine Y_q ?_ | refine Y_nil ?_)
  repeat' (first | refine W_ret ?_ | go_step)
  exact Body_retcellv (cs := RepS.cs ((s.crash a'.n).1) _ _ _) hd (does_end HH.out HE1.out HEC.out HMc.out HRc.out HM5.out h6W h61 HVO.out) HB5.out (fun k hk => cs_fenc hk) Tryz.underlying33
end Go.Ws
namespace Go.Ws
open Go Go.RowKit Go.Proofs
set_option maxHeartbeats 4000000
set_option maxRecDepth 100000
set_option linter.unusedVariables false
set_option linter.unusedSimpArgs false

theorem does9_calls {w0 W : World} {b : Nat} {F X : Nat → Prop} {s : RepS} {uL uI uC vI vE vL : Value} {a : ActD} (h : HR w0 W b F s) (hg : s.Fine) (hX : ∀ k, X k → k < W.heap.size) (hv : VR (fun k => F k ∨ X k) W uL uI uC s) (ha : ActR (fun k => F k ∨ X k) W vI vE vL a) (hk : a.kind = 9) :
    Ret Tryz.prog 16 #[.pointer (some ⟨b, 0, none⟩), s.v uL uI uC, a.v vI vE vL] W fun r W' => DoesR w0 W b F X (s.step (a.atS s)) r W' := by
  have HH := Lib.hid h
  have HG := Lib.hid hg
  have HXW := Lib.hid hX
  clear hX
  have HVR := Lib.hid hv
  have HAC := Lib.hid (ha.at s)
  have NEAR : Hid (∀ W', Ext W W' → Ret Tryz.prog 35 #[a.v vI vE vL, s.v uL uI uC] W' fun r w' => Ext W' w' ∧ r = (a.atS s).v vI vE vL) := Lib.hid (fun W' hE => near_calls (hv.later hE) hg.good hg.ver (ha.later hE))
  have hka : (a.atS s).kind = 9 := (atS_kind a s).1.trans hk
  have ht : s.step (a.atS s) = s := by unfold RepS.step; simp [hka]
  rw [ht]
  clear ht
  obtain ⟨A1, c1, rfl, -⟩ := hv.rl.rd.ent
  obtain ⟨A2, c2, rfl, -⟩ := hv.ri.rd.int
  obtain ⟨A3, c3, rfl, -⟩ := hv.rc.rd.int
  clear h hg hv ha hk
  generalize a.atS s = a' at *
  obtain ⟨A4, c4, rfl, -⟩ := HAC.out.ri.int
  obtain ⟨A5, c5, rfl, -⟩ := HAC.out.re.ent
  obtain ⟨A6, c6, rfl, -⟩ := HAC.out.rl.int
  refine Fn_of Tryz.func16 rfl (Nat.le_of_ble_eq_true rfl) ?_; intro A hd hA; simp only [ix, Nat.reduceAdd]; replace hA : A.tmps.size = 268 := hA
  (repeat' (first | refine W_seqk (fun K hK => ?_) | refine W_seqr ?_ | fail)); (first | (refine X_var (fun yn b4 hn1 hn2 hn3 hn4 hn5 => ?_)) | (refine X_s (fun x K hK => ?_); go_simp; refine hK _ _ (Ext.alloc _ _) ?_; clear hK K; refine X_al x ?_; generalize (World.later _ x).heap.size = b4; intro yn hn1 hn2 hn3 hn4 hn5; clear x)); have HBb4 := Lib.hid (Blk.new hn5.out); have HEb4 := Lib.hid yn.ext; have hlb4 : (World.heap W).size ≤ b4 := hn1; generalize World.later W yn = W0 at *; clear hn1 hn2 hn3 hn4 hn5 yn
  (skip); (first | (refine X_var (fun yn b5 hn1 hn2 hn3 hn4 hn5 => ?_)) | (refine X_s (fun x K hK => ?_); go_simp; refine hK _ _ (Ext.alloc _ _) ?_; clear hK K; refine X_al x ?_; generalize (World.later _ x).heap.size = b5; intro yn hn1 hn2 hn3 hn4 hn5; clear x)); have HBb5 := Lib.hid (Blk.new hn5.out); have HEb5 := Lib.hid yn.ext; have hlb5 : (World.heap W0).size ≤ b5 := hn1; generalize World.later W0 yn = W1 at *; clear hn1 hn2 hn3 hn4 hn5 yn
  (skip); (first | (refine X_var (fun yn b6 hn1 hn2 hn3 hn4 hn5 => ?_)) | (refine X_s (fun x K hK => ?_); go_simp; refine hK _ _ (Ext.alloc _ _) ?_; clear hK K; refine X_al x ?_; generalize (World.later _ x).heap.size = b6; intro yn hn1 hn2 hn3 hn4 hn5; clear x)); have HBb6 := Lib.hid (Blk.new hn5.out); have HEb6 := Lib.hid yn.ext; have hlb6 : (World.heap W1).size ≤ b6 := hn1; generalize World.later W1 yn = W2 at *; clear hn1 hn2 hn3 hn4 hn5 yn
  have HBS := Lib.hid ((fbox2 HBb4.out).later (Ext.trans HEb5.out HEb6.out))
  have HBA : Hid (Blk W2 b5 51 27 (aenc a (.slice A4 a'.view.isr.length c4) (.slice A5 a'.reply.entries.length c5) (.slice A6 a'.list.length c6))) := Lib.hid ((HBb5.out.later HEb6.out).congr (fun k hk => rfl))
  have HBO := HBb6
  have HE := Lib.hid (Ext.trans (Ext.trans HEb4.out HEb5.out) HEb6.out)
  have hbb : b4 < b5 := by have := HBb4.out.lt; omega
  have hbb2 : b5 < b6 := by have := HBb5.out.lt; omega
  have hs0 := HEb4.out.size
  have hs1 := HEb5.out.size
  have h6W : W.heap.size ≤ b6 := by omega
  clear HBb4 HBb5 HBb6 HEb4 HEb5 HEb6
  have HFW : Hid (∀ k, F k → k < W.heap.size) := Lib.hid (fun k hk => (HH.out.hi k hk).2)
  have HVN := Lib.hid (HVR.out.wide (N' := fun k => F k ∨ X k ∨ k = b6) (fun k hk => hk.elim (fun h => .inl (.inl h)) (fun h => h.elim (fun h => .inl (.inr h)) (fun e => .inr (by subst e; exact h6W)))))
  have HAN := Lib.hid (HAC.out.wide (N' := fun k => F k ∨ X k ∨ k = b6) (fun k hk => hk.elim (fun h => .inl (.inl h)) (fun h => h.elim (fun h => .inl (.inr h)) (fun e => .inr (by subst e; exact h6W)))))
  clear HVR HAC
  have hal := HBA.out.lt
  have hsl := HBS.out.lt
  repeat' (first | refine X_q ?_ | refine X_nil ?_ | refine W_seqk (fun K hK => ?_) | refine W_seqr ?_ | go_step)
  refine X_aload HBA.out ?_ (hu := Tryz.underlying51)
  skip
  refine X_fload HBS.out ?_ (hu := Tryz.underlying33)
  skip
  refine X_ret Tryz.func35 (NEAR.out _ HE.out) (fun r w1 hR => ?_)
  obtain ⟨hE1, rfl⟩ := hR
  replace HBS := Lib.hid (HBS.out.later hE1)
  replace HBA := Lib.hid (HBA.out.later hE1)
  replace HBO := Lib.hid (HBO.out.later hE1)
  replace HE := Lib.hid (Ext.trans HE.out hE1)
  clear hE1 NEAR hal hsl
  have hal := HBA.out.lt
  skip
  refine X_store (off := 0) HBA.out (fun W1 hM1 hB1 => ?_); replace HE := Lib.hid (Ext.fresh HE.out hM1 (fun k hk => by subst hk; omega)); replace HBS := Lib.hid (HBS.out.mod hM1 (fun h => by omega)); replace HBO := Lib.hid (HBO.out.mod hM1 (fun h => by omega)); replace HBA := Lib.hid hB1; clear hM1 hB1
  replace HBA := Lib.hid (HBA.out.congr (g' := aenc a' (.slice A4 a'.view.isr.length c4) (.slice A5 a'.reply.entries.length c5) (.slice A6 a'.list.length c6)) (all27 ⟨rfl, rfl, rfl, rfl, rfl, rfl, rfl, rfl, rfl, rfl, rfl, rfl, rfl, rfl, rfl, rfl, rfl, rfl, rfl, rfl, rfl, rfl, rfl, rfl, rfl, rfl, rfl⟩))
  clear hal
  obtain ⟨hlt, d0, d1, d2, d3, d4, d5, d6, d7, d8, d9, d10⟩ := fcells HBS.out
  have hal := HBA.out.lt
  have e0 := HBA.out.cell (k := 0) (by omega)
  change World.cell? _ _ = some (.int .i64 a'.kind) at e0
  have e8 := HBA.out.cell (k := 8) (by omega)
  change World.cell? _ _ = some (.int .i64 a'.ent.id) at e8
  have e9 := HBA.out.cell (k := 9) (by omega)
  change World.cell? _ _ = some (.int .i64 a'.ent.num) at e9
  have e10 := HBA.out.cell (k := 10) (by omega)
  change World.cell? _ _ = some (.int .i64 a'.ent.seq) at e10
  rw [hka] at e0
  have hbol := HBO.out.lt
  have hEW := HE.out.size
  have HGG := Lib.hid HG.out.good
  repeat' (first | refine X_q ?_ | refine X_nil ?_ | refine W_seqk (fun K hK => ?_) | refine W_seqr ?_ | refine W_block ?_ | refine W_tt ?_ | refine W_ff ?_ | go_step)
  by_cases hr : s.role = 3
  · have hrb : (s.role != 3) = false := by simp [hr]
    have HR3 := Lib.hid hr
    clear hr
    have HE1 := HE
    have HVO := Lib.hid (HVN.out.later HE.out)
    replace HE := Lib.hid (Ext.refl W1)
    have h61 := HBO.out.lt
    skip
    refine X_ret Tryz.func25 (has_ok (((HH.out.later HE1.out).later HE.out).rep) HGG.out.ne HR3.out HGG.out.hi.1 HGG.out.hi.2 _ _ _) (fun r w4 hR => ?_)
    obtain ⟨rfl, hE9⟩ := hR
    obtain ⟨hM, hRp⟩ : Mod F _ _ ∧ Rep _ b (fun k => F k ∨ W1.heap.size ≤ k) s := ⟨hE9.mono (fun _ _ h => h.elim), ((((HH.out.later HE1.out).later HE.out).later hE9).rep).mono (fun k hk => .inl hk)⟩
    have HMc := Lib.hid hM
    have HRc := Lib.hid hRp
    have HEC := HE
    clear hM hRp
    replace HBS := Lib.hid (HBS.out.later hE9)
    replace HBA := Lib.hid (HBA.out.later hE9)
    replace HBO4 := Lib.hid (HBO.out.later hE9)
    have HE4 := Lib.hid (Ext.trans HE1.out hE9)
    clear hE9 hbol e0
    clear hal e8 e9 e10
    clear hlt d0 d1 d2 d3 d4 d5 d6 d7 d8 d9 d10
    have hal := HBA.out.lt
    have e8 := HBA.out.cell (k := 8) (by omega)
    change World.cell? _ _ = some (.int .i64 a'.ent.id) at e8
    have e9 := HBA.out.cell (k := 9) (by omega)
    change World.cell? _ _ = some (.int .i64 a'.ent.num) at e9
    have e10 := HBA.out.cell (k := 10) (by omega)
    change World.cell? _ _ = some (.int .i64 a'.ent.seq) at e10
    have hbol := HBO4.out.lt
    obtain ⟨hlt, d0, d1, d2, d3, d4, d5, d6, d7, d8, d9, d10⟩ := fcells HBS.out
    repeat' (first | refine X_q ?_ | refine X_nil ?_ | refine W_seqk (fun K hK => ?_) | refine W_seqr ?_ | refine W_skip ?_ | refine W_ff ?_ | go_step)
    obtain ⟨G, hG⟩ : ∃ G : Nat → Prop, G = (fun k => k = b6) := ⟨_, rfl⟩; have HGo : Hid (G b6) := Lib.hid (by subst hG; rfl); have hGb4 : ¬ G b4 := (by subst hG; show ¬ b4 = b6; omega); have hGb5 : ¬ G b5 := (by subst hG; show ¬ b5 = b6; omega); clear hG
    refine W_drawG G [(0, 0), (1, 0), (2, 3), (3, 0), (4, 0), (5, 3), (6, 0), (7, 0), (8, 3), (9, 0), (10, 0), (11, 3), (12, 1), (13, 0), (14, 0), (15, 0), (16, 0), (17, 0), (18, 2), (19, 0)] (by kernel_rfl) (by kernel_rfl) ?_
    (first | refine Y_floadr HBS.out ?_ (hu := Tryz.underlying33) | refine Y_fload HBS.out hGb4 ?_ (hu := Tryz.underlying33))
    repeat' (first | refine Y_q ?_ | fail)
    (first | refine Y_floadr HBS.out ?_ (hu := Tryz.underlying33) | refine Y_fload HBS.out hGb4 ?_ (hu := Tryz.underlying33))
    repeat' (first | refine Y_q ?_ | refine Y_r ?_ | fail)
    refine Y_pure Tryz.func45 (fun x => has11_calls (HVN.out.later (Ext.trans HE4.out x.ext)) HGG.out.len HGG.out.hi.1 HGG.out.hi.2 _ _ _) ?_
    repeat' (first | refine Y_gt ?_ | refine Y_q ?_ | fail)
    refine Y_store (off := 0) HBO4.out HGo.out (fun W5 hM5 hG5x hB5 => ?_)
    have HM5 := Lib.hid hM5
    have HB5 := Lib.hid (fput hB5)
    clear hM5 hG5x hB5
    repeat' (first | refine Y_q ?_ | refine Y_nil ?_)
    repeat' (first | refine W_ret ?_ | go_step)
    exact Body_retcellv (cs := RepS.cs (s) _ _ _) hd (does_end HH.out HE1.out HEC.out HMc.out HRc.out HM5.out h6W h61 HVO.out) HB5.out (fun k hk => cs_fenc hk) Tryz.underlying33
  · have hrb : (s.role != 3) = true := by simp [hr]
    have HR3 := Lib.hid hr
    clear hr
    have HE1 := HE
    have HVO := Lib.hid (HVN.out.later HE.out)
    replace HE := Lib.hid (Ext.refl W1)
    have h61 := HBO.out.lt
    skip
    refine X_ret Tryz.func25 (has_no (((HH.out.later HE1.out).later HE.out).rep) HGG.out.ne HR3.out _ _ _) (fun r w4 hR => ?_)
    obtain ⟨rfl, hE9⟩ := hR
    obtain ⟨hM, hRp⟩ : Mod F _ _ ∧ Rep _ b (fun k => F k ∨ W1.heap.size ≤ k) s := ⟨hE9.mono (fun _ _ h => h.elim), ((((HH.out.later HE1.out).later HE.out).later hE9).rep).mono (fun k hk => .inl hk)⟩
    have HMc := Lib.hid hM
    have HRc := Lib.hid hRp
    have HEC := HE
    clear hM hRp
    replace HBS := Lib.hid (HBS.out.later hE9)
    replace HBA := Lib.hid (HBA.out.later hE9)
    replace HBO4 := Lib.hid (HBO.out.later hE9)
    have HE4 := Lib.hid (Ext.trans HE1.out hE9)
    clear hE9 hbol e0
    clear hal e8 e9 e10
    clear hlt d0 d1 d2 d3 d4 d5 d6 d7 d8 d9 d10
    have hal := HBA.out.lt
    have e8 := HBA.out.cell (k := 8) (by omega)
    change World.cell? _ _ = some (.int .i64 a'.ent.id) at e8
    have e9 := HBA.out.cell (k := 9) (by omega)
    change World.cell? _ _ = some (.int .i64 a'.ent.num) at e9
    have e10 := HBA.out.cell (k := 10) (by omega)
    change World.cell? _ _ = some (.int .i64 a'.ent.seq) at e10
    have hbol := HBO4.out.lt
    obtain ⟨hlt, d0, d1, d2, d3, d4, d5, d6, d7, d8, d9, d10⟩ := fcells HBS.out
    repeat' (first | refine X_q ?_ | refine X_nil ?_ | refine W_seqk (fun K hK => ?_) | refine W_seqr ?_ | refine W_tt ?_ | go_step)
    refine X_fload HBS.out ?_ (hu := Tryz.underlying33)
    repeat' (first | refine X_gt ?_ | refine X_q ?_ | fail)
    refine X_store (off := 0) HBO4.out (fun W5 hM5 hB5 => ?_)
    have HM5 := Lib.hid hM5
    have HB5 := Lib.hid (fput hB5)
    clear hM5 hB5
    repeat' (first | refine X_q ?_ | refine X_nil ?_ | refine W_ret ?_ | go_step)
    exact Body_retcellv (cs := RepS.cs (s) _ _ _) hd (does_end HH.out HE1.out HEC.out HMc.out HRc.out HM5.out h6W h61 HVO.out) HB5.out (fun k hk => cs_fenc hk) Tryz.underlying33
end Go.Ws

namespace Go.Ws
open Go Go.RowKit Go.Proofs
set_option maxHeartbeats 4000000
set_option maxRecDepth 100000
set_option linter.unusedVariables false
set_option linter.unusedSimpArgs false

theorem does0_calls {w0 W : World} {b : Nat} {F X : Nat → Prop} {s : RepS} {uL uI uC vI vE vL : Value} {a : ActD} (h : HR w0 W b F s) (hg : s.Fine) (hX : ∀ k, X k → k < W.heap.size) (hv : VR (fun k => F k ∨ X k) W uL uI uC s) (ha : ActR (fun k => F k ∨ X k) W vI vE vL a) (hk : a.kind ∉ [1, 2, 3, 4, 5, 6, 7, 8, 9]) :
    Ret Tryz.prog 16 #[.pointer (some ⟨b, 0, none⟩), s.v uL uI uC, a.v vI vE vL] W fun r W' => DoesR w0 W b F X (s.step (a.atS s)) r W' := by
  have HH := Lib.hid h
  have HG := Lib.hid hg
  have HXW := Lib.hid hX
  clear hX
  have HVR := Lib.hid hv
  have HAC := Lib.hid (ha.at s)
  have NEAR : Hid (∀ W', Ext W W' → Ret Tryz.prog 35 #[a.v vI vE vL, s.v uL uI uC] W' fun r w' => Ext W' w' ∧ r = (a.atS s).v vI vE vL) := Lib.hid (fun W' hE => near_calls (hv.later hE) hg.good hg.ver (ha.later hE))
  have hka : (a.atS s).kind ∉ [1, 2, 3, 4, 5, 6, 7, 8, 9] := by rw [(atS_kind a s).1]; exact hk
  simp only [List.mem_cons, List.not_mem_nil, or_false, not_or] at hka
  obtain ⟨k1, k2, k3, k4, k5, k6, k7, k8, k9⟩ := hka
  have ht : s.step (a.atS s) = s := by unfold RepS.step; simp [k1, k2, k3, k5, k6, k7, k8]
  rw [ht]
  clear ht
  obtain ⟨A1, c1, rfl, -⟩ := hv.rl.rd.ent
  obtain ⟨A2, c2, rfl, -⟩ := hv.ri.rd.int
  obtain ⟨A3, c3, rfl, -⟩ := hv.rc.rd.int
  clear h hg hv ha hk
  generalize a.atS s = a' at *
  obtain ⟨A4, c4, rfl, -⟩ := HAC.out.ri.int
  obtain ⟨A5, c5, rfl, -⟩ := HAC.out.re.ent
  obtain ⟨A6, c6, rfl, -⟩ := HAC.out.rl.int
  refine Fn_of Tryz.func16 rfl (Nat.le_of_ble_eq_true rfl) ?_; intro A hd hA; simp only [ix, Nat.reduceAdd]; replace hA : A.tmps.size = 268 := hA
  (repeat' (first | refine W_seqk (fun K hK => ?_) | refine W_seqr ?_ | fail)); (first | (refine X_var (fun yn b4 hn1 hn2 hn3 hn4 hn5 => ?_)) | (refine X_s (fun x K hK => ?_); go_simp; refine hK _ _ (Ext.alloc _ _) ?_; clear hK K; refine X_al x ?_; generalize (World.later _ x).heap.size = b4; intro yn hn1 hn2 hn3 hn4 hn5; clear x)); have HBb4 := Lib.hid (Blk.new hn5.out); have HEb4 := Lib.hid yn.ext; have hlb4 : (World.heap W).size ≤ b4 := hn1; generalize World.later W yn = W0 at *; clear hn1 hn2 hn3 hn4 hn5 yn
  (skip); (first | (refine X_var (fun yn b5 hn1 hn2 hn3 hn4 hn5 => ?_)) | (refine X_s (fun x K hK => ?_); go_simp; refine hK _ _ (Ext.alloc _ _) ?_; clear hK K; refine X_al x ?_; generalize (World.later _ x).heap.size = b5; intro yn hn1 hn2 hn3 hn4 hn5; clear x)); have HBb5 := Lib.hid (Blk.new hn5.out); have HEb5 := Lib.hid yn.ext; have hlb5 : (World.heap W0).size ≤ b5 := hn1; generalize World.later W0 yn = W1 at *; clear hn1 hn2 hn3 hn4 hn5 yn
  (skip); (first | (refine X_var (fun yn b6 hn1 hn2 hn3 hn4 hn5 => ?_)) | (refine X_s (fun x K hK => ?_); go_simp; refine hK _ _ (Ext.alloc _ _) ?_; clear hK K; refine X_al x ?_; generalize (World.later _ x).heap.size = b6; intro yn hn1 hn2 hn3 hn4 hn5; clear x)); have HBb6 := Lib.hid (Blk.new hn5.out); have HEb6 := Lib.hid yn.ext; have hlb6 : (World.heap W1).size ≤ b6 := hn1; generalize World.later W1 yn = W2 at *; clear hn1 hn2 hn3 hn4 hn5 yn
  have HBS := Lib.hid ((fbox2 HBb4.out).later (Ext.trans HEb5.out HEb6.out))
  have HBA : Hid (Blk W2 b5 51 27 (aenc a (.slice A4 a'.view.isr.length c4) (.slice A5 a'.reply.entries.length c5) (.slice A6 a'.list.length c6))) := Lib.hid ((HBb5.out.later HEb6.out).congr (fun k hk => rfl))
  have HBO := HBb6
  have HE := Lib.hid (Ext.trans (Ext.trans HEb4.out HEb5.out) HEb6.out)
  have hbb : b4 < b5 := by have := HBb4.out.lt; omega
  have hbb2 : b5 < b6 := by have := HBb5.out.lt; omega
  have hs0 := HEb4.out.size
  have hs1 := HEb5.out.size
  have h6W : W.heap.size ≤ b6 := by omega
  clear HBb4 HBb5 HBb6 HEb4 HEb5 HEb6
  have HFW : Hid (∀ k, F k → k < W.heap.size) := Lib.hid (fun k hk => (HH.out.hi k hk).2)
  have HVN := Lib.hid (HVR.out.wide (N' := fun k => F k ∨ X k ∨ k = b6) (fun k hk => hk.elim (fun h => .inl (.inl h)) (fun h => h.elim (fun h => .inl (.inr h)) (fun e => .inr (by subst e; exact h6W)))))
  have HAN := Lib.hid (HAC.out.wide (N' := fun k => F k ∨ X k ∨ k = b6) (fun k hk => hk.elim (fun h => .inl (.inl h)) (fun h => h.elim (fun h => .inl (.inr h)) (fun e => .inr (by subst e; exact h6W)))))
  clear HVR HAC
  have hal := HBA.out.lt
  have hsl := HBS.out.lt
  repeat' (first | refine X_q ?_ | refine X_nil ?_ | refine W_seqk (fun K hK => ?_) | refine W_seqr ?_ | go_step)
  refine X_aload HBA.out ?_ (hu := Tryz.underlying51)
  skip
  refine X_fload HBS.out ?_ (hu := Tryz.underlying33)
  skip
  refine X_ret Tryz.func35 (NEAR.out _ HE.out) (fun r w1 hR => ?_)
  obtain ⟨hE1, rfl⟩ := hR
  replace HBS := Lib.hid (HBS.out.later hE1)
  replace HBA := Lib.hid (HBA.out.later hE1)
  replace HBO := Lib.hid (HBO.out.later hE1)
  replace HE := Lib.hid (Ext.trans HE.out hE1)
  clear hE1 NEAR hal hsl
  have hal := HBA.out.lt
  skip
  refine X_store (off := 0) HBA.out (fun W1 hM1 hB1 => ?_); replace HE := Lib.hid (Ext.fresh HE.out hM1 (fun k hk => by subst hk; omega)); replace HBS := Lib.hid (HBS.out.mod hM1 (fun h => by omega)); replace HBO := Lib.hid (HBO.out.mod hM1 (fun h => by omega)); replace HBA := Lib.hid hB1; clear hM1 hB1
  replace HBA := Lib.hid (HBA.out.congr (g' := aenc a' (.slice A4 a'.view.isr.length c4) (.slice A5 a'.reply.entries.length c5) (.slice A6 a'.list.length c6)) (all27 ⟨rfl, rfl, rfl, rfl, rfl, rfl, rfl, rfl, rfl, rfl, rfl, rfl, rfl, rfl, rfl, rfl, rfl, rfl, rfl, rfl, rfl, rfl, rfl, rfl, rfl, rfl, rfl⟩))
  clear hal
  obtain ⟨hlt, d0, d1, d2, d3, d4, d5, d6, d7, d8, d9, d10⟩ := fcells HBS.out
  have hal := HBA.out.lt
  have e0 := HBA.out.cell (k := 0) (by omega)
  change World.cell? _ _ = some (.int .i64 a'.kind) at e0
  have k1b : (a'.kind == 1) = false := beq_false_of_ne k1
  have k2b : (a'.kind == 2) = false := beq_false_of_ne k2
  have k3b : (a'.kind == 3) = false := beq_false_of_ne k3
  have k4b : (a'.kind == 4) = false := beq_false_of_ne k4
  have k5b : (a'.kind == 5) = false := beq_false_of_ne k5
  have k6b : (a'.kind == 6) = false := beq_false_of_ne k6
  have k7b : (a'.kind == 7) = false := beq_false_of_ne k7
  have k8b : (a'.kind == 8) = false := beq_false_of_ne k8
  have k9b : (a'.kind == 9) = false := beq_false_of_ne k9
  clear k1 k2 k3 k4 k5 k6 k7 k8 k9
  have hbol := HBO.out.lt
  have hEW := HE.out.size
  have HGG := Lib.hid HG.out.good
  repeat' (first | refine X_q ?_ | refine X_nil ?_ | refine W_seqk (fun K hK => ?_) | refine W_seqr ?_ | refine W_skip ?_ | refine W_block ?_ | refine W_ff ?_ | go_step)
  refine X_fload HBS.out ?_ (hu := Tryz.underlying33)
  skip
  have HE1 := HE
  have HVO := Lib.hid (HVN.out.later HE.out)
  replace HE := Lib.hid (Ext.refl W1)
  have h61 := HBO.out.lt
  have hE9 := Ext.refl W1
  have HBO4 := HBO
  obtain ⟨hM, hRp⟩ : Mod F _ _ ∧ Rep _ b (fun k => F k ∨ W1.heap.size ≤ k) s := ⟨hE9.mono (fun _ _ h => h.elim), ((((HH.out.later HE1.out).later HE.out).later hE9).rep).mono (fun k hk => .inl hk)⟩
  have HMc := Lib.hid hM
  have HRc := Lib.hid hRp
  have HEC := HE
  clear hM hRp
  refine X_store (off := 0) HBO4.out (fun W5 hM5 hB5 => ?_)
  have HM5 := Lib.hid hM5
  have HB5 := Lib.hid (fput hB5)
  clear hM5 hB5
  repeat' (first | refine X_q ?_ | refine X_nil ?_ | refine W_ret ?_ | go_step)
  exact Body_retcellv (cs := RepS.cs (s) _ _ _) hd (does_end HH.out HE1.out HEC.out HMc.out HRc.out HM5.out h6W h61 HVO.out) HB5.out (fun k hk => cs_fenc hk) Tryz.underlying33
end Go.Ws
namespace Go.Ws
open Go Go.RowKit Go.Proofs
set_option maxHeartbeats 4000000
set_option maxRecDepth 100000
set_option linter.unusedVariables false
set_option linter.unusedSimpArgs false

/-- A call does what the document says. -/
def DoesOk (a : ActV) : Prop := ∀ (w0 W : World) (b : Nat) (F X : Nat → Prop) (s : RepS) (uL uI uC : Value), HR w0 W b F s → s.Fine → (∀ k, X k → k < W.heap.size) → VR (fun k => F k ∨ X k) W uL uI uC s → ActR (fun k => F k ∨ X k) W a.uI a.uE a.uL a.act →
  Ret Tryz.prog 16 #[.pointer (some ⟨b, 0, none⟩), s.v uL uI uC, a.act.v a.uI a.uE a.uL] W fun r W' => DoesR w0 W b F X (s.step (a.act.atS s)) r W'
theorem doesOk {a : ActV} (hb : a.big = false) (h7 : a.act.kind ≠ 7) : DoesOk a := by
  intro w0 W b F X s uL uI uC h hg hX hv ha
  have hE : a.act.reply.entries.length ≤ 20 := by
    unfold ActV.big at hb
    simp only [Bool.or_eq_false_iff, decide_eq_false_iff_not] at hb
    omega
  by_cases h1 : a.act.kind = 1
  · exact does1_calls h hg hX hv ha h1
  by_cases h2 : a.act.kind = 2
  · exact does2_calls h hg hX hv ha h2
  by_cases h3 : a.act.kind = 3
  · exact does3_calls h hg hX hv ha h3
  by_cases h4 : a.act.kind = 4
  · exact does4_calls h hg hX hv ha h4
  by_cases h5 : a.act.kind = 5
  · exact does5_calls h hg hX hv ha h5
  by_cases h6 : a.act.kind = 6
  · exact does6_calls h hg hX hv ha h6 hE
  by_cases h8 : a.act.kind = 8
  · exact does8_calls h hg hX hv ha h8
  by_cases h9 : a.act.kind = 9
  · exact does9_calls h hg hX hv ha h9
  exact does0_calls h hg hX hv ha (by simp [h1, h2, h3, h4, h5, h6, h7, h8, h9])
theorem count_ver (s : RepS) : s.count.version = s.version := (count_isr s).2.2.1
theorem fine_step {s : RepS} (h : s.Fine) (a : ActD) : (s.step a).Fine := by
  have hg := h.good
  have hv := h.ver
  unfold RepS.step
  split
  · refine ⟨good_learn hg _, ?_⟩
    unfold RepS.learn
    split
    · rename_i hm
      have hvv : 0 ≤ a.view.version ∧ a.view.version ≤ 2147483647 := by
        simp only [View.may, Bool.and_eq_true, inB, decide_eq_true_eq] at hm
        exact hm.1.1.1.2
      split
      · exact hv
      · split
        · unfold RepS.again
          split
          · split
            · show 0 ≤ (s.steps a.view).count.version ∧ (s.steps a.view).count.version ≤ 2147483647
              rw [count_ver]; exact hvv
            · exact hv
          · split
            · split <;> exact hv
            · exact hv
        · show 0 ≤ RepS.version (if a.view.leader = -1 then { s.turn a.view with role := 1 } else if a.view.leader = s.self then s.lead a.view else s.turn a.view) ∧ RepS.version (if a.view.leader = -1 then { s.turn a.view with role := 1 } else if a.view.leader = s.self then s.lead a.view else s.turn a.view) ≤ 2147483647
          split
          · exact ⟨Int.le_refl _, by show (0 : Int) ≤ _; decide⟩
          · split
            · unfold RepS.lead
              rw [count_ver]; exact hvv
            · exact ⟨Int.le_refl _, by show (0 : Int) ≤ _; decide⟩
    · exact hv
  · split
    · refine ⟨good_app hg _, ?_⟩
      unfold RepS.app; split <;> exact hv
    · split
      · refine ⟨good_flush hg, ?_⟩
        unfold RepS.flush; rw [count_ver]; exact hv
      · split
        · refine ⟨good_serve hg _ _, ?_⟩
          unfold RepS.serve
          split
          · exact hv
          · split
            · rw [count_ver]; exact hv
            · exact hv
        · split
          · refine ⟨good_take hg _, ?_⟩
            unfold RepS.take
            split
            · exact hv
            · split <;> exact hv
          · split
            · refine ⟨good_prop hg _, ?_⟩
              unfold RepS.prop; split <;> exact hv
            · split
              · refine ⟨good_crash hg _, ?_⟩
                unfold RepS.crash
                split
                · exact hv
                · exact ⟨Int.le_refl _, by show (0 : Int) ≤ _; decide⟩
              · exact h
section
variable {P : Program} {ops : Array Oper} {hs : List Nat} {Q : Post} {f : Nat} {listed : Array Bool} {A : Act} {fl : List (Nat × Value)} {w : World}
/-- A call that changes what was there, where more than one operation may come up. -/
theorem S_hret {i : Nat} {o : Oper} {g : FuncId} {fn : Func} {la : List Operand} {ats : Array TypeId} {lv lv' : List Value} {R : World → Value → World → Prop} {d : Nat} (hf : P.funcs[g]? = some fn)
    (hc : ∀ x : Later w, Ret P g lv.toArray (w.later x) (R (w.later x))) (h : ∀ (x : Later w) v w', R (w.later x) v w' → wpF P ops hs Q f (listed.setIfInBounds i true) (fr ((d, v) :: fl) A) w') (hi : ops[i]? = some o := by rfl) (hh : hs.contains i = true := by rfl) (hd : o.dst = some d := by rfl)
    (hop : o.op = .call { callee := .value (.func g), args := la.toArray, argTypes := ats } := by rfl) (hn : callable fn = true := by kernel_rfl) (hg : o.guard = none := by rfl) (hargs : Is (la.map (fr fl A).eval) lv' := by go_simp; exact Is.mk _) (hlv : lv' = lv := by rfl) : stepF P ops hs Q f listed (fr fl A) w i := by
  intro x
  unfold softOp
  simp only [hi]
  rw [if_pos (by simp [Region.wanted, hg])]
  unfold OpW
  rw [run_call hf hn hop, hargs.eq, hlv]
  simp only [uponW]
  refine Calls.mono (Fn.calls (hc x)) fun e w' hR => ?_
  obtain ⟨w0, hE, hR⟩ := hR
  cases e with
  | returned v =>
    have h2 := h x v w0 hR
    exact ⟨fun h0 => absurd h0 (by rw [hh]; decide), by rw [hd, fr_put]; exact h2.later hE⟩
  | panicked c => exact hR.elim
  | outgrown => exact hR.elim
/-- All of the document's replica, loaded, where the order is drawn. -/
theorem F_fload {i : Nat} {o : Oper} {x : Operand} {t : TypeId} {d b : Nat} {E : TypeId} {td : TypeDesc} {s : RepS} {uL uI uC : Value} (hb : Blk w b E 15 (fenc s uL uI uC))
    (h : wpF P ops hs Q f (listed.setIfInBounds i true) (fr ((d, s.v uL uI uC) :: fl) A) w) (hi : ops[i]? = some o := by rfl) (hB : firstB ops hs listed i = true := by kernel_rfl) (ho : o.op = .load t x := by rfl) (hd : o.dst = some d := by rfl) (hg : o.guard = none := by rfl)
    (hu : P.underlying t = some td := by kernel_rfl) (htd : td.isRow = true := by rfl) (hs' : (P.info? t).map (·.size) = some 15 := by kernel_rfl)
    (hx : Is ((fr fl A).eval x) (.pointer (some ⟨b, 0, none⟩)) := by go_simp; exact Is.mk _) : wpF P ops hs Q (f + 1) listed (fr fl A) w :=
  F_q h hi hB hd hg fun X => quiet_fload (hb.later X.2) ho hu htd hs' hx
/-- An act of a list, loaded. -/
theorem F_aelem {i : Nat} {o : Oper} {x : Operand} {t : TypeId} {d b off : Nat} {td : TypeDesc} {a : ActV} (hb : b < w.heap.size) (hc : ∀ j u, (a.cs)[j]? = some u → w.cell? ⟨b, off + j, none⟩ = some u)
    (h : wpF P ops hs Q f (listed.setIfInBounds i true) (fr ((d, a.act.v a.uI a.uE a.uL) :: fl) A) w) (hi : ops[i]? = some o := by rfl) (hB : firstB ops hs listed i = true := by kernel_rfl) (ho : o.op = .load t x := by rfl) (hd : o.dst = some d := by rfl) (hg : o.guard = none := by rfl)
    (hu : P.underlying t = some td := by kernel_rfl) (htd : td.isRow = true := by rfl) (hs' : (P.info? t).map (·.size) = some 27 := by kernel_rfl)
    (hx : Is ((fr fl A).eval x) (.pointer (some ⟨b, off, none⟩)) := by go_simp; exact Is.mk _) : wpF P ops hs Q (f + 1) listed (fr fl A) w :=
  F_q h hi hB hd hg fun X => by
    have := run_loadAt_mid (P := P) (w.later X) b off t a.cs td (fun j v hv => (World.cell?_of_block (X.2.block b hb (fun h => h))).trans (hc j v hv)) hu htd hs'
    unfold Oper.quietAt execOp
    simp only [ho, hx.eq, this, Sem.run_bind, Result.andThen_ok, Sem.run_pure, Oper.quietUpon]
    exact ⟨trivial, rfl⟩
end
/-- Both replicas, amidst a play. -/
structure PlaySt (w W : World) (b b9 : Nat) (F : Nat → Prop) (s : RepS) (uL uI uC : Value) : Prop where
  hr : HR w W b F s
  fine : s.Fine
  blk : Blk W b9 33 15 (fenc s uL uI uC)
  vr : VR (fun k => F k ∨ k = b9) W uL uI uC s
  nf : ¬ F b9
  lo : w.heap.size ≤ b9
/-- Behind a call: the new row stands in a block of its own. -/
structure PlayMid (w W : World) (b b9 b11 : Nat) (F : Nat → Prop) (s : RepS) (uL uI uC : Value) : Prop where
  hr : HR w W b F s
  fine : s.Fine
  old : ∃ g, Blk W b9 33 15 g
  blk : Blk W b11 33 15 (fenc s uL uI uC)
  vr : VR (fun k => F k ∨ k = b9) W uL uI uC s
  nf : ¬ F b9
  lo : w.heap.size ≤ b9
  ne : b9 ≠ b11
/-- The same, ahead of the store. -/
structure PlayPre (w W : World) (b b9 b11 : Nat) (F : Nat → Prop) (s : RepS) (uL uI uC : Value) : Prop where
  hr : HR w W b F s
  fine : s.Fine
  old : ∃ g, Blk W b9 33 15 g
  blk : ∃ g, Blk W b11 33 15 g
  vr : VR (fun k => F k ∨ k = b9 ∨ k = b11) W uL uI uC s
  nf : ¬ F b9
  nf' : ¬ F b11
  lo : w.heap.size ≤ b9
  lo' : w.heap.size ≤ b11
  ne : b9 ≠ b11
section
variable {w W W' : World} {b b9 b11 : Nat} {F X F' : Nat → Prop} {s s' : RepS} {uL uI uC vL vI vC : Value}
theorem PlaySt.later (h : PlaySt w W b b9 F s uL uI uC) (hE : Ext W W') : PlaySt w W' b b9 F s uL uI uC := ⟨h.hr.later hE, h.fine, h.blk.later hE, h.vr.later hE, h.nf, h.lo⟩
theorem PlayPre.put (h : PlayPre w W b b9 b11 F s uL uI uC) (hM : Mod (· = b11) W W') {g : Nat → Value} (hB : Blk W' b11 33 15 (put g 0 (s.v uL uI uC).cells.toList)) : PlayMid w W' b b9 b11 F s uL uI uC := by
  obtain ⟨g9, h9⟩ := h.old
  have hne := h.ne
  exact ⟨h.hr.beside hM (fun k hk => by subst hk; exact h.lo') (fun k hk e => h.nf' (e ▸ hk)), h.fine, ⟨g9, h9.mod hM (fun e => hne e)⟩, fput hB, (h.vr.mod hM (fun k hk => .inr (.inr hk))).less (fun k hk => hk.imp id .inl), h.nf, h.lo, h.ne⟩
/-- The call first, then the block. -/
theorem PlayPre.of1 {W2 W3 : World} {g : Nat → Value} (h : PlaySt w W b b9 F s uL uI uC) (hM : Mod F W W2) (hH : HR w W2 b F' s') (hf : s'.Fine) (hV : VR (fun k => F' k ∨ k = b9) W2 vL vI vC s') (hF : ∀ k, F' k → F k ∨ W.heap.size ≤ k)
    (hE : Ext W2 W3) (hb : W2.heap.size ≤ b11) (hB : Blk W3 b11 33 15 g) : PlayPre w W3 b b9 b11 F' s' vL vI vC := by
  have h9 := h.blk.lt
  have hs := hM.size
  have hlo := h.lo
  have hn9 : ¬ F' b9 := fun hk => (hF b9 hk).elim h.nf (fun h1 => by omega)
  exact ⟨hH.later hE, hf, ⟨_, (h.blk.mod hM h.nf).later hE⟩, ⟨_, hB⟩, (hV.wide (fun k hk => by
    rcases hk with h1 | h1 | h1
    · exact .inl (.inl h1)
    · exact .inl (.inr h1)
    · exact .inr (by omega))).later hE, hn9, fun hk => by have := (hH.hi _ hk).2; omega, h.lo, by omega, by omega⟩
/-- The block first, then the call. -/
theorem PlayPre.of2 {W1 W2 : World} {g : Nat → Value} (h : PlaySt w W b b9 F s uL uI uC) (hE : Ext W W1) (hb : W.heap.size ≤ b11) (hB : Blk W1 b11 33 15 g)
    (hM : Mod F W1 W2) (hH : HR w W2 b F' s') (hf : s'.Fine) (hV : VR (fun k => F' k ∨ k = b9 ∨ k = b11) W2 vL vI vC s') (hF : ∀ k, F' k → F k ∨ W1.heap.size ≤ k) : PlayPre w W2 b b9 b11 F' s' vL vI vC := by
  have h9 := h.blk.lt
  have hs := hE.size
  have hl := hB.lt
  have hlo := h.lo
  have hn11 : ¬ F b11 := fun hk => by have := (h.hr.hi _ hk).2; omega
  have hn9 : ¬ F' b9 := fun hk => (hF b9 hk).elim h.nf (fun h1 => by omega)
  exact ⟨hH, hf, ⟨_, (h.blk.later hE).mod hM h.nf⟩, ⟨_, hB.mod hM hn11⟩, hV, hn9, fun hk => (hF _ hk).elim hn11 (fun h1 => by omega), h.lo, by omega, by omega⟩
end
end Go.Ws
namespace Go.Ws
open Go Go.RowKit Go.Proofs
set_option maxHeartbeats 4000000
set_option maxRecDepth 100000
set_option linter.unusedVariables false
set_option linter.unusedSimpArgs false

theorem play_calls (self least : Int) (l : List ActV) (v : Value) (w : World) (hl : Rd ActV.cs 27 w v l) (ho : ∀ a ∈ l, a.ok (fun _ => False) w) (hk : ∀ a ∈ l, a.big = false → DoesOk a) :
    Pure Tryz.prog 18 #[.int .i64 self, .int .i64 least, v] w (.bool true) := by
  have HL := Lib.hid hl
  have HOK := Lib.hid ho
  have HDO := Lib.hid hk
  obtain ⟨A0, c0, rfl, hc0, hcm0, HRD⟩ := hl.act
  clear hl ho hk
  by_cases hbig : largeB l = true
  · have LARGE : Hid (Pure Tryz.prog 11 #[.slice A0 l.length c0] w (.bool true)) := Lib.hid (hbig ▸ large_calls l _ w HL.out HOK.out)
    clear HRD
    refine Fn_of Tryz.func18 rfl (Nat.le_of_ble_eq_true rfl) ?_; intro A hd hA; simp only [ix, Nat.reduceAdd]; replace hA : A.tmps.size = 72 := hA
    repeat' (first | refine X_pure Tryz.func11 (LARGE.out) ?_ | refine X_pure Tryz.func12 (known11_calls) ?_ | refine X_q ?_ | refine X_nil ?_ | refine W_seqk (fun K hK => ?_) | refine W_seqr ?_ | refine W_ret ?_ | refine W_tt ?_ | go_step)
    exact Body_ret hd ⟨rfl, by simp⟩
  · have hbig' : largeB l = false := by simpa using hbig
    have LARGE : Hid (Pure Tryz.prog 11 #[.slice A0 l.length c0] w (.bool false)) := Lib.hid (hbig' ▸ large_calls l _ w HL.out HOK.out)
    have HSM : Hid (∀ a ∈ l, a.big = false) := Lib.hid (fun a ha => by
      unfold largeB at hbig'
      simp only [Bool.or_eq_false_iff, List.any_eq_false] at hbig'
      simpa using hbig'.2 a ha)
    clear hbig hbig'
    by_cases hr : rightNew self least = true
    · have RIGHT : Hid (∀ W, Pure Tryz.prog 47 #[.int .i64 self, .int .i64 least] W (.bool true)) := Lib.hid (fun W => hr ▸ right11_calls self least W)
      have HRN := Lib.hid hr
      clear hr
      refine Fn_of Tryz.func18 rfl (Nat.le_of_ble_eq_true rfl) ?_; intro A hd hA; simp only [ix, Nat.reduceAdd]; replace hA : A.tmps.size = 72 := hA
      repeat' (first | refine X_pure Tryz.func11 (LARGE.out) ?_ | refine X_q ?_ | refine X_nil ?_ | refine W_seqk (fun K hK => ?_) | refine W_seqr ?_ | refine W_skip ?_ | refine W_ff ?_ | go_step)
      refine X_ret Tryz.func13 (repNew_ok self least HRN.out) (fun r w1 hR => ?_)
      obtain ⟨b, rfl, hE1, hb1, hR1⟩ := hR
      have HH1 := Lib.hid (HR.start (Ext.refl w) hE1 hR1)
      clear hR1 LARGE
      repeat' (first | refine X_pure Tryz.func47 (RIGHT.out _) ?_ | refine X_q ?_ | refine X_nil ?_ | refine W_seqk (fun K hK => ?_) | refine W_seqr ?_ | refine W_skip ?_ | refine W_ff ?_ | go_step)
      refine X_ret Tryz.func14 (new11_calls (N := fun _ => True) self least _) (fun r w2 hR => ?_)
      obtain ⟨hE2, oL, oI, oC, rfl, hVO⟩ := hR
      obtain ⟨B1, x1, rfl, -⟩ := hVO.rl.ent
      obtain ⟨B2, x2, rfl, -⟩ := hVO.ri.int
      obtain ⟨B3, x3, rfl, -⟩ := hVO.rc.int
      (skip); (first | (refine X_var (fun yn b9 hn1 hn2 hn3 hn4 hn5 => ?_)) | (refine X_s (fun x K hK => ?_); go_simp; refine hK _ _ (Ext.alloc _ _) ?_; clear hK K; refine X_al x ?_; generalize (World.later _ x).heap.size = b9; intro yn hn1 hn2 hn3 hn4 hn5; clear x)); have HBb9 := Lib.hid (Blk.new hn5.out); have HEb9 := Lib.hid yn.ext; have hlb9 : (World.heap w2).size ≤ b9 := hn1; generalize World.later w2 yn = W3 at *; clear hn1 hn2 hn3 hn4 hn5 yn
      have HB9 := Lib.hid (fbox2 HBb9.out)
      have HH3 := Lib.hid ((HH1.out.later hE2).later HEb9.out)
      have HV3 := Lib.hid (hVO.later HEb9.out)
      have hs1 := hE1.size
      have hs2 := hE2.size
      have hst : PlaySt w W3 b b9 _ (RepS.init self least) _ _ _ := ⟨HH3.out, ⟨good_init HRN.out, by show (0 : Int) ≤ 0 ∧ (0 : Int) ≤ _; decide⟩, HB9.out, HV3.out.less (fun _ _ => trivial), fun h => by have := h.2; omega, by omega⟩
      have HST := Lib.hid hst
      have hbl := HB9.out.lt
      clear hst HBb9 HEb9 hE1 hE2 hVO hb1 HH1
      repeat' (first | refine X_gt ?_ | refine X_q ?_ | refine X_nil ?_ | refine W_seqk (fun K hK => ?_) | refine W_seqr ?_ | go_step)
      refine X_fload HB9.out ?_ (hu := Tryz.underlying33)
      repeat' (first | refine X_gpure Tryz.func48 (fun _ => same_calls HH3.out.rep (good_init HRN.out) HV3.out) ?_ | refine X_gt ?_ | refine X_q ?_ | refine X_nil ?_ | refine W_seqk (fun K hK => ?_) | refine W_seqr ?_ | refine W_skip ?_ | refine W_block ?_ | refine W_ff ?_ | go_step)
      refine W_loops [2, 6, 7, 9, 10] (fun n vs w' => ∃ (k : Nat) (F : Nat → Prop) (s : RepS) (uL uI uC : Value), k + n = l.length ∧ vs = [.slice A0 l.length c0, .bool false, .pointer (some ⟨b, 0, none⟩), .pointer (some ⟨b9, 0, none⟩), .int .i64 k] ∧ PlaySt w w' b b9 F s uL uI uC) l.length hd hA (by decide) ⟨0, _, _, _, _, _, by omega, by simp, HST.out⟩ ?_
      clear hd hA A; intro n vs B w' hd hA _ ⟨k, F, s, uL, uI, uC, hkn, hvs, hS⟩; subst hvs
      have HS := Lib.hid hS
      obtain ⟨C1, y1, rfl, -⟩ := hS.vr.rl.ent
      obtain ⟨C2, y2, rfl, -⟩ := hS.vr.ri.int
      obtain ⟨C3, y3, rfl, -⟩ := hS.vr.rc.int
      clear hS HST HB9 HH3 HV3 hbl hs1 hs2
      have hs9 := HS.out.blk.lt
      simp only [List.zip_cons_cons, List.zip_nil_right, List.zip_nil_left]
      by_cases hlt : k < l.length
      · obtain ⟨a, ba, oa, HX, hA0, hba, HC⟩ := HRD.out k hlt
        have hki : (k : Int) < l.length := by omega
        have hmem : a ∈ l := mem_of_get HX.out
        have HOKA := Lib.hid (HOK.out a hmem)
        have HDOA := Lib.hid (HDO.out a hmem (HSM.out a hmem))
        have HEW := Lib.hid HS.out.hr.ext
        have HCW : Hid (∀ j u, (a.cs)[j]? = some u → w'.cell? ⟨ba, oa + k * 27 + j, none⟩ = some u) := Lib.hid (fun j u hu => (World.cell?_of_block (HEW.out.block ba hba (fun h => h))).trans (HC.out j u hu))
        have hbw : ba < w'.heap.size := Nat.lt_of_lt_of_le hba HEW.out.size
        clear HX HC hmem hba
        subst hA0
        repeat' (first | refine X_q ?_ | refine X_nil ?_ | refine W_seqk (fun K hK => ?_) | refine W_seqr ?_ | refine W_skip ?_ | refine W_block ?_ | refine W_tt ?_ | go_step)
        refine W_cut [2, 6, 7, 9, 10, 11, 12] (fun vs w2 => ∃ (b11 : Nat) (F' : Nat → Prop) (s' : RepS) (vL vI vC : Value), vs = [.slice (some ⟨ba, oa, none⟩) l.length c0, .bool false, .pointer (some ⟨b, 0, none⟩), .pointer (some ⟨b9, 0, none⟩), .int .i64 k, .pointer (some ⟨b11, 0, none⟩), .bool true] ∧ PlayMid w w2 b b9 b11 F' s' vL vI vC) hd hA (by decide) ?_ ?_
        · refine W_fork [6, 11] (by kernel_rfl) ?_
          refine F_q (i := 0) ?_
          refine F_fload (i := 1) HS.out.blk ?_ (hu := Tryz.underlying33)
          refine F_q (i := 2) ?_
          refine F_q (i := 3) ?_
          refine F_q (i := 4) ?_
          refine F_aelem (i := 5) (a := a) hbw HCW.out ?_ (hu := Tryz.underlying51)
          refine F_alts (i := 6) (rs := [10]) (S_cons ?_ (S_cons ?_ S_end))
          · have HACT : Hid (ActR (fun k => F k ∨ k = b9) w' a.uI a.uE a.uL a.act) := Lib.hid ((HOKA.out.wide (fun k hk => .inr (hk.elim (fun h => (HS.out.hr.hi k h).1) (fun e => by subst e; exact HS.out.lo)))).later HEW.out)
            refine S_hret Tryz.func16 (R := fun W0 r W' => DoesR w W0 b F (· = b9) (s.step (a.act.atS s)) r W') (fun x => HDOA.out w _ b F _ s _ _ _ (HS.out.hr.later x.2) HS.out.fine (fun k hk => by subst hk; exact Nat.lt_of_lt_of_le hs9 x.2.size) (HS.out.vr.later x.2) (HACT.out.later x.2)) (fun x r w2 hR => ?_)
            obtain ⟨v', rfl, hM, F', hH, ⟨vL, vI, vC, rfl, hV⟩, hF'⟩ := hR
            obtain ⟨D1, z1, rfl, -⟩ := hV.rl.ent
            obtain ⟨D2, z2, rfl, -⟩ := hV.ri.int
            obtain ⟨D3, z3, rfl, -⟩ := hV.rc.int
            have HM := Lib.hid hM
            have HH' := Lib.hid hH
            have HV' := Lib.hid hV
            have HF' := Lib.hid hF'
            clear hM hH hV hF'
            have HSX := Lib.hid (HS.out.later x.2)
            refine F_q (i := 7) ?_
            refine F_q (i := 8) ?_
            refine F_alts (i := 9) (rs := [10]) (S_cons ?_ (S_cons ?_ S_end))
            · refine S_q ?_
              refine F_s (i := 10) (fun q K hK => ?_)
              go_simp; refine hK _ _ _ (Ext.alloc _ _) (Ext.refl _) ?_; clear hK K; refine F_al q ?_; generalize (World.later _ q).heap.size = b11; intro y11 q1 q2 q3 q4 q5; clear q
              refine F_alts (i := 11) (rs := []) (S_cons ?_ S_end)
              refine S_store (off := 0) (Blk.new q5.out) (fun W5 hM5 hB5 => ?_)
              refine F_q (i := 12) ?_
              exact F_nil (by kernel_rfl) ⟨rfl, _, _, rfl, hd, hA, b11, F', _, _, _, _, by simp, (PlayPre.of1 HSX.out HM.out HH'.out (fine_step HS.out.fine _) HV'.out HF'.out y11.2 q1 (Blk.new q5.out)).put hM5 hB5⟩
            · refine S_s (fun q K hK => ?_)
              go_simp; refine hK _ _ _ (Ext.alloc _ _) (Ext.refl _) ?_; clear hK K; refine F_al q ?_; generalize (World.later _ q).heap.size = b11; intro y11 q1 q2 q3 q4 q5; clear q
              refine F_alts (i := 9) (rs := [11]) (S_cons ?_ (S_cons ?_ S_end))
              · refine S_q ?_
                refine F_alts (i := 11) (rs := []) (S_cons ?_ S_end)
                refine S_store (off := 0) (Blk.new q5.out) (fun W5 hM5 hB5 => ?_)
                refine F_q (i := 12) ?_
                exact F_nil (by kernel_rfl) ⟨rfl, _, _, rfl, hd, hA, b11, F', _, _, _, _, by simp, (PlayPre.of1 HSX.out HM.out HH'.out (fine_step HS.out.fine _) HV'.out HF'.out y11.2 q1 (Blk.new q5.out)).put hM5 hB5⟩
              · refine S_store (off := 0) (Blk.new q5.out) (fun W5 hM5 hB5 => ?_)
                refine F_q (i := 9) ?_
                refine F_q (i := 12) ?_
                exact F_nil (by kernel_rfl) ⟨rfl, _, _, rfl, hd, hA, b11, F', _, _, _, _, by simp, (PlayPre.of1 HSX.out HM.out HH'.out (fine_step HS.out.fine _) HV'.out HF'.out y11.2 q1 (Blk.new q5.out)).put hM5 hB5⟩
          · have HACT : Hid (ActR (fun k => F k ∨ k = b9) w' a.uI a.uE a.uL a.act) := Lib.hid ((HOKA.out.wide (fun k hk => .inr (hk.elim (fun h => (HS.out.hr.hi k h).1) (fun e => by subst e; exact HS.out.lo)))).later HEW.out)
            refine S_s (fun q K hK => ?_)
            go_simp; refine hK _ _ _ (Ext.alloc _ _) (Ext.refl _) ?_; clear hK K; refine F_al q ?_; generalize (World.later _ q).heap.size = b11; intro y11 q1 q2 q3 q4 q5; clear q
            refine F_alts (i := 6) (rs := []) (S_cons ?_ S_end)
            have HN1 : Hid (VR (fun k => F k ∨ k = b9 ∨ k = b11) w' _ _ _ s) := Lib.hid (HS.out.vr.wide (fun k hk => by
              rcases hk with h | h | h
              · exact .inl (.inl h)
              · exact .inl (.inr h)
              · exact .inr (by omega)))
            have HN2 := Lib.hid (HACT.out.wide (N' := fun k => F k ∨ k = b9 ∨ k = b11) (fun k hk => by
              rcases hk with h | h | h
              · exact .inl (.inl h)
              · exact .inl (.inr h)
              · exact .inr (by omega)))
            have hsy := y11.2.size
            refine S_hret Tryz.func16 (R := fun W0 r W' => DoesR w W0 b F (fun k => k = b9 ∨ k = b11) (s.step (a.act.atS s)) r W' ∧ Ext (w'.later y11) W0) (fun x => Ret.mono (HDOA.out w _ b F (fun k => k = b9 ∨ k = b11) s _ _ _ ((HS.out.hr.later y11.2).later x.2) HS.out.fine (fun k hk => by have hx : (w'.later y11).heap.size ≤ ((w'.later y11).later x).heap.size := x.2.size; rcases hk with h | h <;> subst h <;> omega) ((HN1.out.later y11.2).later x.2) ((HN2.out.later y11.2).later x.2)) (fun r W' h => ⟨h, x.2⟩)) (fun x r w2 hR => ?_)
            obtain ⟨hR, hEx⟩ := hR
            obtain ⟨v', rfl, hM, F', hH, ⟨vL, vI, vC, rfl, hV⟩, hF'⟩ := hR
            obtain ⟨D1, z1, rfl, -⟩ := hV.rl.ent
            obtain ⟨D2, z2, rfl, -⟩ := hV.ri.int
            obtain ⟨D3, z3, rfl, -⟩ := hV.rc.int
            have HM := Lib.hid hM
            have HH' := Lib.hid hH
            have HV' := Lib.hid hV
            have HF' := Lib.hid hF'
            clear hM hH hV hF'
            have HMM : Hid (Mod F (w'.later y11) w2) := Lib.hid (Mod.trans hEx HM.out (fun _ _ h => h.elim) (fun _ _ h => h))
            have HFF : Hid (∀ k, F' k → F k ∨ (w'.later y11).heap.size ≤ k) := Lib.hid (fun k hk => (HF'.out k hk).imp id (fun h => Nat.le_trans hEx.size h))
            have HB11 := Lib.hid ((Blk.new q5.out).mod HMM.out (fun h => by have := (HS.out.hr.hi _ h).2; omega))
            clear hEx
            refine F_q (i := 7) ?_
            refine F_q (i := 8) ?_
            refine F_alts (i := 9) (rs := [11]) (S_cons ?_ (S_cons ?_ S_end))
            · refine S_q ?_
              refine F_alts (i := 11) (rs := []) (S_cons ?_ S_end)
              refine S_store (off := 0) HB11.out (fun W5 hM5 hB5 => ?_)
              refine F_q (i := 12) ?_
              exact F_nil (by kernel_rfl) ⟨rfl, _, _, rfl, hd, hA, b11, F', _, _, _, _, by simp, (PlayPre.of2 HS.out y11.2 q1 (Blk.new q5.out) HMM.out HH'.out (fine_step HS.out.fine _) HV'.out HFF.out).put hM5 hB5⟩
            · refine S_store (off := 0) HB11.out (fun W5 hM5 hB5 => ?_)
              refine F_q (i := 9) ?_
              refine F_q (i := 12) ?_
              exact F_nil (by kernel_rfl) ⟨rfl, _, _, rfl, hd, hA, b11, F', _, _, _, _, by simp, (PlayPre.of2 HS.out y11.2 q1 (Blk.new q5.out) HMM.out HH'.out (fine_step HS.out.fine _) HV'.out HFF.out).put hM5 hB5⟩
        · clear hd hA B; intro vs B2 w2 hd hA ⟨b11, F', s', vL, vI, vC, hvs, hPM⟩; subst hvs
          have HPM := Lib.hid hPM
          obtain ⟨D1, z1, rfl, -⟩ := hPM.vr.rl.ent
          obtain ⟨D2, z2, rfl, -⟩ := hPM.vr.ri.int
          obtain ⟨D3, z3, rfl, -⟩ := hPM.vr.rc.int
          have h11 := hPM.blk.lt
          clear hPM HS HOKA HDOA HEW HCW hs9 hbw
          repeat' (first | refine X_gt ?_ | refine X_q ?_ | refine W_seqk (fun K hK => ?_) | refine W_seqr ?_ | go_step)
          refine X_fload HPM.out.blk ?_ (hu := Tryz.underlying33)
          repeat' (first | refine X_gpure Tryz.func48 (fun _ => same_calls HPM.out.hr.rep HPM.out.fine.good HPM.out.vr) ?_ | refine X_gt ?_ | refine X_q ?_ | refine X_nil ?_ | refine W_seqr ?_ | refine W_skip ?_ | refine W_ff ?_ | go_step)
          refine X_fload HPM.out.blk ?_ (hu := Tryz.underlying33)
          skip
          obtain ⟨g9, hg9⟩ := HPM.out.old
          have h9 := hg9.lt
          refine X_store (off := 0) hg9 (fun W5 hM5 hB5 => ?_)
          have HM5 := Lib.hid hM5
          have HB5 := Lib.hid (fput hB5)
          clear hM5 hB5 hg9
          repeat' (first | refine X_q ?_ | refine X_nil ?_ | refine W_seqr ?_ | go_step)
          exact ⟨_, _, rfl, hd, hA, n - 1, by omega, k + 1, F', s', _, _, _, by omega, by simp, ⟨HPM.out.hr.beside HM5.out (fun k hk => by subst hk; exact HPM.out.lo) (fun k hk e => HPM.out.nf (e ▸ hk)), HPM.out.fine, HB5.out, HPM.out.vr.mod HM5.out (fun k hk => .inr hk), HPM.out.nf, HPM.out.lo⟩⟩
      · have hki : ¬ (k : Int) < l.length := by omega
        have HEX := Lib.hid HS.out.hr.ext
        repeat' (first | refine X_pure Tryz.func12 (known11_calls) ?_ | refine X_q ?_ | refine X_nil ?_ | refine W_seqk (fun K hK => ?_) | refine W_seqr ?_ | refine W_ret ?_ | refine W_exit ?_ | refine W_ff ?_ | go_step)
        exact Body_ret hd ⟨rfl, HEX.out⟩
    · have hr' : rightNew self least = false := by simpa using hr
      have RIGHT : Hid (∀ W, Pure Tryz.prog 47 #[.int .i64 self, .int .i64 least] W (.bool false)) := Lib.hid (fun W => hr' ▸ right11_calls self least W)
      have HRN := Lib.hid hr'
      clear hr hr' HRD
      refine Fn_of Tryz.func18 rfl (Nat.le_of_ble_eq_true rfl) ?_; intro A hd hA; simp only [ix, Nat.reduceAdd]; replace hA : A.tmps.size = 72 := hA
      repeat' (first | refine X_pure Tryz.func11 (LARGE.out) ?_ | refine X_pure Tryz.func13 (repNew_no self least HRN.out) ?_ | refine X_pure Tryz.func47 (RIGHT.out _) ?_ | refine X_gpure Tryz.func12 (fun _ => known11_calls) ?_ | refine X_gt ?_ | refine X_q ?_ | refine X_nil ?_ | refine W_seqk (fun K hK => ?_) | refine W_seqr ?_ | refine W_ret ?_ | refine W_skip ?_ | refine W_tt ?_ | refine W_ff ?_ | go_step)
      exact Body_ret hd ⟨rfl, by simp⟩
end Go.Ws
