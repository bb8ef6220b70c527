/- Lemmas for the statements of this layer (joined texts); no condition. -/
import Derived.Test.YtlpjgegbdmkmdaaGreatBa10
import Derived.Test.YtlpjgegbdmkmdaaGreatBa12
import Derived.Test.YtlpjgegbdmkmdaaGreatBa13
import Derived.Test.YtlpjgegbdmkmdaaGreatBa25
namespace Go.Ws
open Go Go.RowKit Go.Proofs
set_option maxHeartbeats 4000000
set_option maxRecDepth 100000
set_option linter.unusedVariables false
set_option linter.unusedSimpArgs false

theorem serve11_all {N : Nat → Prop} {w : World} {uL uI uC : Value} {s : RepS} (hN : ∀ k, N k → k < w.heap.size) (h : VR N w uL uI uC s) (hg : s.Good) (f : Fetch) (most : Int) :
    Ret Tryz.prog 40 #[s.v uL uI uC, f.v, .int .i64 most] w fun r w' => Ext w w' ∧ ∃ v' u, r = .tuple #[v', (s.reply f most).v u, .int .i64 (s.serveNo f most)] ∧ FV N w' v' (s.serve f most) ∧ RdEN N w' u (s.reply f most).entries := by
  by_cases hno : s.serveNo f most = 0
  · rw [hno]
    by_cases hf : fitsE s.log f.offset f.last = true
    · exact serve11_fit hN h hg.bks hg.len f most hno hf
    · exact serve11_cut h f most hno hg.may (by simpa using hf)
  · have h1 : s.reply f most = Reply.zero := by unfold RepS.reply; rw [if_pos hno]
    have h2 : s.serve f most = s := by unfold RepS.serve; rw [if_pos hno]
    rw [h1, h2]
    refine Ret.mono (serve11_no h f most hno) fun r w' hR => ?_
    obtain ⟨hE, v', rfl, hv⟩ := hR
    exact ⟨hE, v', _, rfl, hv, RdN.nil _⟩
theorem does5_calls {w0 W : World} {b : Nat} {F X : Nat → Prop} {s : RepS} {uL uI uC vI vE vL : Value} {a : ActD} (h : HR w0 W b F s) (hg : s.Fine) (hX : ∀ k, X k → k < W.heap.size) (hv : VR (fun k => F k ∨ X k) W uL uI uC s) (ha : ActR (fun k => F k ∨ X k) W vI vE vL a) (hk : a.kind = 5) :
    Ret Tryz.prog 16 #[.pointer (some ⟨b, 0, none⟩), s.v uL uI uC, a.v vI vE vL] W fun r W' => DoesR w0 W b F X (s.step (a.atS s)) r W' := by
  have HH := Lib.hid h
  have HG := Lib.hid hg
  have HXW := Lib.hid hX
  clear hX
  have HVR := Lib.hid hv
  have HAC := Lib.hid (ha.at s)
  have NEAR : Hid (∀ W', Ext W W' → Ret Tryz.prog 35 #[a.v vI vE vL, s.v uL uI uC] W' fun r w' => Ext W' w' ∧ r = (a.atS s).v vI vE vL) := Lib.hid (fun W' hE => near_calls (hv.later hE) hg.good hg.ver (ha.later hE))
  have hka : (a.atS s).kind = 5 := (atS_kind a s).1.trans hk
  have ht : s.step (a.atS s) = s.serve (a.atS s).fetch (a.atS s).n := by unfold RepS.step; simp [hka]
  rw [ht]
  clear ht
  obtain ⟨A1, c1, rfl, -⟩ := hv.rl.rd.ent
  obtain ⟨A2, c2, rfl, -⟩ := hv.ri.rd.int
  obtain ⟨A3, c3, rfl, -⟩ := hv.rc.rd.int
  clear h hg hv ha hk
  generalize a.atS s = a' at *
  obtain ⟨A4, c4, rfl, -⟩ := HAC.out.ri.int
  obtain ⟨A5, c5, rfl, -⟩ := HAC.out.re.ent
  obtain ⟨A6, c6, rfl, -⟩ := HAC.out.rl.int
  refine Fn_of Tryz.func16 rfl (Nat.le_of_ble_eq_true rfl) ?_; intro A hd hA; simp only [ix, Nat.reduceAdd]; replace hA : A.tmps.size = 268 := hA
  (repeat' (first | refine W_seqk (fun K hK => ?_) | refine W_seqr ?_ | fail)); (first | (refine X_var (fun yn b4 hn1 hn2 hn3 hn4 hn5 => ?_)) | (refine X_s (fun x K hK => ?_); go_simp; refine hK _ _ (Ext.alloc _ _) ?_; clear hK K; refine X_al x ?_; generalize (World.later _ x).heap.size = b4; intro yn hn1 hn2 hn3 hn4 hn5; clear x)); have HBb4 := Lib.hid (Blk.new hn5.out); have HEb4 := Lib.hid yn.ext; have hlb4 : (World.heap W).size ≤ b4 := hn1; generalize World.later W yn = W0 at *; clear hn1 hn2 hn3 hn4 hn5 yn
  (skip); (first | (refine X_var (fun yn b5 hn1 hn2 hn3 hn4 hn5 => ?_)) | (refine X_s (fun x K hK => ?_); go_simp; refine hK _ _ (Ext.alloc _ _) ?_; clear hK K; refine X_al x ?_; generalize (World.later _ x).heap.size = b5; intro yn hn1 hn2 hn3 hn4 hn5; clear x)); have HBb5 := Lib.hid (Blk.new hn5.out); have HEb5 := Lib.hid yn.ext; have hlb5 : (World.heap W0).size ≤ b5 := hn1; generalize World.later W0 yn = W1 at *; clear hn1 hn2 hn3 hn4 hn5 yn
  (skip); (first | (refine X_var (fun yn b6 hn1 hn2 hn3 hn4 hn5 => ?_)) | (refine X_s (fun x K hK => ?_); go_simp; refine hK _ _ (Ext.alloc _ _) ?_; clear hK K; refine X_al x ?_; generalize (World.later _ x).heap.size = b6; intro yn hn1 hn2 hn3 hn4 hn5; clear x)); have HBb6 := Lib.hid (Blk.new hn5.out); have HEb6 := Lib.hid yn.ext; have hlb6 : (World.heap W1).size ≤ b6 := hn1; generalize World.later W1 yn = W2 at *; clear hn1 hn2 hn3 hn4 hn5 yn
  have HBS := Lib.hid ((fbox2 HBb4.out).later (Ext.trans HEb5.out HEb6.out))
  have HBA : Hid (Blk W2 b5 51 27 (aenc a (.slice A4 a'.view.isr.length c4) (.slice A5 a'.reply.entries.length c5) (.slice A6 a'.list.length c6))) := Lib.hid ((HBb5.out.later HEb6.out).congr (fun k hk => rfl))
  have HBO := HBb6
  have HE := Lib.hid (Ext.trans (Ext.trans HEb4.out HEb5.out) HEb6.out)
  have hbb : b4 < b5 := by have := HBb4.out.lt; omega
  have hbb2 : b5 < b6 := by have := HBb5.out.lt; omega
  have hs0 := HEb4.out.size
  have hs1 := HEb5.out.size
  have h6W : W.heap.size ≤ b6 := by omega
  clear HBb4 HBb5 HBb6 HEb4 HEb5 HEb6
  have HFW : Hid (∀ k, F k → k < W.heap.size) := Lib.hid (fun k hk => (HH.out.hi k hk).2)
  have HVN := Lib.hid (HVR.out.wide (N' := fun k => F k ∨ X k ∨ k = b6) (fun k hk => hk.elim (fun h => .inl (.inl h)) (fun h => h.elim (fun h => .inl (.inr h)) (fun e => .inr (by subst e; exact h6W)))))
  have HAN := Lib.hid (HAC.out.wide (N' := fun k => F k ∨ X k ∨ k = b6) (fun k hk => hk.elim (fun h => .inl (.inl h)) (fun h => h.elim (fun h => .inl (.inr h)) (fun e => .inr (by subst e; exact h6W)))))
  clear HVR HAC
  have hal := HBA.out.lt
  have hsl := HBS.out.lt
  repeat' (first | refine X_q ?_ | refine X_nil ?_ | refine W_seqk (fun K hK => ?_) | refine W_seqr ?_ | go_step)
  refine X_aload HBA.out ?_ (hu := Tryz.underlying51)
  skip
  refine X_fload HBS.out ?_ (hu := Tryz.underlying33)
  skip
  refine X_ret Tryz.func35 (NEAR.out _ HE.out) (fun r w1 hR => ?_)
  obtain ⟨hE1, rfl⟩ := hR
  replace HBS := Lib.hid (HBS.out.later hE1)
  replace HBA := Lib.hid (HBA.out.later hE1)
  replace HBO := Lib.hid (HBO.out.later hE1)
  replace HE := Lib.hid (Ext.trans HE.out hE1)
  clear hE1 NEAR hal hsl
  have hal := HBA.out.lt
  skip
  refine X_store (off := 0) HBA.out (fun W1 hM1 hB1 => ?_); replace HE := Lib.hid (Ext.fresh HE.out hM1 (fun k hk => by subst hk; omega)); replace HBS := Lib.hid (HBS.out.mod hM1 (fun h => by omega)); replace HBO := Lib.hid (HBO.out.mod hM1 (fun h => by omega)); replace HBA := Lib.hid hB1; clear hM1 hB1
  replace HBA := Lib.hid (HBA.out.congr (g' := aenc a' (.slice A4 a'.view.isr.length c4) (.slice A5 a'.reply.entries.length c5) (.slice A6 a'.list.length c6)) (all27 ⟨rfl, rfl, rfl, rfl, rfl, rfl, rfl, rfl, rfl, rfl, rfl, rfl, rfl, rfl, rfl, rfl, rfl, rfl, rfl, rfl, rfl, rfl, rfl, rfl, rfl, rfl, rfl⟩))
  clear hal
  obtain ⟨hlt, d0, d1, d2, d3, d4, d5, d6, d7, d8, d9, d10⟩ := fcells HBS.out
  have hal := HBA.out.lt
  have e0 := HBA.out.cell (k := 0) (by omega)
  change World.cell? _ _ = some (.int .i64 a'.kind) at e0
  have e1 := HBA.out.cell (k := 1) (by omega)
  change World.cell? _ _ = some (.int .i64 a'.n) at e1
  have e13 := HBA.out.cell (k := 13) (by omega)
  change World.cell? _ _ = some (.int .i64 a'.fetch.src) at e13
  have e14 := HBA.out.cell (k := 14) (by omega)
  change World.cell? _ _ = some (.int .i64 a'.fetch.epoch) at e14
  have e15 := HBA.out.cell (k := 15) (by omega)
  change World.cell? _ _ = some (.int .i64 a'.fetch.offset) at e15
  have e16 := HBA.out.cell (k := 16) (by omega)
  change World.cell? _ _ = some (.int .i64 a'.fetch.last) at e16
  have e17 := HBA.out.cell (k := 17) (by omega)
  change World.cell? _ _ = some (.int .i64 a'.fetch.flushed) at e17
  rw [hka] at e0
  have hbol := HBO.out.lt
  have hEW := HE.out.size
  have HGG := Lib.hid HG.out.good
  repeat' (first | refine X_q ?_ | refine X_nil ?_ | refine W_seqk (fun K hK => ?_) | refine W_seqr ?_ | refine W_block ?_ | refine W_tt ?_ | refine W_ff ?_ | go_step)
  refine X_fload HBS.out ?_ (hu := Tryz.underlying33)
  repeat' (first | refine X_q ?_ | fail)
  refine X_ret Tryz.func40 (serve11_all (N := fun k => F k ∨ X k ∨ k = b6) (fun k hk => hk.elim (fun h => by have := HFW.out k h; omega) (fun h => h.elim (fun h => by have := HXW.out k h; omega) (fun h => by omega))) (HVN.out.later HE.out) HGG.out a'.fetch a'.n) (fun r w1 hR => ?_)
  obtain ⟨hE1, v1, u1, rfl, ⟨oL, oI, oC, rfl, hVO⟩, hU⟩ := hR
  obtain ⟨B1, x1, rfl, -⟩ := hVO.rl.ent
  obtain ⟨B2, x2, rfl, -⟩ := hVO.ri.int
  obtain ⟨B3, x3, rfl, -⟩ := hVO.rc.int
  obtain ⟨B4, x4, rfl, -⟩ := hU.ent
  have HU := Lib.hid hU
  clear hU
  have HE1 := Lib.hid (Ext.trans HE.out hE1)
  have HVO := Lib.hid hVO
  replace HBS := Lib.hid (HBS.out.later hE1)
  replace HBA := Lib.hid (HBA.out.later hE1)
  replace HBO := Lib.hid (HBO.out.later hE1)
  clear hE1 hVO HE hbol hEW e0 e1 e13 e14 e15 e16 e17 hal
  clear hlt d0 d1 d2 d3 d4 d5 d6 d7 d8 d9 d10
  have HE := Lib.hid (Ext.refl w1)
  have hbol := HBO.out.lt
  have hEW := HE1.out.size
  have h61 := HBO.out.lt
  have hal := HBA.out.lt
  have e1 := HBA.out.cell (k := 1) (by omega)
  change World.cell? _ _ = some (.int .i64 a'.n) at e1
  have e13 := HBA.out.cell (k := 13) (by omega)
  change World.cell? _ _ = some (.int .i64 a'.fetch.src) at e13
  have e14 := HBA.out.cell (k := 14) (by omega)
  change World.cell? _ _ = some (.int .i64 a'.fetch.epoch) at e14
  have e15 := HBA.out.cell (k := 15) (by omega)
  change World.cell? _ _ = some (.int .i64 a'.fetch.offset) at e15
  have e16 := HBA.out.cell (k := 16) (by omega)
  change World.cell? _ _ = some (.int .i64 a'.fetch.last) at e16
  have e17 := HBA.out.cell (k := 17) (by omega)
  change World.cell? _ _ = some (.int .i64 a'.fetch.flushed) at e17
  (repeat' (first | refine X_q ?_ | fail)); (first | (refine X_var (fun yn b8 hn1 hn2 hn3 hn4 hn5 => ?_)) | (refine X_s (fun x K hK => ?_); go_simp; refine hK _ _ (Ext.alloc _ _) ?_; clear hK K; refine X_al x ?_; generalize (World.later _ x).heap.size = b8; intro yn hn1 hn2 hn3 hn4 hn5; clear x)); have HBb8 := Lib.hid (Blk.new hn5.out); have HEb8 := Lib.hid yn.ext; have hlb8 : (World.heap w1).size ≤ b8 := hn1; generalize World.later w1 yn = W8 at *; clear hn1 hn2 hn3 hn4 hn5 yn
  (skip); (first | (refine X_var (fun yn b20 hn1 hn2 hn3 hn4 hn5 => ?_)) | (refine X_s (fun x K hK => ?_); go_simp; refine hK _ _ (Ext.alloc _ _) ?_; clear hK K; refine X_al x ?_; generalize (World.later _ x).heap.size = b20; intro yn hn1 hn2 hn3 hn4 hn5; clear x)); have HBb20 := Lib.hid (Blk.new hn5.out); have HEb20 := Lib.hid yn.ext; have hlb20 : (World.heap W8).size ≤ b20 := hn1; generalize World.later W8 yn = W9 at *; clear hn1 hn2 hn3 hn4 hn5 yn
  have HBT := Lib.hid (HBb8.out.later HEb20.out)
  have HBP := HBb20
  replace HE := Lib.hid (Ext.trans HEb8.out HEb20.out)
  replace HBA := Lib.hid (HBA.out.later HE.out)
  replace HBO := Lib.hid (HBO.out.later HE.out)
  have h8b : b8 < b20 := by have := HBb8.out.lt; omega
  have hs8 := HEb8.out.size
  clear HBb8 HEb8 HBb20 HEb20 hbol HBS
  clear hal e1 e13 e14 e15 e16 e17
  have h8l := HBT.out.lt
  have h20l := HBP.out.lt
  skip
  refine X_store (off := 0) HBT.out (fun W1 hM1 hB1 => ?_); replace HE := Lib.hid (Ext.fresh HE.out hM1 (fun k hk => by subst hk; omega)); replace HBP := Lib.hid (HBP.out.mod hM1 (fun h => by omega)); replace HBA := Lib.hid (HBA.out.mod hM1 (fun h => by omega)); replace HBO := Lib.hid (HBO.out.mod hM1 (fun h => by omega)); replace HBT := Lib.hid hB1; clear hM1 hB1
  replace HBT := Lib.hid (fput HBT.out)
  clear h8l h20l
  have h8l := HBT.out.lt
  have h20l := HBP.out.lt
  skip
  refine X_store (off := 0) HBP.out (fun W1 hM1 hB1 => ?_); replace HE := Lib.hid (Ext.fresh HE.out hM1 (fun k hk => by subst hk; omega)); replace HBT := Lib.hid (HBT.out.mod hM1 (fun h => by omega)); replace HBA := Lib.hid (HBA.out.mod hM1 (fun h => by omega)); replace HBO := Lib.hid (HBO.out.mod hM1 (fun h => by omega)); replace HBP := Lib.hid hB1; clear hM1 hB1
  replace HBP := Lib.hid (HBP.out.congr (g' := fun k => ((s.reply a'.fetch a'.n).cs (.slice B4 (s.reply a'.fetch a'.n).entries.length x4)).getD k undef) (alln8 ⟨rfl, rfl, rfl, rfl, rfl, rfl, rfl, rfl⟩))
  clear h8l h20l
  have hal := HBA.out.lt
  have e1 := HBA.out.cell (k := 1) (by omega)
  change World.cell? _ _ = some (.int .i64 a'.n) at e1
  have e13 := HBA.out.cell (k := 13) (by omega)
  change World.cell? _ _ = some (.int .i64 a'.fetch.src) at e13
  have e14 := HBA.out.cell (k := 14) (by omega)
  change World.cell? _ _ = some (.int .i64 a'.fetch.epoch) at e14
  have e15 := HBA.out.cell (k := 15) (by omega)
  change World.cell? _ _ = some (.int .i64 a'.fetch.offset) at e15
  have e16 := HBA.out.cell (k := 16) (by omega)
  change World.cell? _ _ = some (.int .i64 a'.fetch.last) at e16
  have e17 := HBA.out.cell (k := 17) (by omega)
  change World.cell? _ _ = some (.int .i64 a'.fetch.flushed) at e17
  have hbol := HBO.out.lt
  have h8l := HBT.out.lt
  have h20l := HBP.out.lt
  repeat' (first | refine X_q ?_ | refine X_nil ?_ | refine W_seqk (fun K hK => ?_) | refine W_seqr ?_ | go_step)
  refine X_ret Tryz.func23 (serve_rep (((HH.out.later HE1.out).later HE.out).rep) HGG.out.ne HGG.out.may HGG.out.len HGG.out.bks a'.fetch a'.n) (fun r w4 hR => ?_)
  obtain ⟨⟨u2, rfl, hO2, -⟩, hM, hRp⟩ := hR
  have HR2 := Lib.hid (hO2.rd (enc := Ent.cs) (k := 6) (fun _ => rfl))
  obtain ⟨B5, x5, rfl, -⟩ := HR2.out.ent
  have HMc := Lib.hid hM
  have HRc := Lib.hid hRp
  have HEC := HE
  have hEs := HE.out.size
  have HU2 := Lib.hid (((HU.out.later HE.out).mod hM (fun k hk => .inl hk)).rd)
  replace HBO := Lib.hid (HBO.out.mod hM (fun h => by have := HFW.out _ h; omega))
  replace HBT := Lib.hid (HBT.out.mod hM (fun h => by have := HFW.out _ h; omega))
  replace HBP := Lib.hid (HBP.out.mod hM (fun h => by have := HFW.out _ h; omega))
  have hs4 := hM.size
  clear hM hRp hO2 HU HBA hbol h8l h20l
  clear hal e1 e13 e14 e15 e16 e17
  (repeat' (first | refine X_q ?_ | fail)); (first | (refine X_var (fun yn b22 hn1 hn2 hn3 hn4 hn5 => ?_)) | (refine X_s (fun x K hK => ?_); go_simp; refine hK _ _ (Ext.alloc _ _) ?_; clear hK K; refine X_al x ?_; generalize (World.later _ x).heap.size = b22; intro yn hn1 hn2 hn3 hn4 hn5; clear x)); have HBb22 := Lib.hid (Blk.new hn5.out); have HEb22 := Lib.hid yn.ext; have hlb22 : (World.heap w4).size ≤ b22 := hn1; generalize World.later w4 yn = W12 at *; clear hn1 hn2 hn3 hn4 hn5 yn
  have HBQ := HBb22
  have HM4 := HEb22
  replace HBT := Lib.hid (HBT.out.later HEb22.out)
  replace HBP := Lib.hid (HBP.out.later HEb22.out)
  have HBO4 := Lib.hid (HBO.out.later HEb22.out)
  clear HBb22 HEb22 HBO
  have hbol := HBO4.out.lt
  have h8l := HBT.out.lt
  have h20l := HBP.out.lt
  have h22l := HBQ.out.lt
  have p0 := HBP.out.cell (k := 0) (by simp)
  have p1 := HBP.out.cell (k := 1) (by simp)
  have p2 := HBP.out.cell (k := 2) (by simp)
  have p3 := HBP.out.cell (k := 3) (by simp)
  have p4 := HBP.out.cell (k := 4) (by simp)
  have p5 := HBP.out.cell (k := 5) (by simp)
  have p6 := HBP.out.cell (k := 6) (by simp)
  have p7 := HBP.out.cell (k := 7) (by simp)
  simp at p0 p1 p2 p3 p4 p5 p6 p7
  have q0 := HBQ.out.cell (k := 0) (by simp)
  have q1 := HBQ.out.cell (k := 1) (by simp)
  have q2 := HBQ.out.cell (k := 2) (by simp)
  have q3 := HBQ.out.cell (k := 3) (by simp)
  have q4 := HBQ.out.cell (k := 4) (by simp)
  have q5 := HBQ.out.cell (k := 5) (by simp)
  have q6 := HBQ.out.cell (k := 6) (by simp)
  have q7 := HBQ.out.cell (k := 7) (by simp)
  simp at q0 q1 q2 q3 q4 q5 q6 q7
  repeat' (first | refine X_q ?_ | refine X_nil ?_ | refine W_seqk (fun K hK => ?_) | go_step)
  obtain ⟨G, hG⟩ : ∃ G : Nat → Prop, G = (fun k => k = b6) := ⟨_, rfl⟩; have HGo : Hid (G b6) := Lib.hid (by subst hG; rfl); have hGb8 : ¬ G b8 := (by subst hG; show ¬ b8 = b6; omega); have hGb20 : ¬ G b20 := (by subst hG; show ¬ b20 = b6; omega); have hGb22 : ¬ G b22 := (by subst hG; show ¬ b22 = b6; omega); clear hG
  refine W_drawG G [(0, 0), (1, 3), (2, 3), (3, 1), (4, 0), (5, 0), (6, 0), (7, 0), (8, 0), (9, 2), (10, 0)] (by kernel_rfl) (by kernel_rfl) ?_
  (first | refine Y_floadr HBT.out ?_ (hu := Tryz.underlying33) | refine Y_fload HBT.out hGb8 ?_ (hu := Tryz.underlying33))
  repeat' (first | refine Y_r ?_ | fail)
  refine Y_pure Tryz.func41 (fun x => samereply_calls ((HR2.out.later HM4.out).later x.2) ((HU2.out.later HM4.out).later x.2)) ?_
  repeat' (first | refine Y_gt ?_ | refine Y_q ?_ | fail)
  refine Y_store (off := 0) HBO4.out HGo.out (fun W5 hM5 hG5x hB5 => ?_)
  have HM5 := Lib.hid hM5
  have HB5 := Lib.hid (fput hB5)
  clear hM5 hG5x hB5
  repeat' (first | refine Y_q ?_ | refine Y_nil ?_)
  repeat' (first | refine W_ret ?_ | go_step)
  have HM6 := Lib.hid (Mod.trans (H := (· = b6)) HM4.out HM5.out (fun _ _ h => h.elim) (fun _ _ h => h))
  exact Body_retcellv (cs := RepS.cs (s.serve a'.fetch a'.n) _ _ _) hd (does_end HH.out HE1.out HEC.out HMc.out HRc.out HM6.out h6W h61 HVO.out) HB5.out (fun k hk => cs_fenc hk) Tryz.underlying33
end Go.Ws

namespace Go.Ws
open Go Go.RowKit Go.Proofs
set_option maxHeartbeats 4000000
set_option maxRecDepth 100000
set_option linter.unusedVariables false
set_option linter.unusedSimpArgs false

theorem does6_calls {w0 W : World} {b : Nat} {F X : Nat → Prop} {s : RepS} {uL uI uC vI vE vL : Value} {a : ActD} (h : HR w0 W b F s) (hg : s.Fine) (hX : ∀ k, X k → k < W.heap.size) (hv : VR (fun k => F k ∨ X k) W uL uI uC s) (ha : ActR (fun k => F k ∨ X k) W vI vE vL a) (hk : a.kind = 6) (hbe : a.reply.entries.length ≤ 20) :
    Ret Tryz.prog 16 #[.pointer (some ⟨b, 0, none⟩), s.v uL uI uC, a.v vI vE vL] W fun r W' => DoesR w0 W b F X (s.step (a.atS s)) r W' := by
  have HH := Lib.hid h
  have HG := Lib.hid hg
  have HXW := Lib.hid hX
  clear hX
  have HVR := Lib.hid hv
  have HAC := Lib.hid (ha.at s)
  have NEAR : Hid (∀ W', Ext W W' → Ret Tryz.prog 35 #[a.v vI vE vL, s.v uL uI uC] W' fun r w' => Ext W' w' ∧ r = (a.atS s).v vI vE vL) := Lib.hid (fun W' hE => near_calls (hv.later hE) hg.good hg.ver (ha.later hE))
  have hka : (a.atS s).kind = 6 := (atS_kind a s).1.trans hk
  have ht : s.step (a.atS s) = s.take (a.atS s).reply := by unfold RepS.step; simp [hka]
  rw [ht]
  clear ht
  have HEN : Hid ((a.atS s).reply.entries.length ≤ 20) := Lib.hid (by rw [(atS_kind a s).2.2.2.2.2]; exact hbe)
  clear hbe
  obtain ⟨A1, c1, rfl, -⟩ := hv.rl.rd.ent
  obtain ⟨A2, c2, rfl, -⟩ := hv.ri.rd.int
  obtain ⟨A3, c3, rfl, -⟩ := hv.rc.rd.int
  clear h hg hv ha hk
  generalize a.atS s = a' at *
  obtain ⟨A4, c4, rfl, -⟩ := HAC.out.ri.int
  obtain ⟨A5, c5, rfl, -⟩ := HAC.out.re.ent
  obtain ⟨A6, c6, rfl, -⟩ := HAC.out.rl.int
  refine Fn_of Tryz.func16 rfl (Nat.le_of_ble_eq_true rfl) ?_; intro A hd hA; simp only [ix, Nat.reduceAdd]; replace hA : A.tmps.size = 268 := hA
  (repeat' (first | refine W_seqk (fun K hK => ?_) | refine W_seqr ?_ | fail)); (first | (refine X_var (fun yn b4 hn1 hn2 hn3 hn4 hn5 => ?_)) | (refine X_s (fun x K hK => ?_); go_simp; refine hK _ _ (Ext.alloc _ _) ?_; clear hK K; refine X_al x ?_; generalize (World.later _ x).heap.size = b4; intro yn hn1 hn2 hn3 hn4 hn5; clear x)); have HBb4 := Lib.hid (Blk.new hn5.out); have HEb4 := Lib.hid yn.ext; have hlb4 : (World.heap W).size ≤ b4 := hn1; generalize World.later W yn = W0 at *; clear hn1 hn2 hn3 hn4 hn5 yn
  (skip); (first | (refine X_var (fun yn b5 hn1 hn2 hn3 hn4 hn5 => ?_)) | (refine X_s (fun x K hK => ?_); go_simp; refine hK _ _ (Ext.alloc _ _) ?_; clear hK K; refine X_al x ?_; generalize (World.later _ x).heap.size = b5; intro yn hn1 hn2 hn3 hn4 hn5; clear x)); have HBb5 := Lib.hid (Blk.new hn5.out); have HEb5 := Lib.hid yn.ext; have hlb5 : (World.heap W0).size ≤ b5 := hn1; generalize World.later W0 yn = W1 at *; clear hn1 hn2 hn3 hn4 hn5 yn
  (skip); (first | (refine X_var (fun yn b6 hn1 hn2 hn3 hn4 hn5 => ?_)) | (refine X_s (fun x K hK => ?_); go_simp; refine hK _ _ (Ext.alloc _ _) ?_; clear hK K; refine X_al x ?_; generalize (World.later _ x).heap.size = b6; intro yn hn1 hn2 hn3 hn4 hn5; clear x)); have HBb6 := Lib.hid (Blk.new hn5.out); have HEb6 := Lib.hid yn.ext; have hlb6 : (World.heap W1).size ≤ b6 := hn1; generalize World.later W1 yn = W2 at *; clear hn1 hn2 hn3 hn4 hn5 yn
  have HBS := Lib.hid ((fbox2 HBb4.out).later (Ext.trans HEb5.out HEb6.out))
  have HBA : Hid (Blk W2 b5 51 27 (aenc a (.slice A4 a'.view.isr.length c4) (.slice A5 a'.reply.entries.length c5) (.slice A6 a'.list.length c6))) := Lib.hid ((HBb5.out.later HEb6.out).congr (fun k hk => rfl))
  have HBO := HBb6
  have HE := Lib.hid (Ext.trans (Ext.trans HEb4.out HEb5.out) HEb6.out)
  have hbb : b4 < b5 := by have := HBb4.out.lt; omega
  have hbb2 : b5 < b6 := by have := HBb5.out.lt; omega
  have hs0 := HEb4.out.size
  have hs1 := HEb5.out.size
  have h6W : W.heap.size ≤ b6 := by omega
  clear HBb4 HBb5 HBb6 HEb4 HEb5 HEb6
  have HFW : Hid (∀ k, F k → k < W.heap.size) := Lib.hid (fun k hk => (HH.out.hi k hk).2)
  have HVN := Lib.hid (HVR.out.wide (N' := fun k => F k ∨ X k ∨ k = b6) (fun k hk => hk.elim (fun h => .inl (.inl h)) (fun h => h.elim (fun h => .inl (.inr h)) (fun e => .inr (by subst e; exact h6W)))))
  have HAN := Lib.hid (HAC.out.wide (N' := fun k => F k ∨ X k ∨ k = b6) (fun k hk => hk.elim (fun h => .inl (.inl h)) (fun h => h.elim (fun h => .inl (.inr h)) (fun e => .inr (by subst e; exact h6W)))))
  clear HVR HAC
  have hal := HBA.out.lt
  have hsl := HBS.out.lt
  repeat' (first | refine X_q ?_ | refine X_nil ?_ | refine W_seqk (fun K hK => ?_) | refine W_seqr ?_ | go_step)
  refine X_aload HBA.out ?_ (hu := Tryz.underlying51)
  skip
  refine X_fload HBS.out ?_ (hu := Tryz.underlying33)
  skip
  refine X_ret Tryz.func35 (NEAR.out _ HE.out) (fun r w1 hR => ?_)
  obtain ⟨hE1, rfl⟩ := hR
  replace HBS := Lib.hid (HBS.out.later hE1)
  replace HBA := Lib.hid (HBA.out.later hE1)
  replace HBO := Lib.hid (HBO.out.later hE1)
  replace HE := Lib.hid (Ext.trans HE.out hE1)
  clear hE1 NEAR hal hsl
  have hal := HBA.out.lt
  skip
  refine X_store (off := 0) HBA.out (fun W1 hM1 hB1 => ?_); replace HE := Lib.hid (Ext.fresh HE.out hM1 (fun k hk => by subst hk; omega)); replace HBS := Lib.hid (HBS.out.mod hM1 (fun h => by omega)); replace HBO := Lib.hid (HBO.out.mod hM1 (fun h => by omega)); replace HBA := Lib.hid hB1; clear hM1 hB1
  replace HBA := Lib.hid (HBA.out.congr (g' := aenc a' (.slice A4 a'.view.isr.length c4) (.slice A5 a'.reply.entries.length c5) (.slice A6 a'.list.length c6)) (all27 ⟨rfl, rfl, rfl, rfl, rfl, rfl, rfl, rfl, rfl, rfl, rfl, rfl, rfl, rfl, rfl, rfl, rfl, rfl, rfl, rfl, rfl, rfl, rfl, rfl, rfl, rfl, rfl⟩))
  clear hal
  obtain ⟨hlt, d0, d1, d2, d3, d4, d5, d6, d7, d8, d9, d10⟩ := fcells HBS.out
  have hal := HBA.out.lt
  have e0 := HBA.out.cell (k := 0) (by omega)
  change World.cell? _ _ = some (.int .i64 a'.kind) at e0
  have e18 := HBA.out.cell (k := 18) (by omega)
  change World.cell? _ _ = some (.int .i64 a'.reply.epoch) at e18
  have e19 := HBA.out.cell (k := 19) (by omega)
  change World.cell? _ _ = some (.int .i64 a'.reply.base) at e19
  have e20 := HBA.out.cell (k := 20) (by omega)
  change World.cell? _ _ = some (.int .i64 a'.reply.last) at e20
  have e21 := HBA.out.cell (k := 21) (by omega)
  change World.cell? _ _ = some (.bool a'.reply.cut) at e21
  have e22 := HBA.out.cell (k := 22) (by omega)
  change World.cell? _ _ = some (.int .i64 a'.reply.cutEpoch) at e22
  have e23 := HBA.out.cell (k := 23) (by omega)
  change World.cell? _ _ = some (.int .i64 a'.reply.cutEnd) at e23
  have e24 := HBA.out.cell (k := 24) (by omega)
  change World.cell? _ _ = some (.slice A5 a'.reply.entries.length c5) at e24
  have e25 := HBA.out.cell (k := 25) (by omega)
  change World.cell? _ _ = some (.int .i64 a'.reply.high) at e25
  rw [hka] at e0
  have hbol := HBO.out.lt
  have hEW := HE.out.size
  have HGG := Lib.hid HG.out.good
  repeat' (first | refine X_q ?_ | refine X_nil ?_ | refine W_seqk (fun K hK => ?_) | refine W_seqr ?_ | refine W_block ?_ | refine W_tt ?_ | refine W_ff ?_ | go_step)
  refine X_fload HBS.out ?_ (hu := Tryz.underlying33)
  repeat' (first | refine X_q ?_ | fail)
  refine X_ret Tryz.func42 (take11_calls (N := fun k => F k ∨ X k ∨ k = b6) (p := a'.reply) (fun k hk => hk.elim (fun h => by have := HFW.out k h; omega) (fun h => h.elim (fun h => by have := HXW.out k h; omega) (fun h => by omega))) (HVN.out.later HE.out) HGG.out.len HGG.out.may (HAN.out.later HE.out).re.rd (by have := HEN.out; omega)) (fun r w1 hR => ?_)
  obtain ⟨hE1, v1, rfl, oL, oI, oC, rfl, hVO⟩ := hR
  obtain ⟨B1, x1, rfl, -⟩ := hVO.rl.ent
  obtain ⟨B2, x2, rfl, -⟩ := hVO.ri.int
  obtain ⟨B3, x3, rfl, -⟩ := hVO.rc.int
  have HE1 := Lib.hid (Ext.trans HE.out hE1)
  have HVO := Lib.hid hVO
  replace HBS := Lib.hid (HBS.out.later hE1)
  replace HBA := Lib.hid (HBA.out.later hE1)
  replace HBO := Lib.hid (HBO.out.later hE1)
  clear hE1 hVO HE hbol hEW e0 e18 e19 e20 e21 e22 e23 e24 e25 hal
  clear hlt d0 d1 d2 d3 d4 d5 d6 d7 d8 d9 d10
  have HE := Lib.hid (Ext.refl w1)
  have hbol := HBO.out.lt
  have hEW := HE1.out.size
  have h61 := HBO.out.lt
  have hal := HBA.out.lt
  have e18 := HBA.out.cell (k := 18) (by omega)
  change World.cell? _ _ = some (.int .i64 a'.reply.epoch) at e18
  have e19 := HBA.out.cell (k := 19) (by omega)
  change World.cell? _ _ = some (.int .i64 a'.reply.base) at e19
  have e20 := HBA.out.cell (k := 20) (by omega)
  change World.cell? _ _ = some (.int .i64 a'.reply.last) at e20
  have e21 := HBA.out.cell (k := 21) (by omega)
  change World.cell? _ _ = some (.bool a'.reply.cut) at e21
  have e22 := HBA.out.cell (k := 22) (by omega)
  change World.cell? _ _ = some (.int .i64 a'.reply.cutEpoch) at e22
  have e23 := HBA.out.cell (k := 23) (by omega)
  change World.cell? _ _ = some (.int .i64 a'.reply.cutEnd) at e23
  have e24 := HBA.out.cell (k := 24) (by omega)
  change World.cell? _ _ = some (.slice A5 a'.reply.entries.length c5) at e24
  have e25 := HBA.out.cell (k := 25) (by omega)
  change World.cell? _ _ = some (.int .i64 a'.reply.high) at e25
  (repeat' (first | refine X_q ?_ | fail)); (first | (refine X_var (fun yn b8 hn1 hn2 hn3 hn4 hn5 => ?_)) | (refine X_s (fun x K hK => ?_); go_simp; refine hK _ _ (Ext.alloc _ _) ?_; clear hK K; refine X_al x ?_; generalize (World.later _ x).heap.size = b8; intro yn hn1 hn2 hn3 hn4 hn5; clear x)); have HBb8 := Lib.hid (Blk.new hn5.out); have HEb8 := Lib.hid yn.ext; have hlb8 : (World.heap w1).size ≤ b8 := hn1; generalize World.later w1 yn = W8 at *; clear hn1 hn2 hn3 hn4 hn5 yn
  have HBT := Lib.hid (fbox2 HBb8.out)
  replace HE := Lib.hid (HEb8.out)
  replace HBS := Lib.hid (HBS.out.later HEb8.out)
  replace HBA := Lib.hid (HBA.out.later HEb8.out)
  replace HBO := Lib.hid (HBO.out.later HEb8.out)
  clear HBb8 HEb8
  clear hbol
  clear hal e18 e19 e20 e21 e22 e23 e24 e25

  have hal := HBA.out.lt
  have e18 := HBA.out.cell (k := 18) (by omega)
  change World.cell? _ _ = some (.int .i64 a'.reply.epoch) at e18
  have e19 := HBA.out.cell (k := 19) (by omega)
  change World.cell? _ _ = some (.int .i64 a'.reply.base) at e19
  have e20 := HBA.out.cell (k := 20) (by omega)
  change World.cell? _ _ = some (.int .i64 a'.reply.last) at e20
  have e21 := HBA.out.cell (k := 21) (by omega)
  change World.cell? _ _ = some (.bool a'.reply.cut) at e21
  have e22 := HBA.out.cell (k := 22) (by omega)
  change World.cell? _ _ = some (.int .i64 a'.reply.cutEpoch) at e22
  have e23 := HBA.out.cell (k := 23) (by omega)
  change World.cell? _ _ = some (.int .i64 a'.reply.cutEnd) at e23
  have e24 := HBA.out.cell (k := 24) (by omega)
  change World.cell? _ _ = some (.slice A5 a'.reply.entries.length c5) at e24
  have e25 := HBA.out.cell (k := 25) (by omega)
  change World.cell? _ _ = some (.int .i64 a'.reply.high) at e25
  have hbol := HBO.out.lt
  have h8l := HBT.out.lt
  repeat' (first | refine X_q ?_ | refine X_nil ?_ | refine W_seqk (fun K hK => ?_) | go_step)
  obtain ⟨G, hG⟩ : ∃ G : Nat → Prop, G = (fun k => F k ∨ k = b6) := ⟨_, rfl⟩
  have HGo : Hid (G b6) := Lib.hid (by subst hG; exact .inr rfl)
  have HFG : Hid (∀ k, F k → G k) := Lib.hid (fun k hk => by subst hG; exact .inl hk)
  have hG4 : ¬ G b4 := (by subst hG; rintro (h | h); (have := HFW.out _ h; omega); omega)
  have hG5 : ¬ G b5 := (by subst hG; rintro (h | h); (have := HFW.out _ h; omega); omega)
  have hG8 : ¬ G b8 := (by subst hG; rintro (h | h); (have := HFW.out _ h; omega); omega)
  clear hG
  refine W_drawG G [(0, 0), (1, 0), (2, 0), (3, 3), (5, 0), (4, 1), (6, 0), (7, 2), (8, 0)] (by kernel_rfl) (by kernel_rfl) ?_
  refine Y_fload HBT.out hG8 ?_ (hu := Tryz.underlying33)
  repeat' (first | refine Y_q ?_ | refine Y_r ?_ | fail)
  refine Y_ret Tryz.func27 (R := ProgR F b (s.take a'.reply) (· = .int .i64 (s.takeNo a'.reply)) _) (fun x => prog_ret x (take_rep (p := a'.reply) ((((HH.out.later HE1.out).later HE.out).later x.2).rep) HGG.out.ne HGG.out.may HGG.out.len (((HAN.out.later HE1.out).later HE.out).later x.2).re.rd (by have := HEN.out; omega)) HFG.out) (fun r w4 hR => ?_)
  obtain ⟨rfl, hM, hRp⟩ := hR
  have HMc := Lib.hid hM
  have HRc := Lib.hid hRp
  have HEC := HE
  have HBO4 := Lib.hid (HBO.out.mod hM (fun h => by have := HFW.out _ h; omega))
  clear hM hRp HBT HBA HBS
  repeat' (first | refine Y_q ?_ | fail)
  refine Y_store (off := 0) HBO4.out HGo.out (fun W5 hM5 hG5x hB5 => ?_)
  have HM5 := Lib.hid hM5
  have HB5 := Lib.hid (fput hB5)
  clear hM5 hG5x hB5
  repeat' (first | refine Y_q ?_ | refine Y_nil ?_)
  repeat' (first | refine W_ret ?_ | go_step)
  exact Body_retcellv (cs := RepS.cs (s.take a'.reply) _ _ _) hd (does_end HH.out HE1.out HEC.out HMc.out HRc.out HM5.out h6W h61 HVO.out) HB5.out (fun k hk => cs_fenc hk) Tryz.underlying33
end Go.Ws
namespace Go.Ws
open Go Go.RowKit Go.Proofs
set_option maxHeartbeats 2000000
set_option maxRecDepth 100000
set_option linter.unusedVariables false
set_option linter.unusedSimpArgs false

theorem crash_no {w : World} {b : Nat} {F : Nat → Prop} {s : RepS} (h : Rep w b F s) (hs : s.least ≠ 0) (keep : Int) (hk : keep < 0) :
    Ret Tryz.prog 19 #[.pointer (some ⟨b, 0, none⟩), .int .i64 keep] w fun r w' => r = .int .i64 2 ∧ Ext w w' := by
  have HP := Lib.hid h
  have hkb : decide (0 ≤ keep) = false := by simp; omega
  have hkn : ¬ 0 ≤ keep := by omega
  clear h
  refine Fn_ofD Tryz.func19 rfl (Nat.le_of_ble_eq_true rfl) ?_; intro A hd hA; simp only [ix, Nat.reduceAdd]; replace hA : A.tmps.size = 56 := hA
  repeat' (first | refine X_nil ?_ | refine W_seqk (fun K hK => ?_) | refine W_seqr ?_ | (refine X_s (fun x K hK => ?_); go_simp; refine hK _ _ (Ext.alloc _ _) ?_; clear hK K; refine X_al x ?_; generalize (World.later _ x).heap.size = bn; intro yn hn1 hn2 hn3 hn4 hn5; clear x) | go_step)
  refine X_defc (be := bn) hd hA (fun W hE => by unfold execOp caughtD; go_simp) ?_; have hbe := Lib.hid (Blk.one hn5.out); clear hd hA A; intro A hd hA; obtain ⟨be, hbe0⟩ : ∃ be : Nat, be = bn := ⟨_, rfl⟩; subst hbe0
  have HBE := Lib.hid hbe.out
  have hE : Ext w (w.later yn) := yn.ext
  have HE := Lib.hid hE
  have hwbe : w.heap.size ≤ be := by omega
  have HP1 := Lib.hid (HP.out.later hE)
  generalize World.later _ yn = W at *
  clear hbe hE hn1 hn2 hn3 hn4 hn5 yn
  repeat' (first | refine X_pure Tryz.func33 (none_of HP1.out hs) ?_ | (refine X_pure Tryz.func50 (must_ok 1) ?_) | refine X_q ?_ | refine X_nil ?_ | refine W_seqk (fun K hK => ?_) | refine W_seqr ?_ | go_step)
  refine X_die Tryz.func50 (must_no 2) (fun c w' hC => ?_)
  obtain ⟨rfl, hE4⟩ := hC
  refine End_no1 hd (HBE.out.later hE4) (fun W1 hM => ?_)
  exact ⟨rfl, Ext.fresh (Ext.trans HE.out hE4) hM (fun k hk => by subst hk; exact hwbe)⟩
theorem crash_rep {w : World} {b : Nat} {F : Nat → Prop} {s : RepS} (h : Rep w b F s) (hs : s.least ≠ 0) (hl : s.log.length ≤ 4096) (hf0 : 0 ≤ s.flushed) (hf1 : s.flushed ≤ s.log.length) (keep : Int) :
    Ret Tryz.prog 19 #[.pointer (some ⟨b, 0, none⟩), .int .i64 keep] w fun r w' => r = .int .i64 (s.crash keep).2 ∧ Mod F w w' ∧ Rep w' b (fun k => F k ∨ w.heap.size ≤ k) (s.crash keep).1 := by
  by_cases hk : keep < 0
  · have hc : s.crash keep = (s, 2) := by unfold RepS.crash; rw [if_pos hk]
    rw [hc]
    refine Ret.mono (crash_no h hs keep hk) fun r w' hR => ⟨hR.1, hR.2.mono (fun _ _ h => h.elim), (h.later hR.2).mono (fun k hk => .inl hk)⟩
  · have hc : (s.crash keep).2 = 0 := by unfold RepS.crash; rw [if_neg hk]
    rw [hc]
    exact crash_ok h hs hl hf0 hf1 keep (by omega)
end Go.Ws
namespace Go.Ws
open Go Go.RowKit Go.Proofs
set_option maxHeartbeats 4000000
set_option maxRecDepth 100000
set_option linter.unusedVariables false
set_option linter.unusedSimpArgs false

theorem does8_calls {w0 W : World} {b : Nat} {F X : Nat → Prop} {s : RepS} {uL uI uC vI vE vL : Value} {a : ActD} (h : HR w0 W b F s) (hg : s.Fine) (hX : ∀ k, X k → k < W.heap.size) (hv : VR (fun k => F k ∨ X k) W uL uI uC s) (ha : ActR (fun k => F k ∨ X k) W vI vE vL a) (hk : a.kind = 8) :
    Ret Tryz.prog 16 #[.pointer (some ⟨b, 0, none⟩), s.v uL uI uC, a.v vI vE vL] W fun r W' => DoesR w0 W b F X (s.step (a.atS s)) r W' := by
  have HH := Lib.hid h
  have HG := Lib.hid hg
  have HXW := Lib.hid hX
  clear hX
  have HVR := Lib.hid hv
  have HAC := Lib.hid (ha.at s)
  have NEAR : Hid (∀ W', Ext W W' → Ret Tryz.prog 35 #[a.v vI vE vL, s.v uL uI uC] W' fun r w' => Ext W' w' ∧ r = (a.atS s).v vI vE vL) := Lib.hid (fun W' hE => near_calls (hv.later hE) hg.good hg.ver (ha.later hE))
  have hka : (a.atS s).kind = 8 := (atS_kind a s).1.trans hk
  have ht : s.step (a.atS s) = (s.crash (a.atS s).n).1 := by unfold RepS.step; simp [hka]
  rw [ht]
  clear ht
  obtain ⟨A1, c1, rfl, -⟩ := hv.rl.rd.ent
  obtain ⟨A2, c2, rfl, -⟩ := hv.ri.rd.int
  obtain ⟨A3, c3, rfl, -⟩ := hv.rc.rd.int
  clear h hg hv ha hk
  generalize a.atS s = a' at *
  obtain ⟨A4, c4, rfl, -⟩ := HAC.out.ri.int
  obtain ⟨A5, c5, rfl, -⟩ := HAC.out.re.ent
  obtain ⟨A6, c6, rfl, -⟩ := HAC.out.rl.int
  refine Fn_of Tryz.func16 rfl (Nat.le_of_ble_eq_true rfl) ?_; intro A hd hA; simp only [ix, Nat.reduceAdd]; replace hA : A.tmps.size = 268 := hA
  (repeat' (first | refine W_seqk (fun K hK => ?_) | refine W_seqr ?_ | fail)); (first | (refine X_var (fun yn b4 hn1 hn2 hn3 hn4 hn5 => ?_)) | (refine X_s (fun x K hK => ?_); go_simp; refine hK _ _ (Ext.alloc _ _) ?_; clear hK K; refine X_al x ?_; generalize (World.later _ x).heap.size = b4; intro yn hn1 hn2 hn3 hn4 hn5; clear x)); have HBb4 := Lib.hid (Blk.new hn5.out); have HEb4 := Lib.hid yn.ext; have hlb4 : (World.heap W).size ≤ b4 := hn1; generalize World.later W yn = W0 at *; clear hn1 hn2 hn3 hn4 hn5 yn
  (skip); (first | (refine X_var (fun yn b5 hn1 hn2 hn3 hn4 hn5 => ?_)) | (refine X_s (fun x K hK => ?_); go_simp; refine hK _ _ (Ext.alloc _ _) ?_; clear hK K; refine X_al x ?_; generalize (World.later _ x).heap.size = b5; intro yn hn1 hn2 hn3 hn4 hn5; clear x)); have HBb5 := Lib.hid (Blk.new hn5.out); have HEb5 := Lib.hid yn.ext; have hlb5 : (World.heap W0).size ≤ b5 := hn1; generalize World.later W0 yn = W1 at *; clear hn1 hn2 hn3 hn4 hn5 yn
  (skip); (first | (refine X_var (fun yn b6 hn1 hn2 hn3 hn4 hn5 => ?_)) | (refine X_s (fun x K hK => ?_); go_simp; refine hK _ _ (Ext.alloc _ _) ?_; clear hK K; refine X_al x ?_; generalize (World.later _ x).heap.size = b6; intro yn hn1 hn2 hn3 hn4 hn5; clear x)); have HBb6 := Lib.hid (Blk.new hn5.out); have HEb6 := Lib.hid yn.ext; have hlb6 : (World.heap W1).size ≤ b6 := hn1; generalize World.later W1 yn = W2 at *; clear hn1 hn2 hn3 hn4 hn5 yn
  have HBS := Lib.hid ((fbox2 HBb4.out).later (Ext.trans HEb5.out HEb6.out))
  have HBA : Hid (Blk W2 b5 51 27 (aenc a (.slice A4 a'.view.isr.length c4) (.slice A5 a'.reply.entries.length c5) (.slice A6 a'.list.length c6))) := Lib.hid ((HBb5.out.later HEb6.out).congr (fun k hk => rfl))
  have HBO := HBb6
  have HE := Lib.hid (Ext.trans (Ext.trans HEb4.out HEb5.out) HEb6.out)
  have hbb : b4 < b5 := by have := HBb4.out.lt; omega
  have hbb2 : b5 < b6 := by have := HBb5.out.lt; omega
  have hs0 := HEb4.out.size
  have hs1 := HEb5.out.size
  have h6W : W.heap.size ≤ b6 := by omega
  clear HBb4 HBb5 HBb6 HEb4 HEb5 HEb6
  have HFW : Hid (∀ k, F k → k < W.heap.size) := Lib.hid (fun k hk => (HH.out.hi k hk).2)
  have HVN := Lib.hid (HVR.out.wide (N' := fun k => F k ∨ X k ∨ k = b6) (fun k hk => hk.elim (fun h => .inl (.inl h)) (fun h => h.elim (fun h => .inl (.inr h)) (fun e => .inr (by subst e; exact h6W)))))
  have HAN := Lib.hid (HAC.out.wide (N' := fun k => F k ∨ X k ∨ k = b6) (fun k hk => hk.elim (fun h => .inl (.inl h)) (fun h => h.elim (fun h => .inl (.inr h)) (fun e => .inr (by subst e; exact h6W)))))
  clear HVR HAC
  have hal := HBA.out.lt
  have hsl := HBS.out.lt
  repeat' (first | refine X_q ?_ | refine X_nil ?_ | refine W_seqk (fun K hK => ?_) | refine W_seqr ?_ | go_step)
  refine X_aload HBA.out ?_ (hu := Tryz.underlying51)
  skip
  refine X_fload HBS.out ?_ (hu := Tryz.underlying33)
  skip
  refine X_ret Tryz.func35 (NEAR.out _ HE.out) (fun r w1 hR => ?_)
  obtain ⟨hE1, rfl⟩ := hR
  replace HBS := Lib.hid (HBS.out.later hE1)
  replace HBA := Lib.hid (HBA.out.later hE1)
  replace HBO := Lib.hid (HBO.out.later hE1)
  replace HE := Lib.hid (Ext.trans HE.out hE1)
  clear hE1 NEAR hal hsl
  have hal := HBA.out.lt
  skip
  refine X_store (off := 0) HBA.out (fun W1 hM1 hB1 => ?_); replace HE := Lib.hid (Ext.fresh HE.out hM1 (fun k hk => by subst hk; omega)); replace HBS := Lib.hid (HBS.out.mod hM1 (fun h => by omega)); replace HBO := Lib.hid (HBO.out.mod hM1 (fun h => by omega)); replace HBA := Lib.hid hB1; clear hM1 hB1
  replace HBA := Lib.hid (HBA.out.congr (g' := aenc a' (.slice A4 a'.view.isr.length c4) (.slice A5 a'.reply.entries.length c5) (.slice A6 a'.list.length c6)) (all27 ⟨rfl, rfl, rfl, rfl, rfl, rfl, rfl, rfl, rfl, rfl, rfl, rfl, rfl, rfl, rfl, rfl, rfl, rfl, rfl, rfl, rfl, rfl, rfl, rfl, rfl, rfl, rfl⟩))
  clear hal
  obtain ⟨hlt, d0, d1, d2, d3, d4, d5, d6, d7, d8, d9, d10⟩ := fcells HBS.out
  have hal := HBA.out.lt
  have e0 := HBA.out.cell (k := 0) (by omega)
  change World.cell? _ _ = some (.int .i64 a'.kind) at e0
  have e1 := HBA.out.cell (k := 1) (by omega)
  change World.cell? _ _ = some (.int .i64 a'.n) at e1
  rw [hka] at e0
  have hbol := HBO.out.lt
  have hEW := HE.out.size
  have HGG := Lib.hid HG.out.good
  repeat' (first | refine X_q ?_ | refine X_nil ?_ | refine W_seqk (fun K hK => ?_) | refine W_seqr ?_ | refine W_block ?_ | refine W_tt ?_ | refine W_ff ?_ | go_step)
  refine X_fload HBS.out ?_ (hu := Tryz.underlying33)
  repeat' (first | refine X_q ?_ | fail)
  refine X_ret Tryz.func44 (crash11_calls (N := fun k => F k ∨ X k ∨ k = b6) (HVN.out.later HE.out) HGG.out.len HGG.out.fl.1 HGG.out.fl.2 a'.n) (fun r w1 hR => ?_)
  obtain ⟨hE1, v1, rfl, oL, oI, oC, rfl, hVO⟩ := hR
  obtain ⟨B1, x1, rfl, -⟩ := hVO.rl.ent
  obtain ⟨B2, x2, rfl, -⟩ := hVO.ri.int
  obtain ⟨B3, x3, rfl, -⟩ := hVO.rc.int
  have HE1 := Lib.hid (Ext.trans HE.out hE1)
  have HVO := Lib.hid hVO
  replace HBS := Lib.hid (HBS.out.later hE1)
  replace HBA := Lib.hid (HBA.out.later hE1)
  replace HBO := Lib.hid (HBO.out.later hE1)
  clear hE1 hVO HE hbol hEW e0 e1 hal
  clear hlt d0 d1 d2 d3 d4 d5 d6 d7 d8 d9 d10
  have HE := Lib.hid (Ext.refl w1)
  have hbol := HBO.out.lt
  have hEW := HE1.out.size
  have h61 := HBO.out.lt
  have hal := HBA.out.lt
  have e1 := HBA.out.cell (k := 1) (by omega)
  change World.cell? _ _ = some (.int .i64 a'.n) at e1
  (repeat' (first | refine X_q ?_ | fail)); (first | (refine X_var (fun yn b8 hn1 hn2 hn3 hn4 hn5 => ?_)) | (refine X_s (fun x K hK => ?_); go_simp; refine hK _ _ (Ext.alloc _ _) ?_; clear hK K; refine X_al x ?_; generalize (World.later _ x).heap.size = b8; intro yn hn1 hn2 hn3 hn4 hn5; clear x)); have HBb8 := Lib.hid (Blk.new hn5.out); have HEb8 := Lib.hid yn.ext; have hlb8 : (World.heap w1).size ≤ b8 := hn1; generalize World.later w1 yn = W8 at *; clear hn1 hn2 hn3 hn4 hn5 yn
  have HBT := Lib.hid (fbox2 HBb8.out)
  replace HE := Lib.hid (HEb8.out)
  replace HBS := Lib.hid (HBS.out.later HEb8.out)
  replace HBA := Lib.hid (HBA.out.later HEb8.out)
  replace HBO := Lib.hid (HBO.out.later HEb8.out)
  clear HBb8 HEb8
  clear hbol
  clear hal e1

  have hal := HBA.out.lt
  have e1 := HBA.out.cell (k := 1) (by omega)
  change World.cell? _ _ = some (.int .i64 a'.n) at e1
  have hbol := HBO.out.lt
  have h8l := HBT.out.lt
  repeat' (first | refine X_q ?_ | refine X_nil ?_ | refine W_seqk (fun K hK => ?_) | go_step)
  obtain ⟨G, hG⟩ : ∃ G : Nat → Prop, G = (fun k => F k ∨ k = b6) := ⟨_, rfl⟩
  have HGo : Hid (G b6) := Lib.hid (by subst hG; exact .inr rfl)
  have HFG : Hid (∀ k, F k → G k) := Lib.hid (fun k hk => by subst hG; exact .inl hk)
  have hG4 : ¬ G b4 := (by subst hG; rintro (h | h); (have := HFW.out _ h; omega); omega)
  have hG5 : ¬ G b5 := (by subst hG; rintro (h | h); (have := HFW.out _ h; omega); omega)
  have hG8 : ¬ G b8 := (by subst hG; rintro (h | h); (have := HFW.out _ h; omega); omega)
  clear hG
  refine W_drawG G [(0, 0), (1, 0), (2, 0), (3, 3), (5, 0), (4, 1), (6, 0), (7, 2), (8, 0)] (by kernel_rfl) (by kernel_rfl) ?_
  refine Y_fload HBT.out hG8 ?_ (hu := Tryz.underlying33)
  repeat' (first | refine Y_q ?_ | refine Y_r ?_ | fail)
  refine Y_ret Tryz.func19 (R := ProgR F b ((s.crash a'.n).1) (· = .int .i64 ((s.crash a'.n).2)) _) (fun x => prog_ret x (crash_rep ((((HH.out.later HE1.out).later HE.out).later x.2).rep) HGG.out.ne HGG.out.len HGG.out.fl.1 HGG.out.fl.2 a'.n) HFG.out) (fun r w4 hR => ?_)
  obtain ⟨rfl, hM, hRp⟩ := hR
  have HMc := Lib.hid hM
  have HRc := Lib.hid hRp
  have HEC := HE
  have HBO4 := Lib.hid (HBO.out.mod hM (fun h => by have := HFW.out _ h; omega))
  clear hM hRp HBT HBA HBS
  repeat' (first | refine Y_q ?_ | fail)
  refine Y_store (off := 0) HBO4.out HGo.out (fun W5 hM5 hG5x hB5 => ?_)
  have HM5 := Lib.hid hM5
  have HB5 := Lib.hid (fput hB5)
  clear hM5 hG5x hB5
  repeat' (first | refine Y_q ?_ | refine Y_nil ?_)
  repeat' (first | refine W_ret ?_ | go_step)
  exact Body_retcellv (cs := RepS.cs ((s.crash a'.n).1) _ _ _) hd (does_end HH.out HE1.out HEC.out HMc.out HRc.out HM5.out h6W h61 HVO.out) HB5.out (fun k hk => cs_fenc hk) Tryz.underlying33
end Go.Ws
namespace Go.Ws
open Go Go.RowKit Go.Proofs
set_option maxHeartbeats 4000000
set_option maxRecDepth 100000
set_option linter.unusedVariables false
set_option linter.unusedSimpArgs false

theorem does9_calls {w0 W : World} {b : Nat} {F X : Nat → Prop} {s : RepS} {uL uI uC vI vE vL : Value} {a : ActD} (h : HR w0 W b F s) (hg : s.Fine) (hX : ∀ k, X k → k < W.heap.size) (hv : VR (fun k => F k ∨ X k) W uL uI uC s) (ha : ActR (fun k => F k ∨ X k) W vI vE vL a) (hk : a.kind = 9) :
    Ret Tryz.prog 16 #[.pointer (some ⟨b, 0, none⟩), s.v uL uI uC, a.v vI vE vL] W fun r W' => DoesR w0 W b F X (s.step (a.atS s)) r W' := by
  have HH := Lib.hid h
  have HG := Lib.hid hg
  have HXW := Lib.hid hX
  clear hX
  have HVR := Lib.hid hv
  have HAC := Lib.hid (ha.at s)
  have NEAR : Hid (∀ W', Ext W W' → Ret Tryz.prog 35 #[a.v vI vE vL, s.v uL uI uC] W' fun r w' => Ext W' w' ∧ r = (a.atS s).v vI vE vL) := Lib.hid (fun W' hE => near_calls (hv.later hE) hg.good hg.ver (ha.later hE))
  have hka : (a.atS s).kind = 9 := (atS_kind a s).1.trans hk
  have ht : s.step (a.atS s) = s := by unfold RepS.step; simp [hka]
  rw [ht]
  clear ht
  obtain ⟨A1, c1, rfl, -⟩ := hv.rl.rd.ent
  obtain ⟨A2, c2, rfl, -⟩ := hv.ri.rd.int
  obtain ⟨A3, c3, rfl, -⟩ := hv.rc.rd.int
  clear h hg hv ha hk
  generalize a.atS s = a' at *
  obtain ⟨A4, c4, rfl, -⟩ := HAC.out.ri.int
  obtain ⟨A5, c5, rfl, -⟩ := HAC.out.re.ent
  obtain ⟨A6, c6, rfl, -⟩ := HAC.out.rl.int
  refine Fn_of Tryz.func16 rfl (Nat.le_of_ble_eq_true rfl) ?_; intro A hd hA; simp only [ix, Nat.reduceAdd]; replace hA : A.tmps.size = 268 := hA
  (repeat' (first | refine W_seqk (fun K hK => ?_) | refine W_seqr ?_ | fail)); (first | (refine X_var (fun yn b4 hn1 hn2 hn3 hn4 hn5 => ?_)) | (refine X_s (fun x K hK => ?_); go_simp; refine hK _ _ (Ext.alloc _ _) ?_; clear hK K; refine X_al x ?_; generalize (World.later _ x).heap.size = b4; intro yn hn1 hn2 hn3 hn4 hn5; clear x)); have HBb4 := Lib.hid (Blk.new hn5.out); have HEb4 := Lib.hid yn.ext; have hlb4 : (World.heap W).size ≤ b4 := hn1; generalize World.later W yn = W0 at *; clear hn1 hn2 hn3 hn4 hn5 yn
  (skip); (first | (refine X_var (fun yn b5 hn1 hn2 hn3 hn4 hn5 => ?_)) | (refine X_s (fun x K hK => ?_); go_simp; refine hK _ _ (Ext.alloc _ _) ?_; clear hK K; refine X_al x ?_; generalize (World.later _ x).heap.size = b5; intro yn hn1 hn2 hn3 hn4 hn5; clear x)); have HBb5 := Lib.hid (Blk.new hn5.out); have HEb5 := Lib.hid yn.ext; have hlb5 : (World.heap W0).size ≤ b5 := hn1; generalize World.later W0 yn = W1 at *; clear hn1 hn2 hn3 hn4 hn5 yn
  (skip); (first | (refine X_var (fun yn b6 hn1 hn2 hn3 hn4 hn5 => ?_)) | (refine X_s (fun x K hK => ?_); go_simp; refine hK _ _ (Ext.alloc _ _) ?_; clear hK K; refine X_al x ?_; generalize (World.later _ x).heap.size = b6; intro yn hn1 hn2 hn3 hn4 hn5; clear x)); have HBb6 := Lib.hid (Blk.new hn5.out); have HEb6 := Lib.hid yn.ext; have hlb6 : (World.heap W1).size ≤ b6 := hn1; generalize World.later W1 yn = W2 at *; clear hn1 hn2 hn3 hn4 hn5 yn
  have HBS := Lib.hid ((fbox2 HBb4.out).later (Ext.trans HEb5.out HEb6.out))
  have HBA : Hid (Blk W2 b5 51 27 (aenc a (.slice A4 a'.view.isr.length c4) (.slice A5 a'.reply.entries.length c5) (.slice A6 a'.list.length c6))) := Lib.hid ((HBb5.out.later HEb6.out).congr (fun k hk => rfl))
  have HBO := HBb6
  have HE := Lib.hid (Ext.trans (Ext.trans HEb4.out HEb5.out) HEb6.out)
  have hbb : b4 < b5 := by have := HBb4.out.lt; omega
  have hbb2 : b5 < b6 := by have := HBb5.out.lt; omega
  have hs0 := HEb4.out.size
  have hs1 := HEb5.out.size
  have h6W : W.heap.size ≤ b6 := by omega
  clear HBb4 HBb5 HBb6 HEb4 HEb5 HEb6
  have HFW : Hid (∀ k, F k → k < W.heap.size) := Lib.hid (fun k hk => (HH.out.hi k hk).2)
  have HVN := Lib.hid (HVR.out.wide (N' := fun k => F k ∨ X k ∨ k = b6) (fun k hk => hk.elim (fun h => .inl (.inl h)) (fun h => h.elim (fun h => .inl (.inr h)) (fun e => .inr (by subst e; exact h6W)))))
  have HAN := Lib.hid (HAC.out.wide (N' := fun k => F k ∨ X k ∨ k = b6) (fun k hk => hk.elim (fun h => .inl (.inl h)) (fun h => h.elim (fun h => .inl (.inr h)) (fun e => .inr (by subst e; exact h6W)))))
  clear HVR HAC
  have hal := HBA.out.lt
  have hsl := HBS.out.lt
  repeat' (first | refine X_q ?_ | refine X_nil ?_ | refine W_seqk (fun K hK => ?_) | refine W_seqr ?_ | go_step)
  refine X_aload HBA.out ?_ (hu := Tryz.underlying51)
  skip
  refine X_fload HBS.out ?_ (hu := Tryz.underlying33)
  skip
  refine X_ret Tryz.func35 (NEAR.out _ HE.out) (fun r w1 hR => ?_)
  obtain ⟨hE1, rfl⟩ := hR
  replace HBS := Lib.hid (HBS.out.later hE1)
  replace HBA := Lib.hid (HBA.out.later hE1)
  replace HBO := Lib.hid (HBO.out.later hE1)
  replace HE := Lib.hid (Ext.trans HE.out hE1)
  clear hE1 NEAR hal hsl
  have hal := HBA.out.lt
  skip
  refine X_store (off := 0) HBA.out (fun W1 hM1 hB1 => ?_); replace HE := Lib.hid (Ext.fresh HE.out hM1 (fun k hk => by subst hk; omega)); replace HBS := Lib.hid (HBS.out.mod hM1 (fun h => by omega)); replace HBO := Lib.hid (HBO.out.mod hM1 (fun h => by omega)); replace HBA := Lib.hid hB1; clear hM1 hB1
  replace HBA := Lib.hid (HBA.out.congr (g' := aenc a' (.slice A4 a'.view.isr.length c4) (.slice A5 a'.reply.entries.length c5) (.slice A6 a'.list.length c6)) (all27 ⟨rfl, rfl, rfl, rfl, rfl, rfl, rfl, rfl, rfl, rfl, rfl, rfl, rfl, rfl, rfl, rfl, rfl, rfl, rfl, rfl, rfl, rfl, rfl, rfl, rfl, rfl, rfl⟩))
  clear hal
  obtain ⟨hlt, d0, d1, d2, d3, d4, d5, d6, d7, d8, d9, d10⟩ := fcells HBS.out
  have hal := HBA.out.lt
  have e0 := HBA.out.cell (k := 0) (by omega)
  change World.cell? _ _ = some (.int .i64 a'.kind) at e0
  have e8 := HBA.out.cell (k := 8) (by omega)
  change World.cell? _ _ = some (.int .i64 a'.ent.id) at e8
  have e9 := HBA.out.cell (k := 9) (by omega)
  change World.cell? _ _ = some (.int .i64 a'.ent.num) at e9
  have e10 := HBA.out.cell (k := 10) (by omega)
  change World.cell? _ _ = some (.int .i64 a'.ent.seq) at e10
  rw [hka] at e0
  have hbol := HBO.out.lt
  have hEW := HE.out.size
  have HGG := Lib.hid HG.out.good
  repeat' (first | refine X_q ?_ | refine X_nil ?_ | refine W_seqk (fun K hK => ?_) | refine W_seqr ?_ | refine W_block ?_ | refine W_tt ?_ | refine W_ff ?_ | go_step)
  by_cases hr : s.role = 3
  · have hrb : (s.role != 3) = false := by simp [hr]
    have HR3 := Lib.hid hr
    clear hr
    have HE1 := HE
    have HVO := Lib.hid (HVN.out.later HE.out)
    replace HE := Lib.hid (Ext.refl W1)
    have h61 := HBO.out.lt
    skip
    refine X_ret Tryz.func25 (has_ok (((HH.out.later HE1.out).later HE.out).rep) HGG.out.ne HR3.out HGG.out.hi.1 HGG.out.hi.2 _ _ _) (fun r w4 hR => ?_)
    obtain ⟨rfl, hE9⟩ := hR
    obtain ⟨hM, hRp⟩ : Mod F _ _ ∧ Rep _ b (fun k => F k ∨ W1.heap.size ≤ k) s := ⟨hE9.mono (fun _ _ h => h.elim), ((((HH.out.later HE1.out).later HE.out).later hE9).rep).mono (fun k hk => .inl hk)⟩
    have HMc := Lib.hid hM
    have HRc := Lib.hid hRp
    have HEC := HE
    clear hM hRp
    replace HBS := Lib.hid (HBS.out.later hE9)
    replace HBA := Lib.hid (HBA.out.later hE9)
    replace HBO4 := Lib.hid (HBO.out.later hE9)
    have HE4 := Lib.hid (Ext.trans HE1.out hE9)
    clear hE9 hbol e0
    clear hal e8 e9 e10
    clear hlt d0 d1 d2 d3 d4 d5 d6 d7 d8 d9 d10
    have hal := HBA.out.lt
    have e8 := HBA.out.cell (k := 8) (by omega)
    change World.cell? _ _ = some (.int .i64 a'.ent.id) at e8
    have e9 := HBA.out.cell (k := 9) (by omega)
    change World.cell? _ _ = some (.int .i64 a'.ent.num) at e9
    have e10 := HBA.out.cell (k := 10) (by omega)
    change World.cell? _ _ = some (.int .i64 a'.ent.seq) at e10
    have hbol := HBO4.out.lt
    obtain ⟨hlt, d0, d1, d2, d3, d4, d5, d6, d7, d8, d9, d10⟩ := fcells HBS.out
    repeat' (first | refine X_q ?_ | refine X_nil ?_ | refine W_seqk (fun K hK => ?_) | refine W_seqr ?_ | refine W_skip ?_ | refine W_ff ?_ | go_step)
    obtain ⟨G, hG⟩ : ∃ G : Nat → Prop, G = (fun k => k = b6) := ⟨_, rfl⟩; have HGo : Hid (G b6) := Lib.hid (by subst hG; rfl); have hGb4 : ¬ G b4 := (by subst hG; show ¬ b4 = b6; omega); have hGb5 : ¬ G b5 := (by subst hG; show ¬ b5 = b6; omega); clear hG
    refine W_drawG G [(0, 0), (1, 0), (2, 3), (3, 0), (4, 0), (5, 3), (6, 0), (7, 0), (8, 3), (9, 0), (10, 0), (11, 3), (12, 1), (13, 0), (14, 0), (15, 0), (16, 0), (17, 0), (18, 2), (19, 0)] (by kernel_rfl) (by kernel_rfl) ?_
    (first | refine Y_floadr HBS.out ?_ (hu := Tryz.underlying33) | refine Y_fload HBS.out hGb4 ?_ (hu := Tryz.underlying33))
    repeat' (first | refine Y_q ?_ | fail)
    (first | refine Y_floadr HBS.out ?_ (hu := Tryz.underlying33) | refine Y_fload HBS.out hGb4 ?_ (hu := Tryz.underlying33))
    repeat' (first | refine Y_q ?_ | refine Y_r ?_ | fail)
    refine Y_pure Tryz.func45 (fun x => has11_calls (HVN.out.later (Ext.trans HE4.out x.ext)) HGG.out.len HGG.out.hi.1 HGG.out.hi.2 _ _ _) ?_
    repeat' (first | refine Y_gt ?_ | refine Y_q ?_ | fail)
    refine Y_store (off := 0) HBO4.out HGo.out (fun W5 hM5 hG5x hB5 => ?_)
    have HM5 := Lib.hid hM5
    have HB5 := Lib.hid (fput hB5)
    clear hM5 hG5x hB5
    repeat' (first | refine Y_q ?_ | refine Y_nil ?_)
    repeat' (first | refine W_ret ?_ | go_step)
    exact Body_retcellv (cs := RepS.cs (s) _ _ _) hd (does_end HH.out HE1.out HEC.out HMc.out HRc.out HM5.out h6W h61 HVO.out) HB5.out (fun k hk => cs_fenc hk) Tryz.underlying33
  · have hrb : (s.role != 3) = true := by simp [hr]
    have HR3 := Lib.hid hr
    clear hr
    have HE1 := HE
    have HVO := Lib.hid (HVN.out.later HE.out)
    replace HE := Lib.hid (Ext.refl W1)
    have h61 := HBO.out.lt
    skip
    refine X_ret Tryz.func25 (has_no (((HH.out.later HE1.out).later HE.out).rep) HGG.out.ne HR3.out _ _ _) (fun r w4 hR => ?_)
    obtain ⟨rfl, hE9⟩ := hR
    obtain ⟨hM, hRp⟩ : Mod F _ _ ∧ Rep _ b (fun k => F k ∨ W1.heap.size ≤ k) s := ⟨hE9.mono (fun _ _ h => h.elim), ((((HH.out.later HE1.out).later HE.out).later hE9).rep).mono (fun k hk => .inl hk)⟩
    have HMc := Lib.hid hM
    have HRc := Lib.hid hRp
    have HEC := HE
    clear hM hRp
    replace HBS := Lib.hid (HBS.out.later hE9)
    replace HBA := Lib.hid (HBA.out.later hE9)
    replace HBO4 := Lib.hid (HBO.out.later hE9)
    have HE4 := Lib.hid (Ext.trans HE1.out hE9)
    clear hE9 hbol e0
    clear hal e8 e9 e10
    clear hlt d0 d1 d2 d3 d4 d5 d6 d7 d8 d9 d10
    have hal := HBA.out.lt
    have e8 := HBA.out.cell (k := 8) (by omega)
    change World.cell? _ _ = some (.int .i64 a'.ent.id) at e8
    have e9 := HBA.out.cell (k := 9) (by omega)
    change World.cell? _ _ = some (.int .i64 a'.ent.num) at e9
    have e10 := HBA.out.cell (k := 10) (by omega)
    change World.cell? _ _ = some (.int .i64 a'.ent.seq) at e10
    have hbol := HBO4.out.lt
    obtain ⟨hlt, d0, d1, d2, d3, d4, d5, d6, d7, d8, d9, d10⟩ := fcells HBS.out
    repeat' (first | refine X_q ?_ | refine X_nil ?_ | refine W_seqk (fun K hK => ?_) | refine W_seqr ?_ | refine W_tt ?_ | go_step)
    refine X_fload HBS.out ?_ (hu := Tryz.underlying33)
    repeat' (first | refine X_gt ?_ | refine X_q ?_ | fail)
    refine X_store (off := 0) HBO4.out (fun W5 hM5 hB5 => ?_)
    have HM5 := Lib.hid hM5
    have HB5 := Lib.hid (fput hB5)
    clear hM5 hB5
    repeat' (first | refine X_q ?_ | refine X_nil ?_ | refine W_ret ?_ | go_step)
    exact Body_retcellv (cs := RepS.cs (s) _ _ _) hd (does_end HH.out HE1.out HEC.out HMc.out HRc.out HM5.out h6W h61 HVO.out) HB5.out (fun k hk => cs_fenc hk) Tryz.underlying33
end Go.Ws
