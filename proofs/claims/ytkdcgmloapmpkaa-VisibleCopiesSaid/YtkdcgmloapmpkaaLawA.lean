import Derived.Test.YtkdcgmloapmpkaaVisI
namespace Go.Ws
open Go Go.RowKit Go.Proofs
set_option maxHeartbeats 2000000
set_option maxRecDepth 100000
set_option linter.unusedVariables false
set_option linter.unusedSimpArgs false
set_option pp.deepTerms true
set_option pp.maxSteps 100000000

def someN : Ent := ⟨1, -1, 0, 0, 1, 0⟩
def someD : Ent := ⟨1, 0, 1, 0, 1, 0⟩
def someC : Ent := ⟨1, 0, 1, 0, 2, 0⟩
/-- The log of works. -/
def someL : List Ent := [someN, someD, someN, someC, someN]
theorem some_calls {w : World} : Ret Try.prog 62 #[] w fun v w' => Ext w w' ∧ RdE w' v someL := by
  refine Fn_of Try.func62 rfl (Nat.le_of_ble_eq_true rfl) ?_; intro A hd hA; simp only [ix, Nat.reduceAdd]; replace hA : A.tmps.size = 13 := hA
  repeat' (first | refine X_d (fun vb hvb => ?_) | refine X_dg (fun vb hvb => ?_) | refine X_q ?_ | refine X_g ?_ | refine X_gf ?_ | refine X_niln ?_ | refine X_nil ?_ | (refine X_var (fun yn bn hn1 hn2 hn3 hn4 hn5 => ?_)) | refine W_seqk (fun K hK => ?_) | refine W_seqr ?_ | refine W_draw (by kernel_rfl) (by kernel_rfl) ?_ | refine W_ret ?_ | refine W_skip ?_ | refine W_block ?_ | refine W_exit ?_ | (refine X_s (fun x K hK => ?_); go_simp; refine hK _ _ (Ext.alloc _ _) ?_; clear hK K; refine X_al x ?_; generalize (World.later _ x).heap.size = bn; intro yn hn1 hn2 hn3 hn4 hn5; clear x) | refine W_tt ?_ | refine W_ff ?_ | refine W_test (fun hc => ?_) (fun hc => ?_) | go_step)
  rename_i b1 y1 p11 p12 p13 p14 p15 b2 y2 p21 p22 p23 p24 p25
  rename Nat => b3
  rename Later ((w.later y1).later y2) => y3
  have s1 : w.heap.size ≤ (w.later y1).heap.size := y1.2.size
  have s2 : (w.later y1).heap.size ≤ ((w.later y1).later y2).heap.size := y2.2.size
  have s3 : ((w.later y1).later y2).heap.size ≤ (((w.later y1).later y2).later y3).heap.size := y3.2.size
  have g1 : Blk (((w.later y1).later y2).later y3) b1 39 6 _ := (Blk.new p15.out).later (by simp)
  have g2 : Blk (((w.later y1).later y2).later y3) b2 39 6 _ := (Blk.new p25.out).later (by simp)
  have g3 : Blk (((w.later y1).later y2).later y3) b3 39 6 _ := Blk.new hn5.out
  have hE0 : Ext w (((w.later y1).later y2).later y3) := by simp
  clear p13 p14 p15 p23 p24 p25 hn3 hn4 hn5
  refine X_store (off := 0) (v := someN.v) g1 (fun W1 hM1 hB1 => ?_)
  refine X_store (off := 0) (v := someD.v) (g2.mod hM1 (by omega)) (fun W2 hM2 hB2 => ?_)
  refine X_store (off := 0) (v := someC.v) ((g3.mod hM1 (by omega)).mod hM2 (by omega)) (fun W3 hM3 hB3 => ?_)
  have e1 := (hB1.mod hM2 (by omega)).mod hM3 (by omega)
  have e2 := hB2.mod hM3 (by omega)
  have l1 := e1.lt
  have l2 := e2.lt
  have l3 := hB3.lt
  have hE : Ext w W3 := Ext.fresh hE0 (Mod.trans (Mod.trans hM1 hM2 (fun k _ h => Or.inl h) (fun k _ h => .inr h)) hM3 (fun k _ h => Or.inl h) (fun k _ h => .inr h) : Mod (fun k => (k = b1 ∨ k = b2) ∨ k = b3) _ W3) (by rintro k ((rfl | rfl) | rfl) <;> omega)
  have u0 : W3.cell? ⟨b1, 0, none⟩ = some (.int .i64 1) := (e1.cell (k := 0) (by omega)).trans rfl
  have u1 : W3.cell? ⟨b1, 1, none⟩ = some (.int .i64 (-1)) := (e1.cell (k := 1) (by omega)).trans rfl
  have u2 : W3.cell? ⟨b1, 2, none⟩ = some (.int .i64 0) := (e1.cell (k := 2) (by omega)).trans rfl
  have u3 : W3.cell? ⟨b1, 3, none⟩ = some (.int .i64 0) := (e1.cell (k := 3) (by omega)).trans rfl
  have u4 : W3.cell? ⟨b1, 4, none⟩ = some (.int .i64 1) := (e1.cell (k := 4) (by omega)).trans rfl
  have u5 : W3.cell? ⟨b1, 5, none⟩ = some (.int .i64 0) := (e1.cell (k := 5) (by omega)).trans rfl
  have v0 : W3.cell? ⟨b2, 0, none⟩ = some (.int .i64 1) := (e2.cell (k := 0) (by omega)).trans rfl
  have v1 : W3.cell? ⟨b2, 1, none⟩ = some (.int .i64 0) := (e2.cell (k := 1) (by omega)).trans rfl
  have v2 : W3.cell? ⟨b2, 2, none⟩ = some (.int .i64 1) := (e2.cell (k := 2) (by omega)).trans rfl
  have v3 : W3.cell? ⟨b2, 3, none⟩ = some (.int .i64 0) := (e2.cell (k := 3) (by omega)).trans rfl
  have v4 : W3.cell? ⟨b2, 4, none⟩ = some (.int .i64 1) := (e2.cell (k := 4) (by omega)).trans rfl
  have v5 : W3.cell? ⟨b2, 5, none⟩ = some (.int .i64 0) := (e2.cell (k := 5) (by omega)).trans rfl
  have x0 : W3.cell? ⟨b3, 0, none⟩ = some (.int .i64 1) := (hB3.cell (k := 0) (by omega)).trans rfl
  have x1 : W3.cell? ⟨b3, 1, none⟩ = some (.int .i64 0) := (hB3.cell (k := 1) (by omega)).trans rfl
  have x2 : W3.cell? ⟨b3, 2, none⟩ = some (.int .i64 1) := (hB3.cell (k := 2) (by omega)).trans rfl
  have x3 : W3.cell? ⟨b3, 3, none⟩ = some (.int .i64 0) := (hB3.cell (k := 3) (by omega)).trans rfl
  have x4 : W3.cell? ⟨b3, 4, none⟩ = some (.int .i64 2) := (hB3.cell (k := 4) (by omega)).trans rfl
  have x5 : W3.cell? ⟨b3, 5, none⟩ = some (.int .i64 0) := (hB3.cell (k := 5) (by omega)).trans rfl
  clear e1 e2 hB1 hB2 hB3 hM1 hM2 hM3 g1 g2 g3
  repeat' (first | refine X_d (fun vb hvb => ?_) | refine X_dg (fun vb hvb => ?_) | refine X_q ?_ | refine X_g ?_ | refine X_gf ?_ | refine X_niln ?_ | refine X_nil ?_ | (refine X_var (fun yn bn hn1 hn2 hn3 hn4 hn5 => ?_)) | refine W_seqk (fun K hK => ?_) | refine W_seqr ?_ | refine W_draw (by kernel_rfl) (by kernel_rfl) ?_ | refine W_ret ?_ | refine W_skip ?_ | refine W_block ?_ | refine W_exit ?_ | (refine X_s (fun x K hK => ?_); go_simp; refine hK _ _ (Ext.alloc _ _) ?_; clear hK K; refine X_al x ?_; generalize (World.later _ x).heap.size = bn; intro yn hn1 hn2 hn3 hn4 hn5; clear x) | refine W_tt ?_ | refine W_ff ?_ | refine W_test (fun hc => ?_) (fun hc => ?_) | go_step)
  refine Body_ret hd ⟨Ext.trans hE yn.2, ?_⟩
  exact (Own.lit (enc := Ent.cs) (k := 6) (E := 39) W3 yn (y := yn) Ent.len _ someL rfl hn5.out (by decide)).rd Ent.len
end Go.Ws
