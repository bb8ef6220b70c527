/- Lemmas for the statements of this layer (joined texts); no condition. -/
import Derived.Test.YtlpjgegbdmkmdaaGreatBa03
import Derived.Test.YtlpjgegbdmkmdaaGreatBa15
import Derived.Test.YtlpjgegbdmkmdaaGreatBa19
namespace Go.Ws
open Go Go.RowKit Go.Proofs
set_option maxHeartbeats 2000000
set_option maxRecDepth 100000
set_option linter.unusedVariables false
set_option linter.unusedSimpArgs false

theorem has11_calls {N : Nat → Prop} {w : World} {uL uI uC : Value} {s : RepS} (h : VR N w uL uI uC s) (hl : s.log.length ≤ 4096) (h0 : 0 ≤ s.high) (h1 : s.high ≤ s.log.length) (id num seq : Int) : Pure Tryz.prog 45 #[s.v uL uI uC, .int .i64 id, .int .i64 num, .int .i64 seq] w (.bool (s.has id num seq)) := by
  have HVR := Lib.hid h
  obtain ⟨A1, c1, rfl, -⟩ := h.rl.rd.ent
  obtain ⟨A2, c2, rfl, -⟩ := h.ri.rd.int
  obtain ⟨A3, c3, rfl, -⟩ := h.rc.rd.int
  clear h

  obtain ⟨hn, hhn⟩ : ∃ hn : Nat, s.high = hn := ⟨s.high.toNat, by omega⟩
  have hnl : hn ≤ s.log.length := by omega
  have HHN : Hid (s.has id num seq = hasE (s.log.take hn) id num seq) := Lib.hid (by unfold RepS.has; rw [hhn]; rfl)
  have HH := Lib.hid hhn
  clear hhn h0 h1
  refine Fn_of Tryz.func45 rfl (Nat.le_of_ble_eq_true rfl) ?_; intro A hd hA; simp only [ix, Nat.reduceAdd]; replace hA : A.tmps.size = 43 := hA
  (repeat' (first | refine W_seqk (fun K hK => ?_) | refine W_seqr ?_ | fail)); (first | (refine X_var (fun yn bx hn1 hn2 hn3 hn4 hn5 => ?_)) | (refine X_s (fun x K hK => ?_); go_simp; refine hK _ _ (Ext.alloc _ _) ?_; clear hK K; refine X_al x ?_; generalize (World.later _ x).heap.size = bx; intro yn hn1 hn2 hn3 hn4 hn5; clear x)); have HBbx := Lib.hid (Blk.new hn5.out); have HEbx := Lib.hid yn.ext; have hlbx : (World.heap w).size ≤ bx := hn1; generalize World.later w yn = W at *; clear hn1 hn2 hn3 hn4 hn5 yn
  have HBX := Lib.hid (fbox2 HBbx.out)
  have HE := HEbx
  clear HBbx HEbx
  obtain ⟨hlt, d0, d1, d2, d3, d4, d5, d6, d7, d8, d9, d10⟩ := fcells HBX.out

  rw [HH.out] at d6
  obtain ⟨A6, c6, hA6, -, -, HR3⟩ := (HVR.out.later HE.out).rl.ent
  cases hA6
  repeat' (first | refine X_q ?_ | refine X_nil ?_ | refine W_seqk (fun K hK => ?_) | refine W_seqr ?_ | refine W_block ?_ | go_step)
  refine W_loops [1, 2, 3, 4, 8, 9] (fun n vs w' => ∃ (k : Nat) (y : Later W), w' = W.later y ∧ k + n = hn ∧ vs = [.int .i64 id, .int .i64 num, .int .i64 seq, .pointer (some ⟨bx, 0, none⟩), .bool false, .int .i64 k] ∧ hasE (s.log.take k) id num seq = false) hn hd hA (by decide) ?_ ?_
  · exact ⟨0, ⟨W, Ext.refl _⟩, rfl, by omega, by simp, rfl⟩
  clear hd hA A; intro n vs B w' hd hA _ ⟨k, y, hw, hk, hvs, hg⟩; subst hw hvs
  have HG := Lib.hid hg
  clear hg
  simp only [List.zip_cons_cons, List.zip_nil_right, List.zip_nil_left]
  by_cases hlt2 : k < hn
  · obtain ⟨e, b3, o3, HE3, rfl, hb3, x0, x1, x2, x3, x4, x5⟩ := HR3.out k (by omega)
    have hki : (k : Int) < hn := by omega
    have hki2 : (k : Int) < s.log.length := by omega
    have hst : Hid (hasE (s.log.take (k + 1)) id num seq = ((e.kind == 1) && (e.id == id) && (e.num == num) && (e.seq == seq))) := Lib.hid (by
      have := HG.out
      unfold hasE at *
      rw [take_snoc HE3.out, List.any_append, this]; simp)
    have hmem : Hid (((e.kind == 1) && (e.id == id) && (e.num == num) && (e.seq == seq)) = true → hasE (s.log.take hn) id num seq = true) := Lib.hid (fun h => List.any_eq_true.2 ⟨e, List.mem_of_getElem? (by rw [List.getElem?_take, if_pos hlt2]; exact HE3.out), h⟩)
    by_cases g0 : e.kind = 1
    · have q0 : (e.kind == 1) = true := by simp [g0]
      clear g0
      by_cases g1 : e.id = id
      · have q1 : (e.id == id) = true := by simp [g1]
        clear g1
        by_cases g2 : e.num = num
        · have q2 : (e.num == num) = true := by simp [g2]
          clear g2
          by_cases g3 : e.seq = seq
          · have q3 : (e.seq == seq) = true := by simp [g3]
            clear g3
            repeat' (first | refine X_gt ?_ | refine X_q ?_ | refine X_nil ?_ | (refine X_var (fun yn bn hn1 hn2 hn3 hn4 hn5 => ?_)) | refine W_seqk (fun K hK => ?_) | refine W_seqr ?_ | refine W_ret ?_ | refine W_skip ?_ | refine W_block ?_ | refine W_tt ?_ | go_step)
            exact Body_ret hd ⟨by rw [HHN.out, hmem.out (by simp [q0, q1, q2, q3])], Ext.trans HE.out (Ext.trans y.ext yn.ext)⟩
          · have q3 : (e.seq == seq) = false := beq_false_of_ne g3
            clear g3
            repeat' (first | refine X_gt ?_ | refine X_q ?_ | refine X_nil ?_ | (refine X_var (fun yn bn hn1 hn2 hn3 hn4 hn5 => ?_)) | refine W_seqk (fun K hK => ?_) | refine W_seqr ?_ | refine W_skip ?_ | refine W_block ?_ | refine W_tt ?_ | refine W_ff ?_ | go_step)
            exact ⟨_, _, rfl, hd, hA, n - 1, by omega, k + 1, y.trans yn, rfl, by omega, by simp, by rw [hst.out]; simp [q0, q1, q2, q3]⟩
        · have q2 : (e.num == num) = false := beq_false_of_ne g2
          clear g2
          repeat' (first | refine X_gt ?_ | refine X_q ?_ | refine X_g ?_ | refine X_gf ?_ | refine X_nil ?_ | (refine X_var (fun yn bn hn1 hn2 hn3 hn4 hn5 => ?_)) | refine W_seqk (fun K hK => ?_) | refine W_seqr ?_ | refine W_skip ?_ | refine W_block ?_ | refine W_tt ?_ | refine W_ff ?_ | go_step)
          exact ⟨_, _, rfl, hd, hA, n - 1, by omega, k + 1, y.trans yn, rfl, by omega, by simp, by rw [hst.out]; simp [q0, q1, q2]⟩
      · have q1 : (e.id == id) = false := beq_false_of_ne g1
        clear g1
        repeat' (first | refine X_gt ?_ | refine X_q ?_ | refine X_g ?_ | refine X_gf ?_ | refine X_nil ?_ | (refine X_var (fun yn bn hn1 hn2 hn3 hn4 hn5 => ?_)) | refine W_seqk (fun K hK => ?_) | refine W_seqr ?_ | refine W_skip ?_ | refine W_block ?_ | refine W_tt ?_ | refine W_ff ?_ | go_step)
        exact ⟨_, _, rfl, hd, hA, n - 1, by omega, k + 1, y.trans yn, rfl, by omega, by simp, by rw [hst.out]; simp [q0, q1]⟩
    · have q0 : (e.kind == 1) = false := beq_false_of_ne g0
      clear g0
      repeat' (first | refine X_q ?_ | refine X_g ?_ | refine X_gf ?_ | refine X_nil ?_ | (refine X_var (fun yn bn hn1 hn2 hn3 hn4 hn5 => ?_)) | refine W_seqk (fun K hK => ?_) | refine W_seqr ?_ | refine W_skip ?_ | refine W_block ?_ | refine W_tt ?_ | refine W_ff ?_ | go_step)
      exact ⟨_, _, rfl, hd, hA, n - 1, by omega, k + 1, y.trans yn, rfl, by omega, by simp, by rw [hst.out]; simp [q0]⟩

  · obtain rfl : k = hn := by omega
    repeat' (first | refine X_q ?_ | refine X_nil ?_ | refine W_seqk (fun K hK => ?_) | refine W_seqr ?_ | refine W_ret ?_ | refine W_exit ?_ | refine W_ff ?_ | go_step)
    exact Body_ret hd ⟨by rw [HHN.out, HG.out], Ext.trans HE.out y.ext⟩
theorem samestand_calls {w : World} {v1 v2 : Value} {x : Stand} (h1 : SV w v1 x) (h2 : SV w v2 x) : Pure Tryz.prog 29 #[v1, v2] w (.bool true) := by
  obtain ⟨u1, u2, u3, rfl, i1, i2, i3⟩ := h1
  obtain ⟨t1, t2, t3, rfl, j1, j2, j3⟩ := h2
  have HI := Lib.hid (And.intro i1 (And.intro i2 i3))
  have HJ := Lib.hid (And.intro j1 (And.intro j2 j3))
  obtain ⟨A1, c1, rfl, -⟩ := i1.int
  obtain ⟨A2, c2, rfl, -⟩ := i2.int
  obtain ⟨A3, c3, rfl, -⟩ := i3.int
  obtain ⟨A4, c4, rfl, -⟩ := j1.int
  obtain ⟨A5, c5, rfl, -⟩ := j2.int
  obtain ⟨A6, c6, rfl, -⟩ := j3.int
  clear i1 i2 i3 j1 j2 j3
  have HQ1 : Hid (∀ W, Ext w W → Pure Tryz.prog 70 #[.slice A1 x.isr.length c1, .slice A4 x.isr.length c4] W (.bool true)) := Lib.hid (fun W hE => by
    have := rints_calls _ _ _ _ W (HI.out.1.later hE) (HJ.out.1.later hE)
    rwa [decide_eq_true rfl] at this)
  have HQ2 : Hid (∀ W, Ext w W → Pure Tryz.prog 70 #[.slice A2 x.counts.length c2, .slice A5 x.counts.length c5] W (.bool true)) := Lib.hid (fun W hE => by
    have := rints_calls _ _ _ _ W (HI.out.2.1.later hE) (HJ.out.2.1.later hE)
    rwa [decide_eq_true rfl] at this)
  have HQ3 : Hid (∀ W, Ext w W → Pure Tryz.prog 70 #[.slice A3 x.known.length c3, .slice A6 x.known.length c6] W (.bool true)) := Lib.hid (fun W hE => by
    have := rints_calls _ _ _ _ W (HI.out.2.2.later hE) (HJ.out.2.2.later hE)
    rwa [decide_eq_true rfl] at this)
  refine Fn_of Tryz.func29 rfl (Nat.le_of_ble_eq_true rfl) ?_; intro A hd hA; simp only [ix, Nat.reduceAdd]; replace hA : A.tmps.size = 66 := hA
  (repeat' (first | refine W_seqk (fun K hK => ?_) | refine W_seqr ?_ | fail)); (first | (refine X_var (fun yn bx hn1 hn2 hn3 hn4 hn5 => ?_)) | (refine X_s (fun x K hK => ?_); go_simp; refine hK _ _ (Ext.alloc _ _) ?_; clear hK K; refine X_al x ?_; generalize (World.later _ x).heap.size = bx; intro yn hn1 hn2 hn3 hn4 hn5; clear x)); have HBbx := Lib.hid (Blk.new hn5.out); have HEbx := Lib.hid yn.ext; have hlbx : (World.heap w).size ≤ bx := hn1; generalize World.later w yn = W0 at *; clear hn1 hn2 hn3 hn4 hn5 yn
  (skip); (first | (refine X_var (fun yn by_ hn1 hn2 hn3 hn4 hn5 => ?_)) | (refine X_s (fun x K hK => ?_); go_simp; refine hK _ _ (Ext.alloc _ _) ?_; clear hK K; refine X_al x ?_; generalize (World.later _ x).heap.size = by_; intro yn hn1 hn2 hn3 hn4 hn5; clear x)); have HBby_ := Lib.hid (Blk.new hn5.out); have HEby_ := Lib.hid yn.ext; have hlby_ : (World.heap W0).size ≤ by_ := hn1; generalize World.later W0 yn = W at *; clear hn1 hn2 hn3 hn4 hn5 yn
  have HE := Lib.hid (Ext.trans HEbx.out HEby_.out)
  have HX := Lib.hid (HBbx.out.later HEby_.out)
  have HY := HBby_
  have hbx := HX.out.lt
  have hby := HY.out.lt
  have x0 := HX.out.cell (k := 0) (by simp)
  have y0 := HY.out.cell (k := 0) (by simp)
  have x1 := HX.out.cell (k := 1) (by simp)
  have y1 := HY.out.cell (k := 1) (by simp)
  have x2 := HX.out.cell (k := 2) (by simp)
  have y2 := HY.out.cell (k := 2) (by simp)
  have x3 := HX.out.cell (k := 3) (by simp)
  have y3 := HY.out.cell (k := 3) (by simp)
  have x4 := HX.out.cell (k := 4) (by simp)
  have y4 := HY.out.cell (k := 4) (by simp)
  have x5 := HX.out.cell (k := 5) (by simp)
  have y5 := HY.out.cell (k := 5) (by simp)
  have x6 := HX.out.cell (k := 6) (by simp)
  have y6 := HY.out.cell (k := 6) (by simp)
  have x7 := HX.out.cell (k := 7) (by simp)
  have y7 := HY.out.cell (k := 7) (by simp)
  have x8 := HX.out.cell (k := 8) (by simp)
  have y8 := HY.out.cell (k := 8) (by simp)
  simp at x0 y0 x1 y1 x2 y2 x3 y3 x4 y4 x5 y5 x6 y6 x7 y7 x8 y8
  clear HBbx HBby_ HEbx HEby_
  repeat' (first | (refine X_pure Tryz.func70 (HQ1.out _ HE.out) ?_) | (refine X_pure Tryz.func70 (HQ2.out _ HE.out) ?_) | (refine X_pure Tryz.func70 (HQ3.out _ HE.out) ?_) | refine X_gt ?_ | refine X_q ?_ | refine X_nil ?_ | refine W_seqk (fun K hK => ?_) | refine W_seqr ?_ | refine W_ret ?_ | go_step)
  exact Body_ret hd ⟨rfl, HE.out⟩
theorem samereply_calls {w : World} {u1 u2 : Value} {p : Reply} (h1 : RdE w u1 p.entries) (h2 : RdE w u2 p.entries) : Pure Tryz.prog 41 #[p.v u1, p.v u2] w (.bool true) := by
  have HI := Lib.hid (And.intro h1 h2)
  obtain ⟨A1, c1, rfl, -⟩ := h1.ent
  obtain ⟨A2, c2, rfl, -⟩ := h2.ent
  clear h1 h2
  have HQ1 : Hid (∀ W, Ext w W → Pure Tryz.prog 82 #[.slice A1 p.entries.length c1, .slice A2 p.entries.length c2] W (.bool true)) := Lib.hid (fun W hE => by
    have := samelog_calls _ _ _ _ W (HI.out.1.later hE) (HI.out.2.later hE)
    rwa [decide_eq_true rfl] at this)
  refine Fn_of Tryz.func41 rfl (Nat.le_of_ble_eq_true rfl) ?_; intro A hd hA; simp only [ix, Nat.reduceAdd]; replace hA : A.tmps.size = 59 := hA
  (repeat' (first | refine W_seqk (fun K hK => ?_) | refine W_seqr ?_ | fail)); (first | (refine X_var (fun yn bx hn1 hn2 hn3 hn4 hn5 => ?_)) | (refine X_s (fun x K hK => ?_); go_simp; refine hK _ _ (Ext.alloc _ _) ?_; clear hK K; refine X_al x ?_; generalize (World.later _ x).heap.size = bx; intro yn hn1 hn2 hn3 hn4 hn5; clear x)); have HBbx := Lib.hid (Blk.new hn5.out); have HEbx := Lib.hid yn.ext; have hlbx : (World.heap w).size ≤ bx := hn1; generalize World.later w yn = W0 at *; clear hn1 hn2 hn3 hn4 hn5 yn
  (skip); (first | (refine X_var (fun yn by_ hn1 hn2 hn3 hn4 hn5 => ?_)) | (refine X_s (fun x K hK => ?_); go_simp; refine hK _ _ (Ext.alloc _ _) ?_; clear hK K; refine X_al x ?_; generalize (World.later _ x).heap.size = by_; intro yn hn1 hn2 hn3 hn4 hn5; clear x)); have HBby_ := Lib.hid (Blk.new hn5.out); have HEby_ := Lib.hid yn.ext; have hlby_ : (World.heap W0).size ≤ by_ := hn1; generalize World.later W0 yn = W at *; clear hn1 hn2 hn3 hn4 hn5 yn
  have HE := Lib.hid (Ext.trans HEbx.out HEby_.out)
  have HX := Lib.hid (HBbx.out.later HEby_.out)
  have HY := HBby_
  have hbx := HX.out.lt
  have hby := HY.out.lt
  have x0 := HX.out.cell (k := 0) (by simp)
  have y0 := HY.out.cell (k := 0) (by simp)
  have x1 := HX.out.cell (k := 1) (by simp)
  have y1 := HY.out.cell (k := 1) (by simp)
  have x2 := HX.out.cell (k := 2) (by simp)
  have y2 := HY.out.cell (k := 2) (by simp)
  have x3 := HX.out.cell (k := 3) (by simp)
  have y3 := HY.out.cell (k := 3) (by simp)
  have x4 := HX.out.cell (k := 4) (by simp)
  have y4 := HY.out.cell (k := 4) (by simp)
  have x5 := HX.out.cell (k := 5) (by simp)
  have y5 := HY.out.cell (k := 5) (by simp)
  have x6 := HX.out.cell (k := 6) (by simp)
  have y6 := HY.out.cell (k := 6) (by simp)
  have x7 := HX.out.cell (k := 7) (by simp)
  have y7 := HY.out.cell (k := 7) (by simp)
  simp at x0 y0 x1 y1 x2 y2 x3 y3 x4 y4 x5 y5 x6 y6 x7 y7
  clear HBbx HBby_ HEbx HEby_
  repeat' (first | (refine X_pure Tryz.func82 (HQ1.out _ HE.out) ?_) | refine X_gt ?_ | refine X_q ?_ | refine X_nil ?_ | refine W_seqk (fun K hK => ?_) | refine W_seqr ?_ | refine W_ret ?_ | go_step)
  exact Body_ret hd ⟨rfl, HE.out⟩
end Go.Ws
namespace Go.Ws
open Go Go.RowKit Go.Proofs
set_option maxHeartbeats 2000000
set_option maxRecDepth 100000
set_option linter.unusedVariables false
set_option linter.unusedSimpArgs false

/-- A replica stands as the document's. -/
theorem same_calls {N : Nat → Prop} {w : World} {b : Nat} {F : Nat → Prop} {s : RepS} {uL uI uC : Value} (h : Rep w b F s) (hg : s.Good) (hv : VR N w uL uI uC s) : Pure Tryz.prog 48 #[.pointer (some ⟨b, 0, none⟩), s.v uL uI uC] w (.bool true) := by
  have HP := Lib.hid h
  have HG := Lib.hid hg
  have HVR := Lib.hid hv
  obtain ⟨A1, c1, rfl, -⟩ := hv.rl.rd.ent
  obtain ⟨A2, c2, rfl, -⟩ := hv.ri.rd.int
  obtain ⟨A3, c3, rfl, -⟩ := hv.rc.rd.int
  clear h hg hv
  refine Fn_of Tryz.func48 rfl (Nat.le_of_ble_eq_true rfl) ?_; intro A hd hA; simp only [ix, Nat.reduceAdd]; replace hA : A.tmps.size = 24 := hA
  (repeat' (first | refine W_seqk (fun K hK => ?_) | refine W_seqr ?_ | fail)); (first | (refine X_var (fun yn bx hn1 hn2 hn3 hn4 hn5 => ?_)) | (refine X_s (fun x K hK => ?_); go_simp; refine hK _ _ (Ext.alloc _ _) ?_; clear hK K; refine X_al x ?_; generalize (World.later _ x).heap.size = bx; intro yn hn1 hn2 hn3 hn4 hn5; clear x)); have HBbx := Lib.hid (Blk.new hn5.out); have HEbx := Lib.hid yn.ext; have hlbx : (World.heap w).size ≤ bx := hn1; generalize World.later w yn = W at *; clear hn1 hn2 hn3 hn4 hn5 yn
  have HBX := Lib.hid (fbox2 HBbx.out)
  have HE := HEbx
  clear HBbx HEbx
  obtain ⟨hlt, d0, d1, d2, d3, d4, d5, d6, d7, d8, d9, d10⟩ := fcells HBX.out
  repeat' (first | refine X_q ?_ | refine X_nil ?_ | refine W_seqk (fun K hK => ?_) | go_step)
  refine W_drawσ [(0, 0), (2, 0), (3, 0), (1, 1), (4, 1), (5, 0), (6, 0), (8, 0), (7, 1), (9, 1), (10, 1), (11, 0), (12, 0), (13, 0), (15, 0), (14, 1), (16, 1), (17, 1), (18, 0), (19, 0)] (by kernel_rfl) (by kernel_rfl) ?_
  repeat' (first | refine X_q ?_ | fail)
  refine X_ret1 Tryz.func17 (R := fun W v W' => Ext W W' ∧ OwnE W' v s.log ∧ ∀ b, v.ownBlock = some b → W.heap.size ≤ b) (fun x => log_calls ((HP.out.later HE.out).later x.2) HG.out.ne (by have := HG.out.len; omega)) (fun x r W1 hR => ⟨hR.1, ?_⟩)
  obtain ⟨hE, hO, -⟩ := hR
  have HO := Lib.hid (hO.rd (enc := Ent.cs) (k := 6) (fun _ => rfl))
  obtain ⟨B1, m1, e1, rfl⟩ := own_slice hO
  have hE1 := Ext.trans x.2 hE
  replace HBX := Lib.hid (HBX.out.later hE1)
  replace HE := Lib.hid (Ext.trans HE.out hE1)
  clear hlt d0 d1 d2 d3 d4 d5 d6 d7 d8 d9 d10 hO hE hE1 x
  obtain ⟨hlt, d0, d1, d2, d3, d4, d5, d6, d7, d8, d9, d10⟩ := fcells HBX.out
  have HSL : Hid (∀ W, Ext W1 W → Pure Tryz.prog 82 #[.slice B1 m1 e1, .slice A1 s.log.length c1] W (.bool true)) := Lib.hid (fun W hE => by
    have := samelog_calls _ _ _ _ W (HO.out.later hE) ((HVR.out.later HE.out).later hE).rl.rd
    rwa [decide_eq_true rfl] at this)
  repeat' (first | (refine X_pure1 Tryz.func82 (fun x => HSL.out _ x.2) ?_) | refine X_gt ?_ | refine X_q ?_ | fail)
  refine X_fload HBX.out ?_ (hu := Tryz.underlying33)
  repeat' (first | refine X_gt ?_ | fail)
  refine X_ret1 Tryz.func15 (R := fun W v w' => Ext W w' ∧ ∃ u1 u2 u3, v = s.stand.v u1 u2 u3 ∧ RdI w' u1 s.stand.isr ∧ RdI w' u2 s.stand.counts ∧ RdI w' u3 s.stand.known ∧ (∀ k, u1.ownBlock = some k ∨ u2.ownBlock = some k ∨ u3.ownBlock = some k → W.heap.size ≤ k)) (fun x => standing_rep ((HP.out.later HE.out).later x.2) HG.out.ne (by have := HG.out.ilen; omega) (by have := HG.out.ilen; omega)) (fun x r W2 hR => ⟨hR.1, ?_⟩)
  obtain ⟨hE, u1, u2, u3, rfl, k1, k2, k3, -⟩ := hR
  have HS1 : Hid (SV W2 (s.stand.v u1 u2 u3) s.stand) := Lib.hid ⟨u1, u2, u3, rfl, k1, k2, k3⟩
  have hE1 := Ext.trans x.2 hE
  replace HBX := Lib.hid (HBX.out.later hE1)
  replace HE := Lib.hid (Ext.trans HE.out hE1)
  clear hlt d0 d1 d2 d3 d4 d5 d6 d7 d8 d9 d10 hE hE1 x HSL HO k1 k2 k3
  have hlt := HBX.out.lt
  repeat' (first | refine X_gt ?_ | fail)
  refine X_ret1 Tryz.func86 (R := fun W v w' => Ext W w' ∧ SV w' v s.stand) (fun x => standing11_calls ((HVR.out.later HE.out).later x.2)) (fun x r W3 hR => ⟨hR.1, ?_⟩)
  obtain ⟨hE, hS⟩ := hR
  have hE1 := Ext.trans x.2 hE
  have HSS : Hid (∀ W, Ext W3 W → Pure Tryz.prog 29 #[s.stand.v u1 u2 u3, r] W (.bool true)) := Lib.hid (fun W hE => samestand_calls (HS1.out.later (Ext.trans hE1 hE)) (hS.later hE))
  replace HBX := Lib.hid (HBX.out.later hE1)
  replace HE := Lib.hid (Ext.trans HE.out hE1)
  clear hE hE1 hS x HS1 hlt
  have hlt := HBX.out.lt
  repeat' (first | (refine X_pure1 Tryz.func29 (fun x => HSS.out _ x.2) ?_) | refine X_gt ?_ | refine X_q ?_ | fail)
  refine X_fload HBX.out ?_ (hu := Tryz.underlying33)
  repeat' (first | refine X_gt ?_ | fail)
  refine X_ret1 Tryz.func28 (R := fun W v w' => Ext W w' ∧ OwnE w' v s.vis ∧ ∀ k, v.ownBlock = some k → W.heap.size ≤ k) (fun x => visible_rep ((HP.out.later HE.out).later x.2) HG.out.ne HG.out.ok HG.out.len HG.out.hi.1 HG.out.hi.2) (fun x r4 W4 hR => ⟨hR.1, ?_⟩)
  obtain ⟨hE, hO, -⟩ := hR
  have HO := Lib.hid (hO.rd (enc := Ent.cs) (k := 6) (fun _ => rfl))
  have hE1 := Ext.trans x.2 hE
  replace HE := Lib.hid (Ext.trans HE.out hE1)
  clear hO hE hE1 x HBX hlt
  repeat' (first | refine X_gt ?_ | fail)
  refine X_ret1 Tryz.func87 (R := fun W v w' => Ext W w' ∧ RdE w' v s.vis) (fun x => visible11_calls ((HVR.out.later HE.out).later x.2) HG.out.len HG.out.hi.1 HG.out.hi.2) (fun x r W5 hR => ⟨hR.1, ?_⟩)
  obtain ⟨hE, hS⟩ := hR
  have hE1 := Ext.trans x.2 hE
  have HSL : Hid (∀ W, Ext W5 W → Pure Tryz.prog 82 #[r4, r] W (.bool true)) := Lib.hid (fun W hE => by
    have := samelog_calls _ _ _ _ W (HO.out.later (Ext.trans hE1 hE)) (hS.later hE)
    rwa [decide_eq_true rfl] at this)
  replace HE := Lib.hid (Ext.trans HE.out hE1)
  clear hE hE1 hS x HO
  repeat' (first | (refine X_pure1 Tryz.func82 (fun x => HSL.out _ x.2) ?_) | refine X_gt ?_ | refine X_q ?_ | refine X_niln ?_ | refine W_ret ?_ | go_step)
  exact Body_ret hd ⟨rfl, HE.out⟩
end Go.Ws
