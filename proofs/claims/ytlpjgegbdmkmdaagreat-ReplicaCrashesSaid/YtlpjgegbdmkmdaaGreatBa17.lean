/- Lemmas for the statements of this layer (joined texts); no condition. -/
import Derived.Test.YtlpjgegbdmkmdaaGreatBa15
namespace Go.Ws
open Go Go.RowKit Go.Proofs
set_option maxHeartbeats 2000000
set_option maxRecDepth 100000
set_option linter.unusedVariables false
set_option linter.unusedSimpArgs false

theorem count_all (s : RepS) : s.count.log = s.log ∧ s.count.isr = s.isr ∧ s.count.counts = s.counts ∧ s.count.known = s.known ∧ s.count.self = s.self ∧ s.count.least = s.least ∧ s.count.role = s.role ∧ s.count.epoch = s.epoch ∧ s.count.flushed = s.flushed ∧ s.count.version = s.version ∧ s.count.beg = s.beg := by
  unfold RepS.count
  split <;> exact ⟨rfl, rfl, rfl, rfl, rfl, rfl, rfl, rfl, rfl, rfl, rfl⟩
theorem VR.count {N : Nat → Prop} {w : World} {uL uI uC : Value} {s : RepS} (h : VR N w uL uI uC s) : VR N w uL uI uC s.count := by
  obtain ⟨e1, e2, e3, -⟩ := count_all s
  exact ⟨by rw [e1]; exact h.rl, by rw [e2]; exact h.ri, by rw [e3]; exact h.rc⟩
theorem count11_calls {N : Nat → Prop} {w : World} {uL uI uC : Value} {s : RepS} (h : VR N w uL uI uC s) (hc : Bks s.counts) : Ret Tryz.prog 76 #[s.v uL uI uC] w fun v w' => Ext w w' ∧ v = s.count.v uL uI uC := by
  have HV := Lib.hid h
  obtain ⟨A1, c1, rfl, -⟩ := h.rl.rd.ent
  obtain ⟨A2, c2, rfl, -⟩ := h.ri.rd.int
  obtain ⟨A3, c3, rfl, -⟩ := h.rc.rd.int
  clear h
  have HBK := Lib.hid hc
  clear hc
  refine Fn_of Tryz.func76 rfl (Nat.le_of_ble_eq_true rfl) ?_; intro A hd hA; simp only [ix, Nat.reduceAdd]; replace hA : A.tmps.size = 42 := hA
  (repeat' (first | refine W_seqk (fun K hK => ?_) | refine W_seqr ?_ | fail)); (first | (refine X_var (fun yn bx hn1 hn2 hn3 hn4 hn5 => ?_)) | (refine X_s (fun x K hK => ?_); go_simp; refine hK _ _ (Ext.alloc _ _) ?_; clear hK K; refine X_al x ?_; generalize (World.later _ x).heap.size = bx; intro yn hn1 hn2 hn3 hn4 hn5; clear x)); have HBbx := Lib.hid (Blk.new hn5.out); have HEbx := Lib.hid yn.ext; have hlbx : (World.heap w).size ≤ bx := hn1; generalize World.later w yn = W0 at *; clear hn1 hn2 hn3 hn4 hn5 yn
  (skip); (first | (refine X_var (fun yn bo hn1 hn2 hn3 hn4 hn5 => ?_)) | (refine X_s (fun x K hK => ?_); go_simp; refine hK _ _ (Ext.alloc _ _) ?_; clear hK K; refine X_al x ?_; generalize (World.later _ x).heap.size = bo; intro yn hn1 hn2 hn3 hn4 hn5; clear x)); have HBbo := Lib.hid (Blk.new hn5.out); have HEbo := Lib.hid yn.ext; have hlbo : (World.heap W0).size ≤ bo := hn1; generalize World.later W0 yn = W at *; clear hn1 hn2 hn3 hn4 hn5 yn
  have HBX := Lib.hid ((fbox2 HBbx.out).later HEbo.out)
  have HE := Lib.hid (Ext.trans HEbx.out HEbo.out)
  have hbb : bx < bo := by have := HBbx.out.lt; omega
  have hE0 := HEbx.out.size
  have HBO := HBbo
  clear HBbx HBbo HEbx HEbo
  obtain ⟨hlt, d0, d1, d2, d3, d4, d5, d6, d7, d8, d9, d10⟩ := fcells HBX.out
  have hbol := HBO.out.lt
  by_cases hr : s.role = 3
  · have hrb : (s.role != 3) = false := by simp [hr]
    obtain ⟨A4, c4, hA4, hc0, hcm, HC⟩ := (HV.out.rc.later HE.out).int
    cases hA4
    have HR := Lib.hid hr
    clear hr
    repeat' (first | refine X_q ?_ | refine X_nil ?_ | refine W_seqk (fun K hK => ?_) | refine W_seqr ?_ | refine W_skip ?_ | refine W_block ?_ | refine W_ff ?_ | go_step)
    refine W_loops [1, 2, 3, 4] (fun n vs w' => ∃ k : Nat, w' = W ∧ k + n = s.counts.length ∧ vs = [.pointer (some ⟨bx, 0, none⟩), .pointer (some ⟨bo, 0, none⟩), .int .i64 (leastOf s.self s.known (s.counts.take k) s.flushed), .int .i64 k]) s.counts.length hd hA (by decide) ⟨0, rfl, by omega, by simp [leastOf]⟩ ?_
    clear hd hA A; intro n vs B w' hd hA _ ⟨k, hw, hk, hvs⟩; subst hw hvs
    simp only [List.zip_cons_cons, List.zip_nil_right, List.zip_nil_left]
    by_cases hk2 : k < s.counts.length
    · obtain ⟨x, b0, o, HX, rfl, hb, c0⟩ := HC.out k hk2
      have hki : (k : Int) < s.counts.length := by omega
      have HXX := Lib.hid HX
      clear HX
      obtain ⟨hx0, hx4⟩ := HBK.out x (List.mem_of_getElem? HXX.out)
      by_cases hxs : x = s.self
      · have hxb : (x != s.self) = false := by simp [hxs]
        have HXS := Lib.hid hxs
        clear hxs
        repeat' (first | refine X_q ?_ | refine X_nil ?_ | refine W_seqk (fun K hK => ?_) | refine W_seqr ?_ | refine W_skip ?_ | refine W_block ?_ | refine W_tt ?_ | go_step)
        refine W_drawσ [(0, 0), (1, 0), (2, 0), (3, 0), (4, 0), (5, 0), (6, 0), (7, 0)] (by kernel_rfl) (by kernel_rfl) ?_
        repeat' (first | refine X_q ?_ | refine X_niln ?_ | refine X_nil ?_ | refine W_seqr ?_ | refine W_skip ?_ | refine W_ff ?_ | go_step)
        exact ⟨_, _, rfl, hd, hA, n - 1, by omega, k + 1, trivial, by omega, by simp [take_snoc HXX.out, leastOf_snoc, HXS.out]⟩
      · have hxb : (x != s.self) = true := by simp [hxs]
        have HXS := Lib.hid hxs
        have hkn := fknown HBX.out x.toNat (by omega)
        clear hxs
        repeat' (first | refine X_q ?_ | refine X_nil ?_ | refine W_seqk (fun K hK => ?_) | refine W_seqr ?_ | refine W_skip ?_ | refine W_block ?_ | refine W_tt ?_ | go_step)
        refine W_drawσ [(0, 0), (1, 0), (2, 0), (3, 0), (4, 0), (5, 0), (6, 0), (7, 0)] (by kernel_rfl) (by kernel_rfl) ?_
        repeat' (first | refine X_q ?_ | refine X_niln ?_ | refine X_nil ?_ | refine W_seqr ?_ | refine W_tt ?_ | go_step)
        exact ⟨_, _, rfl, hd, hA, n - 1, by omega, k + 1, trivial, by omega, by simp [take_snoc HXX.out, leastOf_snoc, HXS.out, gmin]⟩
    · obtain rfl : k = s.counts.length := by omega
      repeat' (first | refine X_q ?_ | refine X_nil ?_ | refine W_seqk (fun K hK => ?_) | refine W_seqr ?_ | refine W_exit ?_ | refine W_ff ?_ | go_step)
      refine X_store (off := 6) HBX.out (fun W1 hM1 hB1 => ?_)
      have hcs : s.count = { s with high := gmax s.high (leastOf s.self s.known s.counts s.flushed) } := by unfold RepS.count; rw [if_pos HR.out]
      have HCS := Lib.hid hcs
      have HB1 := Lib.hid (hB1.congr (g' := fenc s.count (.slice A1 s.log.length c1) (.slice A2 s.isr.length c2) (.slice A3 s.counts.length c3)) (by rw [hcs]; exact all15 ⟨rfl, rfl, rfl, rfl, rfl, rfl, rfl, rfl, rfl, rfl, rfl, rfl, rfl, rfl, rfl⟩))
      have HM1 := Lib.hid hM1
      clear hM1 hB1 hcs
      have HBO := Lib.hid (HBO.out.mod HM1.out (fun h => by omega))
      have hlt1 := HB1.out.lt
      repeat' (first | refine X_nil ?_ | refine W_seqk (fun K hK => ?_) | refine W_seqr ?_ | go_step)
      refine X_fload HB1.out ?_ (hu := Tryz.underlying33)
      skip
      refine X_store (off := 0) HBO.out (fun W2 hM2 hB2 => ?_)
      have HB2 := Lib.hid (fput hB2)
      have HE2 := Lib.hid (Ext.fresh (F := fun k => k = bx ∨ k = bo) HE.out (Mod.trans HM1.out hM2 (fun _ _ h => .inl h) (fun _ _ h => .inr h)) (fun k hk => by rcases hk with rfl | rfl <;> omega))
      clear hM2 hB2
      repeat' (first | refine X_nil ?_ | refine W_ret ?_ | go_step)
      exact Body_retcell1 (cs := s.count.cs _ _ _) hd ⟨HE2.out, rfl⟩ HB2.out (fun k hk => cs_fenc hk) Tryz.underlying33
  · have hrb : (s.role != 3) = true := by simp [hr]
    have hs : s.count = s := by unfold RepS.count; rw [if_neg hr]
    have HS := Lib.hid hs
    clear hs
    repeat' (first | refine X_q ?_ | refine X_nil ?_ | refine W_seqk (fun K hK => ?_) | refine W_seqr ?_ | refine W_tt ?_ | go_step)
    refine X_fload HBX.out ?_ (hu := Tryz.underlying33)
    skip
    refine X_store (off := 0) HBO.out (fun W2 hM2 hB2 => ?_)
    have HB2 := Lib.hid (fput hB2)
    have HE2 := Lib.hid (Ext.fresh HE.out hM2 (fun k hk => by subst hk; omega))
    clear hM2 hB2
    repeat' (first | refine X_nil ?_ | refine W_ret ?_ | go_step)
    exact Body_retcell1 (cs := s.cs _ _ _) hd ⟨HE2.out, by rw [HS.out]⟩ HB2.out (fun k hk => cs_fenc hk) Tryz.underlying33
end Go.Ws
namespace Go.Ws
open Go Go.RowKit Go.Proofs
set_option maxHeartbeats 2000000
set_option maxRecDepth 100000
set_option linter.unusedVariables false
set_option linter.unusedSimpArgs false

theorem may11_calls {w : World} {v : Value} {x : View} (h : VV w v x) : Pure Tryz.prog 75 #[v] w (.bool x.may) := by
  obtain ⟨u, rfl, hu⟩ := h
  have HU := Lib.hid hu
  obtain ⟨A0, c, rfl, -⟩ := hu.int
  clear hu
  by_cases h0 : -1 ≤ x.leader
  · skip
    by_cases h1 : x.leader < 4
    · skip
      by_cases h2 : 0 ≤ x.epoch
      · skip
        by_cases h3 : x.epoch ≤ 2147483647
        · skip
          by_cases h4 : 0 ≤ x.version
          · skip
            by_cases h5 : x.version ≤ 2147483647
            · skip
              by_cases h6 : 0 < x.isr.length
              · skip
                by_cases h7 : brokersB x.isr = true
                · by_cases h8 : x.leader = -1
                  · have hm : x.may = true := by simp [View.may, inB, h0, h1, h2, h3, h4, h5, h6, h7, h8]
                    have h8b : (x.leader == -1) = true := by simp [h8]
                    rw [hm]
                    refine Fn_of Tryz.func75 rfl (Nat.le_of_ble_eq_true rfl) ?_; intro A hd hA; simp only [ix, Nat.reduceAdd]; replace hA : A.tmps.size = 56 := hA
                    repeat' (first | refine X_gpure Tryz.func84 (fun _ => rrises_calls _ _ _ (HU.out.later (by simp))) ?_ | (refine X_gf2 ?_) | refine X_gt ?_ | refine X_q ?_ | refine X_g ?_ | refine X_nil ?_ | refine W_seqk (fun K hK => ?_) | refine W_seqr ?_ | refine W_ret ?_ | (refine X_s (fun x K hK => ?_); go_simp; refine hK _ _ (Ext.alloc _ _) ?_; clear hK K; refine X_al x ?_; generalize (World.later _ x).heap.size = bn; intro yn hn1 hn2 hn3 hn4 hn5; clear x) | go_step)
                    exact Body_ret hd ⟨rfl, by simp⟩
                  · have h8b : (x.leader == -1) = false := beq_false_of_ne h8
                    by_cases h9 : x.leader ∈ x.isr
                    · have hm : x.may = true := by simp [View.may, inB, h0, h1, h2, h3, h4, h5, h6, h7, h8, h9]
                      rw [hm]
                      refine Fn_of Tryz.func75 rfl (Nat.le_of_ble_eq_true rfl) ?_; intro A hd hA; simp only [ix, Nat.reduceAdd]; replace hA : A.tmps.size = 56 := hA
                      repeat' (first | refine X_gpure Tryz.func84 (fun _ => rrises_calls _ _ _ (HU.out.later (by simp))) ?_ | refine X_gpure Tryz.func85 (fun _ => rin_calls _ _ _ _ (HU.out.later (by simp))) ?_ | refine X_gt ?_ | refine X_q ?_ | refine X_nil ?_ | refine W_seqk (fun K hK => ?_) | refine W_seqr ?_ | refine W_ret ?_ | (refine X_s (fun x K hK => ?_); go_simp; refine hK _ _ (Ext.alloc _ _) ?_; clear hK K; refine X_al x ?_; generalize (World.later _ x).heap.size = bn; intro yn hn1 hn2 hn3 hn4 hn5; clear x) | go_step)
                      exact Body_ret hd ⟨rfl, by simp⟩
                    · have hm : x.may = false := by simp [View.may, inB, h0, h1, h2, h3, h4, h5, h6, h7, h8, h9]
                      rw [hm]
                      refine Fn_of Tryz.func75 rfl (Nat.le_of_ble_eq_true rfl) ?_; intro A hd hA; simp only [ix, Nat.reduceAdd]; replace hA : A.tmps.size = 56 := hA
                      repeat' (first | refine X_gpure Tryz.func84 (fun _ => rrises_calls _ _ _ (HU.out.later (by simp))) ?_ | refine X_gpure Tryz.func85 (fun _ => rin_calls _ _ _ _ (HU.out.later (by simp))) ?_ | refine X_gt ?_ | refine X_q ?_ | refine X_nil ?_ | refine W_seqk (fun K hK => ?_) | refine W_seqr ?_ | refine W_ret ?_ | (refine X_s (fun x K hK => ?_); go_simp; refine hK _ _ (Ext.alloc _ _) ?_; clear hK K; refine X_al x ?_; generalize (World.later _ x).heap.size = bn; intro yn hn1 hn2 hn3 hn4 hn5; clear x) | go_step)
                      exact Body_ret hd ⟨rfl, by simp⟩
                · have hm : x.may = false := by simp [View.may, inB, h0, h1, h2, h3, h4, h5, h6, h7]
                  rw [hm]
                  refine Fn_of Tryz.func75 rfl (Nat.le_of_ble_eq_true rfl) ?_; intro A hd hA; simp only [ix, Nat.reduceAdd]; replace hA : A.tmps.size = 56 := hA
                  repeat' (first | refine X_gpure Tryz.func84 (fun _ => rrises_calls _ _ _ (HU.out.later (by simp))) ?_ | (refine X_gf2 ?_) | refine X_gt ?_ | refine X_q ?_ | refine X_g ?_ | refine X_gf ?_ | refine X_nil ?_ | refine W_seqk (fun K hK => ?_) | refine W_seqr ?_ | refine W_ret ?_ | (refine X_s (fun x K hK => ?_); go_simp; refine hK _ _ (Ext.alloc _ _) ?_; clear hK K; refine X_al x ?_; generalize (World.later _ x).heap.size = bn; intro yn hn1 hn2 hn3 hn4 hn5; clear x) | go_step)
                  exact Body_ret hd ⟨rfl, by simp⟩
              · have hm : x.may = false := by simp [View.may, inB, h0, h1, h2, h3, h4, h5, h6]
                rw [hm]
                refine Fn_of Tryz.func75 rfl (Nat.le_of_ble_eq_true rfl) ?_; intro A hd hA; simp only [ix, Nat.reduceAdd]; replace hA : A.tmps.size = 56 := hA
                repeat' (first | (refine X_gf2 ?_) | refine X_gt ?_ | refine X_q ?_ | refine X_g ?_ | refine X_gf ?_ | refine X_nil ?_ | refine W_seqk (fun K hK => ?_) | refine W_seqr ?_ | refine W_ret ?_ | (refine X_s (fun x K hK => ?_); go_simp; refine hK _ _ (Ext.alloc _ _) ?_; clear hK K; refine X_al x ?_; generalize (World.later _ x).heap.size = bn; intro yn hn1 hn2 hn3 hn4 hn5; clear x) | go_step)
                exact Body_ret hd ⟨rfl, by simp⟩
            · have hm : x.may = false := by simp [View.may, inB, h0, h1, h2, h3, h4, h5]
              rw [hm]
              refine Fn_of Tryz.func75 rfl (Nat.le_of_ble_eq_true rfl) ?_; intro A hd hA; simp only [ix, Nat.reduceAdd]; replace hA : A.tmps.size = 56 := hA
              repeat' (first | (refine X_gf2 ?_) | refine X_gt ?_ | refine X_q ?_ | refine X_g ?_ | refine X_gf ?_ | refine X_nil ?_ | refine W_seqk (fun K hK => ?_) | refine W_seqr ?_ | refine W_ret ?_ | (refine X_s (fun x K hK => ?_); go_simp; refine hK _ _ (Ext.alloc _ _) ?_; clear hK K; refine X_al x ?_; generalize (World.later _ x).heap.size = bn; intro yn hn1 hn2 hn3 hn4 hn5; clear x) | go_step)
              exact Body_ret hd ⟨rfl, by simp⟩
          · have hm : x.may = false := by simp [View.may, inB, h0, h1, h2, h3, h4]
            rw [hm]
            refine Fn_of Tryz.func75 rfl (Nat.le_of_ble_eq_true rfl) ?_; intro A hd hA; simp only [ix, Nat.reduceAdd]; replace hA : A.tmps.size = 56 := hA
            repeat' (first | (refine X_gf2 ?_) | refine X_gt ?_ | refine X_q ?_ | refine X_g ?_ | refine X_gf ?_ | refine X_nil ?_ | refine W_seqk (fun K hK => ?_) | refine W_seqr ?_ | refine W_ret ?_ | (refine X_s (fun x K hK => ?_); go_simp; refine hK _ _ (Ext.alloc _ _) ?_; clear hK K; refine X_al x ?_; generalize (World.later _ x).heap.size = bn; intro yn hn1 hn2 hn3 hn4 hn5; clear x) | go_step)
            exact Body_ret hd ⟨rfl, by simp⟩
        · have hm : x.may = false := by simp [View.may, inB, h0, h1, h2, h3]
          rw [hm]
          refine Fn_of Tryz.func75 rfl (Nat.le_of_ble_eq_true rfl) ?_; intro A hd hA; simp only [ix, Nat.reduceAdd]; replace hA : A.tmps.size = 56 := hA
          repeat' (first | (refine X_gf2 ?_) | refine X_gt ?_ | refine X_q ?_ | refine X_g ?_ | refine X_gf ?_ | refine X_nil ?_ | refine W_seqk (fun K hK => ?_) | refine W_seqr ?_ | refine W_ret ?_ | (refine X_s (fun x K hK => ?_); go_simp; refine hK _ _ (Ext.alloc _ _) ?_; clear hK K; refine X_al x ?_; generalize (World.later _ x).heap.size = bn; intro yn hn1 hn2 hn3 hn4 hn5; clear x) | go_step)
          exact Body_ret hd ⟨rfl, by simp⟩
      · have hm : x.may = false := by simp [View.may, inB, h0, h1, h2]
        rw [hm]
        refine Fn_of Tryz.func75 rfl (Nat.le_of_ble_eq_true rfl) ?_; intro A hd hA; simp only [ix, Nat.reduceAdd]; replace hA : A.tmps.size = 56 := hA
        repeat' (first | (refine X_gf2 ?_) | refine X_gt ?_ | refine X_q ?_ | refine X_g ?_ | refine X_gf ?_ | refine X_nil ?_ | refine W_seqk (fun K hK => ?_) | refine W_seqr ?_ | refine W_ret ?_ | (refine X_s (fun x K hK => ?_); go_simp; refine hK _ _ (Ext.alloc _ _) ?_; clear hK K; refine X_al x ?_; generalize (World.later _ x).heap.size = bn; intro yn hn1 hn2 hn3 hn4 hn5; clear x) | go_step)
        exact Body_ret hd ⟨rfl, by simp⟩
    · have hm : x.may = false := by simp [View.may, inB, h0, h1]
      rw [hm]
      refine Fn_of Tryz.func75 rfl (Nat.le_of_ble_eq_true rfl) ?_; intro A hd hA; simp only [ix, Nat.reduceAdd]; replace hA : A.tmps.size = 56 := hA
      repeat' (first | (refine X_gf2 ?_) | refine X_gt ?_ | refine X_q ?_ | refine X_g ?_ | refine X_gf ?_ | refine X_nil ?_ | refine W_seqk (fun K hK => ?_) | refine W_seqr ?_ | refine W_ret ?_ | (refine X_s (fun x K hK => ?_); go_simp; refine hK _ _ (Ext.alloc _ _) ?_; clear hK K; refine X_al x ?_; generalize (World.later _ x).heap.size = bn; intro yn hn1 hn2 hn3 hn4 hn5; clear x) | go_step)
      exact Body_ret hd ⟨rfl, by simp⟩
  · have hm : x.may = false := by simp [View.may, inB, h0]
    rw [hm]
    refine Fn_of Tryz.func75 rfl (Nat.le_of_ble_eq_true rfl) ?_; intro A hd hA; simp only [ix, Nat.reduceAdd]; replace hA : A.tmps.size = 56 := hA
    repeat' (first | (refine X_gf2 ?_) | refine X_q ?_ | refine X_g ?_ | refine X_gf ?_ | refine X_nil ?_ | refine W_seqk (fun K hK => ?_) | refine W_seqr ?_ | refine W_ret ?_ | (refine X_s (fun x K hK => ?_); go_simp; refine hK _ _ (Ext.alloc _ _) ?_; clear hK K; refine X_al x ?_; generalize (World.later _ x).heap.size = bn; intro yn hn1 hn2 hn3 hn4 hn5; clear x) | go_step)
    exact Body_ret hd ⟨rfl, by simp⟩
def RepS.bare (s : RepS) : RepS := { s with version := 0, beg := 0, isr := [], counts := [], known := fun _ => 0 }
theorem bare11_calls {N : Nat → Prop} {w : World} {uL uI uC : Value} {s : RepS} (h : VR N w uL uI uC s) : Ret Tryz.prog 77 #[s.v uL uI uC] w fun v w' => Ext w w' ∧ v = s.bare.v uL (.slice none 0 0) (.slice none 0 0) := by
  obtain ⟨A1, c1, rfl, -⟩ := h.rl.rd.ent
  obtain ⟨A2, c2, rfl, -⟩ := h.ri.rd.int
  obtain ⟨A3, c3, rfl, -⟩ := h.rc.rd.int
  clear h
  refine Fn_of Tryz.func77 rfl (Nat.le_of_ble_eq_true rfl) ?_; intro A hd hA; simp only [ix, Nat.reduceAdd]; replace hA : A.tmps.size = 10 := hA
  (repeat' (first | refine W_seqk (fun K hK => ?_) | refine W_seqr ?_ | fail)); (first | (refine X_var (fun yn bx hn1 hn2 hn3 hn4 hn5 => ?_)) | (refine X_s (fun x K hK => ?_); go_simp; refine hK _ _ (Ext.alloc _ _) ?_; clear hK K; refine X_al x ?_; generalize (World.later _ x).heap.size = bx; intro yn hn1 hn2 hn3 hn4 hn5; clear x)); have HBbx := Lib.hid (Blk.new hn5.out); have HEbx := Lib.hid yn.ext; have hlbx : (World.heap w).size ≤ bx := hn1; generalize World.later w yn = W0 at *; clear hn1 hn2 hn3 hn4 hn5 yn
  (skip); (first | (refine X_var (fun yn bo hn1 hn2 hn3 hn4 hn5 => ?_)) | (refine X_s (fun x K hK => ?_); go_simp; refine hK _ _ (Ext.alloc _ _) ?_; clear hK K; refine X_al x ?_; generalize (World.later _ x).heap.size = bo; intro yn hn1 hn2 hn3 hn4 hn5; clear x)); have HBbo := Lib.hid (Blk.new hn5.out); have HEbo := Lib.hid yn.ext; have hlbo : (World.heap W0).size ≤ bo := hn1; generalize World.later W0 yn = W at *; clear hn1 hn2 hn3 hn4 hn5 yn
  have HBX := Lib.hid ((fbox2 HBbx.out).later HEbo.out)
  have HE := Lib.hid (Ext.trans HEbx.out HEbo.out)
  have hbb : bx < bo := by have := HBbx.out.lt; omega
  have hE0 := HEbx.out.size
  have HBO := HBbo
  clear HBbx HBbo HEbx HEbo
  have hlt := HBX.out.lt
  have hbol := HBO.out.lt
  repeat' (first | refine X_q ?_ | refine X_nil ?_ | refine W_seqk (fun K hK => ?_) | refine W_seqr ?_ | go_step)
  refine X_store (off := 7) HBX.out (fun W1 hM1 hB1 => ?_)
  have HB := Lib.hid hB1
  have HM := Lib.hid hM1
  clear hM1 hB1
  repeat' (first | refine X_q ?_ | fail)
  refine X_store (off := 8) HB.out (fun W2 hM2 hB2 => ?_)
  have HB := Lib.hid hB2
  have HM := Lib.hid (HM.out.transG hM2)
  clear hM2 hB2
  repeat' (first | refine X_q ?_ | fail)
  refine X_store (off := 9) HB.out (fun W3 hM3 hB3 => ?_)
  have HB := Lib.hid hB3
  have HM := Lib.hid (HM.out.transG hM3)
  clear hM3 hB3
  repeat' (first | refine X_q ?_ | fail)
  refine X_store (off := 10) HB.out (fun W4 hM4 hB4 => ?_)
  have HB := Lib.hid hB4
  have HM := Lib.hid (HM.out.transG hM4)
  clear hM4 hB4
  repeat' (first | refine X_q ?_ | fail)
  refine X_store (off := 11) HB.out (fun W5 hM5 hB5 => ?_)
  have HB := Lib.hid (hB5.congr (g' := fenc s.bare (.slice A1 s.log.length c1) (.slice none 0 0) (.slice none 0 0)) (all15 ⟨rfl, rfl, rfl, rfl, rfl, rfl, rfl, rfl, rfl, rfl, rfl, rfl, rfl, rfl, rfl⟩))
  have HM := Lib.hid (HM.out.transG hM5)
  clear hM5 hB5
  have hlt1 := HB.out.lt
  have HBO := Lib.hid (HBO.out.mod HM.out (fun h => by omega))
  repeat' (first | refine X_nil ?_ | refine W_seqk (fun K hK => ?_) | refine W_seqr ?_ | go_step)
  refine X_fload HB.out ?_ (hu := Tryz.underlying33)
  skip
  refine X_store (off := 0) HBO.out (fun W6 hM6 hB6 => ?_)
  have HB6 := Lib.hid (fput hB6)
  have HE6 := Lib.hid (Ext.fresh (F := fun k => k = bx ∨ k = bo) HE.out (Mod.trans HM.out hM6 (fun _ _ h => .inl h) (fun _ _ h => .inr h)) (fun k hk => by rcases hk with rfl | rfl <;> omega))
  clear hM6 hB6
  repeat' (first | refine X_nil ?_ | refine W_ret ?_ | go_step)
  exact Body_retcell1 (cs := s.bare.cs _ _ _) hd ⟨HE6.out, rfl⟩ HB6.out (fun k hk => cs_fenc hk) Tryz.underlying33
end Go.Ws
