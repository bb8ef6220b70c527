/- Lemmas for the statements of this layer (joined texts); no condition. -/
import Derived.Test.YtlpjgegbdmkmdaaGreatBa02
import Derived.Test.YtlpjgegbdmkmdaaGreatBa08
import Derived.Test.YtlpjgegbdmkmdaaGreatBa14
import Derived.Test.YtlpjgegbdmkmdaaGreatBa15
import Derived.Test.YtlpjgegbdmkmdaaGreatBa18
namespace Go.Ws
open Go Go.RowKit Go.Proofs
set_option maxHeartbeats 2000000
set_option maxRecDepth 100000
set_option linter.unusedVariables false
set_option linter.unusedSimpArgs false

theorem all5 {P : Nat → Prop} (h : P 0 ∧ P 1 ∧ P 2 ∧ P 3 ∧ P 4) : ∀ k, k < 5 → P k := by
  obtain ⟨h0, h1, h2, h3, h4⟩ := h
  intro k hk
  obtain rfl | rfl | rfl | rfl | rfl : k = 0 ∨ k = 1 ∨ k = 2 ∨ k = 3 ∨ k = 4 := by omega
  all_goals assumption
def Fetch.zero : Fetch := ⟨0, 0, 0, 0, 0⟩
theorem ask11_calls {N : Nat → Prop} {w : World} {uL uI uC : Value} {s : RepS} (h : VR N w uL uI uC s) : Pure Tryz.prog 39 #[s.v uL uI uC] w (.tuple #[if s.role = 2 then s.asks.v else Fetch.zero.v, .int .i64 (if s.role = 2 then 0 else 211)]) := by
  have HVR := Lib.hid h
  obtain ⟨A1, c1, rfl, -⟩ := h.rl.rd.ent
  obtain ⟨A2, c2, rfl, -⟩ := h.ri.rd.int
  obtain ⟨A3, c3, rfl, -⟩ := h.rc.rd.int
  clear h
  by_cases hr : s.role = 2
  · have hrb : (s.role != 2) = false := by simp [hr]
    rw [if_pos hr, if_pos hr]
    clear hr
    refine Fn_of Tryz.func39 rfl (Nat.le_of_ble_eq_true rfl) ?_; intro A hd hA; simp only [ix, Nat.reduceAdd]; replace hA : A.tmps.size = 21 := hA
    (repeat' (first | refine W_seqk (fun K hK => ?_) | refine W_seqr ?_ | fail)); (first | (refine X_var (fun yn bx hn1 hn2 hn3 hn4 hn5 => ?_)) | (refine X_s (fun x K hK => ?_); go_simp; refine hK _ _ (Ext.alloc _ _) ?_; clear hK K; refine X_al x ?_; generalize (World.later _ x).heap.size = bx; intro yn hn1 hn2 hn3 hn4 hn5; clear x)); have HBbx := Lib.hid (Blk.new hn5.out); have HEbx := Lib.hid yn.ext; have hlbx : (World.heap w).size ≤ bx := hn1; generalize World.later w yn = W0 at *; clear hn1 hn2 hn3 hn4 hn5 yn
    (skip); (first | (refine X_var (fun yn bo hn1 hn2 hn3 hn4 hn5 => ?_)) | (refine X_s (fun x K hK => ?_); go_simp; refine hK _ _ (Ext.alloc _ _) ?_; clear hK K; refine X_al x ?_; generalize (World.later _ x).heap.size = bo; intro yn hn1 hn2 hn3 hn4 hn5; clear x)); have HBbo := Lib.hid (Blk.new hn5.out); have HEbo := Lib.hid yn.ext; have hlbo : (World.heap W0).size ≤ bo := hn1; generalize World.later W0 yn = W at *; clear hn1 hn2 hn3 hn4 hn5 yn
    have HBX := Lib.hid ((fbox2 HBbx.out).later HEbo.out)
    have HE := Lib.hid (Ext.trans HEbx.out HEbo.out)
    have hbb : bx < bo := by have := HBbx.out.lt; omega
    have hE0 := HEbx.out.size
    have HBO := HBbo
    clear HBbx HBbo HEbx HEbo
    have hbol := HBO.out.lt
    obtain ⟨hlt, d0, d1, d2, d3, d4, d5, d6, d7, d8, d9, d10⟩ := fcells HBX.out

    repeat' (first | refine X_q ?_ | refine X_nil ?_ | refine W_seqk (fun K hK => ?_) | refine W_seqr ?_ | refine W_skip ?_ | refine W_ff ?_ | go_step)
    refine W_drawσ [(0, 0), (1, 0), (2, 0), (3, 0), (4, 0), (5, 0), (6, 0), (7, 0), (8, 0), (10, 0), (11, 0), (9, 1), (12, 0), (13, 2), (14, 0)] (by kernel_rfl) (by kernel_rfl) ?_
    repeat' (first | (refine X_pure1 Tryz.func74 (fun x => last7_calls _ _ _ ((HVR.out.later HE.out).rl.rd.later x.ext)) ?_) | refine X_q ?_ | fail)
    refine X_store (off := 0) HBO.out (fun W1 hM1 hB1 => ?_); replace HE := Lib.hid (Ext.fresh HE.out hM1 (fun k hk => by subst hk; omega)); replace HBO := Lib.hid hB1; clear hM1 hB1
    repeat' (first | refine X_q ?_ | refine X_niln ?_ | refine W_ret ?_ | go_step)
    exact Body_retcellv (cs := s.asks.cs) hd ⟨rfl, HE.out⟩ (HBO.out.congr (g' := fun k => s.asks.cs.getD k undef) (all5 ⟨rfl, rfl, rfl, rfl, rfl⟩)) (all5 ⟨rfl, rfl, rfl, rfl, rfl⟩) Tryz.underlying47
  · have hrb : (s.role != 2) = true := by simp [hr]
    rw [if_neg hr, if_neg hr]
    refine Fn_of Tryz.func39 rfl (Nat.le_of_ble_eq_true rfl) ?_; intro A hd hA; simp only [ix, Nat.reduceAdd]; replace hA : A.tmps.size = 21 := hA
    (repeat' (first | refine W_seqk (fun K hK => ?_) | refine W_seqr ?_ | fail)); (first | (refine X_var (fun yn bx hn1 hn2 hn3 hn4 hn5 => ?_)) | (refine X_s (fun x K hK => ?_); go_simp; refine hK _ _ (Ext.alloc _ _) ?_; clear hK K; refine X_al x ?_; generalize (World.later _ x).heap.size = bx; intro yn hn1 hn2 hn3 hn4 hn5; clear x)); have HBbx := Lib.hid (Blk.new hn5.out); have HEbx := Lib.hid yn.ext; have hlbx : (World.heap w).size ≤ bx := hn1; generalize World.later w yn = W0 at *; clear hn1 hn2 hn3 hn4 hn5 yn
    (skip); (first | (refine X_var (fun yn bo hn1 hn2 hn3 hn4 hn5 => ?_)) | (refine X_s (fun x K hK => ?_); go_simp; refine hK _ _ (Ext.alloc _ _) ?_; clear hK K; refine X_al x ?_; generalize (World.later _ x).heap.size = bo; intro yn hn1 hn2 hn3 hn4 hn5; clear x)); have HBbo := Lib.hid (Blk.new hn5.out); have HEbo := Lib.hid yn.ext; have hlbo : (World.heap W0).size ≤ bo := hn1; generalize World.later W0 yn = W at *; clear hn1 hn2 hn3 hn4 hn5 yn
    have HBX := Lib.hid ((fbox2 HBbx.out).later HEbo.out)
    have HE := Lib.hid (Ext.trans HEbx.out HEbo.out)
    have hbb : bx < bo := by have := HBbx.out.lt; omega
    have hE0 := HEbx.out.size
    have HBO := HBbo
    clear HBbx HBbo HEbx HEbo
    have hbol := HBO.out.lt
    obtain ⟨hlt, d0, d1, d2, d3, d4, d5, d6, d7, d8, d9, d10⟩ := fcells HBX.out

    repeat' (first | refine X_q ?_ | refine X_nil ?_ | refine W_seqk (fun K hK => ?_) | refine W_seqr ?_ | refine W_tt ?_ | go_step)
    refine X_store (off := 0) HBO.out (fun W1 hM1 hB1 => ?_); replace HE := Lib.hid (Ext.fresh HE.out hM1 (fun k hk => by subst hk; omega)); replace HBO := Lib.hid hB1; clear hM1 hB1
    repeat' (first | refine X_q ?_ | refine X_nil ?_ | refine W_ret ?_ | go_step)
    exact Body_retcellv (cs := Fetch.zero.cs) hd ⟨rfl, HE.out⟩ (HBO.out.congr (g' := fun k => Fetch.zero.cs.getD k undef) (all5 ⟨rfl, rfl, rfl, rfl, rfl⟩)) (all5 ⟨rfl, rfl, rfl, rfl, rfl⟩) Tryz.underlying47
theorem Rd.takeN {α : Type} {enc : α → List Value} {k : Nat} {w : World} {xs : List α} {A : Option Addr} {N c : Nat} (h : Rd enc k w (.slice A N c) xs) (n : Nat) (hn : n ≤ xs.length) : Rd enc k w (.slice A n n) (xs.take n) := by
  obtain ⟨A', c', h1, h2, h3, h4⟩ := h.take n hn
  obtain ⟨rfl, -, rfl⟩ := Value.slice.inj h1
  have hl : (xs.take n).length = n := by simp; omega
  exact ⟨A, n, by rw [hl], by rw [hl]; exact Nat.le_refl _, by rw [hl] at h2; omega, h4⟩
theorem RdN.takeN {α : Type} {N : Nat → Prop} {enc : α → List Value} {k : Nat} {w : World} {xs : List α} {A : Option Addr} {m c : Nat} (h : RdN N enc k w (.slice A m c) xs) (n : Nat) (hn : n ≤ xs.length) : RdN N enc k w (.slice A n n) (xs.take n) :=
  ⟨h.rd.takeN n hn, fun b hb => h.nb b (by cases A <;> exact hb)⟩
theorem crash11_calls {N : Nat → Prop} {w : World} {uL uI uC : Value} {s : RepS} (h : VR N w uL uI uC s) (hl : s.log.length ≤ 4096) (hf0 : 0 ≤ s.flushed) (hf1 : s.flushed ≤ s.log.length) (keep : Int) : Ret Tryz.prog 44 #[s.v uL uI uC, .int .i64 keep] w fun r w' => Ext w w' ∧ ∃ v', r = .tuple #[v', .int .i64 (s.crash keep).2] ∧ FV N w' v' (s.crash keep).1 := by
  have HVR := Lib.hid h
  obtain ⟨A1, c1, rfl, hc1, hcm1, -⟩ := h.rl.rd.ent
  obtain ⟨A2, c2, rfl, -⟩ := h.ri.rd.int
  obtain ⟨A3, c3, rfl, -⟩ := h.rc.rd.int
  clear h

  by_cases hk0 : keep < 0
  · have hcr : s.crash keep = (s, 2) := by unfold RepS.crash; rw [if_pos hk0]
    rw [hcr]
    clear hcr
    refine Fn_of Tryz.func44 rfl (Nat.le_of_ble_eq_true rfl) ?_; intro A hd hA; simp only [ix, Nat.reduceAdd]; replace hA : A.tmps.size = 40 := hA
    (repeat' (first | refine W_seqk (fun K hK => ?_) | refine W_seqr ?_ | fail)); (first | (refine X_var (fun yn bx hn1 hn2 hn3 hn4 hn5 => ?_)) | (refine X_s (fun x K hK => ?_); go_simp; refine hK _ _ (Ext.alloc _ _) ?_; clear hK K; refine X_al x ?_; generalize (World.later _ x).heap.size = bx; intro yn hn1 hn2 hn3 hn4 hn5; clear x)); have HBbx := Lib.hid (Blk.new hn5.out); have HEbx := Lib.hid yn.ext; have hlbx : (World.heap w).size ≤ bx := hn1; generalize World.later w yn = W0 at *; clear hn1 hn2 hn3 hn4 hn5 yn
    (skip); (first | (refine X_var (fun yn bo hn1 hn2 hn3 hn4 hn5 => ?_)) | (refine X_s (fun x K hK => ?_); go_simp; refine hK _ _ (Ext.alloc _ _) ?_; clear hK K; refine X_al x ?_; generalize (World.later _ x).heap.size = bo; intro yn hn1 hn2 hn3 hn4 hn5; clear x)); have HBbo := Lib.hid (Blk.new hn5.out); have HEbo := Lib.hid yn.ext; have hlbo : (World.heap W0).size ≤ bo := hn1; generalize World.later W0 yn = W at *; clear hn1 hn2 hn3 hn4 hn5 yn
    have HBX := Lib.hid ((fbox2 HBbx.out).later HEbo.out)
    have HE := Lib.hid (Ext.trans HEbx.out HEbo.out)
    have hbb : bx < bo := by have := HBbx.out.lt; omega
    have hE0 := HEbx.out.size
    have HBO := HBbo
    clear HBbx HBbo HEbx HEbo
    have hbol := HBO.out.lt
    obtain ⟨hlt, d0, d1, d2, d3, d4, d5, d6, d7, d8, d9, d10⟩ := fcells HBX.out
    repeat' (first | refine X_q ?_ | refine X_nil ?_ | refine W_seqk (fun K hK => ?_) | refine W_seqr ?_ | refine W_tt ?_ | go_step)

    refine X_fload HBX.out ?_ (hu := Tryz.underlying33)
    skip
    refine X_store (off := 0) HBO.out (fun W1 hM1 hB1 => ?_); replace HE := Lib.hid (Ext.fresh HE.out hM1 (fun k hk => by subst hk; omega)); replace HBO := Lib.hid hB1; clear hM1 hB1
    replace HBO := Lib.hid (fput HBO.out)
    repeat' (first | refine X_q ?_ | refine X_nil ?_ | refine W_ret ?_ | go_step)
    exact Body_retcellv (cs := RepS.cs (s) _ _ _) hd ⟨HE.out, _, rfl, _, _, _, rfl, HVR.out.later HE.out⟩ HBO.out (fun k hk => cs_fenc hk) Tryz.underlying33

  · obtain ⟨n, hn⟩ : ∃ n : Nat, (n : Int) = gmin (s.log.length : Int) (s.flushed + gmin keep 4096) := by
      refine ⟨(gmin (s.log.length : Int) (s.flushed + gmin keep 4096)).toNat, ?_⟩
      rw [gmin_eq, gmin_eq]; omega
    have hnl : n ≤ s.log.length := by rw [gmin_eq, gmin_eq] at hn; omega
    have hcr : s.crash keep = ({ s with version := 0, beg := 0, isr := [], counts := [], known := fun _ => 0, log := s.log.take n, flushed := n, high := gmin s.high n, role := 1 }, 0) := by
      unfold RepS.crash
      rw [if_neg hk0]
      simp only [← hn]
      rfl
    rw [hcr]
    clear hcr
    have hnc : n ≤ c1 := by omega
    by_cases hkn : keep < (s.log.length : Int) - s.flushed
    · have hnn : s.flushed + keep = (n : Int) := by rw [hn, gmin_eq, gmin_eq]; omega
      clear hn
      refine Fn_of Tryz.func44 rfl (Nat.le_of_ble_eq_true rfl) ?_; intro A hd hA; simp only [ix, Nat.reduceAdd]; replace hA : A.tmps.size = 40 := hA
      (repeat' (first | refine W_seqk (fun K hK => ?_) | refine W_seqr ?_ | fail)); (first | (refine X_var (fun yn bx hn1 hn2 hn3 hn4 hn5 => ?_)) | (refine X_s (fun x K hK => ?_); go_simp; refine hK _ _ (Ext.alloc _ _) ?_; clear hK K; refine X_al x ?_; generalize (World.later _ x).heap.size = bx; intro yn hn1 hn2 hn3 hn4 hn5; clear x)); have HBbx := Lib.hid (Blk.new hn5.out); have HEbx := Lib.hid yn.ext; have hlbx : (World.heap w).size ≤ bx := hn1; generalize World.later w yn = W0 at *; clear hn1 hn2 hn3 hn4 hn5 yn
      (skip); (first | (refine X_var (fun yn bo hn1 hn2 hn3 hn4 hn5 => ?_)) | (refine X_s (fun x K hK => ?_); go_simp; refine hK _ _ (Ext.alloc _ _) ?_; clear hK K; refine X_al x ?_; generalize (World.later _ x).heap.size = bo; intro yn hn1 hn2 hn3 hn4 hn5; clear x)); have HBbo := Lib.hid (Blk.new hn5.out); have HEbo := Lib.hid yn.ext; have hlbo : (World.heap W0).size ≤ bo := hn1; generalize World.later W0 yn = W at *; clear hn1 hn2 hn3 hn4 hn5 yn
      have HBX := Lib.hid ((fbox2 HBbx.out).later HEbo.out)
      have HE := Lib.hid (Ext.trans HEbx.out HEbo.out)
      have hbb : bx < bo := by have := HBbx.out.lt; omega
      have hE0 := HEbx.out.size
      have HBO := HBbo
      clear HBbx HBbo HEbx HEbo
      have hbol := HBO.out.lt
      obtain ⟨hlt, d0, d1, d2, d3, d4, d5, d6, d7, d8, d9, d10⟩ := fcells HBX.out

      repeat' (first | refine X_q ?_ | refine X_nil ?_ | refine W_seqk (fun K hK => ?_) | refine W_seqr ?_ | refine W_skip ?_ | refine W_tt ?_ | refine W_ff ?_ | go_step)
      refine X_fload HBX.out ?_ (hu := Tryz.underlying33)
      clear hlt d0 d1 d2 d3 d4 d5 d6 d7 d8 d9 d10

      skip
      refine X_ret Tryz.func77 (bare11_calls (HVR.out.later HE.out)) (fun r w1 hR => ?_)
      obtain ⟨hE2, rfl⟩ := hR
      replace HE := Lib.hid (Ext.trans HE.out hE2)
      replace HBO := Lib.hid (HBO.out.later hE2)
      replace HBX := Lib.hid (HBX.out.later hE2)
      clear hE2
      skip
      refine X_store (off := 0) HBX.out (fun W1 hM1 hB1 => ?_); replace HE := Lib.hid (Ext.fresh HE.out hM1 (fun k hk => by subst hk; omega)); replace HBO := Lib.hid (HBO.out.mod hM1 (fun h => by omega)); replace HBX := Lib.hid hB1; clear hM1 hB1
      replace HBX := Lib.hid (fput HBX.out)
      obtain ⟨hlt, d0, d1, d2, d3, d4, d5, d6, d7, d8, d9, d10⟩ := fcells HBX.out
      (try dsimp only [RepS.bare] at d0 d1 d2 d3 d5 d6 d7 d8)
      repeat' (first | refine X_q ?_ | refine X_nil ?_ | refine W_seqk (fun K hK => ?_) | refine W_seqr ?_ | go_step)
      refine X_store (off := 4) HBX.out (fun W1 hM1 hB1 => ?_); replace HE := Lib.hid (Ext.fresh HE.out hM1 (fun k hk => by subst hk; omega)); replace HBO := Lib.hid (HBO.out.mod hM1 (fun h => by omega)); replace HBX := Lib.hid hB1; clear hM1 hB1
      clear hlt d0 d1 d2 d3 d4 d5 d6 d7 d8 d9 d10

      replace HBX := Lib.hid (HBX.out.congr (g' := fenc { s.bare with log := s.log.take n } (.slice A1 n n) (.slice none 0 0) (.slice none 0 0)) (all15 ⟨rfl, rfl, rfl, rfl, rfl, rfl, rfl, rfl, rfl, rfl, rfl, rfl, rfl, rfl, rfl⟩))
      obtain ⟨hlt, d0, d1, d2, d3, d4, d5, d6, d7, d8, d9, d10⟩ := fcells HBX.out
      (try dsimp only [RepS.bare] at d0 d1 d2 d3 d5 d6 d7 d8)
      repeat' (first | refine X_q ?_ | refine X_nil ?_ | refine W_seqk (fun K hK => ?_) | refine W_seqr ?_ | go_step)
      refine X_store (off := 5) HBX.out (fun W1 hM1 hB1 => ?_); replace HE := Lib.hid (Ext.fresh HE.out hM1 (fun k hk => by subst hk; omega)); replace HBO := Lib.hid (HBO.out.mod hM1 (fun h => by omega)); replace HBX := Lib.hid hB1; clear hM1 hB1
      repeat' (first | refine X_q ?_ | fail)
      refine X_store (off := 6) HBX.out (fun W1 hM1 hB1 => ?_); replace HE := Lib.hid (Ext.fresh HE.out hM1 (fun k hk => by subst hk; omega)); replace HBO := Lib.hid (HBO.out.mod hM1 (fun h => by omega)); replace HBX := Lib.hid hB1; clear hM1 hB1
      repeat' (first | refine X_q ?_ | fail)
      refine X_store (off := 2) HBX.out (fun W1 hM1 hB1 => ?_); replace HE := Lib.hid (Ext.fresh HE.out hM1 (fun k hk => by subst hk; omega)); replace HBO := Lib.hid (HBO.out.mod hM1 (fun h => by omega)); replace HBX := Lib.hid hB1; clear hM1 hB1
      replace HBX := Lib.hid (HBX.out.congr (g' := fenc { s with version := 0, beg := 0, isr := [], counts := [], known := fun _ => 0, log := s.log.take n, flushed := n, high := gmin s.high n, role := 1 } (.slice A1 n n) (.slice none 0 0) (.slice none 0 0)) (all15 ⟨rfl, rfl, rfl, rfl, rfl, rfl, rfl, rfl, rfl, rfl, rfl, rfl, rfl, rfl, rfl⟩))
      clear hlt d0 d1 d2 d3 d4 d5 d6 d7 d8 d9 d10

      repeat' (first | refine X_nil ?_ | refine W_seqk (fun K hK => ?_) | refine W_seqr ?_ | go_step)

      refine X_fload HBX.out ?_ (hu := Tryz.underlying33)
      skip
      refine X_store (off := 0) HBO.out (fun W1 hM1 hB1 => ?_); replace HE := Lib.hid (Ext.fresh HE.out hM1 (fun k hk => by subst hk; omega)); replace HBO := Lib.hid hB1; clear hM1 hB1
      replace HBO := Lib.hid (fput HBO.out)
      repeat' (first | refine X_q ?_ | refine X_nil ?_ | refine W_ret ?_ | go_step)
      exact Body_retcellv (cs := RepS.cs ({ s with version := 0, beg := 0, isr := [], counts := [], known := fun _ => 0, log := s.log.take n, flushed := n, high := gmin s.high n, role := 1 }) _ _ _) hd ⟨HE.out, _, rfl, _, _, _, rfl, ⟨(HVR.out.later HE.out).rl.takeN n hnl, RdN.nil _, RdN.nil _⟩⟩ HBO.out (fun k hk => cs_fenc hk) Tryz.underlying33

    · have hnn : n = s.log.length := by rw [gmin_eq, gmin_eq] at hn; omega
      clear hn
      subst hnn
      refine Fn_of Tryz.func44 rfl (Nat.le_of_ble_eq_true rfl) ?_; intro A hd hA; simp only [ix, Nat.reduceAdd]; replace hA : A.tmps.size = 40 := hA
      (repeat' (first | refine W_seqk (fun K hK => ?_) | refine W_seqr ?_ | fail)); (first | (refine X_var (fun yn bx hn1 hn2 hn3 hn4 hn5 => ?_)) | (refine X_s (fun x K hK => ?_); go_simp; refine hK _ _ (Ext.alloc _ _) ?_; clear hK K; refine X_al x ?_; generalize (World.later _ x).heap.size = bx; intro yn hn1 hn2 hn3 hn4 hn5; clear x)); have HBbx := Lib.hid (Blk.new hn5.out); have HEbx := Lib.hid yn.ext; have hlbx : (World.heap w).size ≤ bx := hn1; generalize World.later w yn = W0 at *; clear hn1 hn2 hn3 hn4 hn5 yn
      (skip); (first | (refine X_var (fun yn bo hn1 hn2 hn3 hn4 hn5 => ?_)) | (refine X_s (fun x K hK => ?_); go_simp; refine hK _ _ (Ext.alloc _ _) ?_; clear hK K; refine X_al x ?_; generalize (World.later _ x).heap.size = bo; intro yn hn1 hn2 hn3 hn4 hn5; clear x)); have HBbo := Lib.hid (Blk.new hn5.out); have HEbo := Lib.hid yn.ext; have hlbo : (World.heap W0).size ≤ bo := hn1; generalize World.later W0 yn = W at *; clear hn1 hn2 hn3 hn4 hn5 yn
      have HBX := Lib.hid ((fbox2 HBbx.out).later HEbo.out)
      have HE := Lib.hid (Ext.trans HEbx.out HEbo.out)
      have hbb : bx < bo := by have := HBbx.out.lt; omega
      have hE0 := HEbx.out.size
      have HBO := HBbo
      clear HBbx HBbo HEbx HEbo
      have hbol := HBO.out.lt
      obtain ⟨hlt, d0, d1, d2, d3, d4, d5, d6, d7, d8, d9, d10⟩ := fcells HBX.out

      repeat' (first | refine X_q ?_ | refine X_nil ?_ | refine W_seqk (fun K hK => ?_) | refine W_seqr ?_ | refine W_skip ?_ | refine W_ff ?_ | go_step)
      refine X_fload HBX.out ?_ (hu := Tryz.underlying33)
      clear hlt d0 d1 d2 d3 d4 d5 d6 d7 d8 d9 d10

      skip
      refine X_ret Tryz.func77 (bare11_calls (HVR.out.later HE.out)) (fun r w1 hR => ?_)
      obtain ⟨hE2, rfl⟩ := hR
      replace HE := Lib.hid (Ext.trans HE.out hE2)
      replace HBO := Lib.hid (HBO.out.later hE2)
      replace HBX := Lib.hid (HBX.out.later hE2)
      clear hE2
      skip
      refine X_store (off := 0) HBX.out (fun W1 hM1 hB1 => ?_); replace HE := Lib.hid (Ext.fresh HE.out hM1 (fun k hk => by subst hk; omega)); replace HBO := Lib.hid (HBO.out.mod hM1 (fun h => by omega)); replace HBX := Lib.hid hB1; clear hM1 hB1
      replace HBX := Lib.hid (fput HBX.out)
      obtain ⟨hlt, d0, d1, d2, d3, d4, d5, d6, d7, d8, d9, d10⟩ := fcells HBX.out
      (try dsimp only [RepS.bare] at d0 d1 d2 d3 d5 d6 d7 d8)
      repeat' (first | refine X_q ?_ | refine X_nil ?_ | refine W_seqk (fun K hK => ?_) | refine W_seqr ?_ | go_step)
      refine X_store (off := 4) HBX.out (fun W1 hM1 hB1 => ?_); replace HE := Lib.hid (Ext.fresh HE.out hM1 (fun k hk => by subst hk; omega)); replace HBO := Lib.hid (HBO.out.mod hM1 (fun h => by omega)); replace HBX := Lib.hid hB1; clear hM1 hB1
      clear hlt d0 d1 d2 d3 d4 d5 d6 d7 d8 d9 d10

      replace HBX := Lib.hid (HBX.out.congr (g' := fenc { s.bare with log := s.log.take s.log.length } (.slice A1 s.log.length s.log.length) (.slice none 0 0) (.slice none 0 0)) (all15 ⟨rfl, rfl, rfl, rfl, rfl, rfl, rfl, rfl, rfl, rfl, rfl, rfl, rfl, rfl, rfl⟩))
      obtain ⟨hlt, d0, d1, d2, d3, d4, d5, d6, d7, d8, d9, d10⟩ := fcells HBX.out
      (try dsimp only [RepS.bare] at d0 d1 d2 d3 d5 d6 d7 d8)
      repeat' (first | refine X_q ?_ | refine X_nil ?_ | refine W_seqk (fun K hK => ?_) | refine W_seqr ?_ | go_step)
      refine X_store (off := 5) HBX.out (fun W1 hM1 hB1 => ?_); replace HE := Lib.hid (Ext.fresh HE.out hM1 (fun k hk => by subst hk; omega)); replace HBO := Lib.hid (HBO.out.mod hM1 (fun h => by omega)); replace HBX := Lib.hid hB1; clear hM1 hB1
      repeat' (first | refine X_q ?_ | fail)
      refine X_store (off := 6) HBX.out (fun W1 hM1 hB1 => ?_); replace HE := Lib.hid (Ext.fresh HE.out hM1 (fun k hk => by subst hk; omega)); replace HBO := Lib.hid (HBO.out.mod hM1 (fun h => by omega)); replace HBX := Lib.hid hB1; clear hM1 hB1
      repeat' (first | refine X_q ?_ | fail)
      refine X_store (off := 2) HBX.out (fun W1 hM1 hB1 => ?_); replace HE := Lib.hid (Ext.fresh HE.out hM1 (fun k hk => by subst hk; omega)); replace HBO := Lib.hid (HBO.out.mod hM1 (fun h => by omega)); replace HBX := Lib.hid hB1; clear hM1 hB1
      replace HBX := Lib.hid (HBX.out.congr (g' := fenc { s with version := 0, beg := 0, isr := [], counts := [], known := fun _ => 0, log := s.log.take s.log.length, flushed := s.log.length, high := gmin s.high s.log.length, role := 1 } (.slice A1 s.log.length s.log.length) (.slice none 0 0) (.slice none 0 0)) (all15 ⟨rfl, rfl, rfl, rfl, rfl, rfl, rfl, rfl, rfl, rfl, rfl, rfl, rfl, rfl, rfl⟩))
      clear hlt d0 d1 d2 d3 d4 d5 d6 d7 d8 d9 d10

      repeat' (first | refine X_nil ?_ | refine W_seqk (fun K hK => ?_) | refine W_seqr ?_ | go_step)

      refine X_fload HBX.out ?_ (hu := Tryz.underlying33)
      skip
      refine X_store (off := 0) HBO.out (fun W1 hM1 hB1 => ?_); replace HE := Lib.hid (Ext.fresh HE.out hM1 (fun k hk => by subst hk; omega)); replace HBO := Lib.hid hB1; clear hM1 hB1
      replace HBO := Lib.hid (fput HBO.out)
      repeat' (first | refine X_q ?_ | refine X_nil ?_ | refine W_ret ?_ | go_step)
      exact Body_retcellv (cs := RepS.cs ({ s with version := 0, beg := 0, isr := [], counts := [], known := fun _ => 0, log := s.log.take s.log.length, flushed := s.log.length, high := gmin s.high s.log.length, role := 1 }) _ _ _) hd ⟨HE.out, _, rfl, _, _, _, rfl, ⟨(HVR.out.later HE.out).rl.takeN s.log.length hnl, RdN.nil _, RdN.nil _⟩⟩ HBO.out (fun k hk => cs_fenc hk) Tryz.underlying33
end Go.Ws
namespace Go.Ws
open Go Go.RowKit Go.Proofs
set_option maxHeartbeats 2000000
set_option maxRecDepth 100000
set_option linter.unusedVariables false
set_option linter.unusedSimpArgs false

theorem fknowns {w : World} {b : Nat} {E : TypeId} {uL uI uC : Value} {s : RepS} (h : Blk w b E 15 (fenc s uL uI uC)) : RdI w (.slice (some ⟨b, 11, none⟩) 4 4) [s.known 0, s.known 1, s.known 2, s.known 3] := by
  refine ⟨some ⟨b, 11, none⟩, 4, rfl, Nat.le_refl _, by unfold maxLen; omega, .inr ⟨b, 11, rfl, h.lt, fun i x hx j u hu => ?_⟩⟩
  have hj : j = 0 := by
    rcases Nat.lt_or_ge j 1 with h | h
    · omega
    · rw [List.getElem?_eq_none (by simpa using h)] at hu; cases hu
  subst hj
  simp at hu
  subst hu
  have hi : i < 4 := by
    rcases Nat.lt_or_ge i 4 with h | h
    · exact h
    · rw [List.getElem?_eq_none (by simpa using h)] at hx; cases hx
  have h1 := fknown h i hi
  obtain rfl | rfl | rfl | rfl : i = 0 ∨ i = 1 ∨ i = 2 ∨ i = 3 := by omega
  all_goals (simp at hx; subst hx; simpa using h1)
theorem standing11_calls {N : Nat → Prop} {w : World} {uL uI uC : Value} {s : RepS} (h : VR N w uL uI uC s) : Ret Tryz.prog 86 #[s.v uL uI uC] w fun v w' => Ext w w' ∧ SV w' v s.stand := by
  have HVR := Lib.hid h
  obtain ⟨A1, c1, rfl, -⟩ := h.rl.rd.ent
  obtain ⟨A2, c2, rfl, -⟩ := h.ri.rd.int
  obtain ⟨A3, c3, rfl, -⟩ := h.rc.rd.int
  clear h
  by_cases hr : s.role = 3
  · have hrb : (s.role == 3) = true := by simp [hr]
    have hst : s.stand = ⟨3, s.epoch, s.version, s.flushed, s.high, s.beg, s.isr, s.counts, [s.known 0, s.known 1, s.known 2, s.known 3]⟩ := by unfold RepS.stand; rw [if_pos hr, hr]
    have HR := Lib.hid hr
    rw [hst]
    clear hst hr
    refine Fn_of Tryz.func86 rfl (Nat.le_of_ble_eq_true rfl) ?_; intro A hd hA; simp only [ix, Nat.reduceAdd]; replace hA : A.tmps.size = 32 := hA
    (repeat' (first | refine W_seqk (fun K hK => ?_) | refine W_seqr ?_ | fail)); (first | (refine X_var (fun yn bx hn1 hn2 hn3 hn4 hn5 => ?_)) | (refine X_s (fun x K hK => ?_); go_simp; refine hK _ _ (Ext.alloc _ _) ?_; clear hK K; refine X_al x ?_; generalize (World.later _ x).heap.size = bx; intro yn hn1 hn2 hn3 hn4 hn5; clear x)); have HBbx := Lib.hid (Blk.new hn5.out); have HEbx := Lib.hid yn.ext; have hlbx : (World.heap w).size ≤ bx := hn1; generalize World.later w yn = W0 at *; clear hn1 hn2 hn3 hn4 hn5 yn
    (skip); (first | (refine X_var (fun yn bo hn1 hn2 hn3 hn4 hn5 => ?_)) | (refine X_s (fun x K hK => ?_); go_simp; refine hK _ _ (Ext.alloc _ _) ?_; clear hK K; refine X_al x ?_; generalize (World.later _ x).heap.size = bo; intro yn hn1 hn2 hn3 hn4 hn5; clear x)); have HBbo := Lib.hid (Blk.new hn5.out); have HEbo := Lib.hid yn.ext; have hlbo : (World.heap W0).size ≤ bo := hn1; generalize World.later W0 yn = W at *; clear hn1 hn2 hn3 hn4 hn5 yn
    have HBX := Lib.hid ((fbox2 HBbx.out).later HEbo.out)
    have HE := Lib.hid (Ext.trans HEbx.out HEbo.out)
    have hbb : bx < bo := by have := HBbx.out.lt; omega
    have hE0 := HEbx.out.size
    have HBO := HBbo
    have hE1 := HEbo.out.size
    clear HBbx HBbo HEbx HEbo
    have hbol := HBO.out.lt
    obtain ⟨hlt, d0, d1, d2, d3, d4, d5, d6, d7, d8, d9, d10⟩ := fcells HBX.out

    (repeat' (first | refine X_q ?_ | refine X_nil ?_ | refine W_seqk (fun K hK => ?_) | refine W_seqr ?_ | go_step)); (first | (refine X_var (fun yn bs hn1 hn2 hn3 hn4 hn5 => ?_)) | (refine X_s (fun x K hK => ?_); go_simp; refine hK _ _ (Ext.alloc _ _) ?_; clear hK K; refine X_al x ?_; generalize (World.later _ x).heap.size = bs; intro yn hn1 hn2 hn3 hn4 hn5; clear x)); have HBbs := Lib.hid (Blk.new hn5.out); have HEbs := Lib.hid yn.ext; have hlbs : (World.heap W).size ≤ bs := hn1; generalize World.later W yn = W2 at *; clear hn1 hn2 hn3 hn4 hn5 yn
    clear hlt d0 d1 d2 d3 d4 d5 d6 d7 d8 d9 d10

    have hbs : bo < bs := by omega
    replace HE := Lib.hid (Ext.trans HE.out HEbs.out)
    replace HBX := Lib.hid (HBX.out.later HEbs.out)
    replace HBO := Lib.hid (HBO.out.later HEbs.out)
    have HBS := HBbs
    have hE2 := HE.out.size
    clear HBbs HEbs
    obtain ⟨hlt, d0, d1, d2, d3, d4, d5, d6, d7, d8, d9, d10⟩ := fcells HBX.out

    have hsl := HBS.out.lt

    repeat' (first | refine X_q ?_ | refine X_nil ?_ | refine W_seqk (fun K hK => ?_) | refine W_seqr ?_ | refine W_tt ?_ | go_step)
    obtain ⟨G, hG⟩ : ∃ G : Nat → Prop, G = (fun k => k = bs) := ⟨_, rfl⟩; have HGo : Hid (G bs) := Lib.hid (by subst hG; rfl); have hGbx : ¬ G bx := (by subst hG; show ¬ bx = bs; omega); clear hG
    refine W_drawG G [(0, 0), (1, 3), (2, 0), (3, 0), (4, 0), (5, 0), (6, 0), (7, 0), (8, 0), (9, 0), (10, 0), (11, 2), (12, 0), (13, 2), (14, 0), (15, 2), (16, 0), (17, 2), (18, 0), (19, 2)] (by kernel_rfl) (by kernel_rfl) ?_
    repeat' (first | refine Y_q ?_ | refine Y_r ?_ | fail)
    refine Y_store (off := 2) HBS.out HGo.out (fun W1 hM1 hG1 hB1 => ?_); replace HE := Lib.hid (Ext.fresh HE.out hM1 (fun k hk => by subst hk; omega)); replace HBO := Lib.hid (HBO.out.mod hM1 (fun h => by omega)); replace HBX := Lib.hid (HBX.out.mod hM1 (fun h => by omega)); replace HBS := Lib.hid hB1; clear hM1 hB1 hG1
    repeat' (first | refine Y_q ?_ | fail)
    refine Y_store (off := 5) HBS.out HGo.out (fun W1 hM1 hG1 hB1 => ?_); replace HE := Lib.hid (Ext.fresh HE.out hM1 (fun k hk => by subst hk; omega)); replace HBO := Lib.hid (HBO.out.mod hM1 (fun h => by omega)); replace HBX := Lib.hid (HBX.out.mod hM1 (fun h => by omega)); replace HBS := Lib.hid hB1; clear hM1 hB1 hG1
    repeat' (first | refine Y_q ?_ | fail)
    refine Y_store (off := 6) HBS.out HGo.out (fun W1 hM1 hG1 hB1 => ?_); replace HE := Lib.hid (Ext.fresh HE.out hM1 (fun k hk => by subst hk; omega)); replace HBO := Lib.hid (HBO.out.mod hM1 (fun h => by omega)); replace HBX := Lib.hid (HBX.out.mod hM1 (fun h => by omega)); replace HBS := Lib.hid hB1; clear hM1 hB1 hG1
    repeat' (first | refine Y_q ?_ | fail)
    refine Y_store (off := 7) HBS.out HGo.out (fun W1 hM1 hG1 hB1 => ?_); replace HE := Lib.hid (Ext.fresh HE.out hM1 (fun k hk => by subst hk; omega)); replace HBO := Lib.hid (HBO.out.mod hM1 (fun h => by omega)); replace HBX := Lib.hid (HBX.out.mod hM1 (fun h => by omega)); replace HBS := Lib.hid hB1; clear hM1 hB1 hG1
    repeat' (first | refine Y_q ?_ | fail)
    refine Y_store (off := 8) HBS.out HGo.out (fun W1 hM1 hG1 hB1 => ?_); replace HE := Lib.hid (Ext.fresh HE.out hM1 (fun k hk => by subst hk; omega)); replace HBO := Lib.hid (HBO.out.mod hM1 (fun h => by omega)); replace HBX := Lib.hid (HBX.out.mod hM1 (fun h => by omega)); replace HBS := Lib.hid hB1; clear hM1 hB1 hG1
    repeat' (first | refine Y_nil ?_)
    clear hlt d0 d1 d2 d3 d4 d5 d6 d7 d8 d9 d10 hsl

    have o0 := HBS.out.cell (k := 0) (by simp)
    have o1 := HBS.out.cell (k := 1) (by simp)
    have o2 := HBS.out.cell (k := 2) (by simp)
    have o3 := HBS.out.cell (k := 3) (by simp)
    have o4 := HBS.out.cell (k := 4) (by simp)
    have o5 := HBS.out.cell (k := 5) (by simp)
    have o6 := HBS.out.cell (k := 6) (by simp)
    have o7 := HBS.out.cell (k := 7) (by simp)
    have o8 := HBS.out.cell (k := 8) (by simp)
    have hsl := HBS.out.lt
    simp [put, Value.cells] at o0 o1 o2 o3 o4 o5 o6 o7 o8
    repeat' (first | refine X_q ?_ | refine W_seqk (fun K hK => ?_) | refine W_seqr ?_ | go_step)
    refine X_store (off := 0) HBO.out (fun W1 hM1 hB1 => ?_); replace HE := Lib.hid (Ext.fresh HE.out hM1 (fun k hk => by subst hk; omega)); replace HBX := Lib.hid (HBX.out.mod hM1 (fun h => by omega)); replace HBO := Lib.hid hB1; clear hM1 hB1
    repeat' (first | refine X_nil ?_ | refine W_ret ?_ | go_step)

    refine Body_retcell1 (cs := Stand.cs ⟨s.role, s.epoch, s.version, s.flushed, s.high, s.beg, s.isr, s.counts, [s.known 0, s.known 1, s.known 2, s.known 3]⟩ (.slice A2 s.isr.length c2) (.slice A3 s.counts.length c3) (.slice (some ⟨bx, 11, none⟩) 4 4)) hd ⟨HE.out, _, _, _, by rw [HR.out], (HVR.out.later HE.out).ri.rd, (HVR.out.later HE.out).rc.rd, fknowns HBX.out⟩ HBO.out (fun k hk => stand_cs ?_ hk) Tryz.underlying37
    refine ⟨?_, ?_, ?_, ?_, ?_, ?_, ?_, ?_, ?_⟩ <;> rfl

  · have hrb : (s.role == 3) = false := by simp [hr]
    have hst : s.stand = ⟨s.role, s.epoch, 0, s.flushed, s.high, 0, [], [], []⟩ := by unfold RepS.stand; rw [if_neg hr]
    rw [hst]
    clear hst
    refine Fn_of Tryz.func86 rfl (Nat.le_of_ble_eq_true rfl) ?_; intro A hd hA; simp only [ix, Nat.reduceAdd]; replace hA : A.tmps.size = 32 := hA
    (repeat' (first | refine W_seqk (fun K hK => ?_) | refine W_seqr ?_ | fail)); (first | (refine X_var (fun yn bx hn1 hn2 hn3 hn4 hn5 => ?_)) | (refine X_s (fun x K hK => ?_); go_simp; refine hK _ _ (Ext.alloc _ _) ?_; clear hK K; refine X_al x ?_; generalize (World.later _ x).heap.size = bx; intro yn hn1 hn2 hn3 hn4 hn5; clear x)); have HBbx := Lib.hid (Blk.new hn5.out); have HEbx := Lib.hid yn.ext; have hlbx : (World.heap w).size ≤ bx := hn1; generalize World.later w yn = W0 at *; clear hn1 hn2 hn3 hn4 hn5 yn
    (skip); (first | (refine X_var (fun yn bo hn1 hn2 hn3 hn4 hn5 => ?_)) | (refine X_s (fun x K hK => ?_); go_simp; refine hK _ _ (Ext.alloc _ _) ?_; clear hK K; refine X_al x ?_; generalize (World.later _ x).heap.size = bo; intro yn hn1 hn2 hn3 hn4 hn5; clear x)); have HBbo := Lib.hid (Blk.new hn5.out); have HEbo := Lib.hid yn.ext; have hlbo : (World.heap W0).size ≤ bo := hn1; generalize World.later W0 yn = W at *; clear hn1 hn2 hn3 hn4 hn5 yn
    have HBX := Lib.hid ((fbox2 HBbx.out).later HEbo.out)
    have HE := Lib.hid (Ext.trans HEbx.out HEbo.out)
    have hbb : bx < bo := by have := HBbx.out.lt; omega
    have hE0 := HEbx.out.size
    have HBO := HBbo
    have hE1 := HEbo.out.size
    clear HBbx HBbo HEbx HEbo
    have hbol := HBO.out.lt
    obtain ⟨hlt, d0, d1, d2, d3, d4, d5, d6, d7, d8, d9, d10⟩ := fcells HBX.out

    (repeat' (first | refine X_q ?_ | refine X_nil ?_ | refine W_seqk (fun K hK => ?_) | refine W_seqr ?_ | go_step)); (first | (refine X_var (fun yn bs hn1 hn2 hn3 hn4 hn5 => ?_)) | (refine X_s (fun x K hK => ?_); go_simp; refine hK _ _ (Ext.alloc _ _) ?_; clear hK K; refine X_al x ?_; generalize (World.later _ x).heap.size = bs; intro yn hn1 hn2 hn3 hn4 hn5; clear x)); have HBbs := Lib.hid (Blk.new hn5.out); have HEbs := Lib.hid yn.ext; have hlbs : (World.heap W).size ≤ bs := hn1; generalize World.later W yn = W2 at *; clear hn1 hn2 hn3 hn4 hn5 yn
    clear hlt d0 d1 d2 d3 d4 d5 d6 d7 d8 d9 d10

    have hbs : bo < bs := by omega
    replace HE := Lib.hid (Ext.trans HE.out HEbs.out)
    replace HBX := Lib.hid (HBX.out.later HEbs.out)
    replace HBO := Lib.hid (HBO.out.later HEbs.out)
    have HBS := HBbs
    have hE2 := HE.out.size
    clear HBbs HEbs
    obtain ⟨hlt, d0, d1, d2, d3, d4, d5, d6, d7, d8, d9, d10⟩ := fcells HBX.out

    have hsl := HBS.out.lt

    repeat' (first | refine X_q ?_ | refine X_nil ?_ | refine W_seqk (fun K hK => ?_) | refine W_seqr ?_ | refine W_skip ?_ | refine W_ff ?_ | go_step)
    clear hlt d0 d1 d2 d3 d4 d5 d6 d7 d8 d9 d10 hsl

    have o0 := HBS.out.cell (k := 0) (by simp)
    have o1 := HBS.out.cell (k := 1) (by simp)
    have o2 := HBS.out.cell (k := 2) (by simp)
    have o3 := HBS.out.cell (k := 3) (by simp)
    have o4 := HBS.out.cell (k := 4) (by simp)
    have o5 := HBS.out.cell (k := 5) (by simp)
    have o6 := HBS.out.cell (k := 6) (by simp)
    have o7 := HBS.out.cell (k := 7) (by simp)
    have o8 := HBS.out.cell (k := 8) (by simp)
    have hsl := HBS.out.lt
    simp [put, Value.cells] at o0 o1 o2 o3 o4 o5 o6 o7 o8
    repeat' (first | refine X_q ?_ | fail)
    refine X_store (off := 0) HBO.out (fun W1 hM1 hB1 => ?_); replace HE := Lib.hid (Ext.fresh HE.out hM1 (fun k hk => by subst hk; omega)); replace HBX := Lib.hid (HBX.out.mod hM1 (fun h => by omega)); replace HBO := Lib.hid hB1; clear hM1 hB1
    repeat' (first | refine X_nil ?_ | refine W_ret ?_ | go_step)

    refine Body_retcell1 (cs := Stand.cs ⟨s.role, s.epoch, 0, s.flushed, s.high, 0, [], [], []⟩ (.slice none 0 0) (.slice none 0 0) (.slice none 0 0)) hd ⟨HE.out, _, _, _, rfl, Rd.nil _, Rd.nil _, Rd.nil _⟩ HBO.out (fun k hk => stand_cs ?_ hk) Tryz.underlying37
    refine ⟨?_, ?_, ?_, ?_, ?_, ?_, ?_, ?_, ?_⟩ <;> rfl
theorem visible11_calls {N : Nat → Prop} {w : World} {uL uI uC : Value} {s : RepS} (h : VR N w uL uI uC s) (hl : s.log.length ≤ 4096) (h0 : 0 ≤ s.high) (h1 : s.high ≤ s.log.length) : Ret Tryz.prog 87 #[s.v uL uI uC] w fun v w' => Ext w w' ∧ RdE w' v s.vis := by
  have HVR := Lib.hid h
  obtain ⟨A1, c1, rfl, -⟩ := h.rl.rd.ent
  obtain ⟨A2, c2, rfl, -⟩ := h.ri.rd.int
  obtain ⟨A3, c3, rfl, -⟩ := h.rc.rd.int
  clear h

  obtain ⟨hn, hhn⟩ : ∃ hn : Nat, s.high = hn := ⟨s.high.toNat, by omega⟩
  have HHN := Lib.hid hhn
  have hnl : hn ≤ s.log.length := by omega
  clear hhn h0 h1
  refine Fn_of Tryz.func87 rfl (Nat.le_of_ble_eq_true rfl) ?_; intro A hd hA; simp only [ix, Nat.reduceAdd]; replace hA : A.tmps.size = 29 := hA
  (repeat' (first | refine W_seqk (fun K hK => ?_) | refine W_seqr ?_ | fail)); (first | (refine X_var (fun yn bx hn1 hn2 hn3 hn4 hn5 => ?_)) | (refine X_s (fun x K hK => ?_); go_simp; refine hK _ _ (Ext.alloc _ _) ?_; clear hK K; refine X_al x ?_; generalize (World.later _ x).heap.size = bx; intro yn hn1 hn2 hn3 hn4 hn5; clear x)); have HBbx := Lib.hid (Blk.new hn5.out); have HEbx := Lib.hid yn.ext; have hlbx : (World.heap w).size ≤ bx := hn1; generalize World.later w yn = W at *; clear hn1 hn2 hn3 hn4 hn5 yn
  have HBX := Lib.hid (fbox2 HBbx.out)
  have HE := HEbx
  clear HBbx HEbx
  obtain ⟨hlt, d0, d1, d2, d3, d4, d5, d6, d7, d8, d9, d10⟩ := fcells HBX.out

  rw [HHN.out] at d6
  repeat' (first | refine X_q ?_ | refine X_nil ?_ | refine W_seqk (fun K hK => ?_) | refine W_seqr ?_ | go_step)
  refine X_ret Tryz.func109 (view9_calls s.log _ _ hn _ (HVR.out.later HE.out).rl.rd (by omega) (by omega)) (fun r w1 hR => ?_)
  obtain ⟨hE1, hO⟩ := hR
  have HO := Lib.hid hO
  clear hO
  replace HE := Lib.hid (Ext.trans HE.out hE1)
  replace HBX := Lib.hid (HBX.out.later hE1)
  clear hE1
  clear hlt d0 d1 d2 d3 d4 d5 d6 d7 d8 d9 d10

  have hV0 : s.log.take s.high.toNat = s.log.take hn := by rw [HHN.out]; rfl
  generalize hV : viewL (s.log.take hn) = V at *
  have hvl : V.length ≤ 4096 := by
    rw [← hV]
    have := viewL_len (s.log.take hn)
    have h2 : (s.log.take hn).length ≤ s.log.length := by simp; omega
    omega
  have HV0 := Lib.hid hV0
  have HV := Lib.hid hV
  clear hV hV0
  obtain ⟨A5, c5, rfl, hc2, hcm2, HR2⟩ := HO.out.int
  repeat' (first | refine X_q ?_ | refine X_nil ?_ | refine W_seqk (fun K hK => ?_) | refine W_seqr ?_ | refine W_block ?_ | go_step)
  refine W_loops [1, 3, 4, 5] (fun n vs w' => ∃ (k : Nat) (y : Later w1) (u : Value), w' = w1.later y ∧ k + n = V.length ∧ vs = [.pointer (some ⟨bx, 0, none⟩), u, .slice A5 V.length c5, .int .i64 k] ∧ OwnE (w1.later y) u (pick s.log (V.take k)) ∧ ∀ b, u.ownBlock = some b → w1.heap.size ≤ b) V.length hd hA (by decide) ?_ ?_
  · exact ⟨0, ⟨w1, Ext.refl _⟩, _, rfl, by omega, by simp, Own.nil _, by intro b hb; cases hb⟩
  clear hd hA A; intro n vs B w' hd hA _ ⟨k, y, u, hw, hk, hvs, hown, hfr⟩; subst hw hvs
  simp only [List.zip_cons_cons, List.zip_nil_right, List.zip_nil_left]
  have Ho := Lib.hid hown; clear hown
  have Hf := Lib.hid hfr; clear hfr
  have HBX1 := Lib.hid (HBX.out.later y.ext)
  obtain ⟨hlt, -, -, -, -, d4, -⟩ := fcells HBX1.out
  by_cases hlt2 : k < V.length
  · obtain ⟨e, b2, o2, HE2, rfl, hb2, c20⟩ := HR2.out k hlt2
    have hk2i : (k : Int) < V.length := by omega
    have c20' := (cell?_mod y.ext hb2 (fun h => h)).trans c20
    have hb2' : b2 < (w1.later y).heap.size := Nat.lt_of_lt_of_le hb2 y.ext.size
    obtain ⟨m, rfl, hm⟩ := viewL_get (p := s.log.take hn) (k := k) (i := e) (by rw [HV.out]; exact HE2.out)
    have hml : m < s.log.length := by have := (List.length_take_le hn s.log); omega
    obtain ⟨A6, c6, hA6, -, -, HR3⟩ := ((HVR.out.later HE.out).later y.ext).rl.ent
    cases hA6
    obtain ⟨e3, b3, o3, HE3, rfl, hb3, x0, x1, x2, x3, x4, x5⟩ := HR3.out m hml
    have hmi : (m : Int) < s.log.length := by omega
    have HT : Hid (pick s.log (V.take (k + 1)) = pick s.log (V.take k) ++ [e3]) := Lib.hid (by
      rw [take_snoc HE2.out]
      have := HE3.out
      simp [pick, this])
    have hpl : (pick s.log (V.take k)).length ≤ 4096 := by simp [pick]; omega
    clear HR2 HR3 c20 hb2
    repeat' (first | refine X_q ?_ | refine X_nil ?_ | refine W_seqk (fun K hK => ?_) | refine W_seqr ?_ | refine W_skip ?_ | refine W_block ?_ | refine W_tt ?_ | go_step)
    refine W_drawσ [(0, 0), (1, 0), (2, 0), (3, 0), (4, 0), (5, 0), (6, 0), (7, 0), (8, 0), (9, 1), (10, 2), (11, 0)] (by kernel_rfl) (by kernel_rfl) ?_
    repeat' (first | refine X_q ?_ | (refine X_s (fun x K hK => ?_); go_simp; refine hK _ _ (Ext.alloc _ _) ?_; clear hK K; refine X_al x ?_; generalize (World.later _ x).heap.size = bn; intro yn hn1 hn2 hn3 hn4 hn5; clear x) | fail)
    refine X_push (w0 := w1) (xs := pick s.log (V.take k)) (Ext.trans y.ext yn.ext) elemEnt (Ho.out.later yn.ext) Hf.out (Rd.one (x := e3) hn2 hn3 rfl) (by simp; omega) (by unfold maxLen; simp; omega) (fun y2 v' hO2 hF2 hN2 hM2 => ?_)
    have hE4 : Ext w1 (World.later _ y2) := y2.ext
    have HO2 := Lib.hid hO2
    have HF2 := Lib.hid hF2
    clear hO2 hF2 hN2 hM2
    generalize World.later _ y2 = W2 at *
    repeat' (first | refine X_q ?_ | refine X_niln ?_ | refine X_nil ?_ | refine W_seqr ?_ | go_step)
    obtain ⟨y3, rfl⟩ := hE4.get
    exact ⟨_, _, rfl, hd, hA, n - 1, by omega, k + 1, y3, _, rfl, by omega, by simp, by rw [HT.out]; exact HO2.out, HF2.out⟩
  · obtain rfl : k = V.length := by omega
    repeat' (first | refine X_q ?_ | refine X_nil ?_ | refine W_seqk (fun K hK => ?_) | refine W_seqr ?_ | refine W_ret ?_ | refine W_exit ?_ | refine W_ff ?_ | go_step)
    refine Body_ret hd ⟨Ext.trans HE.out y.ext, ?_⟩
    have := Ho.out
    rw [List.take_length] at this
    unfold RepS.vis
    rw [HV0.out, HV.out]; exact this.rd (fun _ => rfl)
end Go.Ws
namespace Go.Ws
open Go Go.RowKit Go.Proofs
set_option maxHeartbeats 2000000
set_option maxRecDepth 100000
set_option linter.unusedVariables false
set_option linter.unusedSimpArgs false

@[simp, go_sem] theorem field_high (a b c d e f g h i : Value) (w : World) : (Instr.field 37 (.agg #[a, b, c, d, e, f, g, h, i]) 4).run Tryz.prog w = .ok e w := by
  unfold Instr.field
  simp [Sem.run_bind, run_underlying Tryz.underlying37, part, Tryz.isAgg3, asAgg]
def kv : View := ⟨0, 1, 0, [0, 1]⟩
def ke : Ent := ⟨0, -1, 0, 0, 1, 7⟩
def kf : Fetch := ⟨1, 1, 1, 1, 1⟩
def k0 : RepS := RepS.init 0 1
def k1 : RepS := (k0.learn kv).1
def k2 : RepS := k1.app ke
def k3 : RepS := k2.flush
def k4 : RepS := k3.serve kf 4
theorem k0_good : k0.Good := good_init rfl
theorem k1_good : k1.Good := good_learn k0_good _
theorem k2_good : k2.Good := good_app k1_good _
theorem k3_good : k3.Good := good_flush k2_good
theorem k4_good : k4.Good := good_serve k3_good _ _
theorem k_learn : (k0.learn kv).2 = 0 := by decide
theorem k_app : k1.appNo ke = 0 := by decide
theorem k_high3 : k3.stand.high = 0 := by decide
theorem k_serve : k3.serveNo kf 4 = 0 := by decide
theorem k_high4 : k4.stand.high = 1 := by decide
theorem k_vis : k4.vis.length = 1 := by decide
theorem known11_calls {w : World} : Pure Tryz.prog 12 #[] w (.bool true) := by
  refine Fn_of Tryz.func12 rfl (Nat.le_of_ble_eq_true rfl) ?_; intro A hd hA; simp only [ix, Nat.reduceAdd]; replace hA : A.tmps.size = 69 := hA
  repeat' (first | refine X_q ?_ | refine X_nil ?_ | refine W_seqk (fun K hK => ?_) | refine W_seqr ?_ | go_step)
  refine X_ret Tryz.func13 (repNew_ok 0 1 rfl) (fun r w1 hR => ?_)
  obtain ⟨b, rfl, hE1, -, hR1⟩ := hR
  have HH1 := Lib.hid (HR.start (Ext.refl w) hE1 hR1)
  clear hE1 hR1
  repeat' (first | refine X_q ?_ | refine X_nil ?_ | refine W_seqk (fun K hK => ?_) | refine W_seqr ?_ | (refine X_s (fun x K hK => ?_); go_simp; refine hK _ _ (Ext.alloc _ _) ?_; clear hK K; refine X_al x ?_; generalize (World.later _ x).heap.size = bn; intro yn hn1 hn2 hn3 hn4 hn5; clear x) | go_step)
  have hr2 : RdI (w1.later yn) (.slice (some ⟨bn, 0, none⟩) 2 2) [0, 1] := (Own.lit w1 yn (enc := ics) (k := 1) (fun _ => rfl) _ [0, 1] rfl hn5.out (by unfold maxLen; decide)).rd (fun _ => rfl)
  have hne2 : ¬ (fun k => w.heap.size ≤ k ∧ k < w1.heap.size) bn := fun h => by omega
  refine X_ret Tryz.func20 (learn_calls (x := kv) (HH1.out.later yn.ext).rep k0_good.ne ⟨_, rfl, hr2⟩ (fun a b c u hu k hk => by cases hu; cases hk; exact hne2)) (fun r w2 hR => ?_)
  obtain ⟨rfl, hM, hR2⟩ := hR
  have HH2 := Lib.hid ((HH1.out.later yn.ext).step hM hR2)
  clear hM hR2 hr2 hne2 hn1 hn2 hn3 hn4 hn5
  rw [show (RepS.learn (RepS.init 0 1) kv).2 = 0 from k_learn]
  rw [show (RepS.learn (RepS.init 0 1) kv).1 = k1 from rfl] at HH2
  obtain ⟨F2, hF2⟩ : ∃ F, HR w w2 b F k1 := ⟨_, HH2.out⟩
  have HF2 := Lib.hid hF2
  clear HH2 hF2 HH1 yn
  repeat' (first | refine X_q ?_ | refine X_nil ?_ | refine W_seqk (fun K hK => ?_) | refine W_seqr ?_ | go_step)
  refine X_ret Tryz.func21 (append_rep HF2.out.rep k1_good.ne k1_good.ok k1_good.len ke) (fun r w3 hR => ?_)
  obtain ⟨rfl, hM, hR3⟩ := hR
  have hF3 := HF2.out.step hM hR3
  rw [k_app]
  obtain ⟨F3, hF3⟩ : ∃ F, HR w w3 b F k2 := ⟨_, hF3⟩
  have HF3 := Lib.hid hF3
  clear hF3 HF2 hM hR3
  repeat' (first | refine X_q ?_ | refine X_nil ?_ | refine W_seqk (fun K hK => ?_) | refine W_seqr ?_ | go_step)
  refine X_ret Tryz.func26 (flush_calls HF3.out.rep k2_good.ne k2_good.bks) (fun r w4 hR => ?_)
  obtain ⟨rfl, hM, hR4⟩ := hR
  have hF4 : HR w w4 b F3 k3 := HF3.out.stepF hM hR4
  have HF4 := Lib.hid hF4
  clear hF4 HF3 hM hR4
  repeat' (first | refine X_q ?_ | refine X_nil ?_ | refine W_seqk (fun K hK => ?_) | refine W_seqr ?_ | go_step)
  refine X_ret Tryz.func15 (standing_rep HF4.out.rep k3_good.ne (by have := k3_good.ilen; omega) (by have := k3_good.ilen; omega)) (fun r w5 hR => ?_)
  obtain ⟨hE5, u1, u2, u3, hv, -⟩ := hR
  have hv' : r = .agg #[.int .i64 k3.stand.role, .int .i64 k3.stand.epoch, .int .i64 k3.stand.version, .int .i64 k3.stand.flushed, .int .i64 k3.stand.high, .int .i64 k3.stand.beg, u1, u2, u3] := hv
  clear hv
  subst hv'
  have HF5 := Lib.hid (HF4.out.later hE5)
  have h3 := k_high3
  clear HF4 hE5
  repeat' (first | refine X_q ?_ | refine X_nil ?_ | refine W_seqk (fun K hK => ?_) | refine W_seqr ?_ | go_step)
  refine X_ret Tryz.func23 (serve_rep HF5.out.rep k3_good.ne k3_good.may k3_good.len k3_good.bks kf 4) (fun r w6 hR => ?_)
  obtain ⟨⟨u, rfl, hO, -⟩, hM, hR6⟩ := hR
  have hF6 := HF5.out.step hM hR6
  rw [k_serve]
  obtain ⟨F6, hF6⟩ : ∃ F, HR w w6 b F k4 := ⟨_, hF6⟩
  have HF6 := Lib.hid hF6
  obtain ⟨Au, mu, cu, rfl⟩ := own_slice hO
  clear hF6 HF5 hM hR6 hO
  have h4 := k_high4
  have h5 := k_vis
  repeat' (first | refine X_gt ?_ | refine X_q ?_ | refine X_nil ?_ | (refine X_var (fun yn bn hn1 hn2 hn3 hn4 hn5 => ?_)) | refine W_seqk (fun K hK => ?_) | refine W_seqr ?_ | go_step)
  have hE6 := yn.ext
  generalize World.later w6 yn = w7 at *
  clear hn1 hn2 hn3 hn4 hn5 yn
  have HF7 := Lib.hid (HF6.out.later hE6)
  clear HF6 hE6
  refine X_ret Tryz.func15 (standing_rep HF7.out.rep k4_good.ne (by have := k4_good.ilen; omega) (by have := k4_good.ilen; omega)) (fun r w8 hR => ?_)
  obtain ⟨hE8, u1, u2, u3, hv, -⟩ := hR
  have hv' : r = .agg #[.int .i64 k4.stand.role, .int .i64 k4.stand.epoch, .int .i64 k4.stand.version, .int .i64 k4.stand.flushed, .int .i64 k4.stand.high, .int .i64 k4.stand.beg, u1, u2, u3] := hv
  clear hv
  subst hv'
  have HF8 := Lib.hid (HF7.out.later hE8)
  clear HF7 hE8
  repeat' (first | refine X_gt ?_ | refine X_q ?_ | fail)
  refine X_ret Tryz.func28 (visible_rep HF8.out.rep k4_good.ne k4_good.ok k4_good.len k4_good.hi.1 k4_good.hi.2) (fun r w9 hR => ?_)
  obtain ⟨hE9, hO, -⟩ := hR
  have hE : Ext w w9 := Ext.trans HF8.out.ext hE9
  obtain ⟨A9, c9, rfl, -⟩ := (hO.rd (enc := Ent.cs) (k := 6) (fun _ => rfl)).ent
  have HE := Lib.hid hE
  clear hO hE9 HF8 hE
  repeat' (first | refine X_gt ?_ | refine X_q ?_ | refine X_nil ?_ | refine W_ret ?_ | go_step)
  exact Body_ret hd ⟨rfl, HE.out⟩
end Go.Ws
namespace Go.Ws
open Go Go.RowKit Go.Proofs
set_option maxHeartbeats 2000000
set_option maxRecDepth 100000
set_option linter.unusedVariables false
set_option linter.unusedSimpArgs false

theorem samelog_calls (l m : List Ent) (u v : Value) (w : World) (hl : RdE w u l) (hm : RdE w v m) :
    Pure Tryz.prog 82 #[u, v] w (.bool (decide (l = m))) := by
  obtain ⟨A0, c, rfl, hc, hcm, HR⟩ := hl.ent
  obtain ⟨A1, c1, rfl, hc1, hcm1, HR1⟩ := hm.ent
  clear hl hm
  refine Fn_of Tryz.func82 rfl (Nat.le_of_ble_eq_true rfl) ?_; intro A hd hA; simp only [ix, Nat.reduceAdd]; replace hA : A.tmps.size = 26 := hA
  repeat' (first | refine X_q ?_ | refine X_nil ?_ | refine W_seqk (fun K hK => ?_) | refine W_seqr ?_ | refine W_ret ?_ | refine W_skip ?_ | refine W_block ?_ | refine W_test (fun hc => ?_) (fun hc => ?_) | go_step)
  · refine Body_ret hd ⟨congrArg Value.bool ?_, by simp⟩
    have : l ≠ m := fun e => by subst e; simp at hc
    simp [this]
  have heq : l.length = m.length := by have := hc; simp at this; omega
  refine W_loops [0, 1, 5] (fun n vs w' => ∃ k : Nat, w' = w ∧ k + n = l.length ∧ vs = [.slice A0 l.length c, .slice A1 m.length c1, .int .i64 k] ∧ l.take k = m.take k) l.length hd hA (by decide) ⟨0, rfl, by omega, by simp, by simp⟩ ?_
  clear hd hA A; intro n vs B w' hd hA _ ⟨k, hw, hk, hvs, hm⟩; subst hw hvs
  simp only [List.zip_cons_cons, List.zip_nil_right, List.zip_nil_left]
  have Hm := Lib.hid hm; clear hm
  have HQ := Lib.hid heq; clear heq hc
  by_cases hlt : k < l.length
  · obtain ⟨e, b, o, HE, rfl, hb, c0, c1, c2, c3, c4, c5⟩ := HR.out k hlt
    have hlt2 : k < m.length := by rw [← HQ.out]; exact hlt
    obtain ⟨x, b1, o1, HX, rfl, hb1, d0, d1, d2, d3, d4, d5⟩ := HR1.out k hlt2
    have g1 := fun ox oy a b w => eqGuardEnt ox oy a b w
    have g2 := neqEnt e x
    repeat' (first | refine X_q ?_ | refine X_niln ?_ | refine X_nil ?_ | refine W_seqk (fun K hK => ?_) | refine W_seqr ?_ | refine W_draw (by kernel_rfl) (by kernel_rfl) ?_ | refine W_ret ?_ | refine W_skip ?_ | refine W_block ?_ | refine W_tt ?_ | refine W_test (fun hc => ?_) (fun hc => ?_) | go_step)
    · refine Body_ret hd ⟨congrArg Value.bool ?_, by simp⟩
      have : l ≠ m := fun h => by subst h; rw [HE.out] at HX; cases HX.out; simp at hc
      simp [this]
    · refine ⟨_, _, rfl, hd, hA, n - 1, by omega, k + 1, trivial, by omega, by simp, ?_⟩
      rw [take_snoc HE.out, take_snoc HX.out, Hm.out]
      simp at hc
      rw [hc]
  · repeat' (first | refine X_q ?_ | refine X_nil ?_ | refine W_seqk (fun K hK => ?_) | refine W_seqr ?_ | refine W_ret ?_ | refine W_exit ?_ | refine W_ff ?_ | go_step)
    obtain rfl : k = l.length := by omega
    refine Body_ret hd ⟨congrArg Value.bool ?_, by simp⟩
    have := Hm.out
    rw [List.take_length, HQ.out, List.take_length] at this
    simp [this]
end Go.Ws
