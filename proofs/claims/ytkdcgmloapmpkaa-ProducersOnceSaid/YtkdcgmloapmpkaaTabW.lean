import Derived.Test.YtkdcgmloapmpkaaSort64
import Derived.Test.YtkdcgmloapmpkaaRefW
import Derived.Test.YtkdcgmloapmpkaaTabS
namespace Go.Ws
open Go Go.RowKit Go.Proofs
set_option maxHeartbeats 2000000
set_option maxRecDepth 100000
set_option linter.unusedVariables false
set_option linter.unusedSimpArgs false
set_option pp.deepTerms true
set_option pp.maxSteps 100000000

abbrev OwnO := Own Opn.cs 2 68
theorem MapL.len_le {w : World} {b : Nat} {L : List (Int × Int × Nat)} {clock : Nat} {l : List Ent} {i : Nat} (hm : MapL ki ki w b L clock) (hf : ∀ k, (wrOf l i).opens k = look L k) (hk : ∀ e ∈ l, 1 ≤ e.kind) : L.length ≤ l.length := by
  have h1 : (L.map (·.1)).length ≤ ((opensB l i).map (·.num)).length := by
    refine nodup_len hm.keys fun x hx => ?_
    obtain ⟨y, hy, rfl⟩ := List.mem_map.1 hx
    have : (wrOf l i).opens y.1 = some y.2.1 := by rw [hf]; exact (look_iff hm.keys _ _).2 ⟨y.2.2, hy⟩
    exact List.mem_map.2 ⟨⟨y.1, y.2.1⟩, (opens_iff hk i _ _).1 this, rfl⟩
  have h2 := opensTo_len l i l 0 []
  rw [List.length_map, List.length_map] at h1
  have h3 : (opensB l i).length ≤ l.length := by simpa [opensB] using h2
  omega
theorem tabWriter_calls {b : Nat} {w : World} {F : Nat → Prop} {l : List Ent} (h : Tab w b F l) (hok : ofNo l = 0) (hN : l.length < 1000000) (id : Int) : Ret Try.prog 44 #[.pointer (some ⟨b, 0, none⟩), .int .i64 id] w fun r w' =>
    if id < 0 ∨ 3 < id then r = .tuple #[wrV 0 0 0 (.slice none 0 0), .int .i64 2] ∧ Ext w w' else
      ∃ u, r = .tuple #[wrV (highB l id) (nextB l id (highB l id)) (markB l id) u, .int .i64 0] ∧ Ext w w' ∧ OwnO w' u (opensB l id) ∧ ∀ k, u.ownBlock = some k → w.heap.size ≤ k := by
  obtain ⟨u, mb, g, h, hF⟩ := h
  have HT := Lib.hid h
  obtain ⟨hlt, hmade, -, -⟩ := h.seen
  clear h hF
  by_cases hid : id < 0 ∨ 3 < id
  · simp only [if_pos hid]
    rcases hid with hid | hid
    · refine Fn_of Try.func44 rfl (Nat.le_of_ble_eq_true rfl) ?_; intro A hd hA; simp only [ix, Nat.reduceAdd]; replace hA : A.tmps.size = 59 := hA
      repeat' (first | refine X_pure Try.func74 (none_calls (b := b) (by simp [hlt]) (by simp [hlt, hmade])) ?_ | refine X_gpure Try.func74 (fun _ => none_calls (b := b) (by simp [hlt]) (by simp [hlt, hmade])) ?_ | refine X_gt ?_ | refine X_q ?_ | refine X_g ?_ | refine X_gf ?_ | refine X_niln ?_ | refine X_nil ?_ | (refine X_var (fun yn bn hn1 hn2 hn3 hn4 hn5 => ?_)) | refine W_seqk (fun K hK => ?_) | refine W_seqr ?_ | refine W_ret ?_ | refine W_skip ?_ | refine W_block ?_ | refine W_exit ?_ | (refine X_s (fun x K hK => ?_); go_simp; refine hK _ _ (Ext.alloc _ _) ?_; clear hK K; refine X_al x ?_; generalize (World.later _ x).heap.size = bn; intro yn hn1 hn2 hn3 hn4 hn5; clear x) | refine W_tt ?_ | refine W_ff ?_ | refine W_test (fun hc => ?_) (fun hc => ?_) | go_step)
      refine X_store (off := 0) (Blk.new hn5.out) (fun W1 hM1 hB1 => ?_)
      have hE1 : Ext w W1 := Ext.fresh yn.2 hM1 (fun i hi => by omega)
      repeat' (first | refine X_gt ?_ | refine X_q ?_ | refine X_g ?_ | refine X_gf ?_ | refine X_niln ?_ | refine X_nil ?_ | (refine X_var (fun yn bn hn1 hn2 hn3 hn4 hn5 => ?_)) | refine W_seqk (fun K hK => ?_) | refine W_seqr ?_ | refine W_ret ?_ | refine W_skip ?_ | refine W_block ?_ | refine W_exit ?_ | (refine X_s (fun x K hK => ?_); go_simp; refine hK _ _ (Ext.alloc _ _) ?_; clear hK K; refine X_al x ?_; generalize (World.later _ x).heap.size = bn; intro yn hn1 hn2 hn3 hn4 hn5; clear x) | refine W_tt ?_ | refine W_ff ?_ | refine W_test (fun hc => ?_) (fun hc => ?_) | go_step)
      exact Body_retcellv (cs := [.int .i64 0, .int .i64 0, .int .i64 0, .slice none 0 0]) hd ⟨rfl, hE1⟩ hB1 (fun k hk => by
        have hk : k < 4 := hk
        rw [put_in k (by simpa [Value.cells] using hk) (by omega)]
        obtain rfl | rfl | rfl | rfl : k = 0 ∨ k = 1 ∨ k = 2 ∨ k = 3 := by omega
        all_goals rfl) Try.underlying63
    · have hid0 : ¬ id < 0 := by omega
      have hid4 : 4 ≤ id := by omega
      refine Fn_of Try.func44 rfl (Nat.le_of_ble_eq_true rfl) ?_; intro A hd hA; simp only [ix, Nat.reduceAdd]; replace hA : A.tmps.size = 59 := hA
      repeat' (first | refine X_pure Try.func74 (none_calls (b := b) (by simp [hlt]) (by simp [hlt, hmade])) ?_ | refine X_gpure Try.func74 (fun _ => none_calls (b := b) (by simp [hlt]) (by simp [hlt, hmade])) ?_ | refine X_gt ?_ | refine X_q ?_ | refine X_g ?_ | refine X_gf ?_ | refine X_niln ?_ | refine X_nil ?_ | (refine X_var (fun yn bn hn1 hn2 hn3 hn4 hn5 => ?_)) | refine W_seqk (fun K hK => ?_) | refine W_seqr ?_ | refine W_ret ?_ | refine W_skip ?_ | refine W_block ?_ | refine W_exit ?_ | (refine X_s (fun x K hK => ?_); go_simp; refine hK _ _ (Ext.alloc _ _) ?_; clear hK K; refine X_al x ?_; generalize (World.later _ x).heap.size = bn; intro yn hn1 hn2 hn3 hn4 hn5; clear x) | refine W_tt ?_ | refine W_ff ?_ | refine W_test (fun hc => ?_) (fun hc => ?_) | go_step)
      refine X_store (off := 0) (Blk.new hn5.out) (fun W1 hM1 hB1 => ?_)
      have hE1 : Ext w W1 := Ext.fresh yn.2 hM1 (fun i hi => by omega)
      repeat' (first | refine X_gt ?_ | refine X_q ?_ | refine X_g ?_ | refine X_gf ?_ | refine X_niln ?_ | refine X_nil ?_ | (refine X_var (fun yn bn hn1 hn2 hn3 hn4 hn5 => ?_)) | refine W_seqk (fun K hK => ?_) | refine W_seqr ?_ | refine W_ret ?_ | refine W_skip ?_ | refine W_block ?_ | refine W_exit ?_ | (refine X_s (fun x K hK => ?_); go_simp; refine hK _ _ (Ext.alloc _ _) ?_; clear hK K; refine X_al x ?_; generalize (World.later _ x).heap.size = bn; intro yn hn1 hn2 hn3 hn4 hn5; clear x) | refine W_tt ?_ | refine W_ff ?_ | refine W_test (fun hc => ?_) (fun hc => ?_) | go_step)
      exact Body_retcellv (cs := [.int .i64 0, .int .i64 0, .int .i64 0, .slice none 0 0]) hd ⟨rfl, hE1⟩ hB1 (fun k hk => by
        have hk : k < 4 := hk
        rw [put_in k (by simpa [Value.cells] using hk) (by omega)]
        obtain rfl | rfl | rfl | rfl : k = 0 ∨ k = 1 ∨ k = 2 ∨ k = 3 := by omega
        all_goals rfl) Try.underlying63
  · simp only [if_neg hid]
    obtain ⟨i, rfl⟩ : ∃ i : Nat, id = i := ⟨id.toNat, by omega⟩
    have hi4 : i < 4 := by omega
    have hi0 : ¬ (i : Int) < 0 := by omega
    have hi5 : ¬ (4 : Int) ≤ i := by omega
    have hi6 : (i : Int) < 4 := by omega
    clear hid
    have hkd := kinds_of hok
    obtain ⟨L, clock, hL, hf⟩ := HT.out.mopens i hi4
    have hLl := hL.len_le hf hkd
    have HL := Lib.hid hL
    have Hf := Lib.hid hf
    have r0 : w.cell? ⟨b, 1 + i * 5, none⟩ = some (.int .i64 (wrOf l i).high) := (HT.out.blk.cell (by omega)).trans (by rw [HT.out.high i hi4])
    have r1 : w.cell? ⟨b, 1 + i * 5 + 1, none⟩ = some (.int .i64 (wrOf l i).marked) := (HT.out.blk.cell (by omega)).trans (by rw [HT.out.marked i hi4])
    have r2 : w.cell? ⟨b, 1 + i * 5 + 2, none⟩ = some (.map (some (mb i 0))) := (HT.out.blk.cell (by omega)).trans (by rw [HT.out.next i hi4])
    have r3 : w.cell? ⟨b, 1 + i * 5 + 3, none⟩ = some (.map (some (mb i 1))) := (HT.out.blk.cell (by omega)).trans (by rw [HT.out.opens i hi4])
    have r4 : w.cell? ⟨b, 1 + i * 5 + 4, none⟩ = some (.map (some (mb i 2))) := (HT.out.blk.cell (by omega)).trans (by rw [HT.out.done i hi4])
    clear hL hf
    rw [wr_high] at r0
    rw [wr_marked l i hkd] at r1
    have hnx := wr_next l i (highB l i)
    generalize highB l i = H at *
    generalize markB l i = MK at *
    generalize nextB l i H = NX at *
    refine Fn_of Try.func44 rfl (Nat.le_of_ble_eq_true rfl) ?_; intro A hd hA; simp only [ix, Nat.reduceAdd]; replace hA : A.tmps.size = 59 := hA
    repeat' (first | refine X_pure Try.func74 (none_calls (b := b) (by simp [hlt]) (by simp [hlt, hmade])) ?_ | refine X_gpure Try.func74 (fun _ => none_calls (b := b) (by simp [hlt]) (by simp [hlt, hmade])) ?_ | refine X_gt ?_ | refine X_q ?_ | refine X_g ?_ | refine X_gf ?_ | refine X_niln ?_ | refine X_nil ?_ | (refine X_var (fun yn bn hn1 hn2 hn3 hn4 hn5 => ?_)) | refine W_seqk (fun K hK => ?_) | refine W_seqr ?_ | refine W_ret ?_ | refine W_skip ?_ | refine W_block ?_ | refine W_exit ?_ | (refine X_s (fun x K hK => ?_); go_simp; refine hK _ _ (Ext.alloc _ _) ?_; clear hK K; refine X_al x ?_; generalize (World.later _ x).heap.size = bn; intro yn hn1 hn2 hn3 hn4 hn5; clear x) | refine W_tt ?_ | refine W_ff ?_ | refine W_test (fun hc => ?_) (fun hc => ?_) | go_step)
    rename_i b4 y4 p1 p2 p3 p4 p5
    rename Nat => b6
    rename Later _ => y6
    have g4 : Blk (w.later y4) b4 63 4 _ := Blk.new p5.out
    have g6 : Blk ((w.later y4).later y6) b6 105 5 _ := Blk.new hn5.out
    clear p3 p4 p5 hn4
    refine X_look (kenc := ki) (venc := ki) (z := 0) ((HT.out.mnext i hi4).later (by simp)) (ints_keys Try.underlying2) Try.underlying101 H ?_
    simp only [Bool.false_eq_true, if_false]
    rw [hnx]
    repeat' (first | refine X_gt ?_ | refine X_q ?_ | refine X_g ?_ | refine X_gf ?_ | refine X_niln ?_ | refine X_nil ?_ | (refine X_var (fun yn bn hn1 hn2 hn3 hn4 hn5 => ?_)) | refine W_seqk (fun K hK => ?_) | refine W_seqr ?_ | refine W_ret ?_ | refine W_skip ?_ | refine W_block ?_ | refine W_exit ?_ | (refine X_s (fun x K hK => ?_); go_simp; refine hK _ _ (Ext.alloc _ _) ?_; clear hK K; refine X_al x ?_; generalize (World.later _ x).heap.size = bn; intro yn hn1 hn2 hn3 hn4 hn5; clear x) | refine W_tt ?_ | refine W_ff ?_ | refine W_test (fun hc => ?_) (fun hc => ?_) | go_step)
    rename Nat => b7
    rename Later (World.later _ y6) => y7
    have g7 : Blk (((w.later y4).later y6).later y7) b7 63 4 (wrG H NX MK (.slice none 0 0)) := Blk.new hn5.out
    have q7 := hn2
    clear hn3 hn4 hn5
    refine X_ret Try.func75 (sorted_calls (L := L) (clock := clock) (HL.out.later (by simp)) (by omega)) (fun v' w8 hR => ?_)
    obtain ⟨xs, hnd, hmem, hxl, hsort, hE8, hO, hF8⟩ := hR
    obtain ⟨A8, c8, rfl, hc8, hm8, HX⟩ := Rd.int (hO.rd (enc := ics) (k := 1) (fun _ => rfl))
    have hxs : xs.map (fun n => (⟨n, ((wrOf l i).opens n).getD 0⟩ : Opn)) = opensB l i := by
      refine keys_sorted hkd i hnd (fun n => ?_) ?_
      · rw [hmem, Hf.out]
      · have e : (fun n => (look L n).getD 0) = fun n => ((wrOf l i).opens n).getD 0 := funext fun n => by rw [Hf.out]
        exact hsort.imp (fun {a c} h => by rw [Hf.out, Hf.out]; exact h)
    have s4 : w.heap.size ≤ (w.later y4).heap.size := y4.2.size
    have s6 : (w.later y4).heap.size ≤ ((w.later y4).later y6).heap.size := y6.2.size
    have s7 : ((w.later y4).later y6).heap.size ≤ (((w.later y4).later y6).later y7).heap.size := y7.2.size
    have s8 := hE8.size
    have G4 : Hid (Blk w8 b4 63 4 _) := Lib.hid (((g4.later y6.2).later y7.2).later hE8)
    have G6 : Hid (Blk w8 b6 105 5 _) := Lib.hid ((g6.later y7.2).later hE8)
    have G7 : Hid (Blk w8 b7 63 4 (wrG H NX MK (.slice none 0 0))) := Lib.hid (g7.later hE8)
    have HE8 : Hid (Ext w w8) := Lib.hid (Ext.trans (by simp) hE8)
    have HXS := Lib.hid hxs
    have b4w : b4 < w8.heap.size := by omega
    have b6w : b6 < w8.heap.size := by omega
    have b7w : b7 < w8.heap.size := by omega
    have b46 : b4 < b6 := by omega
    have b67 : b6 < b7 := by omega
    have b4s : w.heap.size ≤ b4 := by omega
    obtain ⟨y8, hy8⟩ := HE8.out.get
    clear g4 g6 g7 hE8 hO hnd hmem hsort hxs
    repeat' (first | refine X_gt ?_ | refine X_q ?_ | refine X_g ?_ | refine X_gf ?_ | refine X_niln ?_ | refine X_nil ?_ | (refine X_var (fun yn bn hn1 hn2 hn3 hn4 hn5 => ?_)) | refine W_seqk (fun K hK => ?_) | refine W_seqr ?_ | refine W_ret ?_ | refine W_skip ?_ | refine W_block ?_ | refine W_exit ?_ | (refine X_s (fun x K hK => ?_); go_simp; refine hK _ _ (Ext.alloc _ _) ?_; clear hK K; refine X_al x ?_; generalize (World.later _ x).heap.size = bn; intro yn hn1 hn2 hn3 hn4 hn5; clear x) | refine W_tt ?_ | refine W_ff ?_ | refine W_test (fun hc => ?_) (fun hc => ?_) | go_step)
    have HMO : Hid (MapIs ki ki w8 (mb i 1) (wrOf l i).opens) := Lib.hid (((HT.out.mopens i hi4)).later HE8.out)
    have hmb : mb i 1 < w.heap.size := (HT.out.mopens i hi4).lt
    have HF8 := Lib.hid hF8
    clear hF8 hy8 y8
    refine W_loops [4, 6, 7, 40, 41, 42] (fun n vs W => ∃ (k : Nat) (u : Value), Mod (fun j => j = b7 ∨ w8.heap.size ≤ j) w8 W ∧ k + n = xs.length ∧ vs = [.pointer (some ⟨b4, 0, none⟩), .pointer (some ⟨b6, 0, none⟩), .pointer (some ⟨b7, 0, none⟩), .slice A8 xs.length c8, .int .i64 xs.length, .int .i64 k] ∧
      Blk W b7 63 4 (wrG H NX MK u) ∧ OwnO W u ((xs.take k).map (fun n => (⟨n, ((wrOf l i).opens n).getD 0⟩ : Opn))) ∧ ∀ j, u.ownBlock = some j → w8.heap.size ≤ j) xs.length hd hA (by decide) ⟨0, _, Mod.refl _ _, by omega, by simp, G7.out, Own.nil _, by intro j hj; cases hj⟩ ?_
    clear hd hA A G7; intro n2 vs B W hd hA _ ⟨k, u, hM, hk, hvs, hB, hO, hFu⟩; subst hvs
    simp only [List.zip_cons_cons, List.zip_nil_right, List.zip_nil_left]
    have HM := Lib.hid hM
    have hwW : w8.heap.size ≤ W.heap.size := hM.size
    obtain ⟨A9, n9, c9, rfl⟩ := slice_of1 (hO.rd Opn.len)
    have GB := Lib.hid hB
    have HO := Lib.hid hO
    have HFu := Lib.hid hFu
    obtain ⟨t7, t0, t1, t2, t3⟩ := hB.wr
    have hG6 := G6.out.mod hM (by omega)
    have t6 : b6 < W.heap.size := by omega
    have t63 : W.cell? ⟨b6, 3, none⟩ = some (.map (some (mb i 1))) := hG6.cell (k := 3) (by omega)
    have HMW : Hid (MapIs ki ki W (mb i 1) (wrOf l i).opens) := Lib.hid (HMO.out.mod hM (by omega))
    by_cases hlt : k < xs.length
    · obtain ⟨x, bb, o, HXk, rfl, hbb, hcx⟩ := HX.out k hlt
      have hbb7 : bb ≠ b7 := by have := HF8.out bb rfl; omega
      have hcx' : W.cell? ⟨bb, o + k, none⟩ = some (.int .i64 x) := by rw [cell?_mod hM hbb (by omega)]; exact hcx
      have hbbW : bb < W.heap.size := by omega
      have hki : (k : Int) < xs.length := by omega
      clear hcx hM hB hO hFu hG6
      refine W_seqk (fun K hK => ?_)
      repeat' (first | refine X_gt ?_ | refine X_q ?_ | refine X_g ?_ | refine X_gf ?_ | refine X_niln ?_ | refine X_nil ?_ | (refine X_var (fun yn bn hn1 hn2 hn3 hn4 hn5 => ?_)) | refine W_seqk (fun K hK => ?_) | refine W_seqr ?_ | refine W_ret ?_ | refine W_skip ?_ | refine W_block ?_ | refine W_exit ?_ | (refine X_s (fun x K hK => ?_); go_simp; refine hK _ _ (Ext.alloc _ _) ?_; clear hK K; refine X_al x ?_; generalize (World.later _ x).heap.size = bn; intro yn hn1 hn2 hn3 hn4 hn5; clear x) | refine W_tt ?_ | refine W_ff ?_ | refine W_test (fun hc => ?_) (fun hc => ?_) | go_step)
      refine X_look (kenc := ki) (venc := ki) (z := 0) HMW.out (ints_keys Try.underlying2) Try.underlying102 x ?_
      simp only [Bool.false_eq_true, if_false]
      generalize hvx : ((wrOf l i).opens x).getD 0 = vx
      repeat' (first | refine X_gt ?_ | refine X_q ?_ | refine X_g ?_ | refine X_gf ?_ | refine X_niln ?_ | refine X_nil ?_ | (refine X_var (fun yn bn hn1 hn2 hn3 hn4 hn5 => ?_)) | refine W_seqk (fun K hK => ?_) | refine W_seqr ?_ | refine W_ret ?_ | refine W_skip ?_ | refine W_block ?_ | refine W_exit ?_ | (refine X_s (fun x K hK => ?_); go_simp; refine hK _ _ (Ext.alloc _ _) ?_; clear hK K; refine X_al x ?_; generalize (World.later _ x).heap.size = bn; intro yn hn1 hn2 hn3 hn4 hn5; clear x) | refine W_tt ?_ | refine W_ff ?_ | refine W_test (fun hc => ?_) (fun hc => ?_) | go_step)
      have hyW : W.heap.size ≤ (W.later yn).heap.size := yn.2.size
      refine X_append (ys := [(⟨x, vx⟩ : Opn)]) elemOpn (HO.out.later yn.2) (Rd.one (x := (⟨x, vx⟩ : Opn)) hn2 hn3 rfl) (by simp; omega) (by unfold maxLen; simp; omega) (fun v' W1 hM1 hO1 hF1 _ => ?_)
      obtain ⟨A5, n5, c5, rfl⟩ := slice_of1 (hO1.rd Opn.len)
      have h7W1 : b7 < W1.heap.size := by have := hM1.size; omega
      have GB1 : Hid (Blk W1 b7 63 4 (wrG H NX MK (.slice A9 n9 c9))) := Lib.hid ((GB.out.later yn.2).mod hM1 (fun h => by have := HFu.out _ h; omega))
      obtain ⟨k7, k0, k1, k2, k3⟩ := GB1.out.wr
      have HO1 := Lib.hid hO1
      have HM1 : Hid (Mod (fun j => j = b7 ∨ w8.heap.size ≤ j) w8 W1) := Lib.hid (Mod.trans (Mod.trans HM.out yn.2 (fun _ _ h => h) (fun _ _ h => h.elim)) hM1 (fun _ _ h => h) (fun j _ h => .inr (HFu.out j h)))
      have HF1 : Hid (∀ j, (Value.slice A5 n5 c5).ownBlock = some j → w8.heap.size ≤ j) := Lib.hid (fun j hj => by
        rcases hF1 with h | ⟨g, h, hg⟩
        · exact HFu.out j (h ▸ hj)
        · rw [h] at hj; cases hj; omega)
      clear hM1 hO1 hF1
      repeat' (first | refine X_gt ?_ | refine X_q ?_ | refine X_g ?_ | refine X_gf ?_ | refine X_niln ?_ | refine X_nil ?_ | (refine X_var (fun yn bn hn1 hn2 hn3 hn4 hn5 => ?_)) | refine W_seqk (fun K hK => ?_) | refine W_seqr ?_ | refine W_ret ?_ | refine W_skip ?_ | refine W_block ?_ | refine W_exit ?_ | (refine X_s (fun x K hK => ?_); go_simp; refine hK _ _ (Ext.alloc _ _) ?_; clear hK K; refine X_al x ?_; generalize (World.later _ x).heap.size = bn; intro yn hn1 hn2 hn3 hn4 hn5; clear x) | refine W_tt ?_ | refine W_ff ?_ | refine W_test (fun hc => ?_) (fun hc => ?_) | go_step)
      refine X_store (off := 3) GB1.out (fun W2 hM2 hB2 => ?_)
      have HM2 : Hid (Mod (fun j => j = b7 ∨ w8.heap.size ≤ j) w8 W2) := Lib.hid (Mod.trans HM1.out hM2 (fun _ _ h => h) (fun j _ h => .inl h))
      have HB2 : Hid (Blk W2 b7 63 4 (wrG H NX MK (.slice A5 n5 c5))) := Lib.hid (hB2.congr (fun j hj => by
        simp only [Value.cells, List.toList_toArray] at *
        rw [put_one]; obtain rfl | rfl | rfl | rfl : j = 0 ∨ j = 1 ∨ j = 2 ∨ j = 3 := by omega
        all_goals rfl))
      have HO2 := Lib.hid (HO1.out.mod hM2 (fun j hj h => by have := HF1.out j hj; omega))
      repeat' (first | refine X_gt ?_ | refine X_q ?_ | refine X_g ?_ | refine X_gf ?_ | refine X_niln ?_ | refine X_nil ?_ | (refine X_var (fun yn bn hn1 hn2 hn3 hn4 hn5 => ?_)) | refine W_seqk (fun K hK => ?_) | refine W_seqr ?_ | refine W_ret ?_ | refine W_skip ?_ | refine W_block ?_ | refine W_exit ?_ | (refine X_s (fun x K hK => ?_); go_simp; refine hK _ _ (Ext.alloc _ _) ?_; clear hK K; refine X_al x ?_; generalize (World.later _ x).heap.size = bn; intro yn hn1 hn2 hn3 hn4 hn5; clear x) | refine W_tt ?_ | refine W_ff ?_ | refine W_test (fun hc => ?_) (fun hc => ?_) | go_step)
      refine ⟨_, _, rfl, hd, hA, n2 - 1, by omega, k + 1, _, HM2.out, by omega, by simp, HB2.out, ?_, HF1.out⟩
      rw [take_snoc HXk.out, List.map_append, List.map_cons, List.map_nil, hvx]
      exact HO2.out
    · obtain rfl : k = xs.length := by omega
      have hGG4 := Lib.hid (G4.out.mod hM (by omega))
      clear hM hB hO hFu hG6
      repeat' (first | refine X_gt ?_ | refine X_q ?_ | refine X_g ?_ | refine X_gf ?_ | refine X_niln ?_ | refine X_nil ?_ | (refine X_var (fun yn bn hn1 hn2 hn3 hn4 hn5 => ?_)) | refine W_seqk (fun K hK => ?_) | refine W_seqr ?_ | refine W_ret ?_ | refine W_skip ?_ | refine W_block ?_ | refine W_exit ?_ | (refine X_s (fun x K hK => ?_); go_simp; refine hK _ _ (Ext.alloc _ _) ?_; clear hK K; refine X_al x ?_; generalize (World.later _ x).heap.size = bn; intro yn hn1 hn2 hn3 hn4 hn5; clear x) | refine W_tt ?_ | refine W_ff ?_ | refine W_test (fun hc => ?_) (fun hc => ?_) | go_step)
      refine X_store (off := 0) hGG4.out (fun W1 hM1 hB1 => ?_)
      have HO1 : Hid (OwnO W1 (.slice A9 n9 c9) (opensB l i)) := Lib.hid (by
        have := HO.out.mod hM1 (fun j hj h => by have := HFu.out j hj; omega)
        rwa [List.take_length, HXS.out] at this)
      have HE1 : Hid (Ext w W1) := Lib.hid (Ext.fresh (Ext.fresh HE8.out HM.out (fun j hj => by have := HE8.out.size; omega)) hM1 (fun j hj => by omega))
      have HB1 := Lib.hid hB1
      clear hM1 hB1
      repeat' (first | refine X_gt ?_ | refine X_q ?_ | refine X_g ?_ | refine X_gf ?_ | refine X_niln ?_ | refine X_nil ?_ | (refine X_var (fun yn bn hn1 hn2 hn3 hn4 hn5 => ?_)) | refine W_seqk (fun K hK => ?_) | refine W_seqr ?_ | refine W_ret ?_ | refine W_skip ?_ | refine W_block ?_ | refine W_exit ?_ | (refine X_s (fun x K hK => ?_); go_simp; refine hK _ _ (Ext.alloc _ _) ?_; clear hK K; refine X_al x ?_; generalize (World.later _ x).heap.size = bn; intro yn hn1 hn2 hn3 hn4 hn5; clear x) | refine W_tt ?_ | refine W_ff ?_ | refine W_test (fun hc => ?_) (fun hc => ?_) | go_step)
      exact Body_retcellv (cs := [.int .i64 H, .int .i64 NX, .int .i64 MK, .slice A9 n9 c9]) hd ⟨_, rfl, HE1.out, HO1.out, fun j hj => by have := HFu.out j hj; have := HE8.out.size; omega⟩ HB1.out (fun k hk => by
        have hk : k < 4 := hk
        rw [put_in k (by simpa [Value.cells] using hk) (by omega)]
        obtain rfl | rfl | rfl | rfl : k = 0 ∨ k = 1 ∨ k = 2 ∨ k = 3 := by omega
        all_goals rfl) Try.underlying63
end Go.Ws
