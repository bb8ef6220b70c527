import Derived.Test.YtkdcgmloapmpkaaRef08A
import Derived.Test.YtkdcgmloapmpkaaPlainW
import Derived.Test.YtkdcgmloapmpkaaCell
namespace Go.Ws
open Go Go.RowKit Go.Proofs
set_option maxHeartbeats 2000000
set_option maxRecDepth 100000
set_option linter.unusedVariables false
set_option linter.unusedSimpArgs false
set_option pp.deepTerms true
set_option pp.maxSteps 100000000

abbrev RdO := Rd Opn.cs 2
/-- What the document says of an ID, as a value. -/
abbrev wrV (h n m : Int) (u : Value) : Value := .agg #[.int .i64 h, .int .i64 n, .int .i64 m, u]
def otherB (os : List Opn) (num : Int) : Bool := os.any fun o => o.num != num
theorem rother_calls (os : List Opn) (u : Value) (h n m num : Int) (w : World) (hu : RdO w u os) :
    Pure Try.prog 81 #[wrV h n m u, .int .i64 num] w (.bool (otherB os num)) := by
  obtain ⟨A1, c1, rfl, hc1, hcm1, HR1⟩ := hu.opn
  clear hu
  refine Fn_of Try.func81 rfl (Nat.le_of_ble_eq_true rfl) ?_; intro A hd hA; simp only [ix, Nat.reduceAdd]; replace hA : A.tmps.size = 21 := hA
  repeat' (first | refine X_d (fun vb hvb => ?_) | refine X_dg (fun vb hvb => ?_) | refine X_q ?_ | refine X_g ?_ | refine X_gf ?_ | refine X_niln ?_ | refine X_nil ?_ | (refine X_var (fun yn bn hn1 hn2 hn3 hn4 hn5 => ?_)) | refine W_seqk (fun K hK => ?_) | refine W_seqr ?_ | refine W_ret ?_ | refine W_skip ?_ | refine W_block ?_ | refine W_exit ?_ | (refine X_s (fun x K hK => ?_); go_simp; refine hK _ _ (Ext.alloc _ _) ?_; clear hK K; refine X_al x ?_; generalize (World.later _ x).heap.size = bn; intro yn hn1 hn2 hn3 hn4 hn5; clear x) | refine W_tt ?_ | refine W_ff ?_ | refine W_test (fun hc => ?_) (fun hc => ?_) | go_step)
  refine W_loops [1, 2, 5] (fun n vs w' => ∃ k : Nat, w' = w.later yn ∧ k + n = os.length ∧ vs = [.int .i64 num, .pointer (some ⟨bn, 0, none⟩), .int .i64 k] ∧ otherB (os.take k) num = false) os.length hd hA (by decide) ⟨0, rfl, by omega, by simp, by simp [otherB]⟩ ?_
  clear hd hA A; intro n2 vs B w' hd hA _ ⟨k, hw, hk, hvs, hm⟩; subst hw hvs
  simp only [List.zip_cons_cons, List.zip_nil_right, List.zip_nil_left]
  have Hm := Lib.hid hm; clear hm
  by_cases hlt : k < os.length
  · obtain ⟨x, b1, o1, HX, rfl, hb1, d0, d1⟩ := HR1.out k hlt
    repeat' (first | refine X_d (fun vb hvb => ?_) | refine X_dg (fun vb hvb => ?_) | refine X_q ?_ | refine X_g ?_ | refine X_gf ?_ | refine X_niln ?_ | refine X_nil ?_ | (refine X_var (fun yn bn hn1 hn2 hn3 hn4 hn5 => ?_)) | refine W_seqk (fun K hK => ?_) | refine W_seqr ?_ | refine W_ret ?_ | refine W_skip ?_ | refine W_block ?_ | refine W_exit ?_ | (refine X_s (fun x K hK => ?_); go_simp; refine hK _ _ (Ext.alloc _ _) ?_; clear hK K; refine X_al x ?_; generalize (World.later _ x).heap.size = bn; intro yn hn1 hn2 hn3 hn4 hn5; clear x) | refine W_tt ?_ | refine W_ff ?_ | refine W_test (fun hc => ?_) (fun hc => ?_) | go_step)
    · refine Body_ret hd ⟨congrArg Value.bool ?_, by simp⟩
      simp at hc
      simp [otherB]
      exact ⟨x, mem_of_get HX.out, hc⟩
    · refine ⟨_, _, rfl, hd, hA, n2 - 1, by omega, k + 1, trivial, by omega, by simp, ?_⟩
      have := Hm.out
      unfold otherB at *
      rw [take_snoc HX.out, List.any_append, this]
      simpa using hc
  · repeat' (first | refine X_d (fun vb hvb => ?_) | refine X_dg (fun vb hvb => ?_) | refine X_q ?_ | refine X_g ?_ | refine X_gf ?_ | refine X_niln ?_ | refine X_nil ?_ | (refine X_var (fun yn bn hn1 hn2 hn3 hn4 hn5 => ?_)) | refine W_seqk (fun K hK => ?_) | refine W_seqr ?_ | refine W_ret ?_ | refine W_skip ?_ | refine W_block ?_ | refine W_exit ?_ | (refine X_s (fun x K hK => ?_); go_simp; refine hK _ _ (Ext.alloc _ _) ?_; clear hK K; refine X_al x ?_; generalize (World.later _ x).heap.size = bn; intro yn hn1 hn2 hn3 hn4 hn5; clear x) | refine W_tt ?_ | refine W_ff ?_ | refine W_test (fun hc => ?_) (fun hc => ?_) | go_step)
    obtain rfl : k = os.length := by omega
    refine Body_ret hd ⟨congrArg Value.bool ?_, by simp⟩
    have := Hm.out
    rw [List.take_length] at this
    simp [this]
/-- The cells of an api.Writer. -/
abbrev wrG (h n m : Int) (u : Value) : Nat → Value := fun k => (#[.int .i64 h, .int .i64 n, .int .i64 m, u] : Array Value).getD k undef
theorem wrG_put0 {W : World} {b : Nat} {E : TypeId} {h n m h' : Int} {u : Value} (B : Blk W b E 4 (put (wrG h n m u) 0 [.int .i64 h'])) : Blk W b E 4 (wrG h' n m u) := B.congr fun k hk => by
  rw [put_one]; obtain rfl | rfl | rfl | rfl : k = 0 ∨ k = 1 ∨ k = 2 ∨ k = 3 := by omega
  all_goals rfl
theorem wrG_put1 {W : World} {b : Nat} {E : TypeId} {h n m h' : Int} {u : Value} (B : Blk W b E 4 (put (wrG h n m u) 1 [.int .i64 h'])) : Blk W b E 4 (wrG h h' m u) := B.congr fun k hk => by
  rw [put_one]; obtain rfl | rfl | rfl | rfl : k = 0 ∨ k = 1 ∨ k = 2 ∨ k = 3 := by omega
  all_goals rfl
theorem wrG_put2 {W : World} {b : Nat} {E : TypeId} {h n m h' : Int} {u : Value} (B : Blk W b E 4 (put (wrG h n m u) 2 [.int .i64 h'])) : Blk W b E 4 (wrG h n h' u) := B.congr fun k hk => by
  rw [put_one]; obtain rfl | rfl | rfl | rfl : k = 0 ∨ k = 1 ∨ k = 2 ∨ k = 3 := by omega
  all_goals rfl
/-- Its cells, read. -/
theorem Blk.wr {W : World} {b : Nat} {E : TypeId} {h n m : Int} {u : Value} (B : Blk W b E 4 (wrG h n m u)) : b < W.heap.size ∧ W.cell? ⟨b, 0, none⟩ = some (.int .i64 h) ∧ W.cell? ⟨b, 1, none⟩ = some (.int .i64 n) ∧ W.cell? ⟨b, 2, none⟩ = some (.int .i64 m) ∧ W.cell? ⟨b, 3, none⟩ = some u :=
  ⟨B.lt, B.cell (k := 0) (by omega), B.cell (k := 1) (by omega), B.cell (k := 2) (by omega), B.cell (k := 3) (by omega)⟩
theorem slice_of1 {W : World} {α : Type} {en : α → List Value} {k : Nat} {v : Value} {xs : List α} (h : Rd en k W v xs) : ∃ A n c, v = .slice A n c := by obtain ⟨A, c, h, _⟩ := h; exact ⟨_, _, _, h⟩
theorem highB_take {l : List Ent} {k : Nat} {e : Ent} (id : Int) (h : l[k]? = some e) : highB (l.take (k + 1)) id = if e.id = id then max (highB (l.take k) id) e.num else highB (l.take k) id := by rw [take_snoc h, highB_snoc]
theorem markB_take {l : List Ent} {k : Nat} {e : Ent} (id : Int) (h : l[k]? = some e) : markB (l.take (k + 1)) id = if e.id = id ∧ 1 < e.kind then max (markB (l.take k) id) e.num else markB (l.take k) id := by rw [take_snoc h, markB_snoc]
theorem nextB_take {l : List Ent} {k : Nat} {e : Ent} (id num : Int) (h : l[k]? = some e) : nextB (l.take (k + 1)) id num = if e.id = id ∧ e.num = num ∧ e.kind = 1 then max (nextB (l.take k) id num) (e.seq + 1) else nextB (l.take k) id num := by rw [take_snoc h, nextB_snoc]
theorem rwriter_calls (l : List Ent) (v : Value) (id : Int) (w : World) (hl : RdE w v l) (hn : l.length ≤ 1000000) (hr : ∀ e ∈ l, rightB e = true) :
    Ret Try.prog 47 #[v, .int .i64 id] w fun r w' => ∃ u, r = wrV (highB l id) (nextB l id (highB l id)) (markB l id) u ∧ Ext w w' ∧ RdO w' u (opensB l id) := by
  have hl0 := Lib.hid hl
  have HRT := Lib.hid hr
  obtain ⟨A0, c, rfl, hc, hcm, HR⟩ := hl.ent
  clear hl hr
  refine Fn_of Try.func47 rfl (Nat.le_of_ble_eq_true rfl) ?_; intro A hd hA; simp only [ix, Nat.reduceAdd]; replace hA : A.tmps.size = 91 := hA
  repeat' (first | refine X_d (fun vb hvb => ?_) | refine X_dg (fun vb hvb => ?_) | refine X_q ?_ | refine X_g ?_ | refine X_gf ?_ | refine X_niln ?_ | refine X_nil ?_ | (refine X_var (fun yn bn hn1 hn2 hn3 hn4 hn5 => ?_)) | refine W_seqk (fun K hK => ?_) | refine W_seqr ?_ | refine W_ret ?_ | refine W_skip ?_ | refine W_block ?_ | refine W_exit ?_ | (refine X_s (fun x K hK => ?_); go_simp; refine hK _ _ (Ext.alloc _ _) ?_; clear hK K; refine X_al x ?_; generalize (World.later _ x).heap.size = bn; intro yn hn1 hn2 hn3 hn4 hn5; clear x) | refine W_tt ?_ | refine W_ff ?_ | refine W_test (fun hc => ?_) (fun hc => ?_) | go_step)
  rename Nat => b4
  rename Later w => y4
  have g4 : Blk (w.later y4) b4 63 4 _ := Blk.new hn5.out
  have hb4 := hn1
  have hl4 := hn2
  clear hn1 hn2 hn3 hn4 hn5
  refine X_ret Try.func66 (opens_calls l _ id _ (hl0.out.later (by simp)) hn) (fun u w1 hR => ?_)
  obtain ⟨hE1, hO, hF⟩ := hR
  obtain ⟨A9, n9, c9, rfl⟩ := slice_of1 (hO.rd Opn.len)
  obtain ⟨y1, rfl⟩ := hE1.get
  have HO := Lib.hid (hO.rd Opn.len)
  have HOl := Lib.hid hO.lt
  have HF := Lib.hid hF
  clear hO hF hE1
  repeat' (first | refine X_d (fun vb hvb => ?_) | refine X_dg (fun vb hvb => ?_) | refine X_q ?_ | refine X_g ?_ | refine X_gf ?_ | refine X_niln ?_ | refine X_nil ?_ | (refine X_var (fun yn bn hn1 hn2 hn3 hn4 hn5 => ?_)) | refine W_seqk (fun K hK => ?_) | refine W_seqr ?_ | refine W_ret ?_ | refine W_skip ?_ | refine W_block ?_ | refine W_exit ?_ | (refine X_s (fun x K hK => ?_); go_simp; refine hK _ _ (Ext.alloc _ _) ?_; clear hK K; refine X_al x ?_; generalize (World.later _ x).heap.size = bn; intro yn hn1 hn2 hn3 hn4 hn5; clear x) | refine W_tt ?_ | refine W_ff ?_ | refine W_test (fun hc => ?_) (fun hc => ?_) | go_step)
  rename Nat => b5
  rename Later _ => y5
  have hW0 : Ext w (((w.later y4).later y1).later y5) := by simp
  have hlt4 : b4 < b5 := by have : (w.later y4).heap.size ≤ ((w.later y4).later y1).heap.size := y1.2.size; omega
  have hFU : ∀ b, (Value.slice A9 n9 c9).ownBlock = some b → b ≠ b5 := fun b hb => by have := HOl.out b hb; omega
  have HF4 : Hid (∀ b, (Value.slice A9 n9 c9).ownBlock = some b → b ≠ b4) := Lib.hid (fun b hb => by have := HF.out b hb; omega)
  have g5 : Blk (((w.later y4).later y1).later y5) b5 63 4 (wrG 0 0 0 (.slice A9 n9 c9)) := Blk.new hn5.out
  have G4 : Hid (Blk (((w.later y4).later y1).later y5) b4 63 4 _) := Lib.hid (((g4.later y1.2).later y5.2))
  have HO1 : Hid (RdO (((w.later y4).later y1).later y5) (.slice A9 n9 c9) (opensB l id)) := Lib.hid (HO.out.later y5.2)
  generalize ((w.later y4).later y1).later y5 = W0 at *
  have G5 := Lib.hid g5
  clear g5 g4 HO HOl HF hn1 hn2 hn3 hn4 hn5 y5
  refine W_loops [0, 1, 4, 5, 6] (fun n vs W => ∃ k : Nat, Mod (fun j => j = b5) W0 W ∧ k + n = l.length ∧ vs = [.slice A0 l.length c, .int .i64 id, .pointer (some ⟨b4, 0, none⟩), .pointer (some ⟨b5, 0, none⟩), .int .i64 k] ∧
    Blk W b5 63 4 (wrG (highB (l.take k) id) 0 (markB (l.take k) id) (.slice A9 n9 c9))) l.length hd hA (by decide) ⟨0, Mod.refl _ _, by omega, by simp, by simpa [highB, markB] using G5.out⟩ ?_
  clear hd hA A; intro n2 vs B W hd hA _ ⟨k, hM, hk, hvs, hB⟩; subst hvs
  simp only [List.zip_cons_cons, List.zip_nil_right, List.zip_nil_left]
  have HM := Lib.hid hM
  have hE : Ext w W := Ext.fresh hW0 hM (fun i hi => by omega)
  have GB := Lib.hid hB
  obtain ⟨r5, r0, r1, r2, r3⟩ := hB.wr
  clear hM hB
  by_cases hlt : k < l.length
  · obtain ⟨e, b, o, HE, rfl, hb, c0, c1, c2, c3, c4, c5⟩ := HR.out k hlt
    have hbb : b ≠ b5 := by omega
    rw [← cell?_mod hE hb (fun h => h)] at c0 c1 c2 c3 c4 c5
    have hbW : b < W.heap.size := Nat.lt_of_lt_of_le hb hE.size
    have HEW := Lib.hid hE
    clear hE
    repeat' (first | refine X_d (fun vb hvb => ?_) | refine X_dg (fun vb hvb => ?_) | refine X_q ?_ | refine X_g ?_ | refine X_gf ?_ | refine X_niln ?_ | refine X_nil ?_ | (refine X_var (fun yn bn hn1 hn2 hn3 hn4 hn5 => ?_)) | refine W_seqk (fun K hK => ?_) | refine W_seqr ?_ | refine W_ret ?_ | refine W_skip ?_ | refine W_block ?_ | refine W_exit ?_ | (refine X_s (fun x K hK => ?_); go_simp; refine hK _ _ (Ext.alloc _ _) ?_; clear hK K; refine X_al x ?_; generalize (World.later _ x).heap.size = bn; intro yn hn1 hn2 hn3 hn4 hn5; clear x) | refine W_tt ?_ | refine W_ff ?_ | refine W_test (fun hc => ?_) (fun hc => ?_) | go_step)
    · have hid : e.id ≠ id := by simpa using hc
      refine ⟨_, _, rfl, hd, hA, n2 - 1, by omega, k + 1, HM.out, by omega, by simp, ?_⟩
      rw [highB_take id HE.out, markB_take id HE.out, if_neg hid, if_neg (fun h => hid h.1)]
      exact GB.out
    have hid : e.id = id := by simpa using hc
    clear hc
    refine W_draw (by kernel_rfl) (by kernel_rfl) ?_
    repeat' (first | refine X_d (fun vb hvb => ?_) | refine X_dg (fun vb hvb => ?_) | refine X_q ?_ | refine X_g ?_ | refine X_gf ?_ | refine X_niln ?_ | refine X_nil ?_ | (refine X_var (fun yn bn hn1 hn2 hn3 hn4 hn5 => ?_)) | refine W_seqk (fun K hK => ?_) | refine W_seqr ?_ | refine W_ret ?_ | refine W_skip ?_ | refine W_block ?_ | refine W_exit ?_ | (refine X_s (fun x K hK => ?_); go_simp; refine hK _ _ (Ext.alloc _ _) ?_; clear hK K; refine X_al x ?_; generalize (World.later _ x).heap.size = bn; intro yn hn1 hn2 hn3 hn4 hn5; clear x) | refine W_tt ?_ | refine W_ff ?_ | refine W_test (fun hc => ?_) (fun hc => ?_) | go_step)
    refine X_store (off := 0) GB.out (fun W1 hM1 hB1 => ?_)
    have GB1 := Lib.hid (wrG_put0 hB1)
    have HM1 := Lib.hid (Mod.trans HM.out hM1 (fun _ _ h => h) (fun _ _ h => h))
    clear r5 r0 r1 r2 r3
    obtain ⟨r5, r0, r1, r2, r3⟩ := GB1.out.wr
    rw [← cell?_mod hM1 hbW hbb] at c0 c1 c2 c3 c4 c5
    have hbW1 : b < W1.heap.size := Nat.lt_of_lt_of_le hbW hM1.size
    clear hM1 hB1 hbW
    repeat' (first | refine X_d (fun vb hvb => ?_) | refine X_dg (fun vb hvb => ?_) | refine X_q ?_ | refine X_g ?_ | refine X_gf ?_ | refine X_niln ?_ | refine X_nil ?_ | (refine X_var (fun yn bn hn1 hn2 hn3 hn4 hn5 => ?_)) | refine W_seqk (fun K hK => ?_) | refine W_seqr ?_ | refine W_ret ?_ | refine W_skip ?_ | refine W_block ?_ | refine W_exit ?_ | (refine X_s (fun x K hK => ?_); go_simp; refine hK _ _ (Ext.alloc _ _) ?_; clear hK K; refine X_al x ?_; generalize (World.later _ x).heap.size = bn; intro yn hn1 hn2 hn3 hn4 hn5; clear x) | refine W_tt ?_ | refine W_ff ?_ | refine W_test (fun hc => ?_) (fun hc => ?_) | go_step)
    · have hk1 : 1 < e.kind := by simpa using hc
      refine W_draw (by kernel_rfl) (by kernel_rfl) ?_
      repeat' (first | refine X_d (fun vb hvb => ?_) | refine X_dg (fun vb hvb => ?_) | refine X_q ?_ | refine X_g ?_ | refine X_gf ?_ | refine X_niln ?_ | refine X_nil ?_ | (refine X_var (fun yn bn hn1 hn2 hn3 hn4 hn5 => ?_)) | refine W_seqk (fun K hK => ?_) | refine W_seqr ?_ | refine W_ret ?_ | refine W_skip ?_ | refine W_block ?_ | refine W_exit ?_ | (refine X_s (fun x K hK => ?_); go_simp; refine hK _ _ (Ext.alloc _ _) ?_; clear hK K; refine X_al x ?_; generalize (World.later _ x).heap.size = bn; intro yn hn1 hn2 hn3 hn4 hn5; clear x) | refine W_tt ?_ | refine W_ff ?_ | refine W_test (fun hc => ?_) (fun hc => ?_) | go_step)
      refine X_store (off := 2) GB1.out (fun W2 hM2 hB2 => ?_)
      have GB2 := Lib.hid (wrG_put2 hB2)
      have HM2 := Lib.hid (Mod.trans HM1.out hM2 (fun _ _ h => h) (fun _ _ h => h))
      repeat' (first | refine X_d (fun vb hvb => ?_) | refine X_dg (fun vb hvb => ?_) | refine X_q ?_ | refine X_g ?_ | refine X_gf ?_ | refine X_niln ?_ | refine X_nil ?_ | (refine X_var (fun yn bn hn1 hn2 hn3 hn4 hn5 => ?_)) | refine W_seqk (fun K hK => ?_) | refine W_seqr ?_ | refine W_ret ?_ | refine W_skip ?_ | refine W_block ?_ | refine W_exit ?_ | (refine X_s (fun x K hK => ?_); go_simp; refine hK _ _ (Ext.alloc _ _) ?_; clear hK K; refine X_al x ?_; generalize (World.later _ x).heap.size = bn; intro yn hn1 hn2 hn3 hn4 hn5; clear x) | refine W_tt ?_ | refine W_ff ?_ | refine W_test (fun hc => ?_) (fun hc => ?_) | go_step)
      refine ⟨_, _, rfl, hd, hA, n2 - 1, by omega, k + 1, HM2.out, by omega, by simp, ?_⟩
      rw [highB_take id HE.out, markB_take id HE.out, if_pos hid, if_pos ⟨hid, hk1⟩, ← gmax_eq, ← gmax_eq]
      exact GB2.out
    · have hk1 : ¬ 1 < e.kind := by simpa using hc
      refine ⟨_, _, rfl, hd, hA, n2 - 1, by omega, k + 1, HM1.out, by omega, by simp, ?_⟩
      rw [highB_take id HE.out, markB_take id HE.out, if_pos hid, if_neg (fun h => hk1 h.2), ← gmax_eq]
      exact GB1.out
  · obtain rfl : k = l.length := by omega
    rw [List.take_length] at GB r0 r2
    have HEW := Lib.hid hE
    clear hE
    repeat' (first | refine X_d (fun vb hvb => ?_) | refine X_dg (fun vb hvb => ?_) | refine X_q ?_ | refine X_g ?_ | refine X_gf ?_ | refine X_niln ?_ | refine X_nil ?_ | (refine X_var (fun yn bn hn1 hn2 hn3 hn4 hn5 => ?_)) | refine W_seqk (fun K hK => ?_) | refine W_seqr ?_ | refine W_ret ?_ | refine W_skip ?_ | refine W_block ?_ | refine W_exit ?_ | (refine X_s (fun x K hK => ?_); go_simp; refine hK _ _ (Ext.alloc _ _) ?_; clear hK K; refine X_al x ?_; generalize (World.later _ x).heap.size = bn; intro yn hn1 hn2 hn3 hn4 hn5; clear x) | refine W_tt ?_ | refine W_ff ?_ | refine W_test (fun hc => ?_) (fun hc => ?_) | go_step)
    have HM0 := HM
    have GB0 := GB
    clear r5 r0 r1 r2 r3 HM GB
    generalize hH : highB l id = H at *
    generalize hMk : markB l id = M at *
    refine W_loops [0, 1, 4, 5, 7] (fun n vs W => ∃ k : Nat, Mod (fun j => j = b5) W0 W ∧ k + n = l.length ∧ vs = [.slice A0 l.length c, .int .i64 id, .pointer (some ⟨b4, 0, none⟩), .pointer (some ⟨b5, 0, none⟩), .int .i64 k] ∧
      Blk W b5 63 4 (wrG H (nextB (l.take k) id H) M (.slice A9 n9 c9))) l.length hd hA (by decide) ⟨0, HM0.out, by omega, by simp, by simpa [nextB] using GB0.out⟩ ?_
    clear hd hA B HM0 GB0 HEW; intro n2 vs B W hd hA _ ⟨k, hM, hk, hvs, hB⟩; subst hvs
    simp only [List.zip_cons_cons, List.zip_nil_right, List.zip_nil_left]
    have HM := Lib.hid hM
    have hE : Ext w W := Ext.fresh hW0 hM (fun i hi => by omega)
    have GB := Lib.hid hB
    obtain ⟨r5, r0, r1, r2, r3⟩ := hB.wr
    clear hM hB
    by_cases hlt : k < l.length
    · obtain ⟨e, b, o, HE, rfl, hb, c0, c1, c2, c3, c4, c5⟩ := HR.out k hlt
      have hbb : b ≠ b5 := by omega
      rw [← cell?_mod hE hb (fun h => h)] at c0 c1 c2 c3 c4 c5
      have hbW : b < W.heap.size := Nat.lt_of_lt_of_le hb hE.size
      have HEW := Lib.hid hE
      have hsq := right_bounds (HRT.out e (mem_of_get HE.out))
      have hs1 : 0 ≤ e.seq := hsq.2.2.1
      have hs2 : e.seq ≤ 2147483647 := hsq.2.2.2.1
      clear hE hsq
      refine W_seqk (fun K hK => ?_)
      repeat' (first | refine X_d (fun vb hvb => ?_) | refine X_dg (fun vb hvb => ?_) | refine X_q ?_ | refine X_g ?_ | refine X_gf ?_ | refine X_niln ?_ | refine X_nil ?_ | (refine X_var (fun yn bn hn1 hn2 hn3 hn4 hn5 => ?_)) | refine W_seqk (fun K hK => ?_) | refine W_seqr ?_ | refine W_ret ?_ | refine W_skip ?_ | refine W_block ?_ | refine W_exit ?_ | (refine X_s (fun x K hK => ?_); go_simp; refine hK _ _ (Ext.alloc _ _) ?_; clear hK K; refine X_al x ?_; generalize (World.later _ x).heap.size = bn; intro yn hn1 hn2 hn3 hn4 hn5; clear x) | refine W_tt ?_ | refine W_ff ?_ | refine W_test (fun hc => ?_) (fun hc => ?_) | go_step)
      refine W_draw (by kernel_rfl) (by kernel_rfl) ?_
      repeat' (first | refine X_d (fun vb hvb => ?_) | refine X_dg (fun vb hvb => ?_) | refine X_q ?_ | refine X_g ?_ | refine X_gf ?_ | refine X_niln ?_ | refine X_nil ?_ | (refine X_var (fun yn bn hn1 hn2 hn3 hn4 hn5 => ?_)) | refine W_seqk (fun K hK => ?_) | refine W_seqr ?_ | refine W_ret ?_ | refine W_skip ?_ | refine W_block ?_ | refine W_exit ?_ | (refine X_s (fun x K hK => ?_); go_simp; refine hK _ _ (Ext.alloc _ _) ?_; clear hK K; refine X_al x ?_; generalize (World.later _ x).heap.size = bn; intro yn hn1 hn2 hn3 hn4 hn5; clear x) | refine W_tt ?_ | refine W_ff ?_ | refine W_test (fun hc => ?_) (fun hc => ?_) | go_step)
      · have hq : e.id = id ∧ e.num = H ∧ e.kind = 1 := by
          have h3 := hc
          repeat cases ‹Eqn _ _›
          simp at h3
          exact ⟨h3.1.1, h3.1.2, h3.2⟩
        clear hc hvb
        refine W_draw (by kernel_rfl) (by kernel_rfl) ?_
        repeat' (first | refine X_d (fun vb hvb => ?_) | refine X_dg (fun vb hvb => ?_) | refine X_q ?_ | refine X_g ?_ | refine X_gf ?_ | refine X_niln ?_ | refine X_nil ?_ | (refine X_var (fun yn bn hn1 hn2 hn3 hn4 hn5 => ?_)) | refine W_seqk (fun K hK => ?_) | refine W_seqr ?_ | refine W_ret ?_ | refine W_skip ?_ | refine W_block ?_ | refine W_exit ?_ | (refine X_s (fun x K hK => ?_); go_simp; refine hK _ _ (Ext.alloc _ _) ?_; clear hK K; refine X_al x ?_; generalize (World.later _ x).heap.size = bn; intro yn hn1 hn2 hn3 hn4 hn5; clear x) | refine W_tt ?_ | refine W_ff ?_ | refine W_test (fun hc => ?_) (fun hc => ?_) | go_step)
        refine X_store (off := 1) GB.out (fun W1 hM1 hB1 => ?_)
        have GB1 := Lib.hid (wrG_put1 hB1)
        have HM1 := Lib.hid (Mod.trans HM.out hM1 (fun _ _ h => h) (fun _ _ h => h))
        repeat' (first | refine X_d (fun vb hvb => ?_) | refine X_dg (fun vb hvb => ?_) | refine X_q ?_ | refine X_g ?_ | refine X_gf ?_ | refine X_niln ?_ | refine X_nil ?_ | (refine X_var (fun yn bn hn1 hn2 hn3 hn4 hn5 => ?_)) | refine W_seqk (fun K hK => ?_) | refine W_seqr ?_ | refine W_ret ?_ | refine W_skip ?_ | refine W_block ?_ | refine W_exit ?_ | (refine X_s (fun x K hK => ?_); go_simp; refine hK _ _ (Ext.alloc _ _) ?_; clear hK K; refine X_al x ?_; generalize (World.later _ x).heap.size = bn; intro yn hn1 hn2 hn3 hn4 hn5; clear x) | refine W_tt ?_ | refine W_ff ?_ | refine W_test (fun hc => ?_) (fun hc => ?_) | go_step)
        refine ⟨_, _, rfl, hd, hA, n2 - 1, by omega, k + 1, HM1.out, by omega, by simp, ?_⟩
        rw [nextB_take id H HE.out, if_pos hq, ← gmax_eq]
        exact GB1.out
      · have hq : ¬ (e.id = id ∧ e.num = H ∧ e.kind = 1) := by
          rintro ⟨q1, q2, q3⟩
          have h3 := hc
          repeat cases ‹Eqn _ _›
          simp [q1, q2, q3] at h3
        refine ⟨_, _, rfl, hd, hA, n2 - 1, by omega, k + 1, HM.out, by omega, by simp, ?_⟩
        rw [nextB_take id H HE.out, if_neg hq]
        exact GB.out
    · obtain rfl : k = l.length := by omega
      rw [List.take_length] at GB r1
      have hE4 : ∀ j, j = b5 → j ≠ b4 := fun j hj => by omega
      have HEW := Lib.hid hE
      have HO2 := Lib.hid (HO1.out.mod HM.out (fun b hb h => hFU b hb h))
      have GG4 := Lib.hid (G4.out.mod HM.out (by omega))
      have HFU := Lib.hid hFU
      clear hE hFU
      repeat' (first | refine X_d (fun vb hvb => ?_) | refine X_dg (fun vb hvb => ?_) | refine X_q ?_ | refine X_g ?_ | refine X_gf ?_ | refine X_niln ?_ | refine X_nil ?_ | (refine X_var (fun yn bn hn1 hn2 hn3 hn4 hn5 => ?_)) | refine W_seqk (fun K hK => ?_) | refine W_seqr ?_ | refine W_ret ?_ | refine W_skip ?_ | refine W_block ?_ | refine W_exit ?_ | (refine X_s (fun x K hK => ?_); go_simp; refine hK _ _ (Ext.alloc _ _) ?_; clear hK K; refine X_al x ?_; generalize (World.later _ x).heap.size = bn; intro yn hn1 hn2 hn3 hn4 hn5; clear x) | refine W_tt ?_ | refine W_ff ?_ | refine W_test (fun hc => ?_) (fun hc => ?_) | go_step)
      refine X_store (off := 0) GG4.out (fun W1 hM1 hB1 => ?_)
      repeat' (first | refine X_d (fun vb hvb => ?_) | refine X_dg (fun vb hvb => ?_) | refine X_q ?_ | refine X_g ?_ | refine X_gf ?_ | refine X_niln ?_ | refine X_nil ?_ | (refine X_var (fun yn bn hn1 hn2 hn3 hn4 hn5 => ?_)) | refine W_seqk (fun K hK => ?_) | refine W_seqr ?_ | refine W_ret ?_ | refine W_skip ?_ | refine W_block ?_ | refine W_exit ?_ | (refine X_s (fun x K hK => ?_); go_simp; refine hK _ _ (Ext.alloc _ _) ?_; clear hK K; refine X_al x ?_; generalize (World.later _ x).heap.size = bn; intro yn hn1 hn2 hn3 hn4 hn5; clear x) | refine W_tt ?_ | refine W_ff ?_ | refine W_test (fun hc => ?_) (fun hc => ?_) | go_step)
      refine Body_retcell1 (cs := [.int .i64 H, .int .i64 (nextB l id H), .int .i64 M, .slice A9 n9 c9]) hd ⟨_, rfl, Ext.fresh HEW.out hM1 (fun i hi => by omega), HO2.out.mod hM1 (fun b hb h => HF4.out b hb h)⟩ hB1 (fun k hk => ?_) Try.underlying63
      have hk : k < 4 := hk
      rw [put_in k (by simpa [Value.cells] using hk) (by omega)]
      obtain rfl | rfl | rfl | rfl : k = 0 ∨ k = 1 ∨ k = 2 ∨ k = 3 := by omega
      all_goals rfl
abbrev Opn.v (o : Opn) : Value := .agg #[.int .i64 o.num, .int .i64 o.first]
theorem eqGuardOpn (ox oy : Operand) (a b : Array Value) (w : World) : (eqGuard .neq 68 ox oy (.agg a) (.agg b)).run Try.prog w = .ok () w := by
  have hg : Try.prog.eqGuardType Try.prog.depth 68 = false := by kernel_rfl
  simp [eqGuard, program, Sem.run, hg]
theorem equalOpn (x y : Opn) (w : World) : (Op.equal 68 x.v y.v).run Try.prog w = .ok (decide (x = y)) w := by
  have hst : Try.prog.stoodInHeld 68 = false := by kernel_rfl
  have key : ∀ (t : TypeId), Try.prog.underlying t = some (.int .i64) → ∀ (a b : Int) (cs ds : Array Value) (i : Nat) (w : World), cs[i]? = some (.int .i64 a) → ds[i]? = some (.int .i64 b) →
      (part t cs i).run Try.prog w = .ok (.int .i64 a) w ∧ (part t ds i).run Try.prog w = .ok (.int .i64 b) w ∧ (Op.equalIn 9999 t (.int .i64 a) (.int .i64 b)).run Try.prog w = .ok (a == b) w :=
    fun t ht a b cs ds i w h1 h2 => ⟨part_int ht cs i _ w h1, part_int ht ds i _ w h2, equalIn_int ht 9998 a b w⟩
  obtain ⟨a0, a1⟩ := x
  obtain ⟨b0, b1⟩ := y
  have k0 := key 2 Try.underlying2 a0 b0 #[.int .i64 a0, .int .i64 a1] #[.int .i64 b0, .int .i64 b1] 0 w rfl rfl
  have k1 := key 3 Try.underlying3 a1 b1 #[.int .i64 a0, .int .i64 a1] #[.int .i64 b0, .int .i64 b1] 1 w rfl rfl
  unfold Op.equal Op.maxDepth
  rw [show (10000 : Nat) = 9999 + 1 from rfl, Op.equalIn]
  simp only [Sem.run_bind, run_underlying Try.underlying68, Result.andThen_ok, program, Sem.run, hst]
  by_cases h0 : a0 = b0
  rotate_left; · simp [k0, h0]
  subst h0
  by_cases h1 : a1 = b1
  rotate_left; · simp [k0, k1, h1]
  subst h1
  simp [k0, k1]
theorem neqOpn (x y : Opn) (w : World) : (binOp .neq 68 x.v y.v).run Try.prog w = .ok (.bool (decide (x ≠ y))) w := by
  have h := equalOpn x y w
  have e : binOp .neq 68 x.v y.v = (do pure (.bool (!(← Op.equal 68 x.v y.v)))) := rfl
  rw [e]
  simp only [Sem.run_bind, h, Result.andThen_ok, Sem.run_pure]
  rw [← decide_not]
theorem sameW_calls (os os' : List Opn) (u u' : Value) (h n m h' n' m' : Int) (w : World) (hu : RdO w u os) (hu' : RdO w u' os') :
    Pure Try.prog 46 #[wrV h n m u, wrV h' n' m' u'] w (.bool (decide (h = h' ∧ n = n' ∧ m = m' ∧ os = os'))) := by
  obtain ⟨A0, c0, rfl, hc0, hcm0, HR0⟩ := hu.opn
  obtain ⟨A1, c1, rfl, hc1, hcm1, HR1⟩ := hu'.opn
  clear hu hu'
  refine Fn_of Try.func46 rfl (Nat.le_of_ble_eq_true rfl) ?_; intro A hd hA; simp only [ix, Nat.reduceAdd]; replace hA : A.tmps.size = 52 := hA
  repeat' (first | refine X_d (fun vb hvb => ?_) | refine X_dg (fun vb hvb => ?_) | refine X_q ?_ | refine X_g ?_ | refine X_gf ?_ | refine X_niln ?_ | refine X_nil ?_ | (refine X_var (fun yn bn hn1 hn2 hn3 hn4 hn5 => ?_)) | refine W_seqk (fun K hK => ?_) | refine W_seqr ?_ | refine W_ret ?_ | refine W_skip ?_ | refine W_block ?_ | refine W_exit ?_ | (refine X_s (fun x K hK => ?_); go_simp; refine hK _ _ (Ext.alloc _ _) ?_; clear hK K; refine X_al x ?_; generalize (World.later _ x).heap.size = bn; intro yn hn1 hn2 hn3 hn4 hn5; clear x) | refine W_tt ?_ | refine W_ff ?_ | refine W_test (fun hc => ?_) (fun hc => ?_) | go_step)
  · refine Body_ret hd ⟨congrArg Value.bool ?_, by simp⟩
    have h3 := hc
    repeat cases ‹Eqn _ _›
    symm
    rw [decide_eq_false_iff_not]
    rintro ⟨rfl, rfl, rfl, rfl⟩
    simp at h3
  have hq : h = h' ∧ n = n' ∧ m = m' ∧ os.length = os'.length := by
    have h3 := hc
    repeat cases ‹Eqn _ _›
    simp at h3
    exact ⟨h3.1.1.1, h3.1.1.2, h3.1.2, by omega⟩
  clear hc hvb
  obtain ⟨rfl, rfl, rfl, hlen⟩ := hq
  rename_i b2 y2 p1 p2 p3 p4 p5 v1 v2 v3
  rename Nat => b3
  rename Later (World.later w y2) => y3
  refine W_loops [2, 3, 5] (fun n vs w' => ∃ k : Nat, w' = (w.later y2).later y3 ∧ k + n = os.length ∧ vs = [.pointer (some ⟨b2, 0, none⟩), .pointer (some ⟨b3, 0, none⟩), .int .i64 k] ∧ os.take k = os'.take k) os.length hd hA (by decide) ⟨0, rfl, by omega, by simp, by simp⟩ ?_
  clear hd hA A; intro n2 vs B w' hd hA _ ⟨k, hw, hk, hvs, hm⟩; subst hw hvs
  simp only [List.zip_cons_cons, List.zip_nil_right, List.zip_nil_left]
  have Hm := Lib.hid hm; clear hm
  have HL := Lib.hid hlen; clear hlen
  by_cases hlt : k < os.length
  · obtain ⟨x, b, o, HX, rfl, hb, d0, d1⟩ := HR0.out k hlt
    have hlt' : k < os'.length := by rw [← HL.out]; exact hlt
    obtain ⟨x', b', o', HX', rfl, hb', d0', d1'⟩ := HR1.out k hlt'
    have g1 := fun ox oy a b w => eqGuardOpn ox oy a b w
    have g2 := neqOpn x x'
    refine W_seqk (fun K hK => ?_)
    repeat' (first | refine X_d (fun vb hvb => ?_) | refine X_dg (fun vb hvb => ?_) | refine X_q ?_ | refine X_g ?_ | refine X_gf ?_ | refine X_niln ?_ | refine X_nil ?_ | (refine X_var (fun yn bn hn1 hn2 hn3 hn4 hn5 => ?_)) | refine W_seqk (fun K hK => ?_) | refine W_seqr ?_ | refine W_ret ?_ | refine W_skip ?_ | refine W_block ?_ | refine W_exit ?_ | (refine X_s (fun x K hK => ?_); go_simp; refine hK _ _ (Ext.alloc _ _) ?_; clear hK K; refine X_al x ?_; generalize (World.later _ x).heap.size = bn; intro yn hn1 hn2 hn3 hn4 hn5; clear x) | refine W_tt ?_ | refine W_ff ?_ | refine W_test (fun hc => ?_) (fun hc => ?_) | go_step)
    refine W_draw (by kernel_rfl) (by kernel_rfl) ?_
    repeat' (first | refine X_d (fun vb hvb => ?_) | refine X_dg (fun vb hvb => ?_) | refine X_q ?_ | refine X_g ?_ | refine X_gf ?_ | refine X_niln ?_ | refine X_nil ?_ | (refine X_var (fun yn bn hn1 hn2 hn3 hn4 hn5 => ?_)) | refine W_seqk (fun K hK => ?_) | refine W_seqr ?_ | refine W_ret ?_ | refine W_skip ?_ | refine W_block ?_ | refine W_exit ?_ | (refine X_s (fun x K hK => ?_); go_simp; refine hK _ _ (Ext.alloc _ _) ?_; clear hK K; refine X_al x ?_; generalize (World.later _ x).heap.size = bn; intro yn hn1 hn2 hn3 hn4 hn5; clear x) | refine W_tt ?_ | refine W_ff ?_ | refine W_test (fun hc => ?_) (fun hc => ?_) | go_step)
    · refine Body_ret hd ⟨congrArg Value.bool ?_, by simp⟩
      symm
      rw [decide_eq_false_iff_not]
      rintro ⟨-, -, -, rfl⟩
      rw [HX.out] at HX'
      cases HX'.out
      simp at hc
    · have hx : x = x' := by simpa using hc
      refine ⟨_, _, rfl, hd, hA, n2 - 1, by omega, k + 1, trivial, by omega, by simp, ?_⟩
      rw [take_snoc HX.out, take_snoc HX'.out, Hm.out, hx]
  · obtain rfl : k = os.length := by omega
    repeat' (first | refine X_d (fun vb hvb => ?_) | refine X_dg (fun vb hvb => ?_) | refine X_q ?_ | refine X_g ?_ | refine X_gf ?_ | refine X_niln ?_ | refine X_nil ?_ | (refine X_var (fun yn bn hn1 hn2 hn3 hn4 hn5 => ?_)) | refine W_seqk (fun K hK => ?_) | refine W_seqr ?_ | refine W_ret ?_ | refine W_skip ?_ | refine W_block ?_ | refine W_exit ?_ | (refine X_s (fun x K hK => ?_); go_simp; refine hK _ _ (Ext.alloc _ _) ?_; clear hK K; refine X_al x ?_; generalize (World.later _ x).heap.size = bn; intro yn hn1 hn2 hn3 hn4 hn5; clear x) | refine W_tt ?_ | refine W_ff ?_ | refine W_test (fun hc => ?_) (fun hc => ?_) | go_step)
    refine Body_ret hd ⟨congrArg Value.bool ?_, by simp⟩
    have := Hm.out
    rw [List.take_length, HL.out, List.take_length] at this
    simp [this]
end Go.Ws
