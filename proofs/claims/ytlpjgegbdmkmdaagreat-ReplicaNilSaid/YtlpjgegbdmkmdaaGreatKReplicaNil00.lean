/- Lemmas for the statements of this layer (joined texts); no condition. -/
import Derived.Test.YtlpjgegbdmkmdaaGreatBb20
import Derived.Test.YtlpjgegbdmkmdaaGreatBb26
import Derived.Test.YtlpjgegbdmkmdaaGreatBb28
import Derived.Test.YtlpjgegbdmkmdaaGreatBb29
namespace Go.Ws
open Go Go.RowKit Go.Proofs
set_option maxHeartbeats 2000000
set_option maxRecDepth 100000
set_option linter.unusedVariables false
set_option linter.unusedSimpArgs false
def NN (w:World) (v:Value):Prop:=∀ W,Ext w W→Pure Tryz.prog 33 #[v] W (.bool true)
theorem NN.later {w w':World} {v:Value} (h:NN w v) (hE:Ext w w'):NN w' v:=fun W h2=>h W (Ext.trans hE h2)
theorem nn_nil (w:World):NN w (.pointer none):=fun W _=>isnone_nil
theorem nn_zero {w:World} {b:Nat} {E:TypeId} {g:Nat→Value} (h:Blk w b E 15 g) (hg:g 9 = .int .i64 0):NN w (.pointer (some ⟨b,0,none⟩)):=fun W hE =>
  isnone_calls ((h.later hE).lt) (((h.later hE).cell (k:=9) (by omega)).trans (congrArg some hg))
section
variable {w:World} {v:Value}
theorem ask_none (hv:NN w v):Ret Tryz.prog 22 #[v] w fun r w'=>r = .tuple #[(Fetch.mk 0 0 0 0 0).v,.int .i64 1]∧Ext w w':=by
  have HN:=Lib.hid hv
  clear hv
  refine Fn_ofD Tryz.func22 rfl (Nat.le_of_ble_eq_true rfl) ?_;intro A hd hA;simp only [ix,Nat.reduceAdd];replace hA:A.tmps.size = 38:=hA
  repeat' (first|refine X_nil ?_|refine W_seqk (fun K hK=>?_)|refine W_seqr ?_|(refine X_s (fun x K hK=>?_);go_simp;refine hK _ _ (Ext.alloc _ _) ?_;clear hK K;refine X_al x ?_;generalize (World.later _ x).heap.size = bn;intro yn hn1 hn2 hn3 hn4 hn5;clear x)|go_step)
  rename_i b0 y0 p00 p01 p02 p03 p04
  refine X_defc (be:=bn) hd hA (fun W hE=>by unfold execOp caughtD;go_simp) ?_;have hbe:=Lib.hid (Blk.one hn5.out);clear hd hA A;intro A hd hA;obtain ⟨be,hbe0⟩:∃ be:Nat,be = bn:=⟨_,rfl⟩;subst hbe0
  have hE:Ext w _:=Ext.trans y0.ext (yn.ext)
  have HE:=Lib.hid hE
  have HBE:=Lib.hid hbe.out
  have hbew:w.heap.size≤be:=by have:=hE.size;have:=y0.ext.size;omega
  have HBV:=Lib.hid ((Blk.new p04.out).later yn.ext)
  have hne:b0 ≠ be:=by have:=p01;omega
  repeat' (first|refine X_pure Tryz.func33 (HN.out _ HE.out) ?_|refine X_q ?_|refine X_nil ?_|refine W_seqk (fun K hK=>?_)|refine W_seqr ?_|go_step)
  refine X_die Tryz.func50 (must_no 1) (fun c w' hC=>?_)
  obtain ⟨rfl,hE4⟩:=hC
  refine End_no2r (cs:=(Fetch.mk 0 0 0 0 0).cs) hd (HBE.out.later hE4) (HBV.out.later hE4) ?_ hne (fun W1 hM=>⟨rfl,Ext.fresh (Ext.trans HE.out hE4) hM (fun k hk=>by subst hk;exact hbew)⟩) Tryz.underlying47
  intro k hk
  simp only [List.length_cons,List.length_nil] at hk
  obtain rfl|rfl|rfl|rfl|rfl:k = 0∨k = 1∨k = 2∨k = 3∨k = 4:=by omega
  all_goals rfl
theorem serve_none (hv:NN w v) (f:Fetch) (most:Int):Ret Tryz.prog 23 #[v,f.v,.int .i64 most] w fun r w'=>r = .tuple #[Reply.zero.v (.slice none 0 0),.int .i64 1]∧Ext w w':=by
  have HN:=Lib.hid hv
  clear hv
  refine Fn_ofD Tryz.func23 rfl (Nat.le_of_ble_eq_true rfl) ?_;intro A hd hA;simp only [ix,Nat.reduceAdd];replace hA:A.tmps.size = 156:=hA
  repeat' (first|refine X_nil ?_|refine W_seqk (fun K hK=>?_)|refine W_seqr ?_|(refine X_s (fun x K hK=>?_);go_simp;refine hK _ _ (Ext.alloc _ _) ?_;clear hK K;refine X_al x ?_;generalize (World.later _ x).heap.size = bn;intro yn hn1 hn2 hn3 hn4 hn5;clear x)|go_step)
  rename_i b0 y0 p00 p01 p02 p03 p04 b1 y1 p10 p11 p12 p13 p14
  refine X_defc (be:=bn) hd hA (fun W hE=>by unfold execOp caughtD;go_simp) ?_;have hbe:=Lib.hid (Blk.one hn5.out);clear hd hA A;intro A hd hA;obtain ⟨be,hbe0⟩:∃ be:Nat,be = bn:=⟨_,rfl⟩;subst hbe0
  have hE:Ext w _:=Ext.trans y0.ext (Ext.trans y1.ext (yn.ext))
  have HE:=Lib.hid hE
  have HBE:=Lib.hid hbe.out
  have hbew:w.heap.size≤be:=by have:=hE.size;have:=y0.ext.size;have:=y1.ext.size;omega
  have HBV:=Lib.hid ((Blk.new p14.out).later yn.ext)
  have hne:b1 ≠ be:=by have:=p11;omega
  repeat' (first|refine X_pure Tryz.func33 (HN.out _ HE.out) ?_|refine X_q ?_|refine X_nil ?_|refine W_seqk (fun K hK=>?_)|refine W_seqr ?_|go_step)
  refine X_die Tryz.func50 (must_no 1) (fun c w' hC=>?_)
  obtain ⟨rfl,hE4⟩:=hC
  refine End_no2r (cs:=Reply.zero.cs (.slice none 0 0)) hd (HBE.out.later hE4) (HBV.out.later hE4) ?_ hne (fun W1 hM=>⟨rfl,Ext.fresh (Ext.trans HE.out hE4) hM (fun k hk=>by subst hk;exact hbew)⟩) Tryz.underlying49
  intro k hk
  simp only [List.length_cons,List.length_nil] at hk
  obtain rfl|rfl|rfl|rfl|rfl|rfl|rfl|rfl:k = 0∨k = 1∨k = 2∨k = 3∨k = 4∨k = 5∨k = 6∨k = 7:=by omega
  all_goals rfl
theorem propose_none (hv:NN w v) (u:Value):Ret Tryz.prog 24 #[v,u] w fun r w'=>r = .tuple #[.agg #[.int .i64 0,.int .i64 0,.int .i64 0,.slice none 0 0],.int .i64 1]∧Ext w w':=by
  have HN:=Lib.hid hv
  clear hv
  refine Fn_ofD Tryz.func24 rfl (Nat.le_of_ble_eq_true rfl) ?_;intro A hd hA;simp only [ix,Nat.reduceAdd];replace hA:A.tmps.size = 94:=hA
  repeat' (first|refine X_nil ?_|refine W_seqk (fun K hK=>?_)|refine W_seqr ?_|(refine X_s (fun x K hK=>?_);go_simp;refine hK _ _ (Ext.alloc _ _) ?_;clear hK K;refine X_al x ?_;generalize (World.later _ x).heap.size = bn;intro yn hn1 hn2 hn3 hn4 hn5;clear x)|go_step)
  rename_i b0 y0 p00 p01 p02 p03 p04
  refine X_defc (be:=bn) hd hA (fun W hE=>by unfold execOp caughtD;go_simp) ?_;have hbe:=Lib.hid (Blk.one hn5.out);clear hd hA A;intro A hd hA;obtain ⟨be,hbe0⟩:∃ be:Nat,be = bn:=⟨_,rfl⟩;subst hbe0
  have hE:Ext w _:=Ext.trans y0.ext (yn.ext)
  have HE:=Lib.hid hE
  have HBE:=Lib.hid hbe.out
  have hbew:w.heap.size≤be:=by have:=hE.size;have:=y0.ext.size;omega
  have HBV:=Lib.hid ((Blk.new p04.out).later yn.ext)
  have hne:b0 ≠ be:=by have:=p01;omega
  repeat' (first|refine X_pure Tryz.func33 (HN.out _ HE.out) ?_|refine X_q ?_|refine X_nil ?_|refine W_seqk (fun K hK=>?_)|refine W_seqr ?_|go_step)
  refine X_die Tryz.func50 (must_no 1) (fun c w' hC=>?_)
  obtain ⟨rfl,hE4⟩:=hC
  refine End_no2r (cs:=[Value.int .i64 0,.int .i64 0,.int .i64 0,.slice none 0 0]) hd (HBE.out.later hE4) (HBV.out.later hE4) ?_ hne (fun W1 hM=>⟨rfl,Ext.fresh (Ext.trans HE.out hE4) hM (fun k hk=>by subst hk;exact hbew)⟩) Tryz.underlying79
  intro k hk
  simp only [List.length_cons,List.length_nil] at hk
  obtain rfl|rfl|rfl|rfl:k = 0∨k = 1∨k = 2∨k = 3:=by omega
  all_goals rfl
theorem append_none (hv:NN w v) (e:Ent):Ret Tryz.prog 21 #[v,e.v] w fun r w'=>r = .tuple #[.int .i64 0,.int .i64 1]∧Ext w w':=by
  have HN:=Lib.hid hv
  clear hv
  refine Fn_ofD Tryz.func21 rfl (Nat.le_of_ble_eq_true rfl) ?_;intro A hd hA;simp only [ix,Nat.reduceAdd];replace hA:A.tmps.size = 80:=hA
  repeat' (first|refine X_q ?_|refine X_nil ?_|refine W_seqk (fun K hK=>?_)|refine W_seqr ?_|(refine X_s (fun x K hK=>?_);go_simp;refine hK _ _ (Ext.alloc _ _) ?_;clear hK K;refine X_al x ?_;generalize (World.later _ x).heap.size = bn;intro yn hn1 hn2 hn3 hn4 hn5;clear x)|go_step)
  rename_i b0 y0 p00 p01 p02 p03 p04
  refine X_defc (be:=bn) hd hA (fun W hE=>by unfold execOp caughtD;go_simp) ?_;have hbe:=Lib.hid (Blk.one hn5.out);clear hd hA A;intro A hd hA;obtain ⟨be,hbe0⟩:∃ be:Nat,be = bn:=⟨_,rfl⟩;subst hbe0
  have hE:Ext w _:=Ext.trans y0.ext (yn.ext)
  have HE:=Lib.hid hE
  have HBE:=Lib.hid hbe.out
  have hbew:w.heap.size≤be:=by have:=hE.size;have:=y0.ext.size;omega
  repeat' (first|refine X_pure Tryz.func33 (HN.out _ HE.out) ?_|refine X_q ?_|refine X_nil ?_|refine W_seqk (fun K hK=>?_)|refine W_seqr ?_|go_step)
  refine X_die Tryz.func50 (must_no 1) (fun c w' hC=>?_)
  obtain ⟨rfl,hE4⟩:=hC
  refine End_noT hd (HBE.out.later hE4) (fun W1 hM=>?_)
  exact ⟨rfl,Ext.fresh (Ext.trans HE.out hE4) hM (fun k hk=>by subst hk;exact hbew)⟩
theorem has_none (hv:NN w v) (id num seq:Int):Ret Tryz.prog 25 #[v,.int .i64 id,.int .i64 num,.int .i64 seq] w fun r w'=>r = .tuple #[.bool false,.int .i64 1]∧Ext w w':=by
  have HN:=Lib.hid hv
  clear hv
  refine Fn_ofD Tryz.func25 rfl (Nat.le_of_ble_eq_true rfl) ?_;intro A hd hA;simp only [ix,Nat.reduceAdd];replace hA:A.tmps.size = 31:=hA
  repeat' (first|refine X_q ?_|refine X_nil ?_|refine W_seqk (fun K hK=>?_)|refine W_seqr ?_|(refine X_s (fun x K hK=>?_);go_simp;refine hK _ _ (Ext.alloc _ _) ?_;clear hK K;refine X_al x ?_;generalize (World.later _ x).heap.size = bn;intro yn hn1 hn2 hn3 hn4 hn5;clear x)|go_step)
  rename_i b0 y0 p00 p01 p02 p03 p04 b1 y1 p10 p11 p12 p13 p14 b2 y2 p20 p21 p22 p23 p24
  refine X_defc (be:=bn) hd hA (fun W hE=>by unfold execOp caughtD;go_simp) ?_;have hbe:=Lib.hid (Blk.one hn5.out);clear hd hA A;intro A hd hA;obtain ⟨be,hbe0⟩:∃ be:Nat,be = bn:=⟨_,rfl⟩;subst hbe0
  have hE:Ext w _:=Ext.trans y0.ext (Ext.trans y1.ext (Ext.trans y2.ext (yn.ext)))
  have HE:=Lib.hid hE
  have HBE:=Lib.hid hbe.out
  have hbew:w.heap.size≤be:=by have:=hE.size;have:=y0.ext.size;have:=y1.ext.size;have:=y2.ext.size;omega
  repeat' (first|refine X_pure Tryz.func33 (HN.out _ HE.out) ?_|refine X_q ?_|refine X_nil ?_|refine W_seqk (fun K hK=>?_)|refine W_seqr ?_|go_step)
  refine X_die Tryz.func50 (must_no 1) (fun c w' hC=>?_)
  obtain ⟨rfl,hE4⟩:=hC
  refine End_noT hd (HBE.out.later hE4) (fun W1 hM=>?_)
  exact ⟨rfl,Ext.fresh (Ext.trans HE.out hE4) hM (fun k hk=>by subst hk;exact hbew)⟩
theorem learn_none (hv:NN w v) (x:View) (u:Value):Ret Tryz.prog 20 #[v,.agg #[.int .i64 x.leader,.int .i64 x.epoch,.int .i64 x.version,u]] w fun r w'=>r = .int .i64 1∧Ext w w':=by
  have HN:=Lib.hid hv
  clear hv
  refine Fn_ofD Tryz.func20 rfl (Nat.le_of_ble_eq_true rfl) ?_;intro A hd hA;simp only [ix,Nat.reduceAdd];replace hA:A.tmps.size = 83:=hA
  repeat' (first|refine X_nil ?_|refine W_seqk (fun K hK=>?_)|refine W_seqr ?_|(refine X_s (fun x K hK=>?_);go_simp;refine hK _ _ (Ext.alloc _ _) ?_;clear hK K;refine X_al x ?_;generalize (World.later _ x).heap.size = bn;intro yn hn1 hn2 hn3 hn4 hn5;clear x)|go_step)
  rename_i b0 y0 p00 p01 p02 p03 p04
  refine X_defc (be:=bn) hd hA (fun W hE=>by unfold execOp caughtD;go_simp) ?_;have hbe:=Lib.hid (Blk.one hn5.out);clear hd hA A;intro A hd hA;obtain ⟨be,hbe0⟩:∃ be:Nat,be = bn:=⟨_,rfl⟩;subst hbe0
  have hE:Ext w _:=Ext.trans y0.ext (yn.ext)
  have HE:=Lib.hid hE
  have HBE:=Lib.hid hbe.out
  have hbew:w.heap.size≤be:=by have:=hE.size;have:=y0.ext.size;omega
  repeat' (first|refine X_pure Tryz.func33 (HN.out _ HE.out) ?_|refine X_q ?_|refine X_nil ?_|refine W_seqk (fun K hK=>?_)|refine W_seqr ?_|go_step)
  refine X_die Tryz.func50 (must_no 1) (fun c w' hC=>?_)
  obtain ⟨rfl,hE4⟩:=hC
  refine End_no1 hd (HBE.out.later hE4) (fun W1 hM=>?_)
  exact ⟨rfl,Ext.fresh (Ext.trans HE.out hE4) hM (fun k hk=>by subst hk;exact hbew)⟩
theorem take_none (hv:NN w v) (p:Reply) (u:Value):Ret Tryz.prog 27 #[v,p.v u] w fun r w'=>r = .int .i64 1∧Ext w w':=by
  have HN:=Lib.hid hv
  clear hv
  refine Fn_ofD Tryz.func27 rfl (Nat.le_of_ble_eq_true rfl) ?_;intro A hd hA;simp only [ix,Nat.reduceAdd];replace hA:A.tmps.size = 133:=hA
  repeat' (first|refine X_nil ?_|refine W_seqk (fun K hK=>?_)|refine W_seqr ?_|(refine X_s (fun x K hK=>?_);go_simp;refine hK _ _ (Ext.alloc _ _) ?_;clear hK K;refine X_al x ?_;generalize (World.later _ x).heap.size = bn;intro yn hn1 hn2 hn3 hn4 hn5;clear x)|go_step)
  rename_i b0 y0 p00 p01 p02 p03 p04
  refine X_defc (be:=bn) hd hA (fun W hE=>by unfold execOp caughtD;go_simp) ?_;have hbe:=Lib.hid (Blk.one hn5.out);clear hd hA A;intro A hd hA;obtain ⟨be,hbe0⟩:∃ be:Nat,be = bn:=⟨_,rfl⟩;subst hbe0
  have hE:Ext w _:=Ext.trans y0.ext (yn.ext)
  have HE:=Lib.hid hE
  have HBE:=Lib.hid hbe.out
  have hbew:w.heap.size≤be:=by have:=hE.size;have:=y0.ext.size;omega
  repeat' (first|refine X_pure Tryz.func33 (HN.out _ HE.out) ?_|refine X_q ?_|refine X_nil ?_|refine W_seqk (fun K hK=>?_)|refine W_seqr ?_|go_step)
  refine X_die Tryz.func50 (must_no 1) (fun c w' hC=>?_)
  obtain ⟨rfl,hE4⟩:=hC
  refine End_no1 hd (HBE.out.later hE4) (fun W1 hM=>?_)
  exact ⟨rfl,Ext.fresh (Ext.trans HE.out hE4) hM (fun k hk=>by subst hk;exact hbew)⟩
theorem crash_none (hv:NN w v) (keep:Int):Ret Tryz.prog 19 #[v,.int .i64 keep] w fun r w'=>r = .int .i64 1∧Ext w w':=by
  have HN:=Lib.hid hv
  clear hv
  refine Fn_ofD Tryz.func19 rfl (Nat.le_of_ble_eq_true rfl) ?_;intro A hd hA;simp only [ix,Nat.reduceAdd];replace hA:A.tmps.size = 56:=hA
  repeat' (first|refine X_nil ?_|refine W_seqk (fun K hK=>?_)|refine W_seqr ?_|(refine X_s (fun x K hK=>?_);go_simp;refine hK _ _ (Ext.alloc _ _) ?_;clear hK K;refine X_al x ?_;generalize (World.later _ x).heap.size = bn;intro yn hn1 hn2 hn3 hn4 hn5;clear x)|go_step)
  refine X_defc (be:=bn) hd hA (fun W hE=>by unfold execOp caughtD;go_simp) ?_;have hbe:=Lib.hid (Blk.one hn5.out);clear hd hA A;intro A hd hA;obtain ⟨be,hbe0⟩:∃ be:Nat,be = bn:=⟨_,rfl⟩;subst hbe0
  have hE:Ext w _:=yn.ext
  have HE:=Lib.hid hE
  have HBE:=Lib.hid hbe.out
  have hbew:w.heap.size≤be:=by have:=hE.size;omega
  repeat' (first|refine X_pure Tryz.func33 (HN.out _ HE.out) ?_|refine X_q ?_|refine X_nil ?_|refine W_seqk (fun K hK=>?_)|refine W_seqr ?_|go_step)
  refine X_die Tryz.func50 (must_no 1) (fun c w' hC=>?_)
  obtain ⟨rfl,hE4⟩:=hC
  refine End_no1 hd (HBE.out.later hE4) (fun W1 hM=>?_)
  exact ⟨rfl,Ext.fresh (Ext.trans HE.out hE4) hM (fun k hk=>by subst hk;exact hbew)⟩
theorem flush_none (hv:NN w v):Pure Tryz.prog 26 #[v] w (.int .i64 1):=by
  have HN:=Lib.hid hv
  clear hv
  refine Fn_of Tryz.func26 rfl (Nat.le_of_ble_eq_true rfl) ?_;intro A hd hA;simp only [ix,Nat.reduceAdd];replace hA:A.tmps.size = 15:=hA
  repeat' (first|refine X_pure Tryz.func33 (HN.out _ (Ext.refl _)) ?_|refine X_q ?_|refine X_nil ?_|refine W_seqk (fun K hK=>?_)|refine W_seqr ?_|refine W_ret ?_|refine W_tt ?_|go_step)
  exact Body_ret hd ⟨rfl,by simp⟩
theorem log_none (hv:NN w v):Pure Tryz.prog 17 #[v] w (.slice none 0 0):=by
  have HN:=Lib.hid hv
  clear hv
  refine Fn_of Tryz.func17 rfl (Nat.le_of_ble_eq_true rfl) ?_;intro A hd hA;simp only [ix,Nat.reduceAdd];replace hA:A.tmps.size = 10:=hA
  repeat' (first|refine X_pure Tryz.func33 (HN.out _ (Ext.refl _)) ?_|refine X_q ?_|refine X_nil ?_|refine W_seqk (fun K hK=>?_)|refine W_seqr ?_|refine W_ret ?_|refine W_tt ?_|go_step)
  exact Body_ret hd ⟨rfl,by simp⟩
theorem visible_none (hv:NN w v):Pure Tryz.prog 28 #[v] w (.slice none 0 0):=by
  have HN:=Lib.hid hv
  clear hv
  refine Fn_of Tryz.func28 rfl (Nat.le_of_ble_eq_true rfl) ?_;intro A hd hA;simp only [ix,Nat.reduceAdd];replace hA:A.tmps.size = 40:=hA
  repeat' (first|refine X_pure Tryz.func33 (HN.out _ (Ext.refl _)) ?_|refine X_q ?_|refine X_nil ?_|refine W_seqk (fun K hK=>?_)|refine W_seqr ?_|refine W_ret ?_|refine W_tt ?_|go_step)
  exact Body_ret hd ⟨rfl,by simp⟩
theorem copy_none (hv:NN w v):Pure Tryz.prog 30 #[v] w (.pointer none):=by
  have HN:=Lib.hid hv
  clear hv
  refine Fn_of Tryz.func30 rfl (Nat.le_of_ble_eq_true rfl) ?_;intro A hd hA;simp only [ix,Nat.reduceAdd];replace hA:A.tmps.size = 31:=hA
  repeat' (first|refine X_pure Tryz.func33 (HN.out _ (Ext.refl _)) ?_|refine X_q ?_|refine X_nil ?_|refine W_seqk (fun K hK=>?_)|refine W_seqr ?_|refine W_ret ?_|refine W_tt ?_|go_step)
  exact Body_ret hd ⟨rfl,by simp⟩
def Stand.zero:Stand:=⟨0,0,0,0,0,0,[],[],[]⟩
theorem standing_none (hv:NN w v):Ret Tryz.prog 15 #[v] w fun r w'=>r = Stand.zero.v (.slice none 0 0) (.slice none 0 0) (.slice none 0 0)∧Ext w w':=by
  have HN:=Lib.hid hv
  clear hv
  refine Fn_of Tryz.func15 rfl (Nat.le_of_ble_eq_true rfl) ?_;intro A hd hA;simp only [ix,Nat.reduceAdd];replace hA:A.tmps.size = 63:=hA
  (repeat' (first|refine W_seqk (fun K hK=>?_)|refine W_seqr ?_|fail));(first|(refine X_var (fun yn b2 hn1 hn2 hn3 hn4 hn5=>?_))|(refine X_s (fun x K hK=>?_);go_simp;refine hK _ _ (Ext.alloc _ _) ?_;clear hK K;refine X_al x ?_;generalize (World.later _ x).heap.size = b2;intro yn hn1 hn2 hn3 hn4 hn5;clear x));have HBb2:=Lib.hid (Blk.new hn5.out);have HEb2:=Lib.hid yn.ext;have hlb2:(World.heap w).size≤b2:=hn1;generalize World.later w yn = W at *;clear hn1 hn2 hn3 hn4 hn5 yn
  have HBR:=HBb2
  have HE:=HEb2
  clear HBb2 HEb2
  have hbl:=HBR.out.lt
  repeat' (first|refine X_pure Tryz.func33 (HN.out _ HE.out) ?_|refine X_q ?_|refine X_nil ?_|refine W_seqk (fun K hK=>?_)|refine W_seqr ?_|refine W_tt ?_|go_step)
  refine X_store (off:=0) HBR.out (fun W1 hM1 hB1=>?_)
  have hE1:Ext w W1:=Ext.fresh HE.out hM1 (fun k hk=>by subst hk;exact hlb2)
  repeat' (first|refine X_nil ?_|refine W_ret ?_|go_step)
  refine Body_retcell1 (cs:=Stand.zero.cs (.slice none 0 0) (.slice none 0 0) (.slice none 0 0)) hd ⟨rfl,hE1⟩ hB1 (fun k hk=>?_) Tryz.underlying37
  simp only [List.length_cons,List.length_nil] at hk
  obtain rfl|rfl|rfl|rfl|rfl|rfl|rfl|rfl|rfl:k = 0∨k = 1∨k = 2∨k = 3∨k = 4∨k = 5∨k = 6∨k = 7∨k = 8:=by omega
  all_goals rfl
theorem same_none {u:Value} {p q:Bool} (hv:Pure Tryz.prog 33 #[v] w (.bool p)) (hu:Pure Tryz.prog 33 #[u] w (.bool q)) (h:(p || q) = true):Pure Tryz.prog 31 #[v,u] w (.bool (p && q)):=by
  have HV:=Lib.hid hv
  have HU:=Lib.hid hu
  clear hv hu
  cases p with
  | true =>
    cases q with
    | true =>
      refine Fn_of Tryz.func31 rfl (Nat.le_of_ble_eq_true rfl) ?_;intro A hd hA;simp only [ix,Nat.reduceAdd];replace hA:A.tmps.size = 123:=hA
      repeat' (first|(refine X_pure Tryz.func33 HV.out ?_)|(refine X_gf2 ?_)|(refine X_gpure Tryz.func33 (fun _=>HU.out) ?_)|refine X_gt ?_|refine X_q ?_|refine X_g ?_|refine X_nil ?_|refine W_seqk (fun K hK=>?_)|refine W_seqr ?_|refine W_ret ?_|refine W_tt ?_|go_step)
      exact Body_ret hd ⟨rfl,by simp⟩
    | false =>
      refine Fn_of Tryz.func31 rfl (Nat.le_of_ble_eq_true rfl) ?_;intro A hd hA;simp only [ix,Nat.reduceAdd];replace hA:A.tmps.size = 123:=hA
      repeat' (first|(refine X_pure Tryz.func33 HV.out ?_)|(refine X_gf2 ?_)|(refine X_gpure Tryz.func33 (fun _=>HU.out) ?_)|refine X_gt ?_|refine X_q ?_|refine X_g ?_|refine X_nil ?_|refine W_seqk (fun K hK=>?_)|refine W_seqr ?_|refine W_ret ?_|refine W_tt ?_|go_step)
      exact Body_ret hd ⟨rfl,by simp⟩
  | false =>
    cases q with
    | true =>
      refine Fn_of Tryz.func31 rfl (Nat.le_of_ble_eq_true rfl) ?_;intro A hd hA;simp only [ix,Nat.reduceAdd];replace hA:A.tmps.size = 123:=hA
      repeat' (first|(refine X_pure Tryz.func33 HV.out ?_)|(refine X_gpure Tryz.func33 (fun _=>HU.out) ?_)|refine X_gt ?_|refine X_q ?_|refine X_g ?_|refine X_nil ?_|refine W_seqk (fun K hK=>?_)|refine W_seqr ?_|refine W_ret ?_|refine W_tt ?_|go_step)
      exact Body_ret hd ⟨rfl,by simp⟩
    | false=>cases h
end
end Go.Ws
namespace Go.Ws
open Go Go.RowKit Go.Proofs
set_option maxHeartbeats 4000000
set_option maxRecDepth 100000
set_option linter.unusedVariables false
set_option linter.unusedSimpArgs false
theorem nil_calls (a:ActW) (w:World) (hf:a.fit (fun _=>False) w):Pure Tryz.prog 10 #[a.act.v a.uI.v a.uE.v a.uL.v] w (.bool true):=by
  obtain ⟨a,⟨I1,I2,I3⟩,⟨E1,E2,E3⟩,⟨L1,L2,L3⟩⟩:=a
  have HF:Hid (ActR (fun _=>False) w (.slice I1 I2 I3) (.slice E1 E2 E3) (.slice L1 L2 L3) a):=Lib.hid hf
  clear hf
  show Pure Tryz.prog 10 #[a.v (.slice I1 I2 I3) (.slice E1 E2 E3) (.slice L1 L2 L3)] w (.bool true)
  refine Fn_of Tryz.func10 rfl (Nat.le_of_ble_eq_true rfl) ?_;intro A hd hA;simp only [ix,Nat.reduceAdd];replace hA:A.tmps.size = 147:=hA
  (repeat' (first|refine W_seqk (fun K hK=>?_)|refine W_seqr ?_|fail));(first|(refine X_var (fun yn ba hn1 hn2 hn3 hn4 hn5=>?_))|(refine X_s (fun x K hK=>?_);go_simp;refine hK _ _ (Ext.alloc _ _) ?_;clear hK K;refine X_al x ?_;generalize (World.later _ x).heap.size = ba;intro yn hn1 hn2 hn3 hn4 hn5;clear x));have HBba:=Lib.hid (Blk.new hn5.out);have HEba:=Lib.hid yn.ext;have hlba:(World.heap w).size≤ba:=hn1;generalize World.later w yn = W0 at *;clear hn1 hn2 hn3 hn4 hn5 yn
  have HBA:Hid (Blk W0 ba 51 27 (aenc a (.slice I1 I2 I3) (.slice E1 E2 E3) (.slice L1 L2 L3))):=Lib.hid (HBba.out.congr (fun k hk=>rfl))
  have HE0:=HEba
  clear HBba HEba
  have hal:=HBA.out.lt
  repeat' (first|refine X_q ?_|refine X_nil ?_|refine W_seqk (fun K hK=>?_)|refine W_seqr ?_|go_step)
  refine X_aload HBA.out ?_ (hu:=Tryz.underlying51)
  repeat' (first|(refine X_s (fun x K hK=>?_);go_simp;refine hK _ _ (Ext.alloc _ _) ?_;clear hK K;refine X_al x ?_;generalize (World.later _ x).heap.size = bn;intro yn hn1 hn2 hn3 hn4 hn5;clear x)|fail)
  have HX:Hid (Rd ActV.cs 27 (W0.later yn) (.slice (some ⟨bn,0,none⟩) 1 1) [ActW.toV ⟨a,⟨I1,I2,I3⟩,⟨E1,E2,E3⟩,⟨L1,L2,L3⟩⟩]):=Lib.hid (Rd.built (xs:=[⟨a,⟨I1,I2,I3⟩,⟨E1,E2,E3⟩,⟨L1,L2,L3⟩⟩]) hn2 hn3 rfl (by simp [maxLen])).actV
  have hl:=large_calls (N:=fun _=>False) _ _ _ HX.out (fun x hx=>by
    obtain rfl:x = _:=by simpa using hx
    exact HF.out.later (Ext.trans HE0.out yn.ext))
  generalize largeB _ = big at hl
  have LARGE:=Lib.hid hl
  have HE1:=Lib.hid (Ext.trans HE0.out yn.ext)
  replace HBA:=Lib.hid (HBA.out.later yn.ext)
  clear hl HX HE0 HF hal hn2 hn3 hn4 hn5 hn1
  generalize World.later W0 yn = W1 at *
  clear yn
  cases big with
  | true =>
    repeat' (first|refine X_pure Tryz.func11 (LARGE.out) ?_|refine X_pure Tryz.func12 (known11_calls) ?_|refine X_q ?_|refine X_nil ?_|refine W_seqk (fun K hK=>?_)|refine W_seqr ?_|refine W_ret ?_|refine W_tt ?_|go_step)
    exact Body_ret hd ⟨rfl,HE1.out⟩
  | false =>
    repeat' (first|refine X_pure Tryz.func11 (LARGE.out) ?_|refine X_q ?_|refine X_nil ?_|refine W_seqk (fun K hK=>?_)|refine W_seqr ?_|refine W_skip ?_|(refine X_s (fun x K hK=>?_);go_simp;refine hK _ _ (Ext.alloc _ _) ?_;clear hK K;refine X_al x ?_;generalize (World.later _ x).heap.size = bn;intro yn hn1 hn2 hn3 hn4 hn5;clear x)|refine W_ff ?_|go_step)
    have HZ:=Lib.hid (Blk.new hn5.out)
    have hz:NN (W1.later yn) (.pointer (some ⟨bn,0,none⟩)):=nn_zero HZ.out rfl
    obtain ⟨bz,hbz⟩:∃ bz:Nat,bz = bn:=⟨_,rfl⟩
    subst hbz
    have NZ:=Lib.hid hz
    have HE:=Lib.hid (Ext.trans HE1.out yn.ext)
    replace HBA:=Lib.hid (HBA.out.later yn.ext)
    clear hz HZ hn1 hn2 hn3 hn4 hn5 HE1 LARGE
    generalize World.later W1 yn = W at *
    clear yn
    have e7:=HBA.out.cell (k:=7) (by omega)
    change World.cell? _ _ = some (.int .i64 a.ent.ep) at e7
    have e8:=HBA.out.cell (k:=8) (by omega)
    change World.cell? _ _ = some (.int .i64 a.ent.id) at e8
    have e9:=HBA.out.cell (k:=9) (by omega)
    change World.cell? _ _ = some (.int .i64 a.ent.num) at e9
    have e10:=HBA.out.cell (k:=10) (by omega)
    change World.cell? _ _ = some (.int .i64 a.ent.seq) at e10
    have e11:=HBA.out.cell (k:=11) (by omega)
    change World.cell? _ _ = some (.int .i64 a.ent.kind) at e11
    have e12:=HBA.out.cell (k:=12) (by omega)
    change World.cell? _ _ = some (.int .i64 a.ent.val) at e12
    have hal:=HBA.out.lt
    repeat' (first|refine X_q ?_|fail)
    refine X_ret Tryz.func21 (append_none (nn_nil _) a.ent) (fun r w1 hR=>?_)
    obtain ⟨rfl,hE⟩:=hR
    replace HE:=Lib.hid (Ext.trans HE.out hE)
    replace HBA:=Lib.hid (HBA.out.later hE)
    replace NZ:=Lib.hid (NZ.out.later hE)
    clear hE hal e7 e8 e9 e10 e11 e12
    repeat' (first|refine X_q ?_|refine X_nil ?_|refine W_seqk (fun K hK=>?_)|refine W_seqr ?_|go_step)
    refine X_ret Tryz.func22 (ask_none NZ.out) (fun r w2 hR=>?_)
    obtain ⟨rfl,hE⟩:=hR
    replace HE:=Lib.hid (Ext.trans HE.out hE)
    replace HBA:=Lib.hid (HBA.out.later hE)
    replace NZ:=Lib.hid (NZ.out.later hE)
    clear hE
    (repeat' (first|refine X_q ?_|fail));(first|(refine X_var (fun yn bf hn1 hn2 hn3 hn4 hn5=>?_))|(refine X_s (fun x K hK=>?_);go_simp;refine hK _ _ (Ext.alloc _ _) ?_;clear hK K;refine X_al x ?_;generalize (World.later _ x).heap.size = bf;intro yn hn1 hn2 hn3 hn4 hn5;clear x));have HBbf:=Lib.hid (Blk.new hn5.out);have HEbf:=Lib.hid yn.ext;have hlbf:(World.heap w2).size≤bf:=hn1;generalize World.later w2 yn = u2 at *;clear hn1 hn2 hn3 hn4 hn5 yn
    replace HE:=Lib.hid (Ext.trans HE.out HEbf.out)
    replace HBA:=Lib.hid (HBA.out.later HEbf.out)
    replace NZ:=Lib.hid (NZ.out.later HEbf.out)
    clear HBbf HEbf hlbf
    have e1:=HBA.out.cell (k:=1) (by omega)
    change World.cell? _ _ = some (.int .i64 a.n) at e1
    have e13:=HBA.out.cell (k:=13) (by omega)
    change World.cell? _ _ = some (.int .i64 a.fetch.src) at e13
    have e14:=HBA.out.cell (k:=14) (by omega)
    change World.cell? _ _ = some (.int .i64 a.fetch.epoch) at e14
    have e15:=HBA.out.cell (k:=15) (by omega)
    change World.cell? _ _ = some (.int .i64 a.fetch.offset) at e15
    have e16:=HBA.out.cell (k:=16) (by omega)
    change World.cell? _ _ = some (.int .i64 a.fetch.last) at e16
    have e17:=HBA.out.cell (k:=17) (by omega)
    change World.cell? _ _ = some (.int .i64 a.fetch.flushed) at e17
    have hal:=HBA.out.lt
    repeat' (first|refine X_q ?_|refine X_nil ?_|refine W_seqk (fun K hK=>?_)|refine W_seqr ?_|go_step)
    refine X_ret Tryz.func23 (serve_none (nn_nil _) a.fetch a.n) (fun r w3 hR=>?_)
    obtain ⟨rfl,hE⟩:=hR
    replace HE:=Lib.hid (Ext.trans HE.out hE)
    replace HBA:=Lib.hid (HBA.out.later hE)
    replace NZ:=Lib.hid (NZ.out.later hE)
    clear hE hal e1 e13 e14 e15 e16 e17
    (repeat' (first|refine X_q ?_|fail));(first|(refine X_var (fun yn bg hn1 hn2 hn3 hn4 hn5=>?_))|(refine X_s (fun x K hK=>?_);go_simp;refine hK _ _ (Ext.alloc _ _) ?_;clear hK K;refine X_al x ?_;generalize (World.later _ x).heap.size = bg;intro yn hn1 hn2 hn3 hn4 hn5;clear x));have HBbg:=Lib.hid (Blk.new hn5.out);have HEbg:=Lib.hid yn.ext;have hlbg:(World.heap w3).size≤bg:=hn1;generalize World.later w3 yn = u3 at *;clear hn1 hn2 hn3 hn4 hn5 yn
    replace HE:=Lib.hid (Ext.trans HE.out HEbg.out)
    replace HBA:=Lib.hid (HBA.out.later HEbg.out)
    replace NZ:=Lib.hid (NZ.out.later HEbg.out)
    clear HBbg HEbg hlbg
    have e26:=HBA.out.cell (k:=26) (by omega)
    change World.cell? _ _ = some (.slice L1 L2 L3) at e26
    have hal:=HBA.out.lt
    repeat' (first|refine X_q ?_|refine X_nil ?_|refine W_seqk (fun K hK=>?_)|refine W_seqr ?_|go_step)
    refine X_ret Tryz.func24 (propose_none NZ.out (.slice L1 L2 L3)) (fun r w4 hR=>?_)
    obtain ⟨rfl,hE⟩:=hR
    replace HE:=Lib.hid (Ext.trans HE.out hE)
    replace HBA:=Lib.hid (HBA.out.later hE)
    replace NZ:=Lib.hid (NZ.out.later hE)
    clear hE hal e26
    (repeat' (first|refine X_q ?_|fail));(first|(refine X_var (fun yn bh hn1 hn2 hn3 hn4 hn5=>?_))|(refine X_s (fun x K hK=>?_);go_simp;refine hK _ _ (Ext.alloc _ _) ?_;clear hK K;refine X_al x ?_;generalize (World.later _ x).heap.size = bh;intro yn hn1 hn2 hn3 hn4 hn5;clear x));have HBbh:=Lib.hid (Blk.new hn5.out);have HEbh:=Lib.hid yn.ext;have hlbh:(World.heap w4).size≤bh:=hn1;generalize World.later w4 yn = u4 at *;clear hn1 hn2 hn3 hn4 hn5 yn
    replace HE:=Lib.hid (Ext.trans HE.out HEbh.out)
    replace HBA:=Lib.hid (HBA.out.later HEbh.out)
    replace NZ:=Lib.hid (NZ.out.later HEbh.out)
    clear HBbh HEbh hlbh
    have e1:=HBA.out.cell (k:=1) (by omega)
    change World.cell? _ _ = some (.int .i64 a.n) at e1
    have hal:=HBA.out.lt
    repeat' (first|refine X_q ?_|refine X_nil ?_|refine W_seqk (fun K hK=>?_)|refine W_seqr ?_|go_step)
    refine X_ret Tryz.func25 (has_none (nn_nil _) a.n 1 1) (fun r w5 hR=>?_)
    obtain ⟨rfl,hE⟩:=hR
    replace HE:=Lib.hid (Ext.trans HE.out hE)
    replace HBA:=Lib.hid (HBA.out.later hE)
    replace NZ:=Lib.hid (NZ.out.later hE)
    clear hE hal e1
    repeat' (first|refine X_q ?_|refine X_nil ?_|refine W_seqk (fun K hK=>?_)|refine W_seqr ?_|go_step)
    refine X_ret Tryz.func13 (repNew_ok 0 1 rfl) (fun r wo hR=>?_)
    obtain ⟨bo,rfl,hE,-,hRo⟩:=hR
    have HRO:=Lib.hid hRo
    replace HE:=Lib.hid (Ext.trans HE.out hE)
    replace HBA:=Lib.hid (HBA.out.later hE)
    replace NZ:=Lib.hid (NZ.out.later hE)
    clear hE hRo
    have e3:=HBA.out.cell (k:=3) (by omega)
    change World.cell? _ _ = some (.int .i64 a.view.leader) at e3
    have e4:=HBA.out.cell (k:=4) (by omega)
    change World.cell? _ _ = some (.int .i64 a.view.epoch) at e4
    have e5:=HBA.out.cell (k:=5) (by omega)
    change World.cell? _ _ = some (.int .i64 a.view.version) at e5
    have e6:=HBA.out.cell (k:=6) (by omega)
    change World.cell? _ _ = some (.slice I1 I2 I3) at e6
    have hal:=HBA.out.lt
    repeat' (first|refine X_gt ?_|refine X_q ?_|refine X_nil ?_|refine W_seqk (fun K hK=>?_)|refine W_seqr ?_|go_step)
    refine X_ret Tryz.func20 (learn_none (nn_nil _) a.view (.slice I1 I2 I3)) (fun r w6 hR=>?_)
    obtain ⟨rfl,hE⟩:=hR
    replace HE:=Lib.hid (Ext.trans HE.out hE)
    replace HBA:=Lib.hid (HBA.out.later hE)
    replace NZ:=Lib.hid (NZ.out.later hE)
    replace HRO:=Lib.hid (HRO.out.later hE)
    clear hE hal e3 e4 e5 e6
    have e18:=HBA.out.cell (k:=18) (by omega)
    change World.cell? _ _ = some (.int .i64 a.reply.epoch) at e18
    have e19:=HBA.out.cell (k:=19) (by omega)
    change World.cell? _ _ = some (.int .i64 a.reply.base) at e19
    have e20:=HBA.out.cell (k:=20) (by omega)
    change World.cell? _ _ = some (.int .i64 a.reply.last) at e20
    have e21:=HBA.out.cell (k:=21) (by omega)
    change World.cell? _ _ = some (.bool a.reply.cut) at e21
    have e22:=HBA.out.cell (k:=22) (by omega)
    change World.cell? _ _ = some (.int .i64 a.reply.cutEpoch) at e22
    have e23:=HBA.out.cell (k:=23) (by omega)
    change World.cell? _ _ = some (.int .i64 a.reply.cutEnd) at e23
    have e24:=HBA.out.cell (k:=24) (by omega)
    change World.cell? _ _ = some (.slice E1 E2 E3) at e24
    have e25:=HBA.out.cell (k:=25) (by omega)
    change World.cell? _ _ = some (.int .i64 a.reply.high) at e25
    have hal:=HBA.out.lt
    repeat' (first|refine X_gpure Tryz.func26 (fun _=>flush_none NZ.out) ?_|refine X_gt ?_|refine X_q ?_|fail)
    refine X_ret Tryz.func27 (take_none (nn_nil _) a.reply (.slice E1 E2 E3)) (fun r w7 hR=>?_)
    obtain ⟨rfl,hE⟩:=hR
    replace HE:=Lib.hid (Ext.trans HE.out hE)
    replace HBA:=Lib.hid (HBA.out.later hE)
    replace NZ:=Lib.hid (NZ.out.later hE)
    replace HRO:=Lib.hid (HRO.out.later hE)
    clear hE hal e18 e19 e20 e21 e22 e23 e24 e25
    have e1:=HBA.out.cell (k:=1) (by omega)
    change World.cell? _ _ = some (.int .i64 a.n) at e1
    have hal:=HBA.out.lt
    repeat' (first|refine X_gt ?_|refine X_q ?_|fail)
    refine X_ret Tryz.func19 (crash_none NZ.out a.n) (fun r w8 hR=>?_)
    obtain ⟨rfl,hE⟩:=hR
    replace HE:=Lib.hid (Ext.trans HE.out hE)
    replace HBA:=Lib.hid (HBA.out.later hE)
    replace NZ:=Lib.hid (NZ.out.later hE)
    replace HRO:=Lib.hid (HRO.out.later hE)
    clear hE hal e1
    repeat' (first|refine X_gpure Tryz.func17 (fun _=>log_none (nn_nil _)) ?_|refine X_gpure Tryz.func28 (fun _=>visible_none NZ.out) ?_|refine X_gt ?_|refine X_q ?_|fail)
    refine X_ret Tryz.func15 (standing_none (nn_nil _)) (fun r w9 hR=>?_)
    obtain ⟨rfl,hE⟩:=hR
    replace HE:=Lib.hid (Ext.trans HE.out hE)
    replace HBA:=Lib.hid (HBA.out.later hE)
    replace NZ:=Lib.hid (NZ.out.later hE)
    replace HRO:=Lib.hid (HRO.out.later hE)
    clear hE
    have SAME0:Hid (∀ W,Pure Tryz.prog 29 #[Stand.zero.v (.slice none 0 0) (.slice none 0 0) (.slice none 0 0),Stand.zero.v (.slice none 0 0) (.slice none 0 0) (.slice none 0 0)] W (.bool true)):=Lib.hid (fun W=>samestand_calls (x:=Stand.zero) ⟨_,_,_,rfl,Rd.nil _,Rd.nil _,Rd.nil _⟩ ⟨_,_,_,rfl,Rd.nil _,Rd.nil _,Rd.nil _⟩)
    have NO:Hid (∀ W,Ext w9 W→Pure Tryz.prog 33 #[.pointer (some ⟨bo,0,none⟩)] W (.bool false)):=Lib.hid (fun W hE=>none_of (HRO.out.later hE) (by decide))
    have SM1:Hid (Pure Tryz.prog 31 #[.pointer none,.pointer (some ⟨bz,0,none⟩)] w9 (.bool true)):=Lib.hid (same_none (p:=true) (q:=true) (nn_nil _ _ (Ext.refl _)) (NZ.out _ (Ext.refl _)) rfl)
    have SM2:Hid (Pure Tryz.prog 31 #[.pointer none,.pointer (some ⟨bo,0,none⟩)] w9 (.bool false)):=Lib.hid (same_none (p:=true) (q:=false) (nn_nil _ _ (Ext.refl _)) (NO.out _ (Ext.refl _)) rfl)
    have SM3:Hid (Pure Tryz.prog 31 #[.pointer (some ⟨bo,0,none⟩),.pointer (some ⟨bz,0,none⟩)] w9 (.bool false)):=Lib.hid (same_none (p:=false) (q:=true) (NO.out _ (Ext.refl _)) (NZ.out _ (Ext.refl _)) rfl)
    repeat' (first|refine X_gpure Tryz.func29 (fun _=>SAME0.out _) ?_|refine X_gpure Tryz.func30 (fun _=>copy_none NZ.out) ?_|(refine X_pure Tryz.func31 SM1.out ?_)|(refine X_pure Tryz.func31 SM2.out ?_)|(refine X_pure Tryz.func31 SM3.out ?_)|refine X_gpure Tryz.func12 (fun _=>known11_calls) ?_|refine X_gt ?_|refine X_q ?_|refine X_nil ?_|refine W_ret ?_|go_step)
    exact Body_ret hd ⟨rfl,HE.out⟩
end Go.Ws
