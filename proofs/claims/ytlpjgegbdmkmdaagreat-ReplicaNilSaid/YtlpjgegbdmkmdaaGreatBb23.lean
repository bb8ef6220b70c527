/- Lemmas for the statements of this layer (joined texts); no condition. -/
import Derived.Test.YtlpjgegbdmkmdaaGreatBb15
namespace Go.Ws
open Go Go.RowKit Go.Proofs
set_option maxHeartbeats 2000000
set_option maxRecDepth 100000
set_option linter.unusedVariables false
set_option linter.unusedSimpArgs false
theorem Body_retccv {P : Program} {fn : Func} {R : Res} {e : Exit} {t t2 b b2 : Nat} {ty ty2 : TypeId} {td td2 : TypeDesc} {cs cs2 : List Value} {w : World} {l : List (Nat × Value)} {A : Act} {g g2 : Nat → Value} {E E2 : TypeId} {u : Tmp} {v2 : Value} (hd : A.defers = []) (hR : R (.returned (.tuple #[.agg cs.toArray, .agg cs2.toArray, v2])) w) (hb : Blk w b E cs.length g) (hg : ∀ k, k < cs.length → cs[k]? = some (g k)) (hb2 : Blk w b2 E2 cs2.length g2) (hg2 : ∀ k, k < cs2.length → cs2[k]? = some (g2 k))
    (hu:P.underlying ty = some td) (hu2:P.underlying ty2 = some td2) (hr:fn.results = #[.cell t ty,.cell t2 ty2,.tmp u]:=by rfl) (htd:(match td with|.struct _|.array _ _=>true|_=>false) = true:=by rfl) (htd2:(match td2 with|.struct _|.array _ _=>true|_=>false) = true:=by rfl) (hi:(P.info? ty).map (·.size) = some cs.length:=by kernel_rfl) (hi2:(P.info? ty2).map (·.size) = some cs2.length:=by kernel_rfl)
    (he:e = .ret∨e = .normal:=by first|exact .inl rfl|exact .inr rfl) (hv:Is ((fr l A).tmps.getD t undef) (.pointer (some ⟨b,0,none⟩)):=by go_simp;exact Is.mk _) (hvv:Is ((fr l A).tmps.getD t2 undef) (.pointer (some ⟨b2,0,none⟩)):=by go_simp;exact Is.mk _) (hv2:Is ((fr l A).tmps.getD u undef) v2:=by go_simp;exact Is.mk _):Body P fn R e (fr l A) w:=by
  have key:∀ x:Later w,(results fn (fr l A).tmps).run P (w.later x) = .ok (.tuple #[.agg cs.toArray,.agg cs2.toArray,v2]) (w.later x):=by
    intro x
    have h1:=blk_cells1 hb hg x
    have h11:=blk_cells1 hb2 hg2 x
    have h2:(fr l A).tmps[t]?.getD undef = .pointer (some ⟨b,0,none⟩):=by simpa using hv.eq
    have h22:(fr l A).tmps[t2]?.getD undef = .pointer (some ⟨b2,0,none⟩):=by simpa using hvv.eq
    have h3:(fr l A).tmps[u]?.getD undef = v2:=by simpa using hv2.eq
    simp [results,hr,h2,h22,h3,asAddr,run_loadVar_row (P:=P) (w.later x) b E ty cs.toArray (0,0) td h1 hu htd (by simpa using hi),run_loadVar_row (P:=P) (w.later x) b2 E2 ty2 cs2.toArray (0,0) td2 h11 hu2 htd2 (by simpa using hi2)]
  unfold Body
  rcases he with rfl|rfl <;> exact ⟨w,by rw [fr_defers,hd];rfl,_,key,hR⟩
theorem all8 {P:Nat→Prop} (h:P 0∧P 1∧P 2∧P 3∧P 4∧P 5∧P 6∧P 7):∀ k,k < 8→P k:=by
  obtain ⟨h0,h1,h2,h3,h4,h5,h6,h7⟩:=h
  intro k hk
  obtain rfl|rfl|rfl|rfl|rfl|rfl|rfl|rfl:k = 0∨k = 1∨k = 2∨k = 3∨k = 4∨k = 5∨k = 6∨k = 7:=by omega
  all_goals assumption
theorem serve11_no {N:Nat→Prop} {w:World} {uL uI uC:Value} {s:RepS} (h:VR N w uL uI uC s) (f:Fetch) (most:Int) (hno:s.serveNo f most ≠ 0):Ret Tryz.prog 40 #[s.v uL uI uC,f.v,.int .i64 most] w fun r w'=>Ext w w'∧∃ v',r = .tuple #[v',Reply.zero.v (.slice none 0 0),.int .i64 (s.serveNo f most)]∧FV N w' v' s:=by
  have HVR:=Lib.hid h
  obtain ⟨A1,c1,rfl,-⟩:=h.rl.rd.ent
  obtain ⟨A2,c2,rfl,-⟩:=h.ri.rd.int
  obtain ⟨A3,c3,rfl,-⟩:=h.rc.rd.int
  clear h
  by_cases c0:f.src < 0
  · have hn:s.serveNo f most = 2:=by unfold RepS.serveNo;rw [if_pos (by simp [RepS.fetchMay,inB];try omega)]
    rw [hn] at hno ⊢
    clear hn hno
    refine Fn_of Tryz.func40 rfl (Nat.le_of_ble_eq_true rfl) ?_;intro A hd hA;simp only [ix,Nat.reduceAdd];replace hA:A.tmps.size = 147:=hA
    (repeat' (first|refine W_seqk (fun K hK=>?_)|refine W_seqr ?_|fail));(first|(refine X_var (fun yn bx hn1 hn2 hn3 hn4 hn5=>?_))|(refine X_s (fun x K hK=>?_);go_simp;refine hK _ _ (Ext.alloc _ _) ?_;clear hK K;refine X_al x ?_;generalize (World.later _ x).heap.size = bx;intro yn hn1 hn2 hn3 hn4 hn5;clear x));have HBbx:=Lib.hid (Blk.new hn5.out);have HEbx:=Lib.hid yn.ext;have hlbx:(World.heap w).size≤bx:=hn1;generalize World.later w yn = W0 at *;clear hn1 hn2 hn3 hn4 hn5 yn
    (skip);(first|(refine X_var (fun yn bf hn1 hn2 hn3 hn4 hn5=>?_))|(refine X_s (fun x K hK=>?_);go_simp;refine hK _ _ (Ext.alloc _ _) ?_;clear hK K;refine X_al x ?_;generalize (World.later _ x).heap.size = bf;intro yn hn1 hn2 hn3 hn4 hn5;clear x));have HBbf:=Lib.hid (Blk.new hn5.out);have HEbf:=Lib.hid yn.ext;have hlbf:(World.heap W0).size≤bf:=hn1;generalize World.later W0 yn = W1 at *;clear hn1 hn2 hn3 hn4 hn5 yn
    (skip);(first|(refine X_var (fun yn bo hn1 hn2 hn3 hn4 hn5=>?_))|(refine X_s (fun x K hK=>?_);go_simp;refine hK _ _ (Ext.alloc _ _) ?_;clear hK K;refine X_al x ?_;generalize (World.later _ x).heap.size = bo;intro yn hn1 hn2 hn3 hn4 hn5;clear x));have HBbo:=Lib.hid (Blk.new hn5.out);have HEbo:=Lib.hid yn.ext;have hlbo:(World.heap W1).size≤bo:=hn1;generalize World.later W1 yn = W2 at *;clear hn1 hn2 hn3 hn4 hn5 yn
    (skip);(first|(refine X_var (fun yn bp hn1 hn2 hn3 hn4 hn5=>?_))|(refine X_s (fun x K hK=>?_);go_simp;refine hK _ _ (Ext.alloc _ _) ?_;clear hK K;refine X_al x ?_;generalize (World.later _ x).heap.size = bp;intro yn hn1 hn2 hn3 hn4 hn5;clear x));have HBbp:=Lib.hid (Blk.new hn5.out);have HEbp:=Lib.hid yn.ext;have hlbp:(World.heap W2).size≤bp:=hn1;generalize World.later W2 yn = W at *;clear hn1 hn2 hn3 hn4 hn5 yn
    have HBX:=Lib.hid ((fbox2 HBbx.out).later (Ext.trans (Ext.trans HEbf.out HEbo.out) HEbp.out))
    have HBF:=Lib.hid (HBbf.out.later (Ext.trans HEbo.out HEbp.out))
    have HBO:=Lib.hid (HBbo.out.later HEbp.out)
    have HE:=Lib.hid (Ext.trans (Ext.trans (Ext.trans HEbx.out HEbf.out) HEbo.out) HEbp.out)
    have HBP:=HBbp
    have hbb:bx < bf:=by have:=HBbx.out.lt;omega
    have hbb2:bf < bo:=by have:=HBbf.out.lt;omega
    have hbb3:bo < bp:=by have:=HBbo.out.lt;omega
    have hE0:=HEbx.out.size
    have hE1:=HEbf.out.size
    have hE2:=HEbo.out.size
    clear HBbx HBbo HBbf HBbp HEbx HEbo HEbf HEbp
    obtain ⟨hlt,d0,d1,d2,d3,d4,d5,d6,d7,d8,d9,d10⟩:=fcells HBX.out
    have hfl:=HBF.out.lt
    have f0:=HBF.out.cell (k:=0) (by simp)
    have f1:=HBF.out.cell (k:=1) (by simp)
    have f2:=HBF.out.cell (k:=2) (by simp)
    have f3:=HBF.out.cell (k:=3) (by simp)
    have f4:=HBF.out.cell (k:=4) (by simp)
    simp at f0 f1 f2 f3 f4
    repeat' (first|refine X_q ?_|refine X_g ?_|refine X_gf ?_|refine X_nil ?_|refine W_seqk (fun K hK=>?_)|refine W_seqr ?_|refine W_tt ?_|go_step)
    refine X_fload HBX.out ?_ (hu:=Tryz.underlying33)
    repeat' (first|refine X_q ?_|fail)
    refine X_store (off:=0) HBO.out (fun W1 hM1 hB1=>?_);replace HE:=Lib.hid (Ext.fresh HE.out hM1 (fun k hk=>by subst hk;omega));replace HBP:=Lib.hid (HBP.out.mod hM1 (fun h=>by omega));replace HBO:=Lib.hid hB1;clear hM1 hB1
    replace HBO:=Lib.hid (fput HBO.out)
    skip
    refine X_store (off:=0) HBP.out (fun W1 hM1 hB1=>?_);replace HE:=Lib.hid (Ext.fresh HE.out hM1 (fun k hk=>by subst hk;omega));replace HBO:=Lib.hid (HBO.out.mod hM1 (fun h=>by omega));replace HBP:=Lib.hid hB1;clear hM1 hB1
    replace HBP:=Lib.hid (HBP.out.congr (g':=fun k=>(Reply.zero.cs (.slice none 0 0)).getD k undef) (all8 ⟨rfl,rfl,rfl,rfl,rfl,rfl,rfl,rfl⟩))
    repeat' (first|refine X_q ?_|refine X_nil ?_|refine W_ret ?_|go_step)
    exact Body_retccv (cs:=s.cs _ _ _) (cs2:=Reply.zero.cs (.slice none 0 0)) hd ⟨HE.out,_,rfl,_,_,_,rfl,HVR.out.later HE.out⟩ HBO.out (fun k hk=>cs_fenc hk) HBP.out (all8 ⟨rfl,rfl,rfl,rfl,rfl,rfl,rfl,rfl⟩) Tryz.underlying33 Tryz.underlying49
  · by_cases c1:3 < f.src
    · have hn:s.serveNo f most = 2:=by unfold RepS.serveNo;rw [if_pos (by simp [RepS.fetchMay,inB];try omega)]
      rw [hn] at hno ⊢
      clear hn hno
      refine Fn_of Tryz.func40 rfl (Nat.le_of_ble_eq_true rfl) ?_;intro A hd hA;simp only [ix,Nat.reduceAdd];replace hA:A.tmps.size = 147:=hA
      (repeat' (first|refine W_seqk (fun K hK=>?_)|refine W_seqr ?_|fail));(first|(refine X_var (fun yn bx hn1 hn2 hn3 hn4 hn5=>?_))|(refine X_s (fun x K hK=>?_);go_simp;refine hK _ _ (Ext.alloc _ _) ?_;clear hK K;refine X_al x ?_;generalize (World.later _ x).heap.size = bx;intro yn hn1 hn2 hn3 hn4 hn5;clear x));have HBbx:=Lib.hid (Blk.new hn5.out);have HEbx:=Lib.hid yn.ext;have hlbx:(World.heap w).size≤bx:=hn1;generalize World.later w yn = W0 at *;clear hn1 hn2 hn3 hn4 hn5 yn
      (skip);(first|(refine X_var (fun yn bf hn1 hn2 hn3 hn4 hn5=>?_))|(refine X_s (fun x K hK=>?_);go_simp;refine hK _ _ (Ext.alloc _ _) ?_;clear hK K;refine X_al x ?_;generalize (World.later _ x).heap.size = bf;intro yn hn1 hn2 hn3 hn4 hn5;clear x));have HBbf:=Lib.hid (Blk.new hn5.out);have HEbf:=Lib.hid yn.ext;have hlbf:(World.heap W0).size≤bf:=hn1;generalize World.later W0 yn = W1 at *;clear hn1 hn2 hn3 hn4 hn5 yn
      (skip);(first|(refine X_var (fun yn bo hn1 hn2 hn3 hn4 hn5=>?_))|(refine X_s (fun x K hK=>?_);go_simp;refine hK _ _ (Ext.alloc _ _) ?_;clear hK K;refine X_al x ?_;generalize (World.later _ x).heap.size = bo;intro yn hn1 hn2 hn3 hn4 hn5;clear x));have HBbo:=Lib.hid (Blk.new hn5.out);have HEbo:=Lib.hid yn.ext;have hlbo:(World.heap W1).size≤bo:=hn1;generalize World.later W1 yn = W2 at *;clear hn1 hn2 hn3 hn4 hn5 yn
      (skip);(first|(refine X_var (fun yn bp hn1 hn2 hn3 hn4 hn5=>?_))|(refine X_s (fun x K hK=>?_);go_simp;refine hK _ _ (Ext.alloc _ _) ?_;clear hK K;refine X_al x ?_;generalize (World.later _ x).heap.size = bp;intro yn hn1 hn2 hn3 hn4 hn5;clear x));have HBbp:=Lib.hid (Blk.new hn5.out);have HEbp:=Lib.hid yn.ext;have hlbp:(World.heap W2).size≤bp:=hn1;generalize World.later W2 yn = W at *;clear hn1 hn2 hn3 hn4 hn5 yn
      have HBX:=Lib.hid ((fbox2 HBbx.out).later (Ext.trans (Ext.trans HEbf.out HEbo.out) HEbp.out))
      have HBF:=Lib.hid (HBbf.out.later (Ext.trans HEbo.out HEbp.out))
      have HBO:=Lib.hid (HBbo.out.later HEbp.out)
      have HE:=Lib.hid (Ext.trans (Ext.trans (Ext.trans HEbx.out HEbf.out) HEbo.out) HEbp.out)
      have HBP:=HBbp
      have hbb:bx < bf:=by have:=HBbx.out.lt;omega
      have hbb2:bf < bo:=by have:=HBbf.out.lt;omega
      have hbb3:bo < bp:=by have:=HBbo.out.lt;omega
      have hE0:=HEbx.out.size
      have hE1:=HEbf.out.size
      have hE2:=HEbo.out.size
      clear HBbx HBbo HBbf HBbp HEbx HEbo HEbf HEbp
      obtain ⟨hlt,d0,d1,d2,d3,d4,d5,d6,d7,d8,d9,d10⟩:=fcells HBX.out
      have hfl:=HBF.out.lt
      have f0:=HBF.out.cell (k:=0) (by simp)
      have f1:=HBF.out.cell (k:=1) (by simp)
      have f2:=HBF.out.cell (k:=2) (by simp)
      have f3:=HBF.out.cell (k:=3) (by simp)
      have f4:=HBF.out.cell (k:=4) (by simp)
      simp at f0 f1 f2 f3 f4
      repeat' (first|refine X_gt ?_|refine X_q ?_|refine X_g ?_|refine X_gf ?_|refine X_nil ?_|refine W_seqk (fun K hK=>?_)|refine W_seqr ?_|refine W_tt ?_|go_step)
      refine X_fload HBX.out ?_ (hu:=Tryz.underlying33)
      repeat' (first|refine X_q ?_|fail)
      refine X_store (off:=0) HBO.out (fun W1 hM1 hB1=>?_);replace HE:=Lib.hid (Ext.fresh HE.out hM1 (fun k hk=>by subst hk;omega));replace HBP:=Lib.hid (HBP.out.mod hM1 (fun h=>by omega));replace HBO:=Lib.hid hB1;clear hM1 hB1
      replace HBO:=Lib.hid (fput HBO.out)
      skip
      refine X_store (off:=0) HBP.out (fun W1 hM1 hB1=>?_);replace HE:=Lib.hid (Ext.fresh HE.out hM1 (fun k hk=>by subst hk;omega));replace HBO:=Lib.hid (HBO.out.mod hM1 (fun h=>by omega));replace HBP:=Lib.hid hB1;clear hM1 hB1
      replace HBP:=Lib.hid (HBP.out.congr (g':=fun k=>(Reply.zero.cs (.slice none 0 0)).getD k undef) (all8 ⟨rfl,rfl,rfl,rfl,rfl,rfl,rfl,rfl⟩))
      repeat' (first|refine X_q ?_|refine X_nil ?_|refine W_ret ?_|go_step)
      exact Body_retccv (cs:=s.cs _ _ _) (cs2:=Reply.zero.cs (.slice none 0 0)) hd ⟨HE.out,_,rfl,_,_,_,rfl,HVR.out.later HE.out⟩ HBO.out (fun k hk=>cs_fenc hk) HBP.out (all8 ⟨rfl,rfl,rfl,rfl,rfl,rfl,rfl,rfl⟩) Tryz.underlying33 Tryz.underlying49
    · by_cases c2:f.src = s.self
      · have hn:s.serveNo f most = 2:=by unfold RepS.serveNo;rw [if_pos (by simp [RepS.fetchMay,inB,c2];try omega)]
        rw [hn] at hno ⊢
        clear hn hno
        have c2b:(f.src == s.self) = true:=by simp [c2]
        clear c2
        refine Fn_of Tryz.func40 rfl (Nat.le_of_ble_eq_true rfl) ?_;intro A hd hA;simp only [ix,Nat.reduceAdd];replace hA:A.tmps.size = 147:=hA
        (repeat' (first|refine W_seqk (fun K hK=>?_)|refine W_seqr ?_|fail));(first|(refine X_var (fun yn bx hn1 hn2 hn3 hn4 hn5=>?_))|(refine X_s (fun x K hK=>?_);go_simp;refine hK _ _ (Ext.alloc _ _) ?_;clear hK K;refine X_al x ?_;generalize (World.later _ x).heap.size = bx;intro yn hn1 hn2 hn3 hn4 hn5;clear x));have HBbx:=Lib.hid (Blk.new hn5.out);have HEbx:=Lib.hid yn.ext;have hlbx:(World.heap w).size≤bx:=hn1;generalize World.later w yn = W0 at *;clear hn1 hn2 hn3 hn4 hn5 yn
        (skip);(first|(refine X_var (fun yn bf hn1 hn2 hn3 hn4 hn5=>?_))|(refine X_s (fun x K hK=>?_);go_simp;refine hK _ _ (Ext.alloc _ _) ?_;clear hK K;refine X_al x ?_;generalize (World.later _ x).heap.size = bf;intro yn hn1 hn2 hn3 hn4 hn5;clear x));have HBbf:=Lib.hid (Blk.new hn5.out);have HEbf:=Lib.hid yn.ext;have hlbf:(World.heap W0).size≤bf:=hn1;generalize World.later W0 yn = W1 at *;clear hn1 hn2 hn3 hn4 hn5 yn
        (skip);(first|(refine X_var (fun yn bo hn1 hn2 hn3 hn4 hn5=>?_))|(refine X_s (fun x K hK=>?_);go_simp;refine hK _ _ (Ext.alloc _ _) ?_;clear hK K;refine X_al x ?_;generalize (World.later _ x).heap.size = bo;intro yn hn1 hn2 hn3 hn4 hn5;clear x));have HBbo:=Lib.hid (Blk.new hn5.out);have HEbo:=Lib.hid yn.ext;have hlbo:(World.heap W1).size≤bo:=hn1;generalize World.later W1 yn = W2 at *;clear hn1 hn2 hn3 hn4 hn5 yn
        (skip);(first|(refine X_var (fun yn bp hn1 hn2 hn3 hn4 hn5=>?_))|(refine X_s (fun x K hK=>?_);go_simp;refine hK _ _ (Ext.alloc _ _) ?_;clear hK K;refine X_al x ?_;generalize (World.later _ x).heap.size = bp;intro yn hn1 hn2 hn3 hn4 hn5;clear x));have HBbp:=Lib.hid (Blk.new hn5.out);have HEbp:=Lib.hid yn.ext;have hlbp:(World.heap W2).size≤bp:=hn1;generalize World.later W2 yn = W at *;clear hn1 hn2 hn3 hn4 hn5 yn
        have HBX:=Lib.hid ((fbox2 HBbx.out).later (Ext.trans (Ext.trans HEbf.out HEbo.out) HEbp.out))
        have HBF:=Lib.hid (HBbf.out.later (Ext.trans HEbo.out HEbp.out))
        have HBO:=Lib.hid (HBbo.out.later HEbp.out)
        have HE:=Lib.hid (Ext.trans (Ext.trans (Ext.trans HEbx.out HEbf.out) HEbo.out) HEbp.out)
        have HBP:=HBbp
        have hbb:bx < bf:=by have:=HBbx.out.lt;omega
        have hbb2:bf < bo:=by have:=HBbf.out.lt;omega
        have hbb3:bo < bp:=by have:=HBbo.out.lt;omega
        have hE0:=HEbx.out.size
        have hE1:=HEbf.out.size
        have hE2:=HEbo.out.size
        clear HBbx HBbo HBbf HBbp HEbx HEbo HEbf HEbp
        obtain ⟨hlt,d0,d1,d2,d3,d4,d5,d6,d7,d8,d9,d10⟩:=fcells HBX.out
        have hfl:=HBF.out.lt
        have f0:=HBF.out.cell (k:=0) (by simp)
        have f1:=HBF.out.cell (k:=1) (by simp)
        have f2:=HBF.out.cell (k:=2) (by simp)
        have f3:=HBF.out.cell (k:=3) (by simp)
        have f4:=HBF.out.cell (k:=4) (by simp)
        simp at f0 f1 f2 f3 f4
        repeat' (first|refine X_gt ?_|refine X_q ?_|refine X_g ?_|refine X_gf ?_|refine X_nil ?_|refine W_seqk (fun K hK=>?_)|refine W_seqr ?_|refine W_tt ?_|go_step)
        refine X_fload HBX.out ?_ (hu:=Tryz.underlying33)
        repeat' (first|refine X_q ?_|fail)
        refine X_store (off:=0) HBO.out (fun W1 hM1 hB1=>?_);replace HE:=Lib.hid (Ext.fresh HE.out hM1 (fun k hk=>by subst hk;omega));replace HBP:=Lib.hid (HBP.out.mod hM1 (fun h=>by omega));replace HBO:=Lib.hid hB1;clear hM1 hB1
        replace HBO:=Lib.hid (fput HBO.out)
        skip
        refine X_store (off:=0) HBP.out (fun W1 hM1 hB1=>?_);replace HE:=Lib.hid (Ext.fresh HE.out hM1 (fun k hk=>by subst hk;omega));replace HBO:=Lib.hid (HBO.out.mod hM1 (fun h=>by omega));replace HBP:=Lib.hid hB1;clear hM1 hB1
        replace HBP:=Lib.hid (HBP.out.congr (g':=fun k=>(Reply.zero.cs (.slice none 0 0)).getD k undef) (all8 ⟨rfl,rfl,rfl,rfl,rfl,rfl,rfl,rfl⟩))
        repeat' (first|refine X_q ?_|refine X_nil ?_|refine W_ret ?_|go_step)
        exact Body_retccv (cs:=s.cs _ _ _) (cs2:=Reply.zero.cs (.slice none 0 0)) hd ⟨HE.out,_,rfl,_,_,_,rfl,HVR.out.later HE.out⟩ HBO.out (fun k hk=>cs_fenc hk) HBP.out (all8 ⟨rfl,rfl,rfl,rfl,rfl,rfl,rfl,rfl⟩) Tryz.underlying33 Tryz.underlying49
      · have c2b:(f.src == s.self) = false:=beq_false_of_ne c2
        by_cases c3:f.epoch < 0
        · have hn:s.serveNo f most = 2:=by unfold RepS.serveNo;rw [if_pos (by simp [RepS.fetchMay,inB];try omega)]
          rw [hn] at hno ⊢
          clear hn hno
          refine Fn_of Tryz.func40 rfl (Nat.le_of_ble_eq_true rfl) ?_;intro A hd hA;simp only [ix,Nat.reduceAdd];replace hA:A.tmps.size = 147:=hA
          (repeat' (first|refine W_seqk (fun K hK=>?_)|refine W_seqr ?_|fail));(first|(refine X_var (fun yn bx hn1 hn2 hn3 hn4 hn5=>?_))|(refine X_s (fun x K hK=>?_);go_simp;refine hK _ _ (Ext.alloc _ _) ?_;clear hK K;refine X_al x ?_;generalize (World.later _ x).heap.size = bx;intro yn hn1 hn2 hn3 hn4 hn5;clear x));have HBbx:=Lib.hid (Blk.new hn5.out);have HEbx:=Lib.hid yn.ext;have hlbx:(World.heap w).size≤bx:=hn1;generalize World.later w yn = W0 at *;clear hn1 hn2 hn3 hn4 hn5 yn
          (skip);(first|(refine X_var (fun yn bf hn1 hn2 hn3 hn4 hn5=>?_))|(refine X_s (fun x K hK=>?_);go_simp;refine hK _ _ (Ext.alloc _ _) ?_;clear hK K;refine X_al x ?_;generalize (World.later _ x).heap.size = bf;intro yn hn1 hn2 hn3 hn4 hn5;clear x));have HBbf:=Lib.hid (Blk.new hn5.out);have HEbf:=Lib.hid yn.ext;have hlbf:(World.heap W0).size≤bf:=hn1;generalize World.later W0 yn = W1 at *;clear hn1 hn2 hn3 hn4 hn5 yn
          (skip);(first|(refine X_var (fun yn bo hn1 hn2 hn3 hn4 hn5=>?_))|(refine X_s (fun x K hK=>?_);go_simp;refine hK _ _ (Ext.alloc _ _) ?_;clear hK K;refine X_al x ?_;generalize (World.later _ x).heap.size = bo;intro yn hn1 hn2 hn3 hn4 hn5;clear x));have HBbo:=Lib.hid (Blk.new hn5.out);have HEbo:=Lib.hid yn.ext;have hlbo:(World.heap W1).size≤bo:=hn1;generalize World.later W1 yn = W2 at *;clear hn1 hn2 hn3 hn4 hn5 yn
          (skip);(first|(refine X_var (fun yn bp hn1 hn2 hn3 hn4 hn5=>?_))|(refine X_s (fun x K hK=>?_);go_simp;refine hK _ _ (Ext.alloc _ _) ?_;clear hK K;refine X_al x ?_;generalize (World.later _ x).heap.size = bp;intro yn hn1 hn2 hn3 hn4 hn5;clear x));have HBbp:=Lib.hid (Blk.new hn5.out);have HEbp:=Lib.hid yn.ext;have hlbp:(World.heap W2).size≤bp:=hn1;generalize World.later W2 yn = W at *;clear hn1 hn2 hn3 hn4 hn5 yn
          have HBX:=Lib.hid ((fbox2 HBbx.out).later (Ext.trans (Ext.trans HEbf.out HEbo.out) HEbp.out))
          have HBF:=Lib.hid (HBbf.out.later (Ext.trans HEbo.out HEbp.out))
          have HBO:=Lib.hid (HBbo.out.later HEbp.out)
          have HE:=Lib.hid (Ext.trans (Ext.trans (Ext.trans HEbx.out HEbf.out) HEbo.out) HEbp.out)
          have HBP:=HBbp
          have hbb:bx < bf:=by have:=HBbx.out.lt;omega
          have hbb2:bf < bo:=by have:=HBbf.out.lt;omega
          have hbb3:bo < bp:=by have:=HBbo.out.lt;omega
          have hE0:=HEbx.out.size
          have hE1:=HEbf.out.size
          have hE2:=HEbo.out.size
          clear HBbx HBbo HBbf HBbp HEbx HEbo HEbf HEbp
          obtain ⟨hlt,d0,d1,d2,d3,d4,d5,d6,d7,d8,d9,d10⟩:=fcells HBX.out
          have hfl:=HBF.out.lt
          have f0:=HBF.out.cell (k:=0) (by simp)
          have f1:=HBF.out.cell (k:=1) (by simp)
          have f2:=HBF.out.cell (k:=2) (by simp)
          have f3:=HBF.out.cell (k:=3) (by simp)
          have f4:=HBF.out.cell (k:=4) (by simp)
          simp at f0 f1 f2 f3 f4
          repeat' (first|refine X_gt ?_|refine X_q ?_|refine X_g ?_|refine X_gf ?_|refine X_nil ?_|refine W_seqk (fun K hK=>?_)|refine W_seqr ?_|refine W_tt ?_|go_step)
          refine X_fload HBX.out ?_ (hu:=Tryz.underlying33)
          repeat' (first|refine X_q ?_|fail)
          refine X_store (off:=0) HBO.out (fun W1 hM1 hB1=>?_);replace HE:=Lib.hid (Ext.fresh HE.out hM1 (fun k hk=>by subst hk;omega));replace HBP:=Lib.hid (HBP.out.mod hM1 (fun h=>by omega));replace HBO:=Lib.hid hB1;clear hM1 hB1
          replace HBO:=Lib.hid (fput HBO.out)
          skip
          refine X_store (off:=0) HBP.out (fun W1 hM1 hB1=>?_);replace HE:=Lib.hid (Ext.fresh HE.out hM1 (fun k hk=>by subst hk;omega));replace HBO:=Lib.hid (HBO.out.mod hM1 (fun h=>by omega));replace HBP:=Lib.hid hB1;clear hM1 hB1
          replace HBP:=Lib.hid (HBP.out.congr (g':=fun k=>(Reply.zero.cs (.slice none 0 0)).getD k undef) (all8 ⟨rfl,rfl,rfl,rfl,rfl,rfl,rfl,rfl⟩))
          repeat' (first|refine X_q ?_|refine X_nil ?_|refine W_ret ?_|go_step)
          exact Body_retccv (cs:=s.cs _ _ _) (cs2:=Reply.zero.cs (.slice none 0 0)) hd ⟨HE.out,_,rfl,_,_,_,rfl,HVR.out.later HE.out⟩ HBO.out (fun k hk=>cs_fenc hk) HBP.out (all8 ⟨rfl,rfl,rfl,rfl,rfl,rfl,rfl,rfl⟩) Tryz.underlying33 Tryz.underlying49
        · by_cases c4:f.offset < 0
          · have hn:s.serveNo f most = 2:=by unfold RepS.serveNo;rw [if_pos (by simp [RepS.fetchMay,inB];try omega)]
            rw [hn] at hno ⊢
            clear hn hno
            refine Fn_of Tryz.func40 rfl (Nat.le_of_ble_eq_true rfl) ?_;intro A hd hA;simp only [ix,Nat.reduceAdd];replace hA:A.tmps.size = 147:=hA
            (repeat' (first|refine W_seqk (fun K hK=>?_)|refine W_seqr ?_|fail));(first|(refine X_var (fun yn bx hn1 hn2 hn3 hn4 hn5=>?_))|(refine X_s (fun x K hK=>?_);go_simp;refine hK _ _ (Ext.alloc _ _) ?_;clear hK K;refine X_al x ?_;generalize (World.later _ x).heap.size = bx;intro yn hn1 hn2 hn3 hn4 hn5;clear x));have HBbx:=Lib.hid (Blk.new hn5.out);have HEbx:=Lib.hid yn.ext;have hlbx:(World.heap w).size≤bx:=hn1;generalize World.later w yn = W0 at *;clear hn1 hn2 hn3 hn4 hn5 yn
            (skip);(first|(refine X_var (fun yn bf hn1 hn2 hn3 hn4 hn5=>?_))|(refine X_s (fun x K hK=>?_);go_simp;refine hK _ _ (Ext.alloc _ _) ?_;clear hK K;refine X_al x ?_;generalize (World.later _ x).heap.size = bf;intro yn hn1 hn2 hn3 hn4 hn5;clear x));have HBbf:=Lib.hid (Blk.new hn5.out);have HEbf:=Lib.hid yn.ext;have hlbf:(World.heap W0).size≤bf:=hn1;generalize World.later W0 yn = W1 at *;clear hn1 hn2 hn3 hn4 hn5 yn
            (skip);(first|(refine X_var (fun yn bo hn1 hn2 hn3 hn4 hn5=>?_))|(refine X_s (fun x K hK=>?_);go_simp;refine hK _ _ (Ext.alloc _ _) ?_;clear hK K;refine X_al x ?_;generalize (World.later _ x).heap.size = bo;intro yn hn1 hn2 hn3 hn4 hn5;clear x));have HBbo:=Lib.hid (Blk.new hn5.out);have HEbo:=Lib.hid yn.ext;have hlbo:(World.heap W1).size≤bo:=hn1;generalize World.later W1 yn = W2 at *;clear hn1 hn2 hn3 hn4 hn5 yn
            (skip);(first|(refine X_var (fun yn bp hn1 hn2 hn3 hn4 hn5=>?_))|(refine X_s (fun x K hK=>?_);go_simp;refine hK _ _ (Ext.alloc _ _) ?_;clear hK K;refine X_al x ?_;generalize (World.later _ x).heap.size = bp;intro yn hn1 hn2 hn3 hn4 hn5;clear x));have HBbp:=Lib.hid (Blk.new hn5.out);have HEbp:=Lib.hid yn.ext;have hlbp:(World.heap W2).size≤bp:=hn1;generalize World.later W2 yn = W at *;clear hn1 hn2 hn3 hn4 hn5 yn
            have HBX:=Lib.hid ((fbox2 HBbx.out).later (Ext.trans (Ext.trans HEbf.out HEbo.out) HEbp.out))
            have HBF:=Lib.hid (HBbf.out.later (Ext.trans HEbo.out HEbp.out))
            have HBO:=Lib.hid (HBbo.out.later HEbp.out)
            have HE:=Lib.hid (Ext.trans (Ext.trans (Ext.trans HEbx.out HEbf.out) HEbo.out) HEbp.out)
            have HBP:=HBbp
            have hbb:bx < bf:=by have:=HBbx.out.lt;omega
            have hbb2:bf < bo:=by have:=HBbf.out.lt;omega
            have hbb3:bo < bp:=by have:=HBbo.out.lt;omega
            have hE0:=HEbx.out.size
            have hE1:=HEbf.out.size
            have hE2:=HEbo.out.size
            clear HBbx HBbo HBbf HBbp HEbx HEbo HEbf HEbp
            obtain ⟨hlt,d0,d1,d2,d3,d4,d5,d6,d7,d8,d9,d10⟩:=fcells HBX.out
            have hfl:=HBF.out.lt
            have f0:=HBF.out.cell (k:=0) (by simp)
            have f1:=HBF.out.cell (k:=1) (by simp)
            have f2:=HBF.out.cell (k:=2) (by simp)
            have f3:=HBF.out.cell (k:=3) (by simp)
            have f4:=HBF.out.cell (k:=4) (by simp)
            simp at f0 f1 f2 f3 f4
            repeat' (first|refine X_gt ?_|refine X_q ?_|refine X_g ?_|refine X_gf ?_|refine X_nil ?_|refine W_seqk (fun K hK=>?_)|refine W_seqr ?_|refine W_tt ?_|go_step)
            refine X_fload HBX.out ?_ (hu:=Tryz.underlying33)
            repeat' (first|refine X_q ?_|fail)
            refine X_store (off:=0) HBO.out (fun W1 hM1 hB1=>?_);replace HE:=Lib.hid (Ext.fresh HE.out hM1 (fun k hk=>by subst hk;omega));replace HBP:=Lib.hid (HBP.out.mod hM1 (fun h=>by omega));replace HBO:=Lib.hid hB1;clear hM1 hB1
            replace HBO:=Lib.hid (fput HBO.out)
            skip
            refine X_store (off:=0) HBP.out (fun W1 hM1 hB1=>?_);replace HE:=Lib.hid (Ext.fresh HE.out hM1 (fun k hk=>by subst hk;omega));replace HBO:=Lib.hid (HBO.out.mod hM1 (fun h=>by omega));replace HBP:=Lib.hid hB1;clear hM1 hB1
            replace HBP:=Lib.hid (HBP.out.congr (g':=fun k=>(Reply.zero.cs (.slice none 0 0)).getD k undef) (all8 ⟨rfl,rfl,rfl,rfl,rfl,rfl,rfl,rfl⟩))
            repeat' (first|refine X_q ?_|refine X_nil ?_|refine W_ret ?_|go_step)
            exact Body_retccv (cs:=s.cs _ _ _) (cs2:=Reply.zero.cs (.slice none 0 0)) hd ⟨HE.out,_,rfl,_,_,_,rfl,HVR.out.later HE.out⟩ HBO.out (fun k hk=>cs_fenc hk) HBP.out (all8 ⟨rfl,rfl,rfl,rfl,rfl,rfl,rfl,rfl⟩) Tryz.underlying33 Tryz.underlying49
          · by_cases c5:f.last < 0
            · have hn:s.serveNo f most = 2:=by unfold RepS.serveNo;rw [if_pos (by simp [RepS.fetchMay,inB];try omega)]
              rw [hn] at hno ⊢
              clear hn hno
              refine Fn_of Tryz.func40 rfl (Nat.le_of_ble_eq_true rfl) ?_;intro A hd hA;simp only [ix,Nat.reduceAdd];replace hA:A.tmps.size = 147:=hA
              (repeat' (first|refine W_seqk (fun K hK=>?_)|refine W_seqr ?_|fail));(first|(refine X_var (fun yn bx hn1 hn2 hn3 hn4 hn5=>?_))|(refine X_s (fun x K hK=>?_);go_simp;refine hK _ _ (Ext.alloc _ _) ?_;clear hK K;refine X_al x ?_;generalize (World.later _ x).heap.size = bx;intro yn hn1 hn2 hn3 hn4 hn5;clear x));have HBbx:=Lib.hid (Blk.new hn5.out);have HEbx:=Lib.hid yn.ext;have hlbx:(World.heap w).size≤bx:=hn1;generalize World.later w yn = W0 at *;clear hn1 hn2 hn3 hn4 hn5 yn
              (skip);(first|(refine X_var (fun yn bf hn1 hn2 hn3 hn4 hn5=>?_))|(refine X_s (fun x K hK=>?_);go_simp;refine hK _ _ (Ext.alloc _ _) ?_;clear hK K;refine X_al x ?_;generalize (World.later _ x).heap.size = bf;intro yn hn1 hn2 hn3 hn4 hn5;clear x));have HBbf:=Lib.hid (Blk.new hn5.out);have HEbf:=Lib.hid yn.ext;have hlbf:(World.heap W0).size≤bf:=hn1;generalize World.later W0 yn = W1 at *;clear hn1 hn2 hn3 hn4 hn5 yn
              (skip);(first|(refine X_var (fun yn bo hn1 hn2 hn3 hn4 hn5=>?_))|(refine X_s (fun x K hK=>?_);go_simp;refine hK _ _ (Ext.alloc _ _) ?_;clear hK K;refine X_al x ?_;generalize (World.later _ x).heap.size = bo;intro yn hn1 hn2 hn3 hn4 hn5;clear x));have HBbo:=Lib.hid (Blk.new hn5.out);have HEbo:=Lib.hid yn.ext;have hlbo:(World.heap W1).size≤bo:=hn1;generalize World.later W1 yn = W2 at *;clear hn1 hn2 hn3 hn4 hn5 yn
              (skip);(first|(refine X_var (fun yn bp hn1 hn2 hn3 hn4 hn5=>?_))|(refine X_s (fun x K hK=>?_);go_simp;refine hK _ _ (Ext.alloc _ _) ?_;clear hK K;refine X_al x ?_;generalize (World.later _ x).heap.size = bp;intro yn hn1 hn2 hn3 hn4 hn5;clear x));have HBbp:=Lib.hid (Blk.new hn5.out);have HEbp:=Lib.hid yn.ext;have hlbp:(World.heap W2).size≤bp:=hn1;generalize World.later W2 yn = W at *;clear hn1 hn2 hn3 hn4 hn5 yn
              have HBX:=Lib.hid ((fbox2 HBbx.out).later (Ext.trans (Ext.trans HEbf.out HEbo.out) HEbp.out))
              have HBF:=Lib.hid (HBbf.out.later (Ext.trans HEbo.out HEbp.out))
              have HBO:=Lib.hid (HBbo.out.later HEbp.out)
              have HE:=Lib.hid (Ext.trans (Ext.trans (Ext.trans HEbx.out HEbf.out) HEbo.out) HEbp.out)
              have HBP:=HBbp
              have hbb:bx < bf:=by have:=HBbx.out.lt;omega
              have hbb2:bf < bo:=by have:=HBbf.out.lt;omega
              have hbb3:bo < bp:=by have:=HBbo.out.lt;omega
              have hE0:=HEbx.out.size
              have hE1:=HEbf.out.size
              have hE2:=HEbo.out.size
              clear HBbx HBbo HBbf HBbp HEbx HEbo HEbf HEbp
              obtain ⟨hlt,d0,d1,d2,d3,d4,d5,d6,d7,d8,d9,d10⟩:=fcells HBX.out
              have hfl:=HBF.out.lt
              have f0:=HBF.out.cell (k:=0) (by simp)
              have f1:=HBF.out.cell (k:=1) (by simp)
              have f2:=HBF.out.cell (k:=2) (by simp)
              have f3:=HBF.out.cell (k:=3) (by simp)
              have f4:=HBF.out.cell (k:=4) (by simp)
              simp at f0 f1 f2 f3 f4
              repeat' (first|refine X_gt ?_|refine X_q ?_|refine X_g ?_|refine X_gf ?_|refine X_nil ?_|refine W_seqk (fun K hK=>?_)|refine W_seqr ?_|refine W_tt ?_|go_step)
              refine X_fload HBX.out ?_ (hu:=Tryz.underlying33)
              repeat' (first|refine X_q ?_|fail)
              refine X_store (off:=0) HBO.out (fun W1 hM1 hB1=>?_);replace HE:=Lib.hid (Ext.fresh HE.out hM1 (fun k hk=>by subst hk;omega));replace HBP:=Lib.hid (HBP.out.mod hM1 (fun h=>by omega));replace HBO:=Lib.hid hB1;clear hM1 hB1
              replace HBO:=Lib.hid (fput HBO.out)
              skip
              refine X_store (off:=0) HBP.out (fun W1 hM1 hB1=>?_);replace HE:=Lib.hid (Ext.fresh HE.out hM1 (fun k hk=>by subst hk;omega));replace HBO:=Lib.hid (HBO.out.mod hM1 (fun h=>by omega));replace HBP:=Lib.hid hB1;clear hM1 hB1
              replace HBP:=Lib.hid (HBP.out.congr (g':=fun k=>(Reply.zero.cs (.slice none 0 0)).getD k undef) (all8 ⟨rfl,rfl,rfl,rfl,rfl,rfl,rfl,rfl⟩))
              repeat' (first|refine X_q ?_|refine X_nil ?_|refine W_ret ?_|go_step)
              exact Body_retccv (cs:=s.cs _ _ _) (cs2:=Reply.zero.cs (.slice none 0 0)) hd ⟨HE.out,_,rfl,_,_,_,rfl,HVR.out.later HE.out⟩ HBO.out (fun k hk=>cs_fenc hk) HBP.out (all8 ⟨rfl,rfl,rfl,rfl,rfl,rfl,rfl,rfl⟩) Tryz.underlying33 Tryz.underlying49
            · by_cases c6:f.flushed < 0
              · have hn:s.serveNo f most = 2:=by unfold RepS.serveNo;rw [if_pos (by simp [RepS.fetchMay,inB];try omega)]
                rw [hn] at hno ⊢
                clear hn hno
                refine Fn_of Tryz.func40 rfl (Nat.le_of_ble_eq_true rfl) ?_;intro A hd hA;simp only [ix,Nat.reduceAdd];replace hA:A.tmps.size = 147:=hA
                (repeat' (first|refine W_seqk (fun K hK=>?_)|refine W_seqr ?_|fail));(first|(refine X_var (fun yn bx hn1 hn2 hn3 hn4 hn5=>?_))|(refine X_s (fun x K hK=>?_);go_simp;refine hK _ _ (Ext.alloc _ _) ?_;clear hK K;refine X_al x ?_;generalize (World.later _ x).heap.size = bx;intro yn hn1 hn2 hn3 hn4 hn5;clear x));have HBbx:=Lib.hid (Blk.new hn5.out);have HEbx:=Lib.hid yn.ext;have hlbx:(World.heap w).size≤bx:=hn1;generalize World.later w yn = W0 at *;clear hn1 hn2 hn3 hn4 hn5 yn
                (skip);(first|(refine X_var (fun yn bf hn1 hn2 hn3 hn4 hn5=>?_))|(refine X_s (fun x K hK=>?_);go_simp;refine hK _ _ (Ext.alloc _ _) ?_;clear hK K;refine X_al x ?_;generalize (World.later _ x).heap.size = bf;intro yn hn1 hn2 hn3 hn4 hn5;clear x));have HBbf:=Lib.hid (Blk.new hn5.out);have HEbf:=Lib.hid yn.ext;have hlbf:(World.heap W0).size≤bf:=hn1;generalize World.later W0 yn = W1 at *;clear hn1 hn2 hn3 hn4 hn5 yn
                (skip);(first|(refine X_var (fun yn bo hn1 hn2 hn3 hn4 hn5=>?_))|(refine X_s (fun x K hK=>?_);go_simp;refine hK _ _ (Ext.alloc _ _) ?_;clear hK K;refine X_al x ?_;generalize (World.later _ x).heap.size = bo;intro yn hn1 hn2 hn3 hn4 hn5;clear x));have HBbo:=Lib.hid (Blk.new hn5.out);have HEbo:=Lib.hid yn.ext;have hlbo:(World.heap W1).size≤bo:=hn1;generalize World.later W1 yn = W2 at *;clear hn1 hn2 hn3 hn4 hn5 yn
                (skip);(first|(refine X_var (fun yn bp hn1 hn2 hn3 hn4 hn5=>?_))|(refine X_s (fun x K hK=>?_);go_simp;refine hK _ _ (Ext.alloc _ _) ?_;clear hK K;refine X_al x ?_;generalize (World.later _ x).heap.size = bp;intro yn hn1 hn2 hn3 hn4 hn5;clear x));have HBbp:=Lib.hid (Blk.new hn5.out);have HEbp:=Lib.hid yn.ext;have hlbp:(World.heap W2).size≤bp:=hn1;generalize World.later W2 yn = W at *;clear hn1 hn2 hn3 hn4 hn5 yn
                have HBX:=Lib.hid ((fbox2 HBbx.out).later (Ext.trans (Ext.trans HEbf.out HEbo.out) HEbp.out))
                have HBF:=Lib.hid (HBbf.out.later (Ext.trans HEbo.out HEbp.out))
                have HBO:=Lib.hid (HBbo.out.later HEbp.out)
                have HE:=Lib.hid (Ext.trans (Ext.trans (Ext.trans HEbx.out HEbf.out) HEbo.out) HEbp.out)
                have HBP:=HBbp
                have hbb:bx < bf:=by have:=HBbx.out.lt;omega
                have hbb2:bf < bo:=by have:=HBbf.out.lt;omega
                have hbb3:bo < bp:=by have:=HBbo.out.lt;omega
                have hE0:=HEbx.out.size
                have hE1:=HEbf.out.size
                have hE2:=HEbo.out.size
                clear HBbx HBbo HBbf HBbp HEbx HEbo HEbf HEbp
                obtain ⟨hlt,d0,d1,d2,d3,d4,d5,d6,d7,d8,d9,d10⟩:=fcells HBX.out
                have hfl:=HBF.out.lt
                have f0:=HBF.out.cell (k:=0) (by simp)
                have f1:=HBF.out.cell (k:=1) (by simp)
                have f2:=HBF.out.cell (k:=2) (by simp)
                have f3:=HBF.out.cell (k:=3) (by simp)
                have f4:=HBF.out.cell (k:=4) (by simp)
                simp at f0 f1 f2 f3 f4
                repeat' (first|refine X_gt ?_|refine X_q ?_|refine X_g ?_|refine X_gf ?_|refine X_nil ?_|refine W_seqk (fun K hK=>?_)|refine W_seqr ?_|refine W_tt ?_|go_step)
                refine X_fload HBX.out ?_ (hu:=Tryz.underlying33)
                repeat' (first|refine X_q ?_|fail)
                refine X_store (off:=0) HBO.out (fun W1 hM1 hB1=>?_);replace HE:=Lib.hid (Ext.fresh HE.out hM1 (fun k hk=>by subst hk;omega));replace HBP:=Lib.hid (HBP.out.mod hM1 (fun h=>by omega));replace HBO:=Lib.hid hB1;clear hM1 hB1
                replace HBO:=Lib.hid (fput HBO.out)
                skip
                refine X_store (off:=0) HBP.out (fun W1 hM1 hB1=>?_);replace HE:=Lib.hid (Ext.fresh HE.out hM1 (fun k hk=>by subst hk;omega));replace HBO:=Lib.hid (HBO.out.mod hM1 (fun h=>by omega));replace HBP:=Lib.hid hB1;clear hM1 hB1
                replace HBP:=Lib.hid (HBP.out.congr (g':=fun k=>(Reply.zero.cs (.slice none 0 0)).getD k undef) (all8 ⟨rfl,rfl,rfl,rfl,rfl,rfl,rfl,rfl⟩))
                repeat' (first|refine X_q ?_|refine X_nil ?_|refine W_ret ?_|go_step)
                exact Body_retccv (cs:=s.cs _ _ _) (cs2:=Reply.zero.cs (.slice none 0 0)) hd ⟨HE.out,_,rfl,_,_,_,rfl,HVR.out.later HE.out⟩ HBO.out (fun k hk=>cs_fenc hk) HBP.out (all8 ⟨rfl,rfl,rfl,rfl,rfl,rfl,rfl,rfl⟩) Tryz.underlying33 Tryz.underlying49
              · by_cases c7:f.offset < f.flushed
                · have hn:s.serveNo f most = 2:=by unfold RepS.serveNo;rw [if_pos (by simp [RepS.fetchMay,inB];try omega)]
                  rw [hn] at hno ⊢
                  clear hn hno
                  refine Fn_of Tryz.func40 rfl (Nat.le_of_ble_eq_true rfl) ?_;intro A hd hA;simp only [ix,Nat.reduceAdd];replace hA:A.tmps.size = 147:=hA
                  (repeat' (first|refine W_seqk (fun K hK=>?_)|refine W_seqr ?_|fail));(first|(refine X_var (fun yn bx hn1 hn2 hn3 hn4 hn5=>?_))|(refine X_s (fun x K hK=>?_);go_simp;refine hK _ _ (Ext.alloc _ _) ?_;clear hK K;refine X_al x ?_;generalize (World.later _ x).heap.size = bx;intro yn hn1 hn2 hn3 hn4 hn5;clear x));have HBbx:=Lib.hid (Blk.new hn5.out);have HEbx:=Lib.hid yn.ext;have hlbx:(World.heap w).size≤bx:=hn1;generalize World.later w yn = W0 at *;clear hn1 hn2 hn3 hn4 hn5 yn
                  (skip);(first|(refine X_var (fun yn bf hn1 hn2 hn3 hn4 hn5=>?_))|(refine X_s (fun x K hK=>?_);go_simp;refine hK _ _ (Ext.alloc _ _) ?_;clear hK K;refine X_al x ?_;generalize (World.later _ x).heap.size = bf;intro yn hn1 hn2 hn3 hn4 hn5;clear x));have HBbf:=Lib.hid (Blk.new hn5.out);have HEbf:=Lib.hid yn.ext;have hlbf:(World.heap W0).size≤bf:=hn1;generalize World.later W0 yn = W1 at *;clear hn1 hn2 hn3 hn4 hn5 yn
                  (skip);(first|(refine X_var (fun yn bo hn1 hn2 hn3 hn4 hn5=>?_))|(refine X_s (fun x K hK=>?_);go_simp;refine hK _ _ (Ext.alloc _ _) ?_;clear hK K;refine X_al x ?_;generalize (World.later _ x).heap.size = bo;intro yn hn1 hn2 hn3 hn4 hn5;clear x));have HBbo:=Lib.hid (Blk.new hn5.out);have HEbo:=Lib.hid yn.ext;have hlbo:(World.heap W1).size≤bo:=hn1;generalize World.later W1 yn = W2 at *;clear hn1 hn2 hn3 hn4 hn5 yn
                  (skip);(first|(refine X_var (fun yn bp hn1 hn2 hn3 hn4 hn5=>?_))|(refine X_s (fun x K hK=>?_);go_simp;refine hK _ _ (Ext.alloc _ _) ?_;clear hK K;refine X_al x ?_;generalize (World.later _ x).heap.size = bp;intro yn hn1 hn2 hn3 hn4 hn5;clear x));have HBbp:=Lib.hid (Blk.new hn5.out);have HEbp:=Lib.hid yn.ext;have hlbp:(World.heap W2).size≤bp:=hn1;generalize World.later W2 yn = W at *;clear hn1 hn2 hn3 hn4 hn5 yn
                  have HBX:=Lib.hid ((fbox2 HBbx.out).later (Ext.trans (Ext.trans HEbf.out HEbo.out) HEbp.out))
                  have HBF:=Lib.hid (HBbf.out.later (Ext.trans HEbo.out HEbp.out))
                  have HBO:=Lib.hid (HBbo.out.later HEbp.out)
                  have HE:=Lib.hid (Ext.trans (Ext.trans (Ext.trans HEbx.out HEbf.out) HEbo.out) HEbp.out)
                  have HBP:=HBbp
                  have hbb:bx < bf:=by have:=HBbx.out.lt;omega
                  have hbb2:bf < bo:=by have:=HBbf.out.lt;omega
                  have hbb3:bo < bp:=by have:=HBbo.out.lt;omega
                  have hE0:=HEbx.out.size
                  have hE1:=HEbf.out.size
                  have hE2:=HEbo.out.size
                  clear HBbx HBbo HBbf HBbp HEbx HEbo HEbf HEbp
                  obtain ⟨hlt,d0,d1,d2,d3,d4,d5,d6,d7,d8,d9,d10⟩:=fcells HBX.out
                  have hfl:=HBF.out.lt
                  have f0:=HBF.out.cell (k:=0) (by simp)
                  have f1:=HBF.out.cell (k:=1) (by simp)
                  have f2:=HBF.out.cell (k:=2) (by simp)
                  have f3:=HBF.out.cell (k:=3) (by simp)
                  have f4:=HBF.out.cell (k:=4) (by simp)
                  simp at f0 f1 f2 f3 f4
                  repeat' (first|refine X_gt ?_|refine X_q ?_|refine X_g ?_|refine X_nil ?_|refine W_seqk (fun K hK=>?_)|refine W_seqr ?_|refine W_tt ?_|go_step)
                  refine X_fload HBX.out ?_ (hu:=Tryz.underlying33)
                  repeat' (first|refine X_q ?_|fail)
                  refine X_store (off:=0) HBO.out (fun W1 hM1 hB1=>?_);replace HE:=Lib.hid (Ext.fresh HE.out hM1 (fun k hk=>by subst hk;omega));replace HBP:=Lib.hid (HBP.out.mod hM1 (fun h=>by omega));replace HBO:=Lib.hid hB1;clear hM1 hB1
                  replace HBO:=Lib.hid (fput HBO.out)
                  skip
                  refine X_store (off:=0) HBP.out (fun W1 hM1 hB1=>?_);replace HE:=Lib.hid (Ext.fresh HE.out hM1 (fun k hk=>by subst hk;omega));replace HBO:=Lib.hid (HBO.out.mod hM1 (fun h=>by omega));replace HBP:=Lib.hid hB1;clear hM1 hB1
                  replace HBP:=Lib.hid (HBP.out.congr (g':=fun k=>(Reply.zero.cs (.slice none 0 0)).getD k undef) (all8 ⟨rfl,rfl,rfl,rfl,rfl,rfl,rfl,rfl⟩))
                  repeat' (first|refine X_q ?_|refine X_nil ?_|refine W_ret ?_|go_step)
                  exact Body_retccv (cs:=s.cs _ _ _) (cs2:=Reply.zero.cs (.slice none 0 0)) hd ⟨HE.out,_,rfl,_,_,_,rfl,HVR.out.later HE.out⟩ HBO.out (fun k hk=>cs_fenc hk) HBP.out (all8 ⟨rfl,rfl,rfl,rfl,rfl,rfl,rfl,rfl⟩) Tryz.underlying33 Tryz.underlying49
                · by_cases c8:most < 0
                  · have hn:s.serveNo f most = 2:=by unfold RepS.serveNo;rw [if_pos (by simp [RepS.fetchMay,inB];try omega)]
                    rw [hn] at hno ⊢
                    clear hn hno
                    refine Fn_of Tryz.func40 rfl (Nat.le_of_ble_eq_true rfl) ?_;intro A hd hA;simp only [ix,Nat.reduceAdd];replace hA:A.tmps.size = 147:=hA
                    (repeat' (first|refine W_seqk (fun K hK=>?_)|refine W_seqr ?_|fail));(first|(refine X_var (fun yn bx hn1 hn2 hn3 hn4 hn5=>?_))|(refine X_s (fun x K hK=>?_);go_simp;refine hK _ _ (Ext.alloc _ _) ?_;clear hK K;refine X_al x ?_;generalize (World.later _ x).heap.size = bx;intro yn hn1 hn2 hn3 hn4 hn5;clear x));have HBbx:=Lib.hid (Blk.new hn5.out);have HEbx:=Lib.hid yn.ext;have hlbx:(World.heap w).size≤bx:=hn1;generalize World.later w yn = W0 at *;clear hn1 hn2 hn3 hn4 hn5 yn
                    (skip);(first|(refine X_var (fun yn bf hn1 hn2 hn3 hn4 hn5=>?_))|(refine X_s (fun x K hK=>?_);go_simp;refine hK _ _ (Ext.alloc _ _) ?_;clear hK K;refine X_al x ?_;generalize (World.later _ x).heap.size = bf;intro yn hn1 hn2 hn3 hn4 hn5;clear x));have HBbf:=Lib.hid (Blk.new hn5.out);have HEbf:=Lib.hid yn.ext;have hlbf:(World.heap W0).size≤bf:=hn1;generalize World.later W0 yn = W1 at *;clear hn1 hn2 hn3 hn4 hn5 yn
                    (skip);(first|(refine X_var (fun yn bo hn1 hn2 hn3 hn4 hn5=>?_))|(refine X_s (fun x K hK=>?_);go_simp;refine hK _ _ (Ext.alloc _ _) ?_;clear hK K;refine X_al x ?_;generalize (World.later _ x).heap.size = bo;intro yn hn1 hn2 hn3 hn4 hn5;clear x));have HBbo:=Lib.hid (Blk.new hn5.out);have HEbo:=Lib.hid yn.ext;have hlbo:(World.heap W1).size≤bo:=hn1;generalize World.later W1 yn = W2 at *;clear hn1 hn2 hn3 hn4 hn5 yn
                    (skip);(first|(refine X_var (fun yn bp hn1 hn2 hn3 hn4 hn5=>?_))|(refine X_s (fun x K hK=>?_);go_simp;refine hK _ _ (Ext.alloc _ _) ?_;clear hK K;refine X_al x ?_;generalize (World.later _ x).heap.size = bp;intro yn hn1 hn2 hn3 hn4 hn5;clear x));have HBbp:=Lib.hid (Blk.new hn5.out);have HEbp:=Lib.hid yn.ext;have hlbp:(World.heap W2).size≤bp:=hn1;generalize World.later W2 yn = W at *;clear hn1 hn2 hn3 hn4 hn5 yn
                    have HBX:=Lib.hid ((fbox2 HBbx.out).later (Ext.trans (Ext.trans HEbf.out HEbo.out) HEbp.out))
                    have HBF:=Lib.hid (HBbf.out.later (Ext.trans HEbo.out HEbp.out))
                    have HBO:=Lib.hid (HBbo.out.later HEbp.out)
                    have HE:=Lib.hid (Ext.trans (Ext.trans (Ext.trans HEbx.out HEbf.out) HEbo.out) HEbp.out)
                    have HBP:=HBbp
                    have hbb:bx < bf:=by have:=HBbx.out.lt;omega
                    have hbb2:bf < bo:=by have:=HBbf.out.lt;omega
                    have hbb3:bo < bp:=by have:=HBbo.out.lt;omega
                    have hE0:=HEbx.out.size
                    have hE1:=HEbf.out.size
                    have hE2:=HEbo.out.size
                    clear HBbx HBbo HBbf HBbp HEbx HEbo HEbf HEbp
                    obtain ⟨hlt,d0,d1,d2,d3,d4,d5,d6,d7,d8,d9,d10⟩:=fcells HBX.out
                    have hfl:=HBF.out.lt
                    have f0:=HBF.out.cell (k:=0) (by simp)
                    have f1:=HBF.out.cell (k:=1) (by simp)
                    have f2:=HBF.out.cell (k:=2) (by simp)
                    have f3:=HBF.out.cell (k:=3) (by simp)
                    have f4:=HBF.out.cell (k:=4) (by simp)
                    simp at f0 f1 f2 f3 f4
                    repeat' (first|refine X_gt ?_|refine X_q ?_|refine X_nil ?_|refine W_seqk (fun K hK=>?_)|refine W_seqr ?_|refine W_tt ?_|go_step)
                    refine X_fload HBX.out ?_ (hu:=Tryz.underlying33)
                    repeat' (first|refine X_q ?_|fail)
                    refine X_store (off:=0) HBO.out (fun W1 hM1 hB1=>?_);replace HE:=Lib.hid (Ext.fresh HE.out hM1 (fun k hk=>by subst hk;omega));replace HBP:=Lib.hid (HBP.out.mod hM1 (fun h=>by omega));replace HBO:=Lib.hid hB1;clear hM1 hB1
                    replace HBO:=Lib.hid (fput HBO.out)
                    skip
                    refine X_store (off:=0) HBP.out (fun W1 hM1 hB1=>?_);replace HE:=Lib.hid (Ext.fresh HE.out hM1 (fun k hk=>by subst hk;omega));replace HBO:=Lib.hid (HBO.out.mod hM1 (fun h=>by omega));replace HBP:=Lib.hid hB1;clear hM1 hB1
                    replace HBP:=Lib.hid (HBP.out.congr (g':=fun k=>(Reply.zero.cs (.slice none 0 0)).getD k undef) (all8 ⟨rfl,rfl,rfl,rfl,rfl,rfl,rfl,rfl⟩))
                    repeat' (first|refine X_q ?_|refine X_nil ?_|refine W_ret ?_|go_step)
                    exact Body_retccv (cs:=s.cs _ _ _) (cs2:=Reply.zero.cs (.slice none 0 0)) hd ⟨HE.out,_,rfl,_,_,_,rfl,HVR.out.later HE.out⟩ HBO.out (fun k hk=>cs_fenc hk) HBP.out (all8 ⟨rfl,rfl,rfl,rfl,rfl,rfl,rfl,rfl⟩) Tryz.underlying33 Tryz.underlying49
                  · have hmay:s.fetchMay f most = true:=by simp [RepS.fetchMay,inB,c2];omega
                    by_cases q2:s.role = 3
                    · have q2b:(s.role != 3) = false:=by simp [q2]
                      by_cases q3:f.epoch = s.epoch
                      · exact absurd (by unfold RepS.serveNo;rw [if_neg (by simp [hmay]),if_neg (by simp [q2]),if_neg (by simp [q3])]) hno
                      · have q3b:(f.epoch != s.epoch) = true:=by simp [q3]
                        have hn:s.serveNo f most = 210:=by unfold RepS.serveNo;rw [if_neg (by simp [hmay]),if_neg (by simp [q2]),if_pos q3]
                        rw [hn] at hno ⊢
                        clear hn hno
                        clear q2
                        refine Fn_of Tryz.func40 rfl (Nat.le_of_ble_eq_true rfl) ?_;intro A hd hA;simp only [ix,Nat.reduceAdd];replace hA:A.tmps.size = 147:=hA
                        (repeat' (first|refine W_seqk (fun K hK=>?_)|refine W_seqr ?_|fail));(first|(refine X_var (fun yn bx hn1 hn2 hn3 hn4 hn5=>?_))|(refine X_s (fun x K hK=>?_);go_simp;refine hK _ _ (Ext.alloc _ _) ?_;clear hK K;refine X_al x ?_;generalize (World.later _ x).heap.size = bx;intro yn hn1 hn2 hn3 hn4 hn5;clear x));have HBbx:=Lib.hid (Blk.new hn5.out);have HEbx:=Lib.hid yn.ext;have hlbx:(World.heap w).size≤bx:=hn1;generalize World.later w yn = W0 at *;clear hn1 hn2 hn3 hn4 hn5 yn
                        (skip);(first|(refine X_var (fun yn bf hn1 hn2 hn3 hn4 hn5=>?_))|(refine X_s (fun x K hK=>?_);go_simp;refine hK _ _ (Ext.alloc _ _) ?_;clear hK K;refine X_al x ?_;generalize (World.later _ x).heap.size = bf;intro yn hn1 hn2 hn3 hn4 hn5;clear x));have HBbf:=Lib.hid (Blk.new hn5.out);have HEbf:=Lib.hid yn.ext;have hlbf:(World.heap W0).size≤bf:=hn1;generalize World.later W0 yn = W1 at *;clear hn1 hn2 hn3 hn4 hn5 yn
                        (skip);(first|(refine X_var (fun yn bo hn1 hn2 hn3 hn4 hn5=>?_))|(refine X_s (fun x K hK=>?_);go_simp;refine hK _ _ (Ext.alloc _ _) ?_;clear hK K;refine X_al x ?_;generalize (World.later _ x).heap.size = bo;intro yn hn1 hn2 hn3 hn4 hn5;clear x));have HBbo:=Lib.hid (Blk.new hn5.out);have HEbo:=Lib.hid yn.ext;have hlbo:(World.heap W1).size≤bo:=hn1;generalize World.later W1 yn = W2 at *;clear hn1 hn2 hn3 hn4 hn5 yn
                        (skip);(first|(refine X_var (fun yn bp hn1 hn2 hn3 hn4 hn5=>?_))|(refine X_s (fun x K hK=>?_);go_simp;refine hK _ _ (Ext.alloc _ _) ?_;clear hK K;refine X_al x ?_;generalize (World.later _ x).heap.size = bp;intro yn hn1 hn2 hn3 hn4 hn5;clear x));have HBbp:=Lib.hid (Blk.new hn5.out);have HEbp:=Lib.hid yn.ext;have hlbp:(World.heap W2).size≤bp:=hn1;generalize World.later W2 yn = W at *;clear hn1 hn2 hn3 hn4 hn5 yn
                        have HBX:=Lib.hid ((fbox2 HBbx.out).later (Ext.trans (Ext.trans HEbf.out HEbo.out) HEbp.out))
                        have HBF:=Lib.hid (HBbf.out.later (Ext.trans HEbo.out HEbp.out))
                        have HBO:=Lib.hid (HBbo.out.later HEbp.out)
                        have HE:=Lib.hid (Ext.trans (Ext.trans (Ext.trans HEbx.out HEbf.out) HEbo.out) HEbp.out)
                        have HBP:=HBbp
                        have hbb:bx < bf:=by have:=HBbx.out.lt;omega
                        have hbb2:bf < bo:=by have:=HBbf.out.lt;omega
                        have hbb3:bo < bp:=by have:=HBbo.out.lt;omega
                        have hE0:=HEbx.out.size
                        have hE1:=HEbf.out.size
                        have hE2:=HEbo.out.size
                        clear HBbx HBbo HBbf HBbp HEbx HEbo HEbf HEbp
                        obtain ⟨hlt,d0,d1,d2,d3,d4,d5,d6,d7,d8,d9,d10⟩:=fcells HBX.out
                        have hfl:=HBF.out.lt
                        have f0:=HBF.out.cell (k:=0) (by simp)
                        have f1:=HBF.out.cell (k:=1) (by simp)
                        have f2:=HBF.out.cell (k:=2) (by simp)
                        have f3:=HBF.out.cell (k:=3) (by simp)
                        have f4:=HBF.out.cell (k:=4) (by simp)
                        simp at f0 f1 f2 f3 f4
                        repeat' (first|refine X_gt ?_|refine X_q ?_|refine X_nil ?_|refine W_seqk (fun K hK=>?_)|refine W_seqr ?_|refine W_skip ?_|refine W_tt ?_|refine W_ff ?_|go_step)
                        refine X_fload HBX.out ?_ (hu:=Tryz.underlying33)
                        repeat' (first|refine X_q ?_|fail)
                        refine X_store (off:=0) HBO.out (fun W1 hM1 hB1=>?_);replace HE:=Lib.hid (Ext.fresh HE.out hM1 (fun k hk=>by subst hk;omega));replace HBP:=Lib.hid (HBP.out.mod hM1 (fun h=>by omega));replace HBO:=Lib.hid hB1;clear hM1 hB1
                        replace HBO:=Lib.hid (fput HBO.out)
                        skip
                        refine X_store (off:=0) HBP.out (fun W1 hM1 hB1=>?_);replace HE:=Lib.hid (Ext.fresh HE.out hM1 (fun k hk=>by subst hk;omega));replace HBO:=Lib.hid (HBO.out.mod hM1 (fun h=>by omega));replace HBP:=Lib.hid hB1;clear hM1 hB1
                        replace HBP:=Lib.hid (HBP.out.congr (g':=fun k=>(Reply.zero.cs (.slice none 0 0)).getD k undef) (all8 ⟨rfl,rfl,rfl,rfl,rfl,rfl,rfl,rfl⟩))
                        repeat' (first|refine X_q ?_|refine X_nil ?_|refine W_ret ?_|go_step)
                        exact Body_retccv (cs:=s.cs _ _ _) (cs2:=Reply.zero.cs (.slice none 0 0)) hd ⟨HE.out,_,rfl,_,_,_,rfl,HVR.out.later HE.out⟩ HBO.out (fun k hk=>cs_fenc hk) HBP.out (all8 ⟨rfl,rfl,rfl,rfl,rfl,rfl,rfl,rfl⟩) Tryz.underlying33 Tryz.underlying49
                    · have q2b:(s.role != 3) = true:=by simp [q2]
                      have hn:s.serveNo f most = 211:=by unfold RepS.serveNo;rw [if_neg (by simp [hmay]),if_pos q2]
                      rw [hn] at hno ⊢
                      clear hn hno
                      refine Fn_of Tryz.func40 rfl (Nat.le_of_ble_eq_true rfl) ?_;intro A hd hA;simp only [ix,Nat.reduceAdd];replace hA:A.tmps.size = 147:=hA
                      (repeat' (first|refine W_seqk (fun K hK=>?_)|refine W_seqr ?_|fail));(first|(refine X_var (fun yn bx hn1 hn2 hn3 hn4 hn5=>?_))|(refine X_s (fun x K hK=>?_);go_simp;refine hK _ _ (Ext.alloc _ _) ?_;clear hK K;refine X_al x ?_;generalize (World.later _ x).heap.size = bx;intro yn hn1 hn2 hn3 hn4 hn5;clear x));have HBbx:=Lib.hid (Blk.new hn5.out);have HEbx:=Lib.hid yn.ext;have hlbx:(World.heap w).size≤bx:=hn1;generalize World.later w yn = W0 at *;clear hn1 hn2 hn3 hn4 hn5 yn
                      (skip);(first|(refine X_var (fun yn bf hn1 hn2 hn3 hn4 hn5=>?_))|(refine X_s (fun x K hK=>?_);go_simp;refine hK _ _ (Ext.alloc _ _) ?_;clear hK K;refine X_al x ?_;generalize (World.later _ x).heap.size = bf;intro yn hn1 hn2 hn3 hn4 hn5;clear x));have HBbf:=Lib.hid (Blk.new hn5.out);have HEbf:=Lib.hid yn.ext;have hlbf:(World.heap W0).size≤bf:=hn1;generalize World.later W0 yn = W1 at *;clear hn1 hn2 hn3 hn4 hn5 yn
                      (skip);(first|(refine X_var (fun yn bo hn1 hn2 hn3 hn4 hn5=>?_))|(refine X_s (fun x K hK=>?_);go_simp;refine hK _ _ (Ext.alloc _ _) ?_;clear hK K;refine X_al x ?_;generalize (World.later _ x).heap.size = bo;intro yn hn1 hn2 hn3 hn4 hn5;clear x));have HBbo:=Lib.hid (Blk.new hn5.out);have HEbo:=Lib.hid yn.ext;have hlbo:(World.heap W1).size≤bo:=hn1;generalize World.later W1 yn = W2 at *;clear hn1 hn2 hn3 hn4 hn5 yn
                      (skip);(first|(refine X_var (fun yn bp hn1 hn2 hn3 hn4 hn5=>?_))|(refine X_s (fun x K hK=>?_);go_simp;refine hK _ _ (Ext.alloc _ _) ?_;clear hK K;refine X_al x ?_;generalize (World.later _ x).heap.size = bp;intro yn hn1 hn2 hn3 hn4 hn5;clear x));have HBbp:=Lib.hid (Blk.new hn5.out);have HEbp:=Lib.hid yn.ext;have hlbp:(World.heap W2).size≤bp:=hn1;generalize World.later W2 yn = W at *;clear hn1 hn2 hn3 hn4 hn5 yn
                      have HBX:=Lib.hid ((fbox2 HBbx.out).later (Ext.trans (Ext.trans HEbf.out HEbo.out) HEbp.out))
                      have HBF:=Lib.hid (HBbf.out.later (Ext.trans HEbo.out HEbp.out))
                      have HBO:=Lib.hid (HBbo.out.later HEbp.out)
                      have HE:=Lib.hid (Ext.trans (Ext.trans (Ext.trans HEbx.out HEbf.out) HEbo.out) HEbp.out)
                      have HBP:=HBbp
                      have hbb:bx < bf:=by have:=HBbx.out.lt;omega
                      have hbb2:bf < bo:=by have:=HBbf.out.lt;omega
                      have hbb3:bo < bp:=by have:=HBbo.out.lt;omega
                      have hE0:=HEbx.out.size
                      have hE1:=HEbf.out.size
                      have hE2:=HEbo.out.size
                      clear HBbx HBbo HBbf HBbp HEbx HEbo HEbf HEbp
                      obtain ⟨hlt,d0,d1,d2,d3,d4,d5,d6,d7,d8,d9,d10⟩:=fcells HBX.out
                      have hfl:=HBF.out.lt
                      have f0:=HBF.out.cell (k:=0) (by simp)
                      have f1:=HBF.out.cell (k:=1) (by simp)
                      have f2:=HBF.out.cell (k:=2) (by simp)
                      have f3:=HBF.out.cell (k:=3) (by simp)
                      have f4:=HBF.out.cell (k:=4) (by simp)
                      simp at f0 f1 f2 f3 f4
                      repeat' (first|refine X_gt ?_|refine X_q ?_|refine X_nil ?_|refine W_seqk (fun K hK=>?_)|refine W_seqr ?_|refine W_skip ?_|refine W_tt ?_|refine W_ff ?_|go_step)
                      refine X_fload HBX.out ?_ (hu:=Tryz.underlying33)
                      repeat' (first|refine X_q ?_|fail)
                      refine X_store (off:=0) HBO.out (fun W1 hM1 hB1=>?_);replace HE:=Lib.hid (Ext.fresh HE.out hM1 (fun k hk=>by subst hk;omega));replace HBP:=Lib.hid (HBP.out.mod hM1 (fun h=>by omega));replace HBO:=Lib.hid hB1;clear hM1 hB1
                      replace HBO:=Lib.hid (fput HBO.out)
                      skip
                      refine X_store (off:=0) HBP.out (fun W1 hM1 hB1=>?_);replace HE:=Lib.hid (Ext.fresh HE.out hM1 (fun k hk=>by subst hk;omega));replace HBO:=Lib.hid (HBO.out.mod hM1 (fun h=>by omega));replace HBP:=Lib.hid hB1;clear hM1 hB1
                      replace HBP:=Lib.hid (HBP.out.congr (g':=fun k=>(Reply.zero.cs (.slice none 0 0)).getD k undef) (all8 ⟨rfl,rfl,rfl,rfl,rfl,rfl,rfl,rfl⟩))
                      repeat' (first|refine X_q ?_|refine X_nil ?_|refine W_ret ?_|go_step)
                      exact Body_retccv (cs:=s.cs _ _ _) (cs2:=Reply.zero.cs (.slice none 0 0)) hd ⟨HE.out,_,rfl,_,_,_,rfl,HVR.out.later HE.out⟩ HBO.out (fun k hk=>cs_fenc hk) HBP.out (all8 ⟨rfl,rfl,rfl,rfl,rfl,rfl,rfl,rfl⟩) Tryz.underlying33 Tryz.underlying49
end Go.Ws
