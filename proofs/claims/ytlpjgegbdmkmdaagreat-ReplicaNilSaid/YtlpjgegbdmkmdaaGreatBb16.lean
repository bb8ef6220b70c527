/- Lemmas for the statements of this layer (joined texts); no condition. -/
import Derived.Test.YtlpjgegbdmkmdaaGreatBb03
import Derived.Test.YtlpjgegbdmkmdaaGreatBb04
import Derived.Test.YtlpjgegbdmkmdaaGreatBb11
import Derived.Test.YtlpjgegbdmkmdaaGreatBb15
namespace Go.Ws
open Go Go.RowKit Go.Proofs
set_option maxHeartbeats 2000000
set_option maxRecDepth 100000
set_option linter.unusedVariables false
set_option linter.unusedSimpArgs false
section
variable {P:Program} {ops:Array Oper} {hs:List Nat} {Q:Post} {f:Nat} {listed:Array Bool} {A:Act} {fl:List (Nat × Value)} {w:World} {α:Type} {enc:α→List Value} {k:Nat}
theorem F_copy0 {o : Oper} {t E : TypeId} {bytes : Nat} {vs : Value} {ys : List α} {s x : Operand} (he : Elem P enc k t E bytes) (hr : Rd enc k w vs ys) (hbytes : ys.length * bytes ≤ 140737488355328) (hm : ys.length ≤ maxLen)
    (X:Later w) (K:Value→World→Prop) (hK:∀ (y:Later w) v',Ext (w.later X) (w.later y)→Own enc k E (w.later y) v' ys→(∀ g,v'.ownBlock = some g→w.heap.size≤g)→K v' (w.later y))
    (ho:o.op = .call { callee:=.builtin .append,args:=#[s,x],argTypes:=#[t,t] }:=by rfl)
    (hs:Is ((fr fl A).eval s) (.slice none 0 0):=by go_simp;exact Is.mk _) (hx:Is ((fr fl A).eval x) vs:=by go_simp;exact Is.mk _):runV P o (fr fl A) (w.later X) K:=by
  obtain ⟨v',w',h1,h2,h3,h4,-⟩:=run_append3 (P:=P) (w:=w.later X) he o.type (Own.nil (enc:=enc) (k:=k) (E:=E) (w.later X)) (hr.later X.2) (by simpa using hbytes) (by simpa using hm)
  have hE:Ext (w.later X) w':=h3.mono (fun b _ h=>by cases h)
  unfold runV
  rw [run_append_op ho hs.eq hx.eq h1]
  have h2':Own enc k E w' v' ys:=by simpa using h2
  refine hK ⟨w',Ext.trans X.2 hE⟩ v' hE h2' fun g hg=>?_
  rcases h4 with h4|⟨g',hg',hle⟩
  · rw [h4] at hg;cases hg
  · rw [hg'] at hg;cases hg;exact Nat.le_trans X.2.size hle
end
section
variable {P:Program} {Q:Post} {A:Act} {fl:List (Nat × Value)} {ops:Array Oper} {o:Oper} {w:World} {G:Nat→Prop} {s:RepS} {uL uI uC:Value}
theorem quiet_fload {W : World} {x : Operand} {t : TypeId} {b : Nat} {E : TypeId} {td : TypeDesc} (hb : Blk W b E 15 (fenc s uL uI uC)) (ho : o.op = .load t x) (hu : P.underlying t = some td) (htd : td.isRow = true) (hi : (P.info? t).map (·.size) = some 15)
    (hx:Is ((fr fl A).eval x) (.pointer (some ⟨b,0,none⟩))):o.quietAt P (fr fl A) (Ext W) W (s.v uL uI uC):=by
  have:=run_loadAt_mid (P:=P) W b 0 t ((List.range 15).map (fenc s uL uI uC)) td (fun j v hv=>by
    simp only [List.getElem?_map] at hv
    rcases Nat.lt_or_ge j 15 with hj|hj
    · rw [List.getElem?_range hj] at hv
      cases hv
      rw [Nat.zero_add];exact hb.cell hj
    · rw [List.getElem?_eq_none (by simpa using hj)] at hv;cases hv) hu htd (by simpa using hi)
  unfold Oper.quietAt execOp
  simp only [ho,hx.eq,this,Sem.run_bind,Result.andThen_ok,Sem.run_pure,Oper.quietUpon]
  exact ⟨trivial,rfl⟩
theorem Y_fload {rest : List (Oper × Nat)} {x : Operand} {t : TypeId} {d b : Nat} {E : TypeId} {td : TypeDesc} (hb : Blk w b E 15 (fenc s uL uI uC)) (hG : ¬ G b)
    (h:wpY G P ops Q rest (fr ((d,s.v uL uI uC) :: fl) A) w) (ho:o.op = .load t x:=by rfl) (hd:o.dst = some d:=by rfl) (hg:o.guard = none:=by rfl)
    (hu:P.underlying t = some td:=by kernel_rfl) (htd:td.isRow = true:=by rfl) (hi:(P.info? t).map (·.size) = some 15:=by kernel_rfl)
    (hx:Is ((fr fl A).eval x) (.pointer (some ⟨b,0,none⟩)):=by go_simp;exact Is.mk _):wpY G P ops Q ((o,0) :: rest) (fr fl A) w :=
  Y_q h hd hg fun X=>quiet_fload (hb.of_heap (heap_laterG w X b hb.lt hG)) ho hu htd hi hx
theorem Y_floadr {rest : List (Oper × Nat)} {x : Operand} {t : TypeId} {d b : Nat} {E : TypeId} {td : TypeDesc} (hb : Blk w b E 15 (fenc s uL uI uC))
    (h:wpY G P ops Q rest (fr ((d,s.v uL uI uC) :: fl) A) w) (ho:o.op = .load t x:=by rfl) (hd:o.dst = some d:=by rfl) (hg:o.guard = none:=by rfl)
    (hu:P.underlying t = some td:=by kernel_rfl) (htd:td.isRow = true:=by rfl) (hi:(P.info? t).map (·.size) = some 15:=by kernel_rfl)
    (hx:Is ((fr fl A).eval x) (.pointer (some ⟨b,0,none⟩)):=by go_simp;exact Is.mk _):wpY G P ops Q ((o,3) :: rest) (fr fl A) w :=
  Y_r h hd hg fun X=>quiet_fload (hb.later X.2) ho hu htd hi hx
end
theorem Body_retcellvv {P : Program} {fn : Func} {R : Res} {e : Exit} {t b : Nat} {ty : TypeId} {td : TypeDesc} {cs : List Value} {w : World} {l : List (Nat × Value)} {A : Act} {g : Nat → Value} {E : TypeId} {u s : Tmp} {v2 v3 : Value} (hd : A.defers = []) (hR : R (.returned (.tuple #[.agg cs.toArray, v2, v3])) w) (hb : Blk w b E cs.length g) (hg : ∀ k, k < cs.length → cs[k]? = some (g k))
    (hu:P.underlying ty = some td) (hr:fn.results = #[.cell t ty,.tmp u,.tmp s]:=by rfl) (htd:(match td with|.struct _|.array _ _=>true|_=>false) = true:=by rfl) (hi:(P.info? ty).map (·.size) = some cs.length:=by kernel_rfl)
    (he:e = .ret∨e = .normal:=by first|exact .inl rfl|exact .inr rfl) (hv:Is ((fr l A).tmps.getD t undef) (.pointer (some ⟨b,0,none⟩)):=by go_simp;exact Is.mk _) (hv2:Is ((fr l A).tmps.getD u undef) v2:=by go_simp;exact Is.mk _) (hv3:Is ((fr l A).tmps.getD s undef) v3:=by go_simp;exact Is.mk _):Body P fn R e (fr l A) w:=by
  have key:∀ x:Later w,(results fn (fr l A).tmps).run P (w.later x) = .ok (.tuple #[.agg cs.toArray,v2,v3]) (w.later x):=by
    intro x
    have h1:=blk_cells1 hb hg x
    have h2:(fr l A).tmps[t]?.getD undef = .pointer (some ⟨b,0,none⟩):=by simpa using hv.eq
    have h3:(fr l A).tmps[u]?.getD undef = v2:=by simpa using hv2.eq
    have h4:(fr l A).tmps[s]?.getD undef = v3:=by simpa using hv3.eq
    simp [results,hr,h2,h3,h4,asAddr,run_loadVar_row (P:=P) (w.later x) b E ty cs.toArray (0,0) td h1 hu htd (by simpa using hi)]
  unfold Body
  rcases he with rfl|rfl <;> exact ⟨w,by rw [fr_defers,hd];rfl,_,key,hR⟩
theorem all6 {P:Nat→Prop} (h:P 0∧P 1∧P 2∧P 3∧P 4∧P 5):∀ k,k < 6→P k:=by
  obtain ⟨h0,h1,h2,h3,h4,h5⟩:=h
  intro k hk
  obtain rfl|rfl|rfl|rfl|rfl|rfl:k = 0∨k = 1∨k = 2∨k = 3∨k = 4∨k = 5:=by omega
  all_goals assumption
theorem right8_calls (e:Ent) (w:World):Pure Tryz.prog 78 #[e.v] w (.bool (rightB e)):=by
  refine Fn_of Tryz.func78 rfl (Nat.le_of_ble_eq_true rfl) ?_;intro A hd hA;simp only [ix,Nat.reduceAdd];replace hA:A.tmps.size = 5:=hA
  repeat' (first|refine X_pure Tryz.func105 (right_calls e _) ?_|refine X_q ?_|refine X_nil ?_|refine W_seqk (fun K hK=>?_)|refine W_seqr ?_|refine W_ret ?_|(refine X_s (fun x K hK=>?_);go_simp;refine hK _ _ (Ext.alloc _ _) ?_;clear hK K;refine X_al x ?_;generalize (World.later _ x).heap.size = bn;intro yn hn1 hn2 hn3 hn4 hn5;clear x)|go_step)
  exact Body_ret hd ⟨rfl,by simp⟩
theorem append11_calls {N:Nat→Prop} {w:World} {uL uI uC:Value} {s:RepS} (hN:∀ k,N k→k < w.heap.size) (h:VR N w uL uI uC s) (hl:s.log.length≤4096) (hr:∀ e ∈ s.log,rightB e = true) (e:Ent):Ret Tryz.prog 37 #[s.v uL uI uC,e.v] w fun r w'=>Ext w w'∧∃ v',r = .tuple #[v',.int .i64 (if s.appNo e = 0 then s.log.length else 0),.int .i64 (s.appNo e)]∧FV N w' v' (s.app e):=by
  have HN:=Lib.hid hN
  clear hN
  have HVR:=Lib.hid h
  obtain ⟨A1,c1,rfl,hc1,hcm1,-⟩:=h.rl.rd.ent
  obtain ⟨A2,c2,rfl,-⟩:=h.ri.rd.int
  obtain ⟨A3,c3,rfl,-⟩:=h.rc.rd.int
  clear h
  have RIGHT:Hid (∀ W,Pure Tryz.prog 78 #[(s.sent e).v] W (.bool (rightB (s.sent e)))):=Lib.hid (fun W=>right8_calls _ W)
  have CHECK:Hid (∀ W,Ext w W→Pure Tryz.prog 79 #[.slice A1 s.log.length c1,(s.sent e).v] W (.int .i64 (checkNo s.log (s.sent e)))):=Lib.hid (fun W hE=>rcheck_calls _ _ _ W (HVR.out.later hE).rl.rd (by omega) hr)
  clear hr
  by_cases q1:rightB (s.sent e) = true
  · rw [q1] at RIGHT
    by_cases q2:s.role = 3
    · have q2b:(s.role != 3) = false:=by simp [q2]
      by_cases q3:(s.isr.length:Int) < s.least
      · have hno:s.appNo e = 212:=by unfold RepS.appNo;rw [if_neg (by simp [q1]),if_neg (by simp [q2]),if_pos q3]
        have hap:s.app e = s:=by unfold RepS.app;rw [if_neg (by rw [hno];decide)]
        rw [hno,hap,if_neg (by decide)]
        clear hno hap
        clear q2
        refine Fn_of Tryz.func37 rfl (Nat.le_of_ble_eq_true rfl) ?_;intro A hd hA;simp only [ix,Nat.reduceAdd];replace hA:A.tmps.size = 52:=hA
        (repeat' (first|refine W_seqk (fun K hK=>?_)|refine W_seqr ?_|fail));(first|(refine X_var (fun yn bx hn1 hn2 hn3 hn4 hn5=>?_))|(refine X_s (fun x K hK=>?_);go_simp;refine hK _ _ (Ext.alloc _ _) ?_;clear hK K;refine X_al x ?_;generalize (World.later _ x).heap.size = bx;intro yn hn1 hn2 hn3 hn4 hn5;clear x));have HBbx:=Lib.hid (Blk.new hn5.out);have HEbx:=Lib.hid yn.ext;have hlbx:(World.heap w).size≤bx:=hn1;generalize World.later w yn = W0 at *;clear hn1 hn2 hn3 hn4 hn5 yn
        (skip);(first|(refine X_var (fun yn be hn1 hn2 hn3 hn4 hn5=>?_))|(refine X_s (fun x K hK=>?_);go_simp;refine hK _ _ (Ext.alloc _ _) ?_;clear hK K;refine X_al x ?_;generalize (World.later _ x).heap.size = be;intro yn hn1 hn2 hn3 hn4 hn5;clear x));have HBbe:=Lib.hid (Blk.new hn5.out);have HEbe:=Lib.hid yn.ext;have hlbe:(World.heap W0).size≤be:=hn1;generalize World.later W0 yn = W1 at *;clear hn1 hn2 hn3 hn4 hn5 yn
        (skip);(first|(refine X_var (fun yn bo hn1 hn2 hn3 hn4 hn5=>?_))|(refine X_s (fun x K hK=>?_);go_simp;refine hK _ _ (Ext.alloc _ _) ?_;clear hK K;refine X_al x ?_;generalize (World.later _ x).heap.size = bo;intro yn hn1 hn2 hn3 hn4 hn5;clear x));have HBbo:=Lib.hid (Blk.new hn5.out);have HEbo:=Lib.hid yn.ext;have hlbo:(World.heap W1).size≤bo:=hn1;generalize World.later W1 yn = W at *;clear hn1 hn2 hn3 hn4 hn5 yn
        have HBX:=Lib.hid ((fbox2 HBbx.out).later (Ext.trans HEbe.out HEbo.out))
        have HBE:=Lib.hid (HBbe.out.later HEbo.out)
        have HE:=Lib.hid (Ext.trans (Ext.trans HEbx.out HEbe.out) HEbo.out)
        have hbb:bx < be:=by have:=HBbx.out.lt;omega
        have hbb2:be < bo:=by have:=HBbe.out.lt;omega
        have hE0:=HEbx.out.size
        have hE1:=HEbe.out.size
        have HBO:=HBbo
        clear HBbx HBbo HBbe HEbx HEbo HEbe
        obtain ⟨hlt,d0,d1,d2,d3,d4,d5,d6,d7,d8,d9,d10⟩:=fcells HBX.out
        have hel:=HBE.out.lt
        repeat' (first|refine X_q ?_|refine X_nil ?_|refine W_seqk (fun K hK=>?_)|refine W_seqr ?_|go_step)
        refine X_store (off:=0) HBE.out (fun W1 hM1 hB1=>?_);replace HE:=Lib.hid (Ext.fresh HE.out hM1 (fun k hk=>by subst hk;omega));replace HBX:=Lib.hid (HBX.out.mod hM1 (fun h=>by omega));replace HBO:=Lib.hid (HBO.out.mod hM1 (fun h=>by omega));replace HBE:=Lib.hid hB1;clear hM1 hB1
        clear hlt d0 d1 d2 d3 d4 d5 d6 d7 d8 d9 d10
        clear hel
        replace HBE:=Lib.hid (HBE.out.congr (g':=fun k=>(s.sent e).cs.getD k undef) (all6 ⟨rfl,rfl,rfl,rfl,rfl,rfl⟩))
        have hel:=HBE.out.lt
        have e0:=HBE.out.cell (k:=0) (by simp)
        have e1:=HBE.out.cell (k:=1) (by simp)
        have e2:=HBE.out.cell (k:=2) (by simp)
        have e3:=HBE.out.cell (k:=3) (by simp)
        have e4:=HBE.out.cell (k:=4) (by simp)
        have e5:=HBE.out.cell (k:=5) (by simp)
        simp at e0 e1 e2 e3 e4 e5
        obtain ⟨hlt,d0,d1,d2,d3,d4,d5,d6,d7,d8,d9,d10⟩:=fcells HBX.out
        repeat' (first|refine X_pure Tryz.func78 (RIGHT.out _) ?_|refine X_q ?_|refine X_nil ?_|refine W_seqk (fun K hK=>?_)|refine W_seqr ?_|refine W_skip ?_|refine W_tt ?_|refine W_ff ?_|go_step)
        refine X_fload HBX.out ?_ (hu:=Tryz.underlying33)
        skip
        refine X_store (off:=0) HBO.out (fun W1 hM1 hB1=>?_);replace HE:=Lib.hid (Ext.fresh HE.out hM1 (fun k hk=>by subst hk;omega));replace HBO:=Lib.hid hB1;clear hM1 hB1
        replace HBO:=Lib.hid (fput HBO.out)
        repeat' (first|refine X_q ?_|refine X_nil ?_|refine W_ret ?_|go_step)
        exact Body_retcellvv (cs:=RepS.cs (s) _ _ _) hd ⟨HE.out,_,rfl,_,_,_,rfl,HVR.out.later HE.out⟩ HBO.out (fun k hk=>cs_fenc hk) Tryz.underlying33
      · generalize hck:checkNo s.log (s.sent e) = ck at *
        by_cases q4:ck = 0
        · subst q4
          by_cases q5:4096≤s.log.length
          · have q5b:(4096:Int)≤s.log.length:=by omega
            have hno:s.appNo e = 3:=by unfold RepS.appNo;rw [if_neg (by simp [q1]),if_neg (by simp [q2]),if_neg q3,hck,if_neg (by simp),if_pos q5]
            have hap:s.app e = s:=by unfold RepS.app;rw [if_neg (by rw [hno];decide)]
            rw [hno,hap,if_neg (by decide)]
            clear hno hap
            clear q2 q5 hck
            refine Fn_of Tryz.func37 rfl (Nat.le_of_ble_eq_true rfl) ?_;intro A hd hA;simp only [ix,Nat.reduceAdd];replace hA:A.tmps.size = 52:=hA
            (repeat' (first|refine W_seqk (fun K hK=>?_)|refine W_seqr ?_|fail));(first|(refine X_var (fun yn bx hn1 hn2 hn3 hn4 hn5=>?_))|(refine X_s (fun x K hK=>?_);go_simp;refine hK _ _ (Ext.alloc _ _) ?_;clear hK K;refine X_al x ?_;generalize (World.later _ x).heap.size = bx;intro yn hn1 hn2 hn3 hn4 hn5;clear x));have HBbx:=Lib.hid (Blk.new hn5.out);have HEbx:=Lib.hid yn.ext;have hlbx:(World.heap w).size≤bx:=hn1;generalize World.later w yn = W0 at *;clear hn1 hn2 hn3 hn4 hn5 yn
            (skip);(first|(refine X_var (fun yn be hn1 hn2 hn3 hn4 hn5=>?_))|(refine X_s (fun x K hK=>?_);go_simp;refine hK _ _ (Ext.alloc _ _) ?_;clear hK K;refine X_al x ?_;generalize (World.later _ x).heap.size = be;intro yn hn1 hn2 hn3 hn4 hn5;clear x));have HBbe:=Lib.hid (Blk.new hn5.out);have HEbe:=Lib.hid yn.ext;have hlbe:(World.heap W0).size≤be:=hn1;generalize World.later W0 yn = W1 at *;clear hn1 hn2 hn3 hn4 hn5 yn
            (skip);(first|(refine X_var (fun yn bo hn1 hn2 hn3 hn4 hn5=>?_))|(refine X_s (fun x K hK=>?_);go_simp;refine hK _ _ (Ext.alloc _ _) ?_;clear hK K;refine X_al x ?_;generalize (World.later _ x).heap.size = bo;intro yn hn1 hn2 hn3 hn4 hn5;clear x));have HBbo:=Lib.hid (Blk.new hn5.out);have HEbo:=Lib.hid yn.ext;have hlbo:(World.heap W1).size≤bo:=hn1;generalize World.later W1 yn = W at *;clear hn1 hn2 hn3 hn4 hn5 yn
            have HBX:=Lib.hid ((fbox2 HBbx.out).later (Ext.trans HEbe.out HEbo.out))
            have HBE:=Lib.hid (HBbe.out.later HEbo.out)
            have HE:=Lib.hid (Ext.trans (Ext.trans HEbx.out HEbe.out) HEbo.out)
            have hbb:bx < be:=by have:=HBbx.out.lt;omega
            have hbb2:be < bo:=by have:=HBbe.out.lt;omega
            have hE0:=HEbx.out.size
            have hE1:=HEbe.out.size
            have HBO:=HBbo
            clear HBbx HBbo HBbe HEbx HEbo HEbe
            obtain ⟨hlt,d0,d1,d2,d3,d4,d5,d6,d7,d8,d9,d10⟩:=fcells HBX.out
            have hel:=HBE.out.lt
            repeat' (first|refine X_q ?_|refine X_nil ?_|refine W_seqk (fun K hK=>?_)|refine W_seqr ?_|go_step)
            refine X_store (off:=0) HBE.out (fun W1 hM1 hB1=>?_);replace HE:=Lib.hid (Ext.fresh HE.out hM1 (fun k hk=>by subst hk;omega));replace HBX:=Lib.hid (HBX.out.mod hM1 (fun h=>by omega));replace HBO:=Lib.hid (HBO.out.mod hM1 (fun h=>by omega));replace HBE:=Lib.hid hB1;clear hM1 hB1
            clear hlt d0 d1 d2 d3 d4 d5 d6 d7 d8 d9 d10
            clear hel
            replace HBE:=Lib.hid (HBE.out.congr (g':=fun k=>(s.sent e).cs.getD k undef) (all6 ⟨rfl,rfl,rfl,rfl,rfl,rfl⟩))
            have hel:=HBE.out.lt
            have e0:=HBE.out.cell (k:=0) (by simp)
            have e1:=HBE.out.cell (k:=1) (by simp)
            have e2:=HBE.out.cell (k:=2) (by simp)
            have e3:=HBE.out.cell (k:=3) (by simp)
            have e4:=HBE.out.cell (k:=4) (by simp)
            have e5:=HBE.out.cell (k:=5) (by simp)
            simp at e0 e1 e2 e3 e4 e5
            obtain ⟨hlt,d0,d1,d2,d3,d4,d5,d6,d7,d8,d9,d10⟩:=fcells HBX.out
            repeat' (first|refine X_pure Tryz.func78 (RIGHT.out _) ?_|refine X_pure Tryz.func79 (CHECK.out _ HE.out) ?_|refine X_q ?_|refine X_nil ?_|refine W_seqk (fun K hK=>?_)|refine W_seqr ?_|refine W_skip ?_|refine W_tt ?_|refine W_ff ?_|go_step)
            refine X_fload HBX.out ?_ (hu:=Tryz.underlying33)
            skip
            refine X_store (off:=0) HBO.out (fun W1 hM1 hB1=>?_);replace HE:=Lib.hid (Ext.fresh HE.out hM1 (fun k hk=>by subst hk;omega));replace HBO:=Lib.hid hB1;clear hM1 hB1
            replace HBO:=Lib.hid (fput HBO.out)
            repeat' (first|refine X_q ?_|refine X_nil ?_|refine W_ret ?_|go_step)
            exact Body_retcellvv (cs:=RepS.cs (s) _ _ _) hd ⟨HE.out,_,rfl,_,_,_,rfl,HVR.out.later HE.out⟩ HBO.out (fun k hk=>cs_fenc hk) Tryz.underlying33
          · have q5b:¬ (4096:Int)≤s.log.length:=by omega
            have hno:s.appNo e = 0:=by unfold RepS.appNo;rw [if_neg (by simp [q1]),if_neg (by simp [q2]),if_neg q3,hck,if_neg (by simp),if_neg q5]
            have hap:s.app e = { s with log:=s.log ++ [s.sent e] }:=by unfold RepS.app;rw [if_pos hno]
            rw [hno,hap,if_pos rfl]
            clear hno hap q2 hck
            have q5c:s.log.length < 4096:=by omega
            clear q5
            refine Fn_of Tryz.func37 rfl (Nat.le_of_ble_eq_true rfl) ?_;intro A hd hA;simp only [ix,Nat.reduceAdd];replace hA:A.tmps.size = 52:=hA
            (repeat' (first|refine W_seqk (fun K hK=>?_)|refine W_seqr ?_|fail));(first|(refine X_var (fun yn bx hn1 hn2 hn3 hn4 hn5=>?_))|(refine X_s (fun x K hK=>?_);go_simp;refine hK _ _ (Ext.alloc _ _) ?_;clear hK K;refine X_al x ?_;generalize (World.later _ x).heap.size = bx;intro yn hn1 hn2 hn3 hn4 hn5;clear x));have HBbx:=Lib.hid (Blk.new hn5.out);have HEbx:=Lib.hid yn.ext;have hlbx:(World.heap w).size≤bx:=hn1;generalize World.later w yn = W0 at *;clear hn1 hn2 hn3 hn4 hn5 yn
            (skip);(first|(refine X_var (fun yn be hn1 hn2 hn3 hn4 hn5=>?_))|(refine X_s (fun x K hK=>?_);go_simp;refine hK _ _ (Ext.alloc _ _) ?_;clear hK K;refine X_al x ?_;generalize (World.later _ x).heap.size = be;intro yn hn1 hn2 hn3 hn4 hn5;clear x));have HBbe:=Lib.hid (Blk.new hn5.out);have HEbe:=Lib.hid yn.ext;have hlbe:(World.heap W0).size≤be:=hn1;generalize World.later W0 yn = W1 at *;clear hn1 hn2 hn3 hn4 hn5 yn
            (skip);(first|(refine X_var (fun yn bo hn1 hn2 hn3 hn4 hn5=>?_))|(refine X_s (fun x K hK=>?_);go_simp;refine hK _ _ (Ext.alloc _ _) ?_;clear hK K;refine X_al x ?_;generalize (World.later _ x).heap.size = bo;intro yn hn1 hn2 hn3 hn4 hn5;clear x));have HBbo:=Lib.hid (Blk.new hn5.out);have HEbo:=Lib.hid yn.ext;have hlbo:(World.heap W1).size≤bo:=hn1;generalize World.later W1 yn = W at *;clear hn1 hn2 hn3 hn4 hn5 yn
            have HBX:=Lib.hid ((fbox2 HBbx.out).later (Ext.trans HEbe.out HEbo.out))
            have HBE:=Lib.hid (HBbe.out.later HEbo.out)
            have HE:=Lib.hid (Ext.trans (Ext.trans HEbx.out HEbe.out) HEbo.out)
            have hbb:bx < be:=by have:=HBbx.out.lt;omega
            have hbb2:be < bo:=by have:=HBbe.out.lt;omega
            have hE0:=HEbx.out.size
            have hE1:=HEbe.out.size
            have HBO:=HBbo
            clear HBbx HBbo HBbe HEbx HEbo HEbe
            obtain ⟨hlt,d0,d1,d2,d3,d4,d5,d6,d7,d8,d9,d10⟩:=fcells HBX.out
            have hel:=HBE.out.lt
            repeat' (first|refine X_q ?_|refine X_nil ?_|refine W_seqk (fun K hK=>?_)|refine W_seqr ?_|go_step)
            refine X_store (off:=0) HBE.out (fun W1 hM1 hB1=>?_);replace HE:=Lib.hid (Ext.fresh HE.out hM1 (fun k hk=>by subst hk;omega));replace HBX:=Lib.hid (HBX.out.mod hM1 (fun h=>by omega));replace HBO:=Lib.hid (HBO.out.mod hM1 (fun h=>by omega));replace HBE:=Lib.hid hB1;clear hM1 hB1
            clear hlt d0 d1 d2 d3 d4 d5 d6 d7 d8 d9 d10
            clear hel
            replace HBE:=Lib.hid (HBE.out.congr (g':=fun k=>(s.sent e).cs.getD k undef) (all6 ⟨rfl,rfl,rfl,rfl,rfl,rfl⟩))
            have hel:=HBE.out.lt
            have e0:=HBE.out.cell (k:=0) (by simp)
            have e1:=HBE.out.cell (k:=1) (by simp)
            have e2:=HBE.out.cell (k:=2) (by simp)
            have e3:=HBE.out.cell (k:=3) (by simp)
            have e4:=HBE.out.cell (k:=4) (by simp)
            have e5:=HBE.out.cell (k:=5) (by simp)
            simp at e0 e1 e2 e3 e4 e5
            obtain ⟨hlt,d0,d1,d2,d3,d4,d5,d6,d7,d8,d9,d10⟩:=fcells HBX.out
            repeat' (first|refine X_pure Tryz.func78 (RIGHT.out _) ?_|refine X_pure Tryz.func79 (CHECK.out _ HE.out) ?_|refine X_q ?_|refine X_nil ?_|refine W_seqk (fun K hK=>?_)|refine W_seqr ?_|refine W_skip ?_|refine W_ff ?_|go_step)
            obtain ⟨Wf,hWf⟩:∃ Wf:World,Hid (Ext w Wf)∧True:=⟨_,HE,trivial⟩
            clear hWf Wf
            have HVL:=Lib.hid (HVR.out.later HE.out).rl.rd
            have hbol:=HBO.out.lt
            refine W_fork [5,7] (by kernel_rfl) ?_
            refine F_q (i:=0) ?_
            refine F_q (i:=1) ?_
            refine F_q (i:=3) ?_
            refine F_two (i:=2) (j:=4) (fun x K hK=>?_) (fun x K hK=>?_)
            · refine F_copy0 elemEnt HVL.out (by omega) (by unfold maxLen;omega) x K (fun y v' hE hO hF=>hK v' _ _ hE (Ext.refl _) ?_)
              clear hK K hE x
              refine F_s (i:=4) (fun x K hK=>?_)
              go_simp;refine hK _ _ _ (Ext.alloc _ _) (Ext.refl _) ?_;clear hK K;refine F_al x ?_;generalize (World.later _ x).heap.size = bk;intro yk hk1 hk2 hk3 hk4 hk5;clear x
              refine F_push (i:=5) (w0:=W1) (by simp) elemEnt (hO.later (by simp)) hF (Rd.one (x:=s.sent e) hk2 hk3 rfl) (by simp;omega) (by unfold maxLen;simp;omega) (fun y' v' hO hF=>?_)
              have HO:=Lib.hid hO
              have HF:=Lib.hid hF
              clear hO hF hk1 hk2 hk3 hk4 hk5
              have hE9:=y'.ext
              generalize World.later _ y' = W9 at *
              replace HE:=Lib.hid (Ext.trans HE.out hE9)
              replace HBX:=Lib.hid (HBX.out.later hE9)
              replace HBO:=Lib.hid (HBO.out.later hE9)
              clear hE9
              obtain ⟨A9,m9,c9,rfl⟩:=own_slice HO.out
              refine F_q (i:=6) ?_
              refine F_alts (i:=7) (rs:=[]) (S_cons ?_ S_end)
              refine S_store (off:=4) HBX.out (fun W10 hM10 hB10=>?_)
              refine F_nil (by kernel_rfl) (hK _ _ ?_)
              replace HE:=Lib.hid (Ext.fresh HE.out hM10 (fun k hk=>by subst hk;omega))
              replace HBO:=Lib.hid (HBO.out.mod hM10 (fun h=>by omega))
              have HL:=Lib.hid ((HO.out.rdt Ent.len).mod hM10 (fun k hk he=>by subst he;have:=HF.out _ hk;omega))
              replace HBX:=Lib.hid (hB10.congr (g':=fenc { s with log:=s.log ++ [s.sent e] } (.slice A9 m9 c9) (.slice A2 s.isr.length c2) (.slice A3 s.counts.length c3)) (all15 ⟨rfl,rfl,rfl,rfl,rfl,rfl,rfl,rfl,rfl,rfl,rfl,rfl,rfl,rfl,rfl⟩))
              obtain rfl:m9 = s.log.length + 1:=by have:=RdT.length HL.out;simp at this;omega
              have hsub:((s.log.length + 1:Nat):Int) - 1 = s.log.length:=by omega
              clear hM10 hB10 hel e0 e1 e2 e3 e4 e5
              clear hlt d0 d1 d2 d3 d4 d5 d6 d7 d8 d9 d10
              have hbo9:=HBO.out.lt
              obtain ⟨hlt,d0,d1,d2,d3,d4,d5,d6,d7,d8,d9,d10⟩:=fcells HBX.out
              repeat' (first|refine W_seqk (fun K hK=>?_)|fail)
              obtain ⟨G,hG⟩:∃ G:Nat→Prop,G = (fun k=>k = bo):=⟨_,rfl⟩;have HGo:Hid (G bo):=Lib.hid (by subst hG;rfl);have hGbx:¬ G bx:=(by subst hG;show ¬ bx = bo;omega);clear hG
              refine W_drawG G [(0,3),(1,0),(2,0),(3,0),(4,0),(5,2),(6,0),(7,0)] (by kernel_rfl) (by kernel_rfl) ?_
              (first|refine Y_floadr HBX.out ?_ (hu:=Tryz.underlying33)|refine Y_fload HBX.out hGbx ?_ (hu:=Tryz.underlying33))
              repeat' (first|refine Y_q ?_|fail)
              refine Y_store (off:=0) HBO.out HGo.out (fun W1 hM1 hG1 hB1=>?_);clear hG1;replace HE:=Lib.hid (Ext.fresh HE.out hM1 (fun k hk=>by subst hk;omega));replace HL:=Lib.hid (HL.out.mod hM1 (fun k hk he=>by subst he;have:=HF.out _ hk;omega));replace HBO:=Lib.hid hB1;clear hM1 hB1
              replace HBO:=Lib.hid (fput HBO.out)
              repeat' (first|refine Y_q ?_|refine Y_nil ?_)
              repeat' (first|refine W_ret ?_|go_step)
              exact Body_retcellvv (cs:=RepS.cs { s with log:=s.log ++ [s.sent e] } (.slice A9 (s.log.length + 1) c9) (.slice A2 s.isr.length c2) (.slice A3 s.counts.length c3)) hd ⟨HE.out,_,rfl,_,_,_,rfl,⟨HL.out.rd,fun k hk=>⟨fun hn=>by have:=HN.out k hn;have:=HF.out k hk;omega,HL.out.lt k hk⟩⟩,(HVR.out.later HE.out).ri,(HVR.out.later HE.out).rc⟩ HBO.out (fun k hk=>cs_fenc hk) Tryz.underlying33
            · go_simp;refine hK _ _ _ (Ext.alloc _ _) (Ext.refl _) ?_;clear hK K;refine F_al x ?_;generalize (World.later _ x).heap.size = bk;intro yk hk1 hk2 hk3 hk4 hk5;clear x
              refine F_s (i:=2) (fun x K hK=>?_)
              refine F_copy0 elemEnt (HVL.out.later yk.ext) (by omega) (by unfold maxLen;omega) x K (fun y v' hE hO hF=>hK v' _ _ hE (Ext.refl _) ?_)
              clear hK K hE x
              refine F_push (i:=5) (w0:=W1) (by simp) elemEnt hO (fun g hg=>Nat.le_trans yk.ext.size (hF g hg)) ((Rd.one (x:=s.sent e) hk2 hk3 rfl).later (by simp)) (by simp;omega) (by unfold maxLen;simp;omega) (fun y' v' hO hF=>?_)
              have HO:=Lib.hid hO
              have HF:=Lib.hid hF
              clear hO hF hk1 hk2 hk3 hk4 hk5
              have hE9:=y'.ext
              generalize World.later _ y' = W9 at *
              replace HE:=Lib.hid (Ext.trans HE.out hE9)
              replace HBX:=Lib.hid (HBX.out.later hE9)
              replace HBO:=Lib.hid (HBO.out.later hE9)
              clear hE9
              obtain ⟨A9,m9,c9,rfl⟩:=own_slice HO.out
              refine F_q (i:=6) ?_
              refine F_alts (i:=7) (rs:=[]) (S_cons ?_ S_end)
              refine S_store (off:=4) HBX.out (fun W10 hM10 hB10=>?_)
              refine F_nil (by kernel_rfl) (hK _ _ ?_)
              replace HE:=Lib.hid (Ext.fresh HE.out hM10 (fun k hk=>by subst hk;omega))
              replace HBO:=Lib.hid (HBO.out.mod hM10 (fun h=>by omega))
              have HL:=Lib.hid ((HO.out.rdt Ent.len).mod hM10 (fun k hk he=>by subst he;have:=HF.out _ hk;omega))
              replace HBX:=Lib.hid (hB10.congr (g':=fenc { s with log:=s.log ++ [s.sent e] } (.slice A9 m9 c9) (.slice A2 s.isr.length c2) (.slice A3 s.counts.length c3)) (all15 ⟨rfl,rfl,rfl,rfl,rfl,rfl,rfl,rfl,rfl,rfl,rfl,rfl,rfl,rfl,rfl⟩))
              obtain rfl:m9 = s.log.length + 1:=by have:=RdT.length HL.out;simp at this;omega
              have hsub:((s.log.length + 1:Nat):Int) - 1 = s.log.length:=by omega
              clear hM10 hB10 hel e0 e1 e2 e3 e4 e5
              clear hlt d0 d1 d2 d3 d4 d5 d6 d7 d8 d9 d10
              have hbo9:=HBO.out.lt
              obtain ⟨hlt,d0,d1,d2,d3,d4,d5,d6,d7,d8,d9,d10⟩:=fcells HBX.out
              repeat' (first|refine W_seqk (fun K hK=>?_)|fail)
              obtain ⟨G,hG⟩:∃ G:Nat→Prop,G = (fun k=>k = bo):=⟨_,rfl⟩;have HGo:Hid (G bo):=Lib.hid (by subst hG;rfl);have hGbx:¬ G bx:=(by subst hG;show ¬ bx = bo;omega);clear hG
              refine W_drawG G [(0,3),(1,0),(2,0),(3,0),(4,0),(5,2),(6,0),(7,0)] (by kernel_rfl) (by kernel_rfl) ?_
              (first|refine Y_floadr HBX.out ?_ (hu:=Tryz.underlying33)|refine Y_fload HBX.out hGbx ?_ (hu:=Tryz.underlying33))
              repeat' (first|refine Y_q ?_|fail)
              refine Y_store (off:=0) HBO.out HGo.out (fun W1 hM1 hG1 hB1=>?_);clear hG1;replace HE:=Lib.hid (Ext.fresh HE.out hM1 (fun k hk=>by subst hk;omega));replace HL:=Lib.hid (HL.out.mod hM1 (fun k hk he=>by subst he;have:=HF.out _ hk;omega));replace HBO:=Lib.hid hB1;clear hM1 hB1
              replace HBO:=Lib.hid (fput HBO.out)
              repeat' (first|refine Y_q ?_|refine Y_nil ?_)
              repeat' (first|refine W_ret ?_|go_step)
              exact Body_retcellvv (cs:=RepS.cs { s with log:=s.log ++ [s.sent e] } (.slice A9 (s.log.length + 1) c9) (.slice A2 s.isr.length c2) (.slice A3 s.counts.length c3)) hd ⟨HE.out,_,rfl,_,_,_,rfl,⟨HL.out.rd,fun k hk=>⟨fun hn=>by have:=HN.out k hn;have:=HF.out k hk;omega,HL.out.lt k hk⟩⟩,(HVR.out.later HE.out).ri,(HVR.out.later HE.out).rc⟩ HBO.out (fun k hk=>cs_fenc hk) Tryz.underlying33
        · have q4b:(ck != 0) = true:=by simp [q4]
          have hno:s.appNo e = ck:=by unfold RepS.appNo;rw [if_neg (by simp [q1]),if_neg (by simp [q2]),if_neg q3,hck,if_pos q4]
          have hap:s.app e = s:=by unfold RepS.app;rw [if_neg (by rw [hno];exact q4)]
          rw [hno,hap,if_neg q4]
          clear hno hap
          clear q2 hck
          refine Fn_of Tryz.func37 rfl (Nat.le_of_ble_eq_true rfl) ?_;intro A hd hA;simp only [ix,Nat.reduceAdd];replace hA:A.tmps.size = 52:=hA
          (repeat' (first|refine W_seqk (fun K hK=>?_)|refine W_seqr ?_|fail));(first|(refine X_var (fun yn bx hn1 hn2 hn3 hn4 hn5=>?_))|(refine X_s (fun x K hK=>?_);go_simp;refine hK _ _ (Ext.alloc _ _) ?_;clear hK K;refine X_al x ?_;generalize (World.later _ x).heap.size = bx;intro yn hn1 hn2 hn3 hn4 hn5;clear x));have HBbx:=Lib.hid (Blk.new hn5.out);have HEbx:=Lib.hid yn.ext;have hlbx:(World.heap w).size≤bx:=hn1;generalize World.later w yn = W0 at *;clear hn1 hn2 hn3 hn4 hn5 yn
          (skip);(first|(refine X_var (fun yn be hn1 hn2 hn3 hn4 hn5=>?_))|(refine X_s (fun x K hK=>?_);go_simp;refine hK _ _ (Ext.alloc _ _) ?_;clear hK K;refine X_al x ?_;generalize (World.later _ x).heap.size = be;intro yn hn1 hn2 hn3 hn4 hn5;clear x));have HBbe:=Lib.hid (Blk.new hn5.out);have HEbe:=Lib.hid yn.ext;have hlbe:(World.heap W0).size≤be:=hn1;generalize World.later W0 yn = W1 at *;clear hn1 hn2 hn3 hn4 hn5 yn
          (skip);(first|(refine X_var (fun yn bo hn1 hn2 hn3 hn4 hn5=>?_))|(refine X_s (fun x K hK=>?_);go_simp;refine hK _ _ (Ext.alloc _ _) ?_;clear hK K;refine X_al x ?_;generalize (World.later _ x).heap.size = bo;intro yn hn1 hn2 hn3 hn4 hn5;clear x));have HBbo:=Lib.hid (Blk.new hn5.out);have HEbo:=Lib.hid yn.ext;have hlbo:(World.heap W1).size≤bo:=hn1;generalize World.later W1 yn = W at *;clear hn1 hn2 hn3 hn4 hn5 yn
          have HBX:=Lib.hid ((fbox2 HBbx.out).later (Ext.trans HEbe.out HEbo.out))
          have HBE:=Lib.hid (HBbe.out.later HEbo.out)
          have HE:=Lib.hid (Ext.trans (Ext.trans HEbx.out HEbe.out) HEbo.out)
          have hbb:bx < be:=by have:=HBbx.out.lt;omega
          have hbb2:be < bo:=by have:=HBbe.out.lt;omega
          have hE0:=HEbx.out.size
          have hE1:=HEbe.out.size
          have HBO:=HBbo
          clear HBbx HBbo HBbe HEbx HEbo HEbe
          obtain ⟨hlt,d0,d1,d2,d3,d4,d5,d6,d7,d8,d9,d10⟩:=fcells HBX.out
          have hel:=HBE.out.lt
          repeat' (first|refine X_q ?_|refine X_nil ?_|refine W_seqk (fun K hK=>?_)|refine W_seqr ?_|go_step)
          refine X_store (off:=0) HBE.out (fun W1 hM1 hB1=>?_);replace HE:=Lib.hid (Ext.fresh HE.out hM1 (fun k hk=>by subst hk;omega));replace HBX:=Lib.hid (HBX.out.mod hM1 (fun h=>by omega));replace HBO:=Lib.hid (HBO.out.mod hM1 (fun h=>by omega));replace HBE:=Lib.hid hB1;clear hM1 hB1
          clear hlt d0 d1 d2 d3 d4 d5 d6 d7 d8 d9 d10
          clear hel
          replace HBE:=Lib.hid (HBE.out.congr (g':=fun k=>(s.sent e).cs.getD k undef) (all6 ⟨rfl,rfl,rfl,rfl,rfl,rfl⟩))
          have hel:=HBE.out.lt
          have e0:=HBE.out.cell (k:=0) (by simp)
          have e1:=HBE.out.cell (k:=1) (by simp)
          have e2:=HBE.out.cell (k:=2) (by simp)
          have e3:=HBE.out.cell (k:=3) (by simp)
          have e4:=HBE.out.cell (k:=4) (by simp)
          have e5:=HBE.out.cell (k:=5) (by simp)
          simp at e0 e1 e2 e3 e4 e5
          obtain ⟨hlt,d0,d1,d2,d3,d4,d5,d6,d7,d8,d9,d10⟩:=fcells HBX.out
          repeat' (first|refine X_pure Tryz.func78 (RIGHT.out _) ?_|refine X_pure Tryz.func79 (CHECK.out _ HE.out) ?_|refine X_q ?_|refine X_nil ?_|refine W_seqk (fun K hK=>?_)|refine W_seqr ?_|refine W_skip ?_|refine W_tt ?_|refine W_ff ?_|go_step)
          refine X_fload HBX.out ?_ (hu:=Tryz.underlying33)
          repeat' (first|refine X_q ?_|fail)
          refine X_store (off:=0) HBO.out (fun W1 hM1 hB1=>?_);replace HE:=Lib.hid (Ext.fresh HE.out hM1 (fun k hk=>by subst hk;omega));replace HBO:=Lib.hid hB1;clear hM1 hB1
          replace HBO:=Lib.hid (fput HBO.out)
          repeat' (first|refine X_q ?_|refine X_nil ?_|refine W_ret ?_|go_step)
          exact Body_retcellvv (cs:=RepS.cs (s) _ _ _) hd ⟨HE.out,_,rfl,_,_,_,rfl,HVR.out.later HE.out⟩ HBO.out (fun k hk=>cs_fenc hk) Tryz.underlying33
    · have q2b:(s.role != 3) = true:=by simp [q2]
      have hno:s.appNo e = 211:=by unfold RepS.appNo;rw [if_neg (by simp [q1]),if_pos q2]
      have hap:s.app e = s:=by unfold RepS.app;rw [if_neg (by rw [hno];decide)]
      rw [hno,hap,if_neg (by decide)]
      clear hno hap
      refine Fn_of Tryz.func37 rfl (Nat.le_of_ble_eq_true rfl) ?_;intro A hd hA;simp only [ix,Nat.reduceAdd];replace hA:A.tmps.size = 52:=hA
      (repeat' (first|refine W_seqk (fun K hK=>?_)|refine W_seqr ?_|fail));(first|(refine X_var (fun yn bx hn1 hn2 hn3 hn4 hn5=>?_))|(refine X_s (fun x K hK=>?_);go_simp;refine hK _ _ (Ext.alloc _ _) ?_;clear hK K;refine X_al x ?_;generalize (World.later _ x).heap.size = bx;intro yn hn1 hn2 hn3 hn4 hn5;clear x));have HBbx:=Lib.hid (Blk.new hn5.out);have HEbx:=Lib.hid yn.ext;have hlbx:(World.heap w).size≤bx:=hn1;generalize World.later w yn = W0 at *;clear hn1 hn2 hn3 hn4 hn5 yn
      (skip);(first|(refine X_var (fun yn be hn1 hn2 hn3 hn4 hn5=>?_))|(refine X_s (fun x K hK=>?_);go_simp;refine hK _ _ (Ext.alloc _ _) ?_;clear hK K;refine X_al x ?_;generalize (World.later _ x).heap.size = be;intro yn hn1 hn2 hn3 hn4 hn5;clear x));have HBbe:=Lib.hid (Blk.new hn5.out);have HEbe:=Lib.hid yn.ext;have hlbe:(World.heap W0).size≤be:=hn1;generalize World.later W0 yn = W1 at *;clear hn1 hn2 hn3 hn4 hn5 yn
      (skip);(first|(refine X_var (fun yn bo hn1 hn2 hn3 hn4 hn5=>?_))|(refine X_s (fun x K hK=>?_);go_simp;refine hK _ _ (Ext.alloc _ _) ?_;clear hK K;refine X_al x ?_;generalize (World.later _ x).heap.size = bo;intro yn hn1 hn2 hn3 hn4 hn5;clear x));have HBbo:=Lib.hid (Blk.new hn5.out);have HEbo:=Lib.hid yn.ext;have hlbo:(World.heap W1).size≤bo:=hn1;generalize World.later W1 yn = W at *;clear hn1 hn2 hn3 hn4 hn5 yn
      have HBX:=Lib.hid ((fbox2 HBbx.out).later (Ext.trans HEbe.out HEbo.out))
      have HBE:=Lib.hid (HBbe.out.later HEbo.out)
      have HE:=Lib.hid (Ext.trans (Ext.trans HEbx.out HEbe.out) HEbo.out)
      have hbb:bx < be:=by have:=HBbx.out.lt;omega
      have hbb2:be < bo:=by have:=HBbe.out.lt;omega
      have hE0:=HEbx.out.size
      have hE1:=HEbe.out.size
      have HBO:=HBbo
      clear HBbx HBbo HBbe HEbx HEbo HEbe
      obtain ⟨hlt,d0,d1,d2,d3,d4,d5,d6,d7,d8,d9,d10⟩:=fcells HBX.out
      have hel:=HBE.out.lt
      repeat' (first|refine X_q ?_|refine X_nil ?_|refine W_seqk (fun K hK=>?_)|refine W_seqr ?_|go_step)
      refine X_store (off:=0) HBE.out (fun W1 hM1 hB1=>?_);replace HE:=Lib.hid (Ext.fresh HE.out hM1 (fun k hk=>by subst hk;omega));replace HBX:=Lib.hid (HBX.out.mod hM1 (fun h=>by omega));replace HBO:=Lib.hid (HBO.out.mod hM1 (fun h=>by omega));replace HBE:=Lib.hid hB1;clear hM1 hB1
      clear hlt d0 d1 d2 d3 d4 d5 d6 d7 d8 d9 d10
      clear hel
      replace HBE:=Lib.hid (HBE.out.congr (g':=fun k=>(s.sent e).cs.getD k undef) (all6 ⟨rfl,rfl,rfl,rfl,rfl,rfl⟩))
      have hel:=HBE.out.lt
      have e0:=HBE.out.cell (k:=0) (by simp)
      have e1:=HBE.out.cell (k:=1) (by simp)
      have e2:=HBE.out.cell (k:=2) (by simp)
      have e3:=HBE.out.cell (k:=3) (by simp)
      have e4:=HBE.out.cell (k:=4) (by simp)
      have e5:=HBE.out.cell (k:=5) (by simp)
      simp at e0 e1 e2 e3 e4 e5
      obtain ⟨hlt,d0,d1,d2,d3,d4,d5,d6,d7,d8,d9,d10⟩:=fcells HBX.out
      repeat' (first|refine X_pure Tryz.func78 (RIGHT.out _) ?_|refine X_q ?_|refine X_nil ?_|refine W_seqk (fun K hK=>?_)|refine W_seqr ?_|refine W_skip ?_|refine W_tt ?_|refine W_ff ?_|go_step)
      refine X_fload HBX.out ?_ (hu:=Tryz.underlying33)
      skip
      refine X_store (off:=0) HBO.out (fun W1 hM1 hB1=>?_);replace HE:=Lib.hid (Ext.fresh HE.out hM1 (fun k hk=>by subst hk;omega));replace HBO:=Lib.hid hB1;clear hM1 hB1
      replace HBO:=Lib.hid (fput HBO.out)
      repeat' (first|refine X_q ?_|refine X_nil ?_|refine W_ret ?_|go_step)
      exact Body_retcellvv (cs:=RepS.cs (s) _ _ _) hd ⟨HE.out,_,rfl,_,_,_,rfl,HVR.out.later HE.out⟩ HBO.out (fun k hk=>cs_fenc hk) Tryz.underlying33
  · have q1f:rightB (s.sent e) = false:=by simpa using q1
    rw [q1f] at RIGHT
    have hno:s.appNo e = 2:=by unfold RepS.appNo;rw [if_pos q1f]
    have hap:s.app e = s:=by unfold RepS.app;rw [if_neg (by rw [hno];decide)]
    rw [hno,hap,if_neg (by decide)]
    clear hno hap
    refine Fn_of Tryz.func37 rfl (Nat.le_of_ble_eq_true rfl) ?_;intro A hd hA;simp only [ix,Nat.reduceAdd];replace hA:A.tmps.size = 52:=hA
    (repeat' (first|refine W_seqk (fun K hK=>?_)|refine W_seqr ?_|fail));(first|(refine X_var (fun yn bx hn1 hn2 hn3 hn4 hn5=>?_))|(refine X_s (fun x K hK=>?_);go_simp;refine hK _ _ (Ext.alloc _ _) ?_;clear hK K;refine X_al x ?_;generalize (World.later _ x).heap.size = bx;intro yn hn1 hn2 hn3 hn4 hn5;clear x));have HBbx:=Lib.hid (Blk.new hn5.out);have HEbx:=Lib.hid yn.ext;have hlbx:(World.heap w).size≤bx:=hn1;generalize World.later w yn = W0 at *;clear hn1 hn2 hn3 hn4 hn5 yn
    (skip);(first|(refine X_var (fun yn be hn1 hn2 hn3 hn4 hn5=>?_))|(refine X_s (fun x K hK=>?_);go_simp;refine hK _ _ (Ext.alloc _ _) ?_;clear hK K;refine X_al x ?_;generalize (World.later _ x).heap.size = be;intro yn hn1 hn2 hn3 hn4 hn5;clear x));have HBbe:=Lib.hid (Blk.new hn5.out);have HEbe:=Lib.hid yn.ext;have hlbe:(World.heap W0).size≤be:=hn1;generalize World.later W0 yn = W1 at *;clear hn1 hn2 hn3 hn4 hn5 yn
    (skip);(first|(refine X_var (fun yn bo hn1 hn2 hn3 hn4 hn5=>?_))|(refine X_s (fun x K hK=>?_);go_simp;refine hK _ _ (Ext.alloc _ _) ?_;clear hK K;refine X_al x ?_;generalize (World.later _ x).heap.size = bo;intro yn hn1 hn2 hn3 hn4 hn5;clear x));have HBbo:=Lib.hid (Blk.new hn5.out);have HEbo:=Lib.hid yn.ext;have hlbo:(World.heap W1).size≤bo:=hn1;generalize World.later W1 yn = W at *;clear hn1 hn2 hn3 hn4 hn5 yn
    have HBX:=Lib.hid ((fbox2 HBbx.out).later (Ext.trans HEbe.out HEbo.out))
    have HBE:=Lib.hid (HBbe.out.later HEbo.out)
    have HE:=Lib.hid (Ext.trans (Ext.trans HEbx.out HEbe.out) HEbo.out)
    have hbb:bx < be:=by have:=HBbx.out.lt;omega
    have hbb2:be < bo:=by have:=HBbe.out.lt;omega
    have hE0:=HEbx.out.size
    have hE1:=HEbe.out.size
    have HBO:=HBbo
    clear HBbx HBbo HBbe HEbx HEbo HEbe
    obtain ⟨hlt,d0,d1,d2,d3,d4,d5,d6,d7,d8,d9,d10⟩:=fcells HBX.out
    have hel:=HBE.out.lt
    repeat' (first|refine X_q ?_|refine X_nil ?_|refine W_seqk (fun K hK=>?_)|refine W_seqr ?_|go_step)
    refine X_store (off:=0) HBE.out (fun W1 hM1 hB1=>?_);replace HE:=Lib.hid (Ext.fresh HE.out hM1 (fun k hk=>by subst hk;omega));replace HBX:=Lib.hid (HBX.out.mod hM1 (fun h=>by omega));replace HBO:=Lib.hid (HBO.out.mod hM1 (fun h=>by omega));replace HBE:=Lib.hid hB1;clear hM1 hB1
    clear hlt d0 d1 d2 d3 d4 d5 d6 d7 d8 d9 d10
    clear hel
    replace HBE:=Lib.hid (HBE.out.congr (g':=fun k=>(s.sent e).cs.getD k undef) (all6 ⟨rfl,rfl,rfl,rfl,rfl,rfl⟩))
    have hel:=HBE.out.lt
    have e0:=HBE.out.cell (k:=0) (by simp)
    have e1:=HBE.out.cell (k:=1) (by simp)
    have e2:=HBE.out.cell (k:=2) (by simp)
    have e3:=HBE.out.cell (k:=3) (by simp)
    have e4:=HBE.out.cell (k:=4) (by simp)
    have e5:=HBE.out.cell (k:=5) (by simp)
    simp at e0 e1 e2 e3 e4 e5
    obtain ⟨hlt,d0,d1,d2,d3,d4,d5,d6,d7,d8,d9,d10⟩:=fcells HBX.out
    repeat' (first|refine X_pure Tryz.func78 (RIGHT.out _) ?_|refine X_q ?_|refine X_nil ?_|refine W_seqk (fun K hK=>?_)|refine W_seqr ?_|refine W_tt ?_|go_step)
    refine X_fload HBX.out ?_ (hu:=Tryz.underlying33)
    skip
    refine X_store (off:=0) HBO.out (fun W1 hM1 hB1=>?_);replace HE:=Lib.hid (Ext.fresh HE.out hM1 (fun k hk=>by subst hk;omega));replace HBO:=Lib.hid hB1;clear hM1 hB1
    replace HBO:=Lib.hid (fput HBO.out)
    repeat' (first|refine X_q ?_|refine X_nil ?_|refine W_ret ?_|go_step)
    exact Body_retcellvv (cs:=RepS.cs (s) _ _ _) hd ⟨HE.out,_,rfl,_,_,_,rfl,HVR.out.later HE.out⟩ HBO.out (fun k hk=>cs_fenc hk) Tryz.underlying33
end Go.Ws
