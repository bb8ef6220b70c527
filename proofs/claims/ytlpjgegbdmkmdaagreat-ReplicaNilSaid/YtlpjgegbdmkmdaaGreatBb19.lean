/- Lemmas for the statements of this layer (joined texts); no condition. -/
import Derived.Test.YtlpjgegbdmkmdaaGreatBb03
import Derived.Test.YtlpjgegbdmkmdaaGreatBb14
import Derived.Test.YtlpjgegbdmkmdaaGreatBb18
namespace Go.Ws
open Go Go.RowKit Go.Proofs
set_option maxHeartbeats 4000000
set_option maxRecDepth 100000
set_option linter.unusedVariables false
set_option linter.unusedSimpArgs false
theorem alln5 {P:Nat→Prop} (h:P 0∧P 1∧P 2∧P 3∧P 4):∀ k,k < 5→P k:=by
  obtain ⟨h0,h1,h2,h3,h4⟩:=h
  intro k hk
  obtain rfl|rfl|rfl|rfl|rfl:k = 0∨k = 1∨k = 2∨k = 3∨k = 4:=by omega
  all_goals assumption
theorem alln8 {P:Nat→Prop} (h:P 0∧P 1∧P 2∧P 3∧P 4∧P 5∧P 6∧P 7):∀ k,k < 8→P k:=by
  obtain ⟨h0,h1,h2,h3,h4,h5,h6,h7⟩:=h
  intro k hk
  obtain rfl|rfl|rfl|rfl|rfl|rfl|rfl|rfl:k = 0∨k = 1∨k = 2∨k = 3∨k = 4∨k = 5∨k = 6∨k = 7:=by omega
  all_goals assumption
def smallB (n:Int):Bool:=decide (-9≤n) && decide (n≤9)
theorem small_calls (n:Int) (w:World):Pure Tryz.prog 73 #[.int .i64 n] w (.bool (smallB n)):=by
  by_cases h1:-9≤n
  · by_cases h2:n≤9
    · have h:smallB n = true:=by simp [smallB];omega
      rw [h]
      refine Fn_of Tryz.func73 rfl (Nat.le_of_ble_eq_true rfl) ?_;intro A hd hA;simp only [ix,Nat.reduceAdd];replace hA:A.tmps.size = 9:=hA
      repeat' (first|refine X_gt ?_|refine X_q ?_|refine X_nil ?_|refine W_seqk (fun K hK=>?_)|refine W_seqr ?_|refine W_ret ?_|go_step)
      exact Body_ret hd ⟨rfl,by simp⟩
    · have h:smallB n = false:=by simp [smallB];omega
      rw [h]
      refine Fn_of Tryz.func73 rfl (Nat.le_of_ble_eq_true rfl) ?_;intro A hd hA;simp only [ix,Nat.reduceAdd];replace hA:A.tmps.size = 9:=hA
      repeat' (first|refine X_gt ?_|refine X_q ?_|refine X_nil ?_|refine W_seqk (fun K hK=>?_)|refine W_seqr ?_|refine W_ret ?_|go_step)
      exact Body_ret hd ⟨rfl,by simp⟩
  · have h:smallB n = false:=by simp [smallB];omega
    rw [h]
    refine Fn_of Tryz.func73 rfl (Nat.le_of_ble_eq_true rfl) ?_;intro A hd hA;simp only [ix,Nat.reduceAdd];replace hA:A.tmps.size = 9:=hA
    repeat' (first|refine X_q ?_|refine X_g ?_|refine X_nil ?_|refine W_seqk (fun K hK=>?_)|refine W_seqr ?_|refine W_ret ?_|go_step)
    exact Body_ret hd ⟨rfl,by simp⟩
theorem small_of {n:Int} (h:smallB n = true):-9≤n∧n≤9:=by simpa [smallB] using h
def ActD.far (a:ActD):Bool:=!a.near || !smallB a.view.epoch || !smallB a.view.version || !smallB a.fetch.epoch || !smallB a.fetch.offset || !smallB a.fetch.last || !smallB a.fetch.flushed || !smallB a.reply.epoch || !smallB a.reply.base || !smallB a.reply.last || !smallB a.reply.high
def ActD.atS (a:ActD) (s:RepS):ActD :=
  if a.far then a else { a with
    view:={ a.view with epoch:=a.view.epoch + s.epoch,version:=a.view.version + s.version },
    fetch:={ a.fetch with epoch:=a.fetch.epoch + s.epoch,offset:=a.fetch.offset + s.log.length,last:=a.fetch.last + lastE s.log,flushed:=a.fetch.flushed + s.log.length },
    reply:={ a.reply with epoch:=a.reply.epoch + s.epoch,base:=a.reply.base + s.log.length,last:=a.reply.last + lastE s.log,high:=a.reply.high + s.log.length } }
theorem atS_kind (a:ActD) (s:RepS):(a.atS s).kind = a.kind∧(a.atS s).n = a.n∧(a.atS s).ent = a.ent∧(a.atS s).list = a.list∧(a.atS s).view.isr = a.view.isr∧(a.atS s).reply.entries = a.reply.entries:=by
  unfold ActD.atS;split <;> exact ⟨rfl,rfl,rfl,rfl,rfl,rfl⟩
theorem lastE_in {l:List Ent} (h:ofNo l = 0):0≤lastE l∧lastE l≤2147483647:=by
  have hr:=(ofNo_all l h).1
  unfold lastE
  cases hl:l.getLast? with
  | none=>simp
  | some x=>have:=rightB_ep (hr x (List.mem_of_getLast? hl));simp;omega
def aenc (a:ActD) (uI uE uL:Value) (k:Nat):Value:=(a.cells uI uE uL).toArray.getD k undef
theorem all27 {P:Nat→Prop} (h:P 0∧P 1∧P 2∧P 3∧P 4∧P 5∧P 6∧P 7∧P 8∧P 9∧P 10∧P 11∧P 12∧P 13∧P 14∧P 15∧P 16∧P 17∧P 18∧P 19∧P 20∧P 21∧P 22∧P 23∧P 24∧P 25∧P 26):∀ k,k < 27→P k:=by
  obtain ⟨h0,h1,h2,h3,h4,h5,h6,h7,h8,h9,h10,h11,h12,h13,h14,h15,h16,h17,h18,h19,h20,h21,h22,h23,h24,h25,h26⟩:=h
  intro k hk
  obtain rfl|rfl|rfl|rfl|rfl|rfl|rfl|rfl|rfl|rfl|rfl|rfl|rfl|rfl|rfl|rfl|rfl|rfl|rfl|rfl|rfl|rfl|rfl|rfl|rfl|rfl|rfl:k = 0∨k = 1∨k = 2∨k = 3∨k = 4∨k = 5∨k = 6∨k = 7∨k = 8∨k = 9∨k = 10∨k = 11∨k = 12∨k = 13∨k = 14∨k = 15∨k = 16∨k = 17∨k = 18∨k = 19∨k = 20∨k = 21∨k = 22∨k = 23∨k = 24∨k = 25∨k = 26:=by omega
  all_goals assumption
theorem X_aload {P : Program} {Q : Post} {A : Act} {fl : List (Nat × Value)} {ops : Array Oper} {o : Oper} {rest : List (Oper × Nat)} {x : Operand} {t : TypeId} {d : Nat} {td : TypeDesc} {w : World} {b : Nat} {E : TypeId} {a : ActD} {uI uE uL : Value} (hb : Blk w b E 27 (aenc a uI uE uL))
    (h:wpX P ops Q rest (fr ((d,a.v uI uE uL) :: fl) A) w) (ho:o.op = .load t x:=by rfl) (hd:o.dst = some d:=by rfl) (hg:o.guard = none:=by rfl)
    (hu:P.underlying t = some td:=by kernel_rfl) (htd:td.isRow = true:=by rfl) (hi:(P.info? t).map (·.size) = some 27:=by kernel_rfl)
    (hx:Is ((fr fl A).eval x) (.pointer (some ⟨b,0,none⟩)):=by go_simp;exact Is.mk _):wpX P ops Q ((o,0) :: rest) (fr fl A) w :=
  X_loadall hb h ho hd hg hu htd hi hx
theorem near_calls {N : Nat → Prop} {w : World} {uL uI uC vI vE vL : Value} {s : RepS} {a : ActD} (h : VR N w uL uI uC s) (hg : s.Good) (hver : 0 ≤ s.version ∧ s.version ≤ 2147483647) (ha : ActR N w vI vE vL a) :
    Ret Tryz.prog 35 #[a.v vI vE vL,s.v uL uI uC] w fun r w'=>Ext w w'∧r = (a.atS s).v vI vE vL:=by
  have HVR:=Lib.hid h
  have HG:=Lib.hid hg
  obtain ⟨A1,c1,rfl,-⟩:=h.rl.rd.ent
  obtain ⟨A2,c2,rfl,-⟩:=h.ri.rd.int
  obtain ⟨A3,c3,rfl,-⟩:=h.rc.rd.int
  obtain ⟨A4,c4,rfl,-⟩:=ha.ri.rd.int
  obtain ⟨A5,c5,rfl,-⟩:=ha.re.rd.ent
  obtain ⟨A6,c6,rfl,-⟩:=ha.rl.rd.int
  clear h ha hg
  have LAST:Hid (∀ W,Ext w W→Pure Tryz.prog 74 #[.slice A1 s.log.length c1] W (.int .i64 (lastE s.log))):=Lib.hid (fun W hE=>last7_calls _ _ W (HVR.out.later hE).rl.rd)
  refine Fn_of Tryz.func35 rfl (Nat.le_of_ble_eq_true rfl) ?_;intro A hd hA;simp only [ix,Nat.reduceAdd];replace hA:A.tmps.size = 156:=hA
  (repeat' (first|refine W_seqk (fun K hK=>?_)|refine W_seqr ?_|fail));(first|(refine X_var (fun yn ba hn1 hn2 hn3 hn4 hn5=>?_))|(refine X_s (fun x K hK=>?_);go_simp;refine hK _ _ (Ext.alloc _ _) ?_;clear hK K;refine X_al x ?_;generalize (World.later _ x).heap.size = ba;intro yn hn1 hn2 hn3 hn4 hn5;clear x));have HBba:=Lib.hid (Blk.new hn5.out);have HEba:=Lib.hid yn.ext;have hlba:(World.heap w).size≤ba:=hn1;generalize World.later w yn = W0 at *;clear hn1 hn2 hn3 hn4 hn5 yn
  (skip);(first|(refine X_var (fun yn bs hn1 hn2 hn3 hn4 hn5=>?_))|(refine X_s (fun x K hK=>?_);go_simp;refine hK _ _ (Ext.alloc _ _) ?_;clear hK K;refine X_al x ?_;generalize (World.later _ x).heap.size = bs;intro yn hn1 hn2 hn3 hn4 hn5;clear x));have HBbs:=Lib.hid (Blk.new hn5.out);have HEbs:=Lib.hid yn.ext;have hlbs:(World.heap W0).size≤bs:=hn1;generalize World.later W0 yn = W1 at *;clear hn1 hn2 hn3 hn4 hn5 yn
  (skip);(first|(refine X_var (fun yn bo hn1 hn2 hn3 hn4 hn5=>?_))|(refine X_s (fun x K hK=>?_);go_simp;refine hK _ _ (Ext.alloc _ _) ?_;clear hK K;refine X_al x ?_;generalize (World.later _ x).heap.size = bo;intro yn hn1 hn2 hn3 hn4 hn5;clear x));have HBbo:=Lib.hid (Blk.new hn5.out);have HEbo:=Lib.hid yn.ext;have hlbo:(World.heap W1).size≤bo:=hn1;generalize World.later W1 yn = W at *;clear hn1 hn2 hn3 hn4 hn5 yn
  have HBA:Hid (Blk W ba 51 27 (aenc a (.slice A4 a.view.isr.length c4) (.slice A5 a.reply.entries.length c5) (.slice A6 a.list.length c6))):=Lib.hid ((HBba.out.later (Ext.trans HEbs.out HEbo.out)).congr (fun k hk=>rfl))
  have HBS:=Lib.hid ((fbox2 HBbs.out).later HEbo.out)
  have HE:=Lib.hid (Ext.trans (Ext.trans HEba.out HEbs.out) HEbo.out)
  have hbb:ba < bs:=by have:=HBba.out.lt;omega
  have hbb2:bs < bo:=by have:=HBbs.out.lt;omega
  have hE0:=HEba.out.size
  have hE1:=HEbs.out.size
  have HBO:=HBbo
  clear HBba HBbo HBbs HEba HEbo HEbs
  have hal:=HBA.out.lt
  have e13:W.cell? ⟨ba,13,none⟩ = some (.int .i64 a.fetch.src):=HBA.out.cell (k:=13) (by omega)
  have e14:W.cell? ⟨ba,14,none⟩ = some (.int .i64 a.fetch.epoch):=HBA.out.cell (k:=14) (by omega)
  have e15:W.cell? ⟨ba,15,none⟩ = some (.int .i64 a.fetch.offset):=HBA.out.cell (k:=15) (by omega)
  have e16:W.cell? ⟨ba,16,none⟩ = some (.int .i64 a.fetch.last):=HBA.out.cell (k:=16) (by omega)
  have e17:W.cell? ⟨ba,17,none⟩ = some (.int .i64 a.fetch.flushed):=HBA.out.cell (k:=17) (by omega)
  have r0:W.cell? ⟨ba,18,none⟩ = some (.int .i64 a.reply.epoch):=HBA.out.cell (k:=18) (by omega)
  have r1:W.cell? ⟨ba,19,none⟩ = some (.int .i64 a.reply.base):=HBA.out.cell (k:=19) (by omega)
  have r2:W.cell? ⟨ba,20,none⟩ = some (.int .i64 a.reply.last):=HBA.out.cell (k:=20) (by omega)
  have r3:W.cell? ⟨ba,21,none⟩ = some (.bool a.reply.cut):=HBA.out.cell (k:=21) (by omega)
  have r4:W.cell? ⟨ba,22,none⟩ = some (.int .i64 a.reply.cutEpoch):=HBA.out.cell (k:=22) (by omega)
  have r5:W.cell? ⟨ba,23,none⟩ = some (.int .i64 a.reply.cutEnd):=HBA.out.cell (k:=23) (by omega)
  have r6:W.cell? ⟨ba,24,none⟩ = some (.slice A5 a.reply.entries.length c5):=HBA.out.cell (k:=24) (by omega)
  have r7:W.cell? ⟨ba,25,none⟩ = some (.int .i64 a.reply.high):=HBA.out.cell (k:=25) (by omega)
  repeat' (first|refine X_nil ?_|refine W_seqk (fun K hK=>?_)|go_step)
  refine W_cut [2,3,4,5,6] (fun vs w'=>∃ (W5:World) (b4 b5:Nat),Ext W W5∧(vs = [.pointer (some ⟨ba,0,none⟩),.pointer (some ⟨bs,0,none⟩),.pointer (some ⟨bo,0,none⟩),.pointer (some ⟨b4,0,none⟩),.pointer (some ⟨b5,0,none⟩)]∧w' = W5)∧Blk W5 b4 47 5 (put (fun k=>#[.int .i64 0,.int .i64 0,.int .i64 0,.int .i64 0,.int .i64 0].getD k undef) 0 a.fetch.v.cells.toList)∧Blk W5 b5 49 8 (put (fun k=>#[.int .i64 0,.int .i64 0,.int .i64 0,.bool false,.int .i64 0,.int .i64 0,.slice none 0 0,.int .i64 0].getD k undef) 0 (a.reply.v (.slice A5 a.reply.entries.length c5)).cells.toList)∧W.heap.size≤b4∧W.heap.size≤b5∧b4 ≠ b5) hd hA (by decide) ?_ ?_
  · refine W_fork [6,7] (by kernel_rfl) ?_
    refine F_q (i:=0) ?_
    refine F_q (i:=1) ?_
    refine F_alts (i:=2) (rs:=[4,5]) (S_cons ?_ (S_cons ?_ (S_cons ?_ (S_end))))
    · refine S_q ?_
      refine F_alts (i:=3) (rs:=[4,5]) (S_cons ?_ (S_cons ?_ (S_cons ?_ (S_end))))
      · refine S_q ?_
        refine F_alts (i:=4) (rs:=[5]) (S_cons ?_ (S_cons ?_ (S_end)))
        · refine S_s (fun q K hK=>?_)
          go_simp;refine hK _ _ _ (Ext.alloc _ _) (Ext.refl _) ?_;clear hK K;refine F_al q ?_;generalize (World.later _ q).heap.size = b4;intro y4 x1 x2 x3 x4 x5;clear q
          refine F_alts (i:=5) (rs:=[]) (S_cons ?_ (S_end))
          refine S_s (fun q K hK=>?_)
          go_simp;refine hK _ _ _ (Ext.alloc _ _) (Ext.refl _) ?_;clear hK K;refine F_al q ?_;generalize (World.later _ q).heap.size = b5;intro y5 z1 z2 z3 z4 z5;clear q
          have hs1:W.heap.size≤(W.later y4).heap.size:=y4.2.size
          refine F_alts (i:=6) (rs:=[]) (S_cons ?_ (S_end))
          refine S_store (off:=0) (v:=a.fetch.v) ((Blk.new x5.out).later y5.2) (fun W10 hM10 hB10=>?_)
          have hBz:=(show Blk ((W.later y4).later y5) b5 49 8 _ from (Blk.new z5.out)).mod hM10 (by omega)
          have hs2:=hM10.size
          refine F_alts (i:=7) (rs:=[]) (S_cons ?_ (S_end))
          refine S_store (off:=0) (v:=a.reply.v (.slice A5 a.reply.entries.length c5)) hBz (fun W11 hM11 hB11=>?_)
          exact F_nil (by kernel_rfl) ⟨rfl,_,_,rfl,hd,hA,_,b4,b5,(Ext.fresh (F:=fun k=>k = b4∨k = b5) (by simp:Ext W ((W.later y4).later y5)) (Mod.trans hM10 hM11 (fun k _ h=>.inl h) (fun k _ h=>.inr h)) (by rintro k (rfl|rfl) <;> omega)),⟨by simp,rfl⟩,hB10.mod hM11 (by omega),hB11,by omega,by omega,by omega⟩
        · refine S_s (fun q K hK=>?_)
          go_simp;refine hK _ _ _ (Ext.alloc _ _) (Ext.refl _) ?_;clear hK K;refine F_al q ?_;generalize (World.later _ q).heap.size = b5;intro y5 z1 z2 z3 z4 z5;clear q
          refine F_alts (i:=4) (rs:=[]) (S_cons ?_ (S_end))
          refine S_s (fun q K hK=>?_)
          go_simp;refine hK _ _ _ (Ext.alloc _ _) (Ext.refl _) ?_;clear hK K;refine F_al q ?_;generalize (World.later _ q).heap.size = b4;intro y4 x1 x2 x3 x4 x5;clear q
          have hs1:W.heap.size≤(W.later y5).heap.size:=y5.2.size
          refine F_alts (i:=6) (rs:=[]) (S_cons ?_ (S_end))
          refine S_store (off:=0) (v:=a.fetch.v) (Blk.new x5.out) (fun W10 hM10 hB10=>?_)
          have hBz:=(show Blk ((W.later y5).later y4) b5 49 8 _ from ((Blk.new z5.out).later y4.2)).mod hM10 (by omega)
          have hs2:=hM10.size
          refine F_alts (i:=7) (rs:=[]) (S_cons ?_ (S_end))
          refine S_store (off:=0) (v:=a.reply.v (.slice A5 a.reply.entries.length c5)) hBz (fun W11 hM11 hB11=>?_)
          exact F_nil (by kernel_rfl) ⟨rfl,_,_,rfl,hd,hA,_,b4,b5,(Ext.fresh (F:=fun k=>k = b4∨k = b5) (by simp:Ext W ((W.later y5).later y4)) (Mod.trans hM10 hM11 (fun k _ h=>.inl h) (fun k _ h=>.inr h)) (by rintro k (rfl|rfl) <;> omega)),⟨by simp,rfl⟩,hB10.mod hM11 (by omega),hB11,by omega,by omega,by omega⟩
      · refine S_s (fun q K hK=>?_)
        go_simp;refine hK _ _ _ (Ext.alloc _ _) (Ext.refl _) ?_;clear hK K;refine F_al q ?_;generalize (World.later _ q).heap.size = b4;intro y4 x1 x2 x3 x4 x5;clear q
        refine F_alts (i:=3) (rs:=[5]) (S_cons ?_ (S_cons ?_ (S_end)))
        · refine S_q ?_
          refine F_alts (i:=5) (rs:=[]) (S_cons ?_ (S_end))
          refine S_s (fun q K hK=>?_)
          go_simp;refine hK _ _ _ (Ext.alloc _ _) (Ext.refl _) ?_;clear hK K;refine F_al q ?_;generalize (World.later _ q).heap.size = b5;intro y5 z1 z2 z3 z4 z5;clear q
          have hs1:W.heap.size≤(W.later y4).heap.size:=y4.2.size
          refine F_alts (i:=6) (rs:=[]) (S_cons ?_ (S_end))
          refine S_store (off:=0) (v:=a.fetch.v) ((Blk.new x5.out).later y5.2) (fun W10 hM10 hB10=>?_)
          have hBz:=(show Blk ((W.later y4).later y5) b5 49 8 _ from (Blk.new z5.out)).mod hM10 (by omega)
          have hs2:=hM10.size
          refine F_alts (i:=7) (rs:=[]) (S_cons ?_ (S_end))
          refine S_store (off:=0) (v:=a.reply.v (.slice A5 a.reply.entries.length c5)) hBz (fun W11 hM11 hB11=>?_)
          exact F_nil (by kernel_rfl) ⟨rfl,_,_,rfl,hd,hA,_,b4,b5,(Ext.fresh (F:=fun k=>k = b4∨k = b5) (by simp:Ext W ((W.later y4).later y5)) (Mod.trans hM10 hM11 (fun k _ h=>.inl h) (fun k _ h=>.inr h)) (by rintro k (rfl|rfl) <;> omega)),⟨by simp,rfl⟩,hB10.mod hM11 (by omega),hB11,by omega,by omega,by omega⟩
        · refine S_s (fun q K hK=>?_)
          go_simp;refine hK _ _ _ (Ext.alloc _ _) (Ext.refl _) ?_;clear hK K;refine F_al q ?_;generalize (World.later _ q).heap.size = b5;intro y5 z1 z2 z3 z4 z5;clear q
          have hs1:W.heap.size≤(W.later y4).heap.size:=y4.2.size
          refine F_alts (i:=3) (rs:=[6]) (S_cons ?_ (S_cons ?_ (S_end)))
          · refine S_q ?_
            refine F_alts (i:=6) (rs:=[]) (S_cons ?_ (S_end))
            refine S_store (off:=0) (v:=a.fetch.v) ((Blk.new x5.out).later y5.2) (fun W10 hM10 hB10=>?_)
            have hBz:=(show Blk ((W.later y4).later y5) b5 49 8 _ from (Blk.new z5.out)).mod hM10 (by omega)
            have hs2:=hM10.size
            refine F_alts (i:=7) (rs:=[]) (S_cons ?_ (S_end))
            refine S_store (off:=0) (v:=a.reply.v (.slice A5 a.reply.entries.length c5)) hBz (fun W11 hM11 hB11=>?_)
            exact F_nil (by kernel_rfl) ⟨rfl,_,_,rfl,hd,hA,_,b4,b5,(Ext.fresh (F:=fun k=>k = b4∨k = b5) (by simp:Ext W ((W.later y4).later y5)) (Mod.trans hM10 hM11 (fun k _ h=>.inl h) (fun k _ h=>.inr h)) (by rintro k (rfl|rfl) <;> omega)),⟨by simp,rfl⟩,hB10.mod hM11 (by omega),hB11,by omega,by omega,by omega⟩
          · refine S_store (off:=0) (v:=a.fetch.v) ((Blk.new x5.out).later y5.2) (fun W10 hM10 hB10=>?_)
            have hBz:=(show Blk ((W.later y4).later y5) b5 49 8 _ from (Blk.new z5.out)).mod hM10 (by omega)
            have hs2:=hM10.size
            have hEp:Ext W ((W.later y4).later y5):=by simp
            have hsp:=hEp.size
            have tl:ba < W10.heap.size:=by omega
            have t0:=(cell?_mod hM10 (k:=ba) (o:=18) (by omega) (by omega)).trans ((World.cell?_of_block (hEp.block ba hal (fun h=>h))).trans r0)
            have t1:=(cell?_mod hM10 (k:=ba) (o:=19) (by omega) (by omega)).trans ((World.cell?_of_block (hEp.block ba hal (fun h=>h))).trans r1)
            have t2:=(cell?_mod hM10 (k:=ba) (o:=20) (by omega) (by omega)).trans ((World.cell?_of_block (hEp.block ba hal (fun h=>h))).trans r2)
            have t3:=(cell?_mod hM10 (k:=ba) (o:=21) (by omega) (by omega)).trans ((World.cell?_of_block (hEp.block ba hal (fun h=>h))).trans r3)
            have t4:=(cell?_mod hM10 (k:=ba) (o:=22) (by omega) (by omega)).trans ((World.cell?_of_block (hEp.block ba hal (fun h=>h))).trans r4)
            have t5:=(cell?_mod hM10 (k:=ba) (o:=23) (by omega) (by omega)).trans ((World.cell?_of_block (hEp.block ba hal (fun h=>h))).trans r5)
            have t6:=(cell?_mod hM10 (k:=ba) (o:=24) (by omega) (by omega)).trans ((World.cell?_of_block (hEp.block ba hal (fun h=>h))).trans r6)
            have t7:=(cell?_mod hM10 (k:=ba) (o:=25) (by omega) (by omega)).trans ((World.cell?_of_block (hEp.block ba hal (fun h=>h))).trans r7)
            refine F_alts (i:=3) (rs:=[]) (S_cons ?_ (S_end))
            refine S_q ?_
            refine F_alts (i:=7) (rs:=[]) (S_cons ?_ (S_end))
            refine S_store (off:=0) (v:=a.reply.v (.slice A5 a.reply.entries.length c5)) hBz (fun W11 hM11 hB11=>?_)
            exact F_nil (by kernel_rfl) ⟨rfl,_,_,rfl,hd,hA,_,b4,b5,(Ext.fresh (F:=fun k=>k = b4∨k = b5) (by simp:Ext W ((W.later y4).later y5)) (Mod.trans hM10 hM11 (fun k _ h=>.inl h) (fun k _ h=>.inr h)) (by rintro k (rfl|rfl) <;> omega)),⟨by simp,rfl⟩,hB10.mod hM11 (by omega),hB11,by omega,by omega,by omega⟩
      · refine S_s (fun q K hK=>?_)
        go_simp;refine hK _ _ _ (Ext.alloc _ _) (Ext.refl _) ?_;clear hK K;refine F_al q ?_;generalize (World.later _ q).heap.size = b5;intro y5 z1 z2 z3 z4 z5;clear q
        refine F_alts (i:=3) (rs:=[4]) (S_cons ?_ (S_cons ?_ (S_end)))
        · refine S_q ?_
          refine F_alts (i:=4) (rs:=[]) (S_cons ?_ (S_end))
          refine S_s (fun q K hK=>?_)
          go_simp;refine hK _ _ _ (Ext.alloc _ _) (Ext.refl _) ?_;clear hK K;refine F_al q ?_;generalize (World.later _ q).heap.size = b4;intro y4 x1 x2 x3 x4 x5;clear q
          have hs1:W.heap.size≤(W.later y5).heap.size:=y5.2.size
          refine F_alts (i:=6) (rs:=[]) (S_cons ?_ (S_end))
          refine S_store (off:=0) (v:=a.fetch.v) (Blk.new x5.out) (fun W10 hM10 hB10=>?_)
          have hBz:=(show Blk ((W.later y5).later y4) b5 49 8 _ from ((Blk.new z5.out).later y4.2)).mod hM10 (by omega)
          have hs2:=hM10.size
          refine F_alts (i:=7) (rs:=[]) (S_cons ?_ (S_end))
          refine S_store (off:=0) (v:=a.reply.v (.slice A5 a.reply.entries.length c5)) hBz (fun W11 hM11 hB11=>?_)
          exact F_nil (by kernel_rfl) ⟨rfl,_,_,rfl,hd,hA,_,b4,b5,(Ext.fresh (F:=fun k=>k = b4∨k = b5) (by simp:Ext W ((W.later y5).later y4)) (Mod.trans hM10 hM11 (fun k _ h=>.inl h) (fun k _ h=>.inr h)) (by rintro k (rfl|rfl) <;> omega)),⟨by simp,rfl⟩,hB10.mod hM11 (by omega),hB11,by omega,by omega,by omega⟩
        · refine S_s (fun q K hK=>?_)
          go_simp;refine hK _ _ _ (Ext.alloc _ _) (Ext.refl _) ?_;clear hK K;refine F_al q ?_;generalize (World.later _ q).heap.size = b4;intro y4 x1 x2 x3 x4 x5;clear q
          have hs1:W.heap.size≤(W.later y5).heap.size:=y5.2.size
          refine F_alts (i:=3) (rs:=[6]) (S_cons ?_ (S_cons ?_ (S_end)))
          · refine S_q ?_
            refine F_alts (i:=6) (rs:=[]) (S_cons ?_ (S_end))
            refine S_store (off:=0) (v:=a.fetch.v) (Blk.new x5.out) (fun W10 hM10 hB10=>?_)
            have hBz:=(show Blk ((W.later y5).later y4) b5 49 8 _ from ((Blk.new z5.out).later y4.2)).mod hM10 (by omega)
            have hs2:=hM10.size
            refine F_alts (i:=7) (rs:=[]) (S_cons ?_ (S_end))
            refine S_store (off:=0) (v:=a.reply.v (.slice A5 a.reply.entries.length c5)) hBz (fun W11 hM11 hB11=>?_)
            exact F_nil (by kernel_rfl) ⟨rfl,_,_,rfl,hd,hA,_,b4,b5,(Ext.fresh (F:=fun k=>k = b4∨k = b5) (by simp:Ext W ((W.later y5).later y4)) (Mod.trans hM10 hM11 (fun k _ h=>.inl h) (fun k _ h=>.inr h)) (by rintro k (rfl|rfl) <;> omega)),⟨by simp,rfl⟩,hB10.mod hM11 (by omega),hB11,by omega,by omega,by omega⟩
          · refine S_store (off:=0) (v:=a.fetch.v) (Blk.new x5.out) (fun W10 hM10 hB10=>?_)
            have hBz:=(show Blk ((W.later y5).later y4) b5 49 8 _ from ((Blk.new z5.out).later y4.2)).mod hM10 (by omega)
            have hs2:=hM10.size
            have hEp:Ext W ((W.later y5).later y4):=by simp
            have hsp:=hEp.size
            have tl:ba < W10.heap.size:=by omega
            have t0:=(cell?_mod hM10 (k:=ba) (o:=18) (by omega) (by omega)).trans ((World.cell?_of_block (hEp.block ba hal (fun h=>h))).trans r0)
            have t1:=(cell?_mod hM10 (k:=ba) (o:=19) (by omega) (by omega)).trans ((World.cell?_of_block (hEp.block ba hal (fun h=>h))).trans r1)
            have t2:=(cell?_mod hM10 (k:=ba) (o:=20) (by omega) (by omega)).trans ((World.cell?_of_block (hEp.block ba hal (fun h=>h))).trans r2)
            have t3:=(cell?_mod hM10 (k:=ba) (o:=21) (by omega) (by omega)).trans ((World.cell?_of_block (hEp.block ba hal (fun h=>h))).trans r3)
            have t4:=(cell?_mod hM10 (k:=ba) (o:=22) (by omega) (by omega)).trans ((World.cell?_of_block (hEp.block ba hal (fun h=>h))).trans r4)
            have t5:=(cell?_mod hM10 (k:=ba) (o:=23) (by omega) (by omega)).trans ((World.cell?_of_block (hEp.block ba hal (fun h=>h))).trans r5)
            have t6:=(cell?_mod hM10 (k:=ba) (o:=24) (by omega) (by omega)).trans ((World.cell?_of_block (hEp.block ba hal (fun h=>h))).trans r6)
            have t7:=(cell?_mod hM10 (k:=ba) (o:=25) (by omega) (by omega)).trans ((World.cell?_of_block (hEp.block ba hal (fun h=>h))).trans r7)
            refine F_alts (i:=3) (rs:=[]) (S_cons ?_ (S_end))
            refine S_q ?_
            refine F_alts (i:=7) (rs:=[]) (S_cons ?_ (S_end))
            refine S_store (off:=0) (v:=a.reply.v (.slice A5 a.reply.entries.length c5)) hBz (fun W11 hM11 hB11=>?_)
            exact F_nil (by kernel_rfl) ⟨rfl,_,_,rfl,hd,hA,_,b4,b5,(Ext.fresh (F:=fun k=>k = b4∨k = b5) (by simp:Ext W ((W.later y5).later y4)) (Mod.trans hM10 hM11 (fun k _ h=>.inl h) (fun k _ h=>.inr h)) (by rintro k (rfl|rfl) <;> omega)),⟨by simp,rfl⟩,hB10.mod hM11 (by omega),hB11,by omega,by omega,by omega⟩
    · refine S_s (fun q K hK=>?_)
      go_simp;refine hK _ _ _ (Ext.alloc _ _) (Ext.refl _) ?_;clear hK K;refine F_al q ?_;generalize (World.later _ q).heap.size = b4;intro y4 x1 x2 x3 x4 x5;clear q
      refine F_alts (i:=2) (rs:=[5]) (S_cons ?_ (S_cons ?_ (S_end)))
      · refine S_q ?_
        refine F_alts (i:=3) (rs:=[5]) (S_cons ?_ (S_cons ?_ (S_end)))
        · refine S_q ?_
          refine F_alts (i:=5) (rs:=[]) (S_cons ?_ (S_end))
          refine S_s (fun q K hK=>?_)
          go_simp;refine hK _ _ _ (Ext.alloc _ _) (Ext.refl _) ?_;clear hK K;refine F_al q ?_;generalize (World.later _ q).heap.size = b5;intro y5 z1 z2 z3 z4 z5;clear q
          have hs1:W.heap.size≤(W.later y4).heap.size:=y4.2.size
          refine F_alts (i:=6) (rs:=[]) (S_cons ?_ (S_end))
          refine S_store (off:=0) (v:=a.fetch.v) ((Blk.new x5.out).later y5.2) (fun W10 hM10 hB10=>?_)
          have hBz:=(show Blk ((W.later y4).later y5) b5 49 8 _ from (Blk.new z5.out)).mod hM10 (by omega)
          have hs2:=hM10.size
          refine F_alts (i:=7) (rs:=[]) (S_cons ?_ (S_end))
          refine S_store (off:=0) (v:=a.reply.v (.slice A5 a.reply.entries.length c5)) hBz (fun W11 hM11 hB11=>?_)
          exact F_nil (by kernel_rfl) ⟨rfl,_,_,rfl,hd,hA,_,b4,b5,(Ext.fresh (F:=fun k=>k = b4∨k = b5) (by simp:Ext W ((W.later y4).later y5)) (Mod.trans hM10 hM11 (fun k _ h=>.inl h) (fun k _ h=>.inr h)) (by rintro k (rfl|rfl) <;> omega)),⟨by simp,rfl⟩,hB10.mod hM11 (by omega),hB11,by omega,by omega,by omega⟩
        · refine S_s (fun q K hK=>?_)
          go_simp;refine hK _ _ _ (Ext.alloc _ _) (Ext.refl _) ?_;clear hK K;refine F_al q ?_;generalize (World.later _ q).heap.size = b5;intro y5 z1 z2 z3 z4 z5;clear q
          have hs1:W.heap.size≤(W.later y4).heap.size:=y4.2.size
          refine F_alts (i:=3) (rs:=[6]) (S_cons ?_ (S_cons ?_ (S_end)))
          · refine S_q ?_
            refine F_alts (i:=6) (rs:=[]) (S_cons ?_ (S_end))
            refine S_store (off:=0) (v:=a.fetch.v) ((Blk.new x5.out).later y5.2) (fun W10 hM10 hB10=>?_)
            have hBz:=(show Blk ((W.later y4).later y5) b5 49 8 _ from (Blk.new z5.out)).mod hM10 (by omega)
            have hs2:=hM10.size
            refine F_alts (i:=7) (rs:=[]) (S_cons ?_ (S_end))
            refine S_store (off:=0) (v:=a.reply.v (.slice A5 a.reply.entries.length c5)) hBz (fun W11 hM11 hB11=>?_)
            exact F_nil (by kernel_rfl) ⟨rfl,_,_,rfl,hd,hA,_,b4,b5,(Ext.fresh (F:=fun k=>k = b4∨k = b5) (by simp:Ext W ((W.later y4).later y5)) (Mod.trans hM10 hM11 (fun k _ h=>.inl h) (fun k _ h=>.inr h)) (by rintro k (rfl|rfl) <;> omega)),⟨by simp,rfl⟩,hB10.mod hM11 (by omega),hB11,by omega,by omega,by omega⟩
          · refine S_store (off:=0) (v:=a.fetch.v) ((Blk.new x5.out).later y5.2) (fun W10 hM10 hB10=>?_)
            have hBz:=(show Blk ((W.later y4).later y5) b5 49 8 _ from (Blk.new z5.out)).mod hM10 (by omega)
            have hs2:=hM10.size
            have hEp:Ext W ((W.later y4).later y5):=by simp
            have hsp:=hEp.size
            have tl:ba < W10.heap.size:=by omega
            have t0:=(cell?_mod hM10 (k:=ba) (o:=18) (by omega) (by omega)).trans ((World.cell?_of_block (hEp.block ba hal (fun h=>h))).trans r0)
            have t1:=(cell?_mod hM10 (k:=ba) (o:=19) (by omega) (by omega)).trans ((World.cell?_of_block (hEp.block ba hal (fun h=>h))).trans r1)
            have t2:=(cell?_mod hM10 (k:=ba) (o:=20) (by omega) (by omega)).trans ((World.cell?_of_block (hEp.block ba hal (fun h=>h))).trans r2)
            have t3:=(cell?_mod hM10 (k:=ba) (o:=21) (by omega) (by omega)).trans ((World.cell?_of_block (hEp.block ba hal (fun h=>h))).trans r3)
            have t4:=(cell?_mod hM10 (k:=ba) (o:=22) (by omega) (by omega)).trans ((World.cell?_of_block (hEp.block ba hal (fun h=>h))).trans r4)
            have t5:=(cell?_mod hM10 (k:=ba) (o:=23) (by omega) (by omega)).trans ((World.cell?_of_block (hEp.block ba hal (fun h=>h))).trans r5)
            have t6:=(cell?_mod hM10 (k:=ba) (o:=24) (by omega) (by omega)).trans ((World.cell?_of_block (hEp.block ba hal (fun h=>h))).trans r6)
            have t7:=(cell?_mod hM10 (k:=ba) (o:=25) (by omega) (by omega)).trans ((World.cell?_of_block (hEp.block ba hal (fun h=>h))).trans r7)
            refine F_alts (i:=3) (rs:=[]) (S_cons ?_ (S_end))
            refine S_q ?_
            refine F_alts (i:=7) (rs:=[]) (S_cons ?_ (S_end))
            refine S_store (off:=0) (v:=a.reply.v (.slice A5 a.reply.entries.length c5)) hBz (fun W11 hM11 hB11=>?_)
            exact F_nil (by kernel_rfl) ⟨rfl,_,_,rfl,hd,hA,_,b4,b5,(Ext.fresh (F:=fun k=>k = b4∨k = b5) (by simp:Ext W ((W.later y4).later y5)) (Mod.trans hM10 hM11 (fun k _ h=>.inl h) (fun k _ h=>.inr h)) (by rintro k (rfl|rfl) <;> omega)),⟨by simp,rfl⟩,hB10.mod hM11 (by omega),hB11,by omega,by omega,by omega⟩
      · refine S_s (fun q K hK=>?_)
        go_simp;refine hK _ _ _ (Ext.alloc _ _) (Ext.refl _) ?_;clear hK K;refine F_al q ?_;generalize (World.later _ q).heap.size = b5;intro y5 z1 z2 z3 z4 z5;clear q
        have hs1:W.heap.size≤(W.later y4).heap.size:=y4.2.size
        refine F_alts (i:=2) (rs:=[6]) (S_cons ?_ (S_cons ?_ (S_end)))
        · refine S_q ?_
          refine F_alts (i:=3) (rs:=[6]) (S_cons ?_ (S_cons ?_ (S_end)))
          · refine S_q ?_
            refine F_alts (i:=6) (rs:=[]) (S_cons ?_ (S_end))
            refine S_store (off:=0) (v:=a.fetch.v) ((Blk.new x5.out).later y5.2) (fun W10 hM10 hB10=>?_)
            have hBz:=(show Blk ((W.later y4).later y5) b5 49 8 _ from (Blk.new z5.out)).mod hM10 (by omega)
            have hs2:=hM10.size
            refine F_alts (i:=7) (rs:=[]) (S_cons ?_ (S_end))
            refine S_store (off:=0) (v:=a.reply.v (.slice A5 a.reply.entries.length c5)) hBz (fun W11 hM11 hB11=>?_)
            exact F_nil (by kernel_rfl) ⟨rfl,_,_,rfl,hd,hA,_,b4,b5,(Ext.fresh (F:=fun k=>k = b4∨k = b5) (by simp:Ext W ((W.later y4).later y5)) (Mod.trans hM10 hM11 (fun k _ h=>.inl h) (fun k _ h=>.inr h)) (by rintro k (rfl|rfl) <;> omega)),⟨by simp,rfl⟩,hB10.mod hM11 (by omega),hB11,by omega,by omega,by omega⟩
          · refine S_store (off:=0) (v:=a.fetch.v) ((Blk.new x5.out).later y5.2) (fun W10 hM10 hB10=>?_)
            have hBz:=(show Blk ((W.later y4).later y5) b5 49 8 _ from (Blk.new z5.out)).mod hM10 (by omega)
            have hs2:=hM10.size
            have hEp:Ext W ((W.later y4).later y5):=by simp
            have hsp:=hEp.size
            have tl:ba < W10.heap.size:=by omega
            have t0:=(cell?_mod hM10 (k:=ba) (o:=18) (by omega) (by omega)).trans ((World.cell?_of_block (hEp.block ba hal (fun h=>h))).trans r0)
            have t1:=(cell?_mod hM10 (k:=ba) (o:=19) (by omega) (by omega)).trans ((World.cell?_of_block (hEp.block ba hal (fun h=>h))).trans r1)
            have t2:=(cell?_mod hM10 (k:=ba) (o:=20) (by omega) (by omega)).trans ((World.cell?_of_block (hEp.block ba hal (fun h=>h))).trans r2)
            have t3:=(cell?_mod hM10 (k:=ba) (o:=21) (by omega) (by omega)).trans ((World.cell?_of_block (hEp.block ba hal (fun h=>h))).trans r3)
            have t4:=(cell?_mod hM10 (k:=ba) (o:=22) (by omega) (by omega)).trans ((World.cell?_of_block (hEp.block ba hal (fun h=>h))).trans r4)
            have t5:=(cell?_mod hM10 (k:=ba) (o:=23) (by omega) (by omega)).trans ((World.cell?_of_block (hEp.block ba hal (fun h=>h))).trans r5)
            have t6:=(cell?_mod hM10 (k:=ba) (o:=24) (by omega) (by omega)).trans ((World.cell?_of_block (hEp.block ba hal (fun h=>h))).trans r6)
            have t7:=(cell?_mod hM10 (k:=ba) (o:=25) (by omega) (by omega)).trans ((World.cell?_of_block (hEp.block ba hal (fun h=>h))).trans r7)
            refine F_alts (i:=3) (rs:=[]) (S_cons ?_ (S_end))
            refine S_q ?_
            refine F_alts (i:=7) (rs:=[]) (S_cons ?_ (S_end))
            refine S_store (off:=0) (v:=a.reply.v (.slice A5 a.reply.entries.length c5)) hBz (fun W11 hM11 hB11=>?_)
            exact F_nil (by kernel_rfl) ⟨rfl,_,_,rfl,hd,hA,_,b4,b5,(Ext.fresh (F:=fun k=>k = b4∨k = b5) (by simp:Ext W ((W.later y4).later y5)) (Mod.trans hM10 hM11 (fun k _ h=>.inl h) (fun k _ h=>.inr h)) (by rintro k (rfl|rfl) <;> omega)),⟨by simp,rfl⟩,hB10.mod hM11 (by omega),hB11,by omega,by omega,by omega⟩
        · refine S_store (off:=0) (v:=a.fetch.v) ((Blk.new x5.out).later y5.2) (fun W10 hM10 hB10=>?_)
          have hBz:=(show Blk ((W.later y4).later y5) b5 49 8 _ from (Blk.new z5.out)).mod hM10 (by omega)
          have hs2:=hM10.size
          have hEp:Ext W ((W.later y4).later y5):=by simp
          have hsp:=hEp.size
          have tl:ba < W10.heap.size:=by omega
          have t0:=(cell?_mod hM10 (k:=ba) (o:=18) (by omega) (by omega)).trans ((World.cell?_of_block (hEp.block ba hal (fun h=>h))).trans r0)
          have t1:=(cell?_mod hM10 (k:=ba) (o:=19) (by omega) (by omega)).trans ((World.cell?_of_block (hEp.block ba hal (fun h=>h))).trans r1)
          have t2:=(cell?_mod hM10 (k:=ba) (o:=20) (by omega) (by omega)).trans ((World.cell?_of_block (hEp.block ba hal (fun h=>h))).trans r2)
          have t3:=(cell?_mod hM10 (k:=ba) (o:=21) (by omega) (by omega)).trans ((World.cell?_of_block (hEp.block ba hal (fun h=>h))).trans r3)
          have t4:=(cell?_mod hM10 (k:=ba) (o:=22) (by omega) (by omega)).trans ((World.cell?_of_block (hEp.block ba hal (fun h=>h))).trans r4)
          have t5:=(cell?_mod hM10 (k:=ba) (o:=23) (by omega) (by omega)).trans ((World.cell?_of_block (hEp.block ba hal (fun h=>h))).trans r5)
          have t6:=(cell?_mod hM10 (k:=ba) (o:=24) (by omega) (by omega)).trans ((World.cell?_of_block (hEp.block ba hal (fun h=>h))).trans r6)
          have t7:=(cell?_mod hM10 (k:=ba) (o:=25) (by omega) (by omega)).trans ((World.cell?_of_block (hEp.block ba hal (fun h=>h))).trans r7)
          refine F_alts (i:=2) (rs:=[]) (S_cons ?_ (S_end))
          refine S_q ?_
          refine F_alts (i:=3) (rs:=[]) (S_cons ?_ (S_end))
          refine S_q ?_
          refine F_alts (i:=7) (rs:=[]) (S_cons ?_ (S_end))
          refine S_store (off:=0) (v:=a.reply.v (.slice A5 a.reply.entries.length c5)) hBz (fun W11 hM11 hB11=>?_)
          exact F_nil (by kernel_rfl) ⟨rfl,_,_,rfl,hd,hA,_,b4,b5,(Ext.fresh (F:=fun k=>k = b4∨k = b5) (by simp:Ext W ((W.later y4).later y5)) (Mod.trans hM10 hM11 (fun k _ h=>.inl h) (fun k _ h=>.inr h)) (by rintro k (rfl|rfl) <;> omega)),⟨by simp,rfl⟩,hB10.mod hM11 (by omega),hB11,by omega,by omega,by omega⟩
    · refine S_s (fun q K hK=>?_)
      go_simp;refine hK _ _ _ (Ext.alloc _ _) (Ext.refl _) ?_;clear hK K;refine F_al q ?_;generalize (World.later _ q).heap.size = b5;intro y5 z1 z2 z3 z4 z5;clear q
      refine F_alts (i:=2) (rs:=[4]) (S_cons ?_ (S_cons ?_ (S_end)))
      · refine S_q ?_
        refine F_alts (i:=3) (rs:=[4]) (S_cons ?_ (S_cons ?_ (S_end)))
        · refine S_q ?_
          refine F_alts (i:=4) (rs:=[]) (S_cons ?_ (S_end))
          refine S_s (fun q K hK=>?_)
          go_simp;refine hK _ _ _ (Ext.alloc _ _) (Ext.refl _) ?_;clear hK K;refine F_al q ?_;generalize (World.later _ q).heap.size = b4;intro y4 x1 x2 x3 x4 x5;clear q
          have hs1:W.heap.size≤(W.later y5).heap.size:=y5.2.size
          refine F_alts (i:=6) (rs:=[]) (S_cons ?_ (S_end))
          refine S_store (off:=0) (v:=a.fetch.v) (Blk.new x5.out) (fun W10 hM10 hB10=>?_)
          have hBz:=(show Blk ((W.later y5).later y4) b5 49 8 _ from ((Blk.new z5.out).later y4.2)).mod hM10 (by omega)
          have hs2:=hM10.size
          refine F_alts (i:=7) (rs:=[]) (S_cons ?_ (S_end))
          refine S_store (off:=0) (v:=a.reply.v (.slice A5 a.reply.entries.length c5)) hBz (fun W11 hM11 hB11=>?_)
          exact F_nil (by kernel_rfl) ⟨rfl,_,_,rfl,hd,hA,_,b4,b5,(Ext.fresh (F:=fun k=>k = b4∨k = b5) (by simp:Ext W ((W.later y5).later y4)) (Mod.trans hM10 hM11 (fun k _ h=>.inl h) (fun k _ h=>.inr h)) (by rintro k (rfl|rfl) <;> omega)),⟨by simp,rfl⟩,hB10.mod hM11 (by omega),hB11,by omega,by omega,by omega⟩
        · refine S_s (fun q K hK=>?_)
          go_simp;refine hK _ _ _ (Ext.alloc _ _) (Ext.refl _) ?_;clear hK K;refine F_al q ?_;generalize (World.later _ q).heap.size = b4;intro y4 x1 x2 x3 x4 x5;clear q
          have hs1:W.heap.size≤(W.later y5).heap.size:=y5.2.size
          refine F_alts (i:=3) (rs:=[6]) (S_cons ?_ (S_cons ?_ (S_end)))
          · refine S_q ?_
            refine F_alts (i:=6) (rs:=[]) (S_cons ?_ (S_end))
            refine S_store (off:=0) (v:=a.fetch.v) (Blk.new x5.out) (fun W10 hM10 hB10=>?_)
            have hBz:=(show Blk ((W.later y5).later y4) b5 49 8 _ from ((Blk.new z5.out).later y4.2)).mod hM10 (by omega)
            have hs2:=hM10.size
            refine F_alts (i:=7) (rs:=[]) (S_cons ?_ (S_end))
            refine S_store (off:=0) (v:=a.reply.v (.slice A5 a.reply.entries.length c5)) hBz (fun W11 hM11 hB11=>?_)
            exact F_nil (by kernel_rfl) ⟨rfl,_,_,rfl,hd,hA,_,b4,b5,(Ext.fresh (F:=fun k=>k = b4∨k = b5) (by simp:Ext W ((W.later y5).later y4)) (Mod.trans hM10 hM11 (fun k _ h=>.inl h) (fun k _ h=>.inr h)) (by rintro k (rfl|rfl) <;> omega)),⟨by simp,rfl⟩,hB10.mod hM11 (by omega),hB11,by omega,by omega,by omega⟩
          · refine S_store (off:=0) (v:=a.fetch.v) (Blk.new x5.out) (fun W10 hM10 hB10=>?_)
            have hBz:=(show Blk ((W.later y5).later y4) b5 49 8 _ from ((Blk.new z5.out).later y4.2)).mod hM10 (by omega)
            have hs2:=hM10.size
            have hEp:Ext W ((W.later y5).later y4):=by simp
            have hsp:=hEp.size
            have tl:ba < W10.heap.size:=by omega
            have t0:=(cell?_mod hM10 (k:=ba) (o:=18) (by omega) (by omega)).trans ((World.cell?_of_block (hEp.block ba hal (fun h=>h))).trans r0)
            have t1:=(cell?_mod hM10 (k:=ba) (o:=19) (by omega) (by omega)).trans ((World.cell?_of_block (hEp.block ba hal (fun h=>h))).trans r1)
            have t2:=(cell?_mod hM10 (k:=ba) (o:=20) (by omega) (by omega)).trans ((World.cell?_of_block (hEp.block ba hal (fun h=>h))).trans r2)
            have t3:=(cell?_mod hM10 (k:=ba) (o:=21) (by omega) (by omega)).trans ((World.cell?_of_block (hEp.block ba hal (fun h=>h))).trans r3)
            have t4:=(cell?_mod hM10 (k:=ba) (o:=22) (by omega) (by omega)).trans ((World.cell?_of_block (hEp.block ba hal (fun h=>h))).trans r4)
            have t5:=(cell?_mod hM10 (k:=ba) (o:=23) (by omega) (by omega)).trans ((World.cell?_of_block (hEp.block ba hal (fun h=>h))).trans r5)
            have t6:=(cell?_mod hM10 (k:=ba) (o:=24) (by omega) (by omega)).trans ((World.cell?_of_block (hEp.block ba hal (fun h=>h))).trans r6)
            have t7:=(cell?_mod hM10 (k:=ba) (o:=25) (by omega) (by omega)).trans ((World.cell?_of_block (hEp.block ba hal (fun h=>h))).trans r7)
            refine F_alts (i:=3) (rs:=[]) (S_cons ?_ (S_end))
            refine S_q ?_
            refine F_alts (i:=7) (rs:=[]) (S_cons ?_ (S_end))
            refine S_store (off:=0) (v:=a.reply.v (.slice A5 a.reply.entries.length c5)) hBz (fun W11 hM11 hB11=>?_)
            exact F_nil (by kernel_rfl) ⟨rfl,_,_,rfl,hd,hA,_,b4,b5,(Ext.fresh (F:=fun k=>k = b4∨k = b5) (by simp:Ext W ((W.later y5).later y4)) (Mod.trans hM10 hM11 (fun k _ h=>.inl h) (fun k _ h=>.inr h)) (by rintro k (rfl|rfl) <;> omega)),⟨by simp,rfl⟩,hB10.mod hM11 (by omega),hB11,by omega,by omega,by omega⟩
      · refine S_s (fun q K hK=>?_)
        go_simp;refine hK _ _ _ (Ext.alloc _ _) (Ext.refl _) ?_;clear hK K;refine F_al q ?_;generalize (World.later _ q).heap.size = b4;intro y4 x1 x2 x3 x4 x5;clear q
        have hs1:W.heap.size≤(W.later y5).heap.size:=y5.2.size
        refine F_alts (i:=2) (rs:=[6]) (S_cons ?_ (S_cons ?_ (S_end)))
        · refine S_q ?_
          refine F_alts (i:=3) (rs:=[6]) (S_cons ?_ (S_cons ?_ (S_end)))
          · refine S_q ?_
            refine F_alts (i:=6) (rs:=[]) (S_cons ?_ (S_end))
            refine S_store (off:=0) (v:=a.fetch.v) (Blk.new x5.out) (fun W10 hM10 hB10=>?_)
            have hBz:=(show Blk ((W.later y5).later y4) b5 49 8 _ from ((Blk.new z5.out).later y4.2)).mod hM10 (by omega)
            have hs2:=hM10.size
            refine F_alts (i:=7) (rs:=[]) (S_cons ?_ (S_end))
            refine S_store (off:=0) (v:=a.reply.v (.slice A5 a.reply.entries.length c5)) hBz (fun W11 hM11 hB11=>?_)
            exact F_nil (by kernel_rfl) ⟨rfl,_,_,rfl,hd,hA,_,b4,b5,(Ext.fresh (F:=fun k=>k = b4∨k = b5) (by simp:Ext W ((W.later y5).later y4)) (Mod.trans hM10 hM11 (fun k _ h=>.inl h) (fun k _ h=>.inr h)) (by rintro k (rfl|rfl) <;> omega)),⟨by simp,rfl⟩,hB10.mod hM11 (by omega),hB11,by omega,by omega,by omega⟩
          · refine S_store (off:=0) (v:=a.fetch.v) (Blk.new x5.out) (fun W10 hM10 hB10=>?_)
            have hBz:=(show Blk ((W.later y5).later y4) b5 49 8 _ from ((Blk.new z5.out).later y4.2)).mod hM10 (by omega)
            have hs2:=hM10.size
            have hEp:Ext W ((W.later y5).later y4):=by simp
            have hsp:=hEp.size
            have tl:ba < W10.heap.size:=by omega
            have t0:=(cell?_mod hM10 (k:=ba) (o:=18) (by omega) (by omega)).trans ((World.cell?_of_block (hEp.block ba hal (fun h=>h))).trans r0)
            have t1:=(cell?_mod hM10 (k:=ba) (o:=19) (by omega) (by omega)).trans ((World.cell?_of_block (hEp.block ba hal (fun h=>h))).trans r1)
            have t2:=(cell?_mod hM10 (k:=ba) (o:=20) (by omega) (by omega)).trans ((World.cell?_of_block (hEp.block ba hal (fun h=>h))).trans r2)
            have t3:=(cell?_mod hM10 (k:=ba) (o:=21) (by omega) (by omega)).trans ((World.cell?_of_block (hEp.block ba hal (fun h=>h))).trans r3)
            have t4:=(cell?_mod hM10 (k:=ba) (o:=22) (by omega) (by omega)).trans ((World.cell?_of_block (hEp.block ba hal (fun h=>h))).trans r4)
            have t5:=(cell?_mod hM10 (k:=ba) (o:=23) (by omega) (by omega)).trans ((World.cell?_of_block (hEp.block ba hal (fun h=>h))).trans r5)
            have t6:=(cell?_mod hM10 (k:=ba) (o:=24) (by omega) (by omega)).trans ((World.cell?_of_block (hEp.block ba hal (fun h=>h))).trans r6)
            have t7:=(cell?_mod hM10 (k:=ba) (o:=25) (by omega) (by omega)).trans ((World.cell?_of_block (hEp.block ba hal (fun h=>h))).trans r7)
            refine F_alts (i:=3) (rs:=[]) (S_cons ?_ (S_end))
            refine S_q ?_
            refine F_alts (i:=7) (rs:=[]) (S_cons ?_ (S_end))
            refine S_store (off:=0) (v:=a.reply.v (.slice A5 a.reply.entries.length c5)) hBz (fun W11 hM11 hB11=>?_)
            exact F_nil (by kernel_rfl) ⟨rfl,_,_,rfl,hd,hA,_,b4,b5,(Ext.fresh (F:=fun k=>k = b4∨k = b5) (by simp:Ext W ((W.later y5).later y4)) (Mod.trans hM10 hM11 (fun k _ h=>.inl h) (fun k _ h=>.inr h)) (by rintro k (rfl|rfl) <;> omega)),⟨by simp,rfl⟩,hB10.mod hM11 (by omega),hB11,by omega,by omega,by omega⟩
        · refine S_store (off:=0) (v:=a.fetch.v) (Blk.new x5.out) (fun W10 hM10 hB10=>?_)
          have hBz:=(show Blk ((W.later y5).later y4) b5 49 8 _ from ((Blk.new z5.out).later y4.2)).mod hM10 (by omega)
          have hs2:=hM10.size
          have hEp:Ext W ((W.later y5).later y4):=by simp
          have hsp:=hEp.size
          have tl:ba < W10.heap.size:=by omega
          have t0:=(cell?_mod hM10 (k:=ba) (o:=18) (by omega) (by omega)).trans ((World.cell?_of_block (hEp.block ba hal (fun h=>h))).trans r0)
          have t1:=(cell?_mod hM10 (k:=ba) (o:=19) (by omega) (by omega)).trans ((World.cell?_of_block (hEp.block ba hal (fun h=>h))).trans r1)
          have t2:=(cell?_mod hM10 (k:=ba) (o:=20) (by omega) (by omega)).trans ((World.cell?_of_block (hEp.block ba hal (fun h=>h))).trans r2)
          have t3:=(cell?_mod hM10 (k:=ba) (o:=21) (by omega) (by omega)).trans ((World.cell?_of_block (hEp.block ba hal (fun h=>h))).trans r3)
          have t4:=(cell?_mod hM10 (k:=ba) (o:=22) (by omega) (by omega)).trans ((World.cell?_of_block (hEp.block ba hal (fun h=>h))).trans r4)
          have t5:=(cell?_mod hM10 (k:=ba) (o:=23) (by omega) (by omega)).trans ((World.cell?_of_block (hEp.block ba hal (fun h=>h))).trans r5)
          have t6:=(cell?_mod hM10 (k:=ba) (o:=24) (by omega) (by omega)).trans ((World.cell?_of_block (hEp.block ba hal (fun h=>h))).trans r6)
          have t7:=(cell?_mod hM10 (k:=ba) (o:=25) (by omega) (by omega)).trans ((World.cell?_of_block (hEp.block ba hal (fun h=>h))).trans r7)
          refine F_alts (i:=2) (rs:=[]) (S_cons ?_ (S_end))
          refine S_q ?_
          refine F_alts (i:=3) (rs:=[]) (S_cons ?_ (S_end))
          refine S_q ?_
          refine F_alts (i:=7) (rs:=[]) (S_cons ?_ (S_end))
          refine S_store (off:=0) (v:=a.reply.v (.slice A5 a.reply.entries.length c5)) hBz (fun W11 hM11 hB11=>?_)
          exact F_nil (by kernel_rfl) ⟨rfl,_,_,rfl,hd,hA,_,b4,b5,(Ext.fresh (F:=fun k=>k = b4∨k = b5) (by simp:Ext W ((W.later y5).later y4)) (Mod.trans hM10 hM11 (fun k _ h=>.inl h) (fun k _ h=>.inr h)) (by rintro k (rfl|rfl) <;> omega)),⟨by simp,rfl⟩,hB10.mod hM11 (by omega),hB11,by omega,by omega,by omega⟩
  · clear hd hA A;intro vs A w' hd hA ⟨W5,b4,b5,hE5,⟨hvs,hw⟩,hB4,hB5,g4,g5,g45⟩;subst hvs hw
    have HBF:=Lib.hid (hB4.congr (g':=fun k=>a.fetch.cs.getD k undef) (alln5 ⟨rfl,rfl,rfl,rfl,rfl⟩))
    have HBP:=Lib.hid (hB5.congr (g':=fun k=>(a.reply.cs (.slice A5 a.reply.entries.length c5)).getD k undef) (alln8 ⟨rfl,rfl,rfl,rfl,rfl,rfl,rfl,rfl⟩))
    replace HBA:=Lib.hid (HBA.out.later hE5)
    replace HBS:=Lib.hid (HBS.out.later hE5)
    replace HBO:=Lib.hid (HBO.out.later hE5)
    replace HE:=Lib.hid (Ext.trans HE.out hE5)
    have hbal:=HBA.out.lt
    have hbsl:=HBS.out.lt
    have hbol:=HBO.out.lt
    clear hB4 hB5 hE5 e13 e14 e15 e16 e17 r0 r1 r2 r3 r4 r5 r6 r7
    have a2:w'.cell? ⟨ba,2,none⟩ = some (.bool a.near):=HBA.out.cell (k:=2) (by omega)
    have a4:w'.cell? ⟨ba,4,none⟩ = some (.int .i64 a.view.epoch):=HBA.out.cell (k:=4) (by omega)
    have a5:w'.cell? ⟨ba,5,none⟩ = some (.int .i64 a.view.version):=HBA.out.cell (k:=5) (by omega)
    have f0:=HBF.out.cell (k:=0) (by simp)
    have f1:=HBF.out.cell (k:=1) (by simp)
    have f2:=HBF.out.cell (k:=2) (by simp)
    have f3:=HBF.out.cell (k:=3) (by simp)
    have f4:=HBF.out.cell (k:=4) (by simp)
    have p0:=HBP.out.cell (k:=0) (by simp)
    have p1:=HBP.out.cell (k:=1) (by simp)
    have p2:=HBP.out.cell (k:=2) (by simp)
    have p7:=HBP.out.cell (k:=7) (by simp)
    have hfl:=HBF.out.lt
    have hpl:=HBP.out.lt
    simp at f0 f1 f2 f3 f4 p0 p1 p2 p7
    repeat' (first|(refine X_gpure Tryz.func73 (fun _=>small_calls _ _) ?_)|refine X_d (fun vb hvb=>?_)|refine X_q ?_|refine X_g ?_|refine X_nil ?_|refine W_seqk (fun K hK=>?_)|refine W_seqr ?_|refine W_skip ?_|refine W_test (fun hc=>?_) (fun hc=>?_)|go_step)
    · repeat cases ‹Eqn _ _›
      have hfar:a.far = true:=hc
      have has:a.atS s = a:=if_pos hfar
      have HAS:=Lib.hid has
      clear hfar has hc
      refine X_aload HBA.out ?_ (hu:=Tryz.underlying51)
      skip
      refine X_store (off:=0) HBO.out (fun W1 hM1 hB1=>?_);replace HE:=Lib.hid (Ext.fresh HE.out hM1 (fun k hk=>by subst hk;omega));replace HBO:=Lib.hid hB1;clear hM1 hB1
      repeat' (first|refine X_nil ?_|refine W_ret ?_|go_step)
      exact Body_retcell1 (cs:=a.cells (.slice A4 a.view.isr.length c4) (.slice A5 a.reply.entries.length c5) (.slice A6 a.list.length c6)) hd ⟨HE.out,by rw [HAS.out];rfl⟩ (HBO.out.congr (g':=aenc a (.slice A4 a.view.isr.length c4) (.slice A5 a.reply.entries.length c5) (.slice A6 a.list.length c6)) (all27 ⟨rfl,rfl,rfl,rfl,rfl,rfl,rfl,rfl,rfl,rfl,rfl,rfl,rfl,rfl,rfl,rfl,rfl,rfl,rfl,rfl,rfl,rfl,rfl,rfl,rfl,rfl,rfl⟩)) (all27 ⟨rfl,rfl,rfl,rfl,rfl,rfl,rfl,rfl,rfl,rfl,rfl,rfl,rfl,rfl,rfl,rfl,rfl,rfl,rfl,rfl,rfl,rfl,rfl,rfl,rfl,rfl,rfl⟩) Tryz.underlying51
    · repeat cases ‹Eqn _ _›
      have hfar:a.far = false:=hc
      have has:a.atS s = _:=if_neg (by rw [hfar];decide)
      simp only [Bool.or_eq_false_iff,Bool.not_eq_false'] at hc
      obtain ⟨⟨⟨⟨⟨⟨⟨⟨⟨⟨hn,q1⟩,q2⟩,q3⟩,q4⟩,q5⟩,q6⟩,q7⟩,q8⟩,q9⟩,q10⟩:=hc
      replace q1:=small_of q1
      replace q2:=small_of q2
      replace q3:=small_of q3
      replace q4:=small_of q4
      replace q5:=small_of q5
      replace q6:=small_of q6
      replace q7:=small_of q7
      replace q8:=small_of q8
      replace q9:=small_of q9
      replace q10:=small_of q10
      have hep:=HG.out.epoch
      have hlen:=HG.out.len
      have hla:0≤lastE s.log∧lastE s.log≤2147483647:=lastE_in HG.out.ok
      have HAS:=Lib.hid has
      clear hfar has hn
      obtain ⟨hlt,d0,d1,d2,d3,d4,d5,d6,d7,d8,d9,d10⟩:=fcells HBS.out
      repeat' (first|refine X_pure Tryz.func74 (LAST.out _ HE.out) ?_|refine X_q ?_|refine X_nil ?_|refine W_seqk (fun K hK=>?_)|go_step)
      have hlb:=HE.out.size
      obtain ⟨G,hG⟩:∃ G:Nat→Prop,G = (fun k=>k = ba):=⟨_,rfl⟩;have HGo:Hid (G ba):=Lib.hid (by subst hG;rfl);have hGbs:¬ G bs:=(by subst hG;show ¬ bs = ba;omega);have hGb4:¬ G b4:=(by subst hG;show ¬ b4 = ba;omega);have hGb5:¬ G b5:=(by subst hG;show ¬ b5 = ba;omega);clear hG
      refine W_drawG G [(0,0),(1,0),(2,3),(3,0),(4,3),(5,0),(6,0),(7,0),(8,3),(9,0),(10,0),(11,0),(12,0),(13,0),(14,2),(15,0),(16,0),(17,2)] (by kernel_rfl) (by kernel_rfl) ?_
      repeat' (first|refine Y_q ?_|refine Y_r ?_|fail)
      refine Y_store (off:=4) HBA.out HGo.out (fun W1 hM1 hG1 hB1=>?_);replace HE:=Lib.hid (Ext.fresh HE.out hM1 (fun k hk=>by subst hk;omega));replace HBS:=Lib.hid (HBS.out.mod hM1 (fun h=>by omega));replace HBO:=Lib.hid (HBO.out.mod hM1 (fun h=>by omega));replace HBF:=Lib.hid (HBF.out.mod hM1 (fun h=>by omega));replace HBP:=Lib.hid (HBP.out.mod hM1 (fun h=>by omega));replace HBA:=Lib.hid hB1;clear hM1 hB1 hG1
      have hbal:=HBA.out.lt
      repeat' (first|refine Y_q ?_|fail)
      refine Y_store (off:=5) HBA.out HGo.out (fun W1 hM1 hG1 hB1=>?_);replace HE:=Lib.hid (Ext.fresh HE.out hM1 (fun k hk=>by subst hk;omega));replace HBS:=Lib.hid (HBS.out.mod hM1 (fun h=>by omega));replace HBO:=Lib.hid (HBO.out.mod hM1 (fun h=>by omega));replace HBF:=Lib.hid (HBF.out.mod hM1 (fun h=>by omega));replace HBP:=Lib.hid (HBP.out.mod hM1 (fun h=>by omega));replace HBA:=Lib.hid hB1;clear hM1 hB1 hG1
      repeat' (first|refine Y_nil ?_)
      replace HBA:=Lib.hid (HBA.out.congr (g':=aenc { a with view:={ a.view with epoch:=a.view.epoch + s.epoch,version:=a.view.version + s.version } } (.slice A4 a.view.isr.length c4) (.slice A5 a.reply.entries.length c5) (.slice A6 a.list.length c6)) (all27 ⟨rfl,rfl,rfl,rfl,rfl,rfl,rfl,rfl,rfl,rfl,rfl,rfl,rfl,rfl,rfl,rfl,rfl,rfl,rfl,rfl,rfl,rfl,rfl,rfl,rfl,rfl,rfl⟩))
      clear a2 a4 a5
      clear hlt d0 d1 d2 d3 d4 d5 d6 d7 d8 d9 d10 f0 f1 f2 f3 f4 p0 p1 p2 p7 hfl hpl hbal hbol
      obtain ⟨hlt,d0,d1,d2,d3,d4,d5,d6,d7,d8,d9,d10⟩:=fcells HBS.out
      have hbal:=HBA.out.lt
      have hbol:=HBO.out.lt
      have f0:=HBF.out.cell (k:=0) (by simp)
      have f1:=HBF.out.cell (k:=1) (by simp)
      have f2:=HBF.out.cell (k:=2) (by simp)
      have f3:=HBF.out.cell (k:=3) (by simp)
      have f4:=HBF.out.cell (k:=4) (by simp)
      have p0:=HBP.out.cell (k:=0) (by simp)
      have p1:=HBP.out.cell (k:=1) (by simp)
      have p2:=HBP.out.cell (k:=2) (by simp)
      have p7:=HBP.out.cell (k:=7) (by simp)
      have hfl:=HBF.out.lt
      have hpl:=HBP.out.lt
      simp at f0 f1 f2 f3 f4 p0 p1 p2 p7
      repeat' (first|refine W_seqk (fun K hK=>?_)|go_step)
      obtain ⟨G,hG⟩:∃ G:Nat→Prop,G = (fun k=>k = ba):=⟨_,rfl⟩;have HGo:Hid (G ba):=Lib.hid (by subst hG;rfl);have hGbs:¬ G bs:=(by subst hG;show ¬ bs = ba;omega);have hGb4:¬ G b4:=(by subst hG;show ¬ b4 = ba;omega);have hGb5:¬ G b5:=(by subst hG;show ¬ b5 = ba;omega);clear hG
      refine W_drawG G [(0,0),(1,3),(2,0),(3,3),(4,0),(5,0),(6,0),(7,0),(8,0),(9,0),(10,0),(11,0),(12,0),(13,0),(14,0),(15,0),(16,0),(17,0),(18,0),(19,0),(20,0),(21,0),(22,0),(23,2),(24,0),(25,0),(26,2),(27,0),(28,0),(29,2),(30,0),(31,0),(32,2)] (by kernel_rfl) (by kernel_rfl) ?_
      repeat' (first|refine Y_q ?_|refine Y_r ?_|fail)
      refine Y_store (off:=14) HBA.out HGo.out (fun W1 hM1 hG1 hB1=>?_);replace HE:=Lib.hid (Ext.fresh HE.out hM1 (fun k hk=>by subst hk;omega));replace HBS:=Lib.hid (HBS.out.mod hM1 (fun h=>by omega));replace HBO:=Lib.hid (HBO.out.mod hM1 (fun h=>by omega));replace HBF:=Lib.hid (HBF.out.mod hM1 (fun h=>by omega));replace HBP:=Lib.hid (HBP.out.mod hM1 (fun h=>by omega));replace HBA:=Lib.hid hB1;clear hM1 hB1 hG1
      have hbal:=HBA.out.lt
      repeat' (first|refine Y_q ?_|fail)
      refine Y_store (off:=15) HBA.out HGo.out (fun W1 hM1 hG1 hB1=>?_);replace HE:=Lib.hid (Ext.fresh HE.out hM1 (fun k hk=>by subst hk;omega));replace HBS:=Lib.hid (HBS.out.mod hM1 (fun h=>by omega));replace HBO:=Lib.hid (HBO.out.mod hM1 (fun h=>by omega));replace HBF:=Lib.hid (HBF.out.mod hM1 (fun h=>by omega));replace HBP:=Lib.hid (HBP.out.mod hM1 (fun h=>by omega));replace HBA:=Lib.hid hB1;clear hM1 hB1 hG1
      have hbal:=HBA.out.lt
      repeat' (first|refine Y_q ?_|fail)
      refine Y_store (off:=16) HBA.out HGo.out (fun W1 hM1 hG1 hB1=>?_);replace HE:=Lib.hid (Ext.fresh HE.out hM1 (fun k hk=>by subst hk;omega));replace HBS:=Lib.hid (HBS.out.mod hM1 (fun h=>by omega));replace HBO:=Lib.hid (HBO.out.mod hM1 (fun h=>by omega));replace HBF:=Lib.hid (HBF.out.mod hM1 (fun h=>by omega));replace HBP:=Lib.hid (HBP.out.mod hM1 (fun h=>by omega));replace HBA:=Lib.hid hB1;clear hM1 hB1 hG1
      have hbal:=HBA.out.lt
      repeat' (first|refine Y_q ?_|fail)
      refine Y_store (off:=17) HBA.out HGo.out (fun W1 hM1 hG1 hB1=>?_);replace HE:=Lib.hid (Ext.fresh HE.out hM1 (fun k hk=>by subst hk;omega));replace HBS:=Lib.hid (HBS.out.mod hM1 (fun h=>by omega));replace HBO:=Lib.hid (HBO.out.mod hM1 (fun h=>by omega));replace HBF:=Lib.hid (HBF.out.mod hM1 (fun h=>by omega));replace HBP:=Lib.hid (HBP.out.mod hM1 (fun h=>by omega));replace HBA:=Lib.hid hB1;clear hM1 hB1 hG1
      repeat' (first|refine Y_nil ?_)
      replace HBA:=Lib.hid (HBA.out.congr (g':=aenc { a with view:={ a.view with epoch:=a.view.epoch + s.epoch,version:=a.view.version + s.version },fetch:={ a.fetch with epoch:=a.fetch.epoch + s.epoch,offset:=a.fetch.offset + s.log.length,last:=a.fetch.last + lastE s.log,flushed:=a.fetch.flushed + s.log.length } } (.slice A4 a.view.isr.length c4) (.slice A5 a.reply.entries.length c5) (.slice A6 a.list.length c6)) (all27 ⟨rfl,rfl,rfl,rfl,rfl,rfl,rfl,rfl,rfl,rfl,rfl,rfl,rfl,rfl,rfl,rfl,rfl,rfl,rfl,rfl,rfl,rfl,rfl,rfl,rfl,rfl,rfl⟩))
      clear hlt d0 d1 d2 d3 d4 d5 d6 d7 d8 d9 d10 f0 f1 f2 f3 f4 p0 p1 p2 p7 hfl hpl hbal hbol
      obtain ⟨hlt,d0,d1,d2,d3,d4,d5,d6,d7,d8,d9,d10⟩:=fcells HBS.out
      have hbal:=HBA.out.lt
      have hbol:=HBO.out.lt
      have f0:=HBF.out.cell (k:=0) (by simp)
      have f1:=HBF.out.cell (k:=1) (by simp)
      have f2:=HBF.out.cell (k:=2) (by simp)
      have f3:=HBF.out.cell (k:=3) (by simp)
      have f4:=HBF.out.cell (k:=4) (by simp)
      have p0:=HBP.out.cell (k:=0) (by simp)
      have p1:=HBP.out.cell (k:=1) (by simp)
      have p2:=HBP.out.cell (k:=2) (by simp)
      have p7:=HBP.out.cell (k:=7) (by simp)
      have hfl:=HBF.out.lt
      have hpl:=HBP.out.lt
      simp at f0 f1 f2 f3 f4 p0 p1 p2 p7
      repeat' (first|refine W_seqk (fun K hK=>?_)|go_step)
      obtain ⟨G,hG⟩:∃ G:Nat→Prop,G = (fun k=>k = ba):=⟨_,rfl⟩;have HGo:Hid (G ba):=Lib.hid (by subst hG;rfl);have hGbs:¬ G bs:=(by subst hG;show ¬ bs = ba;omega);have hGb4:¬ G b4:=(by subst hG;show ¬ b4 = ba;omega);have hGb5:¬ G b5:=(by subst hG;show ¬ b5 = ba;omega);clear hG
      refine W_drawG G [(0,0),(1,3),(2,0),(3,3),(4,0),(5,0),(6,0),(7,0),(8,0),(9,0),(10,0),(11,0),(12,0),(13,0),(14,0),(15,0),(16,0),(17,0),(18,0),(19,0),(20,0),(21,0),(22,0),(23,2),(24,0),(25,0),(26,2),(27,0),(28,0),(29,2),(30,0),(31,0),(32,2)] (by kernel_rfl) (by kernel_rfl) ?_
      repeat' (first|refine Y_q ?_|refine Y_r ?_|fail)
      refine Y_store (off:=18) HBA.out HGo.out (fun W1 hM1 hG1 hB1=>?_);replace HE:=Lib.hid (Ext.fresh HE.out hM1 (fun k hk=>by subst hk;omega));replace HBS:=Lib.hid (HBS.out.mod hM1 (fun h=>by omega));replace HBO:=Lib.hid (HBO.out.mod hM1 (fun h=>by omega));replace HBF:=Lib.hid (HBF.out.mod hM1 (fun h=>by omega));replace HBP:=Lib.hid (HBP.out.mod hM1 (fun h=>by omega));replace HBA:=Lib.hid hB1;clear hM1 hB1 hG1
      have hbal:=HBA.out.lt
      repeat' (first|refine Y_q ?_|fail)
      refine Y_store (off:=19) HBA.out HGo.out (fun W1 hM1 hG1 hB1=>?_);replace HE:=Lib.hid (Ext.fresh HE.out hM1 (fun k hk=>by subst hk;omega));replace HBS:=Lib.hid (HBS.out.mod hM1 (fun h=>by omega));replace HBO:=Lib.hid (HBO.out.mod hM1 (fun h=>by omega));replace HBF:=Lib.hid (HBF.out.mod hM1 (fun h=>by omega));replace HBP:=Lib.hid (HBP.out.mod hM1 (fun h=>by omega));replace HBA:=Lib.hid hB1;clear hM1 hB1 hG1
      have hbal:=HBA.out.lt
      repeat' (first|refine Y_q ?_|fail)
      refine Y_store (off:=20) HBA.out HGo.out (fun W1 hM1 hG1 hB1=>?_);replace HE:=Lib.hid (Ext.fresh HE.out hM1 (fun k hk=>by subst hk;omega));replace HBS:=Lib.hid (HBS.out.mod hM1 (fun h=>by omega));replace HBO:=Lib.hid (HBO.out.mod hM1 (fun h=>by omega));replace HBF:=Lib.hid (HBF.out.mod hM1 (fun h=>by omega));replace HBP:=Lib.hid (HBP.out.mod hM1 (fun h=>by omega));replace HBA:=Lib.hid hB1;clear hM1 hB1 hG1
      have hbal:=HBA.out.lt
      repeat' (first|refine Y_q ?_|fail)
      refine Y_store (off:=25) HBA.out HGo.out (fun W1 hM1 hG1 hB1=>?_);replace HE:=Lib.hid (Ext.fresh HE.out hM1 (fun k hk=>by subst hk;omega));replace HBS:=Lib.hid (HBS.out.mod hM1 (fun h=>by omega));replace HBO:=Lib.hid (HBO.out.mod hM1 (fun h=>by omega));replace HBF:=Lib.hid (HBF.out.mod hM1 (fun h=>by omega));replace HBP:=Lib.hid (HBP.out.mod hM1 (fun h=>by omega));replace HBA:=Lib.hid hB1;clear hM1 hB1 hG1
      repeat' (first|refine Y_nil ?_)
      obtain ⟨a', ha'⟩ : ∃ a' : ActD, a' = { a with
          view:={ a.view with epoch:=a.view.epoch + s.epoch,version:=a.view.version + s.version },
          fetch:={ a.fetch with epoch:=a.fetch.epoch + s.epoch,offset:=a.fetch.offset + s.log.length,last:=a.fetch.last + lastE s.log,flushed:=a.fetch.flushed + s.log.length },
          reply:={ a.reply with epoch:=a.reply.epoch + s.epoch,base:=a.reply.base + s.log.length,last:=a.reply.last + lastE s.log,high:=a.reply.high + s.log.length } }:=⟨_,rfl⟩
      replace HBA:=Lib.hid (HBA.out.congr (g':=aenc a' (.slice A4 a.view.isr.length c4) (.slice A5 a.reply.entries.length c5) (.slice A6 a.list.length c6)) (by subst ha';exact all27 ⟨rfl,rfl,rfl,rfl,rfl,rfl,rfl,rfl,rfl,rfl,rfl,rfl,rfl,rfl,rfl,rfl,rfl,rfl,rfl,rfl,rfl,rfl,rfl,rfl,rfl,rfl,rfl⟩))
      have HAS2:Hid (a.atS s = a'):=Lib.hid (HAS.out.trans ha'.symm)
      clear HAS ha'
      clear hlt d0 d1 d2 d3 d4 d5 d6 d7 d8 d9 d10 f0 f1 f2 f3 f4 p0 p1 p2 p7 hfl hpl hbal hbol
      obtain ⟨hlt,d0,d1,d2,d3,d4,d5,d6,d7,d8,d9,d10⟩:=fcells HBS.out
      have hbal:=HBA.out.lt
      have hbol:=HBO.out.lt
      have f0:=HBF.out.cell (k:=0) (by simp)
      have f1:=HBF.out.cell (k:=1) (by simp)
      have f2:=HBF.out.cell (k:=2) (by simp)
      have f3:=HBF.out.cell (k:=3) (by simp)
      have f4:=HBF.out.cell (k:=4) (by simp)
      have p0:=HBP.out.cell (k:=0) (by simp)
      have p1:=HBP.out.cell (k:=1) (by simp)
      have p2:=HBP.out.cell (k:=2) (by simp)
      have p7:=HBP.out.cell (k:=7) (by simp)
      have hfl:=HBF.out.lt
      have hpl:=HBP.out.lt
      simp at f0 f1 f2 f3 f4 p0 p1 p2 p7
      repeat' (first|refine W_seqk (fun K hK=>?_)|refine W_seqr ?_|go_step)
      refine X_aload HBA.out ?_ (hu:=Tryz.underlying51)
      skip
      refine X_store (off:=0) HBO.out (fun W1 hM1 hB1=>?_);replace HE:=Lib.hid (Ext.fresh HE.out hM1 (fun k hk=>by subst hk;omega));replace HBO:=Lib.hid hB1;clear hM1 hB1
      repeat' (first|refine X_nil ?_|refine W_ret ?_|go_step)
      exact Body_retcell1 (cs:=a'.cells (.slice A4 a.view.isr.length c4) (.slice A5 a.reply.entries.length c5) (.slice A6 a.list.length c6)) hd ⟨HE.out,by rw [HAS2.out];rfl⟩ (HBO.out.congr (g':=aenc a' (.slice A4 a.view.isr.length c4) (.slice A5 a.reply.entries.length c5) (.slice A6 a.list.length c6)) (all27 ⟨rfl,rfl,rfl,rfl,rfl,rfl,rfl,rfl,rfl,rfl,rfl,rfl,rfl,rfl,rfl,rfl,rfl,rfl,rfl,rfl,rfl,rfl,rfl,rfl,rfl,rfl,rfl⟩)) (all27 ⟨rfl,rfl,rfl,rfl,rfl,rfl,rfl,rfl,rfl,rfl,rfl,rfl,rfl,rfl,rfl,rfl,rfl,rfl,rfl,rfl,rfl,rfl,rfl,rfl,rfl,rfl,rfl⟩) Tryz.underlying51
end Go.Ws
