/- Lemmas for the statements of this layer (joined texts); no condition. -/
import Derived.Test.YtlpjgegbdmkmdaaGreatBb07
import Derived.Test.YtlpjgegbdmkmdaaGreatBb12
namespace Go.Ws
open Go Go.RowKit Go.Proofs
set_option maxHeartbeats 2000000
set_option maxRecDepth 100000
set_option linter.unusedVariables false
set_option linter.unusedSimpArgs false
def pick (l:List Ent) (is:List Int):List Ent:=is.map fun i=>l.getD i.toNat default
def RepS.vis (s:RepS):List Ent:=pick s.log (viewL (s.log.take s.high.toNat))
theorem viewL_get {p:List Ent} {k:Nat} {i:Int} (h:(viewL p)[k]? = some i):∃ n:Nat,i = n∧n < p.length:=by
  have hm:i ∈ viewL p:=List.mem_of_getElem? h
  unfold viewL at hm
  rw [mem_viewTo] at hm
  obtain ⟨n,hn,_,e,he,_⟩:=hm
  exact ⟨n,hn,(List.getElem?_eq_some_iff.1 he).1⟩
theorem visible_rep {w : World} {b : Nat} {F : Nat → Prop} {s : RepS} (h : Rep w b F s) (hs : s.least ≠ 0) (hok : ofNo s.log = 0) (hl : s.log.length ≤ 4096) (h0 : 0 ≤ s.high) (h1 : s.high ≤ s.log.length) :
    Ret Tryz.prog 28 #[.pointer (some ⟨b,0,none⟩)] w fun v w'=>Ext w w'∧OwnE w' v s.vis∧∀ k,v.ownBlock = some k→w.heap.size≤k:=by
  have HP:=Lib.hid h
  obtain ⟨uL,uI,uC,h,hf⟩:=h.ex
  have H:=Lib.hid h
  obtain ⟨A1,c1,rfl,hc1,hcm1,-⟩:=h.rdL.ent
  have hlt:=h.blk.lt
  obtain ⟨-,-,-,-,-,-,-,-,-,d12,-,d14⟩:=h.cells
  clear h hf
  refine Fn_of Tryz.func28 rfl (Nat.le_of_ble_eq_true rfl) ?_;intro A hd hA;simp only [ix,Nat.reduceAdd];replace hA:A.tmps.size = 40:=hA
  repeat' (first|refine X_pure Tryz.func33 (none_of HP.out hs) ?_|refine X_q ?_|refine X_nil ?_|refine W_seqk (fun K hK=>?_)|refine W_seqr ?_|refine W_skip ?_|refine W_ff ?_|go_step)
  refine W_draw (by kernel_rfl) (by kernel_rfl) ?_
  repeat' (first|refine X_q ?_|fail)
  refine X_ret Tryz.func69 (visView_calls s.log _ s.high w H.out.rdL (by omega)) (fun r w1 hR=>?_)
  obtain ⟨hE1,-,-,hR⟩:=hR
  obtain ⟨u,rfl,hO,hF⟩:=hR hok (by omega)
  obtain ⟨y1,rfl⟩:=hE1.get
  have HO:=Lib.hid (hO.rd (enc:=ics) (k:=1) (fun _=>rfl))
  clear hE1 hR hO hF
  generalize hV:viewL (s.log.take s.high.toNat) = V at *
  have hvl:V.length≤4096:=by
    rw [← hV]
    have:=viewL_len (s.log.take s.high.toNat)
    have h2:(s.log.take s.high.toNat).length≤s.log.length:=by simp;omega
    omega
  have HV:=Lib.hid hV
  clear hV
  obtain ⟨A2,c2,rfl,hc2,hcm2,HR2⟩:=HO.out.int
  repeat' (first|refine X_q ?_|refine X_niln ?_|refine X_nil ?_|refine W_seqk (fun K hK=>?_)|refine W_seqr ?_|refine W_block ?_|go_step)
  refine W_loops [0,5,22,23,24] (fun n vs w'=>∃ (k:Nat) (y:Later w) (u:Value),w' = w.later y∧Ext (w.later y1) (w.later y)∧k + n = V.length∧vs = [.pointer (some ⟨b,0,none⟩),u,.slice A2 V.length c2,.int .i64 V.length,.int .i64 k]∧OwnE (w.later y) u (pick s.log (V.take k))∧∀ b,u.ownBlock = some b→(w.later y1).heap.size≤b) V.length hd hA (by decide) ?_ ?_
  · exact ⟨0,y1,_,rfl,Ext.refl _,by omega,by simp,Own.nil _,by intro b hb;cases hb⟩
  clear hd hA A;intro n vs B w' hd hA _ ⟨k,y,u,hw,hE12,hk,hvs,hown,hfr⟩;subst hw hvs
  simp only [List.zip_cons_cons,List.zip_nil_right,List.zip_nil_left]
  have Ho:=Lib.hid hown;clear hown
  have Hf:=Lib.hid hfr;clear hfr
  by_cases hlt2:k < V.length
  · obtain ⟨e,b2,o2,HE2,rfl,hb2,c20⟩:=HR2.out k hlt2
    have hk2i:(k:Int) < V.length:=by omega
    have c20':=(cell?_mod hE12 hb2 (fun h=>h)).trans c20
    have hb2':b2 < (w.later y).heap.size:=Nat.lt_of_lt_of_le hb2 hE12.size
    obtain ⟨m,rfl,hm⟩:=viewL_get (p:=s.log.take s.high.toNat) (k:=k) (i:=e) (by rw [HV.out];exact HE2.out)
    have hml:m < s.log.length:=by have:=(List.length_take_le s.high.toNat s.log);omega
    obtain ⟨A3,c3,hA3,-,-,HR3⟩:=H.out.rdL.ent
    cases hA3
    obtain ⟨e3,b3,o3,HE3,rfl,hb3,x0,x1,x2,x3,x4,x5⟩:=HR3.out m hml
    have hmi:(m:Int) < s.log.length:=by omega
    have HT:Hid (pick s.log (V.take (k + 1)) = pick s.log (V.take k) ++ [e3]):=Lib.hid (by
      rw [take_snoc HE2.out]
      have:=HE3.out
      simp [pick,this])
    have hpl:(pick s.log (V.take k)).length≤4096:=by simp [pick];omega
    clear HR2 HR3 c20 hb2
    repeat' (first|refine X_q ?_|refine X_nil ?_|refine W_seqk (fun K hK=>?_)|refine W_seqr ?_|refine W_skip ?_|refine W_block ?_|(refine X_s (fun x K hK=>?_);go_simp;refine hK _ _ (Ext.alloc _ _) ?_;clear hK K;refine X_al x ?_;generalize (World.later _ x).heap.size = bn;intro yn hn1 hn2 hn3 hn4 hn5;clear x)|refine W_tt ?_|go_step)
    refine X_push (w0:=w.later y1) (xs:=pick s.log (V.take k)) (Ext.trans hE12 yn.ext) elemEnt (Ho.out.later yn.ext) Hf.out (Rd.one (x:=e3) hn2 hn3 rfl) (by simp;omega) (by unfold maxLen;simp;omega) (fun y2 v' hO2 hF2 hN2 hM2=>?_)
    have hE3:Ext w (World.later _ y2):=Ext.trans y1.ext y2.ext
    have hE4:Ext (w.later y1) (World.later _ y2):=y2.ext
    have HO2:=Lib.hid hO2
    have HF2:=Lib.hid hF2
    clear hO2 hF2 hN2 hM2
    generalize World.later _ y2 = W2 at *
    repeat' (first|refine X_q ?_|refine X_nil ?_|refine W_seqr ?_|go_step)
    obtain ⟨y3,rfl⟩:=hE3.get
    exact ⟨_,_,rfl,hd,hA,n - 1,by omega,k + 1,y3,_,rfl,hE4,by omega,by simp,by rw [HT.out];exact HO2.out,HF2.out⟩
  · obtain rfl:k = V.length:=by omega
    repeat' (first|refine X_q ?_|refine X_nil ?_|refine W_seqk (fun K hK=>?_)|refine W_seqr ?_|refine W_ret ?_|refine W_exit ?_|refine W_ff ?_|go_step)
    refine Body_ret hd ⟨y.ext,?_,fun k hk=>?_⟩
    · have:=Ho.out
      rw [List.take_length] at this
      unfold RepS.vis
      rw [HV.out];exact this
    · exact Nat.le_trans y1.ext.size (Hf.out k hk)
def hasE (l:List Ent) (id num seq:Int):Bool:=l.any fun e=>(e.kind == 1) && (e.id == id) && (e.num == num) && (e.seq == seq)
theorem hasf_calls {w : World} {b1 b2 b3 : Nat} (e : Ent) (id num seq : Int) (h1 : b1 < w.heap.size) (h2 : b2 < w.heap.size) (h3 : b3 < w.heap.size) (c1 : w.cell? ⟨b1, 0, none⟩ = some (.int .i64 id)) (c2 : w.cell? ⟨b2, 0, none⟩ = some (.int .i64 num)) (c3 : w.cell? ⟨b3, 0, none⟩ = some (.int .i64 seq)) :
    Pure Tryz.prog 66 #[e.v,.pointer (some ⟨b1,0,none⟩),.pointer (some ⟨b2,0,none⟩),.pointer (some ⟨b3,0,none⟩)] w (.bool ((e.kind == 1) && (e.id == id) && (e.num == num) && (e.seq == seq))):=by
  refine Fn_of Tryz.func66 rfl (Nat.le_of_ble_eq_true rfl) ?_;intro A hd hA;simp only [ix,Nat.reduceAdd];replace hA:A.tmps.size = 27:=hA
  repeat' (first|refine X_d (fun vb hvb=>?_)|refine X_q ?_|refine X_g ?_|refine X_nil ?_|refine W_seqk (fun K hK=>?_)|refine W_seqr ?_|refine W_ret ?_|(refine X_s (fun x K hK=>?_);go_simp;refine hK _ _ (Ext.alloc _ _) ?_;clear hK K;refine X_al x ?_;generalize (World.later _ x).heap.size = bn;intro yn hn1 hn2 hn3 hn4 hn5;clear x)|go_step)
  repeat cases ‹Eqn _ _›
  exact Body_ret hd ⟨rfl,by simp⟩
theorem indexHas_calls {w : World} {b1 b2 b3 : Nat} {v : Value} {l : List Ent} (hl : RdE w v l) (id num seq : Int) (h1 : b1 < w.heap.size) (h2 : b2 < w.heap.size) (h3 : b3 < w.heap.size) (c1 : w.cell? ⟨b1, 0, none⟩ = some (.int .i64 id)) (c2 : w.cell? ⟨b2, 0, none⟩ = some (.int .i64 num)) (c3 : w.cell? ⟨b3, 0, none⟩ = some (.int .i64 seq)) :
    Ret Tryz.prog 100 #[v,.func (.func 66) #[] #[.pointer (some ⟨b1,0,none⟩),.pointer (some ⟨b2,0,none⟩),.pointer (some ⟨b3,0,none⟩)]] w fun v' w'=>∃ i:Int,v' = .int .i64 i∧decide (0≤i) = hasE l id num seq∧Ext w w':=by
  have hl0:=Lib.hid hl
  have HC:=Lib.hid (And.intro c1 (And.intro c2 c3))
  obtain ⟨A0,c,rfl,hc,hcm,HR⟩:=hl.ent
  clear hl c1 c2 c3
  refine Fn_of Tryz.func100 rfl (Nat.le_of_ble_eq_true rfl) ?_;intro A hd hA;simp only [ix,Nat.reduceAdd];replace hA:A.tmps.size = 19:=hA
  repeat' (first|refine X_q ?_|refine X_nil ?_|refine W_seqk (fun K hK=>?_)|refine W_seqr ?_|refine W_block ?_|go_step)
  refine W_loops [0,1,7,8] (fun n vs w'=>∃ (k:Nat),n + k = l.length∧vs = [.slice A0 l.length c,.func (.func 66) #[] #[.pointer (some ⟨b1,0,none⟩),.pointer (some ⟨b2,0,none⟩),.pointer (some ⟨b3,0,none⟩)],.int .i64 l.length,.int .i64 k]∧Ext w w'∧hasE (l.take k) id num seq = false) l.length hd hA (by decide) ?_ ?_
  · exact ⟨0,by omega,by simp,Ext.refl w,rfl⟩
  clear hd hA A;intro n vs B w' hd hA _ ⟨k,hn,hvs,hM,hg⟩;subst hvs
  obtain ⟨y,rfl⟩:=hM.get
  have HG:=Lib.hid hg
  clear hM hg
  simp only [List.zip_cons_cons,List.zip_nil_right,List.zip_nil_left]
  by_cases hlt:k < l.length
  · obtain ⟨e,b,o,HE,rfl,hb,x0,x1,x2,x3,x4,x5⟩:=HR.out k hlt
    have hki:(k:Int) < l.length:=by omega
    have hst:Hid (hasE (l.take (k + 1)) id num seq = ((e.kind == 1) && (e.id == id) && (e.num == num) && (e.seq == seq))):=Lib.hid (by
      have:=HG.out
      unfold hasE at *
      rw [take_snoc HE.out,List.any_append,this];simp)
    have hmem:Hid (((e.kind == 1) && (e.id == id) && (e.num == num) && (e.seq == seq)) = true→hasE l id num seq = true):=Lib.hid (fun h=>List.any_eq_true.2 ⟨e,mem_of_get HE.out,h⟩)
    have hq1:=(cell?_mod y.ext h1 (fun h=>h)).trans HC.out.1
    have hq2:=(cell?_mod y.ext h2 (fun h=>h)).trans HC.out.2.1
    have hq3:=(cell?_mod y.ext h3 (fun h=>h)).trans HC.out.2.2
    have HC2:=Lib.hid (And.intro hq1 (And.intro hq2 hq3))
    clear hq1 hq2 hq3
    have hf:=hasf_calls (w:=w.later y) e id num seq (Nat.lt_of_lt_of_le h1 y.ext.size) (Nat.lt_of_lt_of_le h2 y.ext.size) (Nat.lt_of_lt_of_le h3 y.ext.size) HC2.out.1 HC2.out.2.1 HC2.out.2.2
    generalize ((e.kind == 1) && (e.id == id) && (e.num == num) && (e.seq == seq)) = t at *
    have HF:=Lib.hid hf
    clear hf
    cases t with
    | true =>
      repeat' (first|refine X_q ?_|refine X_nil ?_|refine W_seqk (fun K hK=>?_)|refine W_seqr ?_|refine W_skip ?_|refine W_block ?_|refine W_tt ?_|go_step)
      refine X_valret (lv:=[e.v]) (first:=#[]) (captured:=#[.pointer (some ⟨b1,0,none⟩),.pointer (some ⟨b2,0,none⟩),.pointer (some ⟨b3,0,none⟩)]) (R:=fun v' w'=>v' = .bool true∧Ext _ w') Tryz.func66 HF.out (fun v' w' hR=>?_)
      obtain ⟨rfl,hE⟩:=hR
      obtain ⟨y',rfl⟩:=hE.get
      clear hE
      repeat' (first|refine X_q ?_|refine X_nil ?_|refine W_seqk (fun K hK=>?_)|refine W_seqr ?_|refine W_ret ?_|refine W_tt ?_|go_step)
      exact Body_ret hd ⟨k,rfl,by rw [hmem.out rfl];simp,by simp⟩
    | false =>
      repeat' (first|refine X_q ?_|refine X_nil ?_|refine W_seqk (fun K hK=>?_)|refine W_seqr ?_|refine W_skip ?_|refine W_block ?_|refine W_tt ?_|go_step)
      refine X_valret (lv:=[e.v]) (first:=#[]) (captured:=#[.pointer (some ⟨b1,0,none⟩),.pointer (some ⟨b2,0,none⟩),.pointer (some ⟨b3,0,none⟩)]) (R:=fun v' w'=>v' = .bool false∧Ext _ w') Tryz.func66 HF.out (fun v' w' hR=>?_)
      obtain ⟨rfl,hE⟩:=hR
      obtain ⟨y',rfl⟩:=hE.get
      clear hE
      repeat' (first|refine X_q ?_|refine X_nil ?_|refine W_seqr ?_|refine W_skip ?_|refine W_ff ?_|go_step)
      exact ⟨_,_,rfl,hd,hA,n - 1,by omega,k + 1,by omega,by simp,by simp,hst.out⟩
  · obtain rfl:k = l.length:=by omega
    have HH:Hid (hasE l id num seq = false):=Lib.hid (by have:=HG.out;rw [List.take_length] at this;exact this)
    clear HG
    repeat' (first|refine X_q ?_|refine X_nil ?_|refine W_seqk (fun K hK=>?_)|refine W_seqr ?_|refine W_ret ?_|refine W_exit ?_|refine W_ff ?_|go_step)
    exact Body_ret hd ⟨-1,rfl,by rw [HH.out];simp,by simp⟩
theorem containsHas_calls {w : World} {b1 b2 b3 : Nat} {v : Value} {l : List Ent} (hl : RdE w v l) (id num seq : Int) (h1 : b1 < w.heap.size) (h2 : b2 < w.heap.size) (h3 : b3 < w.heap.size) (c1 : w.cell? ⟨b1, 0, none⟩ = some (.int .i64 id)) (c2 : w.cell? ⟨b2, 0, none⟩ = some (.int .i64 num)) (c3 : w.cell? ⟨b3, 0, none⟩ = some (.int .i64 seq)) :
    Pure Tryz.prog 65 #[v,.func (.func 66) #[] #[.pointer (some ⟨b1,0,none⟩),.pointer (some ⟨b2,0,none⟩),.pointer (some ⟨b3,0,none⟩)]] w (.bool (hasE l id num seq)):=by
  have hl0:=Lib.hid hl
  have HC:=Lib.hid (And.intro c1 (And.intro c2 c3))
  obtain ⟨A0,c,rfl,-⟩:=hl.ent
  clear hl c1 c2 c3
  refine Fn_of Tryz.func65 rfl (Nat.le_of_ble_eq_true rfl) ?_;intro A hd hA;simp only [ix,Nat.reduceAdd];replace hA:A.tmps.size = 9:=hA
  repeat' (first|refine X_q ?_|refine X_nil ?_|refine W_seqk (fun K hK=>?_)|refine W_seqr ?_|go_step)
  refine X_ret Tryz.func100 (indexHas_calls hl0.out id num seq h1 h2 h3 HC.out.1 HC.out.2.1 HC.out.2.2) (fun r w1 hR=>?_)
  obtain ⟨i,rfl,hi,hE⟩:=hR
  obtain ⟨y1,rfl⟩:=hE.get
  have HI:=Lib.hid hi
  clear hi hE
  repeat' (first|refine X_q ?_|refine X_nil ?_|refine W_ret ?_|go_step)
  exact Body_ret hd ⟨congrArg Value.bool HI.out,by simp⟩
def RepS.has (s:RepS) (id num seq:Int):Bool:=hasE (s.log.take s.high.toNat) id num seq
theorem has_ok {w : World} {b : Nat} {F : Nat → Prop} {s : RepS} (h : Rep w b F s) (hs : s.least ≠ 0) (hr : s.role = 3) (h0 : 0 ≤ s.high) (h1 : s.high ≤ s.log.length) (id num seq : Int) :
    Ret Tryz.prog 25 #[.pointer (some ⟨b,0,none⟩),.int .i64 id,.int .i64 num,.int .i64 seq] w fun v w'=>v = .tuple #[.bool (s.has id num seq),.int .i64 0]∧Ext w w':=by
  have HP:=Lib.hid h
  obtain ⟨uL,uI,uC,h,hf⟩:=h.ex
  have H:=Lib.hid h
  obtain ⟨A1,c1,rfl,hc1,hcm1,-⟩:=h.rdL.ent
  have hbw:=h.blk.lt
  clear h hf
  obtain ⟨m,hm⟩:∃ m:Nat,s.high = m:=⟨s.high.toNat,by omega⟩
  have hml:m≤s.log.length:=by omega
  have hmc:m≤c1:=by omega
  have hrb:(s.role == 3) = true:=by simp [hr]
  have hhas:s.has id num seq = hasE (s.log.take m) id num seq:=by unfold RepS.has;rw [hm];rfl
  rw [hhas]
  clear hhas
  refine Fn_ofD Tryz.func25 rfl (Nat.le_of_ble_eq_true rfl) ?_;intro A hd hA;simp only [ix,Nat.reduceAdd];replace hA:A.tmps.size = 31:=hA
  repeat' (first|refine X_q ?_|refine X_nil ?_|refine W_seqk (fun K hK=>?_)|refine W_seqr ?_|(refine X_s (fun x K hK=>?_);go_simp;refine hK _ _ (Ext.alloc _ _) ?_;clear hK K;refine X_al x ?_;generalize (World.later _ x).heap.size = bn;intro yn hn1 hn2 hn3 hn4 hn5;clear x)|go_step)
  rename_i x1 y1 p1 p2 p3 p4 p5 x2 y2 q1 q2 q3 q4 q5 x3 y3 r1 r2 r3 r4 r5
  refine X_defc (be:=bn) hd hA (fun W hE=>by unfold execOp caughtD;go_simp) ?_;have hbe:=Lib.hid (Blk.one hn5.out);clear hd hA A;intro A hd hA;obtain ⟨be,hbe0⟩:∃ be:Nat,be = bn:=⟨_,rfl⟩;subst hbe0
  have hE:Ext w (((((w.later y1).later y2).later y3).later yn)):=by simp
  have e1:=(Blk.new p5.out).later (Ext.trans y2.ext (Ext.trans y3.ext yn.ext))
  have e2:=(Blk.new q5.out).later (Ext.trans y3.ext yn.ext)
  have e3:=(Blk.new r5.out).later yn.ext
  have HBE:=Lib.hid hbe.out
  have hwbe:w.heap.size≤be:=by have:=y1.ext.size;have:=y2.ext.size;have:=y3.ext.size;omega
  clear hbe
  generalize World.later _ yn = W at *
  clear p1 p2 p3 p4 p5 q1 q2 q3 q4 q5 r1 r2 r3 r4 r5 hn1 hn2 hn3 hn4 hn5 yn y3 y2 y1
  have g1:=e1.lt
  have g2:=e2.lt
  have g3:=e3.lt
  have z1:=e1.cell (k:=0) (by simp)
  have z2:=e2.cell (k:=0) (by simp)
  have z3:=e3.cell (k:=0) (by simp)
  simp at z1 z2 z3
  have HZ:=Lib.hid (And.intro z1 (And.intro z2 z3))
  have HE:=Lib.hid hE
  have H1:=Lib.hid (H.out.later hE)
  have HP1:=Lib.hid (HP.out.later hE)
  clear e1 e2 e3 hE z1 z2 z3
  obtain ⟨hlt,-,-,-,-,-,-,d10,-,d12,-,d14⟩:=H1.out.cells
  rw [hm] at d14
  repeat' (first|refine X_pure Tryz.func33 (none_of HP1.out hs) ?_|refine X_pure Tryz.func50 (must_ok _) ?_|refine X_q ?_|refine X_nil ?_|refine W_seqk (fun K hK=>?_)|refine W_seqr ?_|go_step)
  refine W_drawσ [(0,0),(1,0),(2,0),(3,0),(4,0),(5,0),(6,0),(7,0),(8,0),(9,0),(10,1),(11,0),(12,2)] (by kernel_rfl) (by kernel_rfl) ?_
  repeat' (first|refine X_q ?_|fail)
  refine X_pure1 Tryz.func65 (fun z=>containsHas_calls ((H1.out.rdL.take m hml).later z.ext) id num seq (Nat.lt_of_lt_of_le g1 z.ext.size) (Nat.lt_of_lt_of_le g2 z.ext.size) (Nat.lt_of_lt_of_le g3 z.ext.size) ((cell?_mod z.ext g1 (fun h=>h)).trans HZ.out.1) ((cell?_mod z.ext g2 (fun h=>h)).trans HZ.out.2.1) ((cell?_mod z.ext g3 (fun h=>h)).trans HZ.out.2.2)) ?_
  repeat' (first|refine X_q ?_|fail)
  refine X_store (off:=0) HBE.out (fun W5 hM5 hB5=>?_)
  have HB5:=Lib.hid hB5
  have HM5:=Lib.hid hM5
  clear hM5 hB5
  repeat' (first|refine X_niln ?_|refine W_ret ?_|go_step)
  refine End_okT hd (HB5.out.congr (g':=fun _=>.int .i64 0) (fun k hk=>by obtain rfl:k = 0:=(by omega);rfl)) ⟨rfl,Ext.fresh HE.out HM5.out (fun k hk=>by subst hk;exact hwbe)⟩
theorem has_no {w : World} {b : Nat} {F : Nat → Prop} {s : RepS} (h : Rep w b F s) (hs : s.least ≠ 0) (hr : s.role ≠ 3) (id num seq : Int) :
    Ret Tryz.prog 25 #[.pointer (some ⟨b,0,none⟩),.int .i64 id,.int .i64 num,.int .i64 seq] w fun v w'=>v = .tuple #[.bool false,.int .i64 211]∧Ext w w':=by
  have HP:=Lib.hid h
  obtain ⟨uL,uI,uC,h,hf⟩:=h.ex
  have H:=Lib.hid h
  have hbw:=h.blk.lt
  clear h hf
  have hrb:(s.role == 3) = false:=by simp [hr]
  refine Fn_ofD Tryz.func25 rfl (Nat.le_of_ble_eq_true rfl) ?_;intro A hd hA;simp only [ix,Nat.reduceAdd];replace hA:A.tmps.size = 31:=hA
  repeat' (first|refine X_q ?_|refine X_nil ?_|refine W_seqk (fun K hK=>?_)|refine W_seqr ?_|(refine X_s (fun x K hK=>?_);go_simp;refine hK _ _ (Ext.alloc _ _) ?_;clear hK K;refine X_al x ?_;generalize (World.later _ x).heap.size = bn;intro yn hn1 hn2 hn3 hn4 hn5;clear x)|go_step)
  rename_i x1 y1 p1 p2 p3 p4 p5 x2 y2 q1 q2 q3 q4 q5 x3 y3 r1 r2 r3 r4 r5
  refine X_defc (be:=bn) hd hA (fun W hE=>by unfold execOp caughtD;go_simp) ?_;have hbe:=Lib.hid (Blk.one hn5.out);clear hd hA A;intro A hd hA;obtain ⟨be,hbe0⟩:∃ be:Nat,be = bn:=⟨_,rfl⟩;subst hbe0
  have hE:Ext w (((((w.later y1).later y2).later y3).later yn)):=by simp
  have HBE:=Lib.hid hbe.out
  have hwbe:w.heap.size≤be:=by have:=y1.ext.size;have:=y2.ext.size;have:=y3.ext.size;omega
  clear hbe
  generalize World.later _ yn = W at *
  clear p1 p2 p3 p4 p5 q1 q2 q3 q4 q5 r1 r2 r3 r4 r5 hn1 hn2 hn3 hn4 hn5 yn y3 y2 y1
  have HE:=Lib.hid hE
  have H1:=Lib.hid (H.out.later hE)
  have HP1:=Lib.hid (HP.out.later hE)
  clear hE
  obtain ⟨hlt,-,-,-,-,-,-,d10,-,d12,-,d14⟩:=H1.out.cells
  repeat' (first|refine X_pure Tryz.func33 (none_of HP1.out hs) ?_|(refine X_pure Tryz.func50 (must_ok 1) ?_)|refine X_q ?_|refine X_nil ?_|refine W_seqk (fun K hK=>?_)|refine W_seqr ?_|go_step)
  refine X_die Tryz.func50 (must_no 211) (fun c w' hC=>?_)
  obtain ⟨rfl,hE4⟩:=hC
  refine End_noT hd (HBE.out.later hE4) (fun W1 hM=>⟨rfl,Ext.fresh (Ext.trans HE.out hE4) hM (fun k hk=>by subst hk;exact hwbe)⟩)
def RepS.fitsNow (s:RepS) (p:Reply):Bool:=(p.epoch == s.epoch) && (p.base == (s.log.length:Int)) && (p.last == lastE s.log)
def RepS.takeNo (s:RepS) (p:Reply):Int :=
  if p.right = false then 2 else if s.role ≠ 2 then 211 else if s.fitsNow p = false then 210 else if p.cut = true then 0 else if (4096:Int) - s.log.length < p.entries.length then 3 else 0
def RepS.cutAt (s:RepS) (p:Reply):Int:=gmax 0 (gmin (min p.cutEnd (aboveE s.log p.cutEpoch:Int)) ((s.log.length:Int) - 1))
def RepS.take (s:RepS) (p:Reply):RepS :=
  if s.takeNo p ≠ 0 then s else
  if p.cut = true then { s with log:=s.log.take (s.cutAt p).toNat,flushed:=gmin s.flushed (s.cutAt p),high:=gmin s.high (s.cutAt p) }
  else { s with log:=s.log ++ p.entries,high:=gmax s.high (gmin p.high ((s.log.length + p.entries.length:Nat):Int)) }
theorem take_rep {w : World} {b : Nat} {F : Nat → Prop} {s : RepS} (h : Rep w b F s) (hs : s.least ≠ 0) (hm : mayE s.log = true) (hl : s.log.length ≤ 4096) {u : Value} {p : Reply} (hu : RdE w u p.entries) (hul : p.entries.length ≤ 100000) :
    Ret Tryz.prog 27 #[.pointer (some ⟨b,0,none⟩),p.v u] w fun r w'=>r = .int .i64 (s.takeNo p)∧Mod F w w'∧Rep w' b (fun k=>F k∨w.heap.size≤k) (s.take p):=by
  refine h.tight (R:=fun r w'=>r = .int .i64 (s.takeNo p)) ?_
  intro F h hFW
  have hFb:=Lib.hid h.own
  have HFW:=Lib.hid hFW
  clear hFW
  have HP0:=h
  obtain ⟨uL,uI,uC,h,hf⟩:=h.ex
  have H0:=h
  have HFF:=Lib.hid hf
  obtain ⟨A1,c1,rfl,hc1,hc2,-⟩:=h.rdL.ent
  have HLT:=Lib.hid h.lt
  have hbw:=h.blk.lt
  have HP:=Lib.hid HP0
  have H:=Lib.hid H0
  have HU:=Lib.hid hu
  obtain ⟨A0,c0,rfl,hc,hcm,-⟩:=hu.ent
  clear h hf H0 HP0 hu
  refine Fn_ofD Tryz.func27 rfl (Nat.le_of_ble_eq_true rfl) ?_;intro A hd hA;simp only [ix,Nat.reduceAdd];replace hA:A.tmps.size = 133:=hA
  repeat' (first|refine X_nil ?_|refine W_seqk (fun K hK=>?_)|refine W_seqr ?_|(refine X_s (fun x K hK=>?_);go_simp;refine hK _ _ (Ext.alloc _ _) ?_;clear hK K;refine X_al x ?_;generalize (World.later _ x).heap.size = bn;intro yn hn1 hn2 hn3 hn4 hn5;clear x)|go_step)
  rename_i bp yp p1 p2 p3 p4 p5
  refine X_defc (be:=bn) hd hA (fun W hE=>by unfold execOp caughtD;go_simp) ?_;have hbe:=Lib.hid (Blk.one hn5.out);clear hd hA A;intro A hd hA;obtain ⟨be,hbe0⟩:∃ be:Nat,be = bn:=⟨_,rfl⟩;subst hbe0
  have hE:Ext w ((w.later yp).later yn):=by simp
  have HX:=Lib.hid ((Blk.new p5.out).later yn.ext)
  have h1:=yp.2.size
  have hbpb:b < bp:=by omega
  have hbep:bp < be:=by omega
  have hwp:w.heap.size≤bp:=p1
  have HBE:=Lib.hid hbe.out
  clear hbe
  generalize World.later _ yn = W at *
  clear p1 p2 p3 p4 p5 hn1 hn2 hn3 hn4 hn5 h1 yn yp
  have HP1:=Lib.hid (HP.out.later hE)
  have H1:=Lib.hid (H.out.later hE)
  have HE:=Lib.hid hE
  have HU1:=Lib.hid (HU.out.later hE)
  obtain ⟨hlt,-,-,d2,-,d8,d9,d10,d11,d12,d13,d14⟩:=H1.out.cells
  have hx:=HX.out.lt
  have x0:=HX.out.cell (k:=0) (by simp)
  have x1:=HX.out.cell (k:=1) (by simp)
  have x2:=HX.out.cell (k:=2) (by simp)
  have x3:=HX.out.cell (k:=3) (by simp)
  have x4:=HX.out.cell (k:=4) (by simp)
  have x5:=HX.out.cell (k:=5) (by simp)
  have x6:=HX.out.cell (k:=6) (by simp)
  have x7:=HX.out.cell (k:=7) (by simp)
  simp at x0 x1 x2 x3 x4 x5 x6 x7
  clear hE
  by_cases g1:p.right = true
  · have HRI:=Lib.hid (g1▸rightR_calls HU1.out)
    repeat' (first|refine X_pure Tryz.func33 (none_of HP1.out hs) ?_|refine X_pure Tryz.func50 (must_ok _) ?_|refine X_pure Tryz.func67 (HRI.out) ?_|refine X_q ?_|refine X_nil ?_|refine W_seqk (fun K hK=>?_)|refine W_seqr ?_|go_step)
    have hpos:(0≤p.cutEpoch∧0≤p.cutEnd)∧0≤p.high:=by
      have:=g1
      simp only [Reply.right,Bool.and_eq_true,decide_eq_true_eq] at this
      exact ⟨⟨this.1.1.2,this.1.2⟩,this.2⟩
    by_cases g2:s.role = 2
    · have g2b:(s.role == 2) = true:=by simp [g2]
      repeat' (first|refine X_pure Tryz.func50 (must_ok _) ?_|refine X_nil ?_|refine W_seqk (fun K hK=>?_)|go_step)
      by_cases g3:s.fitsNow p = true
      · have g3':=g3
        simp only [RepS.fitsNow,Bool.and_eq_true] at g3'
        obtain ⟨⟨g31,g32⟩,g33⟩:=g3'
        refine W_drawσ [(0,0),(1,0),(2,0),(3,0),(4,0),(5,0),(6,0),(7,0),(8,0),(9,0),(10,0),(11,0),(12,0),(13,0),(14,0),(15,0),(16,0),(17,0),(18,0),(19,0),(20,0),(21,1),(22,0),(23,0),(24,1)] (by kernel_rfl) (by kernel_rfl) ?_
        repeat' (first|(refine X_pure1 Tryz.func59 (fun x=>rlast_calls (HP1.out.later (by simp)) hm) ?_)|(refine X_pure1 Tryz.func50 (fun _=>must_ok 210) ?_)|refine X_gt ?_|refine X_q ?_|refine X_niln ?_|refine X_nil ?_|refine W_seqk (fun K hK=>?_)|refine W_seqr ?_|refine W_skip ?_|refine W_test (fun hc=>?_) (fun hc=>?_)|go_step)
        · have g4:=hc
          clear hc
          have hap:s.takeNo p = 0:=by unfold RepS.takeNo;rw [if_neg (by simp [g1]),if_neg (by simp [g2]),if_neg (by simp [g3]),if_pos g4]
          have hcu:=fun (W:World) (h:RdE W (.slice A1 s.log.length c1) s.log)=>cut_calls s.log _ p.cutEpoch p.cutEnd W h hpos.1.1 hpos.1.2 hm
          have hab:aboveE s.log p.cutEpoch≤s.log.length:=by unfold aboveE;exact (List.takeWhile_sublist _).length_le
          have hct:s.cutAt p = gmax 0 (gmin (min p.cutEnd (aboveE s.log p.cutEpoch:Int)) ((s.log.length:Int) - 1)):=rfl
          have hc0:0≤min p.cutEnd (aboveE s.log p.cutEpoch:Int)∧min p.cutEnd (aboveE s.log p.cutEpoch:Int)≤s.log.length:=by omega
          generalize min p.cutEnd (aboveE s.log p.cutEpoch:Int) = cc at *
          obtain ⟨n,hn⟩:∃ n:Nat,s.cutAt p = n:=⟨(s.cutAt p).toNat,by rw [hct,gmax_eq,gmin_eq];omega⟩
          have hnl:n≤s.log.length:=by rw [hct,gmax_eq,gmin_eq] at hn;omega
          have hnn:(if (0:Int) < (if (s.log.length:Int) - 1 < cc then (s.log.length:Int) - 1 else cc) then (if (s.log.length:Int) - 1 < cc then (s.log.length:Int) - 1 else cc) else 0) = (n:Int):=by rw [← hn,hct];unfold gmax gmin;rfl
          have hnc:n≤c1:=by omega
          have HN:=Lib.hid hn
          have HCU:=Lib.hid hcu
          have HAP:=Lib.hid hap
          clear hcu hct hn hap hab
          refine W_draw (by kernel_rfl) (by kernel_rfl) ?_
          repeat' (first|refine X_pure Tryz.func68 (HCU.out _ (H1.out.rdL.later (by simp))) ?_|refine X_q ?_|refine X_niln ?_|refine X_nil ?_|refine W_seqk (fun K hK=>?_)|refine W_seqr ?_|go_step)
          refine X_ret Tryz.func46 (cloneE_calls (H1.out.rdL.take n hnl) (by simp;omega)) (fun r W2 hR=>?_)
          have HR:=Lib.hid hR
          obtain ⟨hE2,-,-⟩:=hR
          have H2:=Lib.hid (H1.out.later hE2)
          have HBE2:=Lib.hid (HBE.out.later hE2)
          have HE2:=Lib.hid (Ext.trans HE.out hE2)
          have hbe1:=HBE.out.lt
          clear hE2 hlt d2 d8 d9 d10 d11 d12 d13 d14 x0 x1 x2 x3 x4 x5 x6 x7 hx
          obtain ⟨Ar,mr,cr,rfl⟩:=own_slice HR.out.2.1
          have HFR:Hid (∀ k,(Value.slice Ar mr cr).ownBlock = some k→W.heap.size≤k):=Lib.hid HR.out.2.2
          have hWw:=HE.out.size
          repeat' (first|refine X_q ?_|fail)
          refine X_store (off:=12) H2.out.blk (fun W3 hM3 hB3=>?_)
          have HA3:=Lib.hid (H2.out.putL hM3 hB3 (HR.out.2.1.mod hM3 (fun k hk he=>by subst he;have:=HFR.out _ hk;omega)) (fun hk=>by have:=HFR.out _ hk;omega) (fun k hk=>⟨fun h=>by have:=HFR.out _ hk;have:=HLT.out k (.inr (.inr (.inl h)));omega,fun h=>by have:=HFR.out _ hk;have:=HLT.out k (.inr (.inr (.inr h)));omega⟩))
          have HM:=Lib.hid (Mod.trans HE2.out hM3 (fun _ _ h=>h.elim) (fun _ _ h=>h):Mod (· = b) w W3)
          have HBE3:=Lib.hid (HBE2.out.mod hM3 (fun h=>by omega))
          clear hM3 hB3
          obtain ⟨hlt1,-,-,-,-,-,-,-,-,-,e13,e14⟩:=HA3.out.cells
          have hmin1:(if (n:Int) < s.high then (n:Int) else s.high) = gmin s.high n:=rfl
          have hmin2:(if (n:Int) < s.flushed then (n:Int) else s.flushed) = gmin s.flushed n:=rfl
          repeat' (first|refine X_nil ?_|refine W_seqk (fun K hK=>?_)|go_step)
          obtain ⟨G,hG⟩:∃ G:Nat→Prop,G = (fun k=>k = b):=⟨_,rfl⟩
          have HGb:Hid (G b):=Lib.hid (by subst hG;rfl)
          clear hG
          refine W_drawG G [(0,0),(1,0),(2,0),(3,0),(4,0),(5,3),(6,0),(7,0),(8,0),(9,0),(10,0),(11,3),(12,0),(13,0),(14,0),(15,0),(16,2),(17,0),(18,0),(19,2)] (by kernel_rfl) (by kernel_rfl) ?_
          repeat' (first|refine Y_q ?_|refine Y_r ?_|fail)
          refine Y_store (off:=13) HA3.out.blk HGb.out (fun W4 hM4 hG4 hB4=>?_)
          have HA4:=Lib.hid (HA3.out.putFlu hM4 hB4)
          have HM:=Lib.hid (HM.out.transG hM4)
          have HBE4:=Lib.hid (HBE3.out.mod hM4 (fun h=>by omega))
          clear hM4 hB4 hG4
          repeat' (first|refine Y_q ?_|fail)
          refine Y_store (off:=14) HA4.out.blk HGb.out (fun W5 hM5 hG5 hB5=>?_)
          have HA5:=Lib.hid (HA4.out.putHigh hM5 hB5)
          have HM:=Lib.hid (HM.out.transG hM5)
          have HBE5:=Lib.hid (HBE4.out.mod hM5 (fun h=>by omega))
          clear hM5 hB5 hG5
          repeat' (first|refine Y_nil ?_)
          repeat' (first|refine W_seqk (fun K hK=>?_)|refine W_seqr ?_|go_step)
          refine X_store (off:=0) HBE5.out (fun W6 hM6 hB6=>?_)
          have HA6:=Lib.hid (HA5.out.mod hM6 (fun k hk he=>by
            subst he
            rcases hk with h|h|h|h
            · omega
            · have:=HFR.out _ h;omega
            · have:=HLT.out _ (.inr (.inr (.inl h)));omega
            · have:=HLT.out _ (.inr (.inr (.inr h)));omega))
          have HB6:=Lib.hid hB6
          have HM6:=Lib.hid hM6
          clear hM6 hB6
          repeat' (first|refine X_nil ?_|refine W_ret ?_|go_step)
          have htk:s.take p = { s with log:=s.log.take n,flushed:=gmin s.flushed n,high:=gmin s.high n }:=by unfold RepS.take;rw [if_neg (by rw [HAP.out];decide),if_pos g4,HN.out];rfl
          refine End_ok1 hd (HB6.out.congr (g':=fun _=>.int .i64 0) (fun k hk=>by obtain rfl:k = 0:=(by omega);rfl)) ⟨by rw [HAP.out],?_,?_⟩
          · exact Mod.trans HM.out HM6.out (fun k _ h=>by subst h;exact hFb.out) (fun k hk h=>by subst h;omega)
          · rw [htk]
            refine ⟨_,_,_,HA6.out,?_⟩
            rintro k (rfl|hk|hk|hk)
            · exact .inl hFb.out
            · exact .inr (Nat.le_trans hWw (HFR.out k hk))
            · exact .inl (HFF.out k (.inr (.inr (.inl hk))))
            · exact .inl (HFF.out k (.inr (.inr (.inr hk))))
        · have g4:=hc
          clear hc
          by_cases g5:(p.entries.length:Int)≤4096 - s.log.length
          · have g5b:decide ((p.entries.length:Int)≤4096 - s.log.length) = true:=by simpa using g5
            have hap:s.takeNo p = 0:=by unfold RepS.takeNo;rw [if_neg (by simp [g1]),if_neg (by simp [g2]),if_neg (by simp [g3]),if_neg (by simp [g4]),if_neg (by omega)]
            have HAP:=Lib.hid hap
            clear hap
            refine W_drawσ [(0,0),(1,0),(2,0),(3,0),(4,0),(5,0),(6,0),(7,0),(8,0),(9,0),(10,1)] (by kernel_rfl) (by kernel_rfl) ?_
            repeat' (first|(refine X_pure1 Tryz.func50 (fun _=>must_ok 3) ?_)|refine X_q ?_|refine X_niln ?_|refine W_seqk (fun K hK=>?_)|go_step)
            refine W_drawσ [(0,0),(1,0),(2,0),(3,0),(4,0),(5,0),(6,0),(7,2),(8,0),(9,0),(10,2)] (by kernel_rfl) (by kernel_rfl) ?_
            repeat' (first|refine X_q ?_|fail)
            refine X_append (xs:=s.log) elemEnt H1.out.own HU1.out (by omega) (by unfold maxLen;omega) (fun v' W3 hM3 hO3 hF3 hN3=>?_)
            obtain ⟨A3,m3,c3,rfl⟩:=own_slice hO3
            have hb2n:¬ (Value.slice A1 s.log.length c1).ownBlock = some b:=H1.out.nL
            have HH3:=Lib.hid (H1.out.blk.mod hM3 hb2n)
            have HO3:=Lib.hid hO3
            have HF3:=Lib.hid hF3
            have HM23:=Lib.hid hM3
            have hnbe:¬ (Value.slice A1 s.log.length c1).ownBlock = some be:=fun h=>by have:=HLT.out be (.inr (.inl h));omega
            have hnbp:¬ (Value.slice A1 s.log.length c1).ownBlock = some bp:=fun h=>by have:=HLT.out bp (.inr (.inl h));omega
            have y7:=(cell?_mod hM3 (o:=7) hx hnbp).trans x7
            have hx3:bp < W3.heap.size:=Nat.lt_of_lt_of_le hx hM3.size
            have hbeW:=HBE.out.lt
            clear hO3 hF3 hM3 hN3 x0 x1 x2 x3 x4 x5 x6 x7 hx
            repeat' (first|refine X_q ?_|fail)
            refine X_store (off:=12) HH3.out (fun W4 hM4 hB4=>?_)
            have HA4:=Lib.hid (H1.out.grow HM23.out HO3.out HF3.out hM4 hB4)
            have HM4:=Lib.hid (Mod.trans HM23.out hM4 (H:=fun k=>k = b∨(Value.slice A1 s.log.length c1).ownBlock = some k) (fun _ _ h=>.inr h) (fun _ _ h=>.inl h))
            have HBE4:=Lib.hid ((HBE.out.mod HM23.out hnbe).mod hM4 (fun h=>by omega))
            have z7:=(cell?_mod hM4 (o:=7) hx3 (fun h=>by omega)).trans y7
            have hx4:bp < W4.heap.size:=Nat.lt_of_lt_of_le hx3 hM4.size
            clear hM4 hB4 hlt d2 d8 d9 d10 d11 d12 d13 d14 y7 hx3
            obtain ⟨A5,c5,hA5,-⟩:=HA4.out.rdL.ent
            simp only [List.length_append] at hA5
            cases hA5
            obtain ⟨hlt,-,-,-,-,-,-,-,-,d12,-,d14⟩:=HA4.out.cells
            repeat' (first|refine X_niln ?_|refine W_seqk (fun K hK=>?_)|go_step)
            refine W_draw (by kernel_rfl) (by kernel_rfl) ?_
            repeat' (first|refine X_q ?_|fail)
            refine X_store (off:=14) HA4.out.blk (fun W5 hM5 hB5=>?_)
            have HA5:=Lib.hid (HA4.out.putHigh hM5 hB5)
            have HM5:=Lib.hid (Mod.trans HM4.out hM5 (H:=fun k=>k = b∨(Value.slice A1 s.log.length c1).ownBlock = some k) (fun _ _ h=>h) (fun _ _ h=>.inl h))
            have HBE5:=Lib.hid (HBE4.out.mod hM5 (fun h=>by omega))
            clear hM5 hB5
            repeat' (first|refine X_niln ?_|refine W_seqk (fun K hK=>?_)|refine W_seqr ?_|go_step)
            refine X_store (off:=0) HBE5.out (fun W6 hM6 hB6=>?_)
            have hbn:∀ k,RFoot b (.slice A3 (s.log.length + p.entries.length) c3) uI uC k→k ≠ be∧(F k∨w.heap.size≤k):=by
              rintro k (h|h|h|h)
              · subst h;exact ⟨by omega,.inl hFb.out⟩
              · rcases HF3.out with h'|⟨g,h',hg⟩
                · have h2:=h'▸h
                  exact ⟨fun e=>hnbe (e▸h2),.inl (HFF.out k (.inr (.inl h2)))⟩
                · rw [h'] at h;cases h
                  exact ⟨by omega,.inr (Nat.le_trans HE.out.size hg)⟩
              · have:=HLT.out k (.inr (.inr (.inl h)))
                exact ⟨by omega,.inl (HFF.out k (.inr (.inr (.inl h))))⟩
              · have:=HLT.out k (.inr (.inr (.inr h)))
                exact ⟨by omega,.inl (HFF.out k (.inr (.inr (.inr h))))⟩
            have HBN:=Lib.hid hbn
            have HA6:=Lib.hid (HA5.out.mod hM6 (fun k hk he=>(hbn k hk).1 he))
            have HB6:=Lib.hid hB6
            have HM6:=Lib.hid hM6
            clear hM6 hB6 hbn
            repeat' (first|refine X_nil ?_|refine W_ret ?_|go_step)
            refine End_ok1 hd (HB6.out.congr (g':=fun _=>.int .i64 0) (fun k hk=>by obtain rfl:k = 0:=(by omega);rfl)) ⟨by rw [HAP.out],?_,?_⟩
            · refine Mod.trans (Mod.trans HE.out HM5.out (H:=F) (fun _ _ h=>h.elim) (fun k hk h=>?_)) HM6.out (fun _ _ h=>h) (fun k hk h=>by subst h;omega)
              rcases h with h|h
              · subst h;exact hFb.out
              · exact HFF.out k (.inr (.inl h))
            · have htk:s.take p = { s with log:=s.log ++ p.entries,high:=gmax s.high (gmin p.high ((s.log.length + p.entries.length:Nat):Int)) }:=by unfold RepS.take;rw [if_neg (by rw [HAP.out];decide),if_neg (by simp [g4])]
              rw [htk]
              refine ⟨_,_,_,?_,fun k hk=>(HBN.out k hk).2⟩
              exact HA6.out
          · have g5b:decide ((p.entries.length:Int)≤4096 - s.log.length) = false:=by simpa using g5
            have hap:s.takeNo p = 3:=by unfold RepS.takeNo;rw [if_neg (by simp [g1]),if_neg (by simp [g2]),if_neg (by simp [g3]),if_neg (by simp [g4]),if_pos (by omega)]
            refine W_die [(0,0),(1,0),(2,0),(3,0),(4,0),(5,0),(6,0),(7,0),(8,0),(9,0)] 10 (by kernel_rfl) (by kernel_rfl) ?_
            repeat' (first|refine X_q ?_|refine X_niln ?_|fail)
            refine Dies_call Tryz.func50 (must_no 3) (fun c w' hC=>?_)
            obtain ⟨rfl,hE4⟩:=hC
            have htk:s.take p = s:=by unfold RepS.take;rw [hap,if_pos (by decide)]
            refine End_no1 hd (HBE.out.later hE4) (fun W1 hM=>?_)
            have hM':=Ext.fresh (Ext.trans HE.out hE4) hM (fun k hk=>by subst hk;omega)
            exact ⟨by rw [hap],hM'.mono (fun _ _ h=>h.elim),by rw [htk];exact (HP.out.later hM').mono (fun k hk=>.inl hk)⟩
      · have g3f:s.fitsNow p = false:=by simpa using g3
        have hap:s.takeNo p = 210:=by unfold RepS.takeNo;rw [if_neg (by simp [g1]),if_neg (by simp [g2]),if_pos g3f]
        refine W_die [(0,0),(1,0),(2,0),(3,0),(4,0),(5,0),(6,0),(7,0),(8,0),(9,0),(10,0),(11,0),(12,0),(13,0),(14,0),(15,0),(16,0),(17,0),(18,0),(19,0),(20,0),(21,1),(22,0),(23,0)] 24 (by kernel_rfl) (by kernel_rfl) ?_
        repeat' (first|(refine X_gpure1 Tryz.func59 (fun _ x=>rlast_calls (HP1.out.later (by simp)) hm) ?_)|refine X_d (fun vb hvb=>?_)|refine X_q ?_|refine X_g ?_|refine X_niln ?_|fail)
        repeat cases ‹Eqn _ _›
        refine Dies_call (lv:=[.bool false,.int .i64 210]) Tryz.func50 (must_no 210) (fun c w' hC=>?_) (hlv:=by exact congrArg (fun x=>[Value.bool x,Value.int .i64 210]) g3f)
        obtain ⟨rfl,hE4⟩:=hC
        have htk:s.take p = s:=by unfold RepS.take;rw [hap,if_pos (by decide)]
        refine End_no1 hd (HBE.out.later hE4) (fun W1 hM=>?_)
        have hM':=Ext.fresh (Ext.trans HE.out hE4) hM (fun k hk=>by subst hk;omega)
        exact ⟨by rw [hap],hM'.mono (fun _ _ h=>h.elim),by rw [htk];exact (HP.out.later hM').mono (fun k hk=>.inl hk)⟩
    · have g2b:(s.role == 2) = false:=by simp [g2]
      have hap:s.takeNo p = 211:=by unfold RepS.takeNo;rw [if_neg (by simp [g1]),if_pos g2]
      skip
      refine X_die Tryz.func50 (must_no 211) (fun c w' hC=>?_)
      obtain ⟨rfl,hE4⟩:=hC
      have htk:s.take p = s:=by unfold RepS.take;rw [hap,if_pos (by decide)]
      refine End_no1 hd (HBE.out.later hE4) (fun W1 hM=>?_)
      have hM':=Ext.fresh (Ext.trans HE.out hE4) hM (fun k hk=>by subst hk;omega)
      exact ⟨by rw [hap],hM'.mono (fun _ _ h=>h.elim),by rw [htk];exact (HP.out.later hM').mono (fun k hk=>.inl hk)⟩
  · have g1f:p.right = false:=by simpa using g1
    have HRI:=Lib.hid (g1f▸rightR_calls HU1.out)
    have hap:s.takeNo p = 2:=by unfold RepS.takeNo;rw [if_pos g1f]
    repeat' (first|refine X_pure Tryz.func33 (none_of HP1.out hs) ?_|(refine X_pure Tryz.func50 (must_ok 1) ?_)|refine X_pure Tryz.func67 (HRI.out) ?_|refine X_q ?_|refine X_nil ?_|refine W_seqk (fun K hK=>?_)|refine W_seqr ?_|go_step)
    refine X_die Tryz.func50 (must_no 2) (fun c w' hC=>?_)
    obtain ⟨rfl,hE4⟩:=hC
    have htk:s.take p = s:=by unfold RepS.take;rw [hap,if_pos (by decide)]
    refine End_no1 hd (HBE.out.later hE4) (fun W1 hM=>?_)
    have hM':=Ext.fresh (Ext.trans HE.out hE4) hM (fun k hk=>by subst hk;omega)
    exact ⟨by rw [hap],hM'.mono (fun _ _ h=>h.elim),by rw [htk];exact (HP.out.later hM').mono (fun k hk=>.inl hk)⟩
structure Stand where
  role:Int
  epoch:Int
  version:Int
  flushed:Int
  high:Int
  beg:Int
  isr:List Int
  counts:List Int
  known:List Int
abbrev Stand.cs (x:Stand) (u1 u2 u3:Value):List Value:=[.int .i64 x.role,.int .i64 x.epoch,.int .i64 x.version,.int .i64 x.flushed,.int .i64 x.high,.int .i64 x.beg,u1,u2,u3]
abbrev Stand.v (x:Stand) (u1 u2 u3:Value):Value:=.agg #[.int .i64 x.role,.int .i64 x.epoch,.int .i64 x.version,.int .i64 x.flushed,.int .i64 x.high,.int .i64 x.beg,u1,u2,u3]
def RepS.stand (s:RepS):Stand :=
  if s.role = 3 then ⟨s.role,s.epoch,s.version,s.flushed,s.high,s.beg,s.isr,s.counts,[s.known 0,s.known 1,s.known 2,s.known 3]⟩
  else ⟨s.role,s.epoch,0,s.flushed,s.high,0,[],[],[]⟩
def SV (w:World) (v:Value) (x:Stand):Prop:=∃ u1 u2 u3,v = x.v u1 u2 u3∧RdI w u1 x.isr∧RdI w u2 x.counts∧RdI w u3 x.known
theorem SV.later {w w':World} {v:Value} {x:Stand} (h:SV w v x) (hE:Ext w w'):SV w' v x:=by
  obtain ⟨u1,u2,u3,h,h1,h2,h3⟩:=h
  exact ⟨u1,u2,u3,h,h1.later hE,h2.later hE,h3.later hE⟩
theorem stand_cs {x:Stand} {u1 u2 u3:Value} {g:Nat→Value} (h:g 0 = .int .i64 x.role∧g 1 = .int .i64 x.epoch∧g 2 = .int .i64 x.version∧g 3 = .int .i64 x.flushed∧g 4 = .int .i64 x.high∧g 5 = .int .i64 x.beg∧g 6 = u1∧g 7 = u2∧g 8 = u3) {k:Nat} (hk:k < (x.cs u1 u2 u3).length):(x.cs u1 u2 u3)[k]? = some (g k):=by
  obtain ⟨h0,h1,h2,h3,h4,h5,h6,h7,h8⟩:=h
  simp only [List.length_cons,List.length_nil] at hk
  obtain rfl|rfl|rfl|rfl|rfl|rfl|rfl|rfl|rfl:k = 0∨k = 1∨k = 2∨k = 3∨k = 4∨k = 5∨k = 6∨k = 7∨k = 8:=by omega
  · rw [h0];rfl
  · rw [h1];rfl
  · rw [h2];rfl
  · rw [h3];rfl
  · rw [h4];rfl
  · rw [h5];rfl
  · rw [h6];rfl
  · rw [h7];rfl
  · rw [h8];rfl
theorem RepAt.knowns {w:World} {b:Nat} {uL uI uC:Value} {s:RepS} (h:RepAt w b uL uI uC s):RdI w (.slice (some ⟨b,4,none⟩) 4 4) [s.known 0,s.known 1,s.known 2,s.known 3]:=by
  refine ⟨some ⟨b,4,none⟩,4,rfl,Nat.le_refl _,by unfold maxLen;omega,.inr ⟨b,4,rfl,h.blk.lt,fun i x hx j u hu=>?_⟩⟩
  have hj:j = 0:=by
    rcases Nat.lt_or_ge j 1 with h|h
    · omega
    · rw [List.getElem?_eq_none (by simpa using h)] at hu;cases hu
  subst hj
  simp at hu
  subst hu
  have hi:i < 4:=by
    rcases Nat.lt_or_ge i 4 with h|h
    · exact h
    · rw [List.getElem?_eq_none (by simpa using h)] at hx;cases hx
  have h1:=h.knownAt i hi
  obtain rfl|rfl|rfl|rfl:i = 0∨i = 1∨i = 2∨i = 3:=by omega
  all_goals (simp at hx;subst hx;simpa using h1)
theorem standing_rep {w : World} {b : Nat} {F : Nat → Prop} {s : RepS} (h : Rep w b F s) (hs : s.least ≠ 0) (hi : s.isr.length ≤ 1000) (hc : s.counts.length ≤ 1000) :
    Ret Tryz.prog 15 #[.pointer (some ⟨b,0,none⟩)] w fun v w'=>Ext w w'∧∃ u1 u2 u3,v = s.stand.v u1 u2 u3∧RdI w' u1 s.stand.isr∧RdI w' u2 s.stand.counts∧RdI w' u3 s.stand.known∧(∀ k,u1.ownBlock = some k∨u2.ownBlock = some k∨u3.ownBlock = some k→w.heap.size≤k):=by
  have HP:=Lib.hid h
  obtain ⟨uL,uI,uC,h,hf⟩:=h.ex
  have H0:=h
  obtain ⟨A2,c2,rfl,-⟩:=h.ri.int
  obtain ⟨A3,c3,rfl,-⟩:=h.rc.int
  have hbw:=h.blk.lt
  have H:=Lib.hid H0
  clear h hf H0
  refine Fn_of Tryz.func15 rfl (Nat.le_of_ble_eq_true rfl) ?_;intro A hd hA;simp only [ix,Nat.reduceAdd];replace hA:A.tmps.size = 63:=hA
  repeat' (first|refine X_q ?_|refine X_nil ?_|refine W_seqk (fun K hK=>?_)|refine W_seqr ?_|(refine X_s (fun x K hK=>?_);go_simp;refine hK _ _ (Ext.alloc _ _) ?_;clear hK K;refine X_al x ?_;generalize (World.later _ x).heap.size = bn;intro yn hn1 hn2 hn3 hn4 hn5;clear x)|go_step)
  have hE:Ext w (w.later yn):=yn.ext
  have HY:=Lib.hid (Blk.new hn5.out)
  obtain ⟨br,hbr0⟩:∃ br:Nat,br = bn:=⟨_,rfl⟩
  subst hbr0
  have hbrw:w.heap.size≤br:=hn1
  generalize World.later w yn = W at *
  clear hn1 hn2 hn3 hn4 hn5 yn
  have HP1:=Lib.hid (HP.out.later hE)
  have H1:=Lib.hid (H.out.later hE)
  have HE:=Lib.hid hE
  clear hE
  obtain ⟨hlt,d0,d1,d2,d3,d8,d9,d10,d11,d12,d13,d14⟩:=H1.out.cells
  repeat' (first|refine X_pure Tryz.func33 (none_of HP1.out hs) ?_|refine X_nil ?_|refine W_seqk (fun K hK=>?_)|refine W_skip ?_|refine W_ff ?_|go_step)
  refine W_draw (by kernel_rfl) (by kernel_rfl) ?_
  repeat' (first|refine X_q ?_|refine X_niln ?_|refine X_nil ?_|(refine X_var (fun yn bn hn1 hn2 hn3 hn4 hn5=>?_))|refine W_seqk (fun K hK=>?_)|refine W_seqr ?_|refine W_skip ?_|refine W_test (fun hc=>?_) (fun hc=>?_)|go_step)
  · have hrole:s.role = 3:=by simpa using hc
    obtain ⟨bo,hbo0⟩:∃ bo:Nat,bo = bn:=⟨_,rfl⟩
    subst hbo0
    have hE2:Ext W (W.later yn):=yn.ext
    have HO:=Lib.hid (Blk.new hn5.out)
    have hboW:W.heap.size≤bo:=hn1
    have hbrW:=HY.out.lt
    generalize World.later W yn = W2 at *
    clear hn1 hn2 hn3 hn4 hn5 yn
    have H2:=Lib.hid (H1.out.later hE2)
    have HY2:=Lib.hid (HY.out.later hE2)
    have HE2:=Lib.hid (Ext.trans HE.out hE2)
    have hcW:=HE.out.size
    clear hlt d0 d1 d2 d3 d8 d9 d10 d11 d12 d13 d14 hE2
    obtain ⟨hlt,d0,d1,d2,d3,d8,d9,d10,d11,d12,d13,d14⟩:=H2.out.cells
    obtain ⟨G,hG⟩:∃ G:Nat→Prop,G = (fun k=>k = bo):=⟨_,rfl⟩
    have hGb:¬ G b:=by subst hG;show ¬ b = bo;omega
    have HGo:Hid (G bo):=Lib.hid (by subst hG;rfl)
    clear hG
    refine W_drawG G [(0,0),(1,0),(2,0),(3,0),(4,3),(5,0),(6,0),(7,0),(8,0),(9,0),(10,0),(11,2),(12,0),(13,2)] (by kernel_rfl) (by kernel_rfl) ?_
    repeat' (first|refine Y_q ?_|refine Y_r ?_|fail)
    refine Y_store (off:=2) HO.out HGo.out (fun W3 hM3 hG3 hB3=>?_)
    have HO:=Lib.hid hB3
    have HM:=Lib.hid hM3
    clear hM3 hB3 hG3
    repeat' (first|refine Y_q ?_|fail)
    refine Y_store (off:=5) HO.out HGo.out (fun W4 hM4 hG4 hB4=>?_)
    have HO:=Lib.hid hB4
    have HM:=Lib.hid (HM.out.transG hM4)
    clear hM4 hB4 hG4
    repeat' (first|refine Y_nil ?_)
    have hE4:Ext w W4:=Ext.fresh HE2.out HM.out (fun k hk=>by subst hk;omega)
    have HE4:=Lib.hid hE4
    have H4:=Lib.hid (H.out.later hE4)
    have HY4:=Lib.hid (HY2.out.mod HM.out (fun h=>by omega))
    clear hlt d0 d1 d2 d3 d8 d9 d10 d11 d12 d13 d14 hE4
    obtain ⟨hlt,d0,d1,d2,d3,d8,d9,d10,d11,d12,d13,d14⟩:=H4.out.cells
    have hoW:=HO.out.lt
    repeat' (first|go_step)
    refine W_drawσ [(0,0),(1,0),(2,0),(3,0),(4,0),(6,0),(7,0),(8,0),(9,0),(10,0),(12,0),(13,0),(14,0),(15,0),(16,0),(5,1),(18,0),(11,1),(17,1),(19,2),(20,0),(21,2),(22,0),(23,2)] (by kernel_rfl) (by kernel_rfl) ?_
    repeat' (first|refine X_q ?_|fail)
    refine X_ret1 (R:=fun w0 v' w'=>Ext w0 w'∧OwnI w' v' s.isr∧∀ b,v'.ownBlock = some b→w0.heap.size≤b) Tryz.func34 (fun z=>cloneI_calls (H4.out.ri.later z.ext).rd (by omega)) (fun z1 u1 w1 hR=>⟨hR.1,?_⟩)
    have HR1:=Lib.hid hR
    obtain ⟨y1,rfl⟩:=hR.1.get
    clear hR
    repeat' (first|refine X_q ?_|fail)
    refine X_ret1 (R:=fun w0 v' w'=>Ext w0 w'∧OwnI w' v' s.counts∧∀ b,v'.ownBlock = some b→w0.heap.size≤b) Tryz.func34 (fun z=>cloneI_calls (H4.out.rc.later (Ext.trans (Ext.trans z1.ext y1.ext) z.ext)) (by omega)) (fun z2 u2 w2 hR=>⟨hR.1,?_⟩)
    have HR2:=Lib.hid hR
    obtain ⟨y2,rfl⟩:=hR.1.get
    clear hR
    skip
    refine X_ret1 (R:=fun w0 v' w'=>Ext w0 w'∧OwnI w' v' [s.known 0,s.known 1,s.known 2,s.known 3]∧∀ b,v'.ownBlock = some b→w0.heap.size≤b) Tryz.func34 (fun z=>cloneI_calls (H4.out.knowns.later (Ext.trans (Ext.trans (Ext.trans (Ext.trans z1.ext y1.ext) z2.ext) y2.ext) z.ext)) (by simp)) (fun z3 u3 w3 hR=>⟨hR.1,?_⟩)
    have HR3:=Lib.hid hR
    obtain ⟨y3,rfl⟩:=hR.1.get
    clear hR
    have hE5:Ext W4 (World.later _ y3):=Ext.trans (Ext.trans (Ext.trans (Ext.trans (Ext.trans z1.ext y1.ext) z2.ext) y2.ext) z3.ext) y3.ext
    have h1:OwnI (World.later _ y3) u1 s.isr:=(HR1.out.2.1).later (Ext.trans (Ext.trans (Ext.trans z2.ext y2.ext) z3.ext) y3.ext)
    have h2:OwnI (World.later _ y3) u2 s.counts:=(HR2.out.2.1).later (Ext.trans z3.ext y3.ext)
    have h3:OwnI (World.later _ y3) u3 [s.known 0,s.known 1,s.known 2,s.known 3]:=HR3.out.2.1
    have s1:∀ k,u1.ownBlock = some k→W4.heap.size≤k:=fun k hk=>Nat.le_trans z1.ext.size (HR1.out.2.2 k hk)
    have s2:∀ k,u2.ownBlock = some k→W4.heap.size≤k:=fun k hk=>Nat.le_trans (Ext.trans (Ext.trans z1.ext y1.ext) z2.ext).size (HR2.out.2.2 k hk)
    have s3:∀ k,u3.ownBlock = some k→W4.heap.size≤k:=fun k hk=>Nat.le_trans (Ext.trans (Ext.trans (Ext.trans (Ext.trans z1.ext y1.ext) z2.ext) y2.ext) z3.ext).size (HR3.out.2.2 k hk)
    generalize World.later _ y3 = W5 at *
    have HS:=Lib.hid (And.intro s1 (And.intro s2 s3))
    have HI1:=Lib.hid h1
    have HI2:=Lib.hid h2
    have HI3:=Lib.hid h3
    have HO:=Lib.hid (HO.out.later hE5)
    have HY5:=Lib.hid (HY4.out.later hE5)
    have HE5:=Lib.hid (Ext.trans HE4.out hE5)
    clear HR1 HR2 HR3 hE5 h1 h2 h3 s1 s2 s3 hlt d0 d1 d2 d3 d8 d9 d10 d11 d12 d13 d14
    obtain ⟨B1,m1,c1,rfl⟩:=own_slice HI1.out
    obtain ⟨B2,m2,c2,rfl⟩:=own_slice HI2.out
    obtain ⟨B3,m3,c3,rfl⟩:=own_slice HI3.out
    skip
    refine X_store (off:=6) HO.out (fun W6 hM6 hB6=>?_)
    have HO:=Lib.hid hB6
    have HM:=Lib.hid hM6
    clear hM6 hB6
    repeat' (first|refine X_q ?_|fail)
    refine X_store (off:=7) HO.out (fun W7 hM7 hB7=>?_)
    have HO:=Lib.hid hB7
    have HM:=Lib.hid (HM.out.transG hM7)
    clear hM7 hB7
    repeat' (first|refine X_q ?_|fail)
    refine X_store (off:=8) HO.out (fun W8 hM8 hB8=>?_)
    have HO:=Lib.hid hB8
    have HM:=Lib.hid (HM.out.transG hM8)
    clear hM8 hB8
    have o0:=HO.out.cell (k:=0) (by simp)
    have o1:=HO.out.cell (k:=1) (by simp)
    have o2:=HO.out.cell (k:=2) (by simp)
    have o3:=HO.out.cell (k:=3) (by simp)
    have o4:=HO.out.cell (k:=4) (by simp)
    have o5:=HO.out.cell (k:=5) (by simp)
    have o6:=HO.out.cell (k:=6) (by simp)
    have o7:=HO.out.cell (k:=7) (by simp)
    have o8:=HO.out.cell (k:=8) (by simp)
    have hbo8:=HO.out.lt
    simp [put,Value.cells] at o0 o1 o2 o3 o4 o5 o6 o7 o8
    repeat' (first|refine X_q ?_|refine X_niln ?_|refine W_seqk (fun K hK=>?_)|refine W_seqr ?_|go_step)
    refine X_store (off:=0) (HY5.out.mod HM.out (fun h=>by omega)) (fun W9 hM9 hB9=>?_)
    have HY9:=Lib.hid hB9
    have HM9:=Lib.hid (Mod.trans HM.out hM9 (H:=fun k=>k = bo∨k = br) (fun _ _ h=>.inl h) (fun _ _ h=>.inr h))
    clear hM9 hB9
    repeat' (first|refine X_nil ?_|refine W_ret ?_|go_step)
    have hst:s.stand = ⟨s.role,s.epoch,s.version,s.flushed,s.high,s.beg,s.isr,s.counts,[s.known 0,s.known 1,s.known 2,s.known 3]⟩:=by unfold RepS.stand;rw [if_pos hrole]
    have hnot:∀ k,W4.heap.size≤k→¬ (k = bo∨k = br):=fun k hk h=>by omega
    refine Body_retcell1 (cs:=s.stand.cs (.slice B1 m1 c1) (.slice B2 m2 c2) (.slice B3 m3 c3)) hd ⟨?_,_,_,_,rfl,?_,?_,?_,?_⟩ HY9.out (fun k hk=>stand_cs ?_ hk) Tryz.underlying37
    · exact Ext.fresh HE5.out HM9.out (fun k hk=>by rcases hk with rfl|rfl <;> omega)
    · rw [hst];exact (HI1.out.rd (enc:=ics) (k:=1) (fun _=>rfl)).mod HM9.out (fun k hk=>hnot k (HS.out.1 k hk))
    · rw [hst];exact (HI2.out.rd (enc:=ics) (k:=1) (fun _=>rfl)).mod HM9.out (fun k hk=>hnot k (HS.out.2.1 k hk))
    · rw [hst];exact (HI3.out.rd (enc:=ics) (k:=1) (fun _=>rfl)).mod HM9.out (fun k hk=>hnot k (HS.out.2.2 k hk))
    · intro k hk
      have hwW4:=HE4.out.size
      rcases hk with hk|hk|hk
      · exact Nat.le_trans hwW4 (HS.out.1 k hk)
      · exact Nat.le_trans hwW4 (HS.out.2.1 k hk)
      · exact Nat.le_trans hwW4 (HS.out.2.2 k hk)
    · rw [hst];refine ⟨?_,?_,?_,?_,?_,?_,?_,?_,?_⟩ <;> first|rfl|(show Value.int .i64 3 = Value.int .i64 s.role;rw [hrole])
  · have hrole:s.role ≠ 3:=by simpa using hc
    have hE2:Ext W (W.later yn):=yn.ext
    refine X_store (off:=0) (HY.out.later hE2) (fun W9 hM9 hB9=>?_)
    have HY9:=Lib.hid hB9
    have HE9:=Lib.hid (Ext.fresh (Ext.trans HE.out hE2) hM9 (fun k hk=>by subst hk;omega))
    clear hM9 hB9
    repeat' (first|refine X_nil ?_|refine W_ret ?_|go_step)
    have hst:s.stand = ⟨s.role,s.epoch,0,s.flushed,s.high,0,[],[],[]⟩:=by unfold RepS.stand;rw [if_neg hrole]
    refine Body_retcell1 (cs:=s.stand.cs (.slice none 0 0) (.slice none 0 0) (.slice none 0 0)) hd ⟨HE9.out,_,_,_,rfl,?_,?_,?_,?_⟩ HY9.out (fun k hk=>stand_cs ?_ hk) Tryz.underlying37
    · rw [hst];exact Rd.nil _
    · rw [hst];exact Rd.nil _
    · rw [hst];exact Rd.nil _
    · rintro k (hk|hk|hk) <;> cases hk
    · rw [hst];refine ⟨?_,?_,?_,?_,?_,?_,?_,?_,?_⟩ <;> rfl
end Go.Ws
