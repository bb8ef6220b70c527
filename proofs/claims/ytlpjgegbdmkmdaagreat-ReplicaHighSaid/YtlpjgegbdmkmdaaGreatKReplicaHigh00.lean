/- Lemmas for the statements of this layer (joined texts); no condition. -/
import Derived.Test.YtlpjgegbdmkmdaaGreatBb20
import Derived.Test.YtlpjgegbdmkmdaaGreatBb29
namespace Go.Ws
open Go Go.RowKit Go.Proofs
set_option maxHeartbeats 2000000
set_option maxRecDepth 100000
set_option linter.unusedVariables false
set_option linter.unusedSimpArgs false
theorem learn_mono (s:RepS) (v:View):s.epoch≤(s.learn v).1.epoch∧s.high≤(s.learn v).1.high:=by
  unfold RepS.learn
  split
  · split
    · exact ⟨Int.le_refl _,Int.le_refl _⟩
    · split
      · unfold RepS.again
        split
        · split
          · have h1:=(count_log (s.steps v)).2.1
            have h2:=(count_high (s.steps v)).1
            have e1:(s.steps v).epoch = s.epoch:=rfl
            have e2:(s.steps v).high = s.high:=rfl
            show s.epoch≤(s.steps v).count.epoch∧s.high≤(s.steps v).count.high
            omega
          · exact ⟨Int.le_refl _,Int.le_refl _⟩
        · split
          · split
            · exact ⟨Int.le_refl _,Int.le_refl _⟩
            · exact ⟨Int.le_refl _,Int.le_refl _⟩
          · exact ⟨Int.le_refl _,Int.le_refl _⟩
      · rename_i h1 h2
        split
        · exact ⟨by show s.epoch≤v.epoch;omega,Int.le_refl _⟩
        · split
          · have h3:=count_log ({ ((({ s.turn v with role:=3 }):RepS).steps v) with beg:=s.log.length,known:=fun _=>-1 }:RepS)
            have h4:=(count_high ({ ((({ s.turn v with role:=3 }):RepS).steps v) with beg:=s.log.length,known:=fun _=>-1 }:RepS)).1
            have h5:=h3.2.1
            show s.epoch≤(s.lead v).epoch∧s.high≤(s.lead v).high
            have e1:(s.lead v).epoch = v.epoch:=h5
            have e2:s.high≤(s.lead v).high:=h4
            omega
          · exact ⟨by show s.epoch≤v.epoch;omega,Int.le_refl _⟩
  · exact ⟨Int.le_refl _,Int.le_refl _⟩
theorem serve_mono (s:RepS) (f:Fetch) (most:Int):s.epoch≤(s.serve f most).epoch∧s.high≤(s.serve f most).high:=by
  unfold RepS.serve
  split
  · exact ⟨Int.le_refl _,Int.le_refl _⟩
  · split
    · have h1:=(count_log ({ s with known:=setK s.known f.src.toNat (gmax (s.known f.src.toNat) f.flushed) }:RepS)).2.1
      have h2:=(count_high ({ s with known:=setK s.known f.src.toNat (gmax (s.known f.src.toNat) f.flushed) }:RepS)).1
      exact ⟨by rw [h1];exact Int.le_refl _,h2⟩
    · exact ⟨Int.le_refl _,Int.le_refl _⟩
theorem flush_mono (s:RepS):s.epoch≤s.flush.epoch∧s.high≤s.flush.high:=by
  unfold RepS.flush
  have h1:=(count_log ({ s with flushed:=s.log.length }:RepS)).2.1
  have h2:=(count_high ({ s with flushed:=s.log.length }:RepS)).1
  exact ⟨by rw [h1];exact Int.le_refl _,h2⟩
theorem app_mono (s:RepS) (e:Ent):s.epoch≤(s.app e).epoch∧s.high≤(s.app e).high:=by
  unfold RepS.app
  split <;> exact ⟨Int.le_refl _,Int.le_refl _⟩
theorem prop_mono (s:RepS) (l:List Int):s.epoch≤(s.prop l).epoch∧s.high≤(s.prop l).high:=by
  unfold RepS.prop
  split <;> exact ⟨Int.le_refl _,Int.le_refl _⟩
theorem take_mono (s:RepS) (p:Reply):s.epoch≤(s.take p).epoch∧(p.cut = false→s.high≤(s.take p).high):=by
  unfold RepS.take
  split
  · exact ⟨Int.le_refl _,fun _=>Int.le_refl _⟩
  · split
    · rename_i h
      exact ⟨Int.le_refl _,fun h'=>by rw [h] at h';cases h'⟩
    · refine ⟨Int.le_refl _,fun _=>?_⟩
      show s.high≤gmax s.high _
      rw [gmax_eq];omega
theorem crash_mono (s:RepS) (keep:Int):s.epoch≤(s.crash keep).1.epoch:=by
  unfold RepS.crash
  split <;> exact Int.le_refl _
theorem step_mono (s:RepS) (a:ActD):s.epoch≤(s.step a).epoch∧((a.kind = 6→a.reply.cut = false)→a.kind ≠ 8→s.high≤(s.step a).high):=by
  unfold RepS.step
  split
  · exact ⟨(learn_mono s _).1,fun _ _=>(learn_mono s _).2⟩
  split
  · exact ⟨(app_mono s _).1,fun _ _=>(app_mono s _).2⟩
  split
  · exact ⟨(flush_mono s).1,fun _ _=>(flush_mono s).2⟩
  split
  · exact ⟨(serve_mono s _ _).1,fun _ _=>(serve_mono s _ _).2⟩
  split
  · rename_i h6
    exact ⟨(take_mono s _).1,fun h _=>(take_mono s _).2 (h h6)⟩
  split
  · exact ⟨(prop_mono s _).1,fun _ _=>(prop_mono s _).2⟩
  split
  · rename_i h8
    exact ⟨crash_mono s _,fun _ h=>absurd h8 h⟩
  · exact ⟨Int.le_refl _,fun _ _=>Int.le_refl _⟩
theorem atS_cut (a:ActD) (s:RepS):(a.atS s).kind = a.kind∧(a.atS s).reply.cut = a.reply.cut:=by
  refine ⟨(atS_kind a s).1,?_⟩
  unfold ActD.atS
  split <;> rfl
end Go.Ws
namespace Go.Ws
open Go Go.RowKit Go.Proofs
set_option maxHeartbeats 4000000
set_option maxRecDepth 100000
set_option linter.unusedVariables false
set_option linter.unusedSimpArgs false
section
variable {P:Program} {ops:Array Oper} {Q:Post} {A:Act} {fl:List (Nat × Value)} {w:World} {G:Nat→Prop}
theorem quiet_aelem {o : Oper} {x : Operand} {t : TypeId} {b off : Nat} {td : TypeDesc} {a : ActV} (hc : ∀ j u, (a.cs)[j]? = some u → w.cell? ⟨b, off + j, none⟩ = some u) (ho : o.op = .load t x)
    (hu:P.underlying t = some td) (htd:td.isRow = true) (hs':(P.info? t).map (·.size) = some 27) (hx:Is ((fr fl A).eval x) (.pointer (some ⟨b,off,none⟩))):o.quietAt P (fr fl A) (Ext w) w (a.act.v a.uI a.uE a.uL):=by
  have:=run_loadAt_mid (P:=P) w b off t a.cs td hc hu htd hs'
  unfold Oper.quietAt execOp
  simp only [ho,hx.eq,this,Sem.run_bind,Result.andThen_ok,Sem.run_pure,Oper.quietUpon]
  exact ⟨trivial,rfl⟩
theorem Y_aelemr {o : Oper} {rest : List (Oper × Nat)} {x : Operand} {t : TypeId} {d b off : Nat} {td : TypeDesc} {a : ActV} (hb : b < w.heap.size) (hc : ∀ j u, (a.cs)[j]? = some u → w.cell? ⟨b, off + j, none⟩ = some u)
    (h:wpY G P ops Q rest (fr ((d,a.act.v a.uI a.uE a.uL) :: fl) A) w) (ho:o.op = .load t x:=by rfl) (hd:o.dst = some d:=by rfl) (hg:o.guard = none:=by rfl)
    (hu:P.underlying t = some td:=by kernel_rfl) (htd:td.isRow = true:=by rfl) (hs':(P.info? t).map (·.size) = some 27:=by kernel_rfl)
    (hx:Is ((fr fl A).eval x) (.pointer (some ⟨b,off,none⟩)):=by go_simp;exact Is.mk _):wpY G P ops Q ((o,3) :: rest) (fr fl A) w :=
  Y_r h hd hg fun X=>quiet_aelem (fun j u hu=>(World.cell?_of_block (X.2.block b hb (fun h=>h))).trans (hc j u hu)) ho hu htd hs' hx
end
theorem stand_parts (s:RepS):s.stand.high = s.high∧s.stand.epoch = s.epoch∧s.stand.flushed = s.flushed:=by
  unfold RepS.stand;split <;> exact ⟨rfl,rfl,rfl⟩
theorem high_calls (l:List ActW) (v:Value) (w:World) (h:Rd ActW.cs 27 w v l) (hf:∀ a ∈ l,a.fit (fun _=>False) w):Pure Tryz.prog 3 #[v] w (.bool true):=by
  have HFIT:=Lib.hid hf
  have HL:=Lib.hid h.actV
  obtain ⟨A7,c7,rfl,-,-,HRD⟩:=h.actV.act
  rw [List.length_map] at HRD
  have hlv:∀ n,(Value.slice A7 (l.map ActW.toV).length n) = .slice A7 l.length n:=fun n=>by rw [List.length_map]
  rw [hlv] at HL ⊢
  clear hlv
  have HOK:Hid (∀ a ∈ l.map ActW.toV,a.ok (fun _=>False) w):=Lib.hid (fun a ha=>by
    obtain ⟨x,hx,rfl⟩:=List.mem_map.1 ha
    exact hf x hx)
  clear h hf
  by_cases hbig:largeB (l.map ActW.toV) = true
  · have LARGE:Hid (Pure Tryz.prog 11 #[.slice A7 l.length c7] w (.bool true)):=Lib.hid (hbig▸large_calls _ _ w HL.out HOK.out)
    clear HRD
    refine Fn_of Tryz.func3 rfl (Nat.le_of_ble_eq_true rfl) ?_;intro A hd hA;simp only [ix,Nat.reduceAdd];replace hA:A.tmps.size = 101:=hA
    repeat' (first|refine X_pure Tryz.func11 (LARGE.out) ?_|refine X_pure Tryz.func12 (known11_calls) ?_|refine X_q ?_|refine X_nil ?_|refine W_seqk (fun K hK=>?_)|refine W_seqr ?_|refine W_ret ?_|refine W_tt ?_|go_step)
    exact Body_ret hd ⟨rfl,by simp⟩
  · have hbig':largeB (l.map ActW.toV) = false:=by simpa using hbig
    have LARGE:Hid (Pure Tryz.prog 11 #[.slice A7 l.length c7] w (.bool false)):=Lib.hid (hbig'▸large_calls _ _ w HL.out HOK.out)
    have HSM:Hid (∀ a ∈ l,a.toV.big = false):=Lib.hid (fun a ha=>by
      unfold largeB at hbig'
      simp only [Bool.or_eq_false_iff,List.any_eq_false] at hbig'
      simpa using hbig'.2 a.toV (List.mem_map.2 ⟨a,ha,rfl⟩))
    have h40:l.length≤40:=by
      unfold largeB at hbig'
      simp only [Bool.or_eq_false_iff,decide_eq_false_iff_not,List.length_map] at hbig'
      omega
    clear hbig hbig'
    refine Fn_of Tryz.func3 rfl (Nat.le_of_ble_eq_true rfl) ?_;intro A hd hA;simp only [ix,Nat.reduceAdd];replace hA:A.tmps.size = 101:=hA
    repeat' (first|refine X_pure Tryz.func11 (LARGE.out) ?_|refine X_q ?_|refine X_nil ?_|refine W_seqk (fun K hK=>?_)|refine W_seqr ?_|refine W_skip ?_|refine W_ff ?_|go_step)
    refine X_ret Tryz.func13 (repNew_ok 0 1 rfl) (fun r w1 hR=>?_)
    obtain ⟨b,rfl,hE1,hb1,hR1⟩:=hR
    have HH1:=Lib.hid (HR.start (Ext.refl w) hE1 hR1)
    clear hR1 LARGE
    repeat' (first|refine X_q ?_|refine X_nil ?_|refine W_seqk (fun K hK=>?_)|refine W_seqr ?_|go_step)
    refine X_ret Tryz.func14 (new11_calls (N:=fun _=>True) 0 1 _) (fun r w2 hR=>?_)
    obtain ⟨hE2,oL,oI,oC,rfl,hVO⟩:=hR
    obtain ⟨B1,x1,rfl,-⟩:=hVO.rl.ent
    obtain ⟨B2,x2,rfl,-⟩:=hVO.ri.int
    obtain ⟨B3,x3,rfl,-⟩:=hVO.rc.int
    (skip);(first|(refine X_var (fun yn b5 hn1 hn2 hn3 hn4 hn5=>?_))|(refine X_s (fun x K hK=>?_);go_simp;refine hK _ _ (Ext.alloc _ _) ?_;clear hK K;refine X_al x ?_;generalize (World.later _ x).heap.size = b5;intro yn hn1 hn2 hn3 hn4 hn5;clear x));have HBb5:=Lib.hid (Blk.new hn5.out);have HEb5:=Lib.hid yn.ext;have hlb5:(World.heap w2).size≤b5:=hn1;generalize World.later w2 yn = W3 at *;clear hn1 hn2 hn3 hn4 hn5 yn
    have HB5:=Lib.hid (fbox2 HBb5.out)
    have HH3:=Lib.hid ((HH1.out.later hE2).later HEb5.out)
    have HV3:=Lib.hid (hVO.later HEb5.out)
    have hs1:=hE1.size
    have hs2:=hE2.size
    have hst:PlaySt w W3 b b5 _ (RepS.init 0 1) _ _ _:=⟨HH3.out,⟨good_init rfl,by show (0:Int)≤0∧(0:Int)≤_;decide⟩,HB5.out,HV3.out.less (fun _ _=>trivial),fun h=>by have:=h.2;omega,by omega⟩
    have HST:=Lib.hid hst
    clear hst HBb5 HEb5 hE1 hE2 hVO hb1 HH1
    repeat' (first|refine X_q ?_|refine X_nil ?_|refine W_seqk (fun K hK=>?_)|refine W_seqr ?_|refine W_block ?_|go_step)
    refine W_loops [0,2,3,4,5,6] (fun n vs w'=>∃ (k:Nat) (F:Nat→Prop) (s:RepS) (uL uI uC:Value),k + n = l.length∧vs = [.slice A7 l.length c7,.bool false,.pointer (some ⟨b,0,none⟩),.int .i64 0,.pointer (some ⟨b5,0,none⟩),.int .i64 k]∧PlaySt w w' b b5 F s uL uI uC) l.length hd hA (by decide) ⟨0,_,_,_,_,_,by omega,by simp,HST.out⟩ ?_
    clear hd hA A;intro n vs B w' hd hA _ ⟨k,F,s,uL,uI,uC,hkn,hvs,hS⟩;subst hvs
    have HS:=Lib.hid hS
    obtain ⟨C1,y1,rfl,-⟩:=hS.vr.rl.ent
    obtain ⟨C2,y2,rfl,-⟩:=hS.vr.ri.int
    obtain ⟨C3,y3,rfl,-⟩:=hS.vr.rc.int
    clear hS HST HB5 HH3 HV3 hs1 hs2
    have hs5:=HS.out.blk.lt
    simp only [List.zip_cons_cons,List.zip_nil_right,List.zip_nil_left]
    by_cases hlt:k < l.length
    · have hki:(k:Int) < l.length:=by omega
      obtain ⟨aV,ba,oa,HXA,hA7,hba,HC⟩:=HRD.out k (by omega)
      obtain ⟨a,haV,hga⟩:∃ a:ActW,aV = a.toV∧l[k]? = some a:=by
        have h1:=HXA.out
        rw [List.getElem?_map] at h1
        cases h2:l[k]? with
        | none=>rw [h2] at h1;cases h1
        | some a=>rw [h2] at h1;exact ⟨a,by simpa using h1.symm,rfl⟩
      subst haV
      have hmem:a ∈ l:=mem_of_get hga
      have HDOA:Hid (DoesOk a.toV):=Lib.hid (doesOk (HSM.out a hmem))
      have HEW:=Lib.hid HS.out.hr.ext
      have HG:=Lib.hid HS.out.fine.good
      have HCW:Hid (∀ W,Ext w' W→∀ j u,(a.toV.cs)[j]? = some u→W.cell? ⟨ba,oa + k * 27 + j,none⟩ = some u):=Lib.hid (fun W hE j u hu=>(World.cell?_of_block ((Ext.trans HEW.out hE).block ba hba (fun h=>h))).trans (HC.out j u hu))
      have HC0:=HC
      have HAC0:Hid (ActR (fun _=>False) w a.uI.v a.uE.v a.uL.v a.act):=Lib.hid (HFIT.out a hmem)
      clear HXA HC hmem hga
      subst hA7
      repeat' (first|refine X_gt ?_|refine X_q ?_|refine X_nil ?_|refine W_seqk (fun K hK=>?_)|refine W_seqr ?_|refine W_skip ?_|refine W_block ?_|refine W_tt ?_|go_step)
      refine X_ret Tryz.func15 (standing_rep HS.out.hr.rep HG.out.ne (by have:=HG.out.ilen;omega) (by have:=HG.out.ilen;omega)) (fun r w6 hR=>?_)
      obtain ⟨hE6,u1,u2,u3,rfl,k1,k2,k3,-⟩:=hR
      obtain ⟨K1,kk1,rfl,-⟩:=k1.int
      obtain ⟨K2,kk2,rfl,-⟩:=k2.int
      obtain ⟨K3,kk3,rfl,-⟩:=k3.int
      clear k1 k2 k3
      simp only [Stand.v]
      (skip);(first|(refine X_var (fun yn b7 hn1 hn2 hn3 hn4 hn5=>?_))|(refine X_s (fun x K hK=>?_);go_simp;refine hK _ _ (Ext.alloc _ _) ?_;clear hK K;refine X_al x ?_;generalize (World.later _ x).heap.size = b7;intro yn hn1 hn2 hn3 hn4 hn5;clear x));have HBb7:=Lib.hid (Blk.new hn5.out);have HEb7:=Lib.hid yn.ext;have hlb7:(World.heap w6).size≤b7:=hn1;generalize World.later w6 yn = W7 at *;clear hn1 hn2 hn3 hn4 hn5 yn
      have HB7:=HBb7
      have HE7:Hid (Ext w' W7):=Lib.hid (Ext.trans hE6 HEb7.out)
      have HS7:=Lib.hid (HS.out.later HE7.out)
      have hl7:w'.heap.size≤b7:=by have:=hE6.size;omega
      clear HBb7 HEb7 hE6 hs5
      have hs5:=HS7.out.blk.lt
      have hbw:ba < W7.heap.size:=by have:=HEW.out.size;have:=HE7.out.size;omega
      have HACT:Hid (ActR (fun k=>F k∨(k = b5∨k = b7)) W7 a.uI.v a.uE.v a.uL.v a.act):=Lib.hid ((HAC0.out.wide (fun k hk=>.inr (hk.elim (fun h=>(HS.out.hr.hi k h).1) (fun h=>h.elim (fun e=>by subst e;exact HS.out.lo) (fun e=>by subst e;have:=HEW.out.size;omega))))).later (Ext.trans HEW.out HE7.out))
      have HVX:Hid (VR (fun k=>F k∨(k = b5∨k = b7)) W7 _ _ _ s):=Lib.hid ((HS.out.vr.wide (fun k hk=>hk.elim (fun h=>.inl (.inl h)) (fun h=>h.elim (fun h=>.inl (.inr h)) (fun e=>.inr (by subst e;exact hl7))))).later HE7.out)
      have hF7:¬ F b7:=fun hk=>by have:=(HS.out.hr.hi _ hk).2;omega
      have h57:b5 ≠ b7:=by have:=HS.out.blk.lt;omega
      repeat' (first|refine X_nil ?_|refine W_seqk (fun K hK=>?_)|go_step)
      obtain ⟨G,hG⟩:∃ G:Nat→Prop,G = (fun k=>F k∨k = b5):=⟨_,rfl⟩
      have HGo:Hid (G b5):=Lib.hid (by subst hG;exact .inr rfl)
      have HFG:Hid (∀ k,F k→G k):=Lib.hid (fun k hk=>by subst hG;exact .inl hk)
      clear hG
      refine W_drawG G [(0,0),(1,3),(2,0),(3,0),(4,0),(5,3),(6,1),(7,0),(8,0),(9,0),(10,2)] (by kernel_rfl) (by kernel_rfl) ?_
      repeat' (first|refine Y_q ?_|fail)
      refine Y_floadr HS7.out.blk ?_ (hu:=Tryz.underlying33)
      repeat' (first|refine Y_q ?_|fail)
      refine Y_aelemr (a:=a.toV) hbw (HCW.out _ HE7.out) ?_ (hu:=Tryz.underlying51)
      skip
      refine Y_ret Tryz.func16 (R:=fun r W'=>DoesR w W7 b F (fun k=>k = b5∨k = b7) (s.step (a.act.atS s)) r W') (fun x=>Ret.mono (HDOA.out w _ b F (fun k=>k = b5∨k = b7) s _ _ _ (HS7.out.hr.later x.2) HS7.out.fine (fun k hk=>by rcases hk with rfl|rfl;exact Nat.lt_of_lt_of_le hs5 x.2.size;exact Nat.lt_of_lt_of_le HB7.out.lt x.2.size) (HVX.out.later x.2) (HACT.out.later x.2)) (fun r W' hR=>?_)) (fun r w4 hR=>?_)
      · obtain ⟨v1,h1,h2,F1,h3,h4,h5⟩:=hR
        exact ⟨⟨v1,h1,Mod.trans x.2 h2 (fun _ _ h=>h.elim) (fun _ _ h=>h),F1,h3,h4,fun k hk=>(h5 k hk).imp id (fun h=>Nat.le_trans x.2.size h)⟩,h2.mono (fun k _ hk=>HFG.out k hk)⟩
      obtain ⟨v1,rfl,hM,F',hH,⟨vL,vI,vC,rfl,hV⟩,hF'⟩:=hR
      obtain ⟨E1,z1,rfl,-⟩:=hV.rl.ent
      obtain ⟨E2,z2,rfl,-⟩:=hV.ri.int
      obtain ⟨E3,z3,rfl,-⟩:=hV.rc.int
      have hn5:¬ F' b5:=fun hk=>(hF' b5 hk).elim HS.out.nf (fun h1=>by omega)
      have hn7:¬ F' b7:=fun hk=>(hF' b7 hk).elim hF7 (fun h1=>by have:=HB7.out.lt;omega)
      have HB4:=Lib.hid (HS7.out.blk.mod hM HS.out.nf)
      have HB74:=Lib.hid (HB7.out.mod hM hF7)
      have HH4:=Lib.hid hH
      have HV4:=Lib.hid (hV.less (N':=fun k=>F' k∨k = b5) (fun k hk=>hk.imp id .inl))
      have HFI:=Lib.hid (fine_step HS.out.fine (a.act.atS s))
      have HMO:=Lib.hid (step_mono s (a.act.atS s))
      rw [(atS_cut a.act s).1,(atS_cut a.act s).2] at HMO
      clear hM hH hV hF' HACT HDOA hbw HVX HB7
      generalize hs':s.step (a.act.atS s) = s' at *
      clear hs'
      repeat' (first|refine Y_q ?_|fail)
      refine Y_store (off:=0) HB4.out HGo.out (fun W6 hM6 hG6 hB6=>?_)
      have HS6:Hid (PlaySt w W6 b b5 F' s' _ _ _):=Lib.hid ⟨HH4.out.beside hM6 (fun k hk=>by subst hk;exact HS.out.lo) (fun k hk e=>hn5 (e▸hk)),HFI.out,fput hB6,HV4.out.mod hM6 (fun k hk=>.inr hk),hn5,HS.out.lo⟩
      have HB76:=Lib.hid (HB74.out.mod hM6 (fun h=>h57 h.symm))
      clear hM6 hG6 hB6 HB4 HB74 HH4 HV4
      have HG6:=Lib.hid HS6.out.fine.good
      repeat' (first|refine Y_nil ?_)
      repeat' (first|refine X_q ?_|refine W_seqk (fun K hK=>?_)|refine W_seqr ?_|go_step)
      refine X_ret Tryz.func15 (standing_rep HS6.out.hr.rep HG6.out.ne (by have:=HG6.out.ilen;omega) (by have:=HG6.out.ilen;omega)) (fun r w8 hR=>?_)
      obtain ⟨hE8,u1,u2,u3,rfl,k1,k2,k3,-⟩:=hR
      obtain ⟨L1,ll1,rfl,-⟩:=k1.int
      obtain ⟨L2,ll2,rfl,-⟩:=k2.int
      obtain ⟨L3,ll3,rfl,-⟩:=k3.int
      clear k1 k2 k3
      simp only [Stand.v]
      (skip);(first|(refine X_var (fun yn b8 hn1 hn2 hn3 hn4 hn5=>?_))|(refine X_s (fun x K hK=>?_);go_simp;refine hK _ _ (Ext.alloc _ _) ?_;clear hK K;refine X_al x ?_;generalize (World.later _ x).heap.size = b8;intro yn hn1 hn2 hn3 hn4 hn5;clear x));have HBb8:=Lib.hid (Blk.new hn5.out);have HEb8:=Lib.hid yn.ext;have hlb8:(World.heap w8).size≤b8:=hn1;generalize World.later w8 yn = W9 at *;clear hn1 hn2 hn3 hn4 hn5 yn
      have HB8:=HBb8
      have HS9:=Lib.hid ((HS6.out.later hE8).later HEb8.out)
      have HB79:=Lib.hid ((HB76.out.later hE8).later HEb8.out)
      clear HBb8 HEb8 hE8 HS6 HB76
      have HE9:=Lib.hid HS9.out.hr.ext
      have hbw:ba < W9.heap.size:=Nat.lt_of_lt_of_le hba HE9.out.size
      have hb7l:=HB79.out.lt
      have hb8l:=HB8.out.lt
      obtain ⟨p1,p2,p3⟩:=stand_parts s
      obtain ⟨q1,q2,q3⟩:=stand_parts s'
      have e1:=HB79.out.cell (k:=1) (by simp)
      have e4:=HB79.out.cell (k:=4) (by simp)
      have g1:=HB8.out.cell (k:=1) (by simp)
      have g3:=HB8.out.cell (k:=3) (by simp)
      have g4:=HB8.out.cell (k:=4) (by simp)
      simp at e1 e4 g1 g3 g4
      rw [p2] at e1
      rw [p1] at e4
      rw [q2] at g1
      rw [q3] at g3
      rw [q1] at g4
      have HAW:Hid (∀ j u,(a.toV.cs)[j]? = some u→W9.cell? ⟨ba,oa + k * 27 + j,none⟩ = some u):=Lib.hid (fun j u hu=>(World.cell?_of_block (HE9.out.block ba hba (fun h=>h))).trans (HC0.out j u hu))
      have a0:=HAW.out 0 _ rfl
      have a21:=HAW.out 21 _ rfl
      clear HCW HAW HC0 p1 p2 p3 q1 q2 q3
      have HGN:Hid (s'.high≤s'.log.length∧s'.flushed≤s'.log.length∧s.epoch≤s'.epoch):=Lib.hid ⟨HG6.out.hi.2,HG6.out.fl.2,HMO.out.1⟩
      obtain ⟨kd,hkd⟩:∃ kd,kd = a.act.kind:=⟨_,rfl⟩
      obtain ⟨ct,hct⟩:∃ ct,ct = a.act.reply.cut:=⟨_,rfl⟩
      have HMH:Hid ((kd = 6→ct = false)→kd ≠ 8→s.high≤s'.high):=Lib.hid (by rw [hkd,hct];exact HMO.out.2)
      change World.cell? _ _ = some (.int .i64 a.act.kind) at a0
      change World.cell? _ _ = some (.bool a.act.reply.cut) at a21
      rw [← hkd] at a0
      rw [← hct] at a21
      clear hkd hct HMO
      simp only [Nat.add_zero] at a0
      have h2n:¬ (s'.log.length:Int) < s'.high:=by have:=HGN.out;omega
      have h3n:¬ s'.epoch < s.epoch:=by have:=HGN.out;omega
      have h4n:¬ (s'.log.length:Int) < s'.flushed:=by have:=HGN.out;omega
      by_cases k6:kd = 6
      · have k6b:(kd == 6) = true:=by simp [k6]
        have k8b:(kd == 8) = false:=by simp [k6]
        cases ct with
        | true =>
          clear k6
          by_cases hh:s'.high < s.high
          · skip
            repeat' (first|refine X_gt ?_|refine X_q ?_|refine X_g ?_|refine X_gf ?_|refine X_nil ?_|refine W_seqk (fun K hK=>?_)|refine W_seqr ?_|go_step)
            refine W_drawσ [(0,0),(1,0),(2,0),(3,0),(4,0),(5,0),(6,0),(7,0),(8,0),(9,0),(10,0),(11,0),(12,0),(13,1),(14,0),(15,0),(16,0),(17,0),(18,0),(19,0),(20,0),(21,0),(22,0),(23,0),(24,0),(25,0),(26,0),(27,0),(28,1),(29,0),(30,0),(31,0)] (by kernel_rfl) (by kernel_rfl) ?_
            repeat' (first|refine X_gt ?_|refine X_q ?_|fail)
            refine X_ret1 (R:=fun w0 v' w'=>Ext w0 w'∧OwnE w' v' s'.log) Tryz.func17 (fun z=>Ret.mono (log_calls (HS9.out.hr.rep.later (by simp)) HG6.out.ne (by have:=HG6.out.len;omega)) (fun v w' h=>⟨h.1,h.2.1⟩)) (fun z1 v1 w1 hR=>⟨hR.1,?_⟩)
            obtain ⟨V1,vc1,rfl,-⟩:=(hR.2.rd Ent.len).ent
            obtain ⟨x1,rfl⟩:=hR.1.get
            clear hR
            repeat' (first|refine X_gt ?_|refine X_q ?_|fail)
            refine X_ret1 (R:=fun w0 v' w'=>Ext w0 w'∧OwnE w' v' s'.log) Tryz.func17 (fun z=>Ret.mono (log_calls (HS9.out.hr.rep.later (by simp)) HG6.out.ne (by have:=HG6.out.len;omega)) (fun v w' h=>⟨h.1,h.2.1⟩)) (fun z2 v2 w2 hR=>⟨hR.1,?_⟩)
            obtain ⟨V2,vc2,rfl,-⟩:=(hR.2.rd Ent.len).ent
            obtain ⟨x2,rfl⟩:=hR.1.get
            clear hR
            repeat' (first|refine X_gt ?_|refine X_q ?_|refine X_niln ?_|refine X_nil ?_|refine W_seqr ?_|refine W_skip ?_|refine W_ff ?_|go_step)
            exact ⟨_,_,rfl,hd,hA,n - 1,by omega,k + 1,F',s',_,_,_,by omega,by simp,HS9.out.later (by simp)⟩
          · skip
            repeat' (first|refine X_gt ?_|refine X_q ?_|refine X_g ?_|refine X_gf ?_|refine X_nil ?_|refine W_seqk (fun K hK=>?_)|refine W_seqr ?_|go_step)
            refine W_drawσ [(0,0),(1,0),(2,0),(3,0),(4,0),(5,0),(6,0),(7,0),(8,0),(9,0),(10,0),(11,0),(12,0),(13,1),(14,0),(15,0),(16,0),(17,0),(18,0),(19,0),(20,0),(21,0),(22,0),(23,0),(24,0),(25,0),(26,0),(27,0),(28,1),(29,0),(30,0),(31,0)] (by kernel_rfl) (by kernel_rfl) ?_
            repeat' (first|refine X_gt ?_|refine X_q ?_|refine X_g ?_|fail)
            refine X_ret1 (R:=fun w0 v' w'=>Ext w0 w'∧OwnE w' v' s'.log) Tryz.func17 (fun z=>Ret.mono (log_calls (HS9.out.hr.rep.later (by simp)) HG6.out.ne (by have:=HG6.out.len;omega)) (fun v w' h=>⟨h.1,h.2.1⟩)) (fun z1 v1 w1 hR=>⟨hR.1,?_⟩)
            obtain ⟨V1,vc1,rfl,-⟩:=(hR.2.rd Ent.len).ent
            obtain ⟨x1,rfl⟩:=hR.1.get
            clear hR
            repeat' (first|refine X_gt ?_|refine X_q ?_|fail)
            refine X_ret1 (R:=fun w0 v' w'=>Ext w0 w'∧OwnE w' v' s'.log) Tryz.func17 (fun z=>Ret.mono (log_calls (HS9.out.hr.rep.later (by simp)) HG6.out.ne (by have:=HG6.out.len;omega)) (fun v w' h=>⟨h.1,h.2.1⟩)) (fun z2 v2 w2 hR=>⟨hR.1,?_⟩)
            obtain ⟨V2,vc2,rfl,-⟩:=(hR.2.rd Ent.len).ent
            obtain ⟨x2,rfl⟩:=hR.1.get
            clear hR
            repeat' (first|refine X_gt ?_|refine X_q ?_|refine X_niln ?_|refine X_nil ?_|refine W_seqr ?_|refine W_skip ?_|refine W_ff ?_|go_step)
            exact ⟨_,_,rfl,hd,hA,n - 1,by omega,k + 1,F',s',_,_,_,by omega,by simp,HS9.out.later (by simp)⟩
        | false =>
          have hh:¬ s'.high < s.high:=by have:=HMH.out (fun _=>rfl) (by omega);omega
          repeat' (first|refine X_gt ?_|refine X_q ?_|refine X_nil ?_|refine W_seqk (fun K hK=>?_)|refine W_seqr ?_|go_step)
          refine W_drawσ [(0,0),(1,0),(2,0),(3,0),(4,0),(5,0),(6,0),(7,0),(8,0),(9,0),(10,0),(11,0),(12,0),(13,1),(14,0),(15,0),(16,0),(17,0),(18,0),(19,0),(20,0),(21,0),(22,0),(23,0),(24,0),(25,0),(26,0),(27,0),(28,1),(29,0),(30,0),(31,0)] (by kernel_rfl) (by kernel_rfl) ?_
          repeat' (first|refine X_gt ?_|refine X_q ?_|refine X_g ?_|fail)
          refine X_ret1 (R:=fun w0 v' w'=>Ext w0 w'∧OwnE w' v' s'.log) Tryz.func17 (fun z=>Ret.mono (log_calls (HS9.out.hr.rep.later (by simp)) HG6.out.ne (by have:=HG6.out.len;omega)) (fun v w' h=>⟨h.1,h.2.1⟩)) (fun z1 v1 w1 hR=>⟨hR.1,?_⟩)
          obtain ⟨V1,vc1,rfl,-⟩:=(hR.2.rd Ent.len).ent
          obtain ⟨x1,rfl⟩:=hR.1.get
          clear hR
          repeat' (first|refine X_gt ?_|refine X_q ?_|fail)
          refine X_ret1 (R:=fun w0 v' w'=>Ext w0 w'∧OwnE w' v' s'.log) Tryz.func17 (fun z=>Ret.mono (log_calls (HS9.out.hr.rep.later (by simp)) HG6.out.ne (by have:=HG6.out.len;omega)) (fun v w' h=>⟨h.1,h.2.1⟩)) (fun z2 v2 w2 hR=>⟨hR.1,?_⟩)
          obtain ⟨V2,vc2,rfl,-⟩:=(hR.2.rd Ent.len).ent
          obtain ⟨x2,rfl⟩:=hR.1.get
          clear hR
          repeat' (first|refine X_gt ?_|refine X_q ?_|refine X_niln ?_|refine X_nil ?_|refine W_seqr ?_|refine W_skip ?_|refine W_ff ?_|go_step)
          exact ⟨_,_,rfl,hd,hA,n - 1,by omega,k + 1,F',s',_,_,_,by omega,by simp,HS9.out.later (by simp)⟩
      · have k6b:(kd == 6) = false:=by simp [k6]
        by_cases k8:kd = 8
        · have k8b:(kd == 8) = true:=by simp [k8]
          clear k6 k8
          by_cases hh:s'.high < s.high
          · skip
            repeat' (first|refine X_gt ?_|refine X_q ?_|refine X_g ?_|refine X_nil ?_|refine W_seqk (fun K hK=>?_)|refine W_seqr ?_|go_step)
            refine W_drawσ [(0,0),(1,0),(2,0),(3,0),(4,0),(5,0),(6,0),(7,0),(8,0),(9,0),(10,0),(11,0),(12,0),(13,1),(14,0),(15,0),(16,0),(17,0),(18,0),(19,0),(20,0),(21,0),(22,0),(23,0),(24,0),(25,0),(26,0),(27,0),(28,1),(29,0),(30,0),(31,0)] (by kernel_rfl) (by kernel_rfl) ?_
            repeat' (first|refine X_gt ?_|refine X_q ?_|fail)
            refine X_ret1 (R:=fun w0 v' w'=>Ext w0 w'∧OwnE w' v' s'.log) Tryz.func17 (fun z=>Ret.mono (log_calls (HS9.out.hr.rep.later (by simp)) HG6.out.ne (by have:=HG6.out.len;omega)) (fun v w' h=>⟨h.1,h.2.1⟩)) (fun z1 v1 w1 hR=>⟨hR.1,?_⟩)
            obtain ⟨V1,vc1,rfl,-⟩:=(hR.2.rd Ent.len).ent
            obtain ⟨x1,rfl⟩:=hR.1.get
            clear hR
            repeat' (first|refine X_gt ?_|refine X_q ?_|fail)
            refine X_ret1 (R:=fun w0 v' w'=>Ext w0 w'∧OwnE w' v' s'.log) Tryz.func17 (fun z=>Ret.mono (log_calls (HS9.out.hr.rep.later (by simp)) HG6.out.ne (by have:=HG6.out.len;omega)) (fun v w' h=>⟨h.1,h.2.1⟩)) (fun z2 v2 w2 hR=>⟨hR.1,?_⟩)
            obtain ⟨V2,vc2,rfl,-⟩:=(hR.2.rd Ent.len).ent
            obtain ⟨x2,rfl⟩:=hR.1.get
            clear hR
            repeat' (first|refine X_gt ?_|refine X_q ?_|refine X_niln ?_|refine X_nil ?_|refine W_seqr ?_|refine W_skip ?_|refine W_ff ?_|go_step)
            exact ⟨_,_,rfl,hd,hA,n - 1,by omega,k + 1,F',s',_,_,_,by omega,by simp,HS9.out.later (by simp)⟩
          · skip
            repeat' (first|refine X_gt ?_|refine X_q ?_|refine X_g ?_|refine X_nil ?_|refine W_seqk (fun K hK=>?_)|refine W_seqr ?_|go_step)
            refine W_drawσ [(0,0),(1,0),(2,0),(3,0),(4,0),(5,0),(6,0),(7,0),(8,0),(9,0),(10,0),(11,0),(12,0),(13,1),(14,0),(15,0),(16,0),(17,0),(18,0),(19,0),(20,0),(21,0),(22,0),(23,0),(24,0),(25,0),(26,0),(27,0),(28,1),(29,0),(30,0),(31,0)] (by kernel_rfl) (by kernel_rfl) ?_
            repeat' (first|refine X_gt ?_|refine X_q ?_|refine X_g ?_|fail)
            refine X_ret1 (R:=fun w0 v' w'=>Ext w0 w'∧OwnE w' v' s'.log) Tryz.func17 (fun z=>Ret.mono (log_calls (HS9.out.hr.rep.later (by simp)) HG6.out.ne (by have:=HG6.out.len;omega)) (fun v w' h=>⟨h.1,h.2.1⟩)) (fun z1 v1 w1 hR=>⟨hR.1,?_⟩)
            obtain ⟨V1,vc1,rfl,-⟩:=(hR.2.rd Ent.len).ent
            obtain ⟨x1,rfl⟩:=hR.1.get
            clear hR
            repeat' (first|refine X_gt ?_|refine X_q ?_|fail)
            refine X_ret1 (R:=fun w0 v' w'=>Ext w0 w'∧OwnE w' v' s'.log) Tryz.func17 (fun z=>Ret.mono (log_calls (HS9.out.hr.rep.later (by simp)) HG6.out.ne (by have:=HG6.out.len;omega)) (fun v w' h=>⟨h.1,h.2.1⟩)) (fun z2 v2 w2 hR=>⟨hR.1,?_⟩)
            obtain ⟨V2,vc2,rfl,-⟩:=(hR.2.rd Ent.len).ent
            obtain ⟨x2,rfl⟩:=hR.1.get
            clear hR
            repeat' (first|refine X_gt ?_|refine X_q ?_|refine X_niln ?_|refine X_nil ?_|refine W_seqr ?_|refine W_skip ?_|refine W_ff ?_|go_step)
            exact ⟨_,_,rfl,hd,hA,n - 1,by omega,k + 1,F',s',_,_,_,by omega,by simp,HS9.out.later (by simp)⟩
        · have k8b:(kd == 8) = false:=by simp [k8]
          have hh:¬ s'.high < s.high:=by have:=HMH.out (fun h=>absurd h k6) k8;omega
          repeat' (first|refine X_gt ?_|refine X_q ?_|refine X_g ?_|refine X_nil ?_|refine W_seqk (fun K hK=>?_)|refine W_seqr ?_|go_step)
          refine W_drawσ [(0,0),(1,0),(2,0),(3,0),(4,0),(5,0),(6,0),(7,0),(8,0),(9,0),(10,0),(11,0),(12,0),(13,1),(14,0),(15,0),(16,0),(17,0),(18,0),(19,0),(20,0),(21,0),(22,0),(23,0),(24,0),(25,0),(26,0),(27,0),(28,1),(29,0),(30,0),(31,0)] (by kernel_rfl) (by kernel_rfl) ?_
          repeat' (first|refine X_gt ?_|refine X_q ?_|refine X_g ?_|fail)
          refine X_ret1 (R:=fun w0 v' w'=>Ext w0 w'∧OwnE w' v' s'.log) Tryz.func17 (fun z=>Ret.mono (log_calls (HS9.out.hr.rep.later (by simp)) HG6.out.ne (by have:=HG6.out.len;omega)) (fun v w' h=>⟨h.1,h.2.1⟩)) (fun z1 v1 w1 hR=>⟨hR.1,?_⟩)
          obtain ⟨V1,vc1,rfl,-⟩:=(hR.2.rd Ent.len).ent
          obtain ⟨x1,rfl⟩:=hR.1.get
          clear hR
          repeat' (first|refine X_gt ?_|refine X_q ?_|fail)
          refine X_ret1 (R:=fun w0 v' w'=>Ext w0 w'∧OwnE w' v' s'.log) Tryz.func17 (fun z=>Ret.mono (log_calls (HS9.out.hr.rep.later (by simp)) HG6.out.ne (by have:=HG6.out.len;omega)) (fun v w' h=>⟨h.1,h.2.1⟩)) (fun z2 v2 w2 hR=>⟨hR.1,?_⟩)
          obtain ⟨V2,vc2,rfl,-⟩:=(hR.2.rd Ent.len).ent
          obtain ⟨x2,rfl⟩:=hR.1.get
          clear hR
          repeat' (first|refine X_gt ?_|refine X_q ?_|refine X_niln ?_|refine X_nil ?_|refine W_seqr ?_|refine W_skip ?_|refine W_ff ?_|go_step)
          exact ⟨_,_,rfl,hd,hA,n - 1,by omega,k + 1,F',s',_,_,_,by omega,by simp,HS9.out.later (by simp)⟩
    · have hki:¬ (k:Int) < l.length:=by omega
      have HEX:=Lib.hid HS.out.hr.ext
      repeat' (first|refine X_gpure Tryz.func12 (fun _=>known11_calls) ?_|refine X_q ?_|refine X_g ?_|refine X_nil ?_|refine W_seqk (fun K hK=>?_)|refine W_seqr ?_|refine W_ret ?_|refine W_exit ?_|refine W_ff ?_|go_step)
      exact Body_ret hd ⟨rfl,HEX.out⟩
end Go.Ws
