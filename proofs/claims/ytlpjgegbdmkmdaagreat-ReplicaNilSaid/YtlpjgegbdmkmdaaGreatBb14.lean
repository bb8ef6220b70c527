/- Lemmas for the statements of this layer (joined texts); no condition. -/
import Derived.Test.YtlpjgegbdmkmdaaGreatBb06
import Derived.Test.YtlpjgegbdmkmdaaGreatBb09
import Derived.Test.YtlpjgegbdmkmdaaGreatBb13
namespace Go.Ws
open Go Go.RowKit Go.Proofs
set_option maxHeartbeats 2000000
set_option maxRecDepth 100000
set_option linter.unusedVariables false
set_option linter.unusedSimpArgs false
theorem RepAt.congrK {w:World} {b:Nat} {uL uI uC:Value} {s s':RepS} (h:RepAt w b uL uI uC s) (hl:s'.log = s.log) (hi:s'.isr = s.isr) (hc:s'.counts = s.counts) (hk:∀ k,k < 15→renc s' uL uI uC k = renc s uL uI uC k):RepAt w b uL uI uC s' :=
  ⟨h.blk.congr hk,by rw [hl];exact h.own,by rw [hi];exact h.ri,by rw [hc];exact h.rc,h.nL,h.nI,h.nC,h.nX⟩
def RepS.turn (s:RepS) (v:View):RepS:={ s with epoch:=v.epoch,version:=0,beg:=0,isr:=[],counts:=[],known:=fun _=>0,role:=2 }
def RepS.lead (s:RepS) (v:View):RepS:=({ ((({ s.turn v with role:=3 }):RepS).steps v) with beg:=s.log.length,known:=fun _=>-1 }:RepS).count
def RepS.learn (s:RepS) (v:View):RepS × Int :=
  if v.may = true then
    if v.epoch < s.epoch then (s,210) else if v.epoch = s.epoch then s.again v else
      (if v.leader = -1 then { s.turn v with role:=1 } else if v.leader = s.self then s.lead v else s.turn v,0)
  else (s,2)
theorem learn_callsW {w : World} {b : Nat} {F0 : Nat → Prop} {s : RepS} {v : Value} {x : View} (h : Rep w b F0 s) (hs : s.least ≠ 0) (hv : VV w v x) (hne : ∀ a b c u, v = .agg #[a, b, c, u] → ∀ k, u.ownBlock = some k → x.isr = [] ∨ ¬ F0 k) :
    Ret Tryz.prog 20 #[.pointer (some ⟨b,0,none⟩),v] w fun r w'=>r = .int .i64 (s.learn x).2∧Mod F0 w w'∧Rep w' b (fun k=>F0 k∨w.heap.size≤k) (s.learn x).1:=by
  refine h.tight' (R:=fun r _=>r = .int .i64 (s.learn x).2) ?_
  intro F h hFF' hFW
  replace hne:∀ a b c u,v = .agg #[a,b,c,u]→∀ k,u.ownBlock = some k→x.isr = []∨¬ F k:=fun a b c u h1 k h2=>(hne a b c u h1 k h2).imp id (fun h4 h3=>h4 (hFF' k h3))
  clear hFF'
  have hFb:=Lib.hid h.own
  have HFW:=Lib.hid hFW
  clear hFW
  have HP:=Lib.hid h
  have HV:=Lib.hid hv
  obtain ⟨uL,uI,uC,h,hf⟩:=h.ex
  have H:=Lib.hid h
  have HFF:=Lib.hid hf
  obtain ⟨hlt,-,-,-,-,d8,-,d10,d11,d12,-,-⟩:=h.cells
  obtain ⟨A1,c1,rfl,-⟩:=h.rdL.ent
  have HLT:=Lib.hid h.lt
  clear h hf
  obtain ⟨u,rfl,hu⟩:=hv
  have HVR:=Lib.hid hu
  have HNE:=Lib.hid (hne _ _ _ _ rfl)
  clear hu hne
  by_cases hm:x.may = true
  · have hmay:∀ W,Ext w W→Pure Tryz.prog 51 #[.agg #[.int .i64 x.leader,.int .i64 x.epoch,.int .i64 x.version,u]] W (.bool true):=fun W hE=>hm▸rmay_calls (HV.out.later hE)
    have MAY:=Lib.hid hmay
    clear hmay
    by_cases h1:x.epoch < s.epoch
    · have hl:s.learn x = (s,210):=by unfold RepS.learn;rw [if_pos hm,if_pos h1]
      rw [hl]
      clear hl
      have h1b:decide (s.epoch≤x.epoch) = false:=by simpa using h1
      refine Fn_ofD Tryz.func20 rfl (Nat.le_of_ble_eq_true rfl) ?_;intro A hd hA;simp only [ix,Nat.reduceAdd];replace hA:A.tmps.size = 83:=hA
      repeat' (first|refine X_nil ?_|refine W_seqk (fun K hK=>?_)|refine W_seqr ?_|(refine X_s (fun x K hK=>?_);go_simp;refine hK _ _ (Ext.alloc _ _) ?_;clear hK K;refine X_al x ?_;generalize (World.later _ x).heap.size = bn;intro yn hn1 hn2 hn3 hn4 hn5;clear x)|go_step)
      refine X_defc (be:=bn) hd hA (fun W hE=>by unfold execOp caughtD;go_simp) ?_;have hbe:=Lib.hid (Blk.one hn5.out);clear hd hA A;intro A hd hA
      repeat' (first|refine X_pure Tryz.func33 (none_of (HP.out.later (by simp)) hs) ?_|refine X_pure Tryz.func50 (must_ok _) ?_|refine X_pure Tryz.func51 (MAY.out _ (by simp)) ?_|refine X_q ?_|refine X_nil ?_|refine W_seqk (fun K hK=>?_)|refine W_seqr ?_|go_step)
      refine W_die [(0,0),(1,0),(2,0),(3,0),(4,0),(5,0),(6,0)] 7 (by kernel_rfl) (by kernel_rfl) ?_
      repeat' (first|refine X_q ?_|refine X_niln ?_|fail)
      refine Dies_call Tryz.func50 (must_no 210) (fun c w' hC=>?_)
      obtain ⟨rfl,hE⟩:=hC
      refine End_no1 hd (hbe.out.later hE) (fun W1 hM=>?_)
      have hM':=Ext.fresh (Ext.trans (by simp) hE:Ext w w') hM (fun k hk=>by subst hk;omega)
      exact ⟨rfl,hM'.mono (fun _ _ h=>h.elim),(HP.out.later hM').mono (fun k hk=>.inl hk)⟩
    · have h1b:decide (s.epoch≤x.epoch) = true:=by simpa using h1
      by_cases h2:x.epoch = s.epoch
      · have h2b:(x.epoch == s.epoch) = true:=by simp [h2]
        have hl:s.learn x = s.again x:=by unfold RepS.learn;rw [if_pos hm,if_neg h1,if_pos h2]
        rw [hl]
        clear hl h1 h2
        by_cases h3:(s.again x).2 = 0
        · have hbb : brokersB x.isr = true := by
            have h4:=hm
            simp only [View.may,Bool.and_eq_true] at h4
            exact h4.1.1.2
          refine Fn_ofD Tryz.func20 rfl (Nat.le_of_ble_eq_true rfl) ?_;intro A hd hA;simp only [ix,Nat.reduceAdd];replace hA:A.tmps.size = 83:=hA
          repeat' (first|refine X_nil ?_|refine W_seqk (fun K hK=>?_)|refine W_seqr ?_|(refine X_s (fun x K hK=>?_);go_simp;refine hK _ _ (Ext.alloc _ _) ?_;clear hK K;refine X_al x ?_;generalize (World.later _ x).heap.size = bn;intro yn hn1 hn2 hn3 hn4 hn5;clear x)|go_step)
          refine X_defc (be:=bn) hd hA (fun W hE=>by unfold execOp caughtD;go_simp) ?_;have hbe:=Lib.hid (Blk.one hn5.out);clear hd hA A;intro A hd hA
          repeat' (first|refine X_pure Tryz.func33 (none_of (HP.out.later (by simp)) hs) ?_|refine X_pure Tryz.func50 (must_ok _) ?_|refine X_pure Tryz.func51 (MAY.out _ (by simp)) ?_|refine X_q ?_|refine X_nil ?_|refine W_seqk (fun K hK=>?_)|refine W_seqr ?_|go_step)
          refine W_drawσ [(0,0),(1,0),(2,0),(3,0),(4,0),(5,0),(6,0),(7,1)] (by kernel_rfl) (by kernel_rfl) ?_
          repeat' (first|(refine X_pure1 Tryz.func50 (fun _=>must_ok 210) ?_)|refine X_q ?_|refine X_niln ?_|refine W_seqk (fun K hK=>?_)|go_step)
          refine W_draw (by kernel_rfl) (by kernel_rfl) ?_
          repeat' (first|refine X_q ?_|refine X_niln ?_|refine W_seqk (fun K hK=>?_)|refine W_seqr ?_|refine W_tt ?_|go_step)
          refine X_ret Tryz.func52 (again_ok (HP.out.later (by simp)) (HV.out.later (by simp)) hbb h3) (fun r1 w1 hR=>?_)
          have HR:=Lib.hid hR
          clear hR
          repeat' (first|refine X_nil ?_|refine W_seqk (fun K hK=>?_)|refine W_seqr ?_|go_step)
          refine X_store (off:=0) (hbe.out.mod HR.out.1 (fun hk=>by have:=HFW.out _ hk;omega)) (fun W1 hM1 hB1=>?_)
          have HB1:=Lib.hid hB1
          have HM1:=Lib.hid hM1
          clear hB1 hM1
          repeat' (first|refine X_nil ?_|refine W_ret ?_|go_step)
          refine End_ok1 hd (HB1.out.congr (g':=fun _=>.int .i64 0) (fun k hk=>by obtain rfl:k = 0:=(by omega);rfl)) ⟨by rw [h3],?_,?_⟩
          · exact Mod.trans (Mod.trans (by simp:Ext w _) HR.out.1 (fun _ _ h=>h.elim) (fun _ _ h=>h)) HM1.out (fun _ _ h=>h) (fun k hk h=>by subst h;omega)
          · refine (HR.out.2.mod HM1.out (fun k hk h=>?_)).mono (fun k hk=>hk.imp id (fun h=>by omega))
            subst h
            rcases hk with hk|hk
            · have:=HFW.out _ hk;omega
            · omega
        · obtain ⟨hag,-⟩:=again_no HP.out HV.out h3
          rw [hag]
          refine Fn_ofD Tryz.func20 rfl (Nat.le_of_ble_eq_true rfl) ?_;intro A hd hA;simp only [ix,Nat.reduceAdd];replace hA:A.tmps.size = 83:=hA
          repeat' (first|refine X_nil ?_|refine W_seqk (fun K hK=>?_)|refine W_seqr ?_|(refine X_s (fun x K hK=>?_);go_simp;refine hK _ _ (Ext.alloc _ _) ?_;clear hK K;refine X_al x ?_;generalize (World.later _ x).heap.size = bn;intro yn hn1 hn2 hn3 hn4 hn5;clear x)|go_step)
          refine X_defc (be:=bn) hd hA (fun W hE=>by unfold execOp caughtD;go_simp) ?_;have hbe:=Lib.hid (Blk.one hn5.out);clear hd hA A;intro A hd hA
          repeat' (first|refine X_pure Tryz.func33 (none_of (HP.out.later (by simp)) hs) ?_|refine X_pure Tryz.func50 (must_ok _) ?_|refine X_pure Tryz.func51 (MAY.out _ (by simp)) ?_|refine X_q ?_|refine X_nil ?_|refine W_seqk (fun K hK=>?_)|refine W_seqr ?_|go_step)
          refine W_drawσ [(0,0),(1,0),(2,0),(3,0),(4,0),(5,0),(6,0),(7,1)] (by kernel_rfl) (by kernel_rfl) ?_
          repeat' (first|(refine X_pure1 Tryz.func50 (fun _=>must_ok 210) ?_)|refine X_q ?_|refine X_niln ?_|refine W_seqk (fun K hK=>?_)|go_step)
          refine W_draw (by kernel_rfl) (by kernel_rfl) ?_
          repeat' (first|refine X_q ?_|refine X_niln ?_|refine W_seqk (fun K hK=>?_)|refine W_seqr ?_|refine W_tt ?_|go_step)
          refine X_die Tryz.func52 (again_no (HP.out.later (by simp)) (HV.out.later (by simp)) h3).2 (fun c w' hC=>?_)
          obtain ⟨rfl,hE⟩:=hC
          refine End_no1 hd (hbe.out.later hE) (fun W1 hM=>?_)
          have hM':=Ext.fresh (Ext.trans (by simp) hE:Ext w w') hM (fun k hk=>by subst hk;omega)
          exact ⟨rfl,hM'.mono (fun _ _ h=>h.elim),(HP.out.later hM').mono (fun k hk=>.inl hk)⟩
      · have h2b:(x.epoch == s.epoch) = false:=beq_false_of_ne h2
        have hl:s.learn x = (if x.leader = -1 then { s.turn x with role:=1 } else if x.leader = s.self then s.lead x else s.turn x,0):=by unfold RepS.learn;rw [if_pos hm,if_neg h1,if_neg h2]
        rw [hl]
        clear hl h1 h2
        have hbb:brokersB x.isr = true:=by
          have h4:=hm
          simp only [View.may,Bool.and_eq_true] at h4
          exact h4.1.1.2
        refine Fn_ofD Tryz.func20 rfl (Nat.le_of_ble_eq_true rfl) ?_;intro A hd hA;simp only [ix,Nat.reduceAdd];replace hA:A.tmps.size = 83:=hA
        repeat' (first|refine X_nil ?_|refine W_seqk (fun K hK=>?_)|refine W_seqr ?_|(refine X_s (fun x K hK=>?_);go_simp;refine hK _ _ (Ext.alloc _ _) ?_;clear hK K;refine X_al x ?_;generalize (World.later _ x).heap.size = bn;intro yn hn1 hn2 hn3 hn4 hn5;clear x)|go_step)
        rename_i bv yv p1 p2 p3 p4 p5
        refine X_defc (be:=bn) hd hA (fun W hE=>by unfold execOp caughtD;go_simp) ?_;have hbe:=Lib.hid (Blk.one hn5.out);clear hd hA A;intro A hd hA
        repeat' (first|refine X_pure Tryz.func33 (none_of (HP.out.later (by simp)) hs) ?_|refine X_pure Tryz.func50 (must_ok _) ?_|refine X_pure Tryz.func51 (MAY.out _ (by simp)) ?_|refine X_q ?_|refine X_nil ?_|refine W_seqk (fun K hK=>?_)|refine W_seqr ?_|go_step)
        refine W_drawσ [(0,0),(1,0),(2,0),(3,0),(4,0),(5,0),(6,0),(7,1)] (by kernel_rfl) (by kernel_rfl) ?_
        repeat' (first|(refine X_pure1 Tryz.func50 (fun _=>must_ok 210) ?_)|refine X_q ?_|refine X_niln ?_|refine W_seqk (fun K hK=>?_)|go_step)
        refine W_draw (by kernel_rfl) (by kernel_rfl) ?_
        repeat' (first|refine X_q ?_|refine X_niln ?_|refine W_seqk (fun K hK=>?_)|refine W_seqr ?_|refine W_skip ?_|refine W_ff ?_|go_step)
        refine X_store (off:=11) (H.out.later (by simp)).blk (fun W1 hM1 hB1=>?_)
        have HA1:=Lib.hid ((H.out.later (by simp)).putEpoch hM1 hB1)
        repeat' (first|refine X_q ?_|fail)
        refine X_store (off:=0) HA1.out.blk (fun W2 hM2 hB2=>?_)
        have HA2:=Lib.hid (HA1.out.putBare hM2 hB2)
        repeat' (first|refine X_q ?_|fail)
        refine X_store (off:=10) HA2.out.blk (fun W3 hM3 hB3=>?_)
        have HA3:Hid (RepAt W3 b (.slice A1 s.log.length c1) (.slice none 0 0) (.slice none 0 0) (s.turn x)):=Lib.hid (HA2.out.putRole hM3 hB3)
        have HM:=Lib.hid (Mod.trans (Mod.trans hM1 hM2 (fun _ _ h=>h) (fun _ _ h=>h)) hM3 (fun _ _ h=>h) (fun _ _ h=>h):Mod (· = b) _ W3)
        clear hM1 hM2 hM3 hB1 hB2 hB3
        clear HA1 HA2
        have hx:Ext w ((w.later yv).later yn):=by simp
        have p2':bv < ((w.later yv).later yn).heap.size:=Nat.lt_of_lt_of_le p2 yn.2.size
        have q3:=fun k=>(cell?_mod HM.out (o:=k) p2' (fun h=>by omega)).trans ((cell?_mod yn.2 (o:=k) p2 (fun h=>h)).trans (p3 k))
        have hbe3:=Lib.hid (hbe.out.mod HM.out (fun h=>by omega))
        have hbv3:bv < W3.heap.size:=Nat.lt_of_lt_of_le p2' HM.out.size
        have hF3:∀ k,RFoot b (.slice A1 s.log.length c1) (.slice none 0 0) (.slice none 0 0) k→F k:=by
          rintro k (hk|hk|hk|hk)
          · exact HFF.out k (.inl hk)
          · exact HFF.out k (.inr (.inl hk))
          · cases hk
          · cases hk
        have HF3:=Lib.hid hF3
        have HM0:Hid (Mod (· = b) w W3):=Lib.hid (Mod.trans hx HM.out (fun _ _ h=>h.elim) (fun _ _ h=>h))
        have hb3:b < W3.heap.size:=HA3.out.blk.lt
        have hds:W3.cell? ⟨b,8,none⟩ = some (.int .i64 s.self):=HA3.out.cells.2.2.2.2.2.1
        have hl3:W3.cell? ⟨b,12,none⟩ = some (.slice A1 s.log.length c1):=HA3.out.cells.2.2.2.2.2.2.2.2.2.1
        have hws:=HM.out.size
        have hbnw:w.heap.size < bn:=by omega
        have hbvn:bv ≠ bn:=by omega
        clear hF3 p3 p2 p2' hbe hn2 hn3 hn4 hn5 p4 p5
        by_cases h4:x.leader = -1
        · have h4b:(x.leader == -1) = true:=by simp [h4]
          have H4:=Lib.hid h4
          clear h4
          repeat' (first|refine X_q ?_|refine X_nil ?_|refine W_seqk (fun K hK=>?_)|refine W_seqr ?_|refine W_block ?_|refine W_tt ?_|go_step)
          refine X_store (off:=10) HA3.out.blk (fun W4 hM4 hB4=>?_)
          have HA4:=Lib.hid (HA3.out.putRole hM4 hB4)
          have HM4:=Lib.hid hM4
          clear hM4 hB4
          repeat' (first|refine X_nil ?_|refine W_seqk (fun K hK=>?_)|refine W_seqr ?_|go_step)
          refine X_store (off:=0) (hbe3.out.mod HM4.out (fun hk=>by omega)) (fun W5 hM5 hB5=>?_)
          have HB5:=Lib.hid hB5
          have HM5:=Lib.hid hM5
          clear hM5 hB5
          repeat' (first|refine X_nil ?_|refine W_ret ?_|go_step)
          refine End_ok1 hd (HB5.out.congr (g':=fun _=>.int .i64 0) (fun k hk=>by obtain rfl:k = 0:=(by omega);rfl)) ⟨rfl,?_,?_⟩
          · exact Mod.trans (Mod.trans HM0.out HM4.out (fun _ _ h=>h) (fun _ _ h=>h)) HM5.out (fun k _ h=>by subst h;exact hFb.out) (fun k hk h=>by subst h;omega)
          · rw [if_pos H4.out]
            exact ⟨_,_,_,HA4.out.mod HM5.out (fun k hk he=>by subst he;have:=HFW.out _ (HF3.out _ hk);omega),fun k hk=>.inl (HF3.out k hk)⟩
        · have h4b:(x.leader == -1) = false:=beq_false_of_ne h4
          have H4:=Lib.hid h4
          clear h4
          by_cases h5:x.leader = s.self
          · have h5b:(x.leader == s.self) = true:=by simp [h5]
            have H5:=Lib.hid h5
            clear h5
            repeat' (first|refine X_q ?_|refine X_nil ?_|refine W_seqk (fun K hK=>?_)|refine W_seqr ?_|refine W_block ?_|refine W_tt ?_|refine W_ff ?_|go_step)
            refine X_store (off:=10) HA3.out.blk (fun W4 hM4 hB4=>?_)
            have HA4:=Lib.hid (HA3.out.putRole hM4 hB4)
            have HM4:=Lib.hid hM4
            clear hM4 hB4
            have q4:=fun k=>(cell?_mod HM4.out (o:=k) hbv3 (fun h=>by omega)).trans (q3 k)
            have hbv4:bv < W4.heap.size:=Nat.lt_of_lt_of_le hbv3 HM4.out.size
            have HR4:Hid (Rep W4 b F ({ s.turn x with role:=3 }:RepS)):=Lib.hid ⟨_,_,_,HA4.out,HF3.out⟩
            have hE4:Mod (· = b) w W4:=Mod.trans HM0.out HM4.out (fun _ _ h=>h) (fun _ _ h=>h)
            have HE4:=Lib.hid hE4
            have hVV:VV W4 (.agg #[.int .i64 x.leader,.int .i64 x.epoch,.int .i64 x.version,u]) x:=⟨u,rfl,HVR.out.modW hE4 (fun k hk=>(HNE.out k hk).imp id (fun h4 he=>h4 (by subst he;exact hFb.out)))⟩
            have HVV:=Lib.hid hVV
            clear hE4 hVV
            repeat' (first|refine X_q ?_|refine X_nil ?_|refine W_seqk (fun K hK=>?_)|refine W_seqr ?_|go_step)
            refine X_ret Tryz.func53 (steps_calls HR4.out HVV.out (by have:=brokersB_len hbb;omega)) (fun r5 W5 hR=>?_)
            have HR5:=Lib.hid hR
            clear hR
            have hQ:=HR5.out.2
            generalize hq:((({ s.turn x with role:=3 }:RepS)).steps x) = q at hQ
            have hql:q.log = s.log:=by rw [← hq];rfl
            have hqs:q.self = s.self:=by rw [← hq];rfl
            have hqc:q.counts = x.isr:=by rw [← hq];rfl
            have HQ:=Lib.hid hq
            obtain ⟨uL5,uI5,uC5,hQ,hf5⟩:=hQ.ex
            obtain ⟨hlt5,-,-,-,-,-,-,-,-,e12,-,-⟩:=hQ.cells
            obtain ⟨A5,c5,rfl,-⟩:=hQ.rdL.ent
            have H5':=Lib.hid hQ
            have HF5:=Lib.hid hf5
            clear hQ hf5 hq
            have hz5:=HR5.out.1.size
            repeat' (first|refine X_q ?_|refine X_nil ?_|refine W_seqk (fun K hK=>?_)|refine W_seqr ?_|go_step)
            refine X_store (off:=1) H5'.out.blk (fun W6 hM6 hB6=>?_)
            have H6:=Lib.hid (H5'.out.putBeg hM6 hB6)
            have HM6:=Lib.hid hM6
            clear hM6 hB6
            repeat' (first|refine X_q ?_|refine X_nil ?_|refine W_seqk (fun K hK=>?_)|refine W_seqr ?_|refine W_block ?_|go_step)
            refine W_loops [0,4,71] (fun n vs w'=>∃ k:Nat,Mod (· = b) W6 w'∧k + n = 4∧vs = [.pointer (some ⟨b,0,none⟩),.pointer (some ⟨bn,0,none⟩),.int .i64 k]∧RepAt w' b (.slice A5 q.log.length c5) uI5 uC5 { q with beg:=q.log.length,known:=fun j=>if j < k then -1 else 0 }) 4 hd hA (by decide) ⟨0,Mod.refl _ _,rfl,by simp,by
              refine H6.out.congrK rfl rfl rfl (all15 ?_)
              subst HQ
              refine ⟨?_,?_,?_,?_,?_,?_,?_,?_,?_,?_,?_,?_,?_,?_,?_⟩ <;> rfl⟩ ?_
            clear hd hA A;intro n vs A W7 hd hA _ ⟨k,hw,hk,hvs,hm⟩;subst hvs
            have HM7:=Lib.hid hw
            have H7:=Lib.hid hm
            have hb7:=hm.blk.lt
            clear hw hm
            simp only [List.zip_cons_cons,List.zip_nil_right,List.zip_nil_left]
            by_cases hk4:k < 4
            · have hk4':(k:Int) < 4:=by omega
              repeat' (first|refine X_q ?_|refine X_nil ?_|refine W_seqk (fun K hK=>?_)|refine W_seqr ?_|refine W_skip ?_|refine W_block ?_|refine W_tt ?_|go_step)
              refine X_store (off:=4 + k) H7.out.blk (fun W8 hM8 hB8=>?_)
              have H8:=Lib.hid (H7.out.putKnown hk4 hM8 hB8)
              have HM8:=Lib.hid (Mod.trans HM7.out hM8 (fun _ _ h=>h) (fun _ _ h=>h):Mod (· = b) W6 W8)
              clear hM8 hB8
              repeat' (first|refine X_q ?_|refine X_nil ?_|refine W_seqr ?_|go_step)
              refine ⟨_,_,rfl,hd,hA,n - 1,by omega,k + 1,HM8.out,by omega,by simp,?_⟩
              refine H8.out.congrK rfl rfl rfl (all15 ?_)
              refine ⟨rfl,rfl,rfl,rfl,?_,?_,?_,?_,rfl,rfl,rfl,rfl,rfl,rfl,rfl⟩ <;> (simp only [renc,setK];congr 1;repeat' split <;> first|rfl|omega)
            · obtain rfl:k = 4:=by omega
              have hHR:Rep W7 b (fun k=>F k∨W4.heap.size≤k) { q with beg:=s.log.length,known:=fun _=>-1 }:=by
                refine ⟨_,_,_,H7.out.congrK (s':={ q with beg:=s.log.length,known:=fun _=>-1 }) rfl rfl rfl (all15 ?_),HF5.out⟩
                rw [hql]
                refine ⟨?_,?_,?_,?_,?_,?_,?_,?_,?_,?_,?_,?_,?_,?_,?_⟩ <;> rfl
              have HHR:=Lib.hid hHR
              clear hHR
              repeat' (first|refine X_q ?_|refine X_nil ?_|refine W_seqk (fun K hK=>?_)|refine W_seqr ?_|refine W_exit ?_|refine W_ff ?_|go_step)
              refine X_ret Tryz.func54 (count_calls HHR.out (by rw [show ({ q with beg:=s.log.length,known:=fun _=>-1 }:RepS).counts = x.isr from hqc];exact brokersB_bks hbb)) (fun r9 W9 hR=>?_)
              have HR9:=Lib.hid hR
              clear hR
              have hb3n:=hbe3.out.lt
              have hz4:=HM4.out.size
              have hFbn:¬ F bn:=fun h=>by have:=HFW.out _ h;omega
              have hbe9:Blk W9 bn _ 1 _:=((((hbe3.out.mod HM4.out (fun h=>by omega)).mod HR5.out.1 hFbn).mod HM6.out (fun h=>by omega)).mod HM7.out (fun h=>by omega)).mod HR9.out.1 (fun h=>h.elim hFbn (fun h=>by omega))
              have hw9:Mod F w W9:=by
                have g1:Mod F w W4:=HE4.out.mono (fun k _ h=>by subst h;exact hFb.out)
                have g2:=Mod.trans g1 HR5.out.1 (fun _ _ h=>h) (fun _ _ h=>h)
                have g3:=Mod.trans g2 HM6.out (fun _ _ h=>h) (fun k _ h=>by subst h;exact hFb.out)
                have g4:=Mod.trans g3 HM7.out (fun _ _ h=>h) (fun k _ h=>by subst h;exact hFb.out)
                exact Mod.trans g4 HR9.out.1 (fun _ _ h=>h) (fun k hk h=>h.elim id (fun h=>by omega))
              have HBE9:=Lib.hid hbe9
              have HW9:=Lib.hid hw9
              clear hbe9 hw9
              repeat' (first|refine X_nil ?_|refine W_seqk (fun K hK=>?_)|refine W_seqr ?_|go_step)
              refine X_store (off:=0) HBE9.out (fun W10 hM10 hB10=>?_)
              have HB10:=Lib.hid hB10
              have HM10:=Lib.hid hM10
              clear hM10 hB10
              repeat' (first|refine X_nil ?_|refine W_ret ?_|go_step)
              refine End_ok1 hd (HB10.out.congr (g':=fun _=>.int .i64 0) (fun k hk=>by obtain rfl:k = 0:=(by omega);rfl)) ⟨rfl,?_,?_⟩
              · exact Mod.trans HW9.out HM10.out (fun k _ h=>h) (fun k hk h=>by subst h;omega)
              · rw [if_neg H4.out,if_pos H5.out]
                refine Rep.mono (G:=fun k=>F k∨w.heap.size≤k) (Rep.mod (F:=fun k=>F k∨W4.heap.size≤k) ?_ HM10.out (fun k hk h=>by subst h;exact hk.elim hFbn (fun h=>by omega))) (fun k hk=>hk.imp id (fun h=>by omega))
                have:=HR9.out.2
                subst HQ
                exact this
          · have h5b:(x.leader == s.self) = false:=beq_false_of_ne h5
            have H5:=Lib.hid h5
            clear h5
            repeat' (first|refine X_q ?_|refine X_nil ?_|refine W_seqk (fun K hK=>?_)|refine W_seqr ?_|refine W_skip ?_|refine W_block ?_|refine W_ff ?_|go_step)
            refine X_store (off:=0) hbe3.out (fun W5 hM5 hB5=>?_)
            have HB5:=Lib.hid hB5
            have HM5:=Lib.hid hM5
            clear hM5 hB5
            repeat' (first|refine X_nil ?_|refine W_ret ?_|go_step)
            refine End_ok1 hd (HB5.out.congr (g':=fun _=>.int .i64 0) (fun k hk=>by obtain rfl:k = 0:=(by omega);rfl)) ⟨rfl,?_,?_⟩
            · exact Mod.trans HM0.out HM5.out (fun k _ h=>by subst h;exact hFb.out) (fun k hk h=>by subst h;omega)
            · rw [if_neg H4.out,if_neg H5.out]
              exact ⟨_,_,_,HA3.out.mod HM5.out (fun k hk he=>by subst he;have:=HFW.out _ (HF3.out _ hk);omega),fun k hk=>.inl (HF3.out k hk)⟩
  · have hmf:x.may = false:=by simpa using hm
    have hl:s.learn x = (s,2):=by unfold RepS.learn;rw [if_neg hm]
    rw [hl]
    clear hl
    refine Fn_ofD Tryz.func20 rfl (Nat.le_of_ble_eq_true rfl) ?_;intro A hd hA;simp only [ix,Nat.reduceAdd];replace hA:A.tmps.size = 83:=hA
    repeat' (first|refine X_nil ?_|refine W_seqk (fun K hK=>?_)|refine W_seqr ?_|(refine X_s (fun x K hK=>?_);go_simp;refine hK _ _ (Ext.alloc _ _) ?_;clear hK K;refine X_al x ?_;generalize (World.later _ x).heap.size = bn;intro yn hn1 hn2 hn3 hn4 hn5;clear x)|go_step)
    refine X_defc (be:=bn) hd hA (fun W hE=>by unfold execOp caughtD;go_simp) ?_;have hbe:=Lib.hid (Blk.one hn5.out);clear hd hA A;intro A hd hA
    repeat' (first|refine X_pure Tryz.func33 (none_of (HP.out.later (by simp)) hs) ?_|refine X_pure Tryz.func50 (must_ok _) ?_|refine X_pure Tryz.func51 (hmf▸rmay_calls (HV.out.later (by simp))) ?_|refine X_q ?_|refine X_nil ?_|refine W_seqk (fun K hK=>?_)|refine W_seqr ?_|go_step)
    refine X_die Tryz.func50 (must_no 2) (fun c w' hC=>?_)
    obtain ⟨rfl,hE⟩:=hC
    refine End_no1 hd (hbe.out.later hE) (fun W1 hM=>?_)
    have hM':=Ext.fresh (Ext.trans (by simp) hE:Ext w w') hM (fun k hk=>by subst hk;omega)
    exact ⟨rfl,hM'.mono (fun _ _ h=>h.elim),(HP.out.later hM').mono (fun k hk=>.inl hk)⟩
theorem learn_calls {w : World} {b : Nat} {F0 : Nat → Prop} {s : RepS} {v : Value} {x : View} (h : Rep w b F0 s) (hs : s.least ≠ 0) (hv : VV w v x) (hne : ∀ a b c u, v = .agg #[a, b, c, u] → ∀ k, u.ownBlock = some k → ¬ F0 k) :
    Ret Tryz.prog 20 #[.pointer (some ⟨b,0,none⟩),v] w fun r w'=>r = .int .i64 (s.learn x).2∧Mod F0 w w'∧Rep w' b (fun k=>F0 k∨w.heap.size≤k) (s.learn x).1 :=
  learn_callsW h hs hv (fun a b c u h1 k h2=>.inr (hne a b c u h1 k h2))
end Go.Ws
namespace Go.Ws
open Go Go.RowKit Go.Proofs
set_option linter.unusedVariables false
theorem appendNo_zero {l:List Ent} {e:Ent}:appendNo l e = 0↔rightB e = true∧l.length < 4096∧lastEp l e = false:=by
  unfold appendNo
  constructor
  · intro h
    split at h
    · cases h
    · rename_i h1
      split at h
      · cases h
      · rename_i h2
        split at h
        · cases h
        · rename_i h3
          exact ⟨by simpa using h1,by omega,by simpa using h3⟩
  · rintro ⟨h1,h2,h3⟩
    rw [if_neg (by simp [h1]),if_neg (by omega),if_neg (by simp [h3])]
theorem ofNo_app {l:List Ent} {e:Ent}:ofNo (l ++ [e]) = 0↔ofNo l = 0∧appendNo l e = 0:=by
  have key:ofNo l = 0→ofNo (l ++ [e]) = if appendNo l e = 0 then 0 else appendNo l e:=fun h=>by
    unfold ofNo at *
    rw [ofFrom_append l [e] [] h]
    simp [ofFrom]
  constructor
  · intro h
    have h1:ofNo l = 0:=by have:=ofNo_take h l.length;simpa using this
    rw [key h1] at h
    refine ⟨h1,?_⟩
    split at h
    · assumption
    · exact h
  · rintro ⟨h,h2⟩
    rw [key h,if_pos h2]
theorem mayFrom_snoc (e:Ent):∀ (l:List Ent) (p:Int),mayFrom p (l ++ [e]) = (mayFrom p l && decide ((l.getLast?.map (·.ep)).getD p≤e.ep) && decide (e.ep≤2147483647))
  | [],p=>by simp only [List.nil_append,mayFrom,Bool.and_true,Bool.true_and];rfl
  | x :: xs,p=>by
    rw [List.cons_append,mayFrom_cons,mayFrom_cons,mayFrom_snoc e xs x.ep]
    have:((x :: xs).getLast?.map (·.ep)).getD p = (xs.getLast?.map (·.ep)).getD x.ep:=by
      cases xs with
      | nil=>rfl
      | cons y ys=>rw [List.getLast?_cons_cons];cases h:(y :: ys).getLast? with
        | none=>simp at h
        | some z=>rfl
    rw [this]
    simp only [Bool.and_assoc]
theorem snoc_ind {α:Type} {P:List α→Prop} (h0:P []) (h1:∀ l e,P l→P (l ++ [e])) (l:List α):P l:=by
  have key:∀ r:List α,P r.reverse:=by
    intro r
    induction r with
    | nil=>exact h0
    | cons x r ih=>rw [List.reverse_cons];exact h1 _ _ ih
  have:=key l.reverse
  rwa [List.reverse_reverse] at this
theorem ofNo_all:∀ (l:List Ent),ofNo l = 0→(∀ e ∈ l,rightB e = true)∧mayFrom 1 l = true∧l.length≤4096:=by
  refine snoc_ind ?_ ?_
  · intro _;exact ⟨by simp,rfl,by simp⟩
  · intro l e ih h
    obtain ⟨h1,h2⟩:=ofNo_app.1 h
    obtain ⟨i1,i2,i3⟩:=ih h1
    obtain ⟨a1,a2,a3⟩:=appendNo_zero.1 h2
    refine ⟨?_,?_,by simp;omega⟩
    · intro x hx
      rw [List.mem_append,List.mem_singleton] at hx
      rcases hx with hx|rfl
      · exact i1 x hx
      · exact a1
    · rw [mayFrom_snoc,i2,Bool.true_and,Bool.and_eq_true,decide_eq_true_eq,decide_eq_true_eq]
      have hr:=a1
      simp only [rightB,Bool.and_eq_true] at hr
      have hep:=hr.1.1.1.1.1.1.1.1.1
      simp only [inB,Bool.and_eq_true,decide_eq_true_eq] at hep
      refine ⟨?_,hep.2⟩
      unfold lastEp at a3
      cases hl:l.getLast? with
      | none=>simp;exact hep.1
      | some x=>rw [hl] at a3;simp at a3;simpa using a3
theorem ofNo_may {l:List Ent} (h:ofNo l = 0):mayE l = true:=by
  obtain ⟨h1,h2,h3⟩:=ofNo_all l h
  unfold mayE
  rw [h2,Bool.true_and,decide_eq_true_eq];omega
theorem ofNo_len {l:List Ent} (h:ofNo l = 0):l.length≤4096:=(ofNo_all l h).2.2
theorem lastE_snoc (l:List Ent) (e:Ent):lastE (l ++ [e]) = e.ep:=by unfold lastE;simp
theorem lastEp_of {l:List Ent} {e:Ent} (h0:1≤e.ep):lastEp l e = decide (e.ep < lastE l):=by
  unfold lastEp lastE
  cases l.getLast? with
  | none=>simp;omega
  | some x=>rfl
theorem rightB_ep {e:Ent} (h:rightB e = true):1≤e.ep∧e.ep≤2147483647:=by
  simp only [rightB,Bool.and_eq_true] at h
  have hep:=h.1.1.1.1.1.1.1.1.1
  simp only [inB,Bool.and_eq_true,decide_eq_true_eq] at hep
  exact hep
theorem ofNo_ents:∀ (es:List Ent) (l:List Ent),ofNo l = 0→entsFrom (lastE l) es = true→l.length + es.length≤4096→ofNo (l ++ es) = 0
  | [],l,h,_,_=>by simpa using h
  | x :: xs,l,h,he,hl=>by
    rw [entsFrom_cons] at he
    simp only [Bool.and_eq_true,decide_eq_true_eq] at he
    obtain ⟨⟨h1,h2⟩,h3⟩:=he
    simp only [List.length_cons] at hl
    have hx:appendNo l x = 0:=appendNo_zero.2 ⟨h2,by omega,by rw [lastEp_of (rightB_ep h2).1];simp;omega⟩
    have:=ofNo_ents xs (l ++ [x]) (ofNo_app.2 ⟨h,hx⟩) (by rw [lastE_snoc];exact h3) (by simp;omega)
    simpa using this
structure RepS.Good (s:RepS):Prop where
  ok:ofNo s.log = 0
  self:inB s.self 0 3 = true
  least:inB s.least 1 4 = true
  role:s.role = 1∨s.role = 2∨s.role = 3
  epoch:0≤s.epoch∧s.epoch≤2147483647
  fl:0≤s.flushed∧s.flushed≤s.log.length
  hi:0≤s.high∧s.high≤s.log.length
  isr:brokersB s.isr = true
  cts:brokersB s.counts = true
theorem RepS.Good.may {s:RepS} (h:s.Good):mayE s.log = true:=ofNo_may h.ok
theorem RepS.Good.len {s:RepS} (h:s.Good):s.log.length≤4096:=ofNo_len h.ok
theorem RepS.Good.ne {s:RepS} (h:s.Good):s.least ≠ 0:=by have:=h.least;simp [inB] at this;omega
theorem RepS.Good.bks {s:RepS} (h:s.Good):Bks s.counts:=brokersB_bks h.cts
theorem RepS.Good.ilen {s:RepS} (h:s.Good):s.isr.length≤4∧s.counts.length≤4:=⟨brokersB_len h.isr,brokersB_len h.cts⟩
theorem good_init {self least:Int} (h:rightNew self least = true):(RepS.init self least).Good:=by
  simp only [rightNew,Bool.and_eq_true] at h
  exact ⟨rfl,h.1,h.2,.inl rfl,by simp [RepS.init],by simp [RepS.init],by simp [RepS.init],rfl,rfl⟩
theorem leastOf_le (self:Int) (known:Nat→Int) (l:List Int):∀ n:Int,leastOf self known l n≤n:=by
  induction l with
  | nil=>intro n;exact Int.le_refl _
  | cons b l ih =>
    intro n
    unfold leastOf at *
    rw [List.foldl_cons]
    refine Int.le_trans (ih _) ?_
    split
    · exact Int.le_refl _
    · rw [gmin_eq];omega
theorem count_high (s:RepS):s.high≤s.count.high∧(s.count.high≤s.high∨s.count.high≤s.flushed):=by
  unfold RepS.count
  split
  · have:=leastOf_le s.self s.known s.counts s.flushed
    simp only [gmax_eq]
    omega
  · exact ⟨Int.le_refl _,.inl (Int.le_refl _)⟩
theorem count_isr (s:RepS):s.count.isr = s.isr∧s.count.counts = s.counts∧s.count.version = s.version∧s.count.beg = s.beg∧s.count.known = s.known:=by unfold RepS.count;split <;> exact ⟨rfl,rfl,rfl,rfl,rfl⟩
theorem good_count {s:RepS} (h:s.Good):s.count.Good:=by
  obtain ⟨a1,a2,a3,a4,a5,a6⟩:=count_log s
  obtain ⟨b1,b2,-⟩:=count_isr s
  obtain ⟨c1,c2⟩:=count_high s
  have h1:=h.hi
  have h2:=h.fl
  refine ⟨by rw [a1];exact h.ok,by rw [a3];exact h.self,by rw [a4];exact h.least,by rw [a6];exact h.role,by rw [a2];exact h.epoch,by rw [a5,a1];exact h.fl,?_,by rw [b1];exact h.isr,by rw [b2];exact h.cts⟩
  rw [a1]
  rcases c2 with c2|c2 <;> omega
theorem good_flush {s:RepS} (h:s.Good):s.flush.Good:=by
  unfold RepS.flush
  exact good_count ⟨h.ok,h.self,h.least,h.role,h.epoch,⟨by simp,by simp⟩,h.hi,h.isr,h.cts⟩
theorem good_app {s:RepS} (h:s.Good) (e:Ent):(s.app e).Good:=by
  unfold RepS.app
  split
  · rename_i h0
    have hc:checkNo s.log (s.sent e) = 0:=by
      unfold RepS.appNo at h0
      split at h0
      · cases h0
      · split at h0
        · cases h0
        · split at h0
          · cases h0
          · split at h0
            · rename_i hc;exact absurd h0 hc
            · rename_i hc;simpa using hc
    have ha:appendNo s.log (s.sent e) = 0:=by
      unfold checkNo at hc
      by_cases ha:appendNo s.log (s.sent e) = 0
      · exact ha
      · rw [if_pos ha] at hc;exact hc
    have hf:=h.fl
    have hh:=h.hi
    exact ⟨ofNo_app.2 ⟨h.ok,ha⟩,h.self,h.least,h.role,h.epoch,by simp;omega,by simp;omega,h.isr,h.cts⟩
  · exact h
theorem good_serve {s:RepS} (h:s.Good) (f:Fetch) (most:Int):(s.serve f most).Good:=by
  unfold RepS.serve
  split
  · exact h
  · split
    · exact good_count ⟨h.ok,h.self,h.least,h.role,h.epoch,h.fl,h.hi,h.isr,h.cts⟩
    · exact h
theorem good_take {s:RepS} (h:s.Good) (p:Reply):(s.take p).Good:=by
  have hf:=h.fl
  have hh:=h.hi
  unfold RepS.take
  split
  · exact h
  · rename_i h0
    have h0:s.takeNo p = 0:=by simpa using h0
    split
    · have hc : 0 ≤ s.cutAt p ∧ s.cutAt p ≤ s.log.length := by
        unfold RepS.cutAt
        rw [gmax_eq,gmin_eq]
        have hab:aboveE s.log p.cutEpoch≤s.log.length:=by unfold aboveE;exact (List.takeWhile_sublist _).length_le
        omega
      refine ⟨ofNo_take h.ok _,h.self,h.least,h.role,h.epoch,?_,?_,h.isr,h.cts⟩
      · simp only [List.length_take,gmin_eq];omega
      · simp only [List.length_take,gmin_eq];omega
    · rename_i hcut
      unfold RepS.takeNo at h0
      split at h0
      · cases h0
      · rename_i hr
        split at h0
        · cases h0
        · split at h0
          · cases h0
          · rename_i hfit
            split at h0
            · cases h0
            · rename_i hlen
              have hr:p.right = true:=by simpa using hr
              have hfit:s.fitsNow p = true:=by simpa using hfit
              simp only [Reply.right,Bool.and_eq_true] at hr
              simp only [RepS.fitsNow,Bool.and_eq_true,beq_iff_eq] at hfit
              have he:=hr.1.1.1.1.1.1
              rw [hfit.2] at he
              refine ⟨ofNo_ents _ _ h.ok he (by omega),h.self,h.least,h.role,h.epoch,by simp;omega,?_,h.isr,h.cts⟩
              simp only [List.length_append,gmax_eq,gmin_eq];omega
theorem good_steps {s:RepS} (h:s.Good) {v:View} (hv:v.may = true):(s.steps v).Good:=by
  have hb:brokersB v.isr = true:=by simp only [View.may,Bool.and_eq_true] at hv;exact hv.1.1.2
  exact ⟨h.ok,h.self,h.least,h.role,h.epoch,h.fl,h.hi,hb,hb⟩
theorem good_learn {s:RepS} (h:s.Good) (v:View):(s.learn v).1.Good:=by
  unfold RepS.learn
  split
  · rename_i hv
    have hv':=hv
    simp only [View.may,Bool.and_eq_true] at hv'
    have hve:=hv'.1.1.1.1.2
    simp only [inB,Bool.and_eq_true,decide_eq_true_eq] at hve
    have hb:=hv'.1.1.2
    have hturn:(s.turn v).Good:=⟨h.ok,h.self,h.least,.inr (.inl rfl),hve,h.fl,h.hi,rfl,rfl⟩
    split
    · exact h
    · split
      · unfold RepS.again
        split
        · split
          · exact good_count (good_steps h hv)
          · exact h
        · split
          · split
            · exact ⟨h.ok,h.self,h.least,.inr (.inl rfl),h.epoch,h.fl,h.hi,h.isr,h.cts⟩
            · exact h
          · exact h
      · simp only
        split
        · exact ⟨h.ok,h.self,h.least,.inl rfl,hve,h.fl,h.hi,rfl,rfl⟩
        · split
          · unfold RepS.lead
            exact good_count ⟨h.ok,h.self,h.least,.inr (.inr rfl),hve,h.fl,h.hi,hb,hb⟩
          · exact hturn
  · exact h
theorem good_crash {s:RepS} (h:s.Good) (keep:Int):(s.crash keep).1.Good:=by
  have hf:=h.fl
  have hh:=h.hi
  unfold RepS.crash
  split
  · exact h
  · refine ⟨ofNo_take h.ok _,h.self,h.least,.inl rfl,h.epoch,?_,?_,rfl,rfl⟩
    · simp only [List.length_take,gmin_eq];omega
    · simp only [List.length_take,gmin_eq];omega
end Go.Ws
namespace Go.Ws
open Go Go.RowKit Go.Proofs
set_option maxHeartbeats 2000000
set_option maxRecDepth 100000
set_option linter.unusedVariables false
set_option linter.unusedSimpArgs false
theorem rin_calls (l:List Int) (v:Value) (x:Int) (w:World) (hl:RdI w v l):Pure Tryz.prog 85 #[v,.int .i64 x] w (.bool (decide (x ∈ l))):=by
  obtain ⟨A0,c,rfl,hc,hcm,HR⟩:=hl.int
  clear hl
  have HR:=Lib.hid HR
  refine Fn_of Tryz.func85 rfl (Nat.le_of_ble_eq_true rfl) ?_;intro A hd hA;simp only [ix,Nat.reduceAdd];replace hA:A.tmps.size = 18:=hA
  repeat' (first|refine X_q ?_|refine X_nil ?_|refine W_seqk (fun K hK=>?_)|refine W_seqr ?_|refine W_block ?_|go_step)
  refine W_loops [0,1,5] (fun n vs w'=>∃ k:Nat,w' = w∧k + n = l.length∧vs = [.slice A0 l.length c,.int .i64 x,.int .i64 k]∧x ∉ l.take k) l.length hd hA (by decide) ⟨0,rfl,by omega,by simp,by simp⟩ ?_
  clear hd hA A;intro n vs B w' hd hA _ ⟨k,hw,hk,hvs,hm⟩;subst hw hvs
  simp only [List.zip_cons_cons,List.zip_nil_right,List.zip_nil_left]
  have HM:=Lib.hid hm
  clear hm
  by_cases hlt:k < l.length
  · obtain ⟨y,b,o,HX,rfl,hb,c0⟩:=HR.out k hlt
    have hki:(k:Int) < l.length:=by omega
    have HXX:=Lib.hid HX
    clear HX
    by_cases hxy:y = x
    · have hxb:(y == x) = true:=by simp [hxy]
      have HE:=Lib.hid hxy
      clear hxy
      repeat' (first|refine X_q ?_|refine X_nil ?_|refine W_seqk (fun K hK=>?_)|refine W_seqr ?_|refine W_ret ?_|refine W_skip ?_|refine W_block ?_|refine W_tt ?_|go_step)
      exact Body_ret hd ⟨by rw [decide_eq_true (by have:=List.mem_of_getElem? HXX.out;rw [HE.out] at this;exact this)],by simp⟩
    · have hxb:(y == x) = false:=beq_false_of_ne hxy
      have HE:=Lib.hid hxy
      clear hxy
      repeat' (first|refine X_q ?_|refine X_nil ?_|refine W_seqk (fun K hK=>?_)|refine W_seqr ?_|refine W_skip ?_|refine W_block ?_|refine W_tt ?_|refine W_ff ?_|go_step)
      exact ⟨_,_,rfl,hd,hA,n - 1,by omega,k + 1,trivial,by omega,by simp,by rw [take_snoc HXX.out,List.mem_append,List.mem_singleton];exact fun h=>h.elim HM.out (fun h=>HE.out h.symm)⟩
  · obtain rfl:k = l.length:=by omega
    repeat' (first|refine X_q ?_|refine X_nil ?_|refine W_seqk (fun K hK=>?_)|refine W_seqr ?_|refine W_ret ?_|refine W_exit ?_|refine W_ff ?_|go_step)
    exact Body_ret hd ⟨by rw [decide_eq_false (by have:=HM.out;rwa [List.take_length] at this)],by simp⟩
theorem rrises_calls (l:List Int) (v:Value) (w:World) (hl:RdI w v l):Pure Tryz.prog 84 #[v,.int .i64 4] w (.bool (brokersB l)):=by
  obtain ⟨A0,c,rfl,hc,hcm,HR⟩:=hl.int
  clear hl
  have HR:=Lib.hid HR
  refine Fn_of Tryz.func84 rfl (Nat.le_of_ble_eq_true rfl) ?_;intro A hd hA;simp only [ix,Nat.reduceAdd];replace hA:A.tmps.size = 41:=hA
  repeat' (first|refine X_q ?_|refine X_nil ?_|refine W_seqk (fun K hK=>?_)|refine W_seqr ?_|refine W_block ?_|go_step)
  refine W_loops [0,1,5] (fun n vs w'=>∃ k:Nat,w' = w∧k + n = l.length∧vs = [.slice A0 l.length c,.int .i64 4,.int .i64 k]∧brokersFrom (prevAt l k) (l.drop k) = brokersB l) l.length hd hA (by decide) ⟨0,rfl,by omega,by simp,by simp [prevAt,brokersB]⟩ ?_
  clear hd hA A;intro n vs B w' hd hA _ ⟨k,hw,hk,hvs,hm⟩;subst hw hvs
  simp only [List.zip_cons_cons,List.zip_nil_right,List.zip_nil_left]
  by_cases hlt:k < l.length
  · obtain ⟨x,b,o,HX,rfl,hb,c0⟩:=HR.out k hlt
    have hki:(k:Int) < l.length:=by omega
    have hdr:l.drop k = x :: l.drop (k + 1):=drop_at HX.out
    have hpn:prevAt l (k + 1) = some x:=by simp [prevAt,HX.out]
    rw [hdr,brokersFrom_cons] at hm
    have Hpn:=Lib.hid hpn
    clear hdr hpn
    by_cases hx0:x < 0
    · have hm':brokersB l = false:=by rw [← hm];simp [inB];omega
      have HM:=Lib.hid hm'
      clear hm hm'
      repeat' (first|refine X_q ?_|refine X_nil ?_|refine W_seqk (fun K hK=>?_)|refine W_seqr ?_|refine W_skip ?_|refine W_block ?_|refine W_tt ?_|go_step)
      refine W_drawσ [(0,0),(1,0),(2,0),(3,0),(4,0),(5,0),(6,0),(7,0),(8,0),(9,0),(10,0),(11,0),(12,0),(13,0),(14,0),(15,0),(16,0),(17,0),(18,0),(19,0),(20,0),(21,0),(22,0),(23,0),(24,0),(25,0),(26,0),(27,0),(28,0)] (by kernel_rfl) (by kernel_rfl) ?_
      repeat' (first|refine X_q ?_|refine X_g ?_|refine X_gf ?_|refine X_niln ?_|refine X_nil ?_|refine W_seqk (fun K hK=>?_)|refine W_seqr ?_|refine W_ret ?_|refine W_tt ?_|go_step)
      exact Body_ret hd ⟨by rw [HM.out],by simp⟩
    · by_cases hx4:x < 4
      · have hbr:inB x 0 3 = true:=by simp [inB];omega
        have hx4n:¬ 4≤x:=by omega
        by_cases hk0:(0:Int) < k
        · obtain ⟨y,b',o',HY,hb',-,d0⟩:=HR.out (k - 1) (by omega)
          cases hb'
          have hp:prevAt l k = some y:=by rw [prevAt,if_neg (by omega)];exact HY.out
          rw [hp] at hm
          have hk0n:0 < k:=by omega
          have hk1:(k:Int) - 1 = ((k - 1:Nat):Int):=by omega
          have hki2:((k - 1:Nat):Int) < l.length:=by omega
          by_cases hyx:y < x
          · have hm':brokersFrom (some x) (l.drop (k + 1)) = brokersB l:=by simpa [hbr,hyx] using hm
            have HM:=Lib.hid hm'
            have hnx:¬ x≤y:=by omega
            clear hm hm' hp
            repeat' (first|refine X_q ?_|refine X_nil ?_|refine W_seqk (fun K hK=>?_)|refine W_seqr ?_|refine W_skip ?_|refine W_block ?_|refine W_tt ?_|go_step)
            refine W_drawσ [(0,0),(1,0),(2,0),(3,0),(4,0),(5,0),(6,0),(7,0),(8,0),(9,0),(10,0),(11,0),(12,0),(13,0),(14,0),(15,0),(16,0),(17,0),(18,0),(19,0),(20,0),(21,0),(22,0),(23,0),(24,0),(25,0),(26,0),(27,0),(28,0)] (by kernel_rfl) (by kernel_rfl) ?_
            repeat' (first|refine X_gt ?_|refine X_q ?_|refine X_niln ?_|refine X_nil ?_|refine W_seqr ?_|refine W_skip ?_|refine W_ff ?_|go_step)
            exact ⟨_,_,rfl,hd,hA,n - 1,by omega,k + 1,trivial,by omega,by simp,by rw [Hpn.out];exact HM.out⟩
          · have hm':brokersB l = false:=by simpa [hyx] using hm.symm
            have HM:=Lib.hid hm'
            have hnx:x≤y:=by omega
            clear hm hm' hp
            repeat' (first|refine X_q ?_|refine X_nil ?_|refine W_seqk (fun K hK=>?_)|refine W_seqr ?_|refine W_skip ?_|refine W_block ?_|refine W_tt ?_|go_step)
            refine W_drawσ [(0,0),(1,0),(2,0),(3,0),(4,0),(5,0),(6,0),(7,0),(8,0),(9,0),(10,0),(11,0),(12,0),(13,0),(14,0),(15,0),(16,0),(17,0),(18,0),(19,0),(20,0),(21,0),(22,0),(23,0),(24,0),(25,0),(26,0),(27,0),(28,0)] (by kernel_rfl) (by kernel_rfl) ?_
            repeat' (first|refine X_gt ?_|refine X_q ?_|refine X_niln ?_|refine X_nil ?_|refine W_seqk (fun K hK=>?_)|refine W_seqr ?_|refine W_ret ?_|refine W_tt ?_|go_step)
            exact Body_ret hd ⟨by rw [HM.out],by simp⟩
        · have hp:prevAt l k = none:=by rw [prevAt,if_pos (by omega)]
          rw [hp] at hm
          have hm':brokersFrom (some x) (l.drop (k + 1)) = brokersB l:=by simpa [hbr] using hm
          have HM:=Lib.hid hm'
          have hk0n:¬ 0 < k:=by omega
          clear hm hm' hp
          repeat' (first|refine X_q ?_|refine X_nil ?_|refine W_seqk (fun K hK=>?_)|refine W_seqr ?_|refine W_skip ?_|refine W_block ?_|refine W_tt ?_|go_step)
          refine W_drawσ [(0,0),(1,0),(2,0),(3,0),(4,0),(5,0),(6,0),(7,0),(8,0),(9,0),(10,0),(11,0),(12,0),(13,0),(14,0),(15,0),(16,0),(17,0),(18,0),(19,0),(20,0),(21,0),(22,0),(23,0),(24,0),(25,0),(26,0),(27,0),(28,0)] (by kernel_rfl) (by kernel_rfl) ?_
          repeat' (first|refine X_gt ?_|refine X_q ?_|refine X_g ?_|refine X_gf ?_|refine X_niln ?_|refine X_nil ?_|refine W_seqr ?_|refine W_skip ?_|refine W_ff ?_|go_step)
          exact ⟨_,_,rfl,hd,hA,n - 1,by omega,k + 1,trivial,by omega,by simp,by rw [Hpn.out];exact HM.out⟩
      · have hbf:inB x 0 3 = false:=by simp [inB];omega
        have hx4n:4≤x:=by omega
        have hm':brokersB l = false:=by rw [← hm,hbf];simp
        have HM:=Lib.hid hm'
        clear hm hm'
        repeat' (first|refine X_q ?_|refine X_nil ?_|refine W_seqk (fun K hK=>?_)|refine W_seqr ?_|refine W_skip ?_|refine W_block ?_|refine W_tt ?_|go_step)
        refine W_drawσ [(0,0),(1,0),(2,0),(3,0),(4,0),(5,0),(6,0),(7,0),(8,0),(9,0),(10,0),(11,0),(12,0),(13,0),(14,0),(15,0),(16,0),(17,0),(18,0),(19,0),(20,0),(21,0),(22,0),(23,0),(24,0),(25,0),(26,0),(27,0),(28,0)] (by kernel_rfl) (by kernel_rfl) ?_
        repeat' (first|refine X_gt ?_|refine X_q ?_|refine X_g ?_|refine X_gf ?_|refine X_niln ?_|refine X_nil ?_|refine W_seqk (fun K hK=>?_)|refine W_seqr ?_|refine W_ret ?_|refine W_tt ?_|go_step)
        exact Body_ret hd ⟨by rw [HM.out],by simp⟩
  · obtain rfl:k = l.length:=by omega
    rw [List.drop_length] at hm;simp only [brokersFrom] at hm
    have HM:=Lib.hid hm
    clear hm
    repeat' (first|refine X_q ?_|refine X_nil ?_|refine W_seqk (fun K hK=>?_)|refine W_seqr ?_|refine W_ret ?_|refine W_exit ?_|refine W_ff ?_|go_step)
    exact Body_ret hd ⟨by rw [← HM.out],by simp⟩
theorem rints_calls (l m:List Int) (u v:Value) (w:World) (hl:RdI w u l) (hm:RdI w v m):Pure Tryz.prog 70 #[u,v] w (.bool (decide (l = m))):=by
  obtain ⟨A0,c,rfl,hc,hcm,HR⟩:=hl.int
  obtain ⟨A1,c1,rfl,hc1,hcm1,HR1⟩:=hm.int
  clear hl hm
  have HR:=Lib.hid HR
  have HR1:=Lib.hid HR1
  by_cases heq:l.length = m.length
  · have hb:((l.length:Int) != m.length) = false:=by simp [heq]
    have HQ:=Lib.hid heq
    clear heq
    refine Fn_of Tryz.func70 rfl (Nat.le_of_ble_eq_true rfl) ?_;intro A hd hA;simp only [ix,Nat.reduceAdd];replace hA:A.tmps.size = 26:=hA
    repeat' (first|refine X_q ?_|refine X_nil ?_|refine W_seqk (fun K hK=>?_)|refine W_seqr ?_|refine W_skip ?_|refine W_block ?_|refine W_ff ?_|go_step)
    refine W_loops [0,1,5] (fun n vs w'=>∃ k:Nat,w' = w∧k + n = l.length∧vs = [.slice A0 l.length c,.slice A1 m.length c1,.int .i64 k]∧l.take k = m.take k) l.length hd hA (by decide) ⟨0,rfl,by omega,by simp,by simp⟩ ?_
    clear hd hA A;intro n vs B w' hd hA _ ⟨k,hw,hk,hvs,hm⟩;subst hw hvs
    simp only [List.zip_cons_cons,List.zip_nil_right,List.zip_nil_left]
    have HM:=Lib.hid hm
    clear hm
    by_cases hlt:k < l.length
    · obtain ⟨x,b,o,HX,rfl,hb,c0⟩:=HR.out k hlt
      have hlt2:k < m.length:=by rw [← HQ.out];exact hlt
      obtain ⟨y,b1,o1,HY,rfl,hb1,d0⟩:=HR1.out k hlt2
      have hki:(k:Int) < l.length:=by omega
      have hki2:(k:Int) < m.length:=by omega
      have HXX:=Lib.hid HX
      have HYY:=Lib.hid HY
      clear HX HY
      by_cases hxy:x = y
      · have hxb:(x != y) = false:=by simp [hxy]
        have HE:=Lib.hid hxy
        clear hxy
        repeat' (first|refine X_q ?_|refine X_nil ?_|refine W_seqk (fun K hK=>?_)|refine W_seqr ?_|refine W_skip ?_|refine W_block ?_|refine W_tt ?_|go_step)
        refine W_drawσ [(0,0),(1,0),(2,0),(3,0),(4,0),(5,0),(6,0),(7,0),(8,0)] (by kernel_rfl) (by kernel_rfl) ?_
        repeat' (first|refine X_q ?_|refine X_niln ?_|refine X_nil ?_|refine W_seqr ?_|refine W_skip ?_|refine W_ff ?_|go_step)
        exact ⟨_,_,rfl,hd,hA,n - 1,by omega,k + 1,trivial,by omega,by simp,by rw [take_snoc HXX.out,take_snoc HYY.out,HM.out,HE.out]⟩
      · have hxb:(x != y) = true:=by simp [hxy]
        have HE:=Lib.hid hxy
        clear hxy
        repeat' (first|refine X_q ?_|refine X_nil ?_|refine W_seqk (fun K hK=>?_)|refine W_seqr ?_|refine W_skip ?_|refine W_block ?_|refine W_tt ?_|go_step)
        refine W_drawσ [(0,0),(1,0),(2,0),(3,0),(4,0),(5,0),(6,0),(7,0),(8,0)] (by kernel_rfl) (by kernel_rfl) ?_
        repeat' (first|refine X_q ?_|refine X_niln ?_|refine X_nil ?_|refine W_seqk (fun K hK=>?_)|refine W_seqr ?_|refine W_ret ?_|refine W_tt ?_|go_step)
        exact Body_ret hd ⟨by rw [decide_eq_false (fun h=>by subst h;have:=HXX.out.symm.trans HYY.out;cases this;exact HE.out rfl)],by simp⟩
    · obtain rfl:k = l.length:=by omega
      repeat' (first|refine X_q ?_|refine X_nil ?_|refine W_seqk (fun K hK=>?_)|refine W_seqr ?_|refine W_ret ?_|refine W_exit ?_|refine W_ff ?_|go_step)
      exact Body_ret hd ⟨by rw [decide_eq_true (by have:=HM.out;rwa [List.take_length,HQ.out,List.take_length] at this)],by simp⟩
  · have hb:((l.length:Int) != m.length) = true:=by simp;omega
    have hne:l ≠ m:=fun h=>heq (by rw [h])
    have HN:=Lib.hid hne
    clear heq hne
    refine Fn_of Tryz.func70 rfl (Nat.le_of_ble_eq_true rfl) ?_;intro A hd hA;simp only [ix,Nat.reduceAdd];replace hA:A.tmps.size = 26:=hA
    repeat' (first|refine X_q ?_|refine X_nil ?_|refine W_seqk (fun K hK=>?_)|refine W_seqr ?_|refine W_ret ?_|refine W_tt ?_|go_step)
    exact Body_ret hd ⟨by rw [decide_eq_false HN.out],by simp⟩
theorem last7_calls (l:List Ent) (v:Value) (w:World) (hl:RdE w v l):Pure Tryz.prog 74 #[v] w (.int .i64 (lastE l)):=by
  obtain ⟨A0,c,rfl,hc,hcm,HR⟩:=hl.ent
  clear hl
  by_cases h0:l.length = 0
  · have h0b:((l.length:Int) == 0) = true:=by rw [h0];rfl
    have hl:lastE l = 0:=by rw [List.length_eq_zero_iff] at h0;subst h0;rfl
    rw [hl]
    refine Fn_of Tryz.func74 rfl (Nat.le_of_ble_eq_true rfl) ?_;intro A hd hA;simp only [ix,Nat.reduceAdd];replace hA:A.tmps.size = 13:=hA
    repeat' (first|refine X_q ?_|refine X_nil ?_|refine W_seqk (fun K hK=>?_)|refine W_seqr ?_|refine W_ret ?_|refine W_tt ?_|go_step)
    exact Body_ret hd ⟨rfl,by simp⟩
  · have h0b:((l.length:Int) == 0) = false:=beq_false_of_ne (by omega)
    obtain ⟨e,b,o,HE,rfl,hb,c0,-⟩:=HR.out (l.length - 1) (by omega)
    have hk1:(l.length:Int) - 1 = ((l.length - 1:Nat):Int):=by omega
    have hki2:((l.length - 1:Nat):Int) < l.length:=by omega
    have hl:lastE l = e.ep:=by unfold lastE;rw [List.getLast?_eq_getElem?,HE.out];rfl
    rw [hl]
    clear hl
    refine Fn_of Tryz.func74 rfl (Nat.le_of_ble_eq_true rfl) ?_;intro A hd hA;simp only [ix,Nat.reduceAdd];replace hA:A.tmps.size = 13:=hA
    repeat' (first|refine X_q ?_|refine X_nil ?_|refine W_seqk (fun K hK=>?_)|refine W_seqr ?_|refine W_ret ?_|refine W_skip ?_|refine W_ff ?_|go_step)
    exact Body_ret hd ⟨rfl,by simp⟩
theorem fits7_calls (l:List Ent) (v:Value) (n ep:Int) (w:World) (hl:RdE w v l) (hn:0≤n):Pure Tryz.prog 80 #[v,.int .i64 n,.int .i64 ep] w (.bool (fitsE l n ep)):=by
  obtain ⟨A0,c,rfl,hc,hcm,HR⟩:=hl.ent
  clear hl
  by_cases h0:n = 0
  · have h0b:(n == 0) = true:=by simp [h0]
    have hl:fitsE l n ep = (ep == 0):=by
      subst h0;unfold fitsE
      rw [decide_eq_true (by omega)]
      simp only [Int.toNat_zero,List.take_zero,Bool.true_and]
      by_cases h:ep = 0
      · subst h;rfl
      · rw [beq_false_of_ne h];exact beq_false_of_ne (fun h2=>h h2.symm)
    rw [hl]
    clear h0 hl
    refine Fn_of Tryz.func80 rfl (Nat.le_of_ble_eq_true rfl) ?_;intro A hd hA;simp only [ix,Nat.reduceAdd];replace hA:A.tmps.size = 25:=hA
    repeat' (first|refine X_q ?_|refine X_nil ?_|refine W_seqk (fun K hK=>?_)|refine W_seqr ?_|refine W_ret ?_|refine W_tt ?_|go_step)
    exact Body_ret hd ⟨rfl,by simp⟩
  · have h0b:(n == 0) = false:=beq_false_of_ne h0
    by_cases h1:n≤l.length
    · obtain ⟨e,b,o,HE,rfl,hb,c0,-⟩:=HR.out (n.toNat - 1) (by omega)
      have hk1:n - 1 = ((n.toNat - 1:Nat):Int):=by omega
      have hki2:((n.toNat - 1:Nat):Int) < l.length:=by omega
      have hl:fitsE l n ep = (e.ep == ep):=by
        unfold fitsE
        rw [decide_eq_true h1,Bool.true_and]
        have:lastE (l.take n.toNat) = e.ep:=by
          unfold lastE
          rw [List.getLast?_eq_getElem?,List.length_take,Nat.min_eq_left (by omega),List.getElem?_take,if_pos (by omega),HE.out];rfl
        rw [this]
      rw [hl]
      clear hl
      refine Fn_of Tryz.func80 rfl (Nat.le_of_ble_eq_true rfl) ?_;intro A hd hA;simp only [ix,Nat.reduceAdd];replace hA:A.tmps.size = 25:=hA
      repeat' (first|refine X_gt ?_|refine X_q ?_|refine X_nil ?_|refine W_seqk (fun K hK=>?_)|refine W_seqr ?_|refine W_ret ?_|refine W_skip ?_|refine W_ff ?_|go_step)
      exact Body_ret hd ⟨rfl,by simp⟩
    · have hl:fitsE l n ep = false:=by unfold fitsE;rw [decide_eq_false h1,Bool.false_and]
      rw [hl]
      refine Fn_of Tryz.func80 rfl (Nat.le_of_ble_eq_true rfl) ?_;intro A hd hA;simp only [ix,Nat.reduceAdd];replace hA:A.tmps.size = 25:=hA
      repeat' (first|refine X_q ?_|refine X_g ?_|refine X_gf ?_|refine X_nil ?_|refine W_seqk (fun K hK=>?_)|refine W_seqr ?_|refine W_ret ?_|refine W_skip ?_|refine W_ff ?_|go_step)
      exact Body_ret hd ⟨rfl,by simp⟩
end Go.Ws
