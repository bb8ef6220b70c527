/- Lemmas for the statements of this layer (joined texts); no condition. -/
import Derived.Test.YtlpjgegbdmkmdaaGreatBb13
import Derived.Test.YtlpjgegbdmkmdaaGreatBb16
import Derived.Test.YtlpjgegbdmkmdaaGreatBb20
import Derived.Test.YtlpjgegbdmkmdaaGreatBb21
import Derived.Test.YtlpjgegbdmkmdaaGreatBb26
import Derived.Test.YtlpjgegbdmkmdaaGreatBb27
namespace Go.Ws
open Go Go.RowKit Go.Proofs
set_option maxHeartbeats 2000000
set_option maxRecDepth 100000
set_option linter.unusedVariables false
set_option linter.unusedSimpArgs false
theorem altz {k:Nat} (hk:k < ([Value.int .i64 0,.int .i64 0,.int .i64 0,.slice none 0 0]:List Value).length):([Value.int .i64 0,.int .i64 0,.int .i64 0,.slice none 0 0]:List Value)[k]? = some (#[Value.int .i64 0,.int .i64 0,.int .i64 0,.slice none 0 0].getD k undef):=by
  simp only [List.length_cons,List.length_nil] at hk
  obtain rfl|rfl|rfl|rfl:k = 0∨k = 1∨k = 2∨k = 3:=by omega
  all_goals rfl
theorem propose_rep {w : World} {b : Nat} {F0 : Nat → Prop} {s : RepS} (h : Rep w b F0 s) (hs : s.least ≠ 0) (hct : brokersB s.counts = true) {u : Value} {l : List Int} (hu : RdI w u l) (hul : l.length ≤ 100000) (hne : ∀ k, u.ownBlock = some k → l = [] ∨ ¬ F0 k) :
    Ret Tryz.prog 24 #[.pointer (some ⟨b,0,none⟩),u] w fun r w'=>(∃ u',r = .tuple #[(s.alter l).v u',.int .i64 (s.propNo l)]∧RdI w' u' (s.alter l).isr)∧Mod F0 w w'∧Rep w' b (fun k=>F0 k∨w.heap.size≤k) (s.prop l):=by
  refine h.tight' (R:=fun r w'=>∃ u',r = .tuple #[(s.alter l).v u',.int .i64 (s.propNo l)]∧RdI w' u' (s.alter l).isr) ?_
  intro F h hFF' hFW
  have hFb:=Lib.hid h.own
  have HUN0:Hid (∀ k,u.ownBlock = some k→l ≠ []→k ≠ b):=Lib.hid (fun k hk hl e=>(hne k hk).elim hl (fun h1=>h1 (hFF' k (by subst e;exact hFb.out))))
  clear hne hFF'
  have HCT:=Lib.hid hct
  clear hct
  have HFW:=Lib.hid hFW
  clear hFW
  have HP0:=h
  obtain ⟨uL,uI,uC,h,hf⟩:=h.ex
  have H0:=h
  have HFF:=Lib.hid hf
  obtain ⟨A1,c1,rfl,hc1,hc2,-⟩:=h.rdL.ent
  obtain ⟨A2,c2,rfl,-⟩:=h.ri.int
  obtain ⟨A3,c3,rfl,-⟩:=h.rc.int
  have HLT:=Lib.hid h.lt
  have hbw:=h.blk.lt
  have HP:=Lib.hid HP0
  have H:=Lib.hid H0
  have HU:=Lib.hid hu
  obtain ⟨A0,c0,rfl,hc,hcm,-⟩:=hu.int
  clear h hf H0 HP0 hu
  refine Fn_ofD Tryz.func24 rfl (Nat.le_of_ble_eq_true rfl) ?_;intro A hd hA;simp only [ix,Nat.reduceAdd];replace hA:A.tmps.size = 94:=hA
  repeat' (first|refine X_nil ?_|refine W_seqk (fun K hK=>?_)|refine W_seqr ?_|(refine X_s (fun x K hK=>?_);go_simp;refine hK _ _ (Ext.alloc _ _) ?_;clear hK K;refine X_al x ?_;generalize (World.later _ x).heap.size = bn;intro yn hn1 hn2 hn3 hn4 hn5;clear x)|go_step)
  rename_i bv yv p1 p2 p3 p4 p5
  refine X_defc (be:=bn) hd hA (fun W hE=>by unfold execOp caughtD;go_simp) ?_;have hbe:=Lib.hid (Blk.one hn5.out);clear hd hA A;intro A hd hA;obtain ⟨be,hbe0⟩:∃ be:Nat,be = bn:=⟨_,rfl⟩;subst hbe0
  have hE:Ext w ((w.later yv).later yn):=by simp
  have HE:=Lib.hid hE
  have HBE:=Lib.hid hbe.out
  have HBV:=Lib.hid ((Blk.new p5.out).later yn.ext)
  have hne:bv ≠ be:=by omega
  have hbvw:w.heap.size≤bv:=by omega
  have hbew:w.heap.size≤be:=by have:=yv.ext.size;omega
  have HP1:=Lib.hid (HP.out.later hE)
  have H1:=Lib.hid (H.out.later hE)
  have HU1:=Lib.hid (HU.out.later hE)
  generalize World.later _ yn = W at *
  clear hbe hE p1 p2 p3 p4 p5 hn1 hn2 hn3 hn4 hn5 yn yv
  obtain ⟨hlt,d0,d1,d2,d3,d8,d9,d10,d11,d12,d13,d14⟩:=H1.out.cells
  have BRK:Hid (Pure Tryz.prog 62 #[.slice A0 l.length c0] W (.bool (brokersB l))):=Lib.hid (brokers_calls l _ W HU1.out)
  have CON:Hid (∀ x,Pure Tryz.prog 63 #[.slice A0 l.length c0,.int .i64 x] W (.bool (decide (x ∈ l)))):=Lib.hid (fun x=>contains_calls l _ x W HU1.out)
  by_cases q1:brokersB l = true
  · rw [q1] at BRK
    by_cases q2:s.self ∈ l
    · have q2b:decide (s.self ∈ l) = true:=by simpa using q2
      have hmay:s.propMay l = true:=by unfold RepS.propMay;rw [q1,q2b];rfl
      by_cases q3:s.role = 3
      · have q3b:(s.role == 3) = true:=by simp [q3]
        have HBK:=Lib.hid (brokersB_bks q1)
        have HLN:Hid (l ≠ []):=Lib.hid (fun e=>by rw [e] at q2;cases q2)
        have HUN:Hid (∀ k,(Value.slice A0 l.length c0).ownBlock = some k→k ≠ b):=Lib.hid (fun k hk=>HUN0.out k hk HLN.out)
        have hl4:=brokersB_len q1
        have HMAY:=Lib.hid hmay
        have HR3:=Lib.hid q3
        obtain ⟨A9,c9,hA9,-,-,HC⟩:=HU1.out.int
        cases hA9
        clear q1 q3 hmay
        repeat' (first|refine X_pure Tryz.func33 (none_of HP1.out hs) ?_|(refine X_pure Tryz.func50 (must_ok 1) ?_)|refine X_pure Tryz.func62 (BRK.out) ?_|(refine X_pure Tryz.func63 (CON.out _) ?_)|(refine X_pure Tryz.func50 (must_ok 2) ?_)|(refine X_pure Tryz.func50 (must_ok 211) ?_)|refine X_gt ?_|refine X_q ?_|refine X_nil ?_|refine W_seqk (fun K hK=>?_)|refine W_seqr ?_|refine W_block ?_|go_step)
        refine W_loops [0,1,4,5,29,30,31] (fun m vs w'=>∃ k:Nat,w' = W∧k + m = l.length∧vs = [.pointer (some ⟨b,0,none⟩),.slice A0 l.length c0,.pointer (some ⟨bv,0,none⟩),.pointer (some ⟨be,0,none⟩),.slice A0 l.length c0,.int .i64 l.length,.int .i64 k]∧(l.drop k).all s.inStep1 = l.all s.inStep1) l.length hd hA (by decide) ⟨0,rfl,by omega,by simp,by simp⟩ ?_
        clear hd hA A;intro m vs B w' hd hA _ ⟨k,hw,hkm,hvs,hst⟩;subst hw hvs
        have HM:=Lib.hid hst
        clear hst
        simp only [List.zip_cons_cons,List.zip_nil_right,List.zip_nil_left]
        by_cases hlt2:k < l.length
        · obtain ⟨x,b0,o,HX,rfl,hb0,c00⟩:=HC.out k hlt2
          have hki:(k:Int) < l.length:=by omega
          obtain ⟨hx0,hx4⟩:=HBK.out x (mem_of_get HX.out)
          have HDR:=Lib.hid (drop_at HX.out)
          clear HX
          have hkn:=H1.out.knownAt x.toNat (by omega)
          by_cases mm:x ∈ s.isr
          · have mb:decide (x ∈ s.isr) = true:=by simpa using mm
            have HIS:Hid (s.inStep1 x = true):=Lib.hid (by unfold RepS.inStep1;rw [mb];rfl)
            clear mm
            repeat' (first|refine X_q ?_|refine X_nil ?_|refine W_seqk (fun K hK=>?_)|refine W_seqr ?_|refine W_skip ?_|refine W_block ?_|refine W_tt ?_|go_step)
            refine W_drawσ [(0,0),(1,0),(2,0),(3,0),(4,0),(5,0),(6,1),(7,0),(8,0),(9,0),(10,0),(11,0),(12,0),(13,0),(14,0),(15,0),(16,0),(17,0),(18,0),(19,0),(20,0),(21,0),(22,0),(23,0),(24,0),(25,0),(26,0),(27,1)] (by kernel_rfl) (by kernel_rfl) ?_
            repeat' (first|(refine X_pure1 Tryz.func63 (fun y=>contains_calls s.isr _ x _ (H1.out.ri.later y.ext).rd) ?_)|(refine X_pure1 Tryz.func50 (fun _=>must_ok 213) ?_)|refine X_q ?_|refine X_g ?_|refine X_gf ?_|refine X_niln ?_|refine X_nil ?_|refine W_seqr ?_|go_step)
            exact ⟨_,_,rfl,hd,hA,m - 1,by omega,k + 1,by simp,by omega,by simp,by rw [← HM.out,HDR.out,List.all_cons,HIS.out,Bool.true_and]⟩
          · have mb:decide (x ∈ s.isr) = false:=by simpa using mm
            clear mm
            by_cases z:s.known x.toNat < (if s.high < s.beg then s.beg else s.high)
            · have HIS:Hid (s.inStep1 x = false):=Lib.hid (by unfold RepS.inStep1;rw [mb,Bool.false_or];unfold gmax;exact decide_eq_false (by omega))
              have hall:s.inStep l = false:=by
                show l.all s.inStep1 = false
                rw [← HM.out,HDR.out,List.all_cons,HIS.out];rfl
              have hno:s.propNo l = 213:=by unfold RepS.propNo;rw [if_neg (by rw [HMAY.out];decide),if_neg (by rw [HR3.out];decide),if_pos hall]
              have hal:s.alter l = ⟨0,0,0,[]⟩:=by unfold RepS.alter;rw [if_neg (by rw [hno];decide)]
              have hpr:s.prop l = s:=by unfold RepS.prop;rw [if_neg (by rw [hno];decide)]
              have HNO:=Lib.hid hno
              have HAL:=Lib.hid hal
              have HPR:=Lib.hid hpr
              have zb:decide ((if s.high < s.beg then s.beg else s.high)≤s.known x.toNat) = false:=decide_eq_false (by omega)
              have z2:¬ (if s.high < s.beg then s.beg else s.high)≤s.known x.toNat:=by omega
              clear hno hal hpr hall
              repeat' (first|refine X_q ?_|refine X_nil ?_|refine W_seqk (fun K hK=>?_)|refine W_seqr ?_|refine W_skip ?_|refine W_block ?_|refine W_tt ?_|go_step)
              refine W_die [(0,0),(1,0),(2,0),(3,0),(4,0),(5,0),(6,1),(7,0),(8,0),(9,0),(10,0),(11,0),(12,0),(13,0),(14,0),(15,0),(16,0),(17,0),(18,0),(19,0),(20,0),(21,0),(22,0),(23,0),(24,0),(25,0),(26,0)] 27 (by kernel_rfl) (by kernel_rfl) ?_
              repeat' (first|(refine X_pure1 Tryz.func63 (fun y=>contains_calls s.isr _ x _ (H1.out.ri.later y.ext).rd) ?_)|refine X_gt ?_|refine X_q ?_|refine X_niln ?_|fail)
              refine Dies_call (lv:=[.bool false,.int .i64 213]) Tryz.func50 (must_no 213) (fun c w' hC=>?_) (hlv:=by first|rfl|(exact congrArg (fun x=>[Value.bool x,Value.int .i64 213]) zb)|(trace_state;sorry))
              obtain ⟨rfl,hE4⟩:=hC
              refine End_no2r (cs:=[Value.int .i64 0,.int .i64 0,.int .i64 0,.slice none 0 0]) hd (HBE.out.later hE4) (HBV.out.later hE4) (fun k hk=>altz hk) hne (fun W1 hM=>?_) Tryz.underlying79
              have hM':=Ext.fresh (Ext.trans HE.out hE4) hM (fun k hk=>by subst hk;exact hbew)
              exact ⟨⟨_,by rw [HNO.out,HAL.out],by rw [HAL.out];exact Rd.nil _⟩,hM'.mono (fun _ _ h=>h.elim),by rw [HPR.out];exact (HP.out.later hM').mono (fun k hk=>.inl hk)⟩
            · have HIS:Hid (s.inStep1 x = true):=Lib.hid (by unfold RepS.inStep1;rw [mb,Bool.false_or];unfold gmax;exact decide_eq_true (by omega))
              have zb:decide ((if s.high < s.beg then s.beg else s.high)≤s.known x.toNat) = true:=decide_eq_true (by omega)
              have z2:(if s.high < s.beg then s.beg else s.high)≤s.known x.toNat:=by omega
              repeat' (first|refine X_q ?_|refine X_nil ?_|refine W_seqk (fun K hK=>?_)|refine W_seqr ?_|refine W_skip ?_|refine W_block ?_|refine W_tt ?_|go_step)
              refine W_drawσ [(0,0),(1,0),(2,0),(3,0),(4,0),(5,0),(6,1),(7,0),(8,0),(9,0),(10,0),(11,0),(12,0),(13,0),(14,0),(15,0),(16,0),(17,0),(18,0),(19,0),(20,0),(21,0),(22,0),(23,0),(24,0),(25,0),(26,0),(27,1)] (by kernel_rfl) (by kernel_rfl) ?_
              repeat' (first|(refine X_pure1 Tryz.func63 (fun y=>contains_calls s.isr _ x _ (H1.out.ri.later y.ext).rd) ?_)|(refine X_pure1 Tryz.func50 (fun _=>must_ok 213) ?_)|refine X_gt ?_|refine X_q ?_|refine X_niln ?_|refine X_nil ?_|refine W_seqr ?_|go_step)
              exact ⟨_,_,rfl,hd,hA,m - 1,by omega,k + 1,by simp,by omega,by simp,by rw [← HM.out,HDR.out,List.all_cons,HIS.out,Bool.true_and]⟩
        · have hki:¬ (k:Int) < l.length:=by omega
          have hall:s.inStep l = true:=by
            show l.all s.inStep1 = true
            rw [← HM.out,List.drop_eq_nil_of_le (by omega)];rfl
          have hno:s.propNo l = 0:=by unfold RepS.propNo;rw [if_neg (by rw [HMAY.out];decide),if_neg (by rw [HR3.out];decide),if_neg (by rw [hall];decide)]
          have hal:s.alter l = ⟨s.self,s.epoch,s.version,l⟩:=by unfold RepS.alter;rw [if_pos hno]
          have hpr:s.prop l = { s with counts:=joinB s.counts l }:=by unfold RepS.prop;rw [if_pos hno]
          have HNO:=Lib.hid hno
          have HAL:=Lib.hid hal
          have HPR:=Lib.hid hpr
          clear hno hal hpr hall
          have hl0:0 < l.length:=List.length_pos_iff.2 HLN.out
          repeat' (first|refine X_q ?_|refine X_nil ?_|refine W_seqk (fun K hK=>?_)|refine W_seqr ?_|refine W_exit ?_|refine W_ff ?_|go_step)
          refine X_ret Tryz.func64 (joined_calls s.counts l _ _ _ H1.out.rc.rd HU1.out (brokersB_bks HCT.out) HBK.out (brokersB_len HCT.out) hl4 hl0) (fun r W2 hR=>?_)
          obtain ⟨hE2,hJ,hJn⟩:=hR
          obtain ⟨A5,c5,rfl,-⟩:=hJ.int
          have HJ:=Lib.hid hJ
          have HJN:=Lib.hid hJn
          have H2:=Lib.hid (H1.out.later hE2)
          have HE2:=Lib.hid (Ext.trans HE.out hE2)
          have HBE2:=Lib.hid (HBE.out.later hE2)
          have HBV2:=Lib.hid (HBV.out.later hE2)
          have HU2:=Lib.hid (HU1.out.later hE2)
          have hsW:=HE.out.size
          have hbvl:=HBV.out.lt
          have hbel:=HBE.out.lt
          clear hE2 hJ hJn hlt d0 d1 d2 d3 d8 d9 d10 d11 d12 d13 d14 HBE HBV HU1 H1
          obtain ⟨hlt,d0,d1,d2,d3,d8,d9,d10,d11,d12,d13,d14⟩:=H2.out.cells
          repeat' (first|refine X_q ?_|fail)
          refine X_store (off:=3) H2.out.blk (fun W3 hM3 hB3=>?_)
          have HA3:=Lib.hid (H2.out.putC hM3 hB3 (HJ.out.mod hM3 (fun k hk e=>by subst e;have:=HJN.out _ hk;omega)) (fun hk=>by have:=HJN.out _ hk;omega) (fun k hk h2=>by have:=HLT.out k (.inr (.inl hk));have:=HJN.out k h2;omega))
          have HM3:Hid (Mod (· = b) w W3):=Lib.hid (Mod.trans HE2.out hM3 (fun _ _ h=>h.elim) (fun _ _ h=>h))
          have HBE3:=Lib.hid (HBE2.out.mod hM3 (fun h=>by omega))
          have HBV3:=Lib.hid (HBV2.out.mod hM3 (fun h=>by omega))
          have HU3:=Lib.hid (HU2.out.mod hM3 (fun k hk e=>HUN.out k hk e))
          clear hM3 hB3 HBE2 HBV2 HU2 H2 hlt d0 d1 d2 d3 d8 d9 d10 d11 d12 d13 d14
          obtain ⟨hlt,d0,d1,d2,d3,d8,d9,d10,d11,d12,d13,d14⟩:=HA3.out.cells
          obtain ⟨G,hG⟩:∃ G:Nat→Prop,G = (fun k=>k = bv∨k = be):=⟨_,rfl⟩
          have hGb:¬ G b:=by subst hG;rintro (h|h) <;> omega
          have HGv:Hid (G bv):=Lib.hid (by subst hG;exact .inl rfl)
          have HGe:Hid (G be):=Lib.hid (by subst hG;exact .inr rfl)
          clear hG
          repeat' (first|refine X_nil ?_|refine W_seqk (fun K hK=>?_)|go_step)
          refine W_drawG G [(0,0),(1,0),(2,0),(3,0),(4,0),(5,0),(6,0),(7,0),(8,0),(9,0),(10,0),(11,0),(12,0),(13,0),(14,1),(15,2),(16,0),(17,2),(18,0),(19,2),(20,0),(21,2),(22,0),(23,2),(24,2)] (by kernel_rfl) (by kernel_rfl) ?_
          repeat' (first|refine Y_q ?_|fail)
          refine Y_ret Tryz.func34 (R:=fun v w'=>Ext W3 w'∧OwnI w' v l∧∀ k,v.ownBlock = some k→W3.heap.size≤k) (fun x=>Ret.mono (cloneI_calls (HU3.out.later x.2) (by omega)) (fun v w' hR=>⟨⟨Ext.trans x.2 hR.1,hR.2.1,fun k hk=>Nat.le_trans x.2.size (hR.2.2 k hk)⟩,hR.1.mono (fun _ _ h=>h.elim)⟩)) (fun r W4 hR=>?_)
          obtain ⟨hE4,hO4,hN4⟩:=hR
          obtain ⟨A6,m6,c6,rfl⟩:=own_slice hO4
          have HO4:=Lib.hid hO4
          have HN4:=Lib.hid hN4
          have HE4:=Lib.hid hE4
          have HBV:=Lib.hid (HBV3.out.later hE4)
          have HBE:=Lib.hid (HBE3.out.later hE4)
          have hs3:=HM3.out.size
          have hbv3:=HBV3.out.lt
          have hbe3:=HBE3.out.lt
          have HMs:Hid (Mod (fun k=>k = bv∨k = be) W4 W4):=Lib.hid (Mod.refl _ _)
          clear hE4 hO4 hN4 HBV3 HBE3 HU3 hlt d0 d1 d2 d3 d8 d9 d10 d11 d12 d13 d14
          skip
          refine Y_store (off:=0) HBV.out HGv.out (fun W5 hM5 hG5 hB5=>?_)
          replace HBV:=Lib.hid hB5
          replace HBE:=Lib.hid (HBE.out.mod hM5 (fun h=>by omega))
          replace HMs:=Lib.hid (Mod.trans HMs.out hM5 (fun _ _ h=>h) (fun k _ h=>.inl h))
          clear hM5 hG5 hB5
          repeat' (first|refine Y_q ?_|fail)
          refine Y_store (off:=0) HBV.out HGv.out (fun W5 hM5 hG5 hB5=>?_)
          replace HBV:=Lib.hid hB5
          replace HBE:=Lib.hid (HBE.out.mod hM5 (fun h=>by omega))
          replace HMs:=Lib.hid (Mod.trans HMs.out hM5 (fun _ _ h=>h) (fun k _ h=>.inl h))
          clear hM5 hG5 hB5
          repeat' (first|refine Y_q ?_|fail)
          refine Y_store (off:=1) HBV.out HGv.out (fun W5 hM5 hG5 hB5=>?_)
          replace HBV:=Lib.hid hB5
          replace HBE:=Lib.hid (HBE.out.mod hM5 (fun h=>by omega))
          replace HMs:=Lib.hid (Mod.trans HMs.out hM5 (fun _ _ h=>h) (fun k _ h=>.inl h))
          clear hM5 hG5 hB5
          repeat' (first|refine Y_q ?_|fail)
          refine Y_store (off:=2) HBV.out HGv.out (fun W5 hM5 hG5 hB5=>?_)
          replace HBV:=Lib.hid hB5
          replace HBE:=Lib.hid (HBE.out.mod hM5 (fun h=>by omega))
          replace HMs:=Lib.hid (Mod.trans HMs.out hM5 (fun _ _ h=>h) (fun k _ h=>.inl h))
          clear hM5 hG5 hB5
          repeat' (first|refine Y_q ?_|fail)
          refine Y_store (off:=3) HBV.out HGv.out (fun W5 hM5 hG5 hB5=>?_)
          replace HBV:=Lib.hid hB5
          replace HBE:=Lib.hid (HBE.out.mod hM5 (fun h=>by omega))
          replace HMs:=Lib.hid (Mod.trans HMs.out hM5 (fun _ _ h=>h) (fun k _ h=>.inl h))
          clear hM5 hG5 hB5
          skip
          refine Y_store (off:=0) HBE.out HGe.out (fun W5 hM5 hG5 hB5=>?_)
          replace HBE:=Lib.hid hB5
          replace HBV:=Lib.hid (HBV.out.mod hM5 (fun h=>by omega))
          replace HMs:=Lib.hid (Mod.trans HMs.out hM5 (fun _ _ h=>h) (fun k _ h=>.inr h))
          clear hM5 hG5 hB5
          repeat' (first|refine Y_nil ?_)
          repeat' (first|refine W_ret ?_|go_step)
          have hMA:Mod F w W5:=Mod.trans (Mod.trans HM3.out HE4.out (fun k _ h=>by subst h;exact hFb.out) (fun _ _ h=>h.elim)) HMs.out (fun _ _ h=>h) (fun k hk h=>by rcases h with rfl|rfl <;> omega)
          refine End_ok2r (cs:=[Value.int .i64 s.self,.int .i64 s.epoch,.int .i64 s.version,.slice A6 m6 c6]) hd (HBE.out.congr (g':=fun _=>.int .i64 0) (fun k hk=>by obtain rfl:k = 0:=(by omega);rfl)) HBV.out (all4 ⟨rfl,rfl,rfl,rfl⟩) ⟨⟨.slice A6 m6 c6,by rw [HNO.out,HAL.out],?_⟩,hMA,?_⟩ Tryz.underlying79
          · rw [HAL.out]
            exact (HO4.out.mod HMs.out (fun k hk h=>by have:=HN4.out k hk;rcases h with rfl|rfl <;> omega)).rd (enc:=ics) (k:=1) (fun _=>rfl)
          · rw [HPR.out]
            refine ⟨_,_,_,(HA3.out.later HE4.out).mod HMs.out ?_,?_⟩
            · rintro k (rfl|hk|hk|hk)
              · rintro (h|h) <;> omega
              · have:=HLT.out k (.inr (.inl hk));rintro (h|h) <;> omega
              · have:=HLT.out k (.inr (.inr (.inl hk)));rintro (h|h) <;> omega
              · have:=HJN.out k hk;rintro (h|h) <;> omega
            · rintro k (rfl|hk|hk|hk)
              · exact .inl hFb.out
              · exact .inl (HFF.out k (.inr (.inl hk)))
              · exact .inl (HFF.out k (.inr (.inr (.inl hk))))
              · exact .inr (by have:=HJN.out k hk;omega)
      · have q3b:(s.role == 3) = false:=by simp [q3]
        have hno:s.propNo l = 211:=by unfold RepS.propNo;rw [if_neg (by rw [hmay];decide),if_pos q3]
        have hal:s.alter l = ⟨0,0,0,[]⟩:=by unfold RepS.alter;rw [if_neg (by rw [hno];decide)]
        have hpr:s.prop l = s:=by unfold RepS.prop;rw [if_neg (by rw [hno];decide)]
        repeat' (first|refine X_pure Tryz.func33 (none_of HP1.out hs) ?_|(refine X_pure Tryz.func50 (must_ok 1) ?_)|refine X_pure Tryz.func62 (BRK.out) ?_|(refine X_pure Tryz.func63 (CON.out _) ?_)|(refine X_pure Tryz.func50 (must_ok 2) ?_)|refine X_gt ?_|refine X_q ?_|refine X_nil ?_|refine W_seqk (fun K hK=>?_)|refine W_seqr ?_|go_step)
        refine X_die Tryz.func50 (must_no 211) (fun c w' hC=>?_)
        obtain ⟨rfl,hE4⟩:=hC
        refine End_no2r (cs:=[Value.int .i64 0,.int .i64 0,.int .i64 0,.slice none 0 0]) hd (HBE.out.later hE4) (HBV.out.later hE4) (fun k hk=>altz hk) hne (fun W1 hM=>?_) Tryz.underlying79
        have hM':=Ext.fresh (Ext.trans HE.out hE4) hM (fun k hk=>by subst hk;exact hbew)
        exact ⟨⟨_,by rw [hno,hal],by rw [hal];exact Rd.nil _⟩,hM'.mono (fun _ _ h=>h.elim),by rw [hpr];exact (HP.out.later hM').mono (fun k hk=>.inl hk)⟩
    · have q2b:decide (s.self ∈ l) = false:=by simpa using q2
      have hno:s.propNo l = 2:=by unfold RepS.propNo;rw [if_pos (by unfold RepS.propMay;rw [q1,q2b];rfl)]
      have hal:s.alter l = ⟨0,0,0,[]⟩:=by unfold RepS.alter;rw [if_neg (by rw [hno];decide)]
      have hpr:s.prop l = s:=by unfold RepS.prop;rw [if_neg (by rw [hno];decide)]
      repeat' (first|refine X_pure Tryz.func33 (none_of HP1.out hs) ?_|(refine X_pure Tryz.func50 (must_ok 1) ?_)|refine X_pure Tryz.func62 (BRK.out) ?_|(refine X_pure Tryz.func63 (CON.out _) ?_)|refine X_gt ?_|refine X_q ?_|refine X_nil ?_|refine W_seqk (fun K hK=>?_)|refine W_seqr ?_|go_step)
      refine X_die Tryz.func50 (must_no 2) (fun c w' hC=>?_)
      obtain ⟨rfl,hE4⟩:=hC
      refine End_no2r (cs:=[Value.int .i64 0,.int .i64 0,.int .i64 0,.slice none 0 0]) hd (HBE.out.later hE4) (HBV.out.later hE4) (fun k hk=>altz hk) hne (fun W1 hM=>?_) Tryz.underlying79
      have hM':=Ext.fresh (Ext.trans HE.out hE4) hM (fun k hk=>by subst hk;exact hbew)
      exact ⟨⟨_,by rw [hno,hal],by rw [hal];exact Rd.nil _⟩,hM'.mono (fun _ _ h=>h.elim),by rw [hpr];exact (HP.out.later hM').mono (fun k hk=>.inl hk)⟩
  · have q1f:brokersB l = false:=by simpa using q1
    rw [q1f] at BRK
    have hno:s.propNo l = 2:=by unfold RepS.propNo;rw [if_pos (by unfold RepS.propMay;rw [q1f];rfl)]
    have hal:s.alter l = ⟨0,0,0,[]⟩:=by unfold RepS.alter;rw [if_neg (by rw [hno];decide)]
    have hpr:s.prop l = s:=by unfold RepS.prop;rw [if_neg (by rw [hno];decide)]
    repeat' (first|refine X_pure Tryz.func33 (none_of HP1.out hs) ?_|(refine X_pure Tryz.func50 (must_ok 1) ?_)|refine X_pure Tryz.func62 (BRK.out) ?_|(refine X_gf2 ?_)|refine X_q ?_|refine X_g ?_|refine X_nil ?_|refine W_seqk (fun K hK=>?_)|refine W_seqr ?_|go_step)
    refine X_die Tryz.func50 (must_no 2) (fun c w' hC=>?_)
    obtain ⟨rfl,hE4⟩:=hC
    refine End_no2r (cs:=[Value.int .i64 0,.int .i64 0,.int .i64 0,.slice none 0 0]) hd (HBE.out.later hE4) (HBV.out.later hE4) (fun k hk=>altz hk) hne (fun W1 hM=>?_) Tryz.underlying79
    have hM':=Ext.fresh (Ext.trans HE.out hE4) hM (fun k hk=>by subst hk;exact hbew)
    exact ⟨⟨_,by rw [hno,hal],by rw [hal];exact Rd.nil _⟩,hM'.mono (fun _ _ h=>h.elim),by rw [hpr];exact (HP.out.later hM').mono (fun k hk=>.inl hk)⟩
end Go.Ws
namespace Go.Ws
open Go Go.RowKit Go.Proofs
set_option maxHeartbeats 4000000
set_option maxRecDepth 100000
set_option linter.unusedVariables false
set_option linter.unusedSimpArgs false
theorem does7_calls {w0 W : World} {b : Nat} {F X : Nat → Prop} {s : RepS} {uL uI uC vI vE vL : Value} {a : ActD} (h : HR w0 W b F s) (hg : s.Fine) (hX : ∀ k, X k → k < W.heap.size) (hv : VR (fun k => F k ∨ X k) W uL uI uC s) (ha : ActR (fun k => F k ∨ X k) W vI vE vL a) (hk : a.kind = 7) (hbe : a.list.length ≤ 20) :
    Ret Tryz.prog 16 #[.pointer (some ⟨b,0,none⟩),s.v uL uI uC,a.v vI vE vL] W fun r W'=>DoesR w0 W b F X (s.step (a.atS s)) r W':=by
  have HH:=Lib.hid h
  have HG:=Lib.hid hg
  have HXW:=Lib.hid hX
  clear hX
  have HVR:=Lib.hid hv
  have HAC:=Lib.hid (ha.at s)
  have NEAR:Hid (∀ W',Ext W W'→Ret Tryz.prog 35 #[a.v vI vE vL,s.v uL uI uC] W' fun r w'=>Ext W' w'∧r = (a.atS s).v vI vE vL):=Lib.hid (fun W' hE=>near_calls (hv.later hE) hg.good hg.ver (ha.later hE))
  have hka:(a.atS s).kind = 7:=(atS_kind a s).1.trans hk
  have ht:s.step (a.atS s) = s.prop (a.atS s).list:=by unfold RepS.step;simp [hka]
  rw [ht]
  clear ht
  have HEN:Hid ((a.atS s).list.length≤20):=Lib.hid (by rw [(atS_kind a s).2.2.2.1];exact hbe)
  clear hbe
  obtain ⟨A1,c1,rfl,-⟩:=hv.rl.rd.ent
  obtain ⟨A2,c2,rfl,-⟩:=hv.ri.rd.int
  obtain ⟨A3,c3,rfl,-⟩:=hv.rc.rd.int
  clear h hg hv ha hk
  generalize a.atS s = a' at *
  obtain ⟨A4,c4,rfl,-⟩:=HAC.out.ri.int
  obtain ⟨A5,c5,rfl,-⟩:=HAC.out.re.ent
  obtain ⟨A6,c6,rfl,-⟩:=HAC.out.rl.int
  refine Fn_of Tryz.func16 rfl (Nat.le_of_ble_eq_true rfl) ?_;intro A hd hA;simp only [ix,Nat.reduceAdd];replace hA:A.tmps.size = 268:=hA
  (repeat' (first|refine W_seqk (fun K hK=>?_)|refine W_seqr ?_|fail));(first|(refine X_var (fun yn b4 hn1 hn2 hn3 hn4 hn5=>?_))|(refine X_s (fun x K hK=>?_);go_simp;refine hK _ _ (Ext.alloc _ _) ?_;clear hK K;refine X_al x ?_;generalize (World.later _ x).heap.size = b4;intro yn hn1 hn2 hn3 hn4 hn5;clear x));have HBb4:=Lib.hid (Blk.new hn5.out);have HEb4:=Lib.hid yn.ext;have hlb4:(World.heap W).size≤b4:=hn1;generalize World.later W yn = W0 at *;clear hn1 hn2 hn3 hn4 hn5 yn
  (skip);(first|(refine X_var (fun yn b5 hn1 hn2 hn3 hn4 hn5=>?_))|(refine X_s (fun x K hK=>?_);go_simp;refine hK _ _ (Ext.alloc _ _) ?_;clear hK K;refine X_al x ?_;generalize (World.later _ x).heap.size = b5;intro yn hn1 hn2 hn3 hn4 hn5;clear x));have HBb5:=Lib.hid (Blk.new hn5.out);have HEb5:=Lib.hid yn.ext;have hlb5:(World.heap W0).size≤b5:=hn1;generalize World.later W0 yn = W1 at *;clear hn1 hn2 hn3 hn4 hn5 yn
  (skip);(first|(refine X_var (fun yn b6 hn1 hn2 hn3 hn4 hn5=>?_))|(refine X_s (fun x K hK=>?_);go_simp;refine hK _ _ (Ext.alloc _ _) ?_;clear hK K;refine X_al x ?_;generalize (World.later _ x).heap.size = b6;intro yn hn1 hn2 hn3 hn4 hn5;clear x));have HBb6:=Lib.hid (Blk.new hn5.out);have HEb6:=Lib.hid yn.ext;have hlb6:(World.heap W1).size≤b6:=hn1;generalize World.later W1 yn = W2 at *;clear hn1 hn2 hn3 hn4 hn5 yn
  have HBS:=Lib.hid ((fbox2 HBb4.out).later (Ext.trans HEb5.out HEb6.out))
  have HBA:Hid (Blk W2 b5 51 27 (aenc a (.slice A4 a'.view.isr.length c4) (.slice A5 a'.reply.entries.length c5) (.slice A6 a'.list.length c6))):=Lib.hid ((HBb5.out.later HEb6.out).congr (fun k hk=>rfl))
  have HBO:=HBb6
  have HE:=Lib.hid (Ext.trans (Ext.trans HEb4.out HEb5.out) HEb6.out)
  have hbb:b4 < b5:=by have:=HBb4.out.lt;omega
  have hbb2:b5 < b6:=by have:=HBb5.out.lt;omega
  have hs0:=HEb4.out.size
  have hs1:=HEb5.out.size
  have h6W:W.heap.size≤b6:=by omega
  clear HBb4 HBb5 HBb6 HEb4 HEb5 HEb6
  have HFW:Hid (∀ k,F k→k < W.heap.size):=Lib.hid (fun k hk=>(HH.out.hi k hk).2)
  have HVN:=Lib.hid (HVR.out.wide (N':=fun k=>F k∨X k∨k = b6) (fun k hk=>hk.elim (fun h=>.inl (.inl h)) (fun h=>h.elim (fun h=>.inl (.inr h)) (fun e=>.inr (by subst e;exact h6W)))))
  have HAN:=Lib.hid (HAC.out.wide (N':=fun k=>F k∨X k∨k = b6) (fun k hk=>hk.elim (fun h=>.inl (.inl h)) (fun h=>h.elim (fun h=>.inl (.inr h)) (fun e=>.inr (by subst e;exact h6W)))))
  clear HVR HAC
  have hal:=HBA.out.lt
  have hsl:=HBS.out.lt
  repeat' (first|refine X_q ?_|refine X_nil ?_|refine W_seqk (fun K hK=>?_)|refine W_seqr ?_|go_step)
  refine X_aload HBA.out ?_ (hu:=Tryz.underlying51)
  skip
  refine X_fload HBS.out ?_ (hu:=Tryz.underlying33)
  skip
  refine X_ret Tryz.func35 (NEAR.out _ HE.out) (fun r w1 hR=>?_)
  obtain ⟨hE1,rfl⟩:=hR
  replace HBS:=Lib.hid (HBS.out.later hE1)
  replace HBA:=Lib.hid (HBA.out.later hE1)
  replace HBO:=Lib.hid (HBO.out.later hE1)
  replace HE:=Lib.hid (Ext.trans HE.out hE1)
  clear hE1 NEAR hal hsl
  have hal:=HBA.out.lt
  skip
  refine X_store (off:=0) HBA.out (fun W1 hM1 hB1=>?_);replace HE:=Lib.hid (Ext.fresh HE.out hM1 (fun k hk=>by subst hk;omega));replace HBS:=Lib.hid (HBS.out.mod hM1 (fun h=>by omega));replace HBO:=Lib.hid (HBO.out.mod hM1 (fun h=>by omega));replace HBA:=Lib.hid hB1;clear hM1 hB1
  replace HBA:=Lib.hid (HBA.out.congr (g':=aenc a' (.slice A4 a'.view.isr.length c4) (.slice A5 a'.reply.entries.length c5) (.slice A6 a'.list.length c6)) (all27 ⟨rfl,rfl,rfl,rfl,rfl,rfl,rfl,rfl,rfl,rfl,rfl,rfl,rfl,rfl,rfl,rfl,rfl,rfl,rfl,rfl,rfl,rfl,rfl,rfl,rfl,rfl,rfl⟩))
  clear hal
  obtain ⟨hlt,d0,d1,d2,d3,d4,d5,d6,d7,d8,d9,d10⟩:=fcells HBS.out
  have hal:=HBA.out.lt
  have e0:=HBA.out.cell (k:=0) (by omega)
  change World.cell? _ _ = some (.int .i64 a'.kind) at e0
  have e26:=HBA.out.cell (k:=26) (by omega)
  change World.cell? _ _ = some (.slice A6 a'.list.length c6) at e26
  rw [hka] at e0
  have hbol:=HBO.out.lt
  have hEW:=HE.out.size
  have HGG:=Lib.hid HG.out.good
  repeat' (first|refine X_q ?_|refine X_nil ?_|refine W_seqk (fun K hK=>?_)|refine W_seqr ?_|refine W_block ?_|refine W_tt ?_|refine W_ff ?_|go_step)
  refine X_fload HBS.out ?_ (hu:=Tryz.underlying33)
  repeat' (first|refine X_q ?_|fail)
  refine X_ret Tryz.func43 (propose11_calls (N:=fun k=>F k∨X k∨k = b6) (fun k hk=>hk.elim (fun h=>by have:=HFW.out k h;omega) (fun h=>h.elim (fun h=>by have:=HXW.out k h;omega) (fun h=>by omega))) (HVN.out.later HE.out) (HAN.out.later HE.out).rl.rd) (fun r w1 hR=>?_)
  obtain ⟨hE1,v1,u1,rfl,⟨oL,oI,oC,rfl,hVO⟩,hU⟩:=hR
  obtain ⟨B1,x1,rfl,-⟩:=hVO.rl.ent
  obtain ⟨B2,x2,rfl,-⟩:=hVO.ri.int
  obtain ⟨B3,x3,rfl,-⟩:=hVO.rc.int
  obtain ⟨B4,x4,rfl,-⟩:=hU.int
  clear hU
  have HE1:=Lib.hid (Ext.trans HE.out hE1)
  have HVO:=Lib.hid hVO
  replace HBS:=Lib.hid (HBS.out.later hE1)
  replace HBA:=Lib.hid (HBA.out.later hE1)
  replace HBO:=Lib.hid (HBO.out.later hE1)
  clear hE1 hVO HE hbol hEW e0 e26 hal
  clear hlt d0 d1 d2 d3 d4 d5 d6 d7 d8 d9 d10
  have HE:=Lib.hid (Ext.refl w1)
  have hbol:=HBO.out.lt
  have hEW:=HE1.out.size
  have h61:=HBO.out.lt
  have hal:=HBA.out.lt
  have e26:=HBA.out.cell (k:=26) (by omega)
  change World.cell? _ _ = some (.slice A6 a'.list.length c6) at e26
  (repeat' (first|refine X_q ?_|fail));(first|(refine X_var (fun yn b8 hn1 hn2 hn3 hn4 hn5=>?_))|(refine X_s (fun x K hK=>?_);go_simp;refine hK _ _ (Ext.alloc _ _) ?_;clear hK K;refine X_al x ?_;generalize (World.later _ x).heap.size = b8;intro yn hn1 hn2 hn3 hn4 hn5;clear x));have HBb8:=Lib.hid (Blk.new hn5.out);have HEb8:=Lib.hid yn.ext;have hlb8:(World.heap w1).size≤b8:=hn1;generalize World.later w1 yn = W8 at *;clear hn1 hn2 hn3 hn4 hn5 yn
  (skip);(first|(refine X_var (fun yn b20 hn1 hn2 hn3 hn4 hn5=>?_))|(refine X_s (fun x K hK=>?_);go_simp;refine hK _ _ (Ext.alloc _ _) ?_;clear hK K;refine X_al x ?_;generalize (World.later _ x).heap.size = b20;intro yn hn1 hn2 hn3 hn4 hn5;clear x));have HBb20:=Lib.hid (Blk.new hn5.out);have HEb20:=Lib.hid yn.ext;have hlb20:(World.heap W8).size≤b20:=hn1;generalize World.later W8 yn = W9 at *;clear hn1 hn2 hn3 hn4 hn5 yn
  have HBT:=Lib.hid (HBb8.out.later HEb20.out)
  have HBP:=HBb20
  replace HE:=Lib.hid (Ext.trans HEb8.out HEb20.out)
  replace HBA:=Lib.hid (HBA.out.later HE.out)
  replace HBO:=Lib.hid (HBO.out.later HE.out)
  have h8b:b8 < b20:=by have:=HBb8.out.lt;omega
  have hs8:=HEb8.out.size
  clear HBb8 HEb8 HBb20 HEb20 hbol HBS
  clear hal e26
  have h8l:=HBT.out.lt
  have h20l:=HBP.out.lt
  skip
  refine X_store (off:=0) HBT.out (fun W1 hM1 hB1=>?_);replace HE:=Lib.hid (Ext.fresh HE.out hM1 (fun k hk=>by subst hk;omega));replace HBP:=Lib.hid (HBP.out.mod hM1 (fun h=>by omega));replace HBA:=Lib.hid (HBA.out.mod hM1 (fun h=>by omega));replace HBO:=Lib.hid (HBO.out.mod hM1 (fun h=>by omega));replace HBT:=Lib.hid hB1;clear hM1 hB1
  replace HBT:=Lib.hid (fput HBT.out)
  clear h8l h20l
  have h8l:=HBT.out.lt
  have h20l:=HBP.out.lt
  skip
  refine X_store (off:=0) HBP.out (fun W1 hM1 hB1=>?_);replace HE:=Lib.hid (Ext.fresh HE.out hM1 (fun k hk=>by subst hk;omega));replace HBT:=Lib.hid (HBT.out.mod hM1 (fun h=>by omega));replace HBA:=Lib.hid (HBA.out.mod hM1 (fun h=>by omega));replace HBO:=Lib.hid (HBO.out.mod hM1 (fun h=>by omega));replace HBP:=Lib.hid hB1;clear hM1 hB1
  replace HBP:=Lib.hid (HBP.out.congr (g':=fun k=>[Value.int .i64 (s.alter a'.list).leader,.int .i64 (s.alter a'.list).epoch,.int .i64 (s.alter a'.list).version,.slice B4 (s.alter a'.list).isr.length x4].getD k undef) (all4 ⟨rfl,rfl,rfl,rfl⟩))
  clear h8l h20l
  have hal:=HBA.out.lt
  have e26:=HBA.out.cell (k:=26) (by omega)
  change World.cell? _ _ = some (.slice A6 a'.list.length c6) at e26
  have hbol:=HBO.out.lt
  have h8l:=HBT.out.lt
  have h20l:=HBP.out.lt
  repeat' (first|refine X_q ?_|refine X_nil ?_|refine W_seqk (fun K hK=>?_)|refine W_seqr ?_|go_step)
  refine X_ret Tryz.func24 (propose_rep (((HH.out.later HE1.out).later HE.out).rep) HGG.out.ne HGG.out.cts ((HAN.out.later HE1.out).later HE.out).rl.rd (by have:=HEN.out;omega) (fun k hk=>(HAN.out.rl.nb k hk).imp id (fun h1 h=>h1 (.inl h)))) (fun r w4 hR=>?_)
  obtain ⟨⟨u2,rfl,hO2⟩,hM,hRp⟩:=hR
  obtain ⟨B5,x5,rfl,-⟩:=hO2.int
  have HMc:=Lib.hid hM
  have HRc:=Lib.hid hRp
  have HEC:=HE
  have hEs:=HE.out.size
  replace HBO:=Lib.hid (HBO.out.mod hM (fun h=>by have:=HFW.out _ h;omega))
  replace HBT:=Lib.hid (HBT.out.mod hM (fun h=>by have:=HFW.out _ h;omega))
  replace HBP:=Lib.hid (HBP.out.mod hM (fun h=>by have:=HFW.out _ h;omega))
  have hs4:=hM.size
  clear hM hRp hO2 HBA hbol h8l h20l
  clear hal e26
  (repeat' (first|refine X_q ?_|fail));(first|(refine X_var (fun yn b22 hn1 hn2 hn3 hn4 hn5=>?_))|(refine X_s (fun x K hK=>?_);go_simp;refine hK _ _ (Ext.alloc _ _) ?_;clear hK K;refine X_al x ?_;generalize (World.later _ x).heap.size = b22;intro yn hn1 hn2 hn3 hn4 hn5;clear x));have HBb22:=Lib.hid (Blk.new hn5.out);have HEb22:=Lib.hid yn.ext;have hlb22:(World.heap w4).size≤b22:=hn1;generalize World.later w4 yn = W12 at *;clear hn1 hn2 hn3 hn4 hn5 yn
  have HBQ:=HBb22
  have HM4:=HEb22
  replace HBT:=Lib.hid (HBT.out.later HEb22.out)
  replace HBP:=Lib.hid (HBP.out.later HEb22.out)
  have HBO4:=Lib.hid (HBO.out.later HEb22.out)
  clear HBb22 HEb22 HBO
  have hbol:=HBO4.out.lt
  have h8l:=HBT.out.lt
  have h20l:=HBP.out.lt
  have h22l:=HBQ.out.lt
  have p0:=HBP.out.cell (k:=0) (by simp)
  have p1:=HBP.out.cell (k:=1) (by simp)
  have p2:=HBP.out.cell (k:=2) (by simp)
  have p3:=HBP.out.cell (k:=3) (by simp)
  simp at p0 p1 p2 p3
  have q0:=HBQ.out.cell (k:=0) (by simp)
  have q1:=HBQ.out.cell (k:=1) (by simp)
  have q2:=HBQ.out.cell (k:=2) (by simp)
  have q3:=HBQ.out.cell (k:=3) (by simp)
  simp at q0 q1 q2 q3
  repeat' (first|refine X_q ?_|refine X_nil ?_|refine W_seqk (fun K hK=>?_)|refine W_seqr ?_|go_step)
  refine X_fload HBT.out ?_ (hu:=Tryz.underlying33)
  repeat' (first|refine X_gt ?_|refine X_q ?_|fail)
  refine X_store (off:=0) HBO4.out (fun W5 hM5 hB5=>?_)
  have HM5:=Lib.hid hM5
  have HB5:=Lib.hid (fput hB5)
  clear hM5 hB5
  repeat' (first|refine X_q ?_|refine X_nil ?_|refine W_ret ?_|go_step)
  have HM6:=Lib.hid (Mod.trans (H:=(· = b6)) HM4.out HM5.out (fun _ _ h=>h.elim) (fun _ _ h=>h))
  exact Body_retcellv (cs:=RepS.cs (s.prop a'.list) _ _ _) hd (does_end HH.out HE1.out HEC.out HMc.out HRc.out HM6.out h6W h61 HVO.out) HB5.out (fun k hk=>cs_fenc hk) Tryz.underlying33
theorem does8_calls {w0 W : World} {b : Nat} {F X : Nat → Prop} {s : RepS} {uL uI uC vI vE vL : Value} {a : ActD} (h : HR w0 W b F s) (hg : s.Fine) (hX : ∀ k, X k → k < W.heap.size) (hv : VR (fun k => F k ∨ X k) W uL uI uC s) (ha : ActR (fun k => F k ∨ X k) W vI vE vL a) (hk : a.kind = 8) :
    Ret Tryz.prog 16 #[.pointer (some ⟨b,0,none⟩),s.v uL uI uC,a.v vI vE vL] W fun r W'=>DoesR w0 W b F X (s.step (a.atS s)) r W':=by
  have HH:=Lib.hid h
  have HG:=Lib.hid hg
  have HXW:=Lib.hid hX
  clear hX
  have HVR:=Lib.hid hv
  have HAC:=Lib.hid (ha.at s)
  have NEAR:Hid (∀ W',Ext W W'→Ret Tryz.prog 35 #[a.v vI vE vL,s.v uL uI uC] W' fun r w'=>Ext W' w'∧r = (a.atS s).v vI vE vL):=Lib.hid (fun W' hE=>near_calls (hv.later hE) hg.good hg.ver (ha.later hE))
  have hka:(a.atS s).kind = 8:=(atS_kind a s).1.trans hk
  have ht:s.step (a.atS s) = (s.crash (a.atS s).n).1:=by unfold RepS.step;simp [hka]
  rw [ht]
  clear ht
  obtain ⟨A1,c1,rfl,-⟩:=hv.rl.rd.ent
  obtain ⟨A2,c2,rfl,-⟩:=hv.ri.rd.int
  obtain ⟨A3,c3,rfl,-⟩:=hv.rc.rd.int
  clear h hg hv ha hk
  generalize a.atS s = a' at *
  obtain ⟨A4,c4,rfl,-⟩:=HAC.out.ri.int
  obtain ⟨A5,c5,rfl,-⟩:=HAC.out.re.ent
  obtain ⟨A6,c6,rfl,-⟩:=HAC.out.rl.int
  refine Fn_of Tryz.func16 rfl (Nat.le_of_ble_eq_true rfl) ?_;intro A hd hA;simp only [ix,Nat.reduceAdd];replace hA:A.tmps.size = 268:=hA
  (repeat' (first|refine W_seqk (fun K hK=>?_)|refine W_seqr ?_|fail));(first|(refine X_var (fun yn b4 hn1 hn2 hn3 hn4 hn5=>?_))|(refine X_s (fun x K hK=>?_);go_simp;refine hK _ _ (Ext.alloc _ _) ?_;clear hK K;refine X_al x ?_;generalize (World.later _ x).heap.size = b4;intro yn hn1 hn2 hn3 hn4 hn5;clear x));have HBb4:=Lib.hid (Blk.new hn5.out);have HEb4:=Lib.hid yn.ext;have hlb4:(World.heap W).size≤b4:=hn1;generalize World.later W yn = W0 at *;clear hn1 hn2 hn3 hn4 hn5 yn
  (skip);(first|(refine X_var (fun yn b5 hn1 hn2 hn3 hn4 hn5=>?_))|(refine X_s (fun x K hK=>?_);go_simp;refine hK _ _ (Ext.alloc _ _) ?_;clear hK K;refine X_al x ?_;generalize (World.later _ x).heap.size = b5;intro yn hn1 hn2 hn3 hn4 hn5;clear x));have HBb5:=Lib.hid (Blk.new hn5.out);have HEb5:=Lib.hid yn.ext;have hlb5:(World.heap W0).size≤b5:=hn1;generalize World.later W0 yn = W1 at *;clear hn1 hn2 hn3 hn4 hn5 yn
  (skip);(first|(refine X_var (fun yn b6 hn1 hn2 hn3 hn4 hn5=>?_))|(refine X_s (fun x K hK=>?_);go_simp;refine hK _ _ (Ext.alloc _ _) ?_;clear hK K;refine X_al x ?_;generalize (World.later _ x).heap.size = b6;intro yn hn1 hn2 hn3 hn4 hn5;clear x));have HBb6:=Lib.hid (Blk.new hn5.out);have HEb6:=Lib.hid yn.ext;have hlb6:(World.heap W1).size≤b6:=hn1;generalize World.later W1 yn = W2 at *;clear hn1 hn2 hn3 hn4 hn5 yn
  have HBS:=Lib.hid ((fbox2 HBb4.out).later (Ext.trans HEb5.out HEb6.out))
  have HBA:Hid (Blk W2 b5 51 27 (aenc a (.slice A4 a'.view.isr.length c4) (.slice A5 a'.reply.entries.length c5) (.slice A6 a'.list.length c6))):=Lib.hid ((HBb5.out.later HEb6.out).congr (fun k hk=>rfl))
  have HBO:=HBb6
  have HE:=Lib.hid (Ext.trans (Ext.trans HEb4.out HEb5.out) HEb6.out)
  have hbb:b4 < b5:=by have:=HBb4.out.lt;omega
  have hbb2:b5 < b6:=by have:=HBb5.out.lt;omega
  have hs0:=HEb4.out.size
  have hs1:=HEb5.out.size
  have h6W:W.heap.size≤b6:=by omega
  clear HBb4 HBb5 HBb6 HEb4 HEb5 HEb6
  have HFW:Hid (∀ k,F k→k < W.heap.size):=Lib.hid (fun k hk=>(HH.out.hi k hk).2)
  have HVN:=Lib.hid (HVR.out.wide (N':=fun k=>F k∨X k∨k = b6) (fun k hk=>hk.elim (fun h=>.inl (.inl h)) (fun h=>h.elim (fun h=>.inl (.inr h)) (fun e=>.inr (by subst e;exact h6W)))))
  have HAN:=Lib.hid (HAC.out.wide (N':=fun k=>F k∨X k∨k = b6) (fun k hk=>hk.elim (fun h=>.inl (.inl h)) (fun h=>h.elim (fun h=>.inl (.inr h)) (fun e=>.inr (by subst e;exact h6W)))))
  clear HVR HAC
  have hal:=HBA.out.lt
  have hsl:=HBS.out.lt
  repeat' (first|refine X_q ?_|refine X_nil ?_|refine W_seqk (fun K hK=>?_)|refine W_seqr ?_|go_step)
  refine X_aload HBA.out ?_ (hu:=Tryz.underlying51)
  skip
  refine X_fload HBS.out ?_ (hu:=Tryz.underlying33)
  skip
  refine X_ret Tryz.func35 (NEAR.out _ HE.out) (fun r w1 hR=>?_)
  obtain ⟨hE1,rfl⟩:=hR
  replace HBS:=Lib.hid (HBS.out.later hE1)
  replace HBA:=Lib.hid (HBA.out.later hE1)
  replace HBO:=Lib.hid (HBO.out.later hE1)
  replace HE:=Lib.hid (Ext.trans HE.out hE1)
  clear hE1 NEAR hal hsl
  have hal:=HBA.out.lt
  skip
  refine X_store (off:=0) HBA.out (fun W1 hM1 hB1=>?_);replace HE:=Lib.hid (Ext.fresh HE.out hM1 (fun k hk=>by subst hk;omega));replace HBS:=Lib.hid (HBS.out.mod hM1 (fun h=>by omega));replace HBO:=Lib.hid (HBO.out.mod hM1 (fun h=>by omega));replace HBA:=Lib.hid hB1;clear hM1 hB1
  replace HBA:=Lib.hid (HBA.out.congr (g':=aenc a' (.slice A4 a'.view.isr.length c4) (.slice A5 a'.reply.entries.length c5) (.slice A6 a'.list.length c6)) (all27 ⟨rfl,rfl,rfl,rfl,rfl,rfl,rfl,rfl,rfl,rfl,rfl,rfl,rfl,rfl,rfl,rfl,rfl,rfl,rfl,rfl,rfl,rfl,rfl,rfl,rfl,rfl,rfl⟩))
  clear hal
  obtain ⟨hlt,d0,d1,d2,d3,d4,d5,d6,d7,d8,d9,d10⟩:=fcells HBS.out
  have hal:=HBA.out.lt
  have e0:=HBA.out.cell (k:=0) (by omega)
  change World.cell? _ _ = some (.int .i64 a'.kind) at e0
  have e1:=HBA.out.cell (k:=1) (by omega)
  change World.cell? _ _ = some (.int .i64 a'.n) at e1
  rw [hka] at e0
  have hbol:=HBO.out.lt
  have hEW:=HE.out.size
  have HGG:=Lib.hid HG.out.good
  repeat' (first|refine X_q ?_|refine X_nil ?_|refine W_seqk (fun K hK=>?_)|refine W_seqr ?_|refine W_block ?_|refine W_tt ?_|refine W_ff ?_|go_step)
  refine X_fload HBS.out ?_ (hu:=Tryz.underlying33)
  repeat' (first|refine X_q ?_|fail)
  refine X_ret Tryz.func44 (crash11_calls (N:=fun k=>F k∨X k∨k = b6) (HVN.out.later HE.out) HGG.out.len HGG.out.fl.1 HGG.out.fl.2 a'.n) (fun r w1 hR=>?_)
  obtain ⟨hE1,v1,rfl,oL,oI,oC,rfl,hVO⟩:=hR
  obtain ⟨B1,x1,rfl,-⟩:=hVO.rl.ent
  obtain ⟨B2,x2,rfl,-⟩:=hVO.ri.int
  obtain ⟨B3,x3,rfl,-⟩:=hVO.rc.int
  have HE1:=Lib.hid (Ext.trans HE.out hE1)
  have HVO:=Lib.hid hVO
  replace HBS:=Lib.hid (HBS.out.later hE1)
  replace HBA:=Lib.hid (HBA.out.later hE1)
  replace HBO:=Lib.hid (HBO.out.later hE1)
  clear hE1 hVO HE hbol hEW e0 e1 hal
  clear hlt d0 d1 d2 d3 d4 d5 d6 d7 d8 d9 d10
  have HE:=Lib.hid (Ext.refl w1)
  have hbol:=HBO.out.lt
  have hEW:=HE1.out.size
  have h61:=HBO.out.lt
  have hal:=HBA.out.lt
  have e1:=HBA.out.cell (k:=1) (by omega)
  change World.cell? _ _ = some (.int .i64 a'.n) at e1
  (repeat' (first|refine X_q ?_|fail));(first|(refine X_var (fun yn b8 hn1 hn2 hn3 hn4 hn5=>?_))|(refine X_s (fun x K hK=>?_);go_simp;refine hK _ _ (Ext.alloc _ _) ?_;clear hK K;refine X_al x ?_;generalize (World.later _ x).heap.size = b8;intro yn hn1 hn2 hn3 hn4 hn5;clear x));have HBb8:=Lib.hid (Blk.new hn5.out);have HEb8:=Lib.hid yn.ext;have hlb8:(World.heap w1).size≤b8:=hn1;generalize World.later w1 yn = W8 at *;clear hn1 hn2 hn3 hn4 hn5 yn
  have HBT:=Lib.hid (fbox2 HBb8.out)
  replace HE:=Lib.hid (HEb8.out)
  replace HBS:=Lib.hid (HBS.out.later HEb8.out)
  replace HBA:=Lib.hid (HBA.out.later HEb8.out)
  replace HBO:=Lib.hid (HBO.out.later HEb8.out)
  clear HBb8 HEb8
  clear hbol
  clear hal e1
  have hal:=HBA.out.lt
  have e1:=HBA.out.cell (k:=1) (by omega)
  change World.cell? _ _ = some (.int .i64 a'.n) at e1
  have hbol:=HBO.out.lt
  have h8l:=HBT.out.lt
  repeat' (first|refine X_q ?_|refine X_nil ?_|refine W_seqk (fun K hK=>?_)|go_step)
  obtain ⟨G,hG⟩:∃ G:Nat→Prop,G = (fun k=>F k∨k = b6):=⟨_,rfl⟩
  have HGo:Hid (G b6):=Lib.hid (by subst hG;exact .inr rfl)
  have HFG:Hid (∀ k,F k→G k):=Lib.hid (fun k hk=>by subst hG;exact .inl hk)
  have hG4:¬ G b4:=(by subst hG;rintro (h|h);(have:=HFW.out _ h;omega);omega)
  have hG5:¬ G b5:=(by subst hG;rintro (h|h);(have:=HFW.out _ h;omega);omega)
  have hG8:¬ G b8:=(by subst hG;rintro (h|h);(have:=HFW.out _ h;omega);omega)
  clear hG
  refine W_drawG G [(0,0),(1,0),(2,0),(3,3),(5,0),(4,1),(6,0),(7,2),(8,0)] (by kernel_rfl) (by kernel_rfl) ?_
  refine Y_fload HBT.out hG8 ?_ (hu:=Tryz.underlying33)
  repeat' (first|refine Y_q ?_|refine Y_r ?_|fail)
  refine Y_ret Tryz.func19 (R:=ProgR F b ((s.crash a'.n).1) (· = .int .i64 ((s.crash a'.n).2)) _) (fun x=>prog_ret x (crash_rep ((((HH.out.later HE1.out).later HE.out).later x.2).rep) HGG.out.ne HGG.out.len HGG.out.fl.1 HGG.out.fl.2 a'.n) HFG.out) (fun r w4 hR=>?_)
  obtain ⟨rfl,hM,hRp⟩:=hR
  have HMc:=Lib.hid hM
  have HRc:=Lib.hid hRp
  have HEC:=HE
  have HBO4:=Lib.hid (HBO.out.mod hM (fun h=>by have:=HFW.out _ h;omega))
  clear hM hRp HBT HBA HBS
  repeat' (first|refine Y_q ?_|fail)
  refine Y_store (off:=0) HBO4.out HGo.out (fun W5 hM5 hG5x hB5=>?_)
  have HM5:=Lib.hid hM5
  have HB5:=Lib.hid (fput hB5)
  clear hM5 hG5x hB5
  repeat' (first|refine Y_q ?_|refine Y_nil ?_)
  repeat' (first|refine W_ret ?_|go_step)
  exact Body_retcellv (cs:=RepS.cs ((s.crash a'.n).1) _ _ _) hd (does_end HH.out HE1.out HEC.out HMc.out HRc.out HM5.out h6W h61 HVO.out) HB5.out (fun k hk=>cs_fenc hk) Tryz.underlying33
theorem does9_calls {w0 W : World} {b : Nat} {F X : Nat → Prop} {s : RepS} {uL uI uC vI vE vL : Value} {a : ActD} (h : HR w0 W b F s) (hg : s.Fine) (hX : ∀ k, X k → k < W.heap.size) (hv : VR (fun k => F k ∨ X k) W uL uI uC s) (ha : ActR (fun k => F k ∨ X k) W vI vE vL a) (hk : a.kind = 9) :
    Ret Tryz.prog 16 #[.pointer (some ⟨b,0,none⟩),s.v uL uI uC,a.v vI vE vL] W fun r W'=>DoesR w0 W b F X (s.step (a.atS s)) r W':=by
  have HH:=Lib.hid h
  have HG:=Lib.hid hg
  have HXW:=Lib.hid hX
  clear hX
  have HVR:=Lib.hid hv
  have HAC:=Lib.hid (ha.at s)
  have NEAR:Hid (∀ W',Ext W W'→Ret Tryz.prog 35 #[a.v vI vE vL,s.v uL uI uC] W' fun r w'=>Ext W' w'∧r = (a.atS s).v vI vE vL):=Lib.hid (fun W' hE=>near_calls (hv.later hE) hg.good hg.ver (ha.later hE))
  have hka:(a.atS s).kind = 9:=(atS_kind a s).1.trans hk
  have ht:s.step (a.atS s) = s:=by unfold RepS.step;simp [hka]
  rw [ht]
  clear ht
  obtain ⟨A1,c1,rfl,-⟩:=hv.rl.rd.ent
  obtain ⟨A2,c2,rfl,-⟩:=hv.ri.rd.int
  obtain ⟨A3,c3,rfl,-⟩:=hv.rc.rd.int
  clear h hg hv ha hk
  generalize a.atS s = a' at *
  obtain ⟨A4,c4,rfl,-⟩:=HAC.out.ri.int
  obtain ⟨A5,c5,rfl,-⟩:=HAC.out.re.ent
  obtain ⟨A6,c6,rfl,-⟩:=HAC.out.rl.int
  refine Fn_of Tryz.func16 rfl (Nat.le_of_ble_eq_true rfl) ?_;intro A hd hA;simp only [ix,Nat.reduceAdd];replace hA:A.tmps.size = 268:=hA
  (repeat' (first|refine W_seqk (fun K hK=>?_)|refine W_seqr ?_|fail));(first|(refine X_var (fun yn b4 hn1 hn2 hn3 hn4 hn5=>?_))|(refine X_s (fun x K hK=>?_);go_simp;refine hK _ _ (Ext.alloc _ _) ?_;clear hK K;refine X_al x ?_;generalize (World.later _ x).heap.size = b4;intro yn hn1 hn2 hn3 hn4 hn5;clear x));have HBb4:=Lib.hid (Blk.new hn5.out);have HEb4:=Lib.hid yn.ext;have hlb4:(World.heap W).size≤b4:=hn1;generalize World.later W yn = W0 at *;clear hn1 hn2 hn3 hn4 hn5 yn
  (skip);(first|(refine X_var (fun yn b5 hn1 hn2 hn3 hn4 hn5=>?_))|(refine X_s (fun x K hK=>?_);go_simp;refine hK _ _ (Ext.alloc _ _) ?_;clear hK K;refine X_al x ?_;generalize (World.later _ x).heap.size = b5;intro yn hn1 hn2 hn3 hn4 hn5;clear x));have HBb5:=Lib.hid (Blk.new hn5.out);have HEb5:=Lib.hid yn.ext;have hlb5:(World.heap W0).size≤b5:=hn1;generalize World.later W0 yn = W1 at *;clear hn1 hn2 hn3 hn4 hn5 yn
  (skip);(first|(refine X_var (fun yn b6 hn1 hn2 hn3 hn4 hn5=>?_))|(refine X_s (fun x K hK=>?_);go_simp;refine hK _ _ (Ext.alloc _ _) ?_;clear hK K;refine X_al x ?_;generalize (World.later _ x).heap.size = b6;intro yn hn1 hn2 hn3 hn4 hn5;clear x));have HBb6:=Lib.hid (Blk.new hn5.out);have HEb6:=Lib.hid yn.ext;have hlb6:(World.heap W1).size≤b6:=hn1;generalize World.later W1 yn = W2 at *;clear hn1 hn2 hn3 hn4 hn5 yn
  have HBS:=Lib.hid ((fbox2 HBb4.out).later (Ext.trans HEb5.out HEb6.out))
  have HBA:Hid (Blk W2 b5 51 27 (aenc a (.slice A4 a'.view.isr.length c4) (.slice A5 a'.reply.entries.length c5) (.slice A6 a'.list.length c6))):=Lib.hid ((HBb5.out.later HEb6.out).congr (fun k hk=>rfl))
  have HBO:=HBb6
  have HE:=Lib.hid (Ext.trans (Ext.trans HEb4.out HEb5.out) HEb6.out)
  have hbb:b4 < b5:=by have:=HBb4.out.lt;omega
  have hbb2:b5 < b6:=by have:=HBb5.out.lt;omega
  have hs0:=HEb4.out.size
  have hs1:=HEb5.out.size
  have h6W:W.heap.size≤b6:=by omega
  clear HBb4 HBb5 HBb6 HEb4 HEb5 HEb6
  have HFW:Hid (∀ k,F k→k < W.heap.size):=Lib.hid (fun k hk=>(HH.out.hi k hk).2)
  have HVN:=Lib.hid (HVR.out.wide (N':=fun k=>F k∨X k∨k = b6) (fun k hk=>hk.elim (fun h=>.inl (.inl h)) (fun h=>h.elim (fun h=>.inl (.inr h)) (fun e=>.inr (by subst e;exact h6W)))))
  have HAN:=Lib.hid (HAC.out.wide (N':=fun k=>F k∨X k∨k = b6) (fun k hk=>hk.elim (fun h=>.inl (.inl h)) (fun h=>h.elim (fun h=>.inl (.inr h)) (fun e=>.inr (by subst e;exact h6W)))))
  clear HVR HAC
  have hal:=HBA.out.lt
  have hsl:=HBS.out.lt
  repeat' (first|refine X_q ?_|refine X_nil ?_|refine W_seqk (fun K hK=>?_)|refine W_seqr ?_|go_step)
  refine X_aload HBA.out ?_ (hu:=Tryz.underlying51)
  skip
  refine X_fload HBS.out ?_ (hu:=Tryz.underlying33)
  skip
  refine X_ret Tryz.func35 (NEAR.out _ HE.out) (fun r w1 hR=>?_)
  obtain ⟨hE1,rfl⟩:=hR
  replace HBS:=Lib.hid (HBS.out.later hE1)
  replace HBA:=Lib.hid (HBA.out.later hE1)
  replace HBO:=Lib.hid (HBO.out.later hE1)
  replace HE:=Lib.hid (Ext.trans HE.out hE1)
  clear hE1 NEAR hal hsl
  have hal:=HBA.out.lt
  skip
  refine X_store (off:=0) HBA.out (fun W1 hM1 hB1=>?_);replace HE:=Lib.hid (Ext.fresh HE.out hM1 (fun k hk=>by subst hk;omega));replace HBS:=Lib.hid (HBS.out.mod hM1 (fun h=>by omega));replace HBO:=Lib.hid (HBO.out.mod hM1 (fun h=>by omega));replace HBA:=Lib.hid hB1;clear hM1 hB1
  replace HBA:=Lib.hid (HBA.out.congr (g':=aenc a' (.slice A4 a'.view.isr.length c4) (.slice A5 a'.reply.entries.length c5) (.slice A6 a'.list.length c6)) (all27 ⟨rfl,rfl,rfl,rfl,rfl,rfl,rfl,rfl,rfl,rfl,rfl,rfl,rfl,rfl,rfl,rfl,rfl,rfl,rfl,rfl,rfl,rfl,rfl,rfl,rfl,rfl,rfl⟩))
  clear hal
  obtain ⟨hlt,d0,d1,d2,d3,d4,d5,d6,d7,d8,d9,d10⟩:=fcells HBS.out
  have hal:=HBA.out.lt
  have e0:=HBA.out.cell (k:=0) (by omega)
  change World.cell? _ _ = some (.int .i64 a'.kind) at e0
  have e8:=HBA.out.cell (k:=8) (by omega)
  change World.cell? _ _ = some (.int .i64 a'.ent.id) at e8
  have e9:=HBA.out.cell (k:=9) (by omega)
  change World.cell? _ _ = some (.int .i64 a'.ent.num) at e9
  have e10:=HBA.out.cell (k:=10) (by omega)
  change World.cell? _ _ = some (.int .i64 a'.ent.seq) at e10
  rw [hka] at e0
  have hbol:=HBO.out.lt
  have hEW:=HE.out.size
  have HGG:=Lib.hid HG.out.good
  repeat' (first|refine X_q ?_|refine X_nil ?_|refine W_seqk (fun K hK=>?_)|refine W_seqr ?_|refine W_block ?_|refine W_tt ?_|refine W_ff ?_|go_step)
  by_cases hr:s.role = 3
  · have hrb:(s.role != 3) = false:=by simp [hr]
    have HR3:=Lib.hid hr
    clear hr
    have HE1:=HE
    have HVO:=Lib.hid (HVN.out.later HE.out)
    replace HE:=Lib.hid (Ext.refl W1)
    have h61:=HBO.out.lt
    skip
    refine X_ret Tryz.func25 (has_ok (((HH.out.later HE1.out).later HE.out).rep) HGG.out.ne HR3.out HGG.out.hi.1 HGG.out.hi.2 _ _ _) (fun r w4 hR=>?_)
    obtain ⟨rfl,hE9⟩:=hR
    obtain ⟨hM,hRp⟩:Mod F _ _∧Rep _ b (fun k=>F k∨W1.heap.size≤k) s:=⟨hE9.mono (fun _ _ h=>h.elim),((((HH.out.later HE1.out).later HE.out).later hE9).rep).mono (fun k hk=>.inl hk)⟩
    have HMc:=Lib.hid hM
    have HRc:=Lib.hid hRp
    have HEC:=HE
    clear hM hRp
    replace HBS:=Lib.hid (HBS.out.later hE9)
    replace HBA:=Lib.hid (HBA.out.later hE9)
    replace HBO4:=Lib.hid (HBO.out.later hE9)
    have HE4:=Lib.hid (Ext.trans HE1.out hE9)
    clear hE9 hbol e0
    clear hal e8 e9 e10
    clear hlt d0 d1 d2 d3 d4 d5 d6 d7 d8 d9 d10
    have hal:=HBA.out.lt
    have e8:=HBA.out.cell (k:=8) (by omega)
    change World.cell? _ _ = some (.int .i64 a'.ent.id) at e8
    have e9:=HBA.out.cell (k:=9) (by omega)
    change World.cell? _ _ = some (.int .i64 a'.ent.num) at e9
    have e10:=HBA.out.cell (k:=10) (by omega)
    change World.cell? _ _ = some (.int .i64 a'.ent.seq) at e10
    have hbol:=HBO4.out.lt
    obtain ⟨hlt,d0,d1,d2,d3,d4,d5,d6,d7,d8,d9,d10⟩:=fcells HBS.out
    repeat' (first|refine X_q ?_|refine X_nil ?_|refine W_seqk (fun K hK=>?_)|refine W_seqr ?_|refine W_skip ?_|refine W_ff ?_|go_step)
    obtain ⟨G,hG⟩:∃ G:Nat→Prop,G = (fun k=>k = b6):=⟨_,rfl⟩;have HGo:Hid (G b6):=Lib.hid (by subst hG;rfl);have hGb4:¬ G b4:=(by subst hG;show ¬ b4 = b6;omega);have hGb5:¬ G b5:=(by subst hG;show ¬ b5 = b6;omega);clear hG
    refine W_drawG G [(0,0),(1,0),(2,3),(3,0),(4,0),(5,3),(6,0),(7,0),(8,3),(9,0),(10,0),(11,3),(12,1),(13,0),(14,0),(15,0),(16,0),(17,0),(18,2),(19,0)] (by kernel_rfl) (by kernel_rfl) ?_
    (first|refine Y_floadr HBS.out ?_ (hu:=Tryz.underlying33)|refine Y_fload HBS.out hGb4 ?_ (hu:=Tryz.underlying33))
    repeat' (first|refine Y_q ?_|fail)
    (first|refine Y_floadr HBS.out ?_ (hu:=Tryz.underlying33)|refine Y_fload HBS.out hGb4 ?_ (hu:=Tryz.underlying33))
    repeat' (first|refine Y_q ?_|refine Y_r ?_|fail)
    refine Y_pure Tryz.func45 (fun x=>has11_calls (HVN.out.later (Ext.trans HE4.out x.ext)) HGG.out.len HGG.out.hi.1 HGG.out.hi.2 _ _ _) ?_
    repeat' (first|refine Y_gt ?_|refine Y_q ?_|fail)
    refine Y_store (off:=0) HBO4.out HGo.out (fun W5 hM5 hG5x hB5=>?_)
    have HM5:=Lib.hid hM5
    have HB5:=Lib.hid (fput hB5)
    clear hM5 hG5x hB5
    repeat' (first|refine Y_q ?_|refine Y_nil ?_)
    repeat' (first|refine W_ret ?_|go_step)
    exact Body_retcellv (cs:=RepS.cs (s) _ _ _) hd (does_end HH.out HE1.out HEC.out HMc.out HRc.out HM5.out h6W h61 HVO.out) HB5.out (fun k hk=>cs_fenc hk) Tryz.underlying33
  · have hrb:(s.role != 3) = true:=by simp [hr]
    have HR3:=Lib.hid hr
    clear hr
    have HE1:=HE
    have HVO:=Lib.hid (HVN.out.later HE.out)
    replace HE:=Lib.hid (Ext.refl W1)
    have h61:=HBO.out.lt
    skip
    refine X_ret Tryz.func25 (has_no (((HH.out.later HE1.out).later HE.out).rep) HGG.out.ne HR3.out _ _ _) (fun r w4 hR=>?_)
    obtain ⟨rfl,hE9⟩:=hR
    obtain ⟨hM,hRp⟩:Mod F _ _∧Rep _ b (fun k=>F k∨W1.heap.size≤k) s:=⟨hE9.mono (fun _ _ h=>h.elim),((((HH.out.later HE1.out).later HE.out).later hE9).rep).mono (fun k hk=>.inl hk)⟩
    have HMc:=Lib.hid hM
    have HRc:=Lib.hid hRp
    have HEC:=HE
    clear hM hRp
    replace HBS:=Lib.hid (HBS.out.later hE9)
    replace HBA:=Lib.hid (HBA.out.later hE9)
    replace HBO4:=Lib.hid (HBO.out.later hE9)
    have HE4:=Lib.hid (Ext.trans HE1.out hE9)
    clear hE9 hbol e0
    clear hal e8 e9 e10
    clear hlt d0 d1 d2 d3 d4 d5 d6 d7 d8 d9 d10
    have hal:=HBA.out.lt
    have e8:=HBA.out.cell (k:=8) (by omega)
    change World.cell? _ _ = some (.int .i64 a'.ent.id) at e8
    have e9:=HBA.out.cell (k:=9) (by omega)
    change World.cell? _ _ = some (.int .i64 a'.ent.num) at e9
    have e10:=HBA.out.cell (k:=10) (by omega)
    change World.cell? _ _ = some (.int .i64 a'.ent.seq) at e10
    have hbol:=HBO4.out.lt
    obtain ⟨hlt,d0,d1,d2,d3,d4,d5,d6,d7,d8,d9,d10⟩:=fcells HBS.out
    repeat' (first|refine X_q ?_|refine X_nil ?_|refine W_seqk (fun K hK=>?_)|refine W_seqr ?_|refine W_tt ?_|go_step)
    refine X_fload HBS.out ?_ (hu:=Tryz.underlying33)
    repeat' (first|refine X_gt ?_|refine X_q ?_|fail)
    refine X_store (off:=0) HBO4.out (fun W5 hM5 hB5=>?_)
    have HM5:=Lib.hid hM5
    have HB5:=Lib.hid (fput hB5)
    clear hM5 hB5
    repeat' (first|refine X_q ?_|refine X_nil ?_|refine W_ret ?_|go_step)
    exact Body_retcellv (cs:=RepS.cs (s) _ _ _) hd (does_end HH.out HE1.out HEC.out HMc.out HRc.out HM5.out h6W h61 HVO.out) HB5.out (fun k hk=>cs_fenc hk) Tryz.underlying33
end Go.Ws
