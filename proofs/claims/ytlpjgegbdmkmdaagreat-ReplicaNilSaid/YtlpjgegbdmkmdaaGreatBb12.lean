/- Lemmas for the statements of this layer (joined texts); no condition. -/
import Derived.Test.YtlpjgegbdmkmdaaGreatBb07
import Derived.Test.YtlpjgegbdmkmdaaGreatBb10
import Derived.Test.YtlpjgegbdmkmdaaGreatBb11
namespace Go.Ws
open Go Go.RowKit Go.Proofs
set_option maxHeartbeats 2000000
set_option maxRecDepth 100000
set_option linter.unusedVariables false
set_option linter.unusedSimpArgs false
def RepS.sent (s:RepS) (e:Ent):Ent:={ e with ep:=gmax s.epoch 1 }
def RepS.appNo (s:RepS) (e:Ent):Int :=
  if rightB (s.sent e) = false then 2 else if s.role ≠ 3 then 211 else if (s.isr.length:Int) < s.least then 212
  else if checkNo s.log (s.sent e) ≠ 0 then checkNo s.log (s.sent e) else if 4096≤s.log.length then 3 else 0
def RepS.app (s:RepS) (e:Ent):RepS:=if s.appNo e = 0 then { s with log:=s.log ++ [s.sent e] } else s
theorem appendNo_nil (x:Ent):appendNo [] x = if rightB x = false then 2 else 0:=by
  unfold appendNo lastEp
  split
  · rfl
  · rw [if_neg (by simp)];simp
theorem RepAt.grow {w w1 w2 : World} {b : Nat} {uL uI uC u : Value} {s : RepS} {l' : List Ent} (h : RepAt w b uL uI uC s) (hM : Mod (fun k => uL.ownBlock = some k) w w1) (hO : OwnE w1 u l') (hF : u.ownBlock = uL.ownBlock ∨ ∃ g, u.ownBlock = some g ∧ w.heap.size ≤ g)
    (hM2:Mod (· = b) w1 w2) (hB2:Blk w2 b 72 15 (put (renc s uL uI uC) 12 [u])):RepAt w2 b u uI uC { s with log:=l' }:=by
  have hlt:=h.blk.lt
  have n1:u.ownBlock ≠ some b:=by
    rcases hF with hF|⟨g,hF,hg⟩
    · rw [hF];exact h.nL
    · rw [hF];intro h;cases h;omega
  refine ⟨hB2.congr (all15 (by refine ⟨?_,?_,?_,?_,?_,?_,?_,?_,?_,?_,?_,?_,?_,?_,?_⟩ <;> rfl)),hO.mod hM2 (fun k hk he=>n1 (he▸hk)),(h.ri.mod hM (fun k hk he=>(h.nX k he).1 hk)).mod hM2 (fun k hk he=>h.nI (he▸hk)),(h.rc.mod hM (fun k hk he=>(h.nX k he).2 hk)).mod hM2 (fun k hk he=>h.nC (he▸hk)),n1,h.nI,h.nC,fun k hk=>?_⟩
  rcases hF with hF|⟨g,hF,hg⟩
  · exact h.nX k (hF▸hk)
  · rw [hF] at hk;cases hk
    exact ⟨fun h'=>by have:=h.ri.ownlt h';omega,fun h'=>by have:=h.rc.ownlt h';omega⟩
theorem checkNo_long {l:List Ent} {e:Ent} (h:checkNo l e = 0):l.length < 4096:=by
  unfold checkNo at h
  by_cases ha:appendNo l e = 0
  · unfold appendNo at ha
    split at ha
    · cases ha
    · split at ha
      · cases ha
      · omega
  · rw [if_pos ha] at h;exact absurd h ha
theorem append_rep {w : World} {b : Nat} {F : Nat → Prop} {s : RepS} (h : Rep w b F s) (hs : s.least ≠ 0) (hok : ofNo s.log = 0) (hl : s.log.length ≤ 4096) (e : Ent) :
    Ret Tryz.prog 21 #[.pointer (some ⟨b,0,none⟩),e.v] w fun r w'=>r = .tuple #[.int .i64 (if s.appNo e = 0 then (s.log.length:Int) else 0),.int .i64 (s.appNo e)]∧Mod F w w'∧Rep w' b (fun k=>F k∨w.heap.size≤k) (s.app e):=by
  refine h.tight (R:=fun r _=>r = .tuple #[.int .i64 (if s.appNo e = 0 then (s.log.length:Int) else 0),.int .i64 (s.appNo e)]) ?_
  intro F h hFW
  have hFb:=Lib.hid h.own
  have HFW:=Lib.hid hFW
  clear hFW
  have HP:=Lib.hid h
  obtain ⟨uL,uI,uC,h,hf⟩:=h.ex
  have H:=Lib.hid h
  have HFF:=Lib.hid hf
  obtain ⟨hlt,-,-,d2,-,d8,d9,d10,d11,d12,d13,d14⟩:=h.cells
  obtain ⟨A1,c1,rfl,hc1,hc2,-⟩:=h.rdL.ent
  obtain ⟨A2,c2,rfl,-⟩:=h.ri.int
  have HLT:=Lib.hid h.lt
  clear h hf
  have hgm:(if s.epoch < 1 then (1:Int) else s.epoch) = gmax s.epoch 1:=rfl
  refine Fn_ofD Tryz.func21 rfl (Nat.le_of_ble_eq_true rfl) ?_;intro A hd hA;simp only [ix,Nat.reduceAdd];replace hA:A.tmps.size = 80:=hA
  repeat' (first|refine X_q ?_|refine X_nil ?_|refine W_seqk (fun K hK=>?_)|refine W_seqr ?_|(refine X_s (fun x K hK=>?_);go_simp;refine hK _ _ (Ext.alloc _ _) ?_;clear hK K;refine X_al x ?_;generalize (World.later _ x).heap.size = bn;intro yn hn1 hn2 hn3 hn4 hn5;clear x)|go_step)
  rename_i bv yv p1 p2 p3 p4 p5
  refine X_defc (be:=bn) hd hA (fun W hE=>by unfold execOp caughtD;go_simp) ?_;have hbe:=Lib.hid (Blk.one hn5.out);clear hd hA A;intro A hd hA;obtain ⟨be,hbe0⟩:∃ be:Nat,be = bn:=⟨_,rfl⟩;subst hbe0
  have HX:=Lib.hid ((Blk.new p5.out).later yn.2)
  have hbvn:bv ≠ be:=by omega
  have hbvb:bv ≠ b:=by omega
  have hbnw:w.heap.size≤be:=by have:=yv.2.size;omega
  have hbvw:w.heap.size≤bv:=p1
  have HE:=Lib.hid (by simp:Ext w ((w.later yv).later yn))
  clear p1 p2 p3 p4 p5 hn1 hn2 hn3 hn4 hn5
  repeat' (first|refine X_pure Tryz.func33 (none_of (HP.out.later (by simp)) hs) ?_|refine X_pure Tryz.func50 (must_ok _) ?_|refine X_q ?_|refine X_nil ?_|refine W_seqk (fun K hK=>?_)|refine W_seqr ?_|go_step)
  refine X_store (off:=0) HX.out (fun W1 hM1 hB1=>?_)
  have HE:=Lib.hid (Ext.fresh HE.out hM1 (fun k hk=>by subst hk;exact hbvw))
  have HBE:=Lib.hid (hbe.out.mod hM1 (fun h=>by omega))
  have HX:Hid (Blk W1 bv 45 6 (fun k=>(s.sent e).cs.getD k undef)):=Lib.hid (hB1.congr (fun k hk=>by
    simp only [List.size_toArray,List.length_cons,List.length_nil] at hk
    obtain rfl|rfl|rfl|rfl|rfl|rfl:k = 0∨k = 1∨k = 2∨k = 3∨k = 4∨k = 5:=by omega
    all_goals rfl))
  clear hM1 hB1 hbe
  have x0:=HX.out.cell (k:=0) (by decide)
  have x1:=HX.out.cell (k:=1) (by decide)
  have x2:=HX.out.cell (k:=2) (by decide)
  have x3:=HX.out.cell (k:=3) (by decide)
  have x4:=HX.out.cell (k:=4) (by decide)
  have x5:=HX.out.cell (k:=5) (by decide)
  have hbv:=HX.out.lt
  simp only [Ent.cs,List.getD_cons_zero,List.getD_cons_succ] at x0 x1 x2 x3 x4 x5
  obtain ⟨G,hG⟩:∃ G:Nat→Prop,G = (fun k=>W1.heap.size≤k):=⟨_,rfl⟩
  have hGbv:¬ G bv:=by subst hG;simp;omega
  have HG:=Lib.hid hG
  clear hG
  have hnew:∀ x:Later W1,Ret Tryz.prog 55 #[] (W1.later x) (fun v w'=>(∃ bt,v = .pointer (some ⟨bt,0,none⟩)∧Ext W1 w'∧Tab w' bt G [])∧Mod G (W1.later x) w'):=fun x =>
    (tabNew_calls (W1.later x)).mono fun v w' hR=>by
      obtain ⟨bt,h1,h2,h3⟩:=hR
      exact ⟨⟨bt,h1,Ext.trans x.2 h2,h3.mono (fun k hk=>by rw [HG.out];exact Nat.le_trans x.2.size hk)⟩,h2.mod⟩
  have HNEW:=Lib.hid hnew
  clear hnew
  have happ:∀ (W2:World) (bt:Nat),Tab W2 bt G []→Ext W1 W2→∀ x:Later W2,Ret Tryz.prog 56 #[.pointer (some ⟨bt,0,none⟩),(s.sent e).v] (W2.later x) (fun v w'=>(v = .int .i64 (appendNo [] (s.sent e))∧Ext W1 w')∧Mod G (W2.later x) w'):=fun W2 bt hT hE x =>
    (tabAppend_calls (hT.later x.2) (s.sent e)).mono fun v w' hR=>by
      exact ⟨⟨hR.1,Ext.fresh (Ext.trans hE x.2) hR.2.1 (fun k hk=>by rw [HG.out] at hk;exact hk)⟩,hR.2.1⟩
  have HAPP:=Lib.hid happ
  clear happ
  repeat' (first|refine X_nil ?_|refine W_seqk (fun K hK=>?_)|go_step)
  by_cases h1:rightB (s.sent e) = true
  · have hno:appendNo [] (s.sent e) = 0:=by rw [appendNo_nil,if_neg (by simp [h1])]
    refine W_drawG G [(1,0),(0,1),(2,1),(3,0),(4,1)] (by kernel_rfl) (by kernel_rfl) ?_
    repeat' (first|refine Y_q ?_|fail)
    refine Y_ret Tryz.func55 HNEW.out (fun v W2 hR=>?_)
    obtain ⟨bt,rfl,hE2,hT⟩:=hR
    obtain ⟨y2,rfl⟩:=hE2.get
    have HT:=Lib.hid hT
    clear hE2 hT
    skip
    refine Y_ret Tryz.func56 (HAPP.out _ _ HT.out y2.2) (fun v W3 hR=>?_)
    obtain ⟨rfl,hE3⟩:=hR
    rw [hno]
    obtain ⟨y3,rfl⟩:=hE3.get
    clear hE3 HT y2
    repeat' (first|refine Y_pure Tryz.func50 (fun x=>must_ok 2) ?_|refine Y_q ?_|refine Y_nil ?_)
    have hE13:Ext W1 (World.later W1 y3):=y3.2
    generalize World.later W1 y3 = W at *
    have HBE:=Lib.hid (HBE.out.later hE13)
    have HX:=Lib.hid (HX.out.later hE13)
    have HE:=Lib.hid (Ext.trans HE.out hE13)
    have HH:=Lib.hid (H.out.later HE.out)
    have HPP:=Lib.hid (HP.out.later HE.out)
    clear hE13 y3 x0 x1 x2 x3 x4 x5 hbv
    have x0:=HX.out.cell (k:=0) (by decide)
    have x1:=HX.out.cell (k:=1) (by decide)
    have x2:=HX.out.cell (k:=2) (by decide)
    have x3:=HX.out.cell (k:=3) (by decide)
    have x4:=HX.out.cell (k:=4) (by decide)
    have x5:=HX.out.cell (k:=5) (by decide)
    have hbv:=HX.out.lt
    simp only [Ent.cs,List.getD_cons_zero,List.getD_cons_succ] at x0 x1 x2 x3 x4 x5
    clear hlt d2 d8 d9 d10 d11 d12 d13 d14
    obtain ⟨hlt,-,-,d2,-,d8,d9,d10,d11,d12,d13,d14⟩:=HH.out.cells
    by_cases h3:s.role = 3
    · have h3b:(s.role == 3) = true:=by simp [h3]
      repeat' (first|refine X_pure Tryz.func50 (must_ok 211) ?_|refine X_q ?_|refine X_nil ?_|refine W_seqk (fun K hK=>?_)|refine W_seqr ?_|go_step)
      by_cases h4:s.least≤(s.isr.length:Int)
      · have h4b:decide (s.least≤(s.isr.length:Int)) = true:=by simpa using h4
        refine W_drawσ [(0,0),(1,0),(2,0),(3,0),(4,0),(5,0),(6,0),(7,0),(8,0),(9,0),(10,0),(11,1)] (by kernel_rfl) (by kernel_rfl) ?_
        repeat' (first|(refine X_pure1 Tryz.func50 (fun _=>must_ok 212) ?_)|refine X_q ?_|refine X_niln ?_|refine W_seqk (fun K hK=>?_)|refine W_seqr ?_|go_step)
        refine X_ret Tryz.func57 (tabOf_calls s.log _ _ HH.out.rdL) (fun v W2 hR=>?_)
        obtain ⟨hE2,hR,-⟩:=hR
        obtain ⟨bt,rfl,hT⟩:=hR hok
        have HT:=Lib.hid hT
        obtain ⟨y2,rfl⟩:=hE2.get
        clear hE2 hT hR
        by_cases h5:checkNo s.log (s.sent e) = 0
        · have HCK:=Lib.hid (h5▸tabCheck_calls HT.out hok (s.sent e))
          have hlen:s.log.length < 4096:=checkNo_long h5
          have hlen':(s.log.length:Int) < 4096:=by omega
          have hap:s.appNo e = 0:=by unfold RepS.appNo;rw [if_neg (by simp [h1]),if_neg (by simp [h3]),if_neg (by omega),if_neg (by simp [h5]),if_neg (by omega)]
          have ha:s.app e = { s with log:=s.log ++ [s.sent e] }:=by unfold RepS.app;rw [if_pos hap]
          have HA:=Lib.hid ha
          have HAP:=Lib.hid hap
          clear ha hap
          repeat' (first|refine X_pure Tryz.func58 (HCK.out) ?_|refine X_pure Tryz.func50 (must_ok _) ?_|refine X_q ?_|refine X_nil ?_|refine W_seqk (fun K hK=>?_)|refine W_seqr ?_|go_step)
          have hE2:Ext W (W.later y2):=y2.2
          generalize World.later W y2 = W2 at *
          have HH2:=Lib.hid (HH.out.later hE2)
          have HBE2:=Lib.hid (HBE.out.later hE2)
          have HE2:=Lib.hid (Ext.trans HE.out hE2)
          have hX2:=HX.out.later hE2
          clear x0 x1 x2 x3 x4 x5 hbv hlt d2 d8 d9 d10 d11 d12 d13 d14 y2 hE2 HCK HT
          have x0:=hX2.cell (k:=0) (by decide)
          have x1:=hX2.cell (k:=1) (by decide)
          have x2:=hX2.cell (k:=2) (by decide)
          have x3:=hX2.cell (k:=3) (by decide)
          have x4:=hX2.cell (k:=4) (by decide)
          have x5:=hX2.cell (k:=5) (by decide)
          have hbv:=hX2.lt
          simp only [Ent.cs,List.getD_cons_zero,List.getD_cons_succ] at x0 x1 x2 x3 x4 x5
          obtain ⟨hlt,-,-,d2,-,d8,d9,d10,d11,d12,d13,d14⟩:=HH2.out.cells
          clear hX2
          refine W_drawσ [(0,0),(1,0),(2,0),(3,0),(4,0),(5,0),(6,1),(7,2),(8,0),(9,0),(10,2)] (by kernel_rfl) (by kernel_rfl) ?_
          repeat' (first|refine X_q ?_|(refine X_s (fun x K hK=>?_);go_simp;refine hK _ _ (Ext.alloc _ _) ?_;clear hK K;refine X_al x ?_;generalize (World.later _ x).heap.size = bn;intro yn hn1 hn2 hn3 hn4 hn5;clear x)|fail)
          refine X_append (xs:=s.log) elemEnt (HH2.out.own.later (by simp)) (Rd.one (x:=s.sent e) hn2 hn3 rfl) (by simp;omega) (by unfold maxLen;simp;omega) (fun v' W3 hM3 hO3 hF3 hN3=>?_)
          obtain ⟨A3,m3,c3,rfl⟩:=own_slice hO3
          have hb2n:¬ (Value.slice A1 s.log.length c1).ownBlock = some b:=HH2.out.nL
          have hE23:Ext W2 (W2.later yn):=yn.2
          have hM23:Mod (fun k=>(Value.slice A1 s.log.length c1).ownBlock = some k) W2 W3:=Mod.trans hE23 hM3 (fun _ _ h=>h.elim) (fun _ _ h=>h)
          have hF3':(Value.slice A3 m3 c3).ownBlock = (Value.slice A1 s.log.length c1).ownBlock∨∃ g,(Value.slice A3 m3 c3).ownBlock = some g∧W2.heap.size≤g:=hF3.imp id (fun ⟨g,h1,h2⟩=>⟨g,h1,Nat.le_trans hE23.size h2⟩)
          have HH3:=Lib.hid (HH2.out.blk.mod hM23 hb2n)
          have HO3:=Lib.hid hO3
          have HF3:=Lib.hid hF3'
          have HM23:=Lib.hid hM23
          clear hO3 hF3' hF3 hM3 hN3 hM23
          repeat' (first|refine X_q ?_|fail)
          refine X_store (off:=12) HH3.out (fun W4 hM4 hB4=>?_)
          have HA4:=Lib.hid (HH2.out.grow HM23.out HO3.out HF3.out hM4 hB4)
          have HM4:=Lib.hid (Mod.trans HM23.out hM4 (H:=fun k=>k = b∨(Value.slice A1 s.log.length c1).ownBlock = some k) (fun _ _ h=>.inr h) (fun _ _ h=>.inl h))
          have hnbn:¬ (be = b∨(Value.slice A1 s.log.length c1).ownBlock = some be):=by
            rintro (h|h)
            · have:=HLT.out b (.inl rfl);omega
            · have:=HLT.out be (.inr (.inl h));omega
          have HBE4:=Lib.hid (HBE2.out.mod HM4.out hnbn)
          clear hM4 hB4 hlt d2 d8 d9 d10 d11 d12 d13 d14 x0 x1 x2 x3 x4 x5 hbv
          obtain ⟨A5,c5,hA5,-⟩:=HA4.out.rdL.ent
          simp only [List.length_append,List.length_cons,List.length_nil,Nat.zero_add] at hA5
          cases hA5
          obtain ⟨hlt,-,-,-,-,-,-,-,-,d12,-,-⟩:=HA4.out.cells
          have hm1:((s.log.length + 1:Nat):Int) - 1 = (s.log.length:Int):=by omega
          repeat' (first|refine X_q ?_|refine X_niln ?_|refine W_seqk (fun K hK=>?_)|refine W_seqr ?_|go_step)
          refine X_store (off:=0) HBE4.out (fun W5 hM5 hB5=>?_)
          have HB5:=Lib.hid hB5
          have HM5:=Lib.hid hM5
          clear hM5 hB5
          repeat' (first|refine X_nil ?_|refine W_ret ?_|go_step)
          refine End_okT hd (HB5.out.congr (g':=fun _=>.int .i64 0) (fun k hk=>by obtain rfl:k = 0:=(by omega);rfl)) ⟨by rw [HAP.out],?_,?_⟩
          · refine Mod.trans (Mod.trans HE2.out HM4.out (H:=F) (fun _ _ h=>h.elim) (fun k hk h=>?_)) HM5.out (fun _ _ h=>h) (fun k hk h=>by subst h;omega)
            rcases h with h|h
            · subst h;exact hFb.out
            · exact HFF.out k (.inr (.inl h))
          · rw [HA.out]
            refine ⟨_,_,_,HA4.out.mod HM5.out (fun k hk h=>?_),fun k hk=>?_⟩
            · subst h
              rcases hk with h|h|h|h
              · exact hnbn (.inl h)
              · rcases HF3.out with h'|⟨g,h',hg⟩
                · exact hnbn (.inr (h'▸h))
                · rw [h'] at h;cases h
                  have:=HBE2.out.lt;omega
              · have:=HLT.out k (.inr (.inr (.inl h)));omega
              · have:=HLT.out k (.inr (.inr (.inr h)));omega
            · rcases hk with h|h|h|h
              · subst h;exact .inl hFb.out
              · rcases HF3.out with h'|⟨g,h',hg⟩
                · exact .inl (HFF.out k (.inr (.inl (h'▸h))))
                · rw [h'] at h;cases h
                  exact .inr (Nat.le_trans HE2.out.size hg)
              · exact .inl (HFF.out k (.inr (.inr (.inl h))))
              · exact .inl (HFF.out k (.inr (.inr (.inr h))))
        · have hap:s.appNo e = checkNo s.log (s.sent e):=by unfold RepS.appNo;rw [if_neg (by simp [h1]),if_neg (by simp [h3]),if_neg (by omega),if_pos h5]
          have ha:s.app e = s:=by unfold RepS.app;rw [if_neg (by rw [hap];exact h5)]
          have HA:=Lib.hid ha
          have HAP:=Lib.hid hap
          clear ha hap
          have hck:=tabCheck_calls HT.out hok (s.sent e)
          generalize checkNo s.log (s.sent e) = no at *
          have HCK:=Lib.hid hck
          have h5b:(no == 0) = false:=beq_false_of_ne h5
          clear hck
          repeat' (first|refine X_pure Tryz.func58 (HCK.out) ?_|refine X_q ?_|refine X_nil ?_|refine W_seqk (fun K hK=>?_)|refine W_seqr ?_|go_step)
          refine X_die Tryz.func50 (must_no no) (fun c w' hC=>?_)
          obtain ⟨rfl,hE4⟩:=hC
          have hE:Ext w w':=Ext.trans HE.out (Ext.trans y2.2 hE4)
          refine End_noT hd (HBE.out.later (Ext.trans y2.2 hE4)) (fun W1 hM=>?_)
          have hM':=Ext.fresh hE hM (fun k hk=>by subst hk;omega)
          exact ⟨by rw [HAP.out];first|rfl|rw [if_neg h5],hM'.mono (fun _ _ h=>h.elim),by rw [HA.out];exact (HP.out.later hM').mono (fun k hk=>.inl hk)⟩
      · have h4b:decide (s.least≤(s.isr.length:Int)) = false:=by simpa using h4
        have hap:s.appNo e = 212:=by unfold RepS.appNo;rw [if_neg (by simp [h1]),if_neg (by simp [h3]),if_pos (by omega)]
        have ha:s.app e = s:=by unfold RepS.app;rw [hap];rfl
        have HA:=Lib.hid ha
        have HAP:=Lib.hid hap
        clear ha hap
        refine W_die [(0,0),(1,0),(2,0),(3,0),(4,0),(5,0),(6,0),(7,0),(8,0),(9,0),(10,0)] 11 (by kernel_rfl) (by kernel_rfl) ?_
        repeat' (first|refine X_q ?_|refine X_niln ?_|fail)
        refine Dies_call Tryz.func50 (must_no 212) (fun c w' hC=>?_)
        obtain ⟨rfl,hE4⟩:=hC
        have hE:Ext w w':=Ext.trans HE.out hE4
        refine End_noT hd (HBE.out.later hE4) (fun W1 hM=>?_)
        have hM':=Ext.fresh hE hM (fun k hk=>by subst hk;omega)
        exact ⟨by rw [HAP.out];first|rfl|rw [if_neg h5],hM'.mono (fun _ _ h=>h.elim),by rw [HA.out];exact (HP.out.later hM').mono (fun k hk=>.inl hk)⟩
    · have h3b:(s.role == 3) = false:=by simp [h3]
      have hap:s.appNo e = 211:=by unfold RepS.appNo;rw [if_neg (by simp [h1]),if_pos h3]
      have ha:s.app e = s:=by unfold RepS.app;rw [hap];rfl
      have HA:=Lib.hid ha
      have HAP:=Lib.hid hap
      clear ha hap
      repeat' (first|refine X_q ?_|refine W_seqk (fun K hK=>?_)|refine W_seqr ?_|go_step)
      refine X_die Tryz.func50 (must_no 211) (fun c w' hC=>?_)
      obtain ⟨rfl,hE4⟩:=hC
      have hE:Ext w w':=Ext.trans HE.out hE4
      refine End_noT hd (HBE.out.later hE4) (fun W1 hM=>?_)
      have hM':=Ext.fresh hE hM (fun k hk=>by subst hk;omega)
      exact ⟨by rw [HAP.out];first|rfl|rw [if_neg h5],hM'.mono (fun _ _ h=>h.elim),by rw [HA.out];exact (HP.out.later hM').mono (fun k hk=>.inl hk)⟩
  · have h1f:rightB (s.sent e) = false:=by simpa using h1
    have hno:appendNo [] (s.sent e) = 2:=by rw [appendNo_nil,if_pos h1f]
    have hap:s.appNo e = 2:=by unfold RepS.appNo;rw [if_pos h1f]
    have ha:s.app e = s:=by unfold RepS.app;rw [hap];rfl
    have HA:=Lib.hid ha
    have HAP:=Lib.hid hap
    clear ha hap
    refine W_dieG G [(1,0),(0,1),(2,1),(3,0)] 4 (by kernel_rfl) (by kernel_rfl) ?_
    repeat' (first|refine Y_q ?_|fail)
    refine Y_ret Tryz.func55 HNEW.out (fun v W2 hR=>?_)
    obtain ⟨bt,rfl,hE2,hT⟩:=hR
    obtain ⟨y2,rfl⟩:=hE2.get
    have HT:=Lib.hid hT
    clear hE2 hT
    skip
    refine Y_ret Tryz.func56 (HAPP.out _ _ HT.out y2.2) (fun v W3 hR=>?_)
    obtain ⟨rfl,hE3⟩:=hR
    rw [hno]
    repeat' (first|refine Y_q ?_|refine Y_nil ?_)
    refine Dies_call Tryz.func50 (must_no 2) (fun c w' hC=>?_)
    obtain ⟨rfl,hE4⟩:=hC
    have hE:Ext w w':=Ext.trans HE.out (Ext.trans hE3 hE4)
    refine End_noT hd (HBE.out.later (Ext.trans hE3 hE4)) (fun W1 hM=>?_)
    have hM':=Ext.fresh hE hM (fun k hk=>by subst hk;omega)
    exact ⟨by rw [HAP.out];first|rfl|rw [if_neg h5],hM'.mono (fun _ _ h=>h.elim),by rw [HA.out];exact (HP.out.later hM').mono (fun k hk=>.inl hk)⟩
structure Reply where
  epoch:Int
  base:Int
  last:Int
  cut:Bool
  cutEpoch:Int
  cutEnd:Int
  entries:List Ent
  high:Int
abbrev Reply.cs (p:Reply) (u:Value):List Value:=[.int .i64 p.epoch,.int .i64 p.base,.int .i64 p.last,.bool p.cut,.int .i64 p.cutEpoch,.int .i64 p.cutEnd,u,.int .i64 p.high]
abbrev Reply.v (p:Reply) (u:Value):Value:=.agg #[.int .i64 p.epoch,.int .i64 p.base,.int .i64 p.last,.bool p.cut,.int .i64 p.cutEpoch,.int .i64 p.cutEnd,u,.int .i64 p.high]
def Reply.zero:Reply:=⟨0,0,0,false,0,0,[],0⟩
def RepS.fetchMay (s:RepS) (f:Fetch) (most:Int):Bool :=
  inB f.src 0 3 && (f.src != s.self) && decide (0≤f.epoch) && decide (0≤f.offset) && decide (0≤f.last) && decide (0≤f.flushed) && decide (f.flushed≤f.offset) && decide (0≤most)
def RepS.serveNo (s:RepS) (f:Fetch) (most:Int):Int:=if s.fetchMay f most = false then 2 else if s.role ≠ 3 then 211 else if f.epoch ≠ s.epoch then 210 else 0
def RepS.serve (s:RepS) (f:Fetch) (most:Int):RepS :=
  if s.serveNo f most ≠ 0 then s else if fitsE s.log f.offset f.last = true then ({ s with known:=setK s.known f.src.toNat (gmax (s.known f.src.toNat) f.flushed) }:RepS).count else s
def RepS.reply (s:RepS) (f:Fetch) (most:Int):Reply :=
  if s.serveNo f most ≠ 0 then Reply.zero else
  if fitsE s.log f.offset f.last = true then ⟨s.epoch,f.offset,f.last,false,0,0,(s.log.drop f.offset.toNat).take (gmin most 4096).toNat,(s.serve f most).high⟩
  else ⟨s.epoch,f.offset,f.last,true,lastE (s.log.take (aboveE s.log f.last)),aboveE s.log f.last,[],s.high⟩
theorem reply_zero_cs {k:Nat} (hk:k < (Reply.zero.cs (.slice none 0 0)).length) {E:TypeId} {g:Nat→Value} (hg:g = fun k=>#[Value.int .i64 0,.int .i64 0,.int .i64 0,.bool false,.int .i64 0,.int .i64 0,.slice none 0 0,.int .i64 0].getD k undef):(Reply.zero.cs (.slice none 0 0))[k]? = some (g k):=by
  subst hg
  simp only [List.length_cons,List.length_nil] at hk
  obtain rfl|rfl|rfl|rfl|rfl|rfl|rfl|rfl:k = 0∨k = 1∨k = 2∨k = 3∨k = 4∨k = 5∨k = 6∨k = 7:=by omega
  all_goals rfl
theorem count_log (s:RepS):s.count.log = s.log∧s.count.epoch = s.epoch∧s.count.self = s.self∧s.count.least = s.least∧s.count.flushed = s.flushed∧s.count.role = s.role:=by unfold RepS.count;split <;> exact ⟨rfl,rfl,rfl,rfl,rfl,rfl⟩
theorem Rd.sliceE {w:World} {xs:List Ent} {A:Option Addr} {n c i j:Nat} (h:RdE w (.slice A n c) xs) (hij:i≤j) (hj:j≤xs.length):RdE w (.slice (if c = i then A else A.map (fun x=>x.add (i * 6))) (j - i) (c - i)) ((xs.drop i).take (j - i)):=by
  have hn:=h.length
  obtain ⟨A',c',h1,h2,h3,h4⟩:=h
  cases h1
  have hl:((xs.drop i).take (j - i)).length = j - i:=by simp;omega
  refine ⟨_,_,by rw [hl],by rw [hl];omega,by omega,?_⟩
  rcases h4 with ⟨h4,rfl⟩|⟨b,o,rfl,hb,hr⟩
  · left;exact ⟨by rcases h4 with rfl|rfl;(left;split <;> rfl);(right;omega),by simp⟩
  · right
    by_cases hc:c = i
    · refine ⟨b,o,by rw [if_pos hc],hb,?_⟩
      intro k x hx j' u hu
      have:(xs.drop i).take (j - i) = []:=by rw [List.drop_eq_nil_of_le (by omega)];simp
      rw [this] at hx;cases hx
    · refine ⟨b,o + i * 6,?_,hb,(hr.drop i).take _⟩
      rw [if_neg hc]
      simp [Addr.add]
theorem reply_cs {p:Reply} {u:Value} {g:Nat→Value} (h:g 0 = .int .i64 p.epoch∧g 1 = .int .i64 p.base∧g 2 = .int .i64 p.last∧g 3 = .bool p.cut∧g 4 = .int .i64 p.cutEpoch∧g 5 = .int .i64 p.cutEnd∧g 6 = u∧g 7 = .int .i64 p.high) {k:Nat} (hk:k < (p.cs u).length):(p.cs u)[k]? = some (g k):=by
  obtain ⟨h0,h1,h2,h3,h4,h5,h6,h7⟩:=h
  simp only [List.length_cons,List.length_nil] at hk
  obtain rfl|rfl|rfl|rfl|rfl|rfl|rfl|rfl:k = 0∨k = 1∨k = 2∨k = 3∨k = 4∨k = 5∨k = 6∨k = 7:=by omega
  · rw [h0];rfl
  · rw [h1];rfl
  · rw [h2];rfl
  · rw [h3];rfl
  · rw [h4];rfl
  · rw [h5];rfl
  · rw [h6];rfl
  · rw [h7];rfl
theorem serve_rep {w : World} {b : Nat} {F : Nat → Prop} {s : RepS} (h : Rep w b F s) (hs : s.least ≠ 0) (hm : mayE s.log = true) (hl : s.log.length ≤ 4096) (hc : Bks s.counts) (f : Fetch) (most : Int) :
    Ret Tryz.prog 23 #[.pointer (some ⟨b,0,none⟩),f.v,.int .i64 most] w fun r w'=>(∃ u,r = .tuple #[(s.reply f most).v u,.int .i64 (s.serveNo f most)]∧OwnE w' u (s.reply f most).entries∧∀ k,u.ownBlock = some k→w.heap.size≤k)∧Mod F w w'∧Rep w' b (fun k=>F k∨w.heap.size≤k) (s.serve f most):=by
  refine h.tight (R:=fun r w'=>∃ u,r = .tuple #[(s.reply f most).v u,.int .i64 (s.serveNo f most)]∧OwnE w' u (s.reply f most).entries∧∀ k,u.ownBlock = some k→w.heap.size≤k) ?_
  intro F h hFW
  have hFb:=Lib.hid h.own
  have HFW:=Lib.hid hFW
  clear hFW
  have HP0:=h
  obtain ⟨uL,uI,uC,h,hf⟩:=h.ex
  have H0:=h
  have HFF:=Lib.hid hf
  obtain ⟨A1,c1,rfl,hc1,hc2,-⟩:=h.rdL.ent
  have HLT:=Lib.hid h.lt
  have hbw:=h.blk.lt
  have HP:=Lib.hid HP0
  have H:=Lib.hid H0
  clear h hf H0 HP0
  refine Fn_ofD Tryz.func23 rfl (Nat.le_of_ble_eq_true rfl) ?_;intro A hd hA;simp only [ix,Nat.reduceAdd];replace hA:A.tmps.size = 156:=hA
  repeat' (first|refine X_nil ?_|refine W_seqk (fun K hK=>?_)|refine W_seqr ?_|(refine X_s (fun x K hK=>?_);go_simp;refine hK _ _ (Ext.alloc _ _) ?_;clear hK K;refine X_al x ?_;generalize (World.later _ x).heap.size = bn;intro yn hn1 hn2 hn3 hn4 hn5;clear x)|go_step)
  rename_i bf yf f1 f2 f3 f4 f5 bp yp p1 p2 p3 p4 p5
  refine X_defc (be:=bn) hd hA (fun W hE=>by unfold execOp caughtD;go_simp) ?_;have hbe:=Lib.hid (Blk.one hn5.out);clear hd hA A;intro A hd hA;obtain ⟨be,hbe0⟩:∃ be:Nat,be = bn:=⟨_,rfl⟩;subst hbe0
  have hE:Ext w (((w.later yf).later yp).later yn):=by simp
  have HX:=Lib.hid ((Blk.new f5.out).later (Ext.trans yp.ext yn.ext))
  have HY:=Lib.hid ((Blk.new p5.out).later yn.ext)
  have h1:=yf.2.size
  have h2:=yp.2.size
  have hbfb:b < bf:=by omega
  have hbpf:bf < bp:=by omega
  have hbep:bp < be:=by omega
  have hwf:w.heap.size≤bf:=f1
  have HBE:=Lib.hid hbe.out
  clear hbe
  generalize World.later _ yn = W at *
  clear f1 f2 f3 f4 f5 p1 p2 p3 p4 p5 hn1 hn2 hn3 hn4 hn5 h1 h2 yn yp yf
  have HP1:=Lib.hid (HP.out.later hE)
  have H1:=Lib.hid (H.out.later hE)
  have HE:=Lib.hid hE
  obtain ⟨hlt,-,-,d2,-,d8,d9,d10,d11,d12,d13,d14⟩:=H1.out.cells
  have hx:=HX.out.lt
  have x0:=HX.out.cell (k:=0) (by simp)
  have x1:=HX.out.cell (k:=1) (by simp)
  have x2:=HX.out.cell (k:=2) (by simp)
  have x3:=HX.out.cell (k:=3) (by simp)
  have x4:=HX.out.cell (k:=4) (by simp)
  simp at x0 x1 x2 x3 x4
  clear hE
  repeat' (first|refine X_pure Tryz.func33 (none_of HP1.out hs) ?_|refine X_pure Tryz.func50 (must_ok _) ?_|refine X_q ?_|refine X_nil ?_|refine W_seqk (fun K hK=>?_)|refine W_seqr ?_|go_step)
  by_cases g1:s.fetchMay f most = true
  · have g1':=g1
    simp only [RepS.fetchMay,Bool.and_eq_true] at g1'
    obtain ⟨⟨⟨⟨⟨⟨⟨g11,g12⟩,g13⟩,g14⟩,g15⟩,g16⟩,g17⟩,g18⟩:=g1'
    refine W_drawσ [(0,0),(1,0),(2,1),(3,0),(4,0),(5,0),(6,0),(7,0),(8,0),(9,0),(10,0),(11,0),(12,0),(13,0),(14,0),(15,0),(16,0),(17,0),(18,0),(19,0),(20,0),(21,0),(22,0),(23,0),(24,0),(25,0),(26,0),(27,0),(28,0),(29,0),(30,0),(31,0),(32,0),(33,0),(34,0),(35,0),(36,0),(37,0),(38,0),(39,0),(40,0),(41,0),(42,0),(43,1)] (by kernel_rfl) (by kernel_rfl) ?_
    repeat' (first|(refine X_pure1 Tryz.func50 (fun _=>must_ok 2) ?_)|(refine X_pure1 Tryz.func32 (fun _=>g11▸broker_calls f.src _) ?_)|refine X_gt ?_|refine X_q ?_|refine X_niln ?_|refine W_seqk (fun K hK=>?_)|refine W_seqr ?_|go_step)
    by_cases g2:s.role = 3
    · have g2b:(s.role == 3) = true:=by simp [g2]
      repeat' (first|refine X_pure Tryz.func50 (must_ok _) ?_|refine X_nil ?_|refine W_seqk (fun K hK=>?_)|go_step)
      by_cases g3:f.epoch = s.epoch
      · have g3b:(f.epoch == s.epoch) = true:=by simp [g3]
        refine W_drawσ [(0,0),(1,0),(2,0),(3,0),(4,0),(5,0),(6,0),(7,1)] (by kernel_rfl) (by kernel_rfl) ?_
        repeat' (first|(refine X_pure1 Tryz.func50 (fun _=>must_ok 210) ?_)|refine X_q ?_|refine X_niln ?_|refine W_seqk (fun K hK=>?_)|go_step)
        refine W_draw (by kernel_rfl) (by kernel_rfl) ?_
        repeat' (first|refine X_q ?_|refine X_niln ?_|(refine X_var (fun yn bn hn1 hn2 hn3 hn4 hn5=>?_))|refine W_seqk (fun K hK=>?_)|go_step)
        obtain ⟨bo,hbo0⟩:∃ bo:Nat,bo = bn:=⟨_,rfl⟩
        subst hbo0
        have hE2:Ext W (W.later yn):=yn.ext
        have HO:=Lib.hid (Blk.new hn5.out)
        have hboW:W.heap.size≤bo:=hn1
        generalize World.later W yn = W2 at *
        clear hn1 hn2 hn3 hn4 hn5 yn
        have H2:=Lib.hid (H1.out.later hE2)
        have HBE2:=Lib.hid (HBE.out.later hE2)
        have HY2:=Lib.hid (HY.out.later hE2)
        have HE2:=Lib.hid (Ext.trans HE.out hE2)
        have hbeW:=HBE.out.lt
        clear hlt d2 d8 d9 d10 d11 d12 d13 d14
        obtain ⟨hlt,-,-,d2,-,d8,d9,d10,d11,d12,d13,d14⟩:=H2.out.cells
        have z0:=(cell?_mod hE2 hx (fun h=>h)).trans x0
        have z1:=(cell?_mod hE2 hx (fun h=>h)).trans x1
        have z2:=(cell?_mod hE2 hx (fun h=>h)).trans x2
        have z3:=(cell?_mod hE2 hx (fun h=>h)).trans x3
        have z4:=(cell?_mod hE2 hx (fun h=>h)).trans x4
        clear x0 x1 x2 x3 x4
        have hx2:bf < W2.heap.size:=Nat.lt_of_lt_of_le hx hE2.size
        clear hx hE2
        have hap:s.serveNo f most = 0:=by unfold RepS.serveNo;rw [if_neg (by simp [g1]),if_neg (by simp [g2]),if_neg (by simp [g3])]
        have HAP:=Lib.hid hap
        have hf3:0≤f.last:=by simpa using g15
        have hf2:0≤f.offset:=by simpa using g14
        have hfit:=fun (W:World) (h:RdE W (.slice A1 s.log.length c1) s.log)=>efits_calls s.log _ f.offset f.last W h hf2 hf3 hm
        have hfd:=fun (W:World) (h:RdE W (.slice A1 s.log.length c1) s.log)=>end_calls s.log _ f.last W h hf3 hm
        clear hap
        by_cases g4:fitsE s.log f.offset f.last = true
        · rw [g4] at hfit
          have HFI:=Lib.hid hfit
          clear hfit hfd
          refine W_draw (by kernel_rfl) (by kernel_rfl) ?_
          repeat' (first|refine X_pure Tryz.func60 (HFI.out _ (H2.out.rdL.later (by simp))) ?_|refine X_q ?_|refine X_niln ?_|refine X_nil ?_|refine W_seqk (fun K hK=>?_)|refine W_seqr ?_|refine W_ff ?_|go_step)
          obtain ⟨hs0,hs4⟩:0≤f.src∧f.src < 4:=by simp [inB] at g11;omega
          have hkn:=H2.out.knownAt f.src.toNat (by omega)
          refine W_draw (by kernel_rfl) (by kernel_rfl) ?_
          repeat' (first|refine X_q ?_|fail)
          refine X_store (off:=4 + f.src.toNat) H2.out.blk (fun W3 hM3 hB3=>?_)
          have hgm:(if s.known f.src.toNat < f.flushed then f.flushed else s.known f.src.toNat) = gmax (s.known f.src.toNat) f.flushed:=rfl
          have h3:=H2.out.putKnown (i:=f.src.toNat) (by omega) hM3 hB3
          rw [hgm] at h3
          have H3:=Lib.hid h3
          have HR3:Hid (Rep W3 b F ({ s with known:=setK s.known f.src.toNat (gmax (s.known f.src.toNat) f.flushed) }:RepS)):=Lib.hid ⟨_,_,_,H3.out,HFF.out⟩
          have HO3:=Lib.hid (HO.out.mod hM3 (fun h=>by omega))
          have HBE3:=Lib.hid (HBE2.out.mod hM3 (fun h=>by omega))
          have HY3:=Lib.hid (HY2.out.mod hM3 (fun h=>by omega))
          have HM3:Hid (Mod F w W3):=Lib.hid (Mod.trans HE2.out hM3 (fun _ _ h=>h.elim) (fun k _ h=>by subst h;exact hFb.out))
          have y2:=(cell?_mod hM3 (o:=2) hx2 (fun h=>by omega)).trans z2
          have hx3:bf < W3.heap.size:=Nat.lt_of_lt_of_le hx2 hM3.size
          clear hlt d2 d8 d9 d10 d11 d12 d13 d14 z0 z1 z2 z3 z4 hx2 hM3 hB3 h3 hgm hkn
          generalize hq0:({ s with known:=setK s.known f.src.toNat (gmax (s.known f.src.toNat) f.flushed) }:RepS) = q0 at *
          have hql:q0.log = s.log:=by rw [← hq0]
          have hqc:q0.counts = s.counts:=by rw [← hq0]
          have HQ0:=Lib.hid hq0
          clear hq0
          repeat' (first|refine X_q ?_|refine X_niln ?_|refine W_seqk (fun K hK=>?_)|refine W_seqr ?_|go_step)
          refine X_ret Tryz.func54 (count_calls HR3.out (by rw [hqc];exact hc)) (fun r W4 hR=>?_)
          have HM4:=Lib.hid hR.1
          have hR2:=hR.2
          have hcl:=(count_log q0).1
          generalize hq:q0.count = q at *
          have hq1:q.log = s.log:=hcl.trans hql
          have HQ:=Lib.hid hq
          have HR4:=Lib.hid hR2
          clear hR hcl hq
          obtain ⟨uL4,uI4,uC4,h4,hf4⟩:=hR2.ex
          obtain ⟨A4,c4,rfl,hc4,hc4m,-⟩:=h4.rdL.ent
          rw [hq1] at h4 hc4
          have hl4:=h4.rdL
          rw [hq1] at hl4
          have HL4:=Lib.hid hl4
          obtain ⟨hlt,-,-,d2,-,d8,d9,d10,d11,d12,d13,d14⟩:=h4.cells
          clear hR2 h4 hf4 hl4
          have x2:=(cell?_mod HM4.out (o:=2) hx3 (fun h=>by have:=HFW.out _ h;omega)).trans y2
          have hx4:bf < W4.heap.size:=Nat.lt_of_lt_of_le hx3 HM4.out.size
          clear hx3 y2
          have hfo:f.offset≤s.log.length:=by
            unfold fitsE at g4
            simp only [Bool.and_eq_true,decide_eq_true_eq] at g4
            exact g4.1
          obtain ⟨i,hi⟩:∃ i:Nat,f.offset = i:=⟨f.offset.toNat,by omega⟩
          have hil:i≤s.log.length:=by omega
          have hmo:0≤most:=by simpa using g18
          obtain ⟨m,hmm⟩:∃ m:Nat,gmin most 4096 = m:=⟨(gmin most 4096).toNat,by rw [gmin_eq];omega⟩
          have hmm':(if (4096:Int) < most then 4096 else most) = (m:Int):=hmm
          have HMM:=Lib.hid hmm
          have hm4:m≤4096:=by rw [gmin_eq] at hmm;omega
          obtain ⟨j,hj⟩:∃ j:Nat,(if (i:Int) + (m:Int) < (s.log.length:Int) then (i:Int) + (m:Int) else (s.log.length:Int)) = (j:Int):=⟨min (i + m) s.log.length,by split <;> omega⟩
          have hij:i≤j:=by split at hj <;> omega
          have hjl:j≤s.log.length:=by split at hj <;> omega
          have hji:j - i≤m∧(j - i = m∨j = s.log.length):=by split at hj <;> omega
          rw [hi] at x2
          clear hmm
          have hjc:j≤c4:=by omega
          repeat' (first|refine X_nil ?_|go_step)
          refine W_draw (by kernel_rfl) (by kernel_rfl) ?_
          repeat' (first|refine X_q ?_|fail)
          refine X_ret Tryz.func46 (cloneE_calls (HL4.out.sliceE hij hjl) (by simp;omega)) (fun u W5 hR=>?_)
          have HR5:=Lib.hid hR
          obtain ⟨hE5,-,-⟩:=hR
          have e14:=(cell?_mod hE5 (o:=14) hlt (fun h=>h)).trans d14
          have hlt5:b < W5.heap.size:=Nat.lt_of_lt_of_le hlt hE5.size
          have hne:∀ k,k < W2.heap.size→w.heap.size≤k→¬ F k:=fun k _ hk h=>by have:=HFW.out _ h;omega
          have hO5:Blk W5 bo _ _ _:=(HO3.out.mod HM4.out (fun h=>by have:=HFW.out _ h;omega)).later hE5
          have hY5:Blk W5 bp _ _ _:=(HY3.out.mod HM4.out (fun h=>by have:=HFW.out _ h;omega)).later hE5
          have hB5:Blk W5 be _ _ _:=(HBE3.out.mod HM4.out (fun h=>by have:=HFW.out _ h;omega)).later hE5
          have hM5:Mod F w W5:=(HM3.out.transG HM4.out).ext hE5
          have hR5:Rep W5 b F q:=HR4.out.later hE5
          have hbo4:bo < W4.heap.size:=Nat.lt_of_lt_of_le HO3.out.lt HM4.out.size
          have HO:=Lib.hid hO5
          have HY5:=Lib.hid hY5
          have HBE5:=Lib.hid hB5
          have HM5:=Lib.hid hM5
          have HQ5:=Lib.hid hR5
          clear hlt d2 d8 d9 d10 d11 d12 d13 d14 hE5 hO5 hY5 hB5 hM5 hR5 hne x2 hx4 HL4 HM4 HR4
          obtain ⟨Ar,mr,cr,rfl⟩:=own_slice HR5.out.2.1
          have hf5:∀ k,(Value.slice Ar mr cr).ownBlock = some k→W4.heap.size≤k:=HR5.out.2.2
          have HF5:=Lib.hid hf5
          clear hf5
          repeat' (first|refine X_q ?_|fail)
          refine X_store (off:=6) HO.out (fun W6 hM6 hB6=>?_)
          have HO:=Lib.hid hB6
          have HM6:=Lib.hid hM6
          clear hM6 hB6
          have f14:=(cell?_mod HM6.out (o:=14) hlt5 (fun h=>by omega)).trans e14
          have hlt6:b < W6.heap.size:=Nat.lt_of_lt_of_le hlt5 HM6.out.size
          clear e14 hlt5
          repeat' (first|refine X_q ?_|refine X_niln ?_|refine W_seqk (fun K hK=>?_)|refine W_seqr ?_|go_step)
          refine X_store (off:=7) HO.out (fun W7 hM7 hB7=>?_)
          have HO:=Lib.hid hB7
          have HM7:=Lib.hid (HM6.out.transG hM7)
          clear hM7 hB7 f14 hlt6
          have o0:=HO.out.cell (k:=0) (by simp)
          have o1:=HO.out.cell (k:=1) (by simp)
          have o2:=HO.out.cell (k:=2) (by simp)
          have o3:=HO.out.cell (k:=3) (by simp)
          have o4:=HO.out.cell (k:=4) (by simp)
          have o5:=HO.out.cell (k:=5) (by simp)
          have o6:=HO.out.cell (k:=6) (by simp)
          have o7:=HO.out.cell (k:=7) (by simp)
          have hbo6:=HO.out.lt
          simp [put,Value.cells] at o0 o1 o2 o3 o4 o5 o6 o7
          repeat' (first|refine X_q ?_|refine X_nil ?_|refine W_seqk (fun K hK=>?_)|refine W_seqr ?_|go_step)
          refine X_store (off:=0) (HY5.out.mod HM7.out (fun h=>by omega)) (fun W8 hM8 hB8=>?_)
          have HY8:=Lib.hid hB8
          have HBE8:=Lib.hid ((HBE5.out.mod HM7.out (fun h=>by omega)).mod hM8 (fun h=>by omega))
          have HM8:=Lib.hid (Mod.trans HM7.out hM8 (H:=fun k=>k = bo∨k = bp) (fun _ _ h=>.inl h) (fun _ _ h=>.inr h))
          clear hM8 hB8
          skip
          refine X_store (off:=0) HBE8.out (fun W9 hM9 hB9=>?_)
          have HBE9:=Lib.hid hB9
          have HY9:=Lib.hid (HY8.out.mod hM9 (fun h=>by omega))
          have HM9:=Lib.hid (Mod.trans HM8.out hM9 (H:=fun k=>k = bo∨k = bp∨k = be) (fun _ _ h=>h.elim .inl (fun h=>.inr (.inl h))) (fun _ _ h=>.inr (.inr h)))
          clear hM9 hB9
          repeat' (first|refine X_nil ?_|refine W_ret ?_|go_step)
          have hsv:s.serve f most = q:=by unfold RepS.serve;rw [if_neg (by rw [HAP.out];decide),if_pos g4,HQ0.out];exact HQ.out
          have hen:(s.log.drop f.offset.toNat).take (gmin most 4096).toNat = (s.log.drop i).take (j - i):=by
            rw [HMM.out,hi]
            show (s.log.drop (Int.toNat (i:Int))).take (Int.toNat (m:Int)) = _
            rw [Int.toNat_natCast,Int.toNat_natCast]
            rcases hji.2 with h|h
            · rw [h]
            · rw [List.take_of_length_le (by simp;omega),List.take_of_length_le (by simp;omega)]
          have hrp:s.reply f most = ⟨s.epoch,f.offset,f.last,false,0,0,(s.log.drop i).take (j - i),q.high⟩:=by unfold RepS.reply;rw [if_neg (by rw [HAP.out];decide),if_pos g4,hsv,hen]
          have hnk:∀ k,k < W4.heap.size→w.heap.size≤k→∀ a,(Value.slice Ar mr cr).ownBlock = some a→a ≠ k:=fun k hk _ a ha he=>by have:=HF5.out a ha;omega
          refine End_ok2r (cs:=(s.reply f most).cs (.slice Ar mr cr)) hd (HBE9.out.congr (g':=fun _=>.int .i64 0) (fun k hk=>by obtain rfl:k = 0:=(by omega);rfl)) HY9.out (fun k hk=>reply_cs ?_ hk) ⟨⟨.slice Ar mr cr,by rw [HAP.out],?_,?_⟩,?_,?_⟩ Tryz.underlying49
          · rw [hrp];refine ⟨?_,?_,?_,?_,?_,?_,?_,?_⟩ <;> first|rfl|(show Value.int .i64 _ = _;rw [hi])
          · rw [hrp];exact HR5.out.2.1.mod HM9.out (fun k hk h=>by have:=HF5.out k hk;omega)
          · intro k hk;have:=HF5.out k hk;have:=HE.out.size;omega
          · exact Mod.trans HM5.out HM9.out (fun _ _ h=>h) (fun k hk h=>by omega)
          · rw [hsv];exact (HQ5.out.mod HM9.out (fun k hk h=>by have:=HFW.out _ hk;omega)).mono (fun k hk=>.inl hk)
        · have g4f:fitsE s.log f.offset f.last = false:=by simpa using g4
          rw [g4f] at hfit
          have HFI:=Lib.hid hfit
          have HFD:=Lib.hid hfd
          clear hfit hfd
          refine W_draw (by kernel_rfl) (by kernel_rfl) ?_
          repeat' (first|refine X_pure Tryz.func60 (HFI.out _ (H2.out.rdL.later (by simp))) ?_|refine X_q ?_|refine X_niln ?_|refine X_nil ?_|refine W_seqk (fun K hK=>?_)|refine W_seqr ?_|refine W_tt ?_|go_step)
          refine X_store (off:=3) HO.out (fun W3 hM3 hB3=>?_)
          have HO:=Lib.hid hB3
          have HE3:=Lib.hid (Ext.fresh HE2.out hM3 (fun k hk=>by subst hk;omega))
          have HBE3:=Lib.hid (HBE2.out.mod hM3 (fun h=>by omega))
          have HY3:=Lib.hid (HY2.out.mod hM3 (fun h=>by omega))
          have H3:=Lib.hid (H.out.later HE3.out)
          have y3:=(cell?_mod hM3 (o:=3) hx2 (fun h=>by omega)).trans z3
          have hx3:bf < W3.heap.size:=Nat.lt_of_lt_of_le hx2 hM3.size
          clear hlt d2 d8 d9 d10 d11 d12 d13 d14 z0 z1 z2 z3 z4 hx2 hM3 hB3
          obtain ⟨hlt,-,-,d2,-,d8,d9,d10,d11,d12,d13,d14⟩:=H3.out.cells
          repeat' (first|refine X_nil ?_|go_step)
          refine W_draw (by kernel_rfl) (by kernel_rfl) ?_
          repeat' (first|refine X_pure Tryz.func61 (HFD.out _ (H3.out.rdL.later (by simp))) ?_|refine X_q ?_|fail)
          refine X_store (off:=4) HO.out (fun W4 hM4 hB4=>?_)
          have HO:=Lib.hid hB4
          have HM4:=Lib.hid hM4
          clear hM4 hB4
          repeat' (first|refine X_q ?_|fail)
          refine X_store (off:=5) HO.out (fun W5 hM5 hB5=>?_)
          have HO:=Lib.hid hB5
          have HM5:=Lib.hid (HM4.out.transG hM5)
          clear hM5 hB5
          have e14:=(cell?_mod HM5.out (o:=14) hlt (fun h=>by omega)).trans d14
          have hlt5:b < W5.heap.size:=Nat.lt_of_lt_of_le hlt HM5.out.size
          repeat' (first|refine X_q ?_|refine X_niln ?_|refine W_seqk (fun K hK=>?_)|refine W_seqr ?_|go_step)
          refine X_store (off:=7) HO.out (fun W6 hM6 hB6=>?_)
          have HO:=Lib.hid hB6
          have HM6:=Lib.hid (HM5.out.transG hM6)
          clear hM6 hB6
          have o0:=HO.out.cell (k:=0) (by simp)
          have o1:=HO.out.cell (k:=1) (by simp)
          have o2:=HO.out.cell (k:=2) (by simp)
          have o3:=HO.out.cell (k:=3) (by simp)
          have o4:=HO.out.cell (k:=4) (by simp)
          have o5:=HO.out.cell (k:=5) (by simp)
          have o6:=HO.out.cell (k:=6) (by simp)
          have o7:=HO.out.cell (k:=7) (by simp)
          have hbo6:=HO.out.lt
          simp [put,Value.cells] at o0 o1 o2 o3 o4 o5 o6 o7
          repeat' (first|refine X_q ?_|refine X_nil ?_|refine W_seqk (fun K hK=>?_)|refine W_seqr ?_|go_step)
          refine X_store (off:=0) (HY3.out.mod HM6.out (fun h=>by omega)) (fun W7 hM7 hB7=>?_)
          have HY7:=Lib.hid hB7
          have HM7:=Lib.hid (Ext.fresh (Ext.fresh HE3.out HM6.out (fun k hk=>by omega)) hM7 (fun k hk=>by omega))
          have HBE7:=Lib.hid ((HBE3.out.mod HM6.out (fun h=>by omega)).mod hM7 (fun h=>by omega))
          clear hM7 hB7
          skip
          refine X_store (off:=0) HBE7.out (fun W8 hM8 hB8=>?_)
          have HBE8:=Lib.hid hB8
          have HY8:=Lib.hid (HY7.out.mod hM8 (fun h=>by omega))
          have HE8:=Lib.hid (Ext.fresh HM7.out hM8 (fun k hk=>by omega))
          clear hM8 hB8
          repeat' (first|refine X_nil ?_|refine W_ret ?_|go_step)
          have hrp:s.reply f most = ⟨s.epoch,f.offset,f.last,true,lastE (s.log.take (aboveE s.log f.last)),aboveE s.log f.last,[],s.high⟩:=by unfold RepS.reply;rw [if_neg (by rw [HAP.out];decide),if_neg (by simp [g4f])]
          have hsv:s.serve f most = s:=by unfold RepS.serve;rw [if_neg (by rw [HAP.out];decide),if_neg (by simp [g4f])]
          refine End_ok2r (cs:=(s.reply f most).cs (.slice none 0 0)) hd (HBE8.out.congr (g':=fun _=>.int .i64 0) (fun k hk=>by obtain rfl:k = 0:=(by omega);rfl)) HY8.out (fun k hk=>reply_cs ?_ hk) ⟨⟨.slice none 0 0,by rw [HAP.out],by rw [hrp];exact Own.nil _,by intro k hk;cases hk⟩,HE8.out.mono (fun _ _ h=>h.elim),?_⟩ Tryz.underlying49
          · rw [hrp];refine ⟨?_,?_,?_,?_,?_,?_,?_,?_⟩ <;> rfl
          · rw [hsv];exact (HP.out.later HE8.out).mono (fun k hk=>.inl hk)
      · have g3b:(f.epoch == s.epoch) = false:=by simp [g3]
        have hap:s.serveNo f most = 210:=by unfold RepS.serveNo;rw [if_neg (by simp [g1]),if_neg (by simp [g2]),if_pos g3]
        refine W_die [(0,0),(1,0),(2,0),(3,0),(4,0),(5,0),(6,0)] 7 (by kernel_rfl) (by kernel_rfl) ?_
        repeat' (first|refine X_q ?_|refine X_niln ?_|fail)
        refine Dies_call Tryz.func50 (must_no 210) (fun c w' hC=>?_)
        obtain ⟨rfl,hE4⟩:=hC
        have hrp:s.reply f most = Reply.zero:=by unfold RepS.reply;rw [hap,if_pos (by decide)]
        have hsv:s.serve f most = s:=by unfold RepS.serve;rw [hap,if_pos (by decide)]
        refine End_no2r (cs:=Reply.zero.cs (.slice none 0 0)) hd (HBE.out.later hE4) (HY.out.later hE4) (fun k hk=>reply_zero_cs hk (E:=0) rfl) (by omega) (fun W1 hM=>?_) Tryz.underlying49
        have hM':=Ext.fresh (Ext.trans HE.out hE4) hM (fun k hk=>by subst hk;omega)
        refine ⟨⟨.slice none 0 0,by rw [hap,hrp],by rw [hrp];exact Own.nil _,by intro k hk;cases hk⟩,hM'.mono (fun _ _ h=>h.elim),?_⟩
        rw [hsv]
        exact (HP.out.later hM').mono (fun k hk=>.inl hk)
    · have g2b:(s.role == 3) = false:=by simp [g2]
      have hap:s.serveNo f most = 211:=by unfold RepS.serveNo;rw [if_neg (by simp [g1]),if_pos g2]
      skip
      refine X_die Tryz.func50 (must_no 211) (fun c w' hC=>?_)
      obtain ⟨rfl,hE4⟩:=hC
      have hrp:s.reply f most = Reply.zero:=by unfold RepS.reply;rw [hap,if_pos (by decide)]
      have hsv:s.serve f most = s:=by unfold RepS.serve;rw [hap,if_pos (by decide)]
      refine End_no2r (cs:=Reply.zero.cs (.slice none 0 0)) hd (HBE.out.later hE4) (HY.out.later hE4) (fun k hk=>reply_zero_cs hk (E:=0) rfl) (by omega) (fun W1 hM=>?_) Tryz.underlying49
      have hM':=Ext.fresh (Ext.trans HE.out hE4) hM (fun k hk=>by subst hk;omega)
      refine ⟨⟨.slice none 0 0,by rw [hap,hrp],by rw [hrp];exact Own.nil _,by intro k hk;cases hk⟩,hM'.mono (fun _ _ h=>h.elim),?_⟩
      rw [hsv]
      exact (HP.out.later hM').mono (fun k hk=>.inl hk)
  · have g1f:s.fetchMay f most = false:=by simpa using g1
    refine W_die [(0,0),(1,0),(2,1),(3,0),(4,0),(5,0),(6,0),(7,0),(8,0),(9,0),(10,0),(11,0),(12,0),(13,0),(14,0),(15,0),(16,0),(17,0),(18,0),(19,0),(20,0),(21,0),(22,0),(23,0),(24,0),(25,0),(26,0),(27,0),(28,0),(29,0),(30,0),(31,0),(32,0),(33,0),(34,0),(35,0),(36,0),(37,0),(38,0),(39,0),(40,0),(41,0),(42,0)] 43 (by kernel_rfl) (by kernel_rfl) ?_
    repeat' (first|(refine X_pure1 Tryz.func32 (fun _=>broker_calls f.src _) ?_)|refine X_d (fun vb hvb=>?_)|refine X_q ?_|refine X_g ?_|refine X_niln ?_|fail)
    repeat cases ‹Eqn _ _›
    refine Dies_call (lv:=[.bool false,.int .i64 2]) Tryz.func50 (must_no 2) (fun c w' hC=>?_) (hlv:=by exact congrArg (fun x=>[Value.bool x,Value.int .i64 2]) g1f)
    obtain ⟨rfl,hE4⟩:=hC
    have hap:s.serveNo f most = 2:=by unfold RepS.serveNo;rw [if_pos g1f]
    have hrp:s.reply f most = Reply.zero:=by unfold RepS.reply;rw [hap,if_pos (by decide)]
    have hsv:s.serve f most = s:=by unfold RepS.serve;rw [hap,if_pos (by decide)]
    refine End_no2r (cs:=Reply.zero.cs (.slice none 0 0)) hd (HBE.out.later hE4) (HY.out.later hE4) (fun k hk=>reply_zero_cs hk (E:=0) rfl) (by omega) (fun W1 hM=>?_) Tryz.underlying49
    have hM':=Ext.fresh (Ext.trans HE.out hE4) hM (fun k hk=>by subst hk;omega)
    refine ⟨⟨.slice none 0 0,by rw [hap,hrp],by rw [hrp];exact Own.nil _,by intro k hk;cases hk⟩,hM'.mono (fun _ _ h=>h.elim),?_⟩
    rw [hsv]
    exact (HP.out.later hM').mono (fun k hk=>.inl hk)
def entsFrom:Int→List Ent→Bool
  | _,[]=>true
  | last,x :: xs=>decide (last≤x.ep) && rightB x && entsFrom x.ep xs
theorem entsFrom_cons (last:Int) (x:Ent) (xs:List Ent):entsFrom last (x :: xs) = (decide (last≤x.ep) && rightB x && entsFrom x.ep xs):=rfl
def Reply.right (p:Reply):Bool:=entsFrom p.last p.entries && decide (0≤p.epoch) && decide (0≤p.base) && decide (0≤p.last) && decide (0≤p.cutEpoch) && decide (0≤p.cutEnd) && decide (0≤p.high)
theorem rightR_calls {w:World} {u:Value} {p:Reply} (hu:RdE w u p.entries):Pure Tryz.prog 67 #[p.v u] w (.bool p.right):=by
  have HU:=Lib.hid hu
  obtain ⟨A0,c,rfl,hc,hcm,HR⟩:=hu.ent
  clear hu
  refine Fn_of Tryz.func67 rfl (Nat.le_of_ble_eq_true rfl) ?_;intro A hd hA;simp only [ix,Nat.reduceAdd];replace hA:A.tmps.size = 56:=hA
  repeat' (first|refine X_q ?_|refine X_nil ?_|refine W_seqk (fun K hK=>?_)|refine W_seqr ?_|refine W_block ?_|(refine X_s (fun x K hK=>?_);go_simp;refine hK _ _ (Ext.alloc _ _) ?_;clear hK K;refine X_al x ?_;generalize (World.later _ x).heap.size = bn;intro yn hn1 hn2 hn3 hn4 hn5;clear x)|go_step)
  have hbw:w.heap.size≤bn:=hn1
  have HX:=Lib.hid (Blk.new hn5.out)
  have hE:Ext w (w.later yn):=yn.ext
  generalize World.later w yn = W at *
  clear hn1 hn2 hn3 hn4 hn5 yn
  have hbx:=HX.out.lt
  have HE:=Lib.hid hE
  have x0:=HX.out.cell (k:=0) (by simp)
  have x1:=HX.out.cell (k:=1) (by simp)
  have x2:=HX.out.cell (k:=2) (by simp)
  have x4:=HX.out.cell (k:=4) (by simp)
  have x5:=HX.out.cell (k:=5) (by simp)
  have x6:=HX.out.cell (k:=6) (by simp)
  have x7:=HX.out.cell (k:=7) (by simp)
  simp at x0 x1 x2 x4 x5 x6 x7
  clear hE
  obtain ⟨bx,hbx0⟩:∃ bx:Nat,bx = bn:=⟨_,rfl⟩
  subst hbx0
  clear HR hcm hc
  obtain ⟨A1,c1,hA1,hc,hcm,HR⟩:=(HU.out.later HE.out).ent
  cases hA1
  skip
  refine W_loops [1,2,3,9,10,11] (fun n vs w'=>∃ (k:Nat) (last:Int),Ext W w'∧k + n = p.entries.length∧vs = [.pointer (some ⟨bx,0,none⟩),.bool false,.int .i64 last,.slice A0 p.entries.length c,.int .i64 p.entries.length,.int .i64 k]∧entsFrom last (p.entries.drop k) = entsFrom p.last p.entries) p.entries.length hd hA (by decide) ⟨0,p.last,by simp,by omega,by simp,by simp⟩ ?_
  clear hd hA A;intro n vs B w' hd hA _ ⟨k,last,hw,hk,hvs,hm⟩;subst hvs
  obtain ⟨y,rfl⟩:=hw.get
  clear hw
  simp only [List.zip_cons_cons,List.zip_nil_right,List.zip_nil_left]
  by_cases hlt:k < p.entries.length
  · obtain ⟨e,b,o,HE1,rfl,hb,c0,c1',c2,c3,c4,c5⟩:=HR.out k hlt
    have hki:(k:Int) < p.entries.length:=by omega
    rw [drop_at HE1.out,entsFrom_cons] at hm
    have HM:=Lib.hid hm
    clear hm
    by_cases h1:last≤e.ep
    · have h1b:decide (e.ep < last) = false:=by simpa using h1
      have h1n:¬ e.ep < last:=by omega
      repeat' (first|refine X_q ?_|refine X_nil ?_|(refine X_var (fun yn bn hn1 hn2 hn3 hn4 hn5=>?_))|refine W_seqk (fun K hK=>?_)|refine W_seqr ?_|refine W_skip ?_|refine W_block ?_|refine W_tt ?_|go_step)
      have hE1:Ext W ((W.later y).later yn):=Ext.trans y.ext yn.ext
      have z:∀ k,((W.later y).later yn).cell? ⟨bn,k,none⟩ = e.cs.toArray[k]?:=hn3
      have z0:=hn3 0
      have z1:=hn3 1
      have z2:=hn3 2
      have z3:=hn3 3
      have z4:=hn3 4
      have z5:=hn3 5
      simp at z0 z1 z2 z3 z4 z5
      have hbn:=hn2
      generalize World.later _ yn = W2 at *
      clear hn1 hn2 hn3 hn4 hn5 yn y z c0 c1' c2 c3 c4 c5
      obtain ⟨G,hG⟩:∃ G:Nat→Prop,G = (fun k=>W2.heap.size≤k):=⟨_,rfl⟩
      have hGbn:¬ G bn:=by subst hG;simp;omega
      have HG:=Lib.hid hG
      clear hG
      have hnew:∀ x:Later W2,Ret Tryz.prog 55 #[] (W2.later x) (fun v w'=>(∃ bt,v = .pointer (some ⟨bt,0,none⟩)∧Ext W2 w'∧Tab w' bt G [])∧Mod G (W2.later x) w'):=fun x =>
        (tabNew_calls (W2.later x)).mono fun v w' hR=>by
          obtain ⟨bt,h1,h2,h3⟩:=hR
          exact ⟨⟨bt,h1,Ext.trans x.2 h2,h3.mono (fun k hk=>by rw [HG.out];exact Nat.le_trans x.2.size hk)⟩,h2.mod⟩
      have HNEW:=Lib.hid hnew
      clear hnew
      have happ:∀ (W3:World) (bt:Nat),Tab W3 bt G []→Ext W2 W3→∀ x:Later W3,Ret Tryz.prog 56 #[.pointer (some ⟨bt,0,none⟩),e.v] (W3.later x) (fun v w'=>(v = .int .i64 (appendNo [] e)∧Ext W2 w')∧Mod G (W3.later x) w'):=fun W3 bt hT hE x =>
        (tabAppend_calls (hT.later x.2) e).mono fun v w' hR=>by
          exact ⟨⟨hR.1,Ext.fresh (Ext.trans hE x.2) hR.2.1 (fun k hk=>by rw [HG.out] at hk;exact hk)⟩,hR.2.1⟩
      have HAPP:=Lib.hid happ
      clear happ
      have HE1:=Lib.hid hE1
      clear hE1
      refine W_drawG G [(0,0),(1,3),(2,0),(3,0),(4,0),(6,0),(5,1),(7,1),(8,0),(9,0)] (by kernel_rfl) (by kernel_rfl) ?_
      repeat' (first|refine Y_gt ?_|refine Y_q ?_|refine Y_r ?_|fail)
      refine Y_ret Tryz.func55 HNEW.out (fun v W3 hR=>?_)
      obtain ⟨bt,rfl,hE2,hT⟩:=hR
      obtain ⟨y2,rfl⟩:=hE2.get
      have HT:=Lib.hid hT
      clear hE2 hT
      repeat' (first|refine Y_gt ?_|fail)
      refine Y_ret Tryz.func56 (HAPP.out _ _ HT.out y2.2) (fun v W4 hR=>?_)
      obtain ⟨rfl,hE3⟩:=hR
      obtain ⟨y3,rfl⟩:=hE3.get
      clear hE3 HT y2
      by_cases h2:rightB e = true
      · have hno:appendNo [] e = 0:=by rw [appendNo_nil,if_neg (by simp [h2])]
        rw [hno]
        repeat' (first|refine Y_gt ?_|refine Y_q ?_|refine Y_nil ?_)
        repeat' (first|refine X_q ?_|refine X_nil ?_|refine W_seqr ?_|refine W_skip ?_|refine W_ff ?_|go_step)
        exact ⟨_,_,rfl,hd,hA,n - 1,by omega,k + 1,e.ep,Ext.trans HE1.out (by simp),by omega,by simp,by rw [← HM.out];simp [h1,h2]⟩
      · have h2f:rightB e = false:=by simpa using h2
        have hno:appendNo [] e = 2:=by rw [appendNo_nil,if_pos h2f]
        rw [hno]
        repeat' (first|refine Y_gt ?_|refine Y_q ?_|refine Y_nil ?_)
        repeat' (first|refine X_q ?_|refine X_nil ?_|refine W_seqk (fun K hK=>?_)|refine W_seqr ?_|refine W_ret ?_|refine W_tt ?_|go_step)
        refine Body_ret hd ⟨?_,Ext.trans HE.out (Ext.trans HE1.out (by simp))⟩
        unfold Reply.right
        rw [← HM.out,h2f];simp
    · have h1b:decide (e.ep < last) = true:=by simpa using h1
      have h1n:e.ep < last:=by omega
      repeat' (first|refine X_q ?_|refine X_nil ?_|(refine X_var (fun yn bn hn1 hn2 hn3 hn4 hn5=>?_))|refine W_seqk (fun K hK=>?_)|refine W_seqr ?_|refine W_skip ?_|refine W_block ?_|refine W_tt ?_|go_step)
      have z0:=hn3 0
      simp at z0
      have hbn:=hn2
      have hE1:Ext W ((W.later y).later yn):=Ext.trans y.ext yn.ext
      generalize World.later _ yn = W2 at *
      clear hn1 hn2 hn3 hn4 hn5 yn y c0 c1' c2 c3 c4 c5
      have HE1:=Lib.hid hE1
      clear hE1
      obtain ⟨G,hG⟩:∃ G:Nat→Prop,G = (fun k=>W2.heap.size≤k):=⟨_,rfl⟩
      have hGbn:¬ G bn:=by subst hG;simp;omega
      clear hG
      refine W_drawG G [(0,0),(1,3),(2,0),(3,0),(4,0),(6,0),(5,1),(7,1),(8,0),(9,0)] (by kernel_rfl) (by kernel_rfl) ?_
      repeat' (first|refine Y_gf ?_|refine Y_q ?_|refine Y_r ?_|refine Y_nil ?_)
      repeat' (first|refine X_q ?_|refine X_nil ?_|refine W_seqk (fun K hK=>?_)|refine W_seqr ?_|refine W_ret ?_|refine W_tt ?_|go_step)
      refine Body_ret hd ⟨?_,Ext.trans HE.out HE1.out⟩
      unfold Reply.right
      rw [← HM.out];simp [h1]
  · obtain rfl:k = p.entries.length:=by omega
    rw [List.drop_length] at hm
    have HM:Hid (entsFrom p.last p.entries = true):=Lib.hid (by rw [← hm];rfl)
    clear hm
    repeat' (first|refine X_d (fun vb hvb=>?_)|refine X_q ?_|refine X_g ?_|refine X_nil ?_|refine W_seqk (fun K hK=>?_)|refine W_seqr ?_|refine W_ret ?_|refine W_exit ?_|refine W_ff ?_|go_step)
    repeat cases ‹Eqn _ _›
    refine Body_ret hd ⟨?_,Ext.trans HE.out y.2⟩
    unfold Reply.right
    rw [HM.out,Bool.true_and]
end Go.Ws
namespace Go.Ws
open Go Go.RowKit Go.Proofs
set_option linter.unusedVariables false
theorem viewL_len (p:List Ent):(viewL p).length≤p.length:=by
  have:=viewTo_len p (stableB p).toNat
  have h1:=stableB_le p
  unfold viewL
  omega
theorem mem_viewTo (p:List Ent):∀ (i:Nat) (x:Int),x ∈ viewTo p i↔∃ k:Nat,x = k∧k < i∧∃ e,p[k]? = some e∧e.kind = 1∧seenB p e = true
  | 0,x=>by simp [viewTo]
  | i + 1,x=>by
    cases hx:p[i]? with
    | none =>
      rw [viewTo,hx]
      simp only
      rw [mem_viewTo p i x]
      constructor
      · rintro ⟨k,h1,h2,h⟩;exact ⟨k,h1,by omega,h⟩
      · rintro ⟨k,h1,h2,e,he,h⟩
        refine ⟨k,h1,?_,e,he,h⟩
        rcases Nat.lt_or_ge k i with h3|h3
        · exact h3
        · obtain rfl:k = i:=by omega
          rw [hx] at he;cases he
    | some a =>
      rw [viewTo_succ hx,List.mem_append,mem_viewTo p i x]
      constructor
      · rintro (⟨k,h1,h2,h⟩|h)
        · exact ⟨k,h1,by omega,h⟩
        · split at h
          · rename_i hc
            rw [Bool.and_eq_true,beq_iff_eq] at hc
            rw [List.mem_singleton] at h
            exact ⟨i,h,by omega,a,hx,hc.1,hc.2⟩
          · cases h
      · rintro ⟨k,h1,h2,e,he,h3,h4⟩
        rcases Nat.lt_or_ge k i with h5|h5
        · exact .inl ⟨k,h1,h5,e,he,h3,h4⟩
        · obtain rfl:k = i:=by omega
          rw [hx] at he;cases he
          right
          rw [if_pos (by rw [Bool.and_eq_true,beq_iff_eq];exact ⟨h3,h4⟩),h1]
          simp
end Go.Ws
