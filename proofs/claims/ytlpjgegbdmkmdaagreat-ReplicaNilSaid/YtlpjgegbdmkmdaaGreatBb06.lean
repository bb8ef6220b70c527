/- Lemmas for the statements of this layer (joined texts); no condition. -/
import Derived.Deep.MidRow
import Derived.Test.YtlpjgegbdmkmdaaGreatBb02
import Derived.Test.YtlpjgegbdmkmdaaGreatBb04
import Derived.Test.YtlpjgegbdmkmdaaGreatBb05
namespace Go.Ws
open Go Go.RowKit Go.Proofs
set_option maxHeartbeats 2000000
set_option maxRecDepth 100000
set_option linter.unusedVariables false
set_option linter.unusedSimpArgs false
def AllOf {κ β α:Type} (L:List (κ × β × Nat)) (g:κ × β × Nat→α) (xs:List α):Prop:=∃ P:List (κ × β × Nat),P.Perm L∧xs = P.map g
def SomeOf {κ β α:Type} (L:List (κ × β × Nat)) (g:κ × β × Nat→α) (xs:List α):Prop:=∃ P:List (κ × β × Nat),P.Nodup∧(∀ x ∈ P,x ∈ L)∧xs = P.map g
theorem YieldW.mono {P:Program} {l:Nat} {args:Array Value} {W:World} {R R':Ending→World→Prop} (h:YieldW P l args W R) (hr:∀ e w',R e w'→R' e w'):YieldW P l args W R':=by
  obtain ⟨fn,t,a,b,hy,hR⟩:=h
  exact ⟨fn,t,a,b,hy,RoundIn.mono hR hr⟩
theorem values_iter {w : World} {bx m : Nat} {L : List (Int × Int × Nat)} {clock : Nat} (hlt : bx < w.heap.size) (hbx : w.cell? ⟨bx, 0, none⟩ = some (.map (some m))) (hm : MapL ki ki w m L clock) :
    Iter Tryz.prog 150 #[.pointer (some ⟨bx,0,none⟩)] (fun x:Int=>#[.int .i64 x]) (AllOf L (·.2.1)) (SomeOf L (·.2.1)) (fun k=>k = bx∨k = m) w:=by
  intro l J Jx B0 W hE hJ hJx hJlt hY h0 hB0
  have hup:∀ {pre B V V'},J pre B V→Ext V V'→J pre B V':=fun h hE=>hJ _ _ _ _ h (Mod.mono hE (fun _ _ h=>h.elim))
  have main:Ret Tryz.prog 150 #[.func (.yield l) #[] #[],.pointer (some ⟨bx,0,none⟩)] W fun v W'=>(∃ xs B,AllOf L (·.2.1) xs∧J xs B W')∨∃ pre,Jx pre W':=by
    obtain ⟨yW,rfl⟩:=hE.get
    have hm':MapL ki ki (w.later yW) m L clock:=hm.later yW.2
    have HY:=Lib.hid hY
    have HJ:=Lib.hid hJ
    have H0:=Lib.hid h0
    have HB0:=Lib.hid hB0
    have HLT:=Lib.hid hJlt
    clear hY hJ h0 hB0 hJlt hJx
    refine Fn_of Tryz.func150 rfl (Nat.le_of_ble_eq_true rfl) ?_;intro A hd hA;simp only [ix,Nat.reduceAdd];replace hA:A.tmps.size = 15:=hA
    repeat' (first|refine X_q ?_|refine W_seqk (fun K hK=>?_)|refine W_seqr ?_|fail)
    refine X_range (kenc:=ki) (venc:=ki) hm' Tryz.underlying148 (fun y0 r hr0 hG0=>?_)
    repeat' (first|refine X_nil ?_|refine W_block ?_|go_step)
    refine W_loops [0,6] (fun n vs w'=>∃ pre B,n + pre.length = L.length∧vs = [.func (.yield l) #[] #[],.pointer (some ⟨r,0,none⟩)]∧J (pre.map (·.2.1)) B w'∧Going ki ki w' r m L clock pre∧∀ k,B k→k ≠ r∧k ≠ m) L.length hd hA (by decide) ?_ ?_
    · exact ⟨[],B0,by simp,by simp,hup H0.out y0.2,hG0,fun k hk=>⟨fun e=>by have:=HLT.out _ _ _ H0.out k hk;omega,fun e=>HB0.out k hk (.inr e)⟩⟩
    clear hd hA A;intro n vs B w' hd hA _ ⟨pre,Bs,hn,hvs,hj,hg,hb⟩;subst hvs
    simp only [List.zip_cons_cons,List.zip_nil_right,List.zip_nil_left]
    have HG:=Lib.hid hg
    have HJ1:=Lib.hid hj
    have HBs:=Lib.hid hb
    clear hg hj hb
    repeat' (first|refine W_seqk (fun K hK=>?_)|refine W_seqr ?_|fail)
    refine X_next HG.out (fun hall=>?_) (fun x W2 hx hxp hM2 hG2=>?_)
    · repeat' (first|refine X_q ?_|refine X_nil ?_|refine W_seqk (fun K hK=>?_)|refine W_exit ?_|refine W_ff ?_|go_step)
      exact Body_ret0 hd (.inl ⟨_,Bs,⟨pre,HG.out.full hall,rfl⟩,HJ1.out⟩)
    · have hlen : pre.length < L.length := by
        have:=hG2.len
        simp at this;omega
      have hj2:J (pre.map (·.2.1)) Bs W2:=HJ.out _ _ _ _ HJ1.out (Mod.mono hM2 (fun k _ e=>by
        subst e
        exact ⟨fun h=>(HBs.out _ h).1 rfl,hr0⟩))
      have HG2:=Lib.hid hG2
      have HJ2:=Lib.hid hj2
      clear hG2 hj2
      repeat' (first|refine X_q ?_|refine X_nil ?_|refine W_seqk (fun K hK=>?_)|refine W_seqr ?_|refine W_skip ?_|refine W_block ?_|refine W_tt ?_|go_step)
      refine X_entry HG2.out ?_
      repeat' (first|refine X_q ?_|refine X_nil ?_|refine W_seqk (fun K hK=>?_)|refine W_seqr ?_|go_step)
      refine X_yield (R:=fun b W'=>(b = true∧∃ B',J ((pre ++ [x]).map (·.2.1)) B' W'∧Going ki ki W' r m L clock (pre ++ [x])∧∀ k,B' k→k ≠ r∧k ≠ m)∨(b = false∧∃ pre,Jx pre W')) (l:=l) (lv:=[.int .i64 x.2.1]) (fun X=>?_) (fun b W3 hR=>?_)
      · refine (HY.out (pre.map (·.2.1)) Bs x.2.1 (W2.later X) (hup HJ2.out X.2) ⟨pre ++ [x],HG2.out.nd,HG2.out.sub,by simp⟩).mono ?_
        rintro e W' (⟨rfl,B',hj',hM',hB'⟩|⟨rfl,hx'⟩)
        · have hg3:Going ki ki (W2.later X) r m L clock (pre ++ [x]):=HG2.out.later X.2
          refine ⟨true,rfl,.inl ⟨rfl,B',by simpa using hj',hg3.mod hM' (fun h=>(HBs.out _ h).1 rfl) (fun h=>(HBs.out _ h).2 rfl),fun k hk=>?_⟩⟩
          rcases hB' k hk with h|h
          · exact HBs.out k h
          · exact ⟨fun e=>by have:=hg3.lt;omega,fun e=>by have:=hg3.map.lt;omega⟩
        · exact ⟨false,rfl,.inr ⟨rfl,_,hx'⟩⟩
      · rcases hR with ⟨rfl,B',hj',hg',hb'⟩|⟨rfl,hx'⟩
        · repeat' (first|refine X_q ?_|refine X_nil ?_|refine W_skip ?_|refine W_ff ?_|go_step)
          exact ⟨_,_,rfl,hd,hA,n - 1,by omega,pre ++ [x],B',by simp;omega,by simp,hj',hg',hb'⟩
        · repeat' (first|refine X_q ?_|refine X_nil ?_|refine W_ret ?_|refine W_tt ?_|go_step)
          exact Body_ret0 hd (.inr hx')
  refine Calls.mono (Fn.calls main) ?_
  rintro e W' ⟨W0,hE0,hR⟩
  cases e with
  | returned v =>
    refine ⟨v,rfl,?_⟩
    rcases hR with ⟨xs,B,hS,hj⟩|⟨pre,hx⟩
    · exact .inl ⟨xs,B,hS,hup hj hE0⟩
    · exact .inr ⟨pre,hJx _ _ _ hx hE0⟩
  | panicked c=>exact hR.elim
  | outgrown=>exact hR.elim
theorem keys_iter {w : World} {bx m : Nat} {L : List (Int × Int × Nat)} {clock : Nat} (hlt : bx < w.heap.size) (hbx : w.cell? ⟨bx, 0, none⟩ = some (.map (some m))) (hm : MapL ki ki w m L clock) :
    Iter Tryz.prog 152 #[.pointer (some ⟨bx,0,none⟩)] (fun x:Int=>#[.int .i64 x]) (AllOf L (·.1)) (SomeOf L (·.1)) (fun k=>k = bx∨k = m) w:=by
  intro l J Jx B0 W hE hJ hJx hJlt hY h0 hB0
  have hup:∀ {pre B V V'},J pre B V→Ext V V'→J pre B V':=fun h hE=>hJ _ _ _ _ h (Mod.mono hE (fun _ _ h=>h.elim))
  have main:Ret Tryz.prog 152 #[.func (.yield l) #[] #[],.pointer (some ⟨bx,0,none⟩)] W fun v W'=>(∃ xs B,AllOf L (·.1) xs∧J xs B W')∨∃ pre,Jx pre W':=by
    obtain ⟨yW,rfl⟩:=hE.get
    have hm':MapL ki ki (w.later yW) m L clock:=hm.later yW.2
    have HY:=Lib.hid hY
    have HJ:=Lib.hid hJ
    have H0:=Lib.hid h0
    have HB0:=Lib.hid hB0
    have HLT:=Lib.hid hJlt
    clear hY hJ h0 hB0 hJlt hJx
    refine Fn_of Tryz.func152 rfl (Nat.le_of_ble_eq_true rfl) ?_;intro A hd hA;simp only [ix,Nat.reduceAdd];replace hA:A.tmps.size = 14:=hA
    repeat' (first|refine X_q ?_|refine W_seqk (fun K hK=>?_)|refine W_seqr ?_|fail)
    refine X_range (kenc:=ki) (venc:=ki) hm' Tryz.underlying148 (fun y0 r hr0 hG0=>?_)
    repeat' (first|refine X_nil ?_|refine W_block ?_|go_step)
    refine W_loops [0,5] (fun n vs w'=>∃ pre B,n + pre.length = L.length∧vs = [.func (.yield l) #[] #[],.pointer (some ⟨r,0,none⟩)]∧J (pre.map (·.1)) B w'∧Going ki ki w' r m L clock pre∧∀ k,B k→k ≠ r∧k ≠ m) L.length hd hA (by decide) ?_ ?_
    · exact ⟨[],B0,by simp,by simp,hup H0.out y0.2,hG0,fun k hk=>⟨fun e=>by have:=HLT.out _ _ _ H0.out k hk;omega,fun e=>HB0.out k hk (.inr e)⟩⟩
    clear hd hA A;intro n vs B w' hd hA _ ⟨pre,Bs,hn,hvs,hj,hg,hb⟩;subst hvs
    simp only [List.zip_cons_cons,List.zip_nil_right,List.zip_nil_left]
    have HG:=Lib.hid hg
    have HJ1:=Lib.hid hj
    have HBs:=Lib.hid hb
    clear hg hj hb
    repeat' (first|refine W_seqk (fun K hK=>?_)|refine W_seqr ?_|fail)
    refine X_next HG.out (fun hall=>?_) (fun x W2 hx hxp hM2 hG2=>?_)
    · repeat' (first|refine X_q ?_|refine X_nil ?_|refine W_seqk (fun K hK=>?_)|refine W_exit ?_|refine W_ff ?_|go_step)
      exact Body_ret0 hd (.inl ⟨_,Bs,⟨pre,HG.out.full hall,rfl⟩,HJ1.out⟩)
    · have hlen : pre.length < L.length := by
        have:=hG2.len
        simp at this;omega
      have hj2:J (pre.map (·.1)) Bs W2:=HJ.out _ _ _ _ HJ1.out (Mod.mono hM2 (fun k _ e=>by
        subst e
        exact ⟨fun h=>(HBs.out _ h).1 rfl,hr0⟩))
      have HG2:=Lib.hid hG2
      have HJ2:=Lib.hid hj2
      clear hG2 hj2
      repeat' (first|refine X_q ?_|refine X_nil ?_|refine W_seqk (fun K hK=>?_)|refine W_seqr ?_|refine W_skip ?_|refine W_block ?_|refine W_tt ?_|go_step)
      refine X_entry HG2.out ?_
      repeat' (first|refine X_q ?_|refine X_nil ?_|refine W_seqk (fun K hK=>?_)|refine W_seqr ?_|go_step)
      refine X_yield (R:=fun b W'=>(b = true∧∃ B',J ((pre ++ [x]).map (·.1)) B' W'∧Going ki ki W' r m L clock (pre ++ [x])∧∀ k,B' k→k ≠ r∧k ≠ m)∨(b = false∧∃ pre,Jx pre W')) (l:=l) (lv:=[.int .i64 x.1]) (fun X=>?_) (fun b W3 hR=>?_)
      · refine (HY.out (pre.map (·.1)) Bs x.1 (W2.later X) (hup HJ2.out X.2) ⟨pre ++ [x],HG2.out.nd,HG2.out.sub,by simp⟩).mono ?_
        rintro e W' (⟨rfl,B',hj',hM',hB'⟩|⟨rfl,hx'⟩)
        · have hg3:Going ki ki (W2.later X) r m L clock (pre ++ [x]):=HG2.out.later X.2
          refine ⟨true,rfl,.inl ⟨rfl,B',by simpa using hj',hg3.mod hM' (fun h=>(HBs.out _ h).1 rfl) (fun h=>(HBs.out _ h).2 rfl),fun k hk=>?_⟩⟩
          rcases hB' k hk with h|h
          · exact HBs.out k h
          · exact ⟨fun e=>by have:=hg3.lt;omega,fun e=>by have:=hg3.map.lt;omega⟩
        · exact ⟨false,rfl,.inr ⟨rfl,_,hx'⟩⟩
      · rcases hR with ⟨rfl,B',hj',hg',hb'⟩|⟨rfl,hx'⟩
        · repeat' (first|refine X_q ?_|refine X_nil ?_|refine W_skip ?_|refine W_ff ?_|go_step)
          exact ⟨_,_,rfl,hd,hA,n - 1,by omega,pre ++ [x],B',by simp;omega,by simp,hj',hg',hb'⟩
        · repeat' (first|refine X_q ?_|refine X_nil ?_|refine W_ret ?_|refine W_tt ?_|go_step)
          exact Body_ret0 hd (.inr hx')
  refine Calls.mono (Fn.calls main) ?_
  rintro e W' ⟨W0,hE0,hR⟩
  cases e with
  | returned v =>
    refine ⟨v,rfl,?_⟩
    rcases hR with ⟨xs,B,hS,hj⟩|⟨pre,hx⟩
    · exact .inl ⟨xs,B,hS,hup hj hE0⟩
    · exact .inr ⟨pre,hJx _ _ _ hx hE0⟩
  | panicked c=>exact hR.elim
  | outgrown=>exact hR.elim
theorem tabAppend_calls {b : Nat} {w : World} {F : Nat → Prop} {l : List Ent} (h : Tab w b F l) (e : Ent) : Ret Tryz.prog 56 #[.pointer (some ⟨b, 0, none⟩), e.v] w fun v w' =>
    v = .int .i64 (appendNo l e)∧Mod F w w'∧Tab w' b (fun k=>F k∨w.heap.size≤k) (if appendNo l e = 0 then l ++ [e] else l):=by
  obtain ⟨u,mb,g,h,hF⟩:=h
  have hs:=h.seen
  obtain ⟨hlt,hmade,hlog,hrd⟩:=hs
  have HS:=Lib.hid h.seen
  have HT:=Lib.hid h
  clear h
  have HF:=Lib.hid hF
  clear hF
  have HN:=Lib.hid hrd.ent
  obtain ⟨A0,c,rfl,hc,hcm,-⟩:=HN.out
  clear hrd HN
  have hub:=HT.out.u_ne_b
  refine Fn_of Tryz.func56 rfl (Nat.le_of_ble_eq_true rfl) ?_;intro A hd hA;simp only [ix,Nat.reduceAdd];replace hA:A.tmps.size = 124:=hA
  repeat' (first|refine X_pure Tryz.func89 (may_calls (HS.out.later (by simp)) e) ?_|refine X_q ?_|refine X_nil ?_|refine W_seqk (fun K hK=>?_)|refine W_seqr ?_|refine W_ret ?_|refine W_skip ?_|(refine X_s (fun x K hK=>?_);go_simp;refine hK _ _ (Ext.alloc _ _) ?_;clear hK K;refine X_al x ?_;generalize (World.later _ x).heap.size = bn;intro yn hn1 hn2 hn3 hn4 hn5;clear x)|refine W_test (fun hc=>?_) (fun hc=>?_)|go_step)
  · refine Body_ret hd ⟨rfl,?_,?_⟩
    · exact Mod.mono yn.2 (fun _ _ h=>h.elim)
    · have hno:appendNo l e ≠ 0:=by simpa using hc
      rw [if_neg hno]
      exact Tab.mono (Tab.later ⟨_,_,_,HT.out,HF.out⟩ yn.2) fun k hk=>.inl hk
  have HNO:Hid (appendNo l e = 0):=Lib.hid (by simpa using hc)
  clear hc hn4 hn5
  have hl4:l.length < 4096:=(of_no HNO.out).2.1
  have HB:=Lib.hid (right_bounds (of_no HNO.out).1)
  have hx1:=hn1
  have hx2:=hn2
  have hx3:=hn3
  clear hn1 hn3
  have HT0:TabAt (w.later yn) b (.slice A0 l.length c) mb g l:=HT.out.mod yn.2 (fun _ _ h=>h)
  have HT1:=Lib.hid HT0;clear HT0
  refine W_draw (by kernel_rfl) (by kernel_rfl) ?_
  repeat' (first|refine X_q ?_|(refine X_s (fun x K hK=>?_);go_simp;refine hK _ _ (Ext.alloc _ _) ?_;clear hK K;refine X_al x ?_;generalize (World.later _ x).heap.size = bn;intro yn hn1 hn2 hn3 hn4 hn5;clear x)|fail)
  refine X_append (xs:=l) elemEnt (HT1.out.own.later (by simp)) (Rd.one (x:=e) hn2 hn3 rfl) (by simp;omega) (by unfold maxLen;simp;omega) (fun v' W1 hM1 hO1 hF1 hN1=>?_)
  repeat' (first|refine X_q ?_|fail)
  obtain ⟨A1,n1,c1,rfl⟩:∃ A1 n1 c1,v' = .slice A1 n1 c1:=by
    rcases hO1.shape with ⟨h,_⟩|⟨g,c,h,_⟩
    · exact ⟨_,_,_,h⟩
    · exact ⟨_,_,_,h⟩
  refine X_store (off:=0) (v:=.slice A1 n1 c1) ((HT1.out.blk.later yn.2).mod hM1 hub) (fun W2 hM2 hB2=>?_)
  have HM:=fun (i:Nat) (hi:i < 4)=>Mid.start (i:=i) (e:=e) HT1.out hi (fun k hk=>by have:=HT.out.lt k hk;omega) hx2 hx3 yn.2 hM1 hO1 hF1 hM2 hB2
  have hw2b:=hB2.lt
  have hbox:=(HM 0 (by omega)).box
  have hbx2:=(HM 0 (by omega)).bn1
  have HMM:=Lib.hid HM
  clear HM
  clear hx3 hn3 hn4 hn5
  repeat' (first|refine X_q ?_|refine X_niln ?_|refine X_nil ?_|refine W_seqk (fun K hK=>?_)|refine W_seqr ?_|refine W_ret ?_|refine W_skip ?_|refine W_test (fun hc=>?_) (fun hc=>?_)|go_step)
  · have hid:e.id < 0:=by simpa using hc
    have hF:=(HMM.out 0 (by omega)).fin (by rw [wrOf_snoc,if_neg (by omega)]) (fun j _ _=>by rw [wrOf_snoc,if_neg (by omega)]) HF.out hx1 (ext_l0 w _)
    refine Body_ret hd ⟨by rw [HNO.out],hF.1,?_⟩
    rw [if_pos HNO.out];exact hF.2
  have hid:¬ e.id < 0:=by simpa using hc
  have hid3:e.id≤3:=HB.out.2.1
  have HIDR:=Lib.hid hid
  clear hc
  obtain ⟨i,hi⟩:∃ i:Nat,e.id = i:=⟨e.id.toNat,by omega⟩
  have hi4:i < 4:=by omega
  have hi4':(i:Int) < 4:=by omega
  have HMI:=Lib.hid (HMM.out i hi4)
  clear hid hid3
  obtain ⟨-,r1,r2,r3,r4,r5⟩:=HMI.out.reads
  refine W_draw (by kernel_rfl) (by kernel_rfl) ?_
  repeat' (first|refine X_q ?_|refine X_niln ?_|refine W_seqk (fun K hK=>?_)|go_step)
  refine W_draw (by kernel_rfl) (by kernel_rfl) ?_
  repeat' (first|refine X_q ?_|fail)
  refine X_store (off:=1 + i * 5) HMI.out.blk (fun W3 hM3 hB3=>?_)
  have HM3:=Lib.hid (HMI.out.storeH hM3 hB3)
  clear r1 r2 r3 r4 r5 hbox hbx2 hw2b
  obtain ⟨hw3b,r1,r2,r3,r4,r5⟩:=HM3.out.reads
  have hbox:=HM3.out.box
  have hbx3:=HM3.out.bn1
  repeat' (first|refine X_q ?_|refine X_niln ?_|refine X_nil ?_|refine W_seqk (fun K hK=>?_)|refine W_seqr ?_|refine W_skip ?_|refine W_test (fun hc=>?_) (fun hc=>?_)|go_step)
  · refine W_draw (by kernel_rfl) (by kernel_rfl) ?_
    repeat' (first|refine X_q ?_|fail)
    refine X_store (off:=1 + i * 5 + 1) HM3.out.blk (fun W4 hM4 hB4=>?_)
    have HM4:=Lib.hid (HM3.out.storeM hM4 hB4)
    clear r1 r2 r3 r4 r5 hbox hbx3 hw3b
    obtain ⟨hw4b,r1,r2,r3,r4,r5⟩:=HM4.out.reads
    have hbox:=HM4.out.box
    have hbx4:=HM4.out.bn1
    repeat' (first|refine X_niln ?_|refine W_seqk (fun K hK=>?_)|go_step)
    refine W_draw (by kernel_rfl) (by kernel_rfl) ?_
    repeat' (first|refine X_q ?_|fail)
    refine X_mapset (kenc:=ki) (venc:=vB) HM4.out.m2 (ints_keys Tryz.underlying2) Tryz.underlying149 e.num true (fun W5 hM5 hB5=>?_)
    have HM5:=Lib.hid (HM4.out.set2 hM5 hB5)
    clear r1 r2 r3 r4 r5 hbox hbx4 hw4b
    obtain ⟨hw5b,r1,r2,r3,r4,r5⟩:=HM5.out.reads
    have hbox:=HM5.out.box
    have hbx5:=HM5.out.bn1
    repeat' (first|refine X_niln ?_|refine W_seqk (fun K hK=>?_)|go_step)
    refine W_draw (by kernel_rfl) (by kernel_rfl) ?_
    repeat' (first|refine X_q ?_|fail)
    refine X_mapdel (kenc:=ki) HM5.out.m1 (ints_keys Tryz.underlying2) Tryz.underlying148 e.num rfl (fun W6 hM6 hB6=>?_)
    have HM6:=Lib.hid (HM5.out.set1 hM6 hB6)
    repeat' (first|refine X_q ?_|refine X_niln ?_|refine X_nil ?_|refine W_seqk (fun K hK=>?_)|refine W_seqr ?_|refine W_ret ?_|go_step)
    have hk:e.kind ≠ 1:=by simpa using hc
    have hF:=HM6.out.fin (by rw [wrOf_snoc,if_pos hi];unfold Wr.step;rw [if_pos hk];rfl) (fun j _ hj=>by rw [wrOf_snoc,if_neg (by omega)]) HF.out hx1 (ext_l0 w _)
    refine Body_ret hd ⟨by rw [HNO.out],hF.1,?_⟩
    rw [if_pos HNO.out];exact hF.2
  refine W_draw (by kernel_rfl) (by kernel_rfl) ?_
  repeat' (first|refine X_q ?_|fail)
  refine X_look (kenc:=ki) (venc:=ki) (z:=0) HM3.out.m0 (ints_keys Tryz.underlying2) Tryz.underlying147 e.num ?_
  simp only [Bool.false_eq_true,if_false]
  have hsq1:0≤e.seq:=HB.out.2.2.1
  have hsq2:e.seq≤2147483647:=HB.out.2.2.2.1
  repeat' (first|refine X_q ?_|fail)
  refine X_mapset (kenc:=ki) (venc:=ki) HM3.out.m0 (ints_keys Tryz.underlying2) Tryz.underlying147 e.num (gmax (((wrOf l i).next e.num).getD 0) (e.seq + 1)) (fun W4 hM4 hB4=>?_)
  have HM4:=Lib.hid (HM3.out.set0 hM4 hB4)
  clear r1 r2 r3 r4 r5 hbox hbx3 hw3b
  obtain ⟨hw4b,r1,r2,r3,r4,r5⟩:=HM4.out.reads
  have hbox:=HM4.out.box
  have hbx4:=HM4.out.bn1
  repeat' (first|refine X_niln ?_|refine W_seqk (fun K hK=>?_)|go_step)
  refine W_draw (by kernel_rfl) (by kernel_rfl) ?_
  repeat' (first|refine X_q ?_|fail)
  refine X_look (kenc:=ki) (venc:=ki) (z:=0) HM4.out.m1 (ints_keys Tryz.underlying2) Tryz.underlying148 e.num ?_
  simp only [if_true]
  repeat' (first|refine X_q ?_|refine X_niln ?_|refine W_seqk (fun K hK=>?_)|go_step)
  refine W_draw (by kernel_rfl) (by kernel_rfl) ?_
  repeat' (first|refine X_d (fun vb hvb=>?_)|refine X_q ?_|refine X_g ?_|fail)
  refine X_glook (kenc:=ki) (venc:=vB) (z:=false) HM4.out.m2 (ints_keys Tryz.underlying2) Tryz.underlying149 e.num ?_
  simp only [Bool.false_eq_true,if_false]
  repeat' (first|refine X_q ?_|refine X_g ?_|refine X_niln ?_|refine X_nil ?_|refine W_seqk (fun K hK=>?_)|refine W_seqr ?_|refine W_ret ?_|refine W_skip ?_|refine W_test (fun hc=>?_) (fun hc=>?_)|go_step)
  · refine W_draw (by kernel_rfl) (by kernel_rfl) ?_
    repeat' (first|refine X_q ?_|fail)
    refine X_mapset (kenc:=ki) (venc:=ki) HM4.out.m1 (ints_keys Tryz.underlying2) Tryz.underlying148 e.num (l.length:Int) (fun W5 hM5 hB5=>?_)
    have HM5:=Lib.hid (HM4.out.set1 hM5 hB5)
    repeat' (first|refine X_q ?_|refine X_niln ?_|refine X_nil ?_|refine W_seqk (fun K hK=>?_)|refine W_seqr ?_|refine W_ret ?_|go_step)
    have hk:¬ e.kind ≠ 1:=by have:=‹(e.kind != 1) = false›;simpa using this
    cases hvb
    have hF:=HM5.out.fin (by rw [wrOf_snoc,if_pos hi];unfold Wr.step;rw [if_neg hk,if_pos (by cases hq:(wrOf l i).opens e.num <;> simp [hq] at hc ⊢;exact hc)];rfl) (fun j _ hj=>by rw [wrOf_snoc,if_neg (by omega)]) HF.out hx1 (ext_l0 w _)
    refine Body_ret hd ⟨by rw [HNO.out],hF.1,?_⟩
    rw [if_pos HNO.out];exact hF.2
  · have hk:¬ e.kind ≠ 1:=by have:=‹(e.kind != 1) = false›;simpa using this
    cases hvb
    have hF:=HM4.out.fin (by rw [wrOf_snoc,if_pos hi];unfold Wr.step;rw [if_neg hk,if_neg (by cases hq:(wrOf l i).opens e.num <;> simp [hq] at hc ⊢;exact hc)];rfl) (fun j _ hj=>by rw [wrOf_snoc,if_neg (by omega)]) HF.out hx1 (ext_l0 w _)
    refine Body_ret hd ⟨by rw [HNO.out],hF.1,?_⟩
    rw [if_pos HNO.out];exact hF.2
theorem MapIs.empty {κ β:Type} [DecidableEq κ] {kenc:κ→Value} {venc:β→Value} {w:World} {b:Nat} (h:w.heap[b]? = some (.map #[] 0)):MapIs kenc venc w b (fun _=>none) :=
  ⟨[],0,⟨h,by simp,by simp,by simp⟩,fun k=>rfl⟩
structure Made (w W:World) (b:Nat) (mb:Nat→Nat→Nat) (g:Nat→Value) (k:Nat):Prop where
  b0:w.heap.size≤b
  blk:Blk W b 154 22 g
  g0:g 0 = .slice none 0 0
  g21:g 21 = .bool true
  cells:∀ i,i < k→g (1 + i * 5) = .int .i64 0∧g (1 + i * 5 + 1) = .int .i64 0∧g (1 + i * 5 + 2) = .map (some (mb i 0))∧g (1 + i * 5 + 3) = .map (some (mb i 1))∧g (1 + i * 5 + 4) = .map (some (mb i 2))
  m0:∀ i,i < k→MapIs ki ki W (mb i 0) (fun _=>none)
  m1:∀ i,i < k→MapIs ki ki W (mb i 1) (fun _=>none)
  m2:∀ i,i < k→MapIs ki vB W (mb i 2) (fun _=>none)
  inj:∀ i j i' j',i < k→j < 3→i' < k→j' < 3→mb i j = mb i' j'→i = i'∧j = j'
  new:∀ i j,i < k→j < 3→w.heap.size≤mb i j
theorem Made.lt {w W:World} {b:Nat} {mb:Nat→Nat→Nat} {g:Nat→Value} {k:Nat} (M:Made w W b mb g k) {i j:Nat} (hi:i < k) (hj:j < 3):mb i j < W.heap.size:=by
  match j,hj with
  | 0,_=>exact (M.m0 i hi).lt
  | 1,_=>exact (M.m1 i hi).lt
  | 2,_=>exact (M.m2 i hi).lt
theorem Made.next {w W W' : World} {b m0 m1 m2 : Nat} {mb : Nat → Nat → Nat} {g : Nat → Value} {k : Nat} (M : Made w W b mb g k) (hk : k < 4) (y0 : Later W) (y1 : Later (W.later y0)) (y2 : Later ((W.later y0).later y1))
    (h0:W.heap.size≤m0) (h1:(W.later y0).heap.size≤m1) (h2:((W.later y0).later y1).heap.size≤m2) (l0:m0 < (W.later y0).heap.size) (l1:m1 < ((W.later y0).later y1).heap.size) (l2:m2 < (((W.later y0).later y1).later y2).heap.size)
    (e0:(W.later y0).heap[m0]? = some (.map #[] 0)) (e1:((W.later y0).later y1).heap[m1]? = some (.map #[] 0)) (e2:(((W.later y0).later y1).later y2).heap[m2]? = some (.map #[] 0))
    (hM:Mod (· = b) (((W.later y0).later y1).later y2) W') (hB:Blk W' b 154 22 (put g (1 + k * 5) [.int .i64 0,.int .i64 0,.map (some m0),.map (some m1),.map (some m2)])) :
    Made w W' b (fun i j=>if i = k then (if j = 0 then m0 else if j = 1 then m1 else m2) else mb i j) (put g (1 + k * 5) [.int .i64 0,.int .i64 0,.map (some m0),.map (some m1),.map (some m2)]) (k + 1):=by
  have hbW:=M.blk.lt
  have s0:=y0.2.size
  have s1:=y1.2.size
  have s2:=y2.2.size
  have hE:Ext W (((W.later y0).later y1).later y2):=ext_l2 _ _ _ _
  have hM':Mod (· = b) W W':=Mod.trans hE hM (fun _ _ h=>h.elim) (fun _ _ h=>h)
  have hbm:∀ i j,i < k→j < 3→¬ (mb i j = b):=by
    intro i j hi hj h
    obtain ⟨cs,hc,_⟩:=M.blk
    subst h
    match j,hj with
    | 0,_=>exact not_map_cells hc (M.m0 i hi)
    | 1,_=>exact not_map_cells hc (M.m1 i hi)
    | 2,_=>exact not_map_cells hc (M.m2 i hi)
  have hs0:(W.later y0).heap.size≤(W.later y0).heap.size:=Nat.le_refl _
  have s0':W.heap.size≤(W.later y0).heap.size:=s0
  have s1':(W.later y0).heap.size≤((W.later y0).later y1).heap.size:=s1
  have s2':((W.later y0).later y1).heap.size≤(((W.later y0).later y1).later y2).heap.size:=s2
  have f0:W'.heap[m0]? = some (.map #[] 0):=by
    rw [hM.block m0 (by omega) (by omega),heap_later _ y2 _ (by omega),heap_later _ y1 _ (by omega)];exact e0
  have f1:W'.heap[m1]? = some (.map #[] 0):=by
    rw [hM.block m1 (by omega) (by omega),heap_later _ y2 _ (by omega)];exact e1
  have f2:W'.heap[m2]? = some (.map #[] 0):=by
    rw [hM.block m2 (by omega) (by omega)];exact e2
  have hw:=M.b0
  refine ⟨M.b0,hB,by rw [put_out (by omega)];exact M.g0,by rw [put_out (by simp;omega)];exact M.g21,?_,?_,?_,?_,?_,?_⟩
  · intro i hi
    by_cases hik:i = k
    · subst hik
      simp only [if_true]
      exact ⟨put_in 0 (by simp) (by omega),put_in 1 (by simp) (by omega),put_in 2 (by simp) (by omega),put_in 3 (by simp) (by omega),put_in 4 (by simp) (by omega)⟩
    · simp only [hik,if_false]
      obtain ⟨a0,a1,a2,a3,a4⟩:=M.cells i (by omega)
      exact ⟨by rw [put_out (by omega)];exact a0,by rw [put_out (by omega)];exact a1,by rw [put_out (by omega)];exact a2,by rw [put_out (by omega)];exact a3,by rw [put_out (by omega)];exact a4⟩
  · intro i hi
    by_cases hik:i = k
    · subst hik;simp only [if_true];exact MapIs.empty f0
    · simp only [hik,if_false];exact (M.m0 i (by omega)).mod hM' (hbm i 0 (by omega) (by omega))
  · intro i hi
    by_cases hik:i = k
    · subst hik;simp only [if_true];exact MapIs.empty f1
    · simp only [hik,if_false];exact (M.m1 i (by omega)).mod hM' (hbm i 1 (by omega) (by omega))
  · intro i hi
    by_cases hik:i = k
    · subst hik;simp only [if_true];exact MapIs.empty f2
    · simp only [hik,if_false];exact (M.m2 i (by omega)).mod hM' (hbm i 2 (by omega) (by omega))
  · intro i j i' j' hi hj hi' hj' h
    have hold:∀ i j,i < k→j < 3→mb i j < W.heap.size:=fun i j hi hj=>M.lt hi hj
    have hnew:∀ j,j < 3→W.heap.size≤(if j = 0 then m0 else if j = 1 then m1 else m2):=fun j hj=>by split <;> (try split) <;> omega
    by_cases hik:i = k <;> by_cases hik':i' = k
    · simp only [hik,hik',if_true] at h
      refine ⟨hik.trans hik'.symm,?_⟩
      obtain rfl|rfl|rfl:j = 0∨j = 1∨j = 2:=by omega
      all_goals (obtain rfl|rfl|rfl:j' = 0∨j' = 1∨j' = 2:=by omega) <;> simp at h <;> omega
    · simp only [hik,hik',if_true,if_false] at h
      have:=hold i' j' (by omega) hj'
      have:=hnew j hj
      omega
    · simp only [hik,hik',if_true,if_false] at h
      have:=hold i j (by omega) hj
      have:=hnew j' hj'
      omega
    · simp only [hik,hik',if_false] at h
      exact M.inj i j i' j' (by omega) hj (by omega) hj' h
  · intro i j hi hj
    by_cases hik:i = k
    · simp only [hik,if_true]
      have hwW:w.heap.size≤W.heap.size:=Nat.le_trans M.b0 (Nat.le_of_lt hbW)
      split <;> (try split) <;> omega
    · simp only [hik,if_false];exact M.new i j (by omega) hj
theorem Made.tab {w W:World} {b:Nat} {mb:Nat→Nat→Nat} {g:Nat→Value} (M:Made w W b mb g 4):Tab W b (fun k=>w.heap.size≤k) []:=by
  refine ⟨.slice none 0 0,mb,g,⟨M.blk,M.g0,M.g21,Own.nil W,fun i hi=>(M.cells i hi).1,fun i hi=>(M.cells i hi).2.1,fun i hi=>(M.cells i hi).2.2.1,fun i hi=>(M.cells i hi).2.2.2.1,fun i hi=>(M.cells i hi).2.2.2.2,M.m0,M.m1,M.m2,M.inj⟩,?_⟩
  rintro k (rfl|h|⟨i,j,hi,hj,rfl⟩)
  · exact M.b0
  · cases h
  · exact M.new i j hi hj
theorem tabNew_calls (w:World):Ret Tryz.prog 55 #[] w fun v w'=>∃ b,v = .pointer (some ⟨b,0,none⟩)∧Ext w w'∧Tab w' b (fun k=>w.heap.size≤k) []:=by
  refine Fn_of Tryz.func55 rfl (Nat.le_of_ble_eq_true rfl) ?_;intro A hd hA;simp only [ix,Nat.reduceAdd];replace hA:A.tmps.size = 19:=hA
  repeat' (first|refine X_q ?_|refine X_nil ?_|refine W_seqk (fun K hK=>?_)|refine W_seqr ?_|refine W_block ?_|(refine X_s (fun x K hK=>?_);go_simp;refine hK _ _ (Ext.alloc _ _) ?_;clear hK K;refine X_al x ?_;generalize (World.later _ x).heap.size = bn;intro yn hn1 hn2 hn3 hn4 hn5;clear x)|go_step)
  refine W_loops [1,5] (fun n vs w'=>∃ (k:Nat) (y:Later w) (mb:Nat→Nat→Nat) (g:Nat→Value),w' = w.later y∧k + n = 4∧vs = [.pointer (some ⟨bn,0,none⟩),.int .i64 k]∧Made w (w.later y) bn mb g k) 4 hd hA (by decide) ?_ ?_
  · refine ⟨0,yn,fun _ _=>0,_,rfl,by omega,by simp,⟨hn1,Blk.new hn5.out,rfl,rfl,by intro i hi;omega,by intro i hi;omega,by intro i hi;omega,by intro i hi;omega,by intro i j i' j' hi;omega,by intro i j hi;omega⟩⟩
  clear hn3 hn4 hn5 hd hA A;intro n vs B w' hd hA _ ⟨k,y,mb,g,hw,hk,hvs,hM⟩;subst hw hvs
  simp only [List.zip_cons_cons,List.zip_nil_right,List.zip_nil_left]
  have HM:=Lib.hid hM
  have hblt:=hM.blk.lt
  clear hM
  by_cases hlt:k < 4
  · have hki:(k:Int) < 4:=by omega
    repeat' (first|refine X_q ?_|refine X_nil ?_|refine W_seqk (fun K hK=>?_)|refine W_seqr ?_|refine W_skip ?_|refine W_block ?_|refine W_tt ?_|go_step)
    refine X_s (fun x K hK=>?_);go_simp;refine hK _ _ (Ext.alloc _ _) ?_;clear hK K;refine X_alm x ?_;generalize (World.later _ x).heap.size = m0;intro y0 h0 l0 e0;clear x
    refine X_s (fun x K hK=>?_);go_simp;refine hK _ _ (Ext.alloc _ _) ?_;clear hK K;refine X_alm x ?_;generalize (World.later _ x).heap.size = m1;intro y1 h1 l1 e1;clear x
    refine X_s (fun x K hK=>?_);go_simp;refine hK _ _ (Ext.alloc _ _) ?_;clear hK K;refine X_alm x ?_;generalize (World.later _ x).heap.size = m2;intro y2 h2 l2 e2;clear x
    repeat' (first|refine X_q ?_|fail)
    refine X_store (off:=1 + k * 5) (HM.out.blk.later (by simp)) (fun W' hMM hB=>?_)
    have HN:=Lib.hid (HM.out.next hlt y0 y1 y2 h0 h1 h2 l0 l1 l2 e0.out e1.out e2.out hMM hB)
    have hE:Ext w W':=Ext.fresh (F:=fun k=>k = bn) (by simp:Ext w ((((w.later y).later y0).later y1).later y2)) hMM (fun i h=>by subst h;exact hn1)
    obtain ⟨y',rfl⟩:=hE.get
    repeat' (first|refine X_q ?_|refine X_nil ?_|refine W_seqr ?_|go_step)
    exact ⟨_,_,rfl,hd,hA,n - 1,by omega,k + 1,y',_,_,rfl,by omega,by simp,HN.out⟩
  · obtain rfl:k = 4:=by omega
    repeat' (first|refine X_q ?_|refine X_nil ?_|refine W_seqk (fun K hK=>?_)|refine W_seqr ?_|refine W_ret ?_|refine W_exit ?_|refine W_ff ?_|go_step)
    exact Body_ret hd ⟨_,rfl,y.2,HM.out.tab⟩
end Go.Ws
namespace Go.Ws
open Go Go.RowKit Go.Proofs
set_option maxHeartbeats 1000000
set_option maxRecDepth 100000
set_option linter.unusedVariables false
set_option linter.unusedSimpArgs false
def behindB (l:List Ent) (e:Ent):Bool:=l.any fun x=>decide (0≤e.id) && (x.id == e.id) && (x.num == e.num) && decide (1 < x.kind)
theorem drop_get {α:Type} {l:List α} {k:Nat} {e:α} (h:l[k]? = some e):l.drop k = e :: l.drop (k + 1):=by
  obtain ⟨hk,he⟩:=List.getElem?_eq_some_iff.1 h
  rw [List.drop_eq_getElem_cons hk,he]
def minF (n:Int) (os:List Opn):Int:=os.foldl (fun n o=>min n o.first) n
def stTo (l:List Ent):Nat→Int
  | 0=>l.length
  | k + 1=>minF (stTo l k) (opensB l k)
def stableB (l:List Ent):Int:=stTo l 4
theorem minF_snoc (n:Int) (os:List Opn) (o:Opn):minF n (os ++ [o]) = min (minF n os) o.first:=by simp [minF]
theorem opensB_len (l:List Ent) (id:Int):(opensB l id).length≤l.length:=by
  have:=opensTo_len l id l 0 []
  simpa [opensB] using this
theorem stable8_calls (l:List Ent) (v:Value) (w:World) (hl:RdE w v l) (hn:l.length≤1000000):Pure Tryz.prog 136 #[v] w (.int .i64 (stableB l)):=by
  have hl0:=Lib.hid hl
  obtain ⟨A0,c,rfl,hc,hcm,HR⟩:=hl.ent
  clear hl
  refine Fn_of Tryz.func136 rfl (Nat.le_of_ble_eq_true rfl) ?_;intro A hd hA;simp only [ix,Nat.reduceAdd];replace hA:A.tmps.size = 30:=hA
  repeat' (first|refine X_q ?_|refine X_nil ?_|refine W_seqk (fun K hK=>?_)|refine W_seqr ?_|refine W_block ?_|go_step)
  refine W_loops [0,3,4] (fun n vs w'=>∃ (k:Nat) (y:Later w),w' = w.later y∧k + n = 4∧vs = [.slice A0 l.length c,.int .i64 (stTo l k),.int .i64 k]) 4 hd hA (by decide) ?_ ?_
  · exact ⟨0,⟨w,Ext.refl w⟩,rfl,by omega,by simp [stTo]⟩
  clear hd hA A;intro n vs B w' hd hA _ ⟨k,y,hw,hk,hvs⟩;subst hw hvs
  simp only [List.zip_cons_cons,List.zip_nil_right,List.zip_nil_left]
  by_cases hlt:k < 4
  · have hki:(k:Int) < 4:=by omega
    repeat' (first|(refine X_ret Tryz.func135 (opens_calls l _ k _ (hl0.out.later (by simp)) hn) (fun v' w' hR=>?_);obtain ⟨hE',hO',-⟩:=hR;obtain ⟨y',rfl⟩:=hE'.get;have hR':=hO'.rd Opn.len;clear hE' hO';obtain ⟨A1,c1,rfl,hc1,hcm1,HR1⟩:=hR'.opn;clear hR')|refine X_q ?_|refine X_nil ?_|refine W_seqk (fun K hK=>?_)|refine W_seqr ?_|refine W_skip ?_|refine W_block ?_|refine W_tt ?_|go_step)
    have hob:=opensB_len l k
    refine W_loops [0,3,4,5,6] (fun n vs w'=>∃ (j:Nat),w' = (w.later y).later y'∧j + n = (opensB l k).length∧vs = [.slice A0 l.length c,.int .i64 (minF (stTo l k) ((opensB l k).take j)),.int .i64 k,.slice A1 (opensB l k).length c1,.int .i64 j]) (opensB l k).length hd hA (by decide) ?_ ?_
    · exact ⟨0,rfl,by omega,by simp [minF]⟩
    clear hd hA B;intro n2 vs B2 w' hd hA _ ⟨j,hw,hj,hvs⟩;subst hw hvs
    simp only [List.zip_cons_cons,List.zip_nil_right,List.zip_nil_left]
    by_cases hlj:j < (opensB l k).length
    · obtain ⟨x,b1,o1,HX,rfl,hb1,d0,d1⟩:=HR1.out j hlj
      repeat' (first|refine X_q ?_|refine X_nil ?_|refine W_seqk (fun K hK=>?_)|refine W_seqr ?_|refine W_skip ?_|refine W_block ?_|refine W_tt ?_|go_step)
      refine ⟨_,_,rfl,hd,hA,n2 - 1,by omega,j + 1,trivial,by omega,?_⟩
      rw [take_snoc HX.out,minF_snoc,Int.min_def]
      simp
      split <;> split <;> omega
    · obtain rfl:j = (opensB l k).length:=by omega
      repeat' (first|refine X_q ?_|refine X_nil ?_|refine W_seqk (fun K hK=>?_)|refine W_seqr ?_|refine W_exit ?_|refine W_ff ?_|go_step)
      refine ⟨_,_,rfl,hd,hA,n - 1,by omega,k + 1,y.trans y',rfl,by omega,?_⟩
      simp [stTo]
  · obtain rfl:k = 4:=by omega
    repeat' (first|refine X_q ?_|refine X_nil ?_|refine W_seqk (fun K hK=>?_)|refine W_seqr ?_|refine W_ret ?_|refine W_exit ?_|refine W_ff ?_|go_step)
    exact Body_ret hd ⟨rfl,by simp⟩
def goodTo (l:List Ent) (k:Nat):Bool:=(List.range k).all fun i=>match l[i]? with|some e=>!behindB (l.take i) e|none=>true
def seenB (p:List Ent) (e:Ent):Bool:=decide (e.id < 0) || p.any fun x=>(x.id == e.id) && (x.num == e.num) && (x.kind == 2)
def viewStep (p:List Ent) (i:Nat) (out:List Int) (e:Ent):List Int:=if e.kind != 1 then out else if seenB p e then out ++ [(i:Int)] else out
def viewTo (p:List Ent):Nat→List Int
  | 0=>[]
  | i + 1=>match p[i]? with|some e=>viewStep p i (viewTo p i) e|none=>viewTo p i
def viewL (p:List Ent):List Int:=viewTo p (stableB p).toNat
theorem viewTo_len (p:List Ent):∀ i,(viewTo p i).length≤i
  | 0=>by simp [viewTo]
  | i + 1=>by
    have ih:=viewTo_len p i
    unfold viewTo
    split
    · unfold viewStep
      split
      · omega
      · split
        · simp;omega
        · omega
    · omega
theorem minF_le (n:Int) (os:List Opn):minF n os≤n:=by
  unfold minF
  induction os generalizing n with
  | nil=>simp
  | cons o os ih=>simp only [List.foldl_cons];exact Int.le_trans (ih _) (Int.min_le_left _ _)
theorem stableB_le (l:List Ent):stableB l≤l.length:=by
  unfold stableB
  simp only [stTo]
  exact Int.le_trans (minF_le _ _) (Int.le_trans (minF_le _ _) (Int.le_trans (minF_le _ _) (minF_le _ _)))
theorem view9_calls (l : List Ent) (A0 : Option Addr) (c n : Nat) (w : World) (hl : RdE w (.slice A0 l.length c) l) (hn : n ≤ l.length) (hln : l.length ≤ 1000000) :
    Ret Tryz.prog 109 #[.slice A0 l.length c,.int .i64 n] w fun v' w'=>Ext w w'∧RdI w' v' (viewL (l.take n)):=by
  have hp:=hl.take n hn
  have hpl:(l.take n).length = n:=by simp;omega
  generalize hpe:l.take n = p at *
  have hcl:n≤c:=by obtain ⟨_,_,h1,h2,h3,_⟩:=hl;cases h1;omega
  subst hpl
  have hp0:=Lib.hid hp
  obtain ⟨A1,c1,heq,hc,hcm,HR⟩:=hp.ent
  cases heq
  clear hp hl hpe
  generalize l.length = N at *
  have hS:=Lib.hid (stableB_le p)
  refine Fn_of Tryz.func109 rfl (Nat.le_of_ble_eq_true rfl) ?_;intro A hd hA;simp only [ix,Nat.reduceAdd];replace hA:A.tmps.size = 71:=hA
  repeat' (first|refine X_pure Tryz.func136 (stable8_calls p _ _ hp0.out (by omega)) ?_|refine X_q ?_|refine X_nil ?_|refine W_seqk (fun K hK=>?_)|refine W_seqr ?_|refine W_block ?_|go_step)
  generalize hst:stableB p = st at *
  have HST:=Lib.hid hst;clear hst
  refine W_loops [0,1,5,6,7] (fun n vs w'=>∃ (k:Nat) (y:Later w) (u:Value),w' = w.later y∧k + n = st.toNat∧vs = [.slice A0 p.length c,.int .i64 p.length,.int .i64 st,u,.int .i64 k]∧OwnI (w.later y) u (viewTo p k)∧∀ b,u.ownBlock = some b→w.heap.size≤b) st.toNat hd hA (by decide) ?_ ?_
  · exact ⟨0,⟨w,Ext.refl w⟩,_,rfl,by omega,by simp,Own.nil _,by intro b hb;cases hb⟩
  clear hd hA A;intro n vs B w' hd hA _ ⟨k,y,u,hw,hk,hvs,hown,hfr⟩;subst hw hvs
  simp only [List.zip_cons_cons,List.zip_nil_right,List.zip_nil_left]
  have Ho:=Lib.hid hown;clear hown
  have Hf:=Lib.hid hfr;clear hfr
  by_cases hlt:k < st.toNat
  · have hki:(k:Int) < st:=by omega
    have hkp:k < p.length:=by have:=hS.out;omega
    obtain ⟨e,b,o,HE,rfl,hb,c0,c1,c2,c3,c4,c5⟩:=HR.out k hkp
    have HV:Hid (viewTo p (k + 1) = viewStep p k (viewTo p k) e):=Lib.hid (by rw [viewTo,HE.out])
    repeat' (first|refine X_q ?_|refine X_nil ?_|(refine X_var (fun yn bn hn1 hn2 hn3 hn4 hn5=>?_))|refine W_seqk (fun K hK=>?_)|refine W_seqr ?_|refine W_skip ?_|refine W_block ?_|refine W_exit ?_|refine W_tt ?_|refine W_test (fun hc=>?_) (fun hc=>?_)|go_step)
    · refine ⟨_,_,rfl,hd,hA,n - 1,by omega,k + 1,y.trans yn,u,rfl,by omega,by simp,?_,Hf.out⟩
      rw [HV.out]
      unfold viewStep
      rw [if_pos hc]
      exact Ho.out.later yn.2
    · have HKIND:=Lib.hid hc;clear hc
      have HVL:=Lib.hid (viewTo_len p k)
      refine W_loops [0,1,5,6,7,8,9,10] (fun n vs w'=>∃ (j:Nat),w' = (w.later y).later yn∧j + n = p.length∧vs = [.slice (some ⟨b,o,none⟩) p.length c,.int .i64 p.length,.int .i64 st,u,.int .i64 k,.pointer (some ⟨bn,0,none⟩),.bool (decide (e.id < 0) || (p.take j).any fun x=>(x.id == e.id) && (x.num == e.num) && (x.kind == 2)),.int .i64 j]) p.length hd hA (by decide) ⟨0,rfl,by omega,by simp⟩ ?_
      clear hd hA B;intro n2 vs B2 w' hd hA _ ⟨j,hw,hj,hvs⟩;subst hw hvs
      simp only [List.zip_cons_cons,List.zip_nil_right,List.zip_nil_left]
      by_cases hlj:j < p.length
      · obtain ⟨x,b1,o1,HX,hbe,hb1,d0,d1,d2,d3,d4,d5⟩:=HR.out j hlj
        cases hbe
        repeat' (first|refine X_d (fun vb hvb=>?_)|refine X_dg (fun vb hvb=>?_)|refine X_q ?_|refine X_g ?_|refine X_niln ?_|refine X_nil ?_|refine W_seqk (fun K hK=>?_)|refine W_seqr ?_|refine W_draw (by kernel_rfl) (by kernel_rfl) ?_|refine W_skip ?_|refine W_block ?_|refine W_tt ?_|go_step)
        refine ⟨_,_,rfl,hd,hA,n2 - 1,by omega,j + 1,trivial,by omega,?_⟩
        have:=take_snoc HX.out
        repeat cases ‹Eqn _ _›
        simp [this,Bool.or_assoc]
      · obtain rfl:j = p.length:=by omega
        repeat' (first|refine X_q ?_|refine X_nil ?_|refine W_seqk (fun K hK=>?_)|refine W_seqr ?_|refine W_skip ?_|refine W_exit ?_|(refine X_s (fun x K hK=>?_);go_simp;refine hK _ _ (Ext.alloc _ _) ?_;clear hK K;refine X_al x ?_;generalize (World.later _ x).heap.size = bn;intro yn hn1 hn2 hn3 hn4 hn5;clear x)|refine W_ff ?_|refine W_test (fun hc=>?_) (fun hc=>?_)|go_step)
        · refine X_push (w0:=w) (by simp) elemInt (Ho.out.later (by simp)) Hf.out (Rd.one (x:=(k:Int)) hn2 hn3 rfl) (by have:=HVL.out;simp;omega) (by have:=HVL.out;unfold maxLen;simp;omega) (fun y' v' hO hF _ _=>?_)
          repeat' (first|refine X_q ?_|refine X_nil ?_|refine W_seqr ?_|go_step)
          refine ⟨_,_,rfl,hd,hA,n - 1,by omega,k + 1,y',v',rfl,by omega,by simp,?_,hF⟩
          rw [HV.out]
          unfold viewStep
          have hq:=HKIND.out
          rw [if_neg (by rw [hq];simp),if_pos (by unfold seenB;simpa using hc)]
          exact hO
        · refine ⟨_,_,rfl,hd,hA,n - 1,by omega,k + 1,y.trans yn,u,rfl,by omega,by simp,?_,Hf.out⟩
          rw [HV.out]
          unfold viewStep
          have hq:=HKIND.out
          rw [if_neg (by rw [hq];simp),if_neg (by unfold seenB;simpa using hc)]
          exact Ho.out.later yn.2
  · obtain hks:k = st.toNat:=by omega
    repeat' (first|refine X_q ?_|refine X_nil ?_|refine W_seqk (fun K hK=>?_)|refine W_seqr ?_|refine W_ret ?_|refine W_skip ?_|refine W_block ?_|refine W_exit ?_|refine W_test (fun hc=>?_) (fun hc=>?_)|go_step)
    · exact absurd hc (by simp;omega)
    refine Body_ret hd ⟨by simp,?_⟩
    have:=Own.rd (enc:=ics) (k:=1) (fun _=>rfl) Ho.out
    rw [hks] at this
    unfold viewL
    rw [HST.out]
    exact this
end Go.Ws
namespace Go.Ws
open Go Go.RowKit Go.Proofs
set_option maxHeartbeats 2000000
set_option maxRecDepth 100000
set_option linter.unusedVariables false
set_option linter.unusedSimpArgs false
def ofFrom:List Ent→List Ent→Int
  | _,[]=>0
  | log,e :: es=>if appendNo log e = 0 then ofFrom (log ++ [e]) es else appendNo log e
def ofNo (l:List Ent):Int:=ofFrom [] l
theorem tabOf_calls (l : List Ent) (v : Value) (w : World) (hl : RdE w v l) : Ret Tryz.prog 57 #[v] w fun v' w' => Ext w w' ∧
    (ofNo l = 0→∃ b,v' = .tuple #[.pointer (some ⟨b,0,none⟩),.int .i64 0]∧Tab w' b (fun k=>w.heap.size≤k) l)∧(ofNo l ≠ 0→v' = .tuple #[.pointer none,.int .i64 (ofNo l)]):=by
  obtain ⟨A0,c,rfl,hc,hcm,HR⟩:=hl.ent
  clear hl
  refine Fn_of Tryz.func57 rfl (Nat.le_of_ble_eq_true rfl) ?_;intro A hd hA;simp only [ix,Nat.reduceAdd];replace hA:A.tmps.size = 23:=hA
  repeat' (first|(refine X_ret Tryz.func55 (tabNew_calls _) (fun v' w' hR=>?_);obtain ⟨bt,rfl,hE',hR'⟩:=hR;obtain ⟨y',rfl⟩:=hE'.get;have HT:=Lib.hid hR';clear hR' hE')|refine X_q ?_|refine X_nil ?_|refine W_seqk (fun K hK=>?_)|refine W_seqr ?_|refine W_block ?_|go_step)
  refine W_loops [4,9,10,11] (fun n vs w'=>∃ (k:Nat) (y:Later w),w' = w.later y∧k + n = l.length∧vs = [.pointer (some ⟨bt,0,none⟩),.slice A0 l.length c,.int .i64 l.length,.int .i64 k]∧Tab (w.later y) bt (fun k=>w.heap.size≤k) (l.take k)∧ofNo l = ofFrom (l.take k) (l.drop k)) l.length hd hA (by decide) ?_ ?_
  · exact ⟨0,y',rfl,by omega,by simp,by simpa using HT.out,rfl⟩
  clear hd hA A HT;intro n vs B w' hd hA _ ⟨k,y,hw,hk,hvs,hT,hm⟩;subst hw hvs
  simp only [List.zip_cons_cons,List.zip_nil_right,List.zip_nil_left]
  have HT:=Lib.hid hT;clear hT
  have HM:=Lib.hid hm;clear hm
  by_cases hlt:k < l.length
  · obtain ⟨e,b,o,HE,rfl,hb,c0,c1,c2,c3,c4,c5⟩:=HR.out k hlt
    have hm:=HM.out
    rw [drop_get HE.out,ofFrom] at hm
    have Hm:=Lib.hid hm;clear hm
    repeat' (first|(refine X_ret Tryz.func56 (tabAppend_calls (HT.out.later (by simp)) e) (fun v' w' hR=>?_);obtain ⟨rfl,hM',hR'⟩:=hR;have hE':=Ext.fresh (by simp) hM' (fun i h=>h);obtain ⟨y',rfl⟩:=hE'.get;have HT':=Lib.hid hR';clear hR' hE')|refine X_q ?_|refine X_nil ?_|(refine X_var (fun yn bn hn1 hn2 hn3 hn4 hn5=>?_))|refine W_seqk (fun K hK=>?_)|refine W_seqr ?_|refine W_ret ?_|refine W_skip ?_|refine W_block ?_|refine W_tt ?_|refine W_test (fun hc=>?_) (fun hc=>?_)|go_step)
    · have hq:appendNo (l.take k) e ≠ 0:=by simpa using hc
      have h0:ofNo l = appendNo (l.take k) e:=by rw [Hm.out,if_neg hq]
      refine Body_ret2 hd ⟨y'.2,fun h=>absurd (h0▸h) hq,fun _=>by rw [h0]⟩
    · have hq:appendNo (l.take k) e = 0:=by simpa using hc
      refine ⟨_,_,rfl,hd,hA,n - 1,by omega,k + 1,y',rfl,by omega,by simp,?_,?_⟩
      · have:=HT'.out
        rw [if_pos hq,← take_snoc HE.out] at this
        refine this.mono ?_
        rintro j (h|h)
        · exact h
        · exact Nat.le_trans (ext_l1 w y _).size h
      · rw [Hm.out,if_pos hq,take_snoc HE.out]
  · obtain rfl:k = l.length:=by omega
    repeat' (first|refine X_q ?_|refine X_nil ?_|refine W_seqk (fun K hK=>?_)|refine W_seqr ?_|refine W_ret ?_|refine W_exit ?_|refine W_ff ?_|go_step)
    have h0:ofNo l = 0:=by rw [HM.out,List.drop_length];rfl
    refine Body_ret2 hd ⟨y.2,fun _=>⟨bt,rfl,by simpa using HT.out⟩,fun h=>absurd h0 h⟩
section
variable {P:Program} {Q:Post} {A:Act} {fl:List (Nat × Value)} {ops:Array Oper} {o:Oper} {w:World}
theorem X_loadall {rest : List (Oper × Nat)} {x : Operand} {t : TypeId} {d b n : Nat} {E : TypeId} {g : Nat → Value} {td : TypeDesc} (hb : Blk w b E n g)
    (h:wpX P ops Q rest (fr ((d,.agg ((List.range n).map g).toArray) :: fl) A) w) (ho:o.op = .load t x:=by rfl) (hd:o.dst = some d:=by rfl) (hg:o.guard = none:=by rfl)
    (hu:P.underlying t = some td:=by kernel_rfl) (htd:td.isRow = true:=by rfl) (hi:(P.info? t).map (·.size) = some n:=by kernel_rfl)
    (hx:Is ((fr fl A).eval x) (.pointer (some ⟨b,0,none⟩)):=by go_simp;exact Is.mk _):wpX P ops Q ((o,0) :: rest) (fr fl A) w :=
  X_q h hd hg fun X=>by
    have hb':Blk (w.later X) b E n g:=hb.later X.2
    have:=run_loadAt_mid (P:=P) (w.later X) b 0 t ((List.range n).map g) td (fun j v hv=>by
      simp only [List.getElem?_map] at hv
      rcases Nat.lt_or_ge j n with hj|hj
      · rw [List.getElem?_range hj] at hv
        cases hv
        rw [Nat.zero_add];exact hb'.cell hj
      · rw [List.getElem?_eq_none (by simpa using hj)] at hv;cases hv) hu htd (by simpa using hi)
    unfold Oper.quietAt execOp
    simp only [ho,hx.eq,this,Sem.run_bind,Result.andThen_ok,Sem.run_pure,Oper.quietUpon]
    exact ⟨trivial,trivial⟩
end
theorem ofFrom_append:∀ (a b log:List Ent),ofFrom log a = 0→ofFrom log (a ++ b) = ofFrom (log ++ a) b
  | [],b,log,_=>by simp
  | x :: a,b,log,h=>by
    rw [ofFrom] at h
    rw [List.cons_append,ofFrom]
    by_cases hx:appendNo log x = 0
    · rw [if_pos hx] at h ⊢
      rw [ofFrom_append a b _ h];simp
    · rw [if_neg hx] at h;exact absurd h hx
theorem ofFrom_take:∀ (a log:List Ent) (n:Nat),ofFrom log a = 0→ofFrom log (a.take n) = 0
  | [],log,n,_=>by simp [ofFrom]
  | x :: a,log,0,_=>by simp [ofFrom]
  | x :: a,log,n + 1,h=>by
    rw [ofFrom] at h
    rw [List.take_succ_cons,ofFrom]
    by_cases hx:appendNo log x = 0
    · rw [if_pos hx] at h ⊢
      exact ofFrom_take a _ n h
    · rw [if_neg hx] at h;exact absurd h hx
theorem ofNo_take {l:List Ent} (h:ofNo l = 0) (n:Nat):ofNo (l.take n) = 0:=ofFrom_take l [] n h
theorem TabAt.one {w:World} {b:Nat} {u:Value} {mb:Nat→Nat→Nat} {g:Nat→Value} {l:List Ent} (h:TabAt w b u mb g l):∀ k,k < 22→(g k).oneCell' = true:=by
  intro k hk
  by_cases h0:k = 0
  · subst h0
    rw [h.g0]
    rcases h.own.shape with ⟨rfl,_⟩|⟨x,c,rfl,_⟩ <;> rfl
  by_cases h21:k = 21
  · subst h21;rw [h.g21];rfl
  obtain ⟨i,j,hi,hj,rfl⟩:∃ i j,i < 4∧j < 5∧k = 1 + i * 5 + j:=⟨(k - 1) / 5,(k - 1) % 5,by omega,by omega,by omega⟩
  obtain rfl|rfl|rfl|rfl|rfl:j = 0∨j = 1∨j = 2∨j = 3∨j = 4:=by omega
  · rw [Nat.add_zero,h.high i hi];rfl
  · rw [h.marked i hi];rfl
  · rw [h.next i hi];rfl
  · rw [h.opens i hi];rfl
  · rw [h.done i hi];rfl
theorem TabAt.into {w w':World} {b b':Nat} {u:Value} {mb:Nat→Nat→Nat} {g:Nat→Value} {l:List Ent} (h:TabAt w b' u mb g l) (hM:Mod (· = b) w w') (hb:Blk w' b 154 22 g) (hne:∀ k,Foot b' u mb k→k ≠ b):TabAt w' b u mb g l:=by
  have hmb:∀ i j,i < 4→j < 3→¬ (mb i j = b):=fun i j hi hj=>hne _ (.inr (.inr ⟨i,j,hi,hj,rfl⟩))
  exact ⟨hb,h.g0,h.g21,h.own.mod hM (fun k hk=>hne k (.inr (.inl hk))),h.high,h.marked,h.next,h.opens,h.done,
    fun i hi=>(h.mnext i hi).mod hM (hmb i 0 hi (by omega)),fun i hi=>(h.mopens i hi).mod hM (hmb i 1 hi (by omega)),fun i hi=>(h.mdone i hi).mod hM (hmb i 2 hi (by omega)),h.inj⟩
theorem tabTrunc_calls {b : Nat} {w : World} {F : Nat → Prop} {l : List Ent} (h : Tab w b F l) (hok : ofNo l = 0) (n : Int) : Ret Tryz.prog 126 #[.pointer (some ⟨b, 0, none⟩), .int .i64 n] w fun v w' =>
    if n < 0∨(l.length:Int) < n then v = .int .i64 4∧Ext w w' else v = .int .i64 0∧Mod F w w'∧Tab w' b (fun k=>F k∨w.heap.size≤k) (l.take n.toNat):=by
  obtain ⟨u,mb,g,h,hF⟩:=h
  have HF:=Lib.hid hF
  clear hF
  have HT:=Lib.hid h
  have hs:=h.seen
  clear h
  obtain ⟨hlt,hmade,hlog,hrd⟩:=hs
  have hrd0:=Lib.hid hrd
  obtain ⟨A0,c,rfl,hc,hcm,-⟩:=hrd.ent
  clear hrd
  by_cases hn:n < 0∨(l.length:Int) < n
  · simp only [if_pos hn]
    have HN:=Lib.hid hn
    clear hn
    refine Fn_of Tryz.func126 rfl (Nat.le_of_ble_eq_true rfl) ?_;intro A hd hA;simp only [ix,Nat.reduceAdd];replace hA:A.tmps.size = 42:=hA
    repeat' (first|refine X_pure Tryz.func110 (none_calls (b:=b) (by simp [hlt]) (by simp [hlt,hmade])) ?_|refine X_d (fun vb hvb=>?_)|refine X_q ?_|refine X_g ?_|refine X_nil ?_|refine W_seqk (fun K hK=>?_)|refine W_seqr ?_|refine W_ret ?_|refine W_skip ?_|refine W_block ?_|refine W_ff ?_|refine W_test (fun hc=>?_) (fun hc=>?_)|go_step)
    · exact Body_ret hd ⟨rfl,by simp⟩
    · exfalso
      cases hvb
      have:=HN.out
      simp at hc;omega
  · simp only [if_neg hn]
    obtain ⟨m,rfl⟩:∃ m:Nat,n = m:=⟨n.toNat,by omega⟩
    have hml:m≤l.length:=by omega
    have hmc:(m:Int)≤c:=by omega
    have hml':¬ ((l.length:Int) < m):=by omega
    rw [Int.toNat_natCast]
    clear hn
    refine Fn_of Tryz.func126 rfl (Nat.le_of_ble_eq_true rfl) ?_;intro A hd hA;simp only [ix,Nat.reduceAdd];replace hA:A.tmps.size = 42:=hA
    repeat' (first|refine X_pure Tryz.func110 (none_calls (b:=b) (by simp [hlt]) (by simp [hlt,hmade])) ?_|refine X_d (fun vb hvb=>?_)|refine X_q ?_|refine X_g ?_|refine X_nil ?_|refine W_seqk (fun K hK=>?_)|refine W_seqr ?_|refine W_ret ?_|refine W_skip ?_|refine W_block ?_|refine W_ff ?_|refine W_test (fun hc=>?_) (fun hc=>?_)|go_step)
    · exfalso
      cases hvb
      simp at hc
      omega
    clear hc hvb
    have hok':=ofNo_take hok m
    refine X_ret Tryz.func57 (tabOf_calls (l.take m) (.slice A0 m c) _ ((hrd0.out.take m hml).later (by simp))) (fun v' w' hR=>?_)
    obtain ⟨hE',hR1,-⟩:=hR
    obtain ⟨bt,rfl,hTT⟩:=hR1 hok'
    obtain ⟨y',rfl⟩:=hE'.get
    have HTT:=Lib.hid hTT
    clear hR1 hTT
    repeat' (first|refine X_q ?_|refine X_nil ?_|refine W_seqk (fun K hK=>?_)|refine W_seqr ?_|refine W_tt ?_|go_step)
    obtain ⟨u',mb',g',T',hF'⟩:=HTT.out
    refine X_loadall T'.blk ?_ (hu:=Tryz.underlying154)
    repeat' (first|refine X_q ?_|fail)
    refine X_store (off:=0) (v:=.agg ((List.range 22).map g').toArray) (HT.out.blk.later (by simp)) (fun W' hM' hB'=>?_) rfl rfl rfl (by go_simp;exact Is.mk _) (by go_simp;exact Is.mk _) (by kernel_rfl) (by simp [Value.cells]) (by
      simp only [Value.cells,List.all_toArray,List.all_map,List.all_eq_true,List.mem_range,Function.comp]
      exact fun k hk=>T'.one k hk)
    have hFb:∀ k,Foot bt u' mb' k→k ≠ b:=fun k hk=>by have:=hF' k hk;omega
    have hB:Blk W' b 154 22 g':=hB'.congr fun k hk=>by
      rw [put_in k (by simpa [Value.cells] using hk) (by omega)]
      simp [Value.cells,List.getD_eq_getElem?_getD,hk]
    have T2:=Lib.hid (T'.into hM' hB hFb)
    have HF':=Lib.hid hF'
    clear T' hF' hB' hB
    repeat' (first|refine X_q ?_|refine X_nil ?_|refine W_seqk (fun K hK=>?_)|refine W_seqr ?_|refine W_ret ?_|go_step)
    refine Body_ret hd ⟨rfl,Mod.trans y'.2 hM' (fun _ _ h=>h.elim) (fun k _ h=>by subst h;exact HF.out _ (.inl rfl)),u',mb',g',T2.out,?_⟩
    rintro k (rfl|h|⟨i,j,hi,hj,rfl⟩)
    · exact .inl (HF.out _ (.inl rfl))
    · exact .inr (HF'.out k (.inr (.inl h)))
    · exact .inr (HF'.out _ (.inr (.inr ⟨i,j,hi,hj,rfl⟩)))
theorem valuesOf_calls {w:World} {m:Nat}:Ret Tryz.prog 133 #[.map (some m)] w fun v w'=>∃ bx,v = .func (.func 150) #[] #[.pointer (some ⟨bx,0,none⟩)]∧Ext w w'∧w.heap.size≤bx∧bx < w'.heap.size∧w'.cell? ⟨bx,0,none⟩ = some (.map (some m)):=by
  refine Fn_of Tryz.func133 rfl (Nat.le_of_ble_eq_true rfl) ?_;intro A hd hA;simp only [ix,Nat.reduceAdd];replace hA:A.tmps.size = 4:=hA
  repeat' (first|refine X_q ?_|refine X_nil ?_|refine W_seqk (fun K hK=>?_)|refine W_seqr ?_|refine W_ret ?_|(refine X_s (fun x K hK=>?_);go_simp;refine hK _ _ (Ext.alloc _ _) ?_;clear hK K;refine X_al x ?_;generalize (World.later _ x).heap.size = bn;intro yn hn1 hn2 hn3 hn4 hn5;clear x)|go_step)
  exact Body_ret hd ⟨bn,rfl,yn.2,hn1,hn2,hn3 0⟩
theorem keysOf_calls {w:World} {m:Nat}:Ret Tryz.prog 138 #[.map (some m)] w fun v w'=>∃ bx,v = .func (.func 152) #[] #[.pointer (some ⟨bx,0,none⟩)]∧Ext w w'∧w.heap.size≤bx∧bx < w'.heap.size∧w'.cell? ⟨bx,0,none⟩ = some (.map (some m)):=by
  refine Fn_of Tryz.func138 rfl (Nat.le_of_ble_eq_true rfl) ?_;intro A hd hA;simp only [ix,Nat.reduceAdd];replace hA:A.tmps.size = 4:=hA
  repeat' (first|refine X_q ?_|refine X_nil ?_|refine W_seqk (fun K hK=>?_)|refine W_seqr ?_|refine W_ret ?_|(refine X_s (fun x K hK=>?_);go_simp;refine hK _ _ (Ext.alloc _ _) ?_;clear hK K;refine X_al x ?_;generalize (World.later _ x).heap.size = bn;intro yn hn1 hn2 hn3 hn4 hn5;clear x)|go_step)
  exact Body_ret hd ⟨bn,rfl,yn.2,hn1,hn2,hn3 0⟩
theorem least_calls {w : World} {lb : Array Value} {S Pre : List Int → Prop} {Rd : Nat → Prop} (n : Int) (hseq : Iter Tryz.prog 150 lb (fun x : Int => #[.int .i64 x]) S Pre Rd w) (hRd : ∀ k, Rd k → k < w.heap.size) :
    Ret Tryz.prog 132 #[.func (.func 150) #[] lb,.int .i64 n] w fun v w'=>∃ xs,S xs∧v = .int .i64 (xs.foldl min n)∧Ext w w':=by
  refine Fn_of Tryz.func132 rfl (Nat.le_of_ble_eq_true rfl) ?_;intro A hd hA;simp only [ix,Nat.reduceAdd];replace hA:A.tmps.size = 12:=hA
  repeat' (first|refine X_q ?_|refine X_nil ?_|refine W_seqk (fun K hK=>?_)|refine W_seqr ?_|refine W_block ?_|(refine X_s (fun x K hK=>?_);go_simp;refine hK _ _ (Ext.alloc _ _) ?_;clear hK K;refine X_al x ?_;generalize (World.later _ x).heap.size = bn;intro yn hn1 hn2 hn3 hn4 hn5;clear x)|go_step)
  have hbk:Blk (w.later yn) bn 3 1 (fun _=>.int .i64 n):=Blk.one hn5.out
  refine W_range (ps:=[7]) (encs:=fun x:Int=>[.int .i64 x]) Tryz.func150 (by kernel_rfl) (hseq.later yn.2) (fun _=>rfl) (by go_simp;exact Is.mk _)
    (fun pre B W=>B = (fun k=>k = bn)∧Ext w W∧Blk W bn 3 1 (fun _=>.int .i64 (pre.foldl min n))) (fun _ _ _ _=>False) ?_ ?_ (fun k=>k = bn) ⟨rfl,yn.2,hbk⟩ ?_ ?_ ?_ ?_
  · rintro pre B W W' ⟨rfl,hE,hB⟩ hM
    exact ⟨rfl,Mod.trans hE hM (fun _ _ h=>h) (fun k hk h=>by have:=h.2;have:=yn.2.size;have:w.heap.size≤(w.later yn).heap.size:=this;omega),hB.mod hM (fun h=>h.1 rfl)⟩
  · intro c pre B W W' h;exact h.elim
  · rintro k rfl
    exact ⟨hn2,fun h=>by have:=hRd _ h;omega⟩
  · rintro l pre B x W hl1 hl2 ⟨rfl,hE,hB⟩ hBl _
    simp only [List.zip_cons_cons,List.zip_nil_right,List.reverse_cons,List.reverse_nil,List.nil_append,List.singleton_append]
    repeat' (first|refine X_q ?_|refine X_nil ?_|refine W_seqr ?_|go_step)
    refine ⟨by simp,fun W2 hM2=>?_⟩
    have hbl:=(hBl bn rfl).1
    have hB2:=hB.mod hM2 hbl
    have c0:=hB2.cell (k:=0) (by omega)
    have hlt:=hB2.lt
    repeat' (first|refine X_q ?_|refine W_seqr ?_|refine W_block ?_|fail)
    refine X_store (off:=0) hB2 (fun W3 hM3 hB3=>?_)
    have hB4:Blk W3 bn 3 1 (fun _=>.int .i64 ((pre ++ [x]).foldl min n)):=hB3.congr (fun k hk=>by
      obtain rfl:k = 0:=by omega
      rw [List.foldl_append]
      simp only [Value.cells,put_one,if_true,List.foldl_cons,List.foldl_nil]
      rw [Int.min_def]
      congr 1
      split <;> split <;> omega)
    have hE3:Ext w W3:=Mod.trans (Mod.trans hE hM2 (fun _ _ h=>h) (fun k hk e=>by subst e;have:w.heap.size≤(w.later yn).heap.size:=yn.2.size;omega)) hM3 (fun _ _ h=>h) (fun k hk e=>by subst e;omega)
    repeat' (first|refine X_nil ?_|go_step)
    exact ⟨_,⟨rfl,hE3,hB4⟩,Mod.mono hM3 (fun k _ e=>.inl e),fun k hk=>⟨.inl hk,by subst hk;exact hB4.lt⟩⟩
  · rintro D xs B W hD hBD hS ⟨rfl,hE,hB⟩ hDD
    have c0:=hB.cell (k:=0) (by omega)
    have hlt:=hB.lt
    have hwD:w.heap.size≤D:=Nat.le_trans yn.2.size hD
    repeat' (first|refine X_q ?_|refine X_nil ?_|refine W_seqk (fun K hK=>?_)|refine W_seqr ?_|refine W_ret ?_|go_step)
    exact Body_retm (by simp [hd]) hDD ⟨xs,hS,rfl,hE.putNew hwD _⟩
  · intro D c pre B W _ _ h
    exact h.elim
end Go.Ws
