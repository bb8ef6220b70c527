/- Lemmas for the statements of this layer (joined texts); no condition. -/
import Derived.Test.YtlpjgegbdmkmdaaGreatBb10
import Derived.Test.YtlpjgegbdmkmdaaGreatBb13
import Derived.Test.YtlpjgegbdmkmdaaGreatBb15
import Derived.Test.YtlpjgegbdmkmdaaGreatBb16
import Derived.Test.YtlpjgegbdmkmdaaGreatBb20
import Derived.Test.YtlpjgegbdmkmdaaGreatBb23
import Derived.Test.YtlpjgegbdmkmdaaGreatBb25
namespace Go.Ws
open Go Go.RowKit Go.Proofs
set_option maxHeartbeats 4000000
set_option maxRecDepth 100000
set_option linter.unusedVariables false
set_option linter.unusedSimpArgs false
theorem does6_calls {w0 W : World} {b : Nat} {F X : Nat → Prop} {s : RepS} {uL uI uC vI vE vL : Value} {a : ActD} (h : HR w0 W b F s) (hg : s.Fine) (hX : ∀ k, X k → k < W.heap.size) (hv : VR (fun k => F k ∨ X k) W uL uI uC s) (ha : ActR (fun k => F k ∨ X k) W vI vE vL a) (hk : a.kind = 6) (hbe : a.reply.entries.length ≤ 20) :
    Ret Tryz.prog 16 #[.pointer (some ⟨b,0,none⟩),s.v uL uI uC,a.v vI vE vL] W fun r W'=>DoesR w0 W b F X (s.step (a.atS s)) r W':=by
  have HH:=Lib.hid h
  have HG:=Lib.hid hg
  have HXW:=Lib.hid hX
  clear hX
  have HVR:=Lib.hid hv
  have HAC:=Lib.hid (ha.at s)
  have NEAR:Hid (∀ W',Ext W W'→Ret Tryz.prog 35 #[a.v vI vE vL,s.v uL uI uC] W' fun r w'=>Ext W' w'∧r = (a.atS s).v vI vE vL):=Lib.hid (fun W' hE=>near_calls (hv.later hE) hg.good hg.ver (ha.later hE))
  have hka:(a.atS s).kind = 6:=(atS_kind a s).1.trans hk
  have ht:s.step (a.atS s) = s.take (a.atS s).reply:=by unfold RepS.step;simp [hka]
  rw [ht]
  clear ht
  have HEN:Hid ((a.atS s).reply.entries.length≤20):=Lib.hid (by rw [(atS_kind a s).2.2.2.2.2];exact hbe)
  clear hbe
  obtain ⟨A1,c1,rfl,-⟩:=hv.rl.rd.ent
  obtain ⟨A2,c2,rfl,-⟩:=hv.ri.rd.int
  obtain ⟨A3,c3,rfl,-⟩:=hv.rc.rd.int
  clear h hg hv ha hk
  generalize a.atS s = a' at *
  obtain ⟨A4,c4,rfl,-⟩:=HAC.out.ri.int
  obtain ⟨A5,c5,rfl,-⟩:=HAC.out.re.ent
  obtain ⟨A6,c6,rfl,-⟩:=HAC.out.rl.int
  refine Fn_of Tryz.func16 rfl (Nat.le_of_ble_eq_true rfl) ?_;intro A hd hA;simp only [ix,Nat.reduceAdd];replace hA:A.tmps.size = 268:=hA
  (repeat' (first|refine W_seqk (fun K hK=>?_)|refine W_seqr ?_|fail));(first|(refine X_var (fun yn b4 hn1 hn2 hn3 hn4 hn5=>?_))|(refine X_s (fun x K hK=>?_);go_simp;refine hK _ _ (Ext.alloc _ _) ?_;clear hK K;refine X_al x ?_;generalize (World.later _ x).heap.size = b4;intro yn hn1 hn2 hn3 hn4 hn5;clear x));have HBb4:=Lib.hid (Blk.new hn5.out);have HEb4:=Lib.hid yn.ext;have hlb4:(World.heap W).size≤b4:=hn1;generalize World.later W yn = W0 at *;clear hn1 hn2 hn3 hn4 hn5 yn
  (skip);(first|(refine X_var (fun yn b5 hn1 hn2 hn3 hn4 hn5=>?_))|(refine X_s (fun x K hK=>?_);go_simp;refine hK _ _ (Ext.alloc _ _) ?_;clear hK K;refine X_al x ?_;generalize (World.later _ x).heap.size = b5;intro yn hn1 hn2 hn3 hn4 hn5;clear x));have HBb5:=Lib.hid (Blk.new hn5.out);have HEb5:=Lib.hid yn.ext;have hlb5:(World.heap W0).size≤b5:=hn1;generalize World.later W0 yn = W1 at *;clear hn1 hn2 hn3 hn4 hn5 yn
  (skip);(first|(refine X_var (fun yn b6 hn1 hn2 hn3 hn4 hn5=>?_))|(refine X_s (fun x K hK=>?_);go_simp;refine hK _ _ (Ext.alloc _ _) ?_;clear hK K;refine X_al x ?_;generalize (World.later _ x).heap.size = b6;intro yn hn1 hn2 hn3 hn4 hn5;clear x));have HBb6:=Lib.hid (Blk.new hn5.out);have HEb6:=Lib.hid yn.ext;have hlb6:(World.heap W1).size≤b6:=hn1;generalize World.later W1 yn = W2 at *;clear hn1 hn2 hn3 hn4 hn5 yn
  have HBS:=Lib.hid ((fbox2 HBb4.out).later (Ext.trans HEb5.out HEb6.out))
  have HBA:Hid (Blk W2 b5 51 27 (aenc a (.slice A4 a'.view.isr.length c4) (.slice A5 a'.reply.entries.length c5) (.slice A6 a'.list.length c6))):=Lib.hid ((HBb5.out.later HEb6.out).congr (fun k hk=>rfl))
  have HBO:=HBb6
  have HE:=Lib.hid (Ext.trans (Ext.trans HEb4.out HEb5.out) HEb6.out)
  have hbb:b4 < b5:=by have:=HBb4.out.lt;omega
  have hbb2:b5 < b6:=by have:=HBb5.out.lt;omega
  have hs0:=HEb4.out.size
  have hs1:=HEb5.out.size
  have h6W:W.heap.size≤b6:=by omega
  clear HBb4 HBb5 HBb6 HEb4 HEb5 HEb6
  have HFW:Hid (∀ k,F k→k < W.heap.size):=Lib.hid (fun k hk=>(HH.out.hi k hk).2)
  have HVN:=Lib.hid (HVR.out.wide (N':=fun k=>F k∨X k∨k = b6) (fun k hk=>hk.elim (fun h=>.inl (.inl h)) (fun h=>h.elim (fun h=>.inl (.inr h)) (fun e=>.inr (by subst e;exact h6W)))))
  have HAN:=Lib.hid (HAC.out.wide (N':=fun k=>F k∨X k∨k = b6) (fun k hk=>hk.elim (fun h=>.inl (.inl h)) (fun h=>h.elim (fun h=>.inl (.inr h)) (fun e=>.inr (by subst e;exact h6W)))))
  clear HVR HAC
  have hal:=HBA.out.lt
  have hsl:=HBS.out.lt
  repeat' (first|refine X_q ?_|refine X_nil ?_|refine W_seqk (fun K hK=>?_)|refine W_seqr ?_|go_step)
  refine X_aload HBA.out ?_ (hu:=Tryz.underlying51)
  skip
  refine X_fload HBS.out ?_ (hu:=Tryz.underlying33)
  skip
  refine X_ret Tryz.func35 (NEAR.out _ HE.out) (fun r w1 hR=>?_)
  obtain ⟨hE1,rfl⟩:=hR
  replace HBS:=Lib.hid (HBS.out.later hE1)
  replace HBA:=Lib.hid (HBA.out.later hE1)
  replace HBO:=Lib.hid (HBO.out.later hE1)
  replace HE:=Lib.hid (Ext.trans HE.out hE1)
  clear hE1 NEAR hal hsl
  have hal:=HBA.out.lt
  skip
  refine X_store (off:=0) HBA.out (fun W1 hM1 hB1=>?_);replace HE:=Lib.hid (Ext.fresh HE.out hM1 (fun k hk=>by subst hk;omega));replace HBS:=Lib.hid (HBS.out.mod hM1 (fun h=>by omega));replace HBO:=Lib.hid (HBO.out.mod hM1 (fun h=>by omega));replace HBA:=Lib.hid hB1;clear hM1 hB1
  replace HBA:=Lib.hid (HBA.out.congr (g':=aenc a' (.slice A4 a'.view.isr.length c4) (.slice A5 a'.reply.entries.length c5) (.slice A6 a'.list.length c6)) (all27 ⟨rfl,rfl,rfl,rfl,rfl,rfl,rfl,rfl,rfl,rfl,rfl,rfl,rfl,rfl,rfl,rfl,rfl,rfl,rfl,rfl,rfl,rfl,rfl,rfl,rfl,rfl,rfl⟩))
  clear hal
  obtain ⟨hlt,d0,d1,d2,d3,d4,d5,d6,d7,d8,d9,d10⟩:=fcells HBS.out
  have hal:=HBA.out.lt
  have e0:=HBA.out.cell (k:=0) (by omega)
  change World.cell? _ _ = some (.int .i64 a'.kind) at e0
  have e18:=HBA.out.cell (k:=18) (by omega)
  change World.cell? _ _ = some (.int .i64 a'.reply.epoch) at e18
  have e19:=HBA.out.cell (k:=19) (by omega)
  change World.cell? _ _ = some (.int .i64 a'.reply.base) at e19
  have e20:=HBA.out.cell (k:=20) (by omega)
  change World.cell? _ _ = some (.int .i64 a'.reply.last) at e20
  have e21:=HBA.out.cell (k:=21) (by omega)
  change World.cell? _ _ = some (.bool a'.reply.cut) at e21
  have e22:=HBA.out.cell (k:=22) (by omega)
  change World.cell? _ _ = some (.int .i64 a'.reply.cutEpoch) at e22
  have e23:=HBA.out.cell (k:=23) (by omega)
  change World.cell? _ _ = some (.int .i64 a'.reply.cutEnd) at e23
  have e24:=HBA.out.cell (k:=24) (by omega)
  change World.cell? _ _ = some (.slice A5 a'.reply.entries.length c5) at e24
  have e25:=HBA.out.cell (k:=25) (by omega)
  change World.cell? _ _ = some (.int .i64 a'.reply.high) at e25
  rw [hka] at e0
  have hbol:=HBO.out.lt
  have hEW:=HE.out.size
  have HGG:=Lib.hid HG.out.good
  repeat' (first|refine X_q ?_|refine X_nil ?_|refine W_seqk (fun K hK=>?_)|refine W_seqr ?_|refine W_block ?_|refine W_tt ?_|refine W_ff ?_|go_step)
  refine X_fload HBS.out ?_ (hu:=Tryz.underlying33)
  repeat' (first|refine X_q ?_|fail)
  refine X_ret Tryz.func42 (take11_calls (N:=fun k=>F k∨X k∨k = b6) (p:=a'.reply) (fun k hk=>hk.elim (fun h=>by have:=HFW.out k h;omega) (fun h=>h.elim (fun h=>by have:=HXW.out k h;omega) (fun h=>by omega))) (HVN.out.later HE.out) HGG.out.len HGG.out.may (HAN.out.later HE.out).re.rd (by have:=HEN.out;omega)) (fun r w1 hR=>?_)
  obtain ⟨hE1,v1,rfl,oL,oI,oC,rfl,hVO⟩:=hR
  obtain ⟨B1,x1,rfl,-⟩:=hVO.rl.ent
  obtain ⟨B2,x2,rfl,-⟩:=hVO.ri.int
  obtain ⟨B3,x3,rfl,-⟩:=hVO.rc.int
  have HE1:=Lib.hid (Ext.trans HE.out hE1)
  have HVO:=Lib.hid hVO
  replace HBS:=Lib.hid (HBS.out.later hE1)
  replace HBA:=Lib.hid (HBA.out.later hE1)
  replace HBO:=Lib.hid (HBO.out.later hE1)
  clear hE1 hVO HE hbol hEW e0 e18 e19 e20 e21 e22 e23 e24 e25 hal
  clear hlt d0 d1 d2 d3 d4 d5 d6 d7 d8 d9 d10
  have HE:=Lib.hid (Ext.refl w1)
  have hbol:=HBO.out.lt
  have hEW:=HE1.out.size
  have h61:=HBO.out.lt
  have hal:=HBA.out.lt
  have e18:=HBA.out.cell (k:=18) (by omega)
  change World.cell? _ _ = some (.int .i64 a'.reply.epoch) at e18
  have e19:=HBA.out.cell (k:=19) (by omega)
  change World.cell? _ _ = some (.int .i64 a'.reply.base) at e19
  have e20:=HBA.out.cell (k:=20) (by omega)
  change World.cell? _ _ = some (.int .i64 a'.reply.last) at e20
  have e21:=HBA.out.cell (k:=21) (by omega)
  change World.cell? _ _ = some (.bool a'.reply.cut) at e21
  have e22:=HBA.out.cell (k:=22) (by omega)
  change World.cell? _ _ = some (.int .i64 a'.reply.cutEpoch) at e22
  have e23:=HBA.out.cell (k:=23) (by omega)
  change World.cell? _ _ = some (.int .i64 a'.reply.cutEnd) at e23
  have e24:=HBA.out.cell (k:=24) (by omega)
  change World.cell? _ _ = some (.slice A5 a'.reply.entries.length c5) at e24
  have e25:=HBA.out.cell (k:=25) (by omega)
  change World.cell? _ _ = some (.int .i64 a'.reply.high) at e25
  (repeat' (first|refine X_q ?_|fail));(first|(refine X_var (fun yn b8 hn1 hn2 hn3 hn4 hn5=>?_))|(refine X_s (fun x K hK=>?_);go_simp;refine hK _ _ (Ext.alloc _ _) ?_;clear hK K;refine X_al x ?_;generalize (World.later _ x).heap.size = b8;intro yn hn1 hn2 hn3 hn4 hn5;clear x));have HBb8:=Lib.hid (Blk.new hn5.out);have HEb8:=Lib.hid yn.ext;have hlb8:(World.heap w1).size≤b8:=hn1;generalize World.later w1 yn = W8 at *;clear hn1 hn2 hn3 hn4 hn5 yn
  have HBT:=Lib.hid (fbox2 HBb8.out)
  replace HE:=Lib.hid (HEb8.out)
  replace HBS:=Lib.hid (HBS.out.later HEb8.out)
  replace HBA:=Lib.hid (HBA.out.later HEb8.out)
  replace HBO:=Lib.hid (HBO.out.later HEb8.out)
  clear HBb8 HEb8
  clear hbol
  clear hal e18 e19 e20 e21 e22 e23 e24 e25
  have hal:=HBA.out.lt
  have e18:=HBA.out.cell (k:=18) (by omega)
  change World.cell? _ _ = some (.int .i64 a'.reply.epoch) at e18
  have e19:=HBA.out.cell (k:=19) (by omega)
  change World.cell? _ _ = some (.int .i64 a'.reply.base) at e19
  have e20:=HBA.out.cell (k:=20) (by omega)
  change World.cell? _ _ = some (.int .i64 a'.reply.last) at e20
  have e21:=HBA.out.cell (k:=21) (by omega)
  change World.cell? _ _ = some (.bool a'.reply.cut) at e21
  have e22:=HBA.out.cell (k:=22) (by omega)
  change World.cell? _ _ = some (.int .i64 a'.reply.cutEpoch) at e22
  have e23:=HBA.out.cell (k:=23) (by omega)
  change World.cell? _ _ = some (.int .i64 a'.reply.cutEnd) at e23
  have e24:=HBA.out.cell (k:=24) (by omega)
  change World.cell? _ _ = some (.slice A5 a'.reply.entries.length c5) at e24
  have e25:=HBA.out.cell (k:=25) (by omega)
  change World.cell? _ _ = some (.int .i64 a'.reply.high) at e25
  have hbol:=HBO.out.lt
  have h8l:=HBT.out.lt
  repeat' (first|refine X_q ?_|refine X_nil ?_|refine W_seqk (fun K hK=>?_)|go_step)
  obtain ⟨G,hG⟩:∃ G:Nat→Prop,G = (fun k=>F k∨k = b6):=⟨_,rfl⟩
  have HGo:Hid (G b6):=Lib.hid (by subst hG;exact .inr rfl)
  have HFG:Hid (∀ k,F k→G k):=Lib.hid (fun k hk=>by subst hG;exact .inl hk)
  have hG4:¬ G b4:=(by subst hG;rintro (h|h);(have:=HFW.out _ h;omega);omega)
  have hG5:¬ G b5:=(by subst hG;rintro (h|h);(have:=HFW.out _ h;omega);omega)
  have hG8:¬ G b8:=(by subst hG;rintro (h|h);(have:=HFW.out _ h;omega);omega)
  clear hG
  refine W_drawG G [(0,0),(1,0),(2,0),(3,3),(5,0),(4,1),(6,0),(7,2),(8,0)] (by kernel_rfl) (by kernel_rfl) ?_
  refine Y_fload HBT.out hG8 ?_ (hu:=Tryz.underlying33)
  repeat' (first|refine Y_q ?_|refine Y_r ?_|fail)
  refine Y_ret Tryz.func27 (R:=ProgR F b (s.take a'.reply) (· = .int .i64 (s.takeNo a'.reply)) _) (fun x=>prog_ret x (take_rep (p:=a'.reply) ((((HH.out.later HE1.out).later HE.out).later x.2).rep) HGG.out.ne HGG.out.may HGG.out.len (((HAN.out.later HE1.out).later HE.out).later x.2).re.rd (by have:=HEN.out;omega)) HFG.out) (fun r w4 hR=>?_)
  obtain ⟨rfl,hM,hRp⟩:=hR
  have HMc:=Lib.hid hM
  have HRc:=Lib.hid hRp
  have HEC:=HE
  have HBO4:=Lib.hid (HBO.out.mod hM (fun h=>by have:=HFW.out _ h;omega))
  clear hM hRp HBT HBA HBS
  repeat' (first|refine Y_q ?_|fail)
  refine Y_store (off:=0) HBO4.out HGo.out (fun W5 hM5 hG5x hB5=>?_)
  have HM5:=Lib.hid hM5
  have HB5:=Lib.hid (fput hB5)
  clear hM5 hG5x hB5
  repeat' (first|refine Y_q ?_|refine Y_nil ?_)
  repeat' (first|refine W_ret ?_|go_step)
  exact Body_retcellv (cs:=RepS.cs (s.take a'.reply) _ _ _) hd (does_end HH.out HE1.out HEC.out HMc.out HRc.out HM5.out h6W h61 HVO.out) HB5.out (fun k hk=>cs_fenc hk) Tryz.underlying33
end Go.Ws
namespace Go.Ws
open Go Go.RowKit Go.Proofs
set_option linter.unusedVariables false
theorem all4 {P:Nat→Prop} (h:P 0∧P 1∧P 2∧P 3):∀ k,k < 4→P k:=by
  obtain ⟨h0,h1,h2,h3⟩:=h
  intro k hk
  obtain rfl|rfl|rfl|rfl:k = 0∨k = 1∨k = 2∨k = 3:=by omega
  all_goals assumption
abbrev Alter.v (a:Alter) (u:Value):Value:=.agg #[.int .i64 a.leader,.int .i64 a.epoch,.int .i64 a.version,u]
def RepS.inStep1 (s:RepS) (b:Int):Bool:=decide (b ∈ s.isr) || decide (gmax s.high s.beg≤s.known b.toNat)
end Go.Ws
namespace Go.Ws
open Go Go.RowKit Go.Proofs
set_option maxHeartbeats 2000000
set_option maxRecDepth 100000
set_option linter.unusedVariables false
set_option linter.unusedSimpArgs false
def joinTo (a b:List Int) (k:Nat):List Int:=((List.range k).map Int.ofNat).filter fun x=>decide (x ∈ a) || decide (x ∈ b)
theorem joinTo_succ (a b:List Int) (k:Nat):joinTo a b (k + 1) = if ((k:Int) ∈ a∨(k:Int) ∈ b) then joinTo a b k ++ [(k:Int)] else joinTo a b k:=by
  unfold joinTo
  rw [List.range_succ,List.map_append,List.filter_append]
  split
  · rename_i h
    simp only [List.map_cons,List.map_nil,List.filter_cons,List.filter_nil]
    rw [if_pos (by simpa using h)];rfl
  · rename_i h
    simp only [List.map_cons,List.map_nil,List.filter_cons,List.filter_nil]
    rw [if_neg (by simpa using h)];simp
theorem joinTo_len (a b:List Int) (k:Nat):(joinTo a b k).length≤k:=by
  unfold joinTo
  exact Nat.le_trans (List.length_filter_le _ _) (by simp)
theorem joinTo_four (a b:List Int):joinTo a b 4 = joinB a b:=rfl
theorem propose11_calls {N:Nat→Prop} {w:World} {uL uI uC u:Value} {s:RepS} {l:List Int} (hN:∀ k,N k→k < w.heap.size) (h:VR N w uL uI uC s) (hu:RdI w u l):Ret Tryz.prog 43 #[s.v uL uI uC,u] w fun r w'=>Ext w w'∧∃ v' u',r = .tuple #[v',(s.alter l).v u',.int .i64 (s.propNo l)]∧FV N w' v' (s.prop l)∧RdI w' u' (s.alter l).isr:=by
  have HNN:=Lib.hid hN
  clear hN
  have HVR:=Lib.hid h
  obtain ⟨A1,c1,rfl,-⟩:=h.rl.rd.ent
  obtain ⟨A2,c2,rfl,-⟩:=h.ri.rd.int
  obtain ⟨A3,c3,rfl,-⟩:=h.rc.rd.int
  clear h
  have HU:=Lib.hid hu
  obtain ⟨A4,c4,rfl,-⟩:=hu.int
  clear hu
  have RISES:Hid (∀ W,Ext w W→Pure Tryz.prog 84 #[.slice A4 l.length c4,.int .i64 4] W (.bool (brokersB l))):=Lib.hid (fun W hE=>rrises_calls _ _ W (HU.out.later hE))
  have INL:Hid (∀ W x,Ext w W→Pure Tryz.prog 85 #[.slice A4 l.length c4,.int .i64 x] W (.bool (decide (x ∈ l)))):=Lib.hid (fun W x hE=>rin_calls _ _ x W (HU.out.later hE))
  have INI:Hid (∀ W x,Ext w W→Pure Tryz.prog 85 #[.slice A2 s.isr.length c2,.int .i64 x] W (.bool (decide (x ∈ s.isr)))):=Lib.hid (fun W x hE=>rin_calls _ _ x W (HVR.out.later hE).ri.rd)
  have INC:Hid (∀ W x,Ext w W→Pure Tryz.prog 85 #[.slice A3 s.counts.length c3,.int .i64 x] W (.bool (decide (x ∈ s.counts)))):=Lib.hid (fun W x hE=>rin_calls _ _ x W (HVR.out.later hE).rc.rd)
  by_cases q1:brokersB l = true
  · rw [q1] at RISES
    by_cases q2:s.self ∈ l
    · have q2b:decide (s.self ∈ l) = true:=by simpa using q2
      have hmay:s.propMay l = true:=by unfold RepS.propMay;rw [q1,q2b];rfl
      have HBK:=Lib.hid (brokersB_bks q1)
      have hl4:=brokersB_len q1
      by_cases q3:s.role = 3
      · have q3b:(s.role != 3) = false:=by simp [q3]
        have HR3:=Lib.hid q3
        have HMAY:=Lib.hid hmay
        clear q1 q3 hmay
        refine Fn_of Tryz.func43 rfl (Nat.le_of_ble_eq_true rfl) ?_;intro A hd hA;simp only [ix,Nat.reduceAdd];replace hA:A.tmps.size = 86:=hA
        (repeat' (first|refine W_seqk (fun K hK=>?_)|refine W_seqr ?_|fail));(first|(refine X_var (fun yn bx hn1 hn2 hn3 hn4 hn5=>?_))|(refine X_s (fun x K hK=>?_);go_simp;refine hK _ _ (Ext.alloc _ _) ?_;clear hK K;refine X_al x ?_;generalize (World.later _ x).heap.size = bx;intro yn hn1 hn2 hn3 hn4 hn5;clear x));have HBbx:=Lib.hid (Blk.new hn5.out);have HEbx:=Lib.hid yn.ext;have hlbx:(World.heap w).size≤bx:=hn1;generalize World.later w yn = W0 at *;clear hn1 hn2 hn3 hn4 hn5 yn
        (skip);(first|(refine X_var (fun yn bo hn1 hn2 hn3 hn4 hn5=>?_))|(refine X_s (fun x K hK=>?_);go_simp;refine hK _ _ (Ext.alloc _ _) ?_;clear hK K;refine X_al x ?_;generalize (World.later _ x).heap.size = bo;intro yn hn1 hn2 hn3 hn4 hn5;clear x));have HBbo:=Lib.hid (Blk.new hn5.out);have HEbo:=Lib.hid yn.ext;have hlbo:(World.heap W0).size≤bo:=hn1;generalize World.later W0 yn = W1 at *;clear hn1 hn2 hn3 hn4 hn5 yn
        (skip);(first|(refine X_var (fun yn bp hn1 hn2 hn3 hn4 hn5=>?_))|(refine X_s (fun x K hK=>?_);go_simp;refine hK _ _ (Ext.alloc _ _) ?_;clear hK K;refine X_al x ?_;generalize (World.later _ x).heap.size = bp;intro yn hn1 hn2 hn3 hn4 hn5;clear x));have HBbp:=Lib.hid (Blk.new hn5.out);have HEbp:=Lib.hid yn.ext;have hlbp:(World.heap W1).size≤bp:=hn1;generalize World.later W1 yn = W at *;clear hn1 hn2 hn3 hn4 hn5 yn
        have HBX:=Lib.hid ((fbox2 HBbx.out).later (Ext.trans HEbo.out HEbp.out))
        have HBO:=Lib.hid (HBbo.out.later HEbp.out)
        have HBP:=HBbp
        have HE:=Lib.hid (Ext.trans (Ext.trans HEbx.out HEbo.out) HEbp.out)
        have hbb:bx < bo:=by have:=HBbx.out.lt;omega
        have hbb2:bo < bp:=by have:=HBbo.out.lt;omega
        have hE0:=HEbx.out.size
        have hE1:=HEbo.out.size
        clear HBbx HBbo HBbp HEbx HEbo HEbp
        have hbol:=HBO.out.lt
        have hbpl:=HBP.out.lt
        obtain ⟨hlt,d0,d1,d2,d3,d4,d5,d6,d7,d8,d9,d10⟩:=fcells HBX.out
        repeat' (first|refine X_pure Tryz.func84 (RISES.out _ HE.out) ?_|(refine X_gpure Tryz.func85 (fun _=>INL.out _ _ HE.out) ?_)|refine X_gt ?_|refine X_q ?_|refine X_nil ?_|refine W_seqk (fun K hK=>?_)|refine W_seqr ?_|refine W_skip ?_|refine W_block ?_|refine W_ff ?_|go_step)
        obtain ⟨A5,c5,hA5,-,-,HC⟩:=(HU.out.later HE.out).int
        cases hA5
        refine W_loops [1,2,4,5,6,7] (fun n vs w'=>∃ k:Nat,w' = W∧k + n = l.length∧vs = [.slice A4 l.length c4,.pointer (some ⟨bx,0,none⟩),.pointer (some ⟨bo,0,none⟩),.pointer (some ⟨bp,0,none⟩),.int .i64 0,.int .i64 k]∧(l.drop k).all s.inStep1 = l.all s.inStep1) l.length hd hA (by decide) ⟨0,rfl,by omega,by simp,by simp⟩ ?_
        clear hd hA A;intro n vs B w' hd hA _ ⟨k,hw,hk,hvs,hm⟩;subst hw hvs
        simp only [List.zip_cons_cons,List.zip_nil_right,List.zip_nil_left]
        have HM:=Lib.hid hm
        clear hm
        by_cases hlt2:k < l.length
        · obtain ⟨x,b0,o,HX,rfl,hb,c0⟩:=HC.out k hlt2
          have hki:(k:Int) < l.length:=by omega
          obtain ⟨hx0,hx4⟩:=HBK.out x (mem_of_get HX.out)
          have HDR:=Lib.hid (drop_at HX.out)
          have HXX:=Lib.hid HX.out
          clear HX
          by_cases m:x ∈ s.isr
          · have mb:decide (x ∈ s.isr) = true:=by simpa using m
            have HIS:Hid (s.inStep1 x = true):=Lib.hid (by unfold RepS.inStep1;rw [mb];rfl)
            clear m
            repeat' (first|refine X_q ?_|refine X_nil ?_|refine W_seqk (fun K hK=>?_)|refine W_seqr ?_|refine W_skip ?_|refine W_block ?_|refine W_tt ?_|go_step)
            refine W_drawσ [(0,0),(1,0),(2,0),(3,0),(4,0),(5,0),(6,1),(7,0),(8,0),(9,0),(10,0),(11,0),(12,0),(13,0),(14,0),(15,0),(16,0),(17,0),(18,0),(19,0),(20,0),(21,0),(22,0)] (by kernel_rfl) (by kernel_rfl) ?_
            repeat' (first|(refine X_pure1 Tryz.func85 (fun y=>INI.out _ _ (Ext.trans HE.out y.ext)) ?_)|refine X_q ?_|refine X_g ?_|refine X_gf ?_|refine X_niln ?_|refine X_nil ?_|refine W_seqr ?_|refine W_skip ?_|refine W_ff ?_|go_step)
            exact ⟨_,_,rfl,hd,hA,n - 1,by omega,k + 1,by simp,by omega,by simp,by rw [← HM.out,HDR.out,List.all_cons,HIS.out,Bool.true_and]⟩
          · have mb:decide (x ∈ s.isr) = false:=by simpa using m
            have hkn:=fknown HBX.out x.toNat (by omega)
            clear m
            by_cases z:s.known x.toNat < (if s.high < s.beg then s.beg else s.high)
            · have HIS:Hid (s.inStep1 x = false):=Lib.hid (by unfold RepS.inStep1;rw [mb,Bool.false_or];unfold gmax;exact decide_eq_false (by omega))
              have hall:s.inStep l = false:=by
                show l.all s.inStep1 = false
                rw [← HM.out,HDR.out,List.all_cons,HIS.out];rfl
              have hno:s.propNo l = 213:=by unfold RepS.propNo;rw [if_neg (by rw [HMAY.out];decide),if_neg (by rw [HR3.out];decide),if_pos hall]
              have hal:s.alter l = ⟨0,0,0,[]⟩:=by unfold RepS.alter;rw [if_neg (by rw [hno];decide)]
              have hpr:s.prop l = s:=by unfold RepS.prop;rw [if_neg (by rw [hno];decide)]
              have HNO:=Lib.hid hno
              have HAL:=Lib.hid hal
              have HPR:=Lib.hid hpr
              clear hno hal hpr
              clear hall
              repeat' (first|refine X_q ?_|refine X_nil ?_|refine W_seqk (fun K hK=>?_)|refine W_seqr ?_|refine W_skip ?_|refine W_block ?_|refine W_tt ?_|go_step)
              refine W_drawσ [(0,0),(1,0),(2,0),(3,0),(4,0),(5,0),(6,1),(7,0),(8,0),(9,0),(10,0),(11,0),(12,0),(13,0),(14,0),(15,0),(16,0),(17,0),(18,0),(19,0),(20,0),(21,0),(22,0)] (by kernel_rfl) (by kernel_rfl) ?_
              repeat' (first|(refine X_pure1 Tryz.func85 (fun y=>INI.out _ _ (Ext.trans HE.out y.ext)) ?_)|refine X_gt ?_|refine X_q ?_|refine X_niln ?_|refine W_seqk (fun K hK=>?_)|refine W_seqr ?_|refine W_tt ?_|go_step)
              refine X_fload HBX.out ?_ (hu:=Tryz.underlying33)
              repeat' (first|refine X_q ?_|fail)
              refine X_store (off:=0) HBO.out (fun W1 hM1 hB1=>?_);replace HE:=Lib.hid (Ext.fresh HE.out hM1 (fun k hk=>by subst hk;omega));replace HBX:=Lib.hid (HBX.out.mod hM1 (fun h=>by omega));replace HBP:=Lib.hid (HBP.out.mod hM1 (fun h=>by omega));replace HBO:=Lib.hid hB1;clear hM1 hB1
              replace HBO:=Lib.hid (fput HBO.out)
              clear hbol hbpl
              have hbpl:=HBP.out.lt
              skip
              refine X_store (off:=0) HBP.out (fun W1 hM1 hB1=>?_);replace HE:=Lib.hid (Ext.fresh HE.out hM1 (fun k hk=>by subst hk;omega));replace HBO:=Lib.hid (HBO.out.mod hM1 (fun h=>by omega));replace HBP:=Lib.hid hB1;clear hM1 hB1
              replace HBP:=Lib.hid (HBP.out.congr (g':=fun k=>[Value.int .i64 0,.int .i64 0,.int .i64 0,.slice none 0 0].getD k undef) (all4 ⟨rfl,rfl,rfl,rfl⟩))
              repeat' (first|refine X_q ?_|refine X_nil ?_|refine W_ret ?_|go_step)
              exact Body_retccv (cs:=s.cs _ _ _) (cs2:=[Value.int .i64 0,.int .i64 0,.int .i64 0,.slice none 0 0]) hd ⟨HE.out,_,.slice none 0 0,by rw [HNO.out,HAL.out],by rw [HPR.out];exact ⟨_,_,_,rfl,HVR.out.later HE.out⟩,by rw [HAL.out];exact Rd.nil _⟩ HBO.out (fun k hk=>cs_fenc hk) HBP.out (all4 ⟨rfl,rfl,rfl,rfl⟩) Tryz.underlying33 Tryz.underlying79
            · have HIS:Hid (s.inStep1 x = true):=Lib.hid (by unfold RepS.inStep1;rw [mb,Bool.false_or];unfold gmax;exact decide_eq_true (by omega))
              repeat' (first|refine X_q ?_|refine X_nil ?_|refine W_seqk (fun K hK=>?_)|refine W_seqr ?_|refine W_skip ?_|refine W_block ?_|refine W_tt ?_|go_step)
              refine W_drawσ [(0,0),(1,0),(2,0),(3,0),(4,0),(5,0),(6,1),(7,0),(8,0),(9,0),(10,0),(11,0),(12,0),(13,0),(14,0),(15,0),(16,0),(17,0),(18,0),(19,0),(20,0),(21,0),(22,0)] (by kernel_rfl) (by kernel_rfl) ?_
              repeat' (first|(refine X_pure1 Tryz.func85 (fun y=>INI.out _ _ (Ext.trans HE.out y.ext)) ?_)|refine X_gt ?_|refine X_q ?_|refine X_niln ?_|refine X_nil ?_|refine W_seqr ?_|refine W_skip ?_|refine W_ff ?_|go_step)
              exact ⟨_,_,rfl,hd,hA,n - 1,by omega,k + 1,by simp,by omega,by simp,by rw [← HM.out,HDR.out,List.all_cons,HIS.out,Bool.true_and]⟩
        · have hki:¬ (k:Int) < l.length:=by omega
          have hall:s.inStep l = true:=by
            show l.all s.inStep1 = true
            rw [← HM.out,List.drop_eq_nil_of_le (by omega)];rfl
          have hno:s.propNo l = 0:=by unfold RepS.propNo;rw [if_neg (by rw [HMAY.out];decide),if_neg (by rw [HR3.out];decide),if_neg (by rw [hall];decide)]
          have hal:s.alter l = ⟨s.self,s.epoch,s.version,l⟩:=by unfold RepS.alter;rw [if_pos hno]
          have hpr:s.prop l = { s with counts:=joinB s.counts l }:=by unfold RepS.prop;rw [if_pos hno]
          have HNO:=Lib.hid hno
          have HAL:=Lib.hid hal
          have HPR:=Lib.hid hpr
          clear hno hal hpr hall
          have hWl:=HE.out.size
          repeat' (first|refine X_q ?_|refine X_nil ?_|refine W_seqk (fun K hK=>?_)|refine W_seqr ?_|refine W_block ?_|refine W_exit ?_|refine W_ff ?_|go_step)
          refine W_loops [1,2,4,5,6,8,9] (fun n vs w2=>∃ (k:Nat) (u:Value),Ext w' w2∧k + n = 4∧vs = [.slice A4 l.length c4,.pointer (some ⟨bx,0,none⟩),.pointer (some ⟨bo,0,none⟩),.pointer (some ⟨bp,0,none⟩),.int .i64 0,u,.int .i64 k]∧OwnI w2 u (joinTo s.counts l k)∧∀ g,u.ownBlock = some g→w'.heap.size≤g) 4 hd hA (by decide) ⟨0,.slice none 0 0,Ext.refl _,by omega,by simp,Own.nil _,fun g hg=>by cases hg⟩ ?_
          clear hd hA B;intro n2 vs B w2 hd hA _ ⟨i,u,hE2,hi,hvs,hown,hfr⟩;subst hvs
          have Ho:=Lib.hid hown
          have Hf:=Lib.hid hfr
          obtain ⟨A6,m6,c6,rfl⟩:=own_slice hown
          obtain ⟨y,rfl⟩:=hE2.get
          clear hE2 hown hfr
          have HEy:=Lib.hid (Ext.trans HE.out y.ext)
          simp only [List.zip_cons_cons,List.zip_nil_right,List.zip_nil_left]
          by_cases hi4:i < 4
          · have hii:(i:Int) < 4:=by omega
            have hjl:=joinTo_len s.counts l i
            by_cases m1:(i:Int) ∈ s.counts
            · have m1b:decide ((i:Int) ∈ s.counts) = true:=by simpa using m1
              have HJ:Hid (joinTo s.counts l (i + 1) = joinTo s.counts l i ++ [(i:Int)]):=Lib.hid (by rw [joinTo_succ,if_pos (.inl m1)])
              clear m1
              repeat' (first|(refine X_pure Tryz.func85 (INC.out _ _ HEy.out) ?_)|(refine X_gf2 ?_)|refine X_q ?_|refine X_g ?_|refine X_nil ?_|refine W_seqk (fun K hK=>?_)|refine W_seqr ?_|refine W_skip ?_|refine W_block ?_|(refine X_s (fun x K hK=>?_);go_simp;refine hK _ _ (Ext.alloc _ _) ?_;clear hK K;refine X_al x ?_;generalize (World.later _ x).heap.size = bn;intro yn hn1 hn2 hn3 hn4 hn5;clear x)|refine W_tt ?_|go_step)
              refine X_push (w0:=w') (xs:=joinTo s.counts l i) (by simp) elemInt (Ho.out.later yn.ext) Hf.out (Rd.one (x:=(i:Int)) hn2 hn3 rfl) (by simp;omega) (by unfold maxLen;simp;omega) (fun y2 v' hO2 hF2 hN2 hM2=>?_)
              have HO2:=Lib.hid hO2
              have HF2:=Lib.hid hF2
              clear hO2 hF2 hN2 hM2
              repeat' (first|refine X_q ?_|refine X_nil ?_|refine W_seqr ?_|go_step)
              exact ⟨_,_,rfl,hd,hA,n2 - 1,by omega,i + 1,_,y2.ext,by omega,by simp,by rw [HJ.out];exact HO2.out,HF2.out⟩
            · have m1b:decide ((i:Int) ∈ s.counts) = false:=by simpa using m1
              by_cases m2:(i:Int) ∈ l
              · have m2b:decide ((i:Int) ∈ l) = true:=by simpa using m2
                have HJ:Hid (joinTo s.counts l (i + 1) = joinTo s.counts l i ++ [(i:Int)]):=Lib.hid (by rw [joinTo_succ,if_pos (.inr m2)])
                clear m1 m2
                repeat' (first|(refine X_pure Tryz.func85 (INC.out _ _ HEy.out) ?_)|(refine X_pure Tryz.func85 (INL.out _ _ HEy.out) ?_)|refine X_gt ?_|refine X_q ?_|refine X_nil ?_|refine W_seqk (fun K hK=>?_)|refine W_seqr ?_|refine W_skip ?_|refine W_block ?_|(refine X_s (fun x K hK=>?_);go_simp;refine hK _ _ (Ext.alloc _ _) ?_;clear hK K;refine X_al x ?_;generalize (World.later _ x).heap.size = bn;intro yn hn1 hn2 hn3 hn4 hn5;clear x)|refine W_tt ?_|go_step)
                refine X_push (w0:=w') (xs:=joinTo s.counts l i) (by simp) elemInt (Ho.out.later yn.ext) Hf.out (Rd.one (x:=(i:Int)) hn2 hn3 rfl) (by simp;omega) (by unfold maxLen;simp;omega) (fun y2 v' hO2 hF2 hN2 hM2=>?_)
                have HO2:=Lib.hid hO2
                have HF2:=Lib.hid hF2
                clear hO2 hF2 hN2 hM2
                repeat' (first|refine X_q ?_|refine X_nil ?_|refine W_seqr ?_|go_step)
                exact ⟨_,_,rfl,hd,hA,n2 - 1,by omega,i + 1,_,y2.ext,by omega,by simp,by rw [HJ.out];exact HO2.out,HF2.out⟩
              · have m2b:decide ((i:Int) ∈ l) = false:=by simpa using m2
                have HJ:Hid (joinTo s.counts l (i + 1) = joinTo s.counts l i):=Lib.hid (by rw [joinTo_succ,if_neg (fun h=>h.elim m1 m2)])
                clear m1 m2
                repeat' (first|(refine X_pure Tryz.func85 (INC.out _ _ HEy.out) ?_)|(refine X_pure Tryz.func85 (INL.out _ _ HEy.out) ?_)|refine X_gt ?_|refine X_q ?_|refine X_nil ?_|refine W_seqk (fun K hK=>?_)|refine W_seqr ?_|refine W_skip ?_|refine W_block ?_|refine W_tt ?_|refine W_ff ?_|go_step)
                exact ⟨_,_,rfl,hd,hA,n2 - 1,by omega,i + 1,_,y.ext,by omega,by simp,by rw [HJ.out];exact Ho.out,Hf.out⟩
          · obtain rfl:i = 4:=by omega
            have hii:¬ ((4:Nat):Int) < 4:=by omega
            have HLO:=Ho.out
            rw [joinTo_four] at HLO
            have HL:=Lib.hid (HLO.rdt (enc:=ics) (k:=1) (fun _=>rfl))
            replace HE:=HEy
            replace HBX:=Lib.hid (HBX.out.later y.ext)
            replace HBO:=Lib.hid (HBO.out.later y.ext)
            replace HBP:=Lib.hid (HBP.out.later y.ext)
            clear HLO HEy Ho
            have hbw1:bx < w'.heap.size:=hlt
            have hbw2:bo < w'.heap.size:=hbol
            have hbw3:bp < w'.heap.size:=hbpl
            clear hlt hbol hbpl
            have hlt:=HBX.out.lt
            repeat' (first|refine X_q ?_|refine X_nil ?_|refine W_seqk (fun K hK=>?_)|refine W_seqr ?_|refine W_exit ?_|refine W_ff ?_|go_step)
            refine X_store (off:=10) HBX.out (fun W1 hM1 hB1=>?_);replace HE:=Lib.hid (Ext.fresh HE.out hM1 (fun k hk=>by subst hk;omega));replace HBO:=Lib.hid (HBO.out.mod hM1 (fun h=>by omega));replace HBP:=Lib.hid (HBP.out.mod hM1 (fun h=>by omega));replace HL:=Lib.hid (HL.out.mod hM1 (fun g hg he=>by subst he;have:=Hf.out _ hg;omega));replace HBX:=Lib.hid hB1;clear hM1 hB1
            obtain ⟨q,hq⟩:∃ q:RepS,q = { s with counts:=joinB s.counts l }:=⟨_,rfl⟩
            replace HBX:=Lib.hid (HBX.out.congr (g':=fenc q (.slice A1 s.log.length c1) (.slice A2 s.isr.length c2) (.slice A6 m6 c6)) (by subst hq;exact all15 ⟨rfl,rfl,rfl,rfl,rfl,rfl,rfl,rfl,rfl,rfl,rfl,rfl,rfl,rfl,rfl⟩))
            replace HPR:=Lib.hid (HPR.out.trans hq.symm)
            have HVQ:Hid (∀ W,Ext w W→RdT ics 1 W (.slice A6 m6 c6) (joinB s.counts l)→VR N W (.slice A1 s.log.length c1) (.slice A2 s.isr.length c2) (.slice A6 m6 c6) q):=Lib.hid (fun W hE h=>by subst hq;exact ⟨(HVR.out.later hE).rl,(HVR.out.later hE).ri,⟨h.rd,fun k hk=>⟨fun hn=>by have:=HNN.out k hn;have:=Hf.out k hk;omega,h.lt k hk⟩⟩⟩)
            have hqs:q.self = s.self∧q.epoch = s.epoch∧q.version = s.version:=by subst hq;exact ⟨rfl,rfl,rfl⟩
            have HQS:=Lib.hid hqs
            obtain ⟨qs1,qs2,qs3⟩:=hqs
            clear hq hlt d0 d1 d2 d3 d4 d5 d6 d7 d8 d9 d10
            obtain ⟨hlt,d0,d1,d2,d3,d4,d5,d6,d7,d8,d9,d10⟩:=fcells HBX.out
            rw [qs1] at d0
            rw [qs2] at d3
            rw [qs3] at d7
            clear qs1 qs2 qs3
            have hbol:=HBO.out.lt
            have hbpl:=HBP.out.lt
            obtain ⟨G,hG⟩:∃ G:Nat→Prop,G = (fun k=>k = bo∨k = bp):=⟨_,rfl⟩
            have HGo:Hid (G bo):=Lib.hid (by subst hG;exact .inl rfl)
            have HGp:Hid (G bp):=Lib.hid (by subst hG;exact .inr rfl)
            have hGbx:¬ G bx:=(by subst hG;show ¬ (bx = bo∨bx = bp);omega)
            clear hG
            repeat' (first|refine X_nil ?_|refine W_seqk (fun K hK=>?_)|go_step)
            refine W_drawG G [(0,3),(1,0),(2,0),(3,0),(4,0),(5,0),(6,0),(7,0),(8,0),(9,2),(10,2),(11,0)] (by kernel_rfl) (by kernel_rfl) ?_
            (first|refine Y_floadr HBX.out ?_ (hu:=Tryz.underlying33)|refine Y_fload HBX.out hGbx ?_ (hu:=Tryz.underlying33))
            repeat' (first|refine Y_q ?_|fail)
            refine Y_store (off:=0) HBO.out HGo.out (fun W1 hM1 hG1 hB1=>?_);replace HE:=Lib.hid (Ext.fresh HE.out hM1 (fun k hk=>by subst hk;omega));replace HBP:=Lib.hid (HBP.out.mod hM1 (fun h=>by omega));replace HL:=Lib.hid (HL.out.mod hM1 (fun g hg he=>by subst he;have:=Hf.out _ hg;omega));replace HBO:=Lib.hid hB1;clear hM1 hB1 hG1
            replace HBO:=Lib.hid (fput HBO.out)
            replace HGo:=HGp
            clear hbol hbpl
            have hbpl:=HBP.out.lt
            skip
            refine Y_store (off:=0) HBP.out HGo.out (fun W1 hM1 hG1 hB1=>?_);replace HE:=Lib.hid (Ext.fresh HE.out hM1 (fun k hk=>by subst hk;omega));replace HBO:=Lib.hid (HBO.out.mod hM1 (fun h=>by omega));replace HL:=Lib.hid (HL.out.mod hM1 (fun g hg he=>by subst he;have:=Hf.out _ hg;omega));replace HBP:=Lib.hid hB1;clear hM1 hB1 hG1
            replace HBP:=Lib.hid (HBP.out.congr (g':=fun k=>[Value.int .i64 s.self,.int .i64 s.epoch,.int .i64 s.version,.slice A4 l.length c4].getD k undef) (all4 ⟨rfl,rfl,rfl,rfl⟩))
            repeat' (first|refine Y_q ?_|refine Y_nil ?_)
            repeat' (first|refine W_ret ?_|go_step)
            exact Body_retccv (cs:=q.cs (.slice A1 s.log.length c1) (.slice A2 s.isr.length c2) (.slice A6 m6 c6)) (cs2:=[Value.int .i64 s.self,.int .i64 s.epoch,.int .i64 s.version,.slice A4 l.length c4]) hd ⟨HE.out,_,.slice A4 l.length c4,by rw [HNO.out,HAL.out],by rw [HPR.out];exact ⟨_,_,_,rfl,HVQ.out _ HE.out HL.out⟩,by rw [HAL.out];exact HU.out.later HE.out⟩ HBO.out (fun k hk=>cs_fenc hk) HBP.out (all4 ⟨rfl,rfl,rfl,rfl⟩) Tryz.underlying33 Tryz.underlying79
      · have q3b:(s.role != 3) = true:=by simp [q3]
        have hno:s.propNo l = 211:=by unfold RepS.propNo;rw [if_neg (by rw [hmay];decide),if_pos q3]
        have hal:s.alter l = ⟨0,0,0,[]⟩:=by unfold RepS.alter;rw [if_neg (by rw [hno];decide)]
        have hpr:s.prop l = s:=by unfold RepS.prop;rw [if_neg (by rw [hno];decide)]
        have HNO:=Lib.hid hno
        have HAL:=Lib.hid hal
        have HPR:=Lib.hid hpr
        clear hno hal hpr
        clear q1 q3 hmay
        refine Fn_of Tryz.func43 rfl (Nat.le_of_ble_eq_true rfl) ?_;intro A hd hA;simp only [ix,Nat.reduceAdd];replace hA:A.tmps.size = 86:=hA
        (repeat' (first|refine W_seqk (fun K hK=>?_)|refine W_seqr ?_|fail));(first|(refine X_var (fun yn bx hn1 hn2 hn3 hn4 hn5=>?_))|(refine X_s (fun x K hK=>?_);go_simp;refine hK _ _ (Ext.alloc _ _) ?_;clear hK K;refine X_al x ?_;generalize (World.later _ x).heap.size = bx;intro yn hn1 hn2 hn3 hn4 hn5;clear x));have HBbx:=Lib.hid (Blk.new hn5.out);have HEbx:=Lib.hid yn.ext;have hlbx:(World.heap w).size≤bx:=hn1;generalize World.later w yn = W0 at *;clear hn1 hn2 hn3 hn4 hn5 yn
        (skip);(first|(refine X_var (fun yn bo hn1 hn2 hn3 hn4 hn5=>?_))|(refine X_s (fun x K hK=>?_);go_simp;refine hK _ _ (Ext.alloc _ _) ?_;clear hK K;refine X_al x ?_;generalize (World.later _ x).heap.size = bo;intro yn hn1 hn2 hn3 hn4 hn5;clear x));have HBbo:=Lib.hid (Blk.new hn5.out);have HEbo:=Lib.hid yn.ext;have hlbo:(World.heap W0).size≤bo:=hn1;generalize World.later W0 yn = W1 at *;clear hn1 hn2 hn3 hn4 hn5 yn
        (skip);(first|(refine X_var (fun yn bp hn1 hn2 hn3 hn4 hn5=>?_))|(refine X_s (fun x K hK=>?_);go_simp;refine hK _ _ (Ext.alloc _ _) ?_;clear hK K;refine X_al x ?_;generalize (World.later _ x).heap.size = bp;intro yn hn1 hn2 hn3 hn4 hn5;clear x));have HBbp:=Lib.hid (Blk.new hn5.out);have HEbp:=Lib.hid yn.ext;have hlbp:(World.heap W1).size≤bp:=hn1;generalize World.later W1 yn = W at *;clear hn1 hn2 hn3 hn4 hn5 yn
        have HBX:=Lib.hid ((fbox2 HBbx.out).later (Ext.trans HEbo.out HEbp.out))
        have HBO:=Lib.hid (HBbo.out.later HEbp.out)
        have HBP:=HBbp
        have HE:=Lib.hid (Ext.trans (Ext.trans HEbx.out HEbo.out) HEbp.out)
        have hbb:bx < bo:=by have:=HBbx.out.lt;omega
        have hbb2:bo < bp:=by have:=HBbo.out.lt;omega
        have hE0:=HEbx.out.size
        have hE1:=HEbo.out.size
        clear HBbx HBbo HBbp HEbx HEbo HEbp
        have hbol:=HBO.out.lt
        have hbpl:=HBP.out.lt
        obtain ⟨hlt,d0,d1,d2,d3,d4,d5,d6,d7,d8,d9,d10⟩:=fcells HBX.out
        repeat' (first|refine X_pure Tryz.func84 (RISES.out _ HE.out) ?_|refine X_gpure Tryz.func85 (fun _=>INL.out _ _ HE.out) ?_|refine X_gt ?_|refine X_q ?_|refine X_nil ?_|refine W_seqk (fun K hK=>?_)|refine W_seqr ?_|refine W_skip ?_|refine W_tt ?_|refine W_ff ?_|go_step)
        refine X_fload HBX.out ?_ (hu:=Tryz.underlying33)
        repeat' (first|refine X_q ?_|fail)
        refine X_store (off:=0) HBO.out (fun W1 hM1 hB1=>?_);replace HE:=Lib.hid (Ext.fresh HE.out hM1 (fun k hk=>by subst hk;omega));replace HBX:=Lib.hid (HBX.out.mod hM1 (fun h=>by omega));replace HBP:=Lib.hid (HBP.out.mod hM1 (fun h=>by omega));replace HBO:=Lib.hid hB1;clear hM1 hB1
        replace HBO:=Lib.hid (fput HBO.out)
        clear hbol hbpl
        have hbpl:=HBP.out.lt
        skip
        refine X_store (off:=0) HBP.out (fun W1 hM1 hB1=>?_);replace HE:=Lib.hid (Ext.fresh HE.out hM1 (fun k hk=>by subst hk;omega));replace HBO:=Lib.hid (HBO.out.mod hM1 (fun h=>by omega));replace HBP:=Lib.hid hB1;clear hM1 hB1
        replace HBP:=Lib.hid (HBP.out.congr (g':=fun k=>[Value.int .i64 0,.int .i64 0,.int .i64 0,.slice none 0 0].getD k undef) (all4 ⟨rfl,rfl,rfl,rfl⟩))
        repeat' (first|refine X_q ?_|refine X_nil ?_|refine W_ret ?_|go_step)
        exact Body_retccv (cs:=s.cs _ _ _) (cs2:=[Value.int .i64 0,.int .i64 0,.int .i64 0,.slice none 0 0]) hd ⟨HE.out,_,.slice none 0 0,by rw [HNO.out,HAL.out],by rw [HPR.out];exact ⟨_,_,_,rfl,HVR.out.later HE.out⟩,by rw [HAL.out];exact Rd.nil _⟩ HBO.out (fun k hk=>cs_fenc hk) HBP.out (all4 ⟨rfl,rfl,rfl,rfl⟩) Tryz.underlying33 Tryz.underlying79
    · have q2b:decide (s.self ∈ l) = false:=by simpa using q2
      have hno:s.propNo l = 2:=by unfold RepS.propNo;rw [if_pos (by unfold RepS.propMay;rw [q1,q2b];rfl)]
      have hal:s.alter l = ⟨0,0,0,[]⟩:=by unfold RepS.alter;rw [if_neg (by rw [hno];decide)]
      have hpr:s.prop l = s:=by unfold RepS.prop;rw [if_neg (by rw [hno];decide)]
      have HNO:=Lib.hid hno
      have HAL:=Lib.hid hal
      have HPR:=Lib.hid hpr
      clear hno hal hpr
      clear q1 q2
      refine Fn_of Tryz.func43 rfl (Nat.le_of_ble_eq_true rfl) ?_;intro A hd hA;simp only [ix,Nat.reduceAdd];replace hA:A.tmps.size = 86:=hA
      (repeat' (first|refine W_seqk (fun K hK=>?_)|refine W_seqr ?_|fail));(first|(refine X_var (fun yn bx hn1 hn2 hn3 hn4 hn5=>?_))|(refine X_s (fun x K hK=>?_);go_simp;refine hK _ _ (Ext.alloc _ _) ?_;clear hK K;refine X_al x ?_;generalize (World.later _ x).heap.size = bx;intro yn hn1 hn2 hn3 hn4 hn5;clear x));have HBbx:=Lib.hid (Blk.new hn5.out);have HEbx:=Lib.hid yn.ext;have hlbx:(World.heap w).size≤bx:=hn1;generalize World.later w yn = W0 at *;clear hn1 hn2 hn3 hn4 hn5 yn
      (skip);(first|(refine X_var (fun yn bo hn1 hn2 hn3 hn4 hn5=>?_))|(refine X_s (fun x K hK=>?_);go_simp;refine hK _ _ (Ext.alloc _ _) ?_;clear hK K;refine X_al x ?_;generalize (World.later _ x).heap.size = bo;intro yn hn1 hn2 hn3 hn4 hn5;clear x));have HBbo:=Lib.hid (Blk.new hn5.out);have HEbo:=Lib.hid yn.ext;have hlbo:(World.heap W0).size≤bo:=hn1;generalize World.later W0 yn = W1 at *;clear hn1 hn2 hn3 hn4 hn5 yn
      (skip);(first|(refine X_var (fun yn bp hn1 hn2 hn3 hn4 hn5=>?_))|(refine X_s (fun x K hK=>?_);go_simp;refine hK _ _ (Ext.alloc _ _) ?_;clear hK K;refine X_al x ?_;generalize (World.later _ x).heap.size = bp;intro yn hn1 hn2 hn3 hn4 hn5;clear x));have HBbp:=Lib.hid (Blk.new hn5.out);have HEbp:=Lib.hid yn.ext;have hlbp:(World.heap W1).size≤bp:=hn1;generalize World.later W1 yn = W at *;clear hn1 hn2 hn3 hn4 hn5 yn
      have HBX:=Lib.hid ((fbox2 HBbx.out).later (Ext.trans HEbo.out HEbp.out))
      have HBO:=Lib.hid (HBbo.out.later HEbp.out)
      have HBP:=HBbp
      have HE:=Lib.hid (Ext.trans (Ext.trans HEbx.out HEbo.out) HEbp.out)
      have hbb:bx < bo:=by have:=HBbx.out.lt;omega
      have hbb2:bo < bp:=by have:=HBbo.out.lt;omega
      have hE0:=HEbx.out.size
      have hE1:=HEbo.out.size
      clear HBbx HBbo HBbp HEbx HEbo HEbp
      have hbol:=HBO.out.lt
      have hbpl:=HBP.out.lt
      obtain ⟨hlt,d0,d1,d2,d3,d4,d5,d6,d7,d8,d9,d10⟩:=fcells HBX.out
      repeat' (first|refine X_pure Tryz.func84 (RISES.out _ HE.out) ?_|refine X_gpure Tryz.func85 (fun _=>INL.out _ _ HE.out) ?_|refine X_gt ?_|refine X_q ?_|refine X_nil ?_|refine W_seqk (fun K hK=>?_)|refine W_seqr ?_|refine W_tt ?_|go_step)
      refine X_fload HBX.out ?_ (hu:=Tryz.underlying33)
      repeat' (first|refine X_q ?_|fail)
      refine X_store (off:=0) HBO.out (fun W1 hM1 hB1=>?_);replace HE:=Lib.hid (Ext.fresh HE.out hM1 (fun k hk=>by subst hk;omega));replace HBX:=Lib.hid (HBX.out.mod hM1 (fun h=>by omega));replace HBP:=Lib.hid (HBP.out.mod hM1 (fun h=>by omega));replace HBO:=Lib.hid hB1;clear hM1 hB1
      replace HBO:=Lib.hid (fput HBO.out)
      clear hbol hbpl
      have hbpl:=HBP.out.lt
      skip
      refine X_store (off:=0) HBP.out (fun W1 hM1 hB1=>?_);replace HE:=Lib.hid (Ext.fresh HE.out hM1 (fun k hk=>by subst hk;omega));replace HBO:=Lib.hid (HBO.out.mod hM1 (fun h=>by omega));replace HBP:=Lib.hid hB1;clear hM1 hB1
      replace HBP:=Lib.hid (HBP.out.congr (g':=fun k=>[Value.int .i64 0,.int .i64 0,.int .i64 0,.slice none 0 0].getD k undef) (all4 ⟨rfl,rfl,rfl,rfl⟩))
      repeat' (first|refine X_q ?_|refine X_nil ?_|refine W_ret ?_|go_step)
      exact Body_retccv (cs:=s.cs _ _ _) (cs2:=[Value.int .i64 0,.int .i64 0,.int .i64 0,.slice none 0 0]) hd ⟨HE.out,_,.slice none 0 0,by rw [HNO.out,HAL.out],by rw [HPR.out];exact ⟨_,_,_,rfl,HVR.out.later HE.out⟩,by rw [HAL.out];exact Rd.nil _⟩ HBO.out (fun k hk=>cs_fenc hk) HBP.out (all4 ⟨rfl,rfl,rfl,rfl⟩) Tryz.underlying33 Tryz.underlying79
  · have q1f:brokersB l = false:=by simpa using q1
    rw [q1f] at RISES
    have hno:s.propNo l = 2:=by unfold RepS.propNo;rw [if_pos (by unfold RepS.propMay;rw [q1f];rfl)]
    have hal:s.alter l = ⟨0,0,0,[]⟩:=by unfold RepS.alter;rw [if_neg (by rw [hno];decide)]
    have hpr:s.prop l = s:=by unfold RepS.prop;rw [if_neg (by rw [hno];decide)]
    have HNO:=Lib.hid hno
    have HAL:=Lib.hid hal
    have HPR:=Lib.hid hpr
    clear hno hal hpr
    clear q1 q1f
    refine Fn_of Tryz.func43 rfl (Nat.le_of_ble_eq_true rfl) ?_;intro A hd hA;simp only [ix,Nat.reduceAdd];replace hA:A.tmps.size = 86:=hA
    (repeat' (first|refine W_seqk (fun K hK=>?_)|refine W_seqr ?_|fail));(first|(refine X_var (fun yn bx hn1 hn2 hn3 hn4 hn5=>?_))|(refine X_s (fun x K hK=>?_);go_simp;refine hK _ _ (Ext.alloc _ _) ?_;clear hK K;refine X_al x ?_;generalize (World.later _ x).heap.size = bx;intro yn hn1 hn2 hn3 hn4 hn5;clear x));have HBbx:=Lib.hid (Blk.new hn5.out);have HEbx:=Lib.hid yn.ext;have hlbx:(World.heap w).size≤bx:=hn1;generalize World.later w yn = W0 at *;clear hn1 hn2 hn3 hn4 hn5 yn
    (skip);(first|(refine X_var (fun yn bo hn1 hn2 hn3 hn4 hn5=>?_))|(refine X_s (fun x K hK=>?_);go_simp;refine hK _ _ (Ext.alloc _ _) ?_;clear hK K;refine X_al x ?_;generalize (World.later _ x).heap.size = bo;intro yn hn1 hn2 hn3 hn4 hn5;clear x));have HBbo:=Lib.hid (Blk.new hn5.out);have HEbo:=Lib.hid yn.ext;have hlbo:(World.heap W0).size≤bo:=hn1;generalize World.later W0 yn = W1 at *;clear hn1 hn2 hn3 hn4 hn5 yn
    (skip);(first|(refine X_var (fun yn bp hn1 hn2 hn3 hn4 hn5=>?_))|(refine X_s (fun x K hK=>?_);go_simp;refine hK _ _ (Ext.alloc _ _) ?_;clear hK K;refine X_al x ?_;generalize (World.later _ x).heap.size = bp;intro yn hn1 hn2 hn3 hn4 hn5;clear x));have HBbp:=Lib.hid (Blk.new hn5.out);have HEbp:=Lib.hid yn.ext;have hlbp:(World.heap W1).size≤bp:=hn1;generalize World.later W1 yn = W at *;clear hn1 hn2 hn3 hn4 hn5 yn
    have HBX:=Lib.hid ((fbox2 HBbx.out).later (Ext.trans HEbo.out HEbp.out))
    have HBO:=Lib.hid (HBbo.out.later HEbp.out)
    have HBP:=HBbp
    have HE:=Lib.hid (Ext.trans (Ext.trans HEbx.out HEbo.out) HEbp.out)
    have hbb:bx < bo:=by have:=HBbx.out.lt;omega
    have hbb2:bo < bp:=by have:=HBbo.out.lt;omega
    have hE0:=HEbx.out.size
    have hE1:=HEbo.out.size
    clear HBbx HBbo HBbp HEbx HEbo HEbp
    have hbol:=HBO.out.lt
    have hbpl:=HBP.out.lt
    obtain ⟨hlt,d0,d1,d2,d3,d4,d5,d6,d7,d8,d9,d10⟩:=fcells HBX.out
    repeat' (first|refine X_pure Tryz.func84 (RISES.out _ HE.out) ?_|(refine X_gf2 ?_)|refine X_q ?_|refine X_g ?_|refine X_gf ?_|refine X_nil ?_|refine W_seqk (fun K hK=>?_)|refine W_seqr ?_|refine W_tt ?_|go_step)
    refine X_fload HBX.out ?_ (hu:=Tryz.underlying33)
    repeat' (first|refine X_q ?_|fail)
    refine X_store (off:=0) HBO.out (fun W1 hM1 hB1=>?_);replace HE:=Lib.hid (Ext.fresh HE.out hM1 (fun k hk=>by subst hk;omega));replace HBX:=Lib.hid (HBX.out.mod hM1 (fun h=>by omega));replace HBP:=Lib.hid (HBP.out.mod hM1 (fun h=>by omega));replace HBO:=Lib.hid hB1;clear hM1 hB1
    replace HBO:=Lib.hid (fput HBO.out)
    clear hbol hbpl
    have hbpl:=HBP.out.lt
    skip
    refine X_store (off:=0) HBP.out (fun W1 hM1 hB1=>?_);replace HE:=Lib.hid (Ext.fresh HE.out hM1 (fun k hk=>by subst hk;omega));replace HBO:=Lib.hid (HBO.out.mod hM1 (fun h=>by omega));replace HBP:=Lib.hid hB1;clear hM1 hB1
    replace HBP:=Lib.hid (HBP.out.congr (g':=fun k=>[Value.int .i64 0,.int .i64 0,.int .i64 0,.slice none 0 0].getD k undef) (all4 ⟨rfl,rfl,rfl,rfl⟩))
    repeat' (first|refine X_q ?_|refine X_nil ?_|refine W_ret ?_|go_step)
    exact Body_retccv (cs:=s.cs _ _ _) (cs2:=[Value.int .i64 0,.int .i64 0,.int .i64 0,.slice none 0 0]) hd ⟨HE.out,_,.slice none 0 0,by rw [HNO.out,HAL.out],by rw [HPR.out];exact ⟨_,_,_,rfl,HVR.out.later HE.out⟩,by rw [HAL.out];exact Rd.nil _⟩ HBO.out (fun k hk=>cs_fenc hk) HBP.out (all4 ⟨rfl,rfl,rfl,rfl⟩) Tryz.underlying33 Tryz.underlying79
theorem crash_no {w : World} {b : Nat} {F : Nat → Prop} {s : RepS} (h : Rep w b F s) (hs : s.least ≠ 0) (keep : Int) (hk : keep < 0) :
    Ret Tryz.prog 19 #[.pointer (some ⟨b,0,none⟩),.int .i64 keep] w fun r w'=>r = .int .i64 2∧Ext w w':=by
  have HP:=Lib.hid h
  have hkb:decide (0≤keep) = false:=by simp;omega
  have hkn:¬ 0≤keep:=by omega
  clear h
  refine Fn_ofD Tryz.func19 rfl (Nat.le_of_ble_eq_true rfl) ?_;intro A hd hA;simp only [ix,Nat.reduceAdd];replace hA:A.tmps.size = 56:=hA
  repeat' (first|refine X_nil ?_|refine W_seqk (fun K hK=>?_)|refine W_seqr ?_|(refine X_s (fun x K hK=>?_);go_simp;refine hK _ _ (Ext.alloc _ _) ?_;clear hK K;refine X_al x ?_;generalize (World.later _ x).heap.size = bn;intro yn hn1 hn2 hn3 hn4 hn5;clear x)|go_step)
  refine X_defc (be:=bn) hd hA (fun W hE=>by unfold execOp caughtD;go_simp) ?_;have hbe:=Lib.hid (Blk.one hn5.out);clear hd hA A;intro A hd hA;obtain ⟨be,hbe0⟩:∃ be:Nat,be = bn:=⟨_,rfl⟩;subst hbe0
  have HBE:=Lib.hid hbe.out
  have hE:Ext w (w.later yn):=yn.ext
  have HE:=Lib.hid hE
  have hwbe:w.heap.size≤be:=by omega
  have HP1:=Lib.hid (HP.out.later hE)
  generalize World.later _ yn = W at *
  clear hbe hE hn1 hn2 hn3 hn4 hn5 yn
  repeat' (first|refine X_pure Tryz.func33 (none_of HP1.out hs) ?_|(refine X_pure Tryz.func50 (must_ok 1) ?_)|refine X_q ?_|refine X_nil ?_|refine W_seqk (fun K hK=>?_)|refine W_seqr ?_|go_step)
  refine X_die Tryz.func50 (must_no 2) (fun c w' hC=>?_)
  obtain ⟨rfl,hE4⟩:=hC
  refine End_no1 hd (HBE.out.later hE4) (fun W1 hM=>?_)
  exact ⟨rfl,Ext.fresh (Ext.trans HE.out hE4) hM (fun k hk=>by subst hk;exact hwbe)⟩
theorem crash_rep {w : World} {b : Nat} {F : Nat → Prop} {s : RepS} (h : Rep w b F s) (hs : s.least ≠ 0) (hl : s.log.length ≤ 4096) (hf0 : 0 ≤ s.flushed) (hf1 : s.flushed ≤ s.log.length) (keep : Int) :
    Ret Tryz.prog 19 #[.pointer (some ⟨b,0,none⟩),.int .i64 keep] w fun r w'=>r = .int .i64 (s.crash keep).2∧Mod F w w'∧Rep w' b (fun k=>F k∨w.heap.size≤k) (s.crash keep).1:=by
  by_cases hk:keep < 0
  · have hc:s.crash keep = (s,2):=by unfold RepS.crash;rw [if_pos hk]
    rw [hc]
    refine Ret.mono (crash_no h hs keep hk) fun r w' hR=>⟨hR.1,hR.2.mono (fun _ _ h=>h.elim),(h.later hR.2).mono (fun k hk=>.inl hk)⟩
  · have hc:(s.crash keep).2 = 0:=by unfold RepS.crash;rw [if_neg hk]
    rw [hc]
    exact crash_ok h hs hl hf0 hf1 keep (by omega)
theorem is_eq {a b:Value} (h:a = b):Is a b:=h▸Is.mk _
def bitLen:Nat→Int
  | 0=>0
  | 1=>1
  | 2=>2
  | 3=>2
  | 8=>4
  | _=>3
theorem len64_calls (n:Nat) (hn:n≤8) (w:World):Pure Tryz.prog 149 #[.int .u64 n] w (.int .i64 (bitLen n)):=by
  obtain rfl|rfl|rfl|rfl|rfl|rfl|rfl|rfl|rfl:n = 0∨n = 1∨n = 2∨n = 3∨n = 4∨n = 5∨n = 6∨n = 7∨n = 8:=by omega
  · refine Fn_of Tryz.func149 rfl (Nat.le_of_ble_eq_true rfl) ?_;intro A hd hA;simp only [ix,Nat.reduceAdd];replace hA:A.tmps.size = 25:=hA
    repeat' (first|refine X_q ?_|refine X_nil ?_|refine W_seqk (fun K hK=>?_)|refine W_seqr ?_|refine W_ret ?_|refine W_skip ?_|refine W_ff ?_|go_step)
    exact Body_ret hd ⟨rfl,by simp⟩ (hv:=by go_simp;exact is_eq (by kernel_rfl))
  · refine Fn_of Tryz.func149 rfl (Nat.le_of_ble_eq_true rfl) ?_;intro A hd hA;simp only [ix,Nat.reduceAdd];replace hA:A.tmps.size = 25:=hA
    repeat' (first|refine X_q ?_|refine X_nil ?_|refine W_seqk (fun K hK=>?_)|refine W_seqr ?_|refine W_ret ?_|refine W_skip ?_|refine W_ff ?_|go_step)
    exact Body_ret hd ⟨rfl,by simp⟩ (hv:=by go_simp;exact is_eq (by kernel_rfl))
  · refine Fn_of Tryz.func149 rfl (Nat.le_of_ble_eq_true rfl) ?_;intro A hd hA;simp only [ix,Nat.reduceAdd];replace hA:A.tmps.size = 25:=hA
    repeat' (first|refine X_q ?_|refine X_nil ?_|refine W_seqk (fun K hK=>?_)|refine W_seqr ?_|refine W_ret ?_|refine W_skip ?_|refine W_ff ?_|go_step)
    exact Body_ret hd ⟨rfl,by simp⟩ (hv:=by go_simp;exact is_eq (by kernel_rfl))
  · refine Fn_of Tryz.func149 rfl (Nat.le_of_ble_eq_true rfl) ?_;intro A hd hA;simp only [ix,Nat.reduceAdd];replace hA:A.tmps.size = 25:=hA
    repeat' (first|refine X_q ?_|refine X_nil ?_|refine W_seqk (fun K hK=>?_)|refine W_seqr ?_|refine W_ret ?_|refine W_skip ?_|refine W_ff ?_|go_step)
    exact Body_ret hd ⟨rfl,by simp⟩ (hv:=by go_simp;exact is_eq (by kernel_rfl))
  · refine Fn_of Tryz.func149 rfl (Nat.le_of_ble_eq_true rfl) ?_;intro A hd hA;simp only [ix,Nat.reduceAdd];replace hA:A.tmps.size = 25:=hA
    repeat' (first|refine X_q ?_|refine X_nil ?_|refine W_seqk (fun K hK=>?_)|refine W_seqr ?_|refine W_ret ?_|refine W_skip ?_|refine W_ff ?_|go_step)
    exact Body_ret hd ⟨rfl,by simp⟩ (hv:=by go_simp;exact is_eq (by kernel_rfl))
  · refine Fn_of Tryz.func149 rfl (Nat.le_of_ble_eq_true rfl) ?_;intro A hd hA;simp only [ix,Nat.reduceAdd];replace hA:A.tmps.size = 25:=hA
    repeat' (first|refine X_q ?_|refine X_nil ?_|refine W_seqk (fun K hK=>?_)|refine W_seqr ?_|refine W_ret ?_|refine W_skip ?_|refine W_ff ?_|go_step)
    exact Body_ret hd ⟨rfl,by simp⟩ (hv:=by go_simp;exact is_eq (by kernel_rfl))
  · refine Fn_of Tryz.func149 rfl (Nat.le_of_ble_eq_true rfl) ?_;intro A hd hA;simp only [ix,Nat.reduceAdd];replace hA:A.tmps.size = 25:=hA
    repeat' (first|refine X_q ?_|refine X_nil ?_|refine W_seqk (fun K hK=>?_)|refine W_seqr ?_|refine W_ret ?_|refine W_skip ?_|refine W_ff ?_|go_step)
    exact Body_ret hd ⟨rfl,by simp⟩ (hv:=by go_simp;exact is_eq (by kernel_rfl))
  · refine Fn_of Tryz.func149 rfl (Nat.le_of_ble_eq_true rfl) ?_;intro A hd hA;simp only [ix,Nat.reduceAdd];replace hA:A.tmps.size = 25:=hA
    repeat' (first|refine X_q ?_|refine X_nil ?_|refine W_seqk (fun K hK=>?_)|refine W_seqr ?_|refine W_ret ?_|refine W_skip ?_|refine W_ff ?_|go_step)
    exact Body_ret hd ⟨rfl,by simp⟩ (hv:=by go_simp;exact is_eq (by kernel_rfl))
  · refine Fn_of Tryz.func149 rfl (Nat.le_of_ble_eq_true rfl) ?_;intro A hd hA;simp only [ix,Nat.reduceAdd];replace hA:A.tmps.size = 25:=hA
    repeat' (first|refine X_q ?_|refine X_nil ?_|refine W_seqk (fun K hK=>?_)|refine W_seqr ?_|refine W_ret ?_|refine W_skip ?_|refine W_ff ?_|go_step)
    exact Body_ret hd ⟨rfl,by simp⟩ (hv:=by go_simp;exact is_eq (by kernel_rfl))
theorem len_calls (n:Nat) (hn:n≤8) (w:World):Pure Tryz.prog 125 #[.int .u64 n] w (.int .i64 (bitLen n)):=by
  refine Fn_of Tryz.func125 rfl (Nat.le_of_ble_eq_true rfl) ?_;intro A hd hA;simp only [ix,Nat.reduceAdd];replace hA:A.tmps.size = 8:=hA
  repeat' (first|(refine X_pure Tryz.func149 (len64_calls n hn _) ?_)|refine X_q ?_|refine X_nil ?_|refine W_seqk (fun K hK=>?_)|refine W_seqr ?_|refine W_ret ?_|refine W_skip ?_|refine W_ff ?_|go_step)
  exact Body_ret hd ⟨rfl,by simp⟩
theorem isnan_calls (n:Int) (w:World):Pure Tryz.prog 158 #[.int .i64 n] w (.bool false):=by
  refine Fn_of Tryz.func158 rfl (Nat.le_of_ble_eq_true rfl) ?_;intro A hd hA;simp only [ix,Nat.reduceAdd];replace hA:A.tmps.size = 6:=hA
  repeat' (first|refine X_q ?_|refine X_nil ?_|refine W_seqk (fun K hK=>?_)|refine W_seqr ?_|refine W_ret ?_|go_step)
  exact Body_ret hd ⟨rfl,by simp⟩
theorem less_calls (a b:Int) (w:World):Pure Tryz.prog 145 #[.int .i64 a,.int .i64 b] w (.bool (decide (a < b))):=by
  refine Fn_of Tryz.func145 rfl (Nat.le_of_ble_eq_true rfl) ?_;intro A hd hA;simp only [ix,Nat.reduceAdd];replace hA:A.tmps.size = 17:=hA
  repeat' (first|(refine X_pure Tryz.func158 (isnan_calls _ _) ?_)|(refine X_gf2 ?_)|refine X_gt ?_|refine X_q ?_|refine X_g ?_|refine X_gf ?_|refine X_nil ?_|refine W_seqk (fun K hK=>?_)|refine W_seqr ?_|refine W_ret ?_|go_step)
  exact Body_ret hd ⟨rfl,by simp⟩
end Go.Ws
