/- Lemmas for the statements of this layer (joined texts); no condition. -/
import Derived.Test.YtlpjgegbdmkmdaaGreatBb02
import Derived.Test.YtlpjgegbdmkmdaaGreatBb03
import Derived.Test.YtlpjgegbdmkmdaaGreatBb20
import Derived.Test.YtlpjgegbdmkmdaaGreatBb21
import Derived.Test.YtlpjgegbdmkmdaaGreatBb22
import Derived.Test.YtlpjgegbdmkmdaaGreatBb24
import Derived.Test.YtlpjgegbdmkmdaaGreatBb26
import Derived.Test.YtlpjgegbdmkmdaaGreatBb28
namespace Go.Ws
open Go Go.RowKit Go.Proofs
set_option maxHeartbeats 4000000
set_option maxRecDepth 100000
set_option linter.unusedVariables false
set_option linter.unusedSimpArgs false
theorem does0_calls {w0 W : World} {b : Nat} {F X : Nat → Prop} {s : RepS} {uL uI uC vI vE vL : Value} {a : ActD} (h : HR w0 W b F s) (hg : s.Fine) (hX : ∀ k, X k → k < W.heap.size) (hv : VR (fun k => F k ∨ X k) W uL uI uC s) (ha : ActR (fun k => F k ∨ X k) W vI vE vL a) (hk : a.kind ∉ [1, 2, 3, 4, 5, 6, 7, 8, 9]) :
    Ret Tryz.prog 16 #[.pointer (some ⟨b,0,none⟩),s.v uL uI uC,a.v vI vE vL] W fun r W'=>DoesR w0 W b F X (s.step (a.atS s)) r W':=by
  have HH:=Lib.hid h
  have HG:=Lib.hid hg
  have HXW:=Lib.hid hX
  clear hX
  have HVR:=Lib.hid hv
  have HAC:=Lib.hid (ha.at s)
  have NEAR:Hid (∀ W',Ext W W'→Ret Tryz.prog 35 #[a.v vI vE vL,s.v uL uI uC] W' fun r w'=>Ext W' w'∧r = (a.atS s).v vI vE vL):=Lib.hid (fun W' hE=>near_calls (hv.later hE) hg.good hg.ver (ha.later hE))
  have hka:(a.atS s).kind ∉ [1,2,3,4,5,6,7,8,9]:=by rw [(atS_kind a s).1];exact hk
  simp only [List.mem_cons,List.not_mem_nil,or_false,not_or] at hka
  obtain ⟨k1,k2,k3,k4,k5,k6,k7,k8,k9⟩:=hka
  have ht:s.step (a.atS s) = s:=by unfold RepS.step;simp [k1,k2,k3,k5,k6,k7,k8]
  rw [ht]
  clear ht
  obtain ⟨A1,c1,rfl,-⟩:=hv.rl.rd.ent
  obtain ⟨A2,c2,rfl,-⟩:=hv.ri.rd.int
  obtain ⟨A3,c3,rfl,-⟩:=hv.rc.rd.int
  clear h hg hv ha hk
  generalize a.atS s = a' at *
  obtain ⟨A4,c4,rfl,-⟩:=HAC.out.ri.int
  obtain ⟨A5,c5,rfl,-⟩:=HAC.out.re.ent
  obtain ⟨A6,c6,rfl,-⟩:=HAC.out.rl.int
  refine Fn_of Tryz.func16 rfl (Nat.le_of_ble_eq_true rfl) ?_;intro A hd hA;simp only [ix,Nat.reduceAdd];replace hA:A.tmps.size = 268:=hA
  (repeat' (first|refine W_seqk (fun K hK=>?_)|refine W_seqr ?_|fail));(first|(refine X_var (fun yn b4 hn1 hn2 hn3 hn4 hn5=>?_))|(refine X_s (fun x K hK=>?_);go_simp;refine hK _ _ (Ext.alloc _ _) ?_;clear hK K;refine X_al x ?_;generalize (World.later _ x).heap.size = b4;intro yn hn1 hn2 hn3 hn4 hn5;clear x));have HBb4:=Lib.hid (Blk.new hn5.out);have HEb4:=Lib.hid yn.ext;have hlb4:(World.heap W).size≤b4:=hn1;generalize World.later W yn = W0 at *;clear hn1 hn2 hn3 hn4 hn5 yn
  (skip);(first|(refine X_var (fun yn b5 hn1 hn2 hn3 hn4 hn5=>?_))|(refine X_s (fun x K hK=>?_);go_simp;refine hK _ _ (Ext.alloc _ _) ?_;clear hK K;refine X_al x ?_;generalize (World.later _ x).heap.size = b5;intro yn hn1 hn2 hn3 hn4 hn5;clear x));have HBb5:=Lib.hid (Blk.new hn5.out);have HEb5:=Lib.hid yn.ext;have hlb5:(World.heap W0).size≤b5:=hn1;generalize World.later W0 yn = W1 at *;clear hn1 hn2 hn3 hn4 hn5 yn
  (skip);(first|(refine X_var (fun yn b6 hn1 hn2 hn3 hn4 hn5=>?_))|(refine X_s (fun x K hK=>?_);go_simp;refine hK _ _ (Ext.alloc _ _) ?_;clear hK K;refine X_al x ?_;generalize (World.later _ x).heap.size = b6;intro yn hn1 hn2 hn3 hn4 hn5;clear x));have HBb6:=Lib.hid (Blk.new hn5.out);have HEb6:=Lib.hid yn.ext;have hlb6:(World.heap W1).size≤b6:=hn1;generalize World.later W1 yn = W2 at *;clear hn1 hn2 hn3 hn4 hn5 yn
  have HBS:=Lib.hid ((fbox2 HBb4.out).later (Ext.trans HEb5.out HEb6.out))
  have HBA:Hid (Blk W2 b5 51 27 (aenc a (.slice A4 a'.view.isr.length c4) (.slice A5 a'.reply.entries.length c5) (.slice A6 a'.list.length c6))):=Lib.hid ((HBb5.out.later HEb6.out).congr (fun k hk=>rfl))
  have HBO:=HBb6
  have HE:=Lib.hid (Ext.trans (Ext.trans HEb4.out HEb5.out) HEb6.out)
  have hbb:b4 < b5:=by have:=HBb4.out.lt;omega
  have hbb2:b5 < b6:=by have:=HBb5.out.lt;omega
  have hs0:=HEb4.out.size
  have hs1:=HEb5.out.size
  have h6W:W.heap.size≤b6:=by omega
  clear HBb4 HBb5 HBb6 HEb4 HEb5 HEb6
  have HFW:Hid (∀ k,F k→k < W.heap.size):=Lib.hid (fun k hk=>(HH.out.hi k hk).2)
  have HVN:=Lib.hid (HVR.out.wide (N':=fun k=>F k∨X k∨k = b6) (fun k hk=>hk.elim (fun h=>.inl (.inl h)) (fun h=>h.elim (fun h=>.inl (.inr h)) (fun e=>.inr (by subst e;exact h6W)))))
  have HAN:=Lib.hid (HAC.out.wide (N':=fun k=>F k∨X k∨k = b6) (fun k hk=>hk.elim (fun h=>.inl (.inl h)) (fun h=>h.elim (fun h=>.inl (.inr h)) (fun e=>.inr (by subst e;exact h6W)))))
  clear HVR HAC
  have hal:=HBA.out.lt
  have hsl:=HBS.out.lt
  repeat' (first|refine X_q ?_|refine X_nil ?_|refine W_seqk (fun K hK=>?_)|refine W_seqr ?_|go_step)
  refine X_aload HBA.out ?_ (hu:=Tryz.underlying51)
  skip
  refine X_fload HBS.out ?_ (hu:=Tryz.underlying33)
  skip
  refine X_ret Tryz.func35 (NEAR.out _ HE.out) (fun r w1 hR=>?_)
  obtain ⟨hE1,rfl⟩:=hR
  replace HBS:=Lib.hid (HBS.out.later hE1)
  replace HBA:=Lib.hid (HBA.out.later hE1)
  replace HBO:=Lib.hid (HBO.out.later hE1)
  replace HE:=Lib.hid (Ext.trans HE.out hE1)
  clear hE1 NEAR hal hsl
  have hal:=HBA.out.lt
  skip
  refine X_store (off:=0) HBA.out (fun W1 hM1 hB1=>?_);replace HE:=Lib.hid (Ext.fresh HE.out hM1 (fun k hk=>by subst hk;omega));replace HBS:=Lib.hid (HBS.out.mod hM1 (fun h=>by omega));replace HBO:=Lib.hid (HBO.out.mod hM1 (fun h=>by omega));replace HBA:=Lib.hid hB1;clear hM1 hB1
  replace HBA:=Lib.hid (HBA.out.congr (g':=aenc a' (.slice A4 a'.view.isr.length c4) (.slice A5 a'.reply.entries.length c5) (.slice A6 a'.list.length c6)) (all27 ⟨rfl,rfl,rfl,rfl,rfl,rfl,rfl,rfl,rfl,rfl,rfl,rfl,rfl,rfl,rfl,rfl,rfl,rfl,rfl,rfl,rfl,rfl,rfl,rfl,rfl,rfl,rfl⟩))
  clear hal
  obtain ⟨hlt,d0,d1,d2,d3,d4,d5,d6,d7,d8,d9,d10⟩:=fcells HBS.out
  have hal:=HBA.out.lt
  have e0:=HBA.out.cell (k:=0) (by omega)
  change World.cell? _ _ = some (.int .i64 a'.kind) at e0
  have k1b:(a'.kind == 1) = false:=beq_false_of_ne k1
  have k2b:(a'.kind == 2) = false:=beq_false_of_ne k2
  have k3b:(a'.kind == 3) = false:=beq_false_of_ne k3
  have k4b:(a'.kind == 4) = false:=beq_false_of_ne k4
  have k5b:(a'.kind == 5) = false:=beq_false_of_ne k5
  have k6b:(a'.kind == 6) = false:=beq_false_of_ne k6
  have k7b:(a'.kind == 7) = false:=beq_false_of_ne k7
  have k8b:(a'.kind == 8) = false:=beq_false_of_ne k8
  have k9b:(a'.kind == 9) = false:=beq_false_of_ne k9
  clear k1 k2 k3 k4 k5 k6 k7 k8 k9
  have hbol:=HBO.out.lt
  have hEW:=HE.out.size
  have HGG:=Lib.hid HG.out.good
  repeat' (first|refine X_q ?_|refine X_nil ?_|refine W_seqk (fun K hK=>?_)|refine W_seqr ?_|refine W_skip ?_|refine W_block ?_|refine W_ff ?_|go_step)
  refine X_fload HBS.out ?_ (hu:=Tryz.underlying33)
  skip
  have HE1:=HE
  have HVO:=Lib.hid (HVN.out.later HE.out)
  replace HE:=Lib.hid (Ext.refl W1)
  have h61:=HBO.out.lt
  have hE9:=Ext.refl W1
  have HBO4:=HBO
  obtain ⟨hM,hRp⟩:Mod F _ _∧Rep _ b (fun k=>F k∨W1.heap.size≤k) s:=⟨hE9.mono (fun _ _ h=>h.elim),((((HH.out.later HE1.out).later HE.out).later hE9).rep).mono (fun k hk=>.inl hk)⟩
  have HMc:=Lib.hid hM
  have HRc:=Lib.hid hRp
  have HEC:=HE
  clear hM hRp
  refine X_store (off:=0) HBO4.out (fun W5 hM5 hB5=>?_)
  have HM5:=Lib.hid hM5
  have HB5:=Lib.hid (fput hB5)
  clear hM5 hB5
  repeat' (first|refine X_q ?_|refine X_nil ?_|refine W_ret ?_|go_step)
  exact Body_retcellv (cs:=RepS.cs (s) _ _ _) hd (does_end HH.out HE1.out HEC.out HMc.out HRc.out HM5.out h6W h61 HVO.out) HB5.out (fun k hk=>cs_fenc hk) Tryz.underlying33
def DoesOk (a:ActV):Prop:=∀ (w0 W:World) (b:Nat) (F X:Nat→Prop) (s:RepS) (uL uI uC:Value),HR w0 W b F s→s.Fine→(∀ k,X k→k < W.heap.size)→VR (fun k=>F k∨X k) W uL uI uC s→ActR (fun k=>F k∨X k) W a.uI a.uE a.uL a.act →
  Ret Tryz.prog 16 #[.pointer (some ⟨b,0,none⟩),s.v uL uI uC,a.act.v a.uI a.uE a.uL] W fun r W'=>DoesR w0 W b F X (s.step (a.act.atS s)) r W'
theorem doesOk {a:ActV} (hb:a.big = false):DoesOk a:=by
  intro w0 W b F X s uL uI uC h hg hX hv ha
  have hE:a.act.reply.entries.length≤20:=by
    unfold ActV.big at hb
    simp only [Bool.or_eq_false_iff,decide_eq_false_iff_not] at hb
    omega
  by_cases h1:a.act.kind = 1
  · exact does1_calls h hg hX hv ha h1
  by_cases h2:a.act.kind = 2
  · exact does2_calls h hg hX hv ha h2
  by_cases h3:a.act.kind = 3
  · exact does3_calls h hg hX hv ha h3
  by_cases h4:a.act.kind = 4
  · exact does4_calls h hg hX hv ha h4
  by_cases h5:a.act.kind = 5
  · exact does5_calls h hg hX hv ha h5
  by_cases h6:a.act.kind = 6
  · exact does6_calls h hg hX hv ha h6 hE
  have hL:a.act.list.length≤20:=by
    unfold ActV.big at hb
    simp only [Bool.or_eq_false_iff,decide_eq_false_iff_not] at hb
    omega
  by_cases h7:a.act.kind = 7
  · exact does7_calls h hg hX hv ha h7 hL
  by_cases h8:a.act.kind = 8
  · exact does8_calls h hg hX hv ha h8
  by_cases h9:a.act.kind = 9
  · exact does9_calls h hg hX hv ha h9
  exact does0_calls h hg hX hv ha (by simp [h1,h2,h3,h4,h5,h6,h7,h8,h9])
theorem count_ver (s:RepS):s.count.version = s.version:=(count_isr s).2.2.1
theorem fine_step {s:RepS} (h:s.Fine) (a:ActD):(s.step a).Fine:=by
  have hg:=h.good
  have hv:=h.ver
  unfold RepS.step
  split
  · refine ⟨good_learn hg _,?_⟩
    unfold RepS.learn
    split
    · rename_i hm
      have hvv:0≤a.view.version∧a.view.version≤2147483647:=by
        simp only [View.may,Bool.and_eq_true,inB,decide_eq_true_eq] at hm
        exact hm.1.1.1.2
      split
      · exact hv
      · split
        · unfold RepS.again
          split
          · split
            · show 0≤(s.steps a.view).count.version∧(s.steps a.view).count.version≤2147483647
              rw [count_ver];exact hvv
            · exact hv
          · split
            · split <;> exact hv
            · exact hv
        · show 0≤RepS.version (if a.view.leader = -1 then { s.turn a.view with role:=1 } else if a.view.leader = s.self then s.lead a.view else s.turn a.view)∧RepS.version (if a.view.leader = -1 then { s.turn a.view with role:=1 } else if a.view.leader = s.self then s.lead a.view else s.turn a.view)≤2147483647
          split
          · exact ⟨Int.le_refl _,by show (0:Int)≤_;decide⟩
          · split
            · unfold RepS.lead
              rw [count_ver];exact hvv
            · exact ⟨Int.le_refl _,by show (0:Int)≤_;decide⟩
    · exact hv
  · split
    · refine ⟨good_app hg _,?_⟩
      unfold RepS.app;split <;> exact hv
    · split
      · refine ⟨good_flush hg,?_⟩
        unfold RepS.flush;rw [count_ver];exact hv
      · split
        · refine ⟨good_serve hg _ _,?_⟩
          unfold RepS.serve
          split
          · exact hv
          · split
            · rw [count_ver];exact hv
            · exact hv
        · split
          · refine ⟨good_take hg _,?_⟩
            unfold RepS.take
            split
            · exact hv
            · split <;> exact hv
          · split
            · refine ⟨good_prop hg _,?_⟩
              unfold RepS.prop;split <;> exact hv
            · split
              · refine ⟨good_crash hg _,?_⟩
                unfold RepS.crash
                split
                · exact hv
                · exact ⟨Int.le_refl _,by show (0:Int)≤_;decide⟩
              · exact h
section
variable {P:Program} {ops:Array Oper} {hs:List Nat} {Q:Post} {f:Nat} {listed:Array Bool} {A:Act} {fl:List (Nat × Value)} {w:World}
theorem S_hret {i : Nat} {o : Oper} {g : FuncId} {fn : Func} {la : List Operand} {ats : Array TypeId} {lv lv' : List Value} {R : World → Value → World → Prop} {d : Nat} (hf : P.funcs[g]? = some fn)
    (hc:∀ x:Later w,Ret P g lv.toArray (w.later x) (R (w.later x))) (h:∀ (x:Later w) v w',R (w.later x) v w'→wpF P ops hs Q f (listed.setIfInBounds i true) (fr ((d,v) :: fl) A) w') (hi:ops[i]? = some o:=by rfl) (hh:hs.contains i = true:=by rfl) (hd:o.dst = some d:=by rfl)
    (hop:o.op = .call { callee:=.value (.func g),args:=la.toArray,argTypes:=ats }:=by rfl) (hn:callable fn = true:=by kernel_rfl) (hg:o.guard = none:=by rfl) (hargs:Is (la.map (fr fl A).eval) lv':=by go_simp;exact Is.mk _) (hlv:lv' = lv:=by rfl):stepF P ops hs Q f listed (fr fl A) w i:=by
  intro x
  unfold softOp
  simp only [hi]
  rw [if_pos (by simp [Region.wanted,hg])]
  unfold OpW
  rw [run_call hf hn hop,hargs.eq,hlv]
  simp only [uponW]
  refine Calls.mono (Fn.calls (hc x)) fun e w' hR=>?_
  obtain ⟨w0,hE,hR⟩:=hR
  cases e with
  | returned v =>
    have h2:=h x v w0 hR
    exact ⟨fun h0=>absurd h0 (by rw [hh];decide),by rw [hd,fr_put];exact h2.later hE⟩
  | panicked c=>exact hR.elim
  | outgrown=>exact hR.elim
theorem F_fload {i : Nat} {o : Oper} {x : Operand} {t : TypeId} {d b : Nat} {E : TypeId} {td : TypeDesc} {s : RepS} {uL uI uC : Value} (hb : Blk w b E 15 (fenc s uL uI uC))
    (h:wpF P ops hs Q f (listed.setIfInBounds i true) (fr ((d,s.v uL uI uC) :: fl) A) w) (hi:ops[i]? = some o:=by rfl) (hB:firstB ops hs listed i = true:=by kernel_rfl) (ho:o.op = .load t x:=by rfl) (hd:o.dst = some d:=by rfl) (hg:o.guard = none:=by rfl)
    (hu:P.underlying t = some td:=by kernel_rfl) (htd:td.isRow = true:=by rfl) (hs':(P.info? t).map (·.size) = some 15:=by kernel_rfl)
    (hx:Is ((fr fl A).eval x) (.pointer (some ⟨b,0,none⟩)):=by go_simp;exact Is.mk _):wpF P ops hs Q (f + 1) listed (fr fl A) w :=
  F_q h hi hB hd hg fun X=>quiet_fload (hb.later X.2) ho hu htd hs' hx
theorem F_aelem {i : Nat} {o : Oper} {x : Operand} {t : TypeId} {d b off : Nat} {td : TypeDesc} {a : ActV} (hb : b < w.heap.size) (hc : ∀ j u, (a.cs)[j]? = some u → w.cell? ⟨b, off + j, none⟩ = some u)
    (h:wpF P ops hs Q f (listed.setIfInBounds i true) (fr ((d,a.act.v a.uI a.uE a.uL) :: fl) A) w) (hi:ops[i]? = some o:=by rfl) (hB:firstB ops hs listed i = true:=by kernel_rfl) (ho:o.op = .load t x:=by rfl) (hd:o.dst = some d:=by rfl) (hg:o.guard = none:=by rfl)
    (hu:P.underlying t = some td:=by kernel_rfl) (htd:td.isRow = true:=by rfl) (hs':(P.info? t).map (·.size) = some 27:=by kernel_rfl)
    (hx:Is ((fr fl A).eval x) (.pointer (some ⟨b,off,none⟩)):=by go_simp;exact Is.mk _):wpF P ops hs Q (f + 1) listed (fr fl A) w :=
  F_q h hi hB hd hg fun X=>by
    have:=run_loadAt_mid (P:=P) (w.later X) b off t a.cs td (fun j v hv=>(World.cell?_of_block (X.2.block b hb (fun h=>h))).trans (hc j v hv)) hu htd hs'
    unfold Oper.quietAt execOp
    simp only [ho,hx.eq,this,Sem.run_bind,Result.andThen_ok,Sem.run_pure,Oper.quietUpon]
    exact ⟨trivial,rfl⟩
end
structure PlaySt (w W:World) (b b9:Nat) (F:Nat→Prop) (s:RepS) (uL uI uC:Value):Prop where
  hr:HR w W b F s
  fine:s.Fine
  blk:Blk W b9 33 15 (fenc s uL uI uC)
  vr:VR (fun k=>F k∨k = b9) W uL uI uC s
  nf:¬ F b9
  lo:w.heap.size≤b9
structure PlayMid (w W:World) (b b9 b11:Nat) (F:Nat→Prop) (s:RepS) (uL uI uC:Value):Prop where
  hr:HR w W b F s
  fine:s.Fine
  old:∃ g,Blk W b9 33 15 g
  blk:Blk W b11 33 15 (fenc s uL uI uC)
  vr:VR (fun k=>F k∨k = b9) W uL uI uC s
  nf:¬ F b9
  lo:w.heap.size≤b9
  ne:b9 ≠ b11
structure PlayPre (w W:World) (b b9 b11:Nat) (F:Nat→Prop) (s:RepS) (uL uI uC:Value):Prop where
  hr:HR w W b F s
  fine:s.Fine
  old:∃ g,Blk W b9 33 15 g
  blk:∃ g,Blk W b11 33 15 g
  vr:VR (fun k=>F k∨k = b9∨k = b11) W uL uI uC s
  nf:¬ F b9
  nf':¬ F b11
  lo:w.heap.size≤b9
  lo':w.heap.size≤b11
  ne:b9 ≠ b11
section
variable {w W W':World} {b b9 b11:Nat} {F X F':Nat→Prop} {s s':RepS} {uL uI uC vL vI vC:Value}
theorem PlaySt.later (h:PlaySt w W b b9 F s uL uI uC) (hE:Ext W W'):PlaySt w W' b b9 F s uL uI uC:=⟨h.hr.later hE,h.fine,h.blk.later hE,h.vr.later hE,h.nf,h.lo⟩
theorem PlayPre.put (h:PlayPre w W b b9 b11 F s uL uI uC) (hM:Mod (· = b11) W W') {g:Nat→Value} (hB:Blk W' b11 33 15 (put g 0 (s.v uL uI uC).cells.toList)):PlayMid w W' b b9 b11 F s uL uI uC:=by
  obtain ⟨g9,h9⟩:=h.old
  have hne:=h.ne
  exact ⟨h.hr.beside hM (fun k hk=>by subst hk;exact h.lo') (fun k hk e=>h.nf' (e▸hk)),h.fine,⟨g9,h9.mod hM (fun e=>hne e)⟩,fput hB,(h.vr.mod hM (fun k hk=>.inr (.inr hk))).less (fun k hk=>hk.imp id .inl),h.nf,h.lo,h.ne⟩
theorem PlayPre.of1 {W2 W3 : World} {g : Nat → Value} (h : PlaySt w W b b9 F s uL uI uC) (hM : Mod F W W2) (hH : HR w W2 b F' s') (hf : s'.Fine) (hV : VR (fun k => F' k ∨ k = b9) W2 vL vI vC s') (hF : ∀ k, F' k → F k ∨ W.heap.size ≤ k)
    (hE:Ext W2 W3) (hb:W2.heap.size≤b11) (hB:Blk W3 b11 33 15 g):PlayPre w W3 b b9 b11 F' s' vL vI vC:=by
  have h9:=h.blk.lt
  have hs:=hM.size
  have hlo:=h.lo
  have hn9:¬ F' b9:=fun hk=>(hF b9 hk).elim h.nf (fun h1=>by omega)
  exact ⟨hH.later hE,hf,⟨_,(h.blk.mod hM h.nf).later hE⟩,⟨_,hB⟩,(hV.wide (fun k hk=>by
    rcases hk with h1|h1|h1
    · exact .inl (.inl h1)
    · exact .inl (.inr h1)
    · exact .inr (by omega))).later hE,hn9,fun hk=>by have:=(hH.hi _ hk).2;omega,h.lo,by omega,by omega⟩
theorem PlayPre.of2 {W1 W2 : World} {g : Nat → Value} (h : PlaySt w W b b9 F s uL uI uC) (hE : Ext W W1) (hb : W.heap.size ≤ b11) (hB : Blk W1 b11 33 15 g)
    (hM:Mod F W1 W2) (hH:HR w W2 b F' s') (hf:s'.Fine) (hV:VR (fun k=>F' k∨k = b9∨k = b11) W2 vL vI vC s') (hF:∀ k,F' k→F k∨W1.heap.size≤k):PlayPre w W2 b b9 b11 F' s' vL vI vC:=by
  have h9:=h.blk.lt
  have hs:=hE.size
  have hl:=hB.lt
  have hlo:=h.lo
  have hn11:¬ F b11:=fun hk=>by have:=(h.hr.hi _ hk).2;omega
  have hn9:¬ F' b9:=fun hk=>(hF b9 hk).elim h.nf (fun h1=>by omega)
  exact ⟨hH,hf,⟨_,(h.blk.later hE).mod hM h.nf⟩,⟨_,hB.mod hM hn11⟩,hV,hn9,fun hk=>(hF _ hk).elim hn11 (fun h1=>by omega),h.lo,by omega,by omega⟩
end
theorem play_calls (self least : Int) (l : List ActV) (v : Value) (w : World) (hl : Rd ActV.cs 27 w v l) (ho : ∀ a ∈ l, a.ok (fun _ => False) w) (hk : ∀ a ∈ l, a.big = false → DoesOk a) :
    Pure Tryz.prog 18 #[.int .i64 self,.int .i64 least,v] w (.bool true):=by
  have HL:=Lib.hid hl
  have HOK:=Lib.hid ho
  have HDO:=Lib.hid hk
  obtain ⟨A0,c0,rfl,hc0,hcm0,HRD⟩:=hl.act
  clear hl ho hk
  by_cases hbig:largeB l = true
  · have LARGE:Hid (Pure Tryz.prog 11 #[.slice A0 l.length c0] w (.bool true)):=Lib.hid (hbig▸large_calls l _ w HL.out HOK.out)
    clear HRD
    refine Fn_of Tryz.func18 rfl (Nat.le_of_ble_eq_true rfl) ?_;intro A hd hA;simp only [ix,Nat.reduceAdd];replace hA:A.tmps.size = 72:=hA
    repeat' (first|refine X_pure Tryz.func11 (LARGE.out) ?_|refine X_pure Tryz.func12 (known11_calls) ?_|refine X_q ?_|refine X_nil ?_|refine W_seqk (fun K hK=>?_)|refine W_seqr ?_|refine W_ret ?_|refine W_tt ?_|go_step)
    exact Body_ret hd ⟨rfl,by simp⟩
  · have hbig':largeB l = false:=by simpa using hbig
    have LARGE:Hid (Pure Tryz.prog 11 #[.slice A0 l.length c0] w (.bool false)):=Lib.hid (hbig'▸large_calls l _ w HL.out HOK.out)
    have HSM:Hid (∀ a ∈ l,a.big = false):=Lib.hid (fun a ha=>by
      unfold largeB at hbig'
      simp only [Bool.or_eq_false_iff,List.any_eq_false] at hbig'
      simpa using hbig'.2 a ha)
    clear hbig hbig'
    by_cases hr:rightNew self least = true
    · have RIGHT:Hid (∀ W,Pure Tryz.prog 47 #[.int .i64 self,.int .i64 least] W (.bool true)):=Lib.hid (fun W=>hr▸right11_calls self least W)
      have HRN:=Lib.hid hr
      clear hr
      refine Fn_of Tryz.func18 rfl (Nat.le_of_ble_eq_true rfl) ?_;intro A hd hA;simp only [ix,Nat.reduceAdd];replace hA:A.tmps.size = 72:=hA
      repeat' (first|refine X_pure Tryz.func11 (LARGE.out) ?_|refine X_q ?_|refine X_nil ?_|refine W_seqk (fun K hK=>?_)|refine W_seqr ?_|refine W_skip ?_|refine W_ff ?_|go_step)
      refine X_ret Tryz.func13 (repNew_ok self least HRN.out) (fun r w1 hR=>?_)
      obtain ⟨b,rfl,hE1,hb1,hR1⟩:=hR
      have HH1:=Lib.hid (HR.start (Ext.refl w) hE1 hR1)
      clear hR1 LARGE
      repeat' (first|refine X_pure Tryz.func47 (RIGHT.out _) ?_|refine X_q ?_|refine X_nil ?_|refine W_seqk (fun K hK=>?_)|refine W_seqr ?_|refine W_skip ?_|refine W_ff ?_|go_step)
      refine X_ret Tryz.func14 (new11_calls (N:=fun _=>True) self least _) (fun r w2 hR=>?_)
      obtain ⟨hE2,oL,oI,oC,rfl,hVO⟩:=hR
      obtain ⟨B1,x1,rfl,-⟩:=hVO.rl.ent
      obtain ⟨B2,x2,rfl,-⟩:=hVO.ri.int
      obtain ⟨B3,x3,rfl,-⟩:=hVO.rc.int
      (skip);(first|(refine X_var (fun yn b9 hn1 hn2 hn3 hn4 hn5=>?_))|(refine X_s (fun x K hK=>?_);go_simp;refine hK _ _ (Ext.alloc _ _) ?_;clear hK K;refine X_al x ?_;generalize (World.later _ x).heap.size = b9;intro yn hn1 hn2 hn3 hn4 hn5;clear x));have HBb9:=Lib.hid (Blk.new hn5.out);have HEb9:=Lib.hid yn.ext;have hlb9:(World.heap w2).size≤b9:=hn1;generalize World.later w2 yn = W3 at *;clear hn1 hn2 hn3 hn4 hn5 yn
      have HB9:=Lib.hid (fbox2 HBb9.out)
      have HH3:=Lib.hid ((HH1.out.later hE2).later HEb9.out)
      have HV3:=Lib.hid (hVO.later HEb9.out)
      have hs1:=hE1.size
      have hs2:=hE2.size
      have hst:PlaySt w W3 b b9 _ (RepS.init self least) _ _ _:=⟨HH3.out,⟨good_init HRN.out,by show (0:Int)≤0∧(0:Int)≤_;decide⟩,HB9.out,HV3.out.less (fun _ _=>trivial),fun h=>by have:=h.2;omega,by omega⟩
      have HST:=Lib.hid hst
      have hbl:=HB9.out.lt
      clear hst HBb9 HEb9 hE1 hE2 hVO hb1 HH1
      repeat' (first|refine X_gt ?_|refine X_q ?_|refine X_nil ?_|refine W_seqk (fun K hK=>?_)|refine W_seqr ?_|go_step)
      refine X_fload HB9.out ?_ (hu:=Tryz.underlying33)
      repeat' (first|refine X_gpure Tryz.func48 (fun _=>same_calls HH3.out.rep (good_init HRN.out) HV3.out) ?_|refine X_gt ?_|refine X_q ?_|refine X_nil ?_|refine W_seqk (fun K hK=>?_)|refine W_seqr ?_|refine W_skip ?_|refine W_block ?_|refine W_ff ?_|go_step)
      refine W_loops [2,6,7,9,10] (fun n vs w'=>∃ (k:Nat) (F:Nat→Prop) (s:RepS) (uL uI uC:Value),k + n = l.length∧vs = [.slice A0 l.length c0,.bool false,.pointer (some ⟨b,0,none⟩),.pointer (some ⟨b9,0,none⟩),.int .i64 k]∧PlaySt w w' b b9 F s uL uI uC) l.length hd hA (by decide) ⟨0,_,_,_,_,_,by omega,by simp,HST.out⟩ ?_
      clear hd hA A;intro n vs B w' hd hA _ ⟨k,F,s,uL,uI,uC,hkn,hvs,hS⟩;subst hvs
      have HS:=Lib.hid hS
      obtain ⟨C1,y1,rfl,-⟩:=hS.vr.rl.ent
      obtain ⟨C2,y2,rfl,-⟩:=hS.vr.ri.int
      obtain ⟨C3,y3,rfl,-⟩:=hS.vr.rc.int
      clear hS HST HB9 HH3 HV3 hbl hs1 hs2
      have hs9:=HS.out.blk.lt
      simp only [List.zip_cons_cons,List.zip_nil_right,List.zip_nil_left]
      by_cases hlt:k < l.length
      · obtain ⟨a,ba,oa,HX,hA0,hba,HC⟩:=HRD.out k hlt
        have hki:(k:Int) < l.length:=by omega
        have hmem:a ∈ l:=mem_of_get HX.out
        have HOKA:=Lib.hid (HOK.out a hmem)
        have HDOA:=Lib.hid (HDO.out a hmem (HSM.out a hmem))
        have HEW:=Lib.hid HS.out.hr.ext
        have HCW:Hid (∀ j u,(a.cs)[j]? = some u→w'.cell? ⟨ba,oa + k * 27 + j,none⟩ = some u):=Lib.hid (fun j u hu=>(World.cell?_of_block (HEW.out.block ba hba (fun h=>h))).trans (HC.out j u hu))
        have hbw:ba < w'.heap.size:=Nat.lt_of_lt_of_le hba HEW.out.size
        clear HX HC hmem hba
        subst hA0
        repeat' (first|refine X_q ?_|refine X_nil ?_|refine W_seqk (fun K hK=>?_)|refine W_seqr ?_|refine W_skip ?_|refine W_block ?_|refine W_tt ?_|go_step)
        refine W_cut [2,6,7,9,10,11,12] (fun vs w2=>∃ (b11:Nat) (F':Nat→Prop) (s':RepS) (vL vI vC:Value),vs = [.slice (some ⟨ba,oa,none⟩) l.length c0,.bool false,.pointer (some ⟨b,0,none⟩),.pointer (some ⟨b9,0,none⟩),.int .i64 k,.pointer (some ⟨b11,0,none⟩),.bool true]∧PlayMid w w2 b b9 b11 F' s' vL vI vC) hd hA (by decide) ?_ ?_
        · refine W_fork [6,11] (by kernel_rfl) ?_
          refine F_q (i:=0) ?_
          refine F_fload (i:=1) HS.out.blk ?_ (hu:=Tryz.underlying33)
          refine F_q (i:=2) ?_
          refine F_q (i:=3) ?_
          refine F_q (i:=4) ?_
          refine F_aelem (i:=5) (a:=a) hbw HCW.out ?_ (hu:=Tryz.underlying51)
          refine F_alts (i:=6) (rs:=[10]) (S_cons ?_ (S_cons ?_ S_end))
          · have HACT:Hid (ActR (fun k=>F k∨k = b9) w' a.uI a.uE a.uL a.act):=Lib.hid ((HOKA.out.wide (fun k hk=>.inr (hk.elim (fun h=>(HS.out.hr.hi k h).1) (fun e=>by subst e;exact HS.out.lo)))).later HEW.out)
            refine S_hret Tryz.func16 (R:=fun W0 r W'=>DoesR w W0 b F (· = b9) (s.step (a.act.atS s)) r W') (fun x=>HDOA.out w _ b F _ s _ _ _ (HS.out.hr.later x.2) HS.out.fine (fun k hk=>by subst hk;exact Nat.lt_of_lt_of_le hs9 x.2.size) (HS.out.vr.later x.2) (HACT.out.later x.2)) (fun x r w2 hR=>?_)
            obtain ⟨v',rfl,hM,F',hH,⟨vL,vI,vC,rfl,hV⟩,hF'⟩:=hR
            obtain ⟨D1,z1,rfl,-⟩:=hV.rl.ent
            obtain ⟨D2,z2,rfl,-⟩:=hV.ri.int
            obtain ⟨D3,z3,rfl,-⟩:=hV.rc.int
            have HM:=Lib.hid hM
            have HH':=Lib.hid hH
            have HV':=Lib.hid hV
            have HF':=Lib.hid hF'
            clear hM hH hV hF'
            have HSX:=Lib.hid (HS.out.later x.2)
            refine F_q (i:=7) ?_
            refine F_q (i:=8) ?_
            refine F_alts (i:=9) (rs:=[10]) (S_cons ?_ (S_cons ?_ S_end))
            · refine S_q ?_
              refine F_s (i:=10) (fun q K hK=>?_)
              go_simp;refine hK _ _ _ (Ext.alloc _ _) (Ext.refl _) ?_;clear hK K;refine F_al q ?_;generalize (World.later _ q).heap.size = b11;intro y11 q1 q2 q3 q4 q5;clear q
              refine F_alts (i:=11) (rs:=[]) (S_cons ?_ S_end)
              refine S_store (off:=0) (Blk.new q5.out) (fun W5 hM5 hB5=>?_)
              refine F_q (i:=12) ?_
              exact F_nil (by kernel_rfl) ⟨rfl,_,_,rfl,hd,hA,b11,F',_,_,_,_,by simp,(PlayPre.of1 HSX.out HM.out HH'.out (fine_step HS.out.fine _) HV'.out HF'.out y11.2 q1 (Blk.new q5.out)).put hM5 hB5⟩
            · refine S_s (fun q K hK=>?_)
              go_simp;refine hK _ _ _ (Ext.alloc _ _) (Ext.refl _) ?_;clear hK K;refine F_al q ?_;generalize (World.later _ q).heap.size = b11;intro y11 q1 q2 q3 q4 q5;clear q
              refine F_alts (i:=9) (rs:=[11]) (S_cons ?_ (S_cons ?_ S_end))
              · refine S_q ?_
                refine F_alts (i:=11) (rs:=[]) (S_cons ?_ S_end)
                refine S_store (off:=0) (Blk.new q5.out) (fun W5 hM5 hB5=>?_)
                refine F_q (i:=12) ?_
                exact F_nil (by kernel_rfl) ⟨rfl,_,_,rfl,hd,hA,b11,F',_,_,_,_,by simp,(PlayPre.of1 HSX.out HM.out HH'.out (fine_step HS.out.fine _) HV'.out HF'.out y11.2 q1 (Blk.new q5.out)).put hM5 hB5⟩
              · refine S_store (off:=0) (Blk.new q5.out) (fun W5 hM5 hB5=>?_)
                refine F_q (i:=9) ?_
                refine F_q (i:=12) ?_
                exact F_nil (by kernel_rfl) ⟨rfl,_,_,rfl,hd,hA,b11,F',_,_,_,_,by simp,(PlayPre.of1 HSX.out HM.out HH'.out (fine_step HS.out.fine _) HV'.out HF'.out y11.2 q1 (Blk.new q5.out)).put hM5 hB5⟩
          · have HACT:Hid (ActR (fun k=>F k∨k = b9) w' a.uI a.uE a.uL a.act):=Lib.hid ((HOKA.out.wide (fun k hk=>.inr (hk.elim (fun h=>(HS.out.hr.hi k h).1) (fun e=>by subst e;exact HS.out.lo)))).later HEW.out)
            refine S_s (fun q K hK=>?_)
            go_simp;refine hK _ _ _ (Ext.alloc _ _) (Ext.refl _) ?_;clear hK K;refine F_al q ?_;generalize (World.later _ q).heap.size = b11;intro y11 q1 q2 q3 q4 q5;clear q
            refine F_alts (i:=6) (rs:=[]) (S_cons ?_ S_end)
            have HN1:Hid (VR (fun k=>F k∨k = b9∨k = b11) w' _ _ _ s):=Lib.hid (HS.out.vr.wide (fun k hk=>by
              rcases hk with h|h|h
              · exact .inl (.inl h)
              · exact .inl (.inr h)
              · exact .inr (by omega)))
            have HN2:=Lib.hid (HACT.out.wide (N':=fun k=>F k∨k = b9∨k = b11) (fun k hk=>by
              rcases hk with h|h|h
              · exact .inl (.inl h)
              · exact .inl (.inr h)
              · exact .inr (by omega)))
            have hsy:=y11.2.size
            refine S_hret Tryz.func16 (R:=fun W0 r W'=>DoesR w W0 b F (fun k=>k = b9∨k = b11) (s.step (a.act.atS s)) r W'∧Ext (w'.later y11) W0) (fun x=>Ret.mono (HDOA.out w _ b F (fun k=>k = b9∨k = b11) s _ _ _ ((HS.out.hr.later y11.2).later x.2) HS.out.fine (fun k hk=>by have hx:(w'.later y11).heap.size≤((w'.later y11).later x).heap.size:=x.2.size;rcases hk with h|h <;> subst h <;> omega) ((HN1.out.later y11.2).later x.2) ((HN2.out.later y11.2).later x.2)) (fun r W' h=>⟨h,x.2⟩)) (fun x r w2 hR=>?_)
            obtain ⟨hR,hEx⟩:=hR
            obtain ⟨v',rfl,hM,F',hH,⟨vL,vI,vC,rfl,hV⟩,hF'⟩:=hR
            obtain ⟨D1,z1,rfl,-⟩:=hV.rl.ent
            obtain ⟨D2,z2,rfl,-⟩:=hV.ri.int
            obtain ⟨D3,z3,rfl,-⟩:=hV.rc.int
            have HM:=Lib.hid hM
            have HH':=Lib.hid hH
            have HV':=Lib.hid hV
            have HF':=Lib.hid hF'
            clear hM hH hV hF'
            have HMM:Hid (Mod F (w'.later y11) w2):=Lib.hid (Mod.trans hEx HM.out (fun _ _ h=>h.elim) (fun _ _ h=>h))
            have HFF:Hid (∀ k,F' k→F k∨(w'.later y11).heap.size≤k):=Lib.hid (fun k hk=>(HF'.out k hk).imp id (fun h=>Nat.le_trans hEx.size h))
            have HB11:=Lib.hid ((Blk.new q5.out).mod HMM.out (fun h=>by have:=(HS.out.hr.hi _ h).2;omega))
            clear hEx
            refine F_q (i:=7) ?_
            refine F_q (i:=8) ?_
            refine F_alts (i:=9) (rs:=[11]) (S_cons ?_ (S_cons ?_ S_end))
            · refine S_q ?_
              refine F_alts (i:=11) (rs:=[]) (S_cons ?_ S_end)
              refine S_store (off:=0) HB11.out (fun W5 hM5 hB5=>?_)
              refine F_q (i:=12) ?_
              exact F_nil (by kernel_rfl) ⟨rfl,_,_,rfl,hd,hA,b11,F',_,_,_,_,by simp,(PlayPre.of2 HS.out y11.2 q1 (Blk.new q5.out) HMM.out HH'.out (fine_step HS.out.fine _) HV'.out HFF.out).put hM5 hB5⟩
            · refine S_store (off:=0) HB11.out (fun W5 hM5 hB5=>?_)
              refine F_q (i:=9) ?_
              refine F_q (i:=12) ?_
              exact F_nil (by kernel_rfl) ⟨rfl,_,_,rfl,hd,hA,b11,F',_,_,_,_,by simp,(PlayPre.of2 HS.out y11.2 q1 (Blk.new q5.out) HMM.out HH'.out (fine_step HS.out.fine _) HV'.out HFF.out).put hM5 hB5⟩
        · clear hd hA B;intro vs B2 w2 hd hA ⟨b11,F',s',vL,vI,vC,hvs,hPM⟩;subst hvs
          have HPM:=Lib.hid hPM
          obtain ⟨D1,z1,rfl,-⟩:=hPM.vr.rl.ent
          obtain ⟨D2,z2,rfl,-⟩:=hPM.vr.ri.int
          obtain ⟨D3,z3,rfl,-⟩:=hPM.vr.rc.int
          have h11:=hPM.blk.lt
          clear hPM HS HOKA HDOA HEW HCW hs9 hbw
          repeat' (first|refine X_gt ?_|refine X_q ?_|refine W_seqk (fun K hK=>?_)|refine W_seqr ?_|go_step)
          refine X_fload HPM.out.blk ?_ (hu:=Tryz.underlying33)
          repeat' (first|refine X_gpure Tryz.func48 (fun _=>same_calls HPM.out.hr.rep HPM.out.fine.good HPM.out.vr) ?_|refine X_gt ?_|refine X_q ?_|refine X_nil ?_|refine W_seqr ?_|refine W_skip ?_|refine W_ff ?_|go_step)
          refine X_fload HPM.out.blk ?_ (hu:=Tryz.underlying33)
          skip
          obtain ⟨g9,hg9⟩:=HPM.out.old
          have h9:=hg9.lt
          refine X_store (off:=0) hg9 (fun W5 hM5 hB5=>?_)
          have HM5:=Lib.hid hM5
          have HB5:=Lib.hid (fput hB5)
          clear hM5 hB5 hg9
          repeat' (first|refine X_q ?_|refine X_nil ?_|refine W_seqr ?_|go_step)
          exact ⟨_,_,rfl,hd,hA,n - 1,by omega,k + 1,F',s',_,_,_,by omega,by simp,⟨HPM.out.hr.beside HM5.out (fun k hk=>by subst hk;exact HPM.out.lo) (fun k hk e=>HPM.out.nf (e▸hk)),HPM.out.fine,HB5.out,HPM.out.vr.mod HM5.out (fun k hk=>.inr hk),HPM.out.nf,HPM.out.lo⟩⟩
      · have hki:¬ (k:Int) < l.length:=by omega
        have HEX:=Lib.hid HS.out.hr.ext
        repeat' (first|refine X_pure Tryz.func12 (known11_calls) ?_|refine X_q ?_|refine X_nil ?_|refine W_seqk (fun K hK=>?_)|refine W_seqr ?_|refine W_ret ?_|refine W_exit ?_|refine W_ff ?_|go_step)
        exact Body_ret hd ⟨rfl,HEX.out⟩
    · have hr':rightNew self least = false:=by simpa using hr
      have RIGHT:Hid (∀ W,Pure Tryz.prog 47 #[.int .i64 self,.int .i64 least] W (.bool false)):=Lib.hid (fun W=>hr'▸right11_calls self least W)
      have HRN:=Lib.hid hr'
      clear hr hr' HRD
      refine Fn_of Tryz.func18 rfl (Nat.le_of_ble_eq_true rfl) ?_;intro A hd hA;simp only [ix,Nat.reduceAdd];replace hA:A.tmps.size = 72:=hA
      repeat' (first|refine X_pure Tryz.func11 (LARGE.out) ?_|refine X_pure Tryz.func13 (repNew_no self least HRN.out) ?_|refine X_pure Tryz.func47 (RIGHT.out _) ?_|refine X_gpure Tryz.func12 (fun _=>known11_calls) ?_|refine X_gt ?_|refine X_q ?_|refine X_nil ?_|refine W_seqk (fun K hK=>?_)|refine W_seqr ?_|refine W_ret ?_|refine W_skip ?_|refine W_tt ?_|refine W_ff ?_|go_step)
      exact Body_ret hd ⟨rfl,by simp⟩
end Go.Ws
namespace Go.Ws
open Go Go.RowKit Go.Proofs
set_option maxHeartbeats 2000000
set_option maxRecDepth 100000
set_option linter.unusedVariables false
set_option linter.unusedSimpArgs false
structure Sl where
  a:Option Addr
  n:Nat
  c:Nat
abbrev Sl.v (s:Sl):Value:=.slice s.a s.n s.c
def Sl.nil:Sl:=⟨none,0,0⟩
structure ActW where
  act:ActD
  uI:Sl
  uE:Sl
  uL:Sl
abbrev ActW.toV (x:ActW):ActV:=⟨x.act,x.uI.v,x.uE.v,x.uL.v⟩
def ActW.cs (x:ActW):List Value:=x.toV.cs
theorem infoAct:(Tryz.prog.info? 51).map (fun i=>(i.zero,i.size,i.bytes)) = some (some (.agg #[.int .i64 0,.int .i64 0,.bool false,.int .i64 0,.int .i64 0,.int .i64 0,.slice none 0 0,.int .i64 0,.int .i64 0,.int .i64 0,.int .i64 0,.int .i64 0,.int .i64 0,.int .i64 0,.int .i64 0,.int .i64 0,.int .i64 0,.int .i64 0,.int .i64 0,.int .i64 0,.int .i64 0,.bool false,.int .i64 0,.int .i64 0,.slice none 0 0,.int .i64 0,.slice none 0 0]),27,264):=by kernel_rfl
theorem elemAct:Elem Tryz.prog ActW.cs 27 22 51 264 :=
  ⟨fun _=>rfl,fun x u h=>by
    have h':u ∈ x.toV.cs:=h
    simp only [ActV.cs,ActD.cells,List.mem_cons,List.not_mem_nil,or_false] at h'
    rcases h' with rfl|rfl|rfl|rfl|rfl|rfl|rfl|rfl|rfl|rfl|rfl|rfl|rfl|rfl|rfl|rfl|rfl|rfl|rfl|rfl|rfl|rfl|rfl|rfl|rfl|rfl|rfl <;> rfl,Tryz.underlying22,by decide,_,infoAct,rfl⟩
theorem Rd.actV {w:World} {v:Value} {xs:List ActW} (h:Rd ActW.cs 27 w v xs):Rd ActV.cs 27 w v (xs.map ActW.toV):=by
  obtain ⟨A,c,rfl,h1,h2,h3⟩:=h
  refine ⟨A,c,by rw [List.length_map],by rw [List.length_map];exact h1,h2,?_⟩
  rcases h3 with ⟨h3,rfl⟩|⟨b,o,rfl,hb,hr⟩
  · exact .inl ⟨h3,rfl⟩
  · refine .inr ⟨b,o,rfl,hb,fun i x hx j u hu=>?_⟩
    rw [List.getElem?_map] at hx
    cases hy:xs[i]? with
    | none=>rw [hy] at hx;cases hx
    | some y=>rw [hy] at hx;cases hx;exact hr i y hy j u hu
def ActW.fit (N:Nat→Prop) (w:World) (a:ActW):Prop:=ActR N w a.uI.v a.uE.v a.uL.v a.act
theorem ActW.fit.later {N:Nat→Prop} {w w':World} {a:ActW} (h:a.fit N w) (hE:Ext w w'):a.fit N w':=ActR.later h hE
theorem play_acts (self least:Int) {w:World} {v:Value} {l:List ActW} (h:Rd ActW.cs 27 w v l) (ho:∀ a ∈ l,a.fit (fun _=>False) w):Pure Tryz.prog 18 #[.int .i64 self,.int .i64 least,v] w (.bool true):=by
  refine play_calls self least (l.map ActW.toV) v w h.actV ?_ ?_
  · intro a ha
    obtain ⟨x,hx,rfl⟩:=List.mem_map.1 ha
    exact ho x hx
  · intro a ha hb
    obtain ⟨x,hx,rfl⟩:=List.mem_map.1 ha
    exact doesOk hb
structure ActsAt (w0 w:World) (v:Value) (l:List ActW):Prop where
  own:Own ActW.cs 27 51 w v l
  fit:∀ a ∈ l,a.fit (fun k=>v.ownBlock = some k) w
  new:∀ b,v.ownBlock = some b→w0.heap.size≤b
section
variable {w0 w w':World} {v vs:Value} {l ys:List ActW}
theorem ActsAt.later (h:ActsAt w0 w v l) (hE:Ext w w'):ActsAt w0 w' v l:=⟨h.own.later hE,fun a ha=>(h.fit a ha).later hE,h.new⟩
theorem ActsAt.rd (h:ActsAt w0 w v l):Rd ActW.cs 27 w v l:=h.own.rd (fun _=>rfl)
theorem ActsAt.play (h:ActsAt w0 w v l) (self least:Int):Pure Tryz.prog 18 #[.int .i64 self,.int .i64 least,v] w (.bool true) :=
  play_acts self least h.rd (fun a ha=>ActR.wide (h.fit a ha) (fun k hk=>hk.elim))
theorem ActsAt.app {v' : Value} (h : ActsAt w0 w v l) (hM : Mod (fun b => v.ownBlock = some b) w w') (hO : Own ActW.cs 27 51 w' v' (l ++ ys)) (hF : v'.ownBlock = v.ownBlock ∨ ∃ g, v'.ownBlock = some g ∧ w.heap.size ≤ g)
    (hy:∀ a ∈ ys,a.fit (fun k=>v.ownBlock = some k) w) (hs:w0.heap.size≤w.heap.size):ActsAt w0 w' v' (l ++ ys):=by
  refine ⟨hO,fun a ha=>?_,fun b hb=>?_⟩
  · have hf : a.fit (fun k => v.ownBlock = some k) w := by
      rcases List.mem_append.1 ha with h1|h1
      · exact h.fit a h1
      · exact hy a h1
    refine ((ActR.wide hf (N':=fun k=>v.ownBlock = some k∨v'.ownBlock = some k) (fun k hk=>?_)).mod hM (fun k hk=>.inl hk)).wide (fun k hk=>.inl (.inr hk))
    rcases hk with hk|hk
    · exact .inl hk
    · rcases hF with e|⟨g,e,hg⟩
      · exact .inl (e▸hk)
      · rw [e] at hk;cases hk;exact .inr hg
  · rcases hF with e|⟨g,e,hg⟩
    · exact h.new b (e▸hb)
    · rw [e] at hb;cases hb;exact Nat.le_trans hs hg
end
theorem X_acts {P : Program} {ops : Array Oper} {Q : Post} {A : Act} {fl : List (Nat × Value)} {rest : List (Oper × Nat)} {o : Oper} {s x : Operand} {t : TypeId} {d : Nat} {bytes : Nat} {v vs : Value} {l ys : List ActW} {w0 w : World} (hE0 : Ext w0 w)
    (he:Elem P ActW.cs 27 t 51 bytes) (hown:ActsAt w0 w v l) (hsrc:Rd ActW.cs 27 w vs ys) (hy:∀ a ∈ ys,a.fit (fun k=>v.ownBlock = some k) w) (hbytes:(l.length + ys.length) * bytes≤140737488355328) (hm:l.length + ys.length≤maxLen)
    (h:∀ (y':Later w0) v',ActsAt w0 (w0.later y') v' (l ++ ys)→Mod (fun b=>v.ownBlock = some b) w (w0.later y')→wpX P ops Q rest (fr ((d,v') :: fl) A) (w0.later y'))
    (ho:o.op = .call { callee:=.builtin .append,args:=#[s,x],argTypes:=#[t,t] }:=by rfl) (hd:o.dst = some d:=by rfl) (hg:o.guard = none:=by rfl)
    (hs:Is ((fr fl A).eval s) v:=by go_simp;exact Is.mk _) (hx:Is ((fr fl A).eval x) vs:=by go_simp;exact Is.mk _) :
    wpX P ops Q ((o,2) :: rest) (fr fl A) w :=
  X_append he hown.own hsrc hbytes hm (fun v' W' hM hO hF hN=>h ⟨W',Ext.fresh hE0 hM hown.new⟩ v' (hown.app hM hO hF hy hE0.size) hM) ho hd hg hs hx
theorem Rd.built {w:World} {b:Nat} {cs:Array Value} {xs:List ActW} (hb:b < w.heap.size) (h:∀ k,w.cell? ⟨b,k,none⟩ = cs[k]?) (hcs:cs.toList = xs.flatMap ActW.cs) (hl:xs.length≤maxLen):Rd ActW.cs 27 w (.slice (some ⟨b,0,none⟩) xs.length xs.length) xs:=by
  refine ⟨_,_,rfl,Nat.le_refl _,hl,.inr ⟨b,0,rfl,hb,fun i y hy j u hu=>?_⟩⟩
  rw [h,← Array.getElem?_toList,hcs]
  clear hcs h hb hl
  have key:∀ (xs:List ActW) (i:Nat),xs[i]? = some y→(xs.flatMap ActW.cs)[i * 27 + j]? = some u:=by
    intro xs
    induction xs with
    | nil=>intro i hy;simp at hy
    | cons x xs ih =>
      intro i hy
      rw [List.flatMap_cons]
      have hl:(ActW.cs x).length = 27:=rfl
      cases i with
      | zero =>
        simp at hy;subst hy
        have hj:j < (ActW.cs x).length:=(List.getElem?_eq_some_iff.1 hu).1
        rw [Nat.zero_mul,Nat.zero_add,List.getElem?_append_left hj];exact hu
      | succ i =>
        rw [List.getElem?_append_right (by rw [hl];omega),hl]
        have:(i + 1) * 27 + j - 27 = i * 27 + j:=by omega
        rw [this]
        exact ih i (by simpa using hy)
  have:=key xs i hy
  rwa [Nat.zero_add]
theorem ActsAt.made {w0 w : World} {y : Later w} {b : Nat} {cs : Array Value} {xs : List ActW} (hcs : cs.toList = xs.flatMap ActW.cs) (hb : (w.later y).heap[b]? = some (.cells cs 51)) (hm : xs.length ≤ maxLen) (hs : w0.heap.size ≤ b) (hf : ∀ a ∈ xs, a.fit (fun k => k = b) (w.later y)) :
    ActsAt w0 (w.later y) (.slice (some ⟨b,0,none⟩) xs.length xs.length) xs :=
  ⟨Own.lit (enc:=ActW.cs) (k:=27) w y (fun _=>rfl) cs xs hcs hb hm,fun a ha=>ActR.wide (hf a ha) (fun k hk=>by cases hk;exact .inl rfl),fun k hk=>by cases hk;exact hs⟩
def ActD.zero:ActD:=⟨0,0,false,⟨0,0,0,[]⟩,⟨0,0,0,0,0,0⟩,⟨0,0,0,0,0⟩,⟨0,0,0,false,0,0,[],0⟩,[]⟩
theorem ActW.fit_plain {N:Nat→Prop} (w:World) (a:ActD) (hI:a.view.isr = []) (hE:a.reply.entries = []) (hL:a.list = []):ActW.fit N w ⟨a,Sl.nil,Sl.nil,Sl.nil⟩ :=
  ⟨by show RdIM N w _ a.view.isr;rw [hI];exact RdM.nil _,by show RdEM N w _ a.reply.entries;rw [hE];exact RdM.nil _,by show RdIM N w _ a.list;rw [hL];exact RdM.nil _⟩
structure Two2 where
  a:Int
  b:Int
def Two2.cs (q:Two2):List Value:=[.int .u8 q.a,.int .u8 q.b]
def Two2.in (q:Two2):Prop:=(0≤q.a∧q.a≤255)∧(0≤q.b∧q.b≤255)
abbrev RdD:=Rd Two2.cs 2
theorem Rd.two2 {w : World} {v : Value} {l : List Two2} (h : RdD w v l) : ∃ A c, v = .slice A l.length c ∧ l.length ≤ c ∧ c ≤ 9223372036854775807 ∧
    Hid (∀ i,i < l.length→∃ q b o,Hid (l[i]? = some q)∧A = some ⟨b,o,none⟩∧b < w.heap.size∧w.cell? ⟨b,o + i * 2,none⟩ = some (.int .u8 q.a)∧w.cell? ⟨b,o + i * 2 + 1,none⟩ = some (.int .u8 q.b)):=by
  obtain ⟨A,c,h1,h2,h3,h4⟩:=h
  refine ⟨A,c,h1,h2,h3,fun i hi=>?_⟩
  have he:l[i]? = some l[i]:=by simp [hi]
  rcases h4 with ⟨_,rfl⟩|⟨b,o,hA,hb,hr⟩
  · simp at hi
  · exact ⟨l[i],b,o,he,hA,hb,hr i _ he 0 _ rfl,hr i _ he 1 _ rfl⟩
end Go.Ws
namespace Go.Ws
open Go Go.RowKit Go.Proofs Go.ChangeShapes Go.WideShapes
set_option linter.unusedVariables false
set_option maxRecDepth 100000
theorem wf_u8 {x:Int} (h:(Lit.int .u8 x).wf = true):0≤x∧x≤255:=by
  simp only [Lit.wf,Bool.and_eq_true,decide_eq_true_eq] at h
  exact h
abbrev u8cs (n:Int):List Value:=[.int .u8 n]
theorem Rd.mapv {α β:Type} {en:β→List Value} {k:Nat} {w:World} {v:Value} {xs:List α} (f:α→β) (h:Rd (fun x=>en (f x)) k w v xs):Rd en k w v (xs.map f):=by
  obtain ⟨A,c,rfl,h1,h2,h3⟩:=h
  refine ⟨A,c,by rw [List.length_map],by rw [List.length_map];exact h1,h2,?_⟩
  rcases h3 with ⟨h3,rfl⟩|⟨b,o,rfl,hb,hr⟩
  · exact .inl ⟨h3,rfl⟩
  · refine .inr ⟨b,o,rfl,hb,fun i x hx j u hu=>?_⟩
    rw [List.getElem?_map] at hx
    cases hy:xs[i]? with
    | none=>rw [hy] at hx;cases hx
    | some y=>rw [hy] at hx;cases hx;exact hr i y hy j u hu
section
variable {H:Type} {enc:TypeId × Value→H} {W:World} {sp:Nat→Bool} {held:Bool} {base:Nat} {v:Value} {d:DataW H} {ps:List MemPlace}
theorem one_duo (n:Nat) (cs:List Value) (x:DataW H × List MemPlace) (h:DataW.trod enc Tryz.prog W 0 sp held n 62 cs = some x):∃ y:{ q:Two2 // q.in },cs = y.1.cs:=by
  obtain ⟨xs,m,_,rfl,hl,hxl,hf⟩:=DataW.trod_array Tryz.underlying62 h
  have k1:Tryz.prog.cellsOf 5 = 1:=by kernel_rfl
  have hc:Tryz.prog.cellsOf 62 = 2:=by kernel_rfl
  rw [hc] at hl
  match cs,hl with
  | [c0,c1],_ =>
    have go:∀ (i:Nat) (c:Value),DataW.trod enc Tryz.prog W 0 sp held m 5 [c] = xs[i]?→i < 2→∃ z,c = .int .u8 z∧0≤z∧z≤255:=by
      intro i c hd hi
      rw [List.getElem?_eq_getElem (by omega)] at hd
      obtain ⟨z,hz,_,hw⟩:=DataW.trod_int Tryz.underlying5 hd
      simp at hz
      exact ⟨z,hz,wf_u8 hw⟩
    have g0:=hf 0 (by omega)
    have g1:=hf 1 (by omega)
    simp [k1] at g0 g1
    obtain ⟨z0,rfl,w0⟩:=go 0 c0 g0 (by omega)
    obtain ⟨z1,rfl,w1⟩:=go 1 c1 g1 (by omega)
    exact ⟨⟨⟨z0,z1⟩,⟨w0,w1⟩⟩,rfl⟩
theorem open_duos (hok:Value.okWide Tryz.prog W .any base 61 v) (h:DataW.Trod enc Tryz.prog W 0 sp held 61 v d ps):∃ l:List Two2,Rd Two2.cs 2 W v l∧∀ q ∈ l,q.in:=by
  obtain ⟨l,hl⟩:=open_rd (en:=fun y:{ q:Two2 // q.in }=>y.1.cs) (k:=2) Tryz.underlying61 (by kernel_rfl) (by omega) (fun _=>rfl) one_duo hok h
  refine ⟨l.map (·.1),Rd.mapv _ hl,fun q hq=>?_⟩
  obtain ⟨y,_,rfl⟩:=List.mem_map.1 hq
  exact y.2
theorem open_u8s (hok:Value.okWide Tryz.prog W .any base 60 v) (h:DataW.Trod enc Tryz.prog W 0 sp held 60 v d ps):∃ l:List Int,Rd u8cs 1 W v l∧∀ q ∈ l,0≤q∧q≤255:=by
  obtain ⟨l,hl⟩:=open_rd (en:=fun y:{ q:Int // 0≤q∧q≤255 }=>u8cs y.1) (k:=1) Tryz.underlying60 (by kernel_rfl) (by omega) (fun _=>rfl) (fun n cs x h=>by
    obtain ⟨z,rfl,_,hw⟩:=DataW.trod_int Tryz.underlying5 h
    exact ⟨⟨z,wf_u8 hw⟩,rfl⟩) hok h
  refine ⟨l.map (·.1),Rd.mapv _ hl,fun q hq=>?_⟩
  obtain ⟨y,_,rfl⟩:=List.mem_map.1 hq
  exact y.2
end
end Go.Ws
