/- Lemmas for the statements of this layer (joined texts); no condition. -/
import Derived.Test.YtlpjgegbdmkmdaaGreatBb05
import Derived.Test.YtlpjgegbdmkmdaaGreatBb06
import Derived.Test.YtlpjgegbdmkmdaaGreatBb07
namespace Go.Ws
open Go Go.RowKit Go.Proofs
set_option maxHeartbeats 2000000
set_option maxRecDepth 100000
set_option linter.unusedVariables false
set_option linter.unusedSimpArgs false
theorem Own.empty {α:Type} {enc:α→List Value} {k b:Nat} {E:TypeId} {w:World} (hb:w.heap[b]? = some (.cells #[] E)):Own enc k E w (.slice (some ⟨b,0,none⟩) 0 0) ([]:List α) :=
  ⟨by simp,.inr ⟨b,0,#[],rfl,Nat.zero_le _,hb,Nat.le_refl _,Nat.zero_le _,by simp,by simp⟩⟩
theorem eqlSlI (a:Option Addr) (n c:Nat) (w:World):(binOp .eql 30 (.slice a n c) (.slice none 0 0)).run Tryz.prog w = .ok (.bool a.isNone) w:=by
  cases a <;> rfl
theorem cloneI_calls {w:World} {v:Value} {l:List Int} (hl:RdI w v l) (hn:l.length≤1000000):Ret Tryz.prog 34 #[v] w fun v' w'=>Ext w w'∧OwnI w' v' l∧∀ b,v'.ownBlock = some b→w.heap.size≤b:=by
  have hl0:=Lib.hid hl
  obtain ⟨A0,c,rfl,hc,hcm,HA⟩:=hl
  clear HA
  cases A0 with
  | none =>
    have hl1:l = []:=by
      obtain ⟨A',c',h1,_,_,h4⟩:=hl0.out
      cases h1
      rcases h4 with ⟨_,h⟩|⟨b,o,h,_⟩
      · exact h
      · cases h
    subst hl1
    have g:=fun w=>eqlSlI none 0 c w
    refine Fn_of Tryz.func34 rfl (Nat.le_of_ble_eq_true rfl) ?_;intro A hd hA;simp only [ix,Nat.reduceAdd];replace hA:A.tmps.size = 8:=hA
    repeat' (first|refine X_q ?_|refine X_nil ?_|refine W_seqk (fun K hK=>?_)|refine W_seqr ?_|refine W_ret ?_|refine W_tt ?_|go_step)
    exact Body_ret hd ⟨by simp,Own.nil _,by intro b hb;cases hb⟩
  | some a =>
    have g:=fun w=>eqlSlI (some a) l.length c w
    refine Fn_of Tryz.func34 rfl (Nat.le_of_ble_eq_true rfl) ?_;intro A hd hA;simp only [ix,Nat.reduceAdd];replace hA:A.tmps.size = 8:=hA
    repeat' (first|refine X_q ?_|refine X_nil ?_|refine W_seqk (fun K hK=>?_)|refine W_seqr ?_|refine W_skip ?_|(refine X_s (fun x K hK=>?_);go_simp;refine hK _ _ (Ext.alloc _ _) ?_;clear hK K;refine X_al x ?_;generalize (World.later _ x).heap.size = bn;intro yn hn1 hn2 hn3 hn4 hn5;clear x)|refine W_ff ?_|go_step)
    refine X_append (xs:=[]) elemInt (Own.empty hn5.out) (hl0.out.later (by simp)) (by simp;omega) (by unfold maxLen;simp;omega) (fun v' W' hM hO hF _=>?_)
    repeat' (first|refine X_q ?_|refine X_nil ?_|refine W_ret ?_|go_step)
    refine Body_ret hd ⟨Ext.fresh yn.2 hM (fun b hb=>by cases hb;exact hn1),hO,fun b hb=>?_⟩
    have hs:w.heap.size≤(w.later yn).heap.size:=yn.2.size
    rcases hF with h|⟨g,h,hg⟩
    · rw [h] at hb;cases hb;exact hn1
    · rw [h] at hb;cases hb;omega
structure View where
  leader:Int
  epoch:Int
  version:Int
  isr:List Int
def VV (w:World) (v:Value) (x:View):Prop:=∃ u,v = .agg #[.int .i64 x.leader,.int .i64 x.epoch,.int .i64 x.version,u]∧RdI w u x.isr
def View.may (v:View):Bool:=decide (-1≤v.leader) && decide (v.leader < 4) && inB v.epoch 0 2147483647 && inB v.version 0 2147483647 && brokersB v.isr && decide (0 < v.isr.length) && (v.leader == -1 || decide (v.leader ∈ v.isr))
theorem VV.later {w w':World} {v:Value} {x:View} (h:VV w v x) (hE:Ext w w'):VV w' v x:=by
  obtain ⟨u,h1,h2⟩:=h
  exact ⟨u,h1,h2.later hE⟩
theorem rmay_calls {w:World} {v:Value} {x:View} (h:VV w v x):Pure Tryz.prog 51 #[v] w (.bool x.may):=by
  obtain ⟨u,rfl,hu⟩:=h
  have HU:=Lib.hid hu
  obtain ⟨A0,c,rfl,-⟩:=hu
  by_cases h1:-1≤x.leader
  · by_cases h2:x.leader < 4
    · by_cases h3:inB x.epoch 0 2147483647 = true
      · by_cases h4:inB x.version 0 2147483647 = true
        · by_cases h5:brokersB x.isr = true
          · by_cases h6:0 < x.isr.length
            · by_cases h7:x.leader = -1
              · have hm:x.may = true:=by simp [View.may,h1,h2,h3,h4,h5,h6,h7]
                rw [hm]
                refine Fn_of Tryz.func51 rfl (Nat.le_of_ble_eq_true rfl) ?_;intro A hd hA;simp only [ix,Nat.reduceAdd];replace hA:A.tmps.size = 44:=hA
                repeat' (first|refine X_gpure Tryz.func88 (fun _=>number_calls _ _) ?_|refine X_gpure Tryz.func62 (fun _=>brokers_calls _ _ _ (HU.out.later (by simp))) ?_|(refine X_gf2 ?_)|refine X_gt ?_|refine X_q ?_|refine X_g ?_|refine X_nil ?_|refine W_seqk (fun K hK=>?_)|refine W_seqr ?_|refine W_ret ?_|(refine X_s (fun x K hK=>?_);go_simp;refine hK _ _ (Ext.alloc _ _) ?_;clear hK K;refine X_al x ?_;generalize (World.later _ x).heap.size = bn;intro yn hn1 hn2 hn3 hn4 hn5;clear x)|go_step)
                exact Body_ret hd ⟨rfl,by simp⟩
              · have h7b:(x.leader == -1) = false:=beq_false_of_ne h7
                by_cases h8:x.leader ∈ x.isr
                · have hm:x.may = true:=by simp [View.may,h1,h2,h3,h4,h5,h6,h7,h8]
                  rw [hm]
                  refine Fn_of Tryz.func51 rfl (Nat.le_of_ble_eq_true rfl) ?_;intro A hd hA;simp only [ix,Nat.reduceAdd];replace hA:A.tmps.size = 44:=hA
                  repeat' (first|refine X_gpure Tryz.func88 (fun _=>number_calls _ _) ?_|refine X_gpure Tryz.func62 (fun _=>brokers_calls _ _ _ (HU.out.later (by simp))) ?_|refine X_gpure Tryz.func63 (fun _=>contains_calls _ _ _ _ (HU.out.later (by simp))) ?_|refine X_gt ?_|refine X_q ?_|refine X_nil ?_|refine W_seqk (fun K hK=>?_)|refine W_seqr ?_|refine W_ret ?_|(refine X_s (fun x K hK=>?_);go_simp;refine hK _ _ (Ext.alloc _ _) ?_;clear hK K;refine X_al x ?_;generalize (World.later _ x).heap.size = bn;intro yn hn1 hn2 hn3 hn4 hn5;clear x)|go_step)
                  exact Body_ret hd ⟨rfl,by simp⟩
                · have hm:x.may = false:=by simp [View.may,h1,h2,h3,h4,h5,h6,h7,h8]
                  rw [hm]
                  refine Fn_of Tryz.func51 rfl (Nat.le_of_ble_eq_true rfl) ?_;intro A hd hA;simp only [ix,Nat.reduceAdd];replace hA:A.tmps.size = 44:=hA
                  repeat' (first|refine X_gpure Tryz.func88 (fun _=>number_calls _ _) ?_|refine X_gpure Tryz.func62 (fun _=>brokers_calls _ _ _ (HU.out.later (by simp))) ?_|refine X_gpure Tryz.func63 (fun _=>contains_calls _ _ _ _ (HU.out.later (by simp))) ?_|refine X_gt ?_|refine X_q ?_|refine X_nil ?_|refine W_seqk (fun K hK=>?_)|refine W_seqr ?_|refine W_ret ?_|(refine X_s (fun x K hK=>?_);go_simp;refine hK _ _ (Ext.alloc _ _) ?_;clear hK K;refine X_al x ?_;generalize (World.later _ x).heap.size = bn;intro yn hn1 hn2 hn3 hn4 hn5;clear x)|go_step)
                  exact Body_ret hd ⟨rfl,by simp⟩
            · have hm:x.may = false:=by simp [View.may,h1,h2,h3,h4,h5,h6]
              rw [hm]
              refine Fn_of Tryz.func51 rfl (Nat.le_of_ble_eq_true rfl) ?_;intro A hd hA;simp only [ix,Nat.reduceAdd];replace hA:A.tmps.size = 44:=hA
              repeat' (first|refine X_gpure Tryz.func88 (fun _=>number_calls _ _) ?_|refine X_gpure Tryz.func62 (fun _=>brokers_calls _ _ _ (HU.out.later (by simp))) ?_|(refine X_gf2 ?_)|refine X_gt ?_|refine X_q ?_|refine X_g ?_|refine X_gf ?_|refine X_nil ?_|refine W_seqk (fun K hK=>?_)|refine W_seqr ?_|refine W_ret ?_|(refine X_s (fun x K hK=>?_);go_simp;refine hK _ _ (Ext.alloc _ _) ?_;clear hK K;refine X_al x ?_;generalize (World.later _ x).heap.size = bn;intro yn hn1 hn2 hn3 hn4 hn5;clear x)|go_step)
              exact Body_ret hd ⟨rfl,by simp⟩
          · have hm:x.may = false:=by simp [View.may,h1,h2,h3,h4,h5]
            rw [hm]
            refine Fn_of Tryz.func51 rfl (Nat.le_of_ble_eq_true rfl) ?_;intro A hd hA;simp only [ix,Nat.reduceAdd];replace hA:A.tmps.size = 44:=hA
            repeat' (first|refine X_gpure Tryz.func88 (fun _=>number_calls _ _) ?_|refine X_gpure Tryz.func62 (fun _=>brokers_calls _ _ _ (HU.out.later (by simp))) ?_|(refine X_gf2 ?_)|refine X_gt ?_|refine X_q ?_|refine X_g ?_|refine X_gf ?_|refine X_nil ?_|refine W_seqk (fun K hK=>?_)|refine W_seqr ?_|refine W_ret ?_|(refine X_s (fun x K hK=>?_);go_simp;refine hK _ _ (Ext.alloc _ _) ?_;clear hK K;refine X_al x ?_;generalize (World.later _ x).heap.size = bn;intro yn hn1 hn2 hn3 hn4 hn5;clear x)|go_step)
            exact Body_ret hd ⟨rfl,by simp⟩
        · have hm:x.may = false:=by simp [View.may,h1,h2,h3,h4]
          rw [hm]
          refine Fn_of Tryz.func51 rfl (Nat.le_of_ble_eq_true rfl) ?_;intro A hd hA;simp only [ix,Nat.reduceAdd];replace hA:A.tmps.size = 44:=hA
          repeat' (first|refine X_gpure Tryz.func88 (fun _=>number_calls _ _) ?_|(refine X_gf2 ?_)|refine X_gt ?_|refine X_q ?_|refine X_g ?_|refine X_gf ?_|refine X_nil ?_|refine W_seqk (fun K hK=>?_)|refine W_seqr ?_|refine W_ret ?_|(refine X_s (fun x K hK=>?_);go_simp;refine hK _ _ (Ext.alloc _ _) ?_;clear hK K;refine X_al x ?_;generalize (World.later _ x).heap.size = bn;intro yn hn1 hn2 hn3 hn4 hn5;clear x)|go_step)
          exact Body_ret hd ⟨rfl,by simp⟩
      · have hm:x.may = false:=by simp [View.may,h1,h2,h3]
        rw [hm]
        refine Fn_of Tryz.func51 rfl (Nat.le_of_ble_eq_true rfl) ?_;intro A hd hA;simp only [ix,Nat.reduceAdd];replace hA:A.tmps.size = 44:=hA
        repeat' (first|refine X_gpure Tryz.func88 (fun _=>number_calls _ _) ?_|(refine X_gf2 ?_)|refine X_gt ?_|refine X_q ?_|refine X_g ?_|refine X_gf ?_|refine X_nil ?_|refine W_seqk (fun K hK=>?_)|refine W_seqr ?_|refine W_ret ?_|(refine X_s (fun x K hK=>?_);go_simp;refine hK _ _ (Ext.alloc _ _) ?_;clear hK K;refine X_al x ?_;generalize (World.later _ x).heap.size = bn;intro yn hn1 hn2 hn3 hn4 hn5;clear x)|go_step)
        exact Body_ret hd ⟨rfl,by simp⟩
    · have hm:x.may = false:=by simp [View.may,h1,h2]
      rw [hm]
      refine Fn_of Tryz.func51 rfl (Nat.le_of_ble_eq_true rfl) ?_;intro A hd hA;simp only [ix,Nat.reduceAdd];replace hA:A.tmps.size = 44:=hA
      repeat' (first|(refine X_gf2 ?_)|refine X_gt ?_|refine X_q ?_|refine X_g ?_|refine X_gf ?_|refine X_nil ?_|refine W_seqk (fun K hK=>?_)|refine W_seqr ?_|refine W_ret ?_|(refine X_s (fun x K hK=>?_);go_simp;refine hK _ _ (Ext.alloc _ _) ?_;clear hK K;refine X_al x ?_;generalize (World.later _ x).heap.size = bn;intro yn hn1 hn2 hn3 hn4 hn5;clear x)|go_step)
      exact Body_ret hd ⟨rfl,by simp⟩
  · have hm:x.may = false:=by simp [View.may,h1]
    rw [hm]
    refine Fn_of Tryz.func51 rfl (Nat.le_of_ble_eq_true rfl) ?_;intro A hd hA;simp only [ix,Nat.reduceAdd];replace hA:A.tmps.size = 44:=hA
    repeat' (first|(refine X_gf2 ?_)|refine X_q ?_|refine X_g ?_|refine X_gf ?_|refine X_nil ?_|refine W_seqk (fun K hK=>?_)|refine W_seqr ?_|refine W_ret ?_|(refine X_s (fun x K hK=>?_);go_simp;refine hK _ _ (Ext.alloc _ _) ?_;clear hK K;refine X_al x ?_;generalize (World.later _ x).heap.size = bn;intro yn hn1 hn2 hn3 hn4 hn5;clear x)|go_step)
    exact Body_ret hd ⟨rfl,by simp⟩
def gmin (a b:Int):Int:=if b < a then b else a
theorem gmin_eq (a b:Int):gmin a b = min a b:=by unfold gmin;split <;> omega
def leastOf (self:Int) (known:Nat→Int) (l:List Int) (n:Int):Int:=l.foldl (fun n b=>if b = self then n else gmin n (known b.toNat)) n
theorem leastOf_snoc (self:Int) (known:Nat→Int) (l:List Int) (n x:Int):leastOf self known (l ++ [x]) n = if x = self then leastOf self known l n else gmin (leastOf self known l n) (known x.toNat):=by simp [leastOf]
def RepS.count (s:RepS):RepS:=if s.role = 3 then { s with high:=gmax s.high (leastOf s.self s.known s.counts s.flushed) } else s
def Bks (l:List Int):Prop:=∀ b ∈ l,0≤b∧b < 4
theorem count_calls {w:World} {b:Nat} {F:Nat→Prop} {s:RepS} (h:Rep w b F s) (hc:Bks s.counts):Ret Tryz.prog 54 #[.pointer (some ⟨b,0,none⟩)] w fun _ w'=>Mod F w w'∧Rep w' b F s.count:=by
  have hF:=Lib.hid (h.own)
  have HF:=h
  obtain ⟨uL,uI,uC,h,hf⟩:=h.ex
  have H:=Lib.hid h
  have HFF:=Lib.hid hf
  have HR:=Lib.hid HF
  clear HF hf
  obtain ⟨hlt,-,-,-,d3,d8,-,d10,-,-,d13,d14⟩:=h.cells
  clear h
  by_cases hr:s.role = 3
  · have hrb:(s.role != 3) = false:=by simp [hr]
    obtain ⟨A0,c,rfl,hc0,hcm,HC⟩:=H.out.rc.int
    have HC:=Lib.hid HC
    have HBK:=Lib.hid hc
    clear hc
    refine Fn_of Tryz.func54 rfl (Nat.le_of_ble_eq_true rfl) ?_;intro A hd hA;simp only [ix,Nat.reduceAdd];replace hA:A.tmps.size = 49:=hA
    repeat' (first|refine X_q ?_|refine X_nil ?_|refine W_seqk (fun K hK=>?_)|refine W_seqr ?_|refine W_skip ?_|refine W_block ?_|refine W_ff ?_|go_step)
    refine W_loops [0,2,18,19,20] (fun n vs w'=>∃ k:Nat,w' = w∧k + n = s.counts.length∧vs = [.pointer (some ⟨b,0,none⟩),.int .i64 (leastOf s.self s.known (s.counts.take k) s.flushed),.slice A0 s.counts.length c,.int .i64 s.counts.length,.int .i64 k]) s.counts.length hd hA (by decide) ⟨0,rfl,by omega,by simp [leastOf]⟩ ?_
    clear hd hA A;intro n vs B w' hd hA _ ⟨k,hw,hk,hvs⟩;subst hw hvs
    simp only [List.zip_cons_cons,List.zip_nil_right,List.zip_nil_left]
    by_cases hk2:k < s.counts.length
    · obtain ⟨x,b0,o,HX,rfl,hb,c0⟩:=HC.out k hk2
      have hki:(k:Int) < s.counts.length:=by omega
      have HXX:=Lib.hid HX
      clear HX
      obtain ⟨hx0,hx4⟩:=HBK.out x (List.mem_of_getElem? HXX.out)
      by_cases hxs:x = s.self
      · have hxb:(x != s.self) = false:=by simp [hxs]
        have HXS:=Lib.hid hxs
        clear hxs
        repeat' (first|refine X_q ?_|refine X_nil ?_|refine W_seqk (fun K hK=>?_)|refine W_seqr ?_|refine W_skip ?_|refine W_block ?_|refine W_tt ?_|refine W_ff ?_|go_step)
        exact ⟨_,_,rfl,hd,hA,n - 1,by omega,k + 1,trivial,by omega,by simp [take_snoc HXX.out,leastOf_snoc,HXS.out]⟩
      · have hxb:(x != s.self) = true:=by simp [hxs]
        have HXS:=Lib.hid hxs
        have hkn:=H.out.knownAt x.toNat (by omega)
        clear hxs
        repeat' (first|refine X_q ?_|refine X_nil ?_|refine W_seqk (fun K hK=>?_)|refine W_seqr ?_|refine W_skip ?_|refine W_block ?_|refine W_tt ?_|go_step)
        exact ⟨_,_,rfl,hd,hA,n - 1,by omega,k + 1,trivial,by omega,by simp [take_snoc HXX.out,leastOf_snoc,HXS.out,gmin]⟩
    · obtain rfl:k = s.counts.length:=by omega
      repeat' (first|refine X_q ?_|refine X_nil ?_|refine W_seqk (fun K hK=>?_)|refine W_seqr ?_|refine W_exit ?_|refine W_ff ?_|go_step)
      refine X_store (off:=14) H.out.blk (fun W1 hM1 hB1=>?_)
      have H1:=RepAt.keep (s':=s.count) H.out hM1 hB1 (by unfold RepS.count;rw [if_pos hr]) (by unfold RepS.count;rw [if_pos hr]) (by unfold RepS.count;rw [if_pos hr]) (by
        unfold RepS.count;rw [if_pos hr]
        refine all15 ⟨?_,?_,?_,?_,?_,?_,?_,?_,?_,?_,?_,?_,?_,?_,?_⟩ <;> first|rfl|(rw [put_in 0 (by simp [Value.cells]) rfl];simp [renc,Value.cells,gmax];done)|skip)
      repeat' (first|refine X_nil ?_|fail)
      refine Body_ret0 hd ⟨hM1.mono (fun k _ hk=>by subst hk;exact hF.out),⟨_,_,_,H1,HFF.out⟩⟩
  · have hrb:(s.role != 3) = true:=by simp [hr]
    have hs:s.count = s:=by unfold RepS.count;rw [if_neg hr]
    have HS:=Lib.hid hs
    refine Fn_of Tryz.func54 rfl (Nat.le_of_ble_eq_true rfl) ?_;intro A hd hA;simp only [ix,Nat.reduceAdd];replace hA:A.tmps.size = 49:=hA
    repeat' (first|refine X_q ?_|refine X_nil ?_|refine W_seqk (fun K hK=>?_)|refine W_seqr ?_|refine W_ret ?_|refine W_tt ?_|go_step)
    exact Body_ret0 hd ⟨Mod.refl _ _,by rw [HS.out];exact HR.out⟩
def RepS.steps (s:RepS) (v:View):RepS:={ s with version:=v.version,isr:=v.isr,counts:=v.isr }
section
variable {w w':World} {b:Nat} {uL uI uC u:Value} {s s':RepS} {l:List Int}
theorem RepAt.putI (h:RepAt w b uL uI uC s) (hM:Mod (· = b) w w') (hB:Blk w' b 72 15 (put (renc s uL uI uC) 2 [u])) (hr:RdS w' u l) (n1:u.ownBlock ≠ some b) (n2:∀ k,uL.ownBlock = some k→u.ownBlock ≠ some k):RepAt w' b uL u uC { s with isr:=l } :=
  ⟨hB.congr (all15 (by refine ⟨?_,?_,?_,?_,?_,?_,?_,?_,?_,?_,?_,?_,?_,?_,?_⟩ <;> rfl)),h.own.mod hM (fun k hk he=>h.nL (he▸hk)),hr,h.rc.mod hM (fun k hk he=>h.nC (he▸hk)),h.nL,n1,h.nC,fun k hk=>⟨n2 k hk,(h.nX k hk).2⟩⟩
theorem RepAt.putC (h:RepAt w b uL uI uC s) (hM:Mod (· = b) w w') (hB:Blk w' b 72 15 (put (renc s uL uI uC) 3 [u])) (hr:RdS w' u l) (n1:u.ownBlock ≠ some b) (n2:∀ k,uL.ownBlock = some k→u.ownBlock ≠ some k):RepAt w' b uL uI u { s with counts:=l } :=
  ⟨hB.congr (all15 (by refine ⟨?_,?_,?_,?_,?_,?_,?_,?_,?_,?_,?_,?_,?_,?_,?_⟩ <;> rfl)),h.own.mod hM (fun k hk he=>h.nL (he▸hk)),h.ri.mod hM (fun k hk he=>h.nI (he▸hk)),hr,h.nL,h.nI,n1,fun k hk=>⟨(h.nX k hk).1,n2 k hk⟩⟩
theorem RepAt.putL {l:List Ent} (h:RepAt w b uL uI uC s) (hM:Mod (· = b) w w') (hB:Blk w' b 72 15 (put (renc s uL uI uC) 12 [u])) (hr:OwnE w' u l) (n1:u.ownBlock ≠ some b) (n2:∀ k,u.ownBlock = some k→uI.ownBlock ≠ some k∧uC.ownBlock ≠ some k):RepAt w' b u uI uC { s with log:=l } :=
  ⟨hB.congr (all15 (by refine ⟨?_,?_,?_,?_,?_,?_,?_,?_,?_,?_,?_,?_,?_,?_,?_⟩ <;> rfl)),hr,h.ri.mod hM (fun k hk he=>h.nI (he▸hk)),h.rc.mod hM (fun k hk he=>h.nC (he▸hk)),n1,h.nI,h.nC,n2⟩
theorem RepAt.putVer {x:Int} (h:RepAt w b uL uI uC s) (hM:Mod (· = b) w w') (hB:Blk w' b 72 15 (put (renc s uL uI uC) 0 [.int .i64 x])):RepAt w' b uL uI uC { s with version:=x } :=
  h.keep hM hB rfl rfl rfl (all15 (by refine ⟨?_,?_,?_,?_,?_,?_,?_,?_,?_,?_,?_,?_,?_,?_,?_⟩ <;> rfl))
theorem RepAt.putBeg {x:Int} (h:RepAt w b uL uI uC s) (hM:Mod (· = b) w w') (hB:Blk w' b 72 15 (put (renc s uL uI uC) 1 [.int .i64 x])):RepAt w' b uL uI uC { s with beg:=x } :=
  h.keep hM hB rfl rfl rfl (all15 (by refine ⟨?_,?_,?_,?_,?_,?_,?_,?_,?_,?_,?_,?_,?_,?_,?_⟩ <;> rfl))
theorem RepAt.putRole {x:Int} (h:RepAt w b uL uI uC s) (hM:Mod (· = b) w w') (hB:Blk w' b 72 15 (put (renc s uL uI uC) 10 [.int .i64 x])):RepAt w' b uL uI uC { s with role:=x } :=
  h.keep hM hB rfl rfl rfl (all15 (by refine ⟨?_,?_,?_,?_,?_,?_,?_,?_,?_,?_,?_,?_,?_,?_,?_⟩ <;> rfl))
theorem RepAt.putEpoch {x:Int} (h:RepAt w b uL uI uC s) (hM:Mod (· = b) w w') (hB:Blk w' b 72 15 (put (renc s uL uI uC) 11 [.int .i64 x])):RepAt w' b uL uI uC { s with epoch:=x } :=
  h.keep hM hB rfl rfl rfl (all15 (by refine ⟨?_,?_,?_,?_,?_,?_,?_,?_,?_,?_,?_,?_,?_,?_,?_⟩ <;> rfl))
theorem RepAt.putFlu {x:Int} (h:RepAt w b uL uI uC s) (hM:Mod (· = b) w w') (hB:Blk w' b 72 15 (put (renc s uL uI uC) 13 [.int .i64 x])):RepAt w' b uL uI uC { s with flushed:=x } :=
  h.keep hM hB rfl rfl rfl (all15 (by refine ⟨?_,?_,?_,?_,?_,?_,?_,?_,?_,?_,?_,?_,?_,?_,?_⟩ <;> rfl))
theorem RepAt.putHigh {x:Int} (h:RepAt w b uL uI uC s) (hM:Mod (· = b) w w') (hB:Blk w' b 72 15 (put (renc s uL uI uC) 14 [.int .i64 x])):RepAt w' b uL uI uC { s with high:=x } :=
  h.keep hM hB rfl rfl rfl (all15 (by refine ⟨?_,?_,?_,?_,?_,?_,?_,?_,?_,?_,?_,?_,?_,?_,?_⟩ <;> rfl))
def setK (g:Nat→Int) (i:Nat) (x:Int):Nat→Int:=fun j=>if j = i then x else g j
theorem RepAt.putKnown {x:Int} (h:RepAt w b uL uI uC s) {i:Nat} (hi:i < 4) (hM:Mod (· = b) w w') (hB:Blk w' b 72 15 (put (renc s uL uI uC) (4 + i) [.int .i64 x])):RepAt w' b uL uI uC { s with known:=setK s.known i x }:=by
  obtain rfl|rfl|rfl|rfl:i = 0∨i = 1∨i = 2∨i = 3:=by omega
  all_goals exact h.keep hM hB rfl rfl rfl (all15 (by refine ⟨?_,?_,?_,?_,?_,?_,?_,?_,?_,?_,?_,?_,?_,?_,?_⟩ <;> rfl))
theorem RepAt.putBare (h : RepAt w b uL uI uC s) (hM : Mod (· = b) w w') (hB : Blk w' b 72 15 (put (renc s uL uI uC) 0 [.int .i64 0, .int .i64 0, .slice none 0 0, .slice none 0 0, .int .i64 0, .int .i64 0, .int .i64 0, .int .i64 0])) :
    RepAt w' b uL (.slice none 0 0) (.slice none 0 0) { s with version:=0,beg:=0,isr:=[],counts:=[],known:=fun _=>0 } :=
  ⟨hB.congr (all15 (by refine ⟨?_,?_,?_,?_,?_,?_,?_,?_,?_,?_,?_,?_,?_,?_,?_⟩ <;> rfl)),h.own.mod hM (fun k hk he=>h.nL (he▸hk)),RdS.nil _,RdS.nil _,h.nL,(fun h=>nomatch h),(fun h=>nomatch h),fun k hk=>⟨(fun h=>nomatch h),(fun h=>nomatch h)⟩⟩
end
theorem own_slice {α:Type} {enc:α→List Value} {k:Nat} {E:TypeId} {w:World} {v:Value} {xs:List α} (h:Own enc k E w v xs):∃ A n c,v = .slice A n c:=by
  rcases h.shape with ⟨h,_⟩|⟨g,c,h,_⟩
  · exact ⟨_,_,_,h⟩
  · exact ⟨_,_,_,h⟩
theorem steps_calls {w : World} {b : Nat} {F : Nat → Prop} {s : RepS} {v : Value} {x : View} (h : Rep w b F s) (hv : VV w v x) (hn : x.isr.length ≤ 1000000) :
    Ret Tryz.prog 53 #[.pointer (some ⟨b,0,none⟩),v] w fun _ w'=>Mod F w w'∧Rep w' b (fun k=>F k∨w.heap.size≤k) (s.steps x):=by
  have hFb:=Lib.hid (h.own)
  obtain ⟨uL,uI,uC,h,hf⟩:=h.ex
  have H:=Lib.hid h
  have HFF:=Lib.hid hf
  have hlt:=h.blk.lt
  have HLT:=Lib.hid h.lt
  clear h hf
  obtain ⟨u,rfl,hu⟩:=hv
  have HU:=Lib.hid hu
  clear hu
  refine Fn_of Tryz.func53 rfl (Nat.le_of_ble_eq_true rfl) ?_;intro A hd hA;simp only [ix,Nat.reduceAdd];replace hA:A.tmps.size = 24:=hA
  repeat' (first|refine X_nil ?_|refine W_seqk (fun K hK=>?_)|refine W_seqr ?_|(refine X_s (fun x K hK=>?_);go_simp;refine hK _ _ (Ext.alloc _ _) ?_;clear hK K;refine X_al x ?_;generalize (World.later _ x).heap.size = bn;intro yn hn1 hn2 hn3 hn4 hn5;clear x)|go_step)
  have hbn:bn ≠ b:=by omega
  refine W_drawσ [(0,0),(1,0),(2,0),(3,0),(4,0),(5,0),(6,0),(8,0),(9,0),(7,1),(10,1),(11,0),(12,0),(13,0),(14,2),(15,0),(16,0),(17,0),(18,2),(19,0),(20,0),(21,0),(22,2)] (by kernel_rfl) (by kernel_rfl) ?_
  repeat' (first|refine X_q ?_|fail)
  refine X_ret1 (R:=fun w0 v' w'=>Ext w0 w'∧OwnI w' v' x.isr∧∀ b,v'.ownBlock = some b→w0.heap.size≤b) Tryz.func34 (fun z=>cloneI_calls (HU.out.later (by simp)) hn) (fun z1 u1 w1 hR=>⟨hR.1,?_⟩)
  have HR1:=Lib.hid hR
  obtain ⟨y1,rfl⟩:=hR.1.get
  clear hR
  skip
  refine X_ret1 (R:=fun w0 v' w'=>Ext w0 w'∧OwnI w' v' x.isr∧∀ b,v'.ownBlock = some b→w0.heap.size≤b) Tryz.func34 (fun z=>cloneI_calls (HU.out.later (by simp)) hn) (fun z2 u2 w2 hR=>⟨hR.1,?_⟩)
  have HR2:=Lib.hid hR
  obtain ⟨y2,rfl⟩:=hR.1.get
  clear hR
  generalize hW:World.later _ y2 = W
  have hE:Ext w W:=by rw [← hW];simp
  have h1:OwnI W u1 x.isr:=by rw [← hW];exact (HR1.out.2.1).mod (Ext.trans z2.2 y2.2) (fun _ _ h=>h)
  have h2:OwnI W u2 x.isr:=by rw [← hW];exact HR2.out.2.1
  have s1:∀ k,u1.ownBlock = some k→w.heap.size≤k:=fun k hk=>Nat.le_trans (Ext.trans yn.2 z1.2).size (HR1.out.2.2 k hk)
  have s2:∀ k,u2.ownBlock = some k→w.heap.size≤k:=fun k hk=>Nat.le_trans (Ext.trans (Ext.trans (Ext.trans yn.2 z1.2) y1.2) z2.2).size (HR2.out.2.2 k hk)
  have HW:=Lib.hid (H.out.later hE)
  have H1:=Lib.hid h1
  have H2:=Lib.hid h2
  have HE:=Lib.hid hE
  have hWb:b < W.heap.size:=HW.out.blk.lt
  clear hW h1 h2 hE
  have n1:u1.ownBlock ≠ some b:=fun h=>by have:=s1 b h;omega
  have n2:u2.ownBlock ≠ some b:=fun h=>by have:=s2 b h;omega
  have nl:∀ k,uL.ownBlock = some k→u1.ownBlock ≠ some k∧u2.ownBlock ≠ some k:=fun k hk=>⟨fun h=>by have:=s1 k h;have:=HLT.out k (.inr (.inl hk));omega,fun h=>by have:=s2 k h;have:=HLT.out k (.inr (.inl hk));omega⟩
  obtain ⟨A1,m1,c1,rfl⟩:=own_slice H1.out
  obtain ⟨A2,m2,c2,rfl⟩:=own_slice H2.out
  have NN:=Lib.hid (And.intro n1 (And.intro n2 (And.intro nl (And.intro s1 s2))))
  clear n1 n2 nl s1 s2
  repeat' (first|refine X_q ?_|fail)
  refine X_store (off:=0) HW.out.blk (fun W1 hM1 hB1=>?_)
  have HA1:=Lib.hid (HW.out.putVer hM1 hB1)
  repeat' (first|refine X_q ?_|fail)
  refine X_store (off:=2) HA1.out.blk (fun W2 hM2 hB2=>?_)
  have HA2:=Lib.hid (HA1.out.putI hM2 hB2 ((H1.out.rds.mod hM1 (fun k hk he=>NN.out.1 (he▸hk))).mod hM2 (fun k hk he=>NN.out.1 (he▸hk))) NN.out.1 (fun k hk=>(NN.out.2.2.1 k hk).1))
  repeat' (first|refine X_q ?_|fail)
  refine X_store (off:=3) HA2.out.blk (fun W3 hM3 hB3=>?_)
  have HA3:=Lib.hid (HA2.out.putC hM3 hB3 (((H2.out.rds.mod hM1 (fun k hk he=>NN.out.2.1 (he▸hk))).mod hM2 (fun k hk he=>NN.out.2.1 (he▸hk))).mod hM3 (fun k hk he=>NN.out.2.1 (he▸hk))) NN.out.2.1 (fun k hk=>(NN.out.2.2.1 k hk).2))
  repeat' (first|refine X_niln ?_|fail)
  refine Body_ret0 hd ⟨?_,_,_,_,HA3.out,?_⟩
  · exact (Mod.trans (Mod.trans (Mod.trans HE.out hM1 (fun _ _ h=>h.elim) (fun _ _ h=>h)) hM2 (fun _ _ h=>h) (fun _ _ h=>h)) hM3 (fun _ _ h=>h) (fun _ _ h=>h)).mono (fun k _ hk=>by subst hk;exact hFb.out)
  · rintro k (rfl|hk|hk|hk)
    · exact .inl hFb.out
    · exact .inl (HFF.out k (.inr (.inl hk)))
    · exact .inr (NN.out.2.2.2.1 k hk)
    · exact .inr (NN.out.2.2.2.2 k hk)
theorem brokersFrom_bks:∀ (l:List Int) (p:Option Int),brokersFrom p l = true→Bks l
  | [],_,_=>by intro b hb;cases hb
  | x :: xs,p,h=>by
    rw [brokersFrom_cons] at h
    simp only [Bool.and_eq_true] at h
    intro b hb
    rcases List.mem_cons.1 hb with rfl|hb
    · have:=h.1.1
      simp [inB] at this
      omega
    · exact brokersFrom_bks xs _ h.2 b hb
theorem brokersFrom_lt:∀ (l:List Int) (p:Int),brokersFrom (some p) l = true→-1≤p→(l.length:Int) + p≤3∨l = []
  | [],_,_,_=>.inr rfl
  | x :: xs,p,h,hp=>by
    rw [brokersFrom_cons] at h
    simp only [Bool.and_eq_true,decide_eq_true_eq] at h
    obtain ⟨⟨h1,h2⟩,h3⟩:=h
    simp [inB] at h1
    rcases brokersFrom_lt xs x h3 (by omega) with h|h
    · left;simp;omega
    · subst h;left;simp;omega
theorem brokersB_len {l:List Int} (h:brokersB l = true):l.length≤4:=by
  cases l with
  | nil=>simp
  | cons x xs =>
    unfold brokersB at h
    rw [brokersFrom_cons] at h
    simp only [Bool.and_eq_true] at h
    have h1:=h.1.1
    simp [inB] at h1
    rcases brokersFrom_lt xs x h.2 (by omega) with h|h
    · simp;omega
    · subst h;simp
theorem brokersB_bks {l:List Int} (h:brokersB l = true):Bks l:=brokersFrom_bks l none h
def RepS.again (s:RepS) (v:View):RepS × Int :=
  if s.role = 3 then (if s.version < v.version then ((s.steps v).count,0) else (s,210))
  else if s.role = 1 then (if v.leader ≠ -1∧v.leader ≠ s.self then ({ s with role:=2 },0) else (s,210))
  else (s,0)
theorem again_ok {w : World} {b : Nat} {F : Nat → Prop} {s : RepS} {v : Value} {x : View} (h : Rep w b F s) (hv : VV w v x) (hx : brokersB x.isr = true) (hok : (s.again x).2 = 0) :
    Ret Tryz.prog 52 #[.pointer (some ⟨b,0,none⟩),v] w fun _ w'=>Mod F w w'∧Rep w' b (fun k=>F k∨w.heap.size≤k) (s.again x).1:=by
  have hFb:=Lib.hid h.own
  have HP:=Lib.hid h
  have HV:=Lib.hid hv
  obtain ⟨uL,uI,uC,h,hf⟩:=h.ex
  have H:=Lib.hid h
  have HFF:=Lib.hid hf
  obtain ⟨hlt,d0,-,-,-,d8,-,d10,-,-,-,-⟩:=h.cells
  have HLT:=Lib.hid h.lt
  clear h hf
  obtain ⟨u,rfl,hu⟩:=hv
  clear hu
  by_cases h3:s.role = 3
  · have h3b:(s.role == 3) = true:=by simp [h3]
    by_cases hvv:s.version < x.version
    · have hag:s.again x = ((s.steps x).count,0):=by unfold RepS.again;rw [if_pos h3,if_pos hvv]
      have hvb:decide (s.version < x.version) = true:=by simpa using hvv
      rw [hag]
      clear hok hag
      refine Fn_of Tryz.func52 rfl (Nat.le_of_ble_eq_true rfl) ?_;intro A hd hA;simp only [ix,Nat.reduceAdd];replace hA:A.tmps.size = 42:=hA
      repeat' (first|refine X_q ?_|refine X_nil ?_|refine W_seqk (fun K hK=>?_)|refine W_seqr ?_|refine W_block ?_|(refine X_s (fun x K hK=>?_);go_simp;refine hK _ _ (Ext.alloc _ _) ?_;clear hK K;refine X_al x ?_;generalize (World.later _ x).heap.size = bn;intro yn hn1 hn2 hn3 hn4 hn5;clear x)|refine W_tt ?_|go_step)
      refine W_drawσ [(0,0),(1,0),(2,0),(3,0),(4,0),(5,0),(6,0),(7,0),(8,1)] (by kernel_rfl) (by kernel_rfl) ?_
      repeat' (first|(refine X_pure1 Tryz.func50 (fun _=>must_ok 210) ?_)|refine X_q ?_|refine X_niln ?_|refine W_seqk (fun K hK=>?_)|refine W_seqr ?_|go_step)
      refine X_ret Tryz.func53 (steps_calls (HP.out.later (by simp)) (HV.out.later (by simp)) (by have:=brokersB_len hx;omega)) (fun r1 w1 hR=>?_)
      have HR:=Lib.hid hR
      clear hR
      repeat' (first|refine X_q ?_|refine X_nil ?_|refine W_seqr ?_|go_step)
      refine X_ret Tryz.func54 (count_calls HR.out.2 (brokersB_bks hx)) (fun r2 w2 hR2=>?_)
      have HR2:=Lib.hid hR2
      clear hR2
      repeat' (first|refine X_nil ?_|go_step)
      refine Body_ret0 hd ⟨?_,?_⟩
      · exact Mod.trans (Mod.trans yn.2 HR.out.1 (fun _ _ h=>h.elim) (fun _ _ h=>h)) HR2.out.1 (fun _ _ h=>h) (fun k hk h=>h.elim id (fun h=>by have:=yn.2.size;omega))
      · exact HR2.out.2.mono (fun k hk=>hk.imp id (fun h=>Nat.le_trans yn.2.size h))
    · exfalso
      unfold RepS.again at hok
      rw [if_pos h3,if_neg hvv] at hok
      cases hok
  · have h3b:(s.role == 3) = false:=by simp [h3]
    by_cases h1:s.role = 1
    · have h1b:(s.role == 1) = true:=by simp [h1]
      by_cases hl:x.leader ≠ -1∧x.leader ≠ s.self
      · have hag:s.again x = ({ s with role:=2 },0):=by unfold RepS.again;rw [if_neg h3,if_pos h1,if_pos hl]
        have hvb:(x.leader != -1) = true:=by simpa using hl.1
        have hvb2:(x.leader != s.self) = true:=by simpa using hl.2
        rw [hag]
        clear hok hag
        refine Fn_of Tryz.func52 rfl (Nat.le_of_ble_eq_true rfl) ?_;intro A hd hA;simp only [ix,Nat.reduceAdd];replace hA:A.tmps.size = 42:=hA
        repeat' (first|refine X_q ?_|refine X_nil ?_|refine W_seqk (fun K hK=>?_)|refine W_seqr ?_|refine W_block ?_|(refine X_s (fun x K hK=>?_);go_simp;refine hK _ _ (Ext.alloc _ _) ?_;clear hK K;refine X_al x ?_;generalize (World.later _ x).heap.size = bn;intro yn hn1 hn2 hn3 hn4 hn5;clear x)|refine W_tt ?_|refine W_ff ?_|go_step)
        refine W_drawσ [(0,0),(1,0),(2,0),(3,0),(4,0),(5,0),(6,0),(7,0),(8,0),(9,0),(10,0),(11,0),(12,1)] (by kernel_rfl) (by kernel_rfl) ?_
        repeat' (first|(refine X_pure1 Tryz.func50 (fun _=>must_ok 210) ?_)|refine X_gt ?_|refine X_q ?_|refine X_niln ?_|refine W_seqr ?_|go_step)
        refine X_store (off:=10) (H.out.later yn.2).blk (fun W1 hM1 hB1=>?_)
        have HA1:=Lib.hid ((H.out.later yn.2).putRole hM1 hB1)
        repeat' (first|refine X_nil ?_|go_step)
        refine Body_ret0 hd ⟨?_,_,_,_,HA1.out,fun k hk=>.inl (HFF.out k hk)⟩
        exact Mod.trans yn.2 hM1 (fun _ _ h=>h.elim) (fun k _ hk=>by subst hk;exact hFb.out)
      · exfalso
        unfold RepS.again at hok
        rw [if_neg h3,if_pos h1,if_neg hl] at hok
        cases hok
    · have h1b:(s.role == 1) = false:=by simp [h1]
      have hag:s.again x = (s,0):=by unfold RepS.again;rw [if_neg h3,if_neg h1]
      rw [hag]
      clear hok hag
      refine Fn_of Tryz.func52 rfl (Nat.le_of_ble_eq_true rfl) ?_;intro A hd hA;simp only [ix,Nat.reduceAdd];replace hA:A.tmps.size = 42:=hA
      repeat' (first|refine X_q ?_|refine X_nil ?_|refine W_seqk (fun K hK=>?_)|refine W_seqr ?_|refine W_skip ?_|refine W_block ?_|(refine X_s (fun x K hK=>?_);go_simp;refine hK _ _ (Ext.alloc _ _) ?_;clear hK K;refine X_al x ?_;generalize (World.later _ x).heap.size = bn;intro yn hn1 hn2 hn3 hn4 hn5;clear x)|refine W_ff ?_|go_step)
      exact Body_ret0 hd ⟨Mod.mono yn.2 (fun _ _ h=>h.elim),(HP.out.later yn.2).mono (fun k hk=>.inl hk)⟩
theorem again_no {w : World} {b : Nat} {F : Nat → Prop} {s : RepS} {v : Value} {x : View} (h : Rep w b F s) (hv : VV w v x) (hok : (s.again x).2 ≠ 0) :
    (s.again x) = (s,210)∧Fn Tryz.prog 52 #[.pointer (some ⟨b,0,none⟩),v] w (fun e w'=>match e with|.panicked c=>c = stopC 210∧Ext w w'|_=>False):=by
  obtain ⟨uL,uI,uC,h,hf⟩:=h.ex
  have H:=Lib.hid h
  obtain ⟨hlt,d0,-,-,-,d8,-,d10,-,-,-,-⟩:=h.cells
  clear h hf
  obtain ⟨u,rfl,hu⟩:=hv
  clear hu
  by_cases h3:s.role = 3
  · have h3b:(s.role == 3) = true:=by simp [h3]
    by_cases hvv:s.version < x.version
    · exact absurd (by unfold RepS.again;rw [if_pos h3,if_pos hvv]) hok
    · have hvb:decide (s.version < x.version) = false:=by simpa using hvv
      refine ⟨by unfold RepS.again;rw [if_pos h3,if_neg hvv],?_⟩
      clear hok
      refine Fn_of Tryz.func52 rfl (Nat.le_of_ble_eq_true rfl) ?_;intro A hd hA;simp only [ix,Nat.reduceAdd];replace hA:A.tmps.size = 42:=hA
      repeat' (first|refine X_q ?_|refine X_nil ?_|refine W_seqk (fun K hK=>?_)|refine W_seqr ?_|refine W_block ?_|(refine X_s (fun x K hK=>?_);go_simp;refine hK _ _ (Ext.alloc _ _) ?_;clear hK K;refine X_al x ?_;generalize (World.later _ x).heap.size = bn;intro yn hn1 hn2 hn3 hn4 hn5;clear x)|refine W_tt ?_|go_step)
      refine W_die [(0,0),(1,0),(2,0),(3,0),(4,0),(5,0),(6,0),(7,0)] 8 (by kernel_rfl) (by kernel_rfl) ?_
      repeat' (first|refine X_q ?_|refine X_niln ?_|fail)
      refine Dies_call Tryz.func50 (must_no 210) (fun c w' hC=>?_)
      obtain ⟨rfl,hE⟩:=hC
      unfold Body;exact ⟨w',by rw [fr_defers,hd];rfl,rfl,Ext.trans yn.2 hE⟩
  · have h3b:(s.role == 3) = false:=by simp [h3]
    by_cases h1:s.role = 1
    · have h1b:(s.role == 1) = true:=by simp [h1]
      by_cases hl:x.leader ≠ -1∧x.leader ≠ s.self
      · exact absurd (by unfold RepS.again;rw [if_neg h3,if_pos h1,if_pos hl]) hok
      · refine ⟨by unfold RepS.again;rw [if_neg h3,if_pos h1,if_neg hl],?_⟩
        clear hok
        by_cases hm:x.leader = -1
        · have hvb:(x.leader != -1) = false:=by simpa using hm
          refine Fn_of Tryz.func52 rfl (Nat.le_of_ble_eq_true rfl) ?_;intro A hd hA;simp only [ix,Nat.reduceAdd];replace hA:A.tmps.size = 42:=hA
          repeat' (first|refine X_q ?_|refine X_nil ?_|refine W_seqk (fun K hK=>?_)|refine W_seqr ?_|refine W_block ?_|(refine X_s (fun x K hK=>?_);go_simp;refine hK _ _ (Ext.alloc _ _) ?_;clear hK K;refine X_al x ?_;generalize (World.later _ x).heap.size = bn;intro yn hn1 hn2 hn3 hn4 hn5;clear x)|refine W_tt ?_|refine W_ff ?_|go_step)
          refine W_die [(0,0),(1,0),(2,0),(3,0),(4,0),(5,0),(6,0),(7,0),(8,0),(9,0),(10,0),(11,0)] 12 (by kernel_rfl) (by kernel_rfl) ?_
          repeat' (first|refine X_q ?_|refine X_g ?_|refine X_gf ?_|refine X_niln ?_|fail)
          refine Dies_call Tryz.func50 (must_no 210) (fun c w' hC=>?_)
          obtain ⟨rfl,hE⟩:=hC
          unfold Body;exact ⟨w',by rw [fr_defers,hd];rfl,rfl,Ext.trans yn.2 hE⟩
        · have hvb:(x.leader != -1) = true:=by simpa using hm
          have hvb2:(x.leader != s.self) = false:=by
            have:x.leader = s.self:=Classical.byContradiction fun h=>hl ⟨hm,h⟩
            simpa using this
          refine Fn_of Tryz.func52 rfl (Nat.le_of_ble_eq_true rfl) ?_;intro A hd hA;simp only [ix,Nat.reduceAdd];replace hA:A.tmps.size = 42:=hA
          repeat' (first|refine X_q ?_|refine X_nil ?_|refine W_seqk (fun K hK=>?_)|refine W_seqr ?_|refine W_block ?_|(refine X_s (fun x K hK=>?_);go_simp;refine hK _ _ (Ext.alloc _ _) ?_;clear hK K;refine X_al x ?_;generalize (World.later _ x).heap.size = bn;intro yn hn1 hn2 hn3 hn4 hn5;clear x)|refine W_tt ?_|refine W_ff ?_|go_step)
          refine W_die [(0,0),(1,0),(2,0),(3,0),(4,0),(5,0),(6,0),(7,0),(8,0),(9,0),(10,0),(11,0)] 12 (by kernel_rfl) (by kernel_rfl) ?_
          repeat' (first|refine X_gt ?_|refine X_q ?_|refine X_niln ?_|fail)
          refine Dies_call Tryz.func50 (must_no 210) (fun c w' hC=>?_)
          obtain ⟨rfl,hE⟩:=hC
          unfold Body;exact ⟨w',by rw [fr_defers,hd];rfl,rfl,Ext.trans yn.2 hE⟩
    · exact absurd (by unfold RepS.again;rw [if_neg h3,if_neg h1]) hok
theorem mem_keys {L:List (Int × Int × Nat)} (hn:(L.map (·.1)).Nodup) {xs:List Int} (h:AllOf L (·.1) xs):xs.Nodup∧∀ x,x ∈ xs↔(look L x).isSome = true:=by
  obtain ⟨P,hP,rfl⟩:=h
  refine ⟨(hP.map (·.1)).nodup_iff.2 hn,fun x=>?_⟩
  rw [List.mem_map]
  constructor
  · rintro ⟨y,hy,rfl⟩
    exact Option.isSome_iff_exists.2 ⟨_,(look_iff hn _ _).2 ⟨y.2.2,hP.mem_iff.1 hy⟩⟩
  · intro hk
    obtain ⟨v,hv⟩:=Option.isSome_iff_exists.1 hk
    obtain ⟨b,hb⟩:=(look_iff hn _ _).1 hv
    exact ⟨_,hP.mem_iff.2 hb,rfl⟩
end Go.Ws
