/- Lemmas for the statements of this layer (joined texts); no condition. -/
import Derived.Test.YtlpjgegbdmkmdaaGreatBb02
import Derived.Test.YtlpjgegbdmkmdaaGreatBb03
namespace Go.Ws
open Go Go.RowKit Go.Proofs
set_option maxHeartbeats 2000000
set_option maxRecDepth 100000
set_option linter.unusedVariables false
set_option linter.unusedSimpArgs false
section
variable {P:Program} {fn:Func} {R:Res} {e:Exit} {t b be tx bx:Nat} {ty:TypeId} {w:World} {l:List (Nat × Value)} {A:Act} {E:TypeId} {v vx:Value} {x why:Int}
theorem load_cell {W:World} (hag:∀ w,(isAgg ty).run P w = .ok false w) (hc:W.cell? ⟨b,0,none⟩ = some v):(loadVar ty ⟨b,0,none⟩).run P W = .ok v W:=by
  simp [loadVar,hag,Go.load,Sem.run_bind,Sem.run,hc]
theorem load_row {W : World} {td : TypeDesc} {cs : List Value} {g : Nat → Value} (hb : Blk W b E cs.length g) (hg : ∀ k, k < cs.length → cs[k]? = some (g k))
    (hu:P.underlying ty = some td) (htd:(match td with|.struct _|.array _ _=>true|_=>false) = true:=by rfl) (hi:(P.info? ty).map (·.size) = some cs.length:=by kernel_rfl):(loadVar ty ⟨b,0,none⟩).run P W = .ok (.agg cs.toArray) W :=
  run_loadVar_row (P:=P) W b E ty cs.toArray (0,0) td (blk_cells1 hb hg ⟨W,Ext.refl W⟩) hu htd (by simpa using hi)
theorem res_one {W:World} {tmps:Array Value} (hr:fn.results = #[.cell t ty]) (ht:tmps.getD t undef = .pointer (some ⟨b,0,none⟩)) (hl:(loadVar ty ⟨b,0,none⟩).run P W = .ok v W):(results fn tmps).run P W = .ok v W:=by
  have h2:tmps[t]?.getD undef = .pointer (some ⟨b,0,none⟩):=by simpa using ht
  simp [results,hr,h2,asAddr,hl]
theorem res_two {W : World} {tmps : Array Value} {te : Nat} {tye : TypeId} (hr : fn.results = #[.cell t ty, .cell te tye]) (ht : tmps.getD t undef = .pointer (some ⟨b, 0, none⟩)) (hl : (loadVar ty ⟨b, 0, none⟩).run P W = .ok v W)
    (hte:tmps.getD te undef = .pointer (some ⟨be,0,none⟩)) (hle:(loadVar tye ⟨be,0,none⟩).run P W = .ok vx W):(results fn tmps).run P W = .ok (.tuple #[v,vx]) W:=by
  have h2:tmps[t]?.getD undef = .pointer (some ⟨b,0,none⟩):=by simpa using ht
  have h3:tmps[te]?.getD undef = .pointer (some ⟨be,0,none⟩):=by simpa using hte
  simp [results,hr,h2,h3,asAddr,hl,hle]
end
section
variable {fn:Func} {R:Res} {e:Exit} {t te bx be:Nat} {ty:TypeId} {w:World} {l:List (Nat × Value)} {A:Act} {E E':TypeId} {v:Value} {x why:Int}
theorem End_no1 (hd : A.defers = [caughtD be]) (hB : Blk w be E 1 (fun _ => .int .i64 x)) (hR : ∀ W1, Mod (· = be) w W1 → R (.returned (.int .i64 why)) W1) (hr : fn.results = #[.cell te 26] := by rfl)
    (hv:Is ((fr l A).tmps.getD te undef) (.pointer (some ⟨be,0,none⟩)):=by go_simp;exact Is.mk _):BodyD Tryz.prog fn R (.panic (stopC why)) (fr l A) w:=by
  obtain ⟨W1,h1,h2,h3⟩:=put_err why hB
  refine ⟨.returning,W1,by rw [fr_defers,hd];exact after_panic hB h1 h2 h3,.int .i64 why,fun X=>?_,hR W1 h1⟩
  exact res_one hr hv.eq (load_cell Tryz.isAgg26 ((h2.later X.2).cell (k:=0) (by omega)))
theorem End_ok1 (hd : A.defers = [caughtD be]) (hB : Blk w be E 1 (fun _ => .int .i64 x)) (hR : R (.returned (.int .i64 x)) w) (hr : fn.results = #[.cell te 26] := by rfl) (he : e = .ret ∨ e = .normal := by first | exact .inl rfl | exact .inr rfl)
    (hv:Is ((fr l A).tmps.getD te undef) (.pointer (some ⟨be,0,none⟩)):=by go_simp;exact Is.mk _):BodyD Tryz.prog fn R e (fr l A) w:=by
  have h:FinD Tryz.prog fn (fr l A).tmps R .returning w:=⟨.int .i64 x,fun X=>res_one hr hv.eq (load_cell Tryz.isAgg26 ((hB.later X.2).cell (k:=0) (by omega))),hR⟩
  rcases he with rfl|rfl <;> exact ⟨.returning,w,by rw [fr_defers,hd];exact after_idle be w,h⟩
theorem End_no2 (hd : A.defers = [caughtD be]) (hB : Blk w be E 1 (fun _ => .int .i64 x)) (hx : ∀ W, (∀ k, k ≠ be → k < w.heap.size → W.heap[k]? = w.heap[k]?) → (loadVar ty ⟨bx, 0, none⟩).run Tryz.prog W = .ok v W) (hR : ∀ W1, Mod (· = be) w W1 → R (.returned (.tuple #[v, .int .i64 why])) W1) (hr : fn.results = #[.cell t ty, .cell te 26] := by rfl)
    (hv:Is ((fr l A).tmps.getD te undef) (.pointer (some ⟨be,0,none⟩)):=by go_simp;exact Is.mk _) (hvx:Is ((fr l A).tmps.getD t undef) (.pointer (some ⟨bx,0,none⟩)):=by go_simp;exact Is.mk _):BodyD Tryz.prog fn R (.panic (stopC why)) (fr l A) w:=by
  obtain ⟨W1,h1,h2,h3⟩:=put_err why hB
  refine ⟨.returning,W1,by rw [fr_defers,hd];exact after_panic hB h1 h2 h3,.tuple #[v,.int .i64 why],fun X=>?_,hR W1 h1⟩
  exact res_two hr hvx.eq (hx _ (fun k hk hkw=>(X.2.block k (by omega) (fun h=>h)).trans (h1.block k hkw hk))) hv.eq (load_cell Tryz.isAgg26 ((h2.later X.2).cell (k:=0) (by omega)))
theorem End_ok2 (hd : A.defers = [caughtD be]) (hB : Blk w be E 1 (fun _ => .int .i64 x)) (hx : ∀ W, (∀ k, k < w.heap.size → W.heap[k]? = w.heap[k]?) → (loadVar ty ⟨bx, 0, none⟩).run Tryz.prog W = .ok v W) (hR : R (.returned (.tuple #[v, .int .i64 x])) w) (hr : fn.results = #[.cell t ty, .cell te 26] := by rfl) (he : e = .ret ∨ e = .normal := by first | exact .inl rfl | exact .inr rfl)
    (hv:Is ((fr l A).tmps.getD te undef) (.pointer (some ⟨be,0,none⟩)):=by go_simp;exact Is.mk _) (hvx:Is ((fr l A).tmps.getD t undef) (.pointer (some ⟨bx,0,none⟩)):=by go_simp;exact Is.mk _):BodyD Tryz.prog fn R e (fr l A) w:=by
  have h:FinD Tryz.prog fn (fr l A).tmps R .returning w:=⟨.tuple #[v,.int .i64 x],fun X=>res_two hr hvx.eq (hx _ (fun k hkw=>X.2.block k hkw (fun h=>h))) hv.eq (load_cell Tryz.isAgg26 ((hB.later X.2).cell (k:=0) (by omega))),hR⟩
  rcases he with rfl|rfl <;> exact ⟨.returning,w,by rw [fr_defers,hd];exact after_idle be w,h⟩
theorem X_defc {N : Nat} {Q : Post} {fl : List (Nat × Value)} {ops : Array Oper} {o : Oper} {rest : List (Oper × Nat)} (hd0 : A.defers = []) (hA : A.tmps.size = N) (hd : ∀ W, Ext w W → (execOp (fr fl A).eval o).run Tryz.prog W = .ok (.defer (caughtD be)) W)
    (h:∀ A':Act,A'.defers = [caughtD be]→A'.tmps.size = N→wpX Tryz.prog ops Q rest (fr fl A') w) (hdst:o.dst = none:=by rfl) (hg:o.guard = none:=by rfl):wpX Tryz.prog ops Q ((o,2) :: rest) (fr fl A) w :=
  X_defer hd (h _ (by simp [hd0]) hA) hdst hg
end
end Go.Ws
namespace Go.Ws
open Go Go.RowKit Go.Proofs
set_option maxHeartbeats 1000000
set_option maxRecDepth 100000
set_option linter.unusedVariables false
set_option linter.unusedSimpArgs false
def inB (n a b:Int):Bool:=decide (a≤n) && decide (n≤b)
def rightB (e:Ent):Bool :=
  inB e.ep 1 2147483647 && decide (1≤e.kind) && decide (e.kind≤3) && inB e.id (-1) 3 && !(decide (1 < e.kind) && decide (e.id < 0)) &&
  !(decide (e.id < 0) && (decide (e.num ≠ 0) || decide (e.seq ≠ 0))) && !(decide (0≤e.id) && !inB e.num 1 2147483647) &&
  !(decide (1 < e.kind) && (decide (e.seq ≠ 0) || decide (e.val ≠ 0))) && inB e.seq 0 2147483647 && inB e.val (-2147483648) 2147483647
theorem within_calls (n a b : Int) (w : World) :
    Pure Tryz.prog 134 #[.int .i64 n,.int .i64 a,.int .i64 b] w (.bool (inB n a b)):=by
  refine Fn_of Tryz.func134 rfl (Nat.le_of_ble_eq_true rfl) ?_;intro A hd hA;simp only [ix,Nat.reduceAdd];replace hA:A.tmps.size = 15:=hA
  repeat' (first|refine X_d (fun vb hvb=>?_)|refine X_q ?_|refine X_g ?_|refine X_nil ?_|refine W_seqk (fun K hK=>?_)|refine W_seqr ?_|refine W_ret ?_|go_step)
  refine Body_ret hd ⟨?_,Ext.refl _⟩
  repeat cases ‹Eqn _ _›
  rfl
theorem right_calls (e:Ent) (w:World):Pure Tryz.prog 105 #[e.v] w (.bool (rightB e)):=by
  refine Fn_of Tryz.func105 rfl (Nat.le_of_ble_eq_true rfl) ?_;intro A hd hA;simp only [ix,Nat.reduceAdd];replace hA:A.tmps.size = 77:=hA
  repeat' (first|refine X_pure Tryz.func134 (within_calls _ _ _ _) ?_|refine X_gpure Tryz.func134 (fun _=>within_calls _ _ _ _) ?_|refine X_d (fun vb hvb=>?_)|refine X_dg (fun vb hvb=>?_)|refine X_q ?_|refine X_g ?_|refine X_nil ?_|refine W_seqk (fun K hK=>?_)|refine W_seqr ?_|refine W_ret ?_|refine W_skip ?_|(refine X_s (fun x K hK=>?_);go_simp;refine hK _ _ (Ext.alloc _ _) ?_;clear hK K;refine X_al x ?_;generalize (World.later _ x).heap.size = bn;intro yn hn1 hn2 hn3 hn4 hn5;clear x)|refine W_test (fun hc=>?_) (fun hc=>?_)|go_step)
  all_goals (refine Body_ret hd ⟨congrArg Value.bool ?_,by simp⟩;rw [Bool.eq_iff_iff];clear hn1 hn2 hn3 hn4 hn5;repeat cases ‹Eqn _ _›)
  all_goals (simp [rightB,inB] at *;omega)
def markedB (l:List Ent) (id num:Int):Bool:=l.any fun e=>(e.id == id) && (e.num == num) && decide (1 < e.kind)
theorem marked_calls (l : List Ent) (v : Value) (id num : Int) (w : World) (hl : RdE w v l) :
    Pure Tryz.prog 151 #[v,.int .i64 id,.int .i64 num] w (.bool (markedB l id num)):=by
  obtain ⟨A0,c,rfl,hc,hcm,HR⟩:=hl.ent
  clear hl
  refine Fn_of Tryz.func151 rfl (Nat.le_of_ble_eq_true rfl) ?_;intro A hd hA;simp only [ix,Nat.reduceAdd];replace hA:A.tmps.size = 38:=hA
  repeat' (first|refine X_q ?_|refine X_nil ?_|refine W_seqk (fun K hK=>?_)|refine W_seqr ?_|refine W_block ?_|go_step)
  refine W_loops [0,1,2,7] (fun n vs w'=>∃ k:Nat,w' = w∧k + n = l.length∧vs = [.slice A0 l.length c,.int .i64 id,.int .i64 num,.int .i64 k]∧markedB (l.take k) id num = false) l.length hd hA (by decide) ⟨0,rfl,by omega,by simp,by simp [markedB]⟩ ?_
  clear hd hA A;intro n vs B w' hd hA _ ⟨k,hw,hk,hvs,hm⟩;subst hw hvs
  simp only [List.zip_cons_cons,List.zip_nil_right,List.zip_nil_left]
  have Hm:=Lib.hid hm;clear hm
  by_cases hlt:k < l.length
  · obtain ⟨e,b,o,HE,rfl,hb,c0,c1,c2,c3,c4,c5⟩:=HR.out k hlt
    repeat' (first|refine X_d (fun vb hvb=>?_)|refine X_q ?_|refine X_g ?_|refine X_nil ?_|refine W_seqk (fun K hK=>?_)|refine W_seqr ?_|refine W_ret ?_|refine W_skip ?_|refine W_block ?_|refine W_tt ?_|refine W_test (fun hc=>?_) (fun hc=>?_)|go_step)
    · refine Body_ret hd ⟨?_,by simp⟩
      repeat cases ‹Eqn _ _›
      simp [markedB]
      exact ⟨e,mem_of_get HE,by simpa using hc⟩
    · refine ⟨_,_,rfl,hd,hA,n - 1,by omega,k + 1,trivial,by omega,by simp,?_⟩
      have:=Hm.out
      repeat cases ‹Eqn _ _›
      unfold markedB at *
      rw [take_snoc HE,List.any_append,this]
      simpa using hc
  · repeat' (first|refine X_q ?_|refine X_nil ?_|refine W_seqk (fun K hK=>?_)|refine W_seqr ?_|refine W_ret ?_|refine W_exit ?_|refine W_ff ?_|go_step)
    obtain rfl:k = l.length:=by omega
    refine Body_ret hd ⟨?_,by simp⟩
    have:=Hm.out
    rw [List.take_length] at this
    simp [this]
def openStep (l:List Ent) (id:Int) (out:List Opn) (i:Nat) (e:Ent):List Opn :=
  if (e.id != id || e.kind != 1 || markedB l id e.num) = true then out else if (out.any fun o=>o.num == e.num) = true then out else out ++ [⟨e.num,i⟩]
def opensTo (l:List Ent) (id:Int):Nat→List Ent→List Opn→List Opn
  | _,[],out=>out
  | i,e :: es,out=>opensTo l id (i + 1) es (openStep l id out i e)
def opensB (l:List Ent) (id:Int):List Opn:=opensTo l id 0 l []
theorem opensTo_snoc (l:List Ent) (id:Int) (e:Ent):∀ (es:List Ent) (i:Nat) (out:List Opn),opensTo l id i (es ++ [e]) out = openStep l id (opensTo l id i es out) (i + es.length) e
  | [],i,out=>by simp [opensTo]
  | x :: es,i,out=>by
    simp only [List.cons_append,opensTo,List.length_cons]
    rw [opensTo_snoc l id e es];congr 1;omega
theorem opensTo_len (l:List Ent) (id:Int):∀ (es:List Ent) (i:Nat) (out:List Opn),(opensTo l id i es out).length≤out.length + es.length
  | [],i,out=>by simp [opensTo]
  | x :: es,i,out=>by
    simp only [opensTo,List.length_cons]
    refine Nat.le_trans (opensTo_len l id es _ _) ?_
    unfold openStep
    split
    · omega
    · split
      · omega
      · simp;omega
theorem opens_calls (l : List Ent) (v : Value) (id : Int) (w : World) (hl : RdE w v l) (hn : l.length ≤ 1000000) :
    Ret Tryz.prog 135 #[v,.int .i64 id] w fun v' w'=>Ext w w'∧Own Opn.cs 2 199 w' v' (opensB l id)∧∀ b,v'.ownBlock = some b→w.heap.size≤b:=by
  have hl0:=Lib.hid hl
  obtain ⟨A0,c,rfl,hc,hcm,HR⟩:=hl.ent
  clear hl
  refine Fn_of Tryz.func135 rfl (Nat.le_of_ble_eq_true rfl) ?_;intro A hd hA;simp only [ix,Nat.reduceAdd];replace hA:A.tmps.size = 63:=hA
  repeat' (first|refine X_q ?_|refine X_nil ?_|refine W_seqk (fun K hK=>?_)|refine W_seqr ?_|refine W_block ?_|go_step)
  refine W_loops [0,1,5,6] (fun n vs w'=>∃ (k:Nat) (y:Later w) (u:Value),w' = w.later y∧k + n = l.length∧vs = [.slice A0 l.length c,.int .i64 id,u,.int .i64 k]∧Own Opn.cs 2 199 (w.later y) u (opensTo l id 0 (l.take k) [])∧∀ b,u.ownBlock = some b→w.heap.size≤b) l.length hd hA (by decide) ?_ ?_
  · exact ⟨0,⟨w,Ext.refl w⟩,_,rfl,by omega,by simp,Own.nil _,by intro b hb;cases hb⟩
  clear hd hA A;intro n vs B w' hd hA _ ⟨k,y,u,hw,hk,hvs,hown,hfr⟩;subst hw hvs
  simp only [List.zip_cons_cons,List.zip_nil_right,List.zip_nil_left]
  have Ho:=Lib.hid hown;clear hown
  have Hf:=Lib.hid hfr;clear hfr
  by_cases hlt:k < l.length
  · obtain ⟨e,b,o,HE,rfl,hb,c0,c1,c2,c3,c4,c5⟩:=HR.out k hlt
    have hsn:=take_snoc HE
    have HS:Hid (opensTo l id 0 (l.take (k + 1)) [] = openStep l id (opensTo l id 0 (l.take k) []) k e):=by
      rw [hsn,opensTo_snoc];congr 1;simp;omega
    clear hsn
    repeat' (first|refine X_gpure Tryz.func151 (fun _=>marked_calls l _ _ _ _ (hl0.out.later (by simp))) ?_|refine X_d (fun vb hvb=>?_)|refine X_q ?_|refine X_g ?_|refine X_nil ?_|(refine X_var (fun yn bn hn1 hn2 hn3 hn4 hn5=>?_))|refine W_seqk (fun K hK=>?_)|refine W_seqr ?_|refine W_skip ?_|refine W_block ?_|refine W_exit ?_|refine W_tt ?_|refine W_test (fun hc=>?_) (fun hc=>?_)|go_step)
    · refine ⟨_,_,rfl,hd,hA,n - 1,by omega,k + 1,y.trans yn,u,rfl,by omega,by simp,?_,Hf.out⟩
      rw [HS.out]
      unfold openStep
      repeat cases ‹Eqn _ _›
      rw [if_pos hc]
      exact Ho.out.later yn.2
    · have HO:=(Ho.out.later yn.2:Own Opn.cs 2 199 ((w.later y).later yn) _ _)
      obtain ⟨A1,c1',hu,hc1,hcm1,HR1⟩:=(HO.rd Opn.len).opn
      have HU:=Lib.hid hu;clear hu
      generalize hout:opensTo l id 0 (l.take k) [] = out at *
      have hlo:out.length≤1000000:=by rw [← hout];have:=opensTo_len l id (l.take k) 0 [];simp at this;omega
      have HOUT:=Lib.hid hout;clear hout
      have HO1:=Lib.hid HO;clear HO
      refine W_loops [0,1,5,6,7,8,9] (fun n vs w'=>∃ (j:Nat),w' = (w.later y).later yn∧j + n = out.length∧vs = [.slice (some ⟨b,o,none⟩) l.length c,.int .i64 id,u,.int .i64 k,.pointer (some ⟨bn,0,none⟩),.bool ((out.take j).any fun x=>x.num == e.num),.int .i64 j]) out.length hd hA (by decide) ⟨0,rfl,by omega,by simp⟩ ?_
      clear hd hA B;intro n2 vs B2 w' hd hA _ ⟨j,hw,hj,hvs⟩;subst hw hvs
      simp only [List.zip_cons_cons,List.zip_nil_right,List.zip_nil_left]
      have hu:=HU.out;subst hu
      by_cases hlj:j < out.length
      · obtain ⟨x,b1,o1,HX,rfl,hb1,d0,d1⟩:=HR1.out j hlj
        repeat' (first|refine X_d (fun vb hvb=>?_)|refine X_q ?_|refine X_g ?_|refine X_niln ?_|refine X_nil ?_|refine W_seqk (fun K hK=>?_)|refine W_seqr ?_|refine W_draw (by kernel_rfl) (by kernel_rfl) ?_|refine W_skip ?_|refine W_block ?_|refine W_tt ?_|go_step)
        refine ⟨_,_,rfl,hd,hA,n2 - 1,by omega,j + 1,trivial,by omega,?_⟩
        have:=take_snoc HX
        repeat cases ‹Eqn _ _›
        simp [this]
      · obtain rfl:j = out.length:=by omega
        repeat' (first|refine X_q ?_|refine X_nil ?_|refine W_seqk (fun K hK=>?_)|refine W_seqr ?_|refine W_skip ?_|refine W_exit ?_|(refine X_s (fun x K hK=>?_);go_simp;refine hK _ _ (Ext.alloc _ _) ?_;clear hK K;refine X_al x ?_;generalize (World.later _ x).heap.size = bn;intro yn hn1 hn2 hn3 hn4 hn5;clear x)|refine W_ff ?_|refine W_test (fun hc=>?_) (fun hc=>?_)|go_step)
        · refine X_push (w0:=w) (by simp) elemOpn (HO1.out.later (by simp)) Hf.out (Rd.one (x:=(⟨e.num,k⟩:Opn)) hn2 hn3 rfl) (by simp;omega) (by unfold maxLen;simp;omega) (fun y' v' hO hF _ _=>?_)
          repeat' (first|refine X_q ?_|refine X_nil ?_|refine W_seqr ?_|go_step)
          refine ⟨_,_,rfl,hd,hA,n - 1,by omega,k + 1,y',v',rfl,by omega,by simp,?_,hF⟩
          rw [HS.out]
          unfold openStep
          have hq:=hc
          repeat cases ‹Eqn _ _›
          rw [if_neg (by rw [‹(e.id != id || e.kind != 1 || markedB l id e.num) = false›];simp),if_neg (by simpa using hq)]
          exact hO
        · refine ⟨_,_,rfl,hd,hA,n - 1,by omega,k + 1,y.trans yn,.slice A1 out.length c1',rfl,by omega,by simp,?_,Hf.out⟩
          rw [HS.out]
          unfold openStep
          have hq:=hc
          repeat cases ‹Eqn _ _›
          rw [if_neg (by rw [‹(e.id != id || e.kind != 1 || markedB l id e.num) = false›];simp),if_pos (by simpa using hq)]
          exact HO1.out
  · obtain rfl:k = l.length:=by omega
    repeat' (first|refine X_q ?_|refine X_nil ?_|refine W_seqk (fun K hK=>?_)|refine W_seqr ?_|refine W_ret ?_|refine W_exit ?_|refine W_ff ?_|go_step)
    refine Body_ret hd ⟨by simp,?_,Hf.out⟩
    have:=Ho.out
    rw [List.take_length] at this
    exact this
def lastEp (l:List Ent) (e:Ent):Bool:=match l.getLast? with|some x=>decide (e.ep < x.ep)|none=>false
def appendNo (l:List Ent) (e:Ent):Int:=if rightB e = false then 2 else if 4096≤l.length then 3 else if lastEp l e = true then 180 else 0
theorem lastEp_get {l:List Ent} {e x:Ent} {i:Nat} (h:l[i]? = some x) (hi:i + 1 = l.length):lastEp l e = decide (e.ep < x.ep):=by
  have:l.getLast? = some x:=by rw [List.getLast?_eq_getElem?];rw [show l.length - 1 = i by omega];exact h
  simp [lastEp,this]
theorem append_callsF (l : List Ent) (v : Value) (e : Ent) (w : World) (hl : RdE w v l) :
    Ret Tryz.prog 106 #[v,e.v] w fun v' w'=>∃ u,v' = .tuple #[u,.int .i64 (appendNo l e)]∧Ext w w'∧RdE w' u (if appendNo l e = 0 then l ++ [e] else l)∧(u = v∨∀ b,u.ownBlock = some b→w.heap.size≤b):=by
  have hl0:=Lib.hid hl
  obtain ⟨A0,c,rfl,hc,hcm,HR⟩:=hl.ent
  clear hl
  have HLEN:∃ n,Hid (l.length = n):=⟨_,rfl⟩
  obtain ⟨n,hln⟩:=HLEN
  rw [hln.out] at hc
  have hl1:Hid (RdE w (.slice A0 n c) l):=by rw [hln.out] at hl0;exact hl0
  rw [hln.out]
  clear hl0
  have T2:rightB e = false→appendNo l e = 2:=fun h=>by simp [appendNo,h]
  have T3:rightB e = true→4096≤l.length→appendNo l e = 3:=fun h h1=>by simp [appendNo,h,h1]
  have T4:rightB e = true→l.length < 4096→lastEp l e = true→appendNo l e = 180:=fun h h1 h2=>by simp [appendNo,h,h2];omega
  have T0:rightB e = true→l.length < 4096→lastEp l e = false→appendNo l e = 0:=fun h h1 h2=>by simp [appendNo,h,h2];omega
  rcases n with _|m
  · refine Fn_of Tryz.func106 rfl (Nat.le_of_ble_eq_true rfl) ?_;intro A hd hA;simp only [ix,Nat.reduceAdd];replace hA:A.tmps.size = 36:=hA
    repeat' (first|refine X_pure Tryz.func105 (right_calls e _) ?_|refine X_d (fun vb hvb=>?_)|refine X_q ?_|refine X_g ?_|refine X_nil ?_|refine W_seqk (fun K hK=>?_)|refine W_seqr ?_|refine W_draw (by kernel_rfl) (by kernel_rfl) ?_|refine W_ret ?_|refine W_skip ?_|(refine X_s (fun x K hK=>?_);go_simp;refine hK _ _ (Ext.alloc _ _) ?_;clear hK K;refine X_al x ?_;generalize (World.later _ x).heap.size = bn;intro yn hn1 hn2 hn3 hn4 hn5;clear x)|refine W_ff ?_|refine W_test (fun hc=>?_) (fun hc=>?_)|go_step)
    · rw [T2 (by simpa using hc)]
      exact Body_ret2 hd ⟨_,rfl,by simp,by simpa using hl1.out.later (by simp),.inl rfl⟩
    · cases hvb
      repeat' (first|refine X_q ?_|refine X_gf ?_|refine X_niln ?_|refine W_seqk (fun K hK=>?_)|refine W_skip ?_|refine W_ff ?_|go_step)
      have hl4:l.length < 4096:=by rw [hln.out];omega
      have hno:appendNo l e = 0:=T0 (by simpa using hc) hl4 (by
        have:l = []:=List.eq_nil_of_length_eq_zero hln.out
        subst this;rfl)
      rw [hno] at hK
      simp only [if_true] at hK
      refine W_fork [5] (by kernel_rfl) ?_
      refine F_q (i:=1) ?_
      refine F_q (i:=3) ?_
      refine F_two (i:=0) (j:=4) (fun x K hK=>?_) (fun x K hK=>?_)
      all_goals (go_simp;refine hK _ _ _ (Ext.alloc _ _) (Ext.refl _) ?_;clear hK K;refine F_al x ?_;generalize (World.later _ x).heap.size = bm;intro ym hm1 hm2 hm3 hm4 hm5;clear x)
      · refine F_two (i:=2) (j:=4) (fun x K hK=>?_) (fun x K hK=>?_)
        · refine F_copy elemEnt hm5.out (hl1.out.later (by simp)) (by omega) (by unfold maxLen;omega) x K (fun y v' hE hO hF=>hK v' _ _ hE (Ext.refl _) ?_)
          clear hK K hE x
          refine F_s (i:=4) (fun x K hK=>?_)
          go_simp;refine hK _ _ _ (Ext.alloc _ _) (Ext.refl _) ?_;clear hK K;refine F_al x ?_;generalize (World.later _ x).heap.size = bk;intro yk hk1 hk2 hk3 hk4 hk5;clear x
          refine F_push (i:=5) (w0:=w) (by simp) elemEnt (hO.later (by simp)) (fun g hg=>(hF g hg).elim (fun h=>by omega) (fun h=>by omega)) (Rd.one (x:=e) hk2 hk3 rfl) (by simp;omega) (by unfold maxLen;simp;omega) (fun y' v' hO hF=>?_)
          refine F_q (i:=6) ?_
          refine F_q (i:=7) ?_
          refine F_nil (by kernel_rfl) (hK _ _ (W_ret (Body_ret2 hd ⟨_,rfl,y'.2,?_,.inr hF⟩)))
          exact hO.rd Ent.len
        · go_simp;refine hK _ _ _ (Ext.alloc _ _) (Ext.refl _) ?_;clear hK K;refine F_al x ?_;generalize (World.later _ x).heap.size = bk;intro yk hk1 hk2 hk3 hk4 hk5;clear x
          refine F_s (i:=2) (fun x K hK=>?_)
          refine F_copy (b:=bm) elemEnt (by rw [heap_later _ _ _ hm2];exact hm5.out) (hl1.out.later (by simp)) (by omega) (by unfold maxLen;omega) x K (fun y v' hE hO hF=>hK v' _ _ hE (Ext.refl _) ?_)
          clear hK K hE x
          refine F_push (i:=5) (w0:=w) (by simp) elemEnt hO (fun g hg=>(hF g hg).elim (fun h=>by omega) (fun h=>by omega)) ((Rd.one (x:=e) hk2 hk3 rfl).later (by simp)) (by simp;omega) (by unfold maxLen;simp;omega) (fun y' v' hO hF=>?_)
          refine F_q (i:=6) ?_
          refine F_q (i:=7) ?_
          refine F_nil (by kernel_rfl) (hK _ _ (W_ret (Body_ret2 hd ⟨_,rfl,y'.2,?_,.inr hF⟩)))
          exact hO.rd Ent.len
      · refine F_s (i:=0) (fun x K hK=>?_)
        go_simp;refine hK _ _ _ (Ext.alloc _ _) (Ext.refl _) ?_;clear hK K;refine F_al x ?_;generalize (World.later _ x).heap.size = bk;intro yk hk1 hk2 hk3 hk4 hk5;clear x
        refine F_s (i:=2) (fun x K hK=>?_)
        refine F_copy (b:=bk) elemEnt hk5.out (hl1.out.later (by simp)) (by omega) (by unfold maxLen;omega) x K (fun y v' hE hO hF=>hK v' _ _ hE (Ext.refl _) ?_)
        clear hK K hE x
        refine F_push (i:=5) (w0:=w) (by simp) elemEnt hO (fun g hg=>(hF g hg).elim (fun h=>by omega) (fun h=>by omega)) ((Rd.one (x:=e) hm2 hm3 rfl).later (by simp)) (by simp;omega) (by unfold maxLen;simp;omega) (fun y' v' hO hF=>?_)
        refine F_q (i:=6) ?_
        refine F_q (i:=7) ?_
        refine F_nil (by kernel_rfl) (hK _ _ (W_ret (Body_ret2 hd ⟨_,rfl,y'.2,?_,.inr hF⟩)))
        exact hO.rd Ent.len
  · obtain ⟨x,b,o,HE,rfl,hb,c0,c1,c2,c3,c4,c5⟩:=HR.out m (by rw [hln.out];omega)
    have HLE:=lastEp_get (e:=e) HE.out (by rw [hln.out])
    refine Fn_of Tryz.func106 rfl (Nat.le_of_ble_eq_true rfl) ?_;intro A hd hA;simp only [ix,Nat.reduceAdd];replace hA:A.tmps.size = 36:=hA
    repeat' (first|refine X_pure Tryz.func105 (right_calls e _) ?_|refine X_d (fun vb hvb=>?_)|refine X_q ?_|refine X_g ?_|refine X_nil ?_|refine W_seqk (fun K hK=>?_)|refine W_seqr ?_|refine W_draw (by kernel_rfl) (by kernel_rfl) ?_|refine W_ret ?_|refine W_skip ?_|(refine X_s (fun x K hK=>?_);go_simp;refine hK _ _ (Ext.alloc _ _) ?_;clear hK K;refine X_al x ?_;generalize (World.later _ x).heap.size = bn;intro yn hn1 hn2 hn3 hn4 hn5;clear x)|refine W_test (fun hc=>?_) (fun hc=>?_)|go_step)
    · rw [T2 (by simpa using hc)]
      exact Body_ret2 hd ⟨_,rfl,by simp,by simpa using hl1.out.later (by simp),.inl rfl⟩
    · rename_i hcr
      rw [T3 (by simpa using hcr) (by rw [hln.out];simp at hc;omega)]
      exact Body_ret2 hd ⟨_,rfl,by simp,by simpa using hl1.out.later (by simp),.inl rfl⟩
    · cases hvb
      have hmm:(m:Int) < m + 1:=by omega
      have hcr:=‹(!rightB e) = false›
      have hl4:l.length < 4096:=by rw [hln.out];simp at hc;omega
      repeat' (first|refine X_q ?_|refine X_g ?_|refine X_niln ?_|refine X_nil ?_|refine W_seqk (fun K hK=>?_)|refine W_seqr ?_|refine W_ret ?_|refine W_skip ?_|refine W_test (fun hc=>?_) (fun hc=>?_)|go_step)
      · rw [T4 (by simpa using hcr) hl4 (by rw [HLE];exact hc)]
        exact Body_ret2 hd ⟨_,rfl,by simp,by simpa using hl1.out.later (by simp),.inl rfl⟩
      rw [T0 (by simpa using hcr) hl4 (by rw [HLE];exact hc)] at hK
      simp only [if_true] at hK
      refine W_fork [5] (by kernel_rfl) ?_
      refine F_q (i:=1) ?_
      refine F_q (i:=3) ?_
      refine F_two (i:=0) (j:=4) (fun x K hK=>?_) (fun x K hK=>?_)
      all_goals (go_simp;refine hK _ _ _ (Ext.alloc _ _) (Ext.refl _) ?_;clear hK K;refine F_al x ?_;generalize (World.later _ x).heap.size = bm;intro ym hm1 hm2 hm3 hm4 hm5;clear x)
      · refine F_two (i:=2) (j:=4) (fun x K hK=>?_) (fun x K hK=>?_)
        · refine F_copy elemEnt hm5.out (hl1.out.later (by simp)) (by omega) (by unfold maxLen;omega) x K (fun y v' hE hO hF=>hK v' _ _ hE (Ext.refl _) ?_)
          clear hK K hE x
          refine F_s (i:=4) (fun x K hK=>?_)
          go_simp;refine hK _ _ _ (Ext.alloc _ _) (Ext.refl _) ?_;clear hK K;refine F_al x ?_;generalize (World.later _ x).heap.size = bk;intro yk hk1 hk2 hk3 hk4 hk5;clear x
          refine F_push (i:=5) (w0:=w) (by simp) elemEnt (hO.later (by simp)) (fun g hg=>(hF g hg).elim (fun h=>by omega) (fun h=>by omega)) (Rd.one (x:=e) hk2 hk3 rfl) (by simp;omega) (by unfold maxLen;simp;omega) (fun y' v' hO hF=>?_)
          refine F_q (i:=6) ?_
          refine F_q (i:=7) ?_
          refine F_nil (by kernel_rfl) (hK _ _ (W_ret (Body_ret2 hd ⟨_,rfl,y'.2,?_,.inr hF⟩)))
          exact hO.rd Ent.len
        · go_simp;refine hK _ _ _ (Ext.alloc _ _) (Ext.refl _) ?_;clear hK K;refine F_al x ?_;generalize (World.later _ x).heap.size = bk;intro yk hk1 hk2 hk3 hk4 hk5;clear x
          refine F_s (i:=2) (fun x K hK=>?_)
          refine F_copy (b:=bm) elemEnt (by rw [heap_later _ _ _ hm2];exact hm5.out) (hl1.out.later (by simp)) (by omega) (by unfold maxLen;omega) x K (fun y v' hE hO hF=>hK v' _ _ hE (Ext.refl _) ?_)
          clear hK K hE x
          refine F_push (i:=5) (w0:=w) (by simp) elemEnt hO (fun g hg=>(hF g hg).elim (fun h=>by omega) (fun h=>by omega)) ((Rd.one (x:=e) hk2 hk3 rfl).later (by simp)) (by simp;omega) (by unfold maxLen;simp;omega) (fun y' v' hO hF=>?_)
          refine F_q (i:=6) ?_
          refine F_q (i:=7) ?_
          refine F_nil (by kernel_rfl) (hK _ _ (W_ret (Body_ret2 hd ⟨_,rfl,y'.2,?_,.inr hF⟩)))
          exact hO.rd Ent.len
      · refine F_s (i:=0) (fun x K hK=>?_)
        go_simp;refine hK _ _ _ (Ext.alloc _ _) (Ext.refl _) ?_;clear hK K;refine F_al x ?_;generalize (World.later _ x).heap.size = bk;intro yk hk1 hk2 hk3 hk4 hk5;clear x
        refine F_s (i:=2) (fun x K hK=>?_)
        refine F_copy (b:=bk) elemEnt hk5.out (hl1.out.later (by simp)) (by omega) (by unfold maxLen;omega) x K (fun y v' hE hO hF=>hK v' _ _ hE (Ext.refl _) ?_)
        clear hK K hE x
        refine F_push (i:=5) (w0:=w) (by simp) elemEnt hO (fun g hg=>(hF g hg).elim (fun h=>by omega) (fun h=>by omega)) ((Rd.one (x:=e) hm2 hm3 rfl).later (by simp)) (by simp;omega) (by unfold maxLen;simp;omega) (fun y' v' hO hF=>?_)
        refine F_q (i:=6) ?_
        refine F_q (i:=7) ?_
        refine F_nil (by kernel_rfl) (hK _ _ (W_ret (Body_ret2 hd ⟨_,rfl,y'.2,?_,.inr hF⟩)))
        exact hO.rd Ent.len
theorem append_calls (l : List Ent) (v : Value) (e : Ent) (w : World) (hl : RdE w v l) :
    Ret Tryz.prog 106 #[v,e.v] w fun v' w'=>∃ u,v' = .tuple #[u,.int .i64 (appendNo l e)]∧Ext w w'∧RdE w' u (if appendNo l e = 0 then l ++ [e] else l) :=
  (append_callsF l v e w hl).mono fun v' w' ⟨u,h1,h2,h3,_⟩=>⟨u,h1,h2,h3⟩
end Go.Ws
namespace Go.Ws
open Go Go.RowKit Go.Proofs
set_option maxHeartbeats 2000000
set_option maxRecDepth 100000
set_option linter.unusedVariables false
set_option linter.unusedSimpArgs false
theorem in_calls (a b n : Int) (w : World) :
    Pure Tryz.prog 137 #[.int .i64 n,.int .i64 a,.int .i64 b] w (.bool (inB n a b)):=by
  refine Fn_of Tryz.func137 rfl (Nat.le_of_ble_eq_true rfl) ?_;intro A hd hA;simp only [ix,Nat.reduceAdd];replace hA:A.tmps.size = 15:=hA
  repeat' (first|refine X_d (fun vb hvb=>?_)|refine X_q ?_|refine X_g ?_|refine X_nil ?_|refine W_seqk (fun K hK=>?_)|refine W_seqr ?_|refine W_ret ?_|go_step)
  refine Body_ret hd ⟨?_,Ext.refl _⟩
  repeat cases ‹Eqn _ _›
  rfl
theorem wrap_eq (n:Int):(n == wrap64 (wrap32 n)) = inB n (-2147483648) 2147483647:=by
  rw [Bool.eq_iff_iff]
  simp only [inB,wrap64,wrap32,beq_iff_eq,Bool.and_eq_true,decide_eq_true_eq]
  omega
theorem wcheck_calls (e:Ent) (w:World):Pure Tryz.prog 111 #[e.v] w (.int .i64 (if rightB e then 0 else 2)):=by
  refine Fn_of Tryz.func111 rfl (Nat.le_of_ble_eq_true rfl) ?_;intro A hd hA;simp only [ix,Nat.reduceAdd];replace hA:A.tmps.size = 77:=hA
  repeat' (first|refine X_pure Tryz.func137 (in_calls _ _ _ _) ?_|refine X_gpure Tryz.func137 (fun _=>in_calls _ _ _ _) ?_|refine X_d (fun vb hvb=>?_)|refine X_dg (fun vb hvb=>?_)|refine X_q ?_|refine X_g ?_|refine X_nil ?_|refine W_seqk (fun K hK=>?_)|refine W_seqr ?_|refine W_ret ?_|refine W_skip ?_|refine W_block ?_|(refine X_s (fun x K hK=>?_);go_simp;refine hK _ _ (Ext.alloc _ _) ?_;clear hK K;refine X_al x ?_;generalize (World.later _ x).heap.size = bn;intro yn hn1 hn2 hn3 hn4 hn5;clear x)|refine W_tt ?_|refine W_test (fun hc=>?_) (fun hc=>?_)|go_step)
  all_goals (clear hn1 hn2 hn3 hn4 hn5;try simp only [wrap_eq] at *)
  all_goals (first
    | (have hr : rightB e = false := by
         rw [← Bool.not_eq_true]
         intro hr
         repeat cases ‹Eqn _ _›
         simp [rightB,inB] at * <;> omega
       simp only [hr]
       exact Body_ret hd ⟨rfl,by simp⟩)
    | (have hr : rightB e = true := by
         repeat cases ‹Eqn _ _›
         simp [rightB,inB] at * <;> omega
       simp only [hr]
       exact Body_ret hd ⟨rfl,by simp⟩))
structure Seen (w:World) (b:Nat) (u:Value) (l:List Ent):Prop where
  lt:b < w.heap.size
  made:w.cell? ⟨b,21,none⟩ = some (.bool true)
  log:w.cell? ⟨b,0,none⟩ = some u
  rd:RdE w u l
theorem Seen.later {w w':World} {b:Nat} {u:Value} {l:List Ent} (h:Seen w b u l) (hE:Ext w w'):Seen w' b u l:=by
  obtain ⟨x,rfl⟩:=hE.get
  exact ⟨by simp [h.lt],by simp [h.lt,h.made],by simp [h.lt,h.log],h.rd.later hE⟩
theorem none_calls {b:Nat} {w:World} (hb:b < w.heap.size) (hm:w.cell? ⟨b,21,none⟩ = some (.bool true)):Pure Tryz.prog 110 #[.pointer (some ⟨b,0,none⟩)] w (.bool false):=by
  refine Fn_of Tryz.func110 rfl (Nat.le_of_ble_eq_true rfl) ?_;intro A hd hA;simp only [ix,Nat.reduceAdd];replace hA:A.tmps.size = 12:=hA
  repeat' (first|refine X_d (fun vb hvb=>?_)|refine X_q ?_|refine X_g ?_|refine X_nil ?_|refine W_seqk (fun K hK=>?_)|refine W_seqr ?_|refine W_ret ?_|go_step)
  cases hvb
  exact Body_ret hd ⟨rfl,by simp⟩
theorem may_calls {b:Nat} {w:World} {u:Value} {l:List Ent} (h:Seen w b u l) (e:Ent):Pure Tryz.prog 89 #[.pointer (some ⟨b,0,none⟩),e.v] w (.int .i64 (appendNo l e)):=by
  obtain ⟨hb,hm,hl,hr⟩:=h
  have T2:rightB e = false→appendNo l e = 2:=fun h=>by simp [appendNo,h]
  have T3:rightB e = true→4096≤l.length→appendNo l e = 3:=fun h h1=>by simp [appendNo,h,h1]
  have T4:rightB e = true→l.length < 4096→lastEp l e = true→appendNo l e = 180:=fun h h1 h2=>by simp [appendNo,h,h2];omega
  have T0:rightB e = true→l.length < 4096→lastEp l e = false→appendNo l e = 0:=fun h h1 h2=>by simp [appendNo,h,h2];omega
  have hl0:=Lib.hid hr
  obtain ⟨A0,c,rfl,hc,hcm,HR⟩:=hr.ent
  clear hr
  have HLEN:∃ n,Hid (l.length = n):=⟨_,rfl⟩
  obtain ⟨n,hln⟩:=HLEN
  rw [hln.out] at hc hl
  clear hl0
  have hrb:Hid (rightB e = true∨rightB e = false):=by cases rightB e <;> simp [Lib.hid]
  rcases n with _|m
  · refine Fn_of Tryz.func89 rfl (Nat.le_of_ble_eq_true rfl) ?_;intro A hd hA;simp only [ix,Nat.reduceAdd];replace hA:A.tmps.size = 44:=hA
    repeat' (first|refine X_pure Tryz.func110 (none_calls (b:=b) (by simp [hb]) (by simp [hb,hm])) ?_|refine X_pure Tryz.func111 (wcheck_calls e _) ?_|refine X_d (fun vb hvb=>?_)|refine X_q ?_|refine X_g ?_|refine X_nil ?_|refine W_seqk (fun K hK=>?_)|refine W_seqr ?_|refine W_draw (by kernel_rfl) (by kernel_rfl) ?_|refine W_ret ?_|refine W_skip ?_|refine W_block ?_|(refine X_s (fun x K hK=>?_);go_simp;refine hK _ _ (Ext.alloc _ _) ?_;clear hK K;refine X_al x ?_;generalize (World.later _ x).heap.size = bn;intro yn hn1 hn2 hn3 hn4 hn5;clear x)|refine W_ff ?_|refine W_test (fun hc=>?_) (fun hc=>?_)|go_step)
    · rw [T2 (by cases hq:rightB e <;> simp [hq] at hc ⊢)]
      exact Body_ret hd ⟨rfl,by simp⟩
    · have hcr:rightB e = true:=by cases hq:rightB e <;> simp [hq] at hc ⊢
      cases hvb
      repeat' (first|refine X_q ?_|refine X_gf ?_|refine X_niln ?_|refine X_nil ?_|refine W_seqk (fun K hK=>?_)|refine W_seqr ?_|refine W_ret ?_|refine W_skip ?_|refine W_ff ?_|go_step)
      rw [T0 hcr (by rw [hln.out];omega) (by
        have:l = []:=List.eq_nil_of_length_eq_zero hln.out
        subst this;rfl)]
      exact Body_ret hd ⟨rfl,by simp⟩
  · obtain ⟨x,b1,o,HE,rfl,hb1,c0,c1,c2,c3,c4,c5⟩:=HR.out m (by rw [hln.out];omega)
    have HLE:=lastEp_get (e:=e) HE.out (by rw [hln.out])
    refine Fn_of Tryz.func89 rfl (Nat.le_of_ble_eq_true rfl) ?_;intro A hd hA;simp only [ix,Nat.reduceAdd];replace hA:A.tmps.size = 44:=hA
    repeat' (first|refine X_pure Tryz.func110 (none_calls (b:=b) (by simp [hb]) (by simp [hb,hm])) ?_|refine X_pure Tryz.func111 (wcheck_calls e _) ?_|refine X_d (fun vb hvb=>?_)|refine X_q ?_|refine X_g ?_|refine X_nil ?_|refine W_seqk (fun K hK=>?_)|refine W_seqr ?_|refine W_draw (by kernel_rfl) (by kernel_rfl) ?_|refine W_ret ?_|refine W_skip ?_|refine W_block ?_|(refine X_s (fun x K hK=>?_);go_simp;refine hK _ _ (Ext.alloc _ _) ?_;clear hK K;refine X_al x ?_;generalize (World.later _ x).heap.size = bn;intro yn hn1 hn2 hn3 hn4 hn5;clear x)|refine W_ff ?_|refine W_test (fun hc=>?_) (fun hc=>?_)|go_step)
    · rw [T2 (by cases hq:rightB e <;> simp [hq] at hc ⊢)]
      exact Body_ret hd ⟨rfl,by simp⟩
    · have hcr:rightB e = true:=by have:=‹((if rightB e = true then (0:Int) else 2) != 0) = false›;cases hq:rightB e <;> simp [hq] at this ⊢
      rw [T3 hcr (by rw [hln.out];simp at hc;omega)]
      exact Body_ret hd ⟨rfl,by simp⟩
    · have hcr:rightB e = true:=by have:=‹((if rightB e = true then (0:Int) else 2) != 0) = false›;cases hq:rightB e <;> simp [hq] at this ⊢
      cases hvb
      have hmm:(m:Int) < m + 1:=by omega
      have hl4:l.length < 4096:=by rw [hln.out];simp at hc;omega
      repeat' (first|refine X_q ?_|refine X_g ?_|refine X_niln ?_|refine X_nil ?_|refine W_seqk (fun K hK=>?_)|refine W_seqr ?_|refine W_ret ?_|refine W_skip ?_|refine W_test (fun hc=>?_) (fun hc=>?_)|go_step)
      · rw [T4 hcr hl4 (by rw [HLE];exact hc)]
        exact Body_ret hd ⟨rfl,by simp⟩
      · rw [T0 hcr hl4 (by rw [HLE];exact hc)]
        exact Body_ret hd ⟨rfl,by simp⟩
structure Wr where
  high:Int
  marked:Int
  next:Int→Option Int
  opens:Int→Option Int
  done:Int→Option Bool
def Wr.zero:Wr:=⟨0,0,fun _=>none,fun _=>none,fun _=>none⟩
def gmax (a b:Int):Int:=if a < b then b else a
def Wr.step (r:Wr) (n:Int) (e:Ent):Wr :=
  if e.kind ≠ 1 then ⟨gmax r.high e.num,gmax r.marked e.num,r.next,upd r.opens e.num none,upd r.done e.num (some true)⟩
  else ⟨gmax r.high e.num,r.marked,upd r.next e.num (some (gmax ((r.next e.num).getD 0) (e.seq + 1))),
    if (!(r.opens e.num).isSome && !(r.done e.num).getD false) = true then upd r.opens e.num (some n) else r.opens,r.done⟩
def wrFrom (i:Int):Nat→List Ent→Wr→Wr
  | _,[],r=>r
  | n,e :: es,r=>wrFrom i (n + 1) es (if e.id = i then r.step n e else r)
def wrOf (l:List Ent) (i:Int):Wr:=wrFrom i 0 l Wr.zero
theorem wrFrom_snoc (i:Int) (e:Ent):∀ (l:List Ent) (n:Nat) (r:Wr),wrFrom i n (l ++ [e]) r = if e.id = i then (wrFrom i n l r).step ((n + l.length:Nat)) e else wrFrom i n l r
  | [],n,r=>by simp [wrFrom]
  | x :: xs,n,r=>by
    simp only [List.cons_append,wrFrom,List.length_cons]
    rw [wrFrom_snoc i e xs,show n + 1 + xs.length = n + (xs.length + 1) by omega]
theorem wrOf_snoc (l:List Ent) (e:Ent) (i:Int):wrOf (l ++ [e]) i = if e.id = i then (wrOf l i).step l.length e else wrOf l i:=by
  have:=wrFrom_snoc i e l 0 Wr.zero
  simpa [wrOf] using this
theorem of_no {l:List Ent} {e:Ent} (h:appendNo l e = 0):rightB e = true∧l.length < 4096∧lastEp l e = false:=by
  unfold appendNo at h
  cases h1:rightB e <;> simp [h1] at h
  refine ⟨rfl,?_⟩
  by_cases h2:4096≤l.length
  · simp [h2] at h
  · cases h3:lastEp l e <;> simp [h2,h3] at h
    exact ⟨by omega,rfl⟩
theorem right_bounds {e:Ent} (h:rightB e = true):-1≤e.id∧e.id≤3∧0≤e.seq∧e.seq≤2147483647∧1≤e.kind∧e.kind≤3∧0≤e.num∧e.num≤2147483647∧(e.id < 0→e.kind = 1)∧(0≤e.id→1≤e.num):=by
  simp [rightB,inB] at h
  omega
abbrev vB (x:Bool):Value:=.bool x
structure TabAt (w:World) (b:Nat) (u:Value) (mb:Nat→Nat→Nat) (g:Nat→Value) (l:List Ent):Prop where
  blk:Blk w b 154 22 g
  g0:g 0 = u
  g21:g 21 = .bool true
  own:OwnE w u l
  high:∀ i,i < 4→g (1 + i * 5) = .int .i64 (wrOf l i).high
  marked:∀ i,i < 4→g (1 + i * 5 + 1) = .int .i64 (wrOf l i).marked
  next:∀ i,i < 4→g (1 + i * 5 + 2) = .map (some (mb i 0))
  opens:∀ i,i < 4→g (1 + i * 5 + 3) = .map (some (mb i 1))
  done:∀ i,i < 4→g (1 + i * 5 + 4) = .map (some (mb i 2))
  mnext:∀ i,i < 4→MapIs ki ki w (mb i 0) (wrOf l i).next
  mopens:∀ i,i < 4→MapIs ki ki w (mb i 1) (wrOf l i).opens
  mdone:∀ i,i < 4→MapIs ki vB w (mb i 2) (wrOf l i).done
  inj:∀ i j i' j',i < 4→j < 3→i' < 4→j' < 3→mb i j = mb i' j'→i = i'∧j = j'
def Foot (b:Nat) (u:Value) (mb:Nat→Nat→Nat) (k:Nat):Prop:=k = b∨u.ownBlock = some k∨∃ i j,i < 4∧j < 3∧k = mb i j
def Tab (w:World) (b:Nat) (F:Nat→Prop) (l:List Ent):Prop:=∃ u mb g,TabAt w b u mb g l∧∀ k,Foot b u mb k→F k
section
variable {w w':World} {b:Nat} {u:Value} {mb:Nat→Nat→Nat} {g:Nat→Value} {l:List Ent} {F G:Nat→Prop}
theorem TabAt.seen (h:TabAt w b u mb g l):Seen w b u l :=
  ⟨h.blk.lt,by rw [h.blk.cell (by omega),h.g21],by rw [h.blk.cell (by omega),h.g0],h.own.rd Ent.len⟩
theorem TabAt.mod (h:TabAt w b u mb g l) (hM:Mod G w w') (hF:∀ k,Foot b u mb k→¬ G k):TabAt w' b u mb g l:=by
  have hmb:∀ i j,i < 4→j < 3→¬ G (mb i j):=fun i j hi hj=>hF _ (.inr (.inr ⟨i,j,hi,hj,rfl⟩))
  exact ⟨h.blk.mod hM (hF _ (.inl rfl)),h.g0,h.g21,h.own.mod hM (fun k hk=>hF k (.inr (.inl hk))),h.high,h.marked,h.next,h.opens,h.done,
    fun i hi=>(h.mnext i hi).mod hM (hmb i 0 hi (by omega)),fun i hi=>(h.mopens i hi).mod hM (hmb i 1 hi (by omega)),fun i hi=>(h.mdone i hi).mod hM (hmb i 2 hi (by omega)),h.inj⟩
theorem Tab.mod (h:Tab w b F l) (hM:Mod G w w') (hF:∀ k,F k→¬ G k):Tab w' b F l:=by
  obtain ⟨u,mb,g,h,hf⟩:=h
  exact ⟨u,mb,g,h.mod hM (fun k hk=>hF k (hf k hk)),hf⟩
theorem Tab.later (h:Tab w b F l) (hE:Ext w w'):Tab w' b F l:=h.mod hE (fun _ _ h=>h)
theorem Tab.mono (h:Tab w b F l) (hF:∀ k,F k→G k):Tab w b G l:=by
  obtain ⟨u,mb,g,h,hf⟩:=h
  exact ⟨u,mb,g,h,fun k hk=>hF k (hf k hk)⟩
theorem TabAt.lt (h:TabAt w b u mb g l):∀ k,Foot b u mb k→k < w.heap.size:=by
  rintro k (rfl|hk|⟨i,j,hi,hj,rfl⟩)
  · exact h.blk.lt
  · exact h.own.lt k hk
  · match j,hj with
    | 0,_=>exact (h.mnext i hi).lt
    | 1,_=>exact (h.mopens i hi).lt
    | 2,_=>exact (h.mdone i hi).lt
theorem not_map_cells {w:World} {k:Nat} {cs:Array Value} {E:TypeId} {κ β:Type} [DecidableEq κ] {kenc:κ→Value} {venc:β→Value} {f:κ→Option β} (h:w.heap[k]? = some (.cells cs E)) (hm:MapIs kenc venc w k f):False:=by
  obtain ⟨L,c,hm,_⟩:=hm
  rw [hm.heap] at h
  cases h
theorem TabAt.u_ne_b (h:TabAt w b u mb g l):u.ownBlock ≠ some b:=by
  intro hu
  obtain ⟨cs,hb,_⟩:=h.blk
  rcases h.own.2 with ⟨rfl,_⟩|⟨k,cap,cur,rfl,_,hk,_⟩
  · cases hu
  · cases hu
    rw [hb] at hk
    cases hk
theorem TabAt.u_ne_m (h:TabAt w b u mb g l) {i j:Nat} (hi:i < 4) (hj:j < 3):u.ownBlock ≠ some (mb i j):=by
  intro hu
  rcases h.own.2 with ⟨rfl,_⟩|⟨k,cap,cur,rfl,_,hk,_⟩
  · cases hu
  · cases hu
    match j,hj with
    | 0,_=>exact not_map_cells hk (h.mnext i hi)
    | 1,_=>exact not_map_cells hk (h.mopens i hi)
    | 2,_=>exact not_map_cells hk (h.mdone i hi)
theorem TabAt.b_ne_m (h:TabAt w b u mb g l) {i j:Nat} (hi:i < 4) (hj:j < 3):b ≠ mb i j:=by
  intro hu
  obtain ⟨cs,hb,_⟩:=h.blk
  subst hu
  match j,hj with
  | 0,_=>exact not_map_cells hb (h.mnext i hi)
  | 1,_=>exact not_map_cells hb (h.mopens i hi)
  | 2,_=>exact not_map_cells hb (h.mdone i hi)
end
structure Mid (w0 W:World) (b bn:Nat) (u v:Value) (mb:Nat→Nat→Nat) (i:Nat) (l:List Ent) (e:Ent) (g g':Nat→Value) (h m:Int) (f0 f1:Int→Option Int) (f2:Int→Option Bool):Prop where
  tab:TabAt w0 b u mb g l
  i4:i < 4
  bn0:∀ k,Foot b u mb k→k < bn
  bn1:bn < W.heap.size
  blk:Blk W b 154 22 g'
  box:∀ k,W.cell? ⟨bn,k,none⟩ = #[.int .i64 e.ep,.int .i64 e.id,.int .i64 e.num,.int .i64 e.seq,.int .i64 e.kind,.int .i64 e.val][k]?
  own:OwnE W v (l ++ [e])
  vbk:∀ k,v.ownBlock = some k→u.ownBlock = some k∨bn < k
  m0:MapIs ki ki W (mb i 0) f0
  m1:MapIs ki ki W (mb i 1) f1
  m2:MapIs ki vB W (mb i 2) f2
  mod:Mod (fun k=>k = b∨u.ownBlock = some k∨∃ j,j < 3∧k = mb i j) w0 W
  g0:g' 0 = v
  gh:g' (1 + i * 5) = .int .i64 h
  gm:g' (1 + i * 5 + 1) = .int .i64 m
  gr:∀ k,k ≠ 0→k ≠ 1 + i * 5→k ≠ 1 + i * 5 + 1→g' k = g k
section
variable {w0 W W':World} {b bn:Nat} {u v:Value} {mb:Nat→Nat→Nat} {i:Nat} {l:List Ent} {e:Ent} {g g':Nat→Value} {h m:Int} {f0 f1:Int→Option Int} {f2:Int→Option Bool}
theorem Mid.v_ne_b (M:Mid w0 W b bn u v mb i l e g g' h m f0 f1 f2):v.ownBlock ≠ some b:=by
  intro hu
  rcases M.vbk b hu with h|h
  · exact M.tab.u_ne_b h
  · have:=M.bn0 b (.inl rfl);omega
theorem Mid.v_ne_m (M:Mid w0 W b bn u v mb i l e g g' h m f0 f1 f2) {j:Nat} (hj:j < 3):v.ownBlock ≠ some (mb i j):=by
  intro hu
  rcases M.vbk _ hu with h|h
  · exact M.tab.u_ne_m M.i4 hj h
  · have:=M.bn0 (mb i j) (.inr (.inr ⟨i,j,M.i4,hj,rfl⟩));omega
theorem Mid.m_ne_m (M:Mid w0 W b bn u v mb i l e g g' h m f0 f1 f2) {j k:Nat} (hj:j < 3) (hk:k < 3) (hne:j ≠ k):mb i j ≠ mb i k:=fun h=>hne (M.tab.inj i j i k M.i4 hj M.i4 hk h).2
theorem Mid.bn_ne_m (M:Mid w0 W b bn u v mb i l e g g' h m f0 f1 f2) {j:Nat} (hj:j < 3):bn ≠ mb i j:=by
  have:=M.bn0 (mb i j) (.inr (.inr ⟨i,j,M.i4,hj,rfl⟩));omega
theorem Mid.store (M : Mid w0 W b bn u v mb i l e g g' h m f0 f1 f2) (hM : Mod (· = b) W W') {g'' : Nat → Value} {h' m' : Int} (hB : Blk W' b 154 22 g'') (h0 : g'' 0 = g' 0)
    (gh:g'' (1 + i * 5) = .int .i64 h') (gm:g'' (1 + i * 5 + 1) = .int .i64 m') (gr:∀ k,k ≠ 0→k ≠ 1 + i * 5→k ≠ 1 + i * 5 + 1→g'' k = g' k):Mid w0 W' b bn u v mb i l e g g'' h' m' f0 f1 f2:=by
  have hb:=M.bn0 b (.inl rfl)
  have hbm:∀ j,j < 3→¬ (mb i j = b):=fun j hj=>fun h=>M.tab.b_ne_m M.i4 hj h.symm
  exact ⟨M.tab,M.i4,M.bn0,Nat.lt_of_lt_of_le M.bn1 hM.size,hB,fun k=>(cell?_mod hM M.bn1 (by omega)).trans (M.box k),M.own.mod hM (fun k hk=>fun e=>M.v_ne_b (e▸hk)),M.vbk,
    M.m0.mod hM (hbm 0 (by omega)),M.m1.mod hM (hbm 1 (by omega)),M.m2.mod hM (hbm 2 (by omega)),Mod.trans M.mod hM (fun _ _ h=>h) (fun _ _ h=>.inl h),h0.trans M.g0,gh,gm,
    fun k h0 h1 h2=>(gr k h0 h1 h2).trans (M.gr k h0 h1 h2)⟩
theorem Mid.storeH (M : Mid w0 W b bn u v mb i l e g g' h m f0 f1 f2) (hM : Mod (· = b) W W') {h' : Int} (hB : Blk W' b 154 22 (put g' (1 + i * 5) [.int .i64 h'])) :
    Mid w0 W' b bn u v mb i l e g (put g' (1 + i * 5) [.int .i64 h']) h' m f0 f1 f2 :=
  M.store hM hB (by rw [put_one,if_neg (by omega)]) (by rw [put_one,if_pos rfl]) (by rw [put_one,if_neg (by omega)];exact M.gm) (fun k _ h1 _=>by rw [put_one,if_neg h1])
theorem Mid.storeM (M : Mid w0 W b bn u v mb i l e g g' h m f0 f1 f2) (hM : Mod (· = b) W W') {m' : Int} (hB : Blk W' b 154 22 (put g' (1 + i * 5 + 1) [.int .i64 m'])) :
    Mid w0 W' b bn u v mb i l e g (put g' (1 + i * 5 + 1) [.int .i64 m']) h m' f0 f1 f2 :=
  M.store hM hB (by rw [put_one,if_neg (by omega)]) (by rw [put_one,if_neg (by omega)];exact M.gh) (by rw [put_one,if_pos rfl]) (fun k _ _ h1=>by rw [put_one,if_neg h1])
theorem Mid.map (M : Mid w0 W b bn u v mb i l e g g' h m f0 f1 f2) {j : Nat} (hj : j < 3) (hM : Mod (· = mb i j) W W') {f0' f1' : Int → Option Int} {f2' : Int → Option Bool}
    (k0:MapIs ki ki W' (mb i 0) f0') (k1:MapIs ki ki W' (mb i 1) f1') (k2:MapIs ki vB W' (mb i 2) f2'):Mid w0 W' b bn u v mb i l e g g' h m f0' f1' f2':=by
  have hb:=M.bn0 b (.inl rfl)
  exact ⟨M.tab,M.i4,M.bn0,Nat.lt_of_lt_of_le M.bn1 hM.size,M.blk.mod hM (M.tab.b_ne_m M.i4 hj),fun k=>(cell?_mod hM M.bn1 (M.bn_ne_m hj)).trans (M.box k),M.own.mod hM (fun k hk=>fun e=>M.v_ne_m hj (e▸hk)),M.vbk,
    k0,k1,k2,Mod.trans M.mod hM (fun _ _ h=>h) (fun _ _ h=>.inr (.inr ⟨j,hj,h⟩)),M.g0,M.gh,M.gm,M.gr⟩
theorem Mid.set0 (M:Mid w0 W b bn u v mb i l e g g' h m f0 f1 f2) (hM:Mod (· = mb i 0) W W') {f:Int→Option Int} (k:MapIs ki ki W' (mb i 0) f):Mid w0 W' b bn u v mb i l e g g' h m f f1 f2 :=
  M.map (by omega) hM k (M.m1.mod hM (M.m_ne_m (by omega) (by omega) (by omega))) (M.m2.mod hM (M.m_ne_m (by omega) (by omega) (by omega)))
theorem Mid.set1 (M:Mid w0 W b bn u v mb i l e g g' h m f0 f1 f2) (hM:Mod (· = mb i 1) W W') {f:Int→Option Int} (k:MapIs ki ki W' (mb i 1) f):Mid w0 W' b bn u v mb i l e g g' h m f0 f f2 :=
  M.map (by omega) hM (M.m0.mod hM (M.m_ne_m (by omega) (by omega) (by omega))) k (M.m2.mod hM (M.m_ne_m (by omega) (by omega) (by omega)))
theorem Mid.set2 (M:Mid w0 W b bn u v mb i l e g g' h m f0 f1 f2) (hM:Mod (· = mb i 2) W W') {f:Int→Option Bool} (k:MapIs ki vB W' (mb i 2) f):Mid w0 W' b bn u v mb i l e g g' h m f0 f1 f :=
  M.map (by omega) hM (M.m0.mod hM (M.m_ne_m (by omega) (by omega) (by omega))) (M.m1.mod hM (M.m_ne_m (by omega) (by omega) (by omega))) k
theorem Mid.reads (M : Mid w0 W b bn u v mb i l e g g' h m f0 f1 f2) : b < W.heap.size ∧ W.cell? ⟨b, 1 + i * 5, none⟩ = some (.int .i64 h) ∧ W.cell? ⟨b, 1 + i * 5 + 1, none⟩ = some (.int .i64 m) ∧
    W.cell? ⟨b,1 + i * 5 + 2,none⟩ = some (.map (some (mb i 0)))∧W.cell? ⟨b,1 + i * 5 + 3,none⟩ = some (.map (some (mb i 1)))∧W.cell? ⟨b,1 + i * 5 + 4,none⟩ = some (.map (some (mb i 2))):=by
  have h4:=M.i4
  exact ⟨M.blk.lt,by rw [M.blk.cell (by omega),M.gh],by rw [M.blk.cell (by omega),M.gm],by rw [M.blk.cell (by omega),M.gr _ (by omega) (by omega) (by omega),M.tab.next i h4],
    by rw [M.blk.cell (by omega),M.gr _ (by omega) (by omega) (by omega),M.tab.opens i h4],by rw [M.blk.cell (by omega),M.gr _ (by omega) (by omega) (by omega),M.tab.done i h4]⟩
theorem Mid.close (M:Mid w0 W b bn u v mb i l e g g' h m f0 f1 f2) (hsame:wrOf (l ++ [e]) i = ⟨h,m,f0,f1,f2⟩) (hother:∀ j:Nat,j < 4→j ≠ i→wrOf (l ++ [e]) j = wrOf l j):TabAt W b v mb g' (l ++ [e]):=by
  have h4:=M.i4
  have hno:∀ j k,j ≠ i→j < 4→k < 3→¬ (mb j k = b∨u.ownBlock = some (mb j k)∨∃ k',k' < 3∧mb j k = mb i k'):=by
    rintro j k hj hj4 hk (h|h|⟨k',hk',h⟩)
    · exact M.tab.b_ne_m hj4 hk h.symm
    · exact M.tab.u_ne_m hj4 hk h
    · exact hj (M.tab.inj j k i k' hj4 hk h4 hk' h).1
  refine ⟨M.blk,M.g0,(M.gr 21 (by omega) (by omega) (by omega)).trans M.tab.g21,M.own,?_,?_,?_,?_,?_,?_,?_,?_,M.tab.inj⟩
  · intro j hj
    by_cases hji:j = i
    · subst hji;rw [hsame];exact M.gh
    · rw [hother j hj hji,M.gr _ (by omega) (by omega) (by omega)];exact M.tab.high j hj
  · intro j hj
    by_cases hji:j = i
    · subst hji;rw [hsame];exact M.gm
    · rw [hother j hj hji,M.gr _ (by omega) (by omega) (by omega)];exact M.tab.marked j hj
  · intro j hj;rw [M.gr _ (by omega) (by omega) (by omega)];exact M.tab.next j hj
  · intro j hj;rw [M.gr _ (by omega) (by omega) (by omega)];exact M.tab.opens j hj
  · intro j hj;rw [M.gr _ (by omega) (by omega) (by omega)];exact M.tab.done j hj
  · intro j hj
    by_cases hji:j = i
    · subst hji;rw [hsame];exact M.m0
    · rw [hother j hj hji];exact (M.tab.mnext j hj).mod M.mod (hno j 0 hji hj (by omega))
  · intro j hj
    by_cases hji:j = i
    · subst hji;rw [hsame];exact M.m1
    · rw [hother j hj hji];exact (M.tab.mopens j hj).mod M.mod (hno j 1 hji hj (by omega))
  · intro j hj
    by_cases hji:j = i
    · subst hji;rw [hsame];exact M.m2
    · rw [hother j hj hji];exact (M.tab.mdone j hj).mod M.mod (hno j 2 hji hj (by omega))
theorem Mid.fin (M : Mid w0 W b bn u v mb i l e g g' h m f0 f1 f2) (hsame : wrOf (l ++ [e]) i = ⟨h, m, f0, f1, f2⟩) (hother : ∀ j : Nat, j < 4 → j ≠ i → wrOf (l ++ [e]) j = wrOf l j) {w : World} {F : Nat → Prop} (hF : ∀ k, Foot b u mb k → F k) (hw : w.heap.size ≤ bn) (hE : Ext w w0) :
    Mod F w W∧Tab W b (fun k=>F k∨w.heap.size≤k) (l ++ [e]):=by
  refine ⟨Mod.trans hE M.mod (fun _ _ h=>h.elim) ?_,_,_,_,M.close hsame hother,?_⟩
  · rintro k _ (rfl|h|⟨j,hj,rfl⟩)
    · exact hF _ (.inl rfl)
    · exact hF _ (.inr (.inl h))
    · exact hF _ (.inr (.inr ⟨i,j,M.i4,hj,rfl⟩))
  · rintro k (rfl|h|⟨j,j',hj,hj',rfl⟩)
    · exact .inl (hF _ (.inl rfl))
    · rcases M.vbk k h with h|h
      · exact .inl (hF _ (.inr (.inl h)))
      · exact .inr (by omega)
    · exact .inl (hF _ (.inr (.inr ⟨j,j',hj,hj',rfl⟩)))
theorem Mid.start (T : TabAt w0 b u mb g l) (hi : i < 4) (hbn : ∀ k, Foot b u mb k → k < bn) (hb1 : bn < w0.heap.size)
    (box:∀ k,w0.cell? ⟨bn,k,none⟩ = #[.int .i64 e.ep,.int .i64 e.id,.int .i64 e.num,.int .i64 e.seq,.int .i64 e.kind,.int .i64 e.val][k]?) {w1 W1:World} (hE:Ext w0 w1) (hM1:Mod (fun k=>u.ownBlock = some k) w1 W1)
    (hO:OwnE W1 v (l ++ [e])) (hF:v.ownBlock = u.ownBlock∨∃ k,v.ownBlock = some k∧w1.heap.size≤k) (hM2:Mod (· = b) W1 W) (hB:Blk W b 154 22 (put g 0 [v])) :
    Mid w0 W b bn u v mb i l e g (put g 0 [v]) (wrOf l i).high (wrOf l i).marked (wrOf l i).next (wrOf l i).opens (wrOf l i).done:=by
  have hbb:=hbn b (.inl rfl)
  have hs1:=hE.size
  have hvb:∀ k,v.ownBlock = some k→u.ownBlock = some k∨bn < k:=by
    intro k hk
    rcases hF with h|⟨k',h,hle⟩
    · exact .inl (h▸hk)
    · rw [h] at hk;cases hk;exact .inr (by omega)
  have hM01:Mod (fun k=>u.ownBlock = some k) w0 W1:=Mod.trans hE hM1 (fun _ _ h=>h.elim) (fun _ _ h=>h)
  have hmm:∀ j,j < 3→¬ (u.ownBlock = some (mb i j)):=fun j hj=>T.u_ne_m hi hj
  have hbm:∀ j,j < 3→¬ (mb i j = b):=fun j hj h=>T.b_ne_m hi hj h.symm
  refine ⟨T,hi,hbn,Nat.lt_of_lt_of_le hb1 (Nat.le_trans hM01.size hM2.size),hB,fun k=>?_,hO.mod hM2 ?_,hvb,((T.mnext i hi).mod hM01 (hmm 0 (by omega))).mod hM2 (hbm 0 (by omega)),((T.mopens i hi).mod hM01 (hmm 1 (by omega))).mod hM2 (hbm 1 (by omega)),
    ((T.mdone i hi).mod hM01 (hmm 2 (by omega))).mod hM2 (hbm 2 (by omega)),Mod.trans hM01 hM2 (fun _ _ h=>.inr (.inl h)) (fun _ _ h=>.inl h),by rw [put_one,if_pos rfl],?_,?_,?_⟩
  · refine (cell?_mod hM2 (Nat.lt_of_lt_of_le hb1 hM01.size) (by omega)).trans ((cell?_mod hM01 hb1 ?_).trans (box k))
    intro h
    have:=hbn bn (.inr (.inl h));omega
  · intro k hk h
    rcases hvb k hk with h'|h'
    · exact T.u_ne_b (h▸h')
    · omega
  · rw [put_one,if_neg (by omega)];exact T.high i hi
  · rw [put_one,if_neg (by omega)];exact T.marked i hi
  · intro k h0 _ _;rw [put_one,if_neg h0]
end
end Go.Ws
