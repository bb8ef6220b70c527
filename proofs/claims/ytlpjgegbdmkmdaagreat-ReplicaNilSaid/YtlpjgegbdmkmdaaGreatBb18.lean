/- Lemmas for the statements of this layer (joined texts); no condition. -/
import Derived.Test.YtlpjgegbdmkmdaaGreatBb14
import Derived.Test.YtlpjgegbdmkmdaaGreatBb15
namespace Go.Ws
open Go Go.RowKit Go.Proofs
set_option linter.unusedVariables false
set_option linter.unusedSimpArgs false
structure HR (w W:World) (b:Nat) (F:Nat→Prop) (s:RepS):Prop where
  rep:Rep W b F s
  hi:∀ k,F k→w.heap.size≤k∧k < W.heap.size
  ext:Ext w W
theorem HR.start {w W0 W:World} {b:Nat} {s:RepS} (hE:Ext w W0) (hE2:Ext W0 W) (h:Rep W b (fun k=>W0.heap.size≤k) s):HR w W b (fun k=>W0.heap.size≤k∧k < W.heap.size) s :=
  ⟨h.here,fun k hk=>⟨Nat.le_trans hE.size hk.1,hk.2⟩,Ext.trans hE hE2⟩
theorem HR.later {w W W':World} {b:Nat} {F:Nat→Prop} {s:RepS} (h:HR w W b F s) (hE:Ext W W'):HR w W' b F s :=
  ⟨h.rep.later hE,fun k hk=>⟨(h.hi k hk).1,Nat.lt_of_lt_of_le (h.hi k hk).2 hE.size⟩,Ext.trans h.ext hE⟩
theorem HR.step {w W W' : World} {b : Nat} {F : Nat → Prop} {s s' : RepS} (h : HR w W b F s) (hM : Mod F W W') (hR : Rep W' b (fun k => F k ∨ W.heap.size ≤ k) s') :
    HR w W' b (fun k=>(F k∨W.heap.size≤k)∧k < W'.heap.size) s':=by
  have hs:=h.ext.size
  refine ⟨hR.here,fun k hk=>⟨?_,hk.2⟩,Ext.fresh h.ext hM (fun k hk=>(h.hi k hk).1)⟩
  rcases hk.1 with h1|h1
  · exact (h.hi k h1).1
  · omega
theorem HR.stepF {w W W':World} {b:Nat} {F:Nat→Prop} {s s':RepS} (h:HR w W b F s) (hM:Mod F W W') (hR:Rep W' b F s'):HR w W' b F s' :=
  ⟨hR,fun k hk=>⟨(h.hi k hk).1,Nat.lt_of_lt_of_le (h.hi k hk).2 hM.size⟩,Ext.fresh h.ext hM (fun k hk=>(h.hi k hk).1)⟩
theorem HR.beside {w W W':World} {b:Nat} {F G:Nat→Prop} {s:RepS} (h:HR w W b F s) (hM:Mod G W W') (hG:∀ k,G k→w.heap.size≤k) (hFG:∀ k,F k→¬ G k):HR w W' b F s :=
  ⟨h.rep.mod hM hFG,fun k hk=>⟨(h.hi k hk).1,Nat.lt_of_lt_of_le (h.hi k hk).2 hM.size⟩,Ext.fresh h.ext hM hG⟩
end Go.Ws
namespace Go.Ws
open Go Go.RowKit Go.Proofs
set_option maxHeartbeats 2000000
set_option maxRecDepth 100000
set_option linter.unusedVariables false
set_option linter.unusedSimpArgs false
structure ActD where
  kind:Int
  n:Int
  near:Bool
  view:View
  ent:Ent
  fetch:Fetch
  reply:Reply
  list:List Int
structure ActV where
  act:ActD
  uI:Value
  uE:Value
  uL:Value
def ActD.cells (a:ActD) (uI uE uL:Value):List Value:=[.int .i64 a.kind,.int .i64 a.n,.bool a.near,.int .i64 a.view.leader,.int .i64 a.view.epoch,.int .i64 a.view.version,uI,
  .int .i64 a.ent.ep,.int .i64 a.ent.id,.int .i64 a.ent.num,.int .i64 a.ent.seq,.int .i64 a.ent.kind,.int .i64 a.ent.val,
  .int .i64 a.fetch.src,.int .i64 a.fetch.epoch,.int .i64 a.fetch.offset,.int .i64 a.fetch.last,.int .i64 a.fetch.flushed,
  .int .i64 a.reply.epoch,.int .i64 a.reply.base,.int .i64 a.reply.last,.bool a.reply.cut,.int .i64 a.reply.cutEpoch,.int .i64 a.reply.cutEnd,uE,.int .i64 a.reply.high,uL]
abbrev ActV.cs (a:ActV):List Value:=a.act.cells a.uI a.uE a.uL
abbrev ActD.v (a:ActD) (uI uE uL:Value):Value:=.agg #[.int .i64 a.kind,.int .i64 a.n,.bool a.near,.int .i64 a.view.leader,.int .i64 a.view.epoch,.int .i64 a.view.version,uI,
  .int .i64 a.ent.ep,.int .i64 a.ent.id,.int .i64 a.ent.num,.int .i64 a.ent.seq,.int .i64 a.ent.kind,.int .i64 a.ent.val,
  .int .i64 a.fetch.src,.int .i64 a.fetch.epoch,.int .i64 a.fetch.offset,.int .i64 a.fetch.last,.int .i64 a.fetch.flushed,
  .int .i64 a.reply.epoch,.int .i64 a.reply.base,.int .i64 a.reply.last,.bool a.reply.cut,.int .i64 a.reply.cutEpoch,.int .i64 a.reply.cutEnd,uE,.int .i64 a.reply.high,uL]
structure RdM {α:Type} (N:Nat→Prop) (enc:α→List Value) (k:Nat) (w:World) (u:Value) (l:List α):Prop where
  rd:Rd enc k w u l
  nb:∀ b,u.ownBlock = some b→l = []∨¬ N b
instance {α:Type} {N:Nat→Prop} {enc:α→List Value} {k:Nat} {w:World} {u:Value} {l:List α}:CoeOut (RdN N enc k w u l) (RdM N enc k w u l):=⟨fun h=>⟨h.rd,fun b hb=>.inr (h.nb b hb).1⟩⟩
theorem RdM.later {α:Type} {N:Nat→Prop} {enc:α→List Value} {k:Nat} {w w':World} {u:Value} {l:List α} (h:RdM N enc k w u l) (hE:Ext w w'):RdM N enc k w' u l:=⟨h.rd.later hE,h.nb⟩
theorem RdM.wide {α:Type} {N N':Nat→Prop} {w:World} {u:Value} {enc:α→List Value} {k:Nat} {l:List α} (h:RdM N enc k w u l) (hN:∀ k,N' k→N k∨w.heap.size≤k):RdM N' enc k w u l :=
  ⟨h.rd,fun b hb=>by
    by_cases hl:l = []
    · exact .inl hl
    · exact .inr fun hn=>(hN b hn).elim ((h.nb b hb).resolve_left hl) fun hs=>Nat.not_lt.2 hs (h.rd.lt hl b hb)⟩
theorem RdM.mod {α:Type} {N G:Nat→Prop} {w w':World} {u:Value} {enc:α→List Value} {k:Nat} {l:List α} (h:RdM N enc k w u l) (hM:Mod G w w') (hG:∀ k,G k→N k):RdM N enc k w' u l :=
  ⟨h.rd.modW hM (fun b hb=>(h.nb b hb).imp id (fun h1 hg=>h1 (hG b hg))),h.nb⟩
theorem RdM.nil {α:Type} {N:Nat→Prop} {enc:α→List Value} {k:Nat} (w:World):RdM N enc k w (.slice none 0 0) []:=⟨Rd.nil _,fun _ h=>by cases h⟩
theorem RdM.int {N : Nat → Prop} {w : World} {v : Value} {l : List Int} (h : RdM N (fun n : Int => [Value.int .i64 n]) 1 w v l) : ∃ A c, v = .slice A l.length c ∧ l.length ≤ c ∧ c ≤ 9223372036854775807 ∧
    Hid (∀ i,i < l.length→∃ e b o,Hid (l[i]? = some e)∧A = some ⟨b,o,none⟩∧b < w.heap.size∧w.cell? ⟨b,o + i,none⟩ = some (.int .i64 e)):=h.rd.int
theorem RdM.ent {N : Nat → Prop} {w : World} {v : Value} {l : List Ent} (h : RdM N Ent.cs 6 w v l) : ∃ A c, v = .slice A l.length c ∧ l.length ≤ c ∧ c ≤ 9223372036854775807 ∧
    Hid (∀ i,i < l.length→∃ e b o,Hid (l[i]? = some e)∧A = some ⟨b,o,none⟩∧b < w.heap.size∧w.cell? ⟨b,o + i * 6,none⟩ = some (.int .i64 e.ep)∧w.cell? ⟨b,o + i * 6 + 1,none⟩ = some (.int .i64 e.id) ∧
      w.cell? ⟨b,o + i * 6 + 2,none⟩ = some (.int .i64 e.num)∧w.cell? ⟨b,o + i * 6 + 3,none⟩ = some (.int .i64 e.seq)∧w.cell? ⟨b,o + i * 6 + 4,none⟩ = some (.int .i64 e.kind)∧w.cell? ⟨b,o + i * 6 + 5,none⟩ = some (.int .i64 e.val)):=h.rd.ent
abbrev RdEM (N:Nat→Prop):=RdM N Ent.cs 6
abbrev RdIM (N:Nat→Prop):=RdM N (fun n:Int=>[Value.int .i64 n]) 1
structure ActR (N:Nat→Prop) (w:World) (uI uE uL:Value) (a:ActD):Prop where
  ri:RdIM N w uI a.view.isr
  re:RdEM N w uE a.reply.entries
  rl:RdIM N w uL a.list
abbrev ActV.ok (N:Nat→Prop) (w:World) (a:ActV):Prop:=ActR N w a.uI a.uE a.uL a.act
theorem ActR.later {N:Nat→Prop} {w w':World} {uI uE uL:Value} {a:ActD} (h:ActR N w uI uE uL a) (hE:Ext w w'):ActR N w' uI uE uL a:=⟨h.ri.later hE,h.re.later hE,h.rl.later hE⟩
def ActV.big (a:ActV):Bool:=decide (20 < a.act.view.isr.length) || decide (20 < a.act.reply.entries.length) || decide (20 < a.act.list.length)
def largeB (l:List ActV):Bool:=decide (40 < l.length) || l.any ActV.big
theorem Rd.act {w : World} {v : Value} {l : List ActV} (h : Rd ActV.cs 27 w v l) : ∃ A c, v = .slice A l.length c ∧ l.length ≤ c ∧ c ≤ 9223372036854775807 ∧
    Hid (∀ i,i < l.length→∃ a b o,Hid (l[i]? = some a)∧A = some ⟨b,o,none⟩∧b < w.heap.size∧Hid (∀ j u,(a.cs)[j]? = some u→w.cell? ⟨b,o + i * 27 + j,none⟩ = some u)):=by
  obtain ⟨A,c,h1,h2,h3,h4⟩:=h
  refine ⟨A,c,h1,h2,h3,fun i hi=>?_⟩
  have he:l[i]? = some l[i]:=by simp [hi]
  rcases h4 with ⟨_,rfl⟩|⟨b,o,hA,hb,hr⟩
  · simp at hi
  · exact ⟨l[i],b,o,he,hA,hb,Lib.hid (hr i _ he)⟩
theorem large_calls {N:Nat→Prop} (l:List ActV) (v:Value) (w:World) (hl:Rd ActV.cs 27 w v l) (ho:∀ a ∈ l,a.ok N w):Pure Tryz.prog 11 #[v] w (.bool (largeB l)):=by
  have HO:=Lib.hid ho
  clear ho
  obtain ⟨A0,c,rfl,hc,hcm,HR⟩:=hl.act
  by_cases h40:l.length≤40
  · have hi40:¬ (40:Int) < l.length:=by omega
    have hlb:largeB l = l.any ActV.big:=by unfold largeB;rw [decide_eq_false (by omega)];rfl
    rw [hlb]
    clear hlb
    refine Fn_of Tryz.func11 rfl (Nat.le_of_ble_eq_true rfl) ?_;intro A hd hA;simp only [ix,Nat.reduceAdd];replace hA:A.tmps.size = 40:=hA
    repeat' (first|refine X_q ?_|refine X_nil ?_|refine W_seqk (fun K hK=>?_)|refine W_seqr ?_|refine W_skip ?_|refine W_block ?_|refine W_ff ?_|go_step)
    refine W_loops [0,2,3] (fun n vs w'=>∃ k:Nat,w' = w∧k + n = l.length∧vs = [.slice A0 l.length c,.bool false,.int .i64 k]∧(l.drop k).any ActV.big = l.any ActV.big) l.length hd hA (by decide) ⟨0,rfl,by omega,by simp,by simp⟩ ?_
    clear hd hA A;intro n vs B w' hd hA _ ⟨k,hw,hk,hvs,hm⟩;subst hw hvs
    simp only [List.zip_cons_cons,List.zip_nil_right,List.zip_nil_left]
    have HM:=Lib.hid hm
    clear hm
    by_cases hlt:k < l.length
    · obtain ⟨a,b,o,HX,rfl,hb,HC⟩:=HR.out k hlt
      have hki:(k:Int) < l.length:=by omega
      have hok:=HO.out a (mem_of_get HX.out)
      have hdr:l.drop k = a :: l.drop (k + 1):=drop_at HX.out
      have HDR:=Lib.hid hdr
      have HXX:=Lib.hid HX
      obtain ⟨act,uI,uE,uL⟩:=a
      obtain ⟨A1,c1,h1,-⟩:=hok.ri.int
      obtain ⟨A2,c2,h2,-⟩:=hok.re.ent
      obtain ⟨A3,c3,h3,-⟩:=hok.rl.int
      simp only at h1 h2 h3
      subst h1 h2 h3
      have e6:=HC.out 6 _ rfl
      have e24:=HC.out 24 _ rfl
      have e26:=HC.out 26 _ rfl
      clear HX hok hdr HC
      by_cases g1:act.view.isr.length≤20
      · have g1i:¬ (20:Int) < act.view.isr.length:=by omega
        by_cases g2:act.reply.entries.length≤20
        · have g2i:¬ (20:Int) < act.reply.entries.length:=by omega
          by_cases g3:act.list.length≤20
          · have g3i:¬ (20:Int) < act.list.length:=by omega
            repeat' (first|refine X_gt ?_|refine X_q ?_|refine X_nil ?_|refine W_seqk (fun K hK=>?_)|refine W_seqr ?_|refine W_skip ?_|refine W_block ?_|refine W_tt ?_|refine W_ff ?_|go_step)
            exact ⟨_,_,rfl,hd,hA,n - 1,by omega,k + 1,by simp,by omega,by simp,by rw [← HM.out,HDR.out,List.any_cons];simp [ActV.big];omega⟩
          · have g3i:(20:Int) < act.list.length:=by omega
            have ht:l.any ActV.big = true:=by rw [← HM.out,HDR.out,List.any_cons];simp [ActV.big];omega
            have HT:=Lib.hid ht
            clear ht
            repeat' (first|refine X_gt ?_|refine X_q ?_|refine X_nil ?_|refine W_seqk (fun K hK=>?_)|refine W_seqr ?_|refine W_ret ?_|refine W_skip ?_|refine W_block ?_|refine W_tt ?_|go_step)
            exact Body_ret hd ⟨by rw [HT.out],by simp⟩
        · have g2i:(20:Int) < act.reply.entries.length:=by omega
          have ht:l.any ActV.big = true:=by rw [← HM.out,HDR.out,List.any_cons];simp [ActV.big];omega
          have HT:=Lib.hid ht
          clear ht
          repeat' (first|refine X_gt ?_|refine X_q ?_|refine X_g ?_|refine X_gf ?_|refine X_nil ?_|refine W_seqk (fun K hK=>?_)|refine W_seqr ?_|refine W_ret ?_|refine W_skip ?_|refine W_block ?_|refine W_tt ?_|go_step)
          exact Body_ret hd ⟨by rw [HT.out],by simp⟩
      · have g1i:(20:Int) < act.view.isr.length:=by omega
        have ht:l.any ActV.big = true:=by rw [← HM.out,HDR.out,List.any_cons];simp [ActV.big];omega
        have HT:=Lib.hid ht
        clear ht
        repeat' (first|refine X_q ?_|refine X_g ?_|refine X_gf ?_|refine X_nil ?_|refine W_seqk (fun K hK=>?_)|refine W_seqr ?_|refine W_ret ?_|refine W_skip ?_|refine W_block ?_|refine W_tt ?_|go_step)
        exact Body_ret hd ⟨by rw [HT.out],by simp⟩
    · have hki:¬ (k:Int) < l.length:=by omega
      have ht:l.any ActV.big = false:=by rw [← HM.out,List.drop_eq_nil_of_le (by omega)];rfl
      have HT:=Lib.hid ht
      clear ht
      repeat' (first|refine X_q ?_|refine X_nil ?_|refine W_seqk (fun K hK=>?_)|refine W_seqr ?_|refine W_ret ?_|refine W_exit ?_|refine W_ff ?_|go_step)
      exact Body_ret hd ⟨by rw [HT.out],by simp⟩
  · have hi40:(40:Int) < l.length:=by omega
    have hlb:largeB l = true:=by unfold largeB;rw [decide_eq_true (by omega)];rfl
    rw [hlb]
    refine Fn_of Tryz.func11 rfl (Nat.le_of_ble_eq_true rfl) ?_;intro A hd hA;simp only [ix,Nat.reduceAdd];replace hA:A.tmps.size = 40:=hA
    repeat' (first|refine X_q ?_|refine X_nil ?_|refine W_seqk (fun K hK=>?_)|refine W_seqr ?_|refine W_ret ?_|refine W_tt ?_|go_step)
    exact Body_ret hd ⟨rfl,by simp⟩
end Go.Ws
