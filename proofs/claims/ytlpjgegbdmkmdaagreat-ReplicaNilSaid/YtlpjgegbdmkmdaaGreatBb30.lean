/- Lemmas for the statements of this layer (joined texts); no condition. -/
import Derived.ChangeArms
import Derived.Test.YtlpjgegbdmkmdaaGreatBb29
namespace Go.Ws
open Go Go.RowKit Go.Proofs Go.ChangeShapes Go.WideShapes
set_option linter.unusedVariables false
set_option maxRecDepth 100000
section
variable {H:Type} {enc:TypeId × Value→H} {W:World} {held:Bool} {base:Nat} {v:Value} {d:DataW H} {ps:List MemPlace}
theorem trod_rd {α : Type} {en : α → List Value} {k : Nat} {P : Program} {t e : TypeId} {fuel : Nat} {cs : List Value} {x : DataW H × List MemPlace} (ht : P.underlying t = some (.slice e)) (hk : P.cellsOf e = k) (hpos : 0 < k) (hlen : ∀ x, (en x).length = k)
    (one:∀ n cs x,DataW.trod enc P W 0 (fun _=>true) held n e cs = some x→∃ y,cs = en y)
    (h:DataW.trod enc P W 0 (fun _=>true) held fuel t cs = some x):∃ (s:Sl) (l:List α),cs = [s.v]∧Rd en k W s.v l:=by
  rcases Deep.open_slice ht h with ⟨rfl,_⟩|⟨a,len,cap,m,n,D,Pl,rfl,_,hl,hm,hmm,_,hx⟩
  · exact ⟨Sl.nil,[],rfl,Rd.nil W⟩
  · refine ⟨⟨some a,len,cap⟩,?_⟩
    have hmc:m = cap:=by simpa using hmm
    subst hmc
    by_cases hc0:m = 0
    · subst hc0
      obtain rfl:len = 0:=by omega
      exact ⟨[],rfl,some a,0,rfl,Nat.le_refl _,hm,.inl ⟨.inr rfl,rfl⟩⟩
    obtain ⟨b,o,s⟩:=a
    have hbs:s = none∧b < W.heap.size:=by
      obtain ⟨cs',h1,h2⟩:=hx 0 (by omega)
      obtain ⟨_,hcl,hcell⟩:=World.cells?_some h1
      have hj:(0:Nat) < P.cellsOf e:=by omega
      have h3:=hcell 0 (by omega)
      rw [Nat.zero_mul] at h3
      have e0:((⟨b,o,s⟩:Addr).add 0).add 0 = ⟨b,o,s⟩:=rfl
      rw [e0,List.getElem?_eq_getElem (by omega)] at h3
      unfold World.cell? at h3
      simp only at h3
      split at h3
      · rename_i hh
        refine ⟨?_,(Array.getElem?_eq_some_iff.1 hh).1⟩
        cases s with
        | none=>rfl
        | some _=>simp at h3
      · cases h3
    obtain ⟨rfl,hb⟩:=hbs
    have each:∀ i,i < len→∃ y,∀ j u,(en y)[j]? = some u→W.cell? ⟨b,o + i * k + j,none⟩ = some u:=by
      intro i hi
      obtain ⟨cs',h1,h2⟩:=hx i (by omega)
      obtain ⟨_,hcl,hcell⟩:=World.cells?_some h1
      obtain ⟨y,rfl⟩:=one _ _ _ h2
      refine ⟨y,fun j u hu=>?_⟩
      have hj:j < k:=by
        rw [← hlen y]
        exact (List.getElem?_eq_some_iff.1 hu).1
      have:=hcell j (by omega)
      rw [hk] at this
      rw [hu] at this
      rw [← this,add_plain,add_plain]
    by_cases hl0:len = 0
    · subst hl0
      exact ⟨[],rfl,_,m,rfl,Nat.zero_le _,hm,.inr ⟨b,o,rfl,hb,fun i x hx=>by simp at hx⟩⟩
    have hne:Nonempty α:=⟨(each 0 (by omega)).choose⟩
    have hin:Inhabited α:=⟨Classical.choice hne⟩
    obtain ⟨f,hf⟩:=Deep.choose_lt each
    refine ⟨(List.range len).map f,rfl,_,m,by simp,by simpa using hl,hm,.inr ⟨b,o,rfl,hb,fun i x hx j u hu=>?_⟩⟩
    simp only [List.getElem?_map] at hx
    rcases Nat.lt_or_ge i len with hi|hi
    · rw [List.getElem?_range hi] at hx
      cases hx
      exact hf i hi j u hu
    · rw [List.getElem?_eq_none (by simpa using hi)] at hx;cases hx
theorem trod_ints {fuel:Nat} {cs:List Value} {x:DataW H × List MemPlace} (h:DataW.trod enc Tryz.prog W 0 (fun _=>true) held fuel 30 cs = some x):∃ (s:Sl) (l:List Int),cs = [s.v]∧RdI W s.v l :=
  trod_rd (en:=ics) (k:=1) Tryz.underlying30 (by kernel_rfl) (by omega) (fun _=>rfl) (fun n cs x h=>by
    obtain ⟨z,rfl,_⟩:=DataW.trod_int Tryz.underlying3 h
    exact ⟨z,rfl⟩) h
theorem trod_ents {fuel:Nat} {cs:List Value} {x:DataW H × List MemPlace} (h:DataW.trod enc Tryz.prog W 0 (fun _=>true) held fuel 29 cs = some x):∃ (s:Sl) (l:List Ent),cs = [s.v]∧RdE W s.v l :=
  trod_rd (en:=Ent.cs) (k:=6) Tryz.underlying29 (by kernel_rfl) (by omega) Ent.len one_ent h
theorem k_view:Tryz.prog.cellsOf 42 = 4:=by kernel_rfl
theorem k_fetch:Tryz.prog.cellsOf 47 = 5:=by kernel_rfl
theorem k_reply:Tryz.prog.cellsOf 49 = 8:=by kernel_rfl
theorem k_act:Tryz.prog.cellsOf 51 = 27:=by kernel_rfl
theorem one_view (n:Nat) (cs:List Value) (x:DataW H × List MemPlace) (h:DataW.trod enc Tryz.prog W 0 (fun _=>true) held n 42 cs = some x):∃ (y:View) (s:Sl),cs = [.int .i64 y.leader,.int .i64 y.epoch,.int .i64 y.version,s.v]∧RdI W s.v y.isr:=by
  obtain ⟨xs,m,_,_,hl,hxl,hf⟩:=DataW.trod_struct Tryz.underlying42 h
  rw [k_view] at hl
  have hxs:xs.length = 4:=hxl
  have up:∀ (i:Nat) (t:TypeId) (c:List Value),DataW.trod enc Tryz.prog W 0 (fun _=>true) held m t c = xs[i]?→i < 4→∃ y,DataW.trod enc Tryz.prog W 0 (fun _=>true) held m t c = some y:=fun i t c hd hi=>⟨_,by rw [hd];exact List.getElem?_eq_getElem (by omega)⟩
  match cs,hl with
  | [c0,c1,c2,c3],_ =>
    have g0:=hf 0 _ rfl
    have g1:=hf 1 _ rfl
    have g2:=hf 2 _ rfl
    have g3:=hf 3 _ rfl
    have g0:=g0
    have g1:=g1
    have g2:=g2
    have g3:=g3
    obtain ⟨y0,g0⟩:=up 0 _ _ g0 (by omega)
    change DataW.trod enc Tryz.prog W 0 (fun _=>true) held m _ [c0] = some y0 at g0
    obtain ⟨z0,hz0,-⟩:=DataW.trod_int Tryz.underlying3 g0
    cases hz0
    obtain ⟨y1,g1⟩:=up 1 _ _ g1 (by omega)
    change DataW.trod enc Tryz.prog W 0 (fun _=>true) held m _ [c1] = some y1 at g1
    obtain ⟨z1,hz1,-⟩:=DataW.trod_int Tryz.underlying2 g1
    cases hz1
    obtain ⟨y2,g2⟩:=up 2 _ _ g2 (by omega)
    change DataW.trod enc Tryz.prog W 0 (fun _=>true) held m _ [c2] = some y2 at g2
    obtain ⟨z2,hz2,-⟩:=DataW.trod_int Tryz.underlying2 g2
    cases hz2
    obtain ⟨y3,g3⟩:=up 3 _ _ g3 (by omega)
    change DataW.trod enc Tryz.prog W 0 (fun _=>true) held m _ [c3] = some y3 at g3
    obtain ⟨s3,z3,hz3,r3⟩:=trod_ints g3
    cases hz3
    exact ⟨⟨z0,z1,z2,z3⟩,s3,rfl,r3⟩
theorem one_fetch (n:Nat) (cs:List Value) (x:DataW H × List MemPlace) (h:DataW.trod enc Tryz.prog W 0 (fun _=>true) held n 47 cs = some x):∃ y:Fetch,cs = [.int .i64 y.src,.int .i64 y.epoch,.int .i64 y.offset,.int .i64 y.last,.int .i64 y.flushed]:=by
  obtain ⟨xs,m,_,_,hl,hxl,hf⟩:=DataW.trod_struct Tryz.underlying47 h
  rw [k_fetch] at hl
  have hxs:xs.length = 5:=hxl
  have up:∀ (i:Nat) (t:TypeId) (c:List Value),DataW.trod enc Tryz.prog W 0 (fun _=>true) held m t c = xs[i]?→i < 5→∃ y,DataW.trod enc Tryz.prog W 0 (fun _=>true) held m t c = some y:=fun i t c hd hi=>⟨_,by rw [hd];exact List.getElem?_eq_getElem (by omega)⟩
  match cs,hl with
  | [c0,c1,c2,c3,c4],_ =>
    have g0:=hf 0 _ rfl
    have g1:=hf 1 _ rfl
    have g2:=hf 2 _ rfl
    have g3:=hf 3 _ rfl
    have g4:=hf 4 _ rfl
    have g0:=g0
    have g1:=g1
    have g2:=g2
    have g3:=g3
    have g4:=g4
    obtain ⟨y0,g0⟩:=up 0 _ _ g0 (by omega)
    change DataW.trod enc Tryz.prog W 0 (fun _=>true) held m _ [c0] = some y0 at g0
    obtain ⟨z0,hz0,-⟩:=DataW.trod_int Tryz.underlying3 g0
    cases hz0
    obtain ⟨y1,g1⟩:=up 1 _ _ g1 (by omega)
    change DataW.trod enc Tryz.prog W 0 (fun _=>true) held m _ [c1] = some y1 at g1
    obtain ⟨z1,hz1,-⟩:=DataW.trod_int Tryz.underlying2 g1
    cases hz1
    obtain ⟨y2,g2⟩:=up 2 _ _ g2 (by omega)
    change DataW.trod enc Tryz.prog W 0 (fun _=>true) held m _ [c2] = some y2 at g2
    obtain ⟨z2,hz2,-⟩:=DataW.trod_int Tryz.underlying3 g2
    cases hz2
    obtain ⟨y3,g3⟩:=up 3 _ _ g3 (by omega)
    change DataW.trod enc Tryz.prog W 0 (fun _=>true) held m _ [c3] = some y3 at g3
    obtain ⟨z3,hz3,-⟩:=DataW.trod_int Tryz.underlying2 g3
    cases hz3
    obtain ⟨y4,g4⟩:=up 4 _ _ g4 (by omega)
    change DataW.trod enc Tryz.prog W 0 (fun _=>true) held m _ [c4] = some y4 at g4
    obtain ⟨z4,hz4,-⟩:=DataW.trod_int Tryz.underlying3 g4
    cases hz4
    exact ⟨⟨z0,z1,z2,z3,z4⟩,rfl⟩
theorem one_reply (n:Nat) (cs:List Value) (x:DataW H × List MemPlace) (h:DataW.trod enc Tryz.prog W 0 (fun _=>true) held n 49 cs = some x):∃ (y:Reply) (s:Sl),cs = y.cs s.v∧RdE W s.v y.entries:=by
  obtain ⟨xs,m,_,_,hl,hxl,hf⟩:=DataW.trod_struct Tryz.underlying49 h
  rw [k_reply] at hl
  have hxs:xs.length = 8:=hxl
  have up:∀ (i:Nat) (t:TypeId) (c:List Value),DataW.trod enc Tryz.prog W 0 (fun _=>true) held m t c = xs[i]?→i < 8→∃ y,DataW.trod enc Tryz.prog W 0 (fun _=>true) held m t c = some y:=fun i t c hd hi=>⟨_,by rw [hd];exact List.getElem?_eq_getElem (by omega)⟩
  match cs,hl with
  | [c0,c1,c2,c3,c4,c5,c6,c7],_ =>
    have g0:=hf 0 _ rfl
    have g1:=hf 1 _ rfl
    have g2:=hf 2 _ rfl
    have g3:=hf 3 _ rfl
    have g4:=hf 4 _ rfl
    have g5:=hf 5 _ rfl
    have g6:=hf 6 _ rfl
    have g7:=hf 7 _ rfl
    have g0:=g0
    have g1:=g1
    have g2:=g2
    have g3:=g3
    have g4:=g4
    have g5:=g5
    have g6:=g6
    have g7:=g7
    obtain ⟨y0,g0⟩:=up 0 _ _ g0 (by omega)
    change DataW.trod enc Tryz.prog W 0 (fun _=>true) held m _ [c0] = some y0 at g0
    obtain ⟨z0,hz0,-⟩:=DataW.trod_int Tryz.underlying2 g0
    cases hz0
    obtain ⟨y1,g1⟩:=up 1 _ _ g1 (by omega)
    change DataW.trod enc Tryz.prog W 0 (fun _=>true) held m _ [c1] = some y1 at g1
    obtain ⟨z1,hz1,-⟩:=DataW.trod_int Tryz.underlying3 g1
    cases hz1
    obtain ⟨y2,g2⟩:=up 2 _ _ g2 (by omega)
    change DataW.trod enc Tryz.prog W 0 (fun _=>true) held m _ [c2] = some y2 at g2
    obtain ⟨z2,hz2,-⟩:=DataW.trod_int Tryz.underlying2 g2
    cases hz2
    obtain ⟨y3,g3⟩:=up 3 _ _ g3 (by omega)
    change DataW.trod enc Tryz.prog W 0 (fun _=>true) held m _ [c3] = some y3 at g3
    obtain ⟨z3,hz3,-⟩:=DataW.trod_bool Tryz.underlying4 g3
    cases hz3
    obtain ⟨y4,g4⟩:=up 4 _ _ g4 (by omega)
    change DataW.trod enc Tryz.prog W 0 (fun _=>true) held m _ [c4] = some y4 at g4
    obtain ⟨z4,hz4,-⟩:=DataW.trod_int Tryz.underlying2 g4
    cases hz4
    obtain ⟨y5,g5⟩:=up 5 _ _ g5 (by omega)
    change DataW.trod enc Tryz.prog W 0 (fun _=>true) held m _ [c5] = some y5 at g5
    obtain ⟨z5,hz5,-⟩:=DataW.trod_int Tryz.underlying3 g5
    cases hz5
    obtain ⟨y6,g6⟩:=up 6 _ _ g6 (by omega)
    change DataW.trod enc Tryz.prog W 0 (fun _=>true) held m _ [c6] = some y6 at g6
    obtain ⟨s6,z6,hz6,r6⟩:=trod_ents g6
    cases hz6
    obtain ⟨y7,g7⟩:=up 7 _ _ g7 (by omega)
    change DataW.trod enc Tryz.prog W 0 (fun _=>true) held m _ [c7] = some y7 at g7
    obtain ⟨z7,hz7,-⟩:=DataW.trod_int Tryz.underlying3 g7
    cases hz7
    exact ⟨⟨z0,z1,z2,z3,z4,z5,z6,z7⟩,s6,rfl,r6⟩
theorem one_act (n:Nat) (cs:List Value) (x:DataW H × List MemPlace) (h:DataW.trod enc Tryz.prog W 0 (fun _=>true) held n 51 cs = some x):∃ y:{ y:ActW // y.fit (fun _=>False) W },cs = y.1.cs:=by
  obtain ⟨xs,m,_,_,hl,hxl,hf⟩:=DataW.trod_struct Tryz.underlying51 h
  rw [k_act] at hl
  have hxs:xs.length = 8:=hxl
  have up:∀ (i:Nat) (t:TypeId) (c:List Value),DataW.trod enc Tryz.prog W 0 (fun _=>true) held m t c = xs[i]?→i < 8→∃ y,DataW.trod enc Tryz.prog W 0 (fun _=>true) held m t c = some y:=fun i t c hd hi=>⟨_,by rw [hd];exact List.getElem?_eq_getElem (by omega)⟩
  match cs,hl with
  | [c0,c1,c2,c3,c4,c5,c6,c7,c8,c9,c10,c11,c12,c13,c14,c15,c16,c17,c18,c19,c20,c21,c22,c23,c24,c25,c26],_ =>
    have g0:=hf 0 _ rfl
    have g1:=hf 1 _ rfl
    have g2:=hf 2 _ rfl
    have g3:=hf 3 _ rfl
    have g4:=hf 4 _ rfl
    have g5:=hf 5 _ rfl
    have g6:=hf 6 _ rfl
    have g7:=hf 7 _ rfl
    have g0:=g0
    have g1:=g1
    have g2:=g2
    have g3:=g3
    have g4:=g4
    have g5:=g5
    have g6:=g6
    have g7:=g7
    obtain ⟨y0,g0⟩:=up 0 _ _ g0 (by omega)
    change DataW.trod enc Tryz.prog W 0 (fun _=>true) held m _ [c0] = some y0 at g0
    obtain ⟨z0,hz0,-⟩:=DataW.trod_int Tryz.underlying3 g0
    cases hz0
    obtain ⟨y1,g1⟩:=up 1 _ _ g1 (by omega)
    change DataW.trod enc Tryz.prog W 0 (fun _=>true) held m _ [c1] = some y1 at g1
    obtain ⟨z1,hz1,-⟩:=DataW.trod_int Tryz.underlying3 g1
    cases hz1
    obtain ⟨y2,g2⟩:=up 2 _ _ g2 (by omega)
    change DataW.trod enc Tryz.prog W 0 (fun _=>true) held m _ [c2] = some y2 at g2
    obtain ⟨z2,hz2,-⟩:=DataW.trod_bool Tryz.underlying4 g2
    cases hz2
    obtain ⟨y3,g3⟩:=up 3 _ _ g3 (by omega)
    change DataW.trod enc Tryz.prog W 0 (fun _=>true) held m _ [c3,c4,c5,c6] = some y3 at g3
    obtain ⟨z3,s3,hz3,r3⟩:=one_view _ _ _ g3
    cases hz3
    obtain ⟨y4,g4⟩:=up 4 _ _ g4 (by omega)
    change DataW.trod enc Tryz.prog W 0 (fun _=>true) held m _ [c7,c8,c9,c10,c11,c12] = some y4 at g4
    obtain ⟨z4,hz4⟩:=one_ent _ _ _ g4
    cases hz4
    obtain ⟨y5,g5⟩:=up 5 _ _ g5 (by omega)
    change DataW.trod enc Tryz.prog W 0 (fun _=>true) held m _ [c13,c14,c15,c16,c17] = some y5 at g5
    obtain ⟨z5,hz5⟩:=one_fetch _ _ _ g5
    cases hz5
    obtain ⟨y6,g6⟩:=up 6 _ _ g6 (by omega)
    change DataW.trod enc Tryz.prog W 0 (fun _=>true) held m _ [c18,c19,c20,c21,c22,c23,c24,c25] = some y6 at g6
    obtain ⟨z6,s6,hz6,r6⟩:=one_reply _ _ _ g6
    cases hz6
    obtain ⟨y7,g7⟩:=up 7 _ _ g7 (by omega)
    change DataW.trod enc Tryz.prog W 0 (fun _=>true) held m _ [c26] = some y7 at g7
    obtain ⟨s7,z7,hz7,r7⟩:=trod_ints g7
    cases hz7
    exact ⟨⟨⟨⟨z0,z1,z2,z3,z4,z5,z6,z7⟩,s3,s6,s7⟩,⟨⟨r3,fun _ _=>.inr id⟩,⟨r6,fun _ _=>.inr id⟩,⟨r7,fun _ _=>.inr id⟩⟩⟩,rfl⟩
theorem open_acts (hok:Value.okWide Tryz.prog W .any base 22 v) (h:DataW.Trod enc Tryz.prog W 0 (fun _=>true) held 22 v d ps):∃ l:List ActW,Rd ActW.cs 27 W v l∧∀ a ∈ l,a.fit (fun _=>False) W:=by
  obtain ⟨l,hl⟩:=open_rd (en:=fun y:{ y:ActW // y.fit (fun _=>False) W }=>y.1.cs) (k:=27) Tryz.underlying22 (by kernel_rfl) (by omega) (fun _=>rfl) one_act hok h
  refine ⟨l.map (·.1),Rd.mapv _ hl,fun q hq=>?_⟩
  obtain ⟨y,_,rfl⟩:=List.mem_map.1 hq
  exact y.2
theorem open_act (hok:Value.okWide Tryz.prog W .any base 51 v) (h:DataW.Trod enc Tryz.prog W 0 (fun _=>true) held 51 v d ps):∃ a:ActW,v = a.act.v a.uI.v a.uE.v a.uL.v∧a.fit (fun _=>False) W:=by
  obtain ⟨fuel,hf⟩:=h
  obtain ⟨y,hy⟩:=one_act _ _ _ hf
  unfold Value.okWide at hok
  rw [Tryz.underlying51] at hok
  obtain ⟨cs,rfl,_⟩:=hok
  refine ⟨y.1,?_,y.2⟩
  have:cs.toList = y.1.cs:=hy
  show Value.agg cs = _
  rw [show cs = y.1.cs.toArray by rw [← this]]
  rfl
end
end Go.Ws
