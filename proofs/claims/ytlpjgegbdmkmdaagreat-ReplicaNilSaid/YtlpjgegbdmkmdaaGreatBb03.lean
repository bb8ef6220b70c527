/- Lemmas for the statements of this layer (joined texts); no condition. -/
import Derived.Test.YtlpjgegbdmkmdaaGreatRows
import Derived.ProofKit
import Derived.OpenShut
import Derived.Deep.Slices
import Derived.Below
import Derived.DefersIn
import Derived.RecoverIn
import Derived.RangeFuncLeaves
import Derived.Test.YtlpjgegbdmkmdaaGreatBb02
namespace Go.Ws
open Go Go.RowKit Go.Proofs Go.ChangeAt
set_option maxRecDepth 100000
set_option linter.unusedSimpArgs false
theorem toList_of {s:String} {l:List Char} (h:s = String.ofList l):s.toList = l:=by subst h;exact String.toList_ofList
theorem wordsSigns_word:∀ (w r:List Char),(w.all fun c=>c.toNat != 32) = true→wordsSigns (w ++ Char.ofNat 32 :: r) = w :: wordsSigns r
  | [],r,_=>rfl
  | c :: w,r,h=>by
    simp only [List.all_cons,Bool.and_eq_true] at h
    have ih:=wordsSigns_word w r h.2
    have hc:c ≠ Char.ofNat 32:=by rintro rfl;exact absurd h.1 (by decide)
    rw [List.cons_append,wordsSigns,ih]
    exact hc
def word0:List Char:=[104,97,114,110,101,115,115].map Char.ofNat
def word1:List Char:=[50,50,99,56,54,49,99,101,51,98,52,97,57,98,56,102,99,53,99,56,97,100,56,101,97,101,56,55,99,51,101,100,97,48,101,55,100,99,101,100,48,98,52,97,55,101,50,48,55,54,55,97,56,99,101,54,53,100,97,101,48,53,99,54].map Char.ofNat
def word2:List Char:=[99,117,116].map Char.ofNat
def word3:List Char:=[97,116,32,119,97,121,115,116,97,116,105,111,110,47,119,97,121,115,116,97,116,105,111,110,108,97,119,49,49,46,82,101,112,108,105,99,97,72,105,103,104,32,119,97,121,115,116,97,116,105,111,110,47,119,97,121,115,116,97,116,105,111,110,108,97,119,49,49,46,82,101,112,108,105,99,97,76,101,97,114,110,115,32,119,97,121,115,116,97,116,105,111,110,47,119,97,121,115,116,97,116,105,111,110,108,97,119,49,49,46,82,101,112,108,105,99,97,65,112,112,101,110,100,115,32,119,97,121,115,116,97,116,105,111,110,47,119,97,121,115,116,97,116,105,111,110,108,97,119,49,49,46,82,101,112,108,105,99,97,83,101,114,118,101,115,32,119,97,121,115,116,97,116,105,111,110,47,119,97,121,115,116,97,116,105,111,110,108,97,119,49,49,46,82,101,112,108,105,99,97,80,114,111,112,111,115,101,115,32,119,97,121,115,116,97,116,105,111,110,47,119,97,121,115,116,97,116,105,111,110,108,97,119,49,49,46,82,101,112,108,105,99,97,84,97,107,101,115,32,119,97,121,115,116,97,116,105,111,110,47,119,97,121,115,116,97,116,105,111,110,108,97,119,49,49,46,82,101,112,108,105,99,97,67,114,97,115,104,101,115,32,119,97,121,115,116,97,116,105,111,110,47,119,97,121,115,116,97,116,105,111,110,108,97,119,49,49,46,82,101,112,108,105,99,97,78,105,108].map Char.ofNat
theorem headList:Tryz.prog.initOrder.toList = word0 ++ Char.ofNat 32 :: (word1 ++ Char.ofNat 32 :: (word2 ++ Char.ofNat 32 :: word3)):=toList_of (by kernel_rfl)
theorem headWords:wordsSigns Tryz.prog.initOrder.toList = word0 :: word1 :: word2 :: wordsSigns word3:=by
  rw [headList,wordsSigns_word _ _ (by decide +kernel),wordsSigns_word _ _ (by decide +kernel),wordsSigns_word _ _ (by decide +kernel)]
theorem behindHead (r:List (List Char)):behindMainWord (word0 :: word1 :: word2 :: r) = word2 :: r:=by kernel_rfl
theorem mainWords:behindMainWord (wordsSigns Tryz.prog.initOrder.toList) = word2 :: wordsSigns word3:=by rw [headWords,behindHead]
theorem gcNo : (word2 == "gc".toList) = false := by kernel_rfl
theorem specNo : (word2 == "spec".toList) = false := by kernel_rfl
theorem carriedNo : (word2 == "carried".toList) = false := by kernel_rfl
theorem cutYes : (word2 == "cut".toList) = true := by kernel_rfl
theorem strips (r:List (List Char)):stripLifts liftWords (word2 :: r) = ([],word2 :: r):=by kernel_rfl
theorem laysNo:Tryz.prog.laysLater = false:=by kernel_rfl
theorem reflNo:Tryz.prog.bearsReflect = false:=by kernel_rfl
theorem doorYes:Tryz.prog.doorFits [] = true:=by kernel_rfl
theorem headLifts_of {P:Program} {c:List Char} {r:List (List Char)} (h:behindMainWord (wordsSigns P.initOrder.toList) = c :: r) (hs:stripLifts liftWords (c :: r) = ([],c :: r)):P.headLifts = []:=by
  unfold Program.headLifts
  rw [h,hs]
  exact ite_self _
theorem mayEnter_of {P : Program} {c : List Char} {r : List (List Char)} (h : behindMainWord (wordsSigns P.initOrder.toList) = c :: r) (hs : stripLifts liftWords (c :: r) = ([], c :: r))
    (h1 : (c == "gc".toList) = false) (h2 : (c == "spec".toList) = false) (h3 : (c == "carried".toList) = false) (h4 : ((c :: r).head? == some "cut".toList) = true) (h5 : P.laysLater = false) (h6 : P.bearsReflect = false) (h7 : P.doorFits [] = true) : P.mayEnter = true := by
  unfold Program.mayEnter
  rw [h]
  simp only [hs,h1,h2,h3,h4,h5,h6,h7,Bool.or_self,Bool.false_and,Bool.false_or,Bool.not_false,Bool.or_true,Bool.and_self,Bool.true_and,List.contains_nil]
theorem liftsFinal_of {P : Program} {c : List Char} {r : List (List Char)} (h : behindMainWord (wordsSigns P.initOrder.toList) = c :: r) (hl : P.headLifts = [])
    (h3 : ((c :: r).head? == some "carried".toList) = false) : P.liftsFinal = false := by
  unfold Program.liftsFinal
  rw [h,hl]
  simp only [h3,Bool.false_and,Bool.false_or,List.contains_nil]
theorem make_of {P : Program} {c : List Char} {r : List (List Char)} (h : behindMainWord (wordsSigns P.initOrder.toList) = c :: r)
    (h1 : (c == "gc".toList) = false) (h2 : (c == "spec".toList) = false) (h4 : (c == "cut".toList) = true) : P.make = some .cut := by
  unfold Program.make
  rw [h]
  simp only [h1,h2,h4,Bool.or_self,Bool.true_or,Bool.false_eq_true,if_false,if_true]
theorem headCut (r : List (List Char)) : ((word2 :: r).head? == some "cut".toList) = true := cutYes
theorem headCarried (r : List (List Char)) : ((word2 :: r).head? == some "carried".toList) = false := carriedNo
theorem headLiftsIs:Tryz.prog.headLifts = []:=headLifts_of mainWords (strips _)
theorem mayEnter:Tryz.prog.mayEnter = true:=mayEnter_of mainWords (strips _) gcNo specNo carriedNo (headCut _) laysNo reflNo doorYes
theorem liftsFinal:Tryz.prog.liftsFinal = false:=liftsFinal_of mainWords headLiftsIs (headCarried _)
theorem makeIs:Tryz.prog.make = some .cut:=make_of mainWords gcNo specNo cutYes
theorem mapsRow:mapsRowed Tryz.prog = true:=by kernel_rfl
theorem stopsIs:(Tryz.prog.stops == []) = true:=by kernel_rfl
theorem stopKnobsIs:(Tryz.prog.stopKnobs == []) = true:=by kernel_rfl
theorem plainKeysIs:Tryz.prog.plainKeys = false:=by kernel_rfl
theorem stopsHeardIs:Tryz.prog.stopsHeard = true:=by kernel_rfl
theorem joined_of {P : Program} {f : FuncId} {fn : Func} {s : ChangeSpec} {c : OpenClaim}
    (k0:(c.wf (OpenSpec.ofChange s)) = true)
    (k1:(laidOutB P) = true)
    (k2:(mapsRowed P) = true)
    (k3:(fn.params.all (P.readableRec ·)) = true)
    (k4:(namedTie P c.named s.vars) = true)
    (k5:(c.stops == []) = true)
    (k6:(P.stops == []) = true)
    (k7:(c.knobs == []) = true)
    (k8:(P.stopKnobs == []) = true)
    (k9:(c.inPlace == P.inPlace f) = true)
    (k10:(c.unfollowed == P.unfollowed f) = true)
    (k11:(c.recurses == P.recurses f) = true)
    (k12:(c.named == P.varsNamed f) = true)
    (k13:(c.maps == (fn.params.toList ++ s.plain.varTypes P).any (P.mapsRec ·)) = true)
    (k14:(c.ifaces == (fn.params.toList ++ s.plain.varTypes P).any (P.ifacesRec ·)) = true)
    (k15:(c.mapsOut == P.mapsAmong fn.resultTypes.toList) = true)
    (k16:(c.loops == (fn.params.toList ++ s.plain.varTypes P).any (P.loopsFrom ·)) = true)
    (k17:(c.wideKeys == (fn.params.toList ++ s.plain.varTypes P ++ fn.resultTypes.toList).any (P.wideKeysFrom ·)) = true)
    (k18:(s.vars.all (P.varReadable ·)) = true)
    (k19:(fn.resultTypes.all (fun t=>P.readableRec t && decide (t < P.types.size))) = true)
    (k20:(c.ifacesOut == fn.resultTypes.toList.any (P.ifacesRec ·)) = true)
    (k21:(c.loopsOut == fn.resultTypes.toList.any (P.loopsFrom ·)) = true)
    (k22:(c.plainKeys == P.plainKeys) = true)
    (k23:(c.shortTexts.isNone) = true)
    (k24:(P.stopsHeard) = true)
    (k25:(P.mayEnter) = true)
    (k26:(c.lifted == P.liftsFinal) = true)
    (k27:(P.make == some c.make) = true)
    (k28:(c.kinds == (if c.domain.isEmpty then [] else fn.params.toList.map fun t=>match P.underlying t with|some (.int k)=>some k|_=>none)) = true)
    (k29:(c.pinned == c.pinnedBy) = true)
    (k30:(c.veiled == (fn.params.toList ++ s.plain.varTypes P ++ fn.resultTypes.toList).any (P.veiledRec ·)) = true)
    (k31:(c.veiledFits P fn.params.toList (fn.params.toList ++ s.plain.varTypes P ++ fn.resultTypes.toList)) = true):joinedFacts P f fn s c = true:=by
  unfold joinedFacts
  simp only [Bool.and_eq_true]
  exact ⟨⟨⟨⟨⟨⟨⟨⟨⟨⟨⟨⟨⟨⟨⟨⟨⟨⟨⟨⟨⟨⟨⟨⟨⟨⟨⟨⟨⟨⟨⟨k0,k1⟩,k2⟩,k3⟩,k4⟩,k5⟩,k6⟩,k7⟩,k8⟩,k9⟩,k10⟩,k11⟩,k12⟩,k13⟩,k14⟩,k15⟩,k16⟩,k17⟩,k18⟩,k19⟩,k20⟩,k21⟩,k22⟩,k23⟩,k24⟩,k25⟩,k26⟩,k27⟩,k28⟩,k29⟩,k30⟩,k31⟩
end Go.Ws
namespace Go.Ws
open Go Go.RowKit
set_option linter.unusedVariables false
set_option linter.unusedSimpArgs false
def Blk (w:World) (b:Nat) (E:TypeId) (n:Nat) (g:Nat→Value):Prop:=∃ cs,w.heap[b]? = some (.cells cs E)∧cs.size = n∧∀ k,k < n→cs[k]? = some (g k)
section
variable {P:Program} {w w':World} {b n:Nat} {E:TypeId} {g:Nat→Value}
theorem Blk.lt (h:Blk w b E n g):b < w.heap.size:=by obtain ⟨cs,h,_⟩:=h;exact (Array.getElem?_eq_some_iff.1 h).1
theorem Blk.cell (h:Blk w b E n g) {k:Nat} (hk:k < n):w.cell? ⟨b,k,none⟩ = some (g k):=by
  obtain ⟨cs,h,hs,hg⟩:=h
  rw [← hg k hk]
  simp [World.cell?,h]
theorem Blk.frozen (h:Blk w b E n g) (k:Nat):w.frozen? ⟨b,k,none⟩ = false:=by
  obtain ⟨cs,h,hs,hg⟩:=h
  simp [World.frozen?,h]
theorem Blk.of_heap (h:Blk w b E n g) (hb:w'.heap[b]? = w.heap[b]?):Blk w' b E n g:=by
  obtain ⟨cs,h,hs,hg⟩:=h
  exact ⟨cs,hb.trans h,hs,hg⟩
theorem Blk.later (h:Blk w b E n g) (hE:Ext w w'):Blk w' b E n g:=h.of_heap (hE.block b h.lt (fun h=>h))
theorem Blk.mod {F:Nat→Prop} (h:Blk w b E n g) (hM:Mod F w w') (hb:¬ F b):Blk w' b E n g:=h.of_heap (hM.block b h.lt hb)
theorem Blk.congr {g':Nat→Value} (h:Blk w b E n g) (hg:∀ k,k < n→g' k = g k):Blk w b E n g':=by
  obtain ⟨cs,h,hs,hk⟩:=h
  exact ⟨cs,h,hs,fun k hlt=>by rw [hg k hlt];exact hk k hlt⟩
theorem Blk.new {cs:Array Value} (h:w.heap[b]? = some (.cells cs E)):Blk w b E cs.size (fun k=>cs.getD k undef) :=
  ⟨cs,h,rfl,fun k hk=>by simp [hk]⟩
theorem cell?_mod {F:Nat→Prop} (hM:Mod F w w') {k o:Nat} (hk:k < w.heap.size) (hF:¬ F k):w'.cell? ⟨k,o,none⟩ = w.cell? ⟨k,o,none⟩:=World.cell?_of_block (hM.block k hk hF)
theorem Blk.one {v:Value} (h:w.heap[b]? = some (.cells #[v] E)):Blk w b E 1 (fun _=>v) :=
  ⟨_, h, rfl, fun k hk => by obtain rfl : k = 0 := by omega
                             rfl⟩
def put (g:Nat→Value) (o:Nat) (seg:List Value):Nat→Value:=fun k=>if o≤k∧k < o + seg.length then seg.getD (k - o) undef else g k
theorem put_one (g:Nat→Value) (o:Nat) (v:Value) (k:Nat):put g o [v] k = if k = o then v else g k:=by
  unfold put
  by_cases h:k = o
  · subst h;simp
  · rw [if_neg (by simp;omega),if_neg h]
theorem put_out {g:Nat→Value} {o:Nat} {seg:List Value} {k:Nat} (h:k < o∨o + seg.length≤k):put g o seg k = g k:=by unfold put;rw [if_neg (by omega)]
theorem put_in {g:Nat→Value} {o:Nat} {seg:List Value} {k:Nat} (j:Nat) (hj:j < seg.length) (h:k = o + j):put g o seg k = seg.getD j undef:=by
  unfold put;rw [if_pos (by omega),show k - o = j by omega]
theorem run_store_blk (h : Blk w b E n g) (t : TypeId) (o : Nat) (v : Value) (hi : (P.info? t).map (·.size) = some v.cells.size) (ho : o + v.cells.size ≤ n) (h1 : v.cells.all (·.oneCell') = true) :
    ∃ w',(Instr.storeAt t (.pointer (some ⟨b,o,none⟩)) v).run P w = .ok () w'∧Mod (· = b) w w'∧Blk w' b E n (put g o v.cells.toList):=by
  obtain ⟨cs,h,hs,hg⟩:=h
  have hst:=run_storeCells_at P b o E v.cells.toList 0 cs w h (by simp;omega) (fun u hu=>(Array.all_eq_true_iff_forall_mem.1 h1) u (by simpa using hu))
  refine ⟨w.setRow b (cs.toList.take (o + 0) ++ v.cells.toList ++ cs.toList.drop (o + 0 + v.cells.toList.length)).toArray,?_,?_,?_⟩
  · cases hq:P.info? t with
    | none=>simp [hq] at hi
    | some i =>
      have hsz:v.cells.size = i.size:=by simp [hq] at hi;omega
      simp only [Instr.storeAt,Instr.sureAddr,Sem.run_bind,Sem.run_pure,Result.andThen_ok]
      simp [storeVar,sizeOf,typeInfo,hq,hsz]
      simpa [hsz] using hst
  · refine ⟨rfl,rfl,rfl,by rw [setRow_size];exact Nat.le_refl _,fun k hk hne=>setRow_other _ _ _ _ (fun e=>hne (by first|exact e|exact e.symm))⟩
  · refine ⟨_,setRow_heap _ _ _ _ _ _ h,by simp;omega,fun k hk=>?_⟩
    simp only [Nat.add_zero,List.getElem?_toArray]
    unfold put
    have hcl:cs.toList.length = n:=by simp [hs]
    by_cases h1:k < o
    · rw [if_neg (by omega),List.append_assoc,List.getElem?_append_left (by simp;omega),List.getElem?_take,if_pos h1,← hg k hk,Array.getElem?_toList]
    · by_cases h2:k < o + v.cells.toList.length
      · rw [if_pos ⟨by omega,h2⟩,List.getElem?_append_left (by simp at h2 ⊢;omega),List.getElem?_append_right (by simp;omega)]
        have e:k - (cs.toList.take o).length = k - o:=by simp;omega
        rw [e,List.getD_eq_getElem?_getD]
        have hlt:k - o < v.cells.toList.length:=by omega
        rw [List.getElem?_eq_getElem hlt];rfl
      · rw [if_neg (by omega),List.getElem?_append_right (by simp at h2 ⊢;omega),List.getElem?_drop,← hg k hk,Array.getElem?_toList]
        congr 1
        simp at h2 ⊢;omega
variable {Q:Post} {A:Act} {fl:List (Nat × Value)} {ops:Array Oper} {o:Oper}
theorem X_store {rest : List (Oper × Nat)} {x y : Operand} {t : TypeId} {off : Nat} {v : Value} (hb : Blk w b E n g)
    (h:∀ W',Mod (· = b) w W'→Blk W' b E n (put g off v.cells.toList)→wpX P ops Q rest (fr fl A) W')
    (ho:o.op = .store t x y:=by rfl) (hd:o.dst = none:=by rfl) (hg:o.guard = none:=by rfl)
    (hx:Is ((fr fl A).eval x) (.pointer (some ⟨b,off,none⟩)):=by go_simp;exact Is.mk _) (hy:Is ((fr fl A).eval y) v:=by go_simp;exact Is.mk _)
    (hi:(P.info? t).map (·.size) = some v.cells.size:=by kernel_rfl) (hoff:off + v.cells.size≤n:=by simp [Value.cells] <;> omega) (h1:v.cells.all (·.oneCell') = true:=by simp [Value.cells,Value.oneCell']) :
    wpX P ops Q ((o,2) :: rest) (fr fl A) w:=by
  refine X_w (fun X K hK=>?_) hd hg
  obtain ⟨W',hr,hM,hB⟩:=run_store_blk (P:=P) (w:=w.later X) (hb.later X.2) t off v hi hoff h1
  unfold runV execOp
  simp only [ho,hx.eq,hy.eq,Sem.run_bind,hr,Result.andThen_ok,Sem.run_pure]
  exact hK undef W' (h W' (Mod.trans X.2 hM (fun _ _ h=>h.elim) (fun _ _ h=>h)) hB)
end
section
variable {κ β:Type} [DecidableEq κ] {P:Program} {t kt et:TypeId} {kenc:κ→Value} {venc:β→Value} {w w':World} {b:Nat} {f:κ→Option β}
variable {Q:Post} {A:Act} {fl:List (Nat × Value)} {ops:Array Oper} {o:Oper}
theorem MapIs.later (h:MapIs kenc venc w b f) (hE:Ext w w'):MapIs kenc venc w' b f:=h.of_heap (hE.block b h.lt (fun h=>h))
theorem MapIs.mod {F:Nat→Prop} (h:MapIs kenc venc w b f) (hM:Mod F w w') (hb:¬ F b):MapIs kenc venc w' b f:=h.of_heap (hM.block b h.lt hb)
theorem X_mapset {rest : List (Oper × Nat)} {m x y : Operand} (hm : MapIs kenc venc w b f) (hK : Keys P kt kenc) (ht : P.underlying t = some (.map kt et)) (k : κ) (v : β)
    (h:∀ W',Mod (· = b) w W'→MapIs kenc venc W' b (upd f k (some v))→wpX P ops Q rest (fr fl A) W')
    (ho:o.op = .mapUpdate t m x y:=by rfl) (hd:o.dst = none:=by rfl) (hg:o.guard = none:=by rfl)
    (hmm:Is ((fr fl A).eval m) (.map (some b)):=by go_simp;exact Is.mk _) (hx:Is ((fr fl A).eval x) (kenc k):=by go_simp;exact Is.mk _) (hy:Is ((fr fl A).eval y) (venc v):=by go_simp;exact Is.mk _) :
    wpX P ops Q ((o,2) :: rest) (fr fl A) w:=by
  refine X_w (fun X K hKK=>?_) hd hg
  obtain ⟨ob,hr,hM⟩:=MapIs.update (P:=P) (w:=w.later X) hK ht (hm.later X.2) k v
  unfold runV execOp
  simp only [ho,hmm.eq,hx.eq,hy.eq,Sem.run_bind,hr,Result.andThen_ok,Sem.run_pure]
  exact hKK undef _ (h _ (Mod.trans X.2 (mod_setObj _ _ _) (fun _ _ h=>h.elim) (fun _ _ h=>h)) hM)
theorem X_mapdel {rest : List (Oper × Nat)} {m x : Operand} {ts : Array TypeId} (hm : MapIs kenc venc w b f) (hK : Keys P kt kenc) (ht : P.underlying t = some (.map kt et)) (k : κ) (hts : ts[0]? = some t)
    (h:∀ W',Mod (· = b) w W'→MapIs kenc venc W' b (upd f k none)→wpX P ops Q rest (fr fl A) W')
    (ho:o.op = .call { callee:=.builtin .delete,args:=#[m,x],argTypes:=ts }:=by rfl) (hd:o.dst = none:=by rfl) (hg:o.guard = none:=by rfl)
    (hmm:Is ((fr fl A).eval m) (.map (some b)):=by go_simp;exact Is.mk _) (hx:Is ((fr fl A).eval x) (kenc k):=by go_simp;exact Is.mk _) :
    wpX P ops Q ((o,2) :: rest) (fr fl A) w:=by
  refine X_w (fun X K hKK=>?_) hd hg
  obtain ⟨ob,hr,hM⟩:=MapIs.delete (P:=P) (w:=w.later X) hK ht (hm.later X.2) k ts hts o.type
  unfold runV execOp
  simp only [ho,resolve,invoke,builtin,Sem.run_bind,Sem.run_pure,Result.andThen_ok,List.map_toArray,List.map_cons,List.map_nil,hmm.eq,hx.eq,hr]
  exact hKK _ _ (h _ (Mod.trans X.2 (mod_setObj _ _ _) (fun _ _ h=>h.elim) (fun _ _ h=>h)) hM)
theorem quiet_look {m x : Operand} (hm : MapIs kenc venc w b f) (hK : Keys P kt kenc) (ht : P.underlying t = some (.map kt et)) {z : β} (hz : ∀ w, (zeroValue et).run P w = .ok (venc z) w) (k : κ) {ok : Bool} {a : Act}
    (ho:o.op = .lookup t m x ok) (hmm:a.eval m = .map (some b)) (hx:a.eval x = kenc k) (X:Later w) :
    o.quietAt P a (Ext (w.later X)) (w.later X) (if ok then .tuple #[venc ((f k).getD z),.bool (f k).isSome] else venc ((f k).getD z)):=by
  have e:((f k).map venc).getD (venc z) = venc ((f k).getD z):=by cases f k <;> rfl
  have:=MapIs.lookup (P:=P) (w:=w.later X) hK ht (hz (w.later X)) (hm.later X.2) k ok
  rw [e] at this
  unfold Oper.quietAt execOp
  simp only [ho,hmm,hx,Sem.run_bind,this,Result.andThen_ok,Sem.run_pure,Oper.quietUpon]
  exact ⟨trivial,trivial⟩
theorem X_look {rest : List (Oper × Nat)} {m x : Operand} {d : Nat} (hm : MapIs kenc venc w b f) (hK : Keys P kt kenc) (ht : P.underlying t = some (.map kt et)) {z : β} (k : κ) {ok : Bool}
    (h:wpX P ops Q rest (fr ((d,(if ok then .tuple #[venc ((f k).getD z),.bool (f k).isSome] else venc ((f k).getD z))) :: fl) A) w)
    (ho:o.op = .lookup t m x ok:=by rfl) (hd:o.dst = some d:=by rfl) (hg:o.guard = none:=by rfl) (hz:∀ w,(zeroValue et).run P w = .ok (venc z) w:=by intro w;go_simp;first|done|exact rfl)
    (hmm:Is ((fr fl A).eval m) (.map (some b)):=by go_simp;exact Is.mk _) (hx:Is ((fr fl A).eval x) (kenc k):=by go_simp;exact Is.mk _):wpX P ops Q ((o,0) :: rest) (fr fl A) w :=
  X_q h hd hg (fun X=>quiet_look hm hK ht hz k ho hmm.eq hx.eq X)
theorem X_glook {rest : List (Oper × Nat)} {m x : Operand} {d : Nat} {j tt : Nat} {want gb : Bool} (hm : MapIs kenc venc w b f) (hK : Keys P kt kenc) (ht : P.underlying t = some (.map kt et)) {z : β} (k : κ) {ok : Bool}
    (h:wpX P ops Q rest (fr ((d,gv gb (if ok then .tuple #[venc ((f k).getD z),.bool (f k).isSome] else venc ((f k).getD z))) :: fl) A) w)
    (ho:o.op = .lookup t m x ok:=by rfl) (hd:o.dst = some d:=by rfl) (hg:o.guard = some (j,want):=by rfl) (htt:(ops[j]?).bind (·.dst) = some tt:=by rfl)
    (hgg:Is (gw ((fr fl A).tmps.getD tt undef) want) gb:=by go_simp;exact Is.mk _) (hz:∀ w,(zeroValue et).run P w = .ok (venc z) w:=by intro w;go_simp;first|done|exact rfl)
    (hmm:gb = true→Is ((fr fl A).eval m) (.map (some b)):=by intro hb;(try simp only [Bool.and_eq_true,Bool.not_eq_true',Bool.or_eq_true,Bool.or_eq_false_iff] at hb);go_simp;exact Is.mk _)
    (hx:gb = true→Is ((fr fl A).eval x) (kenc k):=by intro hb;(try simp only [Bool.and_eq_true,Bool.not_eq_true',Bool.or_eq_true,Bool.or_eq_false_iff] at hb);go_simp;exact Is.mk _):wpX P ops Q ((o,0) :: rest) (fr fl A) w :=
  X_g h hd hg htt hgg (fun hb X=>quiet_look hm hK ht hz k ho (hmm hb).eq (hx hb).eq X)
end
end Go.Ws
namespace Go.Ws
open Go Go.RowKit
set_option maxHeartbeats 1000000
set_option linter.unusedVariables false
set_option linter.unusedSimpArgs false
section
variable {P:Program} {w:World}
def DefD (P:Program) (d:Deferred) (u:FrameMode) (w:World) (u1:FrameMode) (w1:World):Prop :=
  ∃ fv cap f args,d.target = .fn fv cap∧(∀ W,Ext w W→(invoke d.target d.args).run P W = .ok (.enter f args) W) ∧
    ∀ W,Ext w W→CallsDIn (RF none) 0 P f args u W fun e u' W'=>(∃ v,e = .returned v)∧u' = u1∧Ext w1 W'
def AfterD (P:Program):List Deferred→FrameMode→World→FrameMode→World→Prop
  | [],u,w,u',w'=>u' = u∧w' = w
  | d :: ds,u,w,u',w'=>u ≠ .run∧∃ u1 w1,DefD P d u w u1 w1∧AfterD P ds (settle u1) w1 u' w'
theorem leaves_of_afterD {fn : Func} {tmps : Array Value} {R : Ending → World → Prop} : ∀ (ds : List Deferred) (u : FrameMode) (w : World) (u' : FrameMode) (w' W : World), AfterD P ds u w u' w' → Ext w W →
    (∀ W',Ext w' W'→LeavesInM (RF none) 0 P fn tmps R [] u' W')→LeavesInM (RF none) 0 P fn tmps R ds u W
  | [],u,w,u',w',W,h,hE,hl=>by obtain ⟨rfl,rfl⟩:=h;exact hl W hE
  | d :: ds,u,w,u',w',W,h,hE,hl=>by
    obtain ⟨hu,u1,w1,⟨fv,cap,f,args,ht,hi,hc⟩,hrest⟩:=h
    refine ⟨hu,.inr ⟨fun h=>by simp [RF,Fence.wide] at h,fv,cap,f,args,ht,hi W hE,fun g _=>trivial,?_⟩⟩
    refine (hc W hE).mono ?_
    rintro e u'' W' ⟨⟨v,rfl⟩,rfl,hE'⟩
    exact leaves_of_afterD ds _ w1 u' w' W' hrest hE' hl
def FinD (P:Program) (fn:Func) (tmps:Array Value) (R:Res):FrameMode→World→Prop
  | .returning,w'=>∃ v,(∀ x:Later w',(results fn tmps).run P (w'.later x) = .ok v (w'.later x))∧R (.returned v) w'
  | .panicking chain,w'=>R (.panicked chain) w'
  | .run,_=>False
def BodyD (P:Program) (fn:Func) (R:Res):Post
  | .normal,a,w|.ret,a,w=>∃ u' w',AfterD P a.defers .returning w u' w'∧FinD P fn a.tmps R u' w'
  | .panic chain,a,w=>∃ u' w',AfterD P a.defers (.panicking chain) w u' w'∧FinD P fn a.tmps R u' w'
  | .outgrown,_,w=>R .outgrown w
  | _,_,_=>False
theorem fin_leaves {fn:Func} {tmps:Array Value} {R:Res} {u':FrameMode} {w':World} (h:FinD P fn tmps R u' w'):∀ W',Ext w' W'→LeavesInM (RF none) 0 P fn tmps (Up R) [] u' W':=by
  intro W' hE
  cases u' with
  | returning=>obtain ⟨v,hr,hR⟩:=h;exact ⟨v,hr ⟨W',hE⟩,w',hE,hR⟩
  | panicking chain=>exact ⟨w',hE,h⟩
  | run=>exact h.elim
theorem Fn_ofWD {f : FuncId} {fn : Func} {c : Code} {args : Array Value} {R : Res} (hf : P.funcs[f]? = some fn) (hb : fn.body = some c)
    (h:Wp none P c (BodyD P fn R) { tmps:=args ++ Array.replicate (fn.ntmps - args.size) undef,defers:=[] } w):Fn P f args w R:=Fn.intro fun x=>by
  refine (callsIn_wide (n:=0)).1 (callsIn_of_wp_marks (F:=RF none) hf hb trivial (Code.wpIn_mono' (fun e a' w' hq=>?_) (h.get x)))
  obtain ⟨w0,hE,hq⟩:=hq
  cases e with
  | normal=>obtain ⟨u1,w1,hA,hF⟩:=hq;exact leaves_of_afterD _ _ _ _ _ _ hA hE (fin_leaves hF)
  | ret=>obtain ⟨u1,w1,hA,hF⟩:=hq;exact leaves_of_afterD _ _ _ _ _ _ hA hE (fin_leaves hF)
  | panic chain=>obtain ⟨u1,w1,hA,hF⟩:=hq;exact leaves_of_afterD _ _ _ _ _ _ hA hE (fin_leaves hF)
  | outgrown=>exact ⟨w0,hE,hq⟩
  | exit id=>exact hq
  | goto l=>exact hq
theorem Fn_ofD {f : FuncId} {fn : Func} {c : Code} {vals : List Value} {R : Res} (hf : P.funcs[f]? = some fn) (hb : fn.body = some c) (hn : vals.length ≤ fn.ntmps)
    (h:∀ A:Act,A.defers = []→A.tmps.size = fn.ntmps→Wp none P c (BodyD P fn R) (fr (ix 0 vals) A) w):Fn P f vals.toArray w R:=by
  refine Fn_ofWD hf hb ?_
  have h1:=tmpsOf_args vals [] (fn.ntmps - vals.length)
  simp only [List.nil_append,List.length_nil] at h1
  have h2:vals.toArray ++ Array.replicate (fn.ntmps - vals.toArray.size) undef = (vals ++ List.replicate (fn.ntmps - vals.length) undef).toArray:=by
    apply Array.ext';simp
  rw [h2]
  have h3:=h { tmps:=(vals ++ List.replicate (fn.ntmps - vals.length) undef).toArray,defers:=[] } rfl (by simp;omega)
  unfold fr at h3
  rw [← h1] at h3
  exact h3
theorem X_die {Q : Post} {A : Act} {fl : List (Nat × Value)} {ops : Array Oper} {o : Oper} {rest : List (Oper × Nat)} {f : FuncId} {fn : Func} {la : List Operand} {ats : Array TypeId} {lv lv' : List Value} {C : List PanicEntry → World → Prop} (hf : P.funcs[f]? = some fn)
    (hc:Fn P f lv.toArray w (fun e w'=>match e with|.panicked c=>C c w'|_=>False)) (h:∀ c w',C c w'→Q (.panic c) (fr fl A) w') (hop:o.op = .call { callee:=.value (.func f),args:=la.toArray,argTypes:=ats }:=by rfl) (hn:callable fn = true:=by kernel_rfl)
    (hg:o.guard = none:=by rfl) (hargs:Is (la.map (fr fl A).eval) lv':=by go_simp;exact Is.mk _) (hlv:lv' = lv:=by rfl):wpX P ops Q ((o,2) :: rest) (fr fl A) w:=by
  refine X_op (fun x=>?_) hg
  unfold OpW
  rw [run_call hf hn hop,hargs.eq,hlv]
  simp only [uponW]
  refine Calls.mono (hc.get x) fun e w' hR=>?_
  obtain ⟨w0,hE,hR⟩:=hR
  cases e with
  | returned v=>exact hR.elim
  | panicked c=>exact ⟨w0,hE,h c w0 hR⟩
  | outgrown=>exact hR.elim
theorem X_defer {Q : Post} {A : Act} {fl : List (Nat × Value)} {ops : Array Oper} {o : Oper} {rest : List (Oper × Nat)} {d : Deferred} (hd : ∀ W, Ext w W → (execOp (fr fl A).eval o).run P W = .ok (.defer d) W)
    (h:wpX P ops Q rest (fr fl { tmps:=A.tmps,defers:=d :: A.defers }) w) (hdst:o.dst = none:=by rfl) (hg:o.guard = none:=by rfl):wpX P ops Q ((o,2) :: rest) (fr fl A) w:=by
  refine X_op (fun x=>?_) hg
  unfold OpW
  rw [hd (w.later x) x.2]
  simp only [uponW,hdst]
  have e:({ tmps:=(fr fl A).tmps,defers:=d :: (fr fl A).defers }:Act).put none undef = fr fl { tmps:=A.tmps,defers:=d :: A.defers }:=by
    rw [fr_tmps,fr_defers];exact fr_mk fl A _ _ rfl
  rw [e]
  exact ⟨w,x.2,h⟩
end
section
variable {P:Program} {md:Region.Mode} {ops:Array Oper} {Q:Exit→Act→World→Prop} {last:Nat} {Z:Act→World→Prop}
def wpT (P:Program) (md:Region.Mode) (ops:Array Oper) (last:Nat) (Z:Act→World→Prop):Nat→Array Bool→Act→World→Prop
  | 0,listed,a,w=>Region.ready md ops listed = [last]∧∀ x:Later w,Z a (w.later x)
  | f + 1, listed, a, w => ∀ x : Later w, Region.ready md ops listed ≠ [] ∧
      ∀ j ∈ Region.ready md ops listed,softOp P ops j (fun a' w'=>Ext (w.later x) w'∧wpT P md ops last Z f (listed.setIfInBounds j true) a' w') a (w.later x)
theorem wpT.later {f:Nat} {listed:Array Bool} {a:Act} {w w':World} (h:wpT P md ops last Z f listed a w) (hE:Ext w w'):wpT P md ops last Z f listed a w':=by
  cases f with
  | zero=>exact ⟨h.1,fun x=>h.2 ⟨w'.later x,Ext.trans hE x.2⟩⟩
  | succ f=>exact fun x=>h ⟨w'.later x,Ext.trans hE x.2⟩
theorem wpAny_of_wpT {ρ:Option Nat} {n:Nat} (hn:ρ = none∨(∀ (i:Nat) (o:Oper),ops[i]? = some o→noDefer o = true)) (hdie:∀ a w K,Z a w→wpOpIn (RF ρ) n P ops Q last K a w):∀ (f:Nat) (listed:Array Bool) (a:Act) (w:World),wpT P md ops last Z f listed a w→wpAnyIn (RF ρ) n P md ops Q (f + 1) listed a w
  | 0,listed,a,w,h=>by
    obtain ⟨h0,h1⟩:=h
    refine ⟨(fun h=>by rw [h0] at h;cases h),fun j hj=>?_⟩
    rw [h0,List.mem_singleton] at hj
    subst hj
    exact hdie _ _ _ (h1 ⟨w,Ext.refl w⟩)
  | f + 1,listed,a,w,h=>by
    obtain ⟨h0,h1⟩:=h ⟨w,Ext.refl w⟩
    refine ⟨fun h=>absurd h h0,fun j hj=>?_⟩
    exact wpOpIn_of_soft (hn.imp id (fun h=>h j)) (softOp_mono (fun a' w' h=>wpAny_of_wpT hn hdie f _ a' w' h.2) (h1 j hj))
theorem wpT_first {i : Nat} {oi : Oper} {v : Value} (hi : ops[i]? = some oi) (hsel : ∀ (j : Nat) (o : Oper) cs b, ops[j]? = some o → o.op ≠ .select cs b)
    (hreach:Reach md ops i last) :
    ∀ (f:Nat) (listed:Array Bool) (a:Act) (w:World),Closed md ops listed →
      (∀ j oj,ops[j]? = some oj→j ≠ i→listed.getD j true = false→(∀ e ∈ oj.after,Region.binds md e = true→e.on ≠ i)→oi.apart ops oj = true) →
      i ∈ Region.ready md ops listed→YieldsQ P ops oi v a w →
      wpT P md ops last Z f (listed.setIfInBounds i true) (a.put oi.dst v) w→wpT P md ops last Z (f + 1) listed a w:=by
  intro f
  induction f with
  | zero =>
    intro listed a w hc _ hr hy H x
    refine ⟨fun h=>(by rw [h] at hr;cases hr),fun j hj=>?_⟩
    by_cases hji:j = i
    · subst hji
      exact (hy.later x.2).softOp hi fun w' hw'=>⟨hw',H.later (Ext.trans x.2 hw')⟩
    · have h1:=ready_mono hj hji
      rw [H.1,List.mem_singleton] at h1
      subst h1
      have hiun:=(mem_ready.1 hr).1
      have:=hreach.listed hc (.inr hj)
      rw [getD_both hiun] at this
      cases this
  | succ f ih =>
    intro listed a w hc hfree hr hy H x
    refine ⟨fun h=>(by rw [h] at hr;cases hr),fun j hj=>?_⟩
    by_cases hji:j = i
    · subst hji
      exact (hy.later x.2).softOp hi fun w' hw'=>⟨hw',H.later (Ext.trans x.2 hw')⟩
    · have hiun:=(mem_ready.1 hr).1
      have hjun:=(mem_ready.1 hj).1
      have h1:=(H x).2 j (ready_mono hj hji)
      obtain ⟨hjun,oj,hoj,hall⟩:=mem_ready.1 hj
      have hnot:∀ e ∈ oj.after,Region.binds md e = true→e.on ≠ i:=fun e he hb heq=>by
        have h1:=hall e he hb
        rw [heq,getD_both hiun] at h1
        cases h1
      have hfree' : ∀ k ok, ops[k]? = some ok → k ≠ i → (listed.setIfInBounds j true).getD k true = false →
          (∀ e ∈ ok.after,Region.binds md e = true→e.on ≠ i)→oi.apart ops ok = true:=fun k ok hk hki hun hno=>by
        refine hfree k ok hk hki ?_ hno
        by_cases hjk:j = k
        · subst hjk;exact hjun
        · rw [getD_set_ne true hjk] at hun;exact hun
      have h2:=softOp_put hoj (hfree j oj hoj hji hjun hnot) (fun cs b=>hsel i oi cs b hi) (fun cs b=>hsel j oj cs b hoj) h1
      refine softOp_mono (fun a' w' h3=>?_) h2
      obtain ⟨⟨he,hw⟩,hE,h4⟩:=h3
      refine ⟨hE,ih _ a' w' (hc.set hj) hfree' (ready_mono hr (Ne.symm hji)) ((hy.of_same he hw).later (Ext.trans x.2 hE)) ?_⟩
      rw [Array.setIfInBounds_comm _ _ hji]
      exact h4
def mixT (md:Region.Mode) (ops:Array Oper) (last:Nat):List (Nat × Nat)→Array Bool→Bool
  | [],listed=>decide (Region.ready md ops listed = [last])
  | (i,k) :: rest,listed =>
    (match k with
     | 0=>(Region.ready md ops listed).contains i && Region.free md ops listed i
     | 1=>decide (Region.ready md ops listed = [i])
     | _=>false) && mixT md ops last rest (listed.setIfInBounds i true)
theorem wpT_of_mix (hsel : Region.noSelect ops = true) (hQ : ∀ a w, Q .normal a w → Z a w) :
    ∀ (σ:List (Nat × Nat)) (listed:Array Bool) (a:Act) (w:World),Closed md ops listed→mixT md ops last σ listed = true→(∀ p ∈ σ,Reach md ops p.1 last) →
      wpMix P ops Q σ a w→wpT P md ops last Z σ.length listed a w
  | [],listed,a,w,_,hB,_,h=>⟨by simpa [mixT] using hB,fun x=>hQ _ _ (h x)⟩
  | (i,0) :: rest,listed,a,w,hc,hB,hh,h=>by
    simp only [mixT,Bool.and_eq_true] at hB
    obtain ⟨⟨hr,hf⟩,hB'⟩:=hB
    obtain ⟨v,o,ho,hy,hrest⟩:=h
    have hr':i ∈ Region.ready md ops listed:=by simpa using hr
    exact wpT_first ho (Region.noSelect_spec hsel) (hh (i,0) (by simp)) rest.length listed a w hc (Region.free_spec ho hf) hr' hy
      (wpT_of_mix hsel hQ rest _ _ w (hc.set hr') hB' (fun p hp=>hh p (by simp [hp])) hrest)
  | (i,1) :: rest,listed,a,w,hc,hB,hh,h=>by
    simp only [mixT,Bool.and_eq_true,decide_eq_true_eq] at hB
    intro x
    refine ⟨fun h0=>(by rw [hB.1] at h0;cases h0),fun j hj=>?_⟩
    have hj':=hj
    rw [hB.1] at hj'
    obtain rfl:j = i:=by simpa using hj'
    exact softOp_mono (fun a' w' h'=>⟨h'.1,wpT_of_mix hsel hQ rest _ _ w' (hc.set hj) hB.2 (fun p hp=>hh p (by simp [hp])) h'.2⟩) (h x)
  | (i,k + 2) :: rest,listed,a,w,hc,hB,hh,h=>by
    simp [mixT] at hB
def dieOk (ops:Array Oper) (σ:List (Nat × Nat)) (last:Nat):Bool :=
  Region.noSelect ops && decide (σ.length + 1 = ops.size) && (σ.all fun p=>((Region.before ops).getD last 0).testBit p.1 && decide (p.1 < ops.size)) && mixT .any ops last σ (Array.replicate ops.size false)
end
section
variable {P:Program} {Q:Post} {w:World} {a:Act}
def Dies (P:Program) (ops:Array Oper) (last:Nat) (Q:Post) (a:Act) (w:World):Prop:=∃ o,ops[last]? = some o∧Region.wanted o (yielded ops a.tmps) = true∧∀ x:Later w,OpW P o a (w.later x) (fun _ _=>False) (UpQ Q)
theorem W_die {id : Nat} {l : List Oper} (σ : List (Nat × Nat)) (last : Nat) (hm : P.follows .mixedOrders = true) (hB : dieOk l.toArray σ last = true)
    (h:wpX P l.toArray (Calm (fun _ a w=>Dies P l.toArray last Q a w)) (σ.map fun p=>(l.getD p.1 default,p.2)) a w):Wp none P (.region id l.toArray true) Q a w:=Wp.intro fun x=>by
  simp only [dieOk,Bool.and_eq_true,decide_eq_true_eq] at hB
  obtain ⟨⟨⟨hsel,hlen⟩,hreach⟩,hmix⟩:=hB
  refine wpIn_region_any hm ?_
  have hz:∀ p ∈ (σ.map fun p=>(l.getD p.1 default,p.2)).zip σ,l.toArray[p.2.1]? = some p.1.1∧p.1.2 = p.2.2:=by
    intro p hp
    have:∀ (τ:List (Nat × Nat)),(∀ q ∈ τ,q.1 < l.toArray.size)→p ∈ (τ.map fun q=>(l.getD q.1 default,q.2)).zip τ→l.toArray[p.2.1]? = some p.1.1∧p.1.2 = p.2.2:=by
      intro τ
      induction τ with
      | nil=>intro _ h;simp at h
      | cons q τ ih =>
        intro hq h
        simp only [List.map_cons,List.zip_cons_cons,List.mem_cons] at h
        rcases h with rfl|h
        · have:=hq q (by simp)
          simp only [List.size_toArray] at this
          refine ⟨?_,rfl⟩
          simp [this]
        · exact ih (fun r hr=>hq r (by simp [hr])) h
    exact this σ (fun q hq=>by have:=List.all_eq_true.1 hreach q hq;simp only [Bool.and_eq_true,decide_eq_true_eq] at this;exact this.2) hp
  have h1:=wpMix_of_wpX _ σ a w hz (by simp) h
  have h2:=wpT_of_mix (P:=P) (md:=.any) (ops:=l.toArray) (last:=last) (Z:=fun a w=>∃ w0,Ext w0 w∧Dies P l.toArray last Q a w0) hsel (fun a w h=>by
    obtain ⟨w0,hE,h⟩:=h;exact ⟨w0,hE,h⟩) σ (Array.replicate l.toArray.size false) a ((w.later x).drew) (fun j oj _ hl=>(by rw [getD_replicate_false] at hl;cases hl)) hmix (fun p hp=>before_reach l.toArray p.1 last (by have:=List.all_eq_true.1 hreach p hp;simp only [Bool.and_eq_true] at this;exact this.1)) (h1.later (Ext.trans x.2 (Ext.drew _)))
  have h3:=wpAny_of_wpT (ρ:=none) (n:=0) (Q:=UpQ Q) (.inl rfl) (fun a w K hZ=>by
    obtain ⟨w0,hE,o,ho,hw,hd⟩:=hZ
    unfold wpOpIn
    simp only [ho,hw,if_true]
    have hd':=hd ⟨w,hE⟩
    exact opIn_of_W (.inl rfl) (hd'.mono (fun _ _ h=>h.elim) (fun _ _ _ h=>h))) _ _ _ _ h2
  rw [hlen] at h3
  exact h3
theorem Dies_call {A : Act} {fl : List (Nat × Value)} {ops : Array Oper} {last : Nat} {o : Oper} {f : FuncId} {fn : Func} {la : List Operand} {ats : Array TypeId} {lv lv' : List Value} {C : List PanicEntry → World → Prop} (hf : P.funcs[f]? = some fn)
    (hc:Fn P f lv.toArray w (fun e w'=>match e with|.panicked c=>C c w'|_=>False)) (h:∀ c w',C c w'→Q (.panic c) (fr fl A) w') (ho:ops[last]? = some o:=by rfl) (hop:o.op = .call { callee:=.value (.func f),args:=la.toArray,argTypes:=ats }:=by rfl) (hn:callable fn = true:=by kernel_rfl)
    (hg:o.guard = none:=by rfl) (hargs:Is (la.map (fr fl A).eval) lv':=by go_simp;exact Is.mk _) (hlv:lv' = lv:=by rfl):Dies P ops last Q (fr fl A) w:=by
  refine ⟨o,ho,by simp [Region.wanted,hg],fun x=>?_⟩
  unfold OpW
  rw [run_call hf hn hop,hargs.eq,hlv]
  simp only [uponW]
  refine Calls.mono (hc.get x) fun e w' hR=>?_
  obtain ⟨w0,hE,hR⟩:=hR
  cases e with
  | returned v=>exact hR.elim
  | panicked c=>exact ⟨w0,hE,h c w0 hR⟩
  | outgrown=>exact hR.elim
end
end Go.Ws
namespace Go.Ws
open Go Go.RowKit
set_option linter.unusedVariables false
set_option linter.unusedSimpArgs false
section
variable {P:Program} {w:World} {Q:Post} {A:Act} {a:Act} {fl:List (Nat × Value)} {ops:Array Oper} {o:Oper}
theorem wpX_one {rest : List (Oper × Nat)} : wpX P ops Q ((o, 1) :: rest) a w = (∀ x : Later w, if Region.wanted o (yielded ops a.tmps) = true
      then OpW P o a (w.later x) (fun a' w'=>Ext (w.later x) w'∧∃ w0,Ext w0 w'∧wpX P ops Q rest a' w0) (fun _ _ _=>False)
      else ∃ w0,Ext w0 (w.later x)∧wpX P ops Q rest (a.put o.dst undef) w0):=by with_unfolding_all rfl
theorem X_ret1 {rest : List (Oper × Nat)} {f : FuncId} {fn : Func} {la : List Operand} {ats : Array TypeId} {lv lv' : List Value} {R : World → Value → World → Prop} {d : Nat} (hf : P.funcs[f]? = some fn)
    (hc:∀ x:Later w,Ret P f lv.toArray (w.later x) (R (w.later x))) (h:∀ (x:Later w) v w',R (w.later x) v w'→Ext (w.later x) w'∧wpX P ops Q rest (fr ((d,v) :: fl) A) w') (hd:o.dst = some d:=by rfl) (hop:o.op = .call { callee:=.value (.func f),args:=la.toArray,argTypes:=ats }:=by rfl) (hn:callable fn = true:=by kernel_rfl)
    (hg:o.guard = none:=by rfl) (hargs:Is (la.map (fr fl A).eval) lv':=by go_simp;exact Is.mk _) (hlv:lv' = lv:=by rfl):wpX P ops Q ((o,1) :: rest) (fr fl A) w:=by
  rw [wpX_one]
  intro x
  rw [if_pos (by simp [Region.wanted,hg])]
  unfold OpW
  rw [run_call hf hn hop,hargs.eq,hlv]
  simp only [uponW]
  refine Calls.mono (Fn.calls (hc x)) fun e w' hR=>?_
  obtain ⟨w0,hE,hR⟩:=hR
  cases e with
  | returned v =>
    obtain ⟨h1,h2⟩:=h x v w0 hR
    exact ⟨Ext.trans h1 hE,w0,hE,by rw [hd,fr_put];exact h2⟩
  | panicked c=>exact hR.elim
  | outgrown=>exact hR.elim
end
end Go.Ws
namespace Go.Ws
open Go Go.RowKit
set_option maxHeartbeats 2000000
set_option maxRecDepth 100000
set_option linter.unusedVariables false
set_option linter.unusedSimpArgs false
section
variable {P:Program} {fn:Func} {R:Res} {e:Exit} {t b:Nat} {ty:TypeId} {td:TypeDesc} {cs:List Value} {w:World} {l:List (Nat × Value)} {A:Act} {g:Nat→Value} {E:TypeId}
theorem blk_cells1 (hb:Blk w b E cs.length g) (hg:∀ k,k < cs.length→cs[k]? = some (g k)) (x:Later w):(w.later x).heap[b]? = some (.cells cs.toArray E):=by
  obtain ⟨arr,h,hs,hk⟩:=hb.later (w':=w.later x) x.2
  have:arr = cs.toArray:=by
    apply Array.ext
    · simpa using hs
    · intro k h1 h2
      have h3:=hk k (by omega)
      have h4:=hg k (by omega)
      rw [← h4] at h3
      simpa [h1,List.getElem?_eq_getElem (show k < cs.length by omega)] using h3
  rw [h,this]
theorem Body_retcell1 (hd : A.defers = []) (hR : R (.returned (.agg cs.toArray)) w) (hb : Blk w b E cs.length g) (hg : ∀ k, k < cs.length → cs[k]? = some (g k))
    (hu:P.underlying ty = some td) (hr:fn.results = #[.cell t ty]:=by rfl) (htd:(match td with|.struct _|.array _ _=>true|_=>false) = true:=by rfl) (hi:(P.info? ty).map (·.size) = some cs.length:=by kernel_rfl)
    (he:e = .ret∨e = .normal:=by first|exact .inl rfl|exact .inr rfl) (hv:Is ((fr l A).tmps.getD t undef) (.pointer (some ⟨b,0,none⟩)):=by go_simp;exact Is.mk _):Body P fn R e (fr l A) w:=by
  have key:∀ x:Later w,(results fn (fr l A).tmps).run P (w.later x) = .ok (.agg cs.toArray) (w.later x):=by
    intro x
    have h1:=blk_cells1 hb hg x
    have h2:(fr l A).tmps[t]?.getD undef = .pointer (some ⟨b,0,none⟩):=by simpa using hv.eq
    simp [results,hr,h2,asAddr,run_loadVar_row (P:=P) (w.later x) b E ty cs.toArray (0,0) td h1 hu htd (by simpa using hi)]
  unfold Body
  rcases he with rfl|rfl <;> exact ⟨w,by rw [fr_defers,hd];rfl,_,key,hR⟩
theorem Body_retcellv {u : Tmp} {v2 : Value} (hd : A.defers = []) (hR : R (.returned (.tuple #[.agg cs.toArray, v2])) w) (hb : Blk w b E cs.length g) (hg : ∀ k, k < cs.length → cs[k]? = some (g k))
    (hu:P.underlying ty = some td) (hr:fn.results = #[.cell t ty,.tmp u]:=by rfl) (htd:(match td with|.struct _|.array _ _=>true|_=>false) = true:=by rfl) (hi:(P.info? ty).map (·.size) = some cs.length:=by kernel_rfl)
    (he:e = .ret∨e = .normal:=by first|exact .inl rfl|exact .inr rfl) (hv:Is ((fr l A).tmps.getD t undef) (.pointer (some ⟨b,0,none⟩)):=by go_simp;exact Is.mk _) (hv2:Is ((fr l A).tmps.getD u undef) v2:=by go_simp;exact Is.mk _):Body P fn R e (fr l A) w:=by
  have key:∀ x:Later w,(results fn (fr l A).tmps).run P (w.later x) = .ok (.tuple #[.agg cs.toArray,v2]) (w.later x):=by
    intro x
    have h1:=blk_cells1 hb hg x
    have h2:(fr l A).tmps[t]?.getD undef = .pointer (some ⟨b,0,none⟩):=by simpa using hv.eq
    have h3:(fr l A).tmps[u]?.getD undef = v2:=by simpa using hv2.eq
    simp [results,hr,h2,h3,asAddr,run_loadVar_row (P:=P) (w.later x) b E ty cs.toArray (0,0) td h1 hu htd (by simpa using hi)]
  unfold Body
  rcases he with rfl|rfl <;> exact ⟨w,by rw [fr_defers,hd];rfl,_,key,hR⟩
end
section
variable {P:Program} {ops:Array Oper} {o:Oper} {Q:Post} {fl:List (Nat × Value)} {A:Act} {w:World}
theorem X_gf2 {rest : List (Oper × Nat)} {d : Nat} {j t m : Nat} {want : Bool} (h : wpX P ops Q rest (fr ((d, undef) :: fl) A) w) (hd : o.dst = some d := by rfl) (hg : o.guard = some (j, want) := by rfl) (ht : (ops[j]?).bind (·.dst) = some t := by rfl)
    (hgg:Is (gw ((fr fl A).tmps.getD t undef) want) false:=by go_simp;exact Is.mk _) (hm:m = 1∨m = 2:=by first|exact .inl rfl|exact .inr rfl):wpX P ops Q ((o,m) :: rest) (fr fl A) w:=by
  rcases hm with rfl|rfl
  · rw [wpX_one]
    intro x
    rw [wanted_gw hg ht,hgg.eq]
    exact ⟨w,x.2,by rw [hd,fr_put];exact h⟩
  · exact X_gop (g:=false) (fun h=>by cases h) (fun _=>by rw [hd,fr_put];exact h) hg ht hgg
end
end Go.Ws
namespace Go.Ws
open Go Go.RowKit Go.Proofs
set_option maxHeartbeats 2000000
set_option maxRecDepth 100000
set_option linter.unusedVariables false
set_option linter.unusedSimpArgs false
abbrev stopV (why:Int):Value:=.iface 144 (.agg #[.int .i64 why])
abbrev stopC (why:Int):List PanicEntry:=[{ v:=stopV why,recovered:=false }]
section
variable {P:Program} {Q:Post} {A:Act} {fl:List (Nat × Value)} {ops:Array Oper} {o:Oper} {w:World}
theorem X_panic {rest:List (Oper × Nat)} {x:Operand} {T:TypeId} {u:Value} (h:Q (.panic [{ v:=.iface T u,recovered:=false }]) (fr fl A) w) (hop:o.op = .panic x:=by rfl) (hg:o.guard = none:=by rfl) (hx:Is ((fr fl A).eval x) (.iface T u):=by go_simp;exact Is.mk _):wpX P ops Q ((o,2) :: rest) (fr fl A) w:=by
  refine X_op (fun X=>?_) hg
  have he:(execOp (fr fl A).eval o).run P (w.later X) = .halt (.panic (.iface T u)) (w.later X):=by
    unfold execOp
    simp only [hop,hx.eq]
    simp only [Sem.run_bind]
    rw [show Sem.run P (Instr.panic (Value.iface T u)) (w.later X) = .halt (.panic (.iface T u)) (w.later X) from rfl]
    rfl
  unfold OpW
  rw [he]
  exact ⟨w,X.2,h⟩
end
theorem must_ok {w:World} (why:Int):Pure Tryz.prog 50 #[.bool true,.int .i64 why] w (.tuple #[]):=by
  refine Fn_of Tryz.func50 rfl (Nat.le_of_ble_eq_true rfl) ?_;intro A hd hA;simp only [ix,Nat.reduceAdd];replace hA:A.tmps.size = 9:=hA
  repeat' (first|refine X_q ?_|refine X_nil ?_|refine W_seqk (fun K hK=>?_)|refine W_seqr ?_|refine W_skip ?_|refine W_ff ?_|go_step)
  exact Body_ret0 hd ⟨rfl,by simp⟩
theorem must_no {w:World} (why:Int):Fn Tryz.prog 50 #[.bool false,.int .i64 why] w (fun e w'=>match e with|.panicked c=>c = stopC why∧Ext w w'|_=>False):=by
  refine Fn_of Tryz.func50 rfl (Nat.le_of_ble_eq_true rfl) ?_;intro A hd hA;simp only [ix,Nat.reduceAdd];replace hA:A.tmps.size = 9:=hA
  repeat' (first|refine X_q ?_|refine X_nil ?_|refine W_seqk (fun K hK=>?_)|refine W_seqr ?_|refine W_tt ?_|go_step)
  refine X_panic (T:=144) (u:=.agg #[.int .i64 why]) ?_
  unfold Body
  exact ⟨w,by rw [fr_defers,hd];rfl,rfl,by simp⟩
end Go.Ws
namespace Go.Ws
open Go Go.RowKit
set_option linter.unusedVariables false
set_option linter.unusedSimpArgs false
theorem fr_self (N:Nat):∀ (ss:List Nat) (a:Act),fr (ss.zip (ss.map fun s=>a.tmps.getD s undef)) a = a:=by
  intro ss a
  have e:∀ L:List (Nat × Value),fr L a = { tmps:=tmpsOf L a.tmps,defers:=a.defers }:=fun L=>by
    have h1:=fr_tmps L a
    have h2:=fr_defers L a
    generalize fr L a = b at *
    cases b;simp only at h1 h2;rw [h1,h2]
  rw [e]
  have:tmpsOf (ss.zip (ss.map fun s=>a.tmps.getD s undef)) a.tmps = a.tmps:=by
    induction ss with
    | nil=>simp [tmpsOf]
    | cons s ss ih =>
      simp only [List.map_cons,List.zip_cons_cons,tmpsOf]
      rw [ih]
      apply Array.ext
      · simp
      · intro i h1 h2
        rw [Array.getElem_setIfInBounds]
        split
        · rename_i e;subst e;simp [h2]
        · rfl
  rw [this]
theorem W_cut {ρ : Option Nat} {P : Program} {Q : Post} {c : Code} {l : List (Nat × Value)} {A : Act} {w : World} {N : Nat} {ds : List Deferred} (ss : List Nat) (I : List Value → World → Prop) (hd : A.defers = ds) (hA : A.tmps.size = N) (hs : ∀ s ∈ ss, s < N)
    (h1:Wp ρ P c (fun e a' w'=>e = .normal∧∃ (l':List (Nat × Value)) (B':Act),a' = fr l' B'∧B'.defers = ds∧B'.tmps.size = N∧I (ss.map fun s=>lkp s l' B') w') (fr l A) w)
    (h2:∀ (vs:List Value) (B:Act) (w':World),B.defers = ds→B.tmps.size = N→I vs w'→Q .normal (fr (ss.zip vs) B) w'):Wp ρ P c Q (fr l A) w:=by
  refine W_mono h1 ?_
  rintro e a w' ⟨rfl,l',B',rfl,hd',hA',hI⟩
  have h:=h2 _ (fr l' B') w' (by rw [fr_defers];exact hd') (by rw [fr_tmps,size_tmpsOf];exact hA') hI
  have hm:(ss.map fun s=>lkp s l' B') = ss.map fun s=>(fr l' B').tmps.getD s undef:=List.map_congr_left fun s hs'=>(fr_get l' B' s (by rw [hA'];exact hs s hs')).symm
  rw [hm,fr_self N] at h
  exact h
section
variable {P:Program} {Q:Post} {A:Act} {fl:List (Nat × Value)} {ops:Array Oper} {o:Oper} {hs:List Nat} {f:Nat} {listed:Array Bool} {w:World} {b n:Nat} {E:TypeId} {g:Nat→Value}
theorem S_store {i : Nat} {x y : Operand} {t : TypeId} {off : Nat} {v : Value} (hb : Blk w b E n g)
    (h:∀ W',Mod (· = b) w W'→Blk W' b E n (put g off v.cells.toList)→wpF P ops hs Q f (listed.setIfInBounds i true) (fr fl A) W') (hi':ops[i]? = some o:=by rfl) (hh:hs.contains i = true:=by rfl)
    (ho:o.op = .store t x y:=by rfl) (hd:o.dst = none:=by rfl) (hg:o.guard = none:=by rfl)
    (hx:Is ((fr fl A).eval x) (.pointer (some ⟨b,off,none⟩)):=by go_simp;exact Is.mk _) (hy:Is ((fr fl A).eval y) v:=by go_simp;exact Is.mk _)
    (hi:(P.info? t).map (·.size) = some v.cells.size:=by kernel_rfl) (hoff:off + v.cells.size≤n:=by simp [Value.cells] <;> omega) (h1:v.cells.all (·.oneCell') = true:=by simp [Value.cells,Value.oneCell']) :
    stepF P ops hs Q f listed (fr fl A) w i:=by
  refine S_w (fun X K hK=>?_) hi' hh hd hg
  obtain ⟨W',hr,hM,hB⟩:=run_store_blk (P:=P) (w:=w.later X) (hb.later X.2) t off v hi hoff h1
  unfold runV execOp
  simp only [ho,hx.eq,hy.eq,Sem.run_bind,hr,Result.andThen_ok,Sem.run_pure]
  exact hK undef W' (h W' (Mod.trans X.2 hM (fun _ _ h=>h.elim) (fun _ _ h=>h)) hB)
end
end Go.Ws
namespace Go.Ws
open Go Go.RowKit Go.Proofs
set_option maxHeartbeats 2000000
set_option maxRecDepth 100000
set_option linter.unusedVariables false
set_option linter.unusedSimpArgs false
theorem wpIn_of_Wp {P:Program} {c:Code} {Q Q0:Post} {a:Act} {W:World} (h:Wp none P c Q0 a W) (hq:∀ e a w0 w',Q0 e a w0→Ext w0 w'→Q e a w'):c.wpIn (RF none) 0 P Q a W :=
  Code.wpIn_mono' (fun e a w' ⟨w0,hE,hQ⟩=>hq e a w0 w' hQ hE) (h.get ⟨W,Ext.refl W⟩)
theorem Wp_fr {P:Program} {c:Code} {Q:Post} {a:Act} {W:World} (l:List (Nat × Value)) (hl:∀ p ∈ l,a.tmps.getD p.1 undef = p.2) (h:Wp none P c Q (fr l a) W):Wp none P c Q a W:=by
  have h1:=fr_self 0 (l.map (·.1)) a
  have h2:(l.map (·.1)).zip ((l.map (·.1)).map fun s=>a.tmps.getD s undef) = l:=by
    rw [List.map_map,List.zip_map',]
    clear h h1
    induction l with
    | nil=>rfl
    | cons p l ih =>
      rw [List.map_cons,ih (fun q hq=>hl q (by simp [hq]))]
      simp only [Function.comp]
      rw [hl p (by simp)]
  rw [h2] at h1
  rwa [h1] at h
def Ends (W1:World):Post:=fun e a w0=>(e = .normal∨e = .ret)∧a.defers = []∧Ext W1 w0
theorem ends_post {fn : Func} (hfn : fn.results = #[]) {c₀ : Frame} {cs : List Frame} {u : FrameMode} {W1 : World} {e : Exit} {a : Act} {w0 w' : World} (h : Ends W1 e a w0) (hE : Ext w0 w') {P : Program} (hu : c₀.mode = u ∨ True) :
    bodyPostS P fn c₀ cs (fun e u' W'=>(∃ v,e = .returned v)∧u' = u∧Ext W1 W') e a ({ c₀ with mode:=u } :: cs) w':=by
  obtain ⟨he,hd,hE0⟩:=h
  rcases he with rfl|rfl <;> exact ⟨hd,u,rfl,.tuple #[],results_none hfn _ _ _,⟨_,rfl⟩,rfl,Ext.trans hE0 hE⟩
theorem caught_idle {W:World} (be:Nat):CallsDIn (RF none) 0 Tryz.prog 49 #[.pointer (some ⟨be,0,none⟩)] .returning W fun e u' W'=>(∃ v,e = .returned v)∧u' = .returning∧Ext W W':=by
  refine callsDIn_of_wpSIn Tryz.func49 rfl trivial fun c₀ cs hu=>?_
  apply wpSIn_seq
  apply wpSIn_region
  simp [wpOpsSIn,go_sem,recoverD,hu,Tryz.ntmps49,Exit.thenS]
  refine wpSIn_of_wpIn rfl ?_
  refine wpIn_of_Wp (Q0:=Ends W) ?_ (fun e a w0 w' h hE=>by
    have:=ends_post (P:=Tryz.prog) (fn:=Tryz.f49) rfl (c₀:=c₀) (cs:=cs) (u:=.returning) h hE (.inr trivial)
    have hc:({ c₀ with mode:=FrameMode.returning }:Frame) = c₀:=by cases c₀;simp only at hu;rw [hu]
    rwa [hc] at this)
  refine Wp_fr [(0,.pointer (some ⟨be,0,none⟩)),(5,.nilIface)] (by simp) ?_
  generalize hAA:({ tmps:=_,defers:=[] }:Act) = AA
  have hd:AA.defers = []:=by rw [← hAA]
  have hA:AA.tmps.size = 15:=by rw [← hAA];simp
  clear hAA
  repeat' (first|refine X_q ?_|refine X_nil ?_|refine W_seqk (fun K hK=>?_)|refine W_seqr ?_|refine W_block ?_|refine W_tt ?_|go_step)
  exact ⟨.inl rfl,by rw [fr_defers,hd],by simp⟩
theorem Ext.of_store {W W1 W2 W':World} {b n:Nat} {E:TypeId} {g:Nat→Value} (hM1:Mod (· = b) W W1) (hB1:Blk W1 b E n g) (hE:Ext W W2) (hM:Mod (· = b) W2 W') (hB:Blk W' b E n g) (hsz:W1.heap.size = W.heap.size):Ext W1 W':=by
  obtain ⟨cs,h1,h2,h3⟩:=hB1
  obtain ⟨cs',h1',h2',h3'⟩:=hB
  have hcs:cs' = cs:=by
    apply Array.ext
    · omega
    · intro k k1 k2
      have a:=h3 k (by omega)
      have c:=h3' k (by omega)
      rw [← a] at c
      simpa [k1,k2] using c
  refine ⟨hM.os.trans (hE.os.trans hM1.os.symm),hM.tape.trans (hE.tape.trans hM1.tape.symm),hM.output.trans (hE.output.trans hM1.output.symm),by have:=hM.size;have:=hE.size;omega,fun k hk _=>?_⟩
  by_cases hkb:k = b
  · subst hkb;rw [h1',hcs,h1]
  · have hkw:k < W.heap.size:=by omega
    rw [hM.block k (Nat.lt_of_lt_of_le hkw hE.size) hkb,hE.block k hkw (fun h=>h),hM1.block k hkw hkb]
theorem assertStop (v:Value) (xT:TypeId) (w:World):(Instr.typeAssert (.iface 144 v) xT 144 true).run Tryz.prog w = .ok (.tuple #[v,.bool true]) w:=by
  unfold Instr.typeAssert
  simp only [Sem.run_bind,run_underlying Tryz.underlying144,Result.andThen_ok]
  simp [Sem.run]
theorem caught_panic {w W W1 : World} {be : Nat} {E : TypeId} {x why : Int} (hw : Ext w W) (hB0 : Blk w be E 1 (fun _ => .int .i64 x)) (hM1 : Mod (· = be) w W1) (hB1 : Blk W1 be E 1 (fun _ => .int .i64 why)) (hsz : W1.heap.size = w.heap.size) :
    CallsDIn (RF none) 0 Tryz.prog 49 #[.pointer (some ⟨be,0,none⟩)] (.panicking (stopC why)) W fun e u' W'=>(∃ v,e = .returned v)∧u' = .panicking [{ v:=stopV why,recovered:=true }]∧Ext W1 W':=by
  refine callsDIn_of_wpSIn Tryz.func49 rfl trivial fun c₀ cs hu=>?_
  apply wpSIn_seq
  apply wpSIn_region
  simp [wpOpsSIn,go_sem,recoverD,hu,Tryz.ntmps49,Exit.thenS]
  refine wpSIn_of_wpIn rfl ?_
  refine wpIn_of_Wp (Q0:=Ends W1) ?_ (fun e a w0 w' h hE=>ends_post (P:=Tryz.prog) (fn:=Tryz.f49) rfl (c₀:=c₀) (cs:=cs) (u:=.panicking [{ v:=stopV why,recovered:=true }]) h hE (.inr trivial))
  refine Wp_fr [(0,.pointer (some ⟨be,0,none⟩)),(5,stopV why)] (by simp) ?_
  generalize hAA:({ tmps:=_,defers:=[] }:Act) = AA
  have hd:AA.defers = []:=by rw [← hAA]
  have hA:AA.tmps.size = 15:=by rw [← hAA];simp
  clear hAA
  have hB:=hB0.later hw
  have hlt:=hB.lt
  have HB:=Lib.hid hB
  clear hB
  have hta:=assertStop (.agg #[.int .i64 why])
  repeat' (first|refine X_q ?_|refine X_nil ?_|(refine X_var (fun yn bn hn1 hn2 hn3 hn4 hn5=>?_))|refine W_seqk (fun K hK=>?_)|refine W_seqr ?_|refine W_block ?_|refine W_tt ?_|refine W_ff ?_|go_step)
  refine X_store (off:=0) (HB.out.later yn.2) (fun W2 hM2 hB2=>?_)
  have hB3:Blk W2 be E 1 (fun _=>.int .i64 why):=hB2.congr (fun k hk=>by
    obtain rfl:k = 0:=by omega
    simp [put_one,Value.cells])
  have hE:=Ext.of_store hM1 hB1 (Ext.trans hw yn.2) hM2 hB3 hsz
  repeat' (first|refine X_nil ?_|go_step)
  exact ⟨.inl rfl,by rw [fr_defers,hd],hE⟩
def caughtD (be:Nat):Deferred:={ target:=.fn (.func 49) #[],args:=#[.pointer (some ⟨be,0,none⟩)] }
theorem caughtD_invoke (be:Nat) (W:World):(invoke (caughtD be).target (caughtD be).args).run Tryz.prog W = .ok (.enter 49 #[.pointer (some ⟨be,0,none⟩)]) W:=by
  unfold caughtD
  simp [go_sem]
theorem defD_idle (be:Nat) (w:World):DefD Tryz.prog (caughtD be) .returning w .returning w :=
  ⟨.func 49,#[],_,_,rfl,fun W _=>caughtD_invoke be W,fun W hE=>(caught_idle be).mono fun e u' W' ⟨h1,h2,h3⟩=>⟨h1,h2,Ext.trans hE h3⟩⟩
theorem after_idle (be:Nat) (w:World):AfterD Tryz.prog [caughtD be] .returning w .returning w :=
  ⟨by simp,.returning,w,defD_idle be w,rfl,rfl⟩
theorem defD_panic {w W1 : World} {be : Nat} {E : TypeId} {x why : Int} (hB : Blk w be E 1 (fun _ => .int .i64 x)) (hM1 : Mod (· = be) w W1) (hB1 : Blk W1 be E 1 (fun _ => .int .i64 why)) (hsz : W1.heap.size = w.heap.size) :
    DefD Tryz.prog (caughtD be) (.panicking (stopC why)) w (.panicking [{ v:=stopV why,recovered:=true }]) W1:=by
  refine ⟨.func 49,#[],_,_,rfl,fun W _=>caughtD_invoke be W,fun W hE=>?_⟩
  exact (caught_panic hE hB hM1 hB1 hsz).mono fun e u' W' ⟨h1,h2,h3⟩=>⟨h1,h2,h3⟩
theorem after_panic {w W1 : World} {be : Nat} {E : TypeId} {x why : Int} (hB : Blk w be E 1 (fun _ => .int .i64 x)) (hM1 : Mod (· = be) w W1) (hB1 : Blk W1 be E 1 (fun _ => .int .i64 why)) (hsz : W1.heap.size = w.heap.size) :
    AfterD Tryz.prog [caughtD be] (.panicking (stopC why)) w .returning W1 :=
  ⟨by simp,_,W1,defD_panic hB hM1 hB1 hsz,rfl,rfl⟩
theorem put_err {w:World} {be:Nat} {E:TypeId} {x:Int} (why:Int) (hB:Blk w be E 1 (fun _=>.int .i64 x)):∃ W1,Mod (· = be) w W1∧Blk W1 be E 1 (fun _=>.int .i64 why)∧W1.heap.size = w.heap.size:=by
  refine ⟨w.setCell ⟨be,0,none⟩ (.int .i64 why),⟨rfl,rfl,rfl,by simp,fun k hk hne=>heap_setCell_other _ _ _ _ hne⟩,?_,by simp⟩
  obtain ⟨cs,h,hs,hg⟩:=hB
  refine ⟨cs.setIfInBounds 0 (.int .i64 why),heap_setCell_same w be 0 cs E _ h,by simp [hs],fun k hk=>?_⟩
  obtain rfl:k = 0:=by omega
  simp [hs]
end Go.Ws
