/- Lemmas for the statements of this layer (joined texts); no condition. -/
import Derived.Test.YtdabdbmehmccnaaGreatRows
import Derived.ProofKit
import Derived.OpenShut
import Derived.Deep.Slices
import Derived.Below
import Derived.Maps.RangeRun
import Derived.Deep.MidRow
import Derived.Test.YtdabdbmehmccnaaGreatCa01
namespace Go.Ws
open Go Go.RowKit Go.Proofs
set_option maxHeartbeats 4000000
set_option maxRecDepth 100000
set_option linter.unusedVariables false
set_option linter.unusedSimpArgs false
theorem Rq (a b n:Int) (w:World):
  Pure Tryz.prog 281 #[.int .i64 n,.int .i64 a,.int .i64 b] w (.bool (rZ n a b)):=by
 refine Fi (n:=15) Tryz.func281 ?_;intro A hd hA;simp only[ix,Nat.reduceAdd]
 repeat'(first|refine X_d (λvb Kt=>?_)|refine aF ?_|refine mg ?_|refine au ?_|refine ak (λK hK=>?_)|refine aj ?_|refine aC ?_|go_step)
 refine aA hd ⟨?_,aB.refl _⟩
 repeat cases ‹Eqn _ _›
 rfl
theorem afx (n:Int):(n==wrap64 (wrap32 n))=rZ n (-2147483648) 2147483647:=by
 rw[Bool.eq_iff_iff]
 simp only[rZ,wrap64,wrap32,beq_iff_eq,Bool.and_eq_true,decide_eq_true_eq]
 omega
theorem FW (e : cZ) (w : World) : Pure Tryz.prog 261 #[e.v] w (.int .i64 (if fJ e then 0 else 2)) := by
  refine Fi (n := 77) Tryz.func261 ?_; intro A hd hA; simp only [ix, Nat.reduceAdd]
  repeat' (first | refine aN Tryz.func281 (Rq _ _ _ _) ?_ | refine fU Tryz.func281 (fun _ => Rq _ _ _ _) ?_ | refine X_d (fun vb Kt => ?_) | refine anU (fun vb Kt => ?_) | refine aF ?_ | refine mg ?_ | refine au ?_ | refine ak (fun K hK => ?_) | refine aj ?_ | refine aC ?_ | refine aG ?_ | refine aJ ?_ | (refine dI (fun x K hK => ?_); go_simp; refine hK _ _ (aB.alloc _ _) ?_; clear hK K; refine aZ x ?_; generalize (World.ah _ x).heap.size = bn; intro yn aU bD bC bG aS; clear x) | refine bH ?_ | refine rE (fun hc => ?_) (fun hc => ?_) | go_step)
  all_goals (clear aU bD bC bG aS; try simp only [afx] at *)
  all_goals (first
    | (have hr : fJ e = false := by
         rw [← Bool.not_eq_true]
         intro hr
         repeat cases ‹Eqn _ _›
         simp [fJ, rZ] at * <;> omega
       simp only [hr]
       exact aA hd ⟨rfl, by simp⟩)
    | (have hr : fJ e = true := by
         repeat cases ‹Eqn _ _›
         simp [fJ, rZ] at * <;> omega
       simp only [hr]
       exact aA hd ⟨rfl, by simp⟩))
structure aaB (w:World) (b:Nat) (u:Value) (l:List cZ):Prop where
 lt:b<w.heap.size
 made:w.cell? ⟨b,21,none⟩=some (.bool true)
 log:w.cell? ⟨b,0,none⟩=some u
 rd:yQ w u l
theorem aaB.ah {w w':World} {b:Nat} {u:Value} {l:List cZ} (h:aaB w b u l) (hE:aB w w'):aaB w' b u l:=by
 obtain⟨x,rfl⟩:=hE.get
 exact⟨by simp[h.lt],by simp[h.lt,h.made],by simp[h.lt,h.log],h.rd.ah hE⟩
theorem KG {b:Nat} {w:World} (hb:b<w.heap.size) (hm:w.cell? ⟨b,21,none⟩=some (.bool true)):Pure Tryz.prog 209 #[.pointer (some ⟨b,0,none⟩)] w (.bool false):=by
 refine Fi (n:=12) Tryz.func209 ?_;intro A hd hA;simp only[ix,Nat.reduceAdd]
 repeat'(first|refine X_d (λvb Kt=>?_)|refine aF ?_|refine mg ?_|refine au ?_|refine ak (λK hK=>?_)|refine aj ?_|refine aC ?_|go_step)
 cases Kt
 exact aA hd ⟨rfl,by simp⟩
theorem Dy {b:Nat} {w:World} {u:Value} {l:List cZ} (h:aaB w b u l) (e:cZ):Pure Tryz.prog 229 #[.pointer (some ⟨b,0,none⟩),e.v] w (.int .i64 (bY l e)):=by
 obtain⟨hb,hm,hl,hr⟩:=h
 have T2:fJ e=false→bY l e=2:=λh=>by simp[bY,h]
 have T3:fJ e=true→4096≤l.length→bY l e=3:=λh h1=>by simp[bY,h,h1]
 have T4:fJ e=true→l.length<4096→vk l e=true→bY l e=180:=λh h1 h2=>by simp[bY,h,h2];omega
 have T0:fJ e=true→l.length<4096→vk l e=false→bY l e=0:=λh h1 h2=>by simp[bY,h,h2];omega
 have zu:=Zh hr
 obtain⟨A0,c,rfl,hc,jT,HR⟩:=hr.ent
 clear hr
 have Xe:∃ n,Hid (l.length=n):=⟨_,rfl⟩
 obtain⟨n,hln⟩:=Xe
 rw[hln.out]at hc hl
 clear zu
 have hrb:Hid (fJ e=true∨fJ e=false):=by cases fJ e<;>simp[Lib.hid]
 rcases n with _|m
 ·refine Fi (n:=44) Tryz.func229 ?_;intro A hd hA;simp only[ix,Nat.reduceAdd]
  repeat'(first|refine aN Tryz.func209 (KG (b:=b) (by simp[hb]) (by simp[hb,hm])) ?_|refine aN Tryz.func261 (FW e _) ?_|refine X_d (λvb Kt=>?_)|refine aF ?_|refine mg ?_|refine au ?_|refine ak (λK hK=>?_)|refine aj ?_|refine dA (by kernel_rfl) (by kernel_rfl) ?_|refine aC ?_|refine aG ?_|refine aJ ?_|(refine dI (λx K hK=>?_);go_simp;refine hK _ _ (aB.alloc _ _) ?_;clear hK K;refine aZ x ?_;generalize (World.ah _ x).heap.size=bn;intro yn aU bD bC bG aS;clear x)|refine bJ ?_|refine rE (λhc=>?_) (λhc=>?_)|go_step)
  ·rw[T2 (by cases hq:fJ e<;>simp[hq]at hc ⊢)]
   exact aA hd ⟨rfl,by simp⟩
  ·have hcr:fJ e=true:=by cases hq:fJ e<;>simp[hq]at hc ⊢
   cases Kt
   repeat'(first|refine aF ?_|refine jF ?_|refine aQ ?_|refine au ?_|refine ak (λK hK=>?_)|refine aj ?_|refine aC ?_|refine aG ?_|refine bJ ?_|go_step)
   rw[T0 hcr (by rw[hln.out];omega) (by
    have:l=[]:=List.eq_nil_of_length_eq_zero hln.out
    subst this;rfl)]
   exact aA hd ⟨rfl,by simp⟩
 ·obtain⟨x,b1,o,HE,rfl,hb1,c0,c1,c2,c3,c4,c5⟩:=HR.out m (by rw[hln.out];omega)
  have HLE:=U9 (e:=e) HE.out (by rw[hln.out])
  refine Fi (n:=44) Tryz.func229 ?_;intro A hd hA;simp only[ix,Nat.reduceAdd]
  repeat'(first|refine aN Tryz.func209 (KG (b:=b) (by simp[hb]) (by simp[hb,hm])) ?_|refine aN Tryz.func261 (FW e _) ?_|refine X_d (λvb Kt=>?_)|refine aF ?_|refine mg ?_|refine au ?_|refine ak (λK hK=>?_)|refine aj ?_|refine dA (by kernel_rfl) (by kernel_rfl) ?_|refine aC ?_|refine aG ?_|refine aJ ?_|(refine dI (λx K hK=>?_);go_simp;refine hK _ _ (aB.alloc _ _) ?_;clear hK K;refine aZ x ?_;generalize (World.ah _ x).heap.size=bn;intro yn aU bD bC bG aS;clear x)|refine bJ ?_|refine rE (λhc=>?_) (λhc=>?_)|go_step)
  ·rw[T2 (by cases hq:fJ e<;>simp[hq]at hc ⊢)]
   exact aA hd ⟨rfl,by simp⟩
  ·have hcr:fJ e=true:=by have:= ‹((if fJ e=true then(0:Int) else 2) != 0)=false›;cases hq:fJ e<;>simp[hq]at this ⊢
   rw[T3 hcr (by rw[hln.out];simp at hc;omega)]
   exact aA hd ⟨rfl,by simp⟩
  ·have hcr:fJ e=true:=by have:= ‹((if fJ e=true then(0:Int) else 2) != 0)=false›;cases hq:fJ e<;>simp[hq]at this ⊢
   cases Kt
   have BI:(m:Int)<m+1:=by omega
   have hl4:l.length<4096:=by rw[hln.out];simp at hc;omega
   repeat'(first|refine aF ?_|refine mg ?_|refine aQ ?_|refine au ?_|refine ak (λK hK=>?_)|refine aj ?_|refine aC ?_|refine aG ?_|refine rE (λhc=>?_) (λhc=>?_)|go_step)
   ·rw[T4 hcr hl4 (by rw[HLE];exact hc)]
    exact aA hd ⟨rfl,by simp⟩
   ·rw[T0 hcr hl4 (by rw[HLE];exact hc)]
    exact aA hd ⟨rfl,by simp⟩
structure Wr where
 high:Int
 fO:Int
 next:Int→Option Int
 opens:Int→Option Int
 done:Int→Option Bool
def Wr.zero:Wr:=⟨0,0,λ_=>none,λ_=>none,λ_=>none⟩
def ku (a b:Int):Int:=if a<b then b else a
def Wr.step (r:Wr) (n:Int) (e:cZ):Wr:=
 if e.kind≠1 then⟨ku r.high e.num,ku r.fO e.num,r.next,yu r.opens e.num none,yu r.done e.num (some true)⟩
 else⟨ku r.high e.num,r.fO,yu r.next e.num (some (ku ((r.next e.num).getD 0) (e.seq+1))),
  if(!(r.opens e.num).isSome&& !(r.done e.num).getD false)=true then yu r.opens e.num (some n) else r.opens,r.done⟩
def EK (i:Int):Nat→List cZ→Wr→Wr
 | _,[],r=>r
 | n,e::es,r=>EK i (n+1) es (if e.id=i then r.step n e else r)
def kV (l:List cZ) (i:Int):Wr:=EK i 0 l Wr.zero
theorem IG (i:Int) (e:cZ):∀ (l:List cZ) (n:Nat) (r:Wr),EK i n (l++[e]) r=if e.id=i then(EK i n l r).step ((n+l.length:Nat)) e else EK i n l r
 | [],n,r=>by simp[EK]
 | x::xs,n,r=>by
  simp only[List.cons_append,EK,List.length_cons]
  rw[IG i e xs,show n+1+xs.length=n+(xs.length+1) by omega]
theorem kT (l:List cZ) (e:cZ) (i:Int):kV (l++[e]) i=if e.id=i then(kV l i).step l.length e else kV l i:=by
 have:=IG i e l 0 Wr.zero
 simpa [kV] using this
theorem XF {l:List cZ} {e:cZ} (h:bY l e=0):fJ e=true∧l.length<4096∧vk l e=false:=by
 unfold bY at h
 cases h1:fJ e<;>simp[h1]at h
 refine⟨rfl,?_⟩
 by_cases h2:4096≤l.length
 ·simp[h2]at h
 ·cases h3:vk l e<;>simp[h2,h3]at h
  exact⟨by omega,rfl⟩
theorem zK {e:cZ} (h:fJ e=true): -1≤e.id∧e.id≤3∧0≤e.seq∧e.seq≤2147483647∧1≤e.kind∧e.kind≤3∧0≤e.num∧e.num≤2147483647∧(e.id<0→e.kind=1)∧(0≤e.id→1≤e.num):=by
 simp[fJ,rZ]at h
 omega
abbrev vB (x:Bool):Value:=.bool x
structure tY (w:World) (b:Nat) (u:Value) (mb:Nat→Nat→Nat) (g:Nat→Value) (l:List cZ):Prop where
 gy:cO w b 267 22 g
 g0:g 0=u
 g21:g 21=.bool true
 yK:BX w u l
 high:∀ i,i<4→g (1+i *5)=.int .i64 (kV l i).high
 fO:∀ i,i<4→g (1+i *5+1)=.int .i64 (kV l i).fO
 next:∀ i,i<4→g (1+i *5+2)=.map (some (mb i 0))
 opens:∀ i,i<4→g (1+i *5+3)=.map (some (mb i 1))
 done:∀ i,i<4→g (1+i *5+4)=.map (some (mb i 2))
 KH:∀ i,i<4→eU ki ki w (mb i 0) (kV l i).next
 EL:∀ i,i<4→eU ki ki w (mb i 1) (kV l i).opens
 Oi:∀ i,i<4→eU ki vB w (mb i 2) (kV l i).done
 inj:∀ i j i' j',i<4→j<3→i'<4→j'<3→mb i j=mb i' j'→i=i'∧j=j'
def YG (b:Nat) (u:Value) (mb:Nat→Nat→Nat) (k:Nat):Prop:=k=b∨u.ownBlock=some k∨∃ i j,i<4∧j<3∧k=mb i j
def MJ (w:World) (b:Nat) (F:Nat→Prop) (l:List cZ):Prop:=∃ u mb g,tY w b u mb g l∧∀ k,YG b u mb k→F k
section
variable {w w' : World} {b : Nat} {u : Value} {mb : Nat → Nat → Nat} {g : Nat → Value} {l : List cZ} {F G : Nat → Prop}
theorem tY.aiJ (h:tY w b u mb g l):aaB w b u l:=
 ⟨h.gy.lt,by rw[h.gy.cell (by omega),h.g21],by rw[h.gy.cell (by omega),h.g0],h.yK.rd cZ.len⟩
theorem tY.aW (h:tY w b u mb g l) (hM:bF G w w') (hF:∀ k,YG b u mb k→¬ G k):tY w' b u mb g l:=by
 have hmb:∀ i j,i<4→j<3→¬ G (mb i j):=λi j hi hj=>hF _ (.inr (.inr ⟨i,j,hi,hj,rfl⟩))
 exact⟨h.gy.aW hM (hF _ (.inl rfl)),h.g0,h.g21,h.yK.aW hM (λk hk=>hF k (.inr (.inl hk))),h.high,h.fO,h.next,h.opens,h.done,
  λi hi=>(h.KH i hi).aW hM (hmb i 0 hi (by omega)),λi hi=>(h.EL i hi).aW hM (hmb i 1 hi (by omega)),λi hi=>(h.Oi i hi).aW hM (hmb i 2 hi (by omega)),h.inj⟩
theorem MJ.aW (h:MJ w b F l) (hM:bF G w w') (hF:∀ k,F k→¬ G k):MJ w' b F l:=by
 obtain⟨u,mb,g,h,hf⟩:=h
 exact⟨u,mb,g,h.aW hM (λk hk=>hF k (hf k hk)),hf⟩
theorem MJ.ah (h:MJ w b F l) (hE:aB w w'):MJ w' b F l:=h.aW hE (λ_ _ h=>h)
theorem MJ.mono (h:MJ w b F l) (hF:∀ k,F k→G k):MJ w b G l:=by
 obtain⟨u,mb,g,h,hf⟩:=h
 exact⟨u,mb,g,h,λk hk=>hF k (hf k hk)⟩
theorem tY.lt (h:tY w b u mb g l):∀ k,YG b u mb k→k<w.heap.size:=by
 rintro k (rfl|hk|⟨i,j,hi,hj,rfl⟩)
 ·exact h.gy.lt
 ·exact h.yK.lt k hk
 ·match j,hj with
  | 0,_=>exact(h.KH i hi).lt
  | 1,_=>exact(h.EL i hi).lt
  | 2,_=>exact(h.Oi i hi).lt
theorem jI {w:World} {k:Nat} {cs:Array Value} {E:TypeId} {κ β:Type} [DecidableEq κ] {bZ:κ→ Value} {dG:β→ Value} {f:κ→ Option β} (h:w.heap[k]? =some (.cells cs E)) (hm:eU bZ dG w k f):False:=by
 obtain⟨L,c,hm,_⟩:=hm
 rw[hm.heap]at h
 cases h
theorem tY.Va (h:tY w b u mb g l):u.ownBlock≠some b:=by
 intro hu
 obtain⟨cs,hb,_⟩:=h.gy
 rcases h.yK.2 with⟨rfl,_⟩|⟨k,cap,cur,rfl,_,hk,_⟩
 ·cases hu
 ·cases hu
  rw[hb]at hk
  cases hk
theorem tY.Vb (h:tY w b u mb g l) {i j:Nat} (hi:i<4) (hj:j<3):u.ownBlock≠some (mb i j):=by
 intro hu
 rcases h.yK.2 with⟨rfl,_⟩|⟨k,cap,cur,rfl,_,hk,_⟩
 ·cases hu
 ·cases hu
  match j,hj with
  | 0,_=>exact jI hk (h.KH i hi)
  | 1,_=>exact jI hk (h.EL i hi)
  | 2,_=>exact jI hk (h.Oi i hi)
theorem tY.PK (h:tY w b u mb g l) {i j:Nat} (hi:i<4) (hj:j<3):b≠mb i j:=by
 intro hu
 obtain⟨cs,hb,_⟩:=h.gy
 subst hu
 match j,hj with
 | 0,_=>exact jI hb (h.KH i hi)
 | 1,_=>exact jI hb (h.EL i hi)
 | 2,_=>exact jI hb (h.Oi i hi)
end
structure Bo (w0 W:World) (b bn:Nat) (u v:Value) (mb:Nat→Nat→Nat) (i:Nat) (l:List cZ) (e:cZ) (g g':Nat→Value) (h m:Int) (f0 f1:Int→Option Int) (f2:Int→Option Bool):Prop where
 JG:tY w0 b u mb g l
 i4:i<4
 bn0:∀ k,YG b u mb k→k<bn
 bn1:bn<W.heap.size
 gy:cO W b 267 22 g'
 box:∀ k,W.cell? ⟨bn,k,none⟩= #[.int .i64 e.ep,.int .i64 e.id,.int .i64 e.num,.int .i64 e.seq,.int .i64 e.kind,.int .i64 e.val][k]?
 yK:BX W v (l++[e])
 vbk:∀ k,v.ownBlock=some k→u.ownBlock=some k∨bn<k
 m0:eU ki ki W (mb i 0) f0
 m1:eU ki ki W (mb i 1) f1
 m2:eU ki vB W (mb i 2) f2
 aW:bF (λk=>k=b∨u.ownBlock=some k∨∃ j,j<3∧k=mb i j) w0 W
 g0:g' 0=v
 gh:g' (1+i *5)=.int .i64 h
 gm:g' (1+i *5+1)=.int .i64 m
 gr:∀ k,k≠0→k≠1+i *5→k≠1+i *5+1→g' k=g k
section
variable {w0 W W' : World} {b bn : Nat} {u v : Value} {mb : Nat → Nat → Nat} {i : Nat} {l : List cZ} {e : cZ} {g g' : Nat → Value} {h m : Int} {f0 f1 : Int → Option Int} {f2 : Int → Option Bool}
theorem Bo.ag6 (M:Bo w0 W b bn u v mb i l e g g' h m f0 f1 f2):v.ownBlock≠some b:=by
 intro hu
 rcases M.vbk b hu with h|h
 ·exact M.JG.Va h
 ·have:=M.bn0 b (.inl rfl);omega
theorem Bo.ag7 (M:Bo w0 W b bn u v mb i l e g g' h m f0 f1 f2) {j:Nat} (hj:j<3):v.ownBlock≠some (mb i j):=by
 intro hu
 rcases M.vbk _ hu with h|h
 ·exact M.JG.Vb M.i4 hj h
 ·have:=M.bn0 (mb i j) (.inr (.inr ⟨i,j,M.i4,hj,rfl⟩));omega
theorem Bo.Hu (M:Bo w0 W b bn u v mb i l e g g' h m f0 f1 f2) {j k:Nat} (hj:j<3) (hk:k<3) (jm:j≠k):mb i j≠mb i k:=λh=>jm (M.JG.inj i j i k M.i4 hj M.i4 hk h).2
theorem Bo.aew (M:Bo w0 W b bn u v mb i l e g g' h m f0 f1 f2) {j:Nat} (hj:j<3):bn≠mb i j:=by
 have:=M.bn0 (mb i j) (.inr (.inr ⟨i,j,M.i4,hj,rfl⟩));omega
theorem Bo.store (M:Bo w0 W b bn u v mb i l e g g' h m f0 f1 f2) (hM:bF (· =b) W W') {g'':Nat→Value} {h' m':Int} (hB:cO W' b 267 22 g'') (h0:g'' 0=g' 0)
  (gh:g'' (1+i *5)=.int .i64 h') (gm:g'' (1+i *5+1)=.int .i64 m') (gr:∀ k,k≠0→k≠1+i *5→k≠1+i *5+1→g'' k=g' k):Bo w0 W' b bn u v mb i l e g g'' h' m' f0 f1 f2:=by
 have hb:=M.bn0 b (.inl rfl)
 have Yh:∀ j,j<3→¬ (mb i j=b):=λj hj=>λh=>M.JG.PK M.i4 hj h.symm
 exact⟨M.JG,M.i4,M.bn0,Nat.lt_of_lt_of_le M.bn1 hM.size,hB,λk=>(bI hM M.bn1 (by omega)).trans (M.box k),M.yK.aW hM (λk hk=>λe=>M.ag6 (e▸hk)),M.vbk,
  M.m0.aW hM (Yh 0 (by omega)),M.m1.aW hM (Yh 1 (by omega)),M.m2.aW hM (Yh 2 (by omega)),bF.trans M.aW hM (λ_ _ h=>h) (λ_ _ h=>.inl h),h0.trans M.g0,gh,gm,
  λk h0 h1 h2=>(gr k h0 h1 h2).trans (M.gr k h0 h1 h2)⟩
theorem Bo.ag8 (M:Bo w0 W b bn u v mb i l e g g' h m f0 f1 f2) (hM:bF (· =b) W W') {h':Int} (hB:cO W' b 267 22 (put g' (1+i *5) [.int .i64 h'])):
  Bo w0 W' b bn u v mb i l e g (put g' (1+i *5) [.int .i64 h']) h' m f0 f1 f2:=
 M.store hM hB (by rw[kZ,if_neg (by omega)]) (by rw[kZ,if_pos rfl]) (by rw[kZ,if_neg (by omega)];exact M.gm) (λk _ h1 _=>by rw[kZ,if_neg h1])
theorem Bo.ag9 (M:Bo w0 W b bn u v mb i l e g g' h m f0 f1 f2) (hM:bF (· =b) W W') {m':Int} (hB:cO W' b 267 22 (put g' (1+i *5+1) [.int .i64 m'])):
  Bo w0 W' b bn u v mb i l e g (put g' (1+i *5+1) [.int .i64 m']) h m' f0 f1 f2:=
 M.store hM hB (by rw[kZ,if_neg (by omega)]) (by rw[kZ,if_neg (by omega)];exact M.gh) (by rw[kZ,if_pos rfl]) (λk _ _ h1=>by rw[kZ,if_neg h1])
theorem Bo.map (M:Bo w0 W b bn u v mb i l e g g' h m f0 f1 f2) {j:Nat} (hj:j<3) (hM:bF (· =mb i j) W W') {f0' f1':Int→Option Int} {f2':Int→Option Bool}
  (k0:eU ki ki W' (mb i 0) f0') (k1:eU ki ki W' (mb i 1) f1') (k2:eU ki vB W' (mb i 2) f2'):Bo w0 W' b bn u v mb i l e g g' h m f0' f1' f2':=by
 have hb:=M.bn0 b (.inl rfl)
 exact⟨M.JG,M.i4,M.bn0,Nat.lt_of_lt_of_le M.bn1 hM.size,M.gy.aW hM (M.JG.PK M.i4 hj),λk=>(bI hM M.bn1 (M.aew hj)).trans (M.box k),M.yK.aW hM (λk hk=>λe=>M.ag7 hj (e▸hk)),M.vbk,
  k0,k1,k2,bF.trans M.aW hM (λ_ _ h=>h) (λ_ _ h=>.inr (.inr ⟨j,hj,h⟩)),M.g0,M.gh,M.gm,M.gr⟩
theorem Bo.aqm (M:Bo w0 W b bn u v mb i l e g g' h m f0 f1 f2) (hM:bF (· =mb i 0) W W') {f:Int→Option Int} (k:eU ki ki W' (mb i 0) f):Bo w0 W' b bn u v mb i l e g g' h m f f1 f2:=
 M.map (by omega) hM k (M.m1.aW hM (M.Hu (by omega) (by omega) (by omega))) (M.m2.aW hM (M.Hu (by omega) (by omega) (by omega)))
theorem Bo.alT (M:Bo w0 W b bn u v mb i l e g g' h m f0 f1 f2) (hM:bF (· =mb i 1) W W') {f:Int→Option Int} (k:eU ki ki W' (mb i 1) f):Bo w0 W' b bn u v mb i l e g g' h m f0 f f2:=
 M.map (by omega) hM (M.m0.aW hM (M.Hu (by omega) (by omega) (by omega))) k (M.m2.aW hM (M.Hu (by omega) (by omega) (by omega)))
theorem Bo.aqn (M:Bo w0 W b bn u v mb i l e g g' h m f0 f1 f2) (hM:bF (· =mb i 2) W W') {f:Int→Option Bool} (k:eU ki vB W' (mb i 2) f):Bo w0 W' b bn u v mb i l e g g' h m f0 f1 f:=
 M.map (by omega) hM (M.m0.aW hM (M.Hu (by omega) (by omega) (by omega))) (M.m1.aW hM (M.Hu (by omega) (by omega) (by omega))) k
theorem Bo.Um (M:Bo w0 W b bn u v mb i l e g g' h m f0 f1 f2):b<W.heap.size∧W.cell? ⟨b,1+i *5,none⟩=some (.int .i64 h)∧W.cell? ⟨b,1+i *5+1,none⟩=some (.int .i64 m)∧
  W.cell? ⟨b,1+i *5+2,none⟩=some (.map (some (mb i 0)))∧W.cell? ⟨b,1+i *5+3,none⟩=some (.map (some (mb i 1)))∧W.cell? ⟨b,1+i *5+4,none⟩=some (.map (some (mb i 2))):=by
 have h4:=M.i4
 exact⟨M.gy.lt,by rw[M.gy.cell (by omega),M.gh],by rw[M.gy.cell (by omega),M.gm],by rw[M.gy.cell (by omega),M.gr _ (by omega) (by omega) (by omega),M.JG.next i h4],
  by rw[M.gy.cell (by omega),M.gr _ (by omega) (by omega) (by omega),M.JG.opens i h4],by rw[M.gy.cell (by omega),M.gr _ (by omega) (by omega) (by omega),M.JG.done i h4]⟩
theorem Bo.close (M:Bo w0 W b bn u v mb i l e g g' h m f0 f1 f2) (Bj:kV (l++[e]) i=⟨h,m,f0,f1,f2⟩) (Fj:∀ j:Nat,j<4→j≠i→kV (l++[e]) j=kV l j):tY W b v mb g' (l++[e]):=by
 have h4:=M.i4
 have bT:∀ j k,j≠i→j<4→k<3→¬ (mb j k=b∨u.ownBlock=some (mb j k)∨∃ k',k'<3∧mb j k=mb i k'):=by
  rintro j k hj hj4 hk (h|h|⟨k',sF,h⟩)
  ·exact M.JG.PK hj4 hk h.symm
  ·exact M.JG.Vb hj4 hk h
  ·exact hj (M.JG.inj j k i k' hj4 hk h4 sF h).1
 refine⟨M.gy,M.g0,(M.gr 21 (by omega) (by omega) (by omega)).trans M.JG.g21,M.yK,?_,?_,?_,?_,?_,?_,?_,?_,M.JG.inj⟩
 ·intro j hj
  by_cases oM:j=i
  ·subst oM;rw[Bj];exact M.gh
  ·rw[Fj j hj oM,M.gr _ (by omega) (by omega) (by omega)];exact M.JG.high j hj
 ·intro j hj
  by_cases oM:j=i
  ·subst oM;rw[Bj];exact M.gm
  ·rw[Fj j hj oM,M.gr _ (by omega) (by omega) (by omega)];exact M.JG.fO j hj
 ·intro j hj;rw[M.gr _ (by omega) (by omega) (by omega)];exact M.JG.next j hj
 ·intro j hj;rw[M.gr _ (by omega) (by omega) (by omega)];exact M.JG.opens j hj
 ·intro j hj;rw[M.gr _ (by omega) (by omega) (by omega)];exact M.JG.done j hj
 ·intro j hj
  by_cases oM:j=i
  ·subst oM;rw[Bj];exact M.m0
  ·rw[Fj j hj oM];exact(M.JG.KH j hj).aW M.aW (bT j 0 oM hj (by omega))
 ·intro j hj
  by_cases oM:j=i
  ·subst oM;rw[Bj];exact M.m1
  ·rw[Fj j hj oM];exact(M.JG.EL j hj).aW M.aW (bT j 1 oM hj (by omega))
 ·intro j hj
  by_cases oM:j=i
  ·subst oM;rw[Bj];exact M.m2
  ·rw[Fj j hj oM];exact(M.JG.Oi j hj).aW M.aW (bT j 2 oM hj (by omega))
theorem Bo.fin (M:Bo w0 W b bn u v mb i l e g g' h m f0 f1 f2) (Bj:kV (l++[e]) i=⟨h,m,f0,f1,f2⟩) (Fj:∀ j:Nat,j<4→j≠i→kV (l++[e]) j=kV l j) {w:World} {F:Nat→Prop} (hF:∀ k,YG b u mb k→F k) (hw:w.heap.size≤bn) (hE:aB w w0):
  bF F w W∧MJ W b (λk=>F k∨w.heap.size≤k) (l++[e]):=by
 refine⟨bF.trans hE M.aW (λ_ _ h=>h.elim) ?_,_,_,_,M.close Bj Fj,?_⟩
 ·rintro k _ (rfl|h|⟨j,hj,rfl⟩)
  ·exact hF _ (.inl rfl)
  ·exact hF _ (.inr (.inl h))
  ·exact hF _ (.inr (.inr ⟨i,j,M.i4,hj,rfl⟩))
 ·rintro k (rfl|h|⟨j,j',hj,AQ,rfl⟩)
  ·exact .inl (hF _ (.inl rfl))
  ·rcases M.vbk k h with h|h
   ·exact .inl (hF _ (.inr (.inl h)))
   ·exact .inr (by omega)
  ·exact .inl (hF _ (.inr (.inr ⟨j,j',hj,AQ,rfl⟩)))
theorem Bo.start (T:tY w0 b u mb g l) (hi:i<4) (NT:∀ k,YG b u mb k→k<bn) (hb1:bn<w0.heap.size)
  (box:∀ k,w0.cell? ⟨bn,k,none⟩= #[.int .i64 e.ep,.int .i64 e.id,.int .i64 e.num,.int .i64 e.seq,.int .i64 e.kind,.int .i64 e.val][k]?) {w1 W1:World} (hE:aB w0 w1) (fM:bF (λk=>u.ownBlock=some k) w1 W1)
  (hO:BX W1 v (l++[e])) (hF:v.ownBlock=u.ownBlock∨∃ k,v.ownBlock=some k∧w1.heap.size≤k) (kL:bF (· =b) W1 W) (hB:cO W b 267 22 (put g 0 [v])):
  Bo w0 W b bn u v mb i l e g (put g 0 [v]) (kV l i).high (kV l i).fO (kV l i).next (kV l i).opens (kV l i).done:=by
 have hbb:=NT b (.inl rfl)
 have Jo:=hE.size
 have Kt:∀ k,v.ownBlock=some k→u.ownBlock=some k∨bn<k:=by
  intro k hk
  rcases hF with h|⟨k',h,hle⟩
  ·exact .inl (h▸hk)
  ·rw[h]at hk;cases hk;exact .inr (by omega)
 have Vd:bF (λk=>u.ownBlock=some k) w0 W1:=bF.trans hE fM (λ_ _ h=>h.elim) (λ_ _ h=>h)
 have BI:∀ j,j<3→¬ (u.ownBlock=some (mb i j)):=λj hj=>T.Vb hi hj
 have Yh:∀ j,j<3→¬ (mb i j=b):=λj hj h=>T.PK hi hj h.symm
 refine⟨T,hi,NT,Nat.lt_of_lt_of_le hb1 (Nat.le_trans Vd.size kL.size),hB,λk=>?_,hO.aW kL ?_,Kt,((T.KH i hi).aW Vd (BI 0 (by omega))).aW kL (Yh 0 (by omega)),((T.EL i hi).aW Vd (BI 1 (by omega))).aW kL (Yh 1 (by omega)),
  ((T.Oi i hi).aW Vd (BI 2 (by omega))).aW kL (Yh 2 (by omega)),bF.trans Vd kL (λ_ _ h=>.inr (.inl h)) (λ_ _ h=>.inl h),by rw[kZ,if_pos rfl],?_,?_,?_⟩
 ·refine(bI kL (Nat.lt_of_lt_of_le hb1 Vd.size) (by omega)).trans ((bI Vd hb1 ?_).trans (box k))
  intro h
  have:=NT bn (.inr (.inl h));omega
 ·intro k hk h
  rcases Kt k hk with h'|h'
  ·exact T.Va (h▸h')
  ·omega
 ·rw[kZ,if_neg (by omega)];exact T.high i hi
 ·rw[kZ,if_neg (by omega)];exact T.fO i hi
 ·intro k h0 _ _;rw[kZ,if_neg h0]
end
structure aI where
 self:Int
 least:Int
 role:Int
 epoch:Int
 log:List cZ
 flushed:Int
 high:Int
 version:Int
 qM:Int
 isr:List Int
 counts:List Int
 known:Nat→Int
def yC (s:aI) (uL uI uC:Value):Nat→Value
 | 0=>.int .i64 s.version
 | 1=>.int .i64 s.qM
 | 2=>uI
 | 3=>uC
 | 4=>.int .i64 (s.known 0)
 | 5=>.int .i64 (s.known 1)
 | 6=>.int .i64 (s.known 2)
 | 7=>.int .i64 (s.known 3)
 | 8=>.int .i64 s.self
 | 9=>.int .i64 s.least
 | 10=>.int .i64 s.role
 | 11=>.int .i64 s.epoch
 | 12=>uL
 | 13=>.int .i64 s.flushed
 | _=>.int .i64 s.high
theorem tK {P:Nat→Prop} (h:P 0∧P 1∧P 2∧P 3∧P 4∧P 5∧P 6∧P 7∧P 8∧P 9∧P 10∧P 11∧P 12∧P 13∧P 14):∀ k,k<15→P k:=by
 obtain⟨h0,h1,h2,h3,h4,h5,h6,h7,h8,h9,h10,h11,h12,h13,h14⟩:=h
 intro k hk
 obtain rfl|rfl|rfl|rfl|rfl|rfl|rfl|rfl|rfl|rfl|rfl|rfl|rfl|rfl|rfl:k=0∨k=1∨k=2∨k=3∨k=4∨k=5∨k=6∨k=7∨k=8∨k=9∨k=10∨k=11∨k=12∨k=13∨k=14:=by omega
 all_goals assumption
structure JQ (w:World) (v:Value) (l:List Int):Prop where
 rd:BU w v l
 lt:∀ k,v.ownBlock=some k→k<w.heap.size
instance {w:World} {v:Value} {l:List Int}:CoeOut (JQ w v l) (BU w v l):=⟨JQ.rd⟩
theorem JQ.ah {w w':World} {v:Value} {l:List Int} (h:JQ w v l) (hE:aB w w'):JQ w' v l:=⟨h.rd.ah hE,λk hk=>Nat.lt_of_lt_of_le (h.lt k hk) hE.size⟩
theorem JQ.aW {F:Nat→Prop} {w w':World} {v:Value} {l:List Int} (h:JQ w v l) (hM:bF F w w') (hF:∀ b,v.ownBlock=some b→¬ F b):JQ w' v l:=⟨h.rd.aW hM hF,λk hk=>Nat.lt_of_lt_of_le (h.lt k hk) hM.size⟩
theorem JQ.nil (w:World):JQ w (.slice none 0 0) []:=⟨Rd.nil w,λ_ h=>nomatch h⟩
theorem JQ.int {w:World} {v:Value} {l:List Int} (h:JQ w v l):∃ A c,v=.slice A l.length c∧l.length≤c∧c≤9223372036854775807∧
  Hid (∀i,i<l.length→∃ e b o,Hid (l[i]? =some e)∧A=some ⟨b,o,none⟩∧b<w.heap.size∧w.cell? ⟨b,o+i,none⟩=some (.int .i64 e)):=h.rd.int
theorem JQ.XG {w:World} {v:Value} {l:List Int} (h:JQ w v l) {k:Nat} (hk:v.ownBlock=some k):k<w.heap.size:=h.lt k hk
theorem dQ.Oj {w:World} {v:Value} {l:List Int} (h:ig w v l):JQ w v l:=⟨h.rd (enc:=xK) (k:=1) (λ_=>rfl),λk hk=>h.lt k hk⟩
structure eG (w:World) (b:Nat) (uL uI uC:Value) (s:aI):Prop where
 gy:cO w b 128 15 (yC s uL uI uC)
 yK:BX w uL s.log
 ri:JQ w uI s.isr
 rc:JQ w uC s.counts
 nL:uL.ownBlock≠some b
 nI:uI.ownBlock≠some b
 nC:uC.ownBlock≠some b
 nX:∀ k,uL.ownBlock=some k→uI.ownBlock≠some k∧uC.ownBlock≠some k
def Rt (b:Nat) (uL uI uC:Value) (k:Nat):Prop:=k=b∨uL.ownBlock=some k∨uI.ownBlock=some k∨uC.ownBlock=some k
structure oD (w:World) (b:Nat) (F:Nat→Prop) (s:aI):Prop where
 ex:∃ uL uI uC,eG w b uL uI uC s∧(∀k,Rt b uL uI uC k→F k)
section
variable {w w' : World} {b : Nat} {uL uI uC : Value} {s s' : aI} {F G : Nat → Prop}
theorem eG.aW (h:eG w b uL uI uC s) (hM:bF G w w') (hF:∀ k,Rt b uL uI uC k→¬ G k):eG w' b uL uI uC s:=
 ⟨h.gy.aW hM (hF _ (.inl rfl)),h.yK.aW hM (λk hk=>hF k (.inr (.inl hk))),h.ri.aW hM (λk hk=>hF k (.inr (.inr (.inl hk)))),h.rc.aW hM (λk hk=>hF k (.inr (.inr (.inr hk)))),h.nL,h.nI,h.nC,h.nX⟩
theorem eG.ah (h:eG w b uL uI uC s) (hE:aB w w'):eG w' b uL uI uC s:=h.aW hE (λ_ _ h=>h)
theorem eG.dY {off:Nat} {seg:List Value} (h:eG w b uL uI uC s) (hM:bF (· =b) w w') (hB:cO w' b 128 15 (put (yC s uL uI uC) off seg)) (hl:s'.log=s.log) (hi:s'.isr=s.isr) (hc:s'.counts=s.counts)
  (hg:∀ k,k<15→yC s' uL uI uC k=put (yC s uL uI uC) off seg k):eG w' b uL uI uC s':=
 ⟨hB.congr hg,by rw[hl];exact h.yK.aW hM (λk hk he=>h.nL (he▸hk)),by rw[hi];exact h.ri.aW hM (λk hk he=>h.nI (he▸hk)),by rw[hc];exact h.rc.aW hM (λk hk he=>h.nC (he▸hk)),h.nL,h.nI,h.nC,h.nX⟩
theorem eG.cells (h:eG w b uL uI uC s):b<w.heap.size∧w.cell? ⟨b,0,none⟩=some (.int .i64 s.version)∧w.cell? ⟨b,1,none⟩=some (.int .i64 s.qM)∧w.cell? ⟨b,2,none⟩=some uI∧w.cell? ⟨b,3,none⟩=some uC∧
  w.cell? ⟨b,8,none⟩=some (.int .i64 s.self)∧w.cell? ⟨b,9,none⟩=some (.int .i64 s.least)∧w.cell? ⟨b,10,none⟩=some (.int .i64 s.role)∧w.cell? ⟨b,11,none⟩=some (.int .i64 s.epoch)∧w.cell? ⟨b,12,none⟩=some uL∧w.cell? ⟨b,13,none⟩=some (.int .i64 s.flushed)∧w.cell? ⟨b,14,none⟩=some (.int .i64 s.high):=
 ⟨h.gy.lt,h.gy.cell (by omega),h.gy.cell (by omega),h.gy.cell (by omega),h.gy.cell (by omega),h.gy.cell (by omega),h.gy.cell (by omega),h.gy.cell (by omega),h.gy.cell (by omega),h.gy.cell (by omega),h.gy.cell (by omega),h.gy.cell (by omega)⟩
theorem eG.JR (h:eG w b uL uI uC s) (i:Nat) (hi:i<4):w.cell? ⟨b,4+i,none⟩=some (.int .i64 (s.known i)):=by
 obtain rfl|rfl|rfl|rfl:i=0∨i=1∨i=2∨i=3:=by omega
 all_goals exact h.gy.cell (by omega)
theorem eG.lt (h:eG w b uL uI uC s):∀ k,Rt b uL uI uC k→k<w.heap.size:=by
 rintro k (rfl|hk|hk|hk)
 ·exact h.gy.lt
 ·exact h.yK.lt k hk
 ·exact h.ri.XG hk
 ·exact h.rc.XG hk
theorem oD.aW (h:oD w b F s) (hM:bF G w w') (hF:∀ k,F k→¬ G k):oD w' b F s:=by
 obtain⟨uL,uI,uC,h,hf⟩:=h.ex
 exact⟨uL,uI,uC,h.aW hM (λk hk=>hF k (hf k hk)),hf⟩
theorem oD.ah (h:oD w b F s) (hE:aB w w'):oD w' b F s:=h.aW hE (λ_ _ h=>h)
theorem oD.mono (h:oD w b F s) (hF:∀ k,F k→G k):oD w b G s:=by
 obtain⟨uL,uI,uC,h,hf⟩:=h.ex
 exact⟨uL,uI,uC,h,λk hk=>hF k (hf k hk)⟩
theorem oD.Fp (h:oD w b F s):oD w b (λk=>F k∧k<w.heap.size) s:=by
 obtain⟨uL,uI,uC,h,hf⟩:=h.ex
 exact⟨uL,uI,uC,h,λk hk=>⟨hf k hk,h.lt k hk⟩⟩
theorem oD.yK (h:oD w b F s):F b:=by
 obtain⟨uL,uI,uC,h,hf⟩:=h.ex
 exact hf b (.inl rfl)
end
theorem PL {b:Nat} {w:World} {n:Int} (hb:b<w.heap.size) (hm:w.cell? ⟨b,9,none⟩=some (.int .i64 n)):Pure Tryz.prog 69 #[.pointer (some ⟨b,0,none⟩)] w (.bool (n==0)):=by
 refine Fi (n:=12) Tryz.func69 ?_;intro A hd hA;simp only[ix,Nat.reduceAdd]
 repeat'(first|refine dw ?_|refine aF ?_|refine au ?_|refine ak (λK hK=>?_)|refine aj ?_|refine aC ?_|go_step)
 exact aA hd ⟨rfl,by simp⟩
theorem jJ (n:Int) (w:World):Pure Tryz.prog 107 #[.int .i64 n] w (.bool (rZ n 0 3)):=by
 by_cases h1:0≤n
 ·by_cases h2:n<4
  ·have h:rZ n 0 3=true:=by simp[rZ];omega
   rw[h]
   refine Fi (n:=9) Tryz.func107 ?_;intro A hd hA;simp only[ix,Nat.reduceAdd]
   repeat'(first|refine dw ?_|refine aF ?_|refine au ?_|refine ak (λK hK=>?_)|refine aj ?_|refine aC ?_|go_step)
   exact aA hd ⟨rfl,by simp⟩
  ·have h:rZ n 0 3=false:=by simp[rZ];omega
   rw[h]
   refine Fi (n:=9) Tryz.func107 ?_;intro A hd hA;simp only[ix,Nat.reduceAdd]
   repeat'(first|refine dw ?_|refine aF ?_|refine au ?_|refine ak (λK hK=>?_)|refine aj ?_|refine aC ?_|go_step)
   exact aA hd ⟨rfl,by simp⟩
 ·have h:rZ n 0 3=false:=by simp[rZ];omega
  rw[h]
  refine Fi (n:=9) Tryz.func107 ?_;intro A hd hA;simp only[ix,Nat.reduceAdd]
  repeat'(first|refine aF ?_|refine mg ?_|refine au ?_|refine ak (λK hK=>?_)|refine aj ?_|refine aC ?_|go_step)
  exact aA hd ⟨rfl,by simp⟩
theorem nM (n:Int) (w:World):Pure Tryz.prog 257 #[.int .i64 n] w (.bool (rZ n 0 2147483647)):=by
 by_cases h1:0≤n
 ·by_cases h2:n≤2147483647
  ·have h:rZ n 0 2147483647=true:=by simp[rZ];omega
   rw[h]
   refine Fi (n:=9) Tryz.func257 ?_;intro A hd hA;simp only[ix,Nat.reduceAdd]
   repeat'(first|refine dw ?_|refine aF ?_|refine au ?_|refine ak (λK hK=>?_)|refine aj ?_|refine aC ?_|go_step)
   exact aA hd ⟨rfl,by simp⟩
  ·have h:rZ n 0 2147483647=false:=by simp[rZ];omega
   rw[h]
   refine Fi (n:=9) Tryz.func257 ?_;intro A hd hA;simp only[ix,Nat.reduceAdd]
   repeat'(first|refine dw ?_|refine aF ?_|refine au ?_|refine ak (λK hK=>?_)|refine aj ?_|refine aC ?_|go_step)
   exact aA hd ⟨rfl,by simp⟩
 ·have h:rZ n 0 2147483647=false:=by simp[rZ];omega
  rw[h]
  refine Fi (n:=9) Tryz.func257 ?_;intro A hd hA;simp only[ix,Nat.reduceAdd]
  repeat'(first|refine aF ?_|refine mg ?_|refine au ?_|refine ak (λK hK=>?_)|refine aj ?_|refine aC ?_|go_step)
  exact aA hd ⟨rfl,by simp⟩
def kP:Option Int→List Int→Bool
 | _,[]=>true
 | p,x::xs=>rZ x 0 3&&(match p with|none=>true|some q=>decide (q<x))&&kP (some x) xs
theorem qg (p:Option Int) (x:Int) (xs:List Int):kP p (x::xs)=(rZ x 0 3&&(match p with|none=>true|some q=>decide (q<x))&&kP (some x) xs):=rfl
def fP (l:List Int):Bool:=kP none l
def Ce (l:List Int) (k:Nat):Option Int:=if k=0 then none else l[k-1]?
theorem oq (l:List Int) (v:Value) (w:World) (hl:BU w v l):Pure Tryz.prog 164 #[v] w (.bool (fP l)):=by
 obtain⟨A0,c,rfl,hc,jT,HR⟩:=hl.int
 clear hl
 have HR:=Zh HR
 refine Fi (n:=29) Tryz.func164 ?_;intro A hd hA;simp only[ix,Nat.reduceAdd]
 repeat'(first|refine aF ?_|refine au ?_|refine ak (λK hK=>?_)|refine aj ?_|refine aJ ?_|go_step)
 refine dJ [0,5,6,7] (λn vs w'=>∃ k:Nat,w'=w∧k+n=l.length∧vs=[.slice A0 l.length c,.slice A0 l.length c,.int .i64 l.length,.int .i64 k]∧kP (Ce l k) (l.drop k)=fP l) l.length hd hA (by decide) ⟨0,rfl,by omega,by simp,by simp[Ce,fP]⟩ ?_
 clear hd hA A;intro n vs B w' hd hA _ ⟨k,hw,hk,jk,hm⟩;subst hw jk
 simp only[List.zip_cons_cons,List.zip_nil_right,List.zip_nil_left]
 by_cases hlt:k<l.length
 ·obtain⟨x,b,o,HX,rfl,hb,c0⟩:=HR.out k hlt
  have sZ:(k:Int)<l.length:=by omega
  have MK:l.drop k=x::l.drop (k+1):=by
   rw[List.drop_eq_getElem_cons hlt]
   have Ru:=HX.out
   rw[List.getElem?_eq_getElem hlt]at Ru
   cases Ru;rfl
  have Jp:Ce l (k+1)=some x:=by simp[Ce,HX.out]
  rw[MK,qg]at hm
  have Hpn:=Zh Jp
  clear MK Jp
  by_cases D5:rZ x 0 3=true
  ·by_cases hk0:(0:Int)<k
   ·obtain⟨y,b',o',HY,Dk,-,d0⟩:=HR.out (k-1) (by omega)
    cases Dk
    have hp:Ce l k=some y:=by rw[Ce,if_neg (by omega)];exact HY.out
    rw[hp]at hm
    have anY:0<k:=by omega
    have JF:(k:Int)-1=((k-1:Nat):Int):=by omega
    have anZ:((k-1:Nat):Int)<l.length:=by omega
    by_cases hyx:y<x
    ·have uD:kP (some x) (l.drop (k+1))=fP l:=by simpa [D5,hyx] using hm
     have HM:=Zh uD
     have hnx:¬ x≤y:=by omega
     clear hm uD hp
     repeat'(first|refine aN Tryz.func107 (D5▸jJ x _) ?_|refine dw ?_|refine aF ?_|refine au ?_|refine ak (λK hK=>?_)|refine aj ?_|refine aG ?_|refine aJ ?_|refine bH ?_|refine bJ ?_|go_step)
     exact⟨_,_,rfl,hd,hA,n-1,by omega,k+1,trivial,by omega,by simp,by rw[Hpn.out];exact HM.out⟩
    ·have uD:fP l=false:=by simpa [hyx] using hm.symm
     have HM:=Zh uD
     have hnx:x≤y:=by omega
     clear hm uD hp
     repeat'(first|refine aN Tryz.func107 (D5▸jJ x _) ?_|refine dw ?_|refine aF ?_|refine au ?_|refine ak (λK hK=>?_)|refine aj ?_|refine aC ?_|refine aG ?_|refine aJ ?_|refine bH ?_|go_step)
     exact aA hd ⟨by rw[HM.out],by simp⟩
   ·have hp:Ce l k=none:=by rw[Ce,if_pos (by omega)]
    rw[hp]at hm
    have uD:kP (some x) (l.drop (k+1))=fP l:=by simpa [D5] using hm
    have HM:=Zh uD
    have anY:¬ 0<k:=by omega
    clear hm uD hp
    repeat'(first|refine aN Tryz.func107 (D5▸jJ x _) ?_|refine dw ?_|refine aF ?_|refine mg ?_|refine jF ?_|refine au ?_|refine ak (λK hK=>?_)|refine aj ?_|refine aG ?_|refine aJ ?_|refine bH ?_|refine bJ ?_|go_step)
    exact⟨_,_,rfl,hd,hA,n-1,by omega,k+1,trivial,by omega,by simp,by rw[Hpn.out];exact HM.out⟩
  ·have hbf:rZ x 0 3=false:=by simpa using D5
   have uD:fP l=false:=by rw[←hm,hbf];simp
   have HM:=Zh uD
   clear hm uD
   repeat'(first|refine aN Tryz.func107 (hbf▸jJ x _) ?_|refine aF ?_|refine mg ?_|refine jF ?_|refine au ?_|refine ak (λK hK=>?_)|refine aj ?_|refine aC ?_|refine aG ?_|refine aJ ?_|refine bH ?_|go_step)
   exact aA hd ⟨by rw[HM.out],by simp⟩
 ·obtain rfl:k=l.length:=by omega
  rw[List.drop_length]at hm;simp only[kP]at hm
  have HM:=Zh hm
  clear hm
  repeat'(first|refine aF ?_|refine au ?_|refine ak (λK hK=>?_)|refine aj ?_|refine aC ?_|refine dS ?_|refine bJ ?_|go_step)
  exact aA hd ⟨by rw[←HM.out],by simp⟩
theorem Rw (l:List Int) (v:Value) (x:Int) (w:World) (hl:BU w v l):gK Tryz.prog 158 #[v,.int .i64 x] w λr w'=>aB w w'∧∃ i:Int,r=.int .i64 i∧(0≤i↔x∈l):=by
 obtain⟨A0,c,rfl,hc,jT,HR⟩:=hl.int
 clear hl
 refine Fi (n:=19) Tryz.func158 ?_;intro A hd hA;simp only[ix,Nat.reduceAdd]
 repeat'(first|refine aF ?_|refine au ?_|refine ak (λK hK=>?_)|refine aj ?_|refine aJ ?_|go_step)
 refine dJ [0,1,7,8] (λn vs w'=>∃ k:Nat,w'=w∧k+n=l.length∧vs=[.slice A0 l.length c,.int .i64 x,.int .i64 l.length,.int .i64 k]∧x∉l.take k) l.length hd hA (by decide) ⟨0,rfl,by omega,by simp,by simp⟩ ?_
 clear hd hA A;intro n vs B w' hd hA _ ⟨k,hw,hk,jk,hm⟩;subst hw jk
 simp only[List.zip_cons_cons,List.zip_nil_right,List.zip_nil_left]
 by_cases hlt:k<l.length
 ·obtain⟨y,b,o,HX,rfl,hb,c0⟩:=HR k hlt
  have sZ:(k:Int)<l.length:=by omega
  have HXX:=Zh HX
  have HM:=Zh hm
  clear hm HX
  by_cases hxy:x=y
  ·subst hxy
   repeat'(first|refine aF ?_|refine au ?_|refine ak (λK hK=>?_)|refine aj ?_|refine aC ?_|refine aG ?_|refine aJ ?_|refine bH ?_|go_step)
   exact aA hd ⟨by simp,k,rfl,by simp;exact List.mem_of_getElem? HXX.out⟩
  ·have DJ:(x==y)=false:=beq_false_of_ne hxy
   repeat'(first|refine aF ?_|refine au ?_|refine ak (λK hK=>?_)|refine aj ?_|refine aG ?_|refine aJ ?_|refine bH ?_|refine bJ ?_|go_step)
   exact⟨_,_,rfl,hd,hA,n-1,by omega,k+1,trivial,by omega,by simp,by rw[gV HXX.out,List.mem_append,List.mem_singleton];exact λh=>h.elim HM.out hxy⟩
 ·obtain rfl:k=l.length:=by omega
  rw[List.take_length]at hm
  have HM:=Zh hm
  clear hm
  repeat'(first|refine aF ?_|refine au ?_|refine ak (λK hK=>?_)|refine aj ?_|refine aC ?_|refine dS ?_|refine bJ ?_|go_step)
  exact aA hd ⟨by simp,-1,rfl,by simp;exact HM.out⟩
theorem eX (l:List Int) (v:Value) (x:Int) (w:World) (hl:BU w v l):Pure Tryz.prog 148 #[v,.int .i64 x] w (.bool (decide (x∈l))):=by
 have zu:=Zh hl
 obtain⟨A0,c,rfl,-⟩:=hl.int
 clear hl
 refine Fi (n:=9) Tryz.func148 ?_;intro A hd hA;simp only[ix,Nat.reduceAdd]
 repeat'(first|refine aF ?_|refine au ?_|refine ak (λK hK=>?_)|refine aj ?_|go_step)
 refine aX Tryz.func158 (Rw l _ x _ (zu.out.ah (by simp))) (λr w1 hR=>?_)
 obtain⟨hE,i,rfl,hi⟩:=hR
 obtain⟨y1,rfl⟩:=hE.get
 have HI:=Zh hi
 clear hi hE
 repeat'(first|refine aF ?_|refine au ?_|refine aC ?_|go_step)
 exact aA hd ⟨congrArg Value.bool (decide_eq_decide.2 HI.out),by simp⟩
end Go.Ws
namespace Go.Ws
open Go Go.RowKit
set_option maxHeartbeats 4000000
set_option maxRecDepth 100000
set_option linter.unusedVariables false
set_option linter.unusedSimpArgs false
def KI (P:Program) (l:Nat) (args:Array Value) (W:World) (R:Ending→World→Prop):Prop:=
 ∃fn tmps assign body,(Instr.yield l args).run P W=.ok (.round l fn tmps assign body) W∧RoundIn Fence.wide 0 P l fn tmps assign body W R
def afA {α:Type} (P:Program) (gf:FuncId) (lb:Array Value) (encs:α→ Array Value) (S Pre:List α→Prop) (Rd:Nat→Prop) (w:World):Prop:=
 ∀(l:Nat) (J:List α→(Nat→Prop)→World→Prop) (Jx:List α→World→Prop) (B0:Nat→Prop) (W:World),aB w W→
  (∀pre B V V',J pre B V→bF (λk=>¬ B k∧W.heap.size≤k) V V'→J pre B V')→(∀pre W W',Jx pre W→aB W W'→Jx pre W')→(∀pre B W,J pre B W→∀ k,B k→k<W.heap.size)→
  (∀pre B x W1,J pre B W1→Pre (pre++[x])→KI P l (encs x) W1 λe W'=>
   (e=.returned (.bool true)∧∃ B',J (pre++[x]) B' W'∧bF B W1 W'∧∀ k,B' k→B k∨W1.heap.size≤k)∨(e=.returned (.bool false)∧Jx (pre++[x]) W'))→
  J [] B0 W→(∀k,B0 k→¬ Rd k)→
  Calls P gf (#[.func (.yield l) #[] #[]]++lb) W λe W'=>∃ v,e=.returned v∧((∃xs B,S xs∧J xs B W')∨∃ pre,Jx pre W')
def aha {α:Type} (I:List α→(Nat→Prop)→World→Prop) (Ix:Code→List α→(Nat→Prop)→World→Prop) (pre:List α) (B:Nat→Prop) (x:α) (W W2:World):jo
 | .normal,_,W3=>∃ B',I (pre++[x]) B' W3∧bF (λk=>B k∨W.heap.size≤k) W2 W3∧∀ k,B' k→(B k∨W.heap.size≤k)∧k<W3.heap.size
 | .ret,_,W3=>∃ B',Ix .ret (pre++[x]) B' W3∧bF (λk=>B k∨W.heap.size≤k) W2 W3∧∀ k,B' k→(B k∨W.heap.size≤k)∧k<W3.heap.size
 | .exit id,_,W3=>∃ B',Ix (.exit id) (pre++[x]) B' W3∧bF (λk=>B k∨W.heap.size≤k) W2 W3∧∀ k,B' k→(B k∨W.heap.size≤k)∧k<W3.heap.size
 | .goto t,_,W3=>∃ B',Ix (.goto t) (pre++[x]) B' W3∧bF (λk=>B k∨W.heap.size≤k) W2 W3∧∀ k,B' k→(B k∨W.heap.size≤k)∧k<W3.heap.size
 | _,_,_=>False
def Yi (n:Nat) (I:(Nat→Prop)→World→Prop):Prop:=∀ B W W',I B W→bF (λk=>¬ B k∧n≤k) W W'→I B W'
section
variable {P : Program} {Q : jo} {w : World} {A : Act} {fl : List (Nat × Value)}
theorem rG (w:World) (b:Nat) (o:Obj):bF (· =b) w (w.putObj b o):=
 ⟨rfl,rfl,rfl,by simp,λk _ hk=>World.putObj_heap_other (λe=>hk e)⟩
theorem abu (l:List (Nat×Value)) (ps:List Nat):∀ (xs:List Value) (fl:List (Nat×Value)) (A:Act),(ps.zip xs).foldl (λt (p:Nat×Value)=>t.setIfInBounds p.1 p.2) (kX fl A.tmps)=kX ((ps.zip xs).reverse++fl) A.tmps:=by
 induction ps with
 | nil=>intro xs fl A;simp
 | cons p ps ih=>
  intro xs fl A
  cases xs with
  | nil=>simp
  | cons x xs=>
   simp only[List.zip_cons_cons,List.foldl_cons,List.reverse_cons,List.append_assoc,List.singleton_append]
   have:=ih xs ((p,x)::fl) A
   simp only[kX]at this
   exact this
theorem XH {α:Type} {g:Operand} {ps:List Tmp} {assign body:Code} {gf:FuncId} {lb:Array Value} {encs:α→ List Value} {S Pre:List α→Prop} {Rd:Nat→Prop} {fn:Func}
  (hgf:P.funcs[gf]? =some fn) (Jq:iC fn=true) (aqs:afA P gf lb (λx=>(encs x).toArray) S Pre Rd w) (wK:∀ x,(encs x).length=ps.length)
  (hg:Is ((fr fl A).eval g) (.func (.func gf) #[] lb))
  (I:List α→(Nat→Prop)→World→Prop) (Ix:Code→List α→(Nat→Prop)→World→Prop) (hI:∀ pre,Yi w.heap.size (I pre)) (hIx:∀ c pre,Yi w.heap.size (Ix c pre))
  (B0:Nat→Prop) (h0:I [] B0 w) (UL:∀ k,B0 k→k<w.heap.size∧¬ Rd k)
  (round:∀ (l:Nat) pre B x W,w.heap.size≤l→l<W.heap.size→I pre B W→(∀k,B k→k≠l∧k<W.heap.size)→Pre (pre++[x])→
   Wp (some l) P assign (Exit.then (λa1 W1=>aB W W1∧∀ W2,bF (· =l) W1 W2→Wp (some l) P body (aha I Ix pre B x W W2) a1 W2) (λ_ _ _=>False)) (fr ((ps.zip (encs x)).reverse++fl) {tmps:=A.tmps,defers:=[]}) W)
  (alV:∀ (D:Nat) xs B W,w.heap.size≤D→¬ B D→S xs→I xs B W→W.heap[D]? =some (.deferred (some []))→Q .normal (fr fl {tmps:=A.tmps,defers:={target:=.collected D,args:= #[]}::A.defers}) W)
  (alW:∀ (D:Nat) c pre B W,w.heap.size≤D→¬ B D→Ix c pre B W→W.heap[D]? =some (.deferred (some []))→Wp none P c Q (fr fl {tmps:=A.tmps,defers:={target:=.collected D,args:= #[]}::A.defers}) W):
  Wp none P (.rangeFunc g ps.toArray assign body) Q (fr fl A) w:=Wp.intro λX=>by
 refine wpIn_rangeFunc ?_
 intro fid atm
 obtain⟨W,hW⟩:∃ W,w.ah X=W:=⟨_,rfl⟩
 have xM:aB w W:=hW▸X.2
 rw[hW]
 obtain⟨rec,G8⟩:∃ rec:LoopState→Option Code→Loop,rec=λst pe=>{state:=st,pending:=pe,fn:=fid,tmps:=(fr fl A).tmps,params:=ps.toArray,assign,body,defers:=W.heap.size}:=⟨_,rfl⟩
 obtain⟨W1,QO⟩:∃ W1,(W.alloc (.deferred (some []))).alloc (.loop (rec .ready none))=W1:=⟨_,rfl⟩
 have hL1:W1.heap[W.heap.size+1]? =some (.loop (rec .ready none)):=by
  rw[←QO];have:=World.alloc_heap_new (W.alloc (.deferred (some []))) (.loop (rec .ready none));rwa [World.size_alloc]at this
 have hK1:W1.heap[W.heap.size]? =some (.deferred (some [])):=by
  rw[←QO];exact(Below.heap_alloc _ _ _ (by simp)).trans (World.alloc_heap_new W _)
 have kY:aB w W1:=Et xM (by rw[←QO];exact Et (aB.alloc _ _) (aB.alloc _ _))
 have hwW:w.heap.size≤W.heap.size:=xM.size
 have BM:∀ {I':(Nat→Prop)→World→Prop},Yi w.heap.size I'→∀ {B:Nat→Prop} {V V':World},I' B V→aB V V'→I' B V':=fun{I'} hI' {B} {V} {V'} h hE=>hI' B V V' h (bF.mono hE (λ_ _ h=>h.elim))
 generalize hl:W.heap.size+1=l at *
 generalize hD:W.heap.size=D at *
 have hwD:w.heap.size≤D:=by omega
 have hwl:w.heap.size≤l:=by omega
 have hlD:l≠D:=by omega
 obtain⟨d,hd⟩:∃ d:Deferred,d={target:=.fn (.func gf) lb,args:= #[.func (.yield l) #[] #[]]}:=⟨_,rfl⟩
 refine⟨l,[{target:=.collected D,args:= #[]}],W1,d,W1,gf,#[.func (.yield l) #[] #[]]++lb,W1,?_,?_,λ_ _=>trivial,?_,λh=>(by cases h),?_⟩
 ·rw[←QO,G8,←hl,←hD];exact run_enterLoop_outer _ _ _ _ _
 ·rw[hd];simp only[resolve,hg.eq]
  simp[go_sem]
 ·rw[hd]
  simp only[iC,Bool.and_eq_true]at Jq
  have h1 : (fn.name == "runtime.NumGoroutine") = false := by have := Jq.1; simpa [bne] using this
  have h2:fn.body.isNone=false:=by cases hb:fn.body<;>simp_all
  have eg:∀ args w,(callFunc gf args).run P w=.ok (.enter gf args) w:=by
   intro args w
   unfold callFunc
   simp only[program,Sem.run_bind,Sem.run,hgf,h1,h2,Result.andThen_ok,Bool.false_eq_true,if_false,Sem.run_pure]
  simp[invoke,go_sem,eg]
 -- the iterator
 refine Ky (Calls.mono (aqs l
  (λpre B V=>I pre B V∧V.heap[l]? =some (.loop (rec .ready none))∧V.heap[D]? =some (.deferred (some []))∧∀ k,B k→k≠l∧k≠D∧k<V.heap.size)
  (λpre V=>∃ c B,Ix c pre B V∧V.heap[l]? =some (.loop (rec .done (some c)))∧V.heap[D]? =some (.deferred (some []))∧∀ k,B k→k≠l∧k≠D∧k<V.heap.size)
  B0 W1 kY ?_ ?_ ?_ ?_ ⟨BM (hI []) h0 kY,hL1,hK1,λk hk=>?_⟩ (λk hk=>(UL k hk).2)) ?_)
 ·rintro pre B V V' ⟨h,zF,hD',hB⟩ hE
  have l1:=(Array.getElem?_eq_some_iff.1 zF).1
  have l2:=(Array.getElem?_eq_some_iff.1 hD').1
  have l3:=(Array.getElem?_eq_some_iff.1 hL1).1
  exact⟨hI pre B V V' h (bF.mono hE (λk _ h=>⟨h.1,Nat.le_trans kY.size h.2⟩)),(hE.block l l1 (λh=>by have:=h.2;omega)).trans zF,(hE.block D l2 (λh=>by have:=h.2;omega)).trans hD',λk hk=>⟨(hB k hk).1,(hB k hk).2.1,Nat.lt_of_lt_of_le (hB k hk).2.2 hE.size⟩⟩
 ·rintro pre V V' ⟨c,B,h,zF,hD',hB⟩ hE
  have l1:=(Array.getElem?_eq_some_iff.1 zF).1
  have l2:=(Array.getElem?_eq_some_iff.1 hD').1
  exact⟨c,B,BM (hIx c pre) h hE,(hE.block l l1 (λh=>h)).trans zF,(hE.block D l2 (λh=>h)).trans hD',λk hk=>⟨(hB k hk).1,(hB k hk).2.1,Nat.lt_of_lt_of_le (hB k hk).2.2 hE.size⟩⟩
 ·rintro pre B V ⟨_,_,_,hB⟩ k hk
  exact(hB k hk).2.2
 ·-- one round
  rintro pre B x V ⟨hi,hlV,hDV,hB⟩ JH
  have hlt:l<V.heap.size:=(Array.getElem?_eq_some_iff.1 hlV).1
  have hDt:D<V.heap.size:=(Array.getElem?_eq_some_iff.1 hDV).1
  have hy:=run_yield (P:=P) (args:=(encs x).toArray) hlV (by rw[G8];simpa using wK x)
  refine⟨_,_,_,_,hy,?_⟩
  rw[G8]
  simp only
  have htm:(ps.toArray.zip (encs x).toArray).foldl (λtmps (p:Nat×Value)=>tmps.setIfInBounds p.1 p.2) (fr fl A).tmps=kX ((ps.zip (encs x)).reverse++fl) A.tmps:=by
   rw[List.zip_toArray,List.foldl_toArray]
   rw[vY]
   exact abu [] ps (encs x) fl A
  rw[htm]
  refine roundIn_of_wpIn (F:=Fence.wide) trivial ?_
  rw[aa9 _ A _ _ rfl]
  refine Go.wpIn_mono ((round l pre B x V hwl hlt hi (λk hk=>⟨(hB k hk).1,(hB k hk).2.2⟩) JH).get ⟨V,aB.refl V⟩) ?_
  rintro e a1 V1 ⟨V0,YH,hq⟩
  cases e with
  | normal=>
   obtain⟨ny,hb⟩:=hq
   have Rx:aB V V1:=Et ny YH
   have an0:V1.heap[l]? =some (.loop (rec .ready none)):=(Rx.block l hlt (λh=>h)).trans hlV
   have D5:=run_beginRound (P:=P) an0 (by rw[G8])
   refine⟨_,D5,?_⟩
   generalize hV2:V1.putObj l (.loop {rec .ready none with state:=.busy})=V2 at *
   have Ve:bF (· =l) V1 V2:=hV2▸rG V1 l _
   have ajW:l<V1.heap.size:=Nat.lt_of_lt_of_le hlt Rx.size
   have Yj:V2.heap[l]? =some (.loop {rec .ready none with state:=.busy}):=hV2▸World.putObj_heap_same ajW
   refine Go.wpIn_mono ((hb V2 (bF.trans YH Ve (λ_ _ h=>h.elim) (λ_ _ h=>h))).get ⟨V2,aB.refl V2⟩) ?_
   rintro e a3 V3 ⟨V3',jX,hq⟩
   have fin:∀ (jump:Option Code) (B':Nat→Prop) (I':(Nat→Prop)→World→Prop),Yi w.heap.size I'→I' B' V3'→bF (λk=>B k∨V.heap.size≤k) V2 V3'→(∀k,B' k→(B k∨V.heap.size≤k)∧k<V3'.heap.size)→
     ∃V4,(Instr.endRound l jump).run P V3=.ok (.bool jump.isNone) V4∧I' B' V4∧V4.heap[l]? =some (.loop (rec (if jump.isNone then .ready else .done) jump))∧V4.heap[D]? =some (.deferred (some []))∧
      (∀k,B' k→k≠l∧k≠D∧k<V4.heap.size)∧(jump=none→bF B V V4)∧∀ k,B' k→B k∨V.heap.size≤k:=by
    intro jump B' I' hI' hI3 hM GZ
    have hnl:¬ (B l∨V.heap.size≤l):=by
     rintro(h|h)
     ·exact(hB l h).1 rfl
     ·omega
    have hnD:¬ (B D∨V.heap.size≤D):=by
     rintro(h|h)
     ·exact(hB D h).2.1 rfl
     ·omega
    have s1:=Rx.size
    have s2:=Ve.size
    have s3:=hM.size
    have s4:=jX.size
    have YI:V3'.heap[l]? =some (.loop {rec .ready none with state:=.busy}):=(hM.block l (by omega) hnl).trans Yj
    have O8:V3.heap[l]? =some (.loop {rec .ready none with state:=.busy}):=(jX.block l (by omega) (λh=>h)).trans YI
    have hD3:V3.heap[D]? =some (.deferred (some [])):=
     (jX.block D (by omega) (λh=>h)).trans ((hM.block D (by omega) hnD).trans ((Ve.block D (by omega) (λh=>hlD h.symm)).trans ((Rx.block D hDt (λh=>h)).trans hDV)))
    have uF:=run_endRound (P:=P) jump O8
    have aez:bF (· =l) V3 (V3.putObj l (.loop {({rec .ready none with state:=.busy}:Loop) with state:=if jump.isNone then .ready else .done,pending:=jump})):=rG _ _ _
    refine⟨_,uF,hI' _ _ _ hI3 (bF.trans jX aez (λ_ _ h=>h.elim) ?_),?_,(World.putObj_heap_other (λh=>hlD h.symm)).trans hD3,?_,?_,?_⟩
    ·rintro k _ rfl
     exact⟨λh=>hnl (GZ _ h).1,hwl⟩
    ·rw[World.putObj_heap_same (by omega),G8]
    ·intro k hk
     refine⟨λh=>hnl (h▸(GZ k hk).1),λh=>hnD (h▸(GZ k hk).1),?_⟩
     have:=(GZ k hk).2
     simp;omega
    ·rintro rfl
     refine⟨?_,?_,?_,?_,?_⟩
     ·exact aez.os.trans (jX.os.trans (hM.os.trans (Ve.os.trans Rx.os)))
     ·exact aez.tape.trans (jX.tape.trans (hM.tape.trans (Ve.tape.trans Rx.tape)))
     ·exact aez.output.trans (jX.output.trans (hM.output.trans (Ve.output.trans Rx.output)))
     ·simp;omega
     ·intro k hk hBk
      by_cases kS:k=l
      ·subst kS
       rw[World.putObj_heap_same (by omega),hlV,G8]
       rfl
      ·rw[World.putObj_heap_other kS]
       exact(jX.block k (by omega) (λh=>h)).trans ((hM.block k (by omega) (λh=>h.elim hBk (λh=>by omega))).trans ((Ve.block k (by omega) kS).trans (Rx.block k hk (λh=>h))))
    ·exact λk hk=>(GZ k hk).1
   cases e with
   | normal=>
    obtain⟨B',hI3,hM,GZ⟩:=hq
    obtain⟨V4,uF,h1,h2,h3,h4,h5,h6⟩:=fin none B' _ (hI (pre++[x])) hI3 hM GZ
    rw[G8]at h2
    exact⟨_,V4,uF,.inl ⟨rfl,B',⟨h1,h2,h3,h4⟩,h5 rfl,h6⟩⟩
   | ret=>
    obtain⟨B',hI3,hM,GZ⟩:=hq
    obtain⟨V4,uF,h1,h2,h3,h4,h5,h6⟩:=fin (some .ret) B' _ (hIx .ret (pre++[x])) hI3 hM GZ
    rw[G8]at h2
    exact⟨_,V4,uF,.inr ⟨rfl,.ret,B',h1,h2,h3,h4⟩⟩
   | exit id=>
    obtain⟨B',hI3,hM,GZ⟩:=hq
    obtain⟨V4,uF,h1,h2,h3,h4,h5,h6⟩:=fin (some (.exit id)) B' _ (hIx (.exit id) (pre++[x])) hI3 hM GZ
    rw[G8]at h2
    exact⟨_,V4,uF,.inr ⟨rfl,.exit id,B',h1,h2,h3,h4⟩⟩
   | goto t=>
    obtain⟨B',hI3,hM,GZ⟩:=hq
    obtain⟨V4,uF,h1,h2,h3,h4,h5,h6⟩:=fin (some (.goto t)) B' _ (hIx (.goto t) (pre++[x])) hI3 hM GZ
    rw[G8]at h2
    exact⟨_,V4,uF,.inr ⟨rfl,.goto t,B',h1,h2,h3,h4⟩⟩
   | panic ch=>exact hq.elim
   | outgrown=>exact hq.elim
  | _=>exact hq.elim
 ·have:=(UL k hk).1
  exact⟨by omega,by omega,Nat.lt_of_lt_of_le this kY.size⟩
 ·-- behind it
  rintro e V ⟨v,rfl,hq⟩
  have alY:({(fr fl A) with defers:=[{target:=.collected D,args:= #[]}]++(fr fl A).defers}:Act)=fr fl {tmps:=A.tmps,defers:={target:=.collected D,args:= #[]}::A.defers}:=by
   rw[eF]
   have:=aa9 fl A A.tmps ({target:=.collected D,args:= #[]}::A.defers) rfl
   rw[←this,←vY];rfl
  rcases hq with⟨xs,B,hS,hi,zF,hD',hB⟩|⟨pre,c,B,hi,zF,hD',hB⟩
  ·have uF:=run_endLoop (P:=P) zF (by rw[G8];simp)
   refine⟨none,_,by rw[G8]at uF;exact uF,?_⟩
   refine⟨_,aB.refl _,?_⟩
   show Q .normal _ _
   rw[alY]
   refine alV D xs B _ hwD (λh=>(hB D h).2.1 rfl) hS (hI xs B _ _ hi (bF.mono (rG _ _ _) ?_)) ((World.putObj_heap_other (λh=>hlD h.symm)).trans hD')
   rintro k _ rfl
   exact⟨λh=>(hB _ h).1 rfl,hwl⟩
  ·have uF:=run_endLoop (P:=P) zF (by rw[G8];simp)
   refine⟨some c,_,by rw[G8]at uF;exact uF,?_⟩
   show Code.wpIn _ _ _ _ _ _ _
   rw[alY]
   refine(alW D c pre B _ hwD (λh=>(hB D h).2.1 rfl) (hIx c pre B _ _ hi (bF.mono (rG _ _ _) ?_)) ((World.putObj_heap_other (λh=>hlD h.symm)).trans hD')).get ⟨_,aB.refl _⟩
   rintro k _ rfl
   exact⟨λh=>(hB _ h).1 rfl,hwl⟩
theorem PN {ops:Array Oper} {o:Oper} {rest:List (Oper×Nat)} {l:Nat} {s:Operand} {la:List Operand} {ats:Array TypeId} {lv yO:List Value} {R:Bool→World→Prop} {d:Nat}
  (hY:∀ x:bM w,KI P l lv.toArray (w.ah x) λe W'=>∃ b,e=.returned (.bool b)∧R b W') (h:∀ b W',R b W'→jh P ops Q rest (fr ((d,.bool b)::fl) A) W')
  (yL:o.op=.call {callee:=.value s,args:=la.toArray,argTypes:=ats}:=by rfl) (hd:o.dst=some d:=by rfl) (hg:o.guard=none:=by rfl)
  (hs:Is ((fr fl A).eval s) (.func (.yield l) #[] #[]):=by go_simp;exact Is.mk _) (mW:Is (la.map (fr fl A).eval) yO:=by go_simp;exact Is.mk _) (hlv:yO=lv:=by rfl):jh P ops Q ((o,2)::rest) (fr fl A) w:=by
 refine Yz (λx=>?_) hg
 unfold Bz
 obtain⟨fn,tmps,assign,body,hy,hR⟩:=hY x
 rw[Nh yL hs.eq,mW.eq,hlv,hy]
 simp only[nH]
 refine RoundIn.mono hR λe w' hR'=>?_
 obtain⟨b,rfl,hb⟩:=hR'
 exact⟨w',aB.refl _,by rw[hd,lW];exact h b w' hb⟩
theorem YJ {D:Nat} (hd:A.defers=[{target:=.collected D,args:= #[]}]) (hD:w.heap[D]? =some (.deferred (some []))) (l:List (Nat×Value)):O6 (fr l A).defers w (w.putObj D (.deferred none)):=by
 rw[eF,hd];exact⟨D,rfl,hD,rfl⟩
theorem aB.abv {w W:World} (h:aB w W) {D:Nat} (hD:w.heap.size≤D) (o:Obj):aB w (W.putObj D o):=
 bF.trans h (rG W D o) (λ_ _ h=>h) (λk hk e=>by subst e;omega)
end
theorem zL {α γ:Type} {g:α→ γ}:∀ {l:List α},(l.map g).Nodup→∀ {x y:α},x∈l→y∈l→g x=g y→x=y
 | [],_,_,_,h,_,_=>by cases h
 | a::l,hn,x,y,hx,hy,e=>by
  rw[List.map_cons,List.nodup_cons]at hn
  rcases List.mem_cons.1 hx with h1|h1
  ·rcases List.mem_cons.1 hy with h2|h2
   ·rw[h1,h2]
   ·exact absurd (List.mem_map.2 ⟨y,h2,by rw[←e,h1]⟩:g a∈l.map g) hn.1
  ·rcases List.mem_cons.1 hy with h2|h2
   ·exact absurd (List.mem_map.2 ⟨x,h1,by rw[e,h2]⟩:g a∈l.map g) hn.1
   ·exact zL hn.2 h1 h2 e
theorem FX {α γ:Type} (g:α→ γ):∀ {l:List α},(l.map g).Nodup→l.Nodup
 | [],_=>List.nodup_nil
 | a::l,hn=>by
  rw[List.map_cons,List.nodup_cons]at hn
  exact List.nodup_cons.2 ⟨λh=>hn.1 (List.mem_map.2 ⟨a,h,rfl⟩),FX g hn.2⟩
theorem Ol {α:Type}:∀ {a b:List α},a.Nodup→(∀x∈a,x∈b)→a.length≤b.length
 | [],b,_,_=>Nat.zero_le _
 | x::a,b,hn,h=>by
  obtain⟨s,t,rfl⟩:=List.append_of_mem (h x (by simp))
  have hn':=List.nodup_cons.1 hn
  have:=Ol (b:=s++t) hn'.2 (λy hy=>by
   have:=h y (by simp[hy])
   rcases List.mem_append.1 this with h1|h1
   ·exact List.mem_append.2 (.inl h1)
   ·rcases List.mem_cons.1 h1 with h2|h2
    ·exact absurd (h2▸hy) hn'.1
    ·exact List.mem_append.2 (.inr h2))
  simp at this ⊢;omega
section
variable {κ β : Type} {P : Program} {t kt et : TypeId} {bZ : κ → Value} {dG : β → Value} {w w' : World} {m r clock : Nat} {L pre : List (κ × β × Nat)}
structure mX (bZ:κ→ Value) (dG:β→ Value) (w:World) (r m:Nat) (L:List (κ×β× Nat)) (clock:Nat) (pre:List (κ×β× Nat)):Prop where
 map:yN bZ dG w m L clock
 it:w.heap[r]? =some (.mapIter (some m) clock (pre.map (·.2.2)).toArray clock)
 sub:∀ x∈pre,x∈L
 nd:pre.Nodup
theorem yN.qC (h:yN bZ dG w m L clock) (hb:w'.heap[m]? =w.heap[m]?):yN bZ dG w' m L clock:=⟨hb.trans h.heap,h.keys,h.Iy,h.bK⟩
theorem yN.lt (h:yN bZ dG w m L clock):m<w.heap.size:=(Array.getElem?_eq_some_iff.1 h.heap).1
theorem yN.aW {F:Nat→Prop} (h:yN bZ dG w m L clock) (hM:bF F w w') (hm:¬ F m):yN bZ dG w' m L clock:=h.qC (hM.block m h.lt hm)
theorem yN.ah (h:yN bZ dG w m L clock) (hE:aB w w'):yN bZ dG w' m L clock:=h.aW hE (λh=>h)
theorem yN.nodup (h:yN bZ dG w m L clock):L.Nodup:=FX _ h.keys
theorem mX.aW {F:Nat→Prop} (h:mX bZ dG w r m L clock pre) (hM:bF F w w') (hr:¬ F r) (hm:¬ F m):mX bZ dG w' r m L clock pre:=
 ⟨h.map.aW hM hm,(hM.block r (Array.getElem?_eq_some_iff.1 h.it).1 hr).trans h.it,h.sub,h.nd⟩
theorem mX.ah (h:mX bZ dG w r m L clock pre) (hE:aB w w'):mX bZ dG w' r m L clock pre:=h.aW hE (λh=>h) (λh=>h)
theorem mX.lt (h:mX bZ dG w r m L clock pre):r<w.heap.size:=(Array.getElem?_eq_some_iff.1 h.it).1
theorem mX.adq (h:mX bZ dG w r m L clock pre) (jB:∀ x∈L,x∈pre):pre.Perm L:=(List.perm_ext_iff_of_nodup h.nd h.map.nodup).2 λx=>⟨h.sub x,jB x⟩
theorem mX.len (h:mX bZ dG w r m L clock pre):pre.length≤L.length:=Ol h.nd h.sub
theorem mX.step (h:mX bZ dG w r m L clock pre) (ty:TypeId):
  ((∀x∈L,x∈pre)∧(Instr.next (.pointer (some ⟨r,0,none⟩)) false ty).run P w=.ok (.tuple #[.bool false]) w)∨
  ∃x w1,x∈L∧x∉pre∧(Instr.next (.pointer (some ⟨r,0,none⟩)) false ty).run P w=.ok (.tuple #[.bool true,bZ x.1,dG x.2.1]) w1∧bF (· =r) w w1∧mX bZ dG w1 r m L clock (pre++[x]):=by
 have JI:∀ x∈L,¬(x.2.2∈pre.map (·.2.2))↔x∉pre:=λx hx=>by
  constructor
  ·exact λhn hp=>hn (List.mem_map.2 ⟨x,hp,rfl⟩)
  ·intro hn hp
   obtain⟨y,hy,e⟩:=List.mem_map.1 hp
   have:=zL h.map.Iy (h.sub y hy) hx e
   exact hn (this▸hy)
 have hrm:r≠m:=by
  rintro rfl
  have:=h.it.symm.trans h.map.heap
  cases this
 rcases run_next_at (P:=P) w ty r m clock clock (pre.map (·.2.2)).toArray (L.map (DN bZ dG)).toArray clock h.it h.map.heap (λx hx=>by
   simp only[List.toList_toArray,List.mem_map]at hx
   obtain⟨y,hy,rfl⟩:=hx
   exact h.map.bK y hy) (Nat.le_refl _) with⟨h0,hr⟩|⟨e,he,w1,Xf,hr⟩
 ·left
  refine⟨λx hx=>?_,hr⟩
  by_cases hp:x∈pre
  ·exact hp
  ·exfalso
   have:DN bZ dG x∈(leftOf (L.map (DN bZ dG)).toArray (pre.map (·.2.2)).toArray).toList:=by
    unfold leftOf
    simp only[Array.toList_filter,List.toList_toArray,List.mem_filter]
    refine⟨List.mem_map.2 ⟨x,hx,rfl⟩,?_⟩
    simpa using(JI x hx).2 hp
   rw[Array.eq_empty_of_size_eq_zero h0]at this
   simp at this
 ·right
  unfold leftOf at he
  simp only[Array.toList_filter,List.toList_toArray,List.mem_filter]at he
  obtain⟨Un,he2⟩:=he
  obtain⟨x,hx,rfl⟩:=List.mem_map.1 Un
  have hxp:x∉pre:=(JI x hx).1 (by simpa using he2)
  have hE:aB w w1:=by rcases Xf with rfl|rfl;exact aB.refl _;exact aB.drew _
  have hM:bF (· =r) w (w1.setObj r (.mapIter (some m) clock ((pre.map (·.2.2)).toArray.push x.2.2) clock)):=bF.trans hE (zH _ _ _) (λ_ _ h=>h.elim) (λ_ _ h=>h)
  refine⟨x,_,hx,hxp,hr,hM,h.map.aW hM (λe=>hrm e.symm),?_,?_,?_⟩
  ·have:=mJ w1 (b:=r) (.mapIter (some m) clock ((pre.map (·.2.2)).toArray.push x.2.2) clock) (Nat.lt_of_lt_of_le h.lt hE.size)
   rw[show (pre++[x]).map (·.2.2)=pre.map (·.2.2)++[x.2.2] by simp,←List.push_toArray]
   exact this
  ·intro y hy
   rcases List.mem_append.1 hy with hy|hy
   ·exact h.sub y hy
   ·rw[List.mem_singleton.1 hy];exact hx
  ·rw[List.nodup_append]
   exact⟨h.nd,by simp,λa ha b hb e=>hxp (by rw[List.mem_singleton.1 hb]at e;exact e▸ha)⟩
variable {Q : jo} {A : Act} {fl : List (Nat × Value)} {ops : Array Oper} {o : Oper}
theorem XI {rest:List (Oper×Nat)} {x:Operand} {d:Nat} (hm:yN bZ dG w m L clock) (ht:P.underlying t=some (.map kt et))
  (h:∀ (y:bM w) r,w.heap.size≤r→mX bZ dG (w.ah y) r m L clock []→jh P ops Q rest (fr ((d,.pointer (some ⟨r,0,none⟩))::fl) A) (w.ah y))
  (ho:o.op=.range t x:=by rfl) (hd:o.dst=some d:=by rfl) (hg:o.guard=none:=by rfl) (hx:Is ((fr fl A).eval x) (.map (some m)):=by go_simp;exact Is.mk _):jh P ops Q ((o,1)::rest) (fr fl A) w:=by
 refine dI (λX K hK=>?_) hd hg
 have hgo:Sem.run P (getObj m) (w.ah X)=.ok (.map (L.map (DN bZ dG)).toArray clock) (w.ah X):=by simp[getObj,Sem.run,(hm.ah (w':=w.ah X) X.2).heap]
 have Uk:(Instr.range t (.map (some m))).run P (w.ah X)=.ok (.pointer (some ⟨(w.ah X).heap.size,0,none⟩)) ((w.ah X).alloc (.mapIter (some m) clock #[] clock)):=by
  unfold Instr.range
  simp only[Sem.run_bind,run_underlying ht,Result.andThen_ok,hgo,Sem.run_pure,newObj,Sem.run,World.alloc_eq]
 unfold uQ execOp
 simp only[ho,hx.eq,Sem.run_bind,Uk,Result.andThen_ok,Sem.run_pure]
 have hE:aB (w.ah X) ((w.ah X).alloc (.mapIter (some m) clock #[] clock)):=aB.alloc _ _
 refine hK _ _ hE (h ⟨_,Et X.2 hE⟩ _ X.2.size ⟨hm.ah (Et X.2 hE),?_,by simp,by simp⟩)
 exact heap_alloc_new _ _
theorem abw {rest:List (Oper×Nat)} {x:Operand} {d:Nat} (hgo:mX bZ dG w r m L clock pre)
  (bT:(∀x∈L,x∈pre)→jh P ops Q rest (fr ((d,.tuple #[.bool false])::fl) A) w)
  (aqt:∀ x W',x∈L→x∉pre→bF (· =r) w W'→mX bZ dG W' r m L clock (pre++[x])→jh P ops Q rest (fr ((d,.tuple #[.bool true,bZ x.1,dG x.2.1])::fl) A) W')
  (ho:o.op=.next x false:=by rfl) (hd:o.dst=some d:=by rfl) (hg:o.guard=none:=by rfl) (hx:Is ((fr fl A).eval x) (.pointer (some ⟨r,0,none⟩)):=by go_simp;exact Is.mk _):jh P ops Q ((o,2)::rest) (fr fl A) w:=by
 refine Yz (λX=>?_) hg
 have afE:mX bZ dG (w.ah X) r m L clock pre:=hgo.ah X.2
 unfold Bz execOp
 simp only[ho,hx.eq,Sem.run_bind]
 rcases afE.step (P:=P) o.type with⟨jB,hr⟩|⟨y,w1,hy,hyp,hr,hM,hG⟩
 ·rw[hr]
  simp only[Result.andThen_ok,Sem.run_pure,nH]
  exact⟨w,X.2,by rw[hd,lW];exact bT jB⟩
 ·rw[hr]
  simp only[Result.andThen_ok,Sem.run_pure,nH]
  exact⟨w1,aB.refl _,by rw[hd,lW];exact aqt y w1 hy hyp (bF.trans X.2 hM (λ_ _ h=>h.elim) (λ_ _ h=>h)) hG⟩
theorem XJ {rest:List (Oper×Nat)} {x:Operand} {d:Nat} {y:κ× β×Nat} (hgo:mX bZ dG w r m L clock (pre++[y]))
  (h:jh P ops Q rest (fr ((d,.tuple #[bZ y.1,dG y.2.1])::fl) A) w)
  (ho:o.op=.entry x:=by rfl) (hd:o.dst=some d:=by rfl) (hg:o.guard=none:=by rfl) (hx:Is ((fr fl A).eval x) (.pointer (some ⟨r,0,none⟩)):=by go_simp;exact Is.mk _):jh P ops Q ((o,0)::rest) (fr fl A) w:=by
 refine aF h hd hg (λX=>?_)
 have afE:mX bZ dG (w.ah X) r m L clock (pre++[y]):=hgo.ah X.2
 have:=run_entry_at (P:=P) (w.ah X) r m clock (pre.map (·.2.2)).toArray (L.map (DN bZ dG)).toArray clock (DN bZ dG y) (by rw[afE.it];simp) afE.map.heap
  (by rw[List.toList_toArray];exact List.mem_map.2 ⟨y,hgo.sub y (by simp),rfl⟩) (by simpa [Function.comp_def] using hgo.map.Iy)
 unfold Oper.quietAt execOp
 simp only[ho,hx.eq,Sem.run_bind,this,Result.andThen_ok,Sem.run_pure,Oper.quietUpon]
 exact⟨trivial,trivial⟩
end
end Go.Ws
namespace Go.Ws
open Go Go.RowKit Go.Proofs
set_option maxHeartbeats 4000000
set_option maxRecDepth 100000
set_option linter.unusedVariables false
set_option linter.unusedSimpArgs false
def Uo {κ β α:Type} (L:List (κ×β× Nat)) (g:κ× β×Nat→α) (xs:List α):Prop:=∃ P:List (κ×β× Nat),P.Perm L∧xs=P.map g
def abx {κ β α:Type} (L:List (κ×β× Nat)) (g:κ× β×Nat→α) (xs:List α):Prop:=∃ P:List (κ×β× Nat),P.Nodup∧(∀x∈P,x∈L)∧xs=P.map g
theorem KI.mono {P:Program} {l:Nat} {args:Array Value} {W:World} {R R':Ending→World→Prop} (h:KI P l args W R) (hr:∀ e w',R e w'→R' e w'):KI P l args W R':=by
 obtain⟨fn,t,a,b,hy,hR⟩:=h
 exact⟨fn,t,a,b,hy,RoundIn.mono hR hr⟩
theorem af5 {w:World} {bx m:Nat} {L:List (Int×Int×Nat)} {clock:Nat} (hlt:bx<w.heap.size) (Xg:w.cell? ⟨bx,0,none⟩=some (.map (some m))) (hm:yN ki ki w m L clock):
  afA Tryz.prog 253 #[.pointer (some ⟨bx,0,none⟩)] (λx:Int=> #[.int .i64 x]) (Uo L (·.2.1)) (abx L (·.2.1)) (λk=>k=bx∨k=m) w:=by
 intro l J Jx B0 W hE hJ hJx Vf hY h0 UL
 have BM:∀ {pre B V V'},J pre B V→aB V V'→J pre B V':=λh hE=>hJ _ _ _ _ h (bF.mono hE (λ_ _ h=>h.elim))
 have main:gK Tryz.prog 253 #[.func (.yield l) #[] #[],.pointer (some ⟨bx,0,none⟩)] W λv W'=>(∃xs B,Uo L (·.2.1) xs∧J xs B W')∨∃ pre,Jx pre W':=by
  obtain⟨yW,rfl⟩:=hE.get
  have uD:yN ki ki (w.ah yW) m L clock:=hm.ah yW.2
  have HY:=Zh hY
  have HJ:=Zh hJ
  have H0:=Zh h0
  have HB0:=Zh UL
  have zM:=Zh Vf
  clear hY hJ h0 UL Vf hJx
  refine Fi (n:=15) Tryz.func253 ?_;intro A hd hA;simp only[ix,Nat.reduceAdd]
  repeat'(first|refine aF ?_|refine ak (λK hK=>?_)|refine aj ?_|fail)
  refine XI (bZ:=ki) (dG:=ki) uD Tryz.underlying261 (λy0 r hr0 hG0=>?_)
  repeat'(first|refine au ?_|refine aJ ?_|go_step)
  refine dJ [0,6] (λn vs w'=>∃ pre B,n+pre.length=L.length∧vs=[.func (.yield l) #[] #[],.pointer (some ⟨r,0,none⟩)]∧J (pre.map (·.2.1)) B w'∧mX ki ki w' r m L clock pre∧∀ k,B k→k≠r∧k≠m) L.length hd hA (by decide) ?_ ?_
  ·exact⟨[],B0,by simp,by simp,BM H0.out y0.2,hG0,λk hk=>⟨λe=>by have:=zM.out _ _ _ H0.out k hk;omega,λe=>HB0.out k hk (.inr e)⟩⟩
  clear hd hA A;intro n vs B w' hd hA _ ⟨pre,Bs,hn,jk,hj,hg,hb⟩;subst jk
  simp only[List.zip_cons_cons,List.zip_nil_right,List.zip_nil_left]
  have HG:=Zh hg
  have HJ1:=Zh hj
  have YK:=Zh hb
  clear hg hj hb
  repeat'(first|refine ak (λK hK=>?_)|refine aj ?_|fail)
  refine abw HG.out (λjB=>?_) (λx W2 hx hxp kL hG2=>?_)
  ·repeat'(first|refine aF ?_|refine au ?_|refine ak (λK hK=>?_)|refine dS ?_|refine bJ ?_|go_step)
   exact iL hd (.inl ⟨_,Bs,⟨pre,HG.out.adq jB,rfl⟩,HJ1.out⟩)
  ·have iR:pre.length<L.length:=by
    have:=hG2.len
    simp at this;omega
   have hj2:J (pre.map (·.2.1)) Bs W2:=HJ.out _ _ _ _ HJ1.out (bF.mono kL (λk _ e=>by
    subst e
    exact⟨λh=>(YK.out _ h).1 rfl,hr0⟩))
   have HG2:=Zh hG2
   have HJ2:=Zh hj2
   clear hG2 hj2
   repeat'(first|refine aF ?_|refine au ?_|refine ak (λK hK=>?_)|refine aj ?_|refine aG ?_|refine aJ ?_|refine bH ?_|go_step)
   refine XJ HG2.out ?_
   repeat'(first|refine aF ?_|refine au ?_|refine ak (λK hK=>?_)|refine aj ?_|go_step)
   refine PN (R:=λb W'=>(b=true∧∃ B',J ((pre++[x]).map (·.2.1)) B' W'∧mX ki ki W' r m L clock (pre++[x])∧∀ k,B' k→k≠r∧k≠m)∨(b=false∧∃ pre,Jx pre W')) (l:=l) (lv:=[.int .i64 x.2.1]) (λX=>?_) (λb W3 hR=>?_)
   ·refine(HY.out (pre.map (·.2.1)) Bs x.2.1 (W2.ah X) (BM HJ2.out X.2) ⟨pre++[x],HG2.out.nd,HG2.out.sub,by simp⟩).mono ?_
    rintro e W' (⟨rfl,B',AQ,oQ,GZ⟩|⟨rfl,DK⟩)
    ·have hg3:mX ki ki (W2.ah X) r m L clock (pre++[x]):=HG2.out.ah X.2
     refine⟨true,rfl,.inl ⟨rfl,B',by simpa using AQ,hg3.aW oQ (λh=>(YK.out _ h).1 rfl) (λh=>(YK.out _ h).2 rfl),λk hk=>?_⟩⟩
     rcases GZ k hk with h|h
     ·exact YK.out k h
     ·exact⟨λe=>by have:=hg3.lt;omega,λe=>by have:=hg3.map.lt;omega⟩
    ·exact⟨false,rfl,.inr ⟨rfl,_,DK⟩⟩
   ·rcases hR with⟨rfl,B',AQ,ML,Dk⟩|⟨rfl,DK⟩
    ·repeat'(first|refine aF ?_|refine au ?_|refine aG ?_|refine bJ ?_|go_step)
     exact⟨_,_,rfl,hd,hA,n-1,by omega,pre++[x],B',by simp;omega,by simp,AQ,ML,Dk⟩
    ·repeat'(first|refine aF ?_|refine au ?_|refine aC ?_|refine bH ?_|go_step)
     exact iL hd (.inr DK)
 refine Calls.mono (Fn.Dj main) ?_
 rintro e W' ⟨W0,ny,hR⟩
 cases e with
 | returned v=>
  refine⟨v,rfl,?_⟩
  rcases hR with⟨xs,B,hS,hj⟩|⟨pre,hx⟩
  ·exact .inl ⟨xs,B,hS,BM hj ny⟩
  ·exact .inr ⟨pre,hJx _ _ _ hx ny⟩
 | panicked c=>exact hR.elim
 | outgrown=>exact hR.elim
theorem YL {w:World} {bx m:Nat} {L:List (Int×Int×Nat)} {clock:Nat} (hlt:bx<w.heap.size) (Xg:w.cell? ⟨bx,0,none⟩=some (.map (some m))) (hm:yN ki ki w m L clock):
  afA Tryz.prog 284 #[.pointer (some ⟨bx,0,none⟩)] (λx:Int=> #[.int .i64 x]) (Uo L (·.1)) (abx L (·.1)) (λk=>k=bx∨k=m) w:=by
 intro l J Jx B0 W hE hJ hJx Vf hY h0 UL
 have BM:∀ {pre B V V'},J pre B V→aB V V'→J pre B V':=λh hE=>hJ _ _ _ _ h (bF.mono hE (λ_ _ h=>h.elim))
 have main:gK Tryz.prog 284 #[.func (.yield l) #[] #[],.pointer (some ⟨bx,0,none⟩)] W λv W'=>(∃xs B,Uo L (·.1) xs∧J xs B W')∨∃ pre,Jx pre W':=by
  obtain⟨yW,rfl⟩:=hE.get
  have uD:yN ki ki (w.ah yW) m L clock:=hm.ah yW.2
  have HY:=Zh hY
  have HJ:=Zh hJ
  have H0:=Zh h0
  have HB0:=Zh UL
  have zM:=Zh Vf
  clear hY hJ h0 UL Vf hJx
  refine Fi (n:=14) Tryz.func284 ?_;intro A hd hA;simp only[ix,Nat.reduceAdd]
  repeat'(first|refine aF ?_|refine ak (λK hK=>?_)|refine aj ?_|fail)
  refine XI (bZ:=ki) (dG:=ki) uD Tryz.underlying261 (λy0 r hr0 hG0=>?_)
  repeat'(first|refine au ?_|refine aJ ?_|go_step)
  refine dJ [0,5] (λn vs w'=>∃ pre B,n+pre.length=L.length∧vs=[.func (.yield l) #[] #[],.pointer (some ⟨r,0,none⟩)]∧J (pre.map (·.1)) B w'∧mX ki ki w' r m L clock pre∧∀ k,B k→k≠r∧k≠m) L.length hd hA (by decide) ?_ ?_
  ·exact⟨[],B0,by simp,by simp,BM H0.out y0.2,hG0,λk hk=>⟨λe=>by have:=zM.out _ _ _ H0.out k hk;omega,λe=>HB0.out k hk (.inr e)⟩⟩
  clear hd hA A;intro n vs B w' hd hA _ ⟨pre,Bs,hn,jk,hj,hg,hb⟩;subst jk
  simp only[List.zip_cons_cons,List.zip_nil_right,List.zip_nil_left]
  have HG:=Zh hg
  have HJ1:=Zh hj
  have YK:=Zh hb
  clear hg hj hb
  repeat'(first|refine ak (λK hK=>?_)|refine aj ?_|fail)
  refine abw HG.out (λjB=>?_) (λx W2 hx hxp kL hG2=>?_)
  ·repeat'(first|refine aF ?_|refine au ?_|refine ak (λK hK=>?_)|refine dS ?_|refine bJ ?_|go_step)
   exact iL hd (.inl ⟨_,Bs,⟨pre,HG.out.adq jB,rfl⟩,HJ1.out⟩)
  ·have iR:pre.length<L.length:=by
    have:=hG2.len
    simp at this;omega
   have hj2:J (pre.map (·.1)) Bs W2:=HJ.out _ _ _ _ HJ1.out (bF.mono kL (λk _ e=>by
    subst e
    exact⟨λh=>(YK.out _ h).1 rfl,hr0⟩))
   have HG2:=Zh hG2
   have HJ2:=Zh hj2
   clear hG2 hj2
   repeat'(first|refine aF ?_|refine au ?_|refine ak (λK hK=>?_)|refine aj ?_|refine aG ?_|refine aJ ?_|refine bH ?_|go_step)
   refine XJ HG2.out ?_
   repeat'(first|refine aF ?_|refine au ?_|refine ak (λK hK=>?_)|refine aj ?_|go_step)
   refine PN (R:=λb W'=>(b=true∧∃ B',J ((pre++[x]).map (·.1)) B' W'∧mX ki ki W' r m L clock (pre++[x])∧∀ k,B' k→k≠r∧k≠m)∨(b=false∧∃ pre,Jx pre W')) (l:=l) (lv:=[.int .i64 x.1]) (λX=>?_) (λb W3 hR=>?_)
   ·refine(HY.out (pre.map (·.1)) Bs x.1 (W2.ah X) (BM HJ2.out X.2) ⟨pre++[x],HG2.out.nd,HG2.out.sub,by simp⟩).mono ?_
    rintro e W' (⟨rfl,B',AQ,oQ,GZ⟩|⟨rfl,DK⟩)
    ·have hg3:mX ki ki (W2.ah X) r m L clock (pre++[x]):=HG2.out.ah X.2
     refine⟨true,rfl,.inl ⟨rfl,B',by simpa using AQ,hg3.aW oQ (λh=>(YK.out _ h).1 rfl) (λh=>(YK.out _ h).2 rfl),λk hk=>?_⟩⟩
     rcases GZ k hk with h|h
     ·exact YK.out k h
     ·exact⟨λe=>by have:=hg3.lt;omega,λe=>by have:=hg3.map.lt;omega⟩
    ·exact⟨false,rfl,.inr ⟨rfl,_,DK⟩⟩
   ·rcases hR with⟨rfl,B',AQ,ML,Dk⟩|⟨rfl,DK⟩
    ·repeat'(first|refine aF ?_|refine au ?_|refine aG ?_|refine bJ ?_|go_step)
     exact⟨_,_,rfl,hd,hA,n-1,by omega,pre++[x],B',by simp;omega,by simp,AQ,ML,Dk⟩
    ·repeat'(first|refine aF ?_|refine au ?_|refine aC ?_|refine bH ?_|go_step)
     exact iL hd (.inr DK)
 refine Calls.mono (Fn.Dj main) ?_
 rintro e W' ⟨W0,ny,hR⟩
 cases e with
 | returned v=>
  refine⟨v,rfl,?_⟩
  rcases hR with⟨xs,B,hS,hj⟩|⟨pre,hx⟩
  ·exact .inl ⟨xs,B,hS,BM hj ny⟩
  ·exact .inr ⟨pre,hJx _ _ _ hx ny⟩
 | panicked c=>exact hR.elim
 | outgrown=>exact hR.elim
theorem vw {b:Nat} {w:World} {F:Nat→Prop} {l:List cZ} (h:MJ w b F l) (e:cZ):gK Tryz.prog 181 #[.pointer (some ⟨b,0,none⟩),e.v] w λv w'=>
  v=.int .i64 (bY l e)∧bF F w w'∧MJ w' b (λk=>F k∨w.heap.size≤k) (if bY l e=0 then l++[e] else l):=by
 obtain⟨u,mb,g,h,hF⟩:=h
 have hs:=h.aiJ
 obtain⟨hlt,arj,ajX,DL⟩:=hs
 have HS:=Zh h.aiJ
 have HT:=Zh h
 clear h
 have HF:=Zh hF
 clear hF
 have HN:=Zh DL.ent
 obtain⟨A0,c,rfl,hc,jT,-⟩:=HN.out
 clear DL HN
 have JJ:=HT.out.Va
 refine Fi (n:=124) Tryz.func181 ?_;intro A hd hA;simp only[ix,Nat.reduceAdd]
 repeat'(first|refine aN Tryz.func229 (Dy (HS.out.ah (by simp)) e) ?_|refine aF ?_|refine au ?_|refine ak (λK hK=>?_)|refine aj ?_|refine aC ?_|refine aG ?_|(refine dI (λx K hK=>?_);go_simp;refine hK _ _ (aB.alloc _ _) ?_;clear hK K;refine aZ x ?_;generalize (World.ah _ x).heap.size=bn;intro yn aU bD bC bG aS;clear x)|refine rE (λhc=>?_) (λhc=>?_)|go_step)
 ·refine aA hd ⟨rfl,?_,?_⟩
  ·exact bF.mono yn.2 (λ_ _ h=>h.elim)
  ·have bT:bY l e≠0:=by simpa using hc
   rw[if_neg bT]
   exact MJ.mono (MJ.ah ⟨_,_,_,HT.out,HF.out⟩ yn.2) λk hk=>.inl hk
 have KJ:Hid (bY l e=0):=Zh (by simpa using hc)
 clear hc bG aS
 have hl4:l.length<4096:=(XF KJ.out).2.1
 have HB:=Zh (zK (XF KJ.out).1)
 have UM:=aU
 have hx2:=bD
 have Xh:=bC
 clear aU bC
 have HT0:tY (w.ah yn) b (.slice A0 l.length c) mb g l:=HT.out.aW yn.2 (λ_ _ h=>h)
 have HT1:=Zh HT0;clear HT0
 refine dA (by kernel_rfl) (by kernel_rfl) ?_
 repeat'(first|refine aF ?_|(refine dI (λx K hK=>?_);go_simp;refine hK _ _ (aB.alloc _ _) ?_;clear hK K;refine aZ x ?_;generalize (World.ah _ x).heap.size=bn;intro yn aU bD bC bG aS;clear x)|fail)
 refine nZ (xs:=l) JO (HT1.out.yK.ah (by simp)) (Rd.one (x:=e) bD bC rfl) (by simp;omega) (by unfold maxLen;simp;omega) (λv' W1 fM Ba QD hN1=>?_)
 repeat'(first|refine aF ?_|fail)
 obtain⟨A1,n1,c1,rfl⟩:∃ A1 n1 c1,v'=.slice A1 n1 c1:=by
  rcases Ba.G6 with⟨h,_⟩|⟨g,c,h,_⟩
  ·exact⟨_,_,_,h⟩
  ·exact⟨_,_,_,h⟩
 refine aY (off:=0) (v:=.slice A1 n1 c1) ((HT1.out.gy.ah yn.2).aW fM JJ) (λW2 kL Fh=>?_)
 have HM:=λ(i:Nat) (hi:i<4)=>Bo.start (i:=i) (e:=e) HT1.out hi (λk hk=>by have:=HT.out.lt k hk;omega) hx2 Xh yn.2 fM Ba QD kL Fh
 have an1:=Fh.lt
 have Ur:=(HM 0 (by omega)).box
 have aaH:=(HM 0 (by omega)).bn1
 have HMM:=Zh HM
 clear HM
 clear Xh bC bG aS
 repeat'(first|refine aF ?_|refine aQ ?_|refine au ?_|refine ak (λK hK=>?_)|refine aj ?_|refine aC ?_|refine aG ?_|refine rE (λhc=>?_) (λhc=>?_)|go_step)
 ·have hid:e.id<0:=by simpa using hc
  have hF:=(HMM.out 0 (by omega)).fin (by rw[kT,if_neg (by omega)]) (λj _ _=>by rw[kT,if_neg (by omega)]) HF.out UM (PD w _)
  refine aA hd ⟨by rw[KJ.out],hF.1,?_⟩
  rw[if_pos KJ.out];exact hF.2
 have hid:¬ e.id<0:=by simpa using hc
 have an2:e.id≤3:=HB.out.2.1
 have atr:=Zh hid
 clear hc
 obtain⟨i,hi⟩:∃ i:Nat,e.id=i:=⟨e.id.toNat,by omega⟩
 have hi4:i<4:=by omega
 have att:(i:Int)<4:=by omega
 have HMI:=Zh (HMM.out i hi4)
 clear hid an2
 obtain⟨-,r1,r2,r3,r4,r5⟩:=HMI.out.Um
 refine dA (by kernel_rfl) (by kernel_rfl) ?_
 repeat'(first|refine aF ?_|refine aQ ?_|refine ak (λK hK=>?_)|go_step)
 refine dA (by kernel_rfl) (by kernel_rfl) ?_
 repeat'(first|refine aF ?_|fail)
 refine aY (off:=1+i *5) HMI.out.gy (λW3 jd ru=>?_)
 have FB:=Zh (HMI.out.ag8 jd ru)
 clear r1 r2 r3 r4 r5 Ur aaH an1
 obtain⟨ajY,r1,r2,r3,r4,r5⟩:=FB.out.Um
 have Ur:=FB.out.box
 have ajZ:=FB.out.bn1
 repeat'(first|refine aF ?_|refine aQ ?_|refine au ?_|refine ak (λK hK=>?_)|refine aj ?_|refine aG ?_|refine rE (λhc=>?_) (λhc=>?_)|go_step)
 ·refine dA (by kernel_rfl) (by kernel_rfl) ?_
  repeat'(first|refine aF ?_|fail)
  refine aY (off:=1+i *5+1) FB.out.gy (λW4 wO FK=>?_)
  have xO:=Zh (FB.out.ag9 wO FK)
  clear r1 r2 r3 r4 r5 Ur ajZ ajY
  obtain⟨aj0,r1,r2,r3,r4,r5⟩:=xO.out.Um
  have Ur:=xO.out.box
  have aj1:=xO.out.bn1
  repeat'(first|refine aQ ?_|refine ak (λK hK=>?_)|go_step)
  refine dA (by kernel_rfl) (by kernel_rfl) ?_
  repeat'(first|refine aF ?_|fail)
  refine KC (bZ:=ki) (dG:=vB) xO.out.m2 (dU Tryz.underlying2) Tryz.underlying262 e.num true (λW5 kJ pX=>?_)
  have uo:=Zh (xO.out.aqn kJ pX)
  clear r1 r2 r3 r4 r5 Ur aj1 aj0
  obtain⟨atu,r1,r2,r3,r4,r5⟩:=uo.out.Um
  have Ur:=uo.out.box
  have atv:=uo.out.bn1
  repeat'(first|refine aQ ?_|refine ak (λK hK=>?_)|go_step)
  refine dA (by kernel_rfl) (by kernel_rfl) ?_
  repeat'(first|refine aF ?_|fail)
  refine abo (bZ:=ki) uo.out.m1 (dU Tryz.underlying2) Tryz.underlying261 e.num rfl (λW6 jP nY=>?_)
  have Jv:=Zh (uo.out.alT jP nY)
  repeat'(first|refine aF ?_|refine aQ ?_|refine au ?_|refine ak (λK hK=>?_)|refine aj ?_|refine aC ?_|go_step)
  have hk:e.kind≠1:=by simpa using hc
  have hF:=Jv.out.fin (by rw[kT,if_pos hi];unfold Wr.step;rw[if_pos hk];rfl) (λj _ hj=>by rw[kT,if_neg (by omega)]) HF.out UM (PD w _)
  refine aA hd ⟨by rw[KJ.out],hF.1,?_⟩
  rw[if_pos KJ.out];exact hF.2
 refine dA (by kernel_rfl) (by kernel_rfl) ?_
 repeat'(first|refine aF ?_|fail)
 refine wM (bZ:=ki) (dG:=ki) (z:=0) FB.out.m0 (dU Tryz.underlying2) Tryz.underlying260 e.num ?_
 simp only[Bool.false_eq_true,if_false]
 have atw:0≤e.seq:=HB.out.2.2.1
 have atx:e.seq≤2147483647:=HB.out.2.2.2.1
 repeat'(first|refine aF ?_|fail)
 refine KC (bZ:=ki) (dG:=ki) FB.out.m0 (dU Tryz.underlying2) Tryz.underlying260 e.num (ku (((kV l i).next e.num).getD 0) (e.seq+1)) (λW4 wO FK=>?_)
 have xO:=Zh (FB.out.aqm wO FK)
 clear r1 r2 r3 r4 r5 Ur ajZ ajY
 obtain⟨aj0,r1,r2,r3,r4,r5⟩:=xO.out.Um
 have Ur:=xO.out.box
 have aj1:=xO.out.bn1
 repeat'(first|refine aQ ?_|refine ak (λK hK=>?_)|go_step)
 refine dA (by kernel_rfl) (by kernel_rfl) ?_
 repeat'(first|refine aF ?_|fail)
 refine wM (bZ:=ki) (dG:=ki) (z:=0) xO.out.m1 (dU Tryz.underlying2) Tryz.underlying261 e.num ?_
 simp only[if_true]
 repeat'(first|refine aF ?_|refine aQ ?_|refine ak (λK hK=>?_)|go_step)
 refine dA (by kernel_rfl) (by kernel_rfl) ?_
 repeat'(first|refine X_d (λvb Kt=>?_)|refine aF ?_|refine mg ?_|fail)
 refine aen (bZ:=ki) (dG:=vB) (z:=false) xO.out.m2 (dU Tryz.underlying2) Tryz.underlying262 e.num ?_
 simp only[Bool.false_eq_true,if_false]
 repeat'(first|refine aF ?_|refine mg ?_|refine aQ ?_|refine au ?_|refine ak (λK hK=>?_)|refine aj ?_|refine aC ?_|refine aG ?_|refine rE (λhc=>?_) (λhc=>?_)|go_step)
 ·refine dA (by kernel_rfl) (by kernel_rfl) ?_
  repeat'(first|refine aF ?_|fail)
  refine KC (bZ:=ki) (dG:=ki) xO.out.m1 (dU Tryz.underlying2) Tryz.underlying261 e.num (l.length:Int) (λW5 kJ pX=>?_)
  have uo:=Zh (xO.out.alT kJ pX)
  repeat'(first|refine aF ?_|refine aQ ?_|refine au ?_|refine ak (λK hK=>?_)|refine aj ?_|refine aC ?_|go_step)
  have hk:¬ e.kind≠1:=by have:= ‹(e.kind != 1)=false›;simpa using this
  cases Kt
  have hF:=uo.out.fin (by rw[kT,if_pos hi];unfold Wr.step;rw[if_neg hk,if_pos (by cases hq:(kV l i).opens e.num<;>simp[hq]at hc ⊢;exact hc)];rfl) (λj _ hj=>by rw[kT,if_neg (by omega)]) HF.out UM (PD w _)
  refine aA hd ⟨by rw[KJ.out],hF.1,?_⟩
  rw[if_pos KJ.out];exact hF.2
 ·have hk:¬ e.kind≠1:=by have:= ‹(e.kind != 1)=false›;simpa using this
  cases Kt
  have hF:=xO.out.fin (by rw[kT,if_pos hi];unfold Wr.step;rw[if_neg hk,if_neg (by cases hq:(kV l i).opens e.num<;>simp[hq]at hc ⊢;exact hc)];rfl) (λj _ hj=>by rw[kT,if_neg (by omega)]) HF.out UM (PD w _)
  refine aA hd ⟨by rw[KJ.out],hF.1,?_⟩
  rw[if_pos KJ.out];exact hF.2
theorem eU.empty {κ β:Type} [DecidableEq κ] {bZ:κ→ Value} {dG:β→ Value} {w:World} {b:Nat} (h:w.heap[b]? =some (.map #[] 0)):eU bZ dG w b (λ_=>none):=
 ⟨[],0,⟨h,by simp,by simp,by simp⟩,λk=>rfl⟩
structure Made (w W:World) (b:Nat) (mb:Nat→Nat→Nat) (g:Nat→Value) (k:Nat):Prop where
 b0:w.heap.size≤b
 gy:cO W b 267 22 g
 g0:g 0=.slice none 0 0
 g21:g 21=.bool true
 cells:∀ i,i<k→g (1+i *5)=.int .i64 0∧g (1+i *5+1)=.int .i64 0∧g (1+i *5+2)=.map (some (mb i 0))∧g (1+i *5+3)=.map (some (mb i 1))∧g (1+i *5+4)=.map (some (mb i 2))
 m0:∀ i,i<k→eU ki ki W (mb i 0) (λ_=>none)
 m1:∀ i,i<k→eU ki ki W (mb i 1) (λ_=>none)
 m2:∀ i,i<k→eU ki vB W (mb i 2) (λ_=>none)
 inj:∀ i j i' j',i<k→j<3→i'<k→j'<3→mb i j=mb i' j'→i=i'∧j=j'
 new:∀ i j,i<k→j<3→w.heap.size≤mb i j
theorem Made.lt {w W:World} {b:Nat} {mb:Nat→Nat→Nat} {g:Nat→Value} {k:Nat} (M:Made w W b mb g k) {i j:Nat} (hi:i<k) (hj:j<3):mb i j<W.heap.size:=by
 match j,hj with
 | 0,_=>exact(M.m0 i hi).lt
 | 1,_=>exact(M.m1 i hi).lt
 | 2,_=>exact(M.m2 i hi).lt
theorem Made.next {w W W':World} {b m0 m1 m2:Nat} {mb:Nat→Nat→Nat} {g:Nat→Value} {k:Nat} (M:Made w W b mb g k) (hk:k<4) (y0:bM W) (y1:bM (W.ah y0)) (y2:bM ((W.ah y0).ah y1))
  (h0:W.heap.size≤m0) (h1:(W.ah y0).heap.size≤m1) (h2:((W.ah y0).ah y1).heap.size≤m2) (l0:m0<(W.ah y0).heap.size) (l1:m1<((W.ah y0).ah y1).heap.size) (l2:m2<(((W.ah y0).ah y1).ah y2).heap.size)
  (e0:(W.ah y0).heap[m0]? =some (.map #[] 0)) (e1:((W.ah y0).ah y1).heap[m1]? =some (.map #[] 0)) (e2:(((W.ah y0).ah y1).ah y2).heap[m2]? =some (.map #[] 0))
  (hM:bF (· =b) (((W.ah y0).ah y1).ah y2) W') (hB:cO W' b 267 22 (put g (1+k *5) [.int .i64 0,.int .i64 0,.map (some m0),.map (some m1),.map (some m2)])):
  Made w W' b (λi j=>if i=k then(if j=0 then m0 else if j=1 then m1 else m2) else mb i j) (put g (1+k *5) [.int .i64 0,.int .i64 0,.map (some m0),.map (some m1),.map (some m2)]) (k+1):=by
 have hbW:=M.gy.lt
 have s0:=y0.2.size
 have s1:=y1.2.size
 have s2:=y2.2.size
 have hE:aB W (((W.ah y0).ah y1).ah y2):=agZ _ _ _ _
 have oQ:bF (· =b) W W':=bF.trans hE hM (λ_ _ h=>h.elim) (λ_ _ h=>h)
 have Yh:∀ i j,i<k→j<3→¬ (mb i j=b):=by
  intro i j hi hj h
  obtain⟨cs,hc,_⟩:=M.gy
  subst h
  match j,hj with
  | 0,_=>exact jI hc (M.m0 i hi)
  | 1,_=>exact jI hc (M.m1 i hi)
  | 2,_=>exact jI hc (M.m2 i hi)
 have hs0:(W.ah y0).heap.size≤(W.ah y0).heap.size:=Nat.le_refl _
 have s0':W.heap.size≤(W.ah y0).heap.size:=s0
 have s1':(W.ah y0).heap.size≤((W.ah y0).ah y1).heap.size:=s1
 have s2':((W.ah y0).ah y1).heap.size≤(((W.ah y0).ah y1).ah y2).heap.size:=s2
 have f0:W'.heap[m0]? =some (.map #[] 0):=by
  rw[hM.block m0 (by omega) (by omega),uf _ y2 _ (by omega),uf _ y1 _ (by omega)];exact e0
 have f1:W'.heap[m1]? =some (.map #[] 0):=by
  rw[hM.block m1 (by omega) (by omega),uf _ y2 _ (by omega)];exact e1
 have f2:W'.heap[m2]? =some (.map #[] 0):=by
  rw[hM.block m2 (by omega) (by omega)];exact e2
 have hw:=M.b0
 refine⟨M.b0,hB,by rw[oH (by omega)];exact M.g0,by rw[oH (by simp;omega)];exact M.g21,?_,?_,?_,?_,?_,?_⟩
 ·intro i hi
  by_cases O9:i=k
  ·subst O9
   simp only[if_true]
   exact⟨BZ 0 (by simp) (by omega),BZ 1 (by simp) (by omega),BZ 2 (by simp) (by omega),BZ 3 (by simp) (by omega),BZ 4 (by simp) (by omega)⟩
  ·simp only[O9,if_false]
   obtain⟨a0,a1,a2,a3,a4⟩:=M.cells i (by omega)
   exact⟨by rw[oH (by omega)];exact a0,by rw[oH (by omega)];exact a1,by rw[oH (by omega)];exact a2,by rw[oH (by omega)];exact a3,by rw[oH (by omega)];exact a4⟩
 ·intro i hi
  by_cases O9:i=k
  ·subst O9;simp only[if_true];exact eU.empty f0
  ·simp only[O9,if_false];exact(M.m0 i (by omega)).aW oQ (Yh i 0 (by omega) (by omega))
 ·intro i hi
  by_cases O9:i=k
  ·subst O9;simp only[if_true];exact eU.empty f1
  ·simp only[O9,if_false];exact(M.m1 i (by omega)).aW oQ (Yh i 1 (by omega) (by omega))
 ·intro i hi
  by_cases O9:i=k
  ·subst O9;simp only[if_true];exact eU.empty f2
  ·simp only[O9,if_false];exact(M.m2 i (by omega)).aW oQ (Yh i 2 (by omega) (by omega))
 ·intro i j i' j' hi hj QC AQ h
  have xE:∀ i j,i<k→j<3→mb i j<W.heap.size:=λi j hi hj=>M.lt hi hj
  have BJ:∀ j,j<3→W.heap.size≤(if j=0 then m0 else if j=1 then m1 else m2):=λj hj=>by split<;>(try split)<;>omega
  by_cases O9:i=k<;>by_cases ads:i'=k
  ·simp only[O9,ads,if_true]at h
   refine⟨O9.trans ads.symm,?_⟩
   obtain rfl|rfl|rfl:j=0∨j=1∨j=2:=by omega
   all_goals (obtain rfl|rfl|rfl:j'=0∨j'=1∨j'=2:=by omega)<;>simp at h<;>omega
  ·simp only[O9,ads,if_true,if_false]at h
   have:=xE i' j' (by omega) AQ
   have:=BJ j hj
   omega
  ·simp only[O9,ads,if_true,if_false]at h
   have:=xE i j (by omega) hj
   have:=BJ j' AQ
   omega
  ·simp only[O9,ads,if_false]at h
   exact M.inj i j i' j' (by omega) hj (by omega) AQ h
 ·intro i j hi hj
  by_cases O9:i=k
  ·simp only[O9,if_true]
   have hwW:w.heap.size≤W.heap.size:=Nat.le_trans M.b0 (Nat.le_of_lt hbW)
   split<;>(try split)<;>omega
  ·simp only[O9,if_false];exact M.new i j (by omega) hj
theorem Made.JG {w W:World} {b:Nat} {mb:Nat→Nat→Nat} {g:Nat→Value} (M:Made w W b mb g 4):MJ W b (λk=>w.heap.size≤k) []:=by
 refine⟨.slice none 0 0,mb,g,⟨M.gy,M.g0,M.g21,dQ.nil W,λi hi=>(M.cells i hi).1,λi hi=>(M.cells i hi).2.1,λi hi=>(M.cells i hi).2.2.1,λi hi=>(M.cells i hi).2.2.2.1,λi hi=>(M.cells i hi).2.2.2.2,M.m0,M.m1,M.m2,M.inj⟩,?_⟩
 rintro k (rfl|h|⟨i,j,hi,hj,rfl⟩)
 ·exact M.b0
 ·cases h
 ·exact M.new i j hi hj
theorem zN (w:World):gK Tryz.prog 180 #[] w λv w'=>∃ b,v=.pointer (some ⟨b,0,none⟩)∧aB w w'∧MJ w' b (λk=>w.heap.size≤k) []:=by
 refine Fi (n:=19) Tryz.func180 ?_;intro A hd hA;simp only[ix,Nat.reduceAdd]
 repeat'(first|refine aF ?_|refine au ?_|refine ak (λK hK=>?_)|refine aj ?_|refine aJ ?_|(refine dI (λx K hK=>?_);go_simp;refine hK _ _ (aB.alloc _ _) ?_;clear hK K;refine aZ x ?_;generalize (World.ah _ x).heap.size=bn;intro yn aU bD bC bG aS;clear x)|go_step)
 refine dJ [1,5] (λn vs w'=>∃ (k:Nat) (y:bM w) (mb:Nat→Nat→Nat) (g:Nat→Value),w'=w.ah y∧k+n=4∧vs=[.pointer (some ⟨bn,0,none⟩),.int .i64 k]∧Made w (w.ah y) bn mb g k) 4 hd hA (by decide) ?_ ?_
 ·refine⟨0,yn,λ_ _=>0,_,rfl,by omega,by simp,⟨aU,cO.new aS.out,rfl,rfl,by intro i hi;omega,by intro i hi;omega,by intro i hi;omega,by intro i hi;omega,by intro i j i' j' hi;omega,by intro i j hi;omega⟩⟩
 clear bC bG aS hd hA A;intro n vs B w' hd hA _ ⟨k,y,mb,g,hw,hk,jk,hM⟩;subst hw jk
 simp only[List.zip_cons_cons,List.zip_nil_right,List.zip_nil_left]
 have HM:=Zh hM
 have aqv:=hM.gy.lt
 clear hM
 by_cases hlt:k<4
 ·have sZ:(k:Int)<4:=by omega
  repeat'(first|refine aF ?_|refine au ?_|refine ak (λK hK=>?_)|refine aj ?_|refine aG ?_|refine aJ ?_|refine bH ?_|go_step)
  refine dI (λx K hK=>?_);go_simp;refine hK _ _ (aB.alloc _ _) ?_;clear hK K;refine Q8 x ?_;generalize (World.ah _ x).heap.size=m0;intro y0 h0 l0 e0;clear x
  refine dI (λx K hK=>?_);go_simp;refine hK _ _ (aB.alloc _ _) ?_;clear hK K;refine Q8 x ?_;generalize (World.ah _ x).heap.size=m1;intro y1 h1 l1 e1;clear x
  refine dI (λx K hK=>?_);go_simp;refine hK _ _ (aB.alloc _ _) ?_;clear hK K;refine Q8 x ?_;generalize (World.ah _ x).heap.size=m2;intro y2 h2 l2 e2;clear x
  repeat'(first|refine aF ?_|fail)
  refine aY (off:=1+k *5) (HM.out.gy.ah (by simp)) (λW' YM hB=>?_)
  have HN:=Zh (HM.out.next hlt y0 y1 y2 h0 h1 h2 l0 l1 l2 e0.out e1.out e2.out YM hB)
  have hE:aB w W':=aB.bK (F:=λk=>k=bn) (by simp:aB w ((((w.ah y).ah y0).ah y1).ah y2)) YM (λi h=>by subst h;exact aU)
  obtain⟨y',rfl⟩:=hE.get
  repeat'(first|refine aF ?_|refine au ?_|refine aj ?_|go_step)
  exact⟨_,_,rfl,hd,hA,n-1,by omega,k+1,y',_,_,rfl,by omega,by simp,HN.out⟩
 ·obtain rfl:k=4:=by omega
  repeat'(first|refine aF ?_|refine au ?_|refine ak (λK hK=>?_)|refine aj ?_|refine aC ?_|refine dS ?_|refine bJ ?_|go_step)
  exact aA hd ⟨_,rfl,y.2,HM.out.JG⟩
theorem aby {α:Type} {l:List α} {k:Nat} {e:α} (h:l[k]? =some e):l.drop k=e::l.drop (k+1):=by
 obtain⟨hk,he⟩:=Ge h
 rw[List.drop_eq_getElem_cons hk,he]
def oz:List cZ→List cZ→Int
 | _,[]=>0
 | log,e::es=>if bY log e=0 then oz (log++[e]) es else bY log e
def wP (l:List cZ):Int:=oz [] l
theorem Ry (l:List cZ) (v:Value) (w:World) (hl:yQ w v l):gK Tryz.prog 182 #[v] w λv' w'=>aB w w'∧
  (wP l=0→∃ b,v'=.tuple #[.pointer (some ⟨b,0,none⟩),.int .i64 0]∧MJ w' b (λk=>w.heap.size≤k) l)∧(wP l≠0→v'=.tuple #[.pointer none,.int .i64 (wP l)]):=by
 obtain⟨A0,c,rfl,hc,jT,HR⟩:=hl.ent
 clear hl
 refine Fi (n:=23) Tryz.func182 ?_;intro A hd hA;simp only[ix,Nat.reduceAdd]
 repeat'(first|(refine aX Tryz.func180 (zN _) (λv' w' hR=>?_);obtain⟨bt,rfl,Ko,hR'⟩:=hR;obtain⟨y',rfl⟩:=Ko.get;have HT:=Zh hR';clear hR' Ko)|refine aF ?_|refine au ?_|refine ak (λK hK=>?_)|refine aj ?_|refine aJ ?_|go_step)
 refine dJ [4,9,10,11] (λn vs w'=>∃ (k:Nat) (y:bM w),w'=w.ah y∧k+n=l.length∧vs=[.pointer (some ⟨bt,0,none⟩),.slice A0 l.length c,.int .i64 l.length,.int .i64 k]∧MJ (w.ah y) bt (λk=>w.heap.size≤k) (l.take k)∧wP l=oz (l.take k) (l.drop k)) l.length hd hA (by decide) ?_ ?_
 ·exact⟨0,y',rfl,by omega,by simp,by simpa using HT.out,rfl⟩
 clear hd hA A HT;intro n vs B w' hd hA _ ⟨k,y,hw,hk,jk,hT,hm⟩;subst hw jk
 simp only[List.zip_cons_cons,List.zip_nil_right,List.zip_nil_left]
 have HT:=Zh hT;clear hT
 have HM:=Zh hm;clear hm
 by_cases hlt:k<l.length
 ·obtain⟨e,b,o,HE,rfl,hb,c0,c1,c2,c3,c4,c5⟩:=HR.out k hlt
  have hm:=HM.out
  rw[aby HE.out,oz]at hm
  have Hm:=Zh hm;clear hm
  repeat'(first|(refine aX Tryz.func181 (vw (HT.out.ah (by simp)) e) (λv' w' hR=>?_);obtain⟨rfl,oQ,hR'⟩:=hR;have Ko:=aB.bK (by simp) oQ (λi h=>h);obtain⟨y',rfl⟩:=Ko.get;have HT':=Zh hR';clear hR' Ko)|refine aF ?_|refine au ?_|(refine jr (λyn bn aU bD bC bG aS=>?_))|refine ak (λK hK=>?_)|refine aj ?_|refine aC ?_|refine aG ?_|refine aJ ?_|refine bH ?_|refine rE (λhc=>?_) (λhc=>?_)|go_step)
  ·have hq:bY (l.take k) e≠0:=by simpa using hc
   have h0:wP l=bY (l.take k) e:=by rw[Hm.out,if_neg hq]
   refine dB hd ⟨y'.2,λh=>absurd (h0▸h) hq,λ_=>by rw[h0]⟩
  ·have hq:bY (l.take k) e=0:=by simpa using hc
   refine⟨_,_,rfl,hd,hA,n-1,by omega,k+1,y',rfl,by omega,by simp,?_,?_⟩
   ·have:=HT'.out
    rw[if_pos hq,←gV HE.out]at this
    refine this.mono ?_
    rintro j (h|h)
    ·exact h
    ·exact Nat.le_trans (agY w y _).size h
   ·rw[Hm.out,if_pos hq,gV HE.out]
 ·obtain rfl:k=l.length:=by omega
  repeat'(first|refine aF ?_|refine au ?_|refine ak (λK hK=>?_)|refine aj ?_|refine aC ?_|refine dS ?_|refine bJ ?_|go_step)
  have h0:wP l=0:=by rw[HM.out,List.drop_length];rfl
  refine dB hd ⟨y.2,λ_=>⟨bt,rfl,by simpa using HT.out⟩,λh=>absurd h0 h⟩
section
variable {P : Program} {Q : jo} {A : Act} {fl : List (Nat × Value)} {ops : Array Oper} {o : Oper} {w : World}
theorem yR {rest:List (Oper×Nat)} {x:Operand} {t:TypeId} {d b n:Nat} {E:TypeId} {g:Nat→Value} {td:TypeDesc} (hb:cO w b E n g)
  (h:jh P ops Q rest (fr ((d,.agg ((List.range n).map g).toArray)::fl) A) w) (ho:o.op=.load t x:=by rfl) (hd:o.dst=some d:=by rfl) (hg:o.guard=none:=by rfl)
  (hu:P.underlying t=some td:=by kernel_rfl) (Xd:td.isRow=true:=by rfl) (hi:(P.info? t).map (·.size)=some n:=by kernel_rfl)
  (hx:Is ((fr fl A).eval x) (.pointer (some ⟨b,0,none⟩)):=by go_simp;exact Is.mk _):jh P ops Q ((o,0)::rest) (fr fl A) w:=
 aF h hd hg λX=>by
  have Dk:cO (w.ah X) b E n g:=hb.ah X.2
  have:=run_loadAt_mid (P:=P) (w.ah X) b 0 t ((List.range n).map g) td (λj v hv=>by
   simp only[List.getElem?_map]at hv
   rcases Nat.lt_or_ge j n with hj|hj
   ·rw[List.getElem?_range hj]at hv
    cases hv
    rw[Nat.zero_add];exact Dk.cell hj
   ·rw[List.getElem?_eq_none (by simpa using hj)]at hv;cases hv) hu Xd (by simpa using hi)
  unfold Oper.quietAt execOp
  simp only[ho,hx.eq,this,Sem.run_bind,Result.andThen_ok,Sem.run_pure,Oper.quietUpon]
  exact⟨trivial,trivial⟩
end
theorem Ed:∀ (a b log:List cZ),oz log a=0→oz log (a++b)=oz (log++a) b
 | [],b,log,_=>by simp
 | x::a,b,log,h=>by
  rw[oz]at h
  rw[List.cons_append,oz]
  by_cases hx:bY log x=0
  ·rw[if_pos hx]at h ⊢
   rw[Ed a b _ h];simp
  ·rw[if_neg hx]at h;exact absurd h hx
theorem II:∀ (a log:List cZ) (n:Nat),oz log a=0→oz log (a.take n)=0
 | [],log,n,_=>by simp[oz]
 | x::a,log,0,_=>by simp[oz]
 | x::a,log,n+1,h=>by
  rw[oz]at h
  rw[List.take_succ_cons,oz]
  by_cases hx:bY log x=0
  ·rw[if_pos hx]at h ⊢
   exact II a _ n h
  ·rw[if_neg hx]at h;exact absurd h hx
theorem Hw {l:List cZ} (h:wP l=0) (n:Nat):wP (l.take n)=0:=II l [] n h
theorem PO {w:World} {m:Nat}:gK Tryz.prog 282 #[.map (some m)] w λv w'=>∃ bx,v=.func (.func 284) #[] #[.pointer (some ⟨bx,0,none⟩)]∧aB w w'∧w.heap.size≤bx∧bx<w'.heap.size∧w'.cell? ⟨bx,0,none⟩=some (.map (some m)):=by
 refine Fi (n:=4) Tryz.func282 ?_;intro A hd hA;simp only[ix,Nat.reduceAdd]
 repeat'(first|refine aF ?_|refine au ?_|refine ak (λK hK=>?_)|refine aj ?_|refine aC ?_|(refine dI (λx K hK=>?_);go_simp;refine hK _ _ (aB.alloc _ _) ?_;clear hK K;refine aZ x ?_;generalize (World.ah _ x).heap.size=bn;intro yn aU bD bC bG aS;clear x)|go_step)
 exact aA hd ⟨bn,rfl,yn.2,aU,bD,bC 0⟩
theorem xX {α:Type} {C:List α→Prop} (h0:C []) (hs:∀ l a,C l→C (l++[a])):∀ l,C l:=λl=>by
 have:∀ r:List α,C r.reverse:=by
  intro r
  induction r with
  | nil=>exact h0
  | cons a r ih=>rw[List.reverse_cons];exact hs _ _ ih
 simpa using this l.reverse
def tN (i num:Int) (e:cZ):Bool:=(e.id==i)&&(e.kind==1)&&(e.num==num)
def qh (l:List cZ) (i num:Int):Option Int:=(l.findIdx? (tN i num)).map (λn:Nat=>(n:Int))
theorem FY (l:List cZ) (e:cZ) (i num:Int):qh (l++[e]) i num=(qh l i num).or (if tN i num e=true then some (l.length:Int) else none):=by
 unfold qh
 rw[List.findIdx?_append]
 cases h:l.findIdx? (tN i num) with
 | some n=>simp
 | none=>
  by_cases hp:tN i num e=true
  ·simp[hp,List.findIdx?_cons]
  ·simp[hp,List.findIdx?_cons]
theorem FZ (l:List cZ) (e:cZ) (i num:Int):nK (l++[e]) i num=(nK l i num||((e.id==i)&&(e.num==num)&&decide (1<e.kind))):=by
 simp[nK]
theorem aeA (l:List cZ) (i:Int):(∀e∈l,1≤e.kind)→∀ num,(kV l i).done num=if nK l i num then some true else none:=by
 induction l using xX with
 | h0=>intro _ num;rfl
 | hs l e ih=>
  intro hk num
  have ih:=ih (λx hx=>hk x (by simp[hx])) num
  have he:=hk e (by simp)
  rw[kT,FZ]
  by_cases hi:e.id=i
  ·rw[if_pos hi]
   unfold Wr.step
   by_cases h1:e.kind≠1
   ·rw[if_pos h1]
    simp only[yu]
    by_cases hn:num=e.num
    ·subst hn
     have:1<e.kind:=by omega
     simp[hi,this]
    ·have:(e.num==num)=false:=by simp;exact λh=>hn h.symm
     simp[hn,ih,this]
   ·rw[if_neg h1]
    have:¬ 1<e.kind:=by omega
    simp only[ih,this,decide_false,Bool.and_false,Bool.or_false]
  ·rw[if_neg hi]
   have:(e.id==i)=false:=by simpa using hi
   simp[this,ih]
theorem abz (l:List cZ) (i:Int):(∀e∈l,1≤e.kind)→∀ num,(kV l i).opens num=if nK l i num then none else qh l i num:=by
 induction l using xX with
 | h0=>intro _ num;rfl
 | hs l e ih=>
  intro hk num
  have sF:∀ x∈l,1≤x.kind:=λx hx=>hk x (by simp[hx])
  have ih:=ih sF
  have hdn:=aeA l i sF
  have he:=hk e (by simp)
  rw[kT,FZ,FY]
  by_cases hi:e.id=i
  ·rw[if_pos hi]
   unfold Wr.step
   by_cases h1:e.kind≠1
   ·rw[if_pos h1]
    have hgt:1<e.kind:=by omega
    have hf:tN i num e=false:=by simp[tN,h1]
    simp only[yu]
    by_cases hn:num=e.num
    ·subst hn;simp[hi,hgt]
    ·have:(e.num==num)=false:=by simp;exact λh=>hn h.symm
     simp[hn,ih,this,hf]
   ·rw[if_neg h1]
    have hng:¬ 1<e.kind:=by omega
    have JF:e.kind=1:=by omega
    simp only[hng,decide_false,Bool.and_false,Bool.or_false]
    by_cases hc:(!((kV l i).opens e.num).isSome&& !((kV l i).done e.num).getD false)=true
    ·rw[if_pos hc]
     simp only[Bool.and_eq_true,Bool.not_eq_true']at hc
     obtain⟨Na,Jr⟩:=hc
     have hnm:nK l i e.num=false:=by
      rw[hdn]at Jr
      cases hm:nK l i e.num<;>simp[hm]at Jr ⊢
     have bT:qh l i e.num=none:=by
      rw[ih,hnm]at Na
      simpa using Na
     simp only[yu]
     by_cases hn:num=e.num
     ·subst hn;simp[hnm,bT,tN,hi,JF]
     ·have:(e.num==num)=false:=by simp;exact λh=>hn h.symm
      simp[hn,ih,tN,this]
    ·rw[if_neg hc,ih]
     by_cases hn:num=e.num
     ·subst hn
      cases hm:nK l i e.num with
      | true=>simp
      | false=>
       have:(qh l i e.num).isSome=true:=by
        rw[ih,hdn,hm]at hc
        cases hq:qh l i e.num<;>simp[hq]at hc ⊢
       obtain⟨n,hfn⟩:=Option.isSome_iff_exists.1 this
       simp[hfn]
     ·have:(e.num==num)=false:=by simp;exact λh=>hn h.symm
      simp[tN,this]
  ·rw[if_neg hi]
   have:(e.id==i)=false:=by simpa using hi
   simp[this,ih,tN]
theorem Rz (l:List cZ) (i:Int) (p:List cZ):∀ o,o∈uH l i 0 p []↔nK l i o.num=false∧qh p i o.num=some o.first:=by
 induction p using xX with
 | h0=>intro o;simp[uH,qh]
 | hs p e ih=>
  intro o
  rw[FV,FY]
  unfold KF
  have al1:((uH l i 0 p []).any λo=>o.num==e.num)=true↔nK l i e.num=false∧(qh p i e.num).isSome=true:=by
   rw[List.any_eq_true]
   constructor
   ·rintro⟨x,hx,hn⟩
    have hn:x.num=e.num:=by simpa using hn
    have:=(ih x).1 hx
    rw[hn]at this
    exact⟨this.1,by rw[this.2];rfl⟩
   ·rintro⟨h1,h2⟩
    obtain⟨f,hf⟩:=Option.isSome_iff_exists.1 h2
    exact⟨⟨e.num,f⟩,(ih _).2 ⟨h1,hf⟩,by simp⟩
  by_cases hc:(e.id != i||e.kind != 1||nK l i e.num)=true
  ·rw[if_pos hc,ih]
   by_cases hf:tN i o.num e=true
   ·have hm:nK l i o.num=true:=by
     simp only[tN,Bool.and_eq_true,beq_iff_eq]at hf
     obtain⟨⟨h1,h2⟩,h3⟩:=hf
     simpa [h1,h2,h3] using hc
    simp[hm]
   ·simp[hf]
  ·rw[if_neg hc]
   simp only[Bool.or_eq_true,bne_iff_ne,ne_eq,not_or,Decidable.not_not,Bool.not_eq_true]at hc
   obtain⟨⟨h1,h2⟩,h3⟩:=hc
   by_cases ha:((uH l i 0 p []).any λo=>o.num==e.num)=true
   ·rw[if_pos ha,ih]
    obtain⟨_,hs⟩:=al1.1 ha
    by_cases hn:o.num=e.num
    ·rw[hn]
     obtain⟨f,hf⟩:=Option.isSome_iff_exists.1 hs
     simp[hf]
    ·have:tN i o.num e=false:=by simp[tN];intro _ _ h;exact absurd h.symm hn
     simp[this]
   ·rw[if_neg ha,List.mem_append,ih,List.mem_singleton]
    have al2:qh p i e.num=none:=by
     cases hq:qh p i e.num with
     | none=>rfl
     | some f=>exact absurd (al1.2 ⟨h3,by rw[hq];rfl⟩) ha
    by_cases hn:o.num=e.num
    ·have hfb:tN i o.num e=true:=by simp[tN,h1,h2,hn]
     rw[hfb]
     obtain⟨on,of⟩:=o
     simp only at hn
     subst hn
     simp only[al2,h3,if_true,Option.none_or,true_and,Option.some.injEq,Opn.mk.injEq]
     simp only[reduceCtorEq,false_or]
     constructor
     ·intro h;omega
     ·intro h;omega
    ·have hfb:tN i o.num e=false:=by simp[tN];intro _ _ h;exact absurd h.symm hn
     have:o≠⟨e.num,((0+p.length:Nat):Int)⟩:=λh=>hn (by rw[h])
     rw[hfb]
     constructor
     ·rintro(h|h)
      ·simpa using h
      ·exact absurd h this
     ·intro h;left;simpa using h
theorem Vg (l:List cZ) (i:Int) (o:Opn):o∈Ht l i↔nK l i o.num=false∧qh l i o.num=some o.first:=Rz l i l o
theorem Om {l:List cZ} (hk:∀ e∈l,1≤e.kind) (i:Int) (num f:Int):(kV l i).opens num=some f↔(⟨num,f⟩:Opn)∈Ht l i:=by
 rw[abz l i hk,Vg]
 cases hm:nK l i num<;>simp
theorem KL {κ β:Type} [DecidableEq κ] {L:List (κ×β× Nat)} (hn:(L.map (·.1)).Nodup) (k:κ) (v:β):BH L k=some v↔∃ b,(k,v,b)∈L:=by
 unfold BH
 constructor
 ·intro h
  cases hf:L.find? (λx=>decide (x.1=k)) with
  | none=>rw[hf]at h;cases h
  | some x=>
   rw[hf]at h
   obtain⟨x1,x2,x3⟩:=x
   simp only[Option.map_some,Option.some.injEq]at h
   have h1:=List.find?_some hf
   have h2:=List.mem_of_find?_eq_some hf
   simp only[decide_eq_true_eq]at h1
   subst h h1
   exact⟨x3,h2⟩
 ·rintro⟨b,hb⟩
  cases hf:L.find? (λx=>decide (x.1=k)) with
  | none=>
   have:=List.find?_eq_none.1 hf _ hb
   simp at this
  | some x=>
   have h1:=List.find?_some hf
   have h2:=List.mem_of_find?_eq_some hf
   have:=zL hn h2 hb (by simpa using h1)
   rw[this];rfl
theorem RD:∀ (l log:List cZ),oz log l=0→∀ e∈l,fJ e=true
 | [],_,_,e,he=>by cases he
 | x::l,log,h,e,he=>by
  rw[oz]at h
  by_cases hx:bY log x=0
  ·rw[if_pos hx]at h
   rcases List.mem_cons.1 he with rfl|he
   ·exact(XF hx).1
   ·exact RD l _ h e he
  ·rw[if_neg hx]at h;exact absurd h hx
theorem abA {l:List cZ} (h:wP l=0):∀ e∈l,1≤e.kind:=λe he=>(zK (RD l [] h e he)).2.2.2.2.1
end Go.Ws
