/- The function ClusterKeeps of waystationlaw12 returns true at every input, and what was handed in reads as before; no condition. -/
import Derived.Test.YtdabdbmehmccnaaGreatCa01
import Derived.Test.YtdabdbmehmccnaaGreatKClusterKeeps01
namespace Go.Proofs.YtdabdbmehmccnaaGreat
open Go Go.RowKit Go.Proofs Go.Ws Go.ChangeShapes Go.WideShapes Go.ChangeAt
set_option linter.unusedVariables false
set_option maxRecDepth 100000
theorem DY (os:Os) (started:os.Started) (H:Type) (enc:TypeId×Value→H):
  ReturnsInHanded {} Tryz.checked os 3 .any (Rows.clusterKeepsSpec.pre6 enc Tryz.prog Tryz.f3 Rows.clusterKeepsRow.domain false) (Rows.clusterKeepsSpec.post enc Tryz.prog Tryz.f3 false true false false):=by
 refine returnsInHanded_of_change (C:=Tryz.checked) afZ started (by kernel_rfl) Tryz.func3
  (ChangeSpec.witness6 (enc:=enc) (C:=Tryz.checked) false ⟨#[],#[.agg #[.int .i64 0,.int .i64 0,.int .i64 0,.int .i64 0],.slice none 0 0],[]⟩ 8 (by kernel_rfl) (by kernel_rfl) (by kernel_rfl) (by kernel_rfl)) ?_
 intro W base args ds gs before UF hW aq8 _
 have zA:∀ (j:Nat) t v,Tryz.f3.params[j]? =some t→args[j]? =some v→Value.okWide Tryz.prog W .any base t v:=UF
 have hW':=hW
 obtain⟨p,q,jg,hV,rfl,hfz,hnd⟩:=hW
 have hA:DataW.TrodAll enc Tryz.prog W 0 (λ_=>true) true Tryz.f3.params.toList args.toList ds p:=jg
 rw[Tryz.params3]at hA zA
 obtain⟨v0,v1,d0,d1,p0,p1,rfl,rfl,rfl,h0,h1⟩:=trodAll_two hA
 obtain⟨rfl,rfl⟩:=trodVars_none hV
 have lt0:∀ x∈p0,x.block<W.heap.size:=by obtain⟨m,hm⟩:=h0;exact DataW.trod_lt m _ _ _ hm
 have k0:=h0
 obtain⟨x0,rfl⟩:=TS (zA 0 25 v0 rfl rfl) h0
 have lt1:∀ x∈p1,x.block<W.heap.size:=by obtain⟨m,hm⟩:=h1;exact DataW.trod_lt m _ _ _ hm
 have k1:=h1
 obtain⟨l1,r1⟩:=Qs (zA 1 26 v1 rfl rfl) h1
 clear jg UF
 refine(Fn.Dj (Uh x0 l1 v1 W r1)).mono λe W' hR=>?_
 obtain⟨wz,ny,hR⟩:=hR
 cases e with
 | returned v=>
  obtain⟨rfl,hE⟩:=hR
  have bel:=(Et hE ny).below
  exact⟨_,rfl,_,_,_,[],_,[],hW',trodAll_mk1 (shut_bool Tryz.underlying4 _),trodAll_mk2 (Below.trod DI (by kernel_rfl) (of_decide_eq_true (by kernel_rfl)) k0 bel lt0) (Below.trod DI (by kernel_rfl) (of_decide_eq_true (by kernel_rfl)) k1 bel lt1),rfl,bel.frame _,λh=>by cases h⟩
 | panicked c=>exact hR.elim
 | outgrown=>exact hR.elim
theorem DZ:joinedFacts Tryz.prog 3 Tryz.f3 Rows.clusterKeepsSpec Rows.clusterKeepsRow=true:=
 Og (by kernel_rfl) DI XA (by kernel_rfl) (by kernel_rfl) rfl XB rfl IC (by kernel_rfl) (by kernel_rfl) (by kernel_rfl) (by kernel_rfl) (by kernel_rfl) (by kernel_rfl) (by kernel_rfl) (by kernel_rfl) (by kernel_rfl) (by kernel_rfl) (by kernel_rfl) (by kernel_rfl) (by kernel_rfl) (by rw[IE];rfl) rfl FQ mayEnter (by rw[liftsFinal];rfl) (by rw[abn];rfl) (by kernel_rfl) (by kernel_rfl) (by kernel_rfl) (by kernel_rfl)
theorem clusterKeeps_holds:Rows.ClusterKeepsSaid:=
 OpenClaim.holds_of_wide 3 Tryz.f3 rfl rfl rfl rfl rfl rfl rfl ⟨rfl,rfl,rfl,rfl,rfl⟩ rfl rfl rfl rfl rfl (by kernel_rfl) Tryz.func3 DZ
  (of_decide_eq_true (by kernel_rfl)) (by unfold Func.isWrapper;first|(rw[if_pos (by decide+kernel)];kernel_rfl)|(rw[if_neg (by decide+kernel)];exact⟨rfl,rfl⟩))
  (λos started H enc _=>DY os started H enc)
#print axioms clusterKeeps_holds
end Go.Proofs.YtdabdbmehmccnaaGreat
