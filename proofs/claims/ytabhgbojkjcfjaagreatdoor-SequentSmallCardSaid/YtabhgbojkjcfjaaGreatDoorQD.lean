/- Walks: the premises of a step. -/
import Derived.Test.YtabhgbojkjcfjaaGreatDoorQC
import Derived.Test.YtabhgbojkjcfjaaGreatDoorKU
import Derived.Test.YtabhgbojkjcfjaaGreatDoorLE
import Derived.Test.YtabhgbojkjcfjaaGreatDoorKG
import Derived.Test.YtabhgbojkjcfjaaGreatDoorLF
set_option linter.all false
open Nat renaming reduceEqDiff → zE,reduceBEq → zB,reduceAdd → zA,reduceMul → zM,reduceLeDiff → zL
namespace Go.Proofs.Tryz
open Go Go.Iv
set_option maxRecDepth 4000
variable (gl:Nat->Option IV)
theorem xQn:∀ {l:List Fm}{c:Nat},(∀f∈l,f.size<=c)->yQ9 l<=l.length*c
 | [],c,_=>by simp[yQ9]
 | a::l,c,h=>by
  have h1:=h a (by simp);have h2:=xQn (l:=l) λf A=>h f (by simp[A]);rw[List.length_cons,Nat.succ_mul];simp only[yQ9];omega
def yZk (ca:Nat)(s m:Sq):Sq:=⟨s.l++m.l,if ca≠2\/m.r.length=0 then s.r++m.r else m.r⟩
def okI (ca:Nat)(s m:Sq):Bool:=decide ((yZk ca s m).l.length<=64)&&decide ((yZk ca s m).r.length<=64)
noncomputable def xZ7 (ca:Nat)(s:Sq)(rule:Nat)(main:Fm)(term:Tm)(name:ByteArray):List Sq×Nat :=
 if !yX7 ca then ([],2) else if (yZt ca s rule main term name).2≠0 then ([],(yZt ca s rule main term name).2)
 else if (yZt ca s rule main term name).1.all (okI ca s) then ((yZt ca s rule main term name).1.map (yZk ca s),0) else ([],5)
theorem vZw {c:Prop} [Decidable c]{A B:List Sq}(h1:A.length<=2)(h2:B.length<=2):(if c then A else B).length<=2:=by split<;>assumption
theorem xGw (ca rule:Nat)(main a b:Fm):(addS ca rule main a b).length<=2:=by
 unfold addS
 repeat' apply vZw
 all_goals first|exact Nat.zero_le _|exact Nat.le_refl 2|exact Nat.le_succ 1
theorem xK4 {ca rule:Nat}{r:Rw}{main:Fm}{term:Tm}{name:ByteArray}{ad:List Sq}(h:yZl ca rule r main term name=(ad,0)):ad.length<=2:=by
 unfold yZl at h;by_cases hc:(!fmB ca main || (decide (r.op≠0)&&decide (main.op≠r.op)))=true
 ·rw[if_pos hc] at h;cases (Prod.mk.inj h).2
 ·rw[if_neg hc] at h;by_cases A:r.asks=0
  ·simp only[if_pos A] at h;rw[<- (Prod.mk.inj h).1];exact xGw ..
  ·simp only[if_neg A] at h;generalize (if r.asks=2 then Tm.mk true name [] else term)=t at h;by_cases h1:(!t.ok)=true
   ·simp only[if_pos h1] at h;cases (Prod.mk.inj h).2
   ·simp only[if_neg h1] at h;by_cases h2:(yZf ((main.subs[0]?).getD fm0) [(main.nm,t)]).2≠0
    ·simp only[if_pos h2] at h;cases (Prod.mk.inj h).2
    ·simp only[if_neg h2] at h;rw[<- (Prod.mk.inj h).1];exact xGw ..
theorem xYf {st st' S0:ISt}{A:Tag}{n s:Nat}(h:own st A n s S0)(D:subSt st st'):own st' A n s S0:=h.mono λg E _=>D g _ E
theorem vQ0 (G:Gl gl)(T:Gt gl)(ca:Nat)(s:Sq)(x:IV)(hx:IsSq s x)(hs:yKm s)(rule:Nat)(main:Fm)(y:IV)(hy:IsFm main y)(hm:main.size<=1000000)(term:Tm)(z:IV)(hz:IsTm term z)(ht:term.size<=1000000)(name:ByteArray)(st:ISt) :
  ICall prog gl 41 [.raw (.int .u8 ca),x,.raw (.int .u8 rule),y,z,.raw (.string name)] st (AdRD st (xZ7 ca s rule main term name)):=by
 have aD:=λst=>wGx gl G T ca s x hx hs rule main y hy hm term z hz ht name st;have ba:=λst=>xQh gl ca st;obtain⟨t1,x1,t2,x2,rfl,e1,i1,e2,i2⟩:=hx;obtain⟨o3,n3,t3,x3,t4,x4,rfl⟩:=hy.agg;obtain⟨v,un,tz,xz,rfl⟩:=xU7 hz;unfold xZ7;refine ICall.intro (c:=cf prog gl [] [(10,[0,1,3,4,6,7,9,2,5,8,10]),(12,[0,1,3,4,2,5,6,7])]) func41 rfl (by show _<=82;simp) (by kernel_rfl) ?_;simp only[go_sem,zE,zA,reduceCtorEq];refine (ba _).mono ?_;rintro _ st ⟨rfl,rfl⟩;cases hk:yX7 ca
 ·simp only[go_sem,zE];exact yQ0 ⟨_,_,rfl,.inl rfl,.inl rfl,rfl,rfl⟩
 simp only[go_sem,zE,zA,zL,reduceCtorEq];refine (aD _).mono ?_;rintro _ st ⟨tg,ys,rfl,he,bF,al,rfl⟩;have hys:=al.w;generalize hq:yZt ca s rule main term name=q at al hys ⊢;obtain⟨ad,er⟩:=q;simp only at al hys ⊢;by_cases h0:er=0
 ·subst h0;obtain⟨hv,r,hr⟩:=xKj hq;have aN:=zX0 hr;have bl:=xK4 hr;have bx:s.l.length<=64/\s.r.length<=64:=by
   unfold yXl at hv;simp only[bAt,dTe] at hv;exact⟨hv.1.1.1.1.2,hv.1.1.1.2⟩
  have bb:=λst=>xVw gl s.l t1 x1 e1 i1 (by have:=xQn hs.1;omega) st;have aP:=λst=>xVw gl s.r t2 x2 e2 i2 (by have:=xQn hs.2;omega) st;simp only[if_false,ne_eq,nTf];simp only[go_sem,zE,show decide (((0:Nat):Int)=0)=true from rfl,hys.len];intro bG;refine LoopC.ctr ad.length (λk fr st' ds=>(ad.take k).all (okI ca s)=true/\(∃aB zs,fr 16=.iv (.sl aB zs)/\IsSqsD ((ad.take k).map (yZk ca s)) zs/\appT k aB/\own st' aB k 2 st/\subSt st st')/\fr 0=.iv (.raw (.int .u8 ca))/\fr 7=.box [.sl t1 x1,.sl t2 x2] /\
   fr 36=.iv (.sl tg ys)/\fr 37=.iv (.raw (.int .i64 ad.length))/\fr 38=.iv (.raw (.int .i64 k))/\ds=[]) ?_ ?_ ?_
  ·simp only[go_sem,zE,reduceCtorEq];exact⟨⟨_,_,rfl,rfl,.inl rfl,.inl ⟨rfl,rfl⟩,subSt.refl _⟩,rfl⟩
  ·rintro k fr aX _ aw ⟨ab,⟨aU,zs,f16,hzs,aA,ae,E⟩,f0,f7,f36,f37,f38,rfl⟩;obtain⟨a,ha⟩:=yQ3 aw;obtain⟨w,aM,hw⟩:=hys.get ha;have an:=aN a (lMg ha);obtain⟨_,bc,aY⟩:=al.mem aM;obtain rfl:=Option.some.inj (ha.symm.trans bc);obtain⟨t5,x5,t6,x6,rfl,k5,a5,aJ,k6,a6,ax⟩:=aY;have j5:=aJ.1;have j6:=ax.1;simp only[go_sem,zE,zB,zA,zL,f7,f36,f37,f38,lt_i aw,yQ2 he,iNn,aM,fits];refine (bb _).mono ?_;rintro _ bt ⟨t7,y7,rfl,k7,a7,aK,aF,aC⟩;simp only[go_sem,zE,zA];refine yUv aF aK.len j5.len aC rfl (List.all_eq_true.2 (yXv j5)) (by show _*72<=_;have:=an.2.1;omega) (by have:=an.2.1;omega) λt8 bs aE A _ a8=>?_;obtain⟨L,hL⟩:∃L,L=y7++x5:=⟨_,rfl⟩
   have ay:IsFmsD (yZk ca s a).l L:=hL▸aK.append aJ;have ak:=ay.1;have aL:appT (yZk ca s a).l.length t8:=(a8 a7.1).to (by show (s.l++a.l).length=_;rw[lLa]);have tL:=aE.es;rw[<- hL];by_cases bD:ca=2
   ·have az:decide ((ca:Int)=2)=true:=dEt (by omega);by_cases a1:a.r.length=0
    ·simp only[go_sem,zE,zA,zL,reduceCtorEq,f0,f7,fits,az,j6.len,a1,show decide (((0:Nat):Int)=0)=true from rfl];refine (aP _).mono ?_;rintro _ st4 ⟨t9,y9,rfl,k9,a9,au,aj,ai⟩;simp only[go_sem,zE,zA];refine yUv aj au.len j6.len ai rfl (List.all_eq_true.2 (yXv j6)) (by show _*72<=_;have:=an.2.2;omega) (by have:=an.2.2;omega) λt10 aW ac D _ aG=>?_;obtain⟨R,hR⟩:∃R,R=y9++x6:=⟨_,rfl⟩
     have ah:IsFmsD (yZk ca s a).r R:=by rw[hR];unfold yZk;rw[if_pos (by omega)];exact au.append ax
     have ag:=ah.1;have aR:appT (yZk ca s a).r.length t10:=(aG a9.1).to (by unfold yZk;rw[if_pos (by omega),lLa]);rw[<- hR];have aa:=xYf ae (A.trans D);have F:∀(h:okI ca s a=false),ad.all (okI ca s)=false:=λh=>List.all_eq_false.2 ⟨a,lMg ha,by rw[h];simp⟩;by_cases O:(yZk ca s a).l.length<=64
     ·have dl:decide ((64:Int)<(((yZk ca s a).l.length:Nat):Int))=false:=dEf (by omega);by_cases J:(yZk ca s a).r.length<=64
      ·have dr:decide ((64:Int)<(((yZk ca s a).r.length:Nat):Int))=false:=dEf (by omega);have av:okI ca s a=true:=by unfold okI;rw[dEt O,dEt J];rfl
       simp only[go_sem,zE,zA,zM,zL,f16,fits,ak.len,ag.len,dl,dr,yQ1];intros;refine yZy aa (by rw[hzs.w.len,List.length_map,List.length_take];omega) (E.trans (A.trans D)) rfl (by simp[fits,IV.one]) (by simp only;omega) (by omega) λaq aI W U _ af=>?_;simp only[go_sem,zE,reduceCtorEq,f0,f7,f36,f37,f38,yQb aw (show ad.length<=281474976710656 by omega)];refine⟨by rw[yQ4 ha,List.all_append,ab];simp[av],aq,_,rfl,?_,af,W,U⟩;rw[yQ4 ha,List.map_append];exact hzs.append ⟨_,_,rfl,⟨_,_,_,_,rfl,tL,aL,ay,ac.es,aR,ah⟩,rfl⟩
      ·have dr:decide ((64:Int)<(((yZk ca s a).r.length:Nat):Int))=true:=dEt (by omega);simp only[go_sem,zE,zA,zL,ak.len,ag.len,dl,dr];intros;refine yQc (E.trans (A.trans D)) ?_;rw[F (by unfold okI;rw[dEf J,Bool.and_false])];exact⟨_,_,rfl,.inl rfl,.inl rfl,rfl,rfl⟩
     ·have dl:decide ((64:Int)<(((yZk ca s a).l.length:Nat):Int))=true:=dEt (by omega);simp only[go_sem,zE,zA,zL,ak.len,dl];intros;refine yQc (E.trans (A.trans D)) ?_;rw[F (by unfold okI;rw[dEf O,Bool.false_and])];exact⟨_,_,rfl,.inl rfl,.inl rfl,rfl,rfl⟩
    ·simp only[go_sem,zE,zA,zL,reduceCtorEq,f0,fits,az,j6.len,show decide (((a.r.length:Nat):Int)=0)=false from dEf (by omega),ak.len];intros;have ah:IsFmsD (yZk ca s a).r x6:=by unfold yZk;rw[if_neg (by omega)];exact ax
     have ag:=ah.1;have aR:appT (yZk ca s a).r.length t6:=a6.to (by unfold yZk;rw[if_neg (by omega)]);have aa:=xYf ae A;have F:∀(h:okI ca s a=false),ad.all (okI ca s)=false:=λh=>List.all_eq_false.2 ⟨a,lMg ha,by rw[h];simp⟩;by_cases O:(yZk ca s a).l.length<=64
     ·have dl:decide ((64:Int)<(((yZk ca s a).l.length:Nat):Int))=false:=dEf (by omega);by_cases J:(yZk ca s a).r.length<=64
      ·have dr:decide ((64:Int)<(((yZk ca s a).r.length:Nat):Int))=false:=dEf (by omega);have av:okI ca s a=true:=by unfold okI;rw[dEt O,dEt J];rfl
       simp only[go_sem,zE,zA,zM,zL,f16,fits,ag.len,dl,dr,yQ1];intros;refine yZy aa (by rw[hzs.w.len,List.length_map,List.length_take];omega) (E.trans A) rfl (by simp[fits,IV.one]) (by simp only;omega) (by omega) λaq aI W U _ af=>?_;simp only[go_sem,zE,reduceCtorEq,f0,f7,f36,f37,f38,yQb aw (show ad.length<=281474976710656 by omega)];refine⟨by rw[yQ4 ha,List.all_append,ab];simp[av],aq,_,rfl,?_,af,W,U⟩;rw[yQ4 ha,List.map_append];exact hzs.append ⟨_,_,rfl,⟨_,_,_,_,rfl,tL,aL,ay,k6,aR,ah⟩,rfl⟩
      ·have dr:decide ((64:Int)<(((yZk ca s a).r.length:Nat):Int))=true:=dEt (by omega);simp only[go_sem,zE,ag.len,dl,dr];intros;refine yQc (E.trans A) ?_;rw[F (by unfold okI;rw[dEf J,Bool.and_false])];exact⟨_,_,rfl,.inl rfl,.inl rfl,rfl,rfl⟩
     ·have dl:decide ((64:Int)<(((yZk ca s a).l.length:Nat):Int))=true:=dEt (by omega);simp only[go_sem,zE,dl];intros;refine yQc (E.trans A) ?_;rw[F (by unfold okI;rw[dEf O,Bool.false_and])];exact⟨_,_,rfl,.inl rfl,.inl rfl,rfl,rfl⟩
   ·have az:decide ((ca:Int)=2)=false:=dEf (by omega);simp only[go_sem,zE,zA,zL,reduceCtorEq,f0,f7,fits,az];refine (aP _).mono ?_;rintro _ st4 ⟨t9,y9,rfl,k9,a9,au,aj,ai⟩;simp only[go_sem,zE,zA];refine yUv aj au.len j6.len ai rfl (List.all_eq_true.2 (yXv j6)) (by show _*72<=_;have:=an.2.2;omega) (by have:=an.2.2;omega) λt10 aW ac D _ aG=>?_;obtain⟨R,hR⟩:∃R,R=y9++x6:=⟨_,rfl⟩
    have ah:IsFmsD (yZk ca s a).r R:=by rw[hR];unfold yZk;rw[if_pos (by omega)];exact au.append ax
    have ag:=ah.1;have aR:appT (yZk ca s a).r.length t10:=(aG a9.1).to (by unfold yZk;rw[if_pos (by omega),lLa]);rw[<- hR];have aa:=xYf ae (A.trans D);have F:∀(h:okI ca s a=false),ad.all (okI ca s)=false:=λh=>List.all_eq_false.2 ⟨a,lMg ha,by rw[h];simp⟩;by_cases O:(yZk ca s a).l.length<=64
    ·have dl:decide ((64:Int)<(((yZk ca s a).l.length:Nat):Int))=false:=dEf (by omega);by_cases J:(yZk ca s a).r.length<=64
     ·have dr:decide ((64:Int)<(((yZk ca s a).r.length:Nat):Int))=false:=dEf (by omega);have av:okI ca s a=true:=by unfold okI;rw[dEt O,dEt J];rfl
      simp only[go_sem,zE,zA,zM,zL,f16,fits,ak.len,ag.len,dl,dr,yQ1];intros;refine yZy aa (by rw[hzs.w.len,List.length_map,List.length_take];omega) (E.trans (A.trans D)) rfl (by simp[fits,IV.one]) (by simp only;omega) (by omega) λaq aI W U _ af=>?_;simp only[go_sem,zE,reduceCtorEq,f0,f7,f36,f37,f38,yQb aw (show ad.length<=281474976710656 by omega)];refine⟨by rw[yQ4 ha,List.all_append,ab];simp[av],aq,_,rfl,?_,af,W,U⟩;rw[yQ4 ha,List.map_append];exact hzs.append ⟨_,_,rfl,⟨_,_,_,_,rfl,tL,aL,ay,ac.es,aR,ah⟩,rfl⟩
     ·have dr:decide ((64:Int)<(((yZk ca s a).r.length:Nat):Int))=true:=dEt (by omega);simp only[go_sem,zE,zA,zL,ak.len,ag.len,dl,dr];intros;refine yQc (E.trans (A.trans D)) ?_;rw[F (by unfold okI;rw[dEf J,Bool.and_false])];exact⟨_,_,rfl,.inl rfl,.inl rfl,rfl,rfl⟩
    ·have dl:decide ((64:Int)<(((yZk ca s a).l.length:Nat):Int))=true:=dEt (by omega);simp only[go_sem,zE,zA,zL,ak.len,dl];intros;refine yQc (E.trans (A.trans D)) ?_;rw[F (by unfold okI;rw[dEf O,Bool.false_and])];exact⟨_,_,rfl,.inl rfl,.inl rfl,rfl,rfl⟩
  ·rintro fr aX _ ⟨ab,⟨aU,zs,f16,hzs,aA,ae,E⟩,f0,f7,f36,f37,f38,rfl⟩;rw[lTl] at ab hzs;simp only[go_sem,zE,f16,f37,f38,yQj (nLi _)];rw[if_pos ab];exact yQc E ⟨_,_,rfl,ae.es,aA.to (by rw[List.length_map]),hzs,rfl⟩
 ·have d0:decide ((er:Int)=0)=false:=dEf (by omega);simp only[go_sem,zE,d0];rw[if_pos h0];exact yQ0 ⟨_,_,rfl,.inl rfl,.inl rfl,rfl,rfl⟩
noncomputable def yVr (ca rule:Nat)(main:Fm)(term:Tm)(name:ByteArray):List Sq×Nat :=
 if !yX7 ca then ([],2) else match rowS ca rule with
  | none=>([],191)
  | some r=>yZl ca rule r main term name
theorem vXu (G:Gl gl)(T:Gt gl)(ca rule:Nat)(main:Fm)(y:IV)(U:IsFm main y)(hm:main.size<=1000000)(term:Tm)(z:IV)(O:IsTm term z)(ht:term.size<=1000000)(name:ByteArray)(st:ISt) :
  ICall prog gl 58 [.raw (.int .u8 ca),.raw (.int .u8 rule),y,z,.raw (.string name)] st (AdRD st (yVr ca rule main term name)):=by
 have hA:=λr D st=>wUv gl G T ca rule r D main y U hm term z O ht name st;have F:=λst=>xQh gl ca st;obtain⟨o3,n3,t3,x3,t4,x4,rfl⟩:=U.agg;obtain⟨v,un,tz,xz,rfl⟩:=xU7 O;unfold yVr;refine iI func58 ?_;simp only[go_sem,zE,zA,reduceCtorEq];refine (F _).mono ?_;rintro _ st ⟨rfl,rfl⟩;cases hk:yX7 ca
 ·simp only[go_sem,zE];exact yQ0 ⟨_,_,rfl,.inl rfl,.inl rfl,rfl,rfl⟩
 simp only[go_sem,zA,reduceCtorEq];refine (wX5 gl ca _).mono ?_;rintro _ _ ⟨b,W,rfl,rfl⟩;cases D:rowS ca rule with
 | none =>
  simp only[go_sem,zE,zA,zL,ISt.put_same,yYp,D,Option.map_none,zGf];exact yQc (yQe W) ⟨_,_,rfl,.inl rfl,.inl rfl,rfl,rfl⟩
 | some r =>
  have A:=hA r D;obtain⟨rl,rr,op,asks⟩:=r;simp only[go_sem,zE,zA,zL,reduceCtorEq,ISt.put_same,yYp,D,Option.map_some,zGe,rwI];refine (A _).mono ?_;rintro _ _ ⟨tg,xs,rfl,he,J,E,rfl⟩;simp only[go_sem,zE];exact yQc (yQe W) ⟨_,_,rfl,he,J,E,rfl⟩
theorem vQ1 (G:Gl gl)(T:Gt gl)(ca:Nat)(s:Sq)(x:IV)(E:IsSq s x)(J:yKm s)(rule:Nat)(main:Fm)(y:IV)(D:IsFm main y)(O:main.size<=1000000)(term:Tm)(z:IV)(A:IsTm term z)(F:term.size<=1000000)(name:ByteArray)(st:ISt) :
  ICall prog gl 41 [.raw (.int .u8 ca),x,.raw (.int .u8 rule),y,z,.raw (.string name)] st (AdR st (xZ7 ca s rule main term name)) :=
 (vQ0 gl G T ca s x E J rule main y D O term z A F name st).mono AdRD.w
end Go.Proofs.Tryz
namespace Go.Proofs.Tryz
open Go Go.Iv
theorem wV4 (ca rule:Nat)(r:Rw)(main:Fm)(term:Tm)(name:ByteArray):(yZl ca rule r main term name).2=0\/(yZl ca rule r main term name).2=192\/(yZl ca rule r main term name).2=193:=by
 unfold yZl;split
 ·exact .inr (.inl rfl)
 ·simp only;split
  ·exact .inl rfl
  ·generalize (if r.asks=2 then Tm.mk true name [] else term)=t;split
   ·exact .inr (.inr rfl)
   ·split
    ·exact .inr (.inr rfl)
    ·exact .inl rfl
theorem zKq {ca:Nat}{s:Sq}{rule:Nat}{main:Fm}{term:Tm}{name:ByteArray}(h:(yZt ca s rule main term name).2=0):yXl ca s=true:=by
 unfold yZt at h;split at h
 ·simp at h
 ·rename_i A;simpa using A
theorem zJw (ca:Nat)(t:Tr)(h:yX7 ca=false):yXx ca t=([],2):=by
 unfold yXx;rw[h];rfl
theorem yZp:∀ {l:List Tr}{a:Tr},a∈l->a.steps<=yQp l
 | b::l,a,h=>by
  simp only[yQp];rcases List.mem_cons.1 h with rfl|h
  ·omega
  ·have:=yZp h;omega
end Go.Proofs.Tryz
namespace Go.Proofs.Tryz
open Go Go.Iv
theorem wYo {a b:Fm}:eqF a b=true↔a.op=b.op/\a.right=true/\b.right=true/\dbF [] a=dbF [] b:=by
 unfold eqF yKz;simp only[bAt,dTe,yQm,and_assoc]
theorem xGm {a:Fm}(h:a.right=true):eqF a a=true:=wYo.2 ⟨rfl,h,h,rfl⟩
theorem xJd {l:List Fm}{f:Fm}:hasF l f=true↔∃g∈l,eqF f g=true:=by simp[hasF]
theorem wV2 {l m:List Fm}:allF l m=true↔∀f∈l,hasF m f=true:=by simp[allF]
end Go.Proofs.Tryz
namespace Go.Proofs.Tryz
open Go Go.Iv
theorem wVy {ca:Nat}{s:Sq}{rule:Nat}{main:Fm}{term:Tm}{name:ByteArray}{r:Rw}(h1:yXl ca s=true)(h2:rowS ca rule=some r)(G:(yZl ca rule r main term name).2=0)
  (F:r.left=true->hasF s.l main=true) (E:r.right=true->hasF s.r main=true) (D:r.asks=2->yKj s name=false):yZt ca s rule main term name=((yZl ca rule r main term name).1,0):=by
 unfold yZt;have U:(r.left&&!hasF s.l main)=false:=by
  cases A:r.left
  ·rfl
  ·rw[F A];rfl
 have O:(r.right&&!hasF s.r main)=false:=by
  cases A:r.right
  ·rfl
  ·rw[E A];rfl
 have J:(decide (r.asks=2)&&yKj s name)=false:=by
  by_cases A:r.asks=2
  ·rw[D A];simp
  ·simp[A]
 simp only[h1,h2,G,U,O,J,Bool.not_true,bFt,if_false,Bool.or_false,dTe,ne_eq,nTf];rw[if_neg (by decide)]
theorem xUa {ca:Nat}{s:Sq}{rule:Nat}{main:Fm}{term:Tm}{name:ByteArray}(h:(yZt ca s rule main term name).2=0) :
  ∃r,yXl ca s=true/\rowS ca rule=some r/\(yZl ca rule r main term name).2=0/\(r.left=true->hasF s.l main=true)/\(r.right=true->hasF s.r main=true)/\(r.asks=2->yKj s name=false) /\
   yZt ca s rule main term name=((yZl ca rule r main term name).1,0):=by
 have D:=zKq h;cases E:rowS ca rule with
 | none=>unfold yZt at h;rw[D,E] at h;simp at h
 | some r =>
  have key:(yZl ca rule r main term name).2=0/\(r.left&&!hasF s.l main)=false/\(r.right&&!hasF s.r main)=false/\(decide (r.asks=2)&&yKj s name)=false:=by
   unfold yZt at h;rw[D,E] at h;simp only[Bool.not_true,bFt,if_false] at h;split at h
   ·simp at h
   ·rename_i h1;simp only[Bool.or_eq_true,not_or,Bool.not_eq_true] at h1;split at h
    ·rename_i h2;exact absurd h h2
    ·rename_i h2;split at h
     ·simp at h
     ·rename_i h3;exact⟨Decidable.not_not.1 h2,h1.1.2,h1.2,by simpa using h3⟩
  obtain⟨k1,W,U,O⟩:=key;have J:r.left=true->hasF s.l main=true:=λA=>by rw[A] at W;simpa using W
  have G:r.right=true->hasF s.r main=true:=λA=>by rw[A] at U;simpa using U
  have F:r.asks=2->yKj s name=false:=λA=>by rw[A] at O;simpa using O
  exact⟨r,D,rfl,k1,J,G,F,wVy D E k1 J G F⟩
section
variable {ca rule:Nat}{s:Sq}{f:Fm}{u:Tm}{n:ByteArray}{sub:List Tr}(h:(yXx ca (.mk rule s f u n sub)).2=0)(h1:s.l.length<64)(h2:s.r.length<64)
include h h1 h2
end
end Go.Proofs.Tryz
namespace Go.Proofs.Tryz
open Go Go.Iv
section
variable {ca rule:Nat}{s:Sq}{f:Fm}{u:Tm}{n:ByteArray}{sub:List Tr}(h:(yXx ca (.mk rule s f u n sub)).2=0)
include h
end
end Go.Proofs.Tryz
namespace Go.Proofs.Tryz
open Go Go.Iv
theorem zZo {ca:Nat}{f:Fm}:fmB ca f=true↔f.ok=true/\f.size<=400/\f.deep<=40/\opsB ca f=true:=by
 unfold fmB Fm.right;simp only[bAt,dTe,and_assoc]
end Go.Proofs.Tryz
namespace Go.Proofs.Tryz
open Go Go.Iv
theorem yGa {α:Type}{c:Prop} [Decidable c]{a r:α}{x:Option α}(h:(if c then some a else x)=some r):(c/\r=a)\/(¬c/\x=some r):=by
 by_cases hc:c
 ·rw[if_pos hc] at h;exact .inl ⟨hc,(Option.some.inj h).symm⟩
 ·rw[if_neg hc] at h;exact .inr ⟨hc,h⟩
theorem wWn {α:Type}{c:Prop} [Decidable c]{a b r:α}(h:(if c then a else b)=r):(c/\a=r)\/(¬c/\b=r):=by
 by_cases hc:c
 ·rw[if_pos hc] at h;exact .inl ⟨hc,h⟩
 ·rw[if_neg hc] at h;exact .inr ⟨hc,h⟩
theorem xX4 {ca rule:Nat}{r:Rw}(h:rowS ca rule=some r):(rule=1/\r=⟨true,true,0,0⟩)\/(rule=2/\r=⟨true,false,2,0⟩)\/(rule=3/\r=⟨true,false,3,0⟩)\/(rule=4/\r=⟨false,true,3,0⟩)\/(rule=5/\r=⟨true,false,4,0⟩)\/(rule=6/\r=⟨false,true,4,0⟩) \/
  (rule=7/\r=⟨true,false,5,0⟩)\/(rule=8/\r=⟨false,true,5,0⟩)\/(rule=9/\r=⟨true,false,6,0⟩)\/(rule=10/\r=⟨false,true,6,0⟩)\/(rule=11/\r=⟨true,false,7,0⟩)\/(rule=12/\r=⟨false,true,7,0⟩) \/
  (rule=13/\r=⟨true,false,8,1⟩)\/(rule=14/\r=⟨false,true,8,2⟩)\/(rule=15/\r=⟨true,false,9,2⟩)\/(rule=16/\r=⟨false,true,9,1⟩)\/(rule=17/\r=⟨false,false,0,0⟩)\/(rule=18/\r=⟨false,true,5,0⟩):=by
 unfold rowS rowK at h;rcases yGa h with⟨⟨hc,A⟩,D⟩|⟨_,h⟩
 ·subst A;subst D;simp
 rcases yGa h with⟨⟨hc,A⟩,D⟩|⟨_,h⟩
 ·subst A;subst D;simp
 rcases yGa h with⟨⟨hc,A⟩,D⟩|⟨_,h⟩
 ·subst A;subst D;simp
 rcases yGa h with⟨⟨hc,A⟩,D⟩|⟨_,h⟩
 ·subst A;subst D;simp
 rcases yGa h with⟨⟨hc,A⟩,D⟩|⟨_,h⟩
 ·subst A;subst D;simp
 rcases yGa h with⟨A,D⟩|⟨_,h⟩
 ·subst A;subst D;simp
 rcases yGa h with⟨A,D⟩|⟨_,h⟩
 ·subst A;subst D;simp
 rcases yGa h with⟨A,D⟩|⟨_,h⟩
 ·subst A;subst D;simp
 rcases yGa h with⟨A,D⟩|⟨_,h⟩
 ·subst A;subst D;simp
 rcases yGa h with⟨A,D⟩|⟨_,h⟩
 ·subst A;subst D;simp
 rcases yGa h with⟨A,D⟩|⟨_,h⟩
 ·subst A;subst D;simp
 rcases yGa h with⟨A,D⟩|⟨_,h⟩
 ·subst A;subst D;simp
 rcases yGa h with⟨A,D⟩|⟨_,h⟩
 ·subst A;subst D;simp
 rcases yGa h with⟨A,D⟩|⟨_,h⟩
 ·subst A;subst D;simp
 rcases yGa h with⟨A,D⟩|⟨_,h⟩
 ·subst A;subst D;simp
 rcases yGa h with⟨A,D⟩|⟨_,h⟩
 ·subst A;subst D;simp
 rcases yGa h with⟨A,D⟩|⟨_,h⟩
 ·subst A;subst D;simp
 rcases yGa h with⟨A,D⟩|⟨_,h⟩
 ·subst A;subst D;simp
 cases h
end Go.Proofs.Tryz
namespace Go.Proofs.Tryz
open Go Go.Iv
set_option maxRecDepth 4000
variable (gl:Nat->Option IV)
mutual
def opsR (ca:Nat):Fm->Bool
 | .mk op _ us sub=>(!decide (9<op)&&(!decide (7<op) || decide (ca=3))&&(!decide (op=1) || !decide (0<us.length) || decide (ca=3)))&&zQh ca sub
def zQh (ca:Nat):List Fm->Bool
 | []=>true
 | a::l=>opsR ca a&&zQh ca l
end
theorem wQ1 {op:Nat}{n:ByteArray}{a b:Nat}(h:yZc op n a b=true):1<=op/\(op≠1->a=0):=by
 unfold yZc at h;split at h
 all_goals (first|(simp only[bAt,dTe] at h;refine⟨by decide,λh1=>?_⟩;first|exact absurd rfl h1|exact h.1.2)|cases h)
mutual
theorem wXr (ca:Nat):∀f:Fm,f.ok=true->opsR ca f=opsB ca f
 | .mk op n us sub,h=>by
  simp only[Fm.ok,bAt] at h;obtain⟨h1,h2⟩:=wQ1 h.1.1;have E:=xYi ca sub h.2;simp only[opsR,opsB,E];congr 1;have A:us.isEmpty=decide (us.length=0):=by cases us<;>simp
  rw[A,Bool.eq_iff_iff];simp only[bAt,Bool.or_eq_true,Bool.not_eq_true',dTe,decide_eq_false_iff_not];by_cases hc:ca=3
  ·simp only[hc,if_true,or_true,and_true,true_or];omega
  ·simp only[hc,if_false,or_false,false_or];by_cases D:op=1
   ·simp only[D,nTf,false_or];omega
   ·have:=h2 D;simp only[D,nFt,true_or,and_true,this];omega
theorem xYi (ca:Nat):∀l:List Fm,yVm l=true->zQh ca l=yGb ca l
 | [],_=>rfl
 | a::l,h=>by
  simp only[yVm,bAt] at h;simp only[zQh,yGb,wXr ca a h.1,xYi ca l h.2]
end
theorem zJ8 (ca:Nat):∀l m:List Fm,zQh ca (l++m)=(zQh ca l&&zQh ca m)
 | [],m=>by simp[zQh]
 | a::l,m=>by simp only[List.cons_append,zQh,zJ8 ca l m,Bool.and_assoc]
theorem wQ0 {ca:Nat}{l:List Fm}{k:Nat}{a:Fm}(h:l[k]?=some a):zQh ca (l.take (k+1))=(zQh ca (l.take k)&&opsR ca a):=by
 rw[yQ4 h,zJ8];simp[zQh]
theorem wWq {ca:Nat}{l:List Fm}{a:Fm}(h:a∈l)(D:opsR ca a=false):zQh ca l=false:=by
 induction l with
 | nil=>cases h
 | cons b l A =>
  simp only[zQh];rcases List.mem_cons.1 h with rfl|h
  ·rw[D];rfl
  ·rw[A h,Bool.and_false]
def roC (ca:Nat)(f:Fm):Prop:=∀(x:IV) (_:IsFm f x) (_:f.size<=1099511627776) (st:ISt),ICall prog gl 112 [.raw (.int .u8 ca),x] st (λr st'=>r=.raw (.bool (opsR ca f))/\st'=st)
theorem wWp (ca:Nat)(o:Nat)(n:ByteArray)(us:List Tm)(sub:List Fm)(IH:∀a∈sub,roC gl ca a):roC gl ca (.mk o n us sub):=by
 intro x hx hs st;obtain⟨t1,x1,t2,x2,rfl,ho,e1,i1,e2,i2⟩:=hx.mk;simp only[Fm.size] at hs;have ae:=yQs sub;have d9:decide ((9:Int)<((o:Nat):Int))=decide (9<o):=by rw[decide_eq_decide];omega
 have d7:decide ((7:Int)<((o:Nat):Int))=decide (7<o):=by rw[decide_eq_decide];omega
 have d1:decide (((o:Nat):Int)=1)=decide (o=1):=by rw[decide_eq_decide];omega
 have d3:decide (((ca:Nat):Int)=3)=decide (ca=3):=by rw[decide_eq_decide];omega
 have du:decide ((0:Int)<((us.length:Nat):Int))=decide (0<us.length):=by rw[decide_eq_decide];omega
 refine iI func112 ?_;cases E:decide (9<o)
 case true =>
  simp only[go_sem,zE,zA,d9,E];intros;exact yQ0 ⟨by simp only[opsR,E,Bool.not_true,Bool.false_and],rfl⟩
 cases O:decide (7<o)<;>cases U:decide (ca=3)<;>cases W:decide (o=1)<;>cases qu:decide (0<us.length)
 all_goals
  first
   | (simp only[go_sem,zE,zA,reduceCtorEq,i1.len,d9,d7,d1,d3,du,E,O,U,W,qu]
      intros;refine LoopC.ctr sub.length (λk fr st' ds=>zQh ca (sub.take k)=true/\fr 0=.iv (.raw (.int .u8 ca))/\fr 3=.box [.raw (.int .u8 o),.raw (.string n),.sl t1 x1,.sl t2 x2]/\fr 5=.iv (.raw (.int .i64 k))/\st'=st/\ds=[]) ?_ ?_ ?_
      ·simp only[go_sem,zE,reduceCtorEq];exact⟨rfl,rfl⟩
      ·rintro k fr ab _ A ⟨hk,f0,f3,f5,rfl,rfl⟩;obtain⟨a,J⟩:=yQ3 A;obtain⟨z,ac,F⟩:=i2.get J;obtain⟨h1,h2⟩:=yQq J;have D:=λst=>IH a (lMg J) z F (by omega) st;obtain⟨o5,n5,t5,x5,t6,x6,rfl⟩:=F.agg;simp only[go_sem,zE,zB,zA,reduceCtorEq,f0,f3,f5,i2.len,lt_i A,yQ2 e2,iNn,ac,fits];intro _;refine (D _).mono ?_;rintro _ ai ⟨rfl,rfl⟩;cases G:opsR ca a
       ·simp only[go_sem];exact yQ0 ⟨by simp only[opsR,wWq (lMg J) G,Bool.and_false],rfl⟩
       ·simp only[go_sem,zE,reduceCtorEq,f0,f3,f5,yQb A (show sub.length<=281474976710656 by omega)];rw[wQ0 J,hk,G];rfl
      ·rintro fr ab _ ⟨hk,f0,f3,f5,rfl,rfl⟩;rw[lTl] at hk;simp only[go_sem,zE,f3,f5,i2.len,yQj (nLi _)];intro _;exact yQ0 ⟨by unfold opsR;rw[hk,E,O,U,W,qu];rfl,rfl⟩
      done)
   | (simp only[go_sem,zE,zA,reduceCtorEq,i1.len,d9,d7,d1,d3,du,E,O,U,W,qu]
      intros;exact yQ0 ⟨by unfold opsR;rw[E,O,U,W,qu];rfl,rfl⟩)
theorem wXq (ca:Nat):∀(k:Nat) (f:Fm),SizeOf.sizeOf f<k->roC gl ca f
 | 0,f,h=>by omega
 | k+1,.mk o n us sub,h=>wWp gl ca o n us sub (λa A=>wXq ca k a (by
   have:=lSm A;simp only[Fm.mk.sizeOf_spec] at h;omega))
theorem wXk (ca:Nat)(f:Fm)(x:IV)(A:IsFm f x)(D:f.size<=1099511627776)(st:ISt):ICall prog gl 65 [.raw (.int .u8 ca),x] st (λr st'=>r=.raw (.bool (fmB ca f))/\st'=st):=by
 have h1:=λst=>zZ6 gl f x A D st;have h2:=λst=>wXq gl ca _ f (Nat.lt_succ_self _) x A D st;unfold fmB;obtain⟨J,O,t5,G,t6,F,rfl⟩:=A.agg;refine iI func65 ?_;simp only[go_sem,zE,zA,zL];refine (h1 _).mono ?_;rintro _ st ⟨rfl,rfl⟩;cases E:f.right
 ·simp only[go_sem,zE];exact yQ0 ⟨rfl,rfl⟩
 simp only[go_sem,zE,zA,zL,reduceCtorEq];refine (h2 _).mono ?_;rintro _ st ⟨rfl,rfl⟩;simp only[go_sem,zE];exact yQ0 ⟨by rw[wXr ca f (yK1 E).1],rfl⟩
theorem wGa {a b:Fm}(h:yKz a b=true):a.op=b.op:=by
 unfold yKz at h;simp only[bAt] at h;have:=yQm.1 h.2;obtain⟨o,n,us,sub⟩:=a;obtain⟨o',E,D,A⟩:=b;simp only[dbF] at this;split at this<;>split at this<;>simp only[NlF.mk.injEq] at this<;>exact this.1
theorem xJn (a b:Fm):eqF a b=yKz b a:=by
 unfold eqF;rw[Bool.eq_iff_iff,bAt,dTe];have A:∀x y:Fm,yKz x y=true->yKz y x=true:=λx y h=>by
  unfold yKz at h ⊢;simp only[bAt] at h ⊢;exact⟨⟨h.1.2,h.1.1⟩,yQm.2 (yQm.1 h.2).symm⟩
 exact⟨λh=>A _ _ h.2,λh=>⟨(wGa h).symm,A _ _ h⟩⟩
theorem xXc (G:Gl gl)(l:List Fm)(tg:Tag)(W:List IV)(ac:okEs tg 4)(A:IsFms l W)(f:Fm)(y:IV)(hy:IsFm f y)(hl:fitL l)(hf:f.size<=1000000)(ah:l.length<=1099511627776)(st:ISt) :
  ICall prog gl 51 [.sl tg W,y] st (λr st'=>r=.raw (.bool (hasF l f))/\st'=st):=by
 have hA:=λg z hz (hg:g.size<=1000000) st=>xY8 gl g f z y hz hy (by omega) (by omega) st;obtain⟨o9,n9,t9,x9,t8,x8,rfl⟩:=hy.agg;refine iI func51 ?_;simp only[go_sem];refine LoopC.ctr l.length (λk fr st' ds=>hasF (l.take k) f=false/\fr 0=.iv (.sl tg W)/\fr 3=.box [.raw (.int .u8 o9),.raw (.string n9),.sl t9 x9,.sl t8 x8]/\fr 5=.iv (.raw (.int .i64 k))/\st'=st/\ds=[]) ?_ ?_ ?_
 ·simp only[go_sem,zE,reduceCtorEq];exact⟨rfl,rfl⟩
 ·rintro k fr ab _ D ⟨O,f0,f3,f5,rfl,rfl⟩;obtain⟨a,ha⟩:=yQ3 D;have U:=lMg ha;obtain⟨z,ae,F⟩:=A.get ha;have E:=λst=>hA a z F (hl a U) st;obtain⟨o5,n5,t5,x5,t6,x6,rfl⟩:=F.agg;simp only[go_sem,zE,zB,zA,zL,reduceCtorEq,f0,f3,f5,A.len,lt_i D,yQ2 ac,iNn,ae,fits];intro _;refine (E _).mono ?_;rintro _ ak ⟨rfl,rfl⟩;rw[<- xJn];cases J:eqF f a
  ·simp only[go_sem,zE,reduceCtorEq,f0,f3,f5,yQb D (show l.length<=281474976710656 by omega)];unfold hasF at O ⊢;rw[yQ4 ha,List.any_append,O];simp[J]
  ·simp only[go_sem];refine yQ0 ⟨?_,rfl⟩;have:hasF l f=true:=xJd.2 ⟨a,U,J⟩;rw[this]
 ·rintro fr ab _ ⟨O,f0,f3,f5,rfl,rfl⟩;rw[lTl] at O;simp only[go_sem,zE,reduceCtorEq,f0,f5,A.len,yQj (nLi _)];intro _;exact yQ0 ⟨by rw[O],rfl⟩
theorem wWj (G:Gl gl)(l a b:List Fm)(tl ta tb:Tag)(xl xa xb:List IV)(e1:okEs tl 4)(i1:IsFms l xl)(e2:okEs ta 4)(i2:IsFms a xa)(e3:okEs tb 4)(i3:IsFms b xb)(hl:fitL l)(ha:fitL a)(hb:fitL b)
  (E:l.length<=1099511627776/\a.length<=1099511627776/\b.length<=1099511627776) (st:ISt) :
  ICall prog gl 96 [.sl tl xl,.sl ta xa,.sl tb xb] st (λr st'=>r=.raw (.bool (allF l (a++b)))/\st'=st):=by
 have av:=λf y hy hf st=>xXc gl G a ta xa e2 i2 f y hy ha hf E.2.1 st;have au:=λf y hy hf st=>xXc gl G b tb xb e3 i3 f y hy hb hf E.2.2 st;have F:∀f,hasF (a++b) f=(hasF a f || hasF b f):=λf=>by unfold hasF;rw[List.any_append]
 refine iI func96 ?_;simp only[go_sem];refine LoopC.ctr l.length (λk fr st' ds=>allF (l.take k) (a++b)=true/\fr 0=.iv (.sl tl xl)/\fr 1=.iv (.sl ta xa)/\fr 2=.iv (.sl tb xb)/\fr 7=.iv (.raw (.int .i64 k))/\st'=st/\ds=[]) ?_ ?_ ?_
 ·simp only[go_sem,zE,reduceCtorEq];exact⟨rfl,rfl⟩
 ·rintro k fr ak _ D ⟨hk,f0,f1,f2,f7,rfl,rfl⟩;obtain⟨q,hq⟩:=yQ3 D;have O:=lMg hq;obtain⟨z,ab,J⟩:=i1.get hq;have aq:=λst=>av q z J (hl q O) st;have ao:=λst=>au q z J (hl q O) st;obtain⟨o5,n5,t5,x5,t6,x6,rfl⟩:=J.agg;have U:(hasF a q || hasF b q)=false->allF l (a++b)=false:=λh=>by
   cases hh:allF l (a++b)
   ·rfl
   ·have:=wV2.1 hh q O;rw[F,h] at this;cases this
  have A:(hasF a q || hasF b q)=true->allF (l.take (k+1)) (a++b)=true:=λh=>by
   rw[<- F] at h;unfold allF at hk ⊢;rw[yQ4 hq,List.all_append,hk];simp[h]
  simp only[go_sem,zE,zB,zA,reduceCtorEq,f0,f1,f7,i1.len,lt_i D,yQ2 e1,iNn,ab,fits];intro _;refine (aq _).mono ?_;rintro _ aj ⟨rfl,rfl⟩;cases aa:hasF a q
  ·rw[aa] at U A;simp only[go_sem,zE,zB,zA,reduceCtorEq,f0,f2,f7,yQ2 e1,iNn,ab,fits];intros;refine (ao _).mono ?_;rintro _ aj ⟨rfl,rfl⟩;cases W:hasF b q
   ·rw[W] at U;simp only[go_sem,zE];exact yQ0 ⟨by rw[U rfl],rfl⟩
   ·rw[W] at A;simp only[go_sem,zE,reduceCtorEq,f0,f1,f2,f7,yQb D (show l.length<=281474976710656 by omega)];exact A rfl
  ·rw[aa] at A;simp only[go_sem,zE,reduceCtorEq,f0,f1,f2,f7,yQb D (show l.length<=281474976710656 by omega)];exact A rfl
 ·rintro fr ak _ ⟨hk,f0,f1,f2,f7,rfl,rfl⟩;rw[lTl] at hk;simp only[go_sem,zE,reduceCtorEq,f0,f7,i1.len,yQj (nLi _)];intro _;exact yQ0 ⟨by rw[hk],rfl⟩
theorem yJr (t:Tag)(A:List IV)(D:Tag)(ys:List IV)(st:ISt):ICall prog gl 66 [.sl t A,.sl D ys] st (λr st'=>r=.agg [.sl t A,.sl D ys]/\st'=st):=by
 refine iI func66 ?_;simp only[go_sem,zE,zA,zL,reduceCtorEq,fits];exact yQ0 ⟨rfl,rfl⟩
def yV9 (ca rule:Nat)(x:IV):Prop:=match rowS ca rule with
 | some r=>x=.tup [.raw (.int .u8 r.op),.raw (.bool r.left),.raw (.bool r.right),.raw (.bool true)]
 | none=>∃(o:Int) (a b:Bool),x=.tup [.raw (.int .u8 o),.raw (.bool a),.raw (.bool b),.raw (.bool false)]
end Go.Proofs.Tryz
namespace Go.Proofs.Tryz
open Go Go.Iv
section
variable (nm:ByteArray)(g:Fm)
mutual
def repF:Fm->Fm
 | .mk o n us sub=>if o=1/\n=nm/\us.length=0 then g else .mk o n us (wWd sub)
def wWd:List Fm->List Fm
 | []=>[]
 | a::l=>repF a::wWd l
end
def repS (s:Sq):Sq:=⟨wWd nm g s.l,wWd nm g s.r⟩
mutual
def repT:Tr->Tr
 | .mk rule s f u n sub=>.mk rule (repS nm g s) (repF nm g f) u n (vKr sub)
def vKr:List Tr->List Tr
 | []=>[]
 | a::l=>repT a::vKr l
end
end
section
variable {nm:ByteArray}{g:Fm}{ca:Nat}
end
theorem vZe {op:Nat}{n:ByteArray}{us:List Tm}{sub:List Fm}(h:(Fm.mk op n us sub).ok=true):(op=3\/op=8\/op=9->sub.length=1)/\(op=4\/op=5\/op=6\/op=7->sub.length=2):=by
 simp only[Fm.ok,bAt] at h;have h:=h.1.1;constructor
 ·rintro (rfl|rfl|rfl)<;>simp only[yZc,bAt,dTe] at h<;>exact h.2
 ·rintro (rfl|rfl|rfl|rfl)<;>simp only[yZc,bAt,dTe] at h<;>exact h.2
section
variable {nm:ByteArray}{g:Fm}{ca:Nat}
mutual
def yWw:Tr->Bool
 | .mk _ _ _ u _ sub=>decide (u.size<=900000)&&yUc sub
def yUc:List Tr->Bool
 | []=>true
 | a::l=>yWw a&&yUc l
end
end
theorem xXi (s:Sq):∀(ad:List Sq) (A:List Tr),yJ2 s ad A=true->∀(i:Nat) (m:Sq) (t:Tr),ad[i]?=some m->A[i]?=some t->yXf t.sq (s.plus m)=true
 | [],_,_,i,m,t,h,_=>by simp at h
 | _::_,[],_,i,m,t,_,h=>by simp at h
 | a::ad,b::A,h,i,m,t,E,D=>by
  simp only[yJ2,bAt] at h;cases i with
  | zero =>
   simp only[List.getElem?_cons_zero,Option.some.injEq] at E D;subst E;subst D;exact h.1
  | succ i=>exact xXi s ad A h.2 i m t (by simpa using E) (by simpa using D)
end Go.Proofs.Tryz
namespace Go.Proofs.Tryz
open Go Go.Iv
set_option maxRecDepth 4000
variable (gl:Nat->Option IV)
theorem wZ9 (ca rule:Nat)(st:ISt):ICall prog gl 64 [.raw (.int .u8 ca),.raw (.int .u8 rule)] st (λr st'=>yV9 ca rule r/\st'=st):=by
 have d3:decide (((ca:Nat):Int)=3)=decide (ca=3):=by rw[decide_eq_decide];omega
 have d2:decide (((ca:Nat):Int)=2)=decide (ca=2):=by rw[decide_eq_decide];omega
 refine iI func64 ?_;by_cases h1:rule=1
 ·have A:decide (((rule:Nat):Int)=1)=true:=dEt (by omega);have ds:∀j:Int,j≠1->decide (((rule:Nat):Int)=j)=false:=λj D=>dEf (by omega);simp only[go_sem,zE,A];refine yQ0 ⟨?_,rfl⟩;have:rowS ca rule=some ⟨true,true,0,0⟩:=by rw[h1];unfold rowS rowK;simp
  unfold yV9;rw[this];rfl
 by_cases h2:rule=2
 ·have A:decide (((rule:Nat):Int)=2)=true:=dEt (by omega);have ds:∀j:Int,j≠2->decide (((rule:Nat):Int)=j)=false:=λj D=>dEf (by omega);simp only[go_sem,zE,A,ds,ne_eq,nFt,Int.reduceEq];refine yQ0 ⟨?_,rfl⟩;have:rowS ca rule=some ⟨true,false,2,0⟩:=by rw[h2];unfold rowS rowK;simp
  unfold yV9;rw[this];rfl
 by_cases h3:rule=3
 ·have A:decide (((rule:Nat):Int)=3)=true:=dEt (by omega);have ds:∀j:Int,j≠3->decide (((rule:Nat):Int)=j)=false:=λj D=>dEf (by omega);simp only[go_sem,zE,A,ds,ne_eq,nFt,Int.reduceEq];refine yQ0 ⟨?_,rfl⟩;have:rowS ca rule=some ⟨true,false,3,0⟩:=by rw[h3];unfold rowS rowK;simp
  unfold yV9;rw[this];rfl
 by_cases h4:rule=4
 ·have A:decide (((rule:Nat):Int)=4)=true:=dEt (by omega);have ds:∀j:Int,j≠4->decide (((rule:Nat):Int)=j)=false:=λj D=>dEf (by omega);simp only[go_sem,zE,A,ds,ne_eq,nFt,Int.reduceEq];refine yQ0 ⟨?_,rfl⟩;have:rowS ca rule=some ⟨false,true,3,0⟩:=by rw[h4];unfold rowS rowK;simp
  unfold yV9;rw[this];rfl
 by_cases h5:rule=5
 ·have A:decide (((rule:Nat):Int)=5)=true:=dEt (by omega);have ds:∀j:Int,j≠5->decide (((rule:Nat):Int)=j)=false:=λj D=>dEf (by omega);simp only[go_sem,zE,A,ds,ne_eq,nFt,Int.reduceEq];refine yQ0 ⟨?_,rfl⟩;have:rowS ca rule=some ⟨true,false,4,0⟩:=by rw[h5];unfold rowS rowK;simp
  unfold yV9;rw[this];rfl
 by_cases h6:rule=6
 ·have A:decide (((rule:Nat):Int)=6)=true:=dEt (by omega);have ds:∀j:Int,j≠6->decide (((rule:Nat):Int)=j)=false:=λj D=>dEf (by omega);simp only[go_sem,zE,A,ds,ne_eq,nFt,Int.reduceEq];refine yQ0 ⟨?_,rfl⟩;have:rowS ca rule=some ⟨false,true,4,0⟩:=by rw[h6];unfold rowS rowK;simp
  unfold yV9;rw[this];rfl
 by_cases h7:rule=7
 ·have A:decide (((rule:Nat):Int)=7)=true:=dEt (by omega);have ds:∀j:Int,j≠7->decide (((rule:Nat):Int)=j)=false:=λj D=>dEf (by omega);simp only[go_sem,zE,A,ds,ne_eq,nFt,Int.reduceEq];refine yQ0 ⟨?_,rfl⟩;have:rowS ca rule=some ⟨true,false,5,0⟩:=by rw[h7];unfold rowS rowK;simp
  unfold yV9;rw[this];rfl
 by_cases h8:rule=8
 ·have A:decide (((rule:Nat):Int)=8)=true:=dEt (by omega);have ds:∀j:Int,j≠8->decide (((rule:Nat):Int)=j)=false:=λj D=>dEf (by omega);simp only[go_sem,zE,A,ds,ne_eq,nFt,Int.reduceEq];refine yQ0 ⟨?_,rfl⟩;have:rowS ca rule=some ⟨false,true,5,0⟩:=by rw[h8];unfold rowS rowK;simp
  unfold yV9;rw[this];rfl
 by_cases h9:rule=9
 ·have A:decide (((rule:Nat):Int)=9)=true:=dEt (by omega);have ds:∀j:Int,j≠9->decide (((rule:Nat):Int)=j)=false:=λj D=>dEf (by omega);simp only[go_sem,zE,A,ds,ne_eq,nFt,Int.reduceEq];refine yQ0 ⟨?_,rfl⟩;have:rowS ca rule=some ⟨true,false,6,0⟩:=by rw[h9];unfold rowS rowK;simp
  unfold yV9;rw[this];rfl
 by_cases ae:rule=10
 ·have A:decide (((rule:Nat):Int)=10)=true:=dEt (by omega);have ds:∀j:Int,j≠10->decide (((rule:Nat):Int)=j)=false:=λj D=>dEf (by omega);simp only[go_sem,zE,A,ds,ne_eq,nFt,Int.reduceEq];refine yQ0 ⟨?_,rfl⟩;have:rowS ca rule=some ⟨false,true,6,0⟩:=by rw[ae];unfold rowS rowK;simp
  unfold yV9;rw[this];rfl
 by_cases ac:rule=11
 ·have A:decide (((rule:Nat):Int)=11)=true:=dEt (by omega);have ds:∀j:Int,j≠11->decide (((rule:Nat):Int)=j)=false:=λj D=>dEf (by omega);simp only[go_sem,zE,A,ds,ne_eq,nFt,Int.reduceEq];refine yQ0 ⟨?_,rfl⟩;have:rowS ca rule=some ⟨true,false,7,0⟩:=by rw[ac];unfold rowS rowK;simp
  unfold yV9;rw[this];rfl
 by_cases ab:rule=12
 ·have A:decide (((rule:Nat):Int)=12)=true:=dEt (by omega);have ds:∀j:Int,j≠12->decide (((rule:Nat):Int)=j)=false:=λj D=>dEf (by omega);simp only[go_sem,zE,A,ds,ne_eq,nFt,Int.reduceEq];refine yQ0 ⟨?_,rfl⟩;have:rowS ca rule=some ⟨false,true,7,0⟩:=by rw[ab];unfold rowS rowK;simp
  unfold yV9;rw[this];rfl
 by_cases W:rule=13
 ·have A:decide (((rule:Nat):Int)=13)=true:=dEt (by omega);have ds:∀j:Int,j≠13->decide (((rule:Nat):Int)=j)=false:=λj D=>dEf (by omega);by_cases hc:ca=3
  ·have F:decide (((ca:Nat):Int)=3)=true:=dEt (by omega);simp only[go_sem,zE,reduceCtorEq,A,ds,F,ne_eq,nFt,Int.reduceEq];refine yQ0 ⟨?_,rfl⟩;have:rowS ca rule=some ⟨true,false,8,1⟩:=by rw[W,hc];rfl
   unfold yV9;rw[this];rfl
  ·have F:∀j:Int,((ca:Nat):Int)≠j->decide (((ca:Nat):Int)=j)=false:=λj D=>dEf D;have E:((ca:Nat):Int)≠3:=by omega
   simp only[go_sem,zE,reduceCtorEq,A,ds,F _ E,ne_eq,nFt,Int.reduceEq];refine yQ0 ⟨?_,rfl⟩;have:rowS ca rule=none:=by
    rw[W];unfold rowS rowK;simp[hc]
   unfold yV9;rw[this];exact⟨_,_,_,rfl⟩
 by_cases U:rule=14
 ·have A:decide (((rule:Nat):Int)=14)=true:=dEt (by omega);have ds:∀j:Int,j≠14->decide (((rule:Nat):Int)=j)=false:=λj D=>dEf (by omega);by_cases hc:ca=3
  ·have F:decide (((ca:Nat):Int)=3)=true:=dEt (by omega);simp only[go_sem,zE,reduceCtorEq,A,ds,F,ne_eq,nFt,Int.reduceEq];refine yQ0 ⟨?_,rfl⟩;have:rowS ca rule=some ⟨false,true,8,2⟩:=by rw[U,hc];rfl
   unfold yV9;rw[this];rfl
  ·have F:∀j:Int,((ca:Nat):Int)≠j->decide (((ca:Nat):Int)=j)=false:=λj D=>dEf D;have E:((ca:Nat):Int)≠3:=by omega
   simp only[go_sem,zE,reduceCtorEq,A,ds,F _ E,ne_eq,nFt,Int.reduceEq];refine yQ0 ⟨?_,rfl⟩;have:rowS ca rule=none:=by
    rw[U];unfold rowS rowK;simp[hc]
   unfold yV9;rw[this];exact⟨_,_,_,rfl⟩
 by_cases O:rule=15
 ·have A:decide (((rule:Nat):Int)=15)=true:=dEt (by omega);have ds:∀j:Int,j≠15->decide (((rule:Nat):Int)=j)=false:=λj D=>dEf (by omega);by_cases hc:ca=3
  ·have F:decide (((ca:Nat):Int)=3)=true:=dEt (by omega);simp only[go_sem,zE,reduceCtorEq,A,ds,F,ne_eq,nFt,Int.reduceEq];refine yQ0 ⟨?_,rfl⟩;have:rowS ca rule=some ⟨true,false,9,2⟩:=by rw[O,hc];rfl
   unfold yV9;rw[this];rfl
  ·have F:∀j:Int,((ca:Nat):Int)≠j->decide (((ca:Nat):Int)=j)=false:=λj D=>dEf D;have E:((ca:Nat):Int)≠3:=by omega
   simp only[go_sem,zE,reduceCtorEq,A,ds,F _ E,ne_eq,nFt,Int.reduceEq];refine yQ0 ⟨?_,rfl⟩;have:rowS ca rule=none:=by
    rw[O];unfold rowS rowK;simp[hc]
   unfold yV9;rw[this];exact⟨_,_,_,rfl⟩
 by_cases J:rule=16
 ·have A:decide (((rule:Nat):Int)=16)=true:=dEt (by omega);have ds:∀j:Int,j≠16->decide (((rule:Nat):Int)=j)=false:=λj D=>dEf (by omega);by_cases hc:ca=3
  ·have F:decide (((ca:Nat):Int)=3)=true:=dEt (by omega);simp only[go_sem,zE,reduceCtorEq,A,ds,F,ne_eq,nFt,Int.reduceEq];refine yQ0 ⟨?_,rfl⟩;have:rowS ca rule=some ⟨false,true,9,1⟩:=by rw[J,hc];rfl
   unfold yV9;rw[this];rfl
  ·have F:∀j:Int,((ca:Nat):Int)≠j->decide (((ca:Nat):Int)=j)=false:=λj D=>dEf D;have E:((ca:Nat):Int)≠3:=by omega
   simp only[go_sem,zE,reduceCtorEq,A,ds,F _ E,ne_eq,nFt,Int.reduceEq];refine yQ0 ⟨?_,rfl⟩;have:rowS ca rule=none:=by
    rw[J];unfold rowS rowK;simp[hc]
   unfold yV9;rw[this];exact⟨_,_,_,rfl⟩
 by_cases aa:rule=17
 ·have A:decide (((rule:Nat):Int)=17)=true:=dEt (by omega);have ds:∀j:Int,j≠17->decide (((rule:Nat):Int)=j)=false:=λj D=>dEf (by omega);simp only[go_sem,zE,A,ds,ne_eq,nFt,Int.reduceEq];refine yQ0 ⟨?_,rfl⟩;have:rowS ca rule=some ⟨false,false,0,0⟩:=by rw[aa];unfold rowS rowK;simp
  unfold yV9;rw[this];rfl
 by_cases G:rule=18
 ·have A:decide (((rule:Nat):Int)=18)=true:=dEt (by omega);have ds:∀j:Int,j≠18->decide (((rule:Nat):Int)=j)=false:=λj D=>dEf (by omega);by_cases hc:ca=2
  ·have F:decide (((ca:Nat):Int)=2)=true:=dEt (by omega);simp only[go_sem,zE,reduceCtorEq,A,ds,F,ne_eq,nFt,Int.reduceEq];refine yQ0 ⟨?_,rfl⟩;have:rowS ca rule=some ⟨false,true,5,0⟩:=by rw[G,hc];rfl
   unfold yV9;rw[this];rfl
  ·have F:∀j:Int,((ca:Nat):Int)≠j->decide (((ca:Nat):Int)=j)=false:=λj D=>dEf D;have E:((ca:Nat):Int)≠2:=by omega
   simp only[go_sem,zE,reduceCtorEq,A,ds,F _ E,ne_eq,nFt,Int.reduceEq];refine yQ0 ⟨?_,rfl⟩;have:rowS ca rule=none:=by
    rw[G];unfold rowS rowK;simp[hc]
   unfold yV9;rw[this];exact⟨_,_,_,rfl⟩
 have ds:∀j:Int,1<=j->j<=18->decide (((rule:Nat):Int)=j)=false:=λj h1 h2=>dEf (by omega);simp only[go_sem,zE,ds 1 (by decide) (by decide),ds 2 (by decide) (by decide),ds 3 (by decide) (by decide),ds 4 (by decide) (by decide),ds 5 (by decide) (by decide),ds 6 (by decide) (by decide),ds 7 (by decide) (by decide),ds 8 (by decide) (by decide),ds 9 (by decide) (by decide),ds 10 (by decide) (by decide),ds 11 (by decide) (by decide),ds 12 (by decide) (by decide),ds 13 (by decide) (by decide),ds 14 (by decide) (by decide),ds 15 (by decide) (by decide),ds 16 (by decide) (by decide),ds 17 (by decide) (by decide),ds 18 (by decide) (by decide)];refine yQ0 ⟨?_,rfl⟩;have:rowS ca rule=none:=by
  unfold rowS rowK;simp[h1,h2,h3,h4,h5,h6,h7,h8,h9,ae,ac,ab,W,U,O,J,aa,G]
 unfold yV9;rw[this];exact⟨_,_,_,rfl⟩
theorem wXe (l:List Fm)(tg:Tag)(xs:List IV)(ah:okEs tg 4)(A:IsFms l xs)(n:ByteArray)(hl:fitL l)(al:l.length<=1099511627776)(st:ISt) :
  ICall prog gl 157 [.sl tg xs,.raw (.string n)] st (λr st'=>r=.raw (.bool (l.any λf=>memB (frF f) n))/\st'=st):=by
 refine iI func157 ?_;simp only[go_sem];refine LoopC.ctr l.length (λk fr st' ds=>((l.take k).any λf=>memB (frF f) n)=false/\fr 0=.iv (.sl tg xs)/\fr 1=.iv (.raw (.string n))/\fr 5=.iv (.raw (.int .i64 k))/\st'=st/\ds=[]) ?_ ?_ ?_
 ·simp only[go_sem,zE,reduceCtorEq];exact⟨rfl,rfl⟩
 ·rintro k fr ag _ E ⟨hk,f0,f1,f5,rfl,rfl⟩;obtain⟨a,ha⟩:=yQ3 E;have U:=lMg ha;obtain⟨z,aj,G⟩:=A.get ha;have an:=hl a U;have F:=λst=>xV4 gl a z G (by omega) st;obtain⟨o5,n5,t5,x5,t6,x6,rfl⟩:=G.agg;simp only[go_sem,zE,zB,zA,reduceCtorEq,f0,f5,A.len,lt_i E,yQ2 ah,iNn,aj,fits];intro _;refine (F _).mono ?_;rintro _ af ⟨ac,m,rfl,J,D,rfl⟩;have ai:m.length<=140737488355328:=by
   have h1:=zX9 D.1 (λx hx=>(D.2 x).1 hx);have h2:=zJk a;omega
  have W:=λst=>wZ3 gl ac m n J ai st;simp only[go_sem,zE,zA,f1];refine (W _).mono ?_;rintro _ af ⟨rfl,rfl⟩;have he:hasB m n=memB (frF a) n:=by
   rw[Bool.eq_iff_iff,yXj,<- D.2];exact zVr
  rw[he];cases O:memB (frF a) n
  ·simp only[go_sem,zE,reduceCtorEq,f0,f1,f5,yQb E (show l.length<=281474976710656 by omega)];rw[yQ4 ha,List.any_append,hk];simp[O]
  ·simp only[go_sem];refine yQ0 ⟨?_,rfl⟩;have:(l.any λf=>memB (frF f) n)=true:=List.any_eq_true.2 ⟨a,U,O⟩;rw[this]
 ·rintro fr ag _ ⟨hk,f0,f1,f5,rfl,rfl⟩;rw[lTl] at hk;simp only[go_sem,zE,reduceCtorEq,f0,f5,A.len,yQj (nLi _)];intro _;exact yQ0 ⟨by rw[hk],rfl⟩
theorem wQn (r:List Fm):zXo r=r.all (yKz ((r[0]?).getD fm0)):=by
 cases r with
 | nil=>rfl
 | cons a l =>
  show ((a::l).all λf=>eqF f a)=(a::l).all (yKz a);congr 1;funext f;exact xJn f a
def qV (ca:Nat)(hd f:Fm):Prop:=fmB ca f=true/\(ca=2->yKz hd f=true)
theorem yUb {ca:Nat}{s:Sq}:yXl ca s=true↔yX7 ca=true/\s.l.length<=64/\s.r.length<=64/\(∀f∈s.l,fmB ca f=true)/\∀f∈s.r,qV ca ((s.r[0]?).getD fm0) f:=by
 unfold yXl qV;rw[wQn];simp only[bAt,Bool.or_eq_true,dTe,List.all_eq_true];constructor
 ·rintro⟨⟨⟨⟨⟨h1,h2⟩,F⟩,E⟩,D⟩,G⟩;exact⟨h1,h2,F,E,λf A=>⟨D f A,λhc=>G.resolve_left (λh=>h hc) f A⟩⟩
 ·rintro⟨h1,h2,F,E,D⟩;refine⟨⟨⟨⟨⟨h1,h2⟩,F⟩,E⟩,λf A=>(D f A).1⟩,?_⟩;by_cases hc:ca=2
  ·exact .inr λf A=>(D f A).2 hc
  ·exact .inl hc
theorem yVy {ca:Nat}{s:Sq}(h:¬ (yX7 ca=true/\s.l.length<=64/\s.r.length<=64/\(∀f∈s.l,fmB ca f=true)/\∀f∈s.r,qV ca ((s.r[0]?).getD fm0) f)):yXl ca s=false:=by
 cases A:yXl ca s
 ·rfl
 ·exact absurd (yUb.1 A) h
set_option maxHeartbeats 1000000 in
theorem xY1 (ca:Nat)(s:Sq)(x:IV)(hx:IsSq s x)(hs:yKm s)(st:ISt):ICall prog gl 49 [.raw (.int .u8 ca),x] st (λr st'=>r=.raw (.bool (yXl ca s))/\st'=st):=by
 have hF:=λf z hz (A:f.size<=1000000) st=>wXk gl ca f z hz (by omega) st;have aF:=λf g z w hz hw (A:f.size<=1000000) (hg:g.size<=1000000) st=>xY8 gl f g z w hz hw A hg st;obtain⟨l,r⟩:=s;obtain⟨t1,x1,t2,x2,rfl,e1,i1,e2,i2⟩:=hx;simp only[yKm] at hs i1 i2;obtain⟨hl,hr⟩:=hs;have k1:decide (((ca:Nat):Int)<1)=decide (ca<1):=by rw[decide_eq_decide];omega
 have k2:decide ((3:Int)<((ca:Nat):Int))=decide (3<ca):=by rw[decide_eq_decide];omega
 have k3:decide ((64:Int)<((l.length:Nat):Int))=decide (64<l.length):=by rw[decide_eq_decide];omega
 have k4:decide ((64:Int)<((r.length:Nat):Int))=decide (64<r.length):=by rw[decide_eq_decide];omega
 have k5:decide (((ca:Nat):Int)=2)=decide (ca=2):=by rw[decide_eq_decide];omega
 have an:∀h:ca<1\/3<ca,¬ yX7 ca=true:=λh hk=>by
  simp only[yX7,bAt,dTe] at hk;omega
 refine iI func49 ?_;cases q1:decide (ca<1)
 case true =>
  simp only[go_sem,zE,reduceCtorEq,k1,q1];intros;exact yQ0 ⟨by rw[yVy λh=>an (.inl (of_decide_eq_true q1)) h.1],rfl⟩
 cases q2:decide (3<ca)
 case true =>
  simp only[go_sem,zE,reduceCtorEq,k1,k2,q1,q2];intros;exact yQ0 ⟨by rw[yVy λh=>an (.inr (of_decide_eq_true q2)) h.1],rfl⟩
 cases q3:decide (64<l.length)
 case true =>
  simp only[go_sem,zE,reduceCtorEq,k1,k2,k3,q1,q2,q3,i1.len];intros;exact yQ0 ⟨by rw[yVy λh=>by have:=h.2.1;have:=of_decide_eq_true q3;simp only at *;omega],rfl⟩
 cases q4:decide (64<r.length)
 case true =>
  simp only[go_sem,zE,reduceCtorEq,k1,k2,k3,k4,q1,q2,q3,q4,i1.len,i2.len];intros;exact yQ0 ⟨by rw[yVy λh=>by have:=h.2.2.1;have:=of_decide_eq_true q4;simp only at *;omega],rfl⟩
 have hk:yX7 ca=true:=by
  have:=of_decide_eq_false q1;have:=of_decide_eq_false q2;simp only[yX7,bAt,dTe];omega
 have hll:l.length<=64:=by have:=of_decide_eq_false q3;omega
 have aA:r.length<=64:=by have:=of_decide_eq_false q4;omega
 simp only[go_sem,zE,reduceCtorEq,k1,k2,k3,k4,q1,q2,q3,q4,i1.len,i2.len];intros;refine LoopC.ctr l.length (λk fr st' ds=>(∀f∈l.take k,fmB ca f=true)/\fr 0=.iv (.raw (.int .u8 ca))/\fr 3=.box [.sl t1 x1,.sl t2 x2]/\fr 5=.iv (.raw (.int .i64 k))/\st'=st/\ds=[]) ?_ ?_ ?_
 ·simp only[go_sem,zE,reduceCtorEq];exact⟨λf A=>by simp at A,rfl⟩
 ·rintro k fr U _ D ⟨aa,f0,f3,f5,rfl,rfl⟩;obtain⟨a,ha⟩:=yQ3 D;have J:=lMg ha;obtain⟨z,W,G⟩:=i1.get ha;have F:=λst=>hF a z G (hl a J) st;obtain⟨o5,n5,t5,x5,t6,x6,rfl⟩:=G.agg;simp only[go_sem,zE,zB,zA,reduceCtorEq,f0,f3,f5,i1.len,lt_i D,yQ2 e1,iNn,W,fits];intro _;refine (F _).mono ?_;rintro _ ai ⟨rfl,rfl⟩;cases E:fmB ca a
  ·simp only[go_sem];exact yQ0 ⟨by rw[yVy λh=>by have:=h.2.2.2.1 a J;rw[E] at this;cases this],rfl⟩
  ·simp only[go_sem,zE,reduceCtorEq,f0,f3,f5,yQb D (show l.length<=281474976710656 by omega)];intro f A;rw[yQ4 ha] at A;rcases List.mem_append.1 A with A|A
   ·exact aa f A
   ·rw[List.mem_singleton.1 A];exact E
 ·rintro fr U _ ⟨ao,f0,f3,f5,rfl,rfl⟩;rw[lTl] at ao;simp only[go_sem,zE,f3,f5,i1.len,yQj (nLi _)];intro _;refine LoopC.ctr r.length (λk fr st' ds=>(∀f∈r.take k,qV ca ((r[0]?).getD fm0) f)/\fr 0=.iv (.raw (.int .u8 ca))/\fr 3=.box [.sl t1 x1,.sl t2 x2]/\fr 6=.iv (.raw (.int .i64 k))/\st'=U/\ds=[]) ?_ ?_ ?_
  ·simp only[go_sem,zE,reduceCtorEq,f0,f3];exact⟨λf A=>by simp at A,rfl⟩
  ·rintro k fr U _ D ⟨aa,f0,f3,f6,rfl,rfl⟩;obtain⟨a,ha⟩:=yQ3 D;have J:=lMg ha;obtain⟨z,W,G⟩:=i2.get ha;obtain⟨b,hb⟩:=yQ3 (show 0<r.length by omega);obtain⟨zb,aB,al⟩:=i2.get hb;have aD:=lMg hb;have F:=λst=>hF a z G (hr a J) st;have af:=λst=>aF b a zb z al G (hr b aD) (hr a J) st;have aq:(r[0]?).getD fm0=b:=by rw[hb];rfl
   rw[aq] at aa ⊢;have ab:∀h:¬ qV ca b a,yXl ca ⟨l,r⟩=false:=λh=>yVy λh'=>h (by have:=h'.2.2.2.2 a J;rwa [aq] at this);have O:qV ca b a->∀f∈r.take (k+1),qV ca b f:=λh f A=>by
    rw[yQ4 ha] at A;rcases List.mem_append.1 A with A|A
    ·exact aa f A
    ·rw[List.mem_singleton.1 A];exact h
   obtain⟨o5,n5,t5,x5,t6,x6,rfl⟩:=G.agg;obtain⟨o7,n7,t7,x7,t8,x8,rfl⟩:=al.agg;simp only[go_sem,zE,zB,zA,reduceCtorEq,f0,f3,f6,i2.len,lt_i D,yQ2 e2,iNn,W,fits];intro _;refine (F _).mono ?_;rintro _ ai ⟨rfl,rfl⟩;cases E:fmB ca a
   ·simp only[go_sem,zE];exact yQ0 ⟨by rw[ab λh=>by rw[h.1] at E;cases E],rfl⟩
   ·cases q5:decide (ca=2)
    ·simp only[go_sem,zE,reduceCtorEq,f0,f3,f6,k5,q5,yQb D (show r.length<=281474976710656 by omega)];exact O ⟨E,λh=>absurd h (of_decide_eq_false q5)⟩
    ·simp only[go_sem,zE,zB,zA,reduceCtorEq,f0,f3,f6,fits,k5,q5,yQ2 e2,iNn,W,aB,Int.le_refl,Int.toNat_zero];intros;refine (af _).mono ?_;rintro _ ai ⟨rfl,rfl⟩;cases ae:yKz b a
     ·simp only[go_sem,zE];exact yQ0 ⟨by rw[ab λh=>by rw[h.2 (of_decide_eq_true q5)] at ae;cases ae],rfl⟩
     ·simp only[go_sem,zE,reduceCtorEq,f0,f3,f6,yQb D (show r.length<=281474976710656 by omega)];exact O ⟨E,λ_=>ae⟩
  ·rintro fr U _ ⟨am,f0,f3,f6,rfl,rfl⟩;rw[lTl] at am;simp only[go_sem,zE,f3,f6,i2.len,yQj (nLi _)];intro _;exact yQ0 ⟨by rw[yUb.2 ⟨hk,hll,aA,ao,am⟩],rfl⟩
noncomputable def insR (n:Fm):List Fm->List Fm
 | []=>[n]
 | x::l=>if yZv n x<0 then n::x::l else if yZv n x=0 then x::l else x::insR n l
noncomputable def yXh (n:Fm)(p:List Fm×Bool)(x:Fm):List Fm×Bool:=((if yZv n x<0/\p.2=false then p.1++[n] else p.1)++[x],p.2 || decide (yZv n x<=0))
noncomputable def insF (n:Fm)(l:List Fm):List Fm×Bool:=l.foldl (yXh n) ([],false)
theorem wJr (n x:Fm)(l:List Fm):insF n (l++[x])=yXh n (insF n l) x:=by simp[insF,List.foldl_append]
theorem xQi (n:Fm):∀(l acc:List Fm),l.foldl (yXh n) (acc,true)=(acc++l,true)
 | [],acc=>by simp
 | x::l,acc=>by rw[List.foldl_cons,show yXh n (acc,true) x=(acc++[x],true) by simp[yXh],xQi n l];simp
theorem xJb (n:Fm):∀(l acc:List Fm),(if (l.foldl (yXh n) (acc,false)).2=true then (l.foldl (yXh n) (acc,false)).1 else (l.foldl (yXh n) (acc,false)).1++[n])=acc++insR n l
 | [],acc=>by simp[insR]
 | x::l,acc=>by
  rw[List.foldl_cons];unfold insR;by_cases h1:yZv n x<0
  ·rw[show yXh n (acc,false) x=(acc++[n]++[x],true) by simp[yXh,h1];omega,xQi,if_pos h1];simp
  ·by_cases h2:yZv n x=0
   ·rw[show yXh n (acc,false) x=(acc++[x],true) by simp[yXh,h2],xQi,if_neg h1,if_pos h2];simp
   ·rw[show yXh n (acc,false) x=(acc++[x],false) by simp[yXh,h1];omega,xJb n l,if_neg h1,if_neg h2];simp
theorem xQj (n:Fm):∀(l:List Fm) (f:Fm),f∈insR n l↔f=n\/f∈l
 | [],f=>by simp[insR]
 | x::l,f=>by
  unfold insR;split
  ·simp
  ·split
   ·rename_i h;rw[(zZu n x).1 h];simp
   ·rw[List.mem_cons,xQj n l,List.mem_cons];constructor
    ·rintro (h|h|h)<;>simp[h]
    ·rintro (h|h|h)<;>simp[h]
theorem zVj (n:Fm):∀(l:List Fm),l.Pairwise (λx y=>yZv x y<0)->(insR n l).Pairwise (λx y=>yZv x y<0)
 | [],_=>by simp[insR]
 | x::l,h=>by
  obtain⟨h1,h2⟩:=List.pairwise_cons.1 h;unfold insR;split
  ·rename_i D;refine List.pairwise_cons.2 ⟨λy A=>?_,h⟩;rcases List.mem_cons.1 A with rfl|A
   ·exact D
   ·exact zKb _ _ _ D (h1 y A)
  ·split
   ·exact h
   ·rename_i F E;refine List.pairwise_cons.2 ⟨λy A=>?_,zVj n l h2⟩;rcases (xQj n l y).1 A with rfl|A
    ·have:=zZt x y;omega
    ·exact h1 y A
theorem wW4 {l m:List Fm}{n:Fm}(h:SetF l m):SetF (l++[n]) (insR n m) :=
 ⟨zVj n m h.1,λf=>by rw[xQj,h.2 f,List.mem_append,List.mem_singleton,or_comm]⟩
noncomputable def zQf:List Fm->List Fm->List Fm
 | acc,[]=>acc
 | acc,f::l=>zQf (insR (yJb f) acc) l
theorem zYt:∀(l acc:List Fm)(f:Fm),zQf acc (l++[f])=insR (yJb f) (zQf acc l)
 | [],acc,f=>rfl
 | a::l,acc,f=>by simp only[List.cons_append,zQf,zYt l]
theorem xZv:∀(l acc m:List Fm),SetF m acc->SetF (m++l.map yJb) (zQf acc l)
 | [],acc,m,h=>by simpa[zQf] using h
 | f::l,acc,m,h=>by
  have:=xZv l _ _ (wW4 (n:=yJb f) h);simpa[zQf] using this
theorem wW1 (l:List Fm):setF (l.map yJb)=zQf [] l:=zXa (by simpa using xZv l [] [] ⟨List.Pairwise.nil,λ_=>Iff.rfl⟩)
theorem zVk (n:Fm):∀l,(insR n l).length<=l.length+1
 | []=>by simp[insR]
 | x::l=>by
  unfold insR;split
  ·simp
  ·split
   ·simp
   ·have:=zVk n l;simp only[List.length_cons];omega
theorem xZw:∀(l acc:List Fm),(zQf acc l).length<=acc.length+l.length
 | [],acc=>by simp[zQf]
 | f::l,acc=>by
  have h1:=xZw l (insR (yJb f) acc);have h2:=zVk (yJb f) acc;simp only[zQf,List.length_cons] at *;omega
theorem wGy (l:List Fm)(tg:Tag)(xs:List IV)(aH:okEs tg 4)(hx:IsFms l xs)(hs:fitL l)(aO:l.length<=1000000000)(st:ISt) :
  ICall prog gl 95 [.sl tg xs] st (λr st'=>(∃t ys,r=.tup [.sl t ys,.raw (.bool (l.all Fm.right))]/\okEs t 4/\IsFms (yZm l).1 ys)/\st'=st):=by
 refine iI func95 ?_;simp only[go_sem];refine LoopC.ctr l.length (λk fr st' ds=>(l.take k).all Fm.right=true/\(∃t zs,fr 4=.iv (.sl t zs)/\okEs t 4/\IsFms (zQf [] (l.take k)) zs)/\fr 0=.iv (.sl tg xs)/\fr 5=.iv (.raw (.int .i64 k))/\subSt st st'/\ds=[]) ?_ ?_ ?_
 ·simp only[go_sem,zE,reduceCtorEq];exact⟨⟨_,_,rfl,.inl rfl,rfl⟩,rfl,subSt.refl _⟩
 ·rintro k fr ai _ af ⟨W,⟨t,zs,f4,ht,hz⟩,f0,f5,aa,rfl⟩;obtain⟨a,ha⟩:=yQ3 af;obtain⟨y,aJ,aw⟩:=hx.get ha;have aA:=lMg ha;have ao:=wXi gl a y aw (hs a aA) ai;have ay:=xZw (l.take k) [];rw[List.length_take,List.length_nil] at ay;obtain⟨y1,y2,y3,y4,y5,y6,rfl⟩:=aw.agg;simp only[go_sem,zE,zB,zA,reduceCtorEq,f0,f5,hx.len,lt_i af,yQ2 aH,iNn,aJ,fits];intro _;refine ao.mono ?_;rintro _ ai ⟨y',rfl,U,rfl⟩;unfold yJ6 at U;cases hr:a.right
  ·rw[hr] at U;simp only[bFt,if_false] at U;obtain⟨z1,z2,z3,z4,z5,z6,rfl⟩:=U.agg;unfold yJ6;rw[hr];simp only[bFt,if_false];have hf:l.all Fm.right=false:=List.all_eq_false.2 ⟨a,aA,by simp[hr]⟩;have hn:yZm l=([],2):=by unfold yZm;rw[hf];rfl
   simp only[go_sem,zE,zA,zL,show decide (((2:Nat):Int)=0)=false from rfl];exact yQc aa ⟨⟨_,_,by rw[hf],.inl rfl,by rw[hn];rfl⟩,rfl⟩
  rw[hr] at U;simp only[if_true] at U;have aj:=U;obtain⟨z1,z2,z3,z4,z5,z6,rfl⟩:=U.agg;unfold yJ6;rw[hr];simp only[if_true];have ae:(l.take (k+1)).all Fm.right=true:=by
   rw[yQ4 ha,List.all_append,W];simp[hr]
  have ab:zQf [] (l.take (k+1))=insR (yJb a) (zQf [] (l.take k)):=by rw[yQ4 ha,zYt]
  generalize zQf [] (l.take k)=F at hz ab ay;simp only[go_sem,zE,zA,zL,show decide (((0:Nat):Int)=0)=true from rfl];refine LoopC.ctr F.length (λj fr st' ds=>(∃t' ys,fr 8=.iv (.sl t' ys)/\IsFms (insF (yJb a) (F.take j)).1 ys/\own st' t' ys.length 4 st/\ys.length<=2*j)/\fr 9=.iv (.raw (.bool (insF (yJb a) (F.take j)).2)) /\
   fr 6=.box [.raw (.int .u8 z1),.raw (.string z2),.sl z3 z4,.sl z5 z6]/\fr 4=.iv (.sl t zs)/\fr 0=.iv (.sl tg xs)/\fr 5=.iv (.raw (.int .i64 k))/\fr 10=.iv (.raw (.int .i64 j))/\subSt st st'/\ds=[]) ?_ ?_ ?_
  ·simp only[go_sem,zE,zM,reduceCtorEq,f0,f4,f5];exact⟨⟨_,_,rfl,rfl,own.nil _ _ _ _ _,Nat.le_refl _⟩,rfl,rfl,aa⟩
  ·rintro j fr ah _ hj ⟨⟨t',ys,f8,hys,J,aF⟩,f9,f6,f4,f0,f5,f10,G,rfl⟩;obtain⟨b,hb⟩:=yQ3 hj;obtain⟨x,ac,ak⟩:=hz.get hb;have ax:=ak;have az:=xUy gl (yJb a) b _ x aj ak ah;have D:insF (yJb a) (F.take (j+1))=yXh (yJb a) (insF (yJb a) (F.take j)) b:=by rw[yQ4 hb,wJr]
   generalize insF (yJb a) (F.take j)=p at hys f9 D;obtain⟨p1,p2⟩:=p;obtain⟨x1,x2,x3,x4,x5,x6,rfl⟩:=ak.agg;simp only[go_sem,zE,zB,zA,zL,f4,f6,f10,hz.len,lt_i hj,yQ2 ht,iNn,ac,fits];intro _;refine az.mono ?_;rintro _ ah ⟨rfl,rfl⟩;have hF:=IsFms.one aj;have hB:=IsFms.one ax;by_cases h1:yZv (yJb a) b<0
   ·have h2:decide (yZv (yJb a) b<=0)=true:=dEt (by omega);cases p2
    ·simp only[go_sem,zE,zA,zM,zL,f6,f8,f9,dEt h1,fits,yQ1];refine yZ1 J rfl G rfl (by simp[fits,IV.one]) (by simp only;omega) (by omega) λt2 aS an am _=>?_;simp only[go_sem,zE,zB,zA,zM,zL,f4,f9,f10,h2,yQ2 ht,iNn,ac,fits,yQ1];refine yZ1 an (by simp) am rfl (by simp[fits,IV.one]) (by simp only;omega) (by omega) λt3 st4 E A _=>?_;simp only[go_sem,zE,reduceCtorEq,f0,f4,f5,f6,f10,yQb hj (show F.length<=281474976710656 by omega)];exact⟨⟨t3,_,rfl,by rw[D];simp only[yXh,h1,true_and,if_true];exact (hys.append hF).append hB,by simpa using E,by simp;omega⟩,by rw[D];simp[yXh,h2],A⟩
    ·simp only[go_sem,zE,zB,zA,zM,zL,f4,f8,f9,f10,dEt h1,yQ2 ht,iNn,ac,fits,yQ1];refine yZ1 J rfl G rfl (by simp[fits,IV.one]) (by simp only;omega) (by omega) λt3 st4 E A _=>?_;simp only[go_sem,zE,reduceCtorEq,f0,f4,f5,f6,f10,yQb hj (show F.length<=281474976710656 by omega)];exact⟨⟨t3,_,rfl,by rw[D];simp only[yXh,Bool.true_eq_false,and_false,if_false];exact hys.append hB,by simpa using E,by simp;omega⟩,by rw[D];simp[yXh],A⟩
   ·cases p2
    ·simp only[go_sem,zE,zB,zA,zM,zL,f4,f8,f9,f10,dEf h1,yQ2 ht,iNn,ac,fits,yQ1];refine yZ1 J rfl G rfl (by simp[fits,IV.one]) (by simp only;omega) (by omega) λt3 st4 E A _=>?_;simp only[go_sem,zE,reduceCtorEq,f0,f4,f5,f6,f10,yQb hj (show F.length<=281474976710656 by omega)];exact⟨⟨t3,_,rfl,by rw[D];simp only[yXh,h1,false_and,if_false];exact hys.append hB,by simpa using E,by simp;omega⟩,by rw[D];simp[yXh],A⟩
    ·simp only[go_sem,zE,zB,zA,zM,zL,f4,f8,f9,f10,dEf h1,yQ2 ht,iNn,ac,fits,yQ1];refine yZ1 J rfl G rfl (by simp[fits,IV.one]) (by simp only;omega) (by omega) λt3 st4 E A _=>?_;simp only[go_sem,zE,reduceCtorEq,f0,f4,f5,f6,f10,yQb hj (show F.length<=281474976710656 by omega)];exact⟨⟨t3,_,rfl,by rw[D];simp only[yXh,Bool.true_eq_false,and_false,if_false];exact hys.append hB,by simpa using E,by simp;omega⟩,by rw[D];simp[yXh],A⟩
  ·rintro fr ah _ ⟨⟨t',ys,f8,hys,J,aF⟩,f9,f6,f4,f0,f5,f10,G,rfl⟩;rw[lTl] at hys f9;have O:(if (insF (yJb a) F).2=true then (insF (yJb a) F).1 else (insF (yJb a) F).1++[yJb a])=insR (yJb a) F:=by
    have:=xJb (yJb a) F [];rw[List.nil_append] at this;exact this
   have hF:=IsFms.one aj;cases hp:(insF (yJb a) F).2
   ·rw[hp] at O f9;simp only[bFt,if_false] at O;simp only[go_sem,zE,zA,zM,zL,f4,f6,f8,f9,f10,hz.len,yQj (nLi _),fits,yQ1];intros;refine yZ1 J rfl G rfl (by simp[fits,IV.one]) (by simp only;omega) (by omega) λt3 st4 E A _=>?_;simp only[go_sem,zE,reduceCtorEq,f0,f5,yQb af (show l.length<=281474976710656 by omega)];exact⟨ae,⟨t3,_,rfl,E.es,by rw[ab,<- O];exact hys.append hF⟩,A⟩
   ·rw[hp] at O f9;simp only[if_true] at O;simp only[go_sem,zE,reduceCtorEq,f0,f4,f5,f8,f9,f10,hz.len,yQj (nLi _),yQb af (show l.length<=281474976710656 by omega)];intros;exact⟨ae,⟨t',_,rfl,J.es,by rw[ab,<- O];exact hys⟩,G⟩
 ·rintro fr ai _ ⟨W,⟨t,zs,f4,ht,hz⟩,f0,f5,aa,rfl⟩;rw[lTl] at W hz;have hn:yZm l=(setF (l.map yJb),0):=by unfold yZm;rw[W];rfl
  simp only[go_sem,zE,reduceCtorEq,f0,f4,f5,hx.len,yQj (nLi _)];intros;exact yQc aa ⟨⟨t,zs,by rw[W],ht,by rw[hn,wW1];exact hz⟩,rfl⟩
theorem vKw (s:Sq)(x:IV)(U:IsSq s x)(D:yKm s)(E:s.l.length<=1000000000/\s.r.length<=1000000000)(st:ISt) :
  ICall prog gl 46 [x] st (λr st'=>(∃y,r=.tup [y,.raw (.int .i64 (SetS s).2)]/\IsSq (SetS s).1 y)/\st'=st):=by
 obtain⟨t1,G,t2,F,rfl,e1,i1,e2,i2⟩:=U;have h1:=λst=>wGy gl s.l t1 G e1 i1 D.1 E.1 st;have h2:=λst=>wGy gl s.r t2 F e2 i2 D.2 E.2 st;have A:∀l,(yZm l).2=if l.all Fm.right=true then 0 else 2:=λl=>by unfold yZm;split<;>rfl
 unfold SetS;rw[A,A];refine iI func46 ?_;simp only[go_sem,zE,zA];refine (h1 _).mono ?_;rintro _ st ⟨⟨t3,y1,rfl,e3,O⟩,rfl⟩;simp only[go_sem,zE,zA];refine (h2 _).mono ?_;rintro _ st ⟨⟨t4,y2,rfl,W,J⟩,rfl⟩;cases q1:s.l.all Fm.right
 ·simp only[go_sem,zE,zA,zL,reduceCtorEq];exact yQ0 ⟨⟨_,rfl,_,_,_,_,rfl,.inl rfl,rfl,.inl rfl,rfl⟩,rfl⟩
 ·cases q2:s.r.all Fm.right
  ·simp only[go_sem,zE,zA,zL,reduceCtorEq];exact yQ0 ⟨⟨_,rfl,_,_,_,_,rfl,.inl rfl,rfl,.inl rfl,rfl⟩,rfl⟩
  ·simp only[go_sem,zE,zA,zL,fits];exact yQ0 ⟨⟨_,rfl,_,_,_,_,rfl,e3,O,W,J⟩,rfl⟩
theorem xX9 (G:Gl gl)(a b:Sq)(x y:IV)(hx:IsSq a x)(hy:IsSq b y)(J:yKm a)(F:yKm b)(D:a.l.length<=1099511627776/\a.r.length<=1099511627776/\b.l.length<=1099511627776/\b.r.length<=1099511627776)(st:ISt):ICall prog gl 47 [x,y] st (λr st'=>r=.raw (.bool (yXf a b))/\st'=st):=by
 obtain⟨t1,x1,t2,W,rfl,e1,i1,e2,i2⟩:=hx;obtain⟨t3,U,t4,O,rfl,e3,i3,e4,i4⟩:=hy;have h1:=λt0 A st=>wWj gl G a.l b.l [] t1 t3 t0 x1 U [] e1 i1 e3 i3 A rfl J.1 F.1 (λf E=>by cases E) ⟨D.1,D.2.2.1,by simp⟩ st;have h2:=λt0 A st=>wWj gl G a.r b.r [] t2 t4 t0 W O [] e2 i2 e4 i4 A rfl J.2 F.2 (λf E=>by cases E) ⟨D.2.1,D.2.2.2,by simp⟩ st;simp only[List.append_nil] at h1 h2;unfold yXf;refine iI func47 ?_;simp only[go_sem,zE,zA];refine (h1 _ (.inl rfl) _).mono ?_;rintro _ st ⟨rfl,rfl⟩;cases allF a.l b.l
 ·simp only[go_sem,zE];exact yQ0 ⟨rfl,rfl⟩
 ·simp only[go_sem,zE,zA];refine (h2 _ (.inl rfl) _).mono ?_;rintro _ st ⟨rfl,rfl⟩;simp only[go_sem,zE];exact yQ0 ⟨rfl,rfl⟩
theorem q_p (n:ByteArray)(t:Tag)(A:List IV)(st:ISt):ICall prog gl 18 [.raw (.string n),.sl t A] st (λr st'=>r=.agg [.raw (.int .u8 1),.raw (.string n),.sl t A,.sl ⟨true,.nil,0⟩ []]/\st'=st):=by
 refine iI func18 ?_;simp only[go_sem,zE,zA,zL,reduceCtorEq,fits];exact yQ0 ⟨rfl,rfl⟩
theorem q_no (o:Int)(n:ByteArray)(t:Tag)(x:List IV)(D:Tag)(A:List IV)(st:ISt):ICall prog gl 19 [.agg [.raw (.int .u8 o),.raw (.string n),.sl t x,.sl D A]] st
  (λr st'=>r=.agg [.raw (.int .u8 3),.raw (.string ⟨#[]⟩),.sl ⟨true,.nil,0⟩ [],.sl ⟨true,.full,4⟩ [.agg [.raw (.int .u8 o),.raw (.string n),.sl t x,.sl D A]]]/\st'=st):=by
 refine iI func19 ?_;simp only[go_sem,zE,zA,zM,zL,fits,yQ1];exact yQ0 ⟨rfl,rfl⟩
theorem yG9 (op o:Int)(n:ByteArray)(t:Tag)(x:List IV)(G:Tag)(F:List IV)(J:Int)(O:ByteArray)(t2:Tag)(E:List IV)(D:Tag)(A:List IV)(st:ISt) :
  ICall prog gl 20 [.raw (.int .u8 op),.agg [.raw (.int .u8 o),.raw (.string n),.sl t x,.sl G F],.agg [.raw (.int .u8 J),.raw (.string O),.sl t2 E,.sl D A]] st
  (λr st'=>r=.agg [.raw (.int .u8 op),.raw (.string ⟨#[]⟩),.sl ⟨true,.nil,0⟩ [],.sl ⟨true,.full,4⟩ [.agg [.raw (.int .u8 o),.raw (.string n),.sl t x,.sl G F],.agg [.raw (.int .u8 J),.raw (.string O),.sl t2 E,.sl D A]]]/\st'=st):=by
 refine iI func20 ?_;simp only[go_sem,zE,zA,zM,zL,reduceCtorEq,fits,yQ6];exact yQ0 ⟨rfl,rfl⟩
theorem q_fs (t:Tag)(A:List IV)(st:ISt):ICall prog gl 13 [.sl t A] st (λr st'=>r=.sl t A/\st'=st):=by
 refine iI func13 ?_;simp only[go_sem,reduceCtorEq];exact yQ0 ⟨rfl,rfl⟩
theorem q_sq (t:Tag)(A:List IV)(D:Tag)(ys:List IV)(st:ISt):ICall prog gl 39 [.sl t A,.sl D ys] st (λr st'=>r=.agg [.sl t A,.sl D ys]/\st'=st):=by
 refine iI func39 ?_;simp only[go_sem,zE,zA,zL,reduceCtorEq,fits];exact yQ0 ⟨rfl,rfl⟩
theorem q_v (n:ByteArray)(st:ISt):ICall prog gl 40 [.raw (.string n)] st (λr st'=>r=.agg [.raw (.bool true),.raw (.string n),.sl ⟨true,.nil,0⟩ []]/\st'=st):=by
 refine iI func40 ?_;simp only[go_sem,zE,zA,zL,reduceCtorEq,fits];exact yQ0 ⟨rfl,rfl⟩
theorem yKh (rule:Int)(tl:Tag)(E:List IV)(tr:Tag)(D:List IV)(o:Int)(n:ByteArray)(t:Tag)(x:List IV)(O:Tag)(F:List IV)(v:Bool)(G:ByteArray)(J:Tag)(A:List IV)(s:ByteArray)(st:ISt) :
  ICall prog gl 21 [.raw (.int .u8 rule),.agg [.sl tl E,.sl tr D],.agg [.raw (.int .u8 o),.raw (.string n),.sl t x,.sl O F],.agg [.raw (.bool v),.raw (.string G),.sl J A],.raw (.string s)] st
  (λr st'=>r=.agg [.raw (.int .u8 rule),.sl tl E,.sl tr D,.raw (.int .u8 o),.raw (.string n),.sl t x,.sl O F,.raw (.bool v),.raw (.string G),.sl J A,.raw (.string s),.sl ⟨true,.nil,0⟩ []]/\st'=st):=by
 refine iI func21 ?_;simp only[go_sem,zE,zA,zL,reduceCtorEq,fits];exact yQ0 ⟨rfl,rfl⟩
mutual
def wTm:Tm->Nat
 | .mk _ n us=>1+n.size / 20+wTms us
def wTms:List Tm->Nat
 | []=>0
 | a::l=>wTm a+wTms l
end
mutual
def wFm:Fm->Nat
 | .mk _ n us sub=>1+n.size / 20+wTms us+wFms sub
def wFms:List Fm->Nat
 | []=>0
 | a::l=>wFm a+wFms l
end
theorem yW4:∀l m:List Fm,wFms (l++m)=wFms l+wFms m
 | [],m=>by simp[wFms]
 | a::l,m=>by simp only[List.cons_append,wFms,yW4 l m];omega
theorem wZa {l:List Fm}{k:Nat}{a:Fm}(h:l[k]?=some a):wFms (l.take (k+1))=wFms (l.take k)+wFm a:=by
 rw[yQ4 h,yW4];simp[wFms]
theorem vQ3 (l:List Fm)(k:Nat):wFms (l.take k)<=wFms l:=by
 conv=>rhs;rw[<- List.take_append_drop k l]
 rw[yW4];omega
def plI (p:List Nat):List IV:=p.map λ(i:Nat)=>.raw (.int .i64 (i:Int))
theorem yV2 (p:List Nat):(plI p).length=p.length:=by simp[plI]
def emp:ISt:=λ_=>none
def PlV (p:List Nat)(a:IV)(e:ISt):Prop :=
 (∃t,a=.sl t []/\t.cap=.nil/\p=[]/\e=emp) \/
 ∃g cap cs,a=.raw (.slice (some ⟨g,0,none⟩) p.length cap)/\e=emp.put g (some (.box cs))/\p.length<=cap/\cap<=cs.length/\cs.take p.length=plI p
def lkT (l:List (List Nat×Tr))(k:Nat)(zs:List IV)(e:ISt):Prop:=∃p t a x,l[k]?=some (p,t)/\IsTr t x/\PlV p a e/\zs=[a,.cptr x]
def xVt (b2 b3 b4:Nat):IV:=.fn (.func 118) [] [.raw (.pointer (some ⟨b2,0,none⟩)),.raw (.pointer (some ⟨b3,0,none⟩)),.raw (.pointer (some ⟨b4,0,none⟩))]
def ownF (b2 b3 b4:Nat)(fy a:IV):ISt:=((emp.put b2 (some (.box [fy]))).put b3 (some (.box [a]))).put b4 (some (.box [xVt b2 b3 b4]))
section
variable {b2 b3 b4:Nat}{fy a:IV}
theorem wU4 (D:b2≠b3)(A:b2≠b4):ownF b2 b3 b4 fy a b2=some (.box [fy]):=by simp only[ownF,ISt.put_apply,if_neg D,if_neg A,if_true]
theorem zQ2 (A:b3≠b4):ownF b2 b3 b4 fy a b3=some (.box [a]):=by simp only[ownF,ISt.put_apply,if_neg A,if_true]
theorem xXj:ownF b2 b3 b4 fy a b4=some (.box [xVt b2 b3 b4]):=by simp only[ownF,ISt.put_apply,if_true]
theorem xYg {c:Nat}(h2:c≠b2)(D:c≠b3)(A:c≠b4):ownF b2 b3 b4 fy a c=none:=by simp only[ownF,ISt.put_apply,if_neg h2,if_neg D,if_neg A,emp]
theorem zJy {c:Nat}(a':IV):ownF b2 b3 b4 fy a c=none↔ownF b2 b3 b4 fy a' c=none:=by
 simp only[ownF,ISt.put_apply];by_cases A:c=b4
 ·simp[A]
 ·by_cases D:c=b3
  ·subst D;simp only[if_neg A,if_true,reduceCtorEq]
  ·simp[A,D]
end
def xK5 (b2 b3 b4:Nat)(fy:IV)(p:List Nat)(s A:ISt):Prop:=∃a e,PlV p a e/\disj s e/\disj (join s e) (ownF b2 b3 b4 fy a)/\A=join (join s e) (ownF b2 b3 b4 fy a)
def FOkL (y:IV)(I:Nat->ISt->Prop)(S:ISt->Prop)(k0:Nat)(l:List (List Nat×Tr)):Prop :=
 ∀i p t x a e stu,l[i]?=some (p,t)->IsTr t x->PlV p a e->disj stu e->I (k0+i) stu →
  ICallV prog gl y [a,.cptr x] (join stu e) λr st'=>(r=.raw (.bool true)/\∃s1,I (k0+i+1) s1/\disj s1 e/\st'=join s1 e)\/(r=.raw (.bool false)/\S st')
section
variable {gl}{y:IV}{I:Nat->ISt->Prop}{S:ISt->Prop}{k0:Nat}
theorem FOkL.left {l m:List (List Nat×Tr)}(h:FOkL gl y I S k0 (l++m)):FOkL gl y I S k0 l:=λi p t x a e stu A =>
 h i p t x a e stu (by rw[List.getElem?_append_left (lGs A).1];exact A)
theorem FOkL.right {l m:List (List Nat×Tr)}(h:FOkL gl y I S k0 (l++m)):FOkL gl y I S (k0+l.length) m:=λi p t x a e stu D A hp hd E=>by
 have:=h (l.length+i) p t x a e stu (by rw[List.getElem?_append_right (by omega)];simpa using D) A hp hd (by rw[<- Nat.add_assoc];exact E);simpa only[Nat.add_assoc] using this
theorem FOkL.tail {z:List Nat×Tr}{m:List (List Nat×Tr)}(h:FOkL gl y I S k0 (z::m)):FOkL gl y I S (k0+1) m:=FOkL.right (l:=[z]) h
end
section
variable {b2 b3 b4:Nat}{fy a a':IV}{p:List Nat}{s:ISt}{g:Nat}
theorem xQ1 {c:Nat}(h:c≠b3):ownF b2 b3 b4 fy a c=ownF b2 b3 b4 fy a' c:=by simp only[ownF,ISt.put_apply,if_neg h]
theorem wXl {cs:List IV}(W:b3≠b4)(hs:disj s (ownF b2 b3 b4 fy a))(J:s g=none)(G:ownF b2 b3 b4 fy a g=none)(hp:PlV p a' (emp.put g (some (.box cs)))) :
  xK5 b2 b3 b4 fy p s (((join s (ownF b2 b3 b4 fy a)).put g (some (.box cs))).put b3 (some (.box [a']))):=by
 have D:ownF b2 b3 b4 fy a' g=none:=(zJy a').1 G;refine⟨a',_,hp,λb A=>?_,λb A=>?_,?_⟩
 ·rw[ISt.put_apply] at A;split at A
  ·rename_i h;rw[h];exact J
  ·exact absurd rfl A
 ·have U:b≠g:=by rintro rfl;exact A D
  have O:(emp.put g (some (.box cs))) b=none:=by rw[ISt.put_apply,if_neg U];rfl
  rw[yZ9 O];exact hs b λh=>A ((zJy a').1 h)
 ·funext c;by_cases E:c=b3
  ·rw[ISt.put_apply,if_pos E,E,yZ3 (zQ2 W)]
  ·rw[ISt.put_apply,if_neg E,ISt.put_apply];by_cases hc:c=g
   ·rw[if_pos hc,hc,yZ9 D,yZ3 (ISt.put_same ..)]
   ·rw[if_neg hc];have O:(emp.put g (some (.box cs))) c=none:=by rw[ISt.put_apply,if_neg hc];rfl
    cases F:ownF b2 b3 b4 fy a c with
    | some o=>rw[yZ3 F,yZ3 ((xQ1 E).symm.trans F)]
    | none=>rw[yZ9 F,yZ9 ((xQ1 E).symm.trans F),yZ9 O]
theorem vX6 {cs:List IV}(E:s g=none)(D:ownF b2 b3 b4 fy a g=none):(join (join s (emp.put g (some (.box cs)))) (ownF b2 b3 b4 fy a)).put g none=join s (ownF b2 b3 b4 fy a):=by
 funext c;rw[ISt.put_apply];split
 ·rename_i h;rw[h,yZ9 D,E]
 ·rename_i h;have F:(emp.put g (some (.box cs))) c=none:=by rw[ISt.put_apply,if_neg h];rfl
  cases A:ownF b2 b3 b4 fy a c with
  | some o=>rw[yZ3 A,yZ3 A]
  | none=>rw[yZ9 A,yZ9 A,yZ9 F]
end
theorem PlV.cons {p:List Nat}{k:Nat}{a:IV}{e:ISt}(h:PlV (p++[k]) a e):∃g cap cs,a=.raw (.slice (some ⟨g,0,none⟩) (p.length+1) cap)/\e=emp.put g (some (.box cs))/\p.length+1<=cap/\cap<=cs.length/\cs.take p.length=plI p:=by
 rcases h with⟨t,_,_,h,_⟩|⟨g,cap,cs,rfl,rfl,h1,h2,A⟩
 ·simp at h
 ·rw[lLa] at h1 A ⊢;refine⟨g,cap,cs,rfl,rfl,h1,h2,?_⟩;have:=congrArg (List.take p.length) A;rw[List.take_take,show min p.length (p.length+[k].length)=p.length by omega] at this;rw[this];unfold plI;rw[List.map_append,List.take_left' (by simp)]
theorem wGz {b2 b3 b4:Nat}{fy a a':IV}{X:ISt}(D:b3≠b4):(join X (ownF b2 b3 b4 fy a)).put b3 (some (.box [a']))=join X (ownF b2 b3 b4 fy a'):=by
 funext c;rw[ISt.put_apply];split
 ·rename_i h;rw[h,yZ3 (zQ2 D)]
 ·rename_i h;cases A:ownF b2 b3 b4 fy a c with
  | some o=>rw[yZ3 A,yZ3 ((xQ1 h).symm.trans A)]
  | none=>rw[yZ9 A,yZ9 ((xQ1 h).symm.trans A)]
theorem zYr {n m:Nat}(h:n+1<=m):yXm none (some ((n:Nat):Int)) m=some (0,n):=by
 simp only[yXm,Option.getD_none,Option.getD_some];rw[if_pos ⟨Int.le_refl _,by omega,by omega⟩];simp
theorem zGm:∀ {l:List Tr}{t:Tr},t∈l->t.height<=yQz l
 | a::l,t,h=>by
  simp only[yQz];rcases List.mem_cons.1 h with rfl|h
  ·omega
  ·have:=zGm h;omega
theorem zVn (x:Operand):yJx 1 [(0,x)]=true:=rfl
theorem yVa (p:List Nat):∀(i:Nat) (l m:List Tr),yZ2 p i (l++m)=yZ2 p i l++yZ2 p (i+l.length) m
 | i,[],m=>by simp[yZ2]
 | i,a::l,m=>by
  simp only[List.cons_append,yZ2,yVa p (i+1) l m,List.append_assoc,List.length_cons];rw[show i+1+l.length=i+(l.length+1) by omega]
def FF (t:Tr):Prop:=∀(x:IV) (_:IsTr t x) (b2 b3 b4:Nat) (_:b2≠b3) (_:b2≠b4) (_:b3≠b4) (g:Fn) (D ca:List IV) (_:fnOk g=true) (_:∀i,g=.func i->entI prog i=true) (I:Nat->ISt->Prop) (S:ISt->Prop) (k0:Nat) (p:List Nat)
  (_:FOkL gl (.fn g D ca) I S k0 (t.walk p)) (_:p.length+t.height<=1099511627776) (s A:ISt) (_:I k0 s) (_:xK5 b2 b3 b4 (.fn g D ca) p s A),
  ICall prog gl 118 [.cptr x,.raw (.pointer (some ⟨b2,0,none⟩)),.raw (.pointer (some ⟨b3,0,none⟩)),.raw (.pointer (some ⟨b4,0,none⟩))] A
   (λr st'=>(r=.raw (.bool true)/\∃s1,I (k0+(t.walk p).length) s1/\xK5 b2 b3 b4 (.fn g D ca) p s1 st')\/(r=.raw (.bool false)/\∃s1,S s1/\subSt s1 st'))
theorem wK2 (rule:Nat)(sq:Sq)(f:Fm)(u:Tm)(n:ByteArray)(sub:List Tr)(IH:∀a∈sub,FF gl a):FF gl (.mk rule sq f u n sub):=by
 intro x hx b2 b3 b4 aW aV D g F ca bj ak I S k0 p hy aw s am hI be;have bc:=hx;obtain⟨tl,xl,tr,xr,op,fn,ta,xa,tb,xb,v,un,tu,xu,ts,xs,O,b1,_,_,_,_,_,_,e3,i3⟩:=hx.mk;obtain⟨a,e,hp,ab,W,rfl⟩:=be;simp only[Tr.walk] at hy ⊢;have aa:=hy 0 p _ _ a e s rfl bc hp ab hI;have ba:=FOkL.tail hy;have r2:join (join s e) (ownF b2 b3 b4 (.fn g F ca) a) b2=some (.box [.fn g F ca]):=yZ3 (wU4 aW aV);have r3:join (join s e) (ownF b2 b3 b4 (.fn g F ca) a) b3=some (.box [a]):=yZ3 (zQ2 D);refine ICall.intro (c:=cf prog gl [23,24] []) func118 rfl (by show _<=39;simp) (by kernel_rfl) ?_;have bh:ivOf (.iv a)=some a:=by rcases hp with⟨t,rfl,_⟩|⟨g,cap,cs,rfl,_⟩<;>rfl
 rw[O] at aa;simp only[go_sem,zE,reduceCtorEq,r2,r3,bh,O];refine yJz ak (aa.frame W |>.mono ?_);rintro r am ⟨s2,aQ,rfl,(⟨rfl,s3,bn,bk,rfl⟩|⟨rfl,hS⟩)⟩
 ·simp only[go_sem,reduceCtorEq,i3.len];intro br;refine LoopC.ctr sub.length (λk fr st' ds=>(∃s,I (k0+1+(yZ2 p 0 (sub.take k)).length) s/\xK5 b2 b3 b4 (.fn g F ca) p s st')/\fr 0=.iv (.cptr x)/\fr 1=.iv (.raw (.pointer (some ⟨b2,0,none⟩)))/\fr 2=.iv (.raw (.pointer (some ⟨b3,0,none⟩)))/\fr 3=.iv (.raw (.pointer (some ⟨b4,0,none⟩)))/\fr 16=.iv (.raw (.int .i64 sub.length))/\fr 17=.iv (.raw (.int .i64 k))/\ds=[]) ?_ ?_ ?_
  ·simp only[go_sem,zE,reduceCtorEq,O];exact⟨⟨s3,by simpa[yZ2] using bn,a,e,hp,bk,aQ,rfl⟩,rfl⟩
  ·rintro k fr a6 _ U ⟨⟨s,hI,a,e,hp,ab,W,rfl⟩,f0,f1,f2,f3,f16,f17,rfl⟩;rw[O] at f0;obtain⟨t,ht⟩:=yQ3 U;obtain⟨z,aP,hz⟩:=i3.get ht;have r3:join (join s e) (ownF b2 b3 b4 (.fn g F ca) a) b3=some (.box [a]):=yZ3 (zQ2 D);have b0:=zGm (lMg ht);simp only[Tr.height] at aw;have ag:yZ2 p 0 sub=yZ2 p 0 (sub.take k)++(t.walk (p++[k])++yZ2 p (k+1) (sub.drop (k+1))):=by
    conv=>lhs;rw[<- List.take_append_drop k sub,List.drop_eq_getElem_cons U]
    rw[yVa,(lGs ht).2,show (sub.take k).length=k by rw[List.length_take];omega];simp only[yZ2,Nat.zero_add]
   have aN:=ba;rw[ag] at aN;have ac:=λam hF=>IH t (lMg ht) z hz b2 b3 b4 aW aV D g F ca bj ak I S _ (p++[k]) (FOkL.left (FOkL.right aN)) (by rw[lLa];simp only[List.length_singleton];omega) s am hI hF;have aj:IntKind.i64.wrap (((p.length+1:Nat):Int)-1)=(p.length:Nat):=by rw[w64 (by omega) (by omega)];omega
   have a8:∃c0 c1 c2 c3 c4 c5 c6 c7 c8 c9 aZ aY,z=.agg [c0,c1,c2,c3,c4,c5,c6,c7,c8,c9,aZ,aY]:=by
    obtain⟨r',s',m',t',n',b'⟩:=t;obtain⟨bQ,bJ,bP,bI,bX,b7,bS,bL,bR,bK,v',bM,bN,bG,bO,bH,rfl,_⟩:=hz.mk;exact⟨_,_,_,_,_,_,_,_,_,_,_,_,rfl⟩
   obtain⟨c0,c1,c2,c3,c4,c5,c6,c7,c8,c9,aZ,aY,rfl⟩:=a8;rcases hp with⟨t0,rfl,bd,au,rfl⟩|⟨E,cap,cs,rfl,rfl,bm,b5,bl⟩
   ·obtain⟨fs,c,es⟩:=t0;obtain rfl:c=.nil:=bd;have bg:join s emp=s:=rfl;rw[bg] at r3 W ⊢;simp only[go_sem,zE,zA,zM,zL,reduceCtorEq,f0,f2,f3,f16,f17,lt_i U,r3,O,zVn];intro E cap;refine yQd λhg=>?_;obtain⟨hg,aT⟩:=hg;change join s (ownF b2 b3 b4 (.fn g F ca) (.sl ⟨fs,.nil,es⟩ [])) E=none at hg;have aS:disj s (ownF b2 b3 b4 (.fn g F ca) (.sl ⟨fs,.nil,es⟩ [])):=W;have A:ownF b2 b3 b4 (.fn g F ca) (.sl ⟨fs,.nil,es⟩ []) E=none:=by
     cases ho:ownF b2 b3 b4 (.fn g F ca) (.sl ⟨fs,.nil,es⟩ []) E with
     | none=>rfl
     | some o=>rw[yZ3 ho] at hg;cases hg
    have bi:s E=none:=by rw[<- yZ9 (stu:=s) A];exact hg
    have aC:b3≠E:=by rintro rfl;rw[zQ2 D] at A;cases A
    have hF:=wXl (fy:=.fn g F ca) (p:=p++[k]) (a':=.raw (.slice (some ⟨E,0,none⟩) 1 cap)) (cs:=.raw (.int .i64 k)::List.replicate (cap-1) .junk) D aS bi A (.inr ⟨E,cap,_,by rw[au];rfl,rfl,by simpa[au] using aT,by simp;omega,by simp[plI,au]⟩);have aB:b4≠E:=by rintro rfl;rw[xXj] at A;cases A
    have ao:∀o,((join s (ownF b2 b3 b4 (.fn g F ca) (.sl ⟨fs,.nil,es⟩ []))).put E o) b3=some (.box [.sl ⟨fs,.nil,es⟩ []]):=λo=>by rw[ISt.put_apply,if_neg aC];exact r3
    have an:∀o o',(((join s (ownF b2 b3 b4 (.fn g F ca) (.sl ⟨fs,.nil,es⟩ []))).put E o).put b3 o') b4=some (.box [xVt b2 b3 b4]):=λo o'=>by rw[ISt.put_apply,if_neg D.symm,ISt.put_apply,if_neg aB];exact yZ3 xXj
    simp only[go_sem,zL,IV.one,List.flatMap_cons,List.flatMap_nil,IV.cells,Nat.mul_one,ao,an,aP,yQ2 e3,iNn,xVt];refine (ac _ hF).mono ?_;rintro _ a1 (⟨rfl,s1,aE,aF⟩|⟨rfl,s1,aD,J⟩)
    ·obtain⟨a2,e2,aq,ay,ax,rfl⟩:=aF;obtain⟨g3,G,cs3,rfl,rfl,ae,aA,az⟩:=aq.cons;have r6:join (join s1 (emp.put g3 (some (.box cs3)))) (ownF b2 b3 b4 (.fn g F ca) (.raw (.slice (some ⟨g3,0,none⟩) (p.length+1) G))) b3=some (.box [.raw (.slice (some ⟨g3,0,none⟩) (p.length+1) G)]):=yZ3 (zQ2 D);simp only[go_sem,zE,zL,reduceCtorEq,IV.one,r6,f0,f1,f2,f3,f16,f17,aj,zYr ae,ite_self,Nat.zero_mul,ae,yQb U (show sub.length<=281474976710656 by omega)];refine⟨s1,?_,?_⟩
     ·rw[yQ4 ht,yVa,lLa,show (sub.take k).length=k by rw[List.length_take];omega];simp only[yZ2,List.append_nil,Nat.zero_add];rw[<- Nat.add_assoc];exact aE
     ·rw[wGz D];exact⟨_,_,.inr ⟨g3,G,cs3,rfl,rfl,by omega,aA,az⟩,ay,λb hb=>ax b λh=>hb ((zJy _).1 h),rfl⟩
    ·simp only[go_sem];exact yQ0 (.inr ⟨rfl,s1,aD,J⟩)
   ·have ho:ownF b2 b3 b4 (.fn g F ca) (.raw (.slice (some ⟨E,0,none⟩) p.length cap)) E=none:=by
     cases ho:ownF b2 b3 b4 (.fn g F ca) (.raw (.slice (some ⟨E,0,none⟩) p.length cap)) E with
     | none=>rfl
     | some o =>
      have:=W E (by rw[ho];simp);rw[yZ3 (ISt.put_same ..)] at this;cases this
    have aO:s E=none:=ab E (by rw[ISt.put_same];simp);have r5:join (join s (emp.put E (some (.box cs)))) (ownF b2 b3 b4 (.fn g F ca) (.raw (.slice (some ⟨E,0,none⟩) p.length cap))) E=some (.box cs):=by
     rw[yZ9 ho,yZ3 (ISt.put_same ..)]
    simp only[go_sem,zE,zA,zM,zL,f2,f16,f17,lt_i U,r3,O,zVn];refine zXv _ _ _ r5 (by simp[fits,IV.one]) ⟨by show (_+1)*8<=_;omega,by show _+1<=_;omega⟩ ⟨bm,by show _*1<=_;omega⟩ (by simp[IV.cells]) ?_;intro g2 al aX A k1 k2 k3;rw[vX6 aO ho];have ah:s g2=none/\ownF b2 b3 b4 (.fn g F ca) (.raw (.slice (some ⟨E,0,none⟩) p.length cap)) g2=none:=by
     rcases A with rfl|A
     ·exact⟨aO,ho⟩
     ·cases hq:ownF b2 b3 b4 (.fn g F ca) (.raw (.slice (some ⟨E,0,none⟩) p.length cap)) g2 with
      | some o=>rw[yZ3 hq] at A;cases A
      | none =>
       rw[yZ9 hq] at A;refine⟨?_,rfl⟩;cases hz:s g2 with
       | none=>rfl
       | some o=>rw[yKc ab g2 o hz] at A;cases A
    have bf:disj s (ownF b2 b3 b4 (.fn g F ca) (.raw (.slice (some ⟨E,0,none⟩) p.length cap))):=λb hb=>by
     have:=W b hb;cases hz:s b with
     | none=>rfl
     | some o=>rw[yKc ab b o hz] at this;cases this
    have hF:=wXl (fy:=.fn g F ca) (p:=p++[k]) (a':=.raw (.slice (some ⟨g2,0,none⟩) (p.length+1) al)) (cs:=aX) D bf ah.1 ah.2 (.inr ⟨g2,al,aX,by simp,rfl,by simpa using k1,by simpa using k2,by
     simp only[Nat.mul_one] at k3;rw[lLa];exact k3.trans (by rw[bl];simp[plI,IV.cells])⟩)
    have aC:b3≠g2:=by rintro rfl;have:=ah.2;rw[zQ2 D] at this;cases this
    have aB:b4≠g2:=by rintro rfl;have:=ah.2;rw[xXj] at this;cases this
    have ao:∀o,((join s (ownF b2 b3 b4 (.fn g F ca) (.raw (.slice (some ⟨E,0,none⟩) p.length cap)))).put g2 o) b3=some (.box [.raw (.slice (some ⟨E,0,none⟩) p.length cap)]):=λo=>by rw[ISt.put_apply,if_neg aC];exact yZ3 (zQ2 D)
    have an:∀o o',(((join s (ownF b2 b3 b4 (.fn g F ca) (.raw (.slice (some ⟨E,0,none⟩) p.length cap)))).put g2 o).put b3 o') b4=some (.box [xVt b2 b3 b4]):=λo o'=>by rw[ISt.put_apply,if_neg D.symm,ISt.put_apply,if_neg aB];exact yZ3 xXj
    simp only[go_sem,zE,zL,reduceCtorEq,IV.one,IV.cells,ao,an,f0,f2,f3,aP,yQ2 e3,iNn,fits,xVt];refine (ac _ hF).mono ?_;rintro _ a1 (⟨rfl,s1,aE,aF⟩|⟨rfl,s1,aD,J⟩)
    ·obtain⟨a2,e2,aq,ay,ax,rfl⟩:=aF;obtain⟨g3,G,cs3,rfl,rfl,ae,aA,az⟩:=aq.cons;have r6:join (join s1 (emp.put g3 (some (.box cs3)))) (ownF b2 b3 b4 (.fn g F ca) (.raw (.slice (some ⟨g3,0,none⟩) (p.length+1) G))) b3=some (.box [.raw (.slice (some ⟨g3,0,none⟩) (p.length+1) G)]):=yZ3 (zQ2 D);simp only[go_sem,zE,zL,reduceCtorEq,IV.one,r6,f0,f1,f2,f3,f16,f17,aj,zYr ae,ite_self,Nat.zero_mul,ae,yQb U (show sub.length<=281474976710656 by omega)];refine⟨s1,?_,?_⟩
     ·rw[yQ4 ht,yVa,lLa,show (sub.take k).length=k by rw[List.length_take];omega];simp only[yZ2,List.append_nil,Nat.zero_add];rw[<- Nat.add_assoc];exact aE
     ·rw[wGz D];exact⟨_,_,.inr ⟨g3,G,cs3,rfl,rfl,by omega,aA,az⟩,ay,λb hb=>ax b λh=>hb ((zJy _).1 h),rfl⟩
    ·simp only[go_sem];exact yQ0 (.inr ⟨rfl,s1,aD,J⟩)
  ·rintro fr a6 _ ⟨⟨s,hI,hF⟩,f0,f1,f2,f3,f16,f17,rfl⟩;rw[lTl] at hI;simp only[go_sem,f16,f17,yQj (nLi _)];refine yQ0 (.inl ⟨rfl,s,?_,hF⟩);rw[show k0+((yZ2 p 0 sub).length+1)=k0+1+(yZ2 p 0 sub).length by omega];exact hI
 ·simp only[go_sem];exact yQ0 (.inr ⟨rfl,s2,hS,yKc aQ⟩)
theorem xGb:∀(k:Nat)(t:Tr),SizeOf.sizeOf t<k->FF gl t
 | 0,t,h=>by omega
 | k+1,.mk r sq f u n sub,h=>wK2 gl r sq f u n sub (λa A=>xGb k a (by
   have:=lSm A;simp at h;omega))
theorem vVw (t:Tr):FF gl t:=xGb gl _ t (Nat.lt_succ_self _)
theorem wVx (t:Tr)(x:IV)(hx:IsTr t x)(hd:t.height<=1099511627776)(I:Nat->ISt->Prop):wGh prog gl 117 [] [.cptr (.cptr x)] (lkT (t.walk [])) (t.walk []).length I:=by
 rintro y I' S' st ⟨g,fi,ca,rfl,aj,ab⟩ _ hy h0;have G:=vVw gl t x hx;have ai:FOkL gl (.fn g fi ca) I' S' 0 (t.walk []):=λi p t x a e stu hi ht hp ak hI=>by
  rw[Nat.zero_add] at hI ⊢;exact hy i [a,.cptr x] e stu ⟨p,t,a,x,hi,ht,hp,rfl⟩ ak hI
 have ah:∃c0 c1 c2 c3 c4 c5 c6 c7 c8 c9 ag af,x=.agg [c0,c1,c2,c3,c4,c5,c6,c7,c8,c9,ag,af]:=by
  obtain⟨r',s',m',t',n',b'⟩:=t;obtain⟨aQ,aJ,aP,aI,aV,a6,aT,aL,aS,aK,v',aM,aN,aG,aO,aH,rfl,_⟩:=hx.mk;exact⟨_,_,_,_,_,_,_,_,_,_,_,_,rfl⟩
 obtain⟨c0,c1,c2,c3,c4,c5,c6,c7,c8,c9,ag,af,rfl⟩:=ah;change ICall prog gl _ [.fn g fi ca,_] st _;refine ICall.intro (c:=cf prog gl [2,3,4] []) func117 rfl (by show _<=9;simp) (by kernel_rfl) ?_;simp only[go_sem,zE,zL,fits];intro b2;refine yQd λan=>?_;intro b3;refine yQd λD=>?_;intro b4;refine yQd λA=>?_;have E:b2≠b3:=by rintro rfl;rw[ISt.put_same] at D;cases D
 have J:b3≠b4:=by rintro rfl;rw[ISt.put_same] at A;cases A
 have O:b2≠b4:=by rintro rfl;rw[ISt.put_apply,if_neg E,ISt.put_same] at A;cases A
 rw[ISt.put_apply,if_neg E.symm] at D;rw[ISt.put_apply,if_neg J.symm,ISt.put_apply,if_neg O.symm] at A;have hF:xK5 b2 b3 b4 (.fn g fi ca) [] st ((((st.put b2 (some (.box [.fn g fi ca]))).put b3 (some (.box [.sl ⟨true,.nil,0⟩ []]))).put b4 (some (.box [.raw .nilFunc]))).put b4 (some (.box [xVt b2 b3 b4]))):=by
  refine⟨_,emp,.inl ⟨⟨true,.nil,0⟩,rfl,rfl,rfl,rfl⟩,λb hb=>absurd rfl hb,λb hb=>?_,?_⟩
  ·show st b=none;by_cases F:b=b4
   ·rw[F];exact A
   ·by_cases U:b=b3
    ·rw[U];exact D
    ·by_cases W:b=b2
     ·rw[W];exact an
     ·exact absurd (xYg W U F) hb
  ·funext c;by_cases F:c=b4
   ·rw[F,ISt.put_same,yZ3 xXj]
   ·rw[ISt.put_apply,if_neg F,ISt.put_apply,if_neg F];by_cases U:c=b3
    ·rw[U,ISt.put_same,yZ3 (zQ2 J)]
    ·rw[ISt.put_apply,if_neg U];by_cases W:c=b2
     ·rw[W,ISt.put_same,yZ3 (wU4 E O)]
     ·rw[ISt.put_apply,if_neg W,yZ9 (xYg W U F)];rfl
 refine (G b2 b3 b4 E O J g fi ca aj ab I' S' 0 [] ai (by simpa using hd) st _ h0 hF).mono ?_;rintro r aU (⟨rfl,s1,ac,a,e,_,am,al,rfl⟩|⟨rfl,s1,aq,aa⟩)
 ·simp only[go_sem];rw[Nat.zero_add] at ac;exact yQc ((yKc am).trans (yKc al)) (.inl ac)
 ·simp only[go_sem];exact yQc aa (.inr aq)
theorem vQg (x:IV)(st:ISt)(t:Tr)(hx:IsTr t x):ICall prog gl 72 [.cptr x] st (λr st'=>r=.fn (.func 117) [] [.cptr (.cptr x)]/\st'=st):=by
 have E:∃c0 c1 c2 c3 W U O J G F D A,x=.agg [c0,c1,c2,c3,W,U,O,J,G,F,D,A]:=by
  obtain⟨r',s',m',t',n',b'⟩:=t;obtain⟨aq,ai,ao,ah,aw,ay,av,ak,au,aj,v',al,am,af,an,ag,rfl,_⟩:=hx.mk;exact⟨_,_,_,_,_,_,_,_,_,_,_,_,rfl⟩
 obtain⟨c0,c1,c2,c3,W,U,O,J,G,F,D,A,rfl⟩:=E;refine ICall.intro (c:=cf prog gl [] [] [1]) func72 rfl (by show _<=4;simp) (by kernel_rfl) ?_;simp only[go_sem,zE];exact yQ0 ⟨rfl,rfl⟩
theorem wVo (t:Tag)(D:t.cap=.nil)(st:ISt):ICall prog gl 74 [.sl t []] st (λr st'=>(∃A,r=.sl A (plI [])/\okEs A 1)/\st'=st):=by
 obtain⟨F,c,es⟩:=t;obtain rfl:c=.nil:=D;refine iI func74 ?_;have E:binV prog 50 .eql (.sl ⟨F,.nil,es⟩ []) (.sl ⟨true,.nil,0⟩ [])=some (.raw (.bool true)):=by
  have:zZj prog 50=true:=by kernel_rfl
  simp[binV,zY4,this]
 simp only[go_sem,reduceCtorEq,E];exact yQ0 ⟨⟨_,rfl,.inl rfl⟩,rfl⟩
theorem wVp (g:Nat)(p:List Nat)(hp:p≠[])(G:p.length<=1099511627776)(st:ISt):ICall prog gl 74 [.sl ⟨false,.app g,1⟩ (plI p)] st (λr st'=>(∃D,r=.sl D (plI p)/\okEs D 1)/\st'=st):=by
 obtain⟨i,p,rfl⟩:∃i q,p=i::q:=by
  cases p with
  | nil=>exact absurd rfl hp
  | cons i q=>exact⟨i,q,rfl⟩
 refine iI func74 ?_;have E:binV prog 50 .eql (.sl ⟨false,.app g,1⟩ (plI (i::p))) (.sl ⟨true,.nil,0⟩ [])=some (.raw (.bool false)):=by
  have:zZj prog 50=true:=by kernel_rfl
  simp[binV,zY4,this]
 have O:(plI (i::p)).all (fits false 1)=true:=by simp[plI,fits,IV.one]
 simp only[List.length_cons] at G;have U:plI (i::p)=.raw (.int .i64 (i:Int))::plI p:=rfl;have F:=yV2 p;have A:(plI p).all (fits false 1)=true:=by simp[plI,fits,IV.one]
 rw[U] at E O ⊢;simp only[go_sem,zE,zA,zM,zL,reduceCtorEq,fits,E];exact yQv rfl (yQv A (yQv ⟨by omega,by omega⟩ λW=>yQd λJ=>yQc (yQe J) ⟨⟨_,rfl,.inr rfl⟩,rfl⟩))
theorem wQv {R:Rt}{st:ISt}{ds:List Dfd}(esc:List Nat)(dst:Option Nat)(e:TypeId×Bool×Nat×Nat)(D:Bool)(es:Nat)(A:List IV):appV esc dst e ⟨D,.full,es⟩ A [] R st ds =
 chk (([]:List IV).all (fits e.2.1 e.2.2.1)=true) (chk ((A.length+0)*e.2.2.2<=140737488355328/\A.length+0<=140737488355328) (chk (es=e.2.2.1) (R (.val (.sl ⟨D,.full,es⟩ A)) st ds))):=rfl
theorem wZ7 (g:Nat)(st:ISt):ICall prog gl 74 [.sl ⟨false,.app g,1⟩ (plI [])] st (λr st'=>(∃A,r=.sl A (plI [])/\okEs A 1)/\st'=st):=by
 have D:binV prog 50 .eql (.sl ⟨false,.app g,1⟩ (plI [])) (.sl ⟨true,.nil,0⟩ [])=some (.raw (.bool false)):=by
  have:zZj prog 50=true:=by kernel_rfl
  simp[binV,zY4,this]
 rw[show plI []=[] from rfl] at D ⊢;refine iI func74 ?_;simp only[go_sem,zE,zA,zM,zL,reduceCtorEq,D,wQv];exact yQv rfl (yQ0 ⟨⟨_,rfl,.inr rfl⟩,rfl⟩)
theorem wJn {s e:ISt}(h:disj s e):join s e=join e s:=by
 funext b;cases A:e b with
 | none =>
  rw[yZ9 A];cases D:s b with
  | none=>rw[yZ9 D,A]
  | some o=>rw[yZ3 D]
 | some o=>rw[yZ3 A,yZ9 (h b (by rw[A];simp)),A]
theorem xGt:∀p:List Nat,ages (plI p)=plI p
 | []=>by simp only[plI,List.map_nil,ages]
 | i::p=>by
  have:=xGt p;simp only[plI,List.map_cons,ages,age] at this ⊢;rw[this]
theorem xYa:∀p:List Nat,(plI p).flatMap IV.cells=plI p
 | []=>rfl
 | i::p=>by
  have:=xYa p;simp only[plI,List.map_cons,List.flatMap_cons,IV.cells,List.singleton_append] at this ⊢;rw[this]
theorem vXs (p:List Nat)(a:IV)(e s:ISt)(hp:PlV p a e)(W:p.length<=1099511627776)(hd:disj s e):ICall prog gl 74 [a] (join s e) (λr st'=>(∃A,r=.sl A (plI p)/\okEs A 1)/\st'=s):=by
 have key:ICall prog gl 74 [a] e (λr st'=>(∃A,r=.sl A (plI p)/\okEs A 1)/\st'=emp):=by
  rcases hp with⟨t,rfl,U,rfl,rfl⟩|⟨g,cap,cs,rfl,rfl,h1,h2,h3⟩
  ·exact wVo gl t U emp
  ·have G:yY2 (emp.put g (some (.box cs)))=emp:=by
    funext b;by_cases E:b=g
    ·rw[E,zZb (ISt.put_same ..)];rfl
    ·have:(emp.put g (some (.box cs))) b=none:=by rw[ISt.put_apply,if_neg E];rfl
     rw[yYa (λcs' h=>by rw[this] at h;cases h),this];rfl
   refine ICall.freeze (args':=[.sl ⟨false,.app g,1⟩ (plI p)]) ⟨_,_,rfl,.inr ⟨.sl ⟨true,.app g,1⟩ (plI p),?_,?_⟩,rfl⟩ ?_
   ·rw[<- yV2 p];refine .sl g cap ⟨true,.app g,1⟩ (plI p) cs rfl (by rw[yV2];omega) (by rw[yV2];exact h1) (λx O=>?_) (ISt.put_same ..) (by simpa using h2) λi r c F hc=>?_
    ·obtain⟨i,_,rfl⟩:=List.mem_map.1 O;rfl
    ·rw[xYa p] at hc;have hi:i<p.length:=by
      have:=(lGs hc).1
      rwa [yV2] at this
     have:(cs.take p.length)[i]?=cs[i]?:=by rw[List.getElem?_take,if_pos hi]
     rw[h3,hc,F] at this;cases this;exact .refl _
   ·simp only[age,xGt]
   ·rw[G];by_cases D:p=[]
    ·subst D;exact wZ7 gl g emp
    ·exact wVp gl g p D W emp
 have h1:=key.frame (own:=s) (λb E=>by
  cases he:e b with
  | none=>rfl
  | some o=>exact absurd (hd b (by rw[he];simp)) E)
 rw[wJn hd];refine h1.mono ?_;rintro r st' ⟨stu,_,rfl,F,rfl⟩;refine⟨F,?_⟩;funext b;cases J:s b with
 | none=>rw[yZ9 J];rfl
 | some o=>rw[yZ3 J]
def xXs:Tr->Prop
 | .mk _ s m u _ sub=>yKm s/\m.size<=1000000/\u.size<=1000000/\∀a∈sub,yKm a.sq
def wKe (t:Tr):Prop:=(∀q∈t.walk [],xXs q.2)/\t.height<=1099511627776
theorem wG5 (G:Gl gl)(T:Gt gl)(ca:Nat)(t:Tr)(x:IV)(D:IsTr t x)(A:xXs t)(st:ISt):ICall prog gl 73 [.raw (.int .u8 ca),.cptr x] st (λr st'=>r=.raw (.int .i64 (yZj ca t))/\st'=st):=by
 obtain⟨rule,s,m,u,n,sub⟩:=t;exact vXg gl G T ca rule s m u n sub x D A.1 A.2.1 A.2.2.1 A.2.2.2 st
theorem yW5 {t:Tr}{x:IV}(h:IsTr t x):∃(rule:Nat) (tl:Tag) (U:List IV) (tr:Tag) (J:List IV) (op:Int) (fn:ByteArray) (ta:Tag) (xa:List IV) (tb:Tag) (xb:List IV) (v:Bool) (un:ByteArray) (tu:Tag) (D:List IV) (n:ByteArray) (ts:Tag) (F:List IV),
  x=.agg [.raw (.int .u8 rule),.sl tl U,.sl tr J,.raw (.int .u8 op),.raw (.string fn),.sl ta xa,.sl tb xb,.raw (.bool v),.raw (.string un),.sl tu D,.raw (.string n),.sl ts F]:=by
 obtain⟨r',s',m',t',n',b'⟩:=t;obtain⟨al,O,ak,G,au,av,ao,ab,am,W,v',ae,ag,A,ai,E,rfl,_⟩:=h.mk;exact⟨_,_,_,_,_,_,_,_,_,_,_,_,_,_,_,_,_,_,rfl⟩
mutual
theorem zU8:∀(p:List Nat)(t:Tr),(t.walk p).length=t.steps
 | p,.mk _ _ _ _ _ sub=>by simp only[Tr.walk,Tr.steps,List.length_cons,zKg p 0 sub];omega
theorem zKg:∀(p:List Nat)(i:Nat)(l:List Tr),(yZ2 p i l).length=yQp l
 | _,_,[]=>rfl
 | p,i,a::l=>by simp only[yZ2,yQp,lLa,zU8 (p++[i]) a,zKg p (i+1) l]
end
mutual
theorem xZ8:∀(q:List Nat)(t:Tr)(x:List Nat×Tr),x∈t.walk q->x.1.length+1<=q.length+t.height
 | q,.mk _ _ _ _ _ sub,x,h=>by
  simp only[Tr.walk,List.mem_cons] at h;simp only[Tr.height];rcases h with rfl|h
  ·simp only;omega
  ·have:=zJ0 q 0 sub x h;omega
theorem zJ0:∀(q:List Nat)(i:Nat)(l:List Tr)(x:List Nat×Tr),x∈yZ2 q i l->x.1.length<=q.length+yQz l
 | _,_,[],x,h=>by simp[yZ2] at h
 | q,i,a::l,x,h=>by
  simp only[yZ2,List.mem_append] at h;simp only[yQz];rcases h with h|h
  ·have:=xZ8 (q++[i]) a x h;rw[lLa] at this;simp only[List.length_singleton] at this;omega
  ·have:=zJ0 q (i+1) l x h;omega
end
def CkI (st:ISt)(b2 b4 D A ca c:Nat)(s:ISt):Prop:=s b2=some (.box [.raw (.int .u8 ca)])/\s b4=some (.box [.sl ⟨true,.nil,0⟩ []])/\s D=some (.box [.raw (.int .i64 0)])/\s A=some (.box [.raw (.int .i64 c)])/\subSt st s
def CkS (st:ISt)(b4 D:Nat)(q:List Nat×Nat)(e:Exit)(s:ISt):Prop:=e=.ret/\(∃A,s b4=some (.box [.sl A (plI q.1)])/\okEs A 1)/\s D=some (.box [.raw (.int .i64 q.2)])/\subSt st s
theorem zWy (G:Gl gl)(T:Gt gl)(ca:Nat)(t:Tr)(x:IV)(hx:IsTr t x)(ag:wKe t)(st:ISt):ICall prog gl 25 [.raw (.int .u8 ca),x] st (λr st'=>(∃tg,r=.tup [.sl tg (plI (yXx ca t).1),.raw (.int .i64 (yXx ca t).2)]/\okEs tg 1)/\st'=st):=by
 have ao:=λst=>vQg gl x st t hx;have av:=λI=>wVx gl t x hx ag.2 I;have aJ:=λst=>xQh gl ca st;obtain⟨rule,tl,xl,tr,xr,op,fn,ta,xa,tb,xb,v,un,tu,xu,n,ts,xs,rfl⟩:=yW5 hx;refine ICall.intro (c:=cf prog gl [2,4,5,6] [] [3]) func25 rfl (by show _<=31;simp) (by kernel_rfl) ?_;simp only[go_sem,zE,zA,IV.one];intro b2;refine yQd λaN=>?_;intro b4;refine yQd λaa=>?_;intro U;refine yQd λE=>?_;have al:b2≠b4:=by rintro rfl;rw[ISt.put_same] at aa;cases aa
 have ab:b4≠U:=by rintro rfl;rw[ISt.put_same] at E;cases E
 have aA:b2≠U:=by rintro rfl;rw[ISt.put_apply,if_neg al,ISt.put_same] at E;cases E
 rw[ISt.put_apply,if_neg al.symm] at aa;rw[ISt.put_apply,if_neg ab.symm,ISt.put_apply,if_neg aA.symm] at E;obtain⟨s1,aH,f2,f4,f5,af⟩:∃s1,s1=((st.put b2 (some (.box [.raw (.int .u8 ca)]))).put b4 (some (.box [.sl ⟨true,.nil,0⟩ []]))).put U (some (.box [.raw (.int .i64 0)]))/\s1 b2=some (.box [.raw (.int .u8 ca)])/\s1 b4=some (.box [.sl ⟨true,.nil,0⟩ []])/\s1 U=some (.box [.raw (.int .i64 0)])/\subSt st s1 :=
  ⟨_,rfl,by simp only[ISt.put_apply,if_neg al,if_neg aA,if_true],by simp only[ISt.put_apply,if_neg ab,if_true],by simp only[ISt.put_apply,if_true],yZ4 (yZ4 (yZ4 (subSt.refl st) aN) aa) E⟩
 rw[<- aH];simp only[go_sem,f2];refine (aJ _).mono ?_;rintro _ an ⟨rfl,rfl⟩;have g5:∀(s:ISt) o,(s.put b4 o) U=s U:=λs o=>by rw[ISt.put_apply,if_neg ab.symm]
 have g4:∀(s:ISt) o o',((s.put b4 o).put U o') b4=o:=λs o o'=>by rw[ISt.put_apply,if_neg ab,ISt.put_same]
 have F:∀(s:ISt) o o',subSt st s->subSt st ((s.put b4 o).put U o'):=λs o o' h=>yZ4 (yZ4 h aa) E;cases hk:yX7 ca
 ·have hq:yXx ca t=([],2):=by unfold yXx;rw[hk];rfl
  simp only[go_sem,zE,zL,f4,f5,g5,g4,ISt.put_same];exact yQc (F _ _ _ af) ⟨⟨_,by rw[hq];rfl,.inl rfl⟩,rfl⟩
 ·simp only[go_sem,zE,zA,zL];intro W;refine yQd λD=>?_;rw[yQg];refine (ao _).mono ?_;rintro _ _ ⟨rfl,rfl⟩;have az:b2≠W:=by rintro rfl;rw[f2] at D;cases D
  have ak:b4≠W:=by rintro rfl;rw[f4] at D;cases D
  have aj:U≠W:=by rintro rfl;rw[f5] at D;cases D
  have ah:st W=none:=by
   cases hq:st W with
   | none=>rfl
   | some o=>rw[af W o hq] at D;cases D
  have ay:CkI st b2 b4 U W ca 0 (an.put W (some (.box [.raw (.int .i64 0)]))):=⟨by rw[ISt.put_apply,if_neg az];exact f2,by rw[ISt.put_apply,if_neg ak];exact f4,by rw[ISt.put_apply,if_neg aj];exact f5,ISt.put_same ..,yZ4 af ah⟩
  generalize an.put W (some (.box [.raw (.int .i64 0)]))=s2 at ay ⊢;simp only[go_sem,reduceCtorEq];refine RangeL.intro (lkT (t.walk [])) (t.walk []).length (λk s=>CkI st b2 b4 U W ca k s/\k<=300) (λe s=>CkS st b4 U ([],5) e s/\300<t.steps) rfl ?_ ?_ ?_ (av _) ?_ ?_
  ·rintro k a e ⟨p,u,a,y,_,_,_,rfl⟩;rfl
  ·exact⟨ay,by omega⟩
  ·rintro k _ e s ⟨p,z,a,y,J,hz,hp,rfl⟩ hd ⟨⟨c2,c4,c5,c6,A⟩,aq⟩;have O:disj s e:=hd;have r6:=yKc O _ _ c6;have r4:=yKc O _ _ c4;have r5:=yKc O _ _ c5;have e6:e W=none:=ISt.disj.off hd c6;have hw:IntKind.i64.wrap ((k:Int)+1)=((k+1:Nat):Int):=by rw[w64]<;>omega
   have q4:∀o,((join s e).put W o) b4=some (.box [.sl ⟨true,.nil,0⟩ []]):=λo=>by rw[yZ7 ak];exact r4
   have q5:∀o o',(((join s e).put W o).put b4 o') U=some (.box [.raw (.int .i64 0)]):=λo o'=>by rw[yZ7 ab.symm,yZ7 aj];exact r5
   by_cases aV:300<k+1
   ·have hb:decide ((300:Int)<((k+1:Nat):Int))=true:=dEt (by omega);simp only[go_sem,zE,zL,r6,hw,ISt.put_same,hb,q4,q5];refine⟨⟨rfl,⟨⟨true,.nil,0⟩,?_,.inl rfl⟩,ISt.put_same ..,yZ4 (yZ4 (yZ4 (A.trans (yKc O)) ah) aa) E⟩,?_⟩
    ·rw[yZ7 ab,ISt.put_same];rfl
    ·have:=(lGs J).1;rw[zU8] at this;omega
   ·have hb:decide ((300:Int)<((k+1:Nat):Int))=false:=dEf (by omega);simp only[go_sem,zE,zL,r6,hw,ISt.put_same,hb];refine⟨s.put W (some (.box [.raw (.int .i64 ((k+1:Nat):Int))])),⟨⟨by rw[yZ7 az];exact c2,by rw[yZ7 ak];exact c4,by rw[yZ7 aj];exact c5,ISt.put_same ..,yZ4 A ah⟩,by omega⟩,ISt.disj.put hd e6,ISt.put_add e6⟩
  ·rintro s r ⟨⟨c2,c4,c5,c6,A⟩,aq⟩;rw[zU8] at aq;have hq:yXx ca t=yZ0 (yZj ca) (t.walk []):=by
    unfold yXx;rw[hk];simp only[Bool.not_true,bFt,if_false];rw[if_neg (by omega)]
   simp only[go_sem,zE,zA];refine (ao _).mono ?_;rintro _ _ ⟨rfl,rfl⟩;simp only[go_sem,reduceCtorEq];refine RangeL.intro (lkT (t.walk [])) (t.walk []).length (λk s=>(s b2=some (.box [.raw (.int .u8 ca)])/\s b4=some (.box [.sl ⟨true,.nil,0⟩ []])/\s U=some (.box [.raw (.int .i64 0)])/\subSt st s)/\yZ0 (yZj ca) ((t.walk []).take k)=([],0)) (λe s=>CkS st b4 U (yXx ca t) e s) rfl ?_ ?_ ?_ (av _) ?_ ?_
   ·rintro k a e ⟨p,u,a,y,_,_,_,rfl⟩;rfl
   ·exact⟨⟨c2,c4,c5,A⟩,by simp[yZ0]⟩
   ·rintro k _ e s ⟨p,z,a,y,J,hz,hp,rfl⟩ hd ⟨⟨c2,c4,c5,A⟩,hf⟩;have O:disj s e:=hd;have r2:=yKc O _ _ c2;have aI:=xZ8 [] t _ (lMg J);have bo:=ag.2;simp only[List.length_nil] at aI;have aM:=λst=>wG5 gl G T ca z y hz (ag.1 _ (lMg J)) st;have aL:=vXs gl p a e s hp (by omega) O;have au:ivOf (.iv a)=some a:=by rcases hp with⟨t,rfl,_⟩|⟨g,cap,cs,rfl,_⟩<;>rfl
    obtain⟨aC,be,a6,bd,a1,bn,bp,bg,a8,bf,a7,v',ba,bb,aY,n',bc,aZ,rfl⟩:=yW5 hz;simp only[go_sem,zE,zA,r2,au];refine (aM _).mono ?_;rintro _ _ ⟨rfl,rfl⟩;by_cases h0:yZj ca z=0
    ·have d0:decide (((yZj ca z:Nat):Int)=0)=true:=dEt (by omega);simp only[go_sem,d0];refine⟨s,⟨⟨c2,c4,c5,A⟩,?_⟩,hd,rfl⟩;rw[yQ4 J,yJ3,hf];simp[yZ0,h0]
    ·have d0:decide (((yZj ca z:Nat):Int)=0)=false:=dEf (by omega);have hv:yXx ca t=(p,yZj ca z):=by
      rw[hq]
      conv=>lhs;rw[<- List.take_append_drop k (t.walk [])]
      rw[List.drop_eq_getElem_cons (lGs J).1,(lGs J).2,yJ3,hf];simp[yZ0,h0]
     simp only[go_sem,zE,zA,d0,au];refine aL.mono ?_;rintro _ _ ⟨⟨t',rfl,aF⟩,rfl⟩;simp only[go_sem,zE,zL,c4,c5,g5];refine⟨rfl,⟨t',?_,aF⟩,?_,F _ _ _ A⟩
     ·rw[g4,hv]
     ·rw[ISt.put_same,hv]
   ·rintro s r ⟨⟨c2,c4,c5,A⟩,hf⟩;rw[lTl,<- hq] at hf;simp only[go_sem,zE,zL,c4,c5,g5,g4,ISt.put_same];exact yQc (F _ _ _ A) ⟨⟨_,by rw[hf];rfl,.inl rfl⟩,rfl⟩
   ·rintro e s r ⟨rfl,⟨tg,c4,ht⟩,c5,A⟩;simp only[go_sem,zE,c4,c5];exact yQc A ⟨⟨_,rfl,ht⟩,rfl⟩
  ·rintro e s r ⟨⟨rfl,⟨tg,c4,ht⟩,c5,A⟩,hb⟩;have hq:yXx ca t=([],5):=by unfold yXx;rw[hk,if_pos hb];rfl
   simp only[go_sem,zE,c4,c5];exact yQc A ⟨⟨_,by rw[hq],ht⟩,rfl⟩
