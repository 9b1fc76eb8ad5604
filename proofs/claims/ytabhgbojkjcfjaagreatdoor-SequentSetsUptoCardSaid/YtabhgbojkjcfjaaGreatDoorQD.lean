/- Walks: the premises of a step. -/
import Derived.Test.YtabhgbojkjcfjaaGreatDoorQC
import Derived.Test.YtabhgbojkjcfjaaGreatDoorKU
import Derived.Test.YtabhgbojkjcfjaaGreatDoorLE
import Derived.Test.YtabhgbojkjcfjaaGreatDoorKG
import Derived.Test.YtabhgbojkjcfjaaGreatDoorLF
set_option linter.all false
open Nat renaming reduceEqDiff → zE,reduceBEq → zB,reduceAdd → zA,reduceMul → zM,reduceLeDiff → zL
namespace Go.Proofs.Tryz
open Go Go.Iv
set_option maxRecDepth 4000
variable (gl:Nat->Option IV)
theorem zGb:∀ {l:List Fm}{c:Nat},(∀f∈l,f.size<=c)->yQ7 l<=l.length*c
 | [],c,_=>by simp[yQ7]
 | a::l,c,h=>by
  have h1:=h a (by simp);have h2:=zGb (l:=l) λf hf=>h f (by simp[hf]);rw[List.length_cons,Nat.succ_mul];simp only[yQ7];omega
def yXu (ca:Nat)(s m:Sq):Sq:=⟨s.l++m.l,if ca≠2\/m.r.length=0 then s.r++m.r else m.r⟩
def okI (ca:Nat)(s m:Sq):Bool:=decide ((yXu ca s m).l.length<=64)&&decide ((yXu ca s m).r.length<=64)
noncomputable def xK6 (ca:Nat)(s:Sq)(rule:Nat)(main:Fm)(term:Tm)(name:ByteArray):List Sq×Nat :=
 if !yJm ca then ([],2) else if (yXw ca s rule main term name).2≠0 then ([],(yXw ca s rule main term name).2)
 else if (yXw ca s rule main term name).1.all (okI ca s) then ((yXw ca s rule main term name).1.map (yXu ca s),0) else ([],5)
theorem wGd {c:Prop} [Decidable c]{A B:List Sq}(h1:A.length<=2)(h2:B.length<=2):(if c then A else B).length<=2:=by split<;>assumption
theorem xW8 (ca rule:Nat)(main a b:Fm):(addS ca rule main a b).length<=2:=by
 unfold addS
 repeat' apply wGd
 all_goals first|exact Nat.zero_le _|exact Nat.le_refl 2|exact Nat.le_succ 1
theorem wZz {ca rule:Nat}{r:Rw}{main:Fm}{term:Tm}{name:ByteArray}{ad:List Sq}(h:yV1 ca rule r main term name=(ad,0)):ad.length<=2:=by
 unfold yV1 at h;by_cases hc:(!fmB ca main || (decide (r.op≠0)&&decide (main.op≠r.op)))=true
 ·rw[if_pos hc] at h;cases (Prod.mk.inj h).2
 ·rw[if_neg hc] at h;by_cases h0:r.asks=0
  ·simp only[if_pos h0] at h;rw[<- (Prod.mk.inj h).1];exact xW8 ..
  ·simp only[if_neg h0] at h;generalize (if r.asks=2 then Tm.mk true name [] else term)=t at h;by_cases h1:(!t.ok)=true
   ·simp only[if_pos h1] at h;cases (Prod.mk.inj h).2
   ·simp only[if_neg h1] at h;by_cases h2:(yZz ((main.subs[0]?).getD fm0) [(main.nm,t)]).2≠0
    ·simp only[if_pos h2] at h;cases (Prod.mk.inj h).2
    ·simp only[if_neg h2] at h;rw[<- (Prod.mk.inj h).1];exact xW8 ..
theorem xUr {st st' S0:ISt}{tg:Tag}{n s:Nat}(h:own st tg n s S0)(hs:subSt st st'):own st' tg n s S0:=h.mono λg hg _=>hs g _ hg
theorem vK4 (G:Gl gl)(T:Gt gl)(ca:Nat)(s:Sq)(x:IV)(hx:IsSq s x)(hs:yKt s)(rule:Nat)(main:Fm)(y:IV)(hy:IsFm main y)(hm:main.size<=1000000)(term:Tm)(z:IV)(hz:IsTm term z)(ht:term.size<=1000000)(name:ByteArray)(st:ISt) :
  ICall prog gl 41 [.raw (.int .u8 ca),x,.raw (.int .u8 rule),y,z,.raw (.string name)] st (AdRD st (xK6 ca s rule main term name)):=by
 have hstep:=λst=>wVn gl G T ca s x hx hs rule main y hy hm term z hz ht name st;have hkn:=λst=>xJ4 gl ca st;obtain⟨t1,x1,t2,x2,rfl,e1,i1,e2,i2⟩:=hx;obtain⟨o3,n3,t3,x3,t4,x4,rfl⟩:=hy.agg;obtain⟨v,un,tz,xz,rfl⟩:=xGp hz;unfold xK6;refine ICall.intro (c:=cf prog gl [] [(10,[0,1,3,4,6,7,9,2,5,8,10]),(12,[0,1,3,4,2,5,6,7])]) func41 rfl (by show _<=82;simp) (by kernel_rfl) ?_;simp only[go_sem,zE,zA,reduceCtorEq];refine (hkn _).mono ?_;rintro _ st ⟨rfl,rfl⟩;cases hk:yJm ca
 ·simp only[go_sem,zE];exact yQ0 ⟨_,_,rfl,.inl rfl,.inl rfl,rfl,rfl⟩
 simp only[go_sem,zE,zA,zL,reduceCtorEq];refine (hstep _).mono ?_;rintro _ st ⟨tg,ys,rfl,he,hap,hysD,rfl⟩;have hys:=hysD.w;generalize hq:yXw ca s rule main term name=q at hysD hys ⊢;obtain⟨ad,er⟩:=q;simp only at hysD hys ⊢;by_cases h0:er=0
 ·subst h0;obtain⟨hv,r,hr⟩:=xGu hq;have hfit:=xZi hr;have hal2:=wZz hr;have hvl:s.l.length<=64/\s.r.length<=64:=by
   unfold yXr at hv;simp only[bAt,dTe] at hv;exact⟨hv.1.1.1.1.2,hv.1.1.1.2⟩
  have hF1:=λst=>xJg gl s.l t1 x1 e1 i1 (by have:=zGb hs.1;omega) st;have hF2:=λst=>xJg gl s.r t2 x2 e2 i2 (by have:=zGb hs.2;omega) st;simp only[if_false,ne_eq,nTf];simp only[go_sem,zE,show decide (((0:Nat):Int)=0)=true from rfl,hys.len];intro hal;refine LoopC.ctr ad.length (λk fr st' ds=>(ad.take k).all (okI ca s)=true/\(∃tg' zs,fr 16=.iv (.sl tg' zs)/\IsSqsD ((ad.take k).map (yXu ca s)) zs/\appT k tg'/\own st' tg' k 2 st/\subSt st st')/\fr 0=.iv (.raw (.int .u8 ca))/\fr 7=.box [.sl t1 x1,.sl t2 x2] /\
   fr 36=.iv (.sl tg ys)/\fr 37=.iv (.raw (.int .i64 ad.length))/\fr 38=.iv (.raw (.int .i64 k))/\ds=[]) ?_ ?_ ?_
  ·simp only[go_sem,zE,reduceCtorEq];exact⟨⟨_,_,rfl,rfl,.inl rfl,.inl ⟨rfl,rfl⟩,subSt.refl _⟩,rfl⟩
  ·rintro k fr st1 _ hlt ⟨hall,⟨tgo,zs,f16,hzs,hapo,hown,hsub⟩,f0,f7,f36,f37,f38,rfl⟩;obtain⟨a,ha⟩:=yQ2 hlt;obtain⟨w,hkw,hw⟩:=hys.get ha;have hza:=hfit a (lMg ha);obtain⟨_,e1',hwD⟩:=hysD.mem hkw;obtain rfl:=Option.some.inj (ha.symm.trans e1');obtain⟨t5,x5,t6,x6,rfl,k5,a5,j5D,k6,a6,j6D⟩:=hwD;have j5:=j5D.1;have j6:=j6D.1;simp only[go_sem,zE,zB,zA,zL,f7,f36,f37,f38,lt_i hlt,yQ1 he,iNn,hkw,fits];refine (hF1 _).mono ?_;rintro _ st2 ⟨t7,y7,rfl,k7,a7,hy7,hown7,hsub7⟩;simp only[go_sem,zE,zA];refine yGq hown7 hy7.len j5.len hsub7 rfl (List.all_eq_true.2 (yJ8 j5)) (by show _*72<=_;have:=hza.2.1;omega) (by have:=hza.2.1;omega) λt8 st3 hown8 hsub8 _ a8=>?_;obtain⟨L,hL⟩:∃L,L=y7++x5:=⟨_,rfl⟩
   have hLD:IsFmsD (yXu ca s a).l L:=hL▸hy7.append j5D;have hLs:=hLD.1;have aL:appT (yXu ca s a).l.length t8:=(a8 a7.1).to (by show (s.l++a.l).length=_;rw[lLa]);have tL:=hown8.es;rw[<- hL];by_cases hca:ca=2
   ·have dca:decide ((ca:Int)=2)=true:=dEt (by omega);by_cases hr0:a.r.length=0
    ·simp only[go_sem,zE,zA,zL,reduceCtorEq,f0,f7,fits,dca,j6.len,hr0,show decide (((0:Nat):Int)=0)=true from rfl];refine (hF2 _).mono ?_;rintro _ st4 ⟨t9,y9,rfl,k9,a9,hy9,hown9,hsub9⟩;simp only[go_sem,zE,zA];refine yGq hown9 hy9.len j6.len hsub9 rfl (List.all_eq_true.2 (yJ8 j6)) (by show _*72<=_;have:=hza.2.2;omega) (by have:=hza.2.2;omega) λt10 st5 hown10 hsub10 _ a10=>?_;obtain⟨R,hR⟩:∃R,R=y9++x6:=⟨_,rfl⟩
     have hRD:IsFmsD (yXu ca s a).r R:=by rw[hR];unfold yXu;rw[if_pos (by omega)];exact hy9.append j6D
     have hRs:=hRD.1;have aR:appT (yXu ca s a).r.length t10:=(a10 a9.1).to (by unfold yXu;rw[if_pos (by omega),lLa]);rw[<- hR];have hown':=xUr hown (hsub8.trans hsub10);have hallA:∀(h:okI ca s a=false),ad.all (okI ca s)=false:=λh=>List.all_eq_false.2 ⟨a,lMg ha,by rw[h];simp⟩;by_cases hl64:(yXu ca s a).l.length<=64
     ·have dl:decide ((64:Int)<(((yXu ca s a).l.length:Nat):Int))=false:=dEf (by omega);by_cases hr64:(yXu ca s a).r.length<=64
      ·have dr:decide ((64:Int)<(((yXu ca s a).r.length:Nat):Int))=false:=dEf (by omega);have hok:okI ca s a=true:=by unfold okI;rw[dEt hl64,dEt hr64];rfl
       simp only[go_sem,zE,zA,zM,zL,f16,fits,hLs.len,hRs.len,dl,dr,yQ4];intros;refine yXm hown' (by rw[hzs.w.len,List.length_map,List.length_take];omega) (hsub.trans (hsub8.trans hsub10)) rfl (by simp[fits,IV.one]) (by simp only;omega) (by omega) λtg2 st6 hown2 hsub4 _ hap2=>?_;simp only[go_sem,zE,reduceCtorEq,f0,f7,f36,f37,f38,yQa hlt (show ad.length<=281474976710656 by omega)];refine⟨by rw[yQ5 ha,List.all_append,hall];simp[hok],tg2,_,rfl,?_,hap2,hown2,hsub4⟩;rw[yQ5 ha,List.map_append];exact hzs.append ⟨_,_,rfl,⟨_,_,_,_,rfl,tL,aL,hLD,hown10.es,aR,hRD⟩,rfl⟩
      ·have dr:decide ((64:Int)<(((yXu ca s a).r.length:Nat):Int))=true:=dEt (by omega);simp only[go_sem,zE,zA,zL,hLs.len,hRs.len,dl,dr];intros;refine yQ9 (hsub.trans (hsub8.trans hsub10)) ?_;rw[hallA (by unfold okI;rw[dEf hr64,Bool.and_false])];exact⟨_,_,rfl,.inl rfl,.inl rfl,rfl,rfl⟩
     ·have dl:decide ((64:Int)<(((yXu ca s a).l.length:Nat):Int))=true:=dEt (by omega);simp only[go_sem,zE,zA,zL,hLs.len,dl];intros;refine yQ9 (hsub.trans (hsub8.trans hsub10)) ?_;rw[hallA (by unfold okI;rw[dEf hl64,Bool.false_and])];exact⟨_,_,rfl,.inl rfl,.inl rfl,rfl,rfl⟩
    ·simp only[go_sem,zE,zA,zL,reduceCtorEq,f0,fits,dca,j6.len,show decide (((a.r.length:Nat):Int)=0)=false from dEf (by omega),hLs.len];intros;have hRD:IsFmsD (yXu ca s a).r x6:=by unfold yXu;rw[if_neg (by omega)];exact j6D
     have hRs:=hRD.1;have aR:appT (yXu ca s a).r.length t6:=a6.to (by unfold yXu;rw[if_neg (by omega)]);have hown':=xUr hown hsub8;have hallA:∀(h:okI ca s a=false),ad.all (okI ca s)=false:=λh=>List.all_eq_false.2 ⟨a,lMg ha,by rw[h];simp⟩;by_cases hl64:(yXu ca s a).l.length<=64
     ·have dl:decide ((64:Int)<(((yXu ca s a).l.length:Nat):Int))=false:=dEf (by omega);by_cases hr64:(yXu ca s a).r.length<=64
      ·have dr:decide ((64:Int)<(((yXu ca s a).r.length:Nat):Int))=false:=dEf (by omega);have hok:okI ca s a=true:=by unfold okI;rw[dEt hl64,dEt hr64];rfl
       simp only[go_sem,zE,zA,zM,zL,f16,fits,hRs.len,dl,dr,yQ4];intros;refine yXm hown' (by rw[hzs.w.len,List.length_map,List.length_take];omega) (hsub.trans hsub8) rfl (by simp[fits,IV.one]) (by simp only;omega) (by omega) λtg2 st6 hown2 hsub4 _ hap2=>?_;simp only[go_sem,zE,reduceCtorEq,f0,f7,f36,f37,f38,yQa hlt (show ad.length<=281474976710656 by omega)];refine⟨by rw[yQ5 ha,List.all_append,hall];simp[hok],tg2,_,rfl,?_,hap2,hown2,hsub4⟩;rw[yQ5 ha,List.map_append];exact hzs.append ⟨_,_,rfl,⟨_,_,_,_,rfl,tL,aL,hLD,k6,aR,hRD⟩,rfl⟩
      ·have dr:decide ((64:Int)<(((yXu ca s a).r.length:Nat):Int))=true:=dEt (by omega);simp only[go_sem,zE,hRs.len,dl,dr];intros;refine yQ9 (hsub.trans hsub8) ?_;rw[hallA (by unfold okI;rw[dEf hr64,Bool.and_false])];exact⟨_,_,rfl,.inl rfl,.inl rfl,rfl,rfl⟩
     ·have dl:decide ((64:Int)<(((yXu ca s a).l.length:Nat):Int))=true:=dEt (by omega);simp only[go_sem,zE,dl];intros;refine yQ9 (hsub.trans hsub8) ?_;rw[hallA (by unfold okI;rw[dEf hl64,Bool.false_and])];exact⟨_,_,rfl,.inl rfl,.inl rfl,rfl,rfl⟩
   ·have dca:decide ((ca:Int)=2)=false:=dEf (by omega);simp only[go_sem,zE,zA,zL,reduceCtorEq,f0,f7,fits,dca];refine (hF2 _).mono ?_;rintro _ st4 ⟨t9,y9,rfl,k9,a9,hy9,hown9,hsub9⟩;simp only[go_sem,zE,zA];refine yGq hown9 hy9.len j6.len hsub9 rfl (List.all_eq_true.2 (yJ8 j6)) (by show _*72<=_;have:=hza.2.2;omega) (by have:=hza.2.2;omega) λt10 st5 hown10 hsub10 _ a10=>?_;obtain⟨R,hR⟩:∃R,R=y9++x6:=⟨_,rfl⟩
    have hRD:IsFmsD (yXu ca s a).r R:=by rw[hR];unfold yXu;rw[if_pos (by omega)];exact hy9.append j6D
    have hRs:=hRD.1;have aR:appT (yXu ca s a).r.length t10:=(a10 a9.1).to (by unfold yXu;rw[if_pos (by omega),lLa]);rw[<- hR];have hown':=xUr hown (hsub8.trans hsub10);have hallA:∀(h:okI ca s a=false),ad.all (okI ca s)=false:=λh=>List.all_eq_false.2 ⟨a,lMg ha,by rw[h];simp⟩;by_cases hl64:(yXu ca s a).l.length<=64
    ·have dl:decide ((64:Int)<(((yXu ca s a).l.length:Nat):Int))=false:=dEf (by omega);by_cases hr64:(yXu ca s a).r.length<=64
     ·have dr:decide ((64:Int)<(((yXu ca s a).r.length:Nat):Int))=false:=dEf (by omega);have hok:okI ca s a=true:=by unfold okI;rw[dEt hl64,dEt hr64];rfl
      simp only[go_sem,zE,zA,zM,zL,f16,fits,hLs.len,hRs.len,dl,dr,yQ4];intros;refine yXm hown' (by rw[hzs.w.len,List.length_map,List.length_take];omega) (hsub.trans (hsub8.trans hsub10)) rfl (by simp[fits,IV.one]) (by simp only;omega) (by omega) λtg2 st6 hown2 hsub4 _ hap2=>?_;simp only[go_sem,zE,reduceCtorEq,f0,f7,f36,f37,f38,yQa hlt (show ad.length<=281474976710656 by omega)];refine⟨by rw[yQ5 ha,List.all_append,hall];simp[hok],tg2,_,rfl,?_,hap2,hown2,hsub4⟩;rw[yQ5 ha,List.map_append];exact hzs.append ⟨_,_,rfl,⟨_,_,_,_,rfl,tL,aL,hLD,hown10.es,aR,hRD⟩,rfl⟩
     ·have dr:decide ((64:Int)<(((yXu ca s a).r.length:Nat):Int))=true:=dEt (by omega);simp only[go_sem,zE,zA,zL,hLs.len,hRs.len,dl,dr];intros;refine yQ9 (hsub.trans (hsub8.trans hsub10)) ?_;rw[hallA (by unfold okI;rw[dEf hr64,Bool.and_false])];exact⟨_,_,rfl,.inl rfl,.inl rfl,rfl,rfl⟩
    ·have dl:decide ((64:Int)<(((yXu ca s a).l.length:Nat):Int))=true:=dEt (by omega);simp only[go_sem,zE,zA,zL,hLs.len,dl];intros;refine yQ9 (hsub.trans (hsub8.trans hsub10)) ?_;rw[hallA (by unfold okI;rw[dEf hl64,Bool.false_and])];exact⟨_,_,rfl,.inl rfl,.inl rfl,rfl,rfl⟩
  ·rintro fr st1 _ ⟨hall,⟨tgo,zs,f16,hzs,hapo,hown,hsub⟩,f0,f7,f36,f37,f38,rfl⟩;rw[lTl] at hall hzs;simp only[go_sem,zE,f16,f37,f38,yQk (nLi _)];rw[if_pos hall];exact yQ9 hsub ⟨_,_,rfl,hown.es,hapo.to (by rw[List.length_map]),hzs,rfl⟩
 ·have d0:decide ((er:Int)=0)=false:=dEf (by omega);simp only[go_sem,zE,d0];rw[if_pos h0];exact yQ0 ⟨_,_,rfl,.inl rfl,.inl rfl,rfl,rfl⟩
theorem wWn (G:Gl gl)(T:Gt gl)(ca:Nat)(s:Sq)(x:IV)(hx:IsSq s x)(hs:yKt s)(rule:Nat)(main:Fm)(y:IV)(hy:IsFm main y)(hm:main.size<=1000000)(term:Tm)(z:IV)(hz:IsTm term z)(ht:term.size<=1000000)(name:ByteArray)(st:ISt) :
  ICall prog gl 41 [.raw (.int .u8 ca),x,.raw (.int .u8 rule),y,z,.raw (.string name)] st (AdR st (xK6 ca s rule main term name)) :=
 (vK4 gl G T ca s x hx hs rule main y hy hm term z hz ht name st).mono AdRD.w
end Go.Proofs.Tryz
namespace Go.Proofs.Tryz
open Go Go.Iv
end Go.Proofs.Tryz
namespace Go.Proofs.Tryz
open Go Go.Iv
theorem wKe {a b:Fm}:eqF a b=true↔a.op=b.op/\a.right=true/\b.right=true/\dbF [] a=dbF [] b:=by
 unfold eqF yK6;simp only[bAt,dTe,yQl,and_assoc]
theorem xVy {a:Fm}(h:a.right=true):eqF a a=true:=wKe.2 ⟨rfl,h,h,rfl⟩
theorem xQs {l:List Fm}{f:Fm}:hasF l f=true↔∃g∈l,eqF f g=true:=by simp[hasF]
theorem wZy {l m:List Fm}:allF l m=true↔∀f∈l,hasF m f=true:=by simp[allF]
end Go.Proofs.Tryz
namespace Go.Proofs.Tryz
open Go Go.Iv
section
variable {ca rule:Nat}{s:Sq}{f:Fm}{u:Tm}{n:ByteArray}{sub:List Tr}(h:(yJp ca (.mk rule s f u n sub)).2=0)(h1:s.l.length<64)(h2:s.r.length<64)
include h h1 h2
end
end Go.Proofs.Tryz
namespace Go.Proofs.Tryz
open Go Go.Iv
section
variable {ca rule:Nat}{s:Sq}{f:Fm}{u:Tm}{n:ByteArray}{sub:List Tr}(h:(yJp ca (.mk rule s f u n sub)).2=0)
include h
end
end Go.Proofs.Tryz
namespace Go.Proofs.Tryz
open Go Go.Iv
end Go.Proofs.Tryz
namespace Go.Proofs.Tryz
open Go Go.Iv
end Go.Proofs.Tryz
namespace Go.Proofs.Tryz
open Go Go.Iv
set_option maxRecDepth 4000
variable (gl:Nat->Option IV)
mutual
def opsR (ca:Nat):Fm->Bool
 | .mk op _ us sub=>(!decide (9<op)&&(!decide (7<op) || decide (ca=3))&&(!decide (op=1) || !decide (0<us.length) || decide (ca=3)))&&yUc ca sub
def yUc (ca:Nat):List Fm->Bool
 | []=>true
 | a::l=>opsR ca a&&yUc ca l
end
theorem xY7 {op:Nat}{n:ByteArray}{a b:Nat}(h:yZ3 op n a b=true):1<=op/\(op≠1->a=0):=by
 unfold yZ3 at h;split at h
 all_goals (first|(simp only[bAt,dTe] at h;refine⟨by decide,λh1=>?_⟩;first|exact absurd rfl h1|exact h.1.2)|cases h)
mutual
theorem xUu (ca:Nat):∀f:Fm,f.ok=true->opsR ca f=opsB ca f
 | .mk op n us sub,h=>by
  simp only[Fm.ok,bAt] at h;obtain⟨h1,h2⟩:=xY7 h.1.1;have ih:=xKy ca sub h.2;simp only[opsR,opsB,ih];congr 1;have hus:us.isEmpty=decide (us.length=0):=by cases us<;>simp
  rw[hus,Bool.eq_iff_iff];simp only[bAt,Bool.or_eq_true,Bool.not_eq_true',dTe,decide_eq_false_iff_not];by_cases hc:ca=3
  ·simp only[hc,if_true,or_true,and_true,true_or];omega
  ·simp only[hc,if_false,or_false,false_or];by_cases ho:op=1
   ·simp only[ho,nTf,false_or];omega
   ·have:=h2 ho;simp only[ho,nFt,true_or,and_true,this];omega
theorem xKy (ca:Nat):∀l:List Fm,yKn l=true->yUc ca l=yY9 ca l
 | [],_=>rfl
 | a::l,h=>by
  simp only[yKn,bAt] at h;simp only[yUc,yY9,xUu ca a h.1,xKy ca l h.2]
end
theorem zZu (ca:Nat):∀l m:List Fm,yUc ca (l++m)=(yUc ca l&&yUc ca m)
 | [],m=>by simp[yUc]
 | a::l,m=>by simp only[List.cons_append,yUc,zZu ca l m,Bool.and_assoc]
theorem xY6 {ca:Nat}{l:List Fm}{k:Nat}{a:Fm}(h:l[k]?=some a):yUc ca (l.take (k+1))=(yUc ca (l.take k)&&opsR ca a):=by
 rw[yQ5 h,zZu];simp[yUc]
theorem wJk {ca:Nat}{l:List Fm}{a:Fm}(h:a∈l)(ha:opsR ca a=false):yUc ca l=false:=by
 induction l with
 | nil=>cases h
 | cons b l ih =>
  simp only[yUc];rcases List.mem_cons.1 h with rfl|h
  ·rw[ha];rfl
  ·rw[ih h,Bool.and_false]
def roC (ca:Nat)(f:Fm):Prop:=∀(x:IV) (_:IsFm f x) (_:f.size<=1099511627776) (st:ISt),ICall prog gl 112 [.raw (.int .u8 ca),x] st (λr st'=>r=.raw (.bool (opsR ca f))/\st'=st)
theorem wJj (ca:Nat)(o:Nat)(n:ByteArray)(us:List Tm)(sub:List Fm)(IH:∀a∈sub,roC gl ca a):roC gl ca (.mk o n us sub):=by
 intro x hx hs st;obtain⟨t1,x1,t2,x2,rfl,ho,e1,i1,e2,i2⟩:=hx.mk;simp only[Fm.size] at hs;have hlsz:=yQw sub;have d9:decide ((9:Int)<((o:Nat):Int))=decide (9<o):=by rw[decide_eq_decide];omega
 have d7:decide ((7:Int)<((o:Nat):Int))=decide (7<o):=by rw[decide_eq_decide];omega
 have d1:decide (((o:Nat):Int)=1)=decide (o=1):=by rw[decide_eq_decide];omega
 have d3:decide (((ca:Nat):Int)=3)=decide (ca=3):=by rw[decide_eq_decide];omega
 have du:decide ((0:Int)<((us.length:Nat):Int))=decide (0<us.length):=by rw[decide_eq_decide];omega
 refine iI func112 ?_;cases q9:decide (9<o)
 case true =>
  simp only[go_sem,zE,zA,d9,q9];intros;exact yQ0 ⟨by simp only[opsR,q9,Bool.not_true,Bool.false_and],rfl⟩
 cases q7:decide (7<o)<;>cases q3:decide (ca=3)<;>cases q1:decide (o=1)<;>cases qu:decide (0<us.length)
 all_goals
  first
   | (simp only[go_sem,zE,zA,reduceCtorEq,i1.len,d9,d7,d1,d3,du,q9,q7,q3,q1,qu]
      intros;refine LoopC.ctr sub.length (λk fr st' ds=>yUc ca (sub.take k)=true/\fr 0=.iv (.raw (.int .u8 ca))/\fr 3=.box [.raw (.int .u8 o),.raw (.string n),.sl t1 x1,.sl t2 x2]/\fr 5=.iv (.raw (.int .i64 k))/\st'=st/\ds=[]) ?_ ?_ ?_
      ·simp only[go_sem,zE,reduceCtorEq];exact⟨rfl,rfl⟩
      ·rintro k fr st1 _ hlt ⟨hk,f0,f3,f5,rfl,rfl⟩;obtain⟨a,ha⟩:=yQ2 hlt;obtain⟨z,hkz,hzz⟩:=i2.get ha;obtain⟨h1,h2⟩:=yQr ha;have hcall:=λst=>IH a (lMg ha) z hzz (by omega) st;obtain⟨o5,n5,t5,x5,t6,x6,rfl⟩:=hzz.agg;simp only[go_sem,zE,zB,zA,reduceCtorEq,f0,f3,f5,i2.len,lt_i hlt,yQ1 e2,iNn,hkz,fits];intro _;refine (hcall _).mono ?_;rintro _ st2 ⟨rfl,rfl⟩;cases hra:opsR ca a
       ·simp only[go_sem];exact yQ0 ⟨by simp only[opsR,wJk (lMg ha) hra,Bool.and_false],rfl⟩
       ·simp only[go_sem,zE,reduceCtorEq,f0,f3,f5,yQa hlt (show sub.length<=281474976710656 by omega)];rw[xY6 ha,hk,hra];rfl
      ·rintro fr st1 _ ⟨hk,f0,f3,f5,rfl,rfl⟩;rw[lTl] at hk;simp only[go_sem,zE,f3,f5,i2.len,yQk (nLi _)];intro _;exact yQ0 ⟨by unfold opsR;rw[hk,q9,q7,q3,q1,qu];rfl,rfl⟩
      done)
   | (simp only[go_sem,zE,zA,reduceCtorEq,i1.len,d9,d7,d1,d3,du,q9,q7,q3,q1,qu]
      intros;exact yQ0 ⟨by unfold opsR;rw[q9,q7,q3,q1,qu];rfl,rfl⟩)
theorem xUt (ca:Nat):∀(k:Nat) (f:Fm),SizeOf.sizeOf f<k->roC gl ca f
 | 0,f,h=>by omega
 | k+1,.mk o n us sub,h=>wJj gl ca o n us sub (λa ha=>xUt ca k a (by
   have:=lSm ha;simp only[Fm.mk.sizeOf_spec] at h;omega))
theorem wYt (ca:Nat)(f:Fm)(x:IV)(hx:IsFm f x)(hs:f.size<=1099511627776)(st:ISt):ICall prog gl 65 [.raw (.int .u8 ca),x] st (λr st'=>r=.raw (.bool (fmB ca f))/\st'=st):=by
 have h1:=λst=>zXf gl f x hx hs st;have h2:=λst=>xUt gl ca _ f (Nat.lt_succ_self _) x hx hs st;unfold fmB;obtain⟨o5,n5,t5,x5,t6,x6,rfl⟩:=hx.agg;refine iI func65 ?_;simp only[go_sem,zE,zA,zL];refine (h1 _).mono ?_;rintro _ st ⟨rfl,rfl⟩;cases hr:f.right
 ·simp only[go_sem,zE];exact yQ0 ⟨rfl,rfl⟩
 simp only[go_sem,zE,zA,zL,reduceCtorEq];refine (h2 _).mono ?_;rintro _ st ⟨rfl,rfl⟩;simp only[go_sem,zE];exact yQ0 ⟨by rw[xUu ca f (yJr hr).1],rfl⟩
theorem wKz {a b:Fm}(h:yK6 a b=true):a.op=b.op:=by
 unfold yK6 at h;simp only[bAt] at h;have:=yQl.1 h.2;obtain⟨o,n,us,sub⟩:=a;obtain⟨o',n',us',sub'⟩:=b;simp only[dbF] at this;split at this<;>split at this<;>simp only[NlF.mk.injEq] at this<;>exact this.1
theorem xZ0 (a b:Fm):eqF a b=yK6 b a:=by
 unfold eqF;rw[Bool.eq_iff_iff,bAt,dTe];have hs:∀x y:Fm,yK6 x y=true->yK6 y x=true:=λx y h=>by
  unfold yK6 at h ⊢;simp only[bAt] at h ⊢;exact⟨⟨h.1.2,h.1.1⟩,yQl.2 (yQl.1 h.2).symm⟩
 exact⟨λh=>hs _ _ h.2,λh=>⟨(wKz h).symm,hs _ _ h⟩⟩
theorem xUm (G:Gl gl)(l:List Fm)(tg:Tag)(xs:List IV)(htg:okEs tg 4)(hxs:IsFms l xs)(f:Fm)(y:IV)(hy:IsFm f y)(hl:fitL l)(hf:f.size<=1000000)(hlen:l.length<=1099511627776)(st:ISt) :
  ICall prog gl 51 [.sl tg xs,y] st (λr st'=>r=.raw (.bool (hasF l f))/\st'=st):=by
 have hA:=λg z hz (hg:g.size<=1000000) st=>xKs gl g f z y hz hy (by omega) (by omega) st;obtain⟨o9,n9,t9,x9,t8,x8,rfl⟩:=hy.agg;refine iI func51 ?_;simp only[go_sem];refine LoopC.ctr l.length (λk fr st' ds=>hasF (l.take k) f=false/\fr 0=.iv (.sl tg xs)/\fr 3=.box [.raw (.int .u8 o9),.raw (.string n9),.sl t9 x9,.sl t8 x8]/\fr 5=.iv (.raw (.int .i64 k))/\st'=st/\ds=[]) ?_ ?_ ?_
 ·simp only[go_sem,zE,reduceCtorEq];exact⟨rfl,rfl⟩
 ·rintro k fr st1 _ hlt ⟨hk,f0,f3,f5,rfl,rfl⟩;obtain⟨a,ha⟩:=yQ2 hlt;have ham:=lMg ha;obtain⟨z,hkz,hzz⟩:=hxs.get ha;have hcall:=λst=>hA a z hzz (hl a ham) st;obtain⟨o5,n5,t5,x5,t6,x6,rfl⟩:=hzz.agg;simp only[go_sem,zE,zB,zA,zL,reduceCtorEq,f0,f3,f5,hxs.len,lt_i hlt,yQ1 htg,iNn,hkz,fits];intro _;refine (hcall _).mono ?_;rintro _ st2 ⟨rfl,rfl⟩;rw[<- xZ0];cases hra:eqF f a
  ·simp only[go_sem,zE,reduceCtorEq,f0,f3,f5,yQa hlt (show l.length<=281474976710656 by omega)];unfold hasF at hk ⊢;rw[yQ5 ha,List.any_append,hk];simp[hra]
  ·simp only[go_sem];refine yQ0 ⟨?_,rfl⟩;have:hasF l f=true:=xQs.2 ⟨a,ham,hra⟩;rw[this]
 ·rintro fr st1 _ ⟨hk,f0,f3,f5,rfl,rfl⟩;rw[lTl] at hk;simp only[go_sem,zE,reduceCtorEq,f0,f5,hxs.len,yQk (nLi _)];intro _;exact yQ0 ⟨by rw[hk],rfl⟩
theorem vZc (G:Gl gl)(l a b:List Fm)(tl ta tb:Tag)(xl xa xb:List IV)(e1:okEs tl 4)(i1:IsFms l xl)(e2:okEs ta 4)(i2:IsFms a xa)(e3:okEs tb 4)(i3:IsFms b xb)(hl:fitL l)(ha:fitL a)(hb:fitL b)
  (hlen:l.length<=1099511627776/\a.length<=1099511627776/\b.length<=1099511627776) (st:ISt) :
  ICall prog gl 96 [.sl tl xl,.sl ta xa,.sl tb xb] st (λr st'=>r=.raw (.bool (allF l (a++b)))/\st'=st):=by
 have hHa:=λf y hy hf st=>xUm gl G a ta xa e2 i2 f y hy ha hf hlen.2.1 st;have hHb:=λf y hy hf st=>xUm gl G b tb xb e3 i3 f y hy hb hf hlen.2.2 st;have happ:∀f,hasF (a++b) f=(hasF a f || hasF b f):=λf=>by unfold hasF;rw[List.any_append]
 refine iI func96 ?_;simp only[go_sem];refine LoopC.ctr l.length (λk fr st' ds=>allF (l.take k) (a++b)=true/\fr 0=.iv (.sl tl xl)/\fr 1=.iv (.sl ta xa)/\fr 2=.iv (.sl tb xb)/\fr 7=.iv (.raw (.int .i64 k))/\st'=st/\ds=[]) ?_ ?_ ?_
 ·simp only[go_sem,zE,reduceCtorEq];exact⟨rfl,rfl⟩
 ·rintro k fr st1 _ hlt ⟨hk,f0,f1,f2,f7,rfl,rfl⟩;obtain⟨q,hq⟩:=yQ2 hlt;have hqm:=lMg hq;obtain⟨z,hkz,hzz⟩:=i1.get hq;have hca:=λst=>hHa q z hzz (hl q hqm) st;have hcb:=λst=>hHb q z hzz (hl q hqm) st;obtain⟨o5,n5,t5,x5,t6,x6,rfl⟩:=hzz.agg;have hno:(hasF a q || hasF b q)=false->allF l (a++b)=false:=λh=>by
   cases hh:allF l (a++b)
   ·rfl
   ·have:=wZy.1 hh q hqm;rw[happ,h] at this;cases this
  have hyes:(hasF a q || hasF b q)=true->allF (l.take (k+1)) (a++b)=true:=λh=>by
   rw[<- happ] at h;unfold allF at hk ⊢;rw[yQ5 hq,List.all_append,hk];simp[h]
  simp only[go_sem,zE,zB,zA,reduceCtorEq,f0,f1,f7,i1.len,lt_i hlt,yQ1 e1,iNn,hkz,fits];intro _;refine (hca _).mono ?_;rintro _ st2 ⟨rfl,rfl⟩;cases hra:hasF a q
  ·rw[hra] at hno hyes;simp only[go_sem,zE,zB,zA,reduceCtorEq,f0,f2,f7,yQ1 e1,iNn,hkz,fits];intros;refine (hcb _).mono ?_;rintro _ st2 ⟨rfl,rfl⟩;cases hrb:hasF b q
   ·rw[hrb] at hno;simp only[go_sem,zE];exact yQ0 ⟨by rw[hno rfl],rfl⟩
   ·rw[hrb] at hyes;simp only[go_sem,zE,reduceCtorEq,f0,f1,f2,f7,yQa hlt (show l.length<=281474976710656 by omega)];exact hyes rfl
  ·rw[hra] at hyes;simp only[go_sem,zE,reduceCtorEq,f0,f1,f2,f7,yQa hlt (show l.length<=281474976710656 by omega)];exact hyes rfl
 ·rintro fr st1 _ ⟨hk,f0,f1,f2,f7,rfl,rfl⟩;rw[lTl] at hk;simp only[go_sem,zE,reduceCtorEq,f0,f7,i1.len,yQk (nLi _)];intro _;exact yQ0 ⟨by rw[hk],rfl⟩
end Go.Proofs.Tryz
namespace Go.Proofs.Tryz
open Go Go.Iv
section
variable (nm:ByteArray)(g:Fm)
end
section
variable {nm:ByteArray}{g:Fm}{ca:Nat}
end
section
variable {nm:ByteArray}{g:Fm}{ca:Nat}
end
end Go.Proofs.Tryz
namespace Go.Proofs.Tryz
open Go Go.Iv
set_option maxRecDepth 4000
variable (gl:Nat->Option IV)
theorem xYs (r:List Fm):zZa r=r.all (yK6 ((r[0]?).getD fm0)):=by
 cases r with
 | nil=>rfl
 | cons a l =>
  show ((a::l).all λf=>eqF f a)=(a::l).all (yK6 a);congr 1;funext f;exact xZ0 f a
def qV (ca:Nat)(hd f:Fm):Prop:=fmB ca f=true/\(ca=2->yK6 hd f=true)
theorem zVp {ca:Nat}{s:Sq}:yXr ca s=true↔yJm ca=true/\s.l.length<=64/\s.r.length<=64/\(∀f∈s.l,fmB ca f=true)/\∀f∈s.r,qV ca ((s.r[0]?).getD fm0) f:=by
 unfold yXr qV;rw[xYs];simp only[bAt,Bool.or_eq_true,dTe,List.all_eq_true];constructor
 ·rintro⟨⟨⟨⟨⟨h1,h2⟩,h3⟩,h4⟩,h5⟩,h6⟩;exact⟨h1,h2,h3,h4,λf hf=>⟨h5 f hf,λhc=>h6.resolve_left (λh=>h hc) f hf⟩⟩
 ·rintro⟨h1,h2,h3,h4,h5⟩;refine⟨⟨⟨⟨⟨h1,h2⟩,h3⟩,h4⟩,λf hf=>(h5 f hf).1⟩,?_⟩;by_cases hc:ca=2
  ·exact .inr λf hf=>(h5 f hf).2 hc
  ·exact .inl hc
theorem yV3 {ca:Nat}{s:Sq}(h:¬ (yJm ca=true/\s.l.length<=64/\s.r.length<=64/\(∀f∈s.l,fmB ca f=true)/\∀f∈s.r,qV ca ((s.r[0]?).getD fm0) f)):yXr ca s=false:=by
 cases hv:yXr ca s
 ·rfl
 ·exact absurd (zVp.1 hv) h
set_option maxHeartbeats 1000000 in
theorem wJb (ca:Nat)(s:Sq)(x:IV)(hx:IsSq s x)(hs:yKt s)(st:ISt):ICall prog gl 49 [.raw (.int .u8 ca),x] st (λr st'=>r=.raw (.bool (yXr ca s))/\st'=st):=by
 have hF:=λf z hz (hf:f.size<=1000000) st=>wYt gl ca f z hz (by omega) st;have hAl:=λf g z w hz hw (hf:f.size<=1000000) (hg:g.size<=1000000) st=>xKs gl f g z w hz hw hf hg st;obtain⟨l,r⟩:=s;obtain⟨t1,x1,t2,x2,rfl,e1,i1,e2,i2⟩:=hx;simp only[yKt] at hs i1 i2;obtain⟨hl,hr⟩:=hs;have k1:decide (((ca:Nat):Int)<1)=decide (ca<1):=by rw[decide_eq_decide];omega
 have k2:decide ((3:Int)<((ca:Nat):Int))=decide (3<ca):=by rw[decide_eq_decide];omega
 have k3:decide ((64:Int)<((l.length:Nat):Int))=decide (64<l.length):=by rw[decide_eq_decide];omega
 have k4:decide ((64:Int)<((r.length:Nat):Int))=decide (64<r.length):=by rw[decide_eq_decide];omega
 have k5:decide (((ca:Nat):Int)=2)=decide (ca=2):=by rw[decide_eq_decide];omega
 have hkn:∀h:ca<1\/3<ca,¬ yJm ca=true:=λh hk=>by
  simp only[yJm,bAt,dTe] at hk;omega
 refine iI func49 ?_;cases q1:decide (ca<1)
 case true =>
  simp only[go_sem,zE,reduceCtorEq,k1,q1];intros;exact yQ0 ⟨by rw[yV3 λh=>hkn (.inl (of_decide_eq_true q1)) h.1],rfl⟩
 cases q2:decide (3<ca)
 case true =>
  simp only[go_sem,zE,reduceCtorEq,k1,k2,q1,q2];intros;exact yQ0 ⟨by rw[yV3 λh=>hkn (.inr (of_decide_eq_true q2)) h.1],rfl⟩
 cases q3:decide (64<l.length)
 case true =>
  simp only[go_sem,zE,reduceCtorEq,k1,k2,k3,q1,q2,q3,i1.len];intros;exact yQ0 ⟨by rw[yV3 λh=>by have:=h.2.1;have:=of_decide_eq_true q3;simp only at *;omega],rfl⟩
 cases q4:decide (64<r.length)
 case true =>
  simp only[go_sem,zE,reduceCtorEq,k1,k2,k3,k4,q1,q2,q3,q4,i1.len,i2.len];intros;exact yQ0 ⟨by rw[yV3 λh=>by have:=h.2.2.1;have:=of_decide_eq_true q4;simp only at *;omega],rfl⟩
 have hk:yJm ca=true:=by
  have:=of_decide_eq_false q1;have:=of_decide_eq_false q2;simp only[yJm,bAt,dTe];omega
 have hll:l.length<=64:=by have:=of_decide_eq_false q3;omega
 have hlr:r.length<=64:=by have:=of_decide_eq_false q4;omega
 simp only[go_sem,zE,reduceCtorEq,k1,k2,k3,k4,q1,q2,q3,q4,i1.len,i2.len];intros;refine LoopC.ctr l.length (λk fr st' ds=>(∀f∈l.take k,fmB ca f=true)/\fr 0=.iv (.raw (.int .u8 ca))/\fr 3=.box [.sl t1 x1,.sl t2 x2]/\fr 5=.iv (.raw (.int .i64 k))/\st'=st/\ds=[]) ?_ ?_ ?_
 ·simp only[go_sem,zE,reduceCtorEq];exact⟨λf hf=>by simp at hf,rfl⟩
 ·rintro k fr st1 _ hlt ⟨hkk,f0,f3,f5,rfl,rfl⟩;obtain⟨a,ha⟩:=yQ2 hlt;have ham:=lMg ha;obtain⟨z,hkz,hzz⟩:=i1.get ha;have hcall:=λst=>hF a z hzz (hl a ham) st;obtain⟨o5,n5,t5,x5,t6,x6,rfl⟩:=hzz.agg;simp only[go_sem,zE,zB,zA,reduceCtorEq,f0,f3,f5,i1.len,lt_i hlt,yQ1 e1,iNn,hkz,fits];intro _;refine (hcall _).mono ?_;rintro _ st2 ⟨rfl,rfl⟩;cases hra:fmB ca a
  ·simp only[go_sem];exact yQ0 ⟨by rw[yV3 λh=>by have:=h.2.2.2.1 a ham;rw[hra] at this;cases this],rfl⟩
  ·simp only[go_sem,zE,reduceCtorEq,f0,f3,f5,yQa hlt (show l.length<=281474976710656 by omega)];intro f hf;rw[yQ5 ha] at hf;rcases List.mem_append.1 hf with hf|hf
   ·exact hkk f hf
   ·rw[List.mem_singleton.1 hf];exact hra
 ·rintro fr st1 _ ⟨hkl,f0,f3,f5,rfl,rfl⟩;rw[lTl] at hkl;simp only[go_sem,zE,f3,f5,i1.len,yQk (nLi _)];intro _;refine LoopC.ctr r.length (λk fr st' ds=>(∀f∈r.take k,qV ca ((r[0]?).getD fm0) f)/\fr 0=.iv (.raw (.int .u8 ca))/\fr 3=.box [.sl t1 x1,.sl t2 x2]/\fr 6=.iv (.raw (.int .i64 k))/\st'=st1/\ds=[]) ?_ ?_ ?_
  ·simp only[go_sem,zE,reduceCtorEq,f0,f3];exact⟨λf hf=>by simp at hf,rfl⟩
  ·rintro k fr st1 _ hlt ⟨hkk,f0,f3,f6,rfl,rfl⟩;obtain⟨a,ha⟩:=yQ2 hlt;have ham:=lMg ha;obtain⟨z,hkz,hzz⟩:=i2.get ha;obtain⟨b,hb⟩:=yQ2 (show 0<r.length by omega);obtain⟨zb,hkb,hzb⟩:=i2.get hb;have hbm:=lMg hb;have hcall:=λst=>hF a z hzz (hr a ham) st;have hcal2:=λst=>hAl b a zb z hzb hzz (hr b hbm) (hr a ham) st;have hhd:(r[0]?).getD fm0=b:=by rw[hb];rfl
   rw[hhd] at hkk ⊢;have hbad:∀h:¬ qV ca b a,yXr ca ⟨l,r⟩=false:=λh=>yV3 λh'=>h (by have:=h'.2.2.2.2 a ham;rwa [hhd] at this);have hgood:qV ca b a->∀f∈r.take (k+1),qV ca b f:=λh f hf=>by
    rw[yQ5 ha] at hf;rcases List.mem_append.1 hf with hf|hf
    ·exact hkk f hf
    ·rw[List.mem_singleton.1 hf];exact h
   obtain⟨o5,n5,t5,x5,t6,x6,rfl⟩:=hzz.agg;obtain⟨o7,n7,t7,x7,t8,x8,rfl⟩:=hzb.agg;simp only[go_sem,zE,zB,zA,reduceCtorEq,f0,f3,f6,i2.len,lt_i hlt,yQ1 e2,iNn,hkz,fits];intro _;refine (hcall _).mono ?_;rintro _ st2 ⟨rfl,rfl⟩;cases hra:fmB ca a
   ·simp only[go_sem,zE];exact yQ0 ⟨by rw[hbad λh=>by rw[h.1] at hra;cases hra],rfl⟩
   ·cases q5:decide (ca=2)
    ·simp only[go_sem,zE,reduceCtorEq,f0,f3,f6,k5,q5,yQa hlt (show r.length<=281474976710656 by omega)];exact hgood ⟨hra,λh=>absurd h (of_decide_eq_false q5)⟩
    ·simp only[go_sem,zE,zB,zA,reduceCtorEq,f0,f3,f6,fits,k5,q5,yQ1 e2,iNn,hkz,hkb,Int.le_refl,Int.toNat_zero];intros;refine (hcal2 _).mono ?_;rintro _ st2 ⟨rfl,rfl⟩;cases hrb:yK6 b a
     ·simp only[go_sem,zE];exact yQ0 ⟨by rw[hbad λh=>by rw[h.2 (of_decide_eq_true q5)] at hrb;cases hrb],rfl⟩
     ·simp only[go_sem,zE,reduceCtorEq,f0,f3,f6,yQa hlt (show r.length<=281474976710656 by omega)];exact hgood ⟨hra,λ_=>hrb⟩
  ·rintro fr st1 _ ⟨hkr,f0,f3,f6,rfl,rfl⟩;rw[lTl] at hkr;simp only[go_sem,zE,f3,f6,i2.len,yQk (nLi _)];intro _;exact yQ0 ⟨by rw[zVp.2 ⟨hk,hll,hlr,hkl,hkr⟩],rfl⟩
noncomputable def insR (n:Fm):List Fm->List Fm
 | []=>[n]
 | x::l=>if yZf n x<0 then n::x::l else if yZf n x=0 then x::l else x::insR n l
noncomputable def yZv (n:Fm)(p:List Fm×Bool)(x:Fm):List Fm×Bool:=((if yZf n x<0/\p.2=false then p.1++[n] else p.1)++[x],p.2 || decide (yZf n x<=0))
noncomputable def insF (n:Fm)(l:List Fm):List Fm×Bool:=l.foldl (yZv n) ([],false)
theorem wQt (n x:Fm)(l:List Fm):insF n (l++[x])=yZv n (insF n l) x:=by simp[insF,List.foldl_append]
theorem zG5 (n:Fm):∀(l acc:List Fm),l.foldl (yZv n) (acc,true)=(acc++l,true)
 | [],acc=>by simp
 | x::l,acc=>by rw[List.foldl_cons,show yZv n (acc,true) x=(acc++[x],true) by simp[yZv],zG5 n l];simp
theorem xQr (n:Fm):∀(l acc:List Fm),(if (l.foldl (yZv n) (acc,false)).2=true then (l.foldl (yZv n) (acc,false)).1 else (l.foldl (yZv n) (acc,false)).1++[n])=acc++insR n l
 | [],acc=>by simp[insR]
 | x::l,acc=>by
  rw[List.foldl_cons];unfold insR;by_cases h1:yZf n x<0
  ·rw[show yZv n (acc,false) x=(acc++[n]++[x],true) by simp[yZv,h1];omega,zG5,if_pos h1];simp
  ·by_cases h2:yZf n x=0
   ·rw[show yZv n (acc,false) x=(acc++[x],true) by simp[yZv,h2],zG5,if_neg h1,if_pos h2];simp
   ·rw[show yZv n (acc,false) x=(acc++[x],false) by simp[yZv,h1];omega,xQr n l,if_neg h1,if_neg h2];simp
theorem zG6 (n:Fm):∀(l:List Fm) (f:Fm),f∈insR n l↔f=n\/f∈l
 | [],f=>by simp[insR]
 | x::l,f=>by
  unfold insR;split
  ·simp
  ·split
   ·rename_i h;rw[(zQj n x).1 h];simp
   ·rw[List.mem_cons,zG6 n l,List.mem_cons];constructor
    ·rintro (h|h|h)<;>simp[h]
    ·rintro (h|h|h)<;>simp[h]
theorem zJx (n:Fm):∀(l:List Fm),l.Pairwise (λx y=>yZf x y<0)->(insR n l).Pairwise (λx y=>yZf x y<0)
 | [],_=>by simp[insR]
 | x::l,h=>by
  obtain⟨h1,h2⟩:=List.pairwise_cons.1 h;unfold insR;split
  ·rename_i hn;refine List.pairwise_cons.2 ⟨λy hy=>?_,h⟩;rcases List.mem_cons.1 hy with rfl|hy
   ·exact hn
   ·exact zXt _ _ _ hn (h1 y hy)
  ·split
   ·exact h
   ·rename_i q1 q2;refine List.pairwise_cons.2 ⟨λy hy=>?_,zJx n l h2⟩;rcases (zG6 n l y).1 hy with rfl|hy
    ·have:=zQi x y;omega
    ·exact h1 y hy
theorem wXy {l m:List Fm}{n:Fm}(h:SetF l m):SetF (l++[n]) (insR n m) :=
 ⟨zJx n m h.1,λf=>by rw[zG6,h.2 f,List.mem_append,List.mem_singleton,or_comm]⟩
noncomputable def yU9:List Fm->List Fm->List Fm
 | acc,[]=>acc
 | acc,f::l=>yU9 (insR (yXk f) acc) l
theorem zVy:∀(l acc:List Fm)(f:Fm),yU9 acc (l++[f])=insR (yXk f) (yU9 acc l)
 | [],acc,f=>rfl
 | a::l,acc,f=>by simp only[List.cons_append,yU9,zVy l]
theorem zUi:∀(l acc m:List Fm),SetF m acc->SetF (m++l.map yXk) (yU9 acc l)
 | [],acc,m,h=>by simpa[yU9] using h
 | f::l,acc,m,h=>by
  have:=zUi l _ _ (wXy (n:=yXk f) h);simpa[yU9] using this
theorem wXv (l:List Fm):setF (l.map yXk)=yU9 [] l:=zQv (by simpa using zUi l [] [] ⟨List.Pairwise.nil,λ_=>Iff.rfl⟩)
theorem zJy (n:Fm):∀l,(insR n l).length<=l.length+1
 | []=>by simp[insR]
 | x::l=>by
  unfold insR;split
  ·simp
  ·split
   ·simp
   ·have:=zJy n l;simp only[List.length_cons];omega
theorem zUj:∀(l acc:List Fm),(yU9 acc l).length<=acc.length+l.length
 | [],acc=>by simp[yU9]
 | f::l,acc=>by
  have h1:=zUj l (insR (yXk f) acc);have h2:=zJy (yXk f) acc;simp only[yU9,List.length_cons] at *;omega
theorem wVo (l:List Fm)(tg:Tag)(xs:List IV)(htg:okEs tg 4)(hx:IsFms l xs)(hs:fitL l)(hlen:l.length<=1000000000)(st:ISt) :
  ICall prog gl 95 [.sl tg xs] st (λr st'=>(∃t ys,r=.tup [.sl t ys,.raw (.bool (l.all Fm.right))]/\okEs t 4/\IsFms (yZb l).1 ys)/\st'=st):=by
 refine iI func95 ?_;simp only[go_sem];refine LoopC.ctr l.length (λk fr st' ds=>(l.take k).all Fm.right=true/\(∃t zs,fr 4=.iv (.sl t zs)/\okEs t 4/\IsFms (yU9 [] (l.take k)) zs)/\fr 0=.iv (.sl tg xs)/\fr 5=.iv (.raw (.int .i64 k))/\subSt st st'/\ds=[]) ?_ ?_ ?_
 ·simp only[go_sem,zE,reduceCtorEq];exact⟨⟨_,_,rfl,.inl rfl,rfl⟩,rfl,subSt.refl _⟩
 ·rintro k fr st1 _ hlt ⟨hall,⟨t,zs,f4,ht,hz⟩,f0,f5,hsub,rfl⟩;obtain⟨a,ha⟩:=yQ2 hlt;obtain⟨y,hky,hya⟩:=hx.get ha;have ham:=lMg ha;have hcall:=xUl gl a y hya (hs a ham) st1;have hsl:=zUj (l.take k) [];rw[List.length_take,List.length_nil] at hsl;obtain⟨y1,y2,y3,y4,y5,y6,rfl⟩:=hya.agg;simp only[go_sem,zE,zB,zA,reduceCtorEq,f0,f5,hx.len,lt_i hlt,yQ1 htg,iNn,hky,fits];intro _;refine hcall.mono ?_;rintro _ st1 ⟨y',rfl,hy',rfl⟩;unfold yXe at hy';cases hr:a.right
  ·rw[hr] at hy';simp only[bFt,if_false] at hy';obtain⟨z1,z2,z3,z4,z5,z6,rfl⟩:=hy'.agg;unfold yXe;rw[hr];simp only[bFt,if_false];have hf:l.all Fm.right=false:=List.all_eq_false.2 ⟨a,ham,by simp[hr]⟩;have hn:yZb l=([],2):=by unfold yZb;rw[hf];rfl
   simp only[go_sem,zE,zA,zL,show decide (((2:Nat):Int)=0)=false from rfl];exact yQ9 hsub ⟨⟨_,_,by rw[hf],.inl rfl,by rw[hn];rfl⟩,rfl⟩
  rw[hr] at hy';simp only[if_true] at hy';have hy0:=hy';obtain⟨z1,z2,z3,z4,z5,z6,rfl⟩:=hy'.agg;unfold yXe;rw[hr];simp only[if_true];have hall':(l.take (k+1)).all Fm.right=true:=by
   rw[yQ5 ha,List.all_append,hall];simp[hr]
  have hset:yU9 [] (l.take (k+1))=insR (yXk a) (yU9 [] (l.take k)):=by rw[yQ5 ha,zVy]
  generalize yU9 [] (l.take k)=out at hz hset hsl;simp only[go_sem,zE,zA,zL,show decide (((0:Nat):Int)=0)=true from rfl];refine LoopC.ctr out.length (λj fr st' ds=>(∃t' ys,fr 8=.iv (.sl t' ys)/\IsFms (insF (yXk a) (out.take j)).1 ys/\own st' t' ys.length 4 st/\ys.length<=2*j)/\fr 9=.iv (.raw (.bool (insF (yXk a) (out.take j)).2)) /\
   fr 6=.box [.raw (.int .u8 z1),.raw (.string z2),.sl z3 z4,.sl z5 z6]/\fr 4=.iv (.sl t zs)/\fr 0=.iv (.sl tg xs)/\fr 5=.iv (.raw (.int .i64 k))/\fr 10=.iv (.raw (.int .i64 j))/\subSt st st'/\ds=[]) ?_ ?_ ?_
  ·simp only[go_sem,zE,zM,reduceCtorEq,f0,f4,f5];exact⟨⟨_,_,rfl,rfl,own.nil _ _ _ _ _,Nat.le_refl _⟩,rfl,rfl,hsub⟩
  ·rintro j fr st2 _ hj ⟨⟨t',ys,f8,hys,hown,hyl⟩,f9,f6,f4,f0,f5,f10,hsub2,rfl⟩;obtain⟨b,hb⟩:=yQ2 hj;obtain⟨x,hkx,hxb⟩:=hz.get hb;have hxb0:=hxb;have hcmp:=xY3 gl (yXk a) b _ x hy0 hxb st2;have hstep:insF (yXk a) (out.take (j+1))=yZv (yXk a) (insF (yXk a) (out.take j)) b:=by rw[yQ5 hb,wQt]
   generalize insF (yXk a) (out.take j)=p at hys f9 hstep;obtain⟨p1,p2⟩:=p;obtain⟨x1,x2,x3,x4,x5,x6,rfl⟩:=hxb.agg;simp only[go_sem,zE,zB,zA,zL,f4,f6,f10,hz.len,lt_i hj,yQ1 ht,iNn,hkx,fits];intro _;refine hcmp.mono ?_;rintro _ st2 ⟨rfl,rfl⟩;have hF:=IsFms.one hy0;have hB:=IsFms.one hxb0;by_cases h1:yZf (yXk a) b<0
   ·have h2:decide (yZf (yXk a) b<=0)=true:=dEt (by omega);cases p2
    ·simp only[go_sem,zE,zA,zM,zL,f6,f8,f9,dEt h1,fits,yQ4];refine yZa hown rfl hsub2 rfl (by simp[fits,IV.one]) (by simp only;omega) (by omega) λt2 st3 hown3 hsub3 _=>?_;simp only[go_sem,zE,zB,zA,zM,zL,f4,f9,f10,h2,yQ1 ht,iNn,hkx,fits,yQ4];refine yZa hown3 (by simp) hsub3 rfl (by simp[fits,IV.one]) (by simp only;omega) (by omega) λt3 st4 hown4 hsub4 _=>?_;simp only[go_sem,zE,reduceCtorEq,f0,f4,f5,f6,f10,yQa hj (show out.length<=281474976710656 by omega)];exact⟨⟨t3,_,rfl,by rw[hstep];simp only[yZv,h1,true_and,if_true];exact (hys.append hF).append hB,by simpa using hown4,by simp;omega⟩,by rw[hstep];simp[yZv,h2],hsub4⟩
    ·simp only[go_sem,zE,zB,zA,zM,zL,f4,f8,f9,f10,dEt h1,yQ1 ht,iNn,hkx,fits,yQ4];refine yZa hown rfl hsub2 rfl (by simp[fits,IV.one]) (by simp only;omega) (by omega) λt3 st4 hown4 hsub4 _=>?_;simp only[go_sem,zE,reduceCtorEq,f0,f4,f5,f6,f10,yQa hj (show out.length<=281474976710656 by omega)];exact⟨⟨t3,_,rfl,by rw[hstep];simp only[yZv,Bool.true_eq_false,and_false,if_false];exact hys.append hB,by simpa using hown4,by simp;omega⟩,by rw[hstep];simp[yZv],hsub4⟩
   ·cases p2
    ·simp only[go_sem,zE,zB,zA,zM,zL,f4,f8,f9,f10,dEf h1,yQ1 ht,iNn,hkx,fits,yQ4];refine yZa hown rfl hsub2 rfl (by simp[fits,IV.one]) (by simp only;omega) (by omega) λt3 st4 hown4 hsub4 _=>?_;simp only[go_sem,zE,reduceCtorEq,f0,f4,f5,f6,f10,yQa hj (show out.length<=281474976710656 by omega)];exact⟨⟨t3,_,rfl,by rw[hstep];simp only[yZv,h1,false_and,if_false];exact hys.append hB,by simpa using hown4,by simp;omega⟩,by rw[hstep];simp[yZv],hsub4⟩
    ·simp only[go_sem,zE,zB,zA,zM,zL,f4,f8,f9,f10,dEf h1,yQ1 ht,iNn,hkx,fits,yQ4];refine yZa hown rfl hsub2 rfl (by simp[fits,IV.one]) (by simp only;omega) (by omega) λt3 st4 hown4 hsub4 _=>?_;simp only[go_sem,zE,reduceCtorEq,f0,f4,f5,f6,f10,yQa hj (show out.length<=281474976710656 by omega)];exact⟨⟨t3,_,rfl,by rw[hstep];simp only[yZv,Bool.true_eq_false,and_false,if_false];exact hys.append hB,by simpa using hown4,by simp;omega⟩,by rw[hstep];simp[yZv],hsub4⟩
  ·rintro fr st2 _ ⟨⟨t',ys,f8,hys,hown,hyl⟩,f9,f6,f4,f0,f5,f10,hsub2,rfl⟩;rw[lTl] at hys f9;have hfin:(if (insF (yXk a) out).2=true then (insF (yXk a) out).1 else (insF (yXk a) out).1++[yXk a])=insR (yXk a) out:=by
    have:=xQr (yXk a) out [];rw[List.nil_append] at this;exact this
   have hF:=IsFms.one hy0;cases hp:(insF (yXk a) out).2
   ·rw[hp] at hfin f9;simp only[bFt,if_false] at hfin;simp only[go_sem,zE,zA,zM,zL,f4,f6,f8,f9,f10,hz.len,yQk (nLi _),fits,yQ4];intros;refine yZa hown rfl hsub2 rfl (by simp[fits,IV.one]) (by simp only;omega) (by omega) λt3 st4 hown4 hsub4 _=>?_;simp only[go_sem,zE,reduceCtorEq,f0,f5,yQa hlt (show l.length<=281474976710656 by omega)];exact⟨hall',⟨t3,_,rfl,hown4.es,by rw[hset,<- hfin];exact hys.append hF⟩,hsub4⟩
   ·rw[hp] at hfin f9;simp only[if_true] at hfin;simp only[go_sem,zE,reduceCtorEq,f0,f4,f5,f8,f9,f10,hz.len,yQk (nLi _),yQa hlt (show l.length<=281474976710656 by omega)];intros;exact⟨hall',⟨t',_,rfl,hown.es,by rw[hset,<- hfin];exact hys⟩,hsub2⟩
 ·rintro fr st1 _ ⟨hall,⟨t,zs,f4,ht,hz⟩,f0,f5,hsub,rfl⟩;rw[lTl] at hall hz;have hn:yZb l=(setF (l.map yXk),0):=by unfold yZb;rw[hall];rfl
  simp only[go_sem,zE,reduceCtorEq,f0,f4,f5,hx.len,yQk (nLi _)];intros;exact yQ9 hsub ⟨⟨t,zs,by rw[hall],ht,by rw[hn,wXv];exact hz⟩,rfl⟩
theorem vZb (s:Sq)(x:IV)(hx:IsSq s x)(hs:yKt s)(hl:s.l.length<=1000000000/\s.r.length<=1000000000)(st:ISt) :
  ICall prog gl 46 [x] st (λr st'=>(∃y,r=.tup [y,.raw (.int .i64 (SetS s).2)]/\IsSq (SetS s).1 y)/\st'=st):=by
 obtain⟨t1,x1,t2,x2,rfl,e1,i1,e2,i2⟩:=hx;have h1:=λst=>wVo gl s.l t1 x1 e1 i1 hs.1 hl.1 st;have h2:=λst=>wVo gl s.r t2 x2 e2 i2 hs.2 hl.2 st;have n1:∀l,(yZb l).2=if l.all Fm.right=true then 0 else 2:=λl=>by unfold yZb;split<;>rfl
 unfold SetS;rw[n1,n1];refine iI func46 ?_;simp only[go_sem,zE,zA];refine (h1 _).mono ?_;rintro _ st ⟨⟨t3,y1,rfl,e3,j1⟩,rfl⟩;simp only[go_sem,zE,zA];refine (h2 _).mono ?_;rintro _ st ⟨⟨t4,y2,rfl,e4,j2⟩,rfl⟩;cases q1:s.l.all Fm.right
 ·simp only[go_sem,zE,zA,zL,reduceCtorEq];exact yQ0 ⟨⟨_,rfl,_,_,_,_,rfl,.inl rfl,rfl,.inl rfl,rfl⟩,rfl⟩
 ·cases q2:s.r.all Fm.right
  ·simp only[go_sem,zE,zA,zL,reduceCtorEq];exact yQ0 ⟨⟨_,rfl,_,_,_,_,rfl,.inl rfl,rfl,.inl rfl,rfl⟩,rfl⟩
  ·simp only[go_sem,zE,zA,zL,fits];exact yQ0 ⟨⟨_,rfl,_,_,_,_,rfl,e3,j1,e4,j2⟩,rfl⟩
theorem zUv (G:Gl gl)(a b:Sq)(x y:IV)(hx:IsSq a x)(hy:IsSq b y)(ha:yKt a)(hb:yKt b)(hl:a.l.length<=1099511627776/\a.r.length<=1099511627776/\b.l.length<=1099511627776/\b.r.length<=1099511627776)(st:ISt):ICall prog gl 47 [x,y] st (λr st'=>r=.raw (.bool (yJa a b))/\st'=st):=by
 obtain⟨t1,x1,t2,x2,rfl,e1,i1,e2,i2⟩:=hx;obtain⟨t3,x3,t4,x4,rfl,e3,i3,e4,i4⟩:=hy;have h1:=λt0 ht0 st=>vZc gl G a.l b.l [] t1 t3 t0 x1 x3 [] e1 i1 e3 i3 ht0 rfl ha.1 hb.1 (λf hf=>by cases hf) ⟨hl.1,hl.2.2.1,by simp⟩ st;have h2:=λt0 ht0 st=>vZc gl G a.r b.r [] t2 t4 t0 x2 x4 [] e2 i2 e4 i4 ht0 rfl ha.2 hb.2 (λf hf=>by cases hf) ⟨hl.2.1,hl.2.2.2,by simp⟩ st;simp only[List.append_nil] at h1 h2;unfold yJa;refine iI func47 ?_;simp only[go_sem,zE,zA];refine (h1 _ (.inl rfl) _).mono ?_;rintro _ st ⟨rfl,rfl⟩;cases allF a.l b.l
 ·simp only[go_sem,zE];exact yQ0 ⟨rfl,rfl⟩
 ·simp only[go_sem,zE,zA];refine (h2 _ (.inl rfl) _).mono ?_;rintro _ st ⟨rfl,rfl⟩;simp only[go_sem,zE];exact yQ0 ⟨rfl,rfl⟩
theorem q_p (n:ByteArray)(t:Tag)(xs:List IV)(st:ISt):ICall prog gl 18 [.raw (.string n),.sl t xs] st (λr st'=>r=.agg [.raw (.int .u8 1),.raw (.string n),.sl t xs,.sl ⟨true,.nil,0⟩ []]/\st'=st):=by
 refine iI func18 ?_;simp only[go_sem,zE,zA,zL,reduceCtorEq,fits];exact yQ0 ⟨rfl,rfl⟩
theorem q_no (o:Int)(n:ByteArray)(t:Tag)(x:List IV)(t':Tag)(x':List IV)(st:ISt):ICall prog gl 19 [.agg [.raw (.int .u8 o),.raw (.string n),.sl t x,.sl t' x']] st
  (λr st'=>r=.agg [.raw (.int .u8 3),.raw (.string ⟨#[]⟩),.sl ⟨true,.nil,0⟩ [],.sl ⟨true,.full,4⟩ [.agg [.raw (.int .u8 o),.raw (.string n),.sl t x,.sl t' x']]]/\st'=st):=by
 refine iI func19 ?_;simp only[go_sem,zE,zA,zM,zL,fits,yQ4];exact yQ0 ⟨rfl,rfl⟩
theorem xXl (op o:Int)(n:ByteArray)(t:Tag)(x:List IV)(t':Tag)(x':List IV)(o2:Int)(n2:ByteArray)(t2:Tag)(x2:List IV)(t2':Tag)(x2':List IV)(st:ISt) :
  ICall prog gl 20 [.raw (.int .u8 op),.agg [.raw (.int .u8 o),.raw (.string n),.sl t x,.sl t' x'],.agg [.raw (.int .u8 o2),.raw (.string n2),.sl t2 x2,.sl t2' x2']] st
  (λr st'=>r=.agg [.raw (.int .u8 op),.raw (.string ⟨#[]⟩),.sl ⟨true,.nil,0⟩ [],.sl ⟨true,.full,4⟩ [.agg [.raw (.int .u8 o),.raw (.string n),.sl t x,.sl t' x'],.agg [.raw (.int .u8 o2),.raw (.string n2),.sl t2 x2,.sl t2' x2']]]/\st'=st):=by
 refine iI func20 ?_;simp only[go_sem,zE,zA,zM,zL,reduceCtorEq,fits,yQp];exact yQ0 ⟨rfl,rfl⟩
theorem q_fs (t:Tag)(xs:List IV)(st:ISt):ICall prog gl 13 [.sl t xs] st (λr st'=>r=.sl t xs/\st'=st):=by
 refine iI func13 ?_;simp only[go_sem,reduceCtorEq];exact yQ0 ⟨rfl,rfl⟩
theorem q_sq (t:Tag)(xs:List IV)(t':Tag)(ys:List IV)(st:ISt):ICall prog gl 39 [.sl t xs,.sl t' ys] st (λr st'=>r=.agg [.sl t xs,.sl t' ys]/\st'=st):=by
 refine iI func39 ?_;simp only[go_sem,zE,zA,zL,reduceCtorEq,fits];exact yQ0 ⟨rfl,rfl⟩
theorem q_v (n:ByteArray)(st:ISt):ICall prog gl 40 [.raw (.string n)] st (λr st'=>r=.agg [.raw (.bool true),.raw (.string n),.sl ⟨true,.nil,0⟩ []]/\st'=st):=by
 refine iI func40 ?_;simp only[go_sem,zE,zA,zL,reduceCtorEq,fits];exact yQ0 ⟨rfl,rfl⟩
mutual
def wTm:Tm->Nat
 | .mk _ n us=>1+n.size / 20+wTms us
def wTms:List Tm->Nat
 | []=>0
 | a::l=>wTm a+wTms l
end
mutual
def wFm:Fm->Nat
 | .mk _ n us sub=>1+n.size / 20+wTms us+wFms sub
def wFms:List Fm->Nat
 | []=>0
 | a::l=>wFm a+wFms l
end
theorem yU3:∀l m:List Tm,wTms (l++m)=wTms l+wTms m
 | [],m=>by simp[wTms]
 | a::l,m=>by simp only[List.cons_append,wTms,yU3 l m];omega
theorem xGd {l:List Tm}{k:Nat}{a:Tm}(h:l[k]?=some a):wTms (l.take (k+1))=wTms (l.take k)+wTm a:=by
 rw[yQ5 h,yU3];simp[wTms]
theorem xGe (l:List Tm)(k:Nat):wTms (l.take k)<=wTms l:=by
 conv=>rhs;rw[<- List.take_append_drop k l]
 rw[yU3];omega
theorem yU4:∀l m:List Fm,wFms (l++m)=wFms l+wFms m
 | [],m=>by simp[wFms]
 | a::l,m=>by simp only[List.cons_append,wFms,yU4 l m];omega
theorem xGf {l:List Fm}{k:Nat}{a:Fm}(h:l[k]?=some a):wFms (l.take (k+1))=wFms (l.take k)+wFm a:=by
 rw[yQ5 h,yU4];simp[wFms]
theorem xGg (l:List Fm)(k:Nat):wFms (l.take k)<=wFms l:=by
 conv=>rhs;rw[<- List.take_append_drop k l]
 rw[yU4];omega
def Sum (w:Nat)(lim:Int)(r:IV):Prop:=∃n:Nat,r=.raw (.int .i64 n)/\n<=w/\((n:Int)<=lim->n=w)
def tC (us:List Tm):Prop:=∀(t:Tag) (xs:List IV) (_:okEs t 3) (_:IsTms us xs) (lim:Int) (_:-1<=lim/\lim<=1000) (_:wTms us<=1099511627776) (st:ISt),
 ICall prog gl 44 [.sl t xs,.raw (.int .i64 lim)] st (λr st'=>Sum (wTms us) lim r/\st'=st)
theorem xXj (us:List Tm)(IH:∀v n l,Tm.mk v n l∈us->tC gl l):tC gl us:=by
 intro t xs ht hx lim hlim hw st;refine iI func44 ?_;simp only[go_sem];refine LoopC.ctr us.length (λk fr st' ds=>(∃n:Nat,fr 5=.iv (.raw (.int .i64 n))/\n<=wTms (us.take k)/\((n:Int)<=lim->n=wTms (us.take k)))/\fr 0=.iv (.sl t xs)/\fr 1=.iv (.raw (.int .i64 lim))/\fr 6=.iv (.raw (.int .i64 k))/\st'=st/\ds=[]) ?_ ?_ ?_
 ·simp only[go_sem,zE,reduceCtorEq];exact⟨⟨0,rfl,Nat.le_refl _,λ_=>rfl⟩,rfl⟩
 ·rintro k fr st1 _ hlt ⟨⟨n,f5,hn1,hn2⟩,f0,f1,f6,rfl,rfl⟩;obtain⟨a,ha⟩:=yQ2 hlt;obtain⟨x,hkx,hxa⟩:=hx.get ha;obtain⟨v2,n2,l2⟩:=a;obtain⟨tx,cx,rfl,htx,hcx⟩:=hxa.mk;have hwt:=xGd ha;have hwl:=xGe us (k+1);have hwk:=xGe us k;simp only[wTm] at hwt;by_cases hle:(n:Int)<=lim
  ·have hnk:=hn2 hle;have hcall:=λst=>IH _ _ _ (lMg ha) tx cx htx hcx (lim-n-1) ⟨by omega,by omega⟩ (by omega) st;have hq:IntKind.i64.wrap (((n2.size:Nat):Int).tdiv 20)=((n2.size / 20:Nat):Int):=by
    have:((n2.size:Nat):Int).tdiv 20=((n2.size / 20:Nat):Int):=rfl;rw[this,w64 (by omega) (by omega)]
   have hz:¬ ((20:Int)=0):=by decide
   generalize n2.size / 20=q at hq hwt;have w1:IntKind.i64.wrap (1+((q:Nat):Int))=((1+q:Nat):Int):=by rw[w64]<;>omega
   have w2:IntKind.i64.wrap (IntKind.i64.wrap (lim-(n:Int))-1)=lim-n-1:=by rw[w64 (n:=lim-n) (by omega) (by omega),w64 (by omega) (by omega)]
   simp only[go_sem,zE,zA,reduceCtorEq,f0,f1,f5,f6,hx.len,lt_i hlt,dEt hle,yQ1 ht,iNn,hkx,fits,hq,hz,w1,w2];intro _;refine (hcall _).mono ?_;rintro _ st2 ⟨⟨m,rfl,hm1,hm2⟩,rfl⟩;have w3:IntKind.i64.wrap (((1+q:Nat):Int)+(m:Int))=((1+q+m:Nat):Int):=by rw[w64]<;>omega
   have w4:IntKind.i64.wrap ((n:Int)+((1+q+m:Nat):Int))=((n+(1+q+m):Nat):Int):=by rw[w64]<;>omega
   simp only[go_sem,zE,reduceCtorEq,f0,f1,f6,w3,w4,yQa hlt (show us.length<=281474976710656 by omega)];exact⟨n+(1+q+m),rfl,by omega,λh=>by have:=hm2 (by omega);omega⟩
  ·simp only[go_sem,zE,reduceCtorEq,f0,f1,f5,f6,hx.len,lt_i hlt,dEf hle];intro _;exact yQ0 ⟨⟨n,rfl,by omega,λh=>absurd h hle⟩,rfl⟩
 ·rintro fr st1 _ ⟨⟨n,f5,hn1,hn2⟩,f0,f1,f6,rfl,rfl⟩;rw[lTl] at hn1 hn2;simp only[go_sem,zE,reduceCtorEq,f0,f5,f6,hx.len,yQk (nLi _)];intro _;exact yQ0 ⟨⟨n,rfl,hn1,hn2⟩,rfl⟩
theorem zW4:∀(k:Nat)(us:List Tm),SizeOf.sizeOf us<k->tC gl us
 | 0,f,h=>by omega
 | k+1,us,h=>xXj gl us (λv n l ha=>zW4 k l (by
   have:=lSm ha;simp at this;omega))
theorem wJf (us:List Tm):tC gl us:=zW4 gl _ us (Nat.lt_succ_self _)
def zC (us:List Fm):Prop:=∀(t:Tag) (xs:List IV) (_:okEs t 4) (_:IsFms us xs) (lim:Int) (_:-1<=lim/\lim<=1000) (_:wFms us<=1099511627776) (st:ISt),
 ICall prog gl 12 [.sl t xs,.raw (.int .i64 lim)] st (λr st'=>Sum (wFms us) lim r/\st'=st)
theorem xY4 (us:List Fm)(IH:∀o n l m,Fm.mk o n l m∈us->zC gl m):zC gl us:=by
 intro t xs ht hx lim hlim hw st;refine ICall.intro (c:=cf prog gl [] [(5,[0,1,2,3,4,5,6,7,8,9,10,11,12,13,14,15,16,19,20,21,22,23,24,25,26,27,17,18,28,29,30,31])]) func12 rfl (by show _<=50;simp) (by kernel_rfl) ?_;simp only[go_sem];refine LoopC.ctr us.length (λk fr st' ds=>(∃n:Nat,fr 5=.iv (.raw (.int .i64 n))/\n<=wFms (us.take k)/\((n:Int)<=lim->n=wFms (us.take k)))/\fr 0=.iv (.sl t xs)/\fr 1=.iv (.raw (.int .i64 lim))/\fr 6=.iv (.raw (.int .i64 k))/\st'=st/\ds=[]) ?_ ?_ ?_
 ·simp only[go_sem,zE,reduceCtorEq];exact⟨⟨0,rfl,Nat.le_refl _,λ_=>rfl⟩,rfl⟩
 ·rintro k fr st1 _ hlt ⟨⟨n,f5,hn1,hn2⟩,f0,f1,f6,rfl,rfl⟩;obtain⟨a,ha⟩:=yQ2 hlt;obtain⟨x,hkx,hxa⟩:=hx.get ha;obtain⟨o2,n2,l2,m2⟩:=a;obtain⟨tx,cx,ty,cy,rfl,_,htx,hcx,hty,hcy⟩:=hxa.mk;have hwt:=xGf ha;have hwl:=xGg us (k+1);have hwk:=xGg us k;simp only[wFm] at hwt;by_cases hle:(n:Int)<=lim
  ·have hnk:=hn2 hle;have hcall:=λst=>IH _ _ _ _ (lMg ha) ty cy hty hcy (lim-n-1) ⟨by omega,by omega⟩ (by omega) st;have hterm:=λst=>wJf gl l2 tx cx htx hcx (lim-n) ⟨by omega,by omega⟩ (by omega) st;have hq:IntKind.i64.wrap (((n2.size:Nat):Int).tdiv 20)=((n2.size / 20:Nat):Int):=by
    have:((n2.size:Nat):Int).tdiv 20=((n2.size / 20:Nat):Int):=rfl;rw[this,w64 (by omega) (by omega)]
   have hz:¬ ((20:Int)=0):=by decide
   generalize n2.size / 20=q at hq hwt;have w1:IntKind.i64.wrap (1+((q:Nat):Int))=((1+q:Nat):Int):=by rw[w64]<;>omega
   have w0:IntKind.i64.wrap (lim-(n:Int))=lim-n:=w64 (by omega) (by omega);have w2:IntKind.i64.wrap (lim-(n:Int)-1)=lim-n-1:=w64 (by omega) (by omega);simp only[go_sem,zE,zA,reduceCtorEq,f0,f1,f5,f6,hx.len,lt_i hlt,dEt hle,yQ1 ht,iNn,hkx,fits,hq,hz,w1,w0,w2];intro _;refine (hterm _).mono ?_;rintro _ st2 ⟨⟨m1,rfl,hm1,hm1'⟩,rfl⟩;have w3:IntKind.i64.wrap (((1+q:Nat):Int)+(m1:Int))=((1+q+m1:Nat):Int):=by rw[w64]<;>omega
   simp only[go_sem,zE,zA,w3];refine (hcall _).mono ?_;rintro _ st2 ⟨⟨m,rfl,hm,hm'⟩,rfl⟩;have w4:IntKind.i64.wrap (((1+q+m1:Nat):Int)+(m:Int))=((1+q+m1+m:Nat):Int):=by rw[w64]<;>omega
   have w5:IntKind.i64.wrap ((n:Int)+((1+q+m1+m:Nat):Int))=((n+(1+q+m1+m):Nat):Int):=by rw[w64]<;>omega
   simp only[go_sem,zE,reduceCtorEq,f0,f1,f6,w4,w5,yQa hlt (show us.length<=281474976710656 by omega)];exact⟨n+(1+q+m1+m),rfl,by omega,λh=>by have:=hm1' (by omega);have:=hm' (by omega);omega⟩
  ·simp only[go_sem,zE,reduceCtorEq,f0,f1,f5,f6,hx.len,lt_i hlt,dEf hle];intro _;exact yQ0 ⟨⟨n,rfl,by omega,λh=>absurd h hle⟩,rfl⟩
 ·rintro fr st1 _ ⟨⟨n,f5,hn1,hn2⟩,f0,f1,f6,rfl,rfl⟩;rw[lTl] at hn1 hn2;simp only[go_sem,zE,reduceCtorEq,f0,f5,f6,hx.len,yQk (nLi _)];intro _;exact yQ0 ⟨⟨n,rfl,hn1,hn2⟩,rfl⟩
theorem zUy:∀(k:Nat)(us:List Fm),SizeOf.sizeOf us<k->zC gl us
 | 0,f,h=>by omega
 | k+1,us,h=>xY4 gl us (λo n l m ha=>zUy k m (by
   have:=lSm ha;simp at this;omega))
theorem xXk (us:List Fm):zC gl us:=zUy gl _ us (Nat.lt_succ_self _)
theorem vK2 (s:Sq)(x:IV)(hx:IsSq s x)(hw:wFms s.l<=1099511627776/\wFms s.r<=1099511627776)(st:ISt):ICall prog gl 11 [x] st (λr st'=>(r=.raw (.bool (decide (wFms s.l+wFms s.r<=300))))/\st'=st):=by
 obtain⟨t1,x1,t2,x2,rfl,e1,i1,e2,i2⟩:=hx;have h1:=λst=>xXk gl s.l t1 x1 e1 i1 300 ⟨by omega,by omega⟩ hw.1 st;have h2:=λst=>xXk gl s.r t2 x2 e2 i2 300 ⟨by omega,by omega⟩ hw.2 st;refine ICall.intro (c:=cf prog gl [] [(1,[0,1,3,4,2,5,6,7,8])]) func11 rfl (by show _<=11;simp) (by kernel_rfl) ?_;simp only[go_sem,zE,zA];refine (h1 _).mono ?_;rintro _ st2 ⟨⟨n,rfl,hn1,hn2⟩,rfl⟩;simp only[go_sem,zE,zA];refine (h2 _).mono ?_;rintro _ st2 ⟨⟨m,rfl,hm1,hm2⟩,rfl⟩;have w:IntKind.i64.wrap ((n:Int)+(m:Int))=((n+m:Nat):Int):=by rw[w64]<;>omega
 have hd:decide (((n+m:Nat):Int)<=300)=decide (wFms s.l+wFms s.r<=300):=by
  rw[decide_eq_decide];constructor
  ·intro h;have:=hn2 (by omega);have:=hm2 (by omega);omega
  ·intro h;omega
 simp only[go_sem,zE,w,hd];exact yQ0 ⟨rfl,rfl⟩
def plI (p:List Nat):List IV:=p.map λ(i:Nat)=>.raw (.int .i64 (i:Int))
theorem yVf (p:List Nat):(plI p).length=p.length:=by simp[plI]
def emp:ISt:=λ_=>none
def PlV (p:List Nat)(a:IV)(e:ISt):Prop :=
 (∃t,a=.sl t []/\t.cap=.nil/\p=[]/\e=emp) \/
 ∃g cap cs,a=.raw (.slice (some ⟨g,0,none⟩) p.length cap)/\e=emp.put g (some (.box cs))/\p.length<=cap/\cap<=cs.length/\cs.take p.length=plI p
def lkT (l:List (List Nat×Tr))(k:Nat)(zs:List IV)(e:ISt):Prop:=∃p t a x,l[k]?=some (p,t)/\IsTr t x/\PlV p a e/\zs=[a,.cptr x]
def xJc (b2 b3 b4:Nat):IV:=.fn (.func 118) [] [.raw (.pointer (some ⟨b2,0,none⟩)),.raw (.pointer (some ⟨b3,0,none⟩)),.raw (.pointer (some ⟨b4,0,none⟩))]
def ownF (b2 b3 b4:Nat)(fy a:IV):ISt:=((emp.put b2 (some (.box [fy]))).put b3 (some (.box [a]))).put b4 (some (.box [xJc b2 b3 b4]))
section
variable {b2 b3 b4:Nat}{fy a:IV}
theorem wVv (h3:b2≠b3)(h4:b2≠b4):ownF b2 b3 b4 fy a b2=some (.box [fy]):=by simp only[ownF,ISt.put_apply,if_neg h3,if_neg h4,if_true]
theorem yGx (h4:b3≠b4):ownF b2 b3 b4 fy a b3=some (.box [a]):=by simp only[ownF,ISt.put_apply,if_neg h4,if_true]
theorem xQ1:ownF b2 b3 b4 fy a b4=some (.box [xJc b2 b3 b4]):=by simp only[ownF,ISt.put_apply,if_true]
theorem xKw {c:Nat}(h2:c≠b2)(h3:c≠b3)(h4:c≠b4):ownF b2 b3 b4 fy a c=none:=by simp only[ownF,ISt.put_apply,if_neg h2,if_neg h3,if_neg h4,emp]
theorem zXg {c:Nat}(a':IV):ownF b2 b3 b4 fy a c=none↔ownF b2 b3 b4 fy a' c=none:=by
 simp only[ownF,ISt.put_apply];by_cases h4:c=b4
 ·simp[h4]
 ·by_cases h3:c=b3
  ·subst h3;simp only[if_neg h4,if_true,reduceCtorEq]
  ·simp[h4,h3]
end
def xZl (b2 b3 b4:Nat)(fy:IV)(p:List Nat)(s stt:ISt):Prop:=∃a e,PlV p a e/\disj s e/\disj (join s e) (ownF b2 b3 b4 fy a)/\stt=join (join s e) (ownF b2 b3 b4 fy a)
def FOkL (y:IV)(I:Nat->ISt->Prop)(S:ISt->Prop)(k0:Nat)(l:List (List Nat×Tr)):Prop :=
 ∀i p t x a e stu,l[i]?=some (p,t)->IsTr t x->PlV p a e->disj stu e->I (k0+i) stu →
  ICallV prog gl y [a,.cptr x] (join stu e) λr st'=>(r=.raw (.bool true)/\∃s1,I (k0+i+1) s1/\disj s1 e/\st'=join s1 e)\/(r=.raw (.bool false)/\S st')
section
variable {gl}{y:IV}{I:Nat->ISt->Prop}{S:ISt->Prop}{k0:Nat}
theorem FOkL.left {l m:List (List Nat×Tr)}(h:FOkL gl y I S k0 (l++m)):FOkL gl y I S k0 l:=λi p t x a e stu hi =>
 h i p t x a e stu (by rw[List.getElem?_append_left (lGs hi).1];exact hi)
theorem FOkL.right {l m:List (List Nat×Tr)}(h:FOkL gl y I S k0 (l++m)):FOkL gl y I S (k0+l.length) m:=λi p t x a e stu hi hx hp hd hI=>by
 have:=h (l.length+i) p t x a e stu (by rw[List.getElem?_append_right (by omega)];simpa using hi) hx hp hd (by rw[<- Nat.add_assoc];exact hI);simpa only[Nat.add_assoc] using this
theorem FOkL.tail {z:List Nat×Tr}{m:List (List Nat×Tr)}(h:FOkL gl y I S k0 (z::m)):FOkL gl y I S (k0+1) m:=FOkL.right (l:=[z]) h
end
section
variable {b2 b3 b4:Nat}{fy a a':IV}{p:List Nat}{s:ISt}{g:Nat}
theorem zYq {c:Nat}(h:c≠b3):ownF b2 b3 b4 fy a c=ownF b2 b3 b4 fy a' c:=by simp only[ownF,ISt.put_apply,if_neg h]
theorem xUn {cs:List IV}(h34:b3≠b4)(hs:disj s (ownF b2 b3 b4 fy a))(hg1:s g=none)(hg2:ownF b2 b3 b4 fy a g=none)(hp:PlV p a' (emp.put g (some (.box cs)))) :
  xZl b2 b3 b4 fy p s (((join s (ownF b2 b3 b4 fy a)).put g (some (.box cs))).put b3 (some (.box [a']))):=by
 have hg3:ownF b2 b3 b4 fy a' g=none:=(zXg a').1 hg2;refine⟨a',_,hp,λb hb=>?_,λb hb=>?_,?_⟩
 ·rw[ISt.put_apply] at hb;split at hb
  ·rename_i h;rw[h];exact hg1
  ·exact absurd rfl hb
 ·have hbg:b≠g:=by rintro rfl;exact hb hg3
  have he:(emp.put g (some (.box cs))) b=none:=by rw[ISt.put_apply,if_neg hbg];rfl
  rw[yZ0 he];exact hs b λh=>hb ((zXg a').1 h)
 ·funext c;by_cases h3:c=b3
  ·rw[ISt.put_apply,if_pos h3,h3,yQv (yGx h34)]
  ·rw[ISt.put_apply,if_neg h3,ISt.put_apply];by_cases hc:c=g
   ·rw[if_pos hc,hc,yZ0 hg3,yQv (ISt.put_same ..)]
   ·rw[if_neg hc];have he:(emp.put g (some (.box cs))) c=none:=by rw[ISt.put_apply,if_neg hc];rfl
    cases ho:ownF b2 b3 b4 fy a c with
    | some o=>rw[yQv ho,yQv ((zYq h3).symm.trans ho)]
    | none=>rw[yZ0 ho,yZ0 ((zYq h3).symm.trans ho),yZ0 he]
theorem wGm {cs:List IV}(hd1:s g=none)(hd2:ownF b2 b3 b4 fy a g=none):(join (join s (emp.put g (some (.box cs)))) (ownF b2 b3 b4 fy a)).put g none=join s (ownF b2 b3 b4 fy a):=by
 funext c;rw[ISt.put_apply];split
 ·rename_i h;rw[h,yZ0 hd2,hd1]
 ·rename_i h;have he:(emp.put g (some (.box cs))) c=none:=by rw[ISt.put_apply,if_neg h];rfl
  cases ho:ownF b2 b3 b4 fy a c with
  | some o=>rw[yQv ho,yQv ho]
  | none=>rw[yZ0 ho,yZ0 ho,yZ0 he]
end
theorem PlV.cons {p:List Nat}{k:Nat}{a:IV}{e:ISt}(h:PlV (p++[k]) a e):∃g cap cs,a=.raw (.slice (some ⟨g,0,none⟩) (p.length+1) cap)/\e=emp.put g (some (.box cs))/\p.length+1<=cap/\cap<=cs.length/\cs.take p.length=plI p:=by
 rcases h with⟨t,_,_,h,_⟩|⟨g,cap,cs,rfl,rfl,h1,h2,h3⟩
 ·simp at h
 ·rw[lLa] at h1 h3 ⊢;refine⟨g,cap,cs,rfl,rfl,h1,h2,?_⟩;have:=congrArg (List.take p.length) h3;rw[List.take_take,show min p.length (p.length+[k].length)=p.length by omega] at this;rw[this];unfold plI;rw[List.map_append,List.take_left' (by simp)]
theorem wVp {b2 b3 b4:Nat}{fy a a':IV}{X:ISt}(h34:b3≠b4):(join X (ownF b2 b3 b4 fy a)).put b3 (some (.box [a']))=join X (ownF b2 b3 b4 fy a'):=by
 funext c;rw[ISt.put_apply];split
 ·rename_i h;rw[h,yQv (yGx h34)]
 ·rename_i h;cases ho:ownF b2 b3 b4 fy a c with
  | some o=>rw[yQv ho,yQv ((zYq h).symm.trans ho)]
  | none=>rw[yZ0 ho,yZ0 ((zYq h).symm.trans ho)]
theorem zVw {n m:Nat}(h:n+1<=m):yXf none (some ((n:Nat):Int)) m=some (0,n):=by
 simp only[yXf,Option.getD_none,Option.getD_some];rw[if_pos ⟨Int.le_refl _,by omega,by omega⟩];simp
theorem zWj:∀ {l:List Tr}{t:Tr},t∈l->t.height<=yXc l
 | a::l,t,h=>by
  simp only[yXc];rcases List.mem_cons.1 h with rfl|h
  ·omega
  ·have:=zWj h;omega
theorem zK1 (x:Operand):yKs 1 [(0,x)]=true:=rfl
theorem yKb (p:List Nat):∀(i:Nat) (l m:List Tr),yX0 p i (l++m)=yX0 p i l++yX0 p (i+l.length) m
 | i,[],m=>by simp[yX0]
 | i,a::l,m=>by
  simp only[List.cons_append,yX0,yKb p (i+1) l m,List.append_assoc,List.length_cons];rw[show i+1+l.length=i+(l.length+1) by omega]
def FF (t:Tr):Prop:=∀(x:IV) (_:IsTr t x) (b2 b3 b4:Nat) (_:b2≠b3) (_:b2≠b4) (_:b3≠b4) (g:Fn) (fi ca:List IV) (_:fnOk g=true) (_:∀i,g=.func i->entI prog i=true) (I:Nat->ISt->Prop) (S:ISt->Prop) (k0:Nat) (p:List Nat)
  (_:FOkL gl (.fn g fi ca) I S k0 (t.walk p)) (_:p.length+t.height<=1099511627776) (s stt:ISt) (_:I k0 s) (_:xZl b2 b3 b4 (.fn g fi ca) p s stt),
  ICall prog gl 118 [.cptr x,.raw (.pointer (some ⟨b2,0,none⟩)),.raw (.pointer (some ⟨b3,0,none⟩)),.raw (.pointer (some ⟨b4,0,none⟩))] stt
   (λr st'=>(r=.raw (.bool true)/\∃s1,I (k0+(t.walk p).length) s1/\xZl b2 b3 b4 (.fn g fi ca) p s1 st')\/(r=.raw (.bool false)/\∃s1,S s1/\subSt s1 st'))
theorem wZ3 (rule:Nat)(sq:Sq)(f:Fm)(u:Tm)(n:ByteArray)(sub:List Tr)(IH:∀a∈sub,FF gl a):FF gl (.mk rule sq f u n sub):=by
 intro x hx b2 b3 b4 h23 h24 h34 g fi ca hfn hent I S k0 p hy hdeep s stt hI hst;have hx0:=hx;obtain⟨tl,xl,tr,xr,op,fn,ta,xa,tb,xb,v,un,tu,xu,ts,xs,hxe,hru,_,_,_,_,_,_,e3,i3⟩:=hx.mk;obtain⟨a,e,hp,hd1,hd2,rfl⟩:=hst;simp only[Tr.walk] at hy ⊢;have hhead:=hy 0 p _ _ a e s rfl hx0 hp hd1 hI;have hy':=FOkL.tail hy;have r2:join (join s e) (ownF b2 b3 b4 (.fn g fi ca) a) b2=some (.box [.fn g fi ca]):=yQv (wVv h23 h24);have r3:join (join s e) (ownF b2 b3 b4 (.fn g fi ca) a) b3=some (.box [a]):=yQv (yGx h34);refine ICall.intro (c:=cf prog gl [23,24] []) func118 rfl (by show _<=39;simp) (by kernel_rfl) ?_;have hiv:ivOf (.iv a)=some a:=by rcases hp with⟨t,rfl,_⟩|⟨g,cap,cs,rfl,_⟩<;>rfl
 rw[hxe] at hhead;simp only[go_sem,zE,reduceCtorEq,r2,r3,hiv,hxe];refine yJ5 hent (hhead.frame hd2 |>.mono ?_);rintro r stt ⟨s2,hd3,rfl,(⟨rfl,s3,hI3,hd4,rfl⟩|⟨rfl,hS⟩)⟩
 ·simp only[go_sem,reduceCtorEq,i3.len];intro hlen;refine LoopC.ctr sub.length (λk fr st' ds=>(∃s,I (k0+1+(yX0 p 0 (sub.take k)).length) s/\xZl b2 b3 b4 (.fn g fi ca) p s st')/\fr 0=.iv (.cptr x)/\fr 1=.iv (.raw (.pointer (some ⟨b2,0,none⟩)))/\fr 2=.iv (.raw (.pointer (some ⟨b3,0,none⟩)))/\fr 3=.iv (.raw (.pointer (some ⟨b4,0,none⟩)))/\fr 16=.iv (.raw (.int .i64 sub.length))/\fr 17=.iv (.raw (.int .i64 k))/\ds=[]) ?_ ?_ ?_
  ·simp only[go_sem,zE,reduceCtorEq,hxe];exact⟨⟨s3,by simpa[yX0] using hI3,a,e,hp,hd4,hd3,rfl⟩,rfl⟩
  ·rintro k fr st1 _ hlt ⟨⟨s,hI,a,e,hp,hd1,hd2,rfl⟩,f0,f1,f2,f3,f16,f17,rfl⟩;rw[hxe] at f0;obtain⟨t,ht⟩:=yQ2 hlt;obtain⟨z,hkz,hz⟩:=i3.get ht;have r3:join (join s e) (ownF b2 b3 b4 (.fn g fi ca) a) b3=some (.box [a]):=yQv (yGx h34);have hth:=zWj (lMg ht);simp only[Tr.height] at hdeep;have hsplit:yX0 p 0 sub=yX0 p 0 (sub.take k)++(t.walk (p++[k])++yX0 p (k+1) (sub.drop (k+1))):=by
    conv=>lhs;rw[<- List.take_append_drop k sub,List.drop_eq_getElem_cons hlt]
    rw[yKb,(lGs ht).2,show (sub.take k).length=k by rw[List.length_take];omega];simp only[yX0,Nat.zero_add]
   have hya:=hy';rw[hsplit] at hya;have hcall:=λstt hF=>IH t (lMg ht) z hz b2 b3 b4 h23 h24 h34 g fi ca hfn hent I S _ (p++[k]) (FOkL.left (FOkL.right hya)) (by rw[lLa];simp only[List.length_singleton];omega) s stt hI hF;have wcut:IntKind.i64.wrap (((p.length+1:Nat):Int)-1)=(p.length:Nat):=by rw[w64 (by omega) (by omega)];omega
   have hz':∃c0 c1 c2 c3 c4 c5 c6 c7 c8 c9 c10 c11,z=.agg [c0,c1,c2,c3,c4,c5,c6,c7,c8,c9,c10,c11]:=by
    obtain⟨r',s',m',t',n',b'⟩:=t;obtain⟨tl',xl',tr',xr',op',fn',ta',xa',tb',xb',v',un',tu',xu',ts',xs',rfl,_⟩:=hz.mk;exact⟨_,_,_,_,_,_,_,_,_,_,_,_,rfl⟩
   obtain⟨c0,c1,c2,c3,c4,c5,c6,c7,c8,c9,c10,c11,rfl⟩:=hz';rcases hp with⟨t0,rfl,hta,hp0,rfl⟩|⟨g',cap,cs,rfl,rfl,hc1,hc2,hc3⟩
   ·obtain⟨fs,c,es⟩:=t0;obtain rfl:c=.nil:=hta;have hje:join s emp=s:=rfl;rw[hje] at r3 hd2 ⊢;simp only[go_sem,zE,zA,zM,zL,reduceCtorEq,f0,f2,f3,f16,f17,lt_i hlt,r3,hxe,zK1];intro g' cap;refine yQb λhg=>?_;obtain⟨hg,hcap⟩:=hg;change join s (ownF b2 b3 b4 (.fn g fi ca) (.sl ⟨fs,.nil,es⟩ [])) g'=none at hg;have hd2':disj s (ownF b2 b3 b4 (.fn g fi ca) (.sl ⟨fs,.nil,es⟩ [])):=hd2;have hg2:ownF b2 b3 b4 (.fn g fi ca) (.sl ⟨fs,.nil,es⟩ []) g'=none:=by
     cases ho:ownF b2 b3 b4 (.fn g fi ca) (.sl ⟨fs,.nil,es⟩ []) g' with
     | none=>rfl
     | some o=>rw[yQv ho] at hg;cases hg
    have hg1:s g'=none:=by rw[<- yZ0 (stu:=s) hg2];exact hg
    have hb3:b3≠g':=by rintro rfl;rw[yGx h34] at hg2;cases hg2
    have hF:=xUn (fy:=.fn g fi ca) (p:=p++[k]) (a':=.raw (.slice (some ⟨g',0,none⟩) 1 cap)) (cs:=.raw (.int .i64 k)::List.replicate (cap-1) .junk) h34 hd2' hg1 hg2 (.inr ⟨g',cap,_,by rw[hp0];rfl,rfl,by simpa[hp0] using hcap,by simp;omega,by simp[plI,hp0]⟩);have hb4:b4≠g':=by rintro rfl;rw[xQ1] at hg2;cases hg2
    have r3':∀o,((join s (ownF b2 b3 b4 (.fn g fi ca) (.sl ⟨fs,.nil,es⟩ []))).put g' o) b3=some (.box [.sl ⟨fs,.nil,es⟩ []]):=λo=>by rw[ISt.put_apply,if_neg hb3];exact r3
    have r4':∀o o',(((join s (ownF b2 b3 b4 (.fn g fi ca) (.sl ⟨fs,.nil,es⟩ []))).put g' o).put b3 o') b4=some (.box [xJc b2 b3 b4]):=λo o'=>by rw[ISt.put_apply,if_neg h34.symm,ISt.put_apply,if_neg hb4];exact yQv xQ1
    simp only[go_sem,zL,IV.one,List.flatMap_cons,List.flatMap_nil,IV.cells,Nat.mul_one,r3',r4',hkz,yQ1 e3,iNn,xJc];refine (hcall _ hF).mono ?_;rintro _ st2 (⟨rfl,s1,hI1,hF1⟩|⟨rfl,s1,hS1,hsub1⟩)
    ·obtain⟨a2,e2,hp2,hd5,hd6,rfl⟩:=hF1;obtain⟨g3,cap3,cs3,rfl,rfl,hc4,hc5,hc6⟩:=hp2.cons;have r6:join (join s1 (emp.put g3 (some (.box cs3)))) (ownF b2 b3 b4 (.fn g fi ca) (.raw (.slice (some ⟨g3,0,none⟩) (p.length+1) cap3))) b3=some (.box [.raw (.slice (some ⟨g3,0,none⟩) (p.length+1) cap3)]):=yQv (yGx h34);simp only[go_sem,zE,zL,reduceCtorEq,IV.one,r6,f0,f1,f2,f3,f16,f17,wcut,zVw hc4,ite_self,Nat.zero_mul,hc4,yQa hlt (show sub.length<=281474976710656 by omega)];refine⟨s1,?_,?_⟩
     ·rw[yQ5 ht,yKb,lLa,show (sub.take k).length=k by rw[List.length_take];omega];simp only[yX0,List.append_nil,Nat.zero_add];rw[<- Nat.add_assoc];exact hI1
     ·rw[wVp h34];exact⟨_,_,.inr ⟨g3,cap3,cs3,rfl,rfl,by omega,hc5,hc6⟩,hd5,λb hb=>hd6 b λh=>hb ((zXg _).1 h),rfl⟩
    ·simp only[go_sem];exact yQ0 (.inr ⟨rfl,s1,hS1,hsub1⟩)
   ·have ho:ownF b2 b3 b4 (.fn g fi ca) (.raw (.slice (some ⟨g',0,none⟩) p.length cap)) g'=none:=by
     cases ho:ownF b2 b3 b4 (.fn g fi ca) (.raw (.slice (some ⟨g',0,none⟩) p.length cap)) g' with
     | none=>rfl
     | some o =>
      have:=hd2 g' (by rw[ho];simp);rw[yQv (ISt.put_same ..)] at this;cases this
    have hs1:s g'=none:=hd1 g' (by rw[ISt.put_same];simp);have r5:join (join s (emp.put g' (some (.box cs)))) (ownF b2 b3 b4 (.fn g fi ca) (.raw (.slice (some ⟨g',0,none⟩) p.length cap))) g'=some (.box cs):=by
     rw[yZ0 ho,yQv (ISt.put_same ..)]
    simp only[go_sem,zE,zA,zM,zL,f2,f16,f17,lt_i hlt,r3,hxe,zK1];refine zZh _ _ _ r5 (by simp[fits,IV.one]) ⟨by show (_+1)*8<=_;omega,by show _+1<=_;omega⟩ ⟨hc1,by show _*1<=_;omega⟩ (by simp[IV.cells]) ?_;intro g2 cap2 cs2 hg2 k1 k2 k3;rw[wGm hs1 ho];have hgo:s g2=none/\ownF b2 b3 b4 (.fn g fi ca) (.raw (.slice (some ⟨g',0,none⟩) p.length cap)) g2=none:=by
     rcases hg2 with rfl|hg2
     ·exact⟨hs1,ho⟩
     ·cases hq:ownF b2 b3 b4 (.fn g fi ca) (.raw (.slice (some ⟨g',0,none⟩) p.length cap)) g2 with
      | some o=>rw[yQv hq] at hg2;cases hg2
      | none =>
       rw[yZ0 hq] at hg2;refine⟨?_,rfl⟩;cases hz:s g2 with
       | none=>rfl
       | some o=>rw[yJi hd1 g2 o hz] at hg2;cases hg2
    have hs2:disj s (ownF b2 b3 b4 (.fn g fi ca) (.raw (.slice (some ⟨g',0,none⟩) p.length cap))):=λb hb=>by
     have:=hd2 b hb;cases hz:s b with
     | none=>rfl
     | some o=>rw[yJi hd1 b o hz] at this;cases this
    have hF:=xUn (fy:=.fn g fi ca) (p:=p++[k]) (a':=.raw (.slice (some ⟨g2,0,none⟩) (p.length+1) cap2)) (cs:=cs2) h34 hs2 hgo.1 hgo.2 (.inr ⟨g2,cap2,cs2,by simp,rfl,by simpa using k1,by simpa using k2,by
     simp only[Nat.mul_one] at k3;rw[lLa];exact k3.trans (by rw[hc3];simp[plI,IV.cells])⟩)
    have hb3:b3≠g2:=by rintro rfl;have:=hgo.2;rw[yGx h34] at this;cases this
    have hb4:b4≠g2:=by rintro rfl;have:=hgo.2;rw[xQ1] at this;cases this
    have r3':∀o,((join s (ownF b2 b3 b4 (.fn g fi ca) (.raw (.slice (some ⟨g',0,none⟩) p.length cap)))).put g2 o) b3=some (.box [.raw (.slice (some ⟨g',0,none⟩) p.length cap)]):=λo=>by rw[ISt.put_apply,if_neg hb3];exact yQv (yGx h34)
    have r4':∀o o',(((join s (ownF b2 b3 b4 (.fn g fi ca) (.raw (.slice (some ⟨g',0,none⟩) p.length cap)))).put g2 o).put b3 o') b4=some (.box [xJc b2 b3 b4]):=λo o'=>by rw[ISt.put_apply,if_neg h34.symm,ISt.put_apply,if_neg hb4];exact yQv xQ1
    simp only[go_sem,zE,zL,reduceCtorEq,IV.one,IV.cells,r3',r4',f0,f2,f3,hkz,yQ1 e3,iNn,fits,xJc];refine (hcall _ hF).mono ?_;rintro _ st2 (⟨rfl,s1,hI1,hF1⟩|⟨rfl,s1,hS1,hsub1⟩)
    ·obtain⟨a2,e2,hp2,hd5,hd6,rfl⟩:=hF1;obtain⟨g3,cap3,cs3,rfl,rfl,hc4,hc5,hc6⟩:=hp2.cons;have r6:join (join s1 (emp.put g3 (some (.box cs3)))) (ownF b2 b3 b4 (.fn g fi ca) (.raw (.slice (some ⟨g3,0,none⟩) (p.length+1) cap3))) b3=some (.box [.raw (.slice (some ⟨g3,0,none⟩) (p.length+1) cap3)]):=yQv (yGx h34);simp only[go_sem,zE,zL,reduceCtorEq,IV.one,r6,f0,f1,f2,f3,f16,f17,wcut,zVw hc4,ite_self,Nat.zero_mul,hc4,yQa hlt (show sub.length<=281474976710656 by omega)];refine⟨s1,?_,?_⟩
     ·rw[yQ5 ht,yKb,lLa,show (sub.take k).length=k by rw[List.length_take];omega];simp only[yX0,List.append_nil,Nat.zero_add];rw[<- Nat.add_assoc];exact hI1
     ·rw[wVp h34];exact⟨_,_,.inr ⟨g3,cap3,cs3,rfl,rfl,by omega,hc5,hc6⟩,hd5,λb hb=>hd6 b λh=>hb ((zXg _).1 h),rfl⟩
    ·simp only[go_sem];exact yQ0 (.inr ⟨rfl,s1,hS1,hsub1⟩)
  ·rintro fr st1 _ ⟨⟨s,hI,hF⟩,f0,f1,f2,f3,f16,f17,rfl⟩;rw[lTl] at hI;simp only[go_sem,f16,f17,yQk (nLi _)];refine yQ0 (.inl ⟨rfl,s,?_,hF⟩);rw[show k0+((yX0 p 0 sub).length+1)=k0+1+(yX0 p 0 sub).length by omega];exact hI
 ·simp only[go_sem];exact yQ0 (.inr ⟨rfl,s2,hS,yJi hd3⟩)
theorem xVp:∀(k:Nat)(t:Tr),SizeOf.sizeOf t<k->FF gl t
 | 0,t,h=>by omega
 | k+1,.mk r sq f u n sub,h=>wZ3 gl r sq f u n sub (λa ha=>xVp k a (by
   have:=lSm ha;simp at h;omega))
theorem vXc (t:Tr):FF gl t:=xVp gl _ t (Nat.lt_succ_self _)
theorem wXq (t:Tr)(x:IV)(hx:IsTr t x)(hd:t.height<=1099511627776)(I:Nat->ISt->Prop):wV6 prog gl 117 [] [.cptr (.cptr x)] (lkT (t.walk [])) (t.walk []).length I:=by
 rintro y I' S' st ⟨g,fi,ca,rfl,hfn,hent⟩ _ hy h0;have hfrom:=vXc gl t x hx;have hok:FOkL gl (.fn g fi ca) I' S' 0 (t.walk []):=λi p t x a e stu hi ht hp hdj hI=>by
  rw[Nat.zero_add] at hI ⊢;exact hy i [a,.cptr x] e stu ⟨p,t,a,x,hi,ht,hp,rfl⟩ hdj hI
 have hz':∃c0 c1 c2 c3 c4 c5 c6 c7 c8 c9 c10 c11,x=.agg [c0,c1,c2,c3,c4,c5,c6,c7,c8,c9,c10,c11]:=by
  obtain⟨r',s',m',t',n',b'⟩:=t;obtain⟨tl',xl',tr',xr',op',fn',ta',xa',tb',xb',v',un',tu',xu',ts',xs',rfl,_⟩:=hx.mk;exact⟨_,_,_,_,_,_,_,_,_,_,_,_,rfl⟩
 obtain⟨c0,c1,c2,c3,c4,c5,c6,c7,c8,c9,c10,c11,rfl⟩:=hz';change ICall prog gl _ [.fn g fi ca,_] st _;refine ICall.intro (c:=cf prog gl [2,3,4] []) func117 rfl (by show _<=9;simp) (by kernel_rfl) ?_;simp only[go_sem,zE,zL,fits];intro b2;refine yQb λhb2=>?_;intro b3;refine yQb λhb3=>?_;intro b4;refine yQb λhb4=>?_;have h23:b2≠b3:=by rintro rfl;rw[ISt.put_same] at hb3;cases hb3
 have h34:b3≠b4:=by rintro rfl;rw[ISt.put_same] at hb4;cases hb4
 have h24:b2≠b4:=by rintro rfl;rw[ISt.put_apply,if_neg h23,ISt.put_same] at hb4;cases hb4
 rw[ISt.put_apply,if_neg h23.symm] at hb3;rw[ISt.put_apply,if_neg h34.symm,ISt.put_apply,if_neg h24.symm] at hb4;have hF:xZl b2 b3 b4 (.fn g fi ca) [] st ((((st.put b2 (some (.box [.fn g fi ca]))).put b3 (some (.box [.sl ⟨true,.nil,0⟩ []]))).put b4 (some (.box [.raw .nilFunc]))).put b4 (some (.box [xJc b2 b3 b4]))):=by
  refine⟨_,emp,.inl ⟨⟨true,.nil,0⟩,rfl,rfl,rfl,rfl⟩,λb hb=>absurd rfl hb,λb hb=>?_,?_⟩
  ·show st b=none;by_cases q4:b=b4
   ·rw[q4];exact hb4
   ·by_cases q3:b=b3
    ·rw[q3];exact hb3
    ·by_cases q2:b=b2
     ·rw[q2];exact hb2
     ·exact absurd (xKw q2 q3 q4) hb
  ·funext c;by_cases q4:c=b4
   ·rw[q4,ISt.put_same,yQv xQ1]
   ·rw[ISt.put_apply,if_neg q4,ISt.put_apply,if_neg q4];by_cases q3:c=b3
    ·rw[q3,ISt.put_same,yQv (yGx h34)]
    ·rw[ISt.put_apply,if_neg q3];by_cases q2:c=b2
     ·rw[q2,ISt.put_same,yQv (wVv h23 h24)]
     ·rw[ISt.put_apply,if_neg q2,yZ0 (xKw q2 q3 q4)];rfl
 refine (hfrom b2 b3 b4 h23 h24 h34 g fi ca hfn hent I' S' 0 [] hok (by simpa using hd) st _ h0 hF).mono ?_;rintro r stt (⟨rfl,s1,hI1,a,e,_,hd1,hd2,rfl⟩|⟨rfl,s1,hS1,hsub⟩)
 ·simp only[go_sem];rw[Nat.zero_add] at hI1;exact yQ9 ((yJi hd1).trans (yJi hd2)) (.inl hI1)
 ·simp only[go_sem];exact yQ9 hsub (.inr hS1)
theorem wY3 (x:IV)(st:ISt)(t:Tr)(hx:IsTr t x):ICall prog gl 72 [.cptr x] st (λr st'=>r=.fn (.func 117) [] [.cptr (.cptr x)]/\st'=st):=by
 have hz':∃c0 c1 c2 c3 c4 c5 c6 c7 c8 c9 c10 c11,x=.agg [c0,c1,c2,c3,c4,c5,c6,c7,c8,c9,c10,c11]:=by
  obtain⟨r',s',m',t',n',b'⟩:=t;obtain⟨tl',xl',tr',xr',op',fn',ta',xa',tb',xb',v',un',tu',xu',ts',xs',rfl,_⟩:=hx.mk;exact⟨_,_,_,_,_,_,_,_,_,_,_,_,rfl⟩
 obtain⟨c0,c1,c2,c3,c4,c5,c6,c7,c8,c9,c10,c11,rfl⟩:=hz';refine ICall.intro (c:=cf prog gl [] [] [1]) func72 rfl (by show _<=4;simp) (by kernel_rfl) ?_;simp only[go_sem,zE];exact yQ0 ⟨rfl,rfl⟩
theorem wXh (t:Tag)(ht:t.cap=.nil)(st:ISt):ICall prog gl 74 [.sl t []] st (λr st'=>(∃t',r=.sl t' (plI [])/\okEs t' 1)/\st'=st):=by
 obtain⟨fs,c,es⟩:=t;obtain rfl:c=.nil:=ht;refine iI func74 ?_;have hb:binV prog 50 .eql (.sl ⟨fs,.nil,es⟩ []) (.sl ⟨true,.nil,0⟩ [])=some (.raw (.bool true)):=by
  have:zQa prog 50=true:=by kernel_rfl
  simp[binV,zV9,this]
 simp only[go_sem,reduceCtorEq,hb];exact yQ0 ⟨⟨_,rfl,.inl rfl⟩,rfl⟩
theorem wXi (g:Nat)(p:List Nat)(hp:p≠[])(hl:p.length<=1099511627776)(st:ISt):ICall prog gl 74 [.sl ⟨false,.app g,1⟩ (plI p)] st (λr st'=>(∃t',r=.sl t' (plI p)/\okEs t' 1)/\st'=st):=by
 obtain⟨i,p,rfl⟩:∃i q,p=i::q:=by
  cases p with
  | nil=>exact absurd rfl hp
  | cons i q=>exact⟨i,q,rfl⟩
 refine iI func74 ?_;have hb:binV prog 50 .eql (.sl ⟨false,.app g,1⟩ (plI (i::p))) (.sl ⟨true,.nil,0⟩ [])=some (.raw (.bool false)):=by
  have:zQa prog 50=true:=by kernel_rfl
  simp[binV,zV9,this]
 have hf:(plI (i::p)).all (fits false 1)=true:=by simp[plI,fits,IV.one]
 simp only[List.length_cons] at hl;have he:plI (i::p)=.raw (.int .i64 (i:Int))::plI p:=rfl;have hpl:=yVf p;have hf':(plI p).all (fits false 1)=true:=by simp[plI,fits,IV.one]
 rw[he] at hb hf ⊢;simp only[go_sem,zE,zA,zM,zL,reduceCtorEq,fits,hb];exact yQs rfl (yQs hf' (yQs ⟨by omega,by omega⟩ λg'=>yQb λhg=>yQ9 (yQe hg) ⟨⟨_,rfl,.inr rfl⟩,rfl⟩))
theorem xG1 {R:Rt}{st:ISt}{ds:List Dfd}(esc:List Nat)(dst:Option Nat)(e:TypeId×Bool×Nat×Nat)(fs:Bool)(es:Nat)(xs:List IV):appV esc dst e ⟨fs,.full,es⟩ xs [] R st ds =
 chk (([]:List IV).all (fits e.2.1 e.2.2.1)=true) (chk ((xs.length+0)*e.2.2.2<=140737488355328/\xs.length+0<=140737488355328) (chk (es=e.2.2.1) (R (.val (.sl ⟨fs,.full,es⟩ xs)) st ds))):=rfl
theorem xGb (g:Nat)(st:ISt):ICall prog gl 74 [.sl ⟨false,.app g,1⟩ (plI [])] st (λr st'=>(∃t',r=.sl t' (plI [])/\okEs t' 1)/\st'=st):=by
 have hb:binV prog 50 .eql (.sl ⟨false,.app g,1⟩ (plI [])) (.sl ⟨true,.nil,0⟩ [])=some (.raw (.bool false)):=by
  have:zQa prog 50=true:=by kernel_rfl
  simp[binV,zV9,this]
 rw[show plI []=[] from rfl] at hb ⊢;refine iI func74 ?_;simp only[go_sem,zE,zA,zM,zL,reduceCtorEq,hb,xG1];exact yQs rfl (yQ0 ⟨⟨_,rfl,.inr rfl⟩,rfl⟩)
theorem wQp {s e:ISt}(h:disj s e):join s e=join e s:=by
 funext b;cases he:e b with
 | none =>
  rw[yZ0 he];cases hs:s b with
  | none=>rw[yZ0 hs,he]
  | some o=>rw[yQv hs]
 | some o=>rw[yQv he,yZ0 (h b (by rw[he];simp)),he]
theorem xW5:∀p:List Nat,ages (plI p)=plI p
 | []=>by simp only[plI,List.map_nil,ages]
 | i::p=>by
  have:=xW5 p;simp only[plI,List.map_cons,ages,age] at this ⊢;rw[this]
theorem xKt:∀p:List Nat,(plI p).flatMap IV.cells=plI p
 | []=>rfl
 | i::p=>by
  have:=xKt p;simp only[plI,List.map_cons,List.flatMap_cons,IV.cells,List.singleton_append] at this ⊢;rw[this]
theorem wUa (p:List Nat)(a:IV)(e s:ISt)(hp:PlV p a e)(hl:p.length<=1099511627776)(hd:disj s e):ICall prog gl 74 [a] (join s e) (λr st'=>(∃t',r=.sl t' (plI p)/\okEs t' 1)/\st'=s):=by
 have key:ICall prog gl 74 [a] e (λr st'=>(∃t',r=.sl t' (plI p)/\okEs t' 1)/\st'=emp):=by
  rcases hp with⟨t,rfl,ht,rfl,rfl⟩|⟨g,cap,cs,rfl,rfl,h1,h2,h3⟩
  ·exact wXh gl t ht emp
  ·have hnb:yYp (emp.put g (some (.box cs)))=emp:=by
    funext b;by_cases hb:b=g
    ·rw[hb,zQ5 (ISt.put_same ..)];rfl
    ·have:(emp.put g (some (.box cs))) b=none:=by rw[ISt.put_apply,if_neg hb];rfl
     rw[yWb (λcs' h=>by rw[this] at h;cases h),this];rfl
   refine ICall.freeze (args':=[.sl ⟨false,.app g,1⟩ (plI p)]) ⟨_,_,rfl,.inr ⟨.sl ⟨true,.app g,1⟩ (plI p),?_,?_⟩,rfl⟩ ?_
   ·rw[<- yVf p];refine .sl g cap ⟨true,.app g,1⟩ (plI p) cs rfl (by rw[yVf];omega) (by rw[yVf];exact h1) (λx hx=>?_) (ISt.put_same ..) (by simpa using h2) λi r c hr hc=>?_
    ·obtain⟨i,_,rfl⟩:=List.mem_map.1 hx;rfl
    ·rw[xKt p] at hc;have hi:i<p.length:=by
      have:=(lGs hc).1
      rwa [yVf] at this
     have:(cs.take p.length)[i]?=cs[i]?:=by rw[List.getElem?_take,if_pos hi]
     rw[h3,hc,hr] at this;cases this;exact .refl _
   ·simp only[age,xW5]
   ·rw[hnb];by_cases hpn:p=[]
    ·subst hpn;exact xGb gl g emp
    ·exact wXi gl g p hpn hl emp
 have h1:=key.frame (own:=s) (λb hb=>by
  cases he:e b with
  | none=>rfl
  | some o=>exact absurd (hd b (by rw[he];simp)) hb)
 rw[wQp hd];refine h1.mono ?_;rintro r st' ⟨stu,_,rfl,hr,rfl⟩;refine⟨hr,?_⟩;funext b;cases hs:s b with
 | none=>rw[yZ0 hs];rfl
 | some o=>rw[yQv hs]
def wQ0:Tr->Prop
 | .mk _ s m u _ sub=>yKt s/\m.size<=1000000/\u.size<=1000000/\∀a∈sub,yKt a.sq
def wKb (t:Tr):Prop:=(∀q∈t.walk [],wQ0 q.2)/\t.height<=1099511627776
theorem wKt (G:Gl gl)(T:Gt gl)(ca:Nat)(t:Tr)(x:IV)(hx:IsTr t x)(hn:wQ0 t)(st:ISt):ICall prog gl 73 [.raw (.int .u8 ca),.cptr x] st (λr st'=>r=.raw (.int .i64 (yJ4 ca t))/\st'=st):=by
 obtain⟨rule,s,m,u,n,sub⟩:=t;exact wGx gl G T ca rule s m u n sub x hx hn.1 hn.2.1 hn.2.2.1 hn.2.2.2 st
theorem zU4 {t:Tr}{x:IV}(h:IsTr t x):∃(rule:Nat) (tl:Tag) (xl:List IV) (tr:Tag) (xr:List IV) (op:Int) (fn:ByteArray) (ta:Tag) (xa:List IV) (tb:Tag) (xb:List IV) (v:Bool) (un:ByteArray) (tu:Tag) (xu:List IV) (n:ByteArray) (ts:Tag) (xs:List IV),
  x=.agg [.raw (.int .u8 rule),.sl tl xl,.sl tr xr,.raw (.int .u8 op),.raw (.string fn),.sl ta xa,.sl tb xb,.raw (.bool v),.raw (.string un),.sl tu xu,.raw (.string n),.sl ts xs]:=by
 obtain⟨r',s',m',t',n',b'⟩:=t;obtain⟨tl',xl',tr',xr',op',fn',ta',xa',tb',xb',v',un',tu',xu',ts',xs',rfl,_⟩:=h.mk;exact⟨_,_,_,_,_,_,_,_,_,_,_,_,_,_,_,_,_,_,rfl⟩
mutual
theorem zY1:∀(p:List Nat)(t:Tr),(t.walk p).length=t.steps
 | p,.mk _ _ _ _ _ sub=>by simp only[Tr.walk,Tr.steps,List.length_cons,zXw p 0 sub];omega
theorem zXw:∀(p:List Nat)(i:Nat)(l:List Tr),(yX0 p i l).length=yX9 l
 | _,_,[]=>rfl
 | p,i,a::l=>by simp only[yX0,yX9,lLa,zY1 (p++[i]) a,zXw p (i+1) l]
end
mutual
theorem zGx:∀(q:List Nat)(t:Tr)(x:List Nat×Tr),x∈t.walk q->x.1.length+1<=q.length+t.height
 | q,.mk _ _ _ _ _ sub,x,h=>by
  simp only[Tr.walk,List.mem_cons] at h;simp only[Tr.height];rcases h with rfl|h
  ·simp only;omega
  ·have:=zZm q 0 sub x h;omega
theorem zZm:∀(q:List Nat)(i:Nat)(l:List Tr)(x:List Nat×Tr),x∈yX0 q i l->x.1.length<=q.length+yXc l
 | _,_,[],x,h=>by simp[yX0] at h
 | q,i,a::l,x,h=>by
  simp only[yX0,List.mem_append] at h;simp only[yXc];rcases h with h|h
  ·have:=zGx (q++[i]) a x h;rw[lLa] at this;simp only[List.length_singleton] at this;omega
  ·have:=zZm q (i+1) l x h;omega
end
def CkI (st:ISt)(b2 b4 b5 b6 ca c:Nat)(s:ISt):Prop:=s b2=some (.box [.raw (.int .u8 ca)])/\s b4=some (.box [.sl ⟨true,.nil,0⟩ []])/\s b5=some (.box [.raw (.int .i64 0)])/\s b6=some (.box [.raw (.int .i64 c)])/\subSt st s
def CkS (st:ISt)(b4 b5:Nat)(q:List Nat×Nat)(e:Exit)(s:ISt):Prop:=e=.ret/\(∃tg,s b4=some (.box [.sl tg (plI q.1)])/\okEs tg 1)/\s b5=some (.box [.raw (.int .i64 q.2)])/\subSt st s
theorem zGw (G:Gl gl)(T:Gt gl)(ca:Nat)(t:Tr)(x:IV)(hx:IsTr t x)(hfit:wKb t)(st:ISt):ICall prog gl 25 [.raw (.int .u8 ca),x] st (λr st'=>(∃tg,r=.tup [.sl tg (plI (yJp ca t).1),.raw (.int .i64 (yJp ca t).2)]/\okEs tg 1)/\st'=st):=by
 have hst:=λst=>wY3 gl x st t hx;have hit:=λI=>wXq gl t x hx hfit.2 I;have hkn:=λst=>xJ4 gl ca st;obtain⟨rule,tl,xl,tr,xr,op,fn,ta,xa,tb,xb,v,un,tu,xu,n,ts,xs,rfl⟩:=zU4 hx;refine ICall.intro (c:=cf prog gl [2,4,5,6] [] [3]) func25 rfl (by show _<=31;simp) (by kernel_rfl) ?_;simp only[go_sem,zE,zA,IV.one];intro b2;refine yQb λhb2=>?_;intro b4;refine yQb λhb4=>?_;intro b5;refine yQb λhb5=>?_;have h24:b2≠b4:=by rintro rfl;rw[ISt.put_same] at hb4;cases hb4
 have h45:b4≠b5:=by rintro rfl;rw[ISt.put_same] at hb5;cases hb5
 have h25:b2≠b5:=by rintro rfl;rw[ISt.put_apply,if_neg h24,ISt.put_same] at hb5;cases hb5
 rw[ISt.put_apply,if_neg h24.symm] at hb4;rw[ISt.put_apply,if_neg h45.symm,ISt.put_apply,if_neg h25.symm] at hb5;obtain⟨s1,hs1,f2,f4,f5,hsub⟩:∃s1,s1=((st.put b2 (some (.box [.raw (.int .u8 ca)]))).put b4 (some (.box [.sl ⟨true,.nil,0⟩ []]))).put b5 (some (.box [.raw (.int .i64 0)]))/\s1 b2=some (.box [.raw (.int .u8 ca)])/\s1 b4=some (.box [.sl ⟨true,.nil,0⟩ []])/\s1 b5=some (.box [.raw (.int .i64 0)])/\subSt st s1 :=
  ⟨_,rfl,by simp only[ISt.put_apply,if_neg h24,if_neg h25,if_true],by simp only[ISt.put_apply,if_neg h45,if_true],by simp only[ISt.put_apply,if_true],yZ7 (yZ7 (yZ7 (subSt.refl st) hb2) hb4) hb5⟩
 rw[<- hs1];simp only[go_sem,f2];refine (hkn _).mono ?_;rintro _ s1' ⟨rfl,rfl⟩;have g5:∀(s:ISt) o,(s.put b4 o) b5=s b5:=λs o=>by rw[ISt.put_apply,if_neg h45.symm]
 have g4:∀(s:ISt) o o',((s.put b4 o).put b5 o') b4=o:=λs o o'=>by rw[ISt.put_apply,if_neg h45,ISt.put_same]
 have hsub':∀(s:ISt) o o',subSt st s->subSt st ((s.put b4 o).put b5 o'):=λs o o' h=>yZ7 (yZ7 h hb4) hb5;cases hk:yJm ca
 ·have hq:yJp ca t=([],2):=by unfold yJp;rw[hk];rfl
  simp only[go_sem,zE,zL,f4,f5,g5,g4,ISt.put_same];exact yQ9 (hsub' _ _ _ hsub) ⟨⟨_,by rw[hq];rfl,.inl rfl⟩,rfl⟩
 ·simp only[go_sem,zE,zA,zL];intro b6;refine yQb λhb6=>?_;rw[yQd];refine (hst _).mono ?_;rintro _ _ ⟨rfl,rfl⟩;have h26:b2≠b6:=by rintro rfl;rw[f2] at hb6;cases hb6
  have h46:b4≠b6:=by rintro rfl;rw[f4] at hb6;cases hb6
  have h56:b5≠b6:=by rintro rfl;rw[f5] at hb6;cases hb6
  have hb6':st b6=none:=by
   cases hq:st b6 with
   | none=>rfl
   | some o=>rw[hsub b6 o hq] at hb6;cases hb6
  have hI0:CkI st b2 b4 b5 b6 ca 0 (s1'.put b6 (some (.box [.raw (.int .i64 0)]))):=⟨by rw[ISt.put_apply,if_neg h26];exact f2,by rw[ISt.put_apply,if_neg h46];exact f4,by rw[ISt.put_apply,if_neg h56];exact f5,ISt.put_same ..,yZ7 hsub hb6'⟩
  generalize s1'.put b6 (some (.box [.raw (.int .i64 0)]))=s2 at hI0 ⊢;simp only[go_sem,reduceCtorEq];refine RangeL.intro (lkT (t.walk [])) (t.walk []).length (λk s=>CkI st b2 b4 b5 b6 ca k s/\k<=300) (λe s=>CkS st b4 b5 ([],5) e s/\300<t.steps) rfl ?_ ?_ ?_ (hit _) ?_ ?_
  ·rintro k a e ⟨p,u,a,y,_,_,_,rfl⟩;rfl
  ·exact⟨hI0,by omega⟩
  ·rintro k _ e s ⟨p,z,a,y,hkz,hz,hp,rfl⟩ hd ⟨⟨c2,c4,c5,c6,hss⟩,hk3⟩;have hd':disj s e:=hd;have r6:=yJi hd' _ _ c6;have r4:=yJi hd' _ _ c4;have r5:=yJi hd' _ _ c5;have e6:e b6=none:=ISt.disj.off hd c6;have hw:IntKind.i64.wrap ((k:Int)+1)=((k+1:Nat):Int):=by rw[w64]<;>omega
   have q4:∀o,((join s e).put b6 o) b4=some (.box [.sl ⟨true,.nil,0⟩ []]):=λo=>by rw[yQz h46];exact r4
   have q5:∀o o',(((join s e).put b6 o).put b4 o') b5=some (.box [.raw (.int .i64 0)]):=λo o'=>by rw[yQz h45.symm,yQz h56];exact r5
   by_cases hbig:300<k+1
   ·have hb:decide ((300:Int)<((k+1:Nat):Int))=true:=dEt (by omega);simp only[go_sem,zE,zL,r6,hw,ISt.put_same,hb,q4,q5];refine⟨⟨rfl,⟨⟨true,.nil,0⟩,?_,.inl rfl⟩,ISt.put_same ..,yZ7 (yZ7 (yZ7 (hss.trans (yJi hd')) hb6') hb4) hb5⟩,?_⟩
    ·rw[yQz h45,ISt.put_same];rfl
    ·have:=(lGs hkz).1;rw[zY1] at this;omega
   ·have hb:decide ((300:Int)<((k+1:Nat):Int))=false:=dEf (by omega);simp only[go_sem,zE,zL,r6,hw,ISt.put_same,hb];refine⟨s.put b6 (some (.box [.raw (.int .i64 ((k+1:Nat):Int))])),⟨⟨by rw[yQz h26];exact c2,by rw[yQz h46];exact c4,by rw[yQz h56];exact c5,ISt.put_same ..,yZ7 hss hb6'⟩,by omega⟩,ISt.disj.put hd e6,ISt.put_add e6⟩
  ·rintro s r ⟨⟨c2,c4,c5,c6,hss⟩,hk3⟩;rw[zY1] at hk3;have hq:yJp ca t=yZx (yJ4 ca) (t.walk []):=by
    unfold yJp;rw[hk];simp only[Bool.not_true,bFt,if_false];rw[if_neg (by omega)]
   simp only[go_sem,zE,zA];refine (hst _).mono ?_;rintro _ _ ⟨rfl,rfl⟩;simp only[go_sem,reduceCtorEq];refine RangeL.intro (lkT (t.walk [])) (t.walk []).length (λk s=>(s b2=some (.box [.raw (.int .u8 ca)])/\s b4=some (.box [.sl ⟨true,.nil,0⟩ []])/\s b5=some (.box [.raw (.int .i64 0)])/\subSt st s)/\yZx (yJ4 ca) ((t.walk []).take k)=([],0)) (λe s=>CkS st b4 b5 (yJp ca t) e s) rfl ?_ ?_ ?_ (hit _) ?_ ?_
   ·rintro k a e ⟨p,u,a,y,_,_,_,rfl⟩;rfl
   ·exact⟨⟨c2,c4,c5,hss⟩,by simp[yZx]⟩
   ·rintro k _ e s ⟨p,z,a,y,hkz,hz,hp,rfl⟩ hd ⟨⟨c2,c4,c5,hss⟩,hf⟩;have hd':disj s e:=hd;have r2:=yJi hd' _ _ c2;have hpl:=zGx [] t _ (lMg hkz);have hfd:=hfit.2;simp only[List.length_nil] at hpl;have hck:=λst=>wKt gl G T ca z y hz (hfit.1 _ (lMg hkz)) st;have hcl:=wUa gl p a e s hp (by omega) hd';have hiv:ivOf (.iv a)=some a:=by rcases hp with⟨t,rfl,_⟩|⟨g,cap,cs,rfl,_⟩<;>rfl
    obtain⟨rule',tl',xl',tr',xr',op',fn',ta',xa',tb',xb',v',un',tu',xu',n',ts',xs',rfl⟩:=zU4 hz;simp only[go_sem,zE,zA,r2,hiv];refine (hck _).mono ?_;rintro _ _ ⟨rfl,rfl⟩;by_cases h0:yJ4 ca z=0
    ·have d0:decide (((yJ4 ca z:Nat):Int)=0)=true:=dEt (by omega);simp only[go_sem,d0];refine⟨s,⟨⟨c2,c4,c5,hss⟩,?_⟩,hd,rfl⟩;rw[yQ5 hkz,yVj,hf];simp[yZx,h0]
    ·have d0:decide (((yJ4 ca z:Nat):Int)=0)=false:=dEf (by omega);have hv:yJp ca t=(p,yJ4 ca z):=by
      rw[hq]
      conv=>lhs;rw[<- List.take_append_drop k (t.walk [])]
      rw[List.drop_eq_getElem_cons (lGs hkz).1,(lGs hkz).2,yVj,hf];simp[yZx,h0]
     simp only[go_sem,zE,zA,d0,hiv];refine hcl.mono ?_;rintro _ _ ⟨⟨t',rfl,ht'⟩,rfl⟩;simp only[go_sem,zE,zL,c4,c5,g5];refine⟨rfl,⟨t',?_,ht'⟩,?_,hsub' _ _ _ hss⟩
     ·rw[g4,hv]
     ·rw[ISt.put_same,hv]
   ·rintro s r ⟨⟨c2,c4,c5,hss⟩,hf⟩;rw[lTl,<- hq] at hf;simp only[go_sem,zE,zL,c4,c5,g5,g4,ISt.put_same];exact yQ9 (hsub' _ _ _ hss) ⟨⟨_,by rw[hf];rfl,.inl rfl⟩,rfl⟩
   ·rintro e s r ⟨rfl,⟨tg,c4,ht⟩,c5,hss⟩;simp only[go_sem,zE,c4,c5];exact yQ9 hss ⟨⟨_,rfl,ht⟩,rfl⟩
  ·rintro e s r ⟨⟨rfl,⟨tg,c4,ht⟩,c5,hss⟩,hb⟩;have hq:yJp ca t=([],5):=by unfold yJp;rw[hk,if_pos hb];rfl
   simp only[go_sem,zE,c4,c5];exact yQ9 hss ⟨⟨_,by rw[hq],ht⟩,rfl⟩
theorem xXn {p:List Nat}{k a:Nat}(h:p[k]?=some a):(plI p)[k]?=some (.raw (.int .i64 (a:Int))):=by simp[plI,List.getElem?_map,h]
theorem zW6 (p q:List Nat):plI (p++q)=plI p++plI q:=by simp[plI]
def sumN:List Nat->Nat
 | []=>0
 | a::l=>a+sumN l
theorem yU6:∀l m:List Nat,sumN (l++m)=sumN l+sumN m
 | [],m=>by simp[sumN]
 | a::l,m=>by simp only[List.cons_append,sumN,yU6 l m];omega
theorem xGt (l:List Nat)(k:Nat):sumN (l.take k)<=sumN l:=by
 conv=>rhs;rw[<- List.take_append_drop k l]
 rw[yU6];omega
def maxN:List Nat->Nat
 | []=>0
 | a::l=>max a (maxN l)
theorem yUd:∀l m:List Nat,maxN (l++m)=max (maxN l) (maxN m)
 | [],m=>by simp[maxN]
 | a::l,m=>by simp only[List.cons_append,maxN,yUd l m];omega
theorem vQy (tg:Tag)(l:List Nat)(htg:okEs tg 1)(hs:sumN l<=4611686018427387904)(st:ISt):ICall prog gl 84 [.sl tg (plI l)] st (λr st'=>r=.raw (.int .i64 (sumN l))/\st'=st):=by
 refine iI func84 ?_;simp only[go_sem,reduceCtorEq,yVf];intro _;refine LoopC.ctr l.length (λk fr st' ds=>fr 3=.iv (.raw (.int .i64 (sumN (l.take k))))/\fr 6=.iv (.sl tg (plI l))/\fr 7=.iv (.raw (.int .i64 l.length))/\fr 8=.iv (.raw (.int .i64 k))/\st'=st/\ds=[]) ?_ ?_ ?_
 ·simp only[go_sem,zE];simp[sumN]
 ·rintro k fr st1 _ hlt ⟨f3,f6,f7,f8,rfl,rfl⟩;obtain⟨a,ha⟩:=yQ2 hlt;have h1:=xGt l (k+1);have h2:sumN (l.take (k+1))=sumN (l.take k)+a:=by rw[yQ5 ha,yU6];rfl
  have h3:IntKind.i64.wrap (((sumN (l.take k):Nat):Int)+(a:Int))=((sumN (l.take (k+1)):Nat):Int):=by rw[w64]<;>omega
  simp only[go_sem,zE,f3,f6,f7,f8,lt_i hlt,yQ1 htg,iNn,xXn ha,fits,h3,yQa hlt (show l.length<=281474976710656 by omega)]
 ·rintro fr st1 _ ⟨f3,f6,f7,f8,rfl,rfl⟩;rw[lTl] at f3;simp only[go_sem,zE,f3,f7,f8,yQk (nLi _)];exact yQ0 ⟨rfl,rfl⟩
theorem uX2 (a b:Nat):max (a:Int) (b:Int)=((max a b:Nat):Int):=by omega
theorem uWy (tg:Tag)(l:List Nat)(htg:okEs tg 1)(hl:0<l.length)(st:ISt):ICall prog gl 86 [.sl tg (plI l)] st (λr st'=>r=.raw (.int .i64 (maxN l))/\st'=st):=by
 obtain⟨a0,ha0⟩:=yQ2 hl;have d1:decide (((l.length:Nat):Int)<1)=false:=dEf (by omega);have t1:l.take 1=[a0]:=by
  have:=yQ5 ha0;simpa using this
 refine iI func86 ?_;simp only[go_sem,reduceCtorEq,yVf];intro hlen;simp only[go_sem,reduceCtorEq,d1,yQ1 htg,Int.le_refl,Int.toNat_zero,xXn ha0,fits];refine LoopC.ctr (l.length-1) (λk fr st' ds=>fr 3=.iv (.raw (.int .i64 (maxN (l.take (k+1)))))/\fr 0=.iv (.sl tg (plI l))/\fr 4=.iv (.raw (.int .i64 ((k+1:Nat):Int)))/\st'=st/\ds=[]) ?_ ?_ ?_
 ·simp only[go_sem,zE,reduceCtorEq,t1];simp[maxN]
 ·rintro k fr st1 _ hlt ⟨f3,f0,f4,rfl,rfl⟩;obtain⟨a,ha⟩:=yQ2 (l:=l) (k:=k+1) (by omega);have h2:maxN (l.take (k+1+1))=max (maxN (l.take (k+1))) a:=by rw[yQ5 ha,yUd];simp[maxN]
  simp only[go_sem,zE,reduceCtorEq,f3,f0,f4,yVf,lt_i (show k+1<l.length by omega),yQ1 htg,iNn,xXn ha,fits,uX2,yQa (show k+1<l.length by omega) (show l.length<=281474976710656 by omega)];intro _;rw[h2]
 ·rintro fr st1 _ ⟨f3,f0,f4,rfl,rfl⟩;rw[show l.length-1+1=l.length by omega] at f3 f4;rw[lTl] at f3;simp only[go_sem,zE,reduceCtorEq,f3,f0,f4,yVf,yQk (nLi _)];intro _;exact yQ0 ⟨rfl,rfl⟩
def wXp:Tr->List Tr
 | .mk _ _ _ _ _ sub=>sub
def zWx (g:Nat)(v:Tr->Nat):Prop:=∀(t:Tr) (l:List Nat) (x:IV) (tg:Tag) (st0 st:ISt),IsTr t x->t.steps<=1099511627776->l=(wXp t).map v->own st tg l.length 1 st0->subSt st0 st →
 ICall prog gl g [x,.sl tg (plI l)] st (λr st'=>r=.raw (.int .i64 (v t))/\subSt st0 st')
theorem zUb:∀ {l:List Tr}{t:Tr},t∈l->t.steps<=yX9 l
 | a::l,t,h=>by
  simp only[yX9];rcases List.mem_cons.1 h with rfl|h
  ·omega
  ·have:=zUb h;omega
theorem yYu:∀l:List Tr,l.length<=yX9 l
 | []=>Nat.le_refl _
 | .mk _ _ _ _ _ s::l=>by
  have:=yYu l;simp only[List.length_cons,yX9,Tr.steps];omega
def wV8 (v:Tr->Nat)(g:Nat)(t:Tr):Prop:=∀(x:IV) (_:IsTr t x) (_:t.steps<=1099511627776) (st:ISt),ICall prog gl 82 [x,.fn (.func g) [] []] st (λr st'=>r=.raw (.int .i64 (v t))/\st'=st)
theorem wZ7 (v:Tr->Nat)(g:Nat)(hent:entI prog g=true)(hg:zWx gl g v)(rule:Nat)(sq:Sq)(f:Fm)(u:Tm)(n:ByteArray)(sub:List Tr)(IH:∀a∈sub,wV8 gl v g a):wV8 gl v g (.mk rule sq f u n sub):=by
 intro x hx hs st;have hx0:=hx;obtain⟨tl,xl,tr,xr,op,fn,ta,xa,tb,xb,vb,un,tu,xu,ts,xs,rfl,hru,_,_,_,_,_,_,e3,i3⟩:=hx.mk;have hs0:=hs;simp only[Tr.steps] at hs;have hll:=yYu sub;refine iI func82 ?_;simp only[go_sem,zE,i3.len];intro _;refine LoopC.ctr sub.length (λk fr st' ds=>(∃tg',fr 5=.iv (.sl tg' (plI ((sub.take k).map v)))/\own st' tg' k 1 st/\subSt st st')/\fr 1=.iv (.fn (.func g) [] [])/\fr 2=.box [.raw (.int .u8 rule),.sl tl xl,.sl tr xr,.raw (.int .u8 op),.raw (.string fn),.sl ta xa,.sl tb xb,.raw (.bool vb),.raw (.string un),.sl tu xu,.raw (.string n),.sl ts xs] /\
  fr 9=.iv (.sl ts xs)/\fr 10=.iv (.raw (.int .i64 sub.length))/\fr 11=.iv (.raw (.int .i64 k))/\ds=[]) ?_ ?_ ?_
 ·simp only[go_sem,zE];exact⟨⟨_,rfl,.inl ⟨rfl,rfl⟩,subSt.refl _⟩,rfl⟩
 ·rintro k fr st1 _ hlt ⟨⟨tg',f5,hown,hsub⟩,f1,f2,f9,f10,f11,rfl⟩;obtain⟨a,ha⟩:=yQ2 hlt;obtain⟨z,hkz,hz⟩:=i3.get ha;have hst:=zUb (lMg ha);have hcall:=IH a (lMg ha) z hz (by omega) st1;obtain⟨rule',tl',xl',tr',xr',op',fn',ta',xa',tb',xb',v',un',tu',xu',n',ts',xs',rfl⟩:=zU4 hz;simp only[go_sem,zE,zB,zA,zL,f1,f5,f9,f10,f11,lt_i hlt,yQ1 e3,iNn,hkz,fits];refine hcall.mono ?_;rintro _ _ ⟨rfl,rfl⟩;simp only[go_sem,zE,zA,zM,zL,fits,zK1];refine yXm hown (by rw[yVf,List.length_map,List.length_take];omega) hsub rfl (by simp[fits,IV.one]) (by simp only;omega) (by omega) λtg2 st4 hown2 hsub4 _ _=>?_;simp only[go_sem,zE,f1,f2,f9,f10,f11,yQa hlt (show sub.length<=281474976710656 by omega)];exact⟨tg2,by rw[yQ5 ha,List.map_append,zW6];rfl,hown2,hsub4⟩
 ·rintro fr st1 _ ⟨⟨tg',f5,hown,hsub⟩,f1,f2,f9,f10,f11,rfl⟩;rw[lTl] at f5;have hcall:=hg _ (sub.map v) _ tg' st st1 hx0 hs0 rfl (by rw[List.length_map];exact hown) hsub;simp only[go_sem,zE,zA,zL,f1,f2,f5,f10,f11,yQk (nLi _),hent];refine hcall.mono ?_;rintro _ st2 ⟨rfl,hsub2⟩;simp only[go_sem];exact yQ9 hsub2 ⟨rfl,rfl⟩
theorem xVr (v:Tr->Nat)(g:Nat)(hent:entI prog g=true)(hg:zWx gl g v):∀(k:Nat) (t:Tr),SizeOf.sizeOf t<k->wV8 gl v g t
 | 0,t,h=>by omega
 | k+1,.mk r sq f u n sub,h=>wZ7 gl v g hent hg r sq f u n sub (λa ha=>xVr v g hent hg k a (by
   have:=lSm ha;simp at h;omega))
theorem wZ8 (v:Tr->Nat)(g:Nat)(hent:entI prog g=true)(hg:zWx gl g v)(t:Tr):wV8 gl v g t:=xVr gl v g hent hg _ t (Nat.lt_succ_self _)
theorem zJ5:∀l:List Tr,sumN (l.map Tr.steps)=yX9 l
 | []=>rfl
 | a::l=>by simp only[List.map_cons,sumN,yX9,zJ5 l]
theorem zY6:∀l:List Tr,sumN (l.map Tr.cuts)=yG3 l
 | []=>rfl
 | a::l=>by simp only[List.map_cons,sumN,yG3,zY6 l]
theorem zJp:∀l:List Tr,maxN (l.map Tr.height)=yXc l
 | []=>rfl
 | a::l=>by simp only[List.map_cons,maxN,yXc,zJp l]
mutual
theorem wGr:∀t:Tr,t.cuts<=t.steps
 | .mk _ _ _ _ _ sub=>by
  have:=zZd sub;simp only[Tr.cuts,Tr.steps];split<;>omega
theorem zZd:∀l:List Tr,yG3 l<=yX9 l
 | []=>Nat.le_refl _
 | a::l=>by
  have:=wGr a;have:=zZd l;simp only[yG3,yX9];omega
end
mutual
theorem wZ2:∀t:Tr,t.height<=t.steps
 | .mk _ _ _ _ _ sub=>by
  have:=yYz sub;simp only[Tr.height,Tr.steps];omega
theorem yYz:∀l:List Tr,yXc l<=yX9 l
 | []=>Nat.le_refl _
 | a::l=>by
  have:=wZ2 a;have:=yYz l;simp only[yXc,yX9];omega
end
theorem wZ9:zWx gl 83 Tr.steps:=by
 rintro⟨rule,s,m,u,n,sub⟩ l x tg st0 st hx hs rfl hown hsub;simp only[wXp] at hown ⊢;simp only[Tr.steps] at hs;have hsum:=λst=>vQy gl tg (sub.map Tr.steps) hown.es (by rw[zJ5];omega) st;have hw:IntKind.i64.wrap (1+((yX9 sub:Nat):Int))=((1+yX9 sub:Nat):Int):=by rw[w64]<;>omega
 rw[zJ5] at hsum;obtain⟨rule',tl',xl',tr',xr',op',fn',ta',xa',tb',xb',v',un',tu',xu',n',ts',xs',rfl⟩:=zU4 hx;refine iI func83 ?_;simp only[go_sem,zE,zA];refine (hsum _).mono ?_;rintro _ _ ⟨rfl,rfl⟩;simp only[go_sem,hw];exact yQ0 ⟨by simp only[Tr.steps],hsub⟩
theorem wK9:zWx gl 87 Tr.cuts:=by
 rintro⟨rule,s,m,u,n,sub⟩ l x tg st0 st hx hs rfl hown hsub;simp only[wXp] at hown ⊢;simp only[Tr.steps] at hs;have hcs:=zZd sub;have hsum:=λst=>vQy gl tg (sub.map Tr.cuts) hown.es (by rw[zY6];omega) st;have hw:IntKind.i64.wrap (1+((yG3 sub:Nat):Int))=((1+yG3 sub:Nat):Int):=by rw[w64]<;>omega
 rw[zY6] at hsum;obtain⟨tl',xl',tr',xr',op',fn',ta',xa',tb',xb',v',un',tu',xu',ts',xs',rfl,_⟩:=hx.mk;refine iI func87 ?_;by_cases h:rule=17
 ·have d:decide ((rule:Int)=17)=true:=dEt (by omega);simp only[go_sem,zE,zA,d];refine (hsum _).mono ?_;rintro _ _ ⟨rfl,rfl⟩;simp only[go_sem,hw];exact yQ0 ⟨by simp only[Tr.cuts,if_pos h],hsub⟩
 ·have d:decide ((rule:Int)=17)=false:=dEf (by omega);simp only[go_sem,zE,zA,d];refine (hsum _).mono ?_;rintro _ _ ⟨rfl,rfl⟩;simp only[go_sem];exact yQ0 ⟨by simp only[Tr.cuts,if_neg h,Nat.zero_add],hsub⟩
theorem xYq:zWx gl 85 Tr.height:=by
 rintro⟨rule,s,m,u,n,sub⟩ l x tg st0 st hx hs rfl hown hsub;simp only[wXp] at hown ⊢;simp only[Tr.steps] at hs;have hcs:=yYz sub;have hll:=yYu sub;have hw:IntKind.i64.wrap (1+((yXc sub:Nat):Int))=((1+yXc sub:Nat):Int):=by rw[w64]<;>omega
 have hm:maxN (sub.map Tr.height++[0])=yXc sub:=by rw[yUd,zJp];simp[maxN]
 obtain⟨rule',tl',xl',tr',xr',op',fn',ta',xa',tb',xb',v',un',tu',xu',n',ts',xs',rfl⟩:=zU4 hx;refine iI func85 ?_;simp only[go_sem,zE,zA,zM,zL,fits,yQ4];refine yXm hown (by rw[yVf]) hsub rfl (by simp[fits,IV.one]) (by simp only[List.length_map];omega) (by simp only[List.length_map];omega) λtg2 st4 hown2 hsub4 _ _=>?_;have hmax:=λst=>uWy gl tg2 (sub.map Tr.height++[0]) hown2.es (by simp) st;rw[hm,zW6] at hmax;simp only[go_sem,zA];refine (hmax _).mono ?_;rintro _ _ ⟨rfl,rfl⟩;simp only[go_sem,hw];exact yQ0 ⟨by simp only[Tr.height],hsub4⟩
theorem wU5 (t:Tr)(x:IV)(hx:IsTr t x)(hs:t.steps<=1099511627776)(st:ISt):ICall prog gl 32 [x] st (λr st'=>r=.raw (.int .i64 (t.steps))/\st'=st):=by
 have hf:=λst=>wZ8 gl Tr.steps 83 (by simp only[go_sem]) (wZ9 gl) t x hx hs st;obtain⟨rule',tl',xl',tr',xr',op',fn',ta',xa',tb',xb',v',un',tu',xu',n',ts',xs',rfl⟩:=zU4 hx;refine iI func32 ?_;simp only[go_sem,zE,zA,zL];refine (hf _).mono ?_;rintro _ _ ⟨rfl,rfl⟩;simp only[go_sem];exact yQ0 ⟨rfl,rfl⟩
theorem wV7 (t:Tr)(x:IV)(hx:IsTr t x)(hs:t.steps<=1099511627776)(st:ISt):ICall prog gl 34 [x] st (λr st'=>r=.raw (.int .i64 (t.height))/\st'=st):=by
 have hf:=λst=>wZ8 gl Tr.height 85 (by simp only[go_sem]) (xYq gl) t x hx hs st;obtain⟨rule',tl',xl',tr',xr',op',fn',ta',xa',tb',xb',v',un',tu',xu',n',ts',xs',rfl⟩:=zU4 hx;refine iI func34 ?_;simp only[go_sem,zE,zA,zL];refine (hf _).mono ?_;rintro _ _ ⟨rfl,rfl⟩;simp only[go_sem];exact yQ0 ⟨rfl,rfl⟩
theorem vK3 (t:Tr)(x:IV)(hx:IsTr t x)(hs:t.steps<=1099511627776)(st:ISt):ICall prog gl 36 [x] st (λr st'=>r=.raw (.int .i64 (t.cuts))/\st'=st):=by
 have hf:=λst=>wZ8 gl Tr.cuts 87 (by simp only[go_sem]) (wK9 gl) t x hx hs st;obtain⟨rule',tl',xl',tr',xr',op',fn',ta',xa',tb',xb',v',un',tu',xu',n',ts',xs',rfl⟩:=zU4 hx;refine iI func36 ?_;simp only[go_sem,zE,zA,zL];refine (hf _).mono ?_;rintro _ _ ⟨rfl,rfl⟩;simp only[go_sem];exact yQ0 ⟨rfl,rfl⟩
def uX0 (s:Sq)(f:Fm)(u:Tm)(n:ByteArray):Bool:=decide (wFms s.l+wFms s.r<=300)&&!decide (300<wFm f)&&!decide (300<wTm u)&&!decide (100<n.size)
mutual
def okT:Tr->Bool
 | .mk _ s f u n sub=>uX0 s f u n&&okTs sub
def okTs:List Tr->Bool
 | []=>true
 | a::l=>okT a&&okTs l
end
theorem Sum.gt {w:Nat}{r:IV}(h:Sum w 300 r):∃n:Nat,r=.raw (.int .i64 n)/\decide ((300:Int)<(n:Int))=decide (300<w):=by
 obtain⟨n,rfl,h1,h2⟩:=h;refine⟨n,rfl,?_⟩;rw[decide_eq_decide];constructor
 ·intro h;omega
 ·intro h;rcases Int.lt_or_le 300 (n:Int) with hn|hn
  ·exact hn
  ·have:=h2 hn;omega
def Left (t:Tr)(left:Int)(r:Int):Prop:=-1<=r/\r<=left/\(0<=r↔okT t=true/\(t.steps:Int)<=left)/\(0<=r->r=left-t.steps)
