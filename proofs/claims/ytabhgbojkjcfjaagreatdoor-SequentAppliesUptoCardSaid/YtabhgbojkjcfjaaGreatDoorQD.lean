/- Plain laws of sequents: order and repeti -/
import Derived.Test.YtabhgbojkjcfjaaGreatDoorQC
import Derived.Test.YtabhgbojkjcfjaaGreatDoorKU
import Derived.Test.YtabhgbojkjcfjaaGreatDoorLE
import Derived.Test.YtabhgbojkjcfjaaGreatDoorKG
import Derived.Test.YtabhgbojkjcfjaaGreatDoorLF
set_option linter.all false
open Nat renaming reduceEqDiff → zE,reduceBEq → zB,reduceAdd → zA,reduceMul → zM,reduceLeDiff → zL
namespace Go.Proofs.Tryz
open Go Go.Iv
theorem wW8 {a b:Fm}:eqF a b=true↔a.op=b.op/\a.right=true/\b.right=true/\dbF [] a=dbF [] b:=by
 unfold eqF yKb;simp only[bAt,dTe,yQk,and_assoc]
theorem xYe {a:Fm}(h:a.right=true):eqF a a=true:=wW8.2 ⟨rfl,h,h,rfl⟩
theorem xZx {l:List Fm}{f:Fm}:hasF l f=true↔∃g∈l,eqF f g=true:=by simp[hasF]
end Go.Proofs.Tryz
namespace Go.Proofs.Tryz
open Go Go.Iv
section
variable {ca rule:Nat}{s:Sq}{f:Fm}{u:Tm}{n:ByteArray}{sub:List Tr}(h:(yJv ca (.mk rule s f u n sub)).2=0)(h1:s.l.length<64)(h2:s.r.length<64)
include h h1 h2
end
end Go.Proofs.Tryz
namespace Go.Proofs.Tryz
open Go Go.Iv
section
variable {ca rule:Nat}{s:Sq}{f:Fm}{u:Tm}{n:ByteArray}{sub:List Tr}(h:(yJv ca (.mk rule s f u n sub)).2=0)
include h
end
end Go.Proofs.Tryz
namespace Go.Proofs.Tryz
open Go Go.Iv
theorem zZ3 {ca:Nat}{f:Fm}:fmB ca f=true↔f.ok=true/\f.size<=400/\f.deep<=40/\opsB ca f=true:=by
 unfold fmB Fm.right;simp only[bAt,dTe,and_assoc]
end Go.Proofs.Tryz
namespace Go.Proofs.Tryz
open Go Go.Iv
theorem yYm {α:Type}{c:Prop} [Decidable c]{a r:α}{x:Option α}(h:(if c then some a else x)=some r):(c/\r=a)\/(¬c/\x=some r):=by
 by_cases hc:c
 ·rw[if_pos hc] at h;exact .inl ⟨hc,(Option.some.inj h).symm⟩
 ·rw[if_neg hc] at h;exact .inr ⟨hc,h⟩
theorem wV8 {α:Type}{c:Prop} [Decidable c]{a b r:α}(h:(if c then a else b)=r):(c/\a=r)\/(¬c/\b=r):=by
 by_cases hc:c
 ·rw[if_pos hc] at h;exact .inl ⟨hc,h⟩
 ·rw[if_neg hc] at h;exact .inr ⟨hc,h⟩
theorem xQw {ca rule:Nat}{r:Rw}(h:rowS ca rule=some r):(rule=1/\r=⟨true,true,0,0⟩)\/(rule=2/\r=⟨true,false,2,0⟩)\/(rule=3/\r=⟨true,false,3,0⟩)\/(rule=4/\r=⟨false,true,3,0⟩)\/(rule=5/\r=⟨true,false,4,0⟩)\/(rule=6/\r=⟨false,true,4,0⟩) \/
  (rule=7/\r=⟨true,false,5,0⟩)\/(rule=8/\r=⟨false,true,5,0⟩)\/(rule=9/\r=⟨true,false,6,0⟩)\/(rule=10/\r=⟨false,true,6,0⟩)\/(rule=11/\r=⟨true,false,7,0⟩)\/(rule=12/\r=⟨false,true,7,0⟩) \/
  (rule=13/\r=⟨true,false,8,1⟩)\/(rule=14/\r=⟨false,true,8,2⟩)\/(rule=15/\r=⟨true,false,9,2⟩)\/(rule=16/\r=⟨false,true,9,1⟩)\/(rule=17/\r=⟨false,false,0,0⟩)\/(rule=18/\r=⟨false,true,5,0⟩):=by
 unfold rowS rowK at h;rcases yYm h with⟨⟨hc,hr⟩,hq⟩|⟨_,h⟩
 ·subst hr;subst hq;simp
 rcases yYm h with⟨⟨hc,hr⟩,hq⟩|⟨_,h⟩
 ·subst hr;subst hq;simp
 rcases yYm h with⟨⟨hc,hr⟩,hq⟩|⟨_,h⟩
 ·subst hr;subst hq;simp
 rcases yYm h with⟨⟨hc,hr⟩,hq⟩|⟨_,h⟩
 ·subst hr;subst hq;simp
 rcases yYm h with⟨⟨hc,hr⟩,hq⟩|⟨_,h⟩
 ·subst hr;subst hq;simp
 rcases yYm h with⟨hr,hq⟩|⟨_,h⟩
 ·subst hr;subst hq;simp
 rcases yYm h with⟨hr,hq⟩|⟨_,h⟩
 ·subst hr;subst hq;simp
 rcases yYm h with⟨hr,hq⟩|⟨_,h⟩
 ·subst hr;subst hq;simp
 rcases yYm h with⟨hr,hq⟩|⟨_,h⟩
 ·subst hr;subst hq;simp
 rcases yYm h with⟨hr,hq⟩|⟨_,h⟩
 ·subst hr;subst hq;simp
 rcases yYm h with⟨hr,hq⟩|⟨_,h⟩
 ·subst hr;subst hq;simp
 rcases yYm h with⟨hr,hq⟩|⟨_,h⟩
 ·subst hr;subst hq;simp
 rcases yYm h with⟨hr,hq⟩|⟨_,h⟩
 ·subst hr;subst hq;simp
 rcases yYm h with⟨hr,hq⟩|⟨_,h⟩
 ·subst hr;subst hq;simp
 rcases yYm h with⟨hr,hq⟩|⟨_,h⟩
 ·subst hr;subst hq;simp
 rcases yYm h with⟨hr,hq⟩|⟨_,h⟩
 ·subst hr;subst hq;simp
 rcases yYm h with⟨hr,hq⟩|⟨_,h⟩
 ·subst hr;subst hq;simp
 rcases yYm h with⟨hr,hq⟩|⟨_,h⟩
 ·subst hr;subst hq;simp
 cases h
end Go.Proofs.Tryz
namespace Go.Proofs.Tryz
open Go Go.Iv
set_option maxRecDepth 4000
variable (gl:Nat->Option IV)
mutual
def opsR (ca:Nat):Fm->Bool
 | .mk op _ us sub=>(!decide (9<op)&&(!decide (7<op) || decide (ca=3))&&(!decide (op=1) || !decide (0<us.length) || decide (ca=3)))&&yUt ca sub
def yUt (ca:Nat):List Fm->Bool
 | []=>true
 | a::l=>opsR ca a&&yUt ca l
end
theorem xGo {op:Nat}{n:ByteArray}{a b:Nat}(h:yZ4 op n a b=true):1<=op/\(op≠1->a=0):=by
 unfold yZ4 at h;split at h
 all_goals (first|(simp only[bAt,dTe] at h;refine⟨by decide,λh1=>?_⟩;first|exact absurd rfl h1|exact h.1.2)|cases h)
mutual
theorem wZi (ca:Nat):∀f:Fm,f.ok=true->opsR ca f=opsB ca f
 | .mk op n us sub,h=>by
  simp only[Fm.ok,bAt] at h;obtain⟨h1,h2⟩:=xGo h.1.1;have ih:=xWb ca sub h.2;simp only[opsR,opsB,ih];congr 1;have hus:us.isEmpty=decide (us.length=0):=by cases us<;>simp
  rw[hus,Bool.eq_iff_iff];simp only[bAt,Bool.or_eq_true,Bool.not_eq_true',dTe,decide_eq_false_iff_not];by_cases hc:ca=3
  ·simp only[hc,if_true,or_true,and_true,true_or];omega
  ·simp only[hc,if_false,or_false,false_or];by_cases ho:op=1
   ·simp only[ho,nTf,false_or];omega
   ·have:=h2 ho;simp only[ho,nFt,true_or,and_true,this];omega
theorem xWb (ca:Nat):∀l:List Fm,yKz l=true->yUt ca l=yYn ca l
 | [],_=>rfl
 | a::l,h=>by
  simp only[yKz,bAt] at h;simp only[yUt,yYn,wZi ca a h.1,xWb ca l h.2]
end
theorem zXi (ca:Nat):∀l m:List Fm,yUt ca (l++m)=(yUt ca l&&yUt ca m)
 | [],m=>by simp[yUt]
 | a::l,m=>by simp only[List.cons_append,yUt,zXi ca l m,Bool.and_assoc]
theorem xGn {ca:Nat}{l:List Fm}{k:Nat}{a:Fm}(h:l[k]?=some a):yUt ca (l.take (k+1))=(yUt ca (l.take k)&&opsR ca a):=by
 rw[yQ5 h,zXi];simp[yUt]
theorem wVc {ca:Nat}{l:List Fm}{a:Fm}(h:a∈l)(ha:opsR ca a=false):yUt ca l=false:=by
 induction l with
 | nil=>cases h
 | cons b l ih =>
  simp only[yUt];rcases List.mem_cons.1 h with rfl|h
  ·rw[ha];rfl
  ·rw[ih h,Bool.and_false]
def roC (ca:Nat)(f:Fm):Prop:=∀(x:IV) (_:IsFm f x) (_:f.size<=1099511627776) (st:ISt),ICall prog gl 112 [.raw (.int .u8 ca),x] st (λr st'=>r=.raw (.bool (opsR ca f))/\st'=st)
theorem wVb (ca:Nat)(o:Nat)(n:ByteArray)(us:List Tm)(sub:List Fm)(IH:∀a∈sub,roC gl ca a):roC gl ca (.mk o n us sub):=by
 intro x hx hs st;obtain⟨t1,x1,t2,x2,rfl,ho,e1,i1,e2,i2⟩:=hx.mk;simp only[Fm.size] at hs;have hlsz:=yZ8 sub;have d9:decide ((9:Int)<((o:Nat):Int))=decide (9<o):=by rw[decide_eq_decide];omega
 have d7:decide ((7:Int)<((o:Nat):Int))=decide (7<o):=by rw[decide_eq_decide];omega
 have d1:decide (((o:Nat):Int)=1)=decide (o=1):=by rw[decide_eq_decide];omega
 have d3:decide (((ca:Nat):Int)=3)=decide (ca=3):=by rw[decide_eq_decide];omega
 have du:decide ((0:Int)<((us.length:Nat):Int))=decide (0<us.length):=by rw[decide_eq_decide];omega
 refine iI func112 rfl rfl (by kernel_rfl) ?_;cases q9:decide (9<o)
 case true =>
  simp only[go_sem,zE,zA,d9,q9];intros;exact yQ0 ⟨by simp only[opsR,q9,Bool.not_true,Bool.false_and],rfl⟩
 cases q7:decide (7<o)<;>cases q3:decide (ca=3)<;>cases q1:decide (o=1)<;>cases qu:decide (0<us.length)
 all_goals
  first
   | (simp only[go_sem,zE,zA,reduceCtorEq,i1.len,d9,d7,d1,d3,du,q9,q7,q3,q1,qu]
      intros;refine LoopC.ctr sub.length (λk fr st' ds=>yUt ca (sub.take k)=true/\fr 0=.iv (.raw (.int .u8 ca))/\fr 3=.box [.raw (.int .u8 o),.raw (.string n),.sl t1 x1,.sl t2 x2]/\fr 5=.iv (.raw (.int .i64 k))/\st'=st/\ds=[]) ?_ ?_ ?_
      ·simp only[go_sem,zE,reduceCtorEq];exact⟨rfl,rfl⟩
      ·rintro k fr st1 _ hlt ⟨hk,f0,f3,f5,rfl,rfl⟩;obtain⟨a,ha⟩:=yQ3 hlt;obtain⟨z,hkz,hzz⟩:=i2.get ha;obtain⟨h1,h2⟩:=yQp ha;have hcall:=λst=>IH a (lMg ha) z hzz (by omega) st;obtain⟨o5,n5,t5,x5,t6,x6,rfl⟩:=hzz.agg;simp only[go_sem,zE,zB,zA,reduceCtorEq,f0,f3,f5,i2.len,lt_i hlt,yQ1 e2,iNn,hkz,fits];intro _;refine (hcall _).mono ?_;rintro _ st2 ⟨rfl,rfl⟩;cases hra:opsR ca a
       ·simp only[go_sem];exact yQ0 ⟨by simp only[opsR,wVc (lMg ha) hra,Bool.and_false],rfl⟩
       ·simp only[go_sem,zE,reduceCtorEq,f0,f3,f5,yQa hlt (show sub.length<=281474976710656 by omega)];rw[xGn ha,hk,hra];rfl
      ·rintro fr st1 _ ⟨hk,f0,f3,f5,rfl,rfl⟩;rw[lTl] at hk;simp only[go_sem,zE,f3,f5,i2.len,yQj (nLi _)];intro _;exact yQ0 ⟨by unfold opsR;rw[hk,q9,q7,q3,q1,qu];rfl,rfl⟩
      done)
   | (simp only[go_sem,zE,zA,reduceCtorEq,i1.len,d9,d7,d1,d3,du,q9,q7,q3,q1,qu]
      intros;exact yQ0 ⟨by unfold opsR;rw[q9,q7,q3,q1,qu];rfl,rfl⟩)
theorem wZh (ca:Nat):∀(k:Nat) (f:Fm),SizeOf.sizeOf f<k->roC gl ca f
 | 0,f,h=>by omega
 | k+1,.mk o n us sub,h=>wVb gl ca o n us sub (λa ha=>wZh ca k a (by
   have:=lSm ha;simp only[Fm.mk.sizeOf_spec] at h;omega))
theorem wZa (ca:Nat)(f:Fm)(x:IV)(hx:IsFm f x)(hs:f.size<=1099511627776)(st:ISt):ICall prog gl 65 [.raw (.int .u8 ca),x] st (λr st'=>r=.raw (.bool (fmB ca f))/\st'=st):=by
 have h1:=λst=>zJ8 gl f x hx hs st;have h2:=λst=>wZh gl ca _ f (Nat.lt_succ_self _) x hx hs st;unfold fmB;obtain⟨o5,n5,t5,x5,t6,x6,rfl⟩:=hx.agg;refine iI func65 rfl rfl (by kernel_rfl) ?_;simp only[go_sem,zE,zA,zL];refine (h1 _).mono ?_;rintro _ st ⟨rfl,rfl⟩;cases hr:f.right
 ·simp only[go_sem,zE];exact yQ0 ⟨rfl,rfl⟩
 simp only[go_sem,zE,zA,zL,reduceCtorEq];refine (h2 _).mono ?_;rintro _ st ⟨rfl,rfl⟩;simp only[go_sem,zE];exact yQ0 ⟨by rw[wZi ca f (yJp hr).1],rfl⟩
theorem wWv {a b:Fm}(h:yKb a b=true):a.op=b.op:=by
 unfold yKb at h;simp only[bAt] at h;have:=yQk.1 h.2;obtain⟨o,n,us,sub⟩:=a;obtain⟨o',n',us',sub'⟩:=b;simp only[dbF] at this;split at this<;>split at this<;>simp only[NlF.mk.injEq] at this<;>exact this.1
theorem xX8 (a b:Fm):eqF a b=yKb b a:=by
 unfold eqF;rw[Bool.eq_iff_iff,bAt,dTe];have hs:∀x y:Fm,yKb x y=true->yKb y x=true:=λx y h=>by
  unfold yKb at h ⊢;simp only[bAt] at h ⊢;exact⟨⟨h.1.2,h.1.1⟩,yQk.2 (yQk.1 h.2).symm⟩
 exact⟨λh=>hs _ _ h.2,λh=>⟨(wWv h).symm,hs _ _ h⟩⟩
theorem wYo (G:Gl gl)(l:List Fm)(tg:Tag)(xs:List IV)(htg:okEs tg 4)(hxs:IsFms l xs)(f:Fm)(y:IV)(hy:IsFm f y)(hl:fitL l)(hf:f.size<=1000000)(hlen:l.length<=1099511627776)(st:ISt) :
  ICall prog gl 51 [.sl tg xs,y] st (λr st'=>r=.raw (.bool (hasF l f))/\st'=st):=by
 have hA:=λg z hz (hg:g.size<=1000000) st=>xW1 gl g f z y hz hy (by omega) (by omega) st;obtain⟨o9,n9,t9,x9,t8,x8,rfl⟩:=hy.agg;refine iI func51 rfl rfl (by kernel_rfl) ?_;simp only[go_sem];refine LoopC.ctr l.length (λk fr st' ds=>hasF (l.take k) f=false/\fr 0=.iv (.sl tg xs)/\fr 3=.box [.raw (.int .u8 o9),.raw (.string n9),.sl t9 x9,.sl t8 x8]/\fr 5=.iv (.raw (.int .i64 k))/\st'=st/\ds=[]) ?_ ?_ ?_
 ·simp only[go_sem,zE,reduceCtorEq];exact⟨rfl,rfl⟩
 ·rintro k fr st1 _ hlt ⟨hk,f0,f3,f5,rfl,rfl⟩;obtain⟨a,ha⟩:=yQ3 hlt;have ham:=lMg ha;obtain⟨z,hkz,hzz⟩:=hxs.get ha;have hcall:=λst=>hA a z hzz (hl a ham) st;obtain⟨o5,n5,t5,x5,t6,x6,rfl⟩:=hzz.agg;simp only[go_sem,zE,zB,zA,zL,reduceCtorEq,f0,f3,f5,hxs.len,lt_i hlt,yQ1 htg,iNn,hkz,fits];intro _;refine (hcall _).mono ?_;rintro _ st2 ⟨rfl,rfl⟩;rw[<- xX8];cases hra:eqF f a
  ·simp only[go_sem,zE,reduceCtorEq,f0,f3,f5,yQa hlt (show l.length<=281474976710656 by omega)];unfold hasF at hk ⊢;rw[yQ5 ha,List.any_append,hk];simp[hra]
  ·simp only[go_sem];refine yQ0 ⟨?_,rfl⟩;have:hasF l f=true:=xZx.2 ⟨a,ham,hra⟩;rw[this]
 ·rintro fr st1 _ ⟨hk,f0,f3,f5,rfl,rfl⟩;rw[lTl] at hk;simp only[go_sem,zE,reduceCtorEq,f0,f5,hxs.len,yQj (nLi _)];intro _;exact yQ0 ⟨by rw[hk],rfl⟩
theorem yJ6 (t:Tag)(xs:List IV)(t':Tag)(ys:List IV)(st:ISt):ICall prog gl 66 [.sl t xs,.sl t' ys] st (λr st'=>r=.agg [.sl t xs,.sl t' ys]/\st'=st):=by
 refine iI func66 rfl rfl (by kernel_rfl) ?_;simp only[go_sem,zE,zA,zL,reduceCtorEq,fits];exact yQ0 ⟨rfl,rfl⟩
def yKl (ca rule:Nat)(x:IV):Prop:=match rowS ca rule with
 | some r=>x=.tup [.raw (.int .u8 r.op),.raw (.bool r.left),.raw (.bool r.right),.raw (.bool true)]
 | none=>∃(o:Int) (a b:Bool),x=.tup [.raw (.int .u8 o),.raw (.bool a),.raw (.bool b),.raw (.bool false)]
end Go.Proofs.Tryz
namespace Go.Proofs.Tryz
open Go Go.Iv
section
variable (nm:ByteArray)(g:Fm)
mutual
def repF:Fm->Fm
 | .mk o n us sub=>if o=1/\n=nm/\us.length=0 then g else .mk o n us (wKx sub)
def wKx:List Fm->List Fm
 | []=>[]
 | a::l=>repF a::wKx l
end
def repS (s:Sq):Sq:=⟨wKx nm g s.l,wKx nm g s.r⟩
mutual
def repT:Tr->Tr
 | .mk rule s f u n sub=>.mk rule (repS nm g s) (repF nm g f) u n (vJa sub)
def vJa:List Tr->List Tr
 | []=>[]
 | a::l=>repT a::vJa l
end
end
section
variable {nm:ByteArray}{g:Fm}{ca:Nat}
end
theorem wUv {op:Nat}{n:ByteArray}{us:List Tm}{sub:List Fm}(h:(Fm.mk op n us sub).ok=true):(op=3\/op=8\/op=9->sub.length=1)/\(op=4\/op=5\/op=6\/op=7->sub.length=2):=by
 simp only[Fm.ok,bAt] at h;have h:=h.1.1;constructor
 ·rintro (rfl|rfl|rfl)<;>simp only[yZ4,bAt,dTe] at h<;>exact h.2
 ·rintro (rfl|rfl|rfl|rfl)<;>simp only[yZ4,bAt,dTe] at h<;>exact h.2
section
variable {nm:ByteArray}{g:Fm}{ca:Nat}
mutual
def zZj:Tr->Bool
 | .mk _ _ _ u _ sub=>decide (u.size<=900000)&&zJ6 sub
def zJ6:List Tr->Bool
 | []=>true
 | a::l=>zZj a&&zJ6 l
end
end
end Go.Proofs.Tryz
namespace Go.Proofs.Tryz
open Go Go.Iv
set_option maxRecDepth 4000
variable (gl:Nat->Option IV)
theorem xUz (ca rule:Nat)(st:ISt):ICall prog gl 64 [.raw (.int .u8 ca),.raw (.int .u8 rule)] st (λr st'=>yKl ca rule r/\st'=st):=by
 have d3:decide (((ca:Nat):Int)=3)=decide (ca=3):=by rw[decide_eq_decide];omega
 have d2:decide (((ca:Nat):Int)=2)=decide (ca=2):=by rw[decide_eq_decide];omega
 refine iI func64 rfl rfl (by kernel_rfl) ?_;by_cases h1:rule=1
 ·have dt:decide (((rule:Nat):Int)=1)=true:=dEt (by omega);have ds:∀j:Int,j≠1->decide (((rule:Nat):Int)=j)=false:=λj hj=>dEf (by omega);simp only[go_sem,zE,dt];refine yQ0 ⟨?_,rfl⟩;have:rowS ca rule=some ⟨true,true,0,0⟩:=by rw[h1];unfold rowS rowK;simp
  unfold yKl;rw[this];rfl
 by_cases h2:rule=2
 ·have dt:decide (((rule:Nat):Int)=2)=true:=dEt (by omega);have ds:∀j:Int,j≠2->decide (((rule:Nat):Int)=j)=false:=λj hj=>dEf (by omega);simp only[go_sem,zE,dt,ds,ne_eq,nFt,Int.reduceEq];refine yQ0 ⟨?_,rfl⟩;have:rowS ca rule=some ⟨true,false,2,0⟩:=by rw[h2];unfold rowS rowK;simp
  unfold yKl;rw[this];rfl
 by_cases h3:rule=3
 ·have dt:decide (((rule:Nat):Int)=3)=true:=dEt (by omega);have ds:∀j:Int,j≠3->decide (((rule:Nat):Int)=j)=false:=λj hj=>dEf (by omega);simp only[go_sem,zE,dt,ds,ne_eq,nFt,Int.reduceEq];refine yQ0 ⟨?_,rfl⟩;have:rowS ca rule=some ⟨true,false,3,0⟩:=by rw[h3];unfold rowS rowK;simp
  unfold yKl;rw[this];rfl
 by_cases h4:rule=4
 ·have dt:decide (((rule:Nat):Int)=4)=true:=dEt (by omega);have ds:∀j:Int,j≠4->decide (((rule:Nat):Int)=j)=false:=λj hj=>dEf (by omega);simp only[go_sem,zE,dt,ds,ne_eq,nFt,Int.reduceEq];refine yQ0 ⟨?_,rfl⟩;have:rowS ca rule=some ⟨false,true,3,0⟩:=by rw[h4];unfold rowS rowK;simp
  unfold yKl;rw[this];rfl
 by_cases h5:rule=5
 ·have dt:decide (((rule:Nat):Int)=5)=true:=dEt (by omega);have ds:∀j:Int,j≠5->decide (((rule:Nat):Int)=j)=false:=λj hj=>dEf (by omega);simp only[go_sem,zE,dt,ds,ne_eq,nFt,Int.reduceEq];refine yQ0 ⟨?_,rfl⟩;have:rowS ca rule=some ⟨true,false,4,0⟩:=by rw[h5];unfold rowS rowK;simp
  unfold yKl;rw[this];rfl
 by_cases h6:rule=6
 ·have dt:decide (((rule:Nat):Int)=6)=true:=dEt (by omega);have ds:∀j:Int,j≠6->decide (((rule:Nat):Int)=j)=false:=λj hj=>dEf (by omega);simp only[go_sem,zE,dt,ds,ne_eq,nFt,Int.reduceEq];refine yQ0 ⟨?_,rfl⟩;have:rowS ca rule=some ⟨false,true,4,0⟩:=by rw[h6];unfold rowS rowK;simp
  unfold yKl;rw[this];rfl
 by_cases h7:rule=7
 ·have dt:decide (((rule:Nat):Int)=7)=true:=dEt (by omega);have ds:∀j:Int,j≠7->decide (((rule:Nat):Int)=j)=false:=λj hj=>dEf (by omega);simp only[go_sem,zE,dt,ds,ne_eq,nFt,Int.reduceEq];refine yQ0 ⟨?_,rfl⟩;have:rowS ca rule=some ⟨true,false,5,0⟩:=by rw[h7];unfold rowS rowK;simp
  unfold yKl;rw[this];rfl
 by_cases h8:rule=8
 ·have dt:decide (((rule:Nat):Int)=8)=true:=dEt (by omega);have ds:∀j:Int,j≠8->decide (((rule:Nat):Int)=j)=false:=λj hj=>dEf (by omega);simp only[go_sem,zE,dt,ds,ne_eq,nFt,Int.reduceEq];refine yQ0 ⟨?_,rfl⟩;have:rowS ca rule=some ⟨false,true,5,0⟩:=by rw[h8];unfold rowS rowK;simp
  unfold yKl;rw[this];rfl
 by_cases h9:rule=9
 ·have dt:decide (((rule:Nat):Int)=9)=true:=dEt (by omega);have ds:∀j:Int,j≠9->decide (((rule:Nat):Int)=j)=false:=λj hj=>dEf (by omega);simp only[go_sem,zE,dt,ds,ne_eq,nFt,Int.reduceEq];refine yQ0 ⟨?_,rfl⟩;have:rowS ca rule=some ⟨true,false,6,0⟩:=by rw[h9];unfold rowS rowK;simp
  unfold yKl;rw[this];rfl
 by_cases h10:rule=10
 ·have dt:decide (((rule:Nat):Int)=10)=true:=dEt (by omega);have ds:∀j:Int,j≠10->decide (((rule:Nat):Int)=j)=false:=λj hj=>dEf (by omega);simp only[go_sem,zE,dt,ds,ne_eq,nFt,Int.reduceEq];refine yQ0 ⟨?_,rfl⟩;have:rowS ca rule=some ⟨false,true,6,0⟩:=by rw[h10];unfold rowS rowK;simp
  unfold yKl;rw[this];rfl
 by_cases h11:rule=11
 ·have dt:decide (((rule:Nat):Int)=11)=true:=dEt (by omega);have ds:∀j:Int,j≠11->decide (((rule:Nat):Int)=j)=false:=λj hj=>dEf (by omega);simp only[go_sem,zE,dt,ds,ne_eq,nFt,Int.reduceEq];refine yQ0 ⟨?_,rfl⟩;have:rowS ca rule=some ⟨true,false,7,0⟩:=by rw[h11];unfold rowS rowK;simp
  unfold yKl;rw[this];rfl
 by_cases h12:rule=12
 ·have dt:decide (((rule:Nat):Int)=12)=true:=dEt (by omega);have ds:∀j:Int,j≠12->decide (((rule:Nat):Int)=j)=false:=λj hj=>dEf (by omega);simp only[go_sem,zE,dt,ds,ne_eq,nFt,Int.reduceEq];refine yQ0 ⟨?_,rfl⟩;have:rowS ca rule=some ⟨false,true,7,0⟩:=by rw[h12];unfold rowS rowK;simp
  unfold yKl;rw[this];rfl
 by_cases h13:rule=13
 ·have dt:decide (((rule:Nat):Int)=13)=true:=dEt (by omega);have ds:∀j:Int,j≠13->decide (((rule:Nat):Int)=j)=false:=λj hj=>dEf (by omega);by_cases hc:ca=3
  ·have dc:decide (((ca:Nat):Int)=3)=true:=dEt (by omega);simp only[go_sem,zE,reduceCtorEq,dt,ds,dc,ne_eq,nFt,Int.reduceEq];refine yQ0 ⟨?_,rfl⟩;have:rowS ca rule=some ⟨true,false,8,1⟩:=by rw[h13,hc];rfl
   unfold yKl;rw[this];rfl
  ·have dc:∀j:Int,((ca:Nat):Int)≠j->decide (((ca:Nat):Int)=j)=false:=λj hj=>dEf hj;have hc':((ca:Nat):Int)≠3:=by omega
   simp only[go_sem,zE,reduceCtorEq,dt,ds,dc _ hc',ne_eq,nFt,Int.reduceEq];refine yQ0 ⟨?_,rfl⟩;have:rowS ca rule=none:=by
    rw[h13];unfold rowS rowK;simp[hc]
   unfold yKl;rw[this];exact⟨_,_,_,rfl⟩
 by_cases h14:rule=14
 ·have dt:decide (((rule:Nat):Int)=14)=true:=dEt (by omega);have ds:∀j:Int,j≠14->decide (((rule:Nat):Int)=j)=false:=λj hj=>dEf (by omega);by_cases hc:ca=3
  ·have dc:decide (((ca:Nat):Int)=3)=true:=dEt (by omega);simp only[go_sem,zE,reduceCtorEq,dt,ds,dc,ne_eq,nFt,Int.reduceEq];refine yQ0 ⟨?_,rfl⟩;have:rowS ca rule=some ⟨false,true,8,2⟩:=by rw[h14,hc];rfl
   unfold yKl;rw[this];rfl
  ·have dc:∀j:Int,((ca:Nat):Int)≠j->decide (((ca:Nat):Int)=j)=false:=λj hj=>dEf hj;have hc':((ca:Nat):Int)≠3:=by omega
   simp only[go_sem,zE,reduceCtorEq,dt,ds,dc _ hc',ne_eq,nFt,Int.reduceEq];refine yQ0 ⟨?_,rfl⟩;have:rowS ca rule=none:=by
    rw[h14];unfold rowS rowK;simp[hc]
   unfold yKl;rw[this];exact⟨_,_,_,rfl⟩
 by_cases h15:rule=15
 ·have dt:decide (((rule:Nat):Int)=15)=true:=dEt (by omega);have ds:∀j:Int,j≠15->decide (((rule:Nat):Int)=j)=false:=λj hj=>dEf (by omega);by_cases hc:ca=3
  ·have dc:decide (((ca:Nat):Int)=3)=true:=dEt (by omega);simp only[go_sem,zE,reduceCtorEq,dt,ds,dc,ne_eq,nFt,Int.reduceEq];refine yQ0 ⟨?_,rfl⟩;have:rowS ca rule=some ⟨true,false,9,2⟩:=by rw[h15,hc];rfl
   unfold yKl;rw[this];rfl
  ·have dc:∀j:Int,((ca:Nat):Int)≠j->decide (((ca:Nat):Int)=j)=false:=λj hj=>dEf hj;have hc':((ca:Nat):Int)≠3:=by omega
   simp only[go_sem,zE,reduceCtorEq,dt,ds,dc _ hc',ne_eq,nFt,Int.reduceEq];refine yQ0 ⟨?_,rfl⟩;have:rowS ca rule=none:=by
    rw[h15];unfold rowS rowK;simp[hc]
   unfold yKl;rw[this];exact⟨_,_,_,rfl⟩
 by_cases h16:rule=16
 ·have dt:decide (((rule:Nat):Int)=16)=true:=dEt (by omega);have ds:∀j:Int,j≠16->decide (((rule:Nat):Int)=j)=false:=λj hj=>dEf (by omega);by_cases hc:ca=3
  ·have dc:decide (((ca:Nat):Int)=3)=true:=dEt (by omega);simp only[go_sem,zE,reduceCtorEq,dt,ds,dc,ne_eq,nFt,Int.reduceEq];refine yQ0 ⟨?_,rfl⟩;have:rowS ca rule=some ⟨false,true,9,1⟩:=by rw[h16,hc];rfl
   unfold yKl;rw[this];rfl
  ·have dc:∀j:Int,((ca:Nat):Int)≠j->decide (((ca:Nat):Int)=j)=false:=λj hj=>dEf hj;have hc':((ca:Nat):Int)≠3:=by omega
   simp only[go_sem,zE,reduceCtorEq,dt,ds,dc _ hc',ne_eq,nFt,Int.reduceEq];refine yQ0 ⟨?_,rfl⟩;have:rowS ca rule=none:=by
    rw[h16];unfold rowS rowK;simp[hc]
   unfold yKl;rw[this];exact⟨_,_,_,rfl⟩
 by_cases h17:rule=17
 ·have dt:decide (((rule:Nat):Int)=17)=true:=dEt (by omega);have ds:∀j:Int,j≠17->decide (((rule:Nat):Int)=j)=false:=λj hj=>dEf (by omega);simp only[go_sem,zE,dt,ds,ne_eq,nFt,Int.reduceEq];refine yQ0 ⟨?_,rfl⟩;have:rowS ca rule=some ⟨false,false,0,0⟩:=by rw[h17];unfold rowS rowK;simp
  unfold yKl;rw[this];rfl
 by_cases h18:rule=18
 ·have dt:decide (((rule:Nat):Int)=18)=true:=dEt (by omega);have ds:∀j:Int,j≠18->decide (((rule:Nat):Int)=j)=false:=λj hj=>dEf (by omega);by_cases hc:ca=2
  ·have dc:decide (((ca:Nat):Int)=2)=true:=dEt (by omega);simp only[go_sem,zE,reduceCtorEq,dt,ds,dc,ne_eq,nFt,Int.reduceEq];refine yQ0 ⟨?_,rfl⟩;have:rowS ca rule=some ⟨false,true,5,0⟩:=by rw[h18,hc];rfl
   unfold yKl;rw[this];rfl
  ·have dc:∀j:Int,((ca:Nat):Int)≠j->decide (((ca:Nat):Int)=j)=false:=λj hj=>dEf hj;have hc':((ca:Nat):Int)≠2:=by omega
   simp only[go_sem,zE,reduceCtorEq,dt,ds,dc _ hc',ne_eq,nFt,Int.reduceEq];refine yQ0 ⟨?_,rfl⟩;have:rowS ca rule=none:=by
    rw[h18];unfold rowS rowK;simp[hc]
   unfold yKl;rw[this];exact⟨_,_,_,rfl⟩
 have ds:∀j:Int,1<=j->j<=18->decide (((rule:Nat):Int)=j)=false:=λj h1 h2=>dEf (by omega);simp only[go_sem,zE,ds 1 (by decide) (by decide),ds 2 (by decide) (by decide),ds 3 (by decide) (by decide),ds 4 (by decide) (by decide),ds 5 (by decide) (by decide),ds 6 (by decide) (by decide),ds 7 (by decide) (by decide),ds 8 (by decide) (by decide),ds 9 (by decide) (by decide),ds 10 (by decide) (by decide),ds 11 (by decide) (by decide),ds 12 (by decide) (by decide),ds 13 (by decide) (by decide),ds 14 (by decide) (by decide),ds 15 (by decide) (by decide),ds 16 (by decide) (by decide),ds 17 (by decide) (by decide),ds 18 (by decide) (by decide)];refine yQ0 ⟨?_,rfl⟩;have:rowS ca rule=none:=by
  unfold rowS rowK;simp[h1,h2,h3,h4,h5,h6,h7,h8,h9,h10,h11,h12,h13,h14,h15,h16,h17,h18]
 unfold yKl;rw[this];exact⟨_,_,_,rfl⟩
theorem wZ6 (l:List Fm)(tg:Tag)(xs:List IV)(htg:okEs tg 4)(hxs:IsFms l xs)(n:ByteArray)(hl:fitL l)(hlen:l.length<=1099511627776)(st:ISt) :
  ICall prog gl 157 [.sl tg xs,.raw (.string n)] st (λr st'=>r=.raw (.bool (l.any λf=>memB (frF f) n))/\st'=st):=by
 refine iI func157 rfl rfl (by kernel_rfl) ?_;simp only[go_sem];refine LoopC.ctr l.length (λk fr st' ds=>((l.take k).any λf=>memB (frF f) n)=false/\fr 0=.iv (.sl tg xs)/\fr 1=.iv (.raw (.string n))/\fr 5=.iv (.raw (.int .i64 k))/\st'=st/\ds=[]) ?_ ?_ ?_
 ·simp only[go_sem,zE,reduceCtorEq];exact⟨rfl,rfl⟩
 ·rintro k fr st1 _ hlt ⟨hk,f0,f1,f5,rfl,rfl⟩;obtain⟨a,ha⟩:=yQ3 hlt;have ham:=lMg ha;obtain⟨z,hkz,hzz⟩:=hxs.get ha;have hsz:=hl a ham;have hcall:=λst=>wZ9 gl a z hzz (by omega) st;obtain⟨o5,n5,t5,x5,t6,x6,rfl⟩:=hzz.agg;simp only[go_sem,zE,zB,zA,reduceCtorEq,f0,f5,hxs.len,lt_i hlt,yQ1 htg,iNn,hkz,fits];intro _;refine (hcall _).mono ?_;rintro _ st2 ⟨tg5,m,rfl,htg5,hso,rfl⟩;have hml:m.length<=140737488355328:=by
   have h1:=zZn hso.1 (λx hx=>(hso.2 x).1 hx);have h2:=zV4 a;omega
  have hHas:=λst=>xUt gl tg5 m n htg5 hml st;simp only[go_sem,zE,zA,f1];refine (hHas _).mono ?_;rintro _ st2 ⟨rfl,rfl⟩;have he:hasB m n=memB (frF a) n:=by
   rw[Bool.eq_iff_iff,yX5,<- hso.2];exact zKy
  rw[he];cases hra:memB (frF a) n
  ·simp only[go_sem,zE,reduceCtorEq,f0,f1,f5,yQa hlt (show l.length<=281474976710656 by omega)];rw[yQ5 ha,List.any_append,hk];simp[hra]
  ·simp only[go_sem];refine yQ0 ⟨?_,rfl⟩;have:(l.any λf=>memB (frF f) n)=true:=List.any_eq_true.2 ⟨a,ham,hra⟩;rw[this]
 ·rintro fr st1 _ ⟨hk,f0,f1,f5,rfl,rfl⟩;rw[lTl] at hk;simp only[go_sem,zE,reduceCtorEq,f0,f5,hxs.len,yQj (nLi _)];intro _;exact yQ0 ⟨by rw[hk],rfl⟩
theorem xUc (r:List Fm):zX0 r=r.all (yKb ((r[0]?).getD fm0)):=by
 cases r with
 | nil=>rfl
 | cons a l =>
  show ((a::l).all λf=>eqF f a)=(a::l).all (yKb a);congr 1;funext f;exact xX8 f a
def qV (ca:Nat)(hd f:Fm):Prop:=fmB ca f=true/\(ca=2->yKb hd f=true)
theorem zZi {ca:Nat}{s:Sq}:yXo ca s=true↔yX2 ca=true/\s.l.length<=64/\s.r.length<=64/\(∀f∈s.l,fmB ca f=true)/\∀f∈s.r,qV ca ((s.r[0]?).getD fm0) f:=by
 unfold yXo qV;rw[xUc];simp only[bAt,Bool.or_eq_true,dTe,List.all_eq_true];constructor
 ·rintro⟨⟨⟨⟨⟨h1,h2⟩,h3⟩,h4⟩,h5⟩,h6⟩;exact⟨h1,h2,h3,h4,λf hf=>⟨h5 f hf,λhc=>h6.resolve_left (λh=>h hc) f hf⟩⟩
 ·rintro⟨h1,h2,h3,h4,h5⟩;refine⟨⟨⟨⟨⟨h1,h2⟩,h3⟩,h4⟩,λf hf=>(h5 f hf).1⟩,?_⟩;by_cases hc:ca=2
  ·exact .inr λf hf=>(h5 f hf).2 hc
  ·exact .inl hc
theorem yVc {ca:Nat}{s:Sq}(h:¬ (yX2 ca=true/\s.l.length<=64/\s.r.length<=64/\(∀f∈s.l,fmB ca f=true)/\∀f∈s.r,qV ca ((s.r[0]?).getD fm0) f)):yXo ca s=false:=by
 cases hv:yXo ca s
 ·rfl
 ·exact absurd (zZi.1 hv) h
set_option maxHeartbeats 1000000 in
theorem wV3 (ca:Nat)(s:Sq)(x:IV)(hx:IsSq s x)(hs:yWf s)(st:ISt):ICall prog gl 49 [.raw (.int .u8 ca),x] st (λr st'=>r=.raw (.bool (yXo ca s))/\st'=st):=by
 have hF:=λf z hz (hf:f.size<=1000000) st=>wZa gl ca f z hz (by omega) st;have hAl:=λf g z w hz hw (hf:f.size<=1000000) (hg:g.size<=1000000) st=>xW1 gl f g z w hz hw hf hg st;obtain⟨l,r⟩:=s;obtain⟨t1,x1,t2,x2,rfl,e1,i1,e2,i2⟩:=hx;simp only[yWf] at hs i1 i2;obtain⟨hl,hr⟩:=hs;have k1:decide (((ca:Nat):Int)<1)=decide (ca<1):=by rw[decide_eq_decide];omega
 have k2:decide ((3:Int)<((ca:Nat):Int))=decide (3<ca):=by rw[decide_eq_decide];omega
 have k3:decide ((64:Int)<((l.length:Nat):Int))=decide (64<l.length):=by rw[decide_eq_decide];omega
 have k4:decide ((64:Int)<((r.length:Nat):Int))=decide (64<r.length):=by rw[decide_eq_decide];omega
 have k5:decide (((ca:Nat):Int)=2)=decide (ca=2):=by rw[decide_eq_decide];omega
 have hkn:∀h:ca<1\/3<ca,¬ yX2 ca=true:=λh hk=>by
  simp only[yX2,bAt,dTe] at hk;omega
 refine iI func49 rfl rfl (by kernel_rfl) ?_;cases q1:decide (ca<1)
 case true =>
  simp only[go_sem,zE,reduceCtorEq,k1,q1];intros;exact yQ0 ⟨by rw[yVc λh=>hkn (.inl (of_decide_eq_true q1)) h.1],rfl⟩
 cases q2:decide (3<ca)
 case true =>
  simp only[go_sem,zE,reduceCtorEq,k1,k2,q1,q2];intros;exact yQ0 ⟨by rw[yVc λh=>hkn (.inr (of_decide_eq_true q2)) h.1],rfl⟩
 cases q3:decide (64<l.length)
 case true =>
  simp only[go_sem,zE,reduceCtorEq,k1,k2,k3,q1,q2,q3,i1.len];intros;exact yQ0 ⟨by rw[yVc λh=>by have:=h.2.1;have:=of_decide_eq_true q3;simp only at *;omega],rfl⟩
 cases q4:decide (64<r.length)
 case true =>
  simp only[go_sem,zE,reduceCtorEq,k1,k2,k3,k4,q1,q2,q3,q4,i1.len,i2.len];intros;exact yQ0 ⟨by rw[yVc λh=>by have:=h.2.2.1;have:=of_decide_eq_true q4;simp only at *;omega],rfl⟩
 have hk:yX2 ca=true:=by
  have:=of_decide_eq_false q1;have:=of_decide_eq_false q2;simp only[yX2,bAt,dTe];omega
 have hll:l.length<=64:=by have:=of_decide_eq_false q3;omega
 have hlr:r.length<=64:=by have:=of_decide_eq_false q4;omega
 simp only[go_sem,zE,reduceCtorEq,k1,k2,k3,k4,q1,q2,q3,q4,i1.len,i2.len];intros;refine LoopC.ctr l.length (λk fr st' ds=>(∀f∈l.take k,fmB ca f=true)/\fr 0=.iv (.raw (.int .u8 ca))/\fr 3=.box [.sl t1 x1,.sl t2 x2]/\fr 5=.iv (.raw (.int .i64 k))/\st'=st/\ds=[]) ?_ ?_ ?_
 ·simp only[go_sem,zE,reduceCtorEq];exact⟨λf hf=>by simp at hf,rfl⟩
 ·rintro k fr st1 _ hlt ⟨hkk,f0,f3,f5,rfl,rfl⟩;obtain⟨a,ha⟩:=yQ3 hlt;have ham:=lMg ha;obtain⟨z,hkz,hzz⟩:=i1.get ha;have hcall:=λst=>hF a z hzz (hl a ham) st;obtain⟨o5,n5,t5,x5,t6,x6,rfl⟩:=hzz.agg;simp only[go_sem,zE,zB,zA,reduceCtorEq,f0,f3,f5,i1.len,lt_i hlt,yQ1 e1,iNn,hkz,fits];intro _;refine (hcall _).mono ?_;rintro _ st2 ⟨rfl,rfl⟩;cases hra:fmB ca a
  ·simp only[go_sem];exact yQ0 ⟨by rw[yVc λh=>by have:=h.2.2.2.1 a ham;rw[hra] at this;cases this],rfl⟩
  ·simp only[go_sem,zE,reduceCtorEq,f0,f3,f5,yQa hlt (show l.length<=281474976710656 by omega)];intro f hf;rw[yQ5 ha] at hf;rcases List.mem_append.1 hf with hf|hf
   ·exact hkk f hf
   ·rw[List.mem_singleton.1 hf];exact hra
 ·rintro fr st1 _ ⟨hkl,f0,f3,f5,rfl,rfl⟩;rw[lTl] at hkl;simp only[go_sem,zE,f3,f5,i1.len,yQj (nLi _)];intro _;refine LoopC.ctr r.length (λk fr st' ds=>(∀f∈r.take k,qV ca ((r[0]?).getD fm0) f)/\fr 0=.iv (.raw (.int .u8 ca))/\fr 3=.box [.sl t1 x1,.sl t2 x2]/\fr 6=.iv (.raw (.int .i64 k))/\st'=st1/\ds=[]) ?_ ?_ ?_
  ·simp only[go_sem,zE,reduceCtorEq,f0,f3];exact⟨λf hf=>by simp at hf,rfl⟩
  ·rintro k fr st1 _ hlt ⟨hkk,f0,f3,f6,rfl,rfl⟩;obtain⟨a,ha⟩:=yQ3 hlt;have ham:=lMg ha;obtain⟨z,hkz,hzz⟩:=i2.get ha;obtain⟨b,hb⟩:=yQ3 (show 0<r.length by omega);obtain⟨zb,hkb,hzb⟩:=i2.get hb;have hbm:=lMg hb;have hcall:=λst=>hF a z hzz (hr a ham) st;have hcal2:=λst=>hAl b a zb z hzb hzz (hr b hbm) (hr a ham) st;have hhd:(r[0]?).getD fm0=b:=by rw[hb];rfl
   rw[hhd] at hkk ⊢;have hbad:∀h:¬ qV ca b a,yXo ca ⟨l,r⟩=false:=λh=>yVc λh'=>h (by have:=h'.2.2.2.2 a ham;rwa [hhd] at this);have hgood:qV ca b a->∀f∈r.take (k+1),qV ca b f:=λh f hf=>by
    rw[yQ5 ha] at hf;rcases List.mem_append.1 hf with hf|hf
    ·exact hkk f hf
    ·rw[List.mem_singleton.1 hf];exact h
   obtain⟨o5,n5,t5,x5,t6,x6,rfl⟩:=hzz.agg;obtain⟨o7,n7,t7,x7,t8,x8,rfl⟩:=hzb.agg;simp only[go_sem,zE,zB,zA,reduceCtorEq,f0,f3,f6,i2.len,lt_i hlt,yQ1 e2,iNn,hkz,fits];intro _;refine (hcall _).mono ?_;rintro _ st2 ⟨rfl,rfl⟩;cases hra:fmB ca a
   ·simp only[go_sem,zE];exact yQ0 ⟨by rw[hbad λh=>by rw[h.1] at hra;cases hra],rfl⟩
   ·cases q5:decide (ca=2)
    ·simp only[go_sem,zE,reduceCtorEq,f0,f3,f6,k5,q5,yQa hlt (show r.length<=281474976710656 by omega)];exact hgood ⟨hra,λh=>absurd h (of_decide_eq_false q5)⟩
    ·simp only[go_sem,zE,zB,zA,reduceCtorEq,f0,f3,f6,fits,k5,q5,yQ1 e2,iNn,hkz,hkb,Int.le_refl,Int.toNat_zero];intros;refine (hcal2 _).mono ?_;rintro _ st2 ⟨rfl,rfl⟩;cases hrb:yKb b a
     ·simp only[go_sem,zE];exact yQ0 ⟨by rw[hbad λh=>by rw[h.2 (of_decide_eq_true q5)] at hrb;cases hrb],rfl⟩
     ·simp only[go_sem,zE,reduceCtorEq,f0,f3,f6,yQa hlt (show r.length<=281474976710656 by omega)];exact hgood ⟨hra,λ_=>hrb⟩
  ·rintro fr st1 _ ⟨hkr,f0,f3,f6,rfl,rfl⟩;rw[lTl] at hkr;simp only[go_sem,zE,f3,f6,i2.len,yQj (nLi _)];intro _;exact yQ0 ⟨by rw[zZi.2 ⟨hk,hll,hlr,hkl,hkr⟩],rfl⟩
theorem q_p (n:ByteArray)(t:Tag)(xs:List IV)(st:ISt):ICall prog gl 18 [.raw (.string n),.sl t xs] st (λr st'=>r=.agg [.raw (.int .u8 1),.raw (.string n),.sl t xs,.sl ⟨true,.nil,0⟩ []]/\st'=st):=by
 refine iI func18 rfl rfl (by kernel_rfl) ?_;simp only[go_sem,zE,zA,zL,reduceCtorEq,fits];exact yQ0 ⟨rfl,rfl⟩
theorem q_no (o:Int)(n:ByteArray)(t:Tag)(x:List IV)(t':Tag)(x':List IV)(st:ISt):ICall prog gl 19 [.agg [.raw (.int .u8 o),.raw (.string n),.sl t x,.sl t' x']] st
  (λr st'=>r=.agg [.raw (.int .u8 3),.raw (.string ⟨#[]⟩),.sl ⟨true,.nil,0⟩ [],.sl ⟨true,.full,4⟩ [.agg [.raw (.int .u8 o),.raw (.string n),.sl t x,.sl t' x']]]/\st'=st):=by
 refine iI func19 rfl rfl (by kernel_rfl) ?_;simp only[go_sem,zE,zA,zM,zL,fits,yQ2];exact yQ0 ⟨rfl,rfl⟩
theorem xJq (op o:Int)(n:ByteArray)(t:Tag)(x:List IV)(t':Tag)(x':List IV)(o2:Int)(n2:ByteArray)(t2:Tag)(x2:List IV)(t2':Tag)(x2':List IV)(st:ISt) :
  ICall prog gl 20 [.raw (.int .u8 op),.agg [.raw (.int .u8 o),.raw (.string n),.sl t x,.sl t' x'],.agg [.raw (.int .u8 o2),.raw (.string n2),.sl t2 x2,.sl t2' x2']] st
  (λr st'=>r=.agg [.raw (.int .u8 op),.raw (.string ⟨#[]⟩),.sl ⟨true,.nil,0⟩ [],.sl ⟨true,.full,4⟩ [.agg [.raw (.int .u8 o),.raw (.string n),.sl t x,.sl t' x'],.agg [.raw (.int .u8 o2),.raw (.string n2),.sl t2 x2,.sl t2' x2']]]/\st'=st):=by
 refine iI func20 rfl rfl (by kernel_rfl) ?_;simp only[go_sem,zE,zA,zM,zL,reduceCtorEq,fits,yQq];exact yQ0 ⟨rfl,rfl⟩
theorem q_fs (t:Tag)(xs:List IV)(st:ISt):ICall prog gl 13 [.sl t xs] st (λr st'=>r=.sl t xs/\st'=st):=by
 refine iI func13 rfl rfl (by kernel_rfl) ?_;simp only[go_sem,reduceCtorEq];exact yQ0 ⟨rfl,rfl⟩
theorem q_sq (t:Tag)(xs:List IV)(t':Tag)(ys:List IV)(st:ISt):ICall prog gl 39 [.sl t xs,.sl t' ys] st (λr st'=>r=.agg [.sl t xs,.sl t' ys]/\st'=st):=by
 refine iI func39 rfl rfl (by kernel_rfl) ?_;simp only[go_sem,zE,zA,zL,reduceCtorEq,fits];exact yQ0 ⟨rfl,rfl⟩
theorem q_v (n:ByteArray)(st:ISt):ICall prog gl 40 [.raw (.string n)] st (λr st'=>r=.agg [.raw (.bool true),.raw (.string n),.sl ⟨true,.nil,0⟩ []]/\st'=st):=by
 refine iI func40 rfl rfl (by kernel_rfl) ?_;simp only[go_sem,zE,zA,zL,reduceCtorEq,fits];exact yQ0 ⟨rfl,rfl⟩
mutual
def wTm:Tm->Nat
 | .mk _ n us=>1+n.size / 20+wTms us
def wTms:List Tm->Nat
 | []=>0
 | a::l=>wTm a+wTms l
end
mutual
def wFm:Fm->Nat
 | .mk _ n us sub=>1+n.size / 20+wTms us+wFms sub
def wFms:List Fm->Nat
 | []=>0
 | a::l=>wFm a+wFms l
end
theorem yUl:∀l m:List Tm,wTms (l++m)=wTms l+wTms m
 | [],m=>by simp[wTms]
 | a::l,m=>by simp only[List.cons_append,wTms,yUl l m];omega
theorem wQ0 {l:List Tm}{k:Nat}{a:Tm}(h:l[k]?=some a):wTms (l.take (k+1))=wTms (l.take k)+wTm a:=by
 rw[yQ5 h,yUl];simp[wTms]
theorem wQ1 (l:List Tm)(k:Nat):wTms (l.take k)<=wTms l:=by
 conv=>rhs;rw[<- List.take_append_drop k l]
 rw[yUl];omega
theorem yUm:∀l m:List Fm,wFms (l++m)=wFms l+wFms m
 | [],m=>by simp[wFms]
 | a::l,m=>by simp only[List.cons_append,wFms,yUm l m];omega
theorem wQ2 {l:List Fm}{k:Nat}{a:Fm}(h:l[k]?=some a):wFms (l.take (k+1))=wFms (l.take k)+wFm a:=by
 rw[yQ5 h,yUm];simp[wFms]
theorem wQ3 (l:List Fm)(k:Nat):wFms (l.take k)<=wFms l:=by
 conv=>rhs;rw[<- List.take_append_drop k l]
 rw[yUm];omega
def Sum (w:Nat)(lim:Int)(r:IV):Prop:=∃n:Nat,r=.raw (.int .i64 n)/\n<=w/\((n:Int)<=lim->n=w)
def tC (us:List Tm):Prop:=∀(t:Tag) (xs:List IV) (_:okEs t 3) (_:IsTms us xs) (lim:Int) (_:-1<=lim/\lim<=1000) (_:wTms us<=1099511627776) (st:ISt),
 ICall prog gl 44 [.sl t xs,.raw (.int .i64 lim)] st (λr st'=>Sum (wTms us) lim r/\st'=st)
theorem xJo (us:List Tm)(IH:∀v n l,Tm.mk v n l∈us->tC gl l):tC gl us:=by
 intro t xs ht hx lim hlim hw st;refine iI func44 rfl rfl (by kernel_rfl) ?_;simp only[go_sem];refine LoopC.ctr us.length (λk fr st' ds=>(∃n:Nat,fr 5=.iv (.raw (.int .i64 n))/\n<=wTms (us.take k)/\((n:Int)<=lim->n=wTms (us.take k)))/\fr 0=.iv (.sl t xs)/\fr 1=.iv (.raw (.int .i64 lim))/\fr 6=.iv (.raw (.int .i64 k))/\st'=st/\ds=[]) ?_ ?_ ?_
 ·simp only[go_sem,zE,reduceCtorEq];exact⟨⟨0,rfl,Nat.le_refl _,λ_=>rfl⟩,rfl⟩
 ·rintro k fr st1 _ hlt ⟨⟨n,f5,hn1,hn2⟩,f0,f1,f6,rfl,rfl⟩;obtain⟨a,ha⟩:=yQ3 hlt;obtain⟨x,hkx,hxa⟩:=hx.get ha;obtain⟨v2,n2,l2⟩:=a;obtain⟨tx,cx,rfl,htx,hcx⟩:=hxa.mk;have hwt:=wQ0 ha;have hwl:=wQ1 us (k+1);have hwk:=wQ1 us k;simp only[wTm] at hwt;by_cases hle:(n:Int)<=lim
  ·have hnk:=hn2 hle;have hcall:=λst=>IH _ _ _ (lMg ha) tx cx htx hcx (lim-n-1) ⟨by omega,by omega⟩ (by omega) st;have hq:IntKind.i64.wrap (((n2.size:Nat):Int).tdiv 20)=((n2.size / 20:Nat):Int):=by
    have:((n2.size:Nat):Int).tdiv 20=((n2.size / 20:Nat):Int):=rfl;rw[this,w64 (by omega) (by omega)]
   have hz:¬ ((20:Int)=0):=by decide
   generalize n2.size / 20=q at hq hwt;have w1:IntKind.i64.wrap (1+((q:Nat):Int))=((1+q:Nat):Int):=by rw[w64]<;>omega
   have w2:IntKind.i64.wrap (IntKind.i64.wrap (lim-(n:Int))-1)=lim-n-1:=by rw[w64 (n:=lim-n) (by omega) (by omega),w64 (by omega) (by omega)]
   simp only[go_sem,zE,zA,reduceCtorEq,f0,f1,f5,f6,hx.len,lt_i hlt,dEt hle,yQ1 ht,iNn,hkx,fits,hq,hz,w1,w2];intro _;refine (hcall _).mono ?_;rintro _ st2 ⟨⟨m,rfl,hm1,hm2⟩,rfl⟩;have w3:IntKind.i64.wrap (((1+q:Nat):Int)+(m:Int))=((1+q+m:Nat):Int):=by rw[w64]<;>omega
   have w4:IntKind.i64.wrap ((n:Int)+((1+q+m:Nat):Int))=((n+(1+q+m):Nat):Int):=by rw[w64]<;>omega
   simp only[go_sem,zE,reduceCtorEq,f0,f1,f6,w3,w4,yQa hlt (show us.length<=281474976710656 by omega)];exact⟨n+(1+q+m),rfl,by omega,λh=>by have:=hm2 (by omega);omega⟩
  ·simp only[go_sem,zE,reduceCtorEq,f0,f1,f5,f6,hx.len,lt_i hlt,dEf hle];intro _;exact yQ0 ⟨⟨n,rfl,by omega,λh=>absurd h hle⟩,rfl⟩
 ·rintro fr st1 _ ⟨⟨n,f5,hn1,hn2⟩,f0,f1,f6,rfl,rfl⟩;rw[lTl] at hn1 hn2;simp only[go_sem,zE,reduceCtorEq,f0,f5,f6,hx.len,yQj (nLi _)];intro _;exact yQ0 ⟨⟨n,rfl,hn1,hn2⟩,rfl⟩
theorem zY1:∀(k:Nat)(us:List Tm),SizeOf.sizeOf us<k->tC gl us
 | 0,f,h=>by omega
 | k+1,us,h=>xJo gl us (λv n l ha=>zY1 k l (by
   have:=lSm ha;simp at this;omega))
theorem xW3 (us:List Tm):tC gl us:=zY1 gl _ us (Nat.lt_succ_self _)
def zC (us:List Fm):Prop:=∀(t:Tag) (xs:List IV) (_:okEs t 4) (_:IsFms us xs) (lim:Int) (_:-1<=lim/\lim<=1000) (_:wFms us<=1099511627776) (st:ISt),
 ICall prog gl 12 [.sl t xs,.raw (.int .i64 lim)] st (λr st'=>Sum (wFms us) lim r/\st'=st)
theorem xGl (us:List Fm)(IH:∀o n l m,Fm.mk o n l m∈us->zC gl m):zC gl us:=by
 intro t xs ht hx lim hlim hw st;refine ICall.intro (c:=cf prog gl [] [(5,[0,1,2,3,4,5,6,7,8,9,10,11,12,13,14,15,16,19,20,21,22,23,24,25,26,27,17,18,28,29,30,31])]) func12 rfl (by show _<=50;simp) (by kernel_rfl) ?_;simp only[go_sem];refine LoopC.ctr us.length (λk fr st' ds=>(∃n:Nat,fr 5=.iv (.raw (.int .i64 n))/\n<=wFms (us.take k)/\((n:Int)<=lim->n=wFms (us.take k)))/\fr 0=.iv (.sl t xs)/\fr 1=.iv (.raw (.int .i64 lim))/\fr 6=.iv (.raw (.int .i64 k))/\st'=st/\ds=[]) ?_ ?_ ?_
 ·simp only[go_sem,zE,reduceCtorEq];exact⟨⟨0,rfl,Nat.le_refl _,λ_=>rfl⟩,rfl⟩
 ·rintro k fr st1 _ hlt ⟨⟨n,f5,hn1,hn2⟩,f0,f1,f6,rfl,rfl⟩;obtain⟨a,ha⟩:=yQ3 hlt;obtain⟨x,hkx,hxa⟩:=hx.get ha;obtain⟨o2,n2,l2,m2⟩:=a;obtain⟨tx,cx,ty,cy,rfl,_,htx,hcx,hty,hcy⟩:=hxa.mk;have hwt:=wQ2 ha;have hwl:=wQ3 us (k+1);have hwk:=wQ3 us k;simp only[wFm] at hwt;by_cases hle:(n:Int)<=lim
  ·have hnk:=hn2 hle;have hcall:=λst=>IH _ _ _ _ (lMg ha) ty cy hty hcy (lim-n-1) ⟨by omega,by omega⟩ (by omega) st;have hterm:=λst=>xW3 gl l2 tx cx htx hcx (lim-n) ⟨by omega,by omega⟩ (by omega) st;have hq:IntKind.i64.wrap (((n2.size:Nat):Int).tdiv 20)=((n2.size / 20:Nat):Int):=by
    have:((n2.size:Nat):Int).tdiv 20=((n2.size / 20:Nat):Int):=rfl;rw[this,w64 (by omega) (by omega)]
   have hz:¬ ((20:Int)=0):=by decide
   generalize n2.size / 20=q at hq hwt;have w1:IntKind.i64.wrap (1+((q:Nat):Int))=((1+q:Nat):Int):=by rw[w64]<;>omega
   have w0:IntKind.i64.wrap (lim-(n:Int))=lim-n:=w64 (by omega) (by omega);have w2:IntKind.i64.wrap (lim-(n:Int)-1)=lim-n-1:=w64 (by omega) (by omega);simp only[go_sem,zE,zA,reduceCtorEq,f0,f1,f5,f6,hx.len,lt_i hlt,dEt hle,yQ1 ht,iNn,hkx,fits,hq,hz,w1,w0,w2];intro _;refine (hterm _).mono ?_;rintro _ st2 ⟨⟨m1,rfl,hm1,hm1'⟩,rfl⟩;have w3:IntKind.i64.wrap (((1+q:Nat):Int)+(m1:Int))=((1+q+m1:Nat):Int):=by rw[w64]<;>omega
   simp only[go_sem,zE,zA,w3];refine (hcall _).mono ?_;rintro _ st2 ⟨⟨m,rfl,hm,hm'⟩,rfl⟩;have w4:IntKind.i64.wrap (((1+q+m1:Nat):Int)+(m:Int))=((1+q+m1+m:Nat):Int):=by rw[w64]<;>omega
   have w5:IntKind.i64.wrap ((n:Int)+((1+q+m1+m:Nat):Int))=((n+(1+q+m1+m):Nat):Int):=by rw[w64]<;>omega
   simp only[go_sem,zE,reduceCtorEq,f0,f1,f6,w4,w5,yQa hlt (show us.length<=281474976710656 by omega)];exact⟨n+(1+q+m1+m),rfl,by omega,λh=>by have:=hm1' (by omega);have:=hm' (by omega);omega⟩
  ·simp only[go_sem,zE,reduceCtorEq,f0,f1,f5,f6,hx.len,lt_i hlt,dEf hle];intro _;exact yQ0 ⟨⟨n,rfl,by omega,λh=>absurd h hle⟩,rfl⟩
 ·rintro fr st1 _ ⟨⟨n,f5,hn1,hn2⟩,f0,f1,f6,rfl,rfl⟩;rw[lTl] at hn1 hn2;simp only[go_sem,zE,reduceCtorEq,f0,f5,f6,hx.len,yQj (nLi _)];intro _;exact yQ0 ⟨⟨n,rfl,hn1,hn2⟩,rfl⟩
theorem xZ2:∀(k:Nat)(us:List Fm),SizeOf.sizeOf us<k->zC gl us
 | 0,f,h=>by omega
 | k+1,us,h=>xGl gl us (λo n l m ha=>xZ2 k m (by
   have:=lSm ha;simp at this;omega))
theorem xJp (us:List Fm):zC gl us:=xZ2 gl _ us (Nat.lt_succ_self _)
theorem uU4 (s:Sq)(x:IV)(hx:IsSq s x)(hw:wFms s.l<=1099511627776/\wFms s.r<=1099511627776)(st:ISt):ICall prog gl 11 [x] st (λr st'=>(r=.raw (.bool (decide (wFms s.l+wFms s.r<=300))))/\st'=st):=by
 obtain⟨t1,x1,t2,x2,rfl,e1,i1,e2,i2⟩:=hx;have h1:=λst=>xJp gl s.l t1 x1 e1 i1 300 ⟨by omega,by omega⟩ hw.1 st;have h2:=λst=>xJp gl s.r t2 x2 e2 i2 300 ⟨by omega,by omega⟩ hw.2 st;refine ICall.intro (c:=cf prog gl [] [(1,[0,1,3,4,2,5,6,7,8])]) func11 rfl (by show _<=11;simp) (by kernel_rfl) ?_;simp only[go_sem,zE,zA];refine (h1 _).mono ?_;rintro _ st2 ⟨⟨n,rfl,hn1,hn2⟩,rfl⟩;simp only[go_sem,zE,zA];refine (h2 _).mono ?_;rintro _ st2 ⟨⟨m,rfl,hm1,hm2⟩,rfl⟩;have w:IntKind.i64.wrap ((n:Int)+(m:Int))=((n+m:Nat):Int):=by rw[w64]<;>omega
 have hd:decide (((n+m:Nat):Int)<=300)=decide (wFms s.l+wFms s.r<=300):=by
  rw[decide_eq_decide];constructor
  ·intro h;have:=hn2 (by omega);have:=hm2 (by omega);omega
  ·intro h;omega
 simp only[go_sem,zE,w,hd];exact yQ0 ⟨rfl,rfl⟩
def plI (p:List Nat):List IV:=p.map λ(i:Nat)=>.raw (.int .i64 (i:Int))
theorem yVn (p:List Nat):(plI p).length=p.length:=by simp[plI]
def emp:ISt:=λ_=>none
def PlV (p:List Nat)(a:IV)(e:ISt):Prop :=
 (∃t,a=.sl t []/\t.cap=.nil/\p=[]/\e=emp) \/
 ∃g cap cs,a=.raw (.slice (some ⟨g,0,none⟩) p.length cap)/\e=emp.put g (some (.box cs))/\p.length<=cap/\cap<=cs.length/\cs.take p.length=plI p
def lkT (l:List (List Nat×Tr))(k:Nat)(zs:List IV)(e:ISt):Prop:=∃p t a x,l[k]?=some (p,t)/\IsTr t x/\PlV p a e/\zs=[a,.cptr x]
def xKj (b2 b3 b4:Nat):IV:=.fn (.func 118) [] [.raw (.pointer (some ⟨b2,0,none⟩)),.raw (.pointer (some ⟨b3,0,none⟩)),.raw (.pointer (some ⟨b4,0,none⟩))]
def ownF (b2 b3 b4:Nat)(fy a:IV):ISt:=((emp.put b2 (some (.box [fy]))).put b3 (some (.box [a]))).put b4 (some (.box [xKj b2 b3 b4]))
section
variable {b2 b3 b4:Nat}{fy a:IV}
theorem wYq (h3:b2≠b3)(h4:b2≠b4):ownF b2 b3 b4 fy a b2=some (.box [fy]):=by simp only[ownF,ISt.put_apply,if_neg h3,if_neg h4,if_true]
theorem yUd (h4:b3≠b4):ownF b2 b3 b4 fy a b3=some (.box [a]):=by simp only[ownF,ISt.put_apply,if_neg h4,if_true]
theorem xZ5:ownF b2 b3 b4 fy a b4=some (.box [xKj b2 b3 b4]):=by simp only[ownF,ISt.put_apply,if_true]
theorem xW9 {c:Nat}(h2:c≠b2)(h3:c≠b3)(h4:c≠b4):ownF b2 b3 b4 fy a c=none:=by simp only[ownF,ISt.put_apply,if_neg h2,if_neg h3,if_neg h4,emp]
theorem zJ9 {c:Nat}(a':IV):ownF b2 b3 b4 fy a c=none↔ownF b2 b3 b4 fy a' c=none:=by
 simp only[ownF,ISt.put_apply];by_cases h4:c=b4
 ·simp[h4]
 ·by_cases h3:c=b3
  ·subst h3;simp only[if_neg h4,if_true,reduceCtorEq]
  ·simp[h4,h3]
end
def xXq (b2 b3 b4:Nat)(fy:IV)(p:List Nat)(s stt:ISt):Prop:=∃a e,PlV p a e/\disj s e/\disj (join s e) (ownF b2 b3 b4 fy a)/\stt=join (join s e) (ownF b2 b3 b4 fy a)
def FOkL (y:IV)(I:Nat->ISt->Prop)(S:ISt->Prop)(k0:Nat)(l:List (List Nat×Tr)):Prop :=
 ∀i p t x a e stu,l[i]?=some (p,t)->IsTr t x->PlV p a e->disj stu e->I (k0+i) stu →
  ICallV prog gl y [a,.cptr x] (join stu e) λr st'=>(r=.raw (.bool true)/\∃s1,I (k0+i+1) s1/\disj s1 e/\st'=join s1 e)\/(r=.raw (.bool false)/\S st')
section
variable {gl}{y:IV}{I:Nat->ISt->Prop}{S:ISt->Prop}{k0:Nat}
theorem FOkL.left {l m:List (List Nat×Tr)}(h:FOkL gl y I S k0 (l++m)):FOkL gl y I S k0 l:=λi p t x a e stu hi =>
 h i p t x a e stu (by rw[List.getElem?_append_left (lGs hi).1];exact hi)
theorem FOkL.right {l m:List (List Nat×Tr)}(h:FOkL gl y I S k0 (l++m)):FOkL gl y I S (k0+l.length) m:=λi p t x a e stu hi hx hp hd hI=>by
 have:=h (l.length+i) p t x a e stu (by rw[List.getElem?_append_right (by omega)];simpa using hi) hx hp hd (by rw[<- Nat.add_assoc];exact hI);simpa only[Nat.add_assoc] using this
theorem FOkL.tail {z:List Nat×Tr}{m:List (List Nat×Tr)}(h:FOkL gl y I S k0 (z::m)):FOkL gl y I S (k0+1) m:=FOkL.right (l:=[z]) h
end
section
variable {b2 b3 b4:Nat}{fy a a':IV}{p:List Nat}{s:ISt}{g:Nat}
theorem zGw {c:Nat}(h:c≠b3):ownF b2 b3 b4 fy a c=ownF b2 b3 b4 fy a' c:=by simp only[ownF,ISt.put_apply,if_neg h]
theorem wZc {cs:List IV}(h34:b3≠b4)(hs:disj s (ownF b2 b3 b4 fy a))(hg1:s g=none)(hg2:ownF b2 b3 b4 fy a g=none)(hp:PlV p a' (emp.put g (some (.box cs)))) :
  xXq b2 b3 b4 fy p s (((join s (ownF b2 b3 b4 fy a)).put g (some (.box cs))).put b3 (some (.box [a']))):=by
 have hg3:ownF b2 b3 b4 fy a' g=none:=(zJ9 a').1 hg2;refine⟨a',_,hp,λb hb=>?_,λb hb=>?_,?_⟩
 ·rw[ISt.put_apply] at hb;split at hb
  ·rename_i h;rw[h];exact hg1
  ·exact absurd rfl hb
 ·have hbg:b≠g:=by rintro rfl;exact hb hg3
  have he:(emp.put g (some (.box cs))) b=none:=by rw[ISt.put_apply,if_neg hbg];rfl
  rw[yZ2 he];exact hs b λh=>hb ((zJ9 a').1 h)
 ·funext c;by_cases h3:c=b3
  ·rw[ISt.put_apply,if_pos h3,h3,yQy (yUd h34)]
  ·rw[ISt.put_apply,if_neg h3,ISt.put_apply];by_cases hc:c=g
   ·rw[if_pos hc,hc,yZ2 hg3,yQy (ISt.put_same ..)]
   ·rw[if_neg hc];have he:(emp.put g (some (.box cs))) c=none:=by rw[ISt.put_apply,if_neg hc];rfl
    cases ho:ownF b2 b3 b4 fy a c with
    | some o=>rw[yQy ho,yQy ((zGw h3).symm.trans ho)]
    | none=>rw[yZ2 ho,yZ2 ((zGw h3).symm.trans ho),yZ2 he]
theorem vQl {cs:List IV}(hd1:s g=none)(hd2:ownF b2 b3 b4 fy a g=none):(join (join s (emp.put g (some (.box cs)))) (ownF b2 b3 b4 fy a)).put g none=join s (ownF b2 b3 b4 fy a):=by
 funext c;rw[ISt.put_apply];split
 ·rename_i h;rw[h,yZ2 hd2,hd1]
 ·rename_i h;have he:(emp.put g (some (.box cs))) c=none:=by rw[ISt.put_apply,if_neg h];rfl
  cases ho:ownF b2 b3 b4 fy a c with
  | some o=>rw[yQy ho,yQy ho]
  | none=>rw[yZ2 ho,yZ2 ho,yZ2 he]
end
theorem PlV.cons {p:List Nat}{k:Nat}{a:IV}{e:ISt}(h:PlV (p++[k]) a e):∃g cap cs,a=.raw (.slice (some ⟨g,0,none⟩) (p.length+1) cap)/\e=emp.put g (some (.box cs))/\p.length+1<=cap/\cap<=cs.length/\cs.take p.length=plI p:=by
 rcases h with⟨t,_,_,h,_⟩|⟨g,cap,cs,rfl,rfl,h1,h2,h3⟩
 ·simp at h
 ·rw[lLa] at h1 h3 ⊢;refine⟨g,cap,cs,rfl,rfl,h1,h2,?_⟩;have:=congrArg (List.take p.length) h3;rw[List.take_take,show min p.length (p.length+[k].length)=p.length by omega] at this;rw[this];unfold plI;rw[List.map_append,List.take_left' (by simp)]
theorem wYk {b2 b3 b4:Nat}{fy a a':IV}{X:ISt}(h34:b3≠b4):(join X (ownF b2 b3 b4 fy a)).put b3 (some (.box [a']))=join X (ownF b2 b3 b4 fy a'):=by
 funext c;rw[ISt.put_apply];split
 ·rename_i h;rw[h,yQy (yUd h34)]
 ·rename_i h;cases ho:ownF b2 b3 b4 fy a c with
  | some o=>rw[yQy ho,yQy ((zGw h).symm.trans ho)]
  | none=>rw[yZ2 ho,yZ2 ((zGw h).symm.trans ho)]
theorem zWv {n m:Nat}(h:n+1<=m):yX8 none (some ((n:Nat):Int)) m=some (0,n):=by
 simp only[yX8,Option.getD_none,Option.getD_some];rw[if_pos ⟨Int.le_refl _,by omega,by omega⟩];simp
theorem zYj:∀ {l:List Tr}{t:Tr},t∈l->t.height<=yXr l
 | a::l,t,h=>by
  simp only[yXr];rcases List.mem_cons.1 h with rfl|h
  ·omega
  ·have:=zYj h;omega
theorem zKu (x:Operand):yKi 1 [(0,x)]=true:=rfl
theorem yKm (p:List Nat):∀(i:Nat) (l m:List Tr),yXa p i (l++m)=yXa p i l++yXa p (i+l.length) m
 | i,[],m=>by simp[yXa]
 | i,a::l,m=>by
  simp only[List.cons_append,yXa,yKm p (i+1) l m,List.append_assoc,List.length_cons];rw[show i+1+l.length=i+(l.length+1) by omega]
def FF (t:Tr):Prop:=∀(x:IV) (_:IsTr t x) (b2 b3 b4:Nat) (_:b2≠b3) (_:b2≠b4) (_:b3≠b4) (g:Fn) (fi ca:List IV) (_:fnOk g=true) (_:∀i,g=.func i->entI prog i=true) (I:Nat->ISt->Prop) (S:ISt->Prop) (k0:Nat) (p:List Nat)
  (_:FOkL gl (.fn g fi ca) I S k0 (t.walk p)) (_:p.length+t.height<=1099511627776) (s stt:ISt) (_:I k0 s) (_:xXq b2 b3 b4 (.fn g fi ca) p s stt),
  ICall prog gl 118 [.cptr x,.raw (.pointer (some ⟨b2,0,none⟩)),.raw (.pointer (some ⟨b3,0,none⟩)),.raw (.pointer (some ⟨b4,0,none⟩))] stt
   (λr st'=>(r=.raw (.bool true)/\∃s1,I (k0+(t.walk p).length) s1/\xXq b2 b3 b4 (.fn g fi ca) p s1 st')\/(r=.raw (.bool false)/\∃s1,S s1/\subSt s1 st'))
theorem wXr (rule:Nat)(sq:Sq)(f:Fm)(u:Tm)(n:ByteArray)(sub:List Tr)(IH:∀a∈sub,FF gl a):FF gl (.mk rule sq f u n sub):=by
 intro x hx b2 b3 b4 h23 h24 h34 g fi ca hfn hent I S k0 p hy hdeep s stt hI hst;have hx0:=hx;obtain⟨tl,xl,tr,xr,op,fn,ta,xa,tb,xb,v,un,tu,xu,ts,xs,hxe,hru,_,_,_,_,_,_,e3,i3⟩:=hx.mk;obtain⟨a,e,hp,hd1,hd2,rfl⟩:=hst;simp only[Tr.walk] at hy ⊢;have hhead:=hy 0 p _ _ a e s rfl hx0 hp hd1 hI;have hy':=FOkL.tail hy;have r2:join (join s e) (ownF b2 b3 b4 (.fn g fi ca) a) b2=some (.box [.fn g fi ca]):=yQy (wYq h23 h24);have r3:join (join s e) (ownF b2 b3 b4 (.fn g fi ca) a) b3=some (.box [a]):=yQy (yUd h34);refine ICall.intro (c:=cf prog gl [23,24] []) func118 rfl (by show _<=39;simp) (by kernel_rfl) ?_;have hiv:ivOf (.iv a)=some a:=by rcases hp with⟨t,rfl,_⟩|⟨g,cap,cs,rfl,_⟩<;>rfl
 rw[hxe] at hhead;simp only[go_sem,zE,reduceCtorEq,r2,r3,hiv,hxe];refine yJf hent (hhead.frame hd2 |>.mono ?_);rintro r stt ⟨s2,hd3,rfl,(⟨rfl,s3,hI3,hd4,rfl⟩|⟨rfl,hS⟩)⟩
 ·simp only[go_sem,reduceCtorEq,i3.len];intro hlen;refine LoopC.ctr sub.length (λk fr st' ds=>(∃s,I (k0+1+(yXa p 0 (sub.take k)).length) s/\xXq b2 b3 b4 (.fn g fi ca) p s st')/\fr 0=.iv (.cptr x)/\fr 1=.iv (.raw (.pointer (some ⟨b2,0,none⟩)))/\fr 2=.iv (.raw (.pointer (some ⟨b3,0,none⟩)))/\fr 3=.iv (.raw (.pointer (some ⟨b4,0,none⟩)))/\fr 16=.iv (.raw (.int .i64 sub.length))/\fr 17=.iv (.raw (.int .i64 k))/\ds=[]) ?_ ?_ ?_
  ·simp only[go_sem,zE,reduceCtorEq,hxe];exact⟨⟨s3,by simpa[yXa] using hI3,a,e,hp,hd4,hd3,rfl⟩,rfl⟩
  ·rintro k fr st1 _ hlt ⟨⟨s,hI,a,e,hp,hd1,hd2,rfl⟩,f0,f1,f2,f3,f16,f17,rfl⟩;rw[hxe] at f0;obtain⟨t,ht⟩:=yQ3 hlt;obtain⟨z,hkz,hz⟩:=i3.get ht;have r3:join (join s e) (ownF b2 b3 b4 (.fn g fi ca) a) b3=some (.box [a]):=yQy (yUd h34);have hth:=zYj (lMg ht);simp only[Tr.height] at hdeep;have hsplit:yXa p 0 sub=yXa p 0 (sub.take k)++(t.walk (p++[k])++yXa p (k+1) (sub.drop (k+1))):=by
    conv=>lhs;rw[<- List.take_append_drop k sub,List.drop_eq_getElem_cons hlt]
    rw[yKm,(lGs ht).2,show (sub.take k).length=k by rw[List.length_take];omega];simp only[yXa,Nat.zero_add]
   have hya:=hy';rw[hsplit] at hya;have hcall:=λstt hF=>IH t (lMg ht) z hz b2 b3 b4 h23 h24 h34 g fi ca hfn hent I S _ (p++[k]) (FOkL.left (FOkL.right hya)) (by rw[lLa];simp only[List.length_singleton];omega) s stt hI hF;have wcut:IntKind.i64.wrap (((p.length+1:Nat):Int)-1)=(p.length:Nat):=by rw[w64 (by omega) (by omega)];omega
   have hz':∃c0 c1 c2 c3 c4 c5 c6 c7 c8 c9 c10 c11,z=.agg [c0,c1,c2,c3,c4,c5,c6,c7,c8,c9,c10,c11]:=by
    obtain⟨r',s',m',t',n',b'⟩:=t;obtain⟨tl',xl',tr',xr',op',fn',ta',xa',tb',xb',v',un',tu',xu',ts',xs',rfl,_⟩:=hz.mk;exact⟨_,_,_,_,_,_,_,_,_,_,_,_,rfl⟩
   obtain⟨c0,c1,c2,c3,c4,c5,c6,c7,c8,c9,c10,c11,rfl⟩:=hz';rcases hp with⟨t0,rfl,hta,hp0,rfl⟩|⟨g',cap,cs,rfl,rfl,hc1,hc2,hc3⟩
   ·obtain⟨fs,c,es⟩:=t0;obtain rfl:c=.nil:=hta;have hje:join s emp=s:=rfl;rw[hje] at r3 hd2 ⊢;simp only[go_sem,zE,zA,zM,zL,reduceCtorEq,f0,f2,f3,f16,f17,lt_i hlt,r3,hxe,zKu];intro g' cap;refine yQb λhg=>?_;obtain⟨hg,hcap⟩:=hg;change join s (ownF b2 b3 b4 (.fn g fi ca) (.sl ⟨fs,.nil,es⟩ [])) g'=none at hg;have hd2':disj s (ownF b2 b3 b4 (.fn g fi ca) (.sl ⟨fs,.nil,es⟩ [])):=hd2;have hg2:ownF b2 b3 b4 (.fn g fi ca) (.sl ⟨fs,.nil,es⟩ []) g'=none:=by
     cases ho:ownF b2 b3 b4 (.fn g fi ca) (.sl ⟨fs,.nil,es⟩ []) g' with
     | none=>rfl
     | some o=>rw[yQy ho] at hg;cases hg
    have hg1:s g'=none:=by rw[<- yZ2 (stu:=s) hg2];exact hg
    have hb3:b3≠g':=by rintro rfl;rw[yUd h34] at hg2;cases hg2
    have hF:=wZc (fy:=.fn g fi ca) (p:=p++[k]) (a':=.raw (.slice (some ⟨g',0,none⟩) 1 cap)) (cs:=.raw (.int .i64 k)::List.replicate (cap-1) .junk) h34 hd2' hg1 hg2 (.inr ⟨g',cap,_,by rw[hp0];rfl,rfl,by simpa[hp0] using hcap,by simp;omega,by simp[plI,hp0]⟩);have hb4:b4≠g':=by rintro rfl;rw[xZ5] at hg2;cases hg2
    have r3':∀o,((join s (ownF b2 b3 b4 (.fn g fi ca) (.sl ⟨fs,.nil,es⟩ []))).put g' o) b3=some (.box [.sl ⟨fs,.nil,es⟩ []]):=λo=>by rw[ISt.put_apply,if_neg hb3];exact r3
    have r4':∀o o',(((join s (ownF b2 b3 b4 (.fn g fi ca) (.sl ⟨fs,.nil,es⟩ []))).put g' o).put b3 o') b4=some (.box [xKj b2 b3 b4]):=λo o'=>by rw[ISt.put_apply,if_neg h34.symm,ISt.put_apply,if_neg hb4];exact yQy xZ5
    simp only[go_sem,zL,IV.one,List.flatMap_cons,List.flatMap_nil,IV.cells,Nat.mul_one,r3',r4',hkz,yQ1 e3,iNn,xKj];refine (hcall _ hF).mono ?_;rintro _ st2 (⟨rfl,s1,hI1,hF1⟩|⟨rfl,s1,hS1,hsub1⟩)
    ·obtain⟨a2,e2,hp2,hd5,hd6,rfl⟩:=hF1;obtain⟨g3,cap3,cs3,rfl,rfl,hc4,hc5,hc6⟩:=hp2.cons;have r6:join (join s1 (emp.put g3 (some (.box cs3)))) (ownF b2 b3 b4 (.fn g fi ca) (.raw (.slice (some ⟨g3,0,none⟩) (p.length+1) cap3))) b3=some (.box [.raw (.slice (some ⟨g3,0,none⟩) (p.length+1) cap3)]):=yQy (yUd h34);simp only[go_sem,zE,zL,reduceCtorEq,IV.one,r6,f0,f1,f2,f3,f16,f17,wcut,zWv hc4,ite_self,Nat.zero_mul,hc4,yQa hlt (show sub.length<=281474976710656 by omega)];refine⟨s1,?_,?_⟩
     ·rw[yQ5 ht,yKm,lLa,show (sub.take k).length=k by rw[List.length_take];omega];simp only[yXa,List.append_nil,Nat.zero_add];rw[<- Nat.add_assoc];exact hI1
     ·rw[wYk h34];exact⟨_,_,.inr ⟨g3,cap3,cs3,rfl,rfl,by omega,hc5,hc6⟩,hd5,λb hb=>hd6 b λh=>hb ((zJ9 _).1 h),rfl⟩
    ·simp only[go_sem];exact yQ0 (.inr ⟨rfl,s1,hS1,hsub1⟩)
   ·have ho:ownF b2 b3 b4 (.fn g fi ca) (.raw (.slice (some ⟨g',0,none⟩) p.length cap)) g'=none:=by
     cases ho:ownF b2 b3 b4 (.fn g fi ca) (.raw (.slice (some ⟨g',0,none⟩) p.length cap)) g' with
     | none=>rfl
     | some o =>
      have:=hd2 g' (by rw[ho];simp);rw[yQy (ISt.put_same ..)] at this;cases this
    have hs1:s g'=none:=hd1 g' (by rw[ISt.put_same];simp);have r5:join (join s (emp.put g' (some (.box cs)))) (ownF b2 b3 b4 (.fn g fi ca) (.raw (.slice (some ⟨g',0,none⟩) p.length cap))) g'=some (.box cs):=by
     rw[yZ2 ho,yQy (ISt.put_same ..)]
    simp only[go_sem,zE,zA,zM,zL,f2,f16,f17,lt_i hlt,r3,hxe,zKu];refine zX7 _ _ _ r5 (by simp[fits,IV.one]) ⟨by show (_+1)*8<=_;omega,by show _+1<=_;omega⟩ ⟨hc1,by show _*1<=_;omega⟩ (by simp[IV.cells]) ?_;intro g2 cap2 cs2 hg2 k1 k2 k3;rw[vQl hs1 ho];have hgo:s g2=none/\ownF b2 b3 b4 (.fn g fi ca) (.raw (.slice (some ⟨g',0,none⟩) p.length cap)) g2=none:=by
     rcases hg2 with rfl|hg2
     ·exact⟨hs1,ho⟩
     ·cases hq:ownF b2 b3 b4 (.fn g fi ca) (.raw (.slice (some ⟨g',0,none⟩) p.length cap)) g2 with
      | some o=>rw[yQy hq] at hg2;cases hg2
      | none =>
       rw[yZ2 hq] at hg2;refine⟨?_,rfl⟩;cases hz:s g2 with
       | none=>rfl
       | some o=>rw[yJq hd1 g2 o hz] at hg2;cases hg2
    have hs2:disj s (ownF b2 b3 b4 (.fn g fi ca) (.raw (.slice (some ⟨g',0,none⟩) p.length cap))):=λb hb=>by
     have:=hd2 b hb;cases hz:s b with
     | none=>rfl
     | some o=>rw[yJq hd1 b o hz] at this;cases this
    have hF:=wZc (fy:=.fn g fi ca) (p:=p++[k]) (a':=.raw (.slice (some ⟨g2,0,none⟩) (p.length+1) cap2)) (cs:=cs2) h34 hs2 hgo.1 hgo.2 (.inr ⟨g2,cap2,cs2,by simp,rfl,by simpa using k1,by simpa using k2,by
     simp only[Nat.mul_one] at k3;rw[lLa];exact k3.trans (by rw[hc3];simp[plI,IV.cells])⟩)
    have hb3:b3≠g2:=by rintro rfl;have:=hgo.2;rw[yUd h34] at this;cases this
    have hb4:b4≠g2:=by rintro rfl;have:=hgo.2;rw[xZ5] at this;cases this
    have r3':∀o,((join s (ownF b2 b3 b4 (.fn g fi ca) (.raw (.slice (some ⟨g',0,none⟩) p.length cap)))).put g2 o) b3=some (.box [.raw (.slice (some ⟨g',0,none⟩) p.length cap)]):=λo=>by rw[ISt.put_apply,if_neg hb3];exact yQy (yUd h34)
    have r4':∀o o',(((join s (ownF b2 b3 b4 (.fn g fi ca) (.raw (.slice (some ⟨g',0,none⟩) p.length cap)))).put g2 o).put b3 o') b4=some (.box [xKj b2 b3 b4]):=λo o'=>by rw[ISt.put_apply,if_neg h34.symm,ISt.put_apply,if_neg hb4];exact yQy xZ5
    simp only[go_sem,zE,zL,reduceCtorEq,IV.one,IV.cells,r3',r4',f0,f2,f3,hkz,yQ1 e3,iNn,fits,xKj];refine (hcall _ hF).mono ?_;rintro _ st2 (⟨rfl,s1,hI1,hF1⟩|⟨rfl,s1,hS1,hsub1⟩)
    ·obtain⟨a2,e2,hp2,hd5,hd6,rfl⟩:=hF1;obtain⟨g3,cap3,cs3,rfl,rfl,hc4,hc5,hc6⟩:=hp2.cons;have r6:join (join s1 (emp.put g3 (some (.box cs3)))) (ownF b2 b3 b4 (.fn g fi ca) (.raw (.slice (some ⟨g3,0,none⟩) (p.length+1) cap3))) b3=some (.box [.raw (.slice (some ⟨g3,0,none⟩) (p.length+1) cap3)]):=yQy (yUd h34);simp only[go_sem,zE,zL,reduceCtorEq,IV.one,r6,f0,f1,f2,f3,f16,f17,wcut,zWv hc4,ite_self,Nat.zero_mul,hc4,yQa hlt (show sub.length<=281474976710656 by omega)];refine⟨s1,?_,?_⟩
     ·rw[yQ5 ht,yKm,lLa,show (sub.take k).length=k by rw[List.length_take];omega];simp only[yXa,List.append_nil,Nat.zero_add];rw[<- Nat.add_assoc];exact hI1
     ·rw[wYk h34];exact⟨_,_,.inr ⟨g3,cap3,cs3,rfl,rfl,by omega,hc5,hc6⟩,hd5,λb hb=>hd6 b λh=>hb ((zJ9 _).1 h),rfl⟩
    ·simp only[go_sem];exact yQ0 (.inr ⟨rfl,s1,hS1,hsub1⟩)
  ·rintro fr st1 _ ⟨⟨s,hI,hF⟩,f0,f1,f2,f3,f16,f17,rfl⟩;rw[lTl] at hI;simp only[go_sem,f16,f17,yQj (nLi _)];refine yQ0 (.inl ⟨rfl,s,?_,hF⟩);rw[show k0+((yXa p 0 sub).length+1)=k0+1+(yXa p 0 sub).length by omega];exact hI
 ·simp only[go_sem];exact yQ0 (.inr ⟨rfl,s2,hS,yJq hd3⟩)
theorem xY3:∀(k:Nat)(t:Tr),SizeOf.sizeOf t<k->FF gl t
 | 0,t,h=>by omega
 | k+1,.mk r sq f u n sub,h=>wXr gl r sq f u n sub (λa ha=>xY3 k a (by
   have:=lSm ha;simp at h;omega))
theorem vKf (t:Tr):FF gl t:=xY3 gl _ t (Nat.lt_succ_self _)
theorem wKl (t:Tr)(x:IV)(hx:IsTr t x)(hd:t.height<=1099511627776)(I:Nat->ISt->Prop):wY3 prog gl 117 [] [.cptr (.cptr x)] (lkT (t.walk [])) (t.walk []).length I:=by
 rintro y I' S' st ⟨g,fi,ca,rfl,hfn,hent⟩ _ hy h0;have hfrom:=vKf gl t x hx;have hok:FOkL gl (.fn g fi ca) I' S' 0 (t.walk []):=λi p t x a e stu hi ht hp hdj hI=>by
  rw[Nat.zero_add] at hI ⊢;exact hy i [a,.cptr x] e stu ⟨p,t,a,x,hi,ht,hp,rfl⟩ hdj hI
 have hz':∃c0 c1 c2 c3 c4 c5 c6 c7 c8 c9 c10 c11,x=.agg [c0,c1,c2,c3,c4,c5,c6,c7,c8,c9,c10,c11]:=by
  obtain⟨r',s',m',t',n',b'⟩:=t;obtain⟨tl',xl',tr',xr',op',fn',ta',xa',tb',xb',v',un',tu',xu',ts',xs',rfl,_⟩:=hx.mk;exact⟨_,_,_,_,_,_,_,_,_,_,_,_,rfl⟩
 obtain⟨c0,c1,c2,c3,c4,c5,c6,c7,c8,c9,c10,c11,rfl⟩:=hz';change ICall prog gl _ [.fn g fi ca,_] st _;refine ICall.intro (c:=cf prog gl [2,3,4] []) func117 rfl (by show _<=9;simp) (by kernel_rfl) ?_;simp only[go_sem,zE,zL,fits];intro b2;refine yQb λhb2=>?_;intro b3;refine yQb λhb3=>?_;intro b4;refine yQb λhb4=>?_;have h23:b2≠b3:=by rintro rfl;rw[ISt.put_same] at hb3;cases hb3
 have h34:b3≠b4:=by rintro rfl;rw[ISt.put_same] at hb4;cases hb4
 have h24:b2≠b4:=by rintro rfl;rw[ISt.put_apply,if_neg h23,ISt.put_same] at hb4;cases hb4
 rw[ISt.put_apply,if_neg h23.symm] at hb3;rw[ISt.put_apply,if_neg h34.symm,ISt.put_apply,if_neg h24.symm] at hb4;have hF:xXq b2 b3 b4 (.fn g fi ca) [] st ((((st.put b2 (some (.box [.fn g fi ca]))).put b3 (some (.box [.sl ⟨true,.nil,0⟩ []]))).put b4 (some (.box [.raw .nilFunc]))).put b4 (some (.box [xKj b2 b3 b4]))):=by
  refine⟨_,emp,.inl ⟨⟨true,.nil,0⟩,rfl,rfl,rfl,rfl⟩,λb hb=>absurd rfl hb,λb hb=>?_,?_⟩
  ·show st b=none;by_cases q4:b=b4
   ·rw[q4];exact hb4
   ·by_cases q3:b=b3
    ·rw[q3];exact hb3
    ·by_cases q2:b=b2
     ·rw[q2];exact hb2
     ·exact absurd (xW9 q2 q3 q4) hb
  ·funext c;by_cases q4:c=b4
   ·rw[q4,ISt.put_same,yQy xZ5]
   ·rw[ISt.put_apply,if_neg q4,ISt.put_apply,if_neg q4];by_cases q3:c=b3
    ·rw[q3,ISt.put_same,yQy (yUd h34)]
    ·rw[ISt.put_apply,if_neg q3];by_cases q2:c=b2
     ·rw[q2,ISt.put_same,yQy (wYq h23 h24)]
     ·rw[ISt.put_apply,if_neg q2,yZ2 (xW9 q2 q3 q4)];rfl
 refine (hfrom b2 b3 b4 h23 h24 h34 g fi ca hfn hent I' S' 0 [] hok (by simpa using hd) st _ h0 hF).mono ?_;rintro r stt (⟨rfl,s1,hI1,a,e,_,hd1,hd2,rfl⟩|⟨rfl,s1,hS1,hsub⟩)
 ·simp only[go_sem];rw[Nat.zero_add] at hI1;exact yQ9 ((yJq hd1).trans (yJq hd2)) (.inl hI1)
 ·simp only[go_sem];exact yQ9 hsub (.inr hS1)
theorem wU1 (x:IV)(st:ISt)(t:Tr)(hx:IsTr t x):ICall prog gl 72 [.cptr x] st (λr st'=>r=.fn (.func 117) [] [.cptr (.cptr x)]/\st'=st):=by
 have hz':∃c0 c1 c2 c3 c4 c5 c6 c7 c8 c9 c10 c11,x=.agg [c0,c1,c2,c3,c4,c5,c6,c7,c8,c9,c10,c11]:=by
  obtain⟨r',s',m',t',n',b'⟩:=t;obtain⟨tl',xl',tr',xr',op',fn',ta',xa',tb',xb',v',un',tu',xu',ts',xs',rfl,_⟩:=hx.mk;exact⟨_,_,_,_,_,_,_,_,_,_,_,_,rfl⟩
 obtain⟨c0,c1,c2,c3,c4,c5,c6,c7,c8,c9,c10,c11,rfl⟩:=hz';refine ICall.intro (c:=cf prog gl [] [] [1]) func72 rfl (by show _<=4;simp) (by kernel_rfl) ?_;simp only[go_sem,zE];exact yQ0 ⟨rfl,rfl⟩
theorem wK9 (t:Tag)(ht:t.cap=.nil)(st:ISt):ICall prog gl 74 [.sl t []] st (λr st'=>(∃t',r=.sl t' (plI [])/\okEs t' 1)/\st'=st):=by
 obtain⟨fs,c,es⟩:=t;obtain rfl:c=.nil:=ht;refine iI func74 rfl rfl (by kernel_rfl) ?_;have hb:binV prog 50 .eql (.sl ⟨fs,.nil,es⟩ []) (.sl ⟨true,.nil,0⟩ [])=some (.raw (.bool true)):=by
  have:zQz prog 50=true:=by kernel_rfl
  simp[binV,zW9,this]
 simp only[go_sem,reduceCtorEq,hb];exact yQ0 ⟨⟨_,rfl,.inl rfl⟩,rfl⟩
theorem wKa (g:Nat)(p:List Nat)(hp:p≠[])(hl:p.length<=1099511627776)(st:ISt):ICall prog gl 74 [.sl ⟨false,.app g,1⟩ (plI p)] st (λr st'=>(∃t',r=.sl t' (plI p)/\okEs t' 1)/\st'=st):=by
 obtain⟨i,p,rfl⟩:∃i q,p=i::q:=by
  cases p with
  | nil=>exact absurd rfl hp
  | cons i q=>exact⟨i,q,rfl⟩
 refine iI func74 rfl rfl (by kernel_rfl) ?_;have hb:binV prog 50 .eql (.sl ⟨false,.app g,1⟩ (plI (i::p))) (.sl ⟨true,.nil,0⟩ [])=some (.raw (.bool false)):=by
  have:zQz prog 50=true:=by kernel_rfl
  simp[binV,zW9,this]
 have hf:(plI (i::p)).all (fits false 1)=true:=by simp[plI,fits,IV.one]
 simp only[List.length_cons] at hl;have he:plI (i::p)=.raw (.int .i64 (i:Int))::plI p:=rfl;have hpl:=yVn p;have hf':(plI p).all (fits false 1)=true:=by simp[plI,fits,IV.one]
 rw[he] at hb hf ⊢;simp only[go_sem,zE,zA,zM,zL,reduceCtorEq,fits,hb];exact yQs rfl (yQs hf' (yQs ⟨by omega,by omega⟩ λg'=>yQb λhg=>yQ9 (yQc hg) ⟨⟨_,rfl,.inr rfl⟩,rfl⟩))
theorem xUm {R:Rt}{st:ISt}{ds:List Dfd}(esc:List Nat)(dst:Option Nat)(e:TypeId×Bool×Nat×Nat)(fs:Bool)(es:Nat)(xs:List IV):appV esc dst e ⟨fs,.full,es⟩ xs [] R st ds =
 chk (([]:List IV).all (fits e.2.1 e.2.2.1)=true) (chk ((xs.length+0)*e.2.2.2<=140737488355328/\xs.length+0<=140737488355328) (chk (es=e.2.2.1) (R (.val (.sl ⟨fs,.full,es⟩ xs)) st ds))):=rfl
theorem xUx (g:Nat)(st:ISt):ICall prog gl 74 [.sl ⟨false,.app g,1⟩ (plI [])] st (λr st'=>(∃t',r=.sl t' (plI [])/\okEs t' 1)/\st'=st):=by
 have hb:binV prog 50 .eql (.sl ⟨false,.app g,1⟩ (plI [])) (.sl ⟨true,.nil,0⟩ [])=some (.raw (.bool false)):=by
  have:zQz prog 50=true:=by kernel_rfl
  simp[binV,zW9,this]
 rw[show plI []=[] from rfl] at hb ⊢;refine iI func74 rfl rfl (by kernel_rfl) ?_;simp only[go_sem,zE,zA,zM,zL,reduceCtorEq,hb,xUm];exact yQs rfl (yQ0 ⟨⟨_,rfl,.inr rfl⟩,rfl⟩)
theorem wXd {s e:ISt}(h:disj s e):join s e=join e s:=by
 funext b;cases he:e b with
 | none =>
  rw[yZ2 he];cases hs:s b with
  | none=>rw[yZ2 hs,he]
  | some o=>rw[yQy hs]
 | some o=>rw[yQy he,yZ2 (h b (by rw[he];simp)),he]
theorem xYl:∀p:List Nat,ages (plI p)=plI p
 | []=>by simp only[plI,List.map_nil,ages]
 | i::p=>by
  have:=xYl p;simp only[plI,List.map_cons,ages,age] at this ⊢;rw[this]
theorem xW4:∀p:List Nat,(plI p).flatMap IV.cells=plI p
 | []=>rfl
 | i::p=>by
  have:=xW4 p;simp only[plI,List.map_cons,List.flatMap_cons,IV.cells,List.singleton_append] at this ⊢;rw[this]
theorem vZb (p:List Nat)(a:IV)(e s:ISt)(hp:PlV p a e)(hl:p.length<=1099511627776)(hd:disj s e):ICall prog gl 74 [a] (join s e) (λr st'=>(∃t',r=.sl t' (plI p)/\okEs t' 1)/\st'=s):=by
 have key:ICall prog gl 74 [a] e (λr st'=>(∃t',r=.sl t' (plI p)/\okEs t' 1)/\st'=emp):=by
  rcases hp with⟨t,rfl,ht,rfl,rfl⟩|⟨g,cap,cs,rfl,rfl,h1,h2,h3⟩
  ·exact wK9 gl t ht emp
  ·have hnb:yWn (emp.put g (some (.box cs)))=emp:=by
    funext b;by_cases hb:b=g
    ·rw[hb,zQp (ISt.put_same ..)];rfl
    ·have:(emp.put g (some (.box cs))) b=none:=by rw[ISt.put_apply,if_neg hb];rfl
     rw[yWm (λcs' h=>by rw[this] at h;cases h),this];rfl
   refine ICall.freeze (args':=[.sl ⟨false,.app g,1⟩ (plI p)]) ⟨_,_,rfl,.inr ⟨.sl ⟨true,.app g,1⟩ (plI p),?_,?_⟩,rfl⟩ ?_
   ·rw[<- yVn p];refine .sl g cap ⟨true,.app g,1⟩ (plI p) cs rfl (by rw[yVn];omega) (by rw[yVn];exact h1) (λx hx=>?_) (ISt.put_same ..) (by simpa using h2) λi r c hr hc=>?_
    ·obtain⟨i,_,rfl⟩:=List.mem_map.1 hx;rfl
    ·rw[xW4 p] at hc;have hi:i<p.length:=by
      have:=(lGs hc).1
      rwa [yVn] at this
     have:(cs.take p.length)[i]?=cs[i]?:=by rw[List.getElem?_take,if_pos hi]
     rw[h3,hc,hr] at this;cases this;exact .refl _
   ·simp only[age,xYl]
   ·rw[hnb];by_cases hpn:p=[]
    ·subst hpn;exact xUx gl g emp
    ·exact wKa gl g p hpn hl emp
 have h1:=key.frame (own:=s) (λb hb=>by
  cases he:e b with
  | none=>rfl
  | some o=>exact absurd (hd b (by rw[he];simp)) hb)
 rw[wXd hd];refine h1.mono ?_;rintro r st' ⟨stu,_,rfl,hr,rfl⟩;refine⟨hr,?_⟩;funext b;cases hs:s b with
 | none=>rw[yZ2 hs];rfl
 | some o=>rw[yQy hs]
def xWi:Tr->Prop
 | .mk _ s m u _ sub=>yWf s/\m.size<=1000000/\u.size<=1000000/\∀a∈sub,yWf a.sq
def wW5 (t:Tr):Prop:=(∀q∈t.walk [],xWi q.2)/\t.height<=1099511627776
theorem wWp (G:Gl gl)(T:Gt gl)(ca:Nat)(t:Tr)(x:IV)(hx:IsTr t x)(hn:xWi t)(st:ISt):ICall prog gl 73 [.raw (.int .u8 ca),.cptr x] st (λr st'=>r=.raw (.int .i64 (yJe ca t))/\st'=st):=by
 obtain⟨rule,s,m,u,n,sub⟩:=t;exact vQw gl G T ca rule s m u n sub x hx hn.1 hn.2.1 hn.2.2.1 hn.2.2.2 st
theorem yUo {t:Tr}{x:IV}(h:IsTr t x):∃(rule:Nat) (tl:Tag) (xl:List IV) (tr:Tag) (xr:List IV) (op:Int) (fn:ByteArray) (ta:Tag) (xa:List IV) (tb:Tag) (xb:List IV) (v:Bool) (un:ByteArray) (tu:Tag) (xu:List IV) (n:ByteArray) (ts:Tag) (xs:List IV),
  x=.agg [.raw (.int .u8 rule),.sl tl xl,.sl tr xr,.raw (.int .u8 op),.raw (.string fn),.sl ta xa,.sl tb xb,.raw (.bool v),.raw (.string un),.sl tu xu,.raw (.string n),.sl ts xs]:=by
 obtain⟨r',s',m',t',n',b'⟩:=t;obtain⟨tl',xl',tr',xr',op',fn',ta',xa',tb',xb',v',un',tu',xu',ts',xs',rfl,_⟩:=h.mk;exact⟨_,_,_,_,_,_,_,_,_,_,_,_,_,_,_,_,_,_,rfl⟩
mutual
theorem zG7:∀(p:List Nat)(t:Tr),(t.walk p).length=t.steps
 | p,.mk _ _ _ _ _ sub=>by simp only[Tr.walk,Tr.steps,List.length_cons,zJq p 0 sub];omega
theorem zJq:∀(p:List Nat)(i:Nat)(l:List Tr),(yXa p i l).length=yQt l
 | _,_,[]=>rfl
 | p,i,a::l=>by simp only[yXa,yQt,lLa,zG7 (p++[i]) a,zJq p (i+1) l]
end
mutual
theorem xQ3:∀(q:List Nat)(t:Tr)(x:List Nat×Tr),x∈t.walk q->x.1.length+1<=q.length+t.height
 | q,.mk _ _ _ _ _ sub,x,h=>by
  simp only[Tr.walk,List.mem_cons] at h;simp only[Tr.height];rcases h with rfl|h
  ·simp only;omega
  ·have:=zXc q 0 sub x h;omega
theorem zXc:∀(q:List Nat)(i:Nat)(l:List Tr)(x:List Nat×Tr),x∈yXa q i l->x.1.length<=q.length+yXr l
 | _,_,[],x,h=>by simp[yXa] at h
 | q,i,a::l,x,h=>by
  simp only[yXa,List.mem_append] at h;simp only[yXr];rcases h with h|h
  ·have:=xQ3 (q++[i]) a x h;rw[lLa] at this;simp only[List.length_singleton] at this;omega
  ·have:=zXc q (i+1) l x h;omega
end
def CkI (st:ISt)(b2 b4 b5 b6 ca c:Nat)(s:ISt):Prop:=s b2=some (.box [.raw (.int .u8 ca)])/\s b4=some (.box [.sl ⟨true,.nil,0⟩ []])/\s b5=some (.box [.raw (.int .i64 0)])/\s b6=some (.box [.raw (.int .i64 c)])/\subSt st s
def CkS (st:ISt)(b4 b5:Nat)(q:List Nat×Nat)(e:Exit)(s:ISt):Prop:=e=.ret/\(∃tg,s b4=some (.box [.sl tg (plI q.1)])/\okEs tg 1)/\s b5=some (.box [.raw (.int .i64 q.2)])/\subSt st s
theorem xQ1 (G:Gl gl)(T:Gt gl)(ca:Nat)(t:Tr)(x:IV)(hx:IsTr t x)(hfit:wW5 t)(st:ISt):ICall prog gl 25 [.raw (.int .u8 ca),x] st (λr st'=>(∃tg,r=.tup [.sl tg (plI (yJv ca t).1),.raw (.int .i64 (yJv ca t).2)]/\okEs tg 1)/\st'=st):=by
 have hst:=λst=>wU1 gl x st t hx;have hit:=λI=>wKl gl t x hx hfit.2 I;have hkn:=λst=>zUd gl ca st;obtain⟨rule,tl,xl,tr,xr,op,fn,ta,xa,tb,xb,v,un,tu,xu,n,ts,xs,rfl⟩:=yUo hx;refine ICall.intro (c:=cf prog gl [2,4,5,6] [] [3]) func25 rfl (by show _<=31;simp) (by kernel_rfl) ?_;simp only[go_sem,zE,zA,IV.one];intro b2;refine yQb λhb2=>?_;intro b4;refine yQb λhb4=>?_;intro b5;refine yQb λhb5=>?_;have h24:b2≠b4:=by rintro rfl;rw[ISt.put_same] at hb4;cases hb4
 have h45:b4≠b5:=by rintro rfl;rw[ISt.put_same] at hb5;cases hb5
 have h25:b2≠b5:=by rintro rfl;rw[ISt.put_apply,if_neg h24,ISt.put_same] at hb5;cases hb5
 rw[ISt.put_apply,if_neg h24.symm] at hb4;rw[ISt.put_apply,if_neg h45.symm,ISt.put_apply,if_neg h25.symm] at hb5;obtain⟨s1,hs1,f2,f4,f5,hsub⟩:∃s1,s1=((st.put b2 (some (.box [.raw (.int .u8 ca)]))).put b4 (some (.box [.sl ⟨true,.nil,0⟩ []]))).put b5 (some (.box [.raw (.int .i64 0)]))/\s1 b2=some (.box [.raw (.int .u8 ca)])/\s1 b4=some (.box [.sl ⟨true,.nil,0⟩ []])/\s1 b5=some (.box [.raw (.int .i64 0)])/\subSt st s1 :=
  ⟨_,rfl,by simp only[ISt.put_apply,if_neg h24,if_neg h25,if_true],by simp only[ISt.put_apply,if_neg h45,if_true],by simp only[ISt.put_apply,if_true],yZb (yZb (yZb (subSt.refl st) hb2) hb4) hb5⟩
 rw[<- hs1];simp only[go_sem,f2];refine (hkn _).mono ?_;rintro _ s1' ⟨rfl,rfl⟩;have g5:∀(s:ISt) o,(s.put b4 o) b5=s b5:=λs o=>by rw[ISt.put_apply,if_neg h45.symm]
 have g4:∀(s:ISt) o o',((s.put b4 o).put b5 o') b4=o:=λs o o'=>by rw[ISt.put_apply,if_neg h45,ISt.put_same]
 have hsub':∀(s:ISt) o o',subSt st s->subSt st ((s.put b4 o).put b5 o'):=λs o o' h=>yZb (yZb h hb4) hb5;cases hk:yX2 ca
 ·have hq:yJv ca t=([],2):=by unfold yJv;rw[hk];rfl
  simp only[go_sem,zE,zL,f4,f5,g5,g4,ISt.put_same];exact yQ9 (hsub' _ _ _ hsub) ⟨⟨_,by rw[hq];rfl,.inl rfl⟩,rfl⟩
 ·simp only[go_sem,zE,zA,zL];intro b6;refine yQb λhb6=>?_;rw[yQe];refine (hst _).mono ?_;rintro _ _ ⟨rfl,rfl⟩;have h26:b2≠b6:=by rintro rfl;rw[f2] at hb6;cases hb6
  have h46:b4≠b6:=by rintro rfl;rw[f4] at hb6;cases hb6
  have h56:b5≠b6:=by rintro rfl;rw[f5] at hb6;cases hb6
  have hb6':st b6=none:=by
   cases hq:st b6 with
   | none=>rfl
   | some o=>rw[hsub b6 o hq] at hb6;cases hb6
  have hI0:CkI st b2 b4 b5 b6 ca 0 (s1'.put b6 (some (.box [.raw (.int .i64 0)]))):=⟨by rw[ISt.put_apply,if_neg h26];exact f2,by rw[ISt.put_apply,if_neg h46];exact f4,by rw[ISt.put_apply,if_neg h56];exact f5,ISt.put_same ..,yZb hsub hb6'⟩
  generalize s1'.put b6 (some (.box [.raw (.int .i64 0)]))=s2 at hI0 ⊢;simp only[go_sem,reduceCtorEq];refine RangeL.intro (lkT (t.walk [])) (t.walk []).length (λk s=>CkI st b2 b4 b5 b6 ca k s/\k<=300) (λe s=>CkS st b4 b5 ([],5) e s/\300<t.steps) rfl ?_ ?_ ?_ (hit _) ?_ ?_
  ·rintro k a e ⟨p,u,a,y,_,_,_,rfl⟩;rfl
  ·exact⟨hI0,by omega⟩
  ·rintro k _ e s ⟨p,z,a,y,hkz,hz,hp,rfl⟩ hd ⟨⟨c2,c4,c5,c6,hss⟩,hk3⟩;have hd':disj s e:=hd;have r6:=yJq hd' _ _ c6;have r4:=yJq hd' _ _ c4;have r5:=yJq hd' _ _ c5;have e6:e b6=none:=ISt.disj.off hd c6;have hw:IntKind.i64.wrap ((k:Int)+1)=((k+1:Nat):Int):=by rw[w64]<;>omega
   have q4:∀o,((join s e).put b6 o) b4=some (.box [.sl ⟨true,.nil,0⟩ []]):=λo=>by rw[yZ0 h46];exact r4
   have q5:∀o o',(((join s e).put b6 o).put b4 o') b5=some (.box [.raw (.int .i64 0)]):=λo o'=>by rw[yZ0 h45.symm,yZ0 h56];exact r5
   by_cases hbig:300<k+1
   ·have hb:decide ((300:Int)<((k+1:Nat):Int))=true:=dEt (by omega);simp only[go_sem,zE,zL,r6,hw,ISt.put_same,hb,q4,q5];refine⟨⟨rfl,⟨⟨true,.nil,0⟩,?_,.inl rfl⟩,ISt.put_same ..,yZb (yZb (yZb (hss.trans (yJq hd')) hb6') hb4) hb5⟩,?_⟩
    ·rw[yZ0 h45,ISt.put_same];rfl
    ·have:=(lGs hkz).1;rw[zG7] at this;omega
   ·have hb:decide ((300:Int)<((k+1:Nat):Int))=false:=dEf (by omega);simp only[go_sem,zE,zL,r6,hw,ISt.put_same,hb];refine⟨s.put b6 (some (.box [.raw (.int .i64 ((k+1:Nat):Int))])),⟨⟨by rw[yZ0 h26];exact c2,by rw[yZ0 h46];exact c4,by rw[yZ0 h56];exact c5,ISt.put_same ..,yZb hss hb6'⟩,by omega⟩,ISt.disj.put hd e6,ISt.put_add e6⟩
  ·rintro s r ⟨⟨c2,c4,c5,c6,hss⟩,hk3⟩;rw[zG7] at hk3;have hq:yJv ca t=yX6 (yJe ca) (t.walk []):=by
    unfold yJv;rw[hk];simp only[Bool.not_true,bFt,if_false];rw[if_neg (by omega)]
   simp only[go_sem,zE,zA];refine (hst _).mono ?_;rintro _ _ ⟨rfl,rfl⟩;simp only[go_sem,reduceCtorEq];refine RangeL.intro (lkT (t.walk [])) (t.walk []).length (λk s=>(s b2=some (.box [.raw (.int .u8 ca)])/\s b4=some (.box [.sl ⟨true,.nil,0⟩ []])/\s b5=some (.box [.raw (.int .i64 0)])/\subSt st s)/\yX6 (yJe ca) ((t.walk []).take k)=([],0)) (λe s=>CkS st b4 b5 (yJv ca t) e s) rfl ?_ ?_ ?_ (hit _) ?_ ?_
   ·rintro k a e ⟨p,u,a,y,_,_,_,rfl⟩;rfl
   ·exact⟨⟨c2,c4,c5,hss⟩,by simp[yX6]⟩
   ·rintro k _ e s ⟨p,z,a,y,hkz,hz,hp,rfl⟩ hd ⟨⟨c2,c4,c5,hss⟩,hf⟩;have hd':disj s e:=hd;have r2:=yJq hd' _ _ c2;have hpl:=xQ3 [] t _ (lMg hkz);have hfd:=hfit.2;simp only[List.length_nil] at hpl;have hck:=λst=>wWp gl G T ca z y hz (hfit.1 _ (lMg hkz)) st;have hcl:=vZb gl p a e s hp (by omega) hd';have hiv:ivOf (.iv a)=some a:=by rcases hp with⟨t,rfl,_⟩|⟨g,cap,cs,rfl,_⟩<;>rfl
    obtain⟨rule',tl',xl',tr',xr',op',fn',ta',xa',tb',xb',v',un',tu',xu',n',ts',xs',rfl⟩:=yUo hz;simp only[go_sem,zE,zA,r2,hiv];refine (hck _).mono ?_;rintro _ _ ⟨rfl,rfl⟩;by_cases h0:yJe ca z=0
    ·have d0:decide (((yJe ca z:Nat):Int)=0)=true:=dEt (by omega);simp only[go_sem,d0];refine⟨s,⟨⟨c2,c4,c5,hss⟩,?_⟩,hd,rfl⟩;rw[yQ5 hkz,yVt,hf];simp[yX6,h0]
    ·have d0:decide (((yJe ca z:Nat):Int)=0)=false:=dEf (by omega);have hv:yJv ca t=(p,yJe ca z):=by
      rw[hq]
      conv=>lhs;rw[<- List.take_append_drop k (t.walk [])]
      rw[List.drop_eq_getElem_cons (lGs hkz).1,(lGs hkz).2,yVt,hf];simp[yX6,h0]
     simp only[go_sem,zE,zA,d0,hiv];refine hcl.mono ?_;rintro _ _ ⟨⟨t',rfl,ht'⟩,rfl⟩;simp only[go_sem,zE,zL,c4,c5,g5];refine⟨rfl,⟨t',?_,ht'⟩,?_,hsub' _ _ _ hss⟩
     ·rw[g4,hv]
     ·rw[ISt.put_same,hv]
   ·rintro s r ⟨⟨c2,c4,c5,hss⟩,hf⟩;rw[lTl,<- hq] at hf;simp only[go_sem,zE,zL,c4,c5,g5,g4,ISt.put_same];exact yQ9 (hsub' _ _ _ hss) ⟨⟨_,by rw[hf];rfl,.inl rfl⟩,rfl⟩
   ·rintro e s r ⟨rfl,⟨tg,c4,ht⟩,c5,hss⟩;simp only[go_sem,zE,c4,c5];exact yQ9 hss ⟨⟨_,rfl,ht⟩,rfl⟩
  ·rintro e s r ⟨⟨rfl,⟨tg,c4,ht⟩,c5,hss⟩,hb⟩;have hq:yJv ca t=([],5):=by unfold yJv;rw[hk,if_pos hb];rfl
   simp only[go_sem,zE,c4,c5];exact yQ9 hss ⟨⟨_,by rw[hq],ht⟩,rfl⟩
theorem xJt {p:List Nat}{k a:Nat}(h:p[k]?=some a):(plI p)[k]?=some (.raw (.int .i64 (a:Int))):=by simp[plI,List.getElem?_map,h]
theorem zY3 (p q:List Nat):plI (p++q)=plI p++plI q:=by simp[plI]
def sumN:List Nat->Nat
 | []=>0
 | a::l=>a+sumN l
theorem yUp:∀l m:List Nat,sumN (l++m)=sumN l+sumN m
 | [],m=>by simp[sumN]
 | a::l,m=>by simp only[List.cons_append,sumN,yUp l m];omega
theorem wQg (l:List Nat)(k:Nat):sumN (l.take k)<=sumN l:=by
 conv=>rhs;rw[<- List.take_append_drop k l]
 rw[yUp];omega
def maxN:List Nat->Nat
 | []=>0
 | a::l=>max a (maxN l)
theorem yUv:∀l m:List Nat,maxN (l++m)=max (maxN l) (maxN m)
 | [],m=>by simp[maxN]
 | a::l,m=>by simp only[List.cons_append,maxN,yUv l m];omega
theorem vJ0 (tg:Tag)(l:List Nat)(htg:okEs tg 1)(hs:sumN l<=4611686018427387904)(st:ISt):ICall prog gl 84 [.sl tg (plI l)] st (λr st'=>r=.raw (.int .i64 (sumN l))/\st'=st):=by
 refine iI func84 rfl rfl (by kernel_rfl) ?_;simp only[go_sem,reduceCtorEq,yVn];intro _;refine LoopC.ctr l.length (λk fr st' ds=>fr 3=.iv (.raw (.int .i64 (sumN (l.take k))))/\fr 6=.iv (.sl tg (plI l))/\fr 7=.iv (.raw (.int .i64 l.length))/\fr 8=.iv (.raw (.int .i64 k))/\st'=st/\ds=[]) ?_ ?_ ?_
 ·simp only[go_sem,zE];simp[sumN]
 ·rintro k fr st1 _ hlt ⟨f3,f6,f7,f8,rfl,rfl⟩;obtain⟨a,ha⟩:=yQ3 hlt;have h1:=wQg l (k+1);have h2:sumN (l.take (k+1))=sumN (l.take k)+a:=by rw[yQ5 ha,yUp];rfl
  have h3:IntKind.i64.wrap (((sumN (l.take k):Nat):Int)+(a:Int))=((sumN (l.take (k+1)):Nat):Int):=by rw[w64]<;>omega
  simp only[go_sem,zE,f3,f6,f7,f8,lt_i hlt,yQ1 htg,iNn,xJt ha,fits,h3,yQa hlt (show l.length<=281474976710656 by omega)]
 ·rintro fr st1 _ ⟨f3,f6,f7,f8,rfl,rfl⟩;rw[lTl] at f3;simp only[go_sem,zE,f3,f7,f8,yQj (nLi _)];exact yQ0 ⟨rfl,rfl⟩
theorem uK5 (a b:Nat):max (a:Int) (b:Int)=((max a b:Nat):Int):=by omega
theorem uU3 (tg:Tag)(l:List Nat)(htg:okEs tg 1)(hl:0<l.length)(st:ISt):ICall prog gl 86 [.sl tg (plI l)] st (λr st'=>r=.raw (.int .i64 (maxN l))/\st'=st):=by
 obtain⟨a0,ha0⟩:=yQ3 hl;have d1:decide (((l.length:Nat):Int)<1)=false:=dEf (by omega);have t1:l.take 1=[a0]:=by
  have:=yQ5 ha0;simpa using this
 refine iI func86 rfl rfl (by kernel_rfl) ?_;simp only[go_sem,reduceCtorEq,yVn];intro hlen;simp only[go_sem,reduceCtorEq,d1,yQ1 htg,Int.le_refl,Int.toNat_zero,xJt ha0,fits];refine LoopC.ctr (l.length-1) (λk fr st' ds=>fr 3=.iv (.raw (.int .i64 (maxN (l.take (k+1)))))/\fr 0=.iv (.sl tg (plI l))/\fr 4=.iv (.raw (.int .i64 ((k+1:Nat):Int)))/\st'=st/\ds=[]) ?_ ?_ ?_
 ·simp only[go_sem,zE,reduceCtorEq,t1];simp[maxN]
 ·rintro k fr st1 _ hlt ⟨f3,f0,f4,rfl,rfl⟩;obtain⟨a,ha⟩:=yQ3 (l:=l) (k:=k+1) (by omega);have h2:maxN (l.take (k+1+1))=max (maxN (l.take (k+1))) a:=by rw[yQ5 ha,yUv];simp[maxN]
  simp only[go_sem,zE,reduceCtorEq,f3,f0,f4,yVn,lt_i (show k+1<l.length by omega),yQ1 htg,iNn,xJt ha,fits,uK5,yQa (show k+1<l.length by omega) (show l.length<=281474976710656 by omega)];intro _;rw[h2]
 ·rintro fr st1 _ ⟨f3,f0,f4,rfl,rfl⟩;rw[show l.length-1+1=l.length by omega] at f3 f4;rw[lTl] at f3;simp only[go_sem,zE,reduceCtorEq,f3,f0,f4,yVn,yQj (nLi _)];intro _;exact yQ0 ⟨rfl,rfl⟩
def wKk:Tr->List Tr
 | .mk _ _ _ _ _ sub=>sub
def zG3 (g:Nat)(v:Tr->Nat):Prop:=∀(t:Tr) (l:List Nat) (x:IV) (tg:Tag) (st0 st:ISt),IsTr t x->t.steps<=1099511627776->l=(wKk t).map v->own st tg l.length 1 st0->subSt st0 st →
 ICall prog gl g [x,.sl tg (plI l)] st (λr st'=>r=.raw (.int .i64 (v t))/\subSt st0 st')
theorem xQg:∀ {l:List Tr}{t:Tr},t∈l->t.steps<=yQt l
 | a::l,t,h=>by
  simp only[yQt];rcases List.mem_cons.1 h with rfl|h
  ·omega
  ·have:=xQg h;omega
theorem yW4:∀l:List Tr,l.length<=yQt l
 | []=>Nat.le_refl _
 | .mk _ _ _ _ _ s::l=>by
  have:=yW4 l;simp only[List.length_cons,yQt,Tr.steps];omega
def wY5 (v:Tr->Nat)(g:Nat)(t:Tr):Prop:=∀(x:IV) (_:IsTr t x) (_:t.steps<=1099511627776) (st:ISt),ICall prog gl 82 [x,.fn (.func g) [] []] st (λr st'=>r=.raw (.int .i64 (v t))/\st'=st)
theorem wXv (v:Tr->Nat)(g:Nat)(hent:entI prog g=true)(hg:zG3 gl g v)(rule:Nat)(sq:Sq)(f:Fm)(u:Tm)(n:ByteArray)(sub:List Tr)(IH:∀a∈sub,wY5 gl v g a):wY5 gl v g (.mk rule sq f u n sub):=by
 intro x hx hs st;have hx0:=hx;obtain⟨tl,xl,tr,xr,op,fn,ta,xa,tb,xb,vb,un,tu,xu,ts,xs,rfl,hru,_,_,_,_,_,_,e3,i3⟩:=hx.mk;have hs0:=hs;simp only[Tr.steps] at hs;have hll:=yW4 sub;refine iI func82 rfl rfl (by kernel_rfl) ?_;simp only[go_sem,zE,i3.len];intro _;refine LoopC.ctr sub.length (λk fr st' ds=>(∃tg',fr 5=.iv (.sl tg' (plI ((sub.take k).map v)))/\own st' tg' k 1 st/\subSt st st')/\fr 1=.iv (.fn (.func g) [] [])/\fr 2=.box [.raw (.int .u8 rule),.sl tl xl,.sl tr xr,.raw (.int .u8 op),.raw (.string fn),.sl ta xa,.sl tb xb,.raw (.bool vb),.raw (.string un),.sl tu xu,.raw (.string n),.sl ts xs] /\
  fr 9=.iv (.sl ts xs)/\fr 10=.iv (.raw (.int .i64 sub.length))/\fr 11=.iv (.raw (.int .i64 k))/\ds=[]) ?_ ?_ ?_
 ·simp only[go_sem,zE];exact⟨⟨_,rfl,.inl ⟨rfl,rfl⟩,subSt.refl _⟩,rfl⟩
 ·rintro k fr st1 _ hlt ⟨⟨tg',f5,hown,hsub⟩,f1,f2,f9,f10,f11,rfl⟩;obtain⟨a,ha⟩:=yQ3 hlt;obtain⟨z,hkz,hz⟩:=i3.get ha;have hst:=xQg (lMg ha);have hcall:=IH a (lMg ha) z hz (by omega) st1;obtain⟨rule',tl',xl',tr',xr',op',fn',ta',xa',tb',xb',v',un',tu',xu',n',ts',xs',rfl⟩:=yUo hz;simp only[go_sem,zE,zB,zA,zL,f1,f5,f9,f10,f11,lt_i hlt,yQ1 e3,iNn,hkz,fits];refine hcall.mono ?_;rintro _ _ ⟨rfl,rfl⟩;simp only[go_sem,zE,zA,zM,zL,fits,zKu];refine yX4 hown (by rw[yVn,List.length_map,List.length_take];omega) hsub rfl (by simp[fits,IV.one]) (by simp only;omega) (by omega) λtg2 st4 hown2 hsub4 _ _=>?_;simp only[go_sem,zE,f1,f2,f9,f10,f11,yQa hlt (show sub.length<=281474976710656 by omega)];exact⟨tg2,by rw[yQ5 ha,List.map_append,zY3];rfl,hown2,hsub4⟩
 ·rintro fr st1 _ ⟨⟨tg',f5,hown,hsub⟩,f1,f2,f9,f10,f11,rfl⟩;rw[lTl] at f5;have hcall:=hg _ (sub.map v) _ tg' st st1 hx0 hs0 rfl (by rw[List.length_map];exact hown) hsub;simp only[go_sem,zE,zA,zL,f1,f2,f5,f10,f11,yQj (nLi _),hent];refine hcall.mono ?_;rintro _ st2 ⟨rfl,hsub2⟩;simp only[go_sem];exact yQ9 hsub2 ⟨rfl,rfl⟩
theorem xY6 (v:Tr->Nat)(g:Nat)(hent:entI prog g=true)(hg:zG3 gl g v):∀(k:Nat) (t:Tr),SizeOf.sizeOf t<k->wY5 gl v g t
 | 0,t,h=>by omega
 | k+1,.mk r sq f u n sub,h=>wXv gl v g hent hg r sq f u n sub (λa ha=>xY6 v g hent hg k a (by
   have:=lSm ha;simp at h;omega))
theorem wXw (v:Tr->Nat)(g:Nat)(hent:entI prog g=true)(hg:zG3 gl g v)(t:Tr):wY5 gl v g t:=xY6 gl v g hent hg _ t (Nat.lt_succ_self _)
theorem zJz:∀l:List Tr,sumN (l.map Tr.steps)=yQt l
 | []=>rfl
 | a::l=>by simp only[List.map_cons,sumN,yQt,zJz l]
theorem zGc:∀l:List Tr,sumN (l.map Tr.cuts)=yGf l
 | []=>rfl
 | a::l=>by simp only[List.map_cons,sumN,yGf,zGc l]
theorem zKk:∀l:List Tr,maxN (l.map Tr.height)=yXr l
 | []=>rfl
 | a::l=>by simp only[List.map_cons,maxN,yXr,zKk l]
mutual
theorem vQq:∀t:Tr,t.cuts<=t.steps
 | .mk _ _ _ _ _ sub=>by
  have:=zX3 sub;simp only[Tr.cuts,Tr.steps];split<;>omega
theorem zX3:∀l:List Tr,yGf l<=yQt l
 | []=>Nat.le_refl _
 | a::l=>by
  have:=vQq a;have:=zX3 l;simp only[yGf,yQt];omega
end
mutual
theorem wXp:∀t:Tr,t.height<=t.steps
 | .mk _ _ _ _ _ sub=>by
  have:=yGc sub;simp only[Tr.height,Tr.steps];omega
theorem yGc:∀l:List Tr,yXr l<=yQt l
 | []=>Nat.le_refl _
 | a::l=>by
  have:=wXp a;have:=yGc l;simp only[yXr,yQt];omega
end
theorem wXx:zG3 gl 83 Tr.steps:=by
 rintro⟨rule,s,m,u,n,sub⟩ l x tg st0 st hx hs rfl hown hsub;simp only[wKk] at hown ⊢;simp only[Tr.steps] at hs;have hsum:=λst=>vJ0 gl tg (sub.map Tr.steps) hown.es (by rw[zJz];omega) st;have hw:IntKind.i64.wrap (1+((yQt sub:Nat):Int))=((1+yQt sub:Nat):Int):=by rw[w64]<;>omega
 rw[zJz] at hsum;obtain⟨rule',tl',xl',tr',xr',op',fn',ta',xa',tb',xb',v',un',tu',xu',n',ts',xs',rfl⟩:=yUo hx;refine iI func83 rfl rfl (by kernel_rfl) ?_;simp only[go_sem,zE,zA];refine (hsum _).mono ?_;rintro _ _ ⟨rfl,rfl⟩;simp only[go_sem,hw];exact yQ0 ⟨by simp only[Tr.steps],hsub⟩
theorem wW3:zG3 gl 87 Tr.cuts:=by
 rintro⟨rule,s,m,u,n,sub⟩ l x tg st0 st hx hs rfl hown hsub;simp only[wKk] at hown ⊢;simp only[Tr.steps] at hs;have hcs:=zX3 sub;have hsum:=λst=>vJ0 gl tg (sub.map Tr.cuts) hown.es (by rw[zGc];omega) st;have hw:IntKind.i64.wrap (1+((yGf sub:Nat):Int))=((1+yGf sub:Nat):Int):=by rw[w64]<;>omega
 rw[zGc] at hsum;obtain⟨tl',xl',tr',xr',op',fn',ta',xa',tb',xb',v',un',tu',xu',ts',xs',rfl,_⟩:=hx.mk;refine iI func87 rfl rfl (by kernel_rfl) ?_;by_cases h:rule=17
 ·have d:decide ((rule:Int)=17)=true:=dEt (by omega);simp only[go_sem,zE,zA,d];refine (hsum _).mono ?_;rintro _ _ ⟨rfl,rfl⟩;simp only[go_sem,hw];exact yQ0 ⟨by simp only[Tr.cuts,if_pos h],hsub⟩
 ·have d:decide ((rule:Int)=17)=false:=dEf (by omega);simp only[go_sem,zE,zA,d];refine (hsum _).mono ?_;rintro _ _ ⟨rfl,rfl⟩;simp only[go_sem];exact yQ0 ⟨by simp only[Tr.cuts,if_neg h,Nat.zero_add],hsub⟩
theorem xUa:zG3 gl 85 Tr.height:=by
 rintro⟨rule,s,m,u,n,sub⟩ l x tg st0 st hx hs rfl hown hsub;simp only[wKk] at hown ⊢;simp only[Tr.steps] at hs;have hcs:=yGc sub;have hll:=yW4 sub;have hw:IntKind.i64.wrap (1+((yXr sub:Nat):Int))=((1+yXr sub:Nat):Int):=by rw[w64]<;>omega
 have hm:maxN (sub.map Tr.height++[0])=yXr sub:=by rw[yUv,zKk];simp[maxN]
 obtain⟨rule',tl',xl',tr',xr',op',fn',ta',xa',tb',xb',v',un',tu',xu',n',ts',xs',rfl⟩:=yUo hx;refine iI func85 rfl rfl (by kernel_rfl) ?_;simp only[go_sem,zE,zA,zM,zL,fits,yQ2];refine yX4 hown (by rw[yVn]) hsub rfl (by simp[fits,IV.one]) (by simp only[List.length_map];omega) (by simp only[List.length_map];omega) λtg2 st4 hown2 hsub4 _ _=>?_;have hmax:=λst=>uU3 gl tg2 (sub.map Tr.height++[0]) hown2.es (by simp) st;rw[hm,zY3] at hmax;simp only[go_sem,zA];refine (hmax _).mono ?_;rintro _ _ ⟨rfl,rfl⟩;simp only[go_sem,hw];exact yQ0 ⟨by simp only[Tr.height],hsub4⟩
theorem vZ6 (t:Tr)(x:IV)(hx:IsTr t x)(hs:t.steps<=1099511627776)(st:ISt):ICall prog gl 32 [x] st (λr st'=>r=.raw (.int .i64 (t.steps))/\st'=st):=by
 have hf:=λst=>wXw gl Tr.steps 83 (by simp only[go_sem]) (wXx gl) t x hx hs st;obtain⟨rule',tl',xl',tr',xr',op',fn',ta',xa',tb',xb',v',un',tu',xu',n',ts',xs',rfl⟩:=yUo hx;refine iI func32 rfl rfl (by kernel_rfl) ?_;simp only[go_sem,zE,zA,zL];refine (hf _).mono ?_;rintro _ _ ⟨rfl,rfl⟩;simp only[go_sem];exact yQ0 ⟨rfl,rfl⟩
theorem wY4 (t:Tr)(x:IV)(hx:IsTr t x)(hs:t.steps<=1099511627776)(st:ISt):ICall prog gl 34 [x] st (λr st'=>r=.raw (.int .i64 (t.height))/\st'=st):=by
 have hf:=λst=>wXw gl Tr.height 85 (by simp only[go_sem]) (xUa gl) t x hx hs st;obtain⟨rule',tl',xl',tr',xr',op',fn',ta',xa',tb',xb',v',un',tu',xu',n',ts',xs',rfl⟩:=yUo hx;refine iI func34 rfl rfl (by kernel_rfl) ?_;simp only[go_sem,zE,zA,zL];refine (hf _).mono ?_;rintro _ _ ⟨rfl,rfl⟩;simp only[go_sem];exact yQ0 ⟨rfl,rfl⟩
theorem vW0 (t:Tr)(x:IV)(hx:IsTr t x)(hs:t.steps<=1099511627776)(st:ISt):ICall prog gl 36 [x] st (λr st'=>r=.raw (.int .i64 (t.cuts))/\st'=st):=by
 have hf:=λst=>wXw gl Tr.cuts 87 (by simp only[go_sem]) (wW3 gl) t x hx hs st;obtain⟨rule',tl',xl',tr',xr',op',fn',ta',xa',tb',xb',v',un',tu',xu',n',ts',xs',rfl⟩:=yUo hx;refine iI func36 rfl rfl (by kernel_rfl) ?_;simp only[go_sem,zE,zA,zL];refine (hf _).mono ?_;rintro _ _ ⟨rfl,rfl⟩;simp only[go_sem];exact yQ0 ⟨rfl,rfl⟩
mutual
def wTr:Tr->Nat
 | .mk _ s f u n sub=>wFms s.l+wFms s.r+wFm f+wTm u+n.size+wTrs sub
def wTrs:List Tr->Nat
 | []=>0
 | a::l=>wTr a+wTrs l
end
def xK0 (s:Sq)(f:Fm)(u:Tm)(n:ByteArray):Bool:=decide (wFms s.l+wFms s.r<=300)&&!decide (300<wFm f)&&!decide (300<wTm u)&&!decide (100<n.size)
mutual
def okT:Tr->Bool
 | .mk _ s f u n sub=>xK0 s f u n&&okTs sub
def okTs:List Tr->Bool
 | []=>true
 | a::l=>okT a&&okTs l
end
theorem yUu:∀l m:List Tr,okTs (l++m)=(okTs l&&okTs m)
 | [],m=>by simp[okTs]
 | a::l,m=>by simp only[List.cons_append,okTs,yUu l m,Bool.and_assoc]
theorem wZk {l:List Tr}{k:Nat}{a:Tr}(h:l[k]?=some a):okTs (l.take (k+1))=(okTs (l.take k)&&okT a):=by
 rw[yQ5 h,yUu];simp[okTs]
theorem wUw (l:List Tr)(k:Nat)(h:okTs l=true):okTs (l.take k)=true:=by
 rw[<- List.take_append_drop k l,yUu,bAt] at h;exact h.1
theorem xJ4 {l:List Tr}{k:Nat}{a:Tr}(h:l[k]?=some a):yQt (l.take (k+1))=yQt (l.take k)+a.steps:=by
 rw[yQ5 h,yVk];simp[yQt]
theorem wQi (l:List Tr)(k:Nat):yQt (l.take k)<=yQt l:=by
 conv=>rhs;rw[<- List.take_append_drop k l]
 rw[yVk];omega
theorem xVa:∀ {l:List Tr}{t:Tr},t∈l->wTr t<=wTrs l
 | a::l,t,h=>by
  simp only[wTrs];rcases List.mem_cons.1 h with rfl|h
  ·omega
  ·have:=xVa h;omega
theorem Sum.gt {w:Nat}{r:IV}(h:Sum w 300 r):∃n:Nat,r=.raw (.int .i64 n)/\decide ((300:Int)<(n:Int))=decide (300<w):=by
 obtain⟨n,rfl,h1,h2⟩:=h;refine⟨n,rfl,?_⟩;rw[decide_eq_decide];constructor
 ·intro h;omega
 ·intro h;rcases Int.lt_or_le 300 (n:Int) with hn|hn
  ·exact hn
  ·have:=h2 hn;omega
def Left (t:Tr)(left:Int)(r:Int):Prop:=-1<=r/\r<=left/\(0<=r↔okT t=true/\(t.steps:Int)<=left)/\(0<=r->r=left-t.steps)
def sC (t:Tr):Prop:=∀(x:IV) (_:IsTr t x) (left:Int) (_:0<=left/\left<=1000) (_:wTr t<=1099511627776) (st:ISt),
 ICall prog gl 27 [x,.raw (.int .i64 left)] st (λr st'=>(∃n:Int,r=.raw (.int .i64 n)/\Left t left n)/\st'=st)
theorem xG5 (rule:Nat)(s:Sq)(f:Fm)(u:Tm)(n:ByteArray)(sub:List Tr)(IH:∀a∈sub,sC gl a):sC gl (.mk rule s f u n sub):=by
 intro x hx left hl hw st;obtain⟨tl,xl,tr,xr,op,fn,ta,xa,tb,xb,v,un,tu,xu,ts,xs,rfl,hru,e1,i1,e2,i2,hy,hz,e3,i3⟩:=hx.mk;simp only[wTr] at hw;have hfew:=λst=>uU4 gl s _ ⟨tl,xl,tr,xr,rfl,e1,i1,e2,i2⟩ ⟨by omega,by omega⟩ st;have hsz:=λst=>xJp gl [f] ⟨true,.full,4⟩ _ (.inr rfl) ⟨_,_,rfl,hy,rfl⟩ 300 ⟨by omega,by omega⟩ (by simp only[wFms];omega) st;have htm:=λst=>xW3 gl [u] ⟨true,.full,3⟩ _ (.inr rfl) ⟨_,_,rfl,hz,rfl⟩ 300 ⟨by omega,by omega⟩ (by simp only[wTms];omega) st;have hbad:xK0 s f u n=false->Left (.mk rule s f u n sub) left (-1):=λh=>by
  refine⟨by omega,by omega,⟨λh=>by omega,λh'=>?_⟩,λh=>by omega⟩;simp only[okT,h,Bool.false_and,bFt,false_and] at h'
 refine iI func27 rfl rfl (by kernel_rfl) ?_;simp only[go_sem,zE,zA,zL];refine (hfew _).mono ?_;rintro _ st ⟨rfl,rfl⟩;unfold xK0 at hbad;cases q1:decide (wFms s.l+wFms s.r<=300)
 ·simp only[go_sem,zE];exact yQ0 ⟨⟨-1,rfl,hbad (by rw[q1];rfl)⟩,rfl⟩
 simp only[go_sem,zE,zA,zM,zL,fits,yQ2];refine (hsz _).mono ?_;rintro _ st ⟨hS,rfl⟩;obtain⟨m,rfl,hd⟩:=hS.gt;rw[show wFms [f]=wFm f from by simp[wFms]] at hd;cases q2:decide (300<wFm f)
 case true =>
  rw[q2] at hd;simp only[go_sem,zE,hd];exact yQ0 ⟨⟨-1,rfl,hbad (by rw[q1,q2];rfl)⟩,rfl⟩
 rw[q2] at hd;simp only[go_sem,zE,zA,zM,zL,fits,hd,yQ2];refine (htm _).mono ?_;rintro _ st ⟨hS2,rfl⟩;obtain⟨m2,rfl,hd2⟩:=hS2.gt;rw[show wTms [u]=wTm u from by simp[wTms]] at hd2;cases q3:decide (300<wTm u)
 case true =>
  rw[q3] at hd2;simp only[go_sem,zE,hd2];exact yQ0 ⟨⟨-1,rfl,hbad (by rw[q1,q2,q3];rfl)⟩,rfl⟩
 rw[q3] at hd2;have hdn:decide ((100:Int)<((n.size:Nat):Int))=decide (100<n.size):=by rw[decide_eq_decide];omega
 cases q4:decide (100<n.size)
 case true =>
  rw[q4] at hdn;simp only[go_sem,zE,hd2,hdn];intro _;exact yQ0 ⟨⟨-1,rfl,hbad (by rw[q1,q2,q3,q4];rfl)⟩,rfl⟩
 rw[q4] at hdn;have hnode:xK0 s f u n=true:=by unfold xK0;rw[q1,q2,q3,q4];rfl
 have wl:IntKind.i64.wrap (left-1)=left-1:=w64 (by omega) (by omega);simp only[go_sem,zE,hd2,hdn,wl];intro _;refine LoopC.ctr sub.length (λk fr st' ds=>(∃l:Int,fr 1=.iv (.raw (.int .i64 l)) /\ -1<=l/\l<=left-1/\(0<=l↔okTs (sub.take k)=true/\((yQt (sub.take k):Nat):Int)+1<=left)/\(0<=l->l=left-1-(yQt (sub.take k):Nat))) /\
  fr 2=.box [.raw (.int .u8 rule),.sl tl xl,.sl tr xr,.raw (.int .u8 op),.raw (.string fn),.sl ta xa,.sl tb xb,.raw (.bool v),.raw (.string un),.sl tu xu,.raw (.string n),.sl ts xs]/\fr 5=.iv (.raw (.int .i64 k))/\st'=st/\ds=[]) ?_ ?_ ?_
 ·simp only[go_sem,zE];exact⟨⟨left-1,rfl,by omega,by omega,⟨λh=>⟨rfl,by simp only[yQt];omega⟩,λh=>by have:=h.2;simp only[yQt] at this;omega⟩,λ_=>by simp only[yQt];omega⟩,rfl⟩
 ·rintro k fr st1 _ hlt ⟨⟨l,f1,hl1,hl2,hl3,hl4⟩,f2,f5,rfl,rfl⟩;obtain⟨a,ha⟩:=yQ3 hlt;obtain⟨z,hkz,hzz⟩:=i3.get ha;have hoks:=wZk ha;have hst:=xJ4 ha;by_cases hle:(0:Int)<=l
  ·have hcall:=λst=>IH a (lMg ha) z hzz l ⟨hle,by omega⟩ (by have:=xVa (lMg ha);omega) st;obtain⟨rule',tl',xl',tr',xr',op',fn',ta',xa',tb',xb',v',un',tu',xu',n',ts',xs',rfl⟩:=yUo hzz;simp only[go_sem,zE,zB,zA,f1,f2,f5,i3.len,lt_i hlt,dEt hle,yQ1 e3,iNn,hkz,fits];intro _;refine (hcall _).mono ?_;rintro _ st2 ⟨⟨r,rfl,hr1,hr2,hr3,hr4⟩,rfl⟩;simp only[go_sem,zE,f2,f5,yQa hlt (show sub.length<=281474976710656 by omega)];have g3:=hl3.1 hle;have g4:=hl4 hle;refine⟨r,rfl,hr1,by omega,?_,λh=>by have:=hr4 h;rw[hst];omega⟩;rw[hoks,hst,g3.1,Bool.true_and];constructor
   ·intro h;have:=hr3.1 h;exact⟨this.1,by omega⟩
   ·intro h;exact hr3.2 ⟨h.1,by have:=h.2;omega⟩
  ·simp only[go_sem,zE,f1,f2,f5,i3.len,lt_i hlt,dEf hle];intro _;refine yQ0 ⟨⟨l,rfl,hl1,by omega,⟨λh=>absurd h hle,λh=>?_⟩,λh=>absurd h hle⟩,rfl⟩;have h1:=h.1;have h2:=h.2;simp only[okT,hnode,Bool.true_and] at h1;simp only[Tr.steps] at h2;have h3:=wQi sub k;exact absurd (hl3.2 ⟨wUw sub k h1,by omega⟩) hle
 ·rintro fr st1 _ ⟨⟨l,f1,hl1,hl2,hl3,hl4⟩,f2,f5,rfl,rfl⟩;rw[lTl] at hl3 hl4;simp only[go_sem,zE,f1,f2,f5,i3.len,yQj (nLi _)];intro _;refine yQ0 ⟨⟨l,rfl,hl1,by omega,?_,λh=>by have:=hl4 h;simp only[Tr.steps];omega⟩,rfl⟩;simp only[okT,hnode,Bool.true_and,Tr.steps];constructor
  ·intro h;have:=hl3.1 h;exact⟨this.1,by omega⟩
  ·intro h;exact hl3.2 ⟨h.1,by have:=h.2;omega⟩
theorem xQn:∀(k:Nat)(t:Tr),SizeOf.sizeOf t<k->sC gl t
 | 0,t,h=>by omega
 | k+1,.mk r sq f u n sub,h=>xG5 gl r sq f u n sub (λa ha=>xQn k a (by
   have:=lSm ha;simp at h;omega))
theorem wV5 (t:Tr):sC gl t:=xQn gl _ t (Nat.lt_succ_self _)
theorem wY0 (t:Tr)(x:IV)(hx:IsTr t x)(hw:wTr t<=1099511627776)(st:ISt):ICall prog gl 8 [x] st (λr st'=>r=.raw (.bool (okT t&&decide (t.steps<=60)))/\st'=st):=by
 have hs:=λst=>wV5 gl t x hx 60 ⟨by omega,by omega⟩ hw st;obtain⟨rule',tl',xl',tr',xr',op',fn',ta',xa',tb',xb',v',un',tu',xu',n',ts',xs',rfl⟩:=yUo hx;refine iI func8 rfl rfl (by kernel_rfl) ?_;simp only[go_sem,zE,zA,zL];refine (hs _).mono ?_;rintro _ st ⟨⟨r,rfl,h1,h2,h3,h4⟩,rfl⟩;have hd:decide ((0:Int)<=r)=(okT t&&decide (t.steps<=60)):=by
  rw[Bool.eq_iff_iff,dTe,h3,bAt,dTe];constructor<;>intro h<;>exact⟨h.1,by have:=h.2;omega⟩
 simp only[go_sem,hd];exact yQ0 ⟨rfl,rfl⟩
end Go.Proofs.Tryz
namespace Go.Proofs.Tryz
open Go Go.Iv
set_option maxRecDepth 8000
theorem yKn {ca:Nat}{s:Sq}{rule:Nat}{main:Fm}{term:Tm}{name:ByteArray}{r:Rw}{ad:List Sq}(h1:yXo ca s=true)(h2:rowS ca rule=some r)(h3:yZo ca rule r main term name=(ad,0))
  (h4:r.left=true->hasF s.l main=true) (h5:r.right=true->hasF s.r main=true) (h6:r.asks≠2):yXj ca s rule main term name=(ad,0):=by
 unfold yXj;rw[h1,h2];simp only[Bool.not_true,bFt,if_false,h3];obtain⟨rl,rr,op,asks⟩:=r;simp only at h4 h5 h6 ⊢;have e1:(rl&&!hasF s.l main)=false:=by
  cases rl
  ·rfl
  ·rw[h4 rfl];rfl
 have e2:(rr&&!hasF s.r main)=false:=by
  cases rr
  ·rfl
  ·rw[h5 rfl];rfl
 rw[e1,e2,dEf h6];rfl
theorem yJ1 {l:List Fm}{f:Fm}(h:f∈l)(hr:f.right=true):hasF l f=true:=xZx.2 ⟨f,h,xYe hr⟩
def zP:Fm:=.mk 1 ⟨#[80]⟩ [] []
def zQ:Fm:=.mk 1 ⟨#[81]⟩ [] []
def zI:Fm:=.mk 6 ⟨#[]⟩ [] [zP,zQ]
def tm0:Tm:=.mk false ⟨#[]⟩ []
def trP:Tr:=.mk 1 ⟨[zP,zI],[zP]⟩ zP tm0 ⟨#[]⟩ []
def trQ:Tr:=.mk 1 ⟨[zP,zQ],[zQ]⟩ zQ tm0 ⟨#[]⟩ []
def trA:Tr:=.mk 9 ⟨[zP,zI],[zQ]⟩ zI tm0 ⟨#[]⟩ [trP,trQ]
def row1:Rw:=⟨true,true,0,0⟩
def row9:Rw:=⟨true,false,6,0⟩
theorem yGx {f:Fm}(h:f.right=true):zX0 [f]=true:=by simp[zX0,xYe h]
theorem zZh {s:Sq}(h:(decide (s.l.length<=64)&&decide (s.r.length<=64)&&s.l.all (fmB 1)&&s.r.all (fmB 1))=true):yXo 1 s=true:=by
 unfold yXo;rw[show yX2 1=true from rfl,Bool.true_and,h];rfl
theorem zG8 {s:Sq}(h:(decide (s.l.length<=64)&&decide (s.r.length<=64)&&s.l.all (fmB 2)&&s.r.all (fmB 2))=true)(h2:zX0 s.r=true):yXo 2 s=true:=by
 unfold yXo;rw[show yX2 2=true from rfl,Bool.true_and,h,h2];rfl
theorem wU6:yXj 1 ⟨[zP,zI],[zP]⟩ 1 zP tm0 ⟨#[]⟩=([],0):=yKn (r:=row1) (zZh (by decide)) rfl (by rfl) (λ_=>yJ1 (by simp) (by decide)) (λ_=>yJ1 (by simp) (by decide)) (by decide)
theorem wU5:yXj 2 ⟨[zP,zI],[zP]⟩ 1 zP tm0 ⟨#[]⟩=([],0):=yKn (r:=row1) (zG8 (by decide) (yGx (by decide))) rfl (by rfl) (λ_=>yJ1 (by simp) (by decide)) (λ_=>yJ1 (by simp) (by decide)) (by decide)
theorem wU4:yXj 1 ⟨[zP,zQ],[zQ]⟩ 1 zQ tm0 ⟨#[]⟩=([],0):=yKn (r:=row1) (zZh (by decide)) rfl (by rfl) (λ_=>yJ1 (by simp) (by decide)) (λ_=>yJ1 (by simp) (by decide)) (by decide)
theorem wU3:yXj 2 ⟨[zP,zQ],[zQ]⟩ 1 zQ tm0 ⟨#[]⟩=([],0):=yKn (r:=row1) (zG8 (by decide) (yGx (by decide))) rfl (by rfl) (λ_=>yJ1 (by simp) (by decide)) (λ_=>yJ1 (by simp) (by decide)) (by decide)
theorem wUb:yXj 1 ⟨[zP,zI],[zQ]⟩ 9 zI tm0 ⟨#[]⟩=([⟨[],[zP]⟩,⟨[zQ],[]⟩],0):=yKn (r:=row9) (zZh (by decide)) rfl (by rfl) (λ_=>yJ1 (by simp) (by decide)) (λh=>by cases h) (by decide)
theorem wUa:yXj 2 ⟨[zP,zI],[zQ]⟩ 9 zI tm0 ⟨#[]⟩=([⟨[],[zP]⟩,⟨[zQ],[]⟩],0):=yKn (r:=row9) (zG8 (by decide) (yGx (by decide))) rfl (by rfl) (λ_=>yJ1 (by simp) (by decide)) (λh=>by cases h) (by decide)
theorem zQ6 {l m:List Fm}(h:∀f∈l,f∈m/\f.right=true):allF l m=true:=List.all_eq_true.2 λf hf=>yJ1 (h f hf).1 (h f hf).2
theorem yK7 {ca rule:Nat}{s:Sq}{main:Fm}{term:Tm}{name:ByteArray}{sub:List Tr}{ad:List Sq}(h:yXj ca s rule main term name=(ad,0))(hl:sub.length=ad.length)(hp:yJy s ad sub=true):yJe ca (.mk rule s main term name sub)=0:=by
 simp only[yJe];rw[h];simp only[ne_eq,nTf,if_false,hl,hp,if_true]
theorem zZo:zP.right=true:=by decide
theorem wZ5:zQ.right=true:=by decide
theorem wUl:zI.right=true:=by decide
theorem wZe:yJy ⟨[zP,zI],[zQ]⟩ [⟨[],[zP]⟩,⟨[zQ],[]⟩] [trP,trQ]=true:=by
 have a1:allF [zP,zI] [zP,zI]=true:=zQ6 λf hf=>by
  simp only[List.mem_cons,List.not_mem_nil,or_false] at hf;rcases hf with rfl|rfl
  ·exact⟨by simp,zZo⟩
  ·exact⟨by simp,wUl⟩
 have a2:allF [zP] [zQ,zP]=true:=zQ6 λf hf=>by
  simp only[List.mem_cons,List.not_mem_nil,or_false] at hf;subst hf;exact⟨by simp,zZo⟩
 have a3:allF [zP,zQ] [zP,zI,zQ]=true:=zQ6 λf hf=>by
  simp only[List.mem_cons,List.not_mem_nil,or_false] at hf;rcases hf with rfl|rfl
  ·exact⟨by simp,zZo⟩
  ·exact⟨by simp,wZ5⟩
 have a4:allF [zQ] [zQ]=true:=zQ6 λf hf=>by
  simp only[List.mem_cons,List.not_mem_nil,or_false] at hf;subst hf;exact⟨by simp,wZ5⟩
 simp only[yJy,trP,trQ,Tr.sq,Sq.plus,yWz,List.append_nil,List.cons_append,List.nil_append,a1,a2,a3,a4,Bool.and_self]
theorem wWo:yJe 1 trA=0:=yK7 wUb rfl wZe
theorem wWn:yJe 2 trA=0:=yK7 wUa rfl wZe
theorem wWj:yJe 1 trP=0:=yK7 wU6 rfl rfl
theorem wWi:yJe 2 trP=0:=yK7 wU5 rfl rfl
theorem wWh:yJe 1 trQ=0:=yK7 wU4 rfl rfl
theorem wWg:yJe 2 trQ=0:=yK7 wU3 rfl rfl
theorem wYc:trA.walk []=[([],trA),([0],trP),([1],trQ)]:=rfl
theorem wYa:yJv 1 trA=([],0):=by
 unfold yJv;rw[wYc];simp only[yX6,wWo,wWj,wWh,if_true];rfl
theorem wY9:yJv 2 trA=([],0):=by
 unfold yJv;rw[wYc];simp only[yX6,wWn,wWi,wWg,if_true];rfl
theorem wU2:trA.steps=3:=rfl
theorem wW0:trA.height=2:=rfl
theorem vVb:trA.cuts=0:=rfl
def zN:Fm:=.mk 3 ⟨#[]⟩ [] [zP]
def zO:Fm:=.mk 5 ⟨#[]⟩ [] [zP,zN]
def trE1:Tr:=.mk 1 ⟨[zP],[zP]⟩ zP tm0 ⟨#[]⟩ []
def trE2:Tr:=.mk 4 ⟨[],[zP,zN]⟩ zN tm0 ⟨#[]⟩ [trE1]
def trE:Tr:=.mk 8 ⟨[],[zO]⟩ zO tm0 ⟨#[]⟩ [trE2]
theorem wU9:yXj 1 ⟨[zP],[zP]⟩ 1 zP tm0 ⟨#[]⟩=([],0):=yKn (r:=row1) (zZh (by decide)) rfl (by rfl) (λ_=>yJ1 (by simp) (by decide)) (λ_=>yJ1 (by simp) (by decide)) (by decide)
theorem wU8:yXj 1 ⟨[],[zP,zN]⟩ 4 zN tm0 ⟨#[]⟩=([⟨[zP],[]⟩],0):=yKn (r:=⟨false,true,3,0⟩) (zZh (by decide)) rfl (by rfl) (λh=>by cases h) (λ_=>yJ1 (by simp) (by decide)) (by decide)
theorem vJ3:yXj 1 ⟨[],[zO]⟩ 8 zO tm0 ⟨#[]⟩=([⟨[],[zP,zN]⟩],0):=yKn (r:=⟨false,true,5,0⟩) (zZh (by decide)) rfl (by rfl) (λh=>by cases h) (λ_=>yJ1 (by simp) (by decide)) (by decide)
theorem wU7:yXj 2 ⟨[],[zO]⟩ 8 zO tm0 ⟨#[]⟩=([⟨[],[zP]⟩],0):=yKn (r:=⟨false,true,5,0⟩) (zG8 (by decide) (yGx (by decide))) rfl (by rfl) (λh=>by cases h) (λ_=>yJ1 (by simp) (by decide)) (by decide)
theorem wUk:zN.right=true:=by decide
theorem vVr (l:List Fm):allF [zP,zN] (l++[zP,zN])=true:=zQ6 λf hf=>by
 simp only[List.mem_cons,List.not_mem_nil,or_false] at hf;rcases hf with rfl|rfl
 ·exact⟨by simp,zZo⟩
 ·exact⟨by simp,wUk⟩
theorem wWm:yJe 1 trE1=0:=yK7 wU9 rfl rfl
theorem wWl:yJe 1 trE2=0:=yK7 wU8 rfl (by
 have a1:allF [zP] [zP]=true:=zQ6 λf hf=>by
  simp only[List.mem_cons,List.not_mem_nil,or_false] at hf;subst hf;exact⟨by simp,zZo⟩
 have a2:allF [zP] [zP,zN]=true:=zQ6 λf hf=>by
  simp only[List.mem_cons,List.not_mem_nil,or_false] at hf;subst hf;exact⟨by simp,zZo⟩
 simp only[yJy,trE1,Tr.sq,Sq.plus,yWz,List.append_nil,List.nil_append,a1,a2,Bool.and_self])
theorem vQx:yJe 1 trE=0:=yK7 vJ3 rfl (by
 have a1:allF [] []=true:=rfl;simp only[yJy,trE2,Tr.sq,Sq.plus,yWz,List.nil_append,a1,vVr [zO],Bool.and_self])
theorem wYb:trE.walk []=[([],trE),([0],trE2),([0,0],trE1)]:=rfl
theorem wY8:yJv 1 trE=([],0):=by
 unfold yJv;rw[wYb];simp only[yX6,vQx,wWm,wWl,if_true];rfl
theorem wWk:yJe 2 trE=195:=by
 have h1:hasF [zO,zP] zN=false:=by
  simp[hasF,eqF,zN,zO,zP,Fm.op]
 have h2:yJy ⟨[],[zO]⟩ [⟨[],[zP]⟩] [trE2]=false:=by
  have h3:allF [zP,zN] [zO,zP]=false:=List.all_eq_false.2 ⟨zN,by simp,by rw[h1];simp⟩;simp only[yJy,trE2,Tr.sq,Sq.plus,yWz,List.cons_append,List.nil_append,h3,Bool.and_false,Bool.false_and]
 unfold trE;simp only[yJe];rw[wU7];simp only[h2];rfl
theorem wY7:yJv 2 trE=([],195):=by
 unfold yJv;rw[wYb];simp only[yX6,wWk];rfl
theorem xVm {ca:Nat}{s:Sq}{rule:Nat}{main:Fm}{term:Tm}{name:ByteArray}{r:Rw}{ad:List Sq}(h1:yXo ca s=true)(h2:rowS ca rule=some r)(h3:yZo ca rule r main term name=(ad,0))
  (h4:r.left=true->hasF s.l main=true) (h5:r.right=true->hasF s.r main=true) (h6:r.asks=2):yXj ca s rule main term name=if yVs s name then ([],193) else (ad,0):=by
 unfold yXj;rw[h1,h2];simp only[Bool.not_true,bFt,if_false,h3];obtain⟨rl,rr,op,asks⟩:=r;simp only at h4 h5 h6 ⊢;have e1:(rl&&!hasF s.l main)=false:=by
  cases rl
  ·rfl
  ·rw[h4 rfl];rfl
 have e2:(rr&&!hasF s.r main)=false:=by
  cases rr
  ·rfl
  ·rw[h5 rfl];rfl
 rw[e1,e2,dEt h6,Bool.true_and];rfl
def qx:ByteArray:=⟨#[120]⟩
def qy:ByteArray:=⟨#[121]⟩
def qu:ByteArray:=⟨#[117]⟩
def zX:Fm:=.mk 8 qx [] [.mk 1 ⟨#[81]⟩ [.mk true qx []] []]
def zY:Fm:=.mk 9 qy [] [.mk 1 ⟨#[82]⟩ [.mk true qy [],.mk true qu []] []]
def zU:Fm:=.mk 1 ⟨#[81]⟩ [.mk true qu []] []
theorem wGh:yZo 3 14 ⟨false,true,8,2⟩ zX tm0 qu=([⟨[],[zU]⟩],0):=rfl
theorem wQ5 {s:Sq}(h:(decide (s.l.length<=64)&&decide (s.r.length<=64)&&s.l.all (fmB 3)&&s.r.all (fmB 3))=true):yXo 3 s=true:=by
 unfold yXo;rw[show yX2 3=true from rfl,Bool.true_and,h];rfl
theorem vW2:xQ2 3 ⟨[zP],[zX]⟩ 14 zX tm0 qu=([⟨[zP],[zX,zU]⟩],0):=by
 have h:=xVm (ca:=3) (s:=⟨[zP],[zX]⟩) (rule:=14) (main:=zX) (term:=tm0) (name:=qu) (wQ5 (by decide)) rfl wGh (λh=>by cases h) (λ_=>yJ1 (by simp) (by decide)) rfl;have hf:yVs ⟨[zP],[zX]⟩ qu=false:=by decide
 rw[hf] at h;unfold xQ2;rw[h];rfl
theorem vW1:xQ2 3 ⟨[zY],[zX]⟩ 14 zX tm0 qu=([],193):=by
 have h:=xVm (ca:=3) (s:=⟨[zY],[zX]⟩) (rule:=14) (main:=zX) (term:=tm0) (name:=qu) (wQ5 (by decide)) rfl wGh (λh=>by cases h) (λ_=>yJ1 (by simp) (by decide)) rfl;have hf:yVs ⟨[zY],[zX]⟩ qu=true:=by decide
 rw[hf] at h;unfold xQ2;rw[h];rfl
def zD:Fm:=.mk 4 ⟨#[]⟩ [] [zP,zQ]
theorem vJq:zJ0 zP=zP:=rfl
theorem vJr:zJ0 zD=zD:=rfl
theorem uU1:SetS ⟨[zD,zD,zP],[]⟩=(⟨[zP,zD],[]⟩,0):=by
 have hs:SetF [zD,zD,zP] [zP,zD]:=by
  refine⟨?_,λf=>?_⟩
  ·refine List.pairwise_cons.2 ⟨λf hf=>?_,List.pairwise_singleton ..⟩;obtain rfl:=List.mem_singleton.1 hf;simp[zP,zD,yXn,cmpN,lexI]
  ·simp only[List.mem_cons,List.not_mem_nil,or_false];constructor
   ·rintro (h|h)
    ·exact .inr (.inr h)
    ·exact .inl h
   ·rintro (h|h|h)
    ·exact .inr h
    ·exact .inr h
    ·exact .inl h
 have h1:yX1 [zD,zD,zP]=([zP,zD],0):=by
  unfold yX1;rw[show[zD,zD,zP].all Fm.right=true by decide];simp only[if_true,List.map_cons,List.map_nil,vJq,vJr,zK7 hs]
 have h2:yX1 []=([],0):=by
  unfold yX1;simp only[List.all_nil,if_true,List.map_nil,xVr]
 unfold SetS;simp only[h1,h2,ne_eq,nTf,if_false]
