/- Walks of the second program: right formu -/
import Derived.Test.YtakbihknkdpmgaaGreatDoorQB
import Derived.Test.YtakbihknkdpmgaaGreatDoorKG
set_option linter.all false
open Nat renaming reduceEqDiff → zE,reduceBEq → zB,reduceAdd → zA,reduceMul → zM,reduceLeDiff → zL
namespace Go.Proofs.Tryz
open Go Go.Iv
set_option maxRecDepth 4000
variable (gl:Nat->Option IV)
theorem NC (s:ByteArray)(st:ISt):ICall prog gl 288 [.raw (.string s)] st (λx st'=>(∃b:Bool,x=.raw (.bool b))/\st'=st):=by
 refine iI func288 ?_;simp only[go_sem,zA,zL,reduceCtorEq,List.size_toArray]
 repeat
  refine jZ (λh=>?_) (λh=>?_)
  ·simp only[go_sem,h];exact c_ ⟨⟨_,rfl⟩,rfl⟩
  simp only[go_sem,zE,zA,zL,reduceCtorEq,h,List.size_toArray]
 refine (xZ gl s false _).mono ?_;rintro _ st ⟨rfl,rfl⟩;cases h:j5 false s
 ·simp only[go_sem,zE];exact c_ ⟨⟨_,rfl⟩,rfl⟩
 ·obtain⟨c,cs,hl,_⟩:=yc h;simp only[go_sem,zE,zA,reduceCtorEq,tQ hl];refine (in_n gl c 97 116 _ _ rfl rfl _).mono ?_;rintro _ st ⟨rfl,rfl⟩;simp only[go_sem,zE];exact c_ ⟨⟨_,rfl⟩,rfl⟩
def WTm (t:Tm):Prop:=∀(x:IV) (_:IsTm t x) (_:t.size<=1099511627776) (st:ISt),ICall prog gl 235 [x,.raw (.bool false)] st (λr st'=>(∃b:Bool,r=.raw (.bool b))/\st'=st)
theorem ND (v:Bool)(n:ByteArray)(us:List Tm)(IH:∀a∈us,WTm gl a):WTm gl (.mk v n us):=by
 intro x hx hsz st;obtain⟨tg,xs,rfl,htg,hxs⟩:=hx.mk;simp only[Tm.size] at hsz;have hlsz:=nN us;refine iI func235 ?_;cases v
 ·simp only[go_sem,zE];refine dj us.length (λk fr st' ds=>fr 1=.iv (.raw (.bool false))/\fr 2=.box [.raw (.bool false),.raw (.string n),.sl tg xs]/\fr 5=.iv (.raw (.int .i64 k))/\st'=st/\ds=[]) ?_ ?_ ?_
  ·simp only[go_sem,zE];rfl
  ·rintro k fr st _ hlt ⟨f1,f2,f5,rfl,rfl⟩;obtain⟨a,ha⟩:=dB hlt;obtain⟨y,hky,hy⟩:=hxs.get ha;have hcall:=IH a (lMg ha) y hy (by have:=DH (lMg ha);omega) st;obtain⟨v3,n3,t3,x3,rfl⟩:=hy.agg;simp only[go_sem,zE,zB,zA,f1,f2,f5,hxs.len,lt_i hlt,dz htg,iNn,hky,fits];intros;refine hcall.mono ?_;rintro _ st ⟨⟨b,rfl⟩,rfl⟩;cases b
   ·simp only[go_sem];exact c_ ⟨⟨_,rfl⟩,rfl⟩
   ·simp only[go_sem,zE,f1,f2,f5,dC hlt (show us.length<=281474976710656 by omega)]
  ·rintro fr st _ ⟨f1,f2,f5,rfl,rfl⟩;simp only[go_sem,zE,zA,f2,f5,hxs.len,dF (nLi _)];intros;refine (NC gl n _).mono ?_;rintro _ st ⟨⟨b,rfl⟩,rfl⟩;cases b
   ·simp only[go_sem,zE];exact c_ ⟨⟨_,rfl⟩,rfl⟩
   ·simp only[go_sem,zE,f2,hxs.len];intros;exact c_ ⟨⟨_,rfl⟩,rfl⟩
 ·simp only[go_sem,zE,hxs.len];intros;by_cases h0:us.length=0
  ·simp only[go_sem,zE,zA,show decide ((us.length:Int)=0)=true from dEt (by omega)];refine (DG gl n _).mono ?_;rintro _ st ⟨rfl,rfl⟩;cases hn:iy n
   all_goals
    simp only[go_sem,zE];exact c_ ⟨⟨_,rfl⟩,rfl⟩
  ·simp only[go_sem,zE,show decide ((us.length:Int)=0)=false from dEf (by omega)];exact c_ ⟨⟨_,rfl⟩,rfl⟩
theorem E5:∀(k:Nat)(t:Tm),SizeOf.sizeOf t<k->WTm gl t
 | 0,f,h=>by omega
 | k+1,.mk v n us,h=>ND gl v n us (λa ha=>E5 k a (by
   have:=lSm ha;simp at h;omega))
def loN (op:Nat):Prop:=op<=7
set_option maxHeartbeats 4000000 in
theorem NF (op:Nat)(n:ByteArray)(us:List Tm)(sub:List Fm)(x:IV)(hx:IsFm (.mk op n us sub) x)(st:ISt) :
  ICall prog gl 234 [x,.raw (.bool false)] st (λr st'=>(∃b:Bool,r=.raw (.bool b)/\(loN op->b=fV op n us.length sub.length))/\st'=st):=by
 obtain⟨ta,xa,tb,xb,rfl,ho,hta,hxa,htb,hxb⟩:=hx.mk;refine iI func234 ?_;simp only[go_sem,zE,hxa.len,hxb.len];intros;by_cases h16:16<op
 ·have ds:∀j:Int,j<=16->decide (((op:Nat):Int)=j)=false:=λj hj=>dEf (by omega);simp only[go_sem,zE,ds _ (show (1:Int)<=16 by decide),ds _ (show (2:Int)<=16 by decide),ds,Int.reduceLE];exact c_ ⟨⟨_,rfl,λh=>by unfold loN at h;omega⟩,rfl⟩
 rcases (show op=1\/(op=8\/op=9)\/op=0\/op=2\/op=3\/op=4\/op=5\/op=6\/op=7\/op=10\/op=11\/op=12\/op=13\/op=14\/op=15\/op=16 by omega) with rfl|h|h
 ·simp only[go_sem,zE,zA,Int.cast_ofNat_Int,decide_true,hxa.len,hxb.len];refine (L5 gl n _).mono ?_;rintro _ st ⟨rfl,rfl⟩;cases h1:oA n<;>cases h2:decide (us.length<=4)
  all_goals
   simp only[go_sem,zE,dle4,h2,di0];exact c_ ⟨⟨_,rfl,λ_=>by simp only[fV,h1,h2,Bool.and_false,Bool.false_and,Bool.true_and,Bool.and_true]⟩,rfl⟩
 ·rcases h with rfl|rfl
  all_goals
   simp only[go_sem,zE,zA,Int.cast_ofNat_Int,Int.reduceEq,decide_true,decide_false,hxa.len,hxb.len];refine (DG gl n _).mono ?_;rintro _ st ⟨rfl,rfl⟩;cases h1:iy n<;>cases h2:decide (us.length=0)
   all_goals
    simp only[go_sem,zE,h2,di0];exact c_ ⟨⟨_,rfl,λh=>by unfold loN at h;omega⟩,rfl⟩
 ·rcases h with rfl|rfl|rfl|rfl|rfl|rfl|rfl|rfl|rfl|rfl|rfl|rfl|rfl|rfl
  all_goals
   cases h1:decide (n=⟨#[]⟩)<;>cases h2:decide (us.length=0)
   all_goals
    simp only[go_sem,zE,zA,zL,Int.cast_ofNat_Int,Int.reduceEq,decide_true,decide_false,List.size_toArray,hxa.len,hxb.len,h1,h2,di0,di1,di2];exact c_ ⟨⟨_,rfl,λh=>by first|(unfold loN at h;omega)|simp only[fV,h1,h2,Bool.and_false,Bool.false_and,Bool.true_and,Bool.and_true]⟩,rfl⟩
theorem NG {ca op:Nat}{n:ByteArray}{us:List Tm}{sub:List Fm}(hc:ca≠3)(h:iq ca (.mk op n us sub)=true):loN op/\(fV op n us.length sub.length=true->us=[])/\iQ ca sub=true:=by
 simp only[iq,dEf hc,bAt,Bool.or_false,Bool.or_eq_true,Bool.not_eq_true',decide_eq_false_iff_not] at h;refine⟨(by omega:op<=7),λhr=>List.eq_nil_of_length_eq_zero ?_,h.2⟩;have:=(E0 hr).2;omega
def WRw (ca:Nat)(f:Fm):Prop:=∀(x:IV) (_:IsFm f x) (_:f.size<=1099511627776) (st:ISt),ICall prog gl 200 [x,.raw (.bool false)] st (λr st'=>(∃b:Bool,r=.raw (.bool b)/\(iq ca f=true->b=f.ok))/\st'=st)
theorem NH {ca:Nat}(hc:ca≠3)(op:Nat)(n:ByteArray)(us:List Tm)(sub:List Fm)(IH:∀a∈sub,WRw gl ca a):WRw gl ca (.mk op n us sub):=by
 intro x hx hsz st;have hrow:=λst=>NF gl op n us sub x hx st;obtain⟨ta,xa,tb,xb,rfl,ho,hta,hxa,htb,hxb⟩:=hx.mk;simp only[Fm.size] at hsz;have hl1:=nN us;have hl2:=rN sub;have hlow:=λh=>NG (op:=op) (n:=n) (us:=us) (sub:=sub) hc h;refine iI func200 ?_;simp only[go_sem,zE,zA,zL];refine (hrow _).mono ?_;rintro _ st ⟨⟨b,rfl,hb⟩,rfl⟩;cases b
 ·simp only[go_sem];exact c_ ⟨⟨_,rfl,λh=>by simp only[Fm.ok,<- hb (hlow h).1,Bool.false_and]⟩,rfl⟩
 have hus:=λh=>(hlow h).2.1 (hb (hlow h).1).symm;simp only[go_sem];refine dj us.length (λk fr st' ds=>fr 1=.iv (.raw (.bool false))/\fr 2=.box [.raw (.int .u8 op),.raw (.string n),.sl ta xa,.sl tb xb]/\fr 5=.iv (.raw (.int .i64 k))/\st'=st/\ds=[]) ?_ ?_ ?_
 ·simp only[go_sem,zE];rfl
 ·rintro k fr st _ hlt ⟨f1,f2,f5,rfl,rfl⟩;obtain⟨a,ha⟩:=dB hlt;obtain⟨y,hky,hy⟩:=hxa.get ha;have hcall:=E5 gl _ a (Nat.lt_succ_self _) y hy (by have:=DH (lMg ha);omega) st;obtain⟨v3,n3,t3,x3,rfl⟩:=hy.agg;simp only[go_sem,zE,zB,zA,f1,f2,f5,hxa.len,lt_i hlt,dz hta,iNn,hky,fits];intros;refine hcall.mono ?_;rintro _ st ⟨⟨b,rfl⟩,rfl⟩;cases b
  ·simp only[go_sem];exact c_ ⟨⟨_,rfl,λh=>by rw[hus h] at hlt;cases hlt⟩,rfl⟩
  ·simp only[go_sem,zE,f1,f2,f5,dC hlt (show us.length<=281474976710656 by omega)]
 ·rintro fr st _ ⟨f1,f2,f5,rfl,rfl⟩;simp only[go_sem,zE,f2,f5,hxa.len,dF (nLi _)];intros;refine dj sub.length (λk fr st' ds=>(iQ ca sub=true->gj (sub.take k)=true)/\fr 1=.iv (.raw (.bool false))/\fr 2=.box [.raw (.int .u8 op),.raw (.string n),.sl ta xa,.sl tb xb]/\fr 6=.iv (.raw (.int .i64 k))/\st'=st/\ds=[]) ?_ ?_ ?_
  ·simp only[go_sem,zE,f1,f2];exact⟨λ_=>rfl,rfl⟩
  ·rintro k fr st _ hlt ⟨hok2,f1,f2,f6,rfl,rfl⟩;obtain⟨a,ha⟩:=dB hlt;obtain⟨y,hky,hy⟩:=hxb.get ha;have hmem:=lMg ha;have h2:=(rM ha).2;have hcall:=IH a hmem y hy (by omega);have hops:iQ ca sub=true->iq ca a=true:=λh=>by
    cases hq:iq ca a
    ·rw[E3 hmem hq] at h;cases h
    ·rfl
   obtain⟨o5,n5,t5,x5,t6,x6,rfl⟩:=hy.agg;simp only[go_sem,zE,zB,zA,f1,f2,f6,hxb.len,lt_i hlt,dz htb,iNn,hky,fits];intros;refine (hcall _).mono ?_;rintro _ st ⟨⟨b,rfl,hba⟩,rfl⟩;cases b
   ·simp only[go_sem];exact c_ ⟨⟨_,rfl,λh=>by simp only[Fm.ok,Mh hmem (hba (hops (hlow h).2.2)).symm,Bool.and_false]⟩,rfl⟩
   ·simp only[go_sem,zE,f1,f2,f6,dC hlt (show sub.length<=281474976710656 by omega)];intro h;rw[dE ha,DK,hok2 h];simp only[gj,<- hba (hops h),Bool.and_self]
  ·rintro fr st _ ⟨hok2,f1,f2,f6,rfl,rfl⟩;rw[lTl] at hok2;simp only[go_sem,zE,f2,f6,hxb.len,dF (nLi _)];intros;exact c_ ⟨⟨_,rfl,λh=>by simp only[Fm.ok,<- hb (hlow h).1,hok2 (hlow h).2.2,Bool.and_true,Bool.true_and];rw[hus h];rfl⟩,rfl⟩
theorem E6 {ca:Nat}(hc:ca≠3):∀(k:Nat) (t:Fm),SizeOf.sizeOf t<k->WRw gl ca t
 | 0,f,h=>by omega
 | k+1,.mk o n us sub,h=>NH gl hc o n us sub (λa ha=>E6 hc k a (by
   have:=lSm ha;simp at h;omega))
theorem y8 {ca:Nat}(hc:ca≠3)(f:Fm)(x:IV)(hx:IsFm f x)(hs:f.size<=1099511627776)(st:ISt):ICall prog gl 147 [x] st (λr st'=>(∃b:Bool,r=.raw (.bool b)/\(iq ca f=true->b=f.right))/\st'=st):=by
 have h1:=λst=>E6 gl hc _ f (Nat.lt_succ_self _) x hx hs st;have h2:=λst=>Me gl f x hx hs st;have h3:=λst=>Mg gl f x hx hs st;have hri:f.right=(f.ok&&decide (f.size<=400)&&decide (f.deep<=40)):=rfl;obtain⟨o5,n5,t5,x5,t6,x6,rfl⟩:=hx.agg;refine iI func147 ?_;simp only[go_sem,zE,zA,zL];refine (h1 _).mono ?_;rintro _ st ⟨⟨b,rfl,hb⟩,rfl⟩;cases b
 ·simp only[go_sem,zE];exact c_ ⟨⟨_,rfl,λh=>by simp only[hri,<- hb h,Bool.false_and]⟩,rfl⟩
 simp only[go_sem,zE,zA,zL];refine (h2 _).mono ?_;rintro _ st ⟨rfl,rfl⟩;by_cases hz:f.size<=400
 ·simp only[go_sem,zE,zA,zL,show decide ((f.size:Int)<=400)=true from dEt (by omega)];refine (h3 _).mono ?_;rintro _ st ⟨rfl,rfl⟩;simp only[go_sem,zE];exact c_ ⟨⟨_,rfl,λh=>by rw[hri,<- hb h,dEt hz,Bool.true_and,Bool.true_and,decide_eq_decide];omega⟩,rfl⟩
 ·simp only[go_sem,zE,show decide ((f.size:Int)<=400)=false from dEf (by omega)];exact c_ ⟨⟨_,rfl,λh=>by rw[hri,dEf hz,Bool.and_false,Bool.false_and]⟩,rfl⟩
theorem E7 {ca:Nat}(hc:ca≠3)(f:Fm)(x:IV)(hx:IsFm f x)(hs:f.size<=1099511627776)(st:ISt):ICall prog gl 115 [.raw (.int .u8 ca),x] st (λr st'=>r=.raw (.bool (fmB ca f))/\st'=st):=by
 have h1:=λst=>y8 gl hc f x hx hs st;have h2:=λst=>E4 gl ca _ f (Nat.lt_succ_self _) x hx hs st;have hno:iq ca f=false->fmB ca f=false:=λh=>by
  unfold fmB;cases hr:f.right
  ·rfl
  ·rw[<- uO ca f (mQ hr).1,h];rfl
 obtain⟨o5,n5,t5,x5,t6,x6,rfl⟩:=hx.agg;refine iI func115 ?_;simp only[go_sem,zE,zA,zL];refine (h1 _).mono ?_;rintro _ st ⟨⟨b,rfl,hb⟩,rfl⟩;cases b
 ·simp only[go_sem,zE];refine c_ ⟨?_,rfl⟩;cases hq:iq ca f
  ·rw[hno hq]
  ·unfold fmB;rw[<- hb hq];rfl
 simp only[go_sem,zE,zA,zL,reduceCtorEq];refine (h2 _).mono ?_;rintro _ st ⟨rfl,rfl⟩;simp only[go_sem,zE];refine c_ ⟨?_,rfl⟩;cases hq:iq ca f
 ·rw[hno hq]
 ·unfold fmB;rw[<- uO ca f (mQ (hb hq).symm).1,hq,<- hb hq];rfl
theorem NI {a b:Fm}(h:iB a b=true):a.op=b.op:=by
 unfold iB at h;simp only[bAt] at h;have:=yQx.1 h.2;obtain⟨o,n,us,sub⟩:=a;obtain⟨o',n',us',sub'⟩:=b;simp only[dbF] at this;split at this<;>split at this<;>simp only[NlF.mk.injEq] at this<;>exact this.1
theorem E8 (a b:Fm):eqF a b=iB b a:=by
 unfold eqF;rw[Bool.eq_iff_iff,bAt,dTe];have hs:∀x y:Fm,iB x y=true->iB y x=true:=λx y h=>by
  unfold iB at h ⊢;simp only[bAt] at h ⊢;exact⟨⟨h.1.2,h.1.1⟩,yQx.2 (yQx.1 h.2).symm⟩
 exact⟨λh=>hs _ _ h.2,λh=>⟨(NI h).symm,hs _ _ h⟩⟩
theorem NJ (t:Tag)(xs:List IV)(t':Tag)(ys:List IV)(st:ISt):ICall prog gl 205 [.sl t xs,.sl t' ys] st (λr st'=>r=.agg [.sl t xs,.sl t' ys]/\st'=st):=by
 refine iI func205 ?_;simp only[go_sem,zE,zA,zL,reduceCtorEq,fits];exact c_ ⟨rfl,rfl⟩
def uP (ca rule:Nat)(x:IV):Prop:=match rowS ca rule with
 | some r=>x=.tup [.raw (.int .u8 r.op),.raw (.bool r.left),.raw (.bool r.right),.raw (.bool true)]
 | none=>∃(o:Int) (a b:Bool),x=.tup [.raw (.int .u8 o),.raw (.bool a),.raw (.bool b),.raw (.bool false)]
end Go.Proofs.Tryz
namespace Go.Proofs.Tryz
open Go Go.Iv
section
variable (nm:ByteArray)(g:Fm)
end
section
variable {nm:ByteArray}{g:Fm}{ca:Nat}
theorem y9 {ca:Nat}(hc:ca≠3){rule:Nat}{r:Rw}(h:rowS ca rule=some r):r.asks=0:=by
 have hca:=Ny h;rcases Nx h with⟨rfl,rfl⟩|⟨rfl,rfl⟩|⟨rfl,rfl⟩|⟨rfl,rfl⟩|⟨rfl,rfl⟩|⟨rfl,rfl⟩|⟨rfl,rfl⟩|⟨rfl,rfl⟩|⟨rfl,rfl⟩|⟨rfl,rfl⟩|⟨rfl,rfl⟩|⟨rfl,rfl⟩|⟨rfl,rfl⟩|⟨rfl,rfl⟩|⟨rfl,rfl⟩|⟨rfl,rfl⟩|⟨rfl,rfl⟩|⟨rfl,rfl⟩
 all_goals first
  | rfl
  | exact absurd (hca.2 (by decide) (by decide)) hc
end
section
variable {nm:ByteArray}{g:Fm}{ca:Nat}
end
theorem E9 (s:Sq):∀(ad:List Sq) (ts:List Tr),gp s ad ts=true->∀(i:Nat) (m:Sq) (t:Tr),ad[i]?=some m->ts[i]?=some t->j7 t.sq (s.plus m)=true
 | [],_,_,i,m,t,h,_=>by simp at h
 | _::_,[],_,i,m,t,_,h=>by simp at h
 | a::ad,b::ts,h,i,m,t,hm,ht=>by
  simp only[gp,bAt] at h;cases i with
  | zero =>
   grind
  | succ i=>exact E9 s ad ts h.2 i m t (by simpa using hm) (by simpa using ht)
end Go.Proofs.Tryz
namespace Go.Proofs.Tryz
open Go Go.Iv
set_option maxRecDepth 4000
variable (gl:Nat->Option IV)
theorem NK (r:List Fm):uE r=r.all (iB ((r[0]?).getD fm0)):=by
 cases r with
 | nil=>rfl
 | cons a l =>
  show ((a::l).all λf=>eqF f a)=(a::l).all (iB a);congr 1;funext f;exact E8 f a
def qV (ca:Nat)(hd f:Fm):Prop:=fmB ca f=true/\(ca=2->iB hd f=true)
theorem yGr {ca:Nat}{s:Sq}:ev ca s=true↔gv ca=true/\s.l.length<=64/\s.r.length<=64/\(∀f∈s.l,fmB ca f=true)/\∀f∈s.r,qV ca ((s.r[0]?).getD fm0) f:=by
 unfold ev qV;rw[NK];simp only[bAt,Bool.or_eq_true,dTe,List.all_eq_true];constructor
 ·rintro⟨⟨⟨⟨⟨h1,h2⟩,h3⟩,h4⟩,h5⟩,h6⟩;exact⟨h1,h2,h3,h4,λf hf=>⟨h5 f hf,λhc=>h6.resolve_left (λh=>h hc) f hf⟩⟩
 ·rintro⟨h1,h2,h3,h4,h5⟩;refine⟨⟨⟨⟨⟨h1,h2⟩,h3⟩,h4⟩,λf hf=>(h5 f hf).1⟩,?_⟩;by_cases hc:ca=2
  ·exact .inr λf hf=>(h5 f hf).2 hc
  ·exact .inl hc
theorem uQ {ca:Nat}{s:Sq}(h:¬ (gv ca=true/\s.l.length<=64/\s.r.length<=64/\(∀f∈s.l,fmB ca f=true)/\∀f∈s.r,qV ca ((s.r[0]?).getD fm0) f)):ev ca s=false:=by
 cases hv:ev ca s
 ·rfl
 ·exact absurd (yGr.1 hv) h
theorem one_sl (a:Option Addr)(n c:Nat):IV.one (.raw (.slice a n c))=true:=rfl
end Go.Proofs.Tryz
namespace Go.Proofs
open Go.Shelf
namespace Tryz
open Go Go.Iv
end Tryz
end Go.Proofs
namespace Go.Proofs.Tryz
set_option maxRecDepth 4000
open Go Go.Iv Go.Sort Go.Shelf Go.RowKit
variable (gl:Nat->Option IV)
end Go.Proofs.Tryz
namespace Go.Iv
open Go
theorem rX {P:Program}{gl:Nat->Option IV}{f:FuncId}{args:List IV}{st:ISt}{K:IV->ISt->Prop}(h:ICall P gl f args st (λy st'=>K y st'\/∃g n cap cs es zs,st g=none/\y=.raw (.slice (some ⟨g,0,none⟩) n cap)/\st'=st.put g (some (.box cs)) /\
   zs.length=n/\n<=140737488355328/\n<=cap/\cap*es<=cs.length/\cs.take (n*es)=zs.flatMap IV.cells/\(∀z∈zs,z.cells.length=es)/\K (.sl ⟨true,.app g,es⟩ zs) st)) :
  ICall P gl f args st K:=by
 intro B X rs hg hst hv;subst hst;refine (h B X rs hg rfl hv).mono ?_;rintro e w' ⟨v,rfl,X',y,rfl,h2,h3,h4,hK|⟨g,n,cap,cs,es,zs,h0,rfl,hst',rfl,hn,hcap,hroom,htk,hz,hK⟩⟩
 ·exact⟨v,rfl,X',y,rfl,h2,h3,h4,hK⟩
 have hgn:=yr h3 h0 (by rw[hst'];exact b_ ..);have hk:=uF h0 hst';obtain rfl:=dK h4;exact⟨_,rfl,X'.lendS _ X.st,_,rfl,h2.lendS hk,h3.trans (h2.lendS_ext hk),yv h2 h0 hst' (Nat.le_trans hg.B hgn) hn hcap hroom htk hz,hK⟩
end Go.Iv
namespace Go.Proofs.Tryz
open Go Go.Iv
set_option maxRecDepth 4000
variable (gl:Nat->Option IV)
mutual
def wTm:Tm->Nat
 | .mk _ n us=>1+n.size / 20+wTms us
def wTms:List Tm->Nat
 | []=>0
 | a::l=>wTm a+wTms l
end
mutual
def wFm:Fm->Nat
 | .mk _ n us sub=>1+n.size / 20+wTms us+wFms sub
def wFms:List Fm->Nat
 | []=>0
 | a::l=>wFm a+wFms l
end
theorem y_:∀l m:List Tm,wTms (l++m)=wTms l+wTms m
 | [],m=>by simp[wTms]
 | a::l,m=>by simp only[List.cons_append,wTms,y_ l m];omega
theorem NL {l:List Tm}{k:Nat}{a:Tm}(h:l[k]?=some a):wTms (l.take (k+1))=wTms (l.take k)+wTm a:=by
 rw[dE h,y_];simp[wTms]
theorem E_ (l:List Tm)(k:Nat):wTms (l.take k)<=wTms l:=by
 conv=>rhs;rw[<- List.take_append_drop k l]
 rw[y_];omega
theorem zd:∀l m:List Fm,wFms (l++m)=wFms l+wFms m
 | [],m=>by simp[wFms]
 | a::l,m=>by simp only[List.cons_append,wFms,zd l m];omega
theorem NN {l:List Fm}{k:Nat}{a:Fm}(h:l[k]?=some a):wFms (l.take (k+1))=wFms (l.take k)+wFm a:=by
 rw[dE h,zd];simp[wFms]
theorem Fa (l:List Fm)(k:Nat):wFms (l.take k)<=wFms l:=by
 conv=>rhs;rw[<- List.take_append_drop k l]
 rw[zd];omega
def Sum (w:Nat)(lim:Int)(r:IV):Prop:=∃n:Nat,r=.raw (.int .i64 n)/\n<=w/\((n:Int)<=lim->n=w)
def tC (us:List Tm):Prop:=∀(t:Tag) (xs:List IV) (_:okEs t 3) (_:IsTms us xs) (lim:Int) (_:-1<=lim/\lim<=1000) (_:wTms us<=1099511627776) (st:ISt),
 ICall prog gl 32 [.sl t xs,.raw (.int .i64 lim)] st (λr st'=>Sum (wTms us) lim r/\st'=st)
theorem NO (us:List Tm)(IH:∀v n l,Tm.mk v n l∈us->tC gl l):tC gl us:=by
 intro t xs ht hx lim hlim hw st;refine iI func32 ?_;simp only[go_sem];refine dj us.length (λk fr st' ds=>(∃n:Nat,fr 5=.iv (.raw (.int .i64 n))/\n<=wTms (us.take k)/\((n:Int)<=lim->n=wTms (us.take k)))/\fr 0=.iv (.sl t xs)/\fr 1=.iv (.raw (.int .i64 lim))/\fr 6=.iv (.raw (.int .i64 k))/\st'=st/\ds=[]) ?_ ?_ ?_
 ·simp only[go_sem,zE,reduceCtorEq];exact⟨⟨0,rfl,Nat.le_refl _,λ_=>rfl⟩,rfl⟩
 ·rintro k fr st1 _ hlt ⟨⟨n,f5,hn1,hn2⟩,f0,f1,f6,rfl,rfl⟩;obtain⟨a,ha⟩:=dB hlt;obtain⟨x,hkx,hxa⟩:=hx.get ha;obtain⟨v2,n2,l2⟩:=a;obtain⟨tx,cx,rfl,htx,hcx⟩:=hxa.mk;have hwt:=NL ha;have hwl:=E_ us (k+1);have hwk:=E_ us k;simp only[wTm] at hwt;by_cases hle:(n:Int)<=lim
  ·have hnk:=hn2 hle;have hcall:=λst=>IH _ _ _ (lMg ha) tx cx htx hcx (lim-n-1) ⟨by omega,by omega⟩ (by omega) st;have hq:IntKind.i64.wrap (((n2.size:Nat):Int).tdiv 20)=((n2.size / 20:Nat):Int):=by
    have:((n2.size:Nat):Int).tdiv 20=((n2.size / 20:Nat):Int):=rfl;rw[this,w64 (by omega) (by omega)]
   have hz:¬ ((20:Int)=0):=by decide
   generalize n2.size / 20=q at hq hwt;have w1:IntKind.i64.wrap (1+((q:Nat):Int))=((1+q:Nat):Int):=by rw[w64]<;>omega
   have w2:IntKind.i64.wrap (IntKind.i64.wrap (lim-(n:Int))-1)=lim-n-1:=by rw[w64 (n:=lim-n) (by omega) (by omega),w64 (by omega) (by omega)]
   simp only[go_sem,zE,zA,reduceCtorEq,f0,f1,f5,f6,hx.len,lt_i hlt,dEt hle,dz ht,iNn,hkx,fits,hq,hz,w1,w2];intro _;refine (hcall _).mono ?_;rintro _ st2 ⟨⟨m,rfl,hm1,hm2⟩,rfl⟩;have w3:IntKind.i64.wrap (((1+q:Nat):Int)+(m:Int))=((1+q+m:Nat):Int):=by rw[w64]<;>omega
   have w4:IntKind.i64.wrap ((n:Int)+((1+q+m:Nat):Int))=((n+(1+q+m):Nat):Int):=by rw[w64]<;>omega
   simp only[go_sem,zE,reduceCtorEq,f0,f1,f6,w3,w4,dC hlt (show us.length<=281474976710656 by omega)];exact⟨n+(1+q+m),rfl,by omega,λh=>by have:=hm2 (by omega);omega⟩
  ·simp only[go_sem,zE,reduceCtorEq,f0,f1,f5,f6,hx.len,lt_i hlt,dEf hle];intro _;exact c_ ⟨⟨n,rfl,by omega,λh=>absurd h hle⟩,rfl⟩
 ·rintro fr st1 _ ⟨⟨n,f5,hn1,hn2⟩,f0,f1,f6,rfl,rfl⟩;rw[lTl] at hn1 hn2;simp only[go_sem,zE,reduceCtorEq,f0,f5,f6,hx.len,dF (nLi _)];intro _;exact c_ ⟨⟨n,rfl,hn1,hn2⟩,rfl⟩
theorem Fb:∀(k:Nat)(us:List Tm),SizeOf.sizeOf us<k->tC gl us
 | 0,f,h=>by omega
 | k+1,us,h=>NO gl us (λv n l ha=>Fb k l (by
   have:=lSm ha;simp at this;omega))
theorem Fc (us:List Tm):tC gl us:=Fb gl _ us (Nat.lt_succ_self _)
def zC (us:List Fm):Prop:=∀(t:Tag) (xs:List IV) (_:okEs t 4) (_:IsFms us xs) (lim:Int) (_:-1<=lim/\lim<=1000) (_:wFms us<=1099511627776) (st:ISt),
 ICall prog gl 31 [.sl t xs,.raw (.int .i64 lim)] st (λr st'=>Sum (wFms us) lim r/\st'=st)
theorem NP (us:List Fm)(IH:∀o n l m,Fm.mk o n l m∈us->zC gl m):zC gl us:=by
 intro t xs ht hx lim hlim hw st;refine ICall.intro (c:=cf prog gl [] [(5,[0,1,2,3,4,5,6,7,8,9,10,11,12,13,14,15,16,19,20,21,22,23,24,25,26,27,17,18,28,29,30,31])]) func31 rfl (by show _<=50;simp) (by kernel_rfl) ?_;simp only[go_sem];refine dj us.length (λk fr st' ds=>(∃n:Nat,fr 5=.iv (.raw (.int .i64 n))/\n<=wFms (us.take k)/\((n:Int)<=lim->n=wFms (us.take k)))/\fr 0=.iv (.sl t xs)/\fr 1=.iv (.raw (.int .i64 lim))/\fr 6=.iv (.raw (.int .i64 k))/\st'=st/\ds=[]) ?_ ?_ ?_
 ·simp only[go_sem,zE,reduceCtorEq];exact⟨⟨0,rfl,Nat.le_refl _,λ_=>rfl⟩,rfl⟩
 ·rintro k fr st1 _ hlt ⟨⟨n,f5,hn1,hn2⟩,f0,f1,f6,rfl,rfl⟩;obtain⟨a,ha⟩:=dB hlt;obtain⟨x,hkx,hxa⟩:=hx.get ha;obtain⟨o2,n2,l2,m2⟩:=a;obtain⟨tx,cx,ty,cy,rfl,_,htx,hcx,hty,hcy⟩:=hxa.mk;have hwt:=NN ha;have hwl:=Fa us (k+1);have hwk:=Fa us k;simp only[wFm] at hwt;by_cases hle:(n:Int)<=lim
  ·have hnk:=hn2 hle;have hcall:=λst=>IH _ _ _ _ (lMg ha) ty cy hty hcy (lim-n-1) ⟨by omega,by omega⟩ (by omega) st;have hterm:=λst=>Fc gl l2 tx cx htx hcx (lim-n) ⟨by omega,by omega⟩ (by omega) st;have hq:IntKind.i64.wrap (((n2.size:Nat):Int).tdiv 20)=((n2.size / 20:Nat):Int):=by
    have:((n2.size:Nat):Int).tdiv 20=((n2.size / 20:Nat):Int):=rfl;rw[this,w64 (by omega) (by omega)]
   have hz:¬ ((20:Int)=0):=by decide
   generalize n2.size / 20=q at hq hwt;have w1:IntKind.i64.wrap (1+((q:Nat):Int))=((1+q:Nat):Int):=by rw[w64]<;>omega
   have w0:IntKind.i64.wrap (lim-(n:Int))=lim-n:=w64 (by omega) (by omega);have w2:IntKind.i64.wrap (lim-(n:Int)-1)=lim-n-1:=w64 (by omega) (by omega);simp only[go_sem,zE,zA,reduceCtorEq,f0,f1,f5,f6,hx.len,lt_i hlt,dEt hle,dz ht,iNn,hkx,fits,hq,hz,w1,w0,w2];intro _;refine (hterm _).mono ?_;rintro _ st2 ⟨⟨m1,rfl,hm1,hm1'⟩,rfl⟩;have w3:IntKind.i64.wrap (((1+q:Nat):Int)+(m1:Int))=((1+q+m1:Nat):Int):=by rw[w64]<;>omega
   simp only[go_sem,zE,zA,w3];refine (hcall _).mono ?_;rintro _ st2 ⟨⟨m,rfl,hm,hm'⟩,rfl⟩;have w4:IntKind.i64.wrap (((1+q+m1:Nat):Int)+(m:Int))=((1+q+m1+m:Nat):Int):=by rw[w64]<;>omega
   have w5:IntKind.i64.wrap ((n:Int)+((1+q+m1+m:Nat):Int))=((n+(1+q+m1+m):Nat):Int):=by rw[w64]<;>omega
   simp only[go_sem,zE,reduceCtorEq,f0,f1,f6,w4,w5,dC hlt (show us.length<=281474976710656 by omega)];exact⟨n+(1+q+m1+m),rfl,by omega,λh=>by have:=hm1' (by omega);have:=hm' (by omega);omega⟩
  ·simp only[go_sem,zE,reduceCtorEq,f0,f1,f5,f6,hx.len,lt_i hlt,dEf hle];intro _;exact c_ ⟨⟨n,rfl,by omega,λh=>absurd h hle⟩,rfl⟩
 ·rintro fr st1 _ ⟨⟨n,f5,hn1,hn2⟩,f0,f1,f6,rfl,rfl⟩;rw[lTl] at hn1 hn2;simp only[go_sem,zE,reduceCtorEq,f0,f5,f6,hx.len,dF (nLi _)];intro _;exact c_ ⟨⟨n,rfl,hn1,hn2⟩,rfl⟩
theorem Fe:∀(k:Nat)(us:List Fm),SizeOf.sizeOf us<k->zC gl us
 | 0,f,h=>by omega
 | k+1,us,h=>NP gl us (λo n l m ha=>Fe k m (by
   have:=lSm ha;simp at this;omega))
theorem zg (us:List Fm):zC gl us:=Fe gl _ us (Nat.lt_succ_self _)
theorem NQ (s:Sq)(x:IV)(hx:IsSq s x)(hw:wFms s.l<=1099511627776/\wFms s.r<=1099511627776)(st:ISt):ICall prog gl 30 [x] st (λr st'=>(r=.raw (.bool (decide (wFms s.l+wFms s.r<=300))))/\st'=st):=by
 obtain⟨t1,x1,t2,x2,rfl,e1,i1,e2,i2⟩:=hx;have h1:=λst=>zg gl s.l t1 x1 e1 i1 300 ⟨by omega,by omega⟩ hw.1 st;have h2:=λst=>zg gl s.r t2 x2 e2 i2 300 ⟨by omega,by omega⟩ hw.2 st;refine ICall.intro (c:=cf prog gl [] [(1,[0,1,3,4,2,5,6,7,8])]) func30 rfl (by show _<=11;simp) (by kernel_rfl) ?_;simp only[go_sem,zE,zA];refine (h1 _).mono ?_;rintro _ st2 ⟨⟨n,rfl,hn1,hn2⟩,rfl⟩;simp only[go_sem,zE,zA];refine (h2 _).mono ?_;rintro _ st2 ⟨⟨m,rfl,hm1,hm2⟩,rfl⟩;have w:IntKind.i64.wrap ((n:Int)+(m:Int))=((n+m:Nat):Int):=by rw[w64]<;>omega
 have hd:decide (((n+m:Nat):Int)<=300)=decide (wFms s.l+wFms s.r<=300):=by
  rw[decide_eq_decide];constructor
  ·intro h;have:=hn2 (by omega);have:=hm2 (by omega);omega
  ·intro h;omega
 simp only[go_sem,zE,w,hd];exact c_ ⟨rfl,rfl⟩
end Go.Proofs.Tryz
namespace Go.Proofs.Tryz
open Go Go.Iv
abbrev noN:ByteArray:=⟨#[]⟩
abbrev imF (a b:Fm):Fm:=.mk 6 noN [] [a,b]
inductive PF:Fm->Prop
 | atom (n:ByteArray):PF (.mk 1 n [] [])
 | fls:PF (.mk 2 noN [] [])
 | neg {a:Fm} (h:PF a):PF (.mk 3 noN [] [a])
 | bin {o:Nat} {a b:Fm} (h4:4<=o) (h7:o<=7) (ha:PF a) (hb:PF b):PF (.mk o noN [] [a,b])
def addF (j:Bool):Fm->Bool->List (Nat×List (List Fm×List Fm))
 | .mk 3 _ _ [a],true=>[(4,[([a],[])])]
 | .mk 3 _ _ [a],false=>[(3,[([],[a])])]
 | .mk 4 _ _ [a,b],true=>[(6,[([],[a]),([],[b])])]
 | .mk 4 _ _ [a,b],false=>[(5,[([a,b],[])])]
 | .mk 5 _ _ [a,b],true=>if j=true then [(8,[([],[a])]),(18,[([],[b])])] else [(8,[([],[a,b])])]
 | .mk 5 _ _ [a,b],false=>[(7,[([a],[]),([b],[])])]
 | .mk 6 _ _ [a,b],true=>[(10,[([a],[b])])]
 | .mk 6 _ _ [a,b],false=>[(9,[([],[a]),([b],[])])]
 | .mk 7 _ _ [a,b],true=>[(12,[([a],[b]),([b],[a])])]
 | .mk 7 _ _ [a,b],false=>[(11,[([imF a b,imF b a],[])])]
 | _,_=>[]
def rgt (j:Bool)(R r:List Fm):List Fm:=if j=true/\r≠[] then r else R++r
def lR (f:Fm):Bool:=match f with|.mk o _ _ _=>decide (o=2)
def ClF (L R:List Fm):Prop:=(∃f∈L,f∈R)\/∃f∈L,lR f=true
def HtF (j:Bool):Nat->List Fm->List Fm->Prop
 | 0,_,_=>False
 | n+1,L,R=>ClF L R\/∃f r,f∈(if r=true then R else L)/\∃t∈addF j f r,∀p∈t.2,HtF j n (L++p.1) (rgt j R p.2)
theorem NR {j:Bool}{R R' r:List Fm}(h:∀f∈R,f∈R'):∀f∈rgt j R r,f∈rgt j R' r:=by
 unfold rgt;split
 ·exact λ_ h=>h
 ·intro f hf;rcases List.mem_append.1 hf with h1|h1
  ·exact List.mem_append_left _ (h f h1)
  ·exact List.mem_append_right _ h1
theorem NS {L L' l:List Fm}(h:∀f∈L,f∈L'):∀f∈L++l,f∈L'++l:=λf hf=>by
 rcases List.mem_append.1 hf with h1|h1
 ·exact List.mem_append_left _ (h f h1)
 ·exact List.mem_append_right _ h1
theorem HtF.sub {j:Bool}:∀ {n:Nat} {L R L' R':List Fm},HtF j n L R->(∀f∈L,f∈L')->(∀f∈R,f∈R')->HtF j n L' R'
 | 0,_,_,_,_,h,_,_=>h.elim
 | n+1,L,R,L',R',h,hl,hr=>by
  rcases h with (⟨f,h1,h2⟩|⟨f,h1,h2⟩)|⟨f,r,h1,t,h2,h3⟩
  ·exact .inl (.inl ⟨f,hl f h1,hr f h2⟩)
  ·exact .inl (.inr ⟨f,hl f h1,h2⟩)
  ·refine .inr ⟨f,r,?_,t,h2,λp hp=>(h3 p hp).sub (NS hl) (NR hr)⟩;cases r
   ·exact hl f h1
   ·exact hr f h1
theorem HtF.up {j:Bool}:∀ {n m:Nat} {L R:List Fm},HtF j n L R->n<=m->HtF j m L R
 | 0,_,_,_,h,_=>h.elim
 | n+1,0,_,_,_,hm=>absurd hm (by omega)
 | n+1,m+1,L,R,h,hm=>by
  rcases h with h|⟨f,r,h1,t,h2,h3⟩
  ·exact .inl h
  ·exact .inr ⟨f,r,h1,t,h2,λp hp=>(h3 p hp).up (by omega)⟩
mutual
def hp (S:Nat->List Nat)(v:Nat->ByteArray->Bool):Fm->Nat->Bool
 | .mk op n _ sub,w =>
  if op=1 then v w n
  else if op=4 then (hpL S v sub w).all id
  else if op=5 then (hpL S v sub w).any id
  else if op=3\/op=6\/op=7 then (S w).all λu=>match hpL S v sub u with
   | [a]=>!a
   | [a,b]=>(!a || b)&&(decide (op=6) || (!b || a))
   | _=>true
  else false
def hpL (S:Nat->List Nat)(v:Nat->ByteArray->Bool):List Fm->Nat->List Bool
 | [],_=>[]
 | a::l,w=>hp S v a w::hpL S v l w
end
section
variable (S:Nat->List Nat)(v:Nat->ByteArray->Bool)(w:Nat)(a b:Fm)(n:ByteArray)(us:List Tm)
theorem hp1:hp S v (.mk 1 n us []) w=v w n:=by simp[hp]
theorem hp2:hp S v (.mk 2 n us []) w=false:=by simp[hp]
theorem hp3:hp S v (.mk 3 n us [a]) w=(S w).all λu=>!hp S v a u:=by simp[hp,hpL]
theorem hp5:hp S v (.mk 5 n us [a,b]) w=(hp S v a w || hp S v b w):=by simp[hp,hpL]
end
def UnP (j:Bool)(L R:List Fm):Prop:=∀n,¬ HtF j n L R
def Full (U:List Fm):Prop:=∀f∈U,∀j r,∀t∈addF j f r,∀p∈t.2,(∀g∈p.1,g∈U)/\∀g∈p.2,g∈U
def one (_:Nat):List Nat:=[0]
abbrev tr (v:ByteArray->Bool)(f:Fm):Bool:=hp one (λ_=>v) f 0
section
variable (v:ByteArray->Bool)(a b:Fm)(n:ByteArray)(us:List Tm)
theorem tr1:tr v (.mk 1 n us [])=v n:=hp1 _ _ _ _ _
theorem tr2:tr v (.mk 2 n us [])=false:=hp2 _ _ _ _ _
theorem tr3:tr v (.mk 3 n us [a])=!tr v a:=by simp[tr,hp3,one]
theorem tr5:tr v (.mk 5 n us [a,b])=(tr v a || tr v b):=hp5 _ _ _ _ _ _ _
end
abbrev Sn:=List Fm×List Fm
noncomputable def nf (s:Sn):Sn:=(setF s.1,setF s.2)
theorem yY3 {l:List Fm}{f:Fm}:f∈setF l↔f∈l:=(No l).2 f
noncomputable def oL (j:Bool)(s p:Sn):Sn:=nf (s.1++p.1,rgt j s.2 p.2)
noncomputable def mo (j:Bool)(s:Sn)(r:Bool)(f:Fm):List (Nat×Fm×List Sn):=(addF j f r).map λt=>(t.1,f,t.2.map (oL j s))
noncomputable def mvF (j:Bool)(s:Sn):List (Nat×Fm×List Sn):=s.1.flatMap (mo j s false)++s.2.flatMap (mo j s true)
def tooL (j:Bool)(s p:Sn):Prop:=64<s.1.length+p.1.length\/64<(if j=true/\p.2≠[] then 0 else s.2.length)+p.2.length
def mX (j:Bool)(s:Sn):Prop:=∃f r,f∈(if r=true then s.2 else s.1)/\∃t∈addF j f r,∃p∈t.2,tooL j s p
inductive Rch (j:Bool)(s0:Sn):Sn->Prop
 | refl:Rch j s0 s0
 | step {s:Sn} (h:Rch j s0 s) (hc:¬ ClF s.1 s.2) {m:Nat×Fm×List Sn} (hm:m∈mvF j s) {p:Sn} (hp:p∈m.2.2):Rch j s0 p
theorem Rch.trans {j:Bool}{s0 s1 s:Sn}(h:Rch j s0 s1)(k:Rch j s1 s):Rch j s0 s:=by
 induction k with
 | refl=>exact h
 | step _ hc hm hp ih=>exact .step ih hc hm hp
structure ReachOk (j:Bool)(s0:Sn)(K:List Sn):Prop where
 nodup:K.Nodup
 mem:∀s,s∈K↔Rch j s0 s
 short:∀s∈K,¬ ClF s.1 s.2->¬ mX j s
 len:K.length<=20000
def qg (j:Bool)(s0:Sn)(e:Nat):Prop:=(e=4/\∃K:List Sn,K.Nodup/\(∀s∈K,Rch j s0 s)/\20000<K.length)\/(e=5/\∃s,Rch j s0 s/\¬ ClF s.1 s.2/\mX j s)
open Classical in
theorem uR {α:Type}{a b:List α}(h:a.Nodup)(hs:∀x∈a,x∈b):a.length<=b.length:=xq a b h hs
theorem ReachOk.no {j:Bool}{s0 s1:Sn}{K:List Sn}(h:ReachOk j s0 K)(hr:Rch j s0 s1){e:Nat}(hn:qg j s1 e):False:=by
 rcases hn with⟨_,L,h1,h2,h3⟩|⟨_,s,h1,h2,h3⟩
 ·have:=uR h1 λs hs=>(h.mem s).2 (hr.trans (h2 s hs));have:=h.len;omega
 ·exact h.short s ((h.mem s).2 (hr.trans h1)) h2 h3
abbrev HtS (j:Bool)(n:Nat)(s:Sn):Prop:=HtF j n s.1 s.2
theorem vQ7 {j:Bool}{n:Nat}{s:Sn}:HtS j n (nf s)↔HtS j n s :=
 ⟨λh=>h.sub (λ_=>yY3.1) λ_=>yY3.1,λh=>h.sub (λ_=>yY3.2) λ_=>yY3.2⟩
open Classical in
noncomputable def hF (j:Bool)(s:Sn):Nat:=if h:∃n,HtS j n s then (tH h).choose else 0
theorem rY {j:Bool}{s:Sn}{n:Nat}(h:HtS j n s):HtS j (hF j s) s/\hF j s<=n/\0<hF j s:=by
 have he:∃n,HtS j n s:=⟨n,h⟩
 unfold hF;rw[dif_pos he];have h1:=(tH he).choose_spec;refine⟨h1.1,h1.2 n h,?_⟩;have h1:=h1.1;cases hz:(tH he).choose with
 | zero=>rw[hz] at h1;exact h1.elim
 | succ k=>omega
theorem vKs {j:Bool}{s:Sn}:hF j s=0↔UnP j s.1 s.2:=by
 constructor
 ·intro h n hn;have:=(rY hn).2.2;omega
 ·intro h;unfold hF;rw[dif_neg λ⟨n,hn⟩=>h n hn]
theorem NT {j:Bool}{s:Sn}(h:0<hF j s):HtS j (hF j s) s:=by
 by_cases he:∃n,HtS j n s
 ·obtain⟨n,hn⟩:=he;exact (rY hn).1
 ·unfold hF at h;rw[dif_neg he] at h;omega
theorem zh {j:Bool}{s:Sn}{h:Nat}(h1:0<h->HtS j h s)(h2:∀n,HtS j n s->0<h/\h<=n):hF j s=h:=by
 by_cases he:∃n,HtS j n s
 ·obtain⟨n,hn⟩:=he;have h3:=h2 _ (rY hn).1;have h4:=(rY (h1 h3.1)).2.1;omega
 ·have:hF j s=0:=vKs.2 λn hn=>he ⟨n,hn⟩;rw[this];rcases Nat.eq_zero_or_pos h with h0|h0
  ·exact h0.symm
  ·exact (he ⟨h,h1 h0⟩).elim
theorem Ff (j:Bool)(s:Sn):hF j (nf s)=hF j s:=by
 refine zh (λh=>vQ7.2 (NT h)) λn hn=>?_;have:=rY (vQ7.1 hn);exact⟨this.2.2,this.2.1⟩
theorem zj {j:Bool}{n:Nat}{s:Sn}:HtS j (n+1) s↔ClF s.1 s.2\/∃m∈mvF j s,∀p∈m.2.2,HtS j n p:=by
 have key:∀f r,(∃m∈mo j s r f,∀p∈m.2.2,HtS j n p)↔∃t∈addF j f r,∀p∈t.2,HtF j n (s.1++p.1) (rgt j s.2 p.2):=λf r=>by
  constructor
  ·rintro⟨m,hm,h⟩;obtain⟨t,ht,rfl⟩:=List.mem_map.1 hm;exact⟨t,ht,λp hp=>vQ7.1 (h _ (List.mem_map_of_mem hp))⟩
  ·rintro⟨t,ht,h⟩;refine⟨_,List.mem_map_of_mem ht,λp hp=>?_⟩;obtain⟨q,hq,rfl⟩:=List.mem_map.1 hp;exact vQ7.2 (h q hq)
 constructor
 ·rintro (h|⟨f,r,h1,h2⟩)
  ·exact .inl h
  ·obtain⟨m,hm,h⟩:=(key f r).2 h2;refine .inr ⟨m,?_,h⟩;cases r
   ·exact List.mem_append_left _ (List.mem_flatMap.2 ⟨f,h1,hm⟩)
   ·exact List.mem_append_right _ (List.mem_flatMap.2 ⟨f,h1,hm⟩)
 ·rintro (h|⟨m,hm,h⟩)
  ·exact .inl h
  ·rcases List.mem_append.1 hm with hm|hm
   ·obtain⟨f,hf,hm⟩:=List.mem_flatMap.1 hm;exact .inr ⟨f,false,hf,(key f false).1 ⟨m,hm,h⟩⟩
   ·obtain⟨f,hf,hm⟩:=List.mem_flatMap.1 hm;exact .inr ⟨f,true,hf,(key f true).1 ⟨m,hm,h⟩⟩
def insN (x:Nat):List Nat->List Nat
 | []=>[x]
 | y::l=>if x<y then x::y::l else if x=y then y::l else y::insN x l
def sdN:List Nat->List Nat
 | []=>[]
 | x::l=>insN x (sdN l)
def Inc (l:List Nat):Prop:=l.Pairwise (·<·)
theorem xQ6 {x y:Nat}:∀ {l:List Nat},y∈insN x l↔y=x\/y∈l
 | []=>by simp[insN]
 | z::l=>by
  unfold insN;split
  ·simp
  ·split
   ·rename_i h;subst h;simp
   ·rw[List.mem_cons,xQ6,List.mem_cons];grind
theorem Fg {x:Nat}:∀ {l:List Nat},Inc l->Inc (insN x l)
 | [],_=>List.pairwise_singleton ..
 | z::l,h=>by
  have h1:=List.pairwise_cons.1 h;unfold insN;split
  ·rename_i hx;refine List.pairwise_cons.2 ⟨λy hy=>?_,h⟩;rcases List.mem_cons.1 hy with rfl|hy
   ·exact hx
   ·exact Nat.lt_trans hx (h1.1 y hy)
  ·split
   ·exact h
   ·refine List.pairwise_cons.2 ⟨λy hy=>?_,Fg h1.2⟩;rcases xQ6.1 hy with rfl|hy
    ·omega
    ·exact h1.1 y hy
theorem sdN_mem {x:Nat}:∀ {l:List Nat},x∈sdN l↔x∈l
 | []=>Iff.rfl
 | y::l=>by rw[sdN,xQ6,sdN_mem,List.mem_cons]
theorem rZ:∀l:List Nat,Inc (sdN l)
 | []=>List.Pairwise.nil
 | _::l=>Fg (rZ l)
theorem Inc.uniq:∀ {r r':List Nat},Inc r->Inc r'->(∀x,x∈r↔x∈r')->r=r'
 | [],r',_,_,h=>by
  cases r' with
  | nil=>rfl
  | cons b r'=>exact absurd ((h b).2 (.head _)) (by simp)
 | a::r,[],_,_,h=>absurd ((h a).1 (.head _)) (by simp)
 | a::r,b::r',h1,h2,h=>by
  have p1:=List.pairwise_cons.1 h1;have p2:=List.pairwise_cons.1 h2;have hab:a=b:=by
   have ha:=(h a).1 (.head _);have hb:=(h b).2 (.head _);rcases List.mem_cons.1 ha with e|ha
   ·exact e
   ·rcases List.mem_cons.1 hb with e|hb
    ·exact e.symm
    ·have:=p1.1 b hb;have:=p2.1 a ha;omega
  subst hab;congr 1;refine Inc.uniq p1.2 p2.2 λx=>?_;constructor
  ·intro hx;rcases List.mem_cons.1 ((h x).1 (.tail _ hx)) with e|e
   ·subst e;exact absurd (p1.1 _ hx) (nLi _)
   ·exact e
  ·intro hx;rcases List.mem_cons.1 ((h x).2 (.tail _ hx)) with e|e
   ·subst e;exact absurd (p2.1 _ hx) (nLi _)
   ·exact e
theorem NU {l r:List Nat}(h:Inc r)(hm:∀x,x∈r↔x∈l):sdN l=r:=Inc.uniq (rZ l) h λx=>sdN_mem.trans (hm x).symm
theorem Fh {l:List Nat}(h:Inc l):l.Nodup:=h.imp λh=>Nat.ne_of_lt h
theorem nV {l:List Nat}(h:Inc l){n:Nat}(hn:∀x∈l,x<n):l.length<=n:=by
 have:=uR (Fh h) (b:=List.range n) λx hx=>List.mem_range.2 (hn x hx)
 rwa [List.length_range] at this
def ddP (p:Nat):List Nat->List Nat
 | []=>[]
 | b::l=>if b=p then ddP b l else b::ddP b l
def ddN:List Nat->List Nat
 | []=>[]
 | a::l=>a::ddP a l
theorem zk:∀(p:Nat)(l:List Nat)(a b:Nat),(p::l).getLast?=some a->ddP p (l++[b])=ddP p l++(if b=a then [] else [b])
 | p,[],a,b,h=>by
  simp only[List.getLast?_singleton,Option.some.injEq] at h;subst h;simp only[List.nil_append,ddP]
 | p,c::l,a,b,h=>by
  rw[List.getLast?_cons_cons] at h;simp only[List.cons_append,ddP,zk c l a b h];split<;>rfl
theorem Fi {m:List Nat}{k a b:Nat}(ha:m[k]?=some a)(hb:m[k+1]?=some b):ddN (m.take (k+1+1))=ddN (m.take (k+1))++(if b=a then [] else [b]):=by
 rw[dE hb,dE ha];cases hm:m.take k with
 | nil=>exact congrArg (a::·) (zk a [] a b rfl)
 | cons p l=>exact congrArg (p::·) (zk p (l++[a]) a b (by rw[<- List.cons_append,List.getLast?_concat]))
theorem Fj:∀(p:Nat)(l:List Nat),(p::l).Pairwise (·<=·)->(∀x,x∈p::ddP p l↔x∈p::l)/\Inc (p::ddP p l)
 | p,[],_=>⟨λ_=>Iff.rfl,List.pairwise_singleton ..⟩
 | p,b::l,h=>by
  have h1:=List.pairwise_cons.1 h;obtain⟨i1,i2⟩:=Fj b l h1.2;simp only[ddP];by_cases hc:b=p
  ·subst hc;rw[if_pos rfl];exact⟨λx=>by rw[i1 x];simp,i2⟩
  ·rw[if_neg hc];have hlt:p<b:=by have:=h1.1 b (.head _);omega
   refine⟨λx=>by rw[List.mem_cons,i1 x,List.mem_cons (l:=b::l)],List.pairwise_cons.2 ⟨λy hy=>?_,i2⟩⟩;rcases List.mem_cons.1 hy with rfl|hy
   ·exact hlt
   ·exact Nat.lt_trans hlt ((List.pairwise_cons.1 i2).1 y hy)
theorem Fk {l:List Nat}(h:l.Pairwise (·<=·)):(∀x,x∈ddN l↔x∈l)/\Inc (ddN l):=by
 cases l with
 | nil=>exact⟨λ_=>Iff.rfl,List.Pairwise.nil⟩
 | cons a l=>exact Fj a l h
theorem Fl {l m:List Nat}(hp:m.Perm l)(h:m.Pairwise (·<=·)):ddN m=sdN l :=
 (NU (Fk h).2 λx=>((Fk h).1 x).trans hp.mem_iff).symm
theorem r_ (l:List Nat):(sdN l).length<=l.length:=uR (Fh (rZ l)) λ_=>sdN_mem.1
def Srt (W:List Fm):Prop:=W.Pairwise λa b=>eB a b<0
theorem qh {W:List Fm}(h:Srt W){i k:Nat}{a b:Fm}(ha:W[i]?=some a)(hb:W[k]?=some b)(hik:i<k):eB a b<0:=by
 obtain⟨h1,h2⟩:=lGs ha;obtain⟨h3,h4⟩:=lGs hb;have:=List.pairwise_iff_getElem.1 h i k h1 h3 hik
 rwa [h2,h4] at this
theorem zl {W:List Fm}(h:Srt W){i k:Nat}{a:Fm}(ha:W[i]?=some a)(hb:W[k]?=some a):i=k:=by
 rcases Nat.lt_trichotomy i k with h1|h1|h1
 ·exact absurd (qh h ha hb h1) (p9 a)
 ·exact h1
 ·exact absurd (qh h hb ha h1) (p9 a)
def fmW (W:List Fm)(l:List Nat):List Fm:=l.filterMap λi=>W[i]?
theorem yZp {W:List Fm}{l:List Nat}{f:Fm}:f∈fmW W l↔∃i∈l,W[i]?=some f:=by simp[fmW]
def Ix (W:List Fm)(l:List Nat):Prop:=Inc l/\∀i∈l,i<W.length
theorem Ix.tail {W:List Fm}{i:Nat}{l:List Nat}(h:Ix W (i::l)):Ix W l:=⟨(List.pairwise_cons.1 h.1).2,λk hk=>h.2 k (.tail _ hk)⟩
theorem Ix.get {W:List Fm}{l:List Nat}(h:Ix W l){i:Nat}(hi:i∈l):∃f,W[i]?=some f:=⟨_,List.getElem?_eq_getElem (h.2 i hi)⟩
theorem zm {W:List Fm}{i:Nat}{l:List Nat}{f:Fm}(h:W[i]?=some f):fmW W (i::l)=f::fmW W l:=by simp[fmW,h]
theorem Fp {W:List Fm}(hW:Srt W):∀ {l:List Nat},Ix W l->Srt (fmW W l)
 | [],_=>List.Pairwise.nil
 | i::l,h=>by
  obtain⟨f,hf⟩:=h.get (.head _);rw[zm hf];refine List.pairwise_cons.2 ⟨λg hg=>?_,Fp hW h.tail⟩;obtain⟨k,hk,hkg⟩:=yZp.1 hg;exact qh hW hf hkg ((List.pairwise_cons.1 h.1).1 k hk)
theorem zn {W:List Fm}:∀ {l:List Nat},Ix W l->(fmW W l).length=l.length
 | [],_=>rfl
 | i::l,h=>by
  obtain⟨f,hf⟩:=h.get (.head _);rw[zm hf,List.length_cons,List.length_cons,zn h.tail]
theorem uS {W:List Fm}(hW:Srt W){l:List Nat}(h:Ix W l){m:List Fm}(hm:∀f,f∈fmW W l↔f∈m):fmW W l=setF m:=(mW ⟨Fp hW h,hm⟩).symm
theorem Fq {W:List Fm}(hW:Srt W){l m:List Nat}(hl:Ix W l)(hm:Ix W m)(h:fmW W l=fmW W m):l=m:=by
 refine Inc.uniq hl.1 hm.1 λi=>?_;have key:∀ {l m:List Nat},Ix W l->fmW W l=fmW W m->i∈l->i∈m:=λhl h hi=>by
  obtain⟨f,hf⟩:=hl.get hi;have:f∈fmW W _:=yZp.2 ⟨i,hi,hf⟩;rw[h] at this;obtain⟨k,hk,hkf⟩:=yZp.1 this
  rwa [zl hW hf hkf]
 exact⟨key hl h,key hm h.symm⟩
open Classical in
noncomputable def noW (W:List Fm)(f:Fm):Nat:=if h:∃i,W[i]?=some f then h.choose else 0
theorem uT {W:List Fm}{f:Fm}(h:f∈W):W[noW W f]?=some f:=by
 obtain⟨i,hi⟩:=List.mem_iff_getElem?.1 h;have he:∃i,W[i]?=some f:=⟨i,hi⟩
 unfold noW;rw[dif_pos he];exact he.choose_spec
theorem NV {W:List Fm}(hW:Srt W){f:Fm}{i:Nat}(h:W[i]?=some f):noW W f=i:=zl hW (uT (lMg h)) h
noncomputable def lS (W:List Fm)(l:List Fm):List Nat:=sdN (l.map (noW W))
theorem qi {W:List Fm}{l:List Fm}(h:∀f∈l,f∈W):Ix W (lS W l):=by
 refine⟨rZ _,λi hi=>?_⟩;obtain⟨f,hf,rfl⟩:=List.mem_map.1 (sdN_mem.1 hi);exact (lGs (uT (h f hf))).1
theorem sc {W:List Fm}{l:List Fm}(h:∀f∈l,f∈W){f:Fm}:f∈fmW W (lS W l)↔f∈l:=by
 rw[yZp];constructor
 ·rintro⟨i,hi,hf⟩;obtain⟨g,hg,rfl⟩:=List.mem_map.1 (sdN_mem.1 hi);rw[uT (h g hg)] at hf;cases hf;exact hg
 ·intro hf;exact⟨_,sdN_mem.2 (List.mem_map_of_mem hf),uT (h f hf)⟩
abbrev Ln:=List Nat×List Nat
def lnW (W:List Fm)(ln:Ln):Sn:=(fmW W ln.1,fmW W ln.2)
def LnOk (W:List Fm)(ln:Ln):Prop:=Ix W ln.1/\Ix W ln.2
noncomputable def lT (W:List Fm)(s:Sn):Ln:=(lS W s.1,lS W s.2)
def InW (W:List Fm)(s:Sn):Prop:=(∀f∈s.1,f∈W)/\∀f∈s.2,f∈W
theorem zo {W:List Fm}{s:Sn}(h:InW W s):LnOk W (lT W s):=⟨qi h.1,qi h.2⟩
theorem uU {W:List Fm}(hW:Srt W){s:Sn}(h:InW W s):lnW W (lT W s)=nf s:=by
 unfold lnW lT nf;rw[uS hW (qi h.1) λf=>sc h.1,uS hW (qi h.2) λf=>sc h.2]
theorem Fs {W:List Fm}(hW:Srt W){a b:Ln}(ha:LnOk W a)(hb:LnOk W b)(h:lnW W a=lnW W b):a=b:=by
 have h1:=congrArg Prod.fst h;have h2:=congrArg Prod.snd h;exact Prod.ext (Fq hW ha.1 hb.1 h1) (Fq hW ha.2 hb.2 h2)
abbrev Ex:=Ln×Nat×Nat
noncomputable def exW (W:List Fm)(p:Sn):Ex:=(lT W p,p.1.length,p.2.length)
def rgtN (j:Bool)(ln:Ln)(x:Ex):List Nat:=if j=true/\0<x.2.2 then [] else ln.2
def j9 (j:Bool)(ln:Ln)(x:Ex):Ln:=(sdN (ln.1++x.1.1),sdN (rgtN j ln x++x.1.2))
def tooN (j:Bool)(ln:Ln)(x:Ex):Bool:=decide (64<ln.1.length+x.2.1) || decide (64<(rgtN j ln x).length+x.2.2)
theorem Fu {W:List Fm}{a b:List Nat}(ha:∀i∈a,i<W.length)(hb:∀i∈b,i<W.length):Ix W (sdN (a++b)) :=
 ⟨rZ _,λi hi=>(List.mem_append.1 (sdN_mem.1 hi)).elim (ha i) (hb i)⟩
theorem NW {W:List Fm}{j:Bool}{ln:Ln}{x:Ex}(h:LnOk W ln):∀i∈rgtN j ln x,i<W.length:=by
 unfold rgtN;split
 ·intro i hi;cases hi
 ·exact h.2.2
theorem Fv {W:List Fm}{j:Bool}{ln:Ln}{p:Sn}(h:LnOk W ln)(hp:InW W p):LnOk W (j9 j ln (exW W p)) :=
 ⟨Fu h.1.2 (qi hp.1).2,Fu (NW h) (qi hp.2).2⟩
theorem NX {W:List Fm}(hW:Srt W){j:Bool}{ln:Ln}{p:Sn}(h:LnOk W ln)(hp:InW W p):lnW W (j9 j ln (exW W p))=oL j (lnW W ln) p:=by
 have hk:=Fv (j:=j) h hp;unfold oL nf;refine Prod.ext ?_ ?_
 ·refine uS hW hk.1 λf=>?_;rw[yZp,List.mem_append];simp only[j9,sdN_mem,List.mem_append];constructor
  ·rintro⟨i,hi|hi,hf⟩
   ·exact .inl (yZp.2 ⟨i,hi,hf⟩)
   ·exact .inr ((sc hp.1).1 (yZp.2 ⟨i,hi,hf⟩))
  ·rintro (hf|hf)
   ·obtain⟨i,hi,hf⟩:=yZp.1 hf;exact⟨i,.inl hi,hf⟩
   ·obtain⟨i,hi,hf⟩:=yZp.1 ((sc hp.1).2 hf);exact⟨i,.inr hi,hf⟩
 ·refine uS hW hk.2 λf=>?_;have hpos:0<(exW W p).2.2↔p.2≠[]:=by simp[exW,List.length_pos_iff]
  rw[yZp];unfold rgt;simp only[j9,sdN_mem,List.mem_append,rgtN,hpos];have hr:∀ {f},f∈fmW W (exW W p).1.2↔f∈p.2:=sc hp.2;by_cases hc:j=true/\p.2≠[]
  ·rw[if_pos hc,if_pos hc];constructor
   ·rintro⟨i,hi|hi,hf⟩
    ·cases hi
    ·exact hr.1 (yZp.2 ⟨i,hi,hf⟩)
   ·intro hf;obtain⟨i,hi,hf⟩:=yZp.1 (hr.2 hf);exact⟨i,.inr hi,hf⟩
  ·rw[if_neg hc,if_neg hc,List.mem_append];constructor
   ·rintro⟨i,hi|hi,hf⟩
    ·exact .inl (yZp.2 ⟨i,hi,hf⟩)
    ·exact .inr (hr.1 (yZp.2 ⟨i,hi,hf⟩))
   ·rintro (hf|hf)
    ·obtain⟨i,hi,hf⟩:=yZp.1 hf;exact⟨i,.inl hi,hf⟩
    ·obtain⟨i,hi,hf⟩:=yZp.1 (hr.2 hf);exact⟨i,.inr hi,hf⟩
theorem Fw {W:List Fm}{j:Bool}{ln:Ln}{p:Sn}(h:LnOk W ln):tooN j ln (exW W p)=true↔tooL j (lnW W ln) p:=by
 have hpos:0<(exW W p).2.2↔p.2≠[]:=by simp[exW,List.length_pos_iff]
 have hr:(rgtN j ln (exW W p)).length=if j=true/\p.2≠[] then 0 else (fmW W ln.2).length:=by
  unfold rgtN;by_cases hc:j=true/\p.2≠[]
  ·rw[if_pos hc,if_pos ⟨hc.1,hpos.2 hc.2⟩];rfl
  ·rw[if_neg hc,if_neg λh=>hc ⟨h.1,hpos.1 h.2⟩,zn h.2]
 unfold tooN tooL;rw[Bool.or_eq_true,dTe,dTe,hr,lnW,zn h.1];rfl
def clN (W:List Fm)(ln:Ln):Prop:=(∃i∈ln.1,i∈ln.2)\/∃i∈ln.1,∃f,W[i]?=some f/\lR f=true
theorem nW {W:List Fm}(hW:Srt W){ln:Ln}(h:LnOk W ln):clN W ln↔ClF (lnW W ln).1 (lnW W ln).2:=by
 unfold clN ClF lnW;refine or_congr ⟨?_,?_⟩ ⟨?_,?_⟩
 ·rintro⟨i,h1,h2⟩;obtain⟨f,hf⟩:=h.1.get h1;exact⟨f,yZp.2 ⟨i,h1,hf⟩,yZp.2 ⟨i,h2,hf⟩⟩
 ·rintro⟨f,h1,h2⟩;obtain⟨i,hi,hf⟩:=yZp.1 h1;obtain⟨k,hk,hkf⟩:=yZp.1 h2;exact⟨i,hi,by rw[zl hW hf hkf];exact hk⟩
 ·rintro⟨i,h1,f,hf,h2⟩;exact⟨f,yZp.2 ⟨i,h1,hf⟩,h2⟩
 ·rintro⟨f,h1,h2⟩;obtain⟨i,hi,hf⟩:=yZp.1 h1;exact⟨i,hi,f,hf,h2⟩
end Go.Proofs.Tryz
namespace Go.Proofs
open Go.Shelf
def Tryz.sortIL_ren:Go.Shelf.Ren:=⟨λ| 5=>164|8=>217|7=>218|19=>255|20=>256|10=>257|11=>258|12=>259|13=>260|14=>261|15=>262|16=>166|17=>263|18=>264|30=>298|31=>294|32=>295|33=>299|34=>300|35=>219|40=>322|n=>n,λ| 23=>42|25=>3|3=>3|32=>243|22=>42|0=>0|44=>320|46=>322|4=>4|36=>314|35=>313|41=>198|5=>5|9=>9|53=>342|57=>346|63=>361|64=>295|n=>n,λ| n=>n⟩
theorem nX:Go.Proofs.SlLaysM.n5 Tryz.prog Tryz.sortIL_ren:={
 mixed:=by kernel_rfl
 f5:=⟨Tryz.f164.name,by decide,Tryz.func164.trans (congrArg some (by kernel_rfl))⟩
 f7:=⟨Tryz.f218.name,by decide,Tryz.func218.trans (congrArg some (by kernel_rfl))⟩
 f8:=Tryz.func217.trans (congrArg some (by kernel_rfl))
 f10:=⟨Tryz.f257.name,by decide,Tryz.func257.trans (congrArg some (by kernel_rfl))⟩
 f11:=⟨Tryz.f258.name,by decide,Tryz.func258.trans (congrArg some (by kernel_rfl))⟩
 f12:=⟨Tryz.f259.name,by decide,Tryz.func259.trans (congrArg some (by kernel_rfl))⟩
 f13:=⟨Tryz.f260.name,by decide,Tryz.func260.trans (congrArg some (by kernel_rfl))⟩
 f14:=⟨Tryz.f261.name,by decide,Tryz.func261.trans (congrArg some (by kernel_rfl))⟩
 f15:=⟨Tryz.f262.name,by decide,Tryz.func262.trans (congrArg some (by kernel_rfl))⟩
 f16:=⟨Tryz.f166.name,by decide,Tryz.func166.trans (congrArg some (by kernel_rfl))⟩
 f17:=⟨Tryz.f263.name,by decide,Tryz.func263.trans (congrArg some (by kernel_rfl))⟩
 f18:=⟨Tryz.f264.name,by decide,Tryz.func264.trans (congrArg some (by kernel_rfl))⟩
 f19:=Tryz.func255.trans (congrArg some (by kernel_rfl))
 f20:=Tryz.func256.trans (congrArg some (by kernel_rfl))
 f30:=⟨Tryz.f298.name,by decide,Tryz.func298.trans (congrArg some (by kernel_rfl))⟩
 f31:=Tryz.func294.trans (congrArg some (by kernel_rfl))
 f32:=Tryz.func295.trans (congrArg some (by kernel_rfl))
 f33:=⟨Tryz.f299.name,by decide,Tryz.func299.trans (congrArg some (by kernel_rfl))⟩
 f34:=⟨Tryz.f300.name,by decide,Tryz.func300.trans (congrArg some (by kernel_rfl))⟩
 f35:=⟨Tryz.f219.name,by decide,Tryz.func219.trans (congrArg some (by kernel_rfl))⟩
 f40:=⟨Tryz.f322.name,by decide,Tryz.func322.trans (congrArg some (by kernel_rfl))⟩
 t0:=Tryz.underlying0
 a0:=Tryz.isAgg0
 z0:=Tryz.sizeOf0
 v0:=Tryz.zeroValue0
 t3:=Tryz.underlying3
 a3:=Tryz.isAgg3
 z3:=Tryz.sizeOf3
 v3:=Tryz.zeroValue3
 t4:=Tryz.underlying4
 a4:=Tryz.isAgg4
 z4:=Tryz.sizeOf4
 v4:=Tryz.zeroValue4
 t5:=Tryz.underlying5
 a5:=Tryz.isAgg5
 z5:=Tryz.sizeOf5
 v5:=Tryz.zeroValue5
 t9:=Tryz.underlying9
 a9:=Tryz.isAgg9
 z9:=Tryz.sizeOf9
 v9:=Tryz.zeroValue9
 t22:=Tryz.underlying42
 a22:=Tryz.isAgg42
 z22:=Tryz.sizeOf42
 v22:=Tryz.zeroValue42
 t23:=Tryz.underlying42
 a23:=Tryz.isAgg42
 z23:=Tryz.sizeOf42
 v23:=Tryz.zeroValue42
 t25:=Tryz.underlying3
 a25:=Tryz.isAgg3
 z25:=Tryz.sizeOf3
 v25:=Tryz.zeroValue3
 t32:=Tryz.underlying243
 a32:=Tryz.isAgg243
 z32:=Tryz.sizeOf243
 v32:=Tryz.zeroValue243
 t35:=Tryz.underlying313
 a35:=Tryz.isAgg313
 z35:=Tryz.sizeOf313
 v35:=Tryz.zeroValue313
 t36:=Tryz.underlying314
 a36:=Tryz.isAgg314
 z36:=Tryz.sizeOf314
 v36:=Tryz.zeroValue314
 t41:=Tryz.underlying198
 a41:=Tryz.isAgg198
 z41:=Tryz.sizeOf198
 v41:=Tryz.zeroValue198
 t44:=Tryz.underlying320
 a44:=Tryz.isAgg320
 z44:=Tryz.sizeOf320
 v44:=Tryz.zeroValue320
 t46:=Tryz.underlying322
 a46:=Tryz.isAgg322
 z46:=Tryz.sizeOf322
 v46:=Tryz.zeroValue322
 t53:=Tryz.underlying342
 a53:=Tryz.isAgg342
 z53:=Tryz.sizeOf342
 v53:=Tryz.zeroValue342
 t57:=Tryz.underlying346
 a57:=Tryz.isAgg346
 z57:=Tryz.sizeOf346
 v57:=Tryz.zeroValue346
 t63:=Tryz.underlying361
 a63:=Tryz.isAgg361
 z63:=Tryz.sizeOf361
 v63:=Tryz.zeroValue361
 t64:=Tryz.underlying295
 a64:=Tryz.isAgg295
 z64:=Tryz.sizeOf295
 v64:=Tryz.zeroValue295 }
end Go.Proofs
namespace Go.Proofs.Tryz
set_option maxRecDepth 4000
open Go Go.Iv Go.Sort
open Go.RowKit (Below)
variable (gl:Nat->Option IV)
theorem NY {ys:List Int}{l:List Nat}(h:ys.Perm (l.map λ(n:Nat)=>(n:Int))):∃m:List Nat,ys=m.map (λ(n:Nat)=>(n:Int))/\m.Perm l:=by
 refine⟨ys.map Int.toNat,?_,?_⟩
 ·rw[List.map_map];refine (List.map_id ys).symm.trans (List.map_congr_left λy hy=>?_);obtain⟨n,_,rfl⟩:=List.mem_map.1 (h.mem_iff.1 hy);rfl
 ·have:=h.map Int.toNat;rw[List.map_map] at this;have e:(Int.toNat ∘ λ(n:Nat)=>(n:Int))=id:=by funext n;rfl
  rwa [e,List.map_id] at this
theorem Fx (T:Gt gl)(l:List Nat)(rest:List IV)(b cap:Nat)(st:ISt)(hlen:l.length<=1099511627776)(hb:st b=some (.box (dM l++rest))) :
  ICall prog gl 164 [.raw (.slice (some ⟨b,0,none⟩) l.length cap)] st
   (λr st'=>r=.tup []/\∃m:List Nat,m.Perm l/\m.Pairwise (λx y=>x<=y)/\st'=st.put b (some (.box (dM m++rest)))):=by
 intro B X rs hg hst hv;subst hst;obtain⟨r0,rfl⟩:∃r0,rs=[r0]:=by
  match rs,hv with
  | [a],_=>exact⟨a,rfl⟩
  | [],hv=>cases hv.1
  | _::_::_,hv=>cases hv.1
 obtain rfl:=dK (hv.2 0 r0 _ rfl rfl);obtain⟨hL,c,Ty,hh,hvl⟩:=hg.ok b _ hb;have hblk:b<X.w.heap.size:=hg.lt hb;have hcs:c.toList.length=l.length+rest.length:=by
  have:=hvl.1;rw[lLa,dM,List.length_map] at this;exact this
 have hget:∀j,j<l.length->c[j]?=some (.int .i64 ((l[j]?.getD 0:Nat):Int)):=λj hj=>by
  obtain⟨n,hn⟩:=dB hj;have h1:(dM l++rest)[j]?=some (.raw (.int .i64 (n:Int))):=by
   rw[List.getElem?_append_left (by rw[dM,List.length_map];exact hj),dM,List.getElem?_map,hn];rfl
  obtain⟨r,hr,hrv⟩:=VL.get hvl h1;rw[dK hrv,Array.getElem?_toList] at hr;rw[hr,hn];rfl
 let zs:List Int:=l.map λ(n:Nat)=>(n:Int)
 have hH:Holds (Value.int .i64) X.w b 0 zs.toArray:=by
  intro j hj;have hj':j<l.length:=by simpa[zs] using hj
  obtain⟨n,hn⟩:=dB hj';refine⟨?_,?_⟩
  ·rw[Nat.zero_add,jn hh,Array.getElem?_toList,hget j hj',hn];have:(zs.toArray[j]!)=(n:Int):=by
    rw[getElem!_pos zs.toArray j hj];simp only[zs,List.getElem_toArray,List.getElem_map];rw[(lGs hn).2]
   rw[this];rfl
  ·simp only[World.frozen?,hh];simp
 have hcon:=AnyM.slices_Sort_int nX b 0 cap zs X.w hH hblk (by simp[zs];omega);have harr:(⟨[.slice (some ⟨b,0,none⟩) l.length cap]⟩:Array Value)=#[.slice (some ⟨b,0,none⟩) zs.length cap]:=by simp[zs]
 rw[harr];refine Calls.mono hcon ?_;rintro e w' ⟨rfl,n,os,rfl⟩;obtain⟨m,hm1,hm2⟩:=NY (l:=l) (List.mergeSort_perm zs λx y=>decide (x<=y));have hsrt:m.Pairwise (λx y=>x<=y):=by
  have:=List.pairwise_mergeSort (le:=λx y:Int=>decide (x<=y)) (λa b c h1 h2=>by simp at h1 h2 ⊢;omega) (λa b=>by simp;omega) zs;rw[hm1,List.pairwise_map] at this;exact this.imp λh=>by simpa using h
 have hml:m.length=l.length:=hm2.length_eq
 let cs':Array Value:=putCells (Value.int .i64) 0 (zs.mergeSort λx y=>decide (x<=y)).toArray c
 have hsz:cs'.size=c.size:=by simp[cs',putCells]
 have hcl:cs'.toList=(m.map λ(n:Nat)=>Value.int .i64 (n:Int))++c.toList.drop l.length:=by
  apply List.ext_getElem?;intro i;have hzl:(zs.mergeSort λx y=>decide (x<=y)).toArray.size=l.length:=by simp[zs]
  show (putCells (Value.int .i64) 0 _ c).toList[i]?=_;unfold putCells;rw[Array.getElem?_toList,Array.getElem?_mapIdx];by_cases hi:i<l.length
  ·rw[List.getElem?_append_left (by rw[List.length_map,hml];exact hi),List.getElem?_map];have hic:i<c.size:=by rw[<- Array.length_toList];omega
   rw[Array.getElem?_eq_getElem hic];simp only[Option.map_some,Nat.zero_add,Nat.zero_le,true_and,Nat.sub_zero];rw[if_pos (by omega),hm1];have hmi:i<m.length:=by omega
   rw[List.getElem?_eq_getElem hmi];simp only[Option.map_some];rw[getElem!_pos _ i (by simpa using hmi)];simp
  ·rw[List.getElem?_append_right (by rw[List.length_map,hml];omega),List.getElem?_drop,List.length_map,hml,Array.getElem?_toList];rw[show l.length+(i-l.length)=i by omega];cases hc:c[i]? with
   | none=>rfl
   | some v =>
    simp only[Option.map_some,Nat.zero_add,Nat.zero_le,true_and];rw[if_neg (by omega)]
 have hkeep:∀i,i<X.L b->cs'[i]?=c[i]?:=λi hi=>by rw[hL] at hi;omega
 have hnew:VL B X.L X.w cs'.toList (dM m++rest):=by
  rw[hcl];refine VL.append ⟨by simp[dM],λi r x hr hx=>?_⟩ ?_
  ·rw[dM,List.getElem?_map] at hx;rw[List.getElem?_map] at hr;cases hq:m[i]? with
   | none=>rw[hq] at hr;cases hr
   | some k=>rw[hq] at hr hx;cases hr;cases hx;exact .raw _ trivial
  ·have:=hvl.drop l.length
   rwa [List.drop_left' (by rw[dM,List.length_map])] at this
 have hrow:=hg.row (cs':=cs') (n:=0) (so:=some (.box (dM m++rest))) hh hsz (by omega) hkeep (λi hi=>by
  cases hi;refine⟨by simp[WS.row],_,_,setRow_heap X.w b c cs' Ty (0,0) hh,?_⟩;exact⟨hnew.1,λi r x hr hx=>kv hh hsz (by omega) hkeep (hnew.2 i r x hr hx)⟩)
 have hxr:Ext X (X.row b cs' 0 (some (.box (dM m++rest)))):=(Ext.refl X).row hh hsz (by omega) hkeep (.inr (by rw[hb];simp));have hw:(putRow (Value.int .i64) (Sort.ahead X.w n) b 0 (zs.mergeSort λx y=>decide (x<=y)).toArray)=(X.w.setRow b cs').drewN n:=by
  unfold putRow mapBlock World.setRow Sort.ahead World.drewN;simp only;congr 1;apply Array.ext_getElem?;intro j;by_cases hj:j=b
  ·subst hj;rw[Array.getElem?_modify,if_pos rfl,hh];have:=setRow_heap X.w j c cs' Ty (0,0) hh;unfold World.setRow at this;rw[this];rfl
  ·have:=setRow_other X.w b j cs' hj;unfold World.setRow at this;rw[this,Array.getElem?_modify,if_neg (λh=>hj h.symm)]
 have hb2:Below (X.row b cs' 0 (some (.box (dM m++rest)))).w.heap.size (X.row b cs' 0 (some (.box (dM m++rest)))).w (grow ((X.row b cs' 0 (some (.box (dM m++rest)))).w.drewN n) os):=⟨rfl,rfl,rfl,by simp[grow,World.drewN],λj hj=>by
  show ((X.row b cs' 0 (some (.box (dM m++rest)))).w.heap++os)[j]?=_;rw[Array.getElem?_append_left hj]⟩
 rw[hw];exact⟨_,rfl,{ X.row b cs' 0 (some (.box (dM m++rest))) with w:=grow ((X.row b cs' 0 (some (.box (dM m++rest)))).w.drewN n) os },.tup [],rfl,xG hrow hb2 T.some,hxr.trans (oE hrow hb2),.tup [] [] rfl (λi r c h=>by simp at h),rfl,m,hm2,hsrt,rfl⟩
theorem Fy (t:Tag)(ht:t.cap=.nil)(st:ISt):ICall prog gl 164 [.sl t []] st (λr st'=>r=.tup []/\st'=st):=by
 intro B X rs hg hst hv;obtain⟨r0,rfl⟩:∃r0,rs=[r0]:=by
  match rs,hv with
  | [a],_=>exact⟨a,rfl⟩
  | [],hv=>cases hv.1
  | _::_::_,hv=>cases hv.1
 obtain⟨p,cap,rfl⟩:∃p cap,r0=.slice p 0 cap:=by
  have:=hv.2 0 r0 _ rfl rfl;obtain⟨a,cap,_,_,rfl,_⟩:=je this;exact⟨a,cap,rfl⟩
 refine Calls.mono (AnyM.slices_Sort_int_none nX p cap X.w) ?_;rintro e w' ⟨rfl,rfl⟩;exact⟨_,rfl,X,.tup [],rfl,hg,Ext.refl X,.tup [] [] rfl (λi r c h=>by simp at h),rfl,hst⟩
end Go.Proofs.Tryz
namespace Go.Proofs.Tryz
open Go Go.Iv
set_option maxRecDepth 4000
variable (gl:Nat->Option IV)
theorem fI (l:List Nat):(dM l).length=l.length:=by simp[dM]
theorem kL {l:List Nat}{i n:Nat}(h:l[i]?=some n):(dM l)[i]?=some (.raw (.int .i64 (n:Int))):=by simp[dM,h]
theorem NZ (l:List Nat)(k:Nat):(dM l).take k=dM (l.take k):=by simp[dM,List.map_take]
theorem zp (l m:List Nat):dM (l++m)=dM l++dM m:=by simp[dM]
theorem rd1 {m:List Nat}{rest cs:List IV}{i n:Nat}(h:m[i]?=some n)(hc:cs[i]?=(dM m++rest)[i]?):cs[i]?=some (.raw (.int .i64 (n:Int))):=by
 rw[hc,List.getElem?_append_left (by rw[fI];exact (lGs h).1),kL h]
theorem st1_ {cs l:List IV}{k n:Nat}(hl:l.length=n)(h:k+n<=cs.length):(fB cs k l).length=cs.length/\(fB cs k l).take k=cs.take k/\(fB cs k l).take (k+n)=cs.take k++l/\∀i,k+n<=i->(fB cs k l)[i]?=cs[i]?:=by
 have h1:(cs.take k).length=k:=by rw[List.length_take];omega
 have h2:(cs.take k++l).length=k+n:=by rw[lLa,h1,hl]
 unfold fB;refine⟨?_,?_,List.take_left' h2,λi hi=>?_⟩
 ·rw[lLa,h2,List.length_drop,hl];omega
 ·rw[List.append_assoc,List.take_left' h1]
 ·rw[List.getElem?_append_right (by omega),h2,List.getElem?_drop,hl];congr 1;omega
theorem Fz (m:List Nat)(rest:List IV)(hlen:m.length<=1099511627776)(g cap:Nat)(hcap:m.length<=cap)(st:ISt)(hb:st g=some (.box (dM m++rest))) :
  ICall prog gl 165 [.raw (.slice (some ⟨g,0,none⟩) m.length cap)] st
   (λr st'=>∃cs,r=.raw (.slice (some ⟨g,0,none⟩) (ddN m).length cap)/\st'=st.put g (some (.box cs))/\cs.length=(dM m++rest).length/\cs.take (ddN m).length=dM (ddN m)/\(ddN m).length<=m.length):=by
 have hput:st.put g (some (.box (dM m++rest)))=st:=jo hb;have same:ddN m=m->∃cs,IV.raw (.slice (some ⟨g,0,none⟩) m.length cap)=.raw (.slice (some ⟨g,0,none⟩) (ddN m).length cap)/\st=st.put g (some (.box cs))/\cs.length=(dM m++rest).length/\cs.take (ddN m).length=dM (ddN m)/\(ddN m).length<=m.length:=by
  intro hk;rw[hk];exact⟨_,rfl,hput.symm,rfl,by rw[List.take_left' (fI m)],Nat.le_refl _⟩
 refine ICall.intro (c:=cf prog gl [19,24,38,43] []) func165 rfl (by show _<=61;simp) (by kernel_rfl) ?_;by_cases h2:m.length<2
 ·have d2:decide (((m.length:Nat):Int)<2)=true:=dEt (by omega);simp only[go_sem,reduceCtorEq,d2];refine c_ (same ?_)
  match m,h2 with
  | [],_=>rfl
  | [a],_=>rfl
 ·have d2:decide (((m.length:Nat):Int)<2)=false:=dEf (by omega);simp only[go_sem,reduceCtorEq,d2];refine dj (m.length-1) (λc fr st' ds=>ddN (m.take (c+1))=m.take (c+1)/\fr 0=.iv (.raw (.slice (some ⟨g,0,none⟩) m.length cap))/\fr 3=.iv (.raw (.int .i64 ((c+1:Nat):Int)))/\st'=st/\ds=[]) ?_ ?_ ?_
  ·simp only[go_sem,reduceCtorEq];refine⟨?_,rfl⟩
   match m,h2 with
   | [],h=>exact absurd (show 0<2 by decide) h
   | [a],h=>exact absurd (show 1<2 by decide) h
   | a::b::l,_=>rfl
  ·rintro c fr st1 _ hlt ⟨hd,f0,f3,rfl,rfl⟩;have hlt':c+1<m.length:=by omega
   obtain⟨a,ha⟩:=dB (l:=m) (k:=c) (by omega);obtain⟨b,hbm⟩:=dB hlt';have rx:=rd1 (rest:=rest) ha rfl;have ry:=rd1 (rest:=rest) hbm rfl;have hw:IntKind.i64.wrap (((c+1:Nat):Int)-1)=(c:Nat):=by rw[w64 (by omega) (by omega)];omega
   have hds:=Fi ha hbm;by_cases he:b=a
   ·rw[if_pos he,List.append_nil,hd] at hds;have hcne:¬ cap=c+1:=by omega
    simp only[go_sem,zE,reduceCtorEq,f0,f3,lt_i hlt',hw,hlt',show c<m.length by omega,iNn,Nat.mul_one,hb,rx,ry,dEt (show (b:Int)=a by omega),uN (show c+1<=m.length by omega),hcap,hcne];refine dj (m.length-(c+1)-1) (λj fr st' ds=>(∃k cs,fr 3=.iv (.raw (.int .i64 ((k:Nat):Int)))/\st'=st1.put g (some (.box cs))/\cs.length=(dM m++rest).length/\k=(ddN (m.take (c+1+j+1))).length/\cs.take k=dM (ddN (m.take (c+1+j+1)))/\k<=c+1+j/\∀i,c+1+j<=i->cs[i]?=(dM m++rest)[i]?) /\
     fr 0=.iv (.raw (.slice (some ⟨g,0,none⟩) m.length cap))/\fr 4=.iv (.raw (.slice (some ⟨g,c+1,none⟩) (m.length-(c+1)) (cap-(c+1))))/\fr 5=.iv (.raw (.int .i64 ((j+1:Nat):Int)))/\ds=[]) ?_ ?_ ?_
    ·simp only[go_sem,zE,reduceCtorEq];refine⟨⟨c+1,dM m++rest,f3,(jo hb).symm,rfl,?_,?_,Nat.le_refl _,λ_ _=>rfl⟩,f0,rfl⟩
     ·rw[hds,List.length_take];omega
     ·rw[hds,List.take_append_of_le_length (by rw[fI];omega),NZ]
    ·rintro j fr st2 _ hj ⟨⟨k,cs,f3,rfl,hcl,hkl,hct,hk,hcs⟩,f0,f4,f5,rfl⟩;obtain⟨a',ha'⟩:=dB (l:=m) (k:=c+1+j) (by omega);obtain⟨b',hb'⟩:=dB (l:=m) (k:=c+1+j+1) (by omega);have rx':=rd1 ha' (hcs _ (Nat.le_refl _));have ry':=rd1 hb' (hcs _ (by omega));have hw':IntKind.i64.wrap (((j+1:Nat):Int)-1)=(j:Nat):=by rw[w64 (by omega) (by omega)];omega
     have o2:c+1+(j+1)=c+1+j+1:=by omega
     have hj1:j+1<m.length-(c+1):=by omega
     have hj0:j<m.length-(c+1):=by omega
     have hds':=Fi ha' hb';by_cases he':b'=a'
     ·rw[if_pos he',List.append_nil] at hds';simp only[go_sem,zE,reduceCtorEq,f0,f3,f4,f5,lt_i hj1,hj0,hj1,hw',iNn,Nat.mul_one,b_,o2,rx',ry',dEt (show (b':Int)=a' by omega),dC hj1 (show m.length-(c+1)<=281474976710656 by omega)];exact⟨k,cs,rfl,rfl,hcl,by rw[hds'];exact hkl,by rw[hds'];exact hct,by omega,λi hi=>hcs i (by omega)⟩
     ·rw[if_neg he'] at hds';have hkm:k<m.length:=by omega
      have hml:m.length<=cs.length:=by rw[hcl,lLa,fI];omega
      have hk1:k+1<=cs.length:=by omega
      obtain⟨s1,s2,s3,s4⟩:=st1_ (n:=1) (l:=[.raw (.int .i64 (b':Int))]) rfl hk1;simp only[go_sem,zE,reduceCtorEq,f0,f3,f4,f5,lt_i hj1,hj0,hj1,hw',iNn,Nat.mul_one,b_,o2,rx',ry',dEf (show ¬ (b':Int)=a' by omega),hkm,hk1,dC hkm (show m.length<=281474976710656 by omega),dC hj1 (show m.length-(c+1)<=281474976710656 by omega)];refine⟨k+1,fB cs k [.raw (.int .i64 (b':Int))],rfl,by rw[eN];rfl,s1.trans hcl,?_,?_,by omega,λi hi=>?_⟩
      ·rw[hds',lLa,<- hkl];rfl
      ·rw[hds',s3,hct,zp];rfl
      ·exact (s4 i (by omega)).trans (hcs i (by omega))
    ·rintro fr st2 _ ⟨⟨k,cs,f3,rfl,hcl,hkl,hct,hk,hcs⟩,f0,f4,f5,rfl⟩;have hkm:k<m.length:=by omega
     have hck:¬ cap=k:=by omega
     have hmk:¬ m.length-k=0:=by omega
     have hlen4:m.length<=cs.length:=by rw[hcl,lLa,fI];omega
     have hk4:k+(m.length-k)<=cs.length:=by omega
     obtain⟨s1,s2,s3,s4⟩:=st1_ (cs:=cs) (k:=k) (l:=List.replicate (m.length-k) .junk) (List.length_replicate ..) hk4;rw[show m.length-(c+1)-1+1=m.length-(c+1) by omega] at f5;simp only[go_sem,zE,reduceCtorEq,f0,f3,f4,f5,dF (nLi _),uN (show k<=m.length by omega),yZ (show k<=cap by omega),hcap,hck,hmk,b_,hk4,ite_self,Nat.mul_one];rw[show c+1+(m.length-(c+1)-1)+1=m.length by omega,lTl] at hkl hct;subst hkl;exact c_ ⟨fB cs (ddN m).length (List.replicate (m.length-(ddN m).length) .junk),rfl,by rw[eN];rfl,s1.trans hcl,s2.trans hct,by omega⟩
   ·rw[if_neg he,hd] at hds;simp only[go_sem,zE,reduceCtorEq,f0,f3,lt_i hlt',hw,hlt',show c<m.length by omega,iNn,Nat.mul_one,hb,rx,ry,dEf (show ¬ (b:Int)=a by omega),dC hlt' (show m.length<=281474976710656 by omega)];rw[hds,dE hbm]
  ·rintro fr st1 _ ⟨hd,f0,f3,rfl,rfl⟩;rw[show m.length-1+1=m.length by omega] at hd f3;rw[lTl] at hd;simp only[go_sem,zE,reduceCtorEq,f0,f3,dF (nLi _)];exact c_ (same hd)
theorem FA (t:Tag)(ht:t.cap=.nil)(st:ISt):ICall prog gl 165 [.sl t []] st (λr st'=>(∃t',r=.sl t' []/\t'.cap=.nil)/\st'=st):=by
 obtain⟨fs,c,es⟩:=t;obtain rfl:c=.nil:=ht;refine ICall.intro (c:=cf prog gl [19,24,38,43] []) func165 rfl (by show _<=61;simp) (by kernel_rfl) ?_;simp only[go_sem,zL,reduceCtorEq,show decide (((0:Nat):Int)<2)=true from rfl];exact c_ ⟨⟨_,rfl,rfl⟩,rfl⟩
theorem N0 (n:Nat)(hn:n<=1099511627776)(st:ISt):ICall prog gl 292 [.sl ⟨true,.nil,0⟩ [],.raw (.int .i64 n)] st (λr st' =>
  (n=0/\r=.sl ⟨true,.nil,0⟩ []/\st'=st)\/(∃g cap,st g=none/\n<=cap/\r=.raw (.slice (some ⟨g,0,none⟩) 0 cap)/\st'=st.put g (some (.box (List.replicate cap .junk))))):=by
 have h1:decide ((n:Int)<0)=false:=dEf (by omega);have h2:IntKind.i64.wrap ((0:Int)-((0:Nat):Int))=0:=rfl;have h3:IntKind.i64.wrap ((n:Int)-0)=n:=w64 (by omega) (by omega);refine iI func292 ?_;by_cases hz:n=0
 ·subst hz;simp only[go_sem,zE,zL,reduceCtorEq,h1,h2,h3,show decide ((0:Int)<((0:Nat):Int))=false from rfl];refine c_ (.inl ?_);simp
 ·have h4:decide ((0:Int)<(n:Int))=true:=dEt (by omega);simp only[go_sem,zE,zL,reduceCtorEq,h1,h2,h3,h4,yU,Ew];refine fJ ⟨rfl,by omega,by show (n:Int)*8<=_;omega,by omega,by decide⟩ λg cap=>d_ λhg=>?_;obtain⟨hg,hc⟩:=hg;rw[Int.toNat_natCast] at hc;simp only[go_sem,zE,zL,reduceCtorEq,Int.toNat_natCast,Ey,ite_self,Nat.mul_one,hc];exact c_ (.inr ⟨g,cap,hg,hc,rfl,rfl⟩)
theorem FB {y:IV}(h:fits false 1 y=true):y.cells.length=1:=(lA h).2.1
theorem N1 {l:List IV}(h:∀y∈l,fits false 1 y=true):(l.flatMap IV.cells).length=l.length:=(gD l λx hx=>FB (h x hx)).trans (Nat.mul_one _)
theorem N2 (l:List (Tag×List IV))(tt:Tag)(htt:okEs tt 1)(hfit:∀p∈l,∀y∈p.2,fits false 1 y=true)(hlen:(catL l).length<=1099511627776)(st:ISt) :
  ICall prog gl 246 [.sl tt (catI l)] st (λr st'=>(∃t,r=.sl t []/\t.cap=.nil/\catL l=[]/\st'=st) \/
   ∃g cap cs,st g=none/\(catL l).length<=cap/\cap<=cs.length/\cs.take ((catL l).length)=(catL l).flatMap IV.cells/\r=.raw (.slice (some ⟨g,0,none⟩) (catL l).length cap)/\st'=st.put g (some (.box cs))):=by
 have hli:(catI l).length=l.length:=by simp[catI]
 have hfc:∀y∈catL l,fits false 1 y=true:=λy hy=>by
  obtain⟨p,hp,hy⟩:=List.mem_flatMap.1 hy;exact hfit p hp y hy
 refine iI func246 ?_;simp only[go_sem,reduceCtorEq,hli];intro hl;refine dj l.length (λk fr st' ds=>fr 0=.iv (.sl tt (catI l))/\fr 3=.iv (.raw (.int .i64 (catL (l.take k)).length))/\fr 9=.iv (.sl tt (catI l))/\fr 10=.iv (.raw (.int .i64 l.length))/\fr 11=.iv (.raw (.int .i64 k))/\st'=st/\ds=[]) ?_ ?_ ?_
 ·simp only[go_sem,zE,reduceCtorEq];simp[catL]
 ·rintro k fr st1 _ hlt ⟨f0,f3,f9,f10,f11,rfl,rfl⟩;obtain⟨p,hp⟩:=dB hlt;have h1:=nR l k;have h2:=nR l (k+1);rw[j8 hp,lLa] at h2;have h3:IntKind.i64.wrap ((((catL (l.take k)).length:Nat):Int)+((p.2.length:Nat):Int))=((catL (l.take (k+1))).length:Nat):=by
   rw[w64 (by omega) (by omega),j8 hp,lLa];omega
  have h4:decide ((((catL (l.take (k+1))).length:Nat):Int)<0)=false:=dEf (by omega);simp only[go_sem,zE,f3,f9,f10,f11,lt_i hlt,dz htt,iNn,qc hp,fits,h3];intro hpl;simp only[go_sem,zE,reduceCtorEq,h3,h4,f0,f9,f10,f11,dC hlt (show l.length<=281474976710656 by omega)]
 ·rintro fr st1 _ ⟨f0,f3,f9,f10,f11,rfl,rfl⟩;rw[lTl] at f3;simp only[go_sem,zE,zA,f3,f10,f11,dF (nLi _)];refine (N0 gl (catL l).length hlen _).mono ?_;have loop:∀(I:Nat->IV->ISt->Prop),True:=λ_=>trivial;rintro r st2 (⟨hz,rfl,rfl⟩|⟨g,cap,hg,hcap,rfl,rfl⟩)
  ·have hnil:catL l=[]:=List.eq_nil_of_length_eq_zero hz;simp only[go_sem,reduceCtorEq,f0,hli];intro _;refine dj l.length (λk fr st' ds=>(∃t,fr 6=.iv (.sl t [])/\t.cap=.nil)/\fr 25=.iv (.sl tt (catI l))/\fr 26=.iv (.raw (.int .i64 l.length))/\fr 27=.iv (.raw (.int .i64 k))/\st'=st2/\ds=[]) ?_ ?_ ?_
   ·simp only[go_sem,zE];exact⟨⟨_,rfl,rfl⟩,rfl⟩
   ·rintro k fr st1 _ hlt ⟨⟨t,f6,ht⟩,f25,f26,f27,rfl,rfl⟩;obtain⟨p,hp⟩:=dB hlt;have hp0:p.2=[]:=by
     have:=j8 hp;have h2:=nR l (k+1);rw[this,lLa,hnil,List.length_nil] at h2;exact List.eq_nil_of_length_eq_zero (by omega)
    obtain⟨fs,c,es⟩:=t;obtain rfl:c=.nil:=ht;simp only[go_sem,zE,zA,zM,zL,f6,f25,f26,f27,lt_i hlt,dz htt,iNn,qc hp,fits,hp0,dC hlt (show l.length<=281474976710656 by omega)];exact⟨_,rfl,rfl⟩
   ·rintro fr st1 _ ⟨⟨t,f6,ht⟩,f25,f26,f27,rfl,rfl⟩;simp only[go_sem,zE,f6,f26,f27,dF (nLi _)];exact c_ (.inl ⟨_,rfl,ht,hnil,rfl⟩)
  ·simp only[go_sem,reduceCtorEq,f0,hli];intro _;refine dj l.length (λk fr st' ds=>(∃g cap cs,st1 g=none/\(catL (l.take k)).length<=cap/\cap<=cs.length/\cs.take ((catL (l.take k)).length)=(catL (l.take k)).flatMap IV.cells/\fr 6=.iv (.raw (.slice (some ⟨g,0,none⟩) (catL (l.take k)).length cap))/\st'=st1.put g (some (.box cs)))/\fr 25=.iv (.sl tt (catI l))/\fr 26=.iv (.raw (.int .i64 l.length))/\fr 27=.iv (.raw (.int .i64 k))/\ds=[]) ?_ ?_ ?_
   ·simp only[go_sem,zE];exact⟨⟨g,cap,_,hg,by simp[catL],by simp,by simp[catL],by simp[catL],rfl⟩,rfl⟩
   ·rintro k fr st' _ hlt ⟨⟨g,cap,cs,hg,hc1,hc2,hc3,f6,rfl⟩,f25,f26,f27,rfl⟩;obtain⟨p,hp⟩:=dB hlt;have h2:=nR l (k+1);rw[j8 hp,lLa] at h2;have hpf:=hfit p (lMg hp);simp only[go_sem,zE,zA,f6,f25,f26,f27,lt_i hlt,dz htt,iNn,qc hp,fits];refine kU _ _ _ (b_ ..) (List.all_eq_true.2 hpf) ⟨by show _*8<=_;omega,by omega⟩ ⟨hc1,by simp only[Nat.mul_one];exact hc2⟩ ((N1 hpf).trans (Nat.mul_one _).symm) ?_;intro g' cap' cs' hg' k1 k2 k3;simp only[Nat.mul_one] at k2 k3;simp only[go_sem,zE,f25,f26,f27,dC hlt (show l.length<=281474976710656 by omega)];have hst':((st1.put g (some (.box cs))).put g none).put g' (some (.box cs'))=st1.put g' (some (.box cs')):=by
     funext c;simp only[ISt.put_apply];split
     ·rfl
     ·split
      ·subst_vars;exact hg.symm
      ·rfl
    have hg1:st1 g'=none:=by
     rcases hg' with rfl|h
     ·exact hg
     ·rw[ISt.put_apply] at h;split at h
      ·cases h
      ·exact h
    refine⟨g',cap',cs',hg1,?_,k2,?_,?_,hst'⟩
    ·rw[j8 hp,lLa];exact k1
    ·rw[j8 hp,lLa,List.flatMap_append,<- hc3];exact k3
    ·rw[j8 hp,lLa]
   ·rintro fr st' _ ⟨⟨g,cap,cs,hg,hc1,hc2,hc3,f6,rfl⟩,f25,f26,f27,rfl⟩;rw[lTl] at *;simp only[go_sem,zE,f6,f26,f27,dF (nLi _)];exact c_ (.inr ⟨g,cap,cs,hg,hc1,hc2,hc3,rfl,rfl⟩)
theorem FC (n:Nat):Int.fdiv (n:Int) (2 ^ min (Int.toNat 1) 64)=((n / 2:Nat):Int):=by
 rw[show (2:Int) ^ min (Int.toNat 1) 64=((2:Nat):Int) from rfl];exact (Int.ofNat_fdiv n 2).symm
theorem FD {a b n:Nat}(h:a<=b)(hn:b<=n)(hl:n<=1099511627776):IntKind.u64.wrap (IntKind.i64.wrap ((a:Int)+(b:Int)))=((a+b:Nat):Int)/\IntKind.i64.wrap (((a+b) / 2:Nat):Int)=(((a+b) / 2:Nat):Int):=by
 have h1:IntKind.i64.wrap ((a:Int)+(b:Int))=((a+b:Nat):Int):=by rw[w64 (by omega) (by omega)];omega
 rw[h1];exact⟨IntWalk.u64_in _ (by omega),w64 (by omega) (by omega)⟩
theorem N3 (W:List Fm)(tg:Tag)(xs:List IV)(htg:okEs tg 4)(hx:IsFms W xs)(hW:Srt W)(hlen:W.length<=1099511627776)(f:Fm)(y:IV)(hy:IsFm f y)(st:ISt) :
  ICall prog gl 163 [.sl tg xs,y,.fn (.func 111) [] []] st
   (λr st'=>(∃(i:Nat) (b:Bool),r=.tup [.raw (.int .i64 (i:Int)),.raw (.bool b)]/\(b=true↔f∈W)/\(b=true->W[i]?=some f))/\st'=st):=by
 have hcall:=λa x hx st=>uD gl a f x y hx hy st;obtain⟨y1,y2,y3,y4,y5,y6,rfl⟩:=hy.agg;have hxl:=hx.len;have c1:=λn:Int=>l7 prog 3 243 l_ tO .i64 n;have c2:=λn:Int=>l7 prog 243 3 tO l_ .u64 n;refine iI func163 ?_;simp only[go_sem,zE,reduceCtorEq,hxl];intro _;refine LoopC.dec W.length (λm fr st' ds=>(∃lo hi,m=hi-lo/\lo<=hi/\hi<=W.length/\(∀k a,k<lo->W[k]?=some a->eB a f<0)/\(∀k a,hi<=k->W[k]?=some a->¬ eB a f<0)/\fr 9=.iv (.raw (.int .i64 (lo:Int)))/\fr 10=.iv (.raw (.int .i64 (hi:Int))))/\fr 0=.iv (.sl tg xs)/\fr 2=.iv (.fn (.func 111) [] []) /\
  fr 4=.box [.raw (.int .u8 y1),.raw (.string y2),.sl y3 y4,.sl y5 y6]/\fr 8=.iv (.raw (.int .i64 W.length))/\st'=st/\ds=[]) ?_ ?_
 ·simp only[go_sem,zE,reduceCtorEq];refine⟨0,W.length,by omega,by omega,by omega,λk a hk=>absurd hk (by omega),λk a hk ha=>?_,rfl,rfl⟩;have:=(lGs ha).1;omega
 ·rintro m fr st1 _ ⟨⟨lo,hi,hm,hlh,hhn,h1,h2,f9,f10⟩,f0,f2,f4,f8,rfl,rfl⟩;by_cases hlt:lo<hi
  ·obtain⟨hm1,hm2⟩:=FD hlh hhn hlen;obtain⟨a,ha⟩:=dB (l:=W) (k:=(lo+hi) / 2) (by omega);obtain⟨x,hkx,hxa⟩:=hx.get ha;obtain⟨x1,x2,x3,x4,x5,x6,rfl⟩:=hxa.agg;simp only[go_sem,zE,zB,zA,zL,reduceCtorEq,f0,f2,f4,f9,f10,lt_i hlt,c1,c2,show ((0:Int)<=1)=True from eq_true (by omega),FC,hm1,hm2,dz htg,iNn,hkx,fits];refine (hcall a _ hxa _).mono ?_;rintro _ _ ⟨rfl,rfl⟩;by_cases hc:eB a f<0
   ·simp only[go_sem,zE,reduceCtorEq,f0,f2,f4,f8,f10,dEt hc,dC (show (lo+hi) / 2<W.length by omega) (show W.length<=281474976710656 by omega)];refine⟨hi-((lo+hi) / 2+1),by omega,(lo+hi) / 2+1,hi,rfl,by omega,hhn,λk b hk hb=>?_,h2,rfl,rfl⟩;rcases Nat.lt_or_ge k ((lo+hi) / 2) with h|h
    ·exact oI _ _ _ (qh hW hb ha h) hc
    ·obtain rfl:k=(lo+hi) / 2:=by omega
     rw[ha] at hb;cases hb;exact hc
   ·simp only[go_sem,zE,reduceCtorEq,f0,f2,f4,f8,f9,dEf hc];refine⟨(lo+hi) / 2-lo,by omega,lo,(lo+hi) / 2,rfl,by omega,by omega,h1,λk b hk hb=>?_,rfl,rfl⟩;rcases Nat.lt_or_ge ((lo+hi) / 2) k with h|h
    ·exact λhbf=>hc (oI _ _ _ (qh hW ha hb h) hbf)
    ·obtain rfl:k=(lo+hi) / 2:=by omega
     rw[ha] at hb;cases hb;exact hc
  ·obtain rfl:lo=hi:=by omega
   have hfind:∀k,W[k]?=some f->k=lo:=λk hk=>by
    rcases Nat.lt_trichotomy k lo with h|h|h
    ·exact absurd (h1 k f h hk) (p9 f)
    ·exact h
    ·obtain⟨b,hb⟩:=dB (l:=W) (k:=lo) (by have:=(lGs hk).1;omega);exact absurd (qh hW hb hk h) (h2 lo b (Nat.le_refl _) hb)
   have hmem:f∈W↔W[lo]?=some f:=⟨λh=>by
    obtain⟨k,hk⟩:=List.mem_iff_getElem?.1 h
    rwa [hfind k hk] at hk,lMg⟩
   by_cases hln:lo<W.length
   ·obtain⟨a,ha⟩:=dB hln;obtain⟨x,hkx,hxa⟩:=hx.get ha;obtain⟨x1,x2,x3,x4,x5,x6,rfl⟩:=hxa.agg;simp only[go_sem,zE,zB,zA,zL,reduceCtorEq,f0,f2,f4,f8,f9,f10,dF (nLi _),lt_i hln,dz htg,iNn,hkx,fits];refine (hcall a _ hxa _).mono ?_;rintro _ _ ⟨rfl,rfl⟩;by_cases hc:eB a f=0
    ·simp only[go_sem,zE,dEt hc];refine c_ ⟨⟨lo,true,rfl,⟨λ_=>?_,λ_=>rfl⟩,λ_=>?_⟩,rfl⟩
     ·rw[hmem,ha,(j6 a f).1 hc]
     ·rw[ha,(j6 a f).1 hc]
    ·simp only[go_sem,zE,dEf hc];refine c_ ⟨⟨lo,false,rfl,⟨nofun,λh=>?_⟩,nofun⟩,rfl⟩;rw[hmem,ha] at h;cases h;exact absurd ((j6 _ _).2 rfl) hc
   ·simp only[go_sem,zE,f8,f9,f10,dF (nLi _),dF hln];refine c_ ⟨⟨lo,false,rfl,⟨nofun,λh=>?_⟩,nofun⟩,rfl⟩;rw[hmem] at h;exact absurd (lGs h).1 hln
theorem FG (l:List Nat):(dM l).flatMap IV.cells=dM l:=by
 induction l with
 | nil=>rfl
 | cons a l ih =>
  show IV.cells _++(dM l).flatMap IV.cells=_;rw[ih];rfl
theorem zr (l:List Nat):∀y∈dM l,fits false 1 y=true:=λy hy=>by
 obtain⟨n,_,rfl⟩:=List.mem_map.1 hy;simp[fits,IV.one]
def uV (l:List Nat)(st:ISt)(r:IV)(st':ISt):Prop:=(∃t,r=.sl t (dM l)/\okEs t 1)/\st'=st
theorem FH {f:FuncId}{args:List IV}{l:List Nat}{st:ISt}(hl:l.length<=140737488355328)
  (h:ICall prog gl f args st (λr st'=>uV l st r st'\/∃g cap cs,st g=none/\r=.raw (.slice (some ⟨g,0,none⟩) l.length cap)/\st'=st.put g (some (.box cs))/\l.length<=cap/\cap<=cs.length/\cs.take l.length=dM l)):ICall prog gl f args st (uV l st):=by
 refine rX (h.mono λr st' hr=>?_);rcases hr with hr|⟨g,cap,cs,h1,rfl,rfl,h2,h3,h4⟩
 ·exact .inl hr
 ·exact .inr ⟨g,l.length,cap,cs,1,dM l,h1,rfl,rfl,fI l,hl,h2,by omega,by rw[Nat.mul_one,h4,FG],λz hz=>FB (zr l z hz),⟨_,rfl,.inr rfl⟩,rfl⟩
theorem FI (T:Gt gl)(a b:List Nat)(ta tb:Tag)(hta:okEs ta 1)(htb:okEs tb 1)(hl:a.length+b.length<=1000000)(st:ISt) :
  ICall prog gl 215 [.sl ta (dM a),.sl tb (dM b)] st (uV (sdN (a++b)) st):=by
 have hsl:=r_ (a++b);rw[lLa] at hsl;have hcat:catL [(ta,dM a),(tb,dM b)]=dM (a++b):=by simp[catL,zp]
 have hcl:(catL [(ta,dM a),(tb,dM b)]).length=(a++b).length:=by rw[hcat,fI]
 refine FH gl (by omega) ?_;refine iI func215 ?_;simp only[go_sem,zE,zA,zM,zL,reduceCtorEq,fits];refine fJ rfl ?_;refine (N2 gl [(ta,dM a),(tb,dM b)] _ (.inr rfl) (λp hp y hy=>?_) (by rw[hcl,lLa];omega) _).mono ?_
 ·rcases List.mem_cons.1 hp with rfl|hp
  ·exact zr a y hy
  ·obtain rfl:=List.mem_singleton.1 hp;exact zr b y hy
 ·rintro _ _ (⟨t,rfl,ht,hn,rfl⟩|⟨g,cap,cs,hg,h1,h2,h3,rfl,rfl⟩)
  ·have hab:a++b=[]:=List.eq_nil_of_length_eq_zero (by rw[<- hcl,hn];rfl);rw[hab];simp only[go_sem,zA];refine (Fy gl t ht _).mono ?_;rintro _ _ ⟨rfl,rfl⟩;simp only[go_sem,zE,zA];refine (FA gl t ht _).mono ?_;rintro _ _ ⟨⟨t',rfl,ht'⟩,rfl⟩;simp only[go_sem];exact c_ (.inl ⟨⟨t',rfl,.inl ht'⟩,rfl⟩)
  ·rw[hcl] at h1 h3;rw[hcat,FG] at h3;rw[hcl];have hcs:cs=dM (a++b)++cs.drop (a++b).length:=by rw[<- h3,List.take_append_drop]
   have hsort:=Fx gl T (a++b) (cs.drop (a++b).length) g cap (st.put g (some (.box cs))) (by rw[lLa];omega) (by rw[b_,<- hcs]);simp only[go_sem,zA];refine hsort.mono ?_;rintro _ _ ⟨rfl,m,hp,hs,rfl⟩;have hml:=hp.length_eq;have hcom:=Fz gl m (cs.drop (a++b).length) (by rw[hml,lLa];omega) g cap (by rw[hml];exact h1) ((st.put g (some (.box cs))).put g (some (.box (dM m++cs.drop (a++b).length)))) (b_ ..);rw[hml] at hcom;simp only[go_sem,zE,zA];refine hcom.mono ?_;rintro _ _ ⟨cs2,rfl,rfl,hl2,ht2,hk2⟩;rw[Fl hp hs] at ht2 hk2 ⊢;rw[eN,eN];simp only[go_sem];refine c_ (.inr ⟨g,cap,cs2,hg,rfl,rfl,by omega,?_,ht2⟩);rw[hl2,lLa,fI,List.length_drop,hml];omega
def OwnI (st:ISt)(l:List Nat)(x:IV)(st':ISt):Prop:=(l=[]/\x=.sl ⟨true,.nil,0⟩ []/\st'=st) \/
 ∃g cap cs,l≠[]/\st g=none/\l.length<=cap/\cap<=cs.length/\cs.take l.length=dM l/\x=.raw (.slice (some ⟨g,0,none⟩) l.length cap)/\st'=st.put g (some (.box cs))
theorem N4 {st:ISt}{g g':Nat}{o o':Option IObj}(hg:st g=none):((st.put g o).put g none).put g' o'=st.put g' o':=by
 funext c;simp only[ISt.put_apply];split
 ·rfl
 ·split
  ·subst_vars;exact hg.symm
  ·rfl
theorem N5 {st:ISt}{g g':Nat}{o:Option IObj}(hg:st g=none)(h:g'=g\/(st.put g o) g'=none):st g'=none:=by
 rcases h with rfl|h
 ·exact hg
 ·rw[ISt.put_apply] at h;split at h
  ·rename_i h';rw[h'];exact hg
  ·exact h
abbrev spI (ca:Nat)(tw:Tag)(xw:List IV)(m:Nat):IV:=.cptr (.agg [.raw (.int .u8 (ca:Int)),.sl tw xw,.raw (.map (some m))])
theorem FJ (T:Gt gl)(ca m:Nat)(W:List Fm)(tw:Tag)(xw:List IV)(htw:okEs tw 4)(hxw:IsFms W xw)(hW:Srt W)(sd:W.length<=1000000)(l:List Fm)(tg:Tag)(xs:List IV)(htg:okEs tg 4)(hx:IsFms l xs)(hl:l.length<=1000000)(hin:∀f∈l,f∈W)(st:ISt) :
  ICall prog gl 124 [spI ca tw xw m,.sl tg xs] st (uV (lS W l) st):=by
 have hnl:(lS W l).length<=l.length:=by
  have:=r_ (l.map (noW W))
  rwa [List.length_map] at this
 refine FH gl (by omega) ?_;refine ICall.intro (c:=cf prog gl [29] []) func124 rfl (by show _<=35;simp) (by kernel_rfl) ?_;simp only[go_sem,zE,hx.len];intro _;refine dj l.length (λk fr st' ds=>(∃x,fr 5=.iv x/\OwnI st ((l.take k).map (noW W)) x st')/\fr 0=.iv (spI ca tw xw m)/\fr 10=.iv (.sl tg xs)/\fr 11=.iv (.raw (.int .i64 l.length))/\fr 12=.iv (.raw (.int .i64 (k:Int)))/\ds=[]) ?_ ?_ ?_
 ·simp only[go_sem,zE,reduceCtorEq];exact⟨⟨_,rfl,.inl ⟨rfl,rfl,rfl⟩⟩,rfl⟩
 ·rintro k fr st1 _ hlt ⟨⟨x,f5,hox⟩,f0,f10,f11,f12,rfl⟩;obtain⟨a,ha⟩:=dB hlt;obtain⟨y,hky,hya⟩:=hx.get ha;have haW:=hin a (lMg ha);have hcall:=λst=>N3 gl W tw xw htw hxw hW (by omega) a y hya st;obtain⟨y1,y2,y3,y4,y5,y6,rfl⟩:=hya.agg;simp only[go_sem,zE,zB,zA,zL,reduceCtorEq,f0,f10,f11,f12,lt_i hlt,dz htg,iNn,hky,fits];refine (hcall _).mono ?_;rintro _ st2 ⟨⟨i,b,rfl,hb1,hb2⟩,rfl⟩;obtain rfl:b=true:=hb1.2 haW;have hi:=NV hW (hb2 rfl);have htk:(l.take (k+1)).map (noW W)=(l.take k).map (noW W)++[i]:=by rw[dE ha,List.map_append,<- hi];rfl
  have hkl:((l.take k).map (noW W)).length=k:=by rw[List.length_map,List.length_take];omega
  rcases hox with⟨h0,rfl,rfl⟩|⟨g,cap,cs,h0,hg,h1,h2,h3,rfl,rfl⟩
  ·simp only[go_sem,zE,zA,zM,zL,f5,fits,dW];intro g cap;refine d_ λhg=>?_;obtain⟨hg,hcap⟩:=hg;simp only[go_sem,zE,reduceCtorEq,f0,f10,f11,f12,dC hlt (show l.length<=281474976710656 by omega)];refine⟨_,rfl,.inr ⟨g,cap,_,?_,hg,?_,?_,?_,?_,rfl⟩⟩
   ·rw[htk];simp
   ·rw[htk,h0];exact hcap
   ·rw[lLa,List.length_replicate];show cap<=1+(cap-1)*1;omega
   ·rw[htk,h0];rfl
   ·rw[htk,h0];rfl
  ·simp only[go_sem,zE,zA,zM,zL,f5,fits,dW];refine kU _ _ _ (b_ ..) (by simp[fits,IV.one]) ⟨by show (_+1)*8<=_;omega,by show _+1<=_;omega⟩ ⟨h1,by simpa using h2⟩ (by simp[IV.cells]) ?_;intro g' cap' cs' hg' q1 q2 q3;simp only[Nat.mul_one] at q2 q3;rw[N4 hg];simp only[go_sem,zE,reduceCtorEq,f0,f10,f11,f12,dC hlt (show l.length<=281474976710656 by omega)];refine⟨_,rfl,.inr ⟨g',cap',cs',?_,N5 hg hg',?_,q2,?_,?_,rfl⟩⟩
   ·rw[htk];simp
   ·rw[htk,lLa];exact q1
   ·rw[htk,lLa,zp,<- h3];exact q3
   ·rw[htk,lLa];rfl
 ·rintro fr st1 _ ⟨⟨x,f5,hox⟩,f0,f10,f11,f12,rfl⟩;rw[lTl] at hox;rcases hox with⟨h0,rfl,rfl⟩|⟨g,cap,cs,h0,hg,h1,h2,h3,rfl,rfl⟩
  ·have hn:lS W l=[]:=by unfold lS;rw[h0];rfl
   rw[hn];simp only[go_sem,zE,zA,f5,f11,f12,dF (nLi _)];refine (Fy gl _ rfl _).mono ?_;rintro _ _ ⟨rfl,rfl⟩;simp only[go_sem,zE,zA,f5];refine (FA gl _ rfl _).mono ?_;rintro _ _ ⟨⟨t',rfl,ht'⟩,rfl⟩;simp only[go_sem];exact c_ (.inl ⟨⟨t',rfl,.inl ht'⟩,rfl⟩)
  ·have hml0:(l.map (noW W)).length=l.length:=List.length_map ..;have hcs:cs=dM (l.map (noW W))++cs.drop (l.map (noW W)).length:=by rw[<- h3,List.take_append_drop]
   have hsort:=Fx gl T (l.map (noW W)) (cs.drop (l.map (noW W)).length) g cap (st.put g (some (.box cs))) (by omega) (by rw[b_,<- hcs]);simp only[go_sem,zE,zA,f5,f11,f12,dF (nLi _)];refine hsort.mono ?_;rintro _ _ ⟨rfl,q,hp,hs,rfl⟩;have hml:=hp.length_eq;have hcom:=Fz gl q (cs.drop (l.map (noW W)).length) (by omega) g cap (by omega) ((st.put g (some (.box cs))).put g (some (.box (dM q++cs.drop (l.map (noW W)).length)))) (b_ ..);rw[hml] at hcom;simp only[go_sem,zE,zA,f5];refine hcom.mono ?_;rintro _ _ ⟨cs2,rfl,rfl,hl2,ht2,hk2⟩;rw[Fl hp hs] at ht2 hk2 ⊢;rw[eN,eN];simp only[go_sem];refine c_ (.inr ⟨g,cap,cs2,hg,rfl,rfl,?_,?_,ht2⟩)
   ·change (sdN (l.map (noW W))).length<=cap;omega
   ·rw[hl2,lLa,fI,List.length_drop,hml];omega
def IsLn (ln:Ln)(x:IV):Prop:=∃t1 t2,x=.agg [.sl t1 (dM ln.1),.sl t2 (dM ln.2)]/\okEs t1 1/\okEs t2 1
theorem uW (T:Gt gl)(ca m:Nat)(W:List Fm)(tw:Tag)(xw:List IV)(htw:okEs tw 4)(hxw:IsFms W xw)(hW:Srt W)(sd:W.length<=1000000)(s:Sq)(x:IV)(hx:IsSq s x)(hl:s.l.length<=1000000/\s.r.length<=1000000)(hin:InW W (s.l,s.r))(st:ISt) :
  ICall prog gl 96 [spI ca tw xw m,x] st (λr st'=>IsLn (lT W (s.l,s.r)) r/\st'=st):=by
 obtain⟨t1,x1,t2,x2,rfl,e1,i1,e2,i2⟩:=hx;have h1:=λst=>FJ gl T ca m W tw xw htw hxw hW sd s.l t1 x1 e1 i1 hl.1 hin.1 st;have h2:=λst=>FJ gl T ca m W tw xw htw hxw hW sd s.r t2 x2 e2 i2 hl.2 hin.2 st;refine ICall.intro (c:=cf prog gl [] [(1,[0,1,2,4,5,6,3,7,8,9])]) func96 rfl (by show _<=14;simp) (by kernel_rfl) ?_;simp only[go_sem,zE,zA,reduceCtorEq];refine (h1 _).mono ?_;rintro _ _ ⟨⟨t3,rfl,e3⟩,rfl⟩;simp only[go_sem,zE,zA];refine (h2 _).mono ?_;rintro _ _ ⟨⟨t4,rfl,e4⟩,rfl⟩;simp only[go_sem,zE,zA,zL,fits];exact c_ ⟨⟨t3,t4,rfl,e3,e4⟩,rfl⟩
end Go.Proofs.Tryz
namespace Go.Proofs.Tryz
open Go Go.Iv
theorem N6 {ca:Nat}(hc:ca≠3)(f:Fm):f.ok=true->opsB ca f=true->PF f:=by
 refine uC (p:=λf=>f.ok=true->opsB ca f=true->PF f) (λo n us sub ih h1 h2=>?_) f;simp only[Fm.ok,bAt] at h1;obtain⟨⟨hrow,_⟩,hok⟩:=h1;simp only[opsB,bAt,Bool.or_eq_true,dTe,if_neg hc] at h2;obtain⟨⟨⟨ho1,ho7⟩,hus⟩,hops⟩:=h2;have hus:us=[]:=List.isEmpty_iff.1 (hus.resolve_left hc);subst hus;have hsub:∀a∈sub,PF a:=by
  have key:∀l:List Fm,(∀a∈l,a∈sub)->gj l=true->gE ca l=true->∀a∈l,PF a:=λl=>by
   induction l with
   | nil=>intro _ _ _ a ha;cases ha
   | cons b l ihl =>
    intro hm h1 h2 a ha;simp only[gj,gE,bAt] at h1 h2;rcases List.mem_cons.1 ha with rfl|ha
    ·exact ih a (hm a (.head _)) h1.1 h2.1
    ·exact ihl (λx hx=>hm x (.tail _ hx)) h1.2 h2.2 a ha
  exact key sub (λ_ h=>h) hok hops
 have ho:o=1\/o=2\/o=3\/o=4\/o=5\/o=6\/o=7:=by omega
 rcases ho with rfl|rfl|rfl|rfl|rfl|rfl|rfl<;>simp only[fV,bAt,dTe] at hrow
 ·obtain rfl:sub=[]:=List.eq_nil_of_length_eq_zero hrow.2;exact .atom n
 ·obtain rfl:sub=[]:=List.eq_nil_of_length_eq_zero hrow.2;rw[hrow.1.1];exact .fls
 ·match sub,hrow.2 with
  | [a],_=>rw[hrow.1.1];exact .neg (hsub a (.head _))
 all_goals
  match sub,hrow.2 with
  | [a,b],_=>rw[hrow.1.1];exact .bin (by omega) (by omega) (hsub a (.head _)) (hsub b (.tail _ (.head _)))
theorem lU {ca:Nat}(hc:ca≠3){f:Fm}(h:fmB ca f=true):PF f:=by
 unfold fmB Fm.right at h;simp only[bAt] at h;exact N6 hc f h.1.1.1 h.2
theorem zt {ca:Nat}{n:ByteArray}{us:List Tm}{a:Fm}(h:fmB ca (.mk 3 n us [a])=true):fmB ca a=true:=by
 unfold fmB Fm.right at *;simp only[bAt,dTe,Fm.ok,gj,opsB,gE,Fm.size,dL,Fm.deep,eU] at *;obtain⟨⟨⟨⟨_,k1,_⟩,k2⟩,k3⟩,_,k4,_⟩:=h;have k2:=of_decide_eq_true k2;have k3:=of_decide_eq_true k3;exact⟨⟨⟨k1,by omega⟩,by omega⟩,k4⟩
theorem zu {ca o:Nat}(ho:o≠3/\4<=o/\o<=7){n:ByteArray}{us:List Tm}{a b:Fm}(h:fmB ca (.mk o n us [a,b])=true):fmB ca a=true/\fmB ca b=true/\fmB ca (imF a b)=true/\fmB ca (imF b a)=true:=by
 have key:∀k,fV k noN 0 2=true↔k=4\/k=5\/k=6\/k=7\/k=14:=λk=>by
  unfold fV;split<;>simp_all
 unfold fmB Fm.right at *;simp only[bAt,dTe,Fm.ok,gj,opsB,gE,Fm.size,dL,Fm.deep,eU,jf,dP,eu,List.length_cons,List.length_nil,Nat.zero_add,Nat.reduceAdd,List.isEmpty_nil,Bool.or_true] at *;have h6:fV 6 noN 0 2=true:=(key 6).2 (by omega);obtain⟨⟨⟨⟨⟨_,_⟩,k1,k2,_⟩,k3⟩,k4⟩,⟨⟨k5,k6⟩,k7⟩,k8,k9,_⟩:=h;have hle:6<=(if ca=3 then 9 else 7):=by split<;>omega
 have k3:=of_decide_eq_true k3;have k4:=of_decide_eq_true k4;exact⟨⟨⟨⟨k1,by omega⟩,by omega⟩,k8⟩,⟨⟨⟨k2,by omega⟩,by omega⟩,k9⟩,⟨⟨⟨⟨⟨h6,trivial⟩,k1,k2,trivial⟩,by omega⟩,dEt (by omega)⟩,⟨⟨by omega,hle⟩,trivial⟩,k8,k9,trivial⟩,⟨⟨⟨⟨⟨h6,trivial⟩,k2,k1,trivial⟩,by omega⟩,dEt (by omega)⟩,⟨⟨by omega,hle⟩,trivial⟩,k9,k8,trivial⟩⟩
def jk (j:Bool)(op:Nat)(r:Bool):List Nat :=
 if op=3 then (if r=true then [4] else [3]) else if op=4 then (if r=true then [6] else [5])
 else if op=5 then (if r=true then (if j=true then [8,18] else [8]) else [7]) else if op=6 then (if r=true then [10] else [9])
 else if op=7 then (if r=true then [12] else [11]) else []
abbrev calJ (ca:Nat):Bool:=decide (ca=2)
abbrev tmZ:Tm:=.mk false noN []
def sqOf (p:Sn):Sq:=⟨p.1,p.2⟩
theorem uX {ca:Nat}{f:Fm}(hf:PF f)(r:Bool):(addF (calJ ca) f r).map (·.1)=jk (calJ ca) f.op r:=by
 cases hf with
 | atom n=>simp[addF,jk,Fm.op]
 | fls=>simp[addF,jk,Fm.op]
 | neg h=>cases r<;>simp[addF,jk,Fm.op]
 | @bin o a b h4 h7 _ _ =>
  obtain rfl|rfl|rfl|rfl:o=4\/o=5\/o=6\/o=7:=by omega
  all_goals cases r<;>simp[addF,jk,Fm.op]
  by_cases h:ca=2<;>simp[h]
theorem FK {ca:Nat}(hc:ca=1\/ca=2){f:Fm}(h:fmB ca f=true){r:Bool}{t:Nat×List Sn}(ht:t∈addF (calJ ca) f r):lQ ca t.1 f tmZ noN=(t.2.map sqOf,0):=by
 have hc3:ca≠3:=by omega
 have hk:gv ca=true:=by unfold gv;rcases hc with rfl|rfl<;>rfl
 have key:∀R:Rw,rowS ca t.1=some R->f.op=R.op->R.asks=0->lQ ca t.1 f tmZ noN=(addS ca t.1 f ((f.subs[0]?).getD fm0) ((f.subs[1]?).getD fm0),0):=λR h1 h2 h3=>by
  unfold lQ;rw[hk,h1];exact yT h (.inr h2) |>.trans (by rw[if_pos h3])
 have hpf:=lU hc3 h;cases hpf with
 | atom n=>simp[addF] at ht
 | fls=>simp[addF] at ht
 | neg ha =>
  cases r<;>simp[addF] at ht<;>subst ht<;>rw[key _ (by unfold rowS;rcases hc with rfl|rfl<;>rfl) rfl rfl]<;>rfl
 | @bin o a b h4 h7 _ _ =>
  obtain rfl|rfl|rfl|rfl:o=4\/o=5\/o=6\/o=7:=by omega
  all_goals rcases hc with rfl|rfl<;>cases r<;>simp[addF,calJ] at ht
  all_goals first
   | (subst ht;rw[key _ rfl rfl rfl];rfl)
   | (rcases ht with rfl|rfl<;>(rw[key _ rfl rfl rfl];rfl))
theorem N7 {ca:Nat}(hc:ca≠3){f:Fm}(h:fmB ca f=true){j r:Bool}{t:Nat×List Sn}(ht:t∈addF j f r):∀p∈t.2,(∀g∈p.1,fmB ca g=true)/\∀g∈p.2,fmB ca g=true:=by
 have hpf:=lU hc h;cases hpf with
 | atom n=>simp[addF] at ht
 | fls=>simp[addF] at ht
 | neg ha =>
  have:=zt h;cases r<;>simp[addF] at ht<;>subst ht<;>simp[this]
 | @bin o a b h4 h7 _ _ =>
  obtain⟨k1,k2,k3,k4⟩:=zu ⟨by omega,h4,h7⟩ h;obtain rfl|rfl|rfl|rfl:o=4\/o=5\/o=6\/o=7:=by omega
  all_goals cases r<;>cases j<;>simp[addF] at ht
  all_goals first|(subst ht;simp[k1,k2,k3,k4])|(rcases ht with rfl|rfl<;>simp[k1,k2])
structure SpOk (ca:Nat)(W:List Fm):Prop where
 cal:ca=1\/ca=2
 srt:Srt W
 len:W.length<=1000000
 fm:∀f∈W,fmB ca f=true
 full:Full W
theorem SpOk.sub {ca:Nat}{W:List Fm}(h:SpOk ca W){f:Fm}(hf:f∈W){j r:Bool}{t:Nat×List Sn}(ht:t∈addF j f r){p:Sn}(hp:p∈t.2):InW W p:=h.full f hf j r t ht p hp
theorem SpOk.pf {ca:Nat}{W:List Fm}(h:SpOk ca W){f:Fm}(hf:f∈W):PF f:=lU (by have:=h.cal;omega) (h.fm f hf)
theorem SpOk.size {ca:Nat}{W:List Fm}(h:SpOk ca W){f:Fm}(hf:f∈W):f.size<=400:=by
 have:=h.fm f hf;unfold fmB Fm.right at this;simp only[bAt,dTe] at this;exact this.1.1.2
end Go.Proofs.Tryz
namespace Go.Proofs.Tryz
open Go Go.Iv
set_option maxRecDepth 4000
variable (gl:Nat->Option IV)
def u8I (l:List Nat):List IV:=l.map λ(n:Nat)=>.raw (.int .u8 (n:Int))
theorem N8 (a b:Operand):kB 2 [(0,a),(1,b)]=true:=rfl
theorem N9 (ca m:Nat)(tw:Tag)(xw:List IV)(op:Nat)(r:Bool)(st:ISt) :
  ICall prog gl 213 [spI ca tw xw m,.raw (.int .u8 (op:Int)),.raw (.bool r)] st (λx st'=>(∃t,x=.sl t (u8I (jk (calJ ca) op r))/\okEs t 1)/\st'=st):=by
 have d:∀c:Nat,decide ((op:Int)=(c:Int))=decide (op=c):=λc=>decide_eq_decide.2 (by omega);have d3:decide ((op:Int)=3)=decide (op=3):=d 3;have d4:decide ((op:Int)=4)=decide (op=4):=d 4;have d5:decide ((op:Int)=5)=decide (op=5):=d 5;have d6:decide ((op:Int)=6)=decide (op=6):=d 6;have d7:decide ((op:Int)=7)=decide (op=7):=d 7;have dc:decide ((ca:Int)=2)=calJ ca:=decide_eq_decide.2 (by omega);unfold jk;refine iI func213 ?_;by_cases h3:op=3
 ·rw[if_pos h3];cases r
  ·simp only[go_sem,zE,zM,zL,reduceCtorEq,d3,dEt h3,fits,dW];exact c_ ⟨⟨_,rfl,.inr rfl⟩,rfl⟩
  ·simp only[go_sem,zE,zM,zL,d3,dEt h3,fits,dW];exact c_ ⟨⟨_,rfl,.inr rfl⟩,rfl⟩
 ·by_cases h4:op=4
  ·rw[if_neg h3,if_pos h4];cases r
   ·simp only[go_sem,zE,zM,zL,reduceCtorEq,d3,d4,dEf h3,dEt h4,fits,dW];exact c_ ⟨⟨_,rfl,.inr rfl⟩,rfl⟩
   ·simp only[go_sem,zE,zM,zL,d3,d4,dEf h3,dEt h4,fits,dW];exact c_ ⟨⟨_,rfl,.inr rfl⟩,rfl⟩
  ·by_cases h5:op=5
   ·rw[if_neg h3,if_neg h4,if_pos h5];cases r
    ·simp only[go_sem,zE,zM,zL,reduceCtorEq,d3,d4,d5,dEf h3,dEf h4,dEt h5,fits,dW];exact c_ ⟨⟨_,rfl,.inr rfl⟩,rfl⟩
    ·cases hj:calJ ca
     ·simp only[go_sem,zE,zM,zL,reduceCtorEq,d3,d4,d5,dEf h3,dEf h4,dEt h5,fits,dW,dc,hj];exact c_ ⟨⟨_,rfl,.inr rfl⟩,rfl⟩
     ·simp only[go_sem,zE,zM,zL,reduceCtorEq,d3,d4,d5,dEf h3,dEf h4,dEt h5,fits,N8,dc,hj];exact c_ ⟨⟨_,rfl,.inr rfl⟩,rfl⟩
   ·by_cases h6:op=6
    ·rw[if_neg h3,if_neg h4,if_neg h5,if_pos h6];cases r
     ·simp only[go_sem,zE,zM,zL,reduceCtorEq,d3,d4,d5,d6,dEf h3,dEf h4,dEf h5,dEt h6,fits,dW];exact c_ ⟨⟨_,rfl,.inr rfl⟩,rfl⟩
     ·simp only[go_sem,zE,zM,zL,d3,d4,d5,d6,dEf h3,dEf h4,dEf h5,dEt h6,fits,dW];exact c_ ⟨⟨_,rfl,.inr rfl⟩,rfl⟩
    ·by_cases h7:op=7
     ·rw[if_neg h3,if_neg h4,if_neg h5,if_neg h6,if_pos h7];cases r
      ·simp only[go_sem,zE,zM,zL,reduceCtorEq,d3,d4,d5,d6,d7,dEf h3,dEf h4,dEf h5,dEf h6,dEt h7,fits,dW];exact c_ ⟨⟨_,rfl,.inr rfl⟩,rfl⟩
      ·simp only[go_sem,zE,zM,zL,d3,d4,d5,d6,d7,dEf h3,dEf h4,dEf h5,dEf h6,dEt h7,fits,dW];exact c_ ⟨⟨_,rfl,.inr rfl⟩,rfl⟩
     ·rw[if_neg h3,if_neg h4,if_neg h5,if_neg h6,if_neg h7];simp only[go_sem,zE,d3,d4,d5,d6,d7,dEf h3,dEf h4,dEf h5,dEf h6,dEf h7];exact c_ ⟨⟨_,rfl,.inl rfl⟩,rfl⟩
@[go_sem] theorem V9:mapI prog 190=some (.pl,.sl ⟨true,.nil,0⟩ []):=by kernel_rfl
def AllR {α:Type}(R:α->IV->Prop)(l:List α)(xs:List IV):Prop:=xs.length=l.length/\∀(i:Nat) (a:α),l[i]?=some a->∃x,xs[i]?=some x/\R a x
theorem AllR.nil {α:Type}{R:α->IV->Prop}:AllR R [] []:=⟨rfl,λi a h=>by simp at h⟩
theorem AllR.snoc {α:Type}{R:α->IV->Prop}{l:List α}{xs:List IV}{a:α}{x:IV}(h:AllR R l xs)(hx:R a x):AllR R (l++[a]) (xs++[x]):=by
 refine⟨by simp[h.1],λi b hb=>?_⟩;rcases Nat.lt_or_ge i l.length with hi|hi
 ·rw[List.getElem?_append_left hi] at hb;rw[List.getElem?_append_left (by rw[h.1];exact hi)];exact h.2 i b hb
 ·rw[List.getElem?_append_right hi] at hb;rw[List.getElem?_append_right (by rw[h.1];exact hi),h.1];cases hk:i-l.length with
  | zero=>rw[hk] at hb;cases hb;exact⟨x,rfl,hx⟩
  | succ n=>rw[hk] at hb;simp at hb
def IsEx (e:Ex)(x:IV):Prop:=∃t1 t2,x=.agg [.sl t1 (dM e.1.1),.sl t2 (dM e.1.2),.raw (.int .i64 (e.2.1:Int)),.raw (.int .i64 (e.2.2:Int))]/\okEs t1 1/\okEs t2 1
abbrev Tn:=Nat×List Ex
def IsTn (t:Tn)(x:IV):Prop:=∃tt ys,x=.agg [.raw (.int .u8 (t.1:Int)),.sl tt ys]/\okEs tt 4/\AllR IsEx t.2 ys
def uY (l:List Tn)(x:IV):Prop:=∃t ys,x=.sl t ys/\okEs t 2/\AllR IsTn l ys
noncomputable def gd (W:List Fm)(j:Bool)(f:Fm)(r:Bool):List Tn:=(addF j f r).map λt=>(t.1,t.2.map (exW W))
def plV (i:Nat)(r:Bool):Value:=.agg #[.int .i64 (i:Int),.bool r]
def CacheOk (ca:Nat)(W:List Fm)(es:List (Value×IV)):Prop:=∀p∈es,∃i r f,p.1=plV i r/\W[i]?=some f/\uY (gd W (calJ ca) f r) p.2
theorem FL {i:Nat}{r:Bool}{x:IV}:∀ {es:List (Value×IV)},fZ (plV i r) es=some x->(∀p∈es,∃(i:Nat) (r:Bool),p.1=plV i r)->(plV i r,x)∈es
 | [],h,_=>by cases h
 | (k,v)::es,h,hes=>by
  obtain⟨i',r',hk⟩:=hes _ (.head _);simp only at hk;subst hk;simp only[fZ] at h;have hq:gN (plV i r) (plV i' r')=(decide ((i:Int)=i')&&decide (r=r')):=rfl;rw[hq] at h;by_cases hc:(i:Int)=i'/\r=r'
  ·obtain⟨h1,h2⟩:=hc;obtain rfl:i=i':=by omega
   subst h2;simp at h;subst h;exact .head _
  ·rw[if_neg (by simpa using hc)] at h;exact .tail _ (FL h λp hp=>hes p (.tail _ hp))
theorem FM {k:Value}{v:IV}:∀ {es:List (Value×IV)} {p:Value×IV},p∈updI k v es->p=(k,v)\/p∈es
 | [],p,h=>.inl (List.mem_singleton.1 h)
 | (x,u)::es,p,h=>by
  simp only[updI] at h;split at h
  ·rcases List.mem_cons.1 h with h|h
   ·exact .inl h
   ·exact .inr (.tail _ h)
  ·rcases List.mem_cons.1 h with h|h
   ·exact .inr (by rw[h];exact .head _)
   ·exact (FM h).imp id (.tail _)
theorem CacheOk.upd {ca:Nat}{W:List Fm}{es:List (Value×IV)}(h:CacheOk ca W es){i:Nat}{r:Bool}{f:Fm}{x:IV}(hf:W[i]?=some f)(hx:uY (gd W (calJ ca) f r) x):CacheOk ca W (updI (plV i r) x es):=λp hp=>by
 rcases FM hp with rfl|hp
 ·exact⟨i,r,f,rfl,hf,hx⟩
 ·exact h p hp
theorem N_ {st st':ISt}{m:Nat}{o:Option IObj}(h:subSt st st'):subSt (st.put m o) (st'.put m o):=λc x hc=>by
 rw[ISt.put_apply] at hc ⊢;split
 ·rename_i hcm;rw[if_pos hcm] at hc;exact hc
 ·rename_i hcm;rw[if_neg hcm] at hc;exact h c x hc
theorem FN {j r:Bool}{f:Fm}{t:Nat×List Sn}(h:t∈addF j f r):∀p∈t.2,p.1.length<=2/\p.2.length<=2:=by
 unfold addF at h;split at h<;>(try split at h)<;>simp at h<;>first|(subst h;simp)|(rcases h with rfl|rfl<;>simp)
theorem zw {j r:Bool}{f:Fm}{t:Nat×List Sn}(h:t∈addF j f r):t.2.length<=2:=by
 unfold addF at h;split at h<;>(try split at h)<;>simp at h<;>first|(subst h;simp)|(rcases h with rfl|rfl<;>simp)
theorem FP {f:Fm}{n:Nat}{l:List IV}(h:IsFm f (.agg (.raw (.int .u8 (n:Int))::l))):n=f.op:=by
 obtain⟨o,nn,us,sub⟩:=f;obtain⟨t,xs,t',ys,he,_⟩:=h.mk;simp only[IV.agg.injEq,List.cons.injEq,IV.raw.injEq,Value.int.injEq,true_and] at he;exact Int.ofNat.inj he.1
theorem Oa (G:Gl gl)(T:Gt gl)(ca m:Nat)(W:List Fm)(hS:SpOk ca W)(tw:Tag)(xw:List IV)(htw:okEs tw 4)(hxw:IsFms W xw)(i:Nat)(r:Bool)(f:Fm)(hf:W[i]?=some f)(es:List (Value×IV))(hes:CacheOk ca W es)(st:ISt)(hm:st m=some (.map .pl es)) :
  ICall prog gl 157 [spI ca tw xw m,.agg [.raw (.int .i64 (i:Int)),.raw (.bool r)]] st (λx st'=>uY (gd W (calJ ca) f r) x/\∃es',CacheOk ca W es'/\st'=st.put m (some (.map .pl es'))):=by
 have hil:i<W.length:=(lGs hf).1;have sd:=hS.len;have hfW:=lMg hf;have hfB:=hS.fm f hfW;obtain⟨y,hky,hy⟩:=hxw.get hf;have hki:fF .pl (plV i r)=true:=by
  show (decide (-9223372036854775808<=(i:Int))&&decide ((i:Int)<=9223372036854775807))=true;rw[bAt,dTe,dTe];omega
 refine ICall.intro (c:=cf prog gl [] [(14,[0,1,2,3,5,6,7,8,9,10,4,11,12,13,14,15])]) func157 rfl (by show _<=94;simp) (by kernel_rfl) ?_;have hfi:∀o:Option IV,fZ (.agg #[.int .i64 (i:Int),.bool r]) es=o->∀x,o=some x->uY (gd W (calJ ca) f r) x:=λo ho x hx=>by
  subst hx;have hmem:=FL (i:=i) (r:=r) ho λp hp=>by obtain⟨i',r',f',h1,_⟩:=hes p hp;exact⟨i',r',h1⟩
  obtain⟨i',r',f',h1,h2,h3⟩:=hes _ hmem;have h1:plV i r=plV i' r':=h1;simp only[plV,Value.agg.injEq,Array.mk.injEq,List.cons.injEq,Value.int.injEq,true_and,Value.bool.injEq,and_true] at h1;obtain⟨h4,rfl⟩:=h1;obtain rfl:i=i':=by omega
  rw[hf] at h2;cases h2;exact h3
 simp only[go_sem,zE,zA,zL,reduceCtorEq,fits,hm,show fF .pl (.agg #[.int .i64 (i:Int),.bool r])=true from hki];cases hq:fZ (.agg #[.int .i64 (i:Int),.bool r]) es with
 | some x =>
  obtain⟨t,ys,rfl,ht,hys⟩:=hfi _ hq x rfl;simp only[go_sem,zE,kT,Option.getD_some,Option.isSome_some];exact c_ ⟨⟨t,ys,rfl,ht,hys⟩,es,hes,(jo hm).symm⟩
 | none =>
  have hLr:=uX (ca:=ca) (hS.pf hfW) r;have hLl:(jk (calJ ca) f.op r).length=(addF (calJ ca) f r).length:=by rw[<- hLr,List.length_map]
  have hL2:(addF (calJ ca) f r).length<=1000:=by
   rw[<- hLl];unfold jk
   repeat' split
   all_goals simp
  have hrules:=λst=>N9 gl ca m tw xw f.op r st;have hadd:=λrule st=>Nu gl G T ca rule f y hy (by have:=hS.size hfW;omega) tmZ (.agg [.raw (.bool false),.raw (.string noN),.sl ⟨true,.nil,0⟩ []]) (by simp only[IsTm];exact⟨_,_,rfl,.inl rfl,by simp only[IsTms]⟩) (by decide) noN st;obtain⟨y1,y2,y3,y4,y5,y6,rfl⟩:=hy.agg;obtain rfl:y1=f.op:=FP hy;simp only[go_sem,zE,zB,zA,zL,reduceCtorEq,kT,Option.getD_none,Option.isSome_none,fits,hky,dz htw,iNn];refine (hrules _).mono ?_;rintro _ st ⟨⟨tL,rfl,htL⟩,rfl⟩;simp only[go_sem,u8I,List.length_map,hLl];intro _;refine dj (addF (calJ ca) f r).length (λk fr st' ds=>(∃t ys,fr 5=.iv (.sl t ys)/\AllR IsTn ((gd W (calJ ca) f r).take k) ys/\own st' t k 2 st/\subSt st st')/\fr 0=.iv (spI ca tw xw m)/\fr 3=.box [.raw (.int .i64 (i:Int)),.raw (.bool r)] /\
   fr 7=.box [.raw (.int .u8 (f.op:Int)),.raw (.string y2),.sl y3 y4,.sl y5 y6]/\fr 39=.iv (.sl tL (u8I (jk (calJ ca) f.op r)))/\fr 40=.iv (.raw (.int .i64 (addF (calJ ca) f r).length))/\fr 41=.iv (.raw (.int .i64 (k:Int)))/\ds=[]) ?_ ?_ ?_
  ·simp only[go_sem,zE,reduceCtorEq,u8I];exact⟨⟨_,_,rfl,AllR.nil,own.nil _ _ _ _ _,subSt.refl _⟩,rfl⟩
  ·rintro k fr st1 _ hlt ⟨⟨t,ys,f5,hys,hown,hsub⟩,f0,f3,f7,f39,f40,f41,rfl⟩;obtain⟨tt,htt⟩:=dB hlt;have htm:=lMg htt;have hrk:(jk (calJ ca) f.op r)[k]?=some tt.1:=by rw[<- hLr,List.getElem?_map,htt];rfl
   have hu:(u8I (jk (calJ ca) f.op r))[k]?=some (.raw (.int .u8 (tt.1:Int))):=by rw[u8I,List.getElem?_map,hrk];rfl
   have hai:=FK hS.cal hfB htm;have hsubs:=λp hp=>hS.sub hfW htm (p:=p) hp;simp only[go_sem,zE,zA,zL,reduceCtorEq,f0,f7,f39,f40,f41,lt_i hlt,dz htL,iNn,hu,fits];refine (hadd tt.1 _).mono ?_;rintro _ st1 ⟨ta,xa,rfl,hta,hxa,rfl⟩;rw[hai] at hxa ⊢;simp only[go_sem,zE,zA,zL,show decide (((0:Nat):Int)=0)=true from rfl,fits];have hxl:xa.length=tt.2.length:=by rw[hxa.len,List.length_map]
   have hpl:=FN htm;have hp2:=zw htm;intro _;rw[hxl];refine dj tt.2.length (λq fr st' ds=>(∃t2 zs,fr 12=.box [.raw (.int .u8 (tt.1:Int)),.sl t2 zs]/\AllR IsEx ((tt.2.map (exW W)).take q) zs/\own st' t2 q 4 st/\own st' t k 2 st/\subSt st st')/\fr 0=.iv (spI ca tw xw m)/\fr 3=.box [.raw (.int .i64 (i:Int)),.raw (.bool r)]/\fr 5=.iv (.sl t ys) /\
    fr 7=.box [.raw (.int .u8 (f.op:Int)),.raw (.string y2),.sl y3 y4,.sl y5 y6]/\fr 39=.iv (.sl tL (u8I (jk (calJ ca) f.op r)))/\fr 40=.iv (.raw (.int .i64 (addF (calJ ca) f r).length))/\fr 41=.iv (.raw (.int .i64 (k:Int))) /\
    fr 60=.iv (.sl ta xa)/\fr 61=.iv (.raw (.int .i64 tt.2.length))/\fr 62=.iv (.raw (.int .i64 (q:Int)))/\ds=[]) ?_ ?_ ?_
   ·simp only[go_sem,zE,reduceCtorEq];refine⟨⟨_,_,rfl,AllR.nil,own.nil _ _ _ _ _,hown,hsub⟩,f0,f3,f5,f7,f39,f40,f41,rfl⟩
   ·rintro q fr st2 _ hq ⟨⟨t2,zs,f12,hzs,hown2,hown,hsub⟩,f0,f3,f5,f7,f39,f40,f41,f60,f61,f62,rfl⟩;obtain⟨p,hp⟩:=dB hq;have hps:(tt.2.map sqOf)[q]?=some (sqOf p):=by rw[List.getElem?_map,hp];rfl
    obtain⟨z,hzk,hz⟩:=hxa.get hps;have hpl2:=hpl p (lMg hp);have hlc:=λst=>uW gl T ca m W tw xw htw hxw hS.srt sd (sqOf p) z hz ⟨by show p.1.length<=_;omega,by show p.2.length<=_;omega⟩ (hsubs p (lMg hp)) st;obtain⟨t3,x3,t4,x4,rfl,e3,i3,e4,i4⟩:=hz;simp only[go_sem,zE,zB,zA,zL,reduceCtorEq,f0,f12,f60,f61,f62,lt_i hq,dz hta,iNn,hzk,fits];refine (hlc _).mono ?_;rintro _ st2 ⟨⟨t5,t6,rfl,e5,e6⟩,rfl⟩;simp only[go_sem,zE,zA,zM,zL,fits,i3.len,i4.len,dW];have hzl:zs.length=q:=by rw[hzs.1,List.length_take,List.length_map];omega
    refine gQ hown2 hzl hsub rfl (by simp[fits,IV.one]) (by simp only;omega) (by omega) λt2' st3 hown3 hsub3 hkeep=>?_;have hown':own st3 t k 2 st:=hown.mono λg hg _=>hkeep g _ hg λn hn=>by cases hn
    simp only[go_sem,zE,zA,zL,reduceCtorEq,f0,f3,f5,f7,f12,f39,f40,f41,f60,f61,f62,dC hq (show tt.2.length<=281474976710656 by omega)];refine⟨t2',_,rfl,?_,hown3,hown',hsub3⟩;rw[dE (show (tt.2.map (exW W))[q]?=some (exW W p) by rw[List.getElem?_map,hp];rfl)];exact hzs.snoc ⟨t5,t6,rfl,e5,e6⟩
   ·rintro fr st2 _ ⟨⟨t2,zs,f12,hzs,hown2,hown,hsub⟩,f0,f3,f5,f7,f39,f40,f41,f60,f61,f62,rfl⟩;have hyl:ys.length=k:=by
     rw[hys.1,List.length_take];unfold gd;rw[List.length_map];omega
    simp only[go_sem,zE,zA,zM,zL,f5,f12,f61,f62,dF (nLi _),fits,dW];refine gQ hown hyl hsub rfl (by simp[fits,IV.one]) (by simp only;omega) (by omega) λt' st3 hown3 hsub3 hkeep=>?_;simp only[go_sem,zE,reduceCtorEq,f0,f3,f7,f39,f40,f41,dC hlt (show (addF (calJ ca) f r).length<=281474976710656 by omega)];refine⟨t',_,rfl,?_,hown3,hsub3⟩;unfold gd;rw[dE (show ((addF (calJ ca) f r).map λt=>(t.1,t.2.map (exW W)))[k]?=some (tt.1,tt.2.map (exW W)) by rw[List.getElem?_map,htt];rfl)];refine hys.snoc ⟨t2,zs,rfl,hown2.es,?_⟩;rw[show tt.2.length=(tt.2.map (exW W)).length from (List.length_map ..).symm,lTl] at hzs;exact hzs
  ·rintro fr st1 _ ⟨⟨t,ys,f5,hys,hown,hsub⟩,f0,f3,f7,f39,f40,f41,rfl⟩;have hm1:=hsub m _ hm;rw[show (addF (calJ ca) f r).length=(gd W (calJ ca) f r).length from (List.length_map ..).symm,lTl] at hys;simp only[go_sem,zE,zA,zL,reduceCtorEq,f0,f3,f5,f40,f41,dF (nLi _),hm1,show fF .pl (.agg #[.int .i64 (i:Int),.bool r])=true from hki,fits];exact ez (N_ hsub) ⟨⟨t,ys,rfl,hown.es,hys⟩,_,hes.upd hf ⟨t,ys,rfl,hown.es,hys⟩,rfl⟩
end Go.Proofs.Tryz
namespace Go.Iv
open Go
theorem Oc {st:ISt}{b:Nat}{cs:List IV}(h:st b=some (.box cs)):LendOk st (ISt.put (λ_=>none) b (some (.box cs))) (st.put b none):=by
 refine⟨λc o hc=>?_,λc o hc=>?_,λc cs' hc=>?_⟩
 ·rw[ISt.put_apply] at hc;split at hc
  ·rename_i hb;rw[hb,h];exact hc
  ·cases hc
 ·rw[ISt.put_apply] at hc;split at hc
  ·cases hc
  ·exact hc
 ·rw[ISt.put_apply] at hc ⊢;split at hc
  ·rename_i hb;rw[if_pos hb]
  ·cases hc
