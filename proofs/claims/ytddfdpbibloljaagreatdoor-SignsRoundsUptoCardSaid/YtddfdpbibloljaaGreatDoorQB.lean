/- Plain law: a tableau of mode K1 is a tre -/
import Derived.Test.YtddfdpbibloljaaGreatDoorQA
import Derived.Lib.Bytealg
import Derived.Test.YtddfdpbibloljaaGreatDoorLA
set_option linter.all false
open Nat renaming reduceEqDiff → zE,reduceBEq → zB,reduceAdd → zA,reduceMul → zM,reduceSub → zS,reduceLeDiff → zL
namespace Go.Proofs.Tryz
open Go Go.Iv
theorem vQ3 {a b:Mk}:mkB a b=true↔a=b:=by
 obtain⟨i,w,f⟩:=a;obtain⟨i',w',f'⟩:=b;simp only[mkB,bAt,beq_iff_eq,dTe,zJ2,Mk.mk.injEq,and_assoc]
theorem yW5 {l:List Mk}{m:Mk}:hasT l m=true↔m∈l:=by
 simp only[hasT,List.any_eq_true,vQ3];constructor
 ·rintro⟨x,h,rfl⟩;exact h
 ·exact λh=>⟨m,h,rfl⟩
theorem wVk {l:List Mk}{m x:Mk}:x∈addT l m↔x∈l\/x=m:=by
 unfold addT;split
 ·rename_i h;rw[yW5] at h;constructor
  ·exact .inl
  ·rintro (h'|rfl)
   ·exact h'
   ·exact h
 ·simp
theorem yJ4 {x:Mk}:∀ {q l:List Mk},x∈yZ9 l q↔x∈l\/x∈q
 | [],l=>by simp[yZ9]
 | m::q,l=>by
  have:=yJ4 (x:=x) (q:=q) (l:=addT l m);unfold yZ9 at this ⊢;rw[List.foldl_cons,this,wVk];simp[or_assoc]
theorem wWk {l:List Mk}{m:Mk}:(addT l m).length<=l.length+1:=by
 unfold addT;split<;>simp
def yZ5 (b:Bool)(l:List Mk):List Fm:=(l.filter λm=>m.is == b).map (·.f)
theorem yZu {b:Bool}{l:List Mk}{f:Fm}:f∈yZ5 b l↔∃m∈l,m.is=b/\m.f=f:=by
 simp only[yZ5,List.mem_map,List.mem_filter,beq_iff_eq,and_assoc]
def sqT (l:List Mk):Sq:=⟨yZ5 true l,yZ5 false l⟩
def yKd (b:Bool)(o:Nat):Nat:=if o=3 then (if b then 3 else 4) else if o=4 then (if b then 5 else 6) else if o=5 then (if b then 7 else 8) else if o=6 then (if b then 9 else 10) else if o=7 then (if b then 11 else 12) else 0
noncomputable def yV0 (l:List Mk)(m:Mk)(c:Bool):Nat:=if !c then yKd m.is m.f.op else if hasT l ⟨!m.is,m.w,m.f⟩ then 1 else 2
def tm0:Tm:=.mk false bE []
mutual
noncomputable def yXa (l:List Mk):Nd->Tr
 | .mk m c w sub=>.mk (yV0 l m c) (sqT l) m.f tm0 bE (if c then [] else yXe l (yQs m 0) sub)
noncomputable def yXe (l:List Mk):List (List Mk)->List Nd->List Tr
 | q::qs,n::ns=>yXa (yZ9 l q) n::yXe l qs ns
 | _,_=>[]
end
mutual
noncomputable def bigT (l:List Mk):Nd->Bool
 | .mk m c w sub=>decide (64<(yZ5 true l).length) || decide (64<(yZ5 false l).length) || (!c&&zZq l (yQs m 0) sub)
noncomputable def zZq (l:List Mk):List (List Mk)->List Nd->Bool
 | q::qs,n::ns=>bigT (yZ9 l q) n || zZq l qs ns
 | _,_=>false
end
def GoodT (l:List Mk):Prop:=∀m∈l,fmB 1 m.f=true/\m.w=0
theorem GoodT.adds {l q:List Mk}(h:GoodT l)(h':GoodT q):GoodT (yZ9 l q):=λm hm=>(yJ4.1 hm).elim (h m) (h' m)
theorem yKa {l:List Mk}{m:Mk}{c:Bool}{w:Int}{k:Nat}(h:yKo l m c w k=0) :
  m∈l/\(c=true->yVy l m=true)/\(c=false->(yZw m).1≠0)/\w=0/\k=(if c then 0 else (yQs m w).length):=by
 unfold yKo at h;rcases wZ0 h with⟨_,h⟩|⟨h1,h⟩
 ·cases h
 rcases wZ0 h with⟨_,h⟩|⟨h2,h⟩
 ·cases h
 have h3:k=(if c then 0 else (yQs m w).length):=Decidable.byContradiction λhc=>by rw[if_pos hc] at h;cases h
 rw[<- yW5];simp only[Bool.or_eq_true,bAt,Bool.not_eq_true',dTe,not_or,not_and,Bool.not_eq_false,Decidable.not_not] at h1 h2;exact⟨h1.1.1,h1.1.2,λhc=>h1.2 hc,h2,h3⟩
theorem yWu {m:Mk}(h:(yZw m).1≠0):∃r,rowT m.is m.f.op=some r/\m.f.subs.length=r.2/\yZw m=r:=by
 unfold yZw at h ⊢;cases hr:rowT m.is m.f.op with
 | none=>rw[hr] at h;exact absurd rfl h
 | some r =>
  rw[hr] at h;by_cases hl:m.f.subs.length=r.2
  ·exact⟨r,rfl,hl,by simp only[if_pos hl]⟩
  ·simp only[if_neg hl] at h;exact absurd rfl h
theorem zWw {m:Mk}(hf:fmB 1 m.f=true)(h:(yZw m).1≠0):(∃n a,m.f=.mk 3 n [] [a]/\fmB 1 a=true)\/∃o n a b,(o=4\/o=5\/o=6\/o=7)/\m.f=.mk o n [] [a,b]/\fmB 1 a=true/\fmB 1 b=true:=by
 obtain⟨r,hr,hl,_⟩:=yWu h;obtain⟨is,w,⟨o,n,us,sub⟩⟩:=m;simp only[Fm.op,Fm.subs] at hr hl hf;have hpart:∀g∈sub,fmB 1 g=true:=λg hg=>wW0 hf hg;have h4:=(yK6.1 hf).2.2.2;simp only[opsB,bAt,dTe] at h4;have hus:us=[]:=by simpa using h4.1.2
 have ho:o<=7:=by have:=h4.1.1.2;simpa using this
 subst hus;unfold rowT at hr;have h2:∀n,sub.length=2->∃o' n' a b,(o'=4\/o'=5\/o'=6\/o'=7)->Fm.mk o n [] sub=.mk o' n' [] [a,b]/\fmB 1 a=true/\fmB 1 b=true:=λn hs=>by
  match sub,hs,hpart with
  | [a,b],_,hp=>exact⟨o,n,a,b,λ_=>⟨rfl,hp a (by simp),hp b (by simp)⟩⟩
 have h2':sub.length=2->(o=4\/o=5\/o=6\/o=7)->∃o' n' a b,(o'=4\/o'=5\/o'=6\/o'=7)/\Fm.mk o n [] sub=.mk o' n' [] [a,b]/\fmB 1 a=true/\fmB 1 b=true:=λhs hq=>by
  match sub,hs,hpart with
  | [a,b],_,hp=>exact⟨o,n,a,b,hq,rfl,hp a (by simp),hp b (by simp)⟩
 rcases yXt hr with⟨h3,rfl⟩|⟨_,hr⟩
 ·have:o=3:=by omega
  subst this
  match sub,hl,hpart with
  | [a],_,hp=>exact .inl ⟨n,a,rfl,hp a (by simp)⟩
 rcases yXt hr with⟨h3,rfl⟩|⟨_,hr⟩
 ·exact .inr (h2' hl (by omega))
 rcases yXt hr with⟨h3,rfl⟩|⟨_,hr⟩
 ·exact .inr (h2' hl (by omega))
 rcases yXt hr with⟨h3,rfl⟩|⟨_,hr⟩
 ·exact .inr (h2' hl (by omega))
 rcases yXt hr with⟨h3,rfl⟩|⟨_,hr⟩
 ·exact .inr (h2' hl (by omega))
 rcases yXt hr with⟨h3,rfl⟩|⟨_,hr⟩
 ·omega
 rcases yXt hr with⟨h3,rfl⟩|⟨_,hr⟩
 ·omega
 cases hr
theorem yW7 {m:Mk}(hf:fmB 1 m.f=true)(h:(yZw m).1≠0)(w:Int) :
  (∃r,rowK (yKd m.is m.f.op)=some r/\r.asks=0/\r.op=m.f.op/\r.left=m.is/\r.right=!m.is) /\
  addS 1 (yKd m.is m.f.op) m.f ((m.f.subs[0]?).getD fm0) ((m.f.subs[1]?).getD fm0)=(yQs m w).map sqT /\
  (∀q∈yQs m w,∀x∈q,fmB 1 x.f=true/\x.w=m.w)/\3<=yKd m.is m.f.op/\yKd m.is m.f.op<=12/\0<(yQs m w).length:=by
 have hm:=hf;rcases zWw hf h with⟨n,a,he,ha⟩|⟨o,n,a,b,ho,he,ha,hb⟩
 ·obtain⟨is,w',f⟩:=m;simp only at he hm;subst he;cases is
  ·refine⟨⟨_,rfl,rfl,rfl,rfl,rfl⟩,rfl,?_,of_decide_eq_true rfl,of_decide_eq_true rfl,of_decide_eq_true rfl⟩;show ∀q∈[[(⟨true,w',a⟩:Mk)]],_;simp[ha]
  ·refine⟨⟨_,rfl,rfl,rfl,rfl,rfl⟩,rfl,?_,of_decide_eq_true rfl,of_decide_eq_true rfl,of_decide_eq_true rfl⟩;show ∀q∈[[(⟨false,w',a⟩:Mk)]],_;simp[ha]
 ·obtain⟨is,w',f⟩:=m;simp only at he hm;subst he;rcases ho with rfl|rfl|rfl|rfl
  ·cases is
   ·refine⟨⟨_,rfl,rfl,rfl,rfl,rfl⟩,rfl,?_,of_decide_eq_true rfl,of_decide_eq_true rfl,of_decide_eq_true rfl⟩;show ∀q∈[[(⟨false,w',a⟩:Mk)],[⟨false,w',b⟩]],_;simp[ha,hb]
   ·refine⟨⟨_,rfl,rfl,rfl,rfl,rfl⟩,rfl,?_,of_decide_eq_true rfl,of_decide_eq_true rfl,of_decide_eq_true rfl⟩;show ∀q∈[[(⟨true,w',a⟩:Mk),⟨true,w',b⟩]],_;simp[ha,hb]
  ·cases is
   ·refine⟨⟨_,rfl,rfl,rfl,rfl,rfl⟩,rfl,?_,of_decide_eq_true rfl,of_decide_eq_true rfl,of_decide_eq_true rfl⟩;show ∀q∈[[(⟨false,w',a⟩:Mk),⟨false,w',b⟩]],_;simp[ha,hb]
   ·refine⟨⟨_,rfl,rfl,rfl,rfl,rfl⟩,rfl,?_,of_decide_eq_true rfl,of_decide_eq_true rfl,of_decide_eq_true rfl⟩;show ∀q∈[[(⟨true,w',a⟩:Mk)],[⟨true,w',b⟩]],_;simp[ha,hb]
  ·cases is
   ·refine⟨⟨_,rfl,rfl,rfl,rfl,rfl⟩,rfl,?_,of_decide_eq_true rfl,of_decide_eq_true rfl,of_decide_eq_true rfl⟩;show ∀q∈[[(⟨true,w',a⟩:Mk),⟨false,w',b⟩]],_;simp[ha,hb]
   ·refine⟨⟨_,rfl,rfl,rfl,rfl,rfl⟩,rfl,?_,of_decide_eq_true rfl,of_decide_eq_true rfl,of_decide_eq_true rfl⟩;show ∀q∈[[(⟨false,w',a⟩:Mk)],[⟨true,w',b⟩]],_;simp[ha,hb]
  ·obtain⟨i1,i2⟩:=vQp hm;cases is
   ·refine⟨⟨_,rfl,rfl,rfl,rfl,rfl⟩,rfl,?_,of_decide_eq_true rfl,of_decide_eq_true rfl,of_decide_eq_true rfl⟩;show ∀q∈[[(⟨true,w',a⟩:Mk),⟨false,w',b⟩],[⟨true,w',b⟩,⟨false,w',a⟩]],_;simp[ha,hb]
   ·refine⟨⟨_,rfl,rfl,rfl,rfl,rfl⟩,rfl,?_,of_decide_eq_true rfl,of_decide_eq_true rfl,of_decide_eq_true rfl⟩;show ∀q∈[[(⟨true,w',impF a b⟩:Mk),⟨true,w',impF b a⟩]],_;simp[i1,i2]
theorem row1 (rule:Nat):rowS 1 rule=rowK rule:=by
 unfold rowS;rw[if_neg (by omega),if_neg (by omega),if_neg (by omega),if_neg (by omega),if_neg (by omega)]
theorem wXi {l:List Fm}{f:Fm}(hf:fmB 1 f=true)(h:f∈l):hasF l f=true:=yGf.2 ⟨f,h,zJ0 (zQm hf)⟩
theorem wU5 {s:Sq}{rule:Nat}{r:Rw}{main:Fm}{u:Tm}{nm:ByteArray}(hv:yXs 1 s=true)(hr:rowK rule=some r)(ha:r.asks=0)(hm:fmB 1 main=true)(hop:r.op=0\/r.op=main.op)(hl:r.left=true->main∈s.l)(hrr:r.right=true->main∈s.r) :
  yKb 1 s rule main u nm=(addS 1 rule main ((main.subs[0]?).getD fm0) ((main.subs[1]?).getD fm0),0):=by
 have hadd:yJw 1 rule r main u nm=(addS 1 rule main ((main.subs[0]?).getD fm0) ((main.subs[1]?).getD fm0),0):=by
  have e:(!fmB 1 main || (decide (r.op≠0)&&decide (main.op≠r.op)))=false:=by
   rw[hm];rcases hop with h|h<;>simp[h]
  simp only[yJw,e,bFt,if_false,if_pos ha]
 unfold yKb;rw[hv,row1,hr];simp only[hadd,ha];have h1:(r.left&&!hasF s.l main)=false:=by
  cases hq:r.left
  ·rfl
  ·rw[wXi hm (hl hq)];rfl
 have h2:(r.right&&!hasF s.r main)=false:=by
  cases hq:r.right
  ·rfl
  ·rw[wXi hm (hrr hq)];rfl
 rw[h1,h2];rfl
theorem yGp {l:List Mk}(h:GoodT l)(b:Bool):(yZ5 b l).all (fmB 1)=true:=List.all_eq_true.2 λf hf=>by
 obtain⟨m,hm,_,rfl⟩:=yZu.1 hf;exact (h m hm).1
theorem wKt {l:List Mk}(h:GoodT l)(h1:(yZ5 true l).length<=64)(h2:(yZ5 false l).length<=64):yXs 1 (sqT l)=true:=by
 unfold yXs;rw[show (sqT l).l=yZ5 true l from rfl,show (sqT l).r=yZ5 false l from rfl,yGp h,yGp h,dEt h1,dEt h2];rfl
theorem zYm {a b:Sq}(h1:a.l.all Fm.right=true)(h2:a.r.all Fm.right=true)(h3:∀f∈a.l,f∈b.l)(h4:∀f∈a.r,f∈b.r):yXx a b=true:=by
 have key:∀l m:List Fm,l.all Fm.right=true->(∀f∈l,f∈m)->allF l m=true:=λl m h hm=>xX4.2 λf hf=>yGf.2 ⟨f,hm f hf,zJ0 (List.all_eq_true.1 h f hf)⟩;unfold yXx;rw[key _ _ h1 h3,key _ _ h2 h4];rfl
theorem xQa {l q:List Mk}(hl:GoodT (yZ9 l q)):yXx (sqT (yZ9 l q)) ((sqT l).plus (sqT q))=true:=by
 have key:∀b,∀f∈yZ5 b (yZ9 l q),f∈yZ5 b l++yZ5 b q:=λb f hf=>by
  obtain⟨m,hm,hb,he⟩:=yZu.1 hf;rcases yJ4.1 hm with h|h
  ·exact List.mem_append_left _ (yZu.2 ⟨m,h,hb,he⟩)
  ·exact List.mem_append_right _ (yZu.2 ⟨m,h,hb,he⟩)
 exact zYm (yWy (yGp hl true)) (yWy (yGp hl false)) (key true) (key false)
theorem zYr (l:List Mk):∀n:Nd,(yXa l n).sq=sqT l
 | .mk ..=>rfl
theorem zQw (l:List Mk):∀(qs:List (List Mk)) (ns:List Nd),qs.length=ns.length->(yXe l qs ns).length=qs.length
 | [],[],_=>rfl
 | q::qs,n::ns,h=>by simp only[yXe,List.length_cons,zQw l qs ns (by simpa using h)]
 | [],_::_,h=>by simp at h
 | _::_,[],h=>by simp at h
theorem zWm {l:List Mk}(hl:GoodT l):∀(qs:List (List Mk)) (ns:List Nd),(∀q∈qs,GoodT q)->yJ0 (sqT l) (qs.map sqT) (yXe l qs ns)=true
 | [],ns,_=>by simp[yJ0]
 | q::qs,[],_=>by simp[yXe,yJ0]
 | q::qs,n::ns,h=>by
  simp only[List.map_cons,yXe,yJ0,zYr,bAt];exact⟨xQa (hl.adds (h q (by simp))),zWm hl qs ns λq' hq=>h q' (by simp[hq])⟩
mutual
theorem xWc:∀(n:Nd)(l:List Mk)(p:List Nat),GoodT l->(yZm l p n).2=0->bigT l n=false->zZ3 1 (yXa l n)=true
 | .mk m c w sub,l,p,hl,h,hb=>by
  unfold yZm at h;split at h
  ·rename_i h1;exact absurd h h1
  rename_i h1;obtain⟨hm,hcl,hfind,rfl,hk⟩:=yKa (Decidable.not_not.1 h1);unfold bigT at hb;simp only[Bool.or_eq_false_iff,decide_eq_false_iff_not,Nat.not_lt] at hb;obtain⟨⟨b1,b2⟩,b3⟩:=hb;have hv:=wKt hl b1 b2;have hf:=(hl m hm).1;have hml:m.is=true->m.f∈(sqT l).l:=λh=>yZu.2 ⟨m,hm,h,rfl⟩;have hmr:m.is=false->m.f∈(sqT l).r:=λh=>yZu.2 ⟨m,hm,h,rfl⟩;unfold yXa;cases c
  ·simp only[bFt,if_false] at h hk;rw[Bool.not_false,Bool.true_and] at b3;have hft:=hfind rfl;obtain⟨⟨r,hr,ha,hop,hrl,hrr⟩,hadd,hgood,_⟩:=yW7 hf hft 0;have hg:∀q∈yQs m 0,GoodT q:=λq hq x hx=>⟨(hgood q hq x hx).1,((hgood q hq x hx).2).trans (hl m hm).2⟩
   have hrule:yV0 l m false=yKd m.is m.f.op:=rfl;simp only[bFt,if_false,zZ3,hrule,bAt,dTe];have hst:=wU5 (u:=tm0) (nm:=bE) hv hr ha hf (.inr hop) (λh=>hml (hrl▸h)) (λh=>hmr (by rw[hrr] at h;simpa using h));rw[hadd] at hst;refine⟨?_,xZ6 sub (yQs m 0) l p 0 hl hg h b3⟩;simp only[yXv,hst,ne_eq,nTf,if_false,List.length_map,zQw l _ _ hk.symm,zWm hl _ _ hg,if_true]
  ·have hc:=hcl rfl;simp only[if_true,zZ3,yYi,Bool.and_true,dTe];by_cases ho:hasT l ⟨!m.is,m.w,m.f⟩=true
   ·have hrule:yV0 l m true=1:=by unfold yV0;rw[ho];rfl
    have hop:=yW5.1 ho;have hst:=wU5 (u:=tm0) (nm:=bE) (rule:=1) (r:=⟨true,true,0,0⟩) hv rfl rfl hf (.inl rfl) (λ_=>by
     cases hi:m.is
     ·rw[hi] at hop;exact yZu.2 ⟨_,hop,rfl,rfl⟩
     ·exact hml hi) (λ_=>by
     cases hi:m.is
     ·exact hmr hi
     ·rw[hi] at hop;exact yZu.2 ⟨_,hop,rfl,rfl⟩)
    simp only[yXv,hrule,hst];rfl
   ·have ho':hasT l ⟨!m.is,m.w,m.f⟩=false:=by simpa using ho
    have hrule:yV0 l m true=2:=by unfold yV0;rw[ho'];rfl
    unfold yVy at hc;rw[ho',Bool.or_false,bAt,dTe] at hc;have hst:=wU5 (u:=tm0) (nm:=bE) (rule:=2) (r:=⟨true,false,2,0⟩) hv rfl rfl hf (.inr hc.2.symm) (λ_=>hml hc.1) (λh=>by cases h);simp only[yXv,hrule,hst];rfl
theorem xZ6:∀(ns:List Nd)(qs:List (List Mk))(l:List Mk)(p:List Nat)(i:Nat),GoodT l->(∀q∈qs,GoodT q)->(yZs l p i qs ns).2=0->zZq l qs ns=false->yYi 1 (yXe l qs ns)=true
 | [],qs,l,p,i,_,_,_,_=>by cases qs<;>rfl
 | n::ns,[],l,p,i,_,_,_,_=>rfl
 | n::ns,q::qs,l,p,i,hl,hg,h,hb=>by
  unfold yZs at h;unfold zZq at hb;rw[Bool.or_eq_false_iff] at hb;split at h
  ·rename_i h1;exact absurd h h1
  rename_i h1;unfold yXe;simp only[yYi,bAt];exact⟨xWc n _ _ (hl.adds (hg q (by simp))) (Decidable.not_not.1 h1) hb.1,xZ6 ns qs l p _ hl (λq' hq=>hg q' (by simp[hq])) h hb.2⟩
end
theorem zUa (b:Bool)(o:Int)(x y:Fm):∀q∈askT b o x y,q.length<=2:=by
 unfold askT
 repeat' split
 all_goals simp
theorem zZr (b:Bool)(o:Int)(x y:Fm):(askT b o x y).length<=2:=by
 unfold askT
 repeat' split
 all_goals simp
theorem yG8 (m:Mk)(w:Int):∀q∈yQs m w,q.length<=2:=by
 unfold yQs;split
 ·simp
 ·intro q hq;obtain⟨l,hl,rfl⟩:=List.mem_map.1 hq;rw[List.length_map];exact zUa _ _ _ _ l hl
theorem yYa (m:Mk)(w:Int):(yQs m w).length<=2:=by
 unfold yQs;split
 ·exact Nat.zero_le _
 ·rw[List.length_map];exact zZr ..
end Go.Proofs.Tryz
namespace Go.Proofs.Tryz
open Go Go.Iv
set_option maxRecDepth 4000
variable (gl:Nat->Option IV)
theorem IsMk.agg {m:Mk}{x:IV}(h:IsMk m x):∃(o:Int) (n:ByteArray) (t:Tag) (xs:List IV) (t':Tag) (ys:List IV),x=.agg [.raw (.bool m.is),.raw (.int .i64 m.w),.raw (.int .u8 o),.raw (.string n),.sl t xs,.sl t' ys]:=by
 obtain⟨o,n,t,xs,t',ys,h,_⟩:=h;exact⟨_,_,_,_,_,_,h⟩
def fnF (m:Mk):IV:=if (yZw m).1=0 then .raw .nilFunc else .fn (.func (zVw m.is m.f.op)) [] []
def rowF (m:Mk):IV:=.agg [.raw (.int .u8 (yZw m).1),.raw (.int .i64 (yZw m).2),fnF m]
theorem wUf {b:Bool}{o:Int}{r:Nat×Nat}(h:rowT b o=some r):r.1≠0/\r.1<=4/\r.2<=2:=by
 unfold rowT at h;rcases yXt h with⟨_,rfl⟩|⟨_,h⟩
 ·decide
 rcases yXt h with⟨_,rfl⟩|⟨_,h⟩
 ·cases b<;>decide
 rcases yXt h with⟨_,rfl⟩|⟨_,h⟩
 ·cases b<;>decide
 rcases yXt h with⟨_,rfl⟩|⟨_,h⟩
 ·cases b<;>decide
 rcases yXt h with⟨_,rfl⟩|⟨_,h⟩
 ·cases b<;>decide
 rcases yXt h with⟨_,rfl⟩|⟨_,h⟩
 ·cases b<;>decide
 rcases yXt h with⟨_,rfl⟩|⟨_,h⟩
 ·cases b<;>decide
 cases h
theorem zJj (m:Mk)(y:IV)(hy:IsMk m y)(st:ISt)(b:Nat)(es:List (Value×IV))(hb:st b=some (.map .sg es))(ht:zXj es) :
  ICall prog gl 153 [.raw (.map (some b)),y] st (λr st'=>r=rowF m/\st'=st):=by
 obtain⟨is,w,f⟩:=m;obtain⟨o',n',t1,x1,t2,x2,rfl,hf⟩:=hy;obtain⟨o,n,us,sub⟩:=f;obtain⟨_,_,_,_,he,ho,e1,i1,e2,i2⟩:=hf.mk;simp only[IV.agg.injEq,List.cons.injEq,IV.raw.injEq,Value.int.injEq,Value.string.injEq,IV.sl.injEq,true_and,and_true] at he;obtain⟨rfl,rfl,⟨rfl,rfl⟩,rfl,rfl⟩:=he;have d1:decide ((0:Int)<=(o:Int))=true:=dEt (by omega);have d2:decide ((o:Int)<=255)=true:=dEt (by omega);have hfi:yZx (.agg #[.bool is,.int .u8 (o:Int)]) es=(rowT is o).map λr=>xYh r (zVw is o):=ht is o;refine iI func153 ?_;cases hr:rowT is o with
 | none =>
  have hT:yZw ⟨is,w,.mk o n' us sub⟩=(0,0):=by unfold yZw;simp only[Fm.op,hr]
  simp only[go_sem,zE,zB,zA,zM,zS,zL,reduceCtorEq,d1,d2,hb,hfi,hr,Option.map_none,zZ9,rowZ,fits];exact yQ0 ⟨by simp only[rowF,fnF,hT,if_true];rfl,rfl⟩
 | some r =>
  obtain⟨p1,p2,p3⟩:=wUf hr;obtain⟨k,q⟩:=r;simp only at p1 p2 p3;by_cases hl:sub.length=q
  ·have hT:yZw ⟨is,w,.mk o n' us sub⟩=(k,q):=by unfold yZw;simp only[Fm.op,Fm.subs,hr,hl,if_true]
   have dl:decide ((sub.length:Int)=(q:Int))=true:=dEt (by omega);simp only[go_sem,zE,zB,zA,zM,zS,zL,reduceCtorEq,d1,d2,hb,hfi,hr,Option.map_some,yGs,xYh,i2.len,dl,fits];intros;exact yQ0 ⟨by simp only[rowF,fnF,hT,if_neg p1];rfl,rfl⟩
  ·have hT:yZw ⟨is,w,.mk o n' us sub⟩=(0,0):=by unfold yZw;simp only[Fm.op,Fm.subs,hr];exact if_neg hl
   have dl:decide ((sub.length:Int)=(q:Int))=false:=dEf (by omega);simp only[go_sem,zE,zB,zA,zM,zS,zL,reduceCtorEq,d1,d2,hb,hfi,hr,Option.map_some,yGs,xYh,i2.len,dl,fits];intros;exact yQ0 ⟨by simp only[rowF,fnF,hT,if_true];rfl,rfl⟩
theorem zJ3 {b:Bool}{o:Nat}{r:Nat×Nat}(h:rowT b o=some r)(ho:o<=7):zVi gl (zVw b o) (askT b o)/\entI prog (zVw b o)=true/\(r.1=1\/r.1=2)/\(r.2=1\/r.2=2):=by
 have hc:o=3\/o=4\/o=5\/o=6\/o=7:=by
  refine Classical.byContradiction λhc=>?_;unfold rowT at h
  repeat (rw[if_neg (by omega)] at h)
  cases h
 rcases hc with rfl|rfl|rfl|rfl|rfl<;>cases b<;>obtain rfl:=Option.some.inj h
 ·exact⟨vWy gl,by kernel_rfl,by decide,by decide⟩
 ·exact⟨vWz gl,by kernel_rfl,by decide,by decide⟩
 ·exact⟨vWw gl,by kernel_rfl,by decide,by decide⟩
 ·exact⟨vWx gl,by kernel_rfl,by decide,by decide⟩
 ·exact⟨vWu gl,by kernel_rfl,by decide,by decide⟩
 ·exact⟨vWv gl,by kernel_rfl,by decide,by decide⟩
 ·exact⟨vWs gl,by kernel_rfl,by decide,by decide⟩
 ·exact⟨vWt gl,by kernel_rfl,by decide,by decide⟩
 ·exact⟨vZf gl,by kernel_rfl,by decide,by decide⟩
 ·exact⟨vWr gl,by kernel_rfl,by decide,by decide⟩
def mkH (w:Int)(h:Bool×Fm):Mk:=⟨h.1,w,h.2⟩
theorem xZ3 {m:Mk}{w:Int}{k:Nat}{q:Nat}(h:yZw m=(k,q))(hk:k=1\/k=2):yQs m w=(askT m.is m.f.op ((m.f.subs[0]?).getD fm0) (if q=2 then (m.f.subs[1]?).getD fm0 else fm0)).map λl=>l.map (mkH m.w):=by
 unfold yQs;rw[h,if_neg (by show ¬ k=0;omega)];simp only[if_pos hk];rfl
theorem wUq {st st' S0:ISt}{tg:Tag}{n s:Nat}(h:own st tg n s S0)(hs:subSt st st'):own st' tg n s S0:=h.mono λg hg _=>hs g _ hg
theorem zGp (m:Mk)(y:IV)(hy:IsMk m y)(hm:m.f.op<=7)(w:Int)(st:ISt)(b:Nat)(es:List (Value×IV))(hb:st b=some (.map .sg es))(ht:zXj es) :
  ICall prog gl 111 [.raw (.map (some b)),y,.raw (.int .i64 w)] st (λr st'=>∃tg xs,r=.sl tg xs/\okEs tg 1/\IsMkss (yQs m w) xs/\st'=st):=by
 have hfind:=λst hb=>zJj gl m y hy st b es hb ht;obtain⟨is,mw,f⟩:=m;obtain⟨o',n',t1,x1,t2,x2,rfl,hf⟩:=hy;obtain⟨o,n,us,sub⟩:=f;obtain⟨_,_,_,_,he,ho,e1,i1,e2,i2⟩:=hf.mk;simp only[IV.agg.injEq,List.cons.injEq,IV.raw.injEq,Value.int.injEq,Value.string.injEq,IV.sl.injEq,true_and,and_true] at he;obtain⟨rfl,rfl,⟨rfl,rfl⟩,rfl,rfl⟩:=he;simp only[Fm.op] at hm;refine ICall.intro (c:=cf prog gl [] [(10,[0,1,2,3,4,5,6,7,10,8,9])]) func111 rfl (by show _<=75;simp) (by kernel_rfl) ?_;simp only[go_sem,zE,zB,zA,zM,zS,zL,reduceCtorEq];refine (hfind _ hb).mono ?_;rintro _ st ⟨rfl,rfl⟩;by_cases hk:(yZw ⟨is,mw,.mk o n' us sub⟩).1=0
 ·have dk:decide (((yZw ⟨is,mw,.mk o n' us sub⟩).1:Int)=0)=true:=dEt (by omega);have hf0:fnF ⟨is,mw,.mk o n' us sub⟩=.raw .nilFunc:=by unfold fnF;rw[if_pos hk]
  simp only[go_sem,zE,zB,zA,zM,zS,zL,reduceCtorEq,rowF,hf0,dk,fits];exact yQ0 ⟨_,_,rfl,.inl rfl,by unfold yQs;rw[if_pos hk];rfl,rfl⟩
 obtain⟨⟨k,q⟩,hr,hq,hT⟩:=yWu hk;simp only[Fm.op,Fm.subs] at hr hq;obtain⟨hask,hent,hk12,hq12⟩:=zJ3 gl hr hm;simp only at hk12 hq12;rw[xZ3 hT hk12];simp only[Fm.op,Fm.subs];have hfn:fnF ⟨is,mw,.mk o n' us sub⟩=.fn (.func (zVw is o)) [] []:=by unfold fnF;rw[if_neg hk];rfl
 have dk:decide ((k:Int)=0)=false:=dEf (by omega);obtain⟨a,ha⟩:=yQ4 (show 0<sub.length by omega);obtain⟨ya,hka,hA⟩:=i2.get ha;have hA0:=hA;obtain⟨o5,n5,t5,x5,t6,x6,rfl⟩:=hA0.agg;rw[ha,Option.getD_some];rcases hq12 with rfl|rfl;rw[if_neg (by decide)];have hB:=wW1 ⟨true,.nil,0⟩ ⟨true,.nil,0⟩ (.inl rfl) (.inl rfl);generalize fm0=fB at hB ⊢;rcases hk12 with rfl|rfl;simp only[go_sem,zE,zB,zA,zM,zS,zL,reduceCtorEq,rowF,hfn,hT,hent,fits,yQ2 e2,Int.le_refl,Int.toNat_zero,hka,show decide (((1:Nat):Int)=0)=false from rfl,show decide (((1:Nat):Int)=2)=false from rfl,show decide (((1:Nat):Int)=1)=true from rfl]
 rotate_left
 simp only[go_sem,zE,zB,zA,zM,zS,zL,reduceCtorEq,rowF,hfn,hT,hent,fits,yQ2 e2,Int.le_refl,Int.toNat_zero,hka,show decide (((2:Nat):Int)=0)=false from rfl,show decide (((1:Nat):Int)=2)=false from rfl,show decide (((2:Nat):Int)=1)=false from rfl,show decide (((2:Nat):Int)=2)=true from rfl]
 rotate_left
 rw[if_pos rfl];obtain⟨fB,hb'⟩:=yQ4 (show 1<sub.length by omega);obtain⟨yb,hkb,hB⟩:=i2.get hb';have hB0:=hB;obtain⟨o7,n7,t7,x7,t8,x8,rfl⟩:=hB0.agg;rw[hb',Option.getD_some];rcases hk12 with rfl|rfl;simp only[go_sem,zE,zB,zA,zM,zS,zL,reduceCtorEq,rowF,hfn,hT,hent,fits,yQ2 e2,Int.le_refl,Int.toNat_zero,hka,Int.toNat_one,hkb,show decide (((1:Nat):Int)=0)=false from rfl,show decide (((2:Nat):Int)=2)=true from rfl,show decide (((1:Nat):Int)=1)=true from rfl]
 rotate_left
 simp only[go_sem,zE,zB,zA,zM,zS,zL,reduceCtorEq,rowF,hfn,hT,hent,fits,yQ2 e2,Int.le_refl,Int.toNat_zero,hka,Int.toNat_one,hkb,show decide (((2:Nat):Int)=0)=false from rfl,show decide (((2:Nat):Int)=1)=false from rfl,show decide (((2:Nat):Int)=2)=true from rfl]
 rotate_left
 all_goals
  refine (hask _ _ _ _ hA hB _).mono ?_;rintro _ st1 ⟨tg,xs,rfl,htg,hxs,rfl⟩;generalize hL:askT is o a fB=L at hxs ⊢;have hL2:L.length<=2:=by rw[<- hL];exact zZr ..
  have hL3:∀q∈L,q.length<=2:=by rw[<- hL];exact zUa _ _ _ _
  simp only[go_sem,zE,zB,zA,zM,zS,zL,reduceCtorEq,hxs.len,fits];refine LoopC.ctr L.length (λk fr st' ds=>(∃tg' zs,fr 9=.iv (.sl tg' zs)/\IsMkss ((L.take k).map λl=>l.map (mkH mw)) zs/\own st' tg' k 1 st1/\subSt st1 st')/\fr 2=.iv (.raw (.int .i64 mw))/\fr 47=.iv (.sl tg xs)/\fr 48=.iv (.raw (.int .i64 L.length))/\fr 49=.iv (.raw (.int .i64 k))/\ds=[]) ?_ ?_ ?_
  ·simp only[go_sem,zE,zB,zA,zM,zS,zL,reduceCtorEq];exact⟨⟨_,_,rfl,rfl,.inl ⟨rfl,rfl⟩,subSt.refl _⟩,rfl⟩
  ·rintro k fr st2 _ hlt ⟨⟨tgo,zs,f9,hzs,hown,hsub⟩,f2,f47,f48,f49,rfl⟩;obtain⟨a,ha⟩:=yQ4 hlt;obtain⟨ta,za,hka,hta,hza⟩:=hxs.get ha;have ha2:=hL3 a (lMg ha);simp only[go_sem,zE,zB,zA,zM,zS,zL,reduceCtorEq,f2,f9,f47,f48,f49,lt_i hlt,yQ2 htg,iNn,hka,fits,hza.len];intro _;refine LoopC.ctr a.length (λj fr st' ds=>(∃tg' zs,fr 12=.iv (.sl tg' zs)/\IsMks ((a.take j).map (mkH mw)) zs/\own st' tg' j 6 st2/\subSt st2 st')/\fr 2=.iv (.raw (.int .i64 mw))/\fr 9=.iv (.sl tgo zs)/\fr 47=.iv (.sl tg xs)/\fr 48=.iv (.raw (.int .i64 L.length))/\fr 49=.iv (.raw (.int .i64 k))/\fr 53=.iv (.sl ta za)/\fr 54=.iv (.raw (.int .i64 a.length))/\fr 55=.iv (.raw (.int .i64 j))/\ds=[]) ?_ ?_ ?_
   ·simp only[go_sem,zE,zB,zA,zM,zS,zL,reduceCtorEq,f2,f9,f47,f48,f49];exact⟨⟨_,_,rfl,rfl,.inl ⟨rfl,rfl⟩,subSt.refl _⟩,rfl⟩
   ·rintro j fr st3 _ hjt ⟨⟨tgi,zi,f12,hzi,hoi,hsi⟩,f2,f9,f47,f48,f49,f53,f54,f55,rfl⟩;obtain⟨h,hh⟩:=yQ4 hjt;obtain⟨y,hky,hy⟩:=hza.get hh;obtain⟨oh,nh,t5,x5,t6,x6,rfl,hfh⟩:=hy;simp only[go_sem,zE,zB,zA,zM,zS,zL,reduceCtorEq,f2,f9,f12,f47,f48,f49,f53,f54,f55,lt_i hjt,yQ2 hta,iNn,hky,fits,yQ1];refine yJp hoi (by rw[hzi.len,List.length_map,List.length_take];omega) hsi rfl (by simp[fits,IV.one]) (by simp only;omega) (by omega) λtg2 st4 hown2 hsub4 _=>?_;simp only[go_sem,zE,zB,zA,zM,zS,zL,reduceCtorEq,f2,f9,f47,f48,f49,f53,f54,f55,yQf hjt (show a.length<=281474976710656 by omega)];refine⟨tg2,_,rfl,?_,hown2,hsub4⟩;rw[yQ7 hh,List.map_append];exact hzi.append (IsMks.one ⟨_,_,_,_,_,_,rfl,hfh⟩)
   ·rintro fr st3 _ ⟨⟨tgi,zi,f12,hzi,hoi,hsi⟩,f2,f9,f47,f48,f49,f53,f54,f55,rfl⟩;rw[lTl] at hzi;simp only[go_sem,zE,zB,zA,zM,zS,zL,reduceCtorEq,f2,f9,f12,f47,f48,f49,f54,f55,yQo (nLi _),fits,yQ1];refine yJp (wUq hown hsi) (by rw[hzs.len,List.length_map,List.length_take];omega) (hsub.trans hsi) rfl (by simp[fits,IV.one]) (by simp only;omega) (by omega) λtg2 st4 hown2 hsub4 _=>?_;simp only[go_sem,zE,zB,zA,zM,zS,zL,reduceCtorEq,f2,f47,f48,f49,yQf hlt (show L.length<=281474976710656 by omega)];refine⟨tg2,_,rfl,?_,hown2,hsub4⟩;rw[yQ7 ha,List.map_append];exact hzs.append (IsMkss.one hoi.es hzi)
  ·rintro fr st2 _ ⟨⟨tgo,zs,f9,hzs,hown,hsub⟩,f2,f47,f48,f49,rfl⟩;rw[lTl] at hzs;simp only[go_sem,zE,zB,zA,zM,zS,zL,reduceCtorEq,f9,f48,f49,yQo (nLi _)];exact yQc hsub ⟨_,_,rfl,hown.es,hzs,rfl⟩
end Go.Proofs.Tryz
namespace Go.Proofs.Tryz
open Go Go.Iv Go.Shelf Go.RowKit
set_option maxRecDepth 4000
variable (gl:Nat->Option IV)
theorem zZw (a b:ByteArray)(w:World):Calls prog 160 #[.string a,.string b] w λe w'=>e=.returned (.int .i64 (Lib.compareBytes a.data.toList b.data.toList))/\w'=w:=by
 have t9:prog.underlying 9=some .string:=by kernel_rfl
 have a9:∀w,(isAgg 9).run prog w=.ok false w:=run_isAgg_plain t9 rfl;have t3:prog.underlying 3=some (.int .i64):=by kernel_rfl
 have a3:∀w,(isAgg 3).run prog w=.ok false w:=run_isAgg_plain t3 rfl
 go_enter func160,(show _=_ from rfl)
 go_wp2
 rw[run_callFunc_extern func188 (by kernel_rfl) (by kernel_rfl) (by kernel_rfl) (e:=Extern.BytealgCompare.compare) (by kernel_rfl),Lib.run_compareString];simp only[Result.andThen];rw[Oper.upon_value]
 go_wp2
 go_ret
 exact⟨rfl,rfl⟩
theorem yGj:∀x y:List UInt8,Lib.compareBytes x y=if Op.bytesLess x y=true then -1 else if Op.bytesLess y x=true then 1 else 0
 | [],[]=>by simp[Lib.compareBytes,Op.bytesLess]
 | [],_::_=>by simp[Lib.compareBytes,Op.bytesLess]
 | _::_,[]=>by simp[Lib.compareBytes,Op.bytesLess]
 | a::x,b::y=>by
  have ih:=yGj x y;unfold Lib.compareBytes Op.bytesLess;by_cases h1:a<b
  ·have h2:¬ b<a:=λh=>UInt8.lt_irrefl _ (UInt8.lt_trans h1 h);simp[h1]
  ·by_cases h2:b<a
   ·have h3:a≠b:=by rintro rfl;exact UInt8.lt_irrefl _ h2
    simp[h1,h2,h3]
   ·have:a=b:=UInt8.le_antisymm (UInt8.not_lt.1 h2) (UInt8.not_lt.1 h1);subst this;simp[h1,ih]
theorem zVh (a b:ByteArray)(st:ISt):ICall prog gl 160 [.raw (.string a),.raw (.string b)] st (λr st'=>r=.raw (.int .i64 (cmpB a b))/\st'=st):=by
 intro B X rs hg hst hv;have hr:rs=[.string a,.string b]:=by
  match rs,hv with
  | [r,r'],hv=>rw[V.raw_inv (hv.2 0 r _ rfl rfl),V.raw_inv (hv.2 1 r' _ rfl rfl)]
  | [],hv=>cases hv.1
  | [_],hv=>cases hv.1
  | _::_::_::_,hv=>cases hv.1
 subst hr;refine Calls.mono (zZw a b X.w) ?_;rintro e w' ⟨rfl,rfl⟩;refine⟨_,rfl,X,.raw (.int .i64 (cmpB a b)),rfl,hg,Ext.refl X,?_,rfl,hst⟩;rw[yGj];exact .raw _ trivial
theorem xX9 (a b:ByteArray)(st:ISt):ICall prog gl 123 [.raw (.string a),.raw (.string b)] st (λr st'=>r=.raw (.int .i64 (cmpB a b))/\st'=st):=by
 refine iI func123 ?_;simp only[go_sem,zE,zA,reduceCtorEq];refine (zVh gl a b _).mono ?_;rintro _ _ ⟨rfl,rfl⟩;simp only[go_sem];exact yQ0 ⟨rfl,rfl⟩
theorem zW5 (a:Nat)(st:ISt):ICall prog gl 159 [.raw (.int .u8 a)] st (λr st'=>r=.raw (.bool false)/\st'=st):=by
 refine iI func159 ?_;simp only[go_sem,zE,reduceCtorEq];exact yQ0 ⟨rfl,rfl⟩
theorem xYg (a b:Nat)(st:ISt):ICall prog gl 122 [.raw (.int .u8 a),.raw (.int .u8 b)] st (λr st'=>r=.raw (.int .i64 (cmpN a b))/\st'=st):=by
 refine iI func122 ?_;simp only[go_sem,zA,reduceCtorEq];refine (zW5 gl a _).mono ?_;rintro _ _ ⟨rfl,rfl⟩;simp only[go_sem,zE,zA];refine (zW5 gl b _).mono ?_;rintro _ _ ⟨rfl,rfl⟩;unfold cmpN;by_cases h1:a<b
 ·simp only[go_sem,zE,reduceCtorEq,lt_i h1];exact yQ0 ⟨by rw[if_pos h1],rfl⟩
 ·by_cases h2:b<a
  ·simp only[go_sem,zE,reduceCtorEq,yQo h1,lt_i h2];exact yQ0 ⟨by rw[if_neg h1,if_pos h2],rfl⟩
  ·simp only[go_sem,zE,reduceCtorEq,yQo h1,yQo h2];exact yQ0 ⟨by rw[if_neg h1,if_neg h2],rfl⟩
theorem xWe (a:Nat)(st:ISt):ICall prog gl 189 [.raw (.int .i64 a)] st (λr st'=>r=.raw (.bool false)/\st'=st):=by
 refine iI func189 ?_;simp only[go_sem,zE,reduceCtorEq];exact yQ0 ⟨rfl,rfl⟩
theorem xWf (a b:Nat)(st:ISt):ICall prog gl 161 [.raw (.int .i64 a),.raw (.int .i64 b)] st (λr st'=>r=.raw (.int .i64 (cmpN a b))/\st'=st):=by
 refine iI func161 ?_;simp only[go_sem,zA,reduceCtorEq];refine (xWe gl a _).mono ?_;rintro _ _ ⟨rfl,rfl⟩;simp only[go_sem,zE,zA];refine (xWe gl b _).mono ?_;rintro _ _ ⟨rfl,rfl⟩;unfold cmpN;by_cases h1:a<b
 ·simp only[go_sem,zE,reduceCtorEq,lt_i h1];exact yQ0 ⟨by rw[if_pos h1],rfl⟩
 ·by_cases h2:b<a
  ·simp only[go_sem,zE,reduceCtorEq,yQo h1,lt_i h2];exact yQ0 ⟨by rw[if_neg h1,if_pos h2],rfl⟩
  ·simp only[go_sem,zE,reduceCtorEq,yQo h1,yQo h2];exact yQ0 ⟨by rw[if_neg h1,if_neg h2],rfl⟩
theorem wU0 {t:Tm}{x:IV}(h:IsTm t x):∃v n tg xs,x=.agg [.raw (.bool v),.raw (.string n),.sl tg xs]:=by
 obtain⟨v,n,us⟩:=t;obtain⟨tg,xs,rfl,_⟩:=h.mk;exact⟨_,_,_,_,rfl⟩
theorem zQc {α:Type}{f:α->α->Int}{g:List α->List α->Int}(g0:g [] []=0)(g1:∀a b l m,g (a::l) (b::m)=lexI (f a b) (g l m)):∀(l m l' m':List α),l.length=m.length->g (l++l') (m++m')=lexI (g l m) (g l' m')
 | [],[],l',m',_=>by rw[g0];simp[lexI]
 | a::l,b::m,l',m',h=>by
  rw[List.cons_append,List.cons_append,g1,g1,zQc g0 g1 l m l' m' (by simpa using h)];unfold lexI;by_cases h1:f a b=0
  ·simp[h1]
  ·simp[h1]
 | [],_::_,_,_,h=>by simp at h
 | _::_,[],_,_,h=>by simp at h
theorem i0 (x:Int)(h:x=0):decide (x=0)=true:=dEt h
theorem i1 (x:Int)(h:¬ x=0):decide (x=0)=false:=dEf h
def CmpT (a:Tm):Prop:=∀(b:Tm) (x y:IV) (_:IsTm a x) (_:IsTm b y) (st:ISt),ICall prog gl 125 [x,y] st (λr st'=>r=.raw (.int .i64 (zVu a b))/\st'=st)
def CmpF (a:Fm):Prop:=∀(b:Fm) (x y:IV) (_:IsFm a x) (_:IsFm b y) (st:ISt),ICall prog gl 94 [x,y] st (λr st'=>r=.raw (.int .i64 (yYf a b))/\st'=st)
theorem xWz (us:List Tm)(IH:∀a∈us,CmpT gl a)(ws:List Tm)(t t':Tag)(xs ys:List IV)(ht:okEs t 3)(ht':okEs t' 3)(ha:IsTms us xs)(hb:IsTms ws ys)(st:ISt) :
  ICall prog gl 124 [.sl t xs,.sl t' ys,.fn (.func 125) [] []] st (λr st'=>r=.raw (.int .i64 (lenL yVx us ws))/\st'=st):=by
 refine iI func124 ?_;simp only[go_sem,zE,zA,reduceCtorEq,ha.len,hb.len];intro hla hlb;refine (xWf gl us.length ws.length _).mono ?_;rintro _ st ⟨rfl,rfl⟩;unfold lenL;by_cases h0:cmpN us.length ws.length=0
 ·have hlen:=zQq.1 h0;simp only[go_sem,reduceCtorEq,i0 _ h0,ha.len];intro _;refine LoopC.ctr us.length (λk fr st' ds=>yVx (us.take k) (ws.take k)=0/\fr 0=.iv (.sl t xs)/\fr 1=.iv (.sl t' ys)/\fr 2=.iv (.fn (.func 125) [] [])/\fr 19=.iv (.raw (.int .i64 us.length))/\fr 20=.iv (.raw (.int .i64 k))/\st'=st/\ds=[]) ?_ ?_ ?_
  ·simp only[go_sem,zE,reduceCtorEq];exact⟨zZm,rfl⟩
  ·rintro k fr st1 _ hlt ⟨hn,f0,f1,f2,f19,f20,rfl,rfl⟩;obtain⟨a,hka⟩:=yQ4 hlt;obtain⟨b,hkb⟩:=yQ4 (l:=ws) (k:=k) (by omega);obtain⟨x,hkx,hx⟩:=ha.get hka;obtain⟨y,hky,hy⟩:=hb.get hkb;have hcall:=IH a (lMg hka) b x y hx hy st1;have htl:(us.take k).length=(ws.take k).length:=by rw[List.length_take,List.length_take];omega
   obtain⟨x1,x2,x3,x4,rfl⟩:=wU0 hx;obtain⟨y1,y2,y3,y4,rfl⟩:=wU0 hy;simp only[go_sem,zE,zB,zA,reduceCtorEq,f0,f1,f2,f19,f20,lt_i hlt,yQ2 ht,yQ2 ht',iNn,hkx,hky,fits];refine hcall.mono ?_;rintro _ _ ⟨rfl,rfl⟩;by_cases hc:zVu a b=0
   ·simp only[go_sem,zE,reduceCtorEq,i0 _ hc,f0,f1,f2,f19,f20,yQf hlt (show us.length<=281474976710656 by omega)];rw[yQ7 hka,yQ7 hkb,zQc zZm zZl _ _ _ _ htl,hn,zZl,zZm,hc];simp[lexI]
   ·simp only[go_sem,zE,i1 _ hc];refine yQ0 ⟨?_,rfl⟩;rw[h0];have h2:yVx us ws=zVu a b:=by
     conv=>lhs;rw[<- List.take_append_drop k us,<- List.take_append_drop k ws]
     rw[List.drop_eq_getElem_cons hlt,List.drop_eq_getElem_cons (show k<ws.length by omega),zQc zZm zZl _ _ _ _ htl,hn,zZl,(lGs hka).2,(lGs hkb).2];simp[lexI,hc]
    rw[h2];simp[lexI]
  ·rintro fr st1 _ ⟨hn,f0,f1,f2,f19,f20,rfl,rfl⟩;rw[lTl,show ws.take us.length=ws by rw[hlen,lTl]] at hn;simp only[go_sem,f19,f20,yQo (nLi _)];exact yQ0 ⟨by rw[h0,hn];simp[lexI],rfl⟩
 ·simp only[go_sem,zE,i1 _ h0];exact yQ0 ⟨by simp[lexI,h0],rfl⟩
theorem xZr (v:Bool)(n:ByteArray)(us:List Tm)(IH:∀a∈us,CmpT gl a):CmpT gl (.mk v n us):=by
 rintro⟨w,m,ws⟩ x y hx hy st;obtain⟨tx,cx,rfl,htx,hcx⟩:=hx.mk;obtain⟨ty,cy,rfl,hty,hcy⟩:=hy.mk;have hl:=λst=>xWz gl us IH ws tx ty cx cy htx hty hcx hcy st;simp only[zVu];refine iI func125 ?_;by_cases hv:v=w
 ·subst hv;simp only[go_sem,zE,zA,beq_self_eq_true];refine (xX9 gl n m _).mono ?_;rintro _ _ ⟨rfl,rfl⟩;by_cases h0:cmpB n m=0
  ·simp only[go_sem,zE,zA,i0 _ h0];refine (hl _).mono ?_;rintro _ _ ⟨rfl,rfl⟩;simp only[go_sem];exact yQ0 ⟨by simp[lexI,h0,lenL],rfl⟩
  ·simp only[go_sem,zE,i1 _ h0];exact yQ0 ⟨by simp[lexI,h0],rfl⟩
 ·cases v<;>cases w<;>first|exact absurd rfl hv|skip
  all_goals
   simp only[go_sem,zE,reduceCtorEq,beq_eq_false_iff_ne.2 hv];exact yQ0 ⟨by simp,rfl⟩
theorem zKw:∀(k:Nat)(t:Tm),SizeOf.sizeOf t<k->CmpT gl t
 | 0,t,h=>by omega
 | k+1,.mk v n us,h=>xZr gl v n us (λa ha=>zKw k a (by
   have:=lSm ha;simp at h;omega))
theorem wJ4 (t:Tm):CmpT gl t:=zKw gl _ t (Nat.lt_succ_self _)
theorem wW9 (us:List Fm)(IH:∀a∈us,CmpF gl a)(ws:List Fm)(t t':Tag)(xs ys:List IV)(ht:okEs t 4)(ht':okEs t' 4)(ha:IsFms us xs)(hb:IsFms ws ys)(st:ISt) :
  ICall prog gl 126 [.sl t xs,.sl t' ys,.fn (.func 94) [] []] st (λr st'=>r=.raw (.int .i64 (lenL yGk us ws))/\st'=st):=by
 refine iI func126 ?_;simp only[go_sem,zE,zA,reduceCtorEq,ha.len,hb.len];intro hla hlb;refine (xWf gl us.length ws.length _).mono ?_;rintro _ st ⟨rfl,rfl⟩;unfold lenL;by_cases h0:cmpN us.length ws.length=0
 ·have hlen:=zQq.1 h0;simp only[go_sem,reduceCtorEq,i0 _ h0,ha.len];intro _;refine LoopC.ctr us.length (λk fr st' ds=>yGk (us.take k) (ws.take k)=0/\fr 0=.iv (.sl t xs)/\fr 1=.iv (.sl t' ys)/\fr 2=.iv (.fn (.func 94) [] [])/\fr 19=.iv (.raw (.int .i64 us.length))/\fr 20=.iv (.raw (.int .i64 k))/\st'=st/\ds=[]) ?_ ?_ ?_
  ·simp only[go_sem,zE,reduceCtorEq];exact⟨zKz,rfl⟩
  ·rintro k fr st1 _ hlt ⟨hn,f0,f1,f2,f19,f20,rfl,rfl⟩;obtain⟨a,hka⟩:=yQ4 hlt;obtain⟨b,hkb⟩:=yQ4 (l:=ws) (k:=k) (by omega);obtain⟨x,hkx,hx⟩:=ha.get hka;obtain⟨y,hky,hy⟩:=hb.get hkb;have hcall:=IH a (lMg hka) b x y hx hy st1;have htl:(us.take k).length=(ws.take k).length:=by rw[List.length_take,List.length_take];omega
   obtain⟨x1,x2,x3,x4,x5,x6,rfl⟩:=hx.agg;obtain⟨y1,y2,y3,y4,y5,y6,rfl⟩:=hy.agg;simp only[go_sem,zE,zB,zA,reduceCtorEq,f0,f1,f2,f19,f20,lt_i hlt,yQ2 ht,yQ2 ht',iNn,hkx,hky,fits];refine hcall.mono ?_;rintro _ _ ⟨rfl,rfl⟩;by_cases hc:yYf a b=0
   ·simp only[go_sem,zE,reduceCtorEq,i0 _ hc,f0,f1,f2,f19,f20,yQf hlt (show us.length<=281474976710656 by omega)];rw[yQ7 hka,yQ7 hkb,zQc zKz zKy _ _ _ _ htl,hn,zKy,zKz,hc];simp[lexI]
   ·simp only[go_sem,zE,i1 _ hc];refine yQ0 ⟨?_,rfl⟩;rw[h0];have h2:yGk us ws=yYf a b:=by
     conv=>lhs;rw[<- List.take_append_drop k us,<- List.take_append_drop k ws]
     rw[List.drop_eq_getElem_cons hlt,List.drop_eq_getElem_cons (show k<ws.length by omega),zQc zKz zKy _ _ _ _ htl,hn,zKy,(lGs hka).2,(lGs hkb).2];simp[lexI,hc]
    rw[h2];simp[lexI]
  ·rintro fr st1 _ ⟨hn,f0,f1,f2,f19,f20,rfl,rfl⟩;rw[lTl,show ws.take us.length=ws by rw[hlen,lTl]] at hn;simp only[go_sem,f19,f20,yQo (nLi _)];exact yQ0 ⟨by rw[h0,hn];simp[lexI],rfl⟩
 ·simp only[go_sem,zE,i1 _ h0];exact yQ0 ⟨by simp[lexI,h0],rfl⟩
theorem xZs (o:Nat)(n:ByteArray)(us:List Tm)(sub:List Fm)(IH:∀a∈sub,CmpF gl a):CmpF gl (.mk o n us sub):=by
 rintro⟨w,m,ws,sub'⟩ x y hx hy st;obtain⟨t1,x1,t2,x2,rfl,_,e1,i1',e2,i2⟩:=hx.mk;obtain⟨t3,x3,t4,x4,rfl,_,e3,i3,e4,i4⟩:=hy.mk;have hl1:=λst=>xWz gl us (λa _=>wJ4 gl a) ws t1 t3 x1 x3 e1 e3 i1' i3 st;have hl2:=λst=>wW9 gl sub IH sub' t2 t4 x2 x4 e2 e4 i2 i4 st;simp only[yYf];refine iI func94 ?_;simp only[go_sem,zE,zA];refine (xYg gl o w _).mono ?_;rintro _ _ ⟨rfl,rfl⟩;by_cases h0:cmpN o w=0
 ·simp only[go_sem,zE,zA,i0 _ h0];refine (xX9 gl n m _).mono ?_;rintro _ _ ⟨rfl,rfl⟩;by_cases h1:cmpB n m=0
  ·simp only[go_sem,zE,zA,i0 _ h1];refine (hl1 _).mono ?_;rintro _ _ ⟨rfl,rfl⟩;by_cases h2:lenL yVx us ws=0
   ·simp only[go_sem,zE,zA,i0 _ h2];refine (hl2 _).mono ?_;rintro _ _ ⟨rfl,rfl⟩;simp only[go_sem];refine yQ0 ⟨?_,rfl⟩;unfold lenL at h2 ⊢;rw[h0,h1,h2];simp[lexI]
   ·simp only[go_sem,zE,i1 _ h2];refine yQ0 ⟨?_,rfl⟩;unfold lenL at h2 ⊢;rw[h0,h1];generalize lexI (cmpN us.length ws.length) (yVx us ws)=q at h2 ⊢;simp[lexI,h2]
  ·simp only[go_sem,zE,i1 _ h1];exact yQ0 ⟨by rw[h0];simp[lexI,h1],rfl⟩
 ·simp only[go_sem,zE,i1 _ h0];exact yQ0 ⟨by simp[lexI,h0],rfl⟩
theorem zKx:∀(k:Nat)(t:Fm),SizeOf.sizeOf t<k->CmpF gl t
 | 0,t,h=>by omega
 | k+1,.mk o n us sub,h=>xZs gl o n us sub (λa ha=>zKx k a (by
   have:=lSm ha;simp at h;omega))
theorem wJ5 (t:Fm):CmpF gl t:=zKx gl _ t (Nat.lt_succ_self _)
theorem zJs (a b:Fm)(x y:IV)(hx:IsFm a x)(hy:IsFm b y)(st:ISt):ICall prog gl 51 [x,y] st (λr st'=>r=.raw (.bool (decide (yYf a b=0)))/\st'=st):=by
 have hc:=λst=>wJ5 gl a b x y hx hy st;obtain⟨x1,x2,x3,x4,x5,x6,rfl⟩:=hx.agg;obtain⟨y1,y2,y3,y4,y5,y6,rfl⟩:=hy.agg;refine iI func51 ?_;simp only[go_sem,zE,zA,zL];refine (hc _).mono ?_;rintro _ _ ⟨rfl,rfl⟩;simp only[go_sem];exact yQ0 ⟨rfl,rfl⟩
end Go.Proofs.Tryz
namespace Go.Iv
open Go
def vY9 (s1:ISt)(y x:IV):Prop:=y=x\/∃x0,OI s1 y x0/\x=age x0
def LentsS (s1:ISt):List IV->List IV->Prop
 | [],xs=>xs=[]
 | y::ys,xs=>∃x xs',xs=x::xs'/\vY9 s1 y x/\LentsS s1 ys xs'
theorem LentsS.v {C:Cx}{X:WS}{s1 s0:ISt}(h:Good C X)(k:LendOk X.st s1 s0):∀ {ys xs:List IV} {rs:List Value},LentsS s1 ys xs->C.vl X rs ys->C.vl (X.lendS s1 s0) rs xs
 | [],xs,rs,hl,hv=>by
  simp only[LentsS] at hl;subst hl;obtain rfl:rs=[]:=List.eq_nil_of_length_eq_zero hv.1;exact VL.nil
 | y::ys,xs,rs,hl,hv=>by
  simp only[LentsS] at hl;obtain⟨x,xs',rfl,hx,hl⟩:=hl;cases rs with
  | nil=>have:=hv.1;simp at this
  | cons r rs =>
   have h1:=hv.2 0 r y rfl rfl;have h2:C.vl X rs ys:=⟨by have:=hv.1;simpa using this,λi a b ha hb=>hv.2 (i+1) a b (by simpa using ha) (by simpa using hb)⟩
   refine VL.cons ?_ (LentsS.v h k hl h2);rcases hx with rfl|⟨x0,ho,rfl⟩
   ·exact (h.lendS_ext k).v h1
   ·exact ho.v h k h1
theorem ICall.frz {P:Program}{gl:Nat->Option IV}{f:FuncId}{args args':List IV}{st s1 s0:ISt}{K:IV->ISt->Prop}(k:LendOk st s1 s0)(hl:LentsS s1 args args')(h:ICall P gl f args' s0 K):ICall P gl f args st K:=by
 intro B X rs hg hst hv;subst hst;refine (h B (X.lendS s1 s0) rs (hg.lendS k) rfl (hl.v hg k hv)).mono ?_;rintro e w' ⟨v,rfl,X',x,h1,h2,h3,h4,h5⟩;exact⟨v,rfl,X',x,h1,h2,(hg.lendS_ext k).trans h3,h4,h5⟩
theorem xW8 {st:ISt}{b:Nat}{cs:List IV}(h:st b=some (.box cs)):LendOk st (ISt.put (λ_=>none) b (some (.box cs))) (st.put b none):=by
 refine⟨λc o hc=>?_,λc o hc=>?_,λc cs' hc=>?_⟩
 ·rw[ISt.put_apply] at hc;split at hc
  ·rename_i hb;rw[hb,h];exact hc
  ·cases hc
 ·rw[ISt.put_apply] at hc;split at hc
  ·cases hc
  ·exact hc
 ·rw[ISt.put_apply] at hc ⊢;split at hc
  ·rename_i hb;rw[if_pos hb]
  ·cases hc
theorem LentsS.same (s1:ISt):∀l:List IV,LentsS s1 l l
 | []=>rfl
 | a::l=>⟨a,l,rfl,.inl rfl,LentsS.same s1 l⟩
theorem ICall.frz1 {P:Program}{gl:Nat->Option IV}{f:FuncId}{b:Nat}{cs args:List IV}{st:ISt}{K:IV->ISt->Prop}(hb:st b=some (.box cs))(h:ICall P gl f (.cptr (.agg (ages cs))::args) (st.put b none) K) :
  ICall P gl f (.raw (.pointer (some ⟨b,0,none⟩))::args) st K:=by
 refine ICall.frz (xW8 hb) ⟨_,_,rfl,.inr ⟨.cptr (.agg cs),?_,by simp only[age]⟩,LentsS.same _ _⟩ h;exact .ptr b (.agg cs) cs (ISt.put_same ..) rfl λi r c hr hc=>by
   rw[show (IV.agg cs).cells=cs from rfl,hr] at hc;cases hc;exact .refl _
theorem LentsS.last {s1:ISt}{y x:IV}(h:vY9 s1 y x):∀l:List IV,LentsS s1 (l++[y]) (l++[x])
 | []=>⟨x,[],rfl,h,rfl⟩
 | a::l=>⟨a,l++[x],rfl,.inl rfl,LentsS.last h l⟩
theorem ICall.frzSl {P:Program}{gl:Nat->Option IV}{f:FuncId}{pre:List IV}{g n cap es:Nat}{cs zs:List IV}{st:ISt}{K:IV->ISt->Prop}(hst:st g=some (.box cs))(hn:zs.length=n)(hcap:n<=cap)(hroom:cap*es<=cs.length)
  (hz:∀z∈zs,z.cells.length=es) (hcs:cs.take (n*es)=zs.flatMap IV.cells) (hlen:n<=140737488355328) (h:ICall P gl f (pre++[.sl ⟨false,.app g,es⟩ (ages zs)]) (st.put g none) K) :
  ICall P gl f (pre++[.raw (.slice (some ⟨g,0,none⟩) n cap)]) st K:=by
 subst hn;refine ICall.frz (xW8 hst) (LentsS.last (.inr ⟨.sl ⟨true,.app g,es⟩ zs,?_,by simp only[age]⟩) pre) h;refine .sl g cap ⟨true,.app g,es⟩ zs cs rfl hlen hcap hz (ISt.put_same ..) hroom λi r c hr hc=>?_;have hi:i<zs.length*es:=by
  have:=(lGs hc).1
  rwa [yZg _ hz] at this
 have:(cs.take (zs.length*es))[i]?=cs[i]?:=by rw[List.getElem?_take,if_pos hi]
 rw[hcs,hc,hr] at this;cases this;exact .refl _
end Go.Iv
namespace Go.Proofs.Tryz
open Go Go.Iv
set_option maxRecDepth 4000
variable (gl:Nat->Option IV)
theorem wWu (g:FuncId)(caps:List IV)(he:entI prog g=true)(us:List Mk)(p:Mk->Bool)(st:ISt)(hp:∀a∈us,∀x,IsMk a x->ICall prog gl g (x::caps) st (λr st'=>r=.raw (.bool (p a))/\st'=st))
  (tg:Tag) (xs:List IV) (htg:okEs tg 6) (hxs:IsMks us xs) :
  ICall prog gl 218 [.sl tg xs,.fn (.func g) [] caps] st (λr st'=>(∃n:Int,r=.raw (.int .i64 n)/\decide (0<=n)=us.any p)/\st'=st):=by
 refine iI func218 ?_;simp only[go_sem,zE,zB,zA,zM,zS,zL,reduceCtorEq,hxs.len];intro _;refine LoopC.ctr us.length (λk fr st' ds=>(us.take k).any p=false/\fr 0=.iv (.sl tg xs)/\fr 1=.iv (.fn (.func g) [] caps)/\fr 7=.iv (.raw (.int .i64 us.length))/\fr 8=.iv (.raw (.int .i64 k))/\st'=st/\ds=[]) ?_ ?_ ?_
 ·simp only[go_sem,zE,zB,zA,zM,zS,zL,reduceCtorEq];exact⟨rfl,rfl⟩
 ·rintro k fr st1 _ hlt ⟨hn,f0,f1,f7,f8,rfl,rfl⟩;obtain⟨a,ha⟩:=yQ4 hlt;obtain⟨y,hky,hy⟩:=hxs.get ha;have hcall:=hp a (lMg ha) y hy;obtain⟨_,_,_,_,_,_,rfl⟩:=hy.agg;simp only[go_sem,zE,zB,zA,zM,zS,zL,reduceCtorEq,f0,f1,f7,f8,lt_i hlt,yQ2 htg,iNn,hky,fits,he];refine hcall.mono ?_;rintro _ _ ⟨rfl,rfl⟩;cases hr:p a
  ·simp only[go_sem,zE,zB,zA,zM,zS,zL,reduceCtorEq,f0,f1,f7,f8,yQf hlt (show us.length<=281474976710656 by omega)];rw[yQ7 ha,List.any_append,hn];simp[hr]
  ·simp only[go_sem,zE,zB,zA,zM,zS,zL,reduceCtorEq];refine yQ0 ⟨⟨_,rfl,?_⟩,rfl⟩;rw[dEt (iNn k)];exact (List.any_eq_true.2 ⟨a,lMg ha,hr⟩).symm
 ·rintro fr st1 _ ⟨hn,f0,f1,f7,f8,rfl,rfl⟩;rw[lTl] at hn;simp only[go_sem,zE,zB,zA,zM,zS,zL,reduceCtorEq,f7,f8,yQo (nLi _)];exact yQ0 ⟨⟨_,rfl,by rw[hn];rfl⟩,rfl⟩
theorem yUs (g:FuncId)(caps:List IV)(he:entI prog g=true)(us:List Mk)(p:Mk->Bool)(st:ISt)(hp:∀a∈us,∀x,IsMk a x->ICall prog gl g (x::caps) st (λr st'=>r=.raw (.bool (p a))/\st'=st))
  (tg:Tag) (xs:List IV) (htg:okEs tg 6) (hxs:IsMks us xs) :
  ICall prog gl 181 [.sl tg xs,.fn (.func g) [] caps] st (λr st'=>r=.raw (.bool (us.any p))/\st'=st):=by
 refine iI func181 ?_;simp only[go_sem,zE,zB,zA,zM,zS,zL,reduceCtorEq];refine (wWu gl g caps he us p _ hp tg xs htg hxs).mono ?_;rintro _ _ ⟨⟨n,rfl,hn⟩,rfl⟩;simp only[go_sem,zE,zB,zA,zM,zS,zL,reduceCtorEq,hn];exact yQ0 ⟨rfl,rfl⟩
theorem vKq {a b:Mk}(h:a.f.op≠b.f.op):decide (yYf a.f b.f=0)=false:=dEf λhc=>h (by rw[(zJ2 _ _).1 hc])
theorem wJc (a m:Mk)(y x:IV)(hy:IsMk a y)(hx:IsMk m x)(st:ISt):ICall prog gl 182 [y,.cptr x] st (λr st'=>r=.raw (.bool (mkB a m))/\st'=st):=by
 obtain⟨i,w,f⟩:=a;obtain⟨i',w',f'⟩:=m;obtain⟨o5,n5,t5,x5,t6,x6,rfl,h1⟩:=hy;obtain⟨o7,n7,t7,x7,t8,x8,rfl,h2⟩:=hx;have hs:=λst=>zJs gl f f' _ _ h1 h2 st;have hop:mkB ⟨i,w,f⟩ ⟨i',w',f'⟩=(i == i'&&decide (w=w')&&decide (o5=o7)&&decide (yYf f f'=0)):=by
  have e1:=h1;have e2:=h2;obtain⟨o,n,us,sub⟩:=f;obtain⟨o',n',us',sub'⟩:=f';obtain⟨_,_,_,_,he,_⟩:=e1.mk;obtain⟨_,_,_,_,he',_⟩:=e2.mk;simp only[IV.agg.injEq,List.cons.injEq,IV.raw.injEq,Value.int.injEq,true_and] at he he';rw[he.1,he'.1];unfold mkB;by_cases ho:o=o'
  ·subst ho;simp
  ·rw[vKq (a:=⟨i,w,.mk o n us sub⟩) (b:=⟨i',w',.mk o' n' us' sub'⟩) ho,Bool.and_false,Bool.and_false]
 rw[hop];refine iI func182 ?_;by_cases hi:i=i'
 ·subst hi;by_cases hw:w=w'
  ·subst hw;by_cases ho:o5=o7
   ·subst ho;simp only[go_sem,zE,zB,zA,zM,zS,zL,reduceCtorEq,fits,decide_true];refine (hs _).mono ?_;rintro _ _ ⟨rfl,rfl⟩;simp only[go_sem,zE,zB,zA,zM,zS,zL,reduceCtorEq];exact yQ0 ⟨by simp,rfl⟩
   ·simp only[go_sem,zE,zB,zA,zM,zS,zL,reduceCtorEq,fits,decide_true,dEf ho];exact yQ0 ⟨by simp[ho],rfl⟩
  ·simp only[go_sem,zE,zB,zA,zM,zS,zL,reduceCtorEq,fits,dEf hw];exact yQ0 ⟨by simp[hw],rfl⟩
 ·have hb:(i == i')=false:=by simp[hi]
  simp only[go_sem,zE,zB,zA,zM,zS,zL,reduceCtorEq,fits,hb];exact yQ0 ⟨rfl,rfl⟩
def appN (n:Nat)(t:Tag):Prop:=(n=0/\t.cap=.nil)\/(0<n/\∃g,t.cap=.app g)
theorem zGn:∀ {l:List Mk}{xs:List IV},IsMks l xs->xs.all (fits true 6)=true
 | [],_,rfl=>rfl
 | a::l,_,⟨y,ys,rfl,hy,h⟩=>by
  obtain⟨_,_,_,_,_,_,rfl⟩:=hy.agg;rw[List.all_cons,zGn h];simp[fits,IV.one]
def brI (tb:Nat)(t:Tag)(xs:List IV)(t':Tag)(v:Int):List IV:=[.raw (.int .u8 1),.raw (.map (some tb)),.sl t xs,.sl t' [.raw (.int .i64 v)]]
def IsBr (l:List Mk)(tb:Nat)(x:IV):Prop:=∃t xs t' v,x=.agg (brI tb t xs t' v)/\okEs t 6/\appN l.length t/\IsMks l xs/\okEs t' 1/\t'.cap≠.nil
theorem wJa (l:List Mk)(tb:Nat)(x:IV)(hx:IsBr l tb x)(m:Mk)(y:IV)(hy:IsMk m y)(st:ISt):ICall prog gl 152 [.cptr x,y] st (λr st'=>r=.raw (.bool (hasT l m))/\st'=st):=by
 obtain⟨t,xs,t',v,rfl,ht,_,hxs,_⟩:=hx;have h1:=λst=>yUs gl 182 [.cptr y] (by simp only[go_sem]) l (λa=>mkB a m) st (λa _ x hx=>wJc gl a m x y hx hy st) t xs ht hxs;obtain⟨_,_,_,_,_,_,rfl⟩:=hy.agg;refine ICall.intro (c:=cf prog gl [] [] [3]) func152 rfl (by show _<=11;simp) (by kernel_rfl) ?_;simp only[go_sem,zE,zB,zA,zM,zS,zL,reduceCtorEq,fits,brI];refine (h1 _).mono ?_;rintro _ _ ⟨rfl,rfl⟩;simp only[go_sem,zE,zB,zA,zM,zS,zL,reduceCtorEq];exact yQ0 ⟨rfl,rfl⟩
theorem vWp (l:List Mk)(tb b:Nat)(t:Tag)(xs:List IV)(t':Tag)(v:Int)(ht:okEs t 6)(hxs:IsMks l xs)(m:Mk)(y:IV)(hy:IsMk m y)(st:ISt)(hb:st b=some (.box (brI tb t xs t' v))) :
  ICall prog gl 152 [.raw (.pointer (some ⟨b,0,none⟩)),y] st (λr st'=>r=.raw (.bool (hasT l m))/\st'=st):=by
 have h1:=λst=>yUs gl 182 [.cptr y] (by simp only[go_sem]) l (λa=>mkB a m) st (λa _ x hx=>wJc gl a m x y hx hy st) t xs ht hxs;obtain⟨_,_,_,_,_,_,rfl⟩:=hy.agg;unfold brI at hb;refine ICall.intro (c:=cf prog gl [] [] [3]) func152 rfl (by show _<=11;simp) (by kernel_rfl) ?_;simp only[go_sem,zE,zB,zA,zM,zS,zL,reduceCtorEq,fits,hb];refine (h1 _).mono ?_;rintro _ _ ⟨rfl,rfl⟩;simp only[go_sem,zE,zB,zA,zM,zS,zL,reduceCtorEq];exact yQ0 ⟨rfl,rfl⟩
theorem xX2 (l:List Mk)(tb:Nat)(x:IV)(hx:IsBr l tb x)(m:Mk)(y:IV)(hy:IsMk m y)(st:ISt):ICall prog gl 154 [.cptr x,y] st (λr st'=>r=.raw (.bool (yVy l m))/\st'=st):=by
 obtain⟨i,w,f⟩:=m;have hy0:=hy;obtain⟨o5,n5,t5,x5,t6,x6,rfl,h1⟩:=hy;have hop:(f.op:Int)=o5:=by
  obtain⟨o,n,us,sub⟩:=f;obtain⟨_,_,_,_,he,_⟩:=h1.mk;simp only[IV.agg.injEq,List.cons.injEq,IV.raw.injEq,Value.int.injEq,true_and] at he;exact he.1.symm
 have hh:=λst=>wJa gl l tb x hx ⟨!i,w,f⟩ _ ⟨_,_,_,_,_,_,rfl,h1⟩ st;unfold yVy;refine iI func154 ?_;cases i
 ·simp only[go_sem,zE,zB,zA,zM,zS,zL,reduceCtorEq,fits];refine (hh _).mono ?_;rintro _ _ ⟨rfl,rfl⟩;simp only[go_sem,zE,zB,zA,zM,zS,zL,reduceCtorEq];exact yQ0 ⟨by simp,rfl⟩
 ·by_cases ho:o5=2
  ·simp only[go_sem,zE,zB,zA,zM,zS,zL,reduceCtorEq,fits,dEt ho];exact yQ0 ⟨by simp[show f.op=2 by omega],rfl⟩
  ·simp only[go_sem,zE,zB,zA,zM,zS,zL,reduceCtorEq,fits,dEf ho];refine (hh _).mono ?_;rintro _ _ ⟨rfl,rfl⟩;simp only[go_sem,zE,zB,zA,zM,zS,zL,reduceCtorEq];exact yQ0 ⟨by simp[show ¬ f.op=2 by omega],rfl⟩
def BrSt (S0:ISt)(b tb:Nat)(l:List Mk)(t':Tag)(v:Int)(st:ISt):Prop:=∃t xs,st b=some (.box (brI tb t xs t' v))/\IsMks l xs/\own st t l.length 6 S0/\appN l.length t/\subSt S0 st/\S0 b=none
theorem wJf (S0:ISt)(b tb:Nat)(l:List Mk)(t':Tag)(v:Int)(st:ISt)(hs:BrSt S0 b tb l t' v st)(hl:l.length<=1000000)(m:Mk)(y:IV)(hy:IsMk m y) :
  ICall prog gl 109 [.raw (.pointer (some ⟨b,0,none⟩)),y] st (λ_ st'=>BrSt S0 b tb (addT l m) t' v st'):=by
 obtain⟨t,xs,hb,hxs,hown,hap,hsub,hS⟩:=hs;have hh:=vWp gl l tb b t xs t' v hown.es hxs m y hy st hb;have hy0:=hy;obtain⟨o5,n5,t5,x5,t6,x6,rfl,h1⟩:=hy;unfold addT;refine ICall.intro (c:=cf prog gl [12] []) func109 rfl (by show _<=18;simp) (by kernel_rfl) ?_;simp only[go_sem,zE,zB,zA,zM,zS,zL,reduceCtorEq];refine hh.mono ?_;rintro _ st ⟨rfl,rfl⟩;cases hq:hasT l m
 ·unfold brI at hb;simp only[go_sem,zE,zB,zA,zM,zS,zL,reduceCtorEq,fits,hb,yQ1];refine yJ8 hown hxs.len hsub rfl (by simp[fits,IV.one]) (by simp only;omega) (by omega) λtg2 st4 hown2 hsub4 hk hap2=>?_;have hb4:=hk b _ hb (λn h=>by cases h);simp only[go_sem,zE,zB,zA,zM,zS,zL,reduceCtorEq,fits,hb4];refine yQ0 ⟨tg2,_,ISt.put_same ..,hxs.append (IsMks.one hy0),?_,.inr ⟨by simp,?_⟩,yZ3 hsub4 hS,hS⟩
  ·rw[lLa];exact hown2.mono λg hg hg0=>by
    rw[yQa (λhc=>?_)]
    ·exact hg
    ·rw[hc,hb4] at hg;cases hg
  ·rcases hap2 with h|⟨_,_,h⟩
   ·rcases hown2 with⟨h0,_⟩|rfl|⟨g,rfl,_⟩
    ·omega
    ·cases h
    ·cases h
   ·exact h
 ·simp only[go_sem,zE,zB,zA,zM,zS,zL,reduceCtorEq];exact yQ0 ⟨t,xs,hb,hxs,hown,hap,hsub,hS⟩
theorem wWv (l:List Mk)(t:Tag)(xs:List IV)(ht:okEs t 6)(ha:appN l.length t)(hxs:IsMks l xs)(hl:l.length<=1000000)(st:ISt) :
  ICall prog gl 156 [.sl t xs] st (λr st'=>∃t' ,r=.sl t' xs/\own st' t' l.length 6 st/\appN l.length t'/\subSt st st'):=by
 have hlen:=hxs.len;have hall:xs.all (fits true 6)=true:=zGn hxs;rcases ha with⟨h0,hc⟩|⟨h0,g,hc⟩
 ·obtain⟨fs,c,es⟩:=t;obtain rfl:c=.nil:=hc;obtain rfl:xs=[]:=List.eq_nil_of_length_eq_zero (by omega);have hb:binV prog 79 .eql (.sl ⟨fs,.nil,es⟩ []) (.sl ⟨true,.nil,0⟩ [])=some (.raw (.bool true)):=by
   have:yW4 prog 79=true:=by kernel_rfl
   simp[binV,zQy,this]
  refine iI func156 ?_;simp only[go_sem,zE,zB,zA,zM,zS,zL,reduceCtorEq,fits,hb];exact yQ0 ⟨_,rfl,.inl ⟨h0,rfl⟩,.inl ⟨h0,rfl⟩,subSt.refl _⟩
 ·obtain⟨fs,c,es⟩:=t;obtain rfl:c=.app g:=hc;have hb:binV prog 79 .eql (.sl ⟨fs,.app g,es⟩ xs) (.sl ⟨true,.nil,0⟩ [])=some (.raw (.bool false)):=by
   have:yW4 prog 79=true:=by kernel_rfl
   simp[binV,zQy,this]
  refine iI func156 ?_;obtain⟨x,xs',rfl⟩:∃x xs',xs=x::xs':=by
   cases xs with
   | nil=>rw[List.length_nil] at hlen;omega
   | cons x xs'=>exact⟨_,_,rfl⟩
  simp only[go_sem,zE,zB,zA,zM,zS,zL,reduceCtorEq,fits,hb,show yKg 0 []=true from rfl];rw[List.length_cons] at hlen;refine yQy hall (yQy ⟨by omega,by omega⟩ λg'=>yQb λhg=>?_);exact yQ0 ⟨_,rfl,.inr (.inr ⟨g',rfl,by rw[ISt.put_same,hlen],hg⟩),.inr ⟨h0,g',rfl⟩,yQg hg⟩
theorem wVv (t:Tag)(v:Int)(ht:t.cap≠.nil)(st:ISt):ICall prog gl 62 [.sl t [.raw (.int .i64 v)]] st (λr st'=>∃t',r=.sl t' [.raw (.int .i64 v)]/\okEs t' 1/\t'.cap≠.nil/\st'=st):=by
 have hb:binV prog 55 .eql (.sl t [.raw (.int .i64 v)]) (.sl ⟨true,.nil,0⟩ [])=some (.raw (.bool false)):=by
  have:yW4 prog 55=true:=by kernel_rfl
  obtain⟨fs,c,es⟩:=t;cases c<;>first|exact absurd rfl ht|simp[binV,zQy,this]
 refine iI func62 ?_;simp only[go_sem,zE,zB,zA,zM,zS,zL,reduceCtorEq,fits,hb,show yKg 0 []=true from rfl];refine λg'=>yQb λhg=>?_;exact yQc (yQg hg) ⟨_,rfl,.inr rfl,by simp,rfl⟩
theorem zYg (l q:List Mk)(a:Mk):yZ9 l (q++[a])=addT (yZ9 l q) a:=by unfold yZ9;rw[List.foldl_append];rfl
theorem yX9:∀(q l:List Mk),(yZ9 l q).length<=l.length+q.length
 | [],l=>by simp[yZ9]
 | a::q,l=>by
  have h1:=yX9 q (addT l a);have h2:=wWk (l:=l) (m:=a);show (yZ9 (addT l a) q).length<=_;rw[List.length_cons];omega
theorem BrSt.br {S0 st:ISt}{b tb:Nat}{l:List Mk}{t':Tag}{v:Int}(h:BrSt S0 b tb l t' v st)(ht:okEs t' 1)(hc:t'.cap≠.nil):subSt S0 st/\∃t xs,st b=some (.box (brI tb t xs t' v))/\IsBr l tb (.agg (brI tb t xs t' v)):=by
 obtain⟨t,xs,hb,hxs,hown,hap,hsub,_⟩:=h;exact⟨hsub,t,xs,hb,t,xs,t',v,rfl,hown.es,hap,hxs,ht,hc⟩
def wQg (X:IV)(tb:Nat)(t:Tag)(xs:List IV)(t':Tag)(v:Int)(t2 t3:Tag)(b:Nat):List (Nat×IV) :=
 [(10,.cptr X),(11,.cptr X),(12,.cptr (.agg [.raw (.int .u8 1),.raw (.map (some tb))])),(13,.agg [.raw (.int .u8 1),.raw (.map (some tb))]),(14,.cptr X),(15,.cptr X),(16,.cptr (.sl t xs)),(17,.sl t xs),(18,.sl t2 xs),
  (19,.cptr X),(20,.cptr X),(21,.cptr (.sl t' [.raw (.int .i64 v)])),(22,.sl t' [.raw (.int .i64 v)]),(23,.sl t3 [.raw (.int .i64 v)]),(24,.agg (brI tb t2 xs t3 v)),(7,.raw (.pointer (some ⟨b,0,none⟩)))]
def dstB (i:Nat):Nat:=if i=15 then 7 else 10+i
theorem yKq {X:IV}{tb:Nat}{t:Tag}{xs:List IV}{t':Tag}{v:Int}{t2 t3:Tag}{b i d:Nat}{z:IV}(h:(wQg X tb t xs t' v t2 t3 b)[i]?=some (d,z)):i<16/\d=dstB i:=by
 have hi:i<16:=(lGs h).1;refine⟨hi,?_⟩;rcases (show i=0\/i=1\/i=2\/i=3\/i=4\/i=5\/i=6\/i=7\/i=8\/i=9\/i=10\/i=11\/i=12\/i=13\/i=14\/i=15 by omega) with rfl|rfl|rfl|rfl|rfl|rfl|rfl|rfl|rfl|rfl|rfl|rfl|rfl|rfl|rfl|rfl<;>cases h<;>rfl
def boxZ:List IV:=[.raw (.int .u8 0),.raw (.map none),.sl ⟨true,.nil,0⟩ [],.sl ⟨true,.nil,0⟩ []]
def FB (X:IV)(tg:Tag)(zs ym:List IV)(fr:Fr):Prop:=fr 0=.iv (.cptr X)/\fr 2=.iv (.sl tg zs)/\fr 4=.box ym/\fr 6=.box boxZ
theorem FB.put {X:IV}{tg:Tag}{zs ym:List IV}{fr:Fr}(h:FB X tg zs ym fr){d:Nat}(hd:7<=d)(z:SV):FB X tg zs ym (fr.put d z):=by
 obtain⟨h1,h2,h3,h4⟩:=h;refine⟨?_,?_,?_,?_⟩<;>rw[Fr.put_apply,if_neg (by omega)]<;>assumption
def BelJ (X:IV)(tb:Nat)(t:Tag)(xs:List IV)(t':Tag)(v:Int)(n:Nat)(tg:Tag)(zs ym:List IV)(st:ISt)(listed:Array Bool):Kt:=λad fr st' ds=>(∀s,ad s=none)/\ds=[]/\FB X tg zs ym fr/\∃t2 t3 b s1,
 ((listed.getD 8 false=true/\own s1 t2 n 6 st/\appN n t2/\subSt st s1)\/(listed.getD 8 false=false/\s1=st)) /\
 (listed.getD 13 false=true->okEs t3 1/\t3.cap≠.nil) /\
 ((listed.getD 15 false=true/\s1 b=none/\st'=s1.put b (some (.box (if listed.getD 16 false=true then brI tb t2 xs t3 v else boxZ))))\/(listed.getD 15 false=false/\st'=s1)) /\
 (listed.getD 16 false=true->listed.getD 14 false=true/\listed.getD 15 false=true)/\(listed.getD 14 false=true->listed.getD 13 false=true/\listed.getD 8 false=true) /\
 ∀i,listed.getD i false=true->∀d z,(wQg X tb t xs t' v t2 t3 b)[i]?=some (d,z)->fr d=.iv z
theorem wW4 {i j:Nat}(hi:i<16)(hj:j<16)(h:dstB i=dstB j):i=j:=by
 unfold dstB at h;split at h<;>split at h<;>omega
theorem yVb {L L':List (Nat×IV)}(hL:∀i d z,L'[i]?=some (d,z)->i<16/\d=dstB i){i d:Nat}{z:IV}{listed:Array Bool}{fr:Fr}(hz:listed.size=17)(hi:i<16)(hs:L'[i]?=some (d,z))(hk:∀j,j≠i->listed.getD j false=true->L'[j]?=L[j]?)
  (h:∀j,listed.getD j false=true->∀d z,L[j]?=some (d,z)->fr d=.iv z) :
  ∀j,(listed.setIfInBounds i true).getD j false=true->∀d' z',L'[j]?=some (d',z')->fr.put d (.iv z) d'=.iv z':=by
 intro j hl d' z' hs';rw[Fr.put_apply];by_cases hij:i=j
 ·subst hij;rw[hs] at hs';cases hs';rw[if_pos rfl]
 ·obtain⟨hj,rfl⟩:=hL j d' z' hs';obtain⟨_,rfl⟩:=hL i d z hs;rw[if_neg (λhc=>hij (wW4 hi hj hc.symm))];rw[yQp (by omega),if_neg hij] at hl;exact h j hl _ _ (by rw[<- hk j (Ne.symm hij) hl];exact hs')
theorem zZt {ad:Ad}(h:∀s,ad s=none)(d:Nat):∀s,ad.put d none s=none:=λs=>by
 rw[Ad.put_apply,h s];split<;>rfl
theorem yJo {X:IV}{tb:Nat}{t:Tag}{xs:List IV}{t':Tag}{v:Int}{n:Nat}{tg:Tag}{zs ym:List IV}{st st1:ISt}{listed:Array Bool}{ad:Ad}{fr:Fr}{ds:List Dfd}{i d:Nat}{z:IV}(hz:listed.size=17)
  (h:BelJ X tb t xs t' v n tg zs ym st listed ad fr st1 ds) (h1:i<13) (h2:i≠8) (hs:∀t2 t3 b,(wQg X tb t xs t' v t2 t3 b)[i]?=some (d,z)):BelJ X tb t xs t' v n tg zs ym st (listed.setIfInBounds i true) (ad.put d none) (fr.put d (.iv z)) st1 ds:=by
 obtain⟨had,rfl,hF,t2,t3,b,s1,a1,a2,a3,a4,a5,a6⟩:=h;have hd:=(yKq (hs t2 t3 b)).2;have st':∀j,i≠j->(listed.setIfInBounds i true).getD j false=listed.getD j false:=λj hj=>by rw[yQp (by omega),if_neg hj]
 refine⟨zZt had _,rfl,hF.put (by rw[hd];unfold dstB;split<;>omega) _,t2,t3,b,s1,?_,?_,?_,?_,?_,yVb (λ_ _ _ h=>yKq h) hz (by omega) (hs t2 t3 b) (λ_ _ _=>rfl) a6⟩
 ·rw[st' 8 (by omega)];exact a1
 ·rw[st' 13 (by omega)];exact a2
 ·rw[st' 15 (by omega),st' 16 (by omega)];exact a3
 ·rw[st' 14 (by omega),st' 15 (by omega),st' 16 (by omega)];exact a4
 ·rw[st' 14 (by omega),st' 13 (by omega),st' 8 (by omega)];exact a5
theorem wVc {st2 st:ISt}{t:Tag}{n s b:Nat}{o:IObj}(h:own st2 t n s (st.put b (some o))):own (st2.put b none) t n s st:=by
 rcases h with h|h|⟨g,h1,h2,h3⟩
 ·exact .inl h
 ·exact .inr (.inl h)
 ·have hg:g≠b:=λhc=>by rw[hc,ISt.put_same] at h3;cases h3
  exact .inr (.inr ⟨g,h1,by rw[yQa hg];exact h2,by rw[yQa hg] at h3;exact h3⟩)
theorem wKr {st2 st:ISt}{b:Nat}{o:IObj}(h:subSt (st.put b (some o)) st2)(hb:st b=none):subSt st (st2.put b none):=λc x hc=>by
 have hcb:c≠b:=λhq=>by rw[hq,hb] at hc;cases hc
 rw[yQa hcb];exact h c x (by rw[yQa hcb];exact hc)
theorem wVa {st2:ISt}{b:Nat}{o:IObj}(h:st2 b=some o):(st2.put b none).put b (some o)=st2:=by
 funext c;simp only[ISt.put_apply];split
 ·subst_vars;exact h.symm
 ·rfl
theorem zXm {X:IV}{tb:Nat}{t:Tag}{xs:List IV}{t':Tag}{v:Int}{t2 t3 t2' t3':Tag}{b b':Nat}(j:Nat)(h8:t2=t2'\/(j≠8/\j≠14))(h13:t3=t3'\/(j≠13/\j≠14))(h15:b=b'\/j≠15):(wQg X tb t xs t' v t2 t3 b)[j]?=(wQg X tb t xs t' v t2' t3' b')[j]?:=by
 by_cases hj:j<16
 ·rcases (show j=0\/j=1\/j=2\/j=3\/j=4\/j=5\/j=6\/j=7\/j=8\/j=9\/j=10\/j=11\/j=12\/j=13\/j=14\/j=15 by omega) with rfl|rfl|rfl|rfl|rfl|rfl|rfl|rfl|rfl|rfl|rfl|rfl|rfl|rfl|rfl|rfl
  all_goals first|rfl|(simp at h8 h13 h15;subst_vars;rfl)
 ·rw[List.getElem?_eq_none (by show 16<=j;omega),List.getElem?_eq_none (by show 16<=j;omega)]
theorem wJd (l:List Mk)(tb:Nat)(x:IV)(hx:IsBr l tb x)(m:Mk)(y:IV)(hy:IsMk m y)(hm:m.f.op<=7)(q:List Mk)(tg:Tag)(zs:List IV)(htg:okEs tg 6)(hzs:IsMks q zs)(hl:l.length+q.length<=1000000)(st:ISt)(es:List (Value×IV))(hb:st tb=some (.map .sg es))(ht:zXj es) :
  ICall prog gl 112 [.cptr x,y,.sl tg zs] st (λr st'=>IsBr (yZ9 l q) tb r/\st'=st):=by
 obtain⟨t,xs,t',v,rfl,ht6,hap,hxs,ht1,htc⟩:=hx;have hfind:=λst hb=>zJj gl m y hy st tb es hb ht;have hk4:decide (((yZw m).1:Int)=4)=false:=dEf (by
  by_cases h0:(yZw m).1=0
  ·omega
  ·obtain⟨r,hr,_,hT⟩:=yWu h0;have:=(zJ3 gl hr hm).2.2.1;rw[hT];omega)
 obtain⟨oy,ny,ty,xy,ty',xy',rfl⟩:=hy.agg;refine ICall.intro (c:=cf prog gl [7] [(1,[])]) func112 rfl (by show _<=51;simp) (by kernel_rfl) ?_;simp only[go_sem,zE,zB,zA,zM,zS,zL,reduceCtorEq,fits,brI];rw[yKx];refine yJf (BelJ (.agg (brI tb t xs t' v)) tb t xs t' v l.length tg zs [.raw (.bool m.is),.raw (.int .i64 m.w),.raw (.int .u8 oy),.raw (.string ny),.sl ty xy,.sl ty' xy'] st) ?_ ?_ _ _ _ _ _ _ rfl ?_
 ·intro listed ad fr st1 ds hz hJ i hi;replace hz:listed.size=17:=hz;obtain⟨h0,o,ho,hdep⟩:=mem_ready.1 hi;have his:i<17:=(Array.getElem?_eq_some_iff.1 ho).1;have hfl:listed.getD i false=false:=by
   rw[Array.getD_eq_getD_getElem?,Array.getElem?_eq_getElem (by omega)] at h0 ⊢;exact h0
  have hJ':=hJ;obtain⟨had,rfl,hF,t2,t3,b,s1,a1,a2,a3,a4,a5,a6⟩:=hJ';rcases (show i=0\/i=1\/i=2\/i=3\/i=4\/i=5\/i=6\/i=7\/i=8\/i=9\/i=10\/i=11\/i=12\/i=13\/i=14\/i=15\/i=16 by omega) with rfl|rfl|rfl|rfl|rfl|rfl|rfl|rfl|rfl|rfl|rfl|rfl|rfl|rfl|rfl|rfl|rfl
  all_goals obtain rfl:=Option.some.inj ho
  ·simp only[go_sem,zE,zB,zA,zM,zS,zL,reduceCtorEq,yQ5,had,hF.1];exact yJo hz hJ (by decide) (by decide) λ_ _ _=>rfl
  ·have d1:=hdep ⟨0,.data⟩ (by simp) rfl;have f1:=a6 0 d1 _ _ rfl;simp only[go_sem,zE,zB,zA,zM,zS,zL,reduceCtorEq,yQ5,had,f1,fits];exact yJo hz hJ (by decide) (by decide) λ_ _ _=>rfl
  ·have d1:=hdep ⟨1,.data⟩ (by simp) rfl;have f1:=a6 1 d1 _ _ rfl;simp only[go_sem,zE,zB,zA,zM,zS,zL,reduceCtorEq,yQ5,had,f1,fits];exact yJo hz hJ (by decide) (by decide) λ_ _ _=>rfl
  ·have d1:=hdep ⟨2,.data⟩ (by simp) rfl;have f1:=a6 2 d1 _ _ rfl;simp only[go_sem,zE,zB,zA,zM,zS,zL,reduceCtorEq,yQ5,had,f1,fits];exact yJo hz hJ (by decide) (by decide) λ_ _ _=>rfl
  ·simp only[go_sem,zE,zB,zA,zM,zS,zL,reduceCtorEq,yQ5,had,hF.1];exact yJo hz hJ (by decide) (by decide) λ_ _ _=>rfl
  ·have d1:=hdep ⟨4,.data⟩ (by simp) rfl;have f1:=a6 4 d1 _ _ rfl;simp only[go_sem,zE,zB,zA,zM,zS,zL,reduceCtorEq,yQ5,had,f1,fits];exact yJo hz hJ (by decide) (by decide) λ_ _ _=>rfl
  ·have d1:=hdep ⟨5,.data⟩ (by simp) rfl;have f1:=a6 5 d1 _ _ rfl;simp only[go_sem,zE,zB,zA,zM,zS,zL,reduceCtorEq,yQ5,had,f1,fits];exact yJo hz hJ (by decide) (by decide) λ_ _ _=>rfl
  ·have d1:=hdep ⟨6,.data⟩ (by simp) rfl;have f1:=a6 6 d1 _ _ rfl;simp only[go_sem,zE,zB,zA,zM,zS,zL,reduceCtorEq,yQ5,had,f1,fits];exact yJo hz hJ (by decide) (by decide) λ_ _ _=>rfl
  ·have d1:=hdep ⟨7,.data⟩ (by simp) rfl;have f1:=a6 7 d1 _ _ rfl;simp only[go_sem,zE,zB,zA,zM,zS,zL,reduceCtorEq,yQ5,had,f1,fits];refine (wWv gl l t xs ht6 hap hxs (by omega) _).mono ?_;rintro _ st2 ⟨t4,rfl,hown,hap4,hsub⟩;have st':∀j,8≠j->(listed.setIfInBounds 8 true).getD j false=listed.getD j false:=λj hj=>by rw[yQp (by omega),if_neg hj]
   have sti:(listed.setIfInBounds 8 true).getD 8 false=true:=by rw[yQp (by omega),if_pos rfl]
   have h14:listed.getD 14 false≠true:=λhc=>by rw[(a5 hc).2] at hfl;cases hfl
   have h16:listed.getD 16 false≠true:=λhc=>h14 (a4 hc).1;rcases a1 with⟨h8,_⟩|⟨_,rfl⟩
   ·rw[hfl] at h8;cases h8
   rcases a3 with⟨l15,hb1,rfl⟩|⟨l15,rfl⟩
   ·rw[if_neg h16] at hown hsub;refine⟨zZt had _,rfl,hF.put (by decide) _,t4,t3,b,st2.put b none,.inl ⟨sti,wVc hown,hap4,wKr hsub hb1⟩,?_,.inl ⟨?_,ISt.put_same ..,?_⟩,?_,?_,yVb (λ_ _ _ h=>yKq h) hz (by decide) rfl (λj hj hl=>zXm j (.inr ⟨hj,λhc=>h14 (hc▸hl)⟩) (.inl rfl) (.inl rfl)) a6⟩
    ·rw[st' 13 (by decide)];exact a2
    ·rw[st' 15 (by decide)];exact l15
    ·rw[st' 16 (by decide),if_neg h16];exact (wVa (hsub b _ (ISt.put_same ..))).symm
    ·rw[st' 16 (by decide)];exact λhc=>absurd hc h16
    ·rw[st' 14 (by decide)];exact λhc=>absurd hc h14
   ·refine⟨zZt had _,rfl,hF.put (by decide) _,t4,t3,b,st2,.inl ⟨sti,hown,hap4,hsub⟩,?_,.inr ⟨?_,rfl⟩,?_,?_,yVb (λ_ _ _ h=>yKq h) hz (by decide) rfl (λj hj hl=>zXm j (.inr ⟨hj,λhc=>h14 (hc▸hl)⟩) (.inl rfl) (.inl rfl)) a6⟩
    ·rw[st' 13 (by decide)];exact a2
    ·rw[st' 15 (by decide)];exact l15
    ·rw[st' 16 (by decide)];exact λhc=>absurd hc h16
    ·rw[st' 14 (by decide)];exact λhc=>absurd hc h14
  ·simp only[go_sem,zE,zB,zA,zM,zS,zL,reduceCtorEq,yQ5,had,hF.1];exact yJo hz hJ (by decide) (by decide) λ_ _ _=>rfl
  ·have d1:=hdep ⟨9,.data⟩ (by simp) rfl;have f1:=a6 9 d1 _ _ rfl;simp only[go_sem,zE,zB,zA,zM,zS,zL,reduceCtorEq,yQ5,had,f1,fits];exact yJo hz hJ (by decide) (by decide) λ_ _ _=>rfl
  ·have d1:=hdep ⟨10,.data⟩ (by simp) rfl;have f1:=a6 10 d1 _ _ rfl;simp only[go_sem,zE,zB,zA,zM,zS,zL,reduceCtorEq,yQ5,had,f1,fits];exact yJo hz hJ (by decide) (by decide) λ_ _ _=>rfl
  ·have d1:=hdep ⟨11,.data⟩ (by simp) rfl;have f1:=a6 11 d1 _ _ rfl;simp only[go_sem,zE,zB,zA,zM,zS,zL,reduceCtorEq,yQ5,had,f1,fits];exact yJo hz hJ (by decide) (by decide) λ_ _ _=>rfl
  ·have d1:=hdep ⟨12,.data⟩ (by simp) rfl;have f1:=a6 12 d1 _ _ rfl;simp only[go_sem,zE,zB,zA,zM,zS,zL,reduceCtorEq,yQ5,had,f1,fits];refine (wVv gl t' v htc _).mono ?_;rintro _ st2 ⟨t4,rfl,ht4,ht4c,rfl⟩;have st':∀j,13≠j->(listed.setIfInBounds 13 true).getD j false=listed.getD j false:=λj hj=>by rw[yQp (by omega),if_neg hj]
   have sti:(listed.setIfInBounds 13 true).getD 13 false=true:=by rw[yQp (by omega),if_pos rfl]
   have h14:listed.getD 14 false≠true:=λhc=>by rw[(a5 hc).1] at hfl;cases hfl
   have h16:listed.getD 16 false≠true:=λhc=>h14 (a4 hc).1;refine⟨zZt had _,rfl,hF.put (by decide) _,t2,t4,b,s1,?_,λ_=>⟨ht4,ht4c⟩,?_,?_,?_,yVb (λ_ _ _ h=>yKq h) hz (by decide) rfl (λj hj hl=>zXm j (.inl rfl) (.inr ⟨hj,λhc=>h14 (hc▸hl)⟩) (.inl rfl)) a6⟩
   ·rw[st' 8 (by decide)];exact a1
   ·rw[st' 15 (by decide),st' 16 (by decide)];rw[if_neg h16] at a3 ⊢;exact a3
   ·rw[st' 16 (by decide)];exact λhc=>absurd hc h16
   ·rw[st' 14 (by decide)];exact λhc=>absurd hc h14
  ·have d3:=hdep ⟨3,.data⟩ (by simp) rfl;have d8:=hdep ⟨8,.data⟩ (by simp) rfl;have d13:=hdep ⟨13,.data⟩ (by simp) rfl;have f3:=a6 3 d3 _ _ rfl;have f8:=a6 8 d8 _ _ rfl;have f13:=a6 13 d13 _ _ rfl;simp only[go_sem,zE,zB,zA,zM,zS,zL,reduceCtorEq,yQ5,had,f3,f8,f13,fits];have st':∀j,14≠j->(listed.setIfInBounds 14 true).getD j false=listed.getD j false:=λj hj=>by rw[yQp (by omega),if_neg hj]
   have sti:(listed.setIfInBounds 14 true).getD 14 false=true:=by rw[yQp (by omega),if_pos rfl]
   refine⟨zZt had _,rfl,hF.put (by decide) _,t2,t3,b,s1,?_,?_,?_,?_,?_,yVb (λ_ _ _ h=>yKq h) hz (by decide) rfl (λj hj hl=>rfl) a6⟩
   ·rw[st' 8 (by decide)];exact a1
   ·rw[st' 13 (by decide)];exact a2
   ·rw[st' 15 (by decide),st' 16 (by decide)];exact a3
   ·rw[st' 15 (by decide),st' 16 (by decide)];exact λhc=>⟨sti,(a4 hc).2⟩
   ·rw[st' 13 (by decide),st' 8 (by decide)];exact λ_=>⟨d13,d8⟩
  ·have h16:listed.getD 16 false≠true:=λhc=>by rw[(a4 hc).2] at hfl;cases hfl
   rcases a3 with⟨h15,_⟩|⟨_,rfl⟩
   ·rw[hfl] at h15;cases h15
   simp only[go_sem,zE,zB,zA,zM,zS,zL,reduceCtorEq,yQ5,had];refine λb'=>yQb λhb'=>?_;have st':∀j,15≠j->(listed.setIfInBounds 15 true).getD j false=listed.getD j false:=λj hj=>by rw[yQp (by omega),if_neg hj]
   have sti:(listed.setIfInBounds 15 true).getD 15 false=true:=by rw[yQp (by omega),if_pos rfl]
   refine⟨zZt had _,rfl,hF.put (by decide) _,t2,t3,b',st1,?_,?_,.inl ⟨sti,hb',?_⟩,?_,?_,yVb (λ_ _ _ h=>yKq h) hz (by decide) rfl (λj hj hl=>zXm j (.inl rfl) (.inl rfl) (.inr hj)) a6⟩
   ·rw[st' 8 (by decide)];exact a1
   ·rw[st' 13 (by decide)];exact a2
   ·rw[st' 16 (by decide),if_neg h16];rfl
   ·rw[st' 16 (by decide)];exact λhc=>absurd hc h16
   ·rw[st' 14 (by decide),st' 13 (by decide),st' 8 (by decide)];exact a5
  ·have d14:=hdep ⟨14,.data⟩ (by simp) rfl;have d15:=hdep ⟨15,.data⟩ (by simp) rfl;have f14:=a6 14 d14 _ _ rfl;have f15:=a6 15 d15 _ _ rfl;unfold brI at f14;rcases a3 with⟨_,hb1,rfl⟩|⟨h15,_⟩
   case inr=>rw[d15] at h15;cases h15
   rw[if_neg (by rw[hfl];decide)];unfold boxZ;simp only[go_sem,zE,zB,zA,zM,zS,zL,reduceCtorEq,yQ5,had,f14,f15,fits,ISt.put_same,yQ8];have st':∀j,16≠j->(listed.setIfInBounds 16 true).getD j false=listed.getD j false:=λj hj=>by rw[yQp (by omega),if_neg hj]
   have sti:(listed.setIfInBounds 16 true).getD 16 false=true:=by rw[yQp (by omega),if_pos rfl]
   refine⟨had,rfl,hF,t2,t3,b,s1,?_,?_,.inl ⟨?_,hb1,?_⟩,?_,?_,λj hl d z hs=>?_⟩
   ·rw[st' 8 (by decide)];exact a1
   ·rw[st' 13 (by decide)];exact a2
   ·rw[st' 15 (by decide)];exact d15
   ·rw[if_pos sti];rfl
   ·rw[st' 14 (by decide),st' 15 (by decide)];exact λ_=>⟨d14,d15⟩
   ·rw[st' 14 (by decide),st' 13 (by decide),st' 8 (by decide)];exact a5
   ·have hj:=(yKq hs).1;rw[st' j (by omega)] at hl;exact a6 j hl d z hs
 ·intro listed ad fr st1 ds hz hr hJ;have hl:=zJz (by decide +kernel) hz hr;obtain⟨_,rfl,⟨f0,f2,f4,f6⟩,t2,t3,b,s1,a1,a2,a3,a4,a5,a6⟩:=hJ;have f7:=a6 15 (hl 15 (by decide)) _ _ rfl;obtain⟨_,hown,hap2,hsub⟩|⟨h8,_⟩:=a1
  case inr=>rw[hl 8 (by decide)] at h8;cases h8
  obtain⟨_,hbn,rfl⟩|⟨h15,_⟩:=a3
  case inr=>rw[hl 15 (by decide)] at h15;cases h15
  rw[if_pos (hl 16 (by decide))];obtain⟨ht3,ht3c⟩:=a2 (hl 13 (by decide));have hbS:=zQ7 hsub hbn;have htb:tb≠b:=λhc=>by rw[hc] at hb;rw[hb] at hbS;cases hbS
  have hbt:(s1.put b (some (.box (brI tb t2 xs t3 v)))) tb=some (.map .sg es):=by rw[yQa htb];exact hsub _ _ hb
  have hBr:BrSt st b tb l t3 v (s1.put b (some (.box (brI tb t2 xs t3 v)))):=⟨t2,xs,ISt.put_same ..,hxs,hown.mono λg hg hg0=>by rw[yQa (λhc=>by rw[hc,hbn] at hg;cases hg)];exact hg,hap2,yZ3 hsub hbS,hbS⟩
  generalize s1.put b (some (.box (brI tb t2 xs t3 v)))=s2 at hbt hBr ⊢;unfold brI at f0;simp only[go_sem,zE,zB,zA,zM,zS,zL,reduceCtorEq,f0,f2,f4,f6,f7,fits];refine (hfind _ hbt).mono ?_;rintro _ _ ⟨rfl,rfl⟩;simp only[go_sem,zE,zB,zA,zM,zS,zL,reduceCtorEq,f0,f2,f4,f6,f7,rowF,fits,hk4,hzs.len];intro _;refine LoopC.ctr q.length (λk fr st' ds=>BrSt st b tb (yZ9 l (q.take k)) t3 v st'/\fr 6=.box boxZ/\fr 7=.iv (.raw (.pointer (some ⟨b,0,none⟩)))/\fr 41=.iv (.sl tg zs)/\fr 42=.iv (.raw (.int .i64 q.length))/\fr 43=.iv (.raw (.int .i64 k))/\ds=[]) ?_ ?_ ?_
  ·simp only[go_sem,zE,zB,zA,zM,zS,zL,reduceCtorEq,f6,f7];exact⟨hBr,rfl⟩
  ·rintro k fr st3 _ hlt ⟨hB,f6,f7,f41,f42,f43,rfl⟩;obtain⟨a,ha⟩:=yQ4 hlt;obtain⟨y,hky,hy⟩:=hzs.get ha;have hlen:=yX9 (q.take k) l;rw[List.length_take] at hlen;have hadd:=wJf gl st b tb _ t3 v st3 hB (by omega) a y hy;obtain⟨_,_,_,_,_,_,rfl⟩:=hy.agg;simp only[go_sem,zE,zB,zA,zM,zS,zL,reduceCtorEq,f6,f7,f41,f42,f43,lt_i hlt,yQ2 htg,iNn,hky,fits];refine hadd.mono ?_;rintro _ st4 hB';simp only[go_sem,zE,zB,zA,zM,zS,zL,reduceCtorEq,f6,f7,f41,f42,f43,yQf hlt (show q.length<=281474976710656 by omega)];rw[yQ7 ha,zYg];exact hB'
  ·rintro fr st3 _ ⟨hB,f6,f7,f41,f42,f43,rfl⟩;rw[lTl] at hB;obtain⟨hsub3,t4,x4,hb4,hbr⟩:=hB.br ht3 ht3c;unfold brI at hb4;unfold boxZ at f6;simp only[go_sem,zE,zB,zA,zM,zS,zL,reduceCtorEq,f6,f7,f42,f43,yQo (nLi _),hb4,fits];exact yQc hsub3 ⟨hbr,rfl⟩
 ·refine⟨λ_=>rfl,rfl,⟨rfl,rfl,rfl,rfl⟩,t,t',0,st,.inr ⟨yXu _ _,rfl⟩,λhc=>?_,.inr ⟨yXu _ _,rfl⟩,λhc=>?_,λhc=>?_,λi hc=>?_⟩
  all_goals (rw[show _=false from yXu _ _] at hc;cases hc)
theorem zVb (l q q':List Mk):yZ9 l (q++q')=yZ9 (yZ9 l q) q':=by unfold yZ9;rw[List.foldl_append]
theorem wJe (s:Sq)(x:IV)(hx:IsSq s x)(hl:s.l.length+s.r.length<=1000000)(st:ISt) :
  ICall prog gl 71 [.raw (.int .u8 1),x] st (λr st'=>∃tb es,st tb=none/\zXj es/\IsBr (yQk s) tb r/\st'=st.put tb (some (.map .sg es))):=by
 obtain⟨t1,x1,t2,x2,rfl,e1,i1,e2,i2⟩:=hx;refine ICall.intro (c:=cf prog gl [5] []) func71 rfl (by show _<=38;simp) (by kernel_rfl) ?_;simp only[go_sem,zE,zB,zA,zM,zS,zL,reduceCtorEq];refine (xUx gl _).mono ?_;rintro _ _ ⟨tb,es,htb,rfl,hok,rfl⟩;obtain⟨S0,hS0⟩:∃S0,S0=st.put tb (some (.map .sg es)):=⟨_,rfl⟩
 rw[<- hS0];simp only[go_sem,zE,zB,zA,zM,zS,zL,reduceCtorEq,fits,yQ1];refine λb=>yQb λhbn=>?_;have hBr:BrSt S0 b tb [] ⟨true,.full,1⟩ (-1) (S0.put b (some (.box (brI tb ⟨true,.nil,0⟩ [] ⟨true,.full,1⟩ (-1))))):=⟨_,[],ISt.put_same ..,rfl,.inl ⟨rfl,rfl⟩,.inl ⟨rfl,rfl⟩,yQg hbn,hbn⟩
 simp only[go_sem,zE,zB,zA,zM,zS,zL,reduceCtorEq,ISt.put_same,yQ8,fits,i1.len];intro _;refine LoopC.ctr s.l.length (λk fr st' ds=>BrSt S0 b tb (yZ9 [] ((s.l.take k).map (⟨true,0,·⟩))) ⟨true,.full,1⟩ (-1) st'/\fr 3=.box [.sl t1 x1,.sl t2 x2]/\fr 4=.box boxZ/\fr 5=.iv (.raw (.pointer (some ⟨b,0,none⟩)))/\fr 16=.iv (.sl t1 x1)/\fr 17=.iv (.raw (.int .i64 s.l.length))/\fr 18=.iv (.raw (.int .i64 k))/\ds=[]) ?_ ?_ ?_
 ·simp only[go_sem,zE,zB,zA,zM,zS,zL,reduceCtorEq];exact⟨hBr,rfl,rfl⟩
 ·rintro k fr st3 _ hlt ⟨hB,f3,f4,f5,f16,f17,f18,rfl⟩;obtain⟨a,ha⟩:=yQ4 hlt;obtain⟨y,hky,hy⟩:=i1.get ha;have hy0:=hy;obtain⟨o5,n5,t5,x5,t6,x6,rfl⟩:=hy.agg;have hadd:=wJf gl S0 b tb _ _ _ st3 hB (by have h9:=yX9 ((s.l.take k).map (⟨true,0,·⟩)) [];have h8:=yX9 (s.l.map (⟨true,0,·⟩)) [];simp only[List.length_map,List.length_take,List.length_nil] at h8 h9 ⊢;omega) ⟨true,0,a⟩ _ ⟨_,_,_,_,_,_,rfl,hy0⟩;simp only[go_sem,zE,zB,zA,zM,zS,zL,reduceCtorEq,f3,f4,f5,f16,f17,f18,lt_i hlt,yQ2 e1,iNn,hky,fits];refine hadd.mono ?_;rintro _ st4 hB';simp only[go_sem,zE,zB,zA,zM,zS,zL,reduceCtorEq,f3,f4,f5,f16,f17,f18,yQf hlt (show s.l.length<=281474976710656 by omega)];rw[yQ7 ha,List.map_append,zVb];exact hB'
 ·rintro fr st2 _ ⟨hB,f3,f4,f5,f16,f17,f18,rfl⟩;rw[lTl] at hB;simp only[go_sem,zE,zB,zA,zM,zS,zL,reduceCtorEq,f3,f4,f5,f16,f17,f18,yQo (nLi _),i2.len];intro _;refine LoopC.ctr s.r.length (λk fr st' ds=>BrSt S0 b tb (yZ9 (yZ9 [] (s.l.map (⟨true,0,·⟩))) ((s.r.take k).map (⟨false,0,·⟩))) ⟨true,.full,1⟩ (-1) st'/\fr 4=.box boxZ/\fr 5=.iv (.raw (.pointer (some ⟨b,0,none⟩)))/\fr 27=.iv (.sl t2 x2)/\fr 28=.iv (.raw (.int .i64 s.r.length))/\fr 29=.iv (.raw (.int .i64 k))/\ds=[]) ?_ ?_ ?_
  ·simp only[go_sem,zE,zB,zA,zM,zS,zL,reduceCtorEq,f4,f5];exact⟨hB,rfl⟩
  ·rintro k fr st3 _ hlt ⟨hB,f4,f5,f27,f28,f29,rfl⟩;obtain⟨a,ha⟩:=yQ4 hlt;obtain⟨y,hky,hy⟩:=i2.get ha;have hy0:=hy;obtain⟨o5,n5,t5,x5,t6,x6,rfl⟩:=hy.agg;have hadd:=wJf gl S0 b tb _ _ _ st3 hB (by have h9:=yX9 ((s.r.take k).map (⟨false,0,·⟩)) (yZ9 [] (s.l.map (⟨true,0,·⟩)));have h8:=yX9 (s.l.map (⟨true,0,·⟩)) [];simp only[List.length_map,List.length_take,List.length_nil] at h8 h9 ⊢;omega) ⟨false,0,a⟩ _ ⟨_,_,_,_,_,_,rfl,hy0⟩;simp only[go_sem,zE,zB,zA,zM,zS,zL,reduceCtorEq,f4,f5,f27,f28,f29,lt_i hlt,yQ2 e2,iNn,hky,fits];refine hadd.mono ?_;rintro _ st4 hB';simp only[go_sem,zE,zB,zA,zM,zS,zL,reduceCtorEq,f4,f5,f27,f28,f29,yQf hlt (show s.r.length<=281474976710656 by omega)];rw[yQ7 ha,List.map_append,zVb];exact hB'
  ·rintro fr st3 _ ⟨hB,f4,f5,f27,f28,f29,rfl⟩;rw[lTl,<- zVb] at hB;obtain⟨hsub3,t4,x4,hb4,hbr⟩:=hB.br (.inr rfl) (by simp);unfold brI at hb4;unfold boxZ at f4;simp only[go_sem,zE,zB,zA,zM,zS,zL,reduceCtorEq,f4,f5,f28,f29,yQo (nLi _),hb4,fits];exact yQc hsub3 ⟨tb,es,htb,hok,hbr,hS0⟩
def fitL (l:List Fm):Prop:=∀f∈l,f.size<=1000000
theorem xJs (ca:Nat)(st:ISt):ICall prog gl 53 [.raw (.int .u8 ca)] st (λr st'=>r=.raw (.bool (yVt ca))/\st'=st):=by
 refine iI func53 ?_;by_cases h1:1<=ca
 ·have e1:decide (1<=(ca:Int))=true:=dEt (by omega);by_cases h2:ca<=3
  ·have e2:decide ((ca:Int)<=3)=true:=dEt (by omega);simp only[go_sem,zE,reduceCtorEq,e1,e2];exact yQ0 ⟨by simp[yVt,h1,h2],rfl⟩
  ·have e2:decide ((ca:Int)<=3)=false:=dEf (by omega);simp only[go_sem,zE,reduceCtorEq,e1,e2];exact yQ0 ⟨by simp[yVt,h2],rfl⟩
 ·have e1:decide (1<=(ca:Int))=false:=dEf (by omega);simp only[go_sem,zE,reduceCtorEq,e1];exact yQ0 ⟨by simp[yVt,h1],rfl⟩
def sOp (f:Fm):Prop:=∀(ca:Nat) (x:IV) (_:IsFm f x) (st:ISt),ICall prog gl 95 [.raw (.int .u8 ca),x] st (λr st'=>r=.raw (.bool (opsB ca f))/\st'=st)
theorem yKr (ca:Nat):∀l m:List Fm,yKf ca (l++m)=(yKf ca l&&yKf ca m)
 | [],m=>by simp[yKf]
 | a::l,m=>by simp only[List.cons_append,yKf,yKr ca l m,Bool.and_assoc]
theorem zK5 {ca:Nat}{l:List Fm}{a:Fm}(ha:a∈l)(h:opsB ca a=false):yKf ca l=false:=by
 obtain⟨p,q,rfl⟩:=List.append_of_mem ha;rw[yKr];simp[yKf,h]
theorem wV3 (o:Nat)(n:ByteArray)(us:List Tm)(sub:List Fm)(IH:∀a∈sub,sOp gl a):sOp gl (.mk o n us sub):=by
 intro ca x hx st;obtain⟨t1,x1,t2,x2,rfl,ho,ht1,hx1,ht2,hx2⟩:=hx.mk;have loop:∀(last:Nat) (hop:(decide (1<=o)&&decide (o<=if ca=3 then 9 else 7)&&(decide (ca=3) || us.isEmpty))=true),opsB ca (.mk o n us sub)=yKf ca sub:=λ_ h=>by
  simp only[opsB,h,Bool.true_and]
 refine iI func95 ?_;by_cases h1:1<=o
 ·have e1:decide ((o:Int)<1)=false:=dEf (by omega);by_cases hca:ca=3
  ·have e3:decide ((ca:Int)=3)=true:=dEt (by omega);by_cases h2:o<=9
   ·have e2:decide ((9:Int)<(o:Int))=false:=dEf (by omega);have hl:=loop 9 (by simp[h1,h2,hca]);simp only[go_sem,zE,zA,reduceCtorEq,e1,e2,e3,hx2.len];intro _;refine LoopC.ctr sub.length (λk fr st' ds=>yKf ca (sub.take k)=true/\fr 0=.iv (.raw (.int .u8 ca))/\fr 30=.iv (.sl t2 x2)/\fr 31=.iv (.raw (.int .i64 sub.length))/\fr 32=.iv (.raw (.int .i64 k))/\st'=st/\ds=[]) ?_ ?_ ?_
    ·simp only[go_sem,zE,reduceCtorEq];simp[yKf]
    ·rintro k fr st1 _ hlt ⟨hn,f0,f30,f31,f32,rfl,rfl⟩;obtain⟨a,ha⟩:=yQ4 hlt;obtain⟨y,hky,hy⟩:=hx2.get ha;have hcall:=IH a (lMg ha) ca y hy st1;obtain⟨o5,n5,t5,x5,t6,x6,rfl⟩:=hy.agg;simp only[go_sem,zE,zB,zA,zL,reduceCtorEq,f0,f30,f31,f32,lt_i hlt,yQ2 ht2,iNn,hky,fits];refine hcall.mono ?_;rintro _ _ ⟨rfl,rfl⟩;cases hr:opsB ca a
     ·simp only[go_sem];exact yQ0 ⟨by rw[hl,zK5 (lMg ha) hr],rfl⟩
     ·simp only[go_sem,zE,reduceCtorEq,f0,f30,f31,f32,yQf hlt (show sub.length<=281474976710656 by omega)];rw[yQ7 ha,yKr,hn];simp[yKf,hr]
    ·rintro fr st1 _ ⟨hn,f0,f30,f31,f32,rfl,rfl⟩;rw[lTl] at hn;simp only[go_sem,f31,f32,yQo (nLi _)];exact yQ0 ⟨by rw[hl,hn],rfl⟩
   ·have e2:decide ((9:Int)<(o:Int))=true:=dEt (by omega);simp only[go_sem,zE,zA,reduceCtorEq,e1,e2,e3];exact yQ0 ⟨by simp[opsB,h2,hca],rfl⟩
  ·have e3:decide ((ca:Int)=3)=false:=dEf (by omega);by_cases h2:o<=7
   ·have e2:decide ((7:Int)<(o:Int))=false:=dEf (by omega);by_cases hu:us=[]
    ·subst hu;have e4:decide ((0:Int)<((0:Nat):Int))=false:=rfl;have hl:=loop 7 (by simp[h1,h2,hca]);simp only[go_sem,zE,zA,zL,reduceCtorEq,e1,e2,e3,e4,hx1.len,hx2.len];intro _;refine LoopC.ctr sub.length (λk fr st' ds=>yKf ca (sub.take k)=true/\fr 0=.iv (.raw (.int .u8 ca))/\fr 30=.iv (.sl t2 x2)/\fr 31=.iv (.raw (.int .i64 sub.length))/\fr 32=.iv (.raw (.int .i64 k))/\st'=st/\ds=[]) ?_ ?_ ?_
     ·simp only[go_sem,zE,reduceCtorEq];simp[yKf]
     ·rintro k fr st1 _ hlt ⟨hn,f0,f30,f31,f32,rfl,rfl⟩;obtain⟨a,ha⟩:=yQ4 hlt;obtain⟨y,hky,hy⟩:=hx2.get ha;have hcall:=IH a (lMg ha) ca y hy st1;obtain⟨o5,n5,t5,x5,t6,x6,rfl⟩:=hy.agg;simp only[go_sem,zE,zB,zA,zL,reduceCtorEq,f0,f30,f31,f32,lt_i hlt,yQ2 ht2,iNn,hky,fits];refine hcall.mono ?_;rintro _ _ ⟨rfl,rfl⟩;cases hr:opsB ca a
      ·simp only[go_sem];exact yQ0 ⟨by rw[hl,zK5 (lMg ha) hr],rfl⟩
      ·simp only[go_sem,zE,reduceCtorEq,f0,f30,f31,f32,yQf hlt (show sub.length<=281474976710656 by omega)];rw[yQ7 ha,yKr,hn];simp[yKf,hr]
     ·rintro fr st1 _ ⟨hn,f0,f30,f31,f32,rfl,rfl⟩;rw[lTl] at hn;simp only[go_sem,f31,f32,yQo (nLi _)];exact yQ0 ⟨by rw[hl,hn],rfl⟩
    ·have hpos:0<us.length:=List.length_pos_iff.2 hu;have e4:decide ((0:Int)<(us.length:Int))=true:=dEt (by omega);simp only[go_sem,zE,zA,reduceCtorEq,e1,e2,e3,e4,hx1.len];intro _;exact yQ0 ⟨by simp[opsB,hca,hu],rfl⟩
   ·have e2:decide ((7:Int)<(o:Int))=true:=dEt (by omega);simp only[go_sem,zE,zA,reduceCtorEq,e1,e2,e3];exact yQ0 ⟨by simp[opsB,hca,h2],rfl⟩
 ·have e1:decide ((o:Int)<1)=true:=dEt (by omega);by_cases hca:ca=3
  ·have e3:decide ((ca:Int)=3)=true:=dEt (by omega);simp only[go_sem,zE,zA,reduceCtorEq,e1,e3];exact yQ0 ⟨by simp[opsB,h1],rfl⟩
  ·have e3:decide ((ca:Int)=3)=false:=dEf (by omega);simp only[go_sem,zE,zA,reduceCtorEq,e1,e3];exact yQ0 ⟨by simp[opsB,h1],rfl⟩
theorem wQq:∀(k:Nat)(f:Fm),SizeOf.sizeOf f<k->sOp gl f
 | 0,f,h=>by omega
 | k+1,.mk o n us sub,h=>wV3 gl o n us sub (λa ha=>wQq k a (by
   have:=lSm ha;simp only[Fm.mk.sizeOf_spec] at h;omega))
theorem xJa (f:Fm):sOp gl f:=wQq gl _ f (Nat.lt_succ_self _)
theorem zKp (G:Gl gl)(ca:Nat)(f:Fm)(x:IV)(hx:IsFm f x)(hs:f.size<=1000000)(st:ISt) :
  ICall prog gl 54 [.raw (.int .u8 ca),x] st (λr st'=>r=.raw (.bool (fmB ca f))/\st'=st):=by
 have h1:=λst=>zVf gl G f x hx st hs;have h2:=λst=>xJa gl f ca x hx st;obtain⟨o5,n5,t5,x5,t6,x6,rfl⟩:=hx.agg;refine iI func54 ?_;simp only[go_sem,zE,zA,zL];refine (h1 _).mono ?_;rintro _ _ ⟨rfl,rfl⟩;cases hr:f.right
 ·simp only[go_sem,zE];exact yQ0 ⟨by simp[fmB,hr],rfl⟩
 ·simp only[go_sem,zE,zA,zL,reduceCtorEq];refine (h2 _).mono ?_;rintro _ _ ⟨rfl,rfl⟩;simp only[go_sem,zE];exact yQ0 ⟨by simp[fmB,hr],rfl⟩
theorem wXx (G:Gl gl)(f g:Fm)(x y:IV)(hx:IsFm f x)(hy:IsFm g y)(hs:f.size<=1000000)(hs':g.size<=1000000)(st:ISt) :
  ICall prog gl 55 [x,y] st (λr st'=>r=.raw (.bool (eqF f g))/\st'=st):=by
 have h1:=λst=>vZr gl G f g x y hx hy hs hs' st;obtain⟨o,n,us,sub⟩:=f;obtain⟨o',n',us',sub'⟩:=g;obtain⟨t1,x1,t2,x2,rfl,_⟩:=hx.mk;obtain⟨t3,x3,t4,x4,rfl,_⟩:=hy.mk;refine iI func55 ?_;by_cases ho:o=o'
 ·subst ho;simp only[go_sem,zE,zA,zL,decide_true];refine (h1 _).mono ?_;rintro _ _ ⟨rfl,rfl⟩;simp only[go_sem,zE];exact yQ0 ⟨by simp[eqF,Fm.op],rfl⟩
 ·have e:decide ((o:Int)=(o':Int))=false:=dEf (by omega);simp only[go_sem,zE,zA,e];exact yQ0 ⟨by simp[eqF,Fm.op,ho],rfl⟩
theorem xKl (g:FuncId)(caps:List IV)(he:entI prog g=true)(us:List Fm)(p:Fm->Bool)(hp:∀a∈us,∀x,IsFm a x->∀st,ICall prog gl g (x::caps) st (λr st'=>r=.raw (.bool (p a))/\st'=st))
  (tg:Tag) (xs:List IV) (htg:okEs tg 4) (hxs:IsFms us xs) (st:ISt) :
  ICall prog gl 102 [.sl tg xs,.fn (.func g) [] caps] st (λr st'=>(∃n:Int,r=.raw (.int .i64 n)/\decide (0<=n)=us.any p)/\st'=st):=by
 refine iI func102 ?_;simp only[go_sem,reduceCtorEq,hxs.len];intro _;refine LoopC.ctr us.length (λk fr st' ds=>(us.take k).any p=false/\fr 0=.iv (.sl tg xs)/\fr 1=.iv (.fn (.func g) [] caps)/\fr 7=.iv (.raw (.int .i64 us.length))/\fr 8=.iv (.raw (.int .i64 k))/\st'=st/\ds=[]) ?_ ?_ ?_
 ·simp only[go_sem,zE,reduceCtorEq];exact⟨rfl,rfl⟩
 ·rintro k fr st1 _ hlt ⟨hn,f0,f1,f7,f8,rfl,rfl⟩;obtain⟨a,ha⟩:=yQ4 hlt;obtain⟨y,hky,hy⟩:=hxs.get ha;have hcall:=hp a (lMg ha) y hy st1;obtain⟨o5,n5,t5,x5,t6,x6,rfl⟩:=hy.agg;simp only[go_sem,zE,zB,zA,reduceCtorEq,f0,f1,f7,f8,lt_i hlt,yQ2 htg,iNn,hky,fits,he];refine hcall.mono ?_;rintro _ _ ⟨rfl,rfl⟩;cases hr:p a
  ·simp only[go_sem,zE,reduceCtorEq,f0,f1,f7,f8,yQf hlt (show us.length<=281474976710656 by omega)];rw[yQ7 ha,List.any_append,hn];simp[hr]
  ·simp only[go_sem,zE];refine yQ0 ⟨⟨_,rfl,?_⟩,rfl⟩;rw[dEt (iNn k)];exact (List.any_eq_true.2 ⟨a,lMg ha,hr⟩).symm
 ·rintro fr st1 _ ⟨hn,f0,f1,f7,f8,rfl,rfl⟩;rw[lTl] at hn;simp only[go_sem,f7,f8,yQo (nLi _)];exact yQ0 ⟨⟨_,rfl,by rw[hn];rfl⟩,rfl⟩
theorem yWh (g:FuncId)(caps:List IV)(he:entI prog g=true)(us:List Fm)(p:Fm->Bool)(hp:∀a∈us,∀x,IsFm a x->∀st,ICall prog gl g (x::caps) st (λr st'=>r=.raw (.bool (p a))/\st'=st))
  (tg:Tag) (xs:List IV) (htg:okEs tg 4) (hxs:IsFms us xs) (st:ISt) :
  ICall prog gl 58 [.sl tg xs,.fn (.func g) [] caps] st (λr st'=>r=.raw (.bool (us.any p))/\st'=st):=by
 refine iI func58 ?_;simp only[go_sem,zE,zA,reduceCtorEq];refine (xKl gl g caps he us p hp tg xs htg hxs _).mono ?_;rintro _ _ ⟨⟨n,rfl,hn⟩,rfl⟩;simp only[go_sem,hn];exact yQ0 ⟨rfl,rfl⟩
theorem vYf (G:Gl gl)(f g:Fm)(x y:IV)(hx:IsFm f x)(hy:IsFm g y)(hs:f.size<=1000000)(hs':g.size<=1000000)(st:ISt) :
  ICall prog gl 59 [y,.cptr x] st (λr st'=>r=.raw (.bool (eqF f g))/\st'=st):=by
 have h1:=λst=>wXx gl G f g x y hx hy hs hs' st;obtain⟨o5,n5,t5,x5,t6,x6,rfl⟩:=hx.agg;obtain⟨o7,n7,t7,x7,t8,x8,rfl⟩:=hy.agg;refine iI func59 ?_;simp only[go_sem,zE,zA,zL,fits];refine (h1 _).mono ?_;rintro _ _ ⟨rfl,rfl⟩;simp only[go_sem];exact yQ0 ⟨rfl,rfl⟩
theorem wK5 (G:Gl gl)(l:List Fm)(f:Fm)(tg:Tag)(xs:List IV)(x:IV)(htg:okEs tg 4)(hxs:IsFms l xs)(hx:IsFm f x)(hl:fitL l)(hs:f.size<=1000000)(st:ISt) :
  ICall prog gl 21 [.sl tg xs,x] st (λr st'=>r=.raw (.bool (hasF l f))/\st'=st):=by
 have h1:=λst=>yWh gl 59 [.cptr x] (by simp only[go_sem]) l (eqF f) (λa ha y hy st=>vYf gl G f a x y hx hy hs (hl a ha) st) tg xs htg hxs st;obtain⟨o5,n5,t5,x5,t6,x6,rfl⟩:=hx.agg;refine ICall.intro (c:=cf prog gl [] [] [3]) func21 rfl (by show _<=8;simp) (by kernel_rfl) ?_;simp only[go_sem,zE,zA,reduceCtorEq];refine (h1 _).mono ?_;rintro _ _ ⟨rfl,rfl⟩;simp only[go_sem];exact yQ0 ⟨rfl,rfl⟩
theorem vY1 (G:Gl gl)(l m:List Fm)(t t':Tag)(xs ys:List IV)(ht:okEs t 4)(ht':okEs t' 4)(hxs:IsFms l xs)(hys:IsFms m ys)(hl:fitL l)(hm:fitL m)(st:ISt) :
  ICall prog gl 77 [.sl t xs,.sl t' ys] st (λr st'=>r=.raw (.bool (allF l m))/\st'=st):=by
 refine iI func77 ?_;simp only[go_sem,reduceCtorEq,hxs.len];intro _;refine LoopC.ctr l.length (λk fr st' ds=>(l.take k).all (hasF m)=true/\fr 1=.iv (.sl t' ys)/\fr 7=.iv (.sl t xs)/\fr 8=.iv (.raw (.int .i64 l.length))/\fr 9=.iv (.raw (.int .i64 k))/\st'=st/\ds=[]) ?_ ?_ ?_
 ·simp only[go_sem,zE];rfl
 ·rintro k fr st1 _ hlt ⟨hn,f1,f7,f8,f9,rfl,rfl⟩;obtain⟨a,ha⟩:=yQ4 hlt;obtain⟨y,hky,hy⟩:=hxs.get ha;have hcall:=wK5 gl G m a t' ys y ht' hys hy hm (hl a (lMg ha)) st1;obtain⟨o5,n5,t5,x5,t6,x6,rfl⟩:=hy.agg;simp only[go_sem,zE,zB,zA,zL,f1,f7,f8,f9,lt_i hlt,yQ2 ht,iNn,hky,fits];refine hcall.mono ?_;rintro _ _ ⟨rfl,rfl⟩;cases hr:hasF m a
  ·simp only[go_sem];refine yQ0 ⟨?_,rfl⟩;have:allF l m=false:=by
    unfold allF;rw[List.all_eq_false];exact⟨a,lMg ha,by simp[hr]⟩
   rw[this]
  ·simp only[go_sem,zE,f1,f7,f8,f9,yQf hlt (show l.length<=281474976710656 by omega)];rw[yQ7 ha,List.all_append,hn];simp[hr]
 ·rintro fr st1 _ ⟨hn,f1,f7,f8,f9,rfl,rfl⟩;rw[lTl] at hn;simp only[go_sem,f8,f9,yQo (nLi _)];exact yQ0 ⟨by rw[show allF l m=true from hn],rfl⟩
def yYp (s:Sq):Prop:=fitL s.l/\fitL s.r
theorem xY7 (G:Gl gl)(a b:Sq)(x y:IV)(hx:IsSq a x)(hy:IsSq b y)(ha:yYp a)(hb:yYp b)(st:ISt):ICall prog gl 34 [x,y] st (λr st'=>r=.raw (.bool (yXx a b))/\st'=st):=by
 obtain⟨t1,x1,t2,x2,rfl,e1,i1,e2,i2⟩:=hx;obtain⟨t3,x3,t4,x4,rfl,e3,i3,e4,i4⟩:=hy;refine iI func34 ?_;simp only[go_sem,zE,zA];refine (vY1 gl G a.l b.l t1 t3 x1 x3 e1 e3 i1 i3 ha.1 hb.1 _).mono ?_;rintro _ _ ⟨rfl,rfl⟩;cases hr:allF a.l b.l
 ·simp only[go_sem,zE];exact yQ0 ⟨by simp[yXx,hr],rfl⟩
 ·simp only[go_sem,zE,zA];refine (vY1 gl G a.r b.r t2 t4 x2 x4 e2 e4 i2 i4 ha.2 hb.2 _).mono ?_;rintro _ _ ⟨rfl,rfl⟩;simp only[go_sem,zE];exact yQ0 ⟨by simp[yXx,hr],rfl⟩
theorem yK8 (a b:Int)(v:IV):∀es:List (Value×IV),yZx (.int .u8 a) (updI (.int .u8 b) v es)=if a=b then some v else yZx (.int .u8 a) es
 | []=>by
  simp only[updI,yZx,yK1];by_cases h:a=b<;>simp[h]
 | (x,u)::es=>by
  simp only[updI];by_cases hk:yK1 (.int .u8 b) x=true
  ·rw[if_pos hk];have hx:∀c,yK1 (.int .u8 c) x=decide (c=b):=λc=>by
    cases x<;>simp[yK1] at hk ⊢;rw[hk]
   have e:yK1 (.int .u8 a) (.int .u8 b)=decide (a=b):=rfl;simp only[yZx,e,hx];by_cases h:a=b<;>simp[h]
  ·rw[if_neg hk];simp only[yZx];rw[yK8 a b v es];by_cases h:a=b
   ·subst h;simp[hk]
   ·simp[h]
def zVy (ca rule:Nat):Nat :=
 if ca=2/\rule=18 then 167 else if ca=2/\rule=8 then 165
 else if rule=13\/rule=15 then 168 else if rule=14\/rule=16 then 170
 else if rule=1 then 190 else if rule=2 then 191 else if rule=3 then 192 else if rule=4 then 193
 else if rule=5 then 194 else if rule=6 then 195 else if rule=7 then 196 else if rule=8 then 197
 else if rule=9 then 198 else if rule=10 then 199 else if rule=11 then 201 else if rule=12 then 203
 else 204
def rwI (ca rule:Nat)(r:Rw):IV:=.agg [.raw (.bool r.left),.raw (.bool r.right),.raw (.int .u8 r.op),.raw (.int .u8 r.asks),.fn (.func (zVy ca rule)) [] []]
def rwL (a b:Bool)(op asks id:Nat):IV:=.agg [.raw (.bool a),.raw (.bool b),.raw (.int .u8 op),.raw (.int .u8 asks),.fn (.func id) [] []]
def zWn:List (Value×IV) :=
 updI (.int .u8 17) (rwL false false 0 0 204) <| updI (.int .u8 12) (rwL false true 7 0 203) <| updI (.int .u8 11) (rwL true false 7 0 201) <|
 updI (.int .u8 10) (rwL false true 6 0 199) <| updI (.int .u8 9) (rwL true false 6 0 198) <| updI (.int .u8 8) (rwL false true 5 0 197) <|
 updI (.int .u8 7) (rwL true false 5 0 196) <| updI (.int .u8 6) (rwL false true 4 0 195) <| updI (.int .u8 5) (rwL true false 4 0 194) <|
 updI (.int .u8 4) (rwL false true 3 0 193) <| updI (.int .u8 3) (rwL true false 3 0 192) <| updI (.int .u8 2) (rwL true false 2 0 191) <|
 updI (.int .u8 1) (rwL true true 0 0 190) []
def zQ5 (ca:Nat):List (Value×IV) :=
 if ca=2 then updI (.int .u8 18) (rwL false true 5 0 167) <| updI (.int .u8 8) (rwL false true 5 0 165) zWn
 else if ca=3 then updI (.int .u8 16) (rwL false true 9 1 170) <| updI (.int .u8 15) (rwL true false 9 2 168) <| updI (.int .u8 14) (rwL false true 8 2 170) <|
  updI (.int .u8 13) (rwL true false 8 1 168) zWn
 else zWn
theorem wUj (st:ISt):ICall prog gl 164 [] st (λr st'=>∃b,st b=none/\r=.raw (.map (some b))/\st'=st.put b (some (.map (.int .u8) zWn))):=by
 refine iI func164 ?_;simp only[go_sem,zE,zA,zL,fits];refine λb=>yQb λhb=>?_;simp only[go_sem,yQ8];exact yQ0 ⟨b,hb,rfl,rfl⟩
theorem wQr (ca:Nat)(st:ISt):ICall prog gl 128 [.raw (.int .u8 ca)] st (λr st'=>∃b,st b=none/\r=.raw (.map (some b))/\st'=st.put b (some (.map (.int .u8) (zQ5 ca)))):=by
 refine iI func128 ?_;simp only[go_sem,zA];refine (wUj gl _).mono ?_;rintro _ _ ⟨b,hb,rfl,rfl⟩;by_cases h2:ca=2
 ·have e2:decide ((ca:Int)=2)=true:=dEt (by omega);simp only[go_sem,zE,zA,zL,reduceCtorEq,e2,fits,ISt.put_same,yQ8];exact yQ0 ⟨b,hb,rfl,by rw[zQ5,if_pos h2];rfl⟩
 ·have e2:decide ((ca:Int)=2)=false:=dEf (by omega);by_cases h3:ca=3
  ·have e3:decide ((ca:Int)=3)=true:=dEt (by omega);simp only[go_sem,zE,zA,zL,reduceCtorEq,e2,e3,fits,ISt.put_same,yQ8];exact yQ0 ⟨b,hb,rfl,by rw[zQ5,if_neg h2,if_pos h3];rfl⟩
  ·have e3:decide ((ca:Int)=3)=false:=dEf (by omega);simp only[go_sem,zE,reduceCtorEq,e2,e3];exact yQ0 ⟨b,hb,rfl,by rw[zQ5,if_neg h2,if_neg h3]⟩
theorem xJ9 (rule:Nat):yZx (.int .u8 rule) zWn=(rowK rule).map λr=>.agg [.raw (.bool r.left),.raw (.bool r.right),.raw (.int .u8 r.op),.raw (.int .u8 r.asks),.fn (.func (zVy 1 rule)) [] []]:=by
 unfold zWn;simp only[yK8];by_cases h:rule<=18
 ·rcases (show rule=0\/rule=1\/rule=2\/rule=3\/rule=4\/rule=5\/rule=6\/rule=7\/rule=8\/rule=9\/rule=10\/rule=11\/rule=12\/rule=13\/rule=14\/rule=15\/rule=16\/rule=17\/rule=18 by omega) with
   rfl|rfl|rfl|rfl|rfl|rfl|rfl|rfl|rfl|rfl|rfl|rfl|rfl|rfl|rfl|rfl|rfl|rfl|rfl<;>rfl
 ·have hn:rowK rule=none:=by unfold rowK;repeat (rw[if_neg (by omega)])
  rw[hn]
  repeat (rw[if_neg (by omega)])
  rfl
theorem yY5 (ca rule:Nat):yZx (.int .u8 rule) (zQ5 ca)=(rowS ca rule).map (rwI ca rule):=by
 have hp:=xJ9 rule;by_cases h:rule<=18
 ·have hr:rule=0\/rule=1\/rule=2\/rule=3\/rule=4\/rule=5\/rule=6\/rule=7\/rule=8\/rule=9\/rule=10\/rule=11\/rule=12\/rule=13\/rule=14\/rule=15\/rule=16\/rule=17\/rule=18:=by omega
  by_cases h2:ca=2
  ·subst h2;simp only[zQ5,if_true,yK8,hp];rcases hr with rfl|rfl|rfl|rfl|rfl|rfl|rfl|rfl|rfl|rfl|rfl|rfl|rfl|rfl|rfl|rfl|rfl|rfl|rfl<;>rfl
  ·by_cases h3:ca=3
   ·subst h3;simp only[zQ5,if_true,if_neg h2,yK8,hp];rcases hr with rfl|rfl|rfl|rfl|rfl|rfl|rfl|rfl|rfl|rfl|rfl|rfl|rfl|rfl|rfl|rfl|rfl|rfl|rfl<;>rfl
   ·have hk:rowS ca rule=rowK rule:=by
     unfold rowS;rw[if_neg (by omega),if_neg (by omega),if_neg (by omega),if_neg (by omega),if_neg (by omega)]
    have hi:∀r,rowK rule=some r->zVy 1 rule=zVy ca rule:=λ_ _=>by
     unfold zVy;rw[if_neg (by omega),if_neg (by omega)]
     conv=>rhs;rw[if_neg (by omega),if_neg (by omega)]
    simp only[zQ5,if_neg h2,if_neg h3,hp,hk];cases hq:rowK rule with
    | none=>rfl
    | some r=>simp only[Option.map_some,rwI,hi r hq]
 ·have hn:rowS ca rule=none:=by
   unfold rowS;rw[if_neg (by omega),if_neg (by omega),if_neg (by omega),if_neg (by omega),if_neg (by omega)];unfold rowK;repeat (rw[if_neg (by omega)])
  have hk:rowK rule=none:=by unfold rowK;repeat (rw[if_neg (by omega)])
  rw[hk] at hp;rw[hn];unfold zQ5;split
  ·simp only[yK8,hp];repeat (rw[if_neg (by omega)])
   rfl
  ·split
   ·simp only[yK8,hp];repeat (rw[if_neg (by omega)])
    rfl
   ·rw[hp];rfl
theorem wWl {ca rule:Nat}{r:Rw}(h:rowS ca rule=some r):yYq gl (zVy ca rule) (addS ca rule)/\entI prog (zVy ca rule)=true:=by
 have hr:rule<=18:=by
  refine Classical.byContradiction λhc=>?_;have hn:rowS ca rule=none:=by
   unfold rowS;rw[if_neg (by omega),if_neg (by omega),if_neg (by omega),if_neg (by omega),if_neg (by omega)];unfold rowK;repeat (rw[if_neg (by omega)])
  rw[hn] at h;cases h
 have hcas:rule=0\/rule=1\/rule=2\/rule=3\/rule=4\/rule=5\/rule=6\/rule=7\/rule=8\/rule=9\/rule=10\/rule=11\/rule=12\/rule=13\/rule=14\/rule=15\/rule=16\/rule=17\/rule=18:=by omega
 by_cases h2:ca=2
 ·subst h2;rcases hcas with rfl|rfl|rfl|rfl|rfl|rfl|rfl|rfl|rfl|rfl|rfl|rfl|rfl|rfl|rfl|rfl|rfl|rfl|rfl
  all_goals first|(cases h;done)|exact⟨wJy gl,by kernel_rfl⟩|exact⟨wJx gl,by kernel_rfl⟩|exact⟨wJw gl,by kernel_rfl⟩|exact⟨wJv gl,by kernel_rfl⟩|exact⟨wJu gl,by kernel_rfl⟩|exact⟨wJt gl,by kernel_rfl⟩|exact⟨wJs gl,by kernel_rfl⟩|exact⟨wJr gl,by kernel_rfl⟩|exact⟨xKd gl,by kernel_rfl⟩|exact⟨wJq gl,by kernel_rfl⟩|exact⟨xKi gl,by kernel_rfl⟩|exact⟨xKh gl,by kernel_rfl⟩|exact⟨xKg gl,by kernel_rfl⟩|exact⟨xKf gl,by kernel_rfl⟩|exact⟨xKe gl,by kernel_rfl⟩|exact⟨wJp gl,by kernel_rfl⟩|exact⟨wJo gl,by kernel_rfl⟩
 ·by_cases h3:ca=3
  ·subst h3;rcases hcas with rfl|rfl|rfl|rfl|rfl|rfl|rfl|rfl|rfl|rfl|rfl|rfl|rfl|rfl|rfl|rfl|rfl|rfl|rfl
   all_goals first|(cases h;done)|exact⟨wJy gl,by kernel_rfl⟩|exact⟨wJx gl,by kernel_rfl⟩|exact⟨wJw gl,by kernel_rfl⟩|exact⟨wJv gl,by kernel_rfl⟩|exact⟨wJu gl,by kernel_rfl⟩|exact⟨wJt gl,by kernel_rfl⟩|exact⟨wJs gl,by kernel_rfl⟩|exact⟨wJr gl,by kernel_rfl⟩|exact⟨xKd gl,by kernel_rfl⟩|exact⟨wJq gl,by kernel_rfl⟩|exact⟨xKi gl,by kernel_rfl⟩|exact⟨xKh gl,by kernel_rfl⟩|exact⟨xKg gl,by kernel_rfl⟩|exact⟨xKf gl,by kernel_rfl⟩|exact⟨xKe gl,by kernel_rfl⟩|exact⟨wJp gl,by kernel_rfl⟩|exact⟨wJo gl,by kernel_rfl⟩
  ·have hk:rowS ca rule=rowS 1 rule:=by
    unfold rowS;rw[if_neg (by omega),if_neg (by omega),if_neg (by omega),if_neg (by omega),if_neg (by omega)]
    conv=>rhs;rw[if_neg (by omega),if_neg (by omega),if_neg (by omega),if_neg (by omega),if_neg (by omega)]
   have hi:zVy ca rule=zVy 1 rule:=by
    unfold zVy;rw[if_neg (by omega),if_neg (by omega)]
    conv=>rhs;rw[if_neg (by omega),if_neg (by omega)]
   have hs:addS ca rule=addS 1 rule:=by
    funext m a b;unfold addS;rw[if_neg h2,if_neg (show ¬ (1:Nat)=2 by decide)]
   rw[hk] at h;rw[hi,hs];rcases hcas with rfl|rfl|rfl|rfl|rfl|rfl|rfl|rfl|rfl|rfl|rfl|rfl|rfl|rfl|rfl|rfl|rfl|rfl|rfl
   all_goals first|(cases h;done)|exact⟨wJy gl,by kernel_rfl⟩|exact⟨wJx gl,by kernel_rfl⟩|exact⟨wJw gl,by kernel_rfl⟩|exact⟨wJv gl,by kernel_rfl⟩|exact⟨wJu gl,by kernel_rfl⟩|exact⟨wJt gl,by kernel_rfl⟩|exact⟨wJs gl,by kernel_rfl⟩|exact⟨wJr gl,by kernel_rfl⟩|exact⟨xKd gl,by kernel_rfl⟩|exact⟨wJq gl,by kernel_rfl⟩|exact⟨xKi gl,by kernel_rfl⟩|exact⟨xKh gl,by kernel_rfl⟩|exact⟨xKg gl,by kernel_rfl⟩|exact⟨xKf gl,by kernel_rfl⟩|exact⟨xKe gl,by kernel_rfl⟩|exact⟨wJp gl,by kernel_rfl⟩|exact⟨wJo gl,by kernel_rfl⟩
