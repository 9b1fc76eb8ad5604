/- The plain law of SequentPuts: a formula -/
import Derived.Test.YtddfdpbibloljaaGreatDoorQA
import Derived.Test.YtddfdpbibloljaaGreatDoorKG
import Derived.Lib.Bytealg
import Derived.Test.YtddfdpbibloljaaGreatDoorLA
set_option linter.all false
open Nat renaming reduceEqDiff → zE,reduceBEq → zB,reduceAdd → zA,reduceMul → zM,reduceSub → zS,reduceLeDiff → zL
namespace Go.Proofs.Tryz
open Go Go.Iv
mutual
theorem wK4 {ca:Nat}(hc:ca≠3)(e:List ByteArray):∀f g:Fm,opsB ca f=true->opsB ca g=true->dbF e f=dbF e g->f=g
 | .mk o n us sub,.mk o' n' us' sub',hf,hg,h=>by
  simp only[opsB,bAt,dTe,if_neg hc,dEf hc,Bool.false_or,List.isEmpty_iff] at hf hg;obtain⟨⟨⟨h1,h2⟩,rfl⟩,h4⟩:=hf;obtain⟨⟨⟨k1,k2⟩,rfl⟩,k4⟩:=hg;have q:isQ o=false:=by
   have:∀o,o<=7->isQ o=false:=by decide
   exact this o h2
  have q':isQ o'=false:=by
   have:∀o,o<=7->isQ o=false:=by decide
   grind
  simp only[dbF,q,q',bFt,if_false,NlF.mk.injEq] at h;obtain⟨rfl,rfl,_,h⟩:=h;rw[xYo hc e sub sub' h4 k4 h]
theorem xYo {ca:Nat}(hc:ca≠3)(e:List ByteArray):∀l m:List Fm,yK7 ca l=true->yK7 ca m=true->dbFs e l=dbFs e m->l=m
 | [],[],_,_,_=>rfl
 | [],b::m,_,_,h=>by simp[dbFs] at h
 | a::l,[],_,_,h=>by simp[dbFs] at h
 | a::l,b::m,hl,hm,h=>by
  simp only[yK7,bAt] at hl hm;simp only[dbFs,List.cons.injEq] at h;rw[wK4 hc e a b hl.1 hm.1 h.1,xYo hc e l m hl.2 hm.2 h.2]
end
theorem zV6 {ca:Nat}(hc:ca≠3){a b:Fm}(ha:fmB ca a=true)(hb:fmB ca b=true):eqF a b=true↔a=b:=by
 have h1:=(yJz.1 ha).2.2.2;have h2:=(yJz.1 hb).2.2.2;constructor
 ·intro h;exact wK4 hc [] a b h1 h2 (xYn.1 h).2.2.2
 ·rintro rfl;refine zJb ?_;unfold fmB at ha;grind
section
variable (nm:ByteArray)(g:Fm)
end
section
variable {nm:ByteArray}{g:Fm}{ca:Nat}
theorem yXx {s:Sq}(h:yZz ca s=true):s.l.all (fmB ca)=true/\s.r.all (fmB ca)=true:=by
 unfold yZz at h;grind
theorem wZs {ca:Nat}(hc:ca≠3){rule:Nat}{r:Rw}(h:rowS ca rule=some r):r.asks=0:=by
 have hca:=vKs h;rcases zK5 h with⟨rfl,rfl⟩|⟨rfl,rfl⟩|⟨rfl,rfl⟩|⟨rfl,rfl⟩|⟨rfl,rfl⟩|⟨rfl,rfl⟩|⟨rfl,rfl⟩|⟨rfl,rfl⟩|⟨rfl,rfl⟩|⟨rfl,rfl⟩|⟨rfl,rfl⟩|⟨rfl,rfl⟩|⟨rfl,rfl⟩|⟨rfl,rfl⟩|⟨rfl,rfl⟩|⟨rfl,rfl⟩|⟨rfl,rfl⟩|⟨rfl,rfl⟩
 all_goals first
  | rfl
  | exact absurd (hca.2 (by decide) (by decide)) hc
end
theorem vQs {op:Nat}{n:ByteArray}{us:List Tm}{sub:List Fm}(h:(Fm.mk op n us sub).ok=true):(op=3\/op=8\/op=9->sub.length=1)/\(op=4\/op=5\/op=6\/op=7->sub.length=2):=by
 simp only[Fm.ok,bAt] at h;have h:=h.1.1;constructor
 ·rintro (rfl|rfl|rfl)<;>simp only[yKk,bAt,dTe] at h<;>exact h.2
 ·rintro (rfl|rfl|rfl|rfl)<;>simp only[yKk,bAt,dTe] at h<;>exact h.2
section
variable {nm:ByteArray}{g:Fm}{ca:Nat}
theorem yWm {f:Fm}(h:fmB ca f=true):f.right=true:=by
 unfold fmB at h;grind
theorem yWr {l:List Fm}(h:l.all (fmB ca)=true):l.all Fm.right=true:=List.all_eq_true.2 λf hf=>yWm (List.all_eq_true.1 h f hf)
mutual
noncomputable def yK8 (ca:Nat):Tr->Bool
 | t@(.mk _ _ _ _ _ sub)=>decide (yZu ca t=0)&&yYh ca sub
noncomputable def yYh (ca:Nat):List Tr->Bool
 | []=>true
 | a::l=>yK8 ca a&&yYh ca l
end
mutual
theorem zY7 (ca:Nat):∀(p:List Nat) (t:Tr),(yZk (yZu ca) (t.walk p)).2=0↔yK8 ca t=true
 | p,.mk rule s f u n sub=>by
  have ih:=zKf ca p 0 sub;simp only[Tr.walk,yZk,yK8,bAt,dTe];grind
theorem zKf (ca:Nat):∀(p:List Nat) (i:Nat) (l:List Tr),(yZk (yZu ca) (yZj p i l)).2=0↔yYh ca l=true
 | _,_,[]=>by simp[yZj,yZk,yYh]
 | p,i,a::l=>by
  have i1:=zY7 ca (p++[i]) a;have i2:=zKf ca p (i+1) l;simp only[yZj,yK0,yYh,bAt];grind
end
theorem zX3 {t:Tr}:(yZp ca t).2=0↔yK4 ca=true/\t.steps<=300/\yK8 ca t=true:=by
 unfold yZp;cases hk:yK4 ca
 ·simp
 ·simp only[Bool.not_true,bFt,if_false,true_and];split
  ·simp;omega
  ·rename_i h;rw[zY7];grind
theorem zY6:∀ {l:List Tr}{a:Tr},yYh ca l=true->a∈l->yK8 ca a=true
 | b::l,a,h,ha=>by
  simp only[yYh,bAt] at h;rcases List.mem_cons.1 ha with rfl|ha
  ·exact h.1
  ·exact zY6 h.2 ha
theorem yY3 {t:Tr}(h:yK8 ca t=true):yZz ca t.sq=true:=by
 obtain⟨rule,s,f,u,n,sub⟩:=t;simp only[yK8,bAt,dTe] at h;exact xX7 h.1
end
end Go.Proofs.Tryz
namespace Go.Proofs.Tryz
open Go Go.Iv
theorem vZ0 {a b:Mk}:mkB a b=true↔a=b:=by
 obtain⟨i,w,f⟩:=a;obtain⟨i',w',f'⟩:=b;simp only[mkB,bAt,beq_iff_eq,dTe,zUi,Mk.mk.injEq,and_assoc]
theorem zJ6 {l:List Mk}{m:Mk}:hasT l m=true↔m∈l:=by
 simp only[hasT,List.any_eq_true,vZ0];constructor
 ·rintro⟨x,h,rfl⟩;exact h
 ·exact λh=>⟨m,h,rfl⟩
theorem wWo {l:List Mk}{m x:Mk}:x∈addT l m↔x∈l\/x=m:=by
 unfold addT;split
 ·rename_i h;rw[zJ6] at h;constructor
  ·exact .inl
  ·rintro (h'|rfl)
   ·exact h'
   ·exact h
 ·simp
theorem yWe {x:Mk}:∀ {q l:List Mk},x∈yZg l q↔x∈l\/x∈q
 | [],l=>by simp[yZg]
 | m::q,l=>by
  have:=yWe (x:=x) (q:=q) (l:=addT l m);unfold yZg at this ⊢;rw[List.foldl_cons,this,wWo];simp[or_assoc]
theorem wYq {l:List Mk}{m:Mk}:(addT l m).length<=l.length+1:=by
 unfold addT;split<;>simp
def yZd (b:Bool)(l:List Mk):List Fm:=(l.filter λm=>m.is == b).map (·.f)
theorem yJf {b:Bool}{l:List Mk}{f:Fm}:f∈yZd b l↔∃m∈l,m.is=b/\m.f=f:=by
 simp only[yZd,List.mem_map,List.mem_filter,beq_iff_eq,and_assoc]
def sqT (l:List Mk):Sq:=⟨yZd true l,yZd false l⟩
def yVg (b:Bool)(o:Nat):Nat:=if o=3 then (if b then 3 else 4) else if o=4 then (if b then 5 else 6) else if o=5 then (if b then 7 else 8) else if o=6 then (if b then 9 else 10) else if o=7 then (if b then 11 else 12) else 0
noncomputable def yU1 (l:List Mk)(m:Mk)(c:Bool):Nat:=if !c then yVg m.is m.f.op else if hasT l ⟨!m.is,m.w,m.f⟩ then 1 else 2
def tm0:Tm:=.mk false bE []
mutual
noncomputable def yW1 (l:List Mk):Nd->Tr
 | .mk m c w sub=>.mk (yU1 l m c) (sqT l) m.f tm0 bE (if c then [] else yJb l (yQs m 0) sub)
noncomputable def yJb (l:List Mk):List (List Mk)->List Nd->List Tr
 | q::qs,n::ns=>yW1 (yZg l q) n::yJb l qs ns
 | _,_=>[]
end
mutual
noncomputable def bigT (l:List Mk):Nd->Bool
 | .mk m c w sub=>decide (64<(yZd true l).length) || decide (64<(yZd false l).length) || (!c&&zZy l (yQs m 0) sub)
noncomputable def zZy (l:List Mk):List (List Mk)->List Nd->Bool
 | q::qs,n::ns=>bigT (yZg l q) n || zZy l qs ns
 | _,_=>false
end
def GoodT (l:List Mk):Prop:=∀m∈l,fmB 1 m.f=true/\m.w=0
theorem GoodT.adds {l q:List Mk}(h:GoodT l)(h':GoodT q):GoodT (yZg l q):=λm hm=>(yWe.1 hm).elim (h m) (h' m)
theorem yWv {l:List Mk}{m:Mk}{c:Bool}{w:Int}{k:Nat}(h:yUw l m c w k=0) :
  m∈l/\(c=true->yYf l m=true)/\(c=false->(yZx m).1≠0)/\w=0/\k=(if c then 0 else (yQs m w).length):=by
 unfold yUw at h;rcases xZ0 h with⟨_,h⟩|⟨h1,h⟩
 ·cases h
 rcases xZ0 h with⟨_,h⟩|⟨h2,h⟩
 ·cases h
 have h3:k=(if c then 0 else (yQs m w).length):=Decidable.byContradiction λhc=>by rw[if_pos hc] at h;cases h
 rw[<- zJ6];simp only[Bool.or_eq_true,bAt,Bool.not_eq_true',dTe,not_or,not_and,Bool.not_eq_false,Decidable.not_not] at h1 h2;exact⟨h1.1.1,h1.1.2,λhc=>h1.2 hc,h2,h3⟩
theorem yWn {m:Mk}(h:(yZx m).1≠0):∃r,rowT m.is m.f.op=some r/\m.f.subs.length=r.2/\yZx m=r:=by
 unfold yZx at h ⊢;cases hr:rowT m.is m.f.op with
 | none=>rw[hr] at h;exact absurd rfl h
 | some r =>
  rw[hr] at h;by_cases hl:m.f.subs.length=r.2
  ·exact⟨r,rfl,hl,by simp only[if_pos hl]⟩
  ·simp only[if_neg hl] at h;exact absurd rfl h
theorem zYd {m:Mk}(hf:fmB 1 m.f=true)(h:(yZx m).1≠0):(∃n a,m.f=.mk 3 n [] [a]/\fmB 1 a=true)\/∃o n a b,(o=4\/o=5\/o=6\/o=7)/\m.f=.mk o n [] [a,b]/\fmB 1 a=true/\fmB 1 b=true:=by
 obtain⟨r,hr,hl,_⟩:=yWn h;obtain⟨is,w,⟨o,n,us,sub⟩⟩:=m;simp only[Fm.op,Fm.subs] at hr hl hf;have hpart:∀g∈sub,fmB 1 g=true:=λg hg=>wY4 hf hg;have h4:=(yJz.1 hf).2.2.2;simp only[opsB,bAt,dTe] at h4;have hus:us=[]:=by simpa using h4.1.2
 have ho:o<=7:=by have:=h4.1.1.2;simpa using this
 subst hus;unfold rowT at hr;have h2:∀n,sub.length=2->∃o' n' a b,(o'=4\/o'=5\/o'=6\/o'=7)->Fm.mk o n [] sub=.mk o' n' [] [a,b]/\fmB 1 a=true/\fmB 1 b=true:=λn hs=>by
  match sub,hs,hpart with
  | [a,b],_,hp=>exact⟨o,n,a,b,λ_=>⟨rfl,hp a (by simp),hp b (by simp)⟩⟩
 have h2':sub.length=2->(o=4\/o=5\/o=6\/o=7)->∃o' n' a b,(o'=4\/o'=5\/o'=6\/o'=7)/\Fm.mk o n [] sub=.mk o' n' [] [a,b]/\fmB 1 a=true/\fmB 1 b=true:=λhs hq=>by
  match sub,hs,hpart with
  | [a,b],_,hp=>exact⟨o,n,a,b,hq,rfl,hp a (by simp),hp b (by simp)⟩
 rcases yXt hr with⟨h3,rfl⟩|⟨_,hr⟩
 ·have:o=3:=by omega
  subst this
  match sub,hl,hpart with
  | [a],_,hp=>exact .inl ⟨n,a,rfl,hp a (by simp)⟩
 rcases yXt hr with⟨h3,rfl⟩|⟨_,hr⟩
 ·exact .inr (h2' hl (by omega))
 rcases yXt hr with⟨h3,rfl⟩|⟨_,hr⟩
 ·exact .inr (h2' hl (by omega))
 rcases yXt hr with⟨h3,rfl⟩|⟨_,hr⟩
 ·exact .inr (h2' hl (by omega))
 rcases yXt hr with⟨h3,rfl⟩|⟨_,hr⟩
 ·exact .inr (h2' hl (by omega))
 rcases yXt hr with⟨h3,rfl⟩|⟨_,hr⟩
 ·omega
 rcases yXt hr with⟨h3,rfl⟩|⟨_,hr⟩
 ·omega
 cases hr
theorem zQy {m:Mk}(hf:fmB 1 m.f=true)(h:(yZx m).1≠0)(w:Int) :
  (∃r,rowK (yVg m.is m.f.op)=some r/\r.asks=0/\r.op=m.f.op/\r.left=m.is/\r.right=!m.is) /\
  addS 1 (yVg m.is m.f.op) m.f ((m.f.subs[0]?).getD fm0) ((m.f.subs[1]?).getD fm0)=(yQs m w).map sqT /\
  (∀q∈yQs m w,∀x∈q,fmB 1 x.f=true/\x.w=m.w)/\3<=yVg m.is m.f.op/\yVg m.is m.f.op<=12/\0<(yQs m w).length:=by
 have hm:=hf;rcases zYd hf h with⟨n,a,he,ha⟩|⟨o,n,a,b,ho,he,ha,hb⟩
 ·obtain⟨is,w',f⟩:=m;simp only at he hm;subst he;cases is
  ·refine⟨⟨_,rfl,rfl,rfl,rfl,rfl⟩,rfl,?_,of_decide_eq_true rfl,of_decide_eq_true rfl,of_decide_eq_true rfl⟩;show ∀q∈[[(⟨true,w',a⟩:Mk)]],_;simp[ha]
  ·refine⟨⟨_,rfl,rfl,rfl,rfl,rfl⟩,rfl,?_,of_decide_eq_true rfl,of_decide_eq_true rfl,of_decide_eq_true rfl⟩;show ∀q∈[[(⟨false,w',a⟩:Mk)]],_;simp[ha]
 ·obtain⟨is,w',f⟩:=m;simp only at he hm;subst he;rcases ho with rfl|rfl|rfl|rfl
  ·cases is
   ·refine⟨⟨_,rfl,rfl,rfl,rfl,rfl⟩,rfl,?_,of_decide_eq_true rfl,of_decide_eq_true rfl,of_decide_eq_true rfl⟩;show ∀q∈[[(⟨false,w',a⟩:Mk)],[⟨false,w',b⟩]],_;simp[ha,hb]
   ·refine⟨⟨_,rfl,rfl,rfl,rfl,rfl⟩,rfl,?_,of_decide_eq_true rfl,of_decide_eq_true rfl,of_decide_eq_true rfl⟩;show ∀q∈[[(⟨true,w',a⟩:Mk),⟨true,w',b⟩]],_;simp[ha,hb]
  ·cases is
   ·refine⟨⟨_,rfl,rfl,rfl,rfl,rfl⟩,rfl,?_,of_decide_eq_true rfl,of_decide_eq_true rfl,of_decide_eq_true rfl⟩;show ∀q∈[[(⟨false,w',a⟩:Mk),⟨false,w',b⟩]],_;simp[ha,hb]
   ·refine⟨⟨_,rfl,rfl,rfl,rfl,rfl⟩,rfl,?_,of_decide_eq_true rfl,of_decide_eq_true rfl,of_decide_eq_true rfl⟩;show ∀q∈[[(⟨true,w',a⟩:Mk)],[⟨true,w',b⟩]],_;simp[ha,hb]
  ·cases is
   ·refine⟨⟨_,rfl,rfl,rfl,rfl,rfl⟩,rfl,?_,of_decide_eq_true rfl,of_decide_eq_true rfl,of_decide_eq_true rfl⟩;show ∀q∈[[(⟨true,w',a⟩:Mk),⟨false,w',b⟩]],_;simp[ha,hb]
   ·refine⟨⟨_,rfl,rfl,rfl,rfl,rfl⟩,rfl,?_,of_decide_eq_true rfl,of_decide_eq_true rfl,of_decide_eq_true rfl⟩;show ∀q∈[[(⟨false,w',a⟩:Mk)],[⟨true,w',b⟩]],_;simp[ha,hb]
  ·obtain⟨i1,i2⟩:=vZl hm;cases is
   ·refine⟨⟨_,rfl,rfl,rfl,rfl,rfl⟩,rfl,?_,of_decide_eq_true rfl,of_decide_eq_true rfl,of_decide_eq_true rfl⟩;show ∀q∈[[(⟨true,w',a⟩:Mk),⟨false,w',b⟩],[⟨true,w',b⟩,⟨false,w',a⟩]],_;simp[ha,hb]
   ·refine⟨⟨_,rfl,rfl,rfl,rfl,rfl⟩,rfl,?_,of_decide_eq_true rfl,of_decide_eq_true rfl,of_decide_eq_true rfl⟩;show ∀q∈[[(⟨true,w',impF a b⟩:Mk),⟨true,w',impF b a⟩]],_;simp[i1,i2]
theorem row1 (rule:Nat):rowS 1 rule=rowK rule:=by
 unfold rowS;rw[if_neg (by omega),if_neg (by omega),if_neg (by omega),if_neg (by omega),if_neg (by omega)]
theorem wJi {l:List Fm}{f:Fm}(hf:fmB 1 f=true)(h:f∈l):hasF l f=true:=yWk.2 ⟨f,h,zJb (yWm hf)⟩
theorem xJ0 {s:Sq}{rule:Nat}{r:Rw}{main:Fm}{u:Tm}{nm:ByteArray}(hv:yZz 1 s=true)(hr:rowK rule=some r)(ha:r.asks=0)(hm:fmB 1 main=true)(hop:r.op=0\/r.op=main.op)(hl:r.left=true->main∈s.l)(hrr:r.right=true->main∈s.r) :
  yJl 1 s rule main u nm=(addS 1 rule main ((main.subs[0]?).getD fm0) ((main.subs[1]?).getD fm0),0):=by
 have hadd:yJ7 1 rule r main u nm=(addS 1 rule main ((main.subs[0]?).getD fm0) ((main.subs[1]?).getD fm0),0):=by
  have e:(!fmB 1 main || (decide (r.op≠0)&&decide (main.op≠r.op)))=false:=by
   rw[hm];rcases hop with h|h<;>simp[h]
  simp only[yJ7,e,bFt,if_false,if_pos ha]
 unfold yJl;rw[hv,row1,hr];simp only[hadd,ha];have h1:(r.left&&!hasF s.l main)=false:=by
  cases hq:r.left
  ·rfl
  ·rw[wJi hm (hl hq)];rfl
 have h2:(r.right&&!hasF s.r main)=false:=by
  cases hq:r.right
  ·rfl
  ·rw[wJi hm (hrr hq)];rfl
 rw[h1,h2];rfl
theorem yGo {l:List Mk}(h:GoodT l)(b:Bool):(yZd b l).all (fmB 1)=true:=List.all_eq_true.2 λf hf=>by
 obtain⟨m,hm,_,rfl⟩:=yJf.1 hf;exact (h m hm).1
theorem wVz {l:List Mk}(h:GoodT l)(h1:(yZd true l).length<=64)(h2:(yZd false l).length<=64):yZz 1 (sqT l)=true:=by
 unfold yZz;rw[show (sqT l).l=yZd true l from rfl,show (sqT l).r=yZd false l from rfl,yGo h,yGo h,dEt h1,dEt h2];rfl
theorem zJf {a b:Sq}(h1:a.l.all Fm.right=true)(h2:a.r.all Fm.right=true)(h3:∀f∈a.l,f∈b.l)(h4:∀f∈a.r,f∈b.r):yXp a b=true:=by
 have key:∀l m:List Fm,l.all Fm.right=true->(∀f∈l,f∈m)->allF l m=true:=λl m h hm=>xXf.2 λf hf=>yWk.2 ⟨f,hm f hf,zJb (List.all_eq_true.1 h f hf)⟩;unfold yXp;rw[key _ _ h1 h3,key _ _ h2 h4];rfl
theorem xQk {l q:List Mk}(hl:GoodT (yZg l q)):yXp (sqT (yZg l q)) ((sqT l).plus (sqT q))=true:=by
 have key:∀b,∀f∈yZd b (yZg l q),f∈yZd b l++yZd b q:=λb f hf=>by
  obtain⟨m,hm,hb,he⟩:=yJf.1 hf;rcases yWe.1 hm with h|h
  ·exact List.mem_append_left _ (yJf.2 ⟨m,h,hb,he⟩)
  ·exact List.mem_append_right _ (yJf.2 ⟨m,h,hb,he⟩)
 exact zJf (yWr (yGo hl true)) (yWr (yGo hl false)) (key true) (key false)
theorem xVk (l:List Mk):∀n:Nd,(yW1 l n).sq=sqT l
 | .mk ..=>rfl
theorem zZ4 (l:List Mk):∀(qs:List (List Mk)) (ns:List Nd),qs.length=ns.length->(yJb l qs ns).length=qs.length
 | [],[],_=>rfl
 | q::qs,n::ns,h=>by simp only[yJb,List.length_cons,zZ4 l qs ns (by simpa using h)]
 | [],_::_,h=>by simp at h
 | _::_,[],h=>by simp at h
theorem zWz {l:List Mk}(hl:GoodT l):∀(qs:List (List Mk)) (ns:List Nd),(∀q∈qs,GoodT q)->yX3 (sqT l) (qs.map sqT) (yJb l qs ns)=true
 | [],ns,_=>by simp[yX3]
 | q::qs,[],_=>by simp[yJb,yX3]
 | q::qs,n::ns,h=>by
  simp only[List.map_cons,yJb,yX3,xVk,bAt];exact⟨xQk (hl.adds (h q (by simp))),zWz hl qs ns λq' hq=>h q' (by simp[hq])⟩
mutual
theorem xY2:∀(n:Nd)(l:List Mk)(p:List Nat),GoodT l->(yXo l p n).2=0->bigT l n=false->yK8 1 (yW1 l n)=true
 | .mk m c w sub,l,p,hl,h,hb=>by
  unfold yXo at h;split at h
  ·rename_i h1;exact absurd h h1
  rename_i h1;obtain⟨hm,hcl,hfind,rfl,hk⟩:=yWv (Decidable.not_not.1 h1);unfold bigT at hb;simp only[Bool.or_eq_false_iff,decide_eq_false_iff_not,Nat.not_lt] at hb;obtain⟨⟨b1,b2⟩,b3⟩:=hb;have hv:=wVz hl b1 b2;have hf:=(hl m hm).1;have hml:m.is=true->m.f∈(sqT l).l:=λh=>yJf.2 ⟨m,hm,h,rfl⟩;have hmr:m.is=false->m.f∈(sqT l).r:=λh=>yJf.2 ⟨m,hm,h,rfl⟩;unfold yW1;cases c
  ·simp only[bFt,if_false] at h hk;rw[Bool.not_false,Bool.true_and] at b3;have hft:=hfind rfl;obtain⟨⟨r,hr,ha,hop,hrl,hrr⟩,hadd,hgood,_⟩:=zQy hf hft 0;have hg:∀q∈yQs m 0,GoodT q:=λq hq x hx=>⟨(hgood q hq x hx).1,((hgood q hq x hx).2).trans (hl m hm).2⟩
   have hrule:yU1 l m false=yVg m.is m.f.op:=rfl;simp only[bFt,if_false,yK8,hrule,bAt,dTe];have hst:=xJ0 (u:=tm0) (nm:=bE) hv hr ha hf (.inr hop) (λh=>hml (hrl▸h)) (λh=>hmr (by rw[hrr] at h;simpa using h));rw[hadd] at hst;refine⟨?_,xZl sub (yQs m 0) l p 0 hl hg h b3⟩;simp only[yZu,hst,ne_eq,nTf,if_false,List.length_map,zZ4 l _ _ hk.symm,zWz hl _ _ hg,if_true]
  ·have hc:=hcl rfl;simp only[if_true,yK8,yYh,Bool.and_true,dTe];by_cases ho:hasT l ⟨!m.is,m.w,m.f⟩=true
   ·have hrule:yU1 l m true=1:=by unfold yU1;rw[ho];rfl
    have hop:=zJ6.1 ho;have hst:=xJ0 (u:=tm0) (nm:=bE) (rule:=1) (r:=⟨true,true,0,0⟩) hv rfl rfl hf (.inl rfl) (λ_=>by
     cases hi:m.is
     ·rw[hi] at hop;exact yJf.2 ⟨_,hop,rfl,rfl⟩
     ·exact hml hi) (λ_=>by
     cases hi:m.is
     ·exact hmr hi
     ·rw[hi] at hop;exact yJf.2 ⟨_,hop,rfl,rfl⟩)
    simp only[yZu,hrule,hst];rfl
   ·have ho':hasT l ⟨!m.is,m.w,m.f⟩=false:=by simpa using ho
    have hrule:yU1 l m true=2:=by unfold yU1;rw[ho'];rfl
    unfold yYf at hc;rw[ho',Bool.or_false,bAt,dTe] at hc;have hst:=xJ0 (u:=tm0) (nm:=bE) (rule:=2) (r:=⟨true,false,2,0⟩) hv rfl rfl hf (.inr hc.2.symm) (λ_=>hml hc.1) (λh=>by cases h);simp only[yZu,hrule,hst];rfl
theorem xZl:∀(ns:List Nd)(qs:List (List Mk))(l:List Mk)(p:List Nat)(i:Nat),GoodT l->(∀q∈qs,GoodT q)->(yJ2 l p i qs ns).2=0->zZy l qs ns=false->yYh 1 (yJb l qs ns)=true
 | [],qs,l,p,i,_,_,_,_=>by cases qs<;>rfl
 | n::ns,[],l,p,i,_,_,_,_=>rfl
 | n::ns,q::qs,l,p,i,hl,hg,h,hb=>by
  unfold yJ2 at h;unfold zZy at hb;rw[Bool.or_eq_false_iff] at hb;split at h
  ·rename_i h1;exact absurd h h1
  rename_i h1;unfold yJb;simp only[yYh,bAt];exact⟨xY2 n _ _ (hl.adds (hg q (by simp))) (Decidable.not_not.1 h1) hb.1,xZl ns qs l p _ hl (λq' hq=>hg q' (by simp[hq])) h hb.2⟩
end
theorem zUn (b:Bool)(o:Int)(x y:Fm):∀q∈askT b o x y,q.length<=2:=by
 unfold askT
 repeat' split
 all_goals simp
theorem zZz (b:Bool)(o:Int)(x y:Fm):(askT b o x y).length<=2:=by
 unfold askT
 repeat' split
 all_goals simp
theorem yG2 (m:Mk)(w:Int):∀q∈yQs m w,q.length<=2:=by
 unfold yQs;split
 ·simp
 ·intro q hq;obtain⟨l,hl,rfl⟩:=List.mem_map.1 hq;rw[List.length_map];exact zUn _ _ _ _ l hl
theorem yY8 (m:Mk)(w:Int):(yQs m w).length<=2:=by
 unfold yQs;split
 ·exact Nat.zero_le _
 ·rw[List.length_map];exact zZz ..
end Go.Proofs.Tryz
namespace Go.Proofs.Tryz
open Go Go.Iv
set_option maxRecDepth 4000
variable (gl:Nat->Option IV)
theorem IsMk.agg {m:Mk}{x:IV}(h:IsMk m x):∃(o:Int) (n:ByteArray) (t:Tag) (xs:List IV) (t':Tag) (ys:List IV),x=.agg [.raw (.bool m.is),.raw (.int .i64 m.w),.raw (.int .u8 o),.raw (.string n),.sl t xs,.sl t' ys]:=by
 obtain⟨o,n,t,xs,t',ys,h,_⟩:=h;exact⟨_,_,_,_,_,_,h⟩
def fnF (m:Mk):IV:=if (yZx m).1=0 then .raw .nilFunc else .fn (.func (zWa m.is m.f.op)) [] []
def rowF (m:Mk):IV:=.agg [.raw (.int .u8 (yZx m).1),.raw (.int .i64 (yZx m).2),fnF m]
theorem vQh {b:Bool}{o:Int}{r:Nat×Nat}(h:rowT b o=some r):r.1≠0/\r.1<=4/\r.2<=2:=by
 unfold rowT at h;rcases yXt h with⟨_,rfl⟩|⟨_,h⟩
 ·decide
 rcases yXt h with⟨_,rfl⟩|⟨_,h⟩
 ·cases b<;>decide
 rcases yXt h with⟨_,rfl⟩|⟨_,h⟩
 ·cases b<;>decide
 rcases yXt h with⟨_,rfl⟩|⟨_,h⟩
 ·cases b<;>decide
 rcases yXt h with⟨_,rfl⟩|⟨_,h⟩
 ·cases b<;>decide
 rcases yXt h with⟨_,rfl⟩|⟨_,h⟩
 ·cases b<;>decide
 rcases yXt h with⟨_,rfl⟩|⟨_,h⟩
 ·cases b<;>decide
 cases h
theorem zJs (m:Mk)(y:IV)(hy:IsMk m y)(st:ISt)(b:Nat)(es:List (Value×IV))(hb:st b=some (.map .sg es))(ht:zXs es) :
  ICall prog gl 153 [.raw (.map (some b)),y] st (λr st'=>r=rowF m/\st'=st):=by
 obtain⟨is,w,f⟩:=m;obtain⟨o',n',t1,x1,t2,x2,rfl,hf⟩:=hy;obtain⟨o,n,us,sub⟩:=f;obtain⟨_,_,_,_,he,ho,e1,i1,e2,i2⟩:=hf.mk;simp only[IV.agg.injEq,List.cons.injEq,IV.raw.injEq,Value.int.injEq,Value.string.injEq,IV.sl.injEq,true_and,and_true] at he;obtain⟨rfl,rfl,⟨rfl,rfl⟩,rfl,rfl⟩:=he;have d1:decide ((0:Int)<=(o:Int))=true:=dEt (by omega);have d2:decide ((o:Int)<=255)=true:=dEt (by omega);have hfi:yZy (.agg #[.bool is,.int .u8 (o:Int)]) es=(rowT is o).map λr=>xG9 r (zWa is o):=ht is o;refine iI func153 ?_;cases hr:rowT is o with
 | none =>
  have hT:yZx ⟨is,w,.mk o n' us sub⟩=(0,0):=by unfold yZx;simp only[Fm.op,hr]
  simp only[go_sem,zE,zB,zA,zM,zS,zL,reduceCtorEq,d1,d2,hb,hfi,hr,Option.map_none,zZg,rowZ,fits];exact yQ0 ⟨by simp only[rowF,fnF,hT,if_true];rfl,rfl⟩
 | some r =>
  obtain⟨p1,p2,p3⟩:=vQh hr;obtain⟨k,q⟩:=r;simp only at p1 p2 p3;by_cases hl:sub.length=q
  ·have hT:yZx ⟨is,w,.mk o n' us sub⟩=(k,q):=by unfold yZx;simp only[Fm.op,Fm.subs,hr,hl,if_true]
   have dl:decide ((sub.length:Int)=(q:Int))=true:=dEt (by omega);simp only[go_sem,zE,zB,zA,zM,zS,zL,reduceCtorEq,d1,d2,hb,hfi,hr,Option.map_some,yGt,xG9,i2.len,dl,fits];intros;exact yQ0 ⟨by simp only[rowF,fnF,hT,if_neg p1];rfl,rfl⟩
  ·have hT:yZx ⟨is,w,.mk o n' us sub⟩=(0,0):=by unfold yZx;simp only[Fm.op,Fm.subs,hr];exact if_neg hl
   have dl:decide ((sub.length:Int)=(q:Int))=false:=dEf (by omega);simp only[go_sem,zE,zB,zA,zM,zS,zL,reduceCtorEq,d1,d2,hb,hfi,hr,Option.map_some,yGt,xG9,i2.len,dl,fits];intros;exact yQ0 ⟨by simp only[rowF,fnF,hT,if_true];rfl,rfl⟩
theorem zJc {b:Bool}{o:Nat}{r:Nat×Nat}(h:rowT b o=some r)(ho:o<=7):zVu gl (zWa b o) (askT b o)/\entI prog (zWa b o)=true/\(r.1=1\/r.1=2)/\(r.2=1\/r.2=2):=by
 have hc:o=3\/o=4\/o=5\/o=6\/o=7:=by
  refine Classical.byContradiction λhc=>?_;unfold rowT at h
  repeat (rw[if_neg (by omega)] at h)
  cases h
 rcases hc with rfl|rfl|rfl|rfl|rfl<;>cases b<;>obtain rfl:=Option.some.inj h
 ·exact⟨vYq gl,by kernel_rfl,by decide,by decide⟩
 ·exact⟨vYr gl,by kernel_rfl,by decide,by decide⟩
 ·exact⟨vYo gl,by kernel_rfl,by decide,by decide⟩
 ·exact⟨vYp gl,by kernel_rfl,by decide,by decide⟩
 ·exact⟨vYm gl,by kernel_rfl,by decide,by decide⟩
 ·exact⟨vYn gl,by kernel_rfl,by decide,by decide⟩
 ·exact⟨vYk gl,by kernel_rfl,by decide,by decide⟩
 ·exact⟨vYl gl,by kernel_rfl,by decide,by decide⟩
 ·exact⟨vXc gl,by kernel_rfl,by decide,by decide⟩
 ·exact⟨vYj gl,by kernel_rfl,by decide,by decide⟩
def mkH (w:Int)(h:Bool×Fm):Mk:=⟨h.1,w,h.2⟩
theorem xZh {m:Mk}{w:Int}{k:Nat}{q:Nat}(h:yZx m=(k,q))(hk:k=1\/k=2):yQs m w=(askT m.is m.f.op ((m.f.subs[0]?).getD fm0) (if q=2 then (m.f.subs[1]?).getD fm0 else fm0)).map λl=>l.map (mkH m.w):=by
 unfold yQs;rw[h,if_neg (by show ¬ k=0;omega)];simp only[if_pos hk];rfl
theorem vQr {st st' S0:ISt}{tg:Tag}{n s:Nat}(h:own st tg n s S0)(hs:subSt st st'):own st' tg n s S0:=h.mono λg hg _=>hs g _ hg
theorem zGz (m:Mk)(y:IV)(hy:IsMk m y)(hm:m.f.op<=7)(w:Int)(st:ISt)(b:Nat)(es:List (Value×IV))(hb:st b=some (.map .sg es))(ht:zXs es) :
  ICall prog gl 111 [.raw (.map (some b)),y,.raw (.int .i64 w)] st (λr st'=>∃tg xs,r=.sl tg xs/\okEs tg 1/\IsMkss (yQs m w) xs/\st'=st):=by
 have hfind:=λst hb=>zJs gl m y hy st b es hb ht;obtain⟨is,mw,f⟩:=m;obtain⟨o',n',t1,x1,t2,x2,rfl,hf⟩:=hy;obtain⟨o,n,us,sub⟩:=f;obtain⟨_,_,_,_,he,ho,e1,i1,e2,i2⟩:=hf.mk;simp only[IV.agg.injEq,List.cons.injEq,IV.raw.injEq,Value.int.injEq,Value.string.injEq,IV.sl.injEq,true_and,and_true] at he;obtain⟨rfl,rfl,⟨rfl,rfl⟩,rfl,rfl⟩:=he;simp only[Fm.op] at hm;refine ICall.intro (c:=cf prog gl [] [(10,[0,1,2,3,4,5,6,7,10,8,9])]) func111 rfl (by show _<=75;simp) (by kernel_rfl) ?_;simp only[go_sem,zE,zB,zA,zM,zS,zL,reduceCtorEq];refine (hfind _ hb).mono ?_;rintro _ st ⟨rfl,rfl⟩;by_cases hk:(yZx ⟨is,mw,.mk o n' us sub⟩).1=0
 ·have dk:decide (((yZx ⟨is,mw,.mk o n' us sub⟩).1:Int)=0)=true:=dEt (by omega);have hf0:fnF ⟨is,mw,.mk o n' us sub⟩=.raw .nilFunc:=by unfold fnF;rw[if_pos hk]
  simp only[go_sem,zE,zB,zA,zM,zS,zL,reduceCtorEq,rowF,hf0,dk,fits];exact yQ0 ⟨_,_,rfl,.inl rfl,by unfold yQs;rw[if_pos hk];rfl,rfl⟩
 obtain⟨⟨k,q⟩,hr,hq,hT⟩:=yWn hk;simp only[Fm.op,Fm.subs] at hr hq;obtain⟨hask,hent,hk12,hq12⟩:=zJc gl hr hm;simp only at hk12 hq12;rw[xZh hT hk12];simp only[Fm.op,Fm.subs];have hfn:fnF ⟨is,mw,.mk o n' us sub⟩=.fn (.func (zWa is o)) [] []:=by unfold fnF;rw[if_neg hk];rfl
 have dk:decide ((k:Int)=0)=false:=dEf (by omega);obtain⟨a,ha⟩:=yQ4 (show 0<sub.length by omega);obtain⟨ya,hka,hA⟩:=i2.get ha;have hA0:=hA;obtain⟨o5,n5,t5,x5,t6,x6,rfl⟩:=hA0.agg;rw[ha,Option.getD_some];rcases hq12 with rfl|rfl;rw[if_neg (by decide)];have hB:=wY5 ⟨true,.nil,0⟩ ⟨true,.nil,0⟩ (.inl rfl) (.inl rfl);generalize fm0=fB at hB ⊢;rcases hk12 with rfl|rfl;simp only[go_sem,zE,zB,zA,zM,zS,zL,reduceCtorEq,rowF,hfn,hT,hent,fits,yQ3 e2,Int.le_refl,Int.toNat_zero,hka,show decide (((1:Nat):Int)=0)=false from rfl,show decide (((1:Nat):Int)=2)=false from rfl,show decide (((1:Nat):Int)=1)=true from rfl]
 rotate_left
 simp only[go_sem,zE,zB,zA,zM,zS,zL,reduceCtorEq,rowF,hfn,hT,hent,fits,yQ3 e2,Int.le_refl,Int.toNat_zero,hka,show decide (((2:Nat):Int)=0)=false from rfl,show decide (((1:Nat):Int)=2)=false from rfl,show decide (((2:Nat):Int)=1)=false from rfl,show decide (((2:Nat):Int)=2)=true from rfl]
 rotate_left
 rw[if_pos rfl];obtain⟨fB,hb'⟩:=yQ4 (show 1<sub.length by omega);obtain⟨yb,hkb,hB⟩:=i2.get hb';have hB0:=hB;obtain⟨o7,n7,t7,x7,t8,x8,rfl⟩:=hB0.agg;rw[hb',Option.getD_some];rcases hk12 with rfl|rfl;simp only[go_sem,zE,zB,zA,zM,zS,zL,reduceCtorEq,rowF,hfn,hT,hent,fits,yQ3 e2,Int.le_refl,Int.toNat_zero,hka,Int.toNat_one,hkb,show decide (((1:Nat):Int)=0)=false from rfl,show decide (((2:Nat):Int)=2)=true from rfl,show decide (((1:Nat):Int)=1)=true from rfl]
 rotate_left
 simp only[go_sem,zE,zB,zA,zM,zS,zL,reduceCtorEq,rowF,hfn,hT,hent,fits,yQ3 e2,Int.le_refl,Int.toNat_zero,hka,Int.toNat_one,hkb,show decide (((2:Nat):Int)=0)=false from rfl,show decide (((2:Nat):Int)=1)=false from rfl,show decide (((2:Nat):Int)=2)=true from rfl]
 rotate_left
 all_goals
  refine (hask _ _ _ _ hA hB _).mono ?_;rintro _ st1 ⟨tg,xs,rfl,htg,hxs,rfl⟩;generalize hL:askT is o a fB=L at hxs ⊢;have hL2:L.length<=2:=by rw[<- hL];exact zZz ..
  have hL3:∀q∈L,q.length<=2:=by rw[<- hL];exact zUn _ _ _ _
  simp only[go_sem,zE,zB,zA,zM,zS,zL,reduceCtorEq,hxs.len,fits];refine LoopC.ctr L.length (λk fr st' ds=>(∃tg' zs,fr 9=.iv (.sl tg' zs)/\IsMkss ((L.take k).map λl=>l.map (mkH mw)) zs/\own st' tg' k 1 st1/\subSt st1 st')/\fr 2=.iv (.raw (.int .i64 mw))/\fr 47=.iv (.sl tg xs)/\fr 48=.iv (.raw (.int .i64 L.length))/\fr 49=.iv (.raw (.int .i64 k))/\ds=[]) ?_ ?_ ?_
  ·simp only[go_sem,zE,zB,zA,zM,zS,zL,reduceCtorEq];exact⟨⟨_,_,rfl,rfl,.inl ⟨rfl,rfl⟩,subSt.refl _⟩,rfl⟩
  ·rintro k fr st2 _ hlt ⟨⟨tgo,zs,f9,hzs,hown,hsub⟩,f2,f47,f48,f49,rfl⟩;obtain⟨a,ha⟩:=yQ4 hlt;obtain⟨ta,za,hka,hta,hza⟩:=hxs.get ha;have ha2:=hL3 a (lMg ha);simp only[go_sem,zE,zB,zA,zM,zS,zL,reduceCtorEq,f2,f9,f47,f48,f49,lt_i hlt,yQ3 htg,iNn,hka,fits,hza.len];intro _;refine LoopC.ctr a.length (λj fr st' ds=>(∃tg' zs,fr 12=.iv (.sl tg' zs)/\IsMks ((a.take j).map (mkH mw)) zs/\own st' tg' j 6 st2/\subSt st2 st')/\fr 2=.iv (.raw (.int .i64 mw))/\fr 9=.iv (.sl tgo zs)/\fr 47=.iv (.sl tg xs)/\fr 48=.iv (.raw (.int .i64 L.length))/\fr 49=.iv (.raw (.int .i64 k))/\fr 53=.iv (.sl ta za)/\fr 54=.iv (.raw (.int .i64 a.length))/\fr 55=.iv (.raw (.int .i64 j))/\ds=[]) ?_ ?_ ?_
   ·simp only[go_sem,zE,zB,zA,zM,zS,zL,reduceCtorEq,f2,f9,f47,f48,f49];exact⟨⟨_,_,rfl,rfl,.inl ⟨rfl,rfl⟩,subSt.refl _⟩,rfl⟩
   ·rintro j fr st3 _ hjt ⟨⟨tgi,zi,f12,hzi,hoi,hsi⟩,f2,f9,f47,f48,f49,f53,f54,f55,rfl⟩;obtain⟨h,hh⟩:=yQ4 hjt;obtain⟨y,hky,hy⟩:=hza.get hh;obtain⟨oh,nh,t5,x5,t6,x6,rfl,hfh⟩:=hy;simp only[go_sem,zE,zB,zA,zM,zS,zL,reduceCtorEq,f2,f9,f12,f47,f48,f49,f53,f54,f55,lt_i hjt,yQ3 hta,iNn,hky,fits,yQ1];refine yJj hoi (by rw[hzi.len,List.length_map,List.length_take];omega) hsi rfl (by simp[fits,IV.one]) (by simp only;omega) (by omega) λtg2 st4 hown2 hsub4 _=>?_;simp only[go_sem,zE,zB,zA,zM,zS,zL,reduceCtorEq,f2,f9,f47,f48,f49,f53,f54,f55,yQf hjt (show a.length<=281474976710656 by omega)];refine⟨tg2,_,rfl,?_,hown2,hsub4⟩;rw[yQ7 hh,List.map_append];exact hzi.append (IsMks.one ⟨_,_,_,_,_,_,rfl,hfh⟩)
   ·rintro fr st3 _ ⟨⟨tgi,zi,f12,hzi,hoi,hsi⟩,f2,f9,f47,f48,f49,f53,f54,f55,rfl⟩;rw[lTl] at hzi;simp only[go_sem,zE,zB,zA,zM,zS,zL,reduceCtorEq,f2,f9,f12,f47,f48,f49,f54,f55,yQo (nLi _),fits,yQ1];refine yJj (vQr hown hsi) (by rw[hzs.len,List.length_map,List.length_take];omega) (hsub.trans hsi) rfl (by simp[fits,IV.one]) (by simp only;omega) (by omega) λtg2 st4 hown2 hsub4 _=>?_;simp only[go_sem,zE,zB,zA,zM,zS,zL,reduceCtorEq,f2,f47,f48,f49,yQf hlt (show L.length<=281474976710656 by omega)];refine⟨tg2,_,rfl,?_,hown2,hsub4⟩;rw[yQ7 ha,List.map_append];exact hzs.append (IsMkss.one hoi.es hzi)
  ·rintro fr st2 _ ⟨⟨tgo,zs,f9,hzs,hown,hsub⟩,f2,f47,f48,f49,rfl⟩;rw[lTl] at hzs;simp only[go_sem,zE,zB,zA,zM,zS,zL,reduceCtorEq,f9,f48,f49,yQo (nLi _)];exact yQa hsub ⟨_,_,rfl,hown.es,hzs,rfl⟩
end Go.Proofs.Tryz
namespace Go.Proofs.Tryz
open Go Go.Iv Go.Shelf Go.RowKit
set_option maxRecDepth 4000
variable (gl:Nat->Option IV)
theorem zX2 (a b:ByteArray)(w:World):Calls prog 160 #[.string a,.string b] w λe w'=>e=.returned (.int .i64 (Lib.compareBytes a.data.toList b.data.toList))/\w'=w:=by
 have t9:prog.underlying 9=some .string:=by kernel_rfl
 have a9:∀w,(isAgg 9).run prog w=.ok false w:=run_isAgg_plain t9 rfl;have t3:prog.underlying 3=some (.int .i64):=by kernel_rfl
 have a3:∀w,(isAgg 3).run prog w=.ok false w:=run_isAgg_plain t3 rfl
 go_enter func160,(show _=_ from rfl)
 go_wp2
 rw[run_callFunc_extern func188 (by kernel_rfl) (by kernel_rfl) (by kernel_rfl) (e:=Extern.BytealgCompare.compare) (by kernel_rfl),Lib.run_compareString];simp only[Result.andThen];rw[Oper.upon_value]
 go_wp2
 go_ret
 exact⟨rfl,rfl⟩
theorem yGf:∀x y:List UInt8,Lib.compareBytes x y=if Op.bytesLess x y=true then -1 else if Op.bytesLess y x=true then 1 else 0
 | [],[]=>by simp[Lib.compareBytes,Op.bytesLess]
 | [],_::_=>by simp[Lib.compareBytes,Op.bytesLess]
 | _::_,[]=>by simp[Lib.compareBytes,Op.bytesLess]
 | a::x,b::y=>by
  have ih:=yGf x y;unfold Lib.compareBytes Op.bytesLess;by_cases h1:a<b
  ·have h2:¬ b<a:=λh=>UInt8.lt_irrefl _ (UInt8.lt_trans h1 h);simp[h1]
  ·by_cases h2:b<a
   ·have h3:a≠b:=by rintro rfl;exact UInt8.lt_irrefl _ h2
    simp[h1,h2,h3]
   ·have:a=b:=UInt8.le_antisymm (UInt8.not_lt.1 h2) (UInt8.not_lt.1 h1);subst this;simp[h1,ih]
theorem zVs (a b:ByteArray)(st:ISt):ICall prog gl 160 [.raw (.string a),.raw (.string b)] st (λr st'=>r=.raw (.int .i64 (cmpB a b))/\st'=st):=by
 intro B X rs hg hst hv;have hr:rs=[.string a,.string b]:=by
  match rs,hv with
  | [r,r'],hv=>rw[V.raw_inv (hv.2 0 r _ rfl rfl),V.raw_inv (hv.2 1 r' _ rfl rfl)]
  | [],hv=>cases hv.1
  | [_],hv=>cases hv.1
  | _::_::_::_,hv=>cases hv.1
 subst hr;refine Calls.mono (zX2 a b X.w) ?_;rintro e w' ⟨rfl,rfl⟩;refine⟨_,rfl,X,.raw (.int .i64 (cmpB a b)),rfl,hg,Ext.refl X,?_,rfl,hst⟩;rw[yGf];exact .raw _ trivial
theorem xXk (a b:ByteArray)(st:ISt):ICall prog gl 123 [.raw (.string a),.raw (.string b)] st (λr st'=>r=.raw (.int .i64 (cmpB a b))/\st'=st):=by
 refine iI func123 ?_;simp only[go_sem,zE,zA,reduceCtorEq];refine (zVs gl a b _).mono ?_;rintro _ _ ⟨rfl,rfl⟩;simp only[go_sem];exact yQ0 ⟨rfl,rfl⟩
theorem zWk (a:Nat)(st:ISt):ICall prog gl 159 [.raw (.int .u8 a)] st (λr st'=>r=.raw (.bool false)/\st'=st):=by
 refine iI func159 ?_;simp only[go_sem,zE,reduceCtorEq];exact yQ0 ⟨rfl,rfl⟩
theorem xG8 (a b:Nat)(st:ISt):ICall prog gl 122 [.raw (.int .u8 a),.raw (.int .u8 b)] st (λr st'=>r=.raw (.int .i64 (cmpN a b))/\st'=st):=by
 refine iI func122 ?_;simp only[go_sem,zA,reduceCtorEq];refine (zWk gl a _).mono ?_;rintro _ _ ⟨rfl,rfl⟩;simp only[go_sem,zE,zA];refine (zWk gl b _).mono ?_;rintro _ _ ⟨rfl,rfl⟩;unfold cmpN;by_cases h1:a<b
 ·simp only[go_sem,zE,reduceCtorEq,lt_i h1];exact yQ0 ⟨by rw[if_pos h1],rfl⟩
 ·by_cases h2:b<a
  ·simp only[go_sem,zE,reduceCtorEq,yQo h1,lt_i h2];exact yQ0 ⟨by rw[if_neg h1,if_pos h2],rfl⟩
  ·simp only[go_sem,zE,reduceCtorEq,yQo h1,yQo h2];exact yQ0 ⟨by rw[if_neg h1,if_neg h2],rfl⟩
theorem xY4 (a:Nat)(st:ISt):ICall prog gl 189 [.raw (.int .i64 a)] st (λr st'=>r=.raw (.bool false)/\st'=st):=by
 refine iI func189 ?_;simp only[go_sem,zE,reduceCtorEq];exact yQ0 ⟨rfl,rfl⟩
theorem xY5 (a b:Nat)(st:ISt):ICall prog gl 161 [.raw (.int .i64 a),.raw (.int .i64 b)] st (λr st'=>r=.raw (.int .i64 (cmpN a b))/\st'=st):=by
 refine iI func161 ?_;simp only[go_sem,zA,reduceCtorEq];refine (xY4 gl a _).mono ?_;rintro _ _ ⟨rfl,rfl⟩;simp only[go_sem,zE,zA];refine (xY4 gl b _).mono ?_;rintro _ _ ⟨rfl,rfl⟩;unfold cmpN;by_cases h1:a<b
 ·simp only[go_sem,zE,reduceCtorEq,lt_i h1];exact yQ0 ⟨by rw[if_pos h1],rfl⟩
 ·by_cases h2:b<a
  ·simp only[go_sem,zE,reduceCtorEq,yQo h1,lt_i h2];exact yQ0 ⟨by rw[if_neg h1,if_pos h2],rfl⟩
  ·simp only[go_sem,zE,reduceCtorEq,yQo h1,yQo h2];exact yQ0 ⟨by rw[if_neg h1,if_neg h2],rfl⟩
theorem vQ3 {t:Tm}{x:IV}(h:IsTm t x):∃v n tg xs,x=.agg [.raw (.bool v),.raw (.string n),.sl tg xs]:=by
 obtain⟨v,n,us⟩:=t;obtain⟨tg,xs,rfl,_⟩:=h.mk;exact⟨_,_,_,_,rfl⟩
theorem zQf {α:Type}{f:α->α->Int}{g:List α->List α->Int}(g0:g [] []=0)(g1:∀a b l m,g (a::l) (b::m)=lexI (f a b) (g l m)):∀(l m l' m':List α),l.length=m.length->g (l++l') (m++m')=lexI (g l m) (g l' m')
 | [],[],l',m',_=>by rw[g0];simp[lexI]
 | a::l,b::m,l',m',h=>by
  rw[List.cons_append,List.cons_append,g1,g1,zQf g0 g1 l m l' m' (by simpa using h)];unfold lexI;by_cases h1:f a b=0
  ·simp[h1]
  ·simp[h1]
 | [],_::_,_,_,h=>by simp at h
 | _::_,[],_,_,h=>by simp at h
theorem i0 (x:Int)(h:x=0):decide (x=0)=true:=dEt h
theorem i1 (x:Int)(h:¬ x=0):decide (x=0)=false:=dEf h
def CmpT (a:Tm):Prop:=∀(b:Tm) (x y:IV) (_:IsTm a x) (_:IsTm b y) (st:ISt),ICall prog gl 125 [x,y] st (λr st'=>r=.raw (.int .i64 (zW8 a b))/\st'=st)
def CmpF (a:Fm):Prop:=∀(b:Fm) (x y:IV) (_:IsFm a x) (_:IsFm b y) (st:ISt),ICall prog gl 94 [x,y] st (λr st'=>r=.raw (.int .i64 (yGh a b))/\st'=st)
theorem xYq (us:List Tm)(IH:∀a∈us,CmpT gl a)(ws:List Tm)(t t':Tag)(xs ys:List IV)(ht:okEs t 3)(ht':okEs t' 3)(ha:IsTms us xs)(hb:IsTms ws ys)(st:ISt) :
  ICall prog gl 124 [.sl t xs,.sl t' ys,.fn (.func 125) [] []] st (λr st'=>r=.raw (.int .i64 (lenL yVq us ws))/\st'=st):=by
 refine iI func124 ?_;simp only[go_sem,zE,zA,reduceCtorEq,ha.len,hb.len];intro hla hlb;refine (xY5 gl us.length ws.length _).mono ?_;rintro _ st ⟨rfl,rfl⟩;unfold lenL;by_cases h0:cmpN us.length ws.length=0
 ·have hlen:=zQu.1 h0;simp only[go_sem,reduceCtorEq,i0 _ h0,ha.len];intro _;refine LoopC.ctr us.length (λk fr st' ds=>yVq (us.take k) (ws.take k)=0/\fr 0=.iv (.sl t xs)/\fr 1=.iv (.sl t' ys)/\fr 2=.iv (.fn (.func 125) [] [])/\fr 19=.iv (.raw (.int .i64 us.length))/\fr 20=.iv (.raw (.int .i64 k))/\st'=st/\ds=[]) ?_ ?_ ?_
  ·simp only[go_sem,zE,reduceCtorEq];exact⟨zZu,rfl⟩
  ·rintro k fr st1 _ hlt ⟨hn,f0,f1,f2,f19,f20,rfl,rfl⟩;obtain⟨a,hka⟩:=yQ4 hlt;obtain⟨b,hkb⟩:=yQ4 (l:=ws) (k:=k) (by omega);obtain⟨x,hkx,hx⟩:=ha.get hka;obtain⟨y,hky,hy⟩:=hb.get hkb;have hcall:=IH a (lMg hka) b x y hx hy st1;have htl:(us.take k).length=(ws.take k).length:=by rw[List.length_take,List.length_take];omega
   obtain⟨x1,x2,x3,x4,rfl⟩:=vQ3 hx;obtain⟨y1,y2,y3,y4,rfl⟩:=vQ3 hy;simp only[go_sem,zE,zB,zA,reduceCtorEq,f0,f1,f2,f19,f20,lt_i hlt,yQ3 ht,yQ3 ht',iNn,hkx,hky,fits];refine hcall.mono ?_;rintro _ _ ⟨rfl,rfl⟩;by_cases hc:zW8 a b=0
   ·simp only[go_sem,zE,reduceCtorEq,i0 _ hc,f0,f1,f2,f19,f20,yQf hlt (show us.length<=281474976710656 by omega)];rw[yQ7 hka,yQ7 hkb,zQf zZu zZt _ _ _ _ htl,hn,zZt,zZu,hc];simp[lexI]
   ·simp only[go_sem,zE,i1 _ hc];refine yQ0 ⟨?_,rfl⟩;rw[h0];have h2:yVq us ws=zW8 a b:=by
     conv=>lhs;rw[<- List.take_append_drop k us,<- List.take_append_drop k ws]
     rw[List.drop_eq_getElem_cons hlt,List.drop_eq_getElem_cons (show k<ws.length by omega),zQf zZu zZt _ _ _ _ htl,hn,zZt,(lGs hka).2,(lGs hkb).2];simp[lexI,hc]
    rw[h2];simp[lexI]
  ·rintro fr st1 _ ⟨hn,f0,f1,f2,f19,f20,rfl,rfl⟩;rw[lTl,show ws.take us.length=ws by rw[hlen,lTl]] at hn;simp only[go_sem,f19,f20,yQo (nLi _)];exact yQ0 ⟨by rw[h0,hn];simp[lexI],rfl⟩
 ·simp only[go_sem,zE,i1 _ h0];exact yQ0 ⟨by simp[lexI,h0],rfl⟩
theorem xX3 (v:Bool)(n:ByteArray)(us:List Tm)(IH:∀a∈us,CmpT gl a):CmpT gl (.mk v n us):=by
 rintro⟨w,m,ws⟩ x y hx hy st;obtain⟨tx,cx,rfl,htx,hcx⟩:=hx.mk;obtain⟨ty,cy,rfl,hty,hcy⟩:=hy.mk;have hl:=λst=>xYq gl us IH ws tx ty cx cy htx hty hcx hcy st;simp only[zW8];refine iI func125 ?_;by_cases hv:v=w
 ·subst hv;simp only[go_sem,zE,zA,beq_self_eq_true];refine (xXk gl n m _).mono ?_;rintro _ _ ⟨rfl,rfl⟩;by_cases h0:cmpB n m=0
  ·simp only[go_sem,zE,zA,i0 _ h0];refine (hl _).mono ?_;rintro _ _ ⟨rfl,rfl⟩;simp only[go_sem];exact yQ0 ⟨by simp[lexI,h0,lenL],rfl⟩
  ·simp only[go_sem,zE,i1 _ h0];exact yQ0 ⟨by simp[lexI,h0],rfl⟩
 ·cases v<;>cases w<;>first|exact absurd rfl hv|skip
  all_goals
   simp only[go_sem,zE,reduceCtorEq,beq_eq_false_iff_ne.2 hv];exact yQ0 ⟨by simp,rfl⟩
theorem zVa:∀(k:Nat)(t:Tm),SizeOf.sizeOf t<k->CmpT gl t
 | 0,t,h=>by omega
 | k+1,.mk v n us,h=>xX3 gl v n us (λa ha=>zVa k a (by
   have:=lSm ha;simp at h;omega))
theorem wK7 (t:Tm):CmpT gl t:=zVa gl _ t (Nat.lt_succ_self _)
theorem wYd (us:List Fm)(IH:∀a∈us,CmpF gl a)(ws:List Fm)(t t':Tag)(xs ys:List IV)(ht:okEs t 4)(ht':okEs t' 4)(ha:IsFms us xs)(hb:IsFms ws ys)(st:ISt) :
  ICall prog gl 126 [.sl t xs,.sl t' ys,.fn (.func 94) [] []] st (λr st'=>r=.raw (.int .i64 (lenL yGg us ws))/\st'=st):=by
 refine iI func126 ?_;simp only[go_sem,zE,zA,reduceCtorEq,ha.len,hb.len];intro hla hlb;refine (xY5 gl us.length ws.length _).mono ?_;rintro _ st ⟨rfl,rfl⟩;unfold lenL;by_cases h0:cmpN us.length ws.length=0
 ·have hlen:=zQu.1 h0;simp only[go_sem,reduceCtorEq,i0 _ h0,ha.len];intro _;refine LoopC.ctr us.length (λk fr st' ds=>yGg (us.take k) (ws.take k)=0/\fr 0=.iv (.sl t xs)/\fr 1=.iv (.sl t' ys)/\fr 2=.iv (.fn (.func 94) [] [])/\fr 19=.iv (.raw (.int .i64 us.length))/\fr 20=.iv (.raw (.int .i64 k))/\st'=st/\ds=[]) ?_ ?_ ?_
  ·simp only[go_sem,zE,reduceCtorEq];exact⟨zVd,rfl⟩
  ·rintro k fr st1 _ hlt ⟨hn,f0,f1,f2,f19,f20,rfl,rfl⟩;obtain⟨a,hka⟩:=yQ4 hlt;obtain⟨b,hkb⟩:=yQ4 (l:=ws) (k:=k) (by omega);obtain⟨x,hkx,hx⟩:=ha.get hka;obtain⟨y,hky,hy⟩:=hb.get hkb;have hcall:=IH a (lMg hka) b x y hx hy st1;have htl:(us.take k).length=(ws.take k).length:=by rw[List.length_take,List.length_take];omega
   obtain⟨x1,x2,x3,x4,x5,x6,rfl⟩:=hx.agg;obtain⟨y1,y2,y3,y4,y5,y6,rfl⟩:=hy.agg;simp only[go_sem,zE,zB,zA,reduceCtorEq,f0,f1,f2,f19,f20,lt_i hlt,yQ3 ht,yQ3 ht',iNn,hkx,hky,fits];refine hcall.mono ?_;rintro _ _ ⟨rfl,rfl⟩;by_cases hc:yGh a b=0
   ·simp only[go_sem,zE,reduceCtorEq,i0 _ hc,f0,f1,f2,f19,f20,yQf hlt (show us.length<=281474976710656 by omega)];rw[yQ7 hka,yQ7 hkb,zQf zVd zVc _ _ _ _ htl,hn,zVc,zVd,hc];simp[lexI]
   ·simp only[go_sem,zE,i1 _ hc];refine yQ0 ⟨?_,rfl⟩;rw[h0];have h2:yGg us ws=yGh a b:=by
     conv=>lhs;rw[<- List.take_append_drop k us,<- List.take_append_drop k ws]
     rw[List.drop_eq_getElem_cons hlt,List.drop_eq_getElem_cons (show k<ws.length by omega),zQf zVd zVc _ _ _ _ htl,hn,zVc,(lGs hka).2,(lGs hkb).2];simp[lexI,hc]
    rw[h2];simp[lexI]
  ·rintro fr st1 _ ⟨hn,f0,f1,f2,f19,f20,rfl,rfl⟩;rw[lTl,show ws.take us.length=ws by rw[hlen,lTl]] at hn;simp only[go_sem,f19,f20,yQo (nLi _)];exact yQ0 ⟨by rw[h0,hn];simp[lexI],rfl⟩
 ·simp only[go_sem,zE,i1 _ h0];exact yQ0 ⟨by simp[lexI,h0],rfl⟩
theorem xX4 (o:Nat)(n:ByteArray)(us:List Tm)(sub:List Fm)(IH:∀a∈sub,CmpF gl a):CmpF gl (.mk o n us sub):=by
 rintro⟨w,m,ws,sub'⟩ x y hx hy st;obtain⟨t1,x1,t2,x2,rfl,_,e1,i1',e2,i2⟩:=hx.mk;obtain⟨t3,x3,t4,x4,rfl,_,e3,i3,e4,i4⟩:=hy.mk;have hl1:=λst=>xYq gl us (λa _=>wK7 gl a) ws t1 t3 x1 x3 e1 e3 i1' i3 st;have hl2:=λst=>wYd gl sub IH sub' t2 t4 x2 x4 e2 e4 i2 i4 st;simp only[yGh];refine iI func94 ?_;simp only[go_sem,zE,zA];refine (xG8 gl o w _).mono ?_;rintro _ _ ⟨rfl,rfl⟩;by_cases h0:cmpN o w=0
 ·simp only[go_sem,zE,zA,i0 _ h0];refine (xXk gl n m _).mono ?_;rintro _ _ ⟨rfl,rfl⟩;by_cases h1:cmpB n m=0
  ·simp only[go_sem,zE,zA,i0 _ h1];refine (hl1 _).mono ?_;rintro _ _ ⟨rfl,rfl⟩;by_cases h2:lenL yVq us ws=0
   ·simp only[go_sem,zE,zA,i0 _ h2];refine (hl2 _).mono ?_;rintro _ _ ⟨rfl,rfl⟩;simp only[go_sem];refine yQ0 ⟨?_,rfl⟩;unfold lenL at h2 ⊢;rw[h0,h1,h2];simp[lexI]
   ·simp only[go_sem,zE,i1 _ h2];refine yQ0 ⟨?_,rfl⟩;unfold lenL at h2 ⊢;rw[h0,h1];generalize lexI (cmpN us.length ws.length) (yVq us ws)=q at h2 ⊢;simp[lexI,h2]
  ·simp only[go_sem,zE,i1 _ h1];exact yQ0 ⟨by rw[h0];simp[lexI,h1],rfl⟩
 ·simp only[go_sem,zE,i1 _ h0];exact yQ0 ⟨by simp[lexI,h0],rfl⟩
theorem zVb:∀(k:Nat)(t:Fm),SizeOf.sizeOf t<k->CmpF gl t
 | 0,t,h=>by omega
 | k+1,.mk o n us sub,h=>xX4 gl o n us sub (λa ha=>zVb k a (by
   have:=lSm ha;simp at h;omega))
theorem wK8 (t:Fm):CmpF gl t:=zVb gl _ t (Nat.lt_succ_self _)
theorem xJf (a b:Fm)(x y:IV)(hx:IsFm a x)(hy:IsFm b y)(st:ISt):ICall prog gl 51 [x,y] st (λr st'=>r=.raw (.bool (decide (yGh a b=0)))/\st'=st):=by
 have hc:=λst=>wK8 gl a b x y hx hy st;obtain⟨x1,x2,x3,x4,x5,x6,rfl⟩:=hx.agg;obtain⟨y1,y2,y3,y4,y5,y6,rfl⟩:=hy.agg;refine iI func51 ?_;simp only[go_sem,zE,zA,zL];refine (hc _).mono ?_;rintro _ _ ⟨rfl,rfl⟩;simp only[go_sem];exact yQ0 ⟨rfl,rfl⟩
end Go.Proofs.Tryz
namespace Go.Iv
open Go
def vG3 (s1:ISt)(y x:IV):Prop:=y=x\/∃x0,OI s1 y x0/\x=age x0
def LentsS (s1:ISt):List IV->List IV->Prop
 | [],xs=>xs=[]
 | y::ys,xs=>∃x xs',xs=x::xs'/\vG3 s1 y x/\LentsS s1 ys xs'
theorem LentsS.v {C:Cx}{X:WS}{s1 s0:ISt}(h:Good C X)(k:LendOk X.st s1 s0):∀ {ys xs:List IV} {rs:List Value},LentsS s1 ys xs->C.vl X rs ys->C.vl (X.lendS s1 s0) rs xs
 | [],xs,rs,hl,hv=>by
  simp only[LentsS] at hl;subst hl;obtain rfl:rs=[]:=List.eq_nil_of_length_eq_zero hv.1;exact VL.nil
 | y::ys,xs,rs,hl,hv=>by
  simp only[LentsS] at hl;obtain⟨x,xs',rfl,hx,hl⟩:=hl;cases rs with
  | nil=>have:=hv.1;simp at this
  | cons r rs =>
   have h1:=hv.2 0 r y rfl rfl;have h2:C.vl X rs ys:=⟨by have:=hv.1;simpa using this,λi a b ha hb=>hv.2 (i+1) a b (by simpa using ha) (by simpa using hb)⟩
   refine VL.cons ?_ (LentsS.v h k hl h2);rcases hx with rfl|⟨x0,ho,rfl⟩
   ·exact (h.lendS_ext k).v h1
   ·exact ho.v h k h1
theorem ICall.frz {P:Program}{gl:Nat->Option IV}{f:FuncId}{args args':List IV}{st s1 s0:ISt}{K:IV->ISt->Prop}(k:LendOk st s1 s0)(hl:LentsS s1 args args')(h:ICall P gl f args' s0 K):ICall P gl f args st K:=by
 intro B X rs hg hst hv;subst hst;refine (h B (X.lendS s1 s0) rs (hg.lendS k) rfl (hl.v hg k hv)).mono ?_;rintro e w' ⟨v,rfl,X',x,h1,h2,h3,h4,h5⟩;exact⟨v,rfl,X',x,h1,h2,(hg.lendS_ext k).trans h3,h4,h5⟩
theorem xWx {st:ISt}{b:Nat}{cs:List IV}(h:st b=some (.box cs)):LendOk st (ISt.put (λ_=>none) b (some (.box cs))) (st.put b none):=by
 refine⟨λc o hc=>?_,λc o hc=>?_,λc cs' hc=>?_⟩
 ·rw[ISt.put_apply] at hc;split at hc
  ·rename_i hb;rw[hb,h];exact hc
  ·cases hc
 ·rw[ISt.put_apply] at hc;split at hc
  ·cases hc
  ·exact hc
 ·rw[ISt.put_apply] at hc ⊢;split at hc
  ·rename_i hb;rw[if_pos hb]
  ·cases hc
theorem LentsS.same (s1:ISt):∀l:List IV,LentsS s1 l l
 | []=>rfl
 | a::l=>⟨a,l,rfl,.inl rfl,LentsS.same s1 l⟩
theorem ICall.frz1 {P:Program}{gl:Nat->Option IV}{f:FuncId}{b:Nat}{cs args:List IV}{st:ISt}{K:IV->ISt->Prop}(hb:st b=some (.box cs))(h:ICall P gl f (.cptr (.agg (ages cs))::args) (st.put b none) K) :
  ICall P gl f (.raw (.pointer (some ⟨b,0,none⟩))::args) st K:=by
 refine ICall.frz (xWx hb) ⟨_,_,rfl,.inr ⟨.cptr (.agg cs),?_,by simp only[age]⟩,LentsS.same _ _⟩ h;exact .ptr b (.agg cs) cs (ISt.put_same ..) rfl λi r c hr hc=>by
   rw[show (IV.agg cs).cells=cs from rfl,hr] at hc;cases hc;exact .refl _
theorem LentsS.last {s1:ISt}{y x:IV}(h:vG3 s1 y x):∀l:List IV,LentsS s1 (l++[y]) (l++[x])
 | []=>⟨x,[],rfl,h,rfl⟩
 | a::l=>⟨a,l++[x],rfl,.inl rfl,LentsS.last h l⟩
theorem ICall.frzSl {P:Program}{gl:Nat->Option IV}{f:FuncId}{pre:List IV}{g n cap es:Nat}{cs zs:List IV}{st:ISt}{K:IV->ISt->Prop}(hst:st g=some (.box cs))(hn:zs.length=n)(hcap:n<=cap)(hroom:cap*es<=cs.length)
  (hz:∀z∈zs,z.cells.length=es) (hcs:cs.take (n*es)=zs.flatMap IV.cells) (hlen:n<=140737488355328) (h:ICall P gl f (pre++[.sl ⟨false,.app g,es⟩ (ages zs)]) (st.put g none) K) :
  ICall P gl f (pre++[.raw (.slice (some ⟨g,0,none⟩) n cap)]) st K:=by
 subst hn;refine ICall.frz (xWx hst) (LentsS.last (.inr ⟨.sl ⟨true,.app g,es⟩ zs,?_,by simp only[age]⟩) pre) h;refine .sl g cap ⟨true,.app g,es⟩ zs cs rfl hlen hcap hz (ISt.put_same ..) hroom λi r c hr hc=>?_;have hi:i<zs.length*es:=by
  have:=(lGs hc).1
  rwa [yZ3 _ hz] at this
 have:(cs.take (zs.length*es))[i]?=cs[i]?:=by rw[List.getElem?_take,if_pos hi]
 rw[hcs,hc,hr] at this;cases this;exact .refl _
end Go.Iv
namespace Go.Proofs.Tryz
open Go Go.Iv
set_option maxRecDepth 4000
variable (gl:Nat->Option IV)
theorem wYz (g:FuncId)(caps:List IV)(he:entI prog g=true)(us:List Mk)(p:Mk->Bool)(st:ISt)(hp:∀a∈us,∀x,IsMk a x->ICall prog gl g (x::caps) st (λr st'=>r=.raw (.bool (p a))/\st'=st))
  (tg:Tag) (xs:List IV) (htg:okEs tg 6) (hxs:IsMks us xs) :
  ICall prog gl 218 [.sl tg xs,.fn (.func g) [] caps] st (λr st'=>(∃n:Int,r=.raw (.int .i64 n)/\decide (0<=n)=us.any p)/\st'=st):=by
 refine iI func218 ?_;simp only[go_sem,zE,zB,zA,zM,zS,zL,reduceCtorEq,hxs.len];intro _;refine LoopC.ctr us.length (λk fr st' ds=>(us.take k).any p=false/\fr 0=.iv (.sl tg xs)/\fr 1=.iv (.fn (.func g) [] caps)/\fr 7=.iv (.raw (.int .i64 us.length))/\fr 8=.iv (.raw (.int .i64 k))/\st'=st/\ds=[]) ?_ ?_ ?_
 ·simp only[go_sem,zE,zB,zA,zM,zS,zL,reduceCtorEq];exact⟨rfl,rfl⟩
 ·rintro k fr st1 _ hlt ⟨hn,f0,f1,f7,f8,rfl,rfl⟩;obtain⟨a,ha⟩:=yQ4 hlt;obtain⟨y,hky,hy⟩:=hxs.get ha;have hcall:=hp a (lMg ha) y hy;obtain⟨_,_,_,_,_,_,rfl⟩:=hy.agg;simp only[go_sem,zE,zB,zA,zM,zS,zL,reduceCtorEq,f0,f1,f7,f8,lt_i hlt,yQ3 htg,iNn,hky,fits,he];refine hcall.mono ?_;rintro _ _ ⟨rfl,rfl⟩;cases hr:p a
  ·simp only[go_sem,zE,zB,zA,zM,zS,zL,reduceCtorEq,f0,f1,f7,f8,yQf hlt (show us.length<=281474976710656 by omega)];rw[yQ7 ha,List.any_append,hn];simp[hr]
  ·simp only[go_sem,zE,zB,zA,zM,zS,zL,reduceCtorEq];refine yQ0 ⟨⟨_,rfl,?_⟩,rfl⟩;rw[dEt (iNn k)];exact (List.any_eq_true.2 ⟨a,lMg ha,hr⟩).symm
 ·rintro fr st1 _ ⟨hn,f0,f1,f7,f8,rfl,rfl⟩;rw[lTl] at hn;simp only[go_sem,zE,zB,zA,zM,zS,zL,reduceCtorEq,f7,f8,yQo (nLi _)];exact yQ0 ⟨⟨_,rfl,by rw[hn];rfl⟩,rfl⟩
theorem yUv (g:FuncId)(caps:List IV)(he:entI prog g=true)(us:List Mk)(p:Mk->Bool)(st:ISt)(hp:∀a∈us,∀x,IsMk a x->ICall prog gl g (x::caps) st (λr st'=>r=.raw (.bool (p a))/\st'=st))
  (tg:Tag) (xs:List IV) (htg:okEs tg 6) (hxs:IsMks us xs) :
  ICall prog gl 181 [.sl tg xs,.fn (.func g) [] caps] st (λr st'=>r=.raw (.bool (us.any p))/\st'=st):=by
 refine iI func181 ?_;simp only[go_sem,zE,zB,zA,zM,zS,zL,reduceCtorEq];refine (wYz gl g caps he us p _ hp tg xs htg hxs).mono ?_;rintro _ _ ⟨⟨n,rfl,hn⟩,rfl⟩;simp only[go_sem,zE,zB,zA,zM,zS,zL,reduceCtorEq,hn];exact yQ0 ⟨rfl,rfl⟩
theorem vVj {a b:Mk}(h:a.f.op≠b.f.op):decide (yGh a.f b.f=0)=false:=dEf λhc=>h (by rw[(zUi _ _).1 hc])
theorem wKf (a m:Mk)(y x:IV)(hy:IsMk a y)(hx:IsMk m x)(st:ISt):ICall prog gl 182 [y,.cptr x] st (λr st'=>r=.raw (.bool (mkB a m))/\st'=st):=by
 obtain⟨i,w,f⟩:=a;obtain⟨i',w',f'⟩:=m;obtain⟨o5,n5,t5,x5,t6,x6,rfl,h1⟩:=hy;obtain⟨o7,n7,t7,x7,t8,x8,rfl,h2⟩:=hx;have hs:=λst=>xJf gl f f' _ _ h1 h2 st;have hop:mkB ⟨i,w,f⟩ ⟨i',w',f'⟩=(i == i'&&decide (w=w')&&decide (o5=o7)&&decide (yGh f f'=0)):=by
  have e1:=h1;have e2:=h2;obtain⟨o,n,us,sub⟩:=f;obtain⟨o',n',us',sub'⟩:=f';obtain⟨_,_,_,_,he,_⟩:=e1.mk;obtain⟨_,_,_,_,he',_⟩:=e2.mk;simp only[IV.agg.injEq,List.cons.injEq,IV.raw.injEq,Value.int.injEq,true_and] at he he';rw[he.1,he'.1];unfold mkB;by_cases ho:o=o'
  ·subst ho;simp
  ·rw[vVj (a:=⟨i,w,.mk o n us sub⟩) (b:=⟨i',w',.mk o' n' us' sub'⟩) ho,Bool.and_false,Bool.and_false]
 rw[hop];refine iI func182 ?_;by_cases hi:i=i'
 ·subst hi;by_cases hw:w=w'
  ·subst hw;by_cases ho:o5=o7
   ·subst ho;simp only[go_sem,zE,zB,zA,zM,zS,zL,reduceCtorEq,fits,decide_true];refine (hs _).mono ?_;rintro _ _ ⟨rfl,rfl⟩;simp only[go_sem,zE,zB,zA,zM,zS,zL,reduceCtorEq];exact yQ0 ⟨by simp,rfl⟩
   ·simp only[go_sem,zE,zB,zA,zM,zS,zL,reduceCtorEq,fits,decide_true,dEf ho];exact yQ0 ⟨by simp[ho],rfl⟩
  ·simp only[go_sem,zE,zB,zA,zM,zS,zL,reduceCtorEq,fits,dEf hw];exact yQ0 ⟨by simp[hw],rfl⟩
 ·have hb:(i == i')=false:=by simp[hi]
  simp only[go_sem,zE,zB,zA,zM,zS,zL,reduceCtorEq,fits,hb];exact yQ0 ⟨rfl,rfl⟩
def appN (n:Nat)(t:Tag):Prop:=(n=0/\t.cap=.nil)\/(0<n/\∃g,t.cap=.app g)
theorem zGx:∀ {l:List Mk}{xs:List IV},IsMks l xs->xs.all (fits true 6)=true
 | [],_,rfl=>rfl
 | a::l,_,⟨y,ys,rfl,hy,h⟩=>by
  obtain⟨_,_,_,_,_,_,rfl⟩:=hy.agg;rw[List.all_cons,zGx h];simp[fits,IV.one]
def brI (tb:Nat)(t:Tag)(xs:List IV)(t':Tag)(v:Int):List IV:=[.raw (.int .u8 1),.raw (.map (some tb)),.sl t xs,.sl t' [.raw (.int .i64 v)]]
def IsBr (l:List Mk)(tb:Nat)(x:IV):Prop:=∃t xs t' v,x=.agg (brI tb t xs t' v)/\okEs t 6/\appN l.length t/\IsMks l xs/\okEs t' 1/\t'.cap≠.nil
theorem wKd (l:List Mk)(tb:Nat)(x:IV)(hx:IsBr l tb x)(m:Mk)(y:IV)(hy:IsMk m y)(st:ISt):ICall prog gl 152 [.cptr x,y] st (λr st'=>r=.raw (.bool (hasT l m))/\st'=st):=by
 obtain⟨t,xs,t',v,rfl,ht,_,hxs,_⟩:=hx;have h1:=λst=>yUv gl 182 [.cptr y] (by simp only[go_sem]) l (λa=>mkB a m) st (λa _ x hx=>wKf gl a m x y hx hy st) t xs ht hxs;obtain⟨_,_,_,_,_,_,rfl⟩:=hy.agg;refine ICall.intro (c:=cf prog gl [] [] [3]) func152 rfl (by show _<=11;simp) (by kernel_rfl) ?_;simp only[go_sem,zE,zB,zA,zM,zS,zL,reduceCtorEq,fits,brI];refine (h1 _).mono ?_;rintro _ _ ⟨rfl,rfl⟩;simp only[go_sem,zE,zB,zA,zM,zS,zL,reduceCtorEq];exact yQ0 ⟨rfl,rfl⟩
theorem vYi (l:List Mk)(tb b:Nat)(t:Tag)(xs:List IV)(t':Tag)(v:Int)(ht:okEs t 6)(hxs:IsMks l xs)(m:Mk)(y:IV)(hy:IsMk m y)(st:ISt)(hb:st b=some (.box (brI tb t xs t' v))) :
  ICall prog gl 152 [.raw (.pointer (some ⟨b,0,none⟩)),y] st (λr st'=>r=.raw (.bool (hasT l m))/\st'=st):=by
 have h1:=λst=>yUv gl 182 [.cptr y] (by simp only[go_sem]) l (λa=>mkB a m) st (λa _ x hx=>wKf gl a m x y hx hy st) t xs ht hxs;obtain⟨_,_,_,_,_,_,rfl⟩:=hy.agg;unfold brI at hb;refine ICall.intro (c:=cf prog gl [] [] [3]) func152 rfl (by show _<=11;simp) (by kernel_rfl) ?_;simp only[go_sem,zE,zB,zA,zM,zS,zL,reduceCtorEq,fits,hb];refine (h1 _).mono ?_;rintro _ _ ⟨rfl,rfl⟩;simp only[go_sem,zE,zB,zA,zM,zS,zL,reduceCtorEq];exact yQ0 ⟨rfl,rfl⟩
theorem xXd (l:List Mk)(tb:Nat)(x:IV)(hx:IsBr l tb x)(m:Mk)(y:IV)(hy:IsMk m y)(st:ISt):ICall prog gl 154 [.cptr x,y] st (λr st'=>r=.raw (.bool (yYf l m))/\st'=st):=by
 obtain⟨i,w,f⟩:=m;have hy0:=hy;obtain⟨o5,n5,t5,x5,t6,x6,rfl,h1⟩:=hy;have hop:(f.op:Int)=o5:=by
  obtain⟨o,n,us,sub⟩:=f;obtain⟨_,_,_,_,he,_⟩:=h1.mk;simp only[IV.agg.injEq,List.cons.injEq,IV.raw.injEq,Value.int.injEq,true_and] at he;exact he.1.symm
 have hh:=λst=>wKd gl l tb x hx ⟨!i,w,f⟩ _ ⟨_,_,_,_,_,_,rfl,h1⟩ st;unfold yYf;refine iI func154 ?_;cases i
 ·simp only[go_sem,zE,zB,zA,zM,zS,zL,reduceCtorEq,fits];refine (hh _).mono ?_;rintro _ _ ⟨rfl,rfl⟩;simp only[go_sem,zE,zB,zA,zM,zS,zL,reduceCtorEq];exact yQ0 ⟨by simp,rfl⟩
 ·by_cases ho:o5=2
  ·simp only[go_sem,zE,zB,zA,zM,zS,zL,reduceCtorEq,fits,dEt ho];exact yQ0 ⟨by simp[show f.op=2 by omega],rfl⟩
  ·simp only[go_sem,zE,zB,zA,zM,zS,zL,reduceCtorEq,fits,dEf ho];refine (hh _).mono ?_;rintro _ _ ⟨rfl,rfl⟩;simp only[go_sem,zE,zB,zA,zM,zS,zL,reduceCtorEq];exact yQ0 ⟨by simp[show ¬ f.op=2 by omega],rfl⟩
def BrSt (S0:ISt)(b tb:Nat)(l:List Mk)(t':Tag)(v:Int)(st:ISt):Prop:=∃t xs,st b=some (.box (brI tb t xs t' v))/\IsMks l xs/\own st t l.length 6 S0/\appN l.length t/\subSt S0 st/\S0 b=none
theorem wKj (S0:ISt)(b tb:Nat)(l:List Mk)(t':Tag)(v:Int)(st:ISt)(hs:BrSt S0 b tb l t' v st)(hl:l.length<=1000000)(m:Mk)(y:IV)(hy:IsMk m y) :
  ICall prog gl 109 [.raw (.pointer (some ⟨b,0,none⟩)),y] st (λ_ st'=>BrSt S0 b tb (addT l m) t' v st'):=by
 obtain⟨t,xs,hb,hxs,hown,hap,hsub,hS⟩:=hs;have hh:=vYi gl l tb b t xs t' v hown.es hxs m y hy st hb;have hy0:=hy;obtain⟨o5,n5,t5,x5,t6,x6,rfl,h1⟩:=hy;unfold addT;refine ICall.intro (c:=cf prog gl [12] []) func109 rfl (by show _<=18;simp) (by kernel_rfl) ?_;simp only[go_sem,zE,zB,zA,zM,zS,zL,reduceCtorEq];refine hh.mono ?_;rintro _ st ⟨rfl,rfl⟩;cases hq:hasT l m
 ·unfold brI at hb;simp only[go_sem,zE,zB,zA,zM,zS,zL,reduceCtorEq,fits,hb,yQ1];refine yXb hown hxs.len hsub rfl (by simp[fits,IV.one]) (by simp only;omega) (by omega) λtg2 st4 hown2 hsub4 hk hap2=>?_;have hb4:=hk b _ hb (λn h=>by cases h);simp only[go_sem,zE,zB,zA,zM,zS,zL,reduceCtorEq,fits,hb4];refine yQ0 ⟨tg2,_,ISt.put_same ..,hxs.append (IsMks.one hy0),?_,.inr ⟨by simp,?_⟩,yZ5 hsub4 hS,hS⟩
  ·rw[lLa];exact hown2.mono λg hg hg0=>by
    rw[yQb (λhc=>?_)]
    ·exact hg
    ·rw[hc,hb4] at hg;cases hg
  ·rcases hap2 with h|⟨_,_,h⟩
   ·rcases hown2 with⟨h0,_⟩|rfl|⟨g,rfl,_⟩
    ·omega
    ·cases h
    ·cases h
   ·exact h
 ·simp only[go_sem,zE,zB,zA,zM,zS,zL,reduceCtorEq];exact yQ0 ⟨t,xs,hb,hxs,hown,hap,hsub,hS⟩
theorem wG0 (l:List Mk)(t:Tag)(xs:List IV)(ht:okEs t 6)(ha:appN l.length t)(hxs:IsMks l xs)(hl:l.length<=1000000)(st:ISt) :
  ICall prog gl 156 [.sl t xs] st (λr st'=>∃t' ,r=.sl t' xs/\own st' t' l.length 6 st/\appN l.length t'/\subSt st st'):=by
 have hlen:=hxs.len;have hall:xs.all (fits true 6)=true:=zGx hxs;rcases ha with⟨h0,hc⟩|⟨h0,g,hc⟩
 ·obtain⟨fs,c,es⟩:=t;obtain rfl:c=.nil:=hc;obtain rfl:xs=[]:=List.eq_nil_of_length_eq_zero (by omega);have hb:binV prog 79 .eql (.sl ⟨fs,.nil,es⟩ []) (.sl ⟨true,.nil,0⟩ [])=some (.raw (.bool true)):=by
   have:yVw prog 79=true:=by kernel_rfl
   simp[binV,zZ6,this]
  refine iI func156 ?_;simp only[go_sem,zE,zB,zA,zM,zS,zL,reduceCtorEq,fits,hb];exact yQ0 ⟨_,rfl,.inl ⟨h0,rfl⟩,.inl ⟨h0,rfl⟩,subSt.refl _⟩
 ·obtain⟨fs,c,es⟩:=t;obtain rfl:c=.app g:=hc;have hb:binV prog 79 .eql (.sl ⟨fs,.app g,es⟩ xs) (.sl ⟨true,.nil,0⟩ [])=some (.raw (.bool false)):=by
   have:yVw prog 79=true:=by kernel_rfl
   simp[binV,zZ6,this]
  refine iI func156 ?_;obtain⟨x,xs',rfl⟩:∃x xs',xs=x::xs':=by
   cases xs with
   | nil=>rw[List.length_nil] at hlen;omega
   | cons x xs'=>exact⟨_,_,rfl⟩
  simp only[go_sem,zE,zB,zA,zM,zS,zL,reduceCtorEq,fits,hb,show yKb 0 []=true from rfl];rw[List.length_cons] at hlen;refine yQm hall (yQm ⟨by omega,by omega⟩ λg'=>yQc λhg=>?_);exact yQ0 ⟨_,rfl,.inr (.inr ⟨g',rfl,by rw[ISt.put_same,hlen],hg⟩),.inr ⟨h0,g',rfl⟩,yQg hg⟩
theorem wWz (t:Tag)(v:Int)(ht:t.cap≠.nil)(st:ISt):ICall prog gl 62 [.sl t [.raw (.int .i64 v)]] st (λr st'=>∃t',r=.sl t' [.raw (.int .i64 v)]/\okEs t' 1/\t'.cap≠.nil/\st'=st):=by
 have hb:binV prog 55 .eql (.sl t [.raw (.int .i64 v)]) (.sl ⟨true,.nil,0⟩ [])=some (.raw (.bool false)):=by
  have:yVw prog 55=true:=by kernel_rfl
  obtain⟨fs,c,es⟩:=t;cases c<;>first|exact absurd rfl ht|simp[binV,zZ6,this]
 refine iI func62 ?_;simp only[go_sem,zE,zB,zA,zM,zS,zL,reduceCtorEq,fits,hb,show yKb 0 []=true from rfl];refine λg'=>yQc λhg=>?_;exact yQa (yQg hg) ⟨_,rfl,.inr rfl,by simp,rfl⟩
theorem zYy (l q:List Mk)(a:Mk):yZg l (q++[a])=addT (yZg l q) a:=by unfold yZg;rw[List.foldl_append];rfl
theorem yXc:∀(q l:List Mk),(yZg l q).length<=l.length+q.length
 | [],l=>by simp[yZg]
 | a::q,l=>by
  have h1:=yXc q (addT l a);have h2:=wYq (l:=l) (m:=a);show (yZg (addT l a) q).length<=_;rw[List.length_cons];omega
theorem BrSt.br {S0 st:ISt}{b tb:Nat}{l:List Mk}{t':Tag}{v:Int}(h:BrSt S0 b tb l t' v st)(ht:okEs t' 1)(hc:t'.cap≠.nil):subSt S0 st/\∃t xs,st b=some (.box (brI tb t xs t' v))/\IsBr l tb (.agg (brI tb t xs t' v)):=by
 obtain⟨t,xs,hb,hxs,hown,hap,hsub,_⟩:=h;exact⟨hsub,t,xs,hb,t,xs,t',v,rfl,hown.es,hap,hxs,ht,hc⟩
def wZc (X:IV)(tb:Nat)(t:Tag)(xs:List IV)(t':Tag)(v:Int)(t2 t3:Tag)(b:Nat):List (Nat×IV) :=
 [(10,.cptr X),(11,.cptr X),(12,.cptr (.agg [.raw (.int .u8 1),.raw (.map (some tb))])),(13,.agg [.raw (.int .u8 1),.raw (.map (some tb))]),(14,.cptr X),(15,.cptr X),(16,.cptr (.sl t xs)),(17,.sl t xs),(18,.sl t2 xs),
  (19,.cptr X),(20,.cptr X),(21,.cptr (.sl t' [.raw (.int .i64 v)])),(22,.sl t' [.raw (.int .i64 v)]),(23,.sl t3 [.raw (.int .i64 v)]),(24,.agg (brI tb t2 xs t3 v)),(7,.raw (.pointer (some ⟨b,0,none⟩)))]
def dstB (i:Nat):Nat:=if i=15 then 7 else 10+i
theorem yKi {X:IV}{tb:Nat}{t:Tag}{xs:List IV}{t':Tag}{v:Int}{t2 t3:Tag}{b i d:Nat}{z:IV}(h:(wZc X tb t xs t' v t2 t3 b)[i]?=some (d,z)):i<16/\d=dstB i:=by
 have hi:i<16:=(lGs h).1;refine⟨hi,?_⟩;rcases (show i=0\/i=1\/i=2\/i=3\/i=4\/i=5\/i=6\/i=7\/i=8\/i=9\/i=10\/i=11\/i=12\/i=13\/i=14\/i=15 by omega) with rfl|rfl|rfl|rfl|rfl|rfl|rfl|rfl|rfl|rfl|rfl|rfl|rfl|rfl|rfl|rfl<;>cases h<;>rfl
def boxZ:List IV:=[.raw (.int .u8 0),.raw (.map none),.sl ⟨true,.nil,0⟩ [],.sl ⟨true,.nil,0⟩ []]
def FB (X:IV)(tg:Tag)(zs ym:List IV)(fr:Fr):Prop:=fr 0=.iv (.cptr X)/\fr 2=.iv (.sl tg zs)/\fr 4=.box ym/\fr 6=.box boxZ
theorem FB.put {X:IV}{tg:Tag}{zs ym:List IV}{fr:Fr}(h:FB X tg zs ym fr){d:Nat}(hd:7<=d)(z:SV):FB X tg zs ym (fr.put d z):=by
 obtain⟨h1,h2,h3,h4⟩:=h;refine⟨?_,?_,?_,?_⟩<;>rw[Fr.put_apply,if_neg (by omega)]<;>assumption
def BelJ (X:IV)(tb:Nat)(t:Tag)(xs:List IV)(t':Tag)(v:Int)(n:Nat)(tg:Tag)(zs ym:List IV)(st:ISt)(listed:Array Bool):Kt:=λad fr st' ds=>(∀s,ad s=none)/\ds=[]/\FB X tg zs ym fr/\∃t2 t3 b s1,
 ((listed.getD 8 false=true/\own s1 t2 n 6 st/\appN n t2/\subSt st s1)\/(listed.getD 8 false=false/\s1=st)) /\
 (listed.getD 13 false=true->okEs t3 1/\t3.cap≠.nil) /\
 ((listed.getD 15 false=true/\s1 b=none/\st'=s1.put b (some (.box (if listed.getD 16 false=true then brI tb t2 xs t3 v else boxZ))))\/(listed.getD 15 false=false/\st'=s1)) /\
 (listed.getD 16 false=true->listed.getD 14 false=true/\listed.getD 15 false=true)/\(listed.getD 14 false=true->listed.getD 13 false=true/\listed.getD 8 false=true) /\
 ∀i,listed.getD i false=true->∀d z,(wZc X tb t xs t' v t2 t3 b)[i]?=some (d,z)->fr d=.iv z
theorem wY8 {i j:Nat}(hi:i<16)(hj:j<16)(h:dstB i=dstB j):i=j:=by
 unfold dstB at h;split at h<;>split at h<;>omega
theorem yV4 {L L':List (Nat×IV)}(hL:∀i d z,L'[i]?=some (d,z)->i<16/\d=dstB i){i d:Nat}{z:IV}{listed:Array Bool}{fr:Fr}(hz:listed.size=17)(hi:i<16)(hs:L'[i]?=some (d,z))(hk:∀j,j≠i->listed.getD j false=true->L'[j]?=L[j]?)
  (h:∀j,listed.getD j false=true->∀d z,L[j]?=some (d,z)->fr d=.iv z) :
  ∀j,(listed.setIfInBounds i true).getD j false=true->∀d' z',L'[j]?=some (d',z')->fr.put d (.iv z) d'=.iv z':=by
 intro j hl d' z' hs';rw[Fr.put_apply];by_cases hij:i=j
 ·subst hij;rw[hs] at hs';cases hs';rw[if_pos rfl]
 ·obtain⟨hj,rfl⟩:=hL j d' z' hs';obtain⟨_,rfl⟩:=hL i d z hs;rw[if_neg (λhc=>hij (wY8 hi hj hc.symm))];rw[yQq (by omega),if_neg hij] at hl;exact h j hl _ _ (by rw[<- hk j (Ne.symm hij) hl];exact hs')
theorem zX1 {ad:Ad}(h:∀s,ad s=none)(d:Nat):∀s,ad.put d none s=none:=λs=>by
 rw[Ad.put_apply,h s];split<;>rfl
theorem yJi {X:IV}{tb:Nat}{t:Tag}{xs:List IV}{t':Tag}{v:Int}{n:Nat}{tg:Tag}{zs ym:List IV}{st st1:ISt}{listed:Array Bool}{ad:Ad}{fr:Fr}{ds:List Dfd}{i d:Nat}{z:IV}(hz:listed.size=17)
  (h:BelJ X tb t xs t' v n tg zs ym st listed ad fr st1 ds) (h1:i<13) (h2:i≠8) (hs:∀t2 t3 b,(wZc X tb t xs t' v t2 t3 b)[i]?=some (d,z)):BelJ X tb t xs t' v n tg zs ym st (listed.setIfInBounds i true) (ad.put d none) (fr.put d (.iv z)) st1 ds:=by
 obtain⟨had,rfl,hF,t2,t3,b,s1,a1,a2,a3,a4,a5,a6⟩:=h;have hd:=(yKi (hs t2 t3 b)).2;have st':∀j,i≠j->(listed.setIfInBounds i true).getD j false=listed.getD j false:=λj hj=>by rw[yQq (by omega),if_neg hj]
 refine⟨zX1 had _,rfl,hF.put (by rw[hd];unfold dstB;split<;>omega) _,t2,t3,b,s1,?_,?_,?_,?_,?_,yV4 (λ_ _ _ h=>yKi h) hz (by omega) (hs t2 t3 b) (λ_ _ _=>rfl) a6⟩
 ·rw[st' 8 (by omega)];exact a1
 ·rw[st' 13 (by omega)];exact a2
 ·rw[st' 15 (by omega),st' 16 (by omega)];exact a3
 ·rw[st' 14 (by omega),st' 15 (by omega),st' 16 (by omega)];exact a4
 ·rw[st' 14 (by omega),st' 13 (by omega),st' 8 (by omega)];exact a5
theorem wWh {st2 st:ISt}{t:Tag}{n s b:Nat}{o:IObj}(h:own st2 t n s (st.put b (some o))):own (st2.put b none) t n s st:=by
 rcases h with h|h|⟨g,h1,h2,h3⟩
 ·exact .inl h
 ·exact .inr (.inl h)
 ·have hg:g≠b:=λhc=>by rw[hc,ISt.put_same] at h3;cases h3
  exact .inr (.inr ⟨g,h1,by rw[yQb hg];exact h2,by rw[yQb hg] at h3;exact h3⟩)
theorem wVw {st2 st:ISt}{b:Nat}{o:IObj}(h:subSt (st.put b (some o)) st2)(hb:st b=none):subSt st (st2.put b none):=λc x hc=>by
 have hcb:c≠b:=λhq=>by rw[hq,hb] at hc;cases hc
 rw[yQb hcb];exact h c x (by rw[yQb hcb];exact hc)
theorem wWf {st2:ISt}{b:Nat}{o:IObj}(h:st2 b=some o):(st2.put b none).put b (some o)=st2:=by
 funext c;simp only[ISt.put_apply];split
 ·subst_vars;exact h.symm
 ·rfl
theorem zXv {X:IV}{tb:Nat}{t:Tag}{xs:List IV}{t':Tag}{v:Int}{t2 t3 t2' t3':Tag}{b b':Nat}(j:Nat)(h8:t2=t2'\/(j≠8/\j≠14))(h13:t3=t3'\/(j≠13/\j≠14))(h15:b=b'\/j≠15):(wZc X tb t xs t' v t2 t3 b)[j]?=(wZc X tb t xs t' v t2' t3' b')[j]?:=by
 by_cases hj:j<16
 ·rcases (show j=0\/j=1\/j=2\/j=3\/j=4\/j=5\/j=6\/j=7\/j=8\/j=9\/j=10\/j=11\/j=12\/j=13\/j=14\/j=15 by omega) with rfl|rfl|rfl|rfl|rfl|rfl|rfl|rfl|rfl|rfl|rfl|rfl|rfl|rfl|rfl|rfl
  all_goals first|rfl|(simp at h8 h13 h15;subst_vars;rfl)
 ·rw[List.getElem?_eq_none (by show 16<=j;omega),List.getElem?_eq_none (by show 16<=j;omega)]
theorem wKg (l:List Mk)(tb:Nat)(x:IV)(hx:IsBr l tb x)(m:Mk)(y:IV)(hy:IsMk m y)(hm:m.f.op<=7)(q:List Mk)(tg:Tag)(zs:List IV)(htg:okEs tg 6)(hzs:IsMks q zs)(hl:l.length+q.length<=1000000)(st:ISt)(es:List (Value×IV))(hb:st tb=some (.map .sg es))(ht:zXs es) :
  ICall prog gl 112 [.cptr x,y,.sl tg zs] st (λr st'=>IsBr (yZg l q) tb r/\st'=st):=by
 obtain⟨t,xs,t',v,rfl,ht6,hap,hxs,ht1,htc⟩:=hx;have hfind:=λst hb=>zJs gl m y hy st tb es hb ht;have hk4:decide (((yZx m).1:Int)=4)=false:=dEf (by
  by_cases h0:(yZx m).1=0
  ·omega
  ·obtain⟨r,hr,_,hT⟩:=yWn h0;have:=(zJc gl hr hm).2.2.1;rw[hT];omega)
 obtain⟨oy,ny,ty,xy,ty',xy',rfl⟩:=hy.agg;refine ICall.intro (c:=cf prog gl [7] [(1,[])]) func112 rfl (by show _<=51;simp) (by kernel_rfl) ?_;simp only[go_sem,zE,zB,zA,zM,zS,zL,reduceCtorEq,fits,brI];rw[yKp];refine yJ6 (BelJ (.agg (brI tb t xs t' v)) tb t xs t' v l.length tg zs [.raw (.bool m.is),.raw (.int .i64 m.w),.raw (.int .u8 oy),.raw (.string ny),.sl ty xy,.sl ty' xy'] st) ?_ ?_ _ _ _ _ _ _ rfl ?_
 ·intro listed ad fr st1 ds hz hJ i hi;replace hz:listed.size=17:=hz;obtain⟨h0,o,ho,hdep⟩:=mem_ready.1 hi;have his:i<17:=(Array.getElem?_eq_some_iff.1 ho).1;have hfl:listed.getD i false=false:=by
   rw[Array.getD_eq_getD_getElem?,Array.getElem?_eq_getElem (by omega)] at h0 ⊢;exact h0
  have hJ':=hJ;obtain⟨had,rfl,hF,t2,t3,b,s1,a1,a2,a3,a4,a5,a6⟩:=hJ';rcases (show i=0\/i=1\/i=2\/i=3\/i=4\/i=5\/i=6\/i=7\/i=8\/i=9\/i=10\/i=11\/i=12\/i=13\/i=14\/i=15\/i=16 by omega) with rfl|rfl|rfl|rfl|rfl|rfl|rfl|rfl|rfl|rfl|rfl|rfl|rfl|rfl|rfl|rfl|rfl
  all_goals obtain rfl:=Option.some.inj ho
  ·simp only[go_sem,zE,zB,zA,zM,zS,zL,reduceCtorEq,yQ5,had,hF.1];exact yJi hz hJ (by decide) (by decide) λ_ _ _=>rfl
  ·have d1:=hdep ⟨0,.data⟩ (by simp) rfl;have f1:=a6 0 d1 _ _ rfl;simp only[go_sem,zE,zB,zA,zM,zS,zL,reduceCtorEq,yQ5,had,f1,fits];exact yJi hz hJ (by decide) (by decide) λ_ _ _=>rfl
  ·have d1:=hdep ⟨1,.data⟩ (by simp) rfl;have f1:=a6 1 d1 _ _ rfl;simp only[go_sem,zE,zB,zA,zM,zS,zL,reduceCtorEq,yQ5,had,f1,fits];exact yJi hz hJ (by decide) (by decide) λ_ _ _=>rfl
  ·have d1:=hdep ⟨2,.data⟩ (by simp) rfl;have f1:=a6 2 d1 _ _ rfl;simp only[go_sem,zE,zB,zA,zM,zS,zL,reduceCtorEq,yQ5,had,f1,fits];exact yJi hz hJ (by decide) (by decide) λ_ _ _=>rfl
  ·simp only[go_sem,zE,zB,zA,zM,zS,zL,reduceCtorEq,yQ5,had,hF.1];exact yJi hz hJ (by decide) (by decide) λ_ _ _=>rfl
  ·have d1:=hdep ⟨4,.data⟩ (by simp) rfl;have f1:=a6 4 d1 _ _ rfl;simp only[go_sem,zE,zB,zA,zM,zS,zL,reduceCtorEq,yQ5,had,f1,fits];exact yJi hz hJ (by decide) (by decide) λ_ _ _=>rfl
  ·have d1:=hdep ⟨5,.data⟩ (by simp) rfl;have f1:=a6 5 d1 _ _ rfl;simp only[go_sem,zE,zB,zA,zM,zS,zL,reduceCtorEq,yQ5,had,f1,fits];exact yJi hz hJ (by decide) (by decide) λ_ _ _=>rfl
  ·have d1:=hdep ⟨6,.data⟩ (by simp) rfl;have f1:=a6 6 d1 _ _ rfl;simp only[go_sem,zE,zB,zA,zM,zS,zL,reduceCtorEq,yQ5,had,f1,fits];exact yJi hz hJ (by decide) (by decide) λ_ _ _=>rfl
  ·have d1:=hdep ⟨7,.data⟩ (by simp) rfl;have f1:=a6 7 d1 _ _ rfl;simp only[go_sem,zE,zB,zA,zM,zS,zL,reduceCtorEq,yQ5,had,f1,fits];refine (wG0 gl l t xs ht6 hap hxs (by omega) _).mono ?_;rintro _ st2 ⟨t4,rfl,hown,hap4,hsub⟩;have st':∀j,8≠j->(listed.setIfInBounds 8 true).getD j false=listed.getD j false:=λj hj=>by rw[yQq (by omega),if_neg hj]
   have sti:(listed.setIfInBounds 8 true).getD 8 false=true:=by rw[yQq (by omega),if_pos rfl]
   have h14:listed.getD 14 false≠true:=λhc=>by rw[(a5 hc).2] at hfl;cases hfl
   have h16:listed.getD 16 false≠true:=λhc=>h14 (a4 hc).1;rcases a1 with⟨h8,_⟩|⟨_,rfl⟩
   ·rw[hfl] at h8;cases h8
   rcases a3 with⟨l15,hb1,rfl⟩|⟨l15,rfl⟩
   ·rw[if_neg h16] at hown hsub;refine⟨zX1 had _,rfl,hF.put (by decide) _,t4,t3,b,st2.put b none,.inl ⟨sti,wWh hown,hap4,wVw hsub hb1⟩,?_,.inl ⟨?_,ISt.put_same ..,?_⟩,?_,?_,yV4 (λ_ _ _ h=>yKi h) hz (by decide) rfl (λj hj hl=>zXv j (.inr ⟨hj,λhc=>h14 (hc▸hl)⟩) (.inl rfl) (.inl rfl)) a6⟩
    ·rw[st' 13 (by decide)];exact a2
    ·rw[st' 15 (by decide)];exact l15
    ·rw[st' 16 (by decide),if_neg h16];exact (wWf (hsub b _ (ISt.put_same ..))).symm
    ·rw[st' 16 (by decide)];exact λhc=>absurd hc h16
    ·rw[st' 14 (by decide)];exact λhc=>absurd hc h14
   ·refine⟨zX1 had _,rfl,hF.put (by decide) _,t4,t3,b,st2,.inl ⟨sti,hown,hap4,hsub⟩,?_,.inr ⟨?_,rfl⟩,?_,?_,yV4 (λ_ _ _ h=>yKi h) hz (by decide) rfl (λj hj hl=>zXv j (.inr ⟨hj,λhc=>h14 (hc▸hl)⟩) (.inl rfl) (.inl rfl)) a6⟩
    ·rw[st' 13 (by decide)];exact a2
    ·rw[st' 15 (by decide)];exact l15
    ·rw[st' 16 (by decide)];exact λhc=>absurd hc h16
    ·rw[st' 14 (by decide)];exact λhc=>absurd hc h14
  ·simp only[go_sem,zE,zB,zA,zM,zS,zL,reduceCtorEq,yQ5,had,hF.1];exact yJi hz hJ (by decide) (by decide) λ_ _ _=>rfl
  ·have d1:=hdep ⟨9,.data⟩ (by simp) rfl;have f1:=a6 9 d1 _ _ rfl;simp only[go_sem,zE,zB,zA,zM,zS,zL,reduceCtorEq,yQ5,had,f1,fits];exact yJi hz hJ (by decide) (by decide) λ_ _ _=>rfl
  ·have d1:=hdep ⟨10,.data⟩ (by simp) rfl;have f1:=a6 10 d1 _ _ rfl;simp only[go_sem,zE,zB,zA,zM,zS,zL,reduceCtorEq,yQ5,had,f1,fits];exact yJi hz hJ (by decide) (by decide) λ_ _ _=>rfl
  ·have d1:=hdep ⟨11,.data⟩ (by simp) rfl;have f1:=a6 11 d1 _ _ rfl;simp only[go_sem,zE,zB,zA,zM,zS,zL,reduceCtorEq,yQ5,had,f1,fits];exact yJi hz hJ (by decide) (by decide) λ_ _ _=>rfl
  ·have d1:=hdep ⟨12,.data⟩ (by simp) rfl;have f1:=a6 12 d1 _ _ rfl;simp only[go_sem,zE,zB,zA,zM,zS,zL,reduceCtorEq,yQ5,had,f1,fits];refine (wWz gl t' v htc _).mono ?_;rintro _ st2 ⟨t4,rfl,ht4,ht4c,rfl⟩;have st':∀j,13≠j->(listed.setIfInBounds 13 true).getD j false=listed.getD j false:=λj hj=>by rw[yQq (by omega),if_neg hj]
   have sti:(listed.setIfInBounds 13 true).getD 13 false=true:=by rw[yQq (by omega),if_pos rfl]
   have h14:listed.getD 14 false≠true:=λhc=>by rw[(a5 hc).1] at hfl;cases hfl
   have h16:listed.getD 16 false≠true:=λhc=>h14 (a4 hc).1;refine⟨zX1 had _,rfl,hF.put (by decide) _,t2,t4,b,s1,?_,λ_=>⟨ht4,ht4c⟩,?_,?_,?_,yV4 (λ_ _ _ h=>yKi h) hz (by decide) rfl (λj hj hl=>zXv j (.inl rfl) (.inr ⟨hj,λhc=>h14 (hc▸hl)⟩) (.inl rfl)) a6⟩
   ·rw[st' 8 (by decide)];exact a1
   ·rw[st' 15 (by decide),st' 16 (by decide)];rw[if_neg h16] at a3 ⊢;exact a3
   ·rw[st' 16 (by decide)];exact λhc=>absurd hc h16
   ·rw[st' 14 (by decide)];exact λhc=>absurd hc h14
  ·have d3:=hdep ⟨3,.data⟩ (by simp) rfl;have d8:=hdep ⟨8,.data⟩ (by simp) rfl;have d13:=hdep ⟨13,.data⟩ (by simp) rfl;have f3:=a6 3 d3 _ _ rfl;have f8:=a6 8 d8 _ _ rfl;have f13:=a6 13 d13 _ _ rfl;simp only[go_sem,zE,zB,zA,zM,zS,zL,reduceCtorEq,yQ5,had,f3,f8,f13,fits];have st':∀j,14≠j->(listed.setIfInBounds 14 true).getD j false=listed.getD j false:=λj hj=>by rw[yQq (by omega),if_neg hj]
   have sti:(listed.setIfInBounds 14 true).getD 14 false=true:=by rw[yQq (by omega),if_pos rfl]
   refine⟨zX1 had _,rfl,hF.put (by decide) _,t2,t3,b,s1,?_,?_,?_,?_,?_,yV4 (λ_ _ _ h=>yKi h) hz (by decide) rfl (λj hj hl=>rfl) a6⟩
   ·rw[st' 8 (by decide)];exact a1
   ·rw[st' 13 (by decide)];exact a2
   ·rw[st' 15 (by decide),st' 16 (by decide)];exact a3
   ·rw[st' 15 (by decide),st' 16 (by decide)];exact λhc=>⟨sti,(a4 hc).2⟩
   ·rw[st' 13 (by decide),st' 8 (by decide)];exact λ_=>⟨d13,d8⟩
  ·have h16:listed.getD 16 false≠true:=λhc=>by rw[(a4 hc).2] at hfl;cases hfl
   rcases a3 with⟨h15,_⟩|⟨_,rfl⟩
   ·rw[hfl] at h15;cases h15
   simp only[go_sem,zE,zB,zA,zM,zS,zL,reduceCtorEq,yQ5,had];refine λb'=>yQc λhb'=>?_;have st':∀j,15≠j->(listed.setIfInBounds 15 true).getD j false=listed.getD j false:=λj hj=>by rw[yQq (by omega),if_neg hj]
   have sti:(listed.setIfInBounds 15 true).getD 15 false=true:=by rw[yQq (by omega),if_pos rfl]
   refine⟨zX1 had _,rfl,hF.put (by decide) _,t2,t3,b',st1,?_,?_,.inl ⟨sti,hb',?_⟩,?_,?_,yV4 (λ_ _ _ h=>yKi h) hz (by decide) rfl (λj hj hl=>zXv j (.inl rfl) (.inl rfl) (.inr hj)) a6⟩
   ·rw[st' 8 (by decide)];exact a1
   ·rw[st' 13 (by decide)];exact a2
   ·rw[st' 16 (by decide),if_neg h16];rfl
   ·rw[st' 16 (by decide)];exact λhc=>absurd hc h16
   ·rw[st' 14 (by decide),st' 13 (by decide),st' 8 (by decide)];exact a5
  ·have d14:=hdep ⟨14,.data⟩ (by simp) rfl;have d15:=hdep ⟨15,.data⟩ (by simp) rfl;have f14:=a6 14 d14 _ _ rfl;have f15:=a6 15 d15 _ _ rfl;unfold brI at f14;rcases a3 with⟨_,hb1,rfl⟩|⟨h15,_⟩
   case inr=>rw[d15] at h15;cases h15
   rw[if_neg (by rw[hfl];decide)];unfold boxZ;simp only[go_sem,zE,zB,zA,zM,zS,zL,reduceCtorEq,yQ5,had,f14,f15,fits,ISt.put_same,yQ8];have st':∀j,16≠j->(listed.setIfInBounds 16 true).getD j false=listed.getD j false:=λj hj=>by rw[yQq (by omega),if_neg hj]
   have sti:(listed.setIfInBounds 16 true).getD 16 false=true:=by rw[yQq (by omega),if_pos rfl]
   refine⟨had,rfl,hF,t2,t3,b,s1,?_,?_,.inl ⟨?_,hb1,?_⟩,?_,?_,λj hl d z hs=>?_⟩
   ·rw[st' 8 (by decide)];exact a1
   ·rw[st' 13 (by decide)];exact a2
   ·rw[st' 15 (by decide)];exact d15
   ·rw[if_pos sti];rfl
   ·rw[st' 14 (by decide),st' 15 (by decide)];exact λ_=>⟨d14,d15⟩
   ·rw[st' 14 (by decide),st' 13 (by decide),st' 8 (by decide)];exact a5
   ·have hj:=(yKi hs).1;rw[st' j (by omega)] at hl;exact a6 j hl d z hs
 ·intro listed ad fr st1 ds hz hr hJ;have hl:=zK7 (by decide +kernel) hz hr;obtain⟨_,rfl,⟨f0,f2,f4,f6⟩,t2,t3,b,s1,a1,a2,a3,a4,a5,a6⟩:=hJ;have f7:=a6 15 (hl 15 (by decide)) _ _ rfl;obtain⟨_,hown,hap2,hsub⟩|⟨h8,_⟩:=a1
  case inr=>rw[hl 8 (by decide)] at h8;cases h8
  obtain⟨_,hbn,rfl⟩|⟨h15,_⟩:=a3
  case inr=>rw[hl 15 (by decide)] at h15;cases h15
  rw[if_pos (hl 16 (by decide))];obtain⟨ht3,ht3c⟩:=a2 (hl 13 (by decide));have hbS:=yGs hsub hbn;have htb:tb≠b:=λhc=>by rw[hc] at hb;rw[hb] at hbS;cases hbS
  have hbt:(s1.put b (some (.box (brI tb t2 xs t3 v)))) tb=some (.map .sg es):=by rw[yQb htb];exact hsub _ _ hb
  have hBr:BrSt st b tb l t3 v (s1.put b (some (.box (brI tb t2 xs t3 v)))):=⟨t2,xs,ISt.put_same ..,hxs,hown.mono λg hg hg0=>by rw[yQb (λhc=>by rw[hc,hbn] at hg;cases hg)];exact hg,hap2,yZ5 hsub hbS,hbS⟩
  generalize s1.put b (some (.box (brI tb t2 xs t3 v)))=s2 at hbt hBr ⊢;unfold brI at f0;simp only[go_sem,zE,zB,zA,zM,zS,zL,reduceCtorEq,f0,f2,f4,f6,f7,fits];refine (hfind _ hbt).mono ?_;rintro _ _ ⟨rfl,rfl⟩;simp only[go_sem,zE,zB,zA,zM,zS,zL,reduceCtorEq,f0,f2,f4,f6,f7,rowF,fits,hk4,hzs.len];intro _;refine LoopC.ctr q.length (λk fr st' ds=>BrSt st b tb (yZg l (q.take k)) t3 v st'/\fr 6=.box boxZ/\fr 7=.iv (.raw (.pointer (some ⟨b,0,none⟩)))/\fr 41=.iv (.sl tg zs)/\fr 42=.iv (.raw (.int .i64 q.length))/\fr 43=.iv (.raw (.int .i64 k))/\ds=[]) ?_ ?_ ?_
  ·simp only[go_sem,zE,zB,zA,zM,zS,zL,reduceCtorEq,f6,f7];exact⟨hBr,rfl⟩
  ·rintro k fr st3 _ hlt ⟨hB,f6,f7,f41,f42,f43,rfl⟩;obtain⟨a,ha⟩:=yQ4 hlt;obtain⟨y,hky,hy⟩:=hzs.get ha;have hlen:=yXc (q.take k) l;rw[List.length_take] at hlen;have hadd:=wKj gl st b tb _ t3 v st3 hB (by omega) a y hy;obtain⟨_,_,_,_,_,_,rfl⟩:=hy.agg;simp only[go_sem,zE,zB,zA,zM,zS,zL,reduceCtorEq,f6,f7,f41,f42,f43,lt_i hlt,yQ3 htg,iNn,hky,fits];refine hadd.mono ?_;rintro _ st4 hB';simp only[go_sem,zE,zB,zA,zM,zS,zL,reduceCtorEq,f6,f7,f41,f42,f43,yQf hlt (show q.length<=281474976710656 by omega)];rw[yQ7 ha,zYy];exact hB'
  ·rintro fr st3 _ ⟨hB,f6,f7,f41,f42,f43,rfl⟩;rw[lTl] at hB;obtain⟨hsub3,t4,x4,hb4,hbr⟩:=hB.br ht3 ht3c;unfold brI at hb4;unfold boxZ at f6;simp only[go_sem,zE,zB,zA,zM,zS,zL,reduceCtorEq,f6,f7,f42,f43,yQo (nLi _),hb4,fits];exact yQa hsub3 ⟨hbr,rfl⟩
 ·refine⟨λ_=>rfl,rfl,⟨rfl,rfl,rfl,rfl⟩,t,t',0,st,.inr ⟨yXu _ _,rfl⟩,λhc=>?_,.inr ⟨yXu _ _,rfl⟩,λhc=>?_,λhc=>?_,λi hc=>?_⟩
  all_goals (rw[show _=false from yXu _ _] at hc;cases hc)
theorem zVo (l q q':List Mk):yZg l (q++q')=yZg (yZg l q) q':=by unfold yZg;rw[List.foldl_append]
theorem wKi (s:Sq)(x:IV)(hx:IsSq s x)(hl:s.l.length+s.r.length<=1000000)(st:ISt) :
  ICall prog gl 71 [.raw (.int .u8 1),x] st (λr st'=>∃tb es,st tb=none/\zXs es/\IsBr (yZi s) tb r/\st'=st.put tb (some (.map .sg es))):=by
 obtain⟨t1,x1,t2,x2,rfl,e1,i1,e2,i2⟩:=hx;refine ICall.intro (c:=cf prog gl [5] []) func71 rfl (by show _<=38;simp) (by kernel_rfl) ?_;simp only[go_sem,zE,zB,zA,zM,zS,zL,reduceCtorEq];refine (wQt gl _).mono ?_;rintro _ _ ⟨tb,es,htb,rfl,hok,rfl⟩;obtain⟨S0,hS0⟩:∃S0,S0=st.put tb (some (.map .sg es)):=⟨_,rfl⟩
 rw[<- hS0];simp only[go_sem,zE,zB,zA,zM,zS,zL,reduceCtorEq,fits,yQ1];refine λb=>yQc λhbn=>?_;have hBr:BrSt S0 b tb [] ⟨true,.full,1⟩ (-1) (S0.put b (some (.box (brI tb ⟨true,.nil,0⟩ [] ⟨true,.full,1⟩ (-1))))):=⟨_,[],ISt.put_same ..,rfl,.inl ⟨rfl,rfl⟩,.inl ⟨rfl,rfl⟩,yQg hbn,hbn⟩
 simp only[go_sem,zE,zB,zA,zM,zS,zL,reduceCtorEq,ISt.put_same,yQ8,fits,i1.len];intro _;refine LoopC.ctr s.l.length (λk fr st' ds=>BrSt S0 b tb (yZg [] ((s.l.take k).map (⟨true,0,·⟩))) ⟨true,.full,1⟩ (-1) st'/\fr 3=.box [.sl t1 x1,.sl t2 x2]/\fr 4=.box boxZ/\fr 5=.iv (.raw (.pointer (some ⟨b,0,none⟩)))/\fr 16=.iv (.sl t1 x1)/\fr 17=.iv (.raw (.int .i64 s.l.length))/\fr 18=.iv (.raw (.int .i64 k))/\ds=[]) ?_ ?_ ?_
 ·simp only[go_sem,zE,zB,zA,zM,zS,zL,reduceCtorEq];exact⟨hBr,rfl,rfl⟩
 ·rintro k fr st3 _ hlt ⟨hB,f3,f4,f5,f16,f17,f18,rfl⟩;obtain⟨a,ha⟩:=yQ4 hlt;obtain⟨y,hky,hy⟩:=i1.get ha;have hy0:=hy;obtain⟨o5,n5,t5,x5,t6,x6,rfl⟩:=hy.agg;have hadd:=wKj gl S0 b tb _ _ _ st3 hB (by have h9:=yXc ((s.l.take k).map (⟨true,0,·⟩)) [];have h8:=yXc (s.l.map (⟨true,0,·⟩)) [];simp only[List.length_map,List.length_take,List.length_nil] at h8 h9 ⊢;omega) ⟨true,0,a⟩ _ ⟨_,_,_,_,_,_,rfl,hy0⟩;simp only[go_sem,zE,zB,zA,zM,zS,zL,reduceCtorEq,f3,f4,f5,f16,f17,f18,lt_i hlt,yQ3 e1,iNn,hky,fits];refine hadd.mono ?_;rintro _ st4 hB';simp only[go_sem,zE,zB,zA,zM,zS,zL,reduceCtorEq,f3,f4,f5,f16,f17,f18,yQf hlt (show s.l.length<=281474976710656 by omega)];rw[yQ7 ha,List.map_append,zVo];exact hB'
 ·rintro fr st2 _ ⟨hB,f3,f4,f5,f16,f17,f18,rfl⟩;rw[lTl] at hB;simp only[go_sem,zE,zB,zA,zM,zS,zL,reduceCtorEq,f3,f4,f5,f16,f17,f18,yQo (nLi _),i2.len];intro _;refine LoopC.ctr s.r.length (λk fr st' ds=>BrSt S0 b tb (yZg (yZg [] (s.l.map (⟨true,0,·⟩))) ((s.r.take k).map (⟨false,0,·⟩))) ⟨true,.full,1⟩ (-1) st'/\fr 4=.box boxZ/\fr 5=.iv (.raw (.pointer (some ⟨b,0,none⟩)))/\fr 27=.iv (.sl t2 x2)/\fr 28=.iv (.raw (.int .i64 s.r.length))/\fr 29=.iv (.raw (.int .i64 k))/\ds=[]) ?_ ?_ ?_
  ·simp only[go_sem,zE,zB,zA,zM,zS,zL,reduceCtorEq,f4,f5];exact⟨hB,rfl⟩
  ·rintro k fr st3 _ hlt ⟨hB,f4,f5,f27,f28,f29,rfl⟩;obtain⟨a,ha⟩:=yQ4 hlt;obtain⟨y,hky,hy⟩:=i2.get ha;have hy0:=hy;obtain⟨o5,n5,t5,x5,t6,x6,rfl⟩:=hy.agg;have hadd:=wKj gl S0 b tb _ _ _ st3 hB (by have h9:=yXc ((s.r.take k).map (⟨false,0,·⟩)) (yZg [] (s.l.map (⟨true,0,·⟩)));have h8:=yXc (s.l.map (⟨true,0,·⟩)) [];simp only[List.length_map,List.length_take,List.length_nil] at h8 h9 ⊢;omega) ⟨false,0,a⟩ _ ⟨_,_,_,_,_,_,rfl,hy0⟩;simp only[go_sem,zE,zB,zA,zM,zS,zL,reduceCtorEq,f4,f5,f27,f28,f29,lt_i hlt,yQ3 e2,iNn,hky,fits];refine hadd.mono ?_;rintro _ st4 hB';simp only[go_sem,zE,zB,zA,zM,zS,zL,reduceCtorEq,f4,f5,f27,f28,f29,yQf hlt (show s.r.length<=281474976710656 by omega)];rw[yQ7 ha,List.map_append,zVo];exact hB'
  ·rintro fr st3 _ ⟨hB,f4,f5,f27,f28,f29,rfl⟩;rw[lTl,<- zVo] at hB;obtain⟨hsub3,t4,x4,hb4,hbr⟩:=hB.br (.inr rfl) (by simp);unfold brI at hb4;unfold boxZ at f4;simp only[go_sem,zE,zB,zA,zM,zS,zL,reduceCtorEq,f4,f5,f28,f29,yQo (nLi _),hb4,fits];exact yQa hsub3 ⟨tb,es,htb,hok,hbr,hS0⟩
def fitL (l:List Fm):Prop:=∀f∈l,f.size<=1000000
theorem xK6 (ca:Nat)(st:ISt):ICall prog gl 53 [.raw (.int .u8 ca)] st (λr st'=>r=.raw (.bool (yK4 ca))/\st'=st):=by
 refine iI func53 ?_;by_cases h1:1<=ca
 ·have e1:decide (1<=(ca:Int))=true:=dEt (by omega);by_cases h2:ca<=3
  ·have e2:decide ((ca:Int)<=3)=true:=dEt (by omega);simp only[go_sem,zE,reduceCtorEq,e1,e2];exact yQ0 ⟨by simp[yK4,h1,h2],rfl⟩
  ·have e2:decide ((ca:Int)<=3)=false:=dEf (by omega);simp only[go_sem,zE,reduceCtorEq,e1,e2];exact yQ0 ⟨by simp[yK4,h2],rfl⟩
 ·have e1:decide (1<=(ca:Int))=false:=dEf (by omega);simp only[go_sem,zE,reduceCtorEq,e1];exact yQ0 ⟨by simp[yK4,h1],rfl⟩
def sOp (f:Fm):Prop:=∀(ca:Nat) (x:IV) (_:IsFm f x) (st:ISt),ICall prog gl 95 [.raw (.int .u8 ca),x] st (λr st'=>r=.raw (.bool (opsB ca f))/\st'=st)
theorem yKj (ca:Nat):∀l m:List Fm,yK7 ca (l++m)=(yK7 ca l&&yK7 ca m)
 | [],m=>by simp[yK7]
 | a::l,m=>by simp only[List.cons_append,yK7,yKj ca l m,Bool.and_assoc]
theorem zKe {ca:Nat}{l:List Fm}{a:Fm}(ha:a∈l)(h:opsB ca a=false):yK7 ca l=false:=by
 obtain⟨p,q,rfl⟩:=List.append_of_mem ha;rw[yKj];simp[yK7,h]
theorem wW8 (o:Nat)(n:ByteArray)(us:List Tm)(sub:List Fm)(IH:∀a∈sub,sOp gl a):sOp gl (.mk o n us sub):=by
 intro ca x hx st;obtain⟨t1,x1,t2,x2,rfl,ho,ht1,hx1,ht2,hx2⟩:=hx.mk;have loop:∀(last:Nat) (hop:(decide (1<=o)&&decide (o<=if ca=3 then 9 else 7)&&(decide (ca=3) || us.isEmpty))=true),opsB ca (.mk o n us sub)=yK7 ca sub:=λ_ h=>by
  simp only[opsB,h,Bool.true_and]
 refine iI func95 ?_;by_cases h1:1<=o
 ·have e1:decide ((o:Int)<1)=false:=dEf (by omega);by_cases hca:ca=3
  ·have e3:decide ((ca:Int)=3)=true:=dEt (by omega);by_cases h2:o<=9
   ·have e2:decide ((9:Int)<(o:Int))=false:=dEf (by omega);have hl:=loop 9 (by simp[h1,h2,hca]);simp only[go_sem,zE,zA,reduceCtorEq,e1,e2,e3,hx2.len];intro _;refine LoopC.ctr sub.length (λk fr st' ds=>yK7 ca (sub.take k)=true/\fr 0=.iv (.raw (.int .u8 ca))/\fr 30=.iv (.sl t2 x2)/\fr 31=.iv (.raw (.int .i64 sub.length))/\fr 32=.iv (.raw (.int .i64 k))/\st'=st/\ds=[]) ?_ ?_ ?_
    ·simp only[go_sem,zE,reduceCtorEq];simp[yK7]
    ·rintro k fr st1 _ hlt ⟨hn,f0,f30,f31,f32,rfl,rfl⟩;obtain⟨a,ha⟩:=yQ4 hlt;obtain⟨y,hky,hy⟩:=hx2.get ha;have hcall:=IH a (lMg ha) ca y hy st1;obtain⟨o5,n5,t5,x5,t6,x6,rfl⟩:=hy.agg;simp only[go_sem,zE,zB,zA,zL,reduceCtorEq,f0,f30,f31,f32,lt_i hlt,yQ3 ht2,iNn,hky,fits];refine hcall.mono ?_;rintro _ _ ⟨rfl,rfl⟩;cases hr:opsB ca a
     ·simp only[go_sem];exact yQ0 ⟨by rw[hl,zKe (lMg ha) hr],rfl⟩
     ·simp only[go_sem,zE,reduceCtorEq,f0,f30,f31,f32,yQf hlt (show sub.length<=281474976710656 by omega)];rw[yQ7 ha,yKj,hn];simp[yK7,hr]
    ·rintro fr st1 _ ⟨hn,f0,f30,f31,f32,rfl,rfl⟩;rw[lTl] at hn;simp only[go_sem,f31,f32,yQo (nLi _)];exact yQ0 ⟨by rw[hl,hn],rfl⟩
   ·have e2:decide ((9:Int)<(o:Int))=true:=dEt (by omega);simp only[go_sem,zE,zA,reduceCtorEq,e1,e2,e3];exact yQ0 ⟨by simp[opsB,h2,hca],rfl⟩
  ·have e3:decide ((ca:Int)=3)=false:=dEf (by omega);by_cases h2:o<=7
   ·have e2:decide ((7:Int)<(o:Int))=false:=dEf (by omega);by_cases hu:us=[]
    ·subst hu;have e4:decide ((0:Int)<((0:Nat):Int))=false:=rfl;have hl:=loop 7 (by simp[h1,h2,hca]);simp only[go_sem,zE,zA,zL,reduceCtorEq,e1,e2,e3,e4,hx1.len,hx2.len];intro _;refine LoopC.ctr sub.length (λk fr st' ds=>yK7 ca (sub.take k)=true/\fr 0=.iv (.raw (.int .u8 ca))/\fr 30=.iv (.sl t2 x2)/\fr 31=.iv (.raw (.int .i64 sub.length))/\fr 32=.iv (.raw (.int .i64 k))/\st'=st/\ds=[]) ?_ ?_ ?_
     ·simp only[go_sem,zE,reduceCtorEq];simp[yK7]
     ·rintro k fr st1 _ hlt ⟨hn,f0,f30,f31,f32,rfl,rfl⟩;obtain⟨a,ha⟩:=yQ4 hlt;obtain⟨y,hky,hy⟩:=hx2.get ha;have hcall:=IH a (lMg ha) ca y hy st1;obtain⟨o5,n5,t5,x5,t6,x6,rfl⟩:=hy.agg;simp only[go_sem,zE,zB,zA,zL,reduceCtorEq,f0,f30,f31,f32,lt_i hlt,yQ3 ht2,iNn,hky,fits];refine hcall.mono ?_;rintro _ _ ⟨rfl,rfl⟩;cases hr:opsB ca a
      ·simp only[go_sem];exact yQ0 ⟨by rw[hl,zKe (lMg ha) hr],rfl⟩
      ·simp only[go_sem,zE,reduceCtorEq,f0,f30,f31,f32,yQf hlt (show sub.length<=281474976710656 by omega)];rw[yQ7 ha,yKj,hn];simp[yK7,hr]
     ·rintro fr st1 _ ⟨hn,f0,f30,f31,f32,rfl,rfl⟩;rw[lTl] at hn;simp only[go_sem,f31,f32,yQo (nLi _)];exact yQ0 ⟨by rw[hl,hn],rfl⟩
    ·have hpos:0<us.length:=List.length_pos_iff.2 hu;have e4:decide ((0:Int)<(us.length:Int))=true:=dEt (by omega);simp only[go_sem,zE,zA,reduceCtorEq,e1,e2,e3,e4,hx1.len];intro _;exact yQ0 ⟨by simp[opsB,hca,hu],rfl⟩
   ·have e2:decide ((7:Int)<(o:Int))=true:=dEt (by omega);simp only[go_sem,zE,zA,reduceCtorEq,e1,e2,e3];exact yQ0 ⟨by simp[opsB,hca,h2],rfl⟩
 ·have e1:decide ((o:Int)<1)=true:=dEt (by omega);by_cases hca:ca=3
  ·have e3:decide ((ca:Int)=3)=true:=dEt (by omega);simp only[go_sem,zE,zA,reduceCtorEq,e1,e3];exact yQ0 ⟨by simp[opsB,h1],rfl⟩
  ·have e3:decide ((ca:Int)=3)=false:=dEf (by omega);simp only[go_sem,zE,zA,reduceCtorEq,e1,e3];exact yQ0 ⟨by simp[opsB,h1],rfl⟩
theorem wZo:∀(k:Nat)(f:Fm),SizeOf.sizeOf f<k->sOp gl f
 | 0,f,h=>by omega
 | k+1,.mk o n us sub,h=>wW8 gl o n us sub (λa ha=>wZo k a (by
   have:=lSm ha;simp only[Fm.mk.sizeOf_spec] at h;omega))
theorem xJm (f:Fm):sOp gl f:=wZo gl _ f (Nat.lt_succ_self _)
theorem zV1 (G:Gl gl)(ca:Nat)(f:Fm)(x:IV)(hx:IsFm f x)(hs:f.size<=1000000)(st:ISt) :
  ICall prog gl 54 [.raw (.int .u8 ca),x] st (λr st'=>r=.raw (.bool (fmB ca f))/\st'=st):=by
 have h1:=λst=>zVr gl G f x hx st hs;have h2:=λst=>xJm gl f ca x hx st;obtain⟨o5,n5,t5,x5,t6,x6,rfl⟩:=hx.agg;refine iI func54 ?_;simp only[go_sem,zE,zA,zL];refine (h1 _).mono ?_;rintro _ _ ⟨rfl,rfl⟩;cases hr:f.right
 ·simp only[go_sem,zE];exact yQ0 ⟨by simp[fmB,hr],rfl⟩
 ·simp only[go_sem,zE,zA,zL,reduceCtorEq];refine (h2 _).mono ?_;rintro _ _ ⟨rfl,rfl⟩;simp only[go_sem,zE];exact yQ0 ⟨by simp[fmB,hr],rfl⟩
theorem wJz (G:Gl gl)(f g:Fm)(x y:IV)(hx:IsFm f x)(hy:IsFm g y)(hs:f.size<=1000000)(hs':g.size<=1000000)(st:ISt) :
  ICall prog gl 55 [x,y] st (λr st'=>r=.raw (.bool (eqF f g))/\st'=st):=by
 have h1:=λst=>vXn gl G f g x y hx hy hs hs' st;obtain⟨o,n,us,sub⟩:=f;obtain⟨o',n',us',sub'⟩:=g;obtain⟨t1,x1,t2,x2,rfl,_⟩:=hx.mk;obtain⟨t3,x3,t4,x4,rfl,_⟩:=hy.mk;refine iI func55 ?_;by_cases ho:o=o'
 ·subst ho;simp only[go_sem,zE,zA,zL,decide_true];refine (h1 _).mono ?_;rintro _ _ ⟨rfl,rfl⟩;simp only[go_sem,zE];exact yQ0 ⟨by simp[eqF,Fm.op],rfl⟩
 ·have e:decide ((o:Int)=(o':Int))=false:=dEf (by omega);simp only[go_sem,zE,zA,e];exact yQ0 ⟨by simp[eqF,Fm.op,ho],rfl⟩
theorem xV2 (g:FuncId)(caps:List IV)(he:entI prog g=true)(us:List Fm)(p:Fm->Bool)(hp:∀a∈us,∀x,IsFm a x->∀st,ICall prog gl g (x::caps) st (λr st'=>r=.raw (.bool (p a))/\st'=st))
  (tg:Tag) (xs:List IV) (htg:okEs tg 4) (hxs:IsFms us xs) (st:ISt) :
  ICall prog gl 102 [.sl tg xs,.fn (.func g) [] caps] st (λr st'=>(∃n:Int,r=.raw (.int .i64 n)/\decide (0<=n)=us.any p)/\st'=st):=by
 refine iI func102 ?_;simp only[go_sem,reduceCtorEq,hxs.len];intro _;refine LoopC.ctr us.length (λk fr st' ds=>(us.take k).any p=false/\fr 0=.iv (.sl tg xs)/\fr 1=.iv (.fn (.func g) [] caps)/\fr 7=.iv (.raw (.int .i64 us.length))/\fr 8=.iv (.raw (.int .i64 k))/\st'=st/\ds=[]) ?_ ?_ ?_
 ·simp only[go_sem,zE,reduceCtorEq];exact⟨rfl,rfl⟩
 ·rintro k fr st1 _ hlt ⟨hn,f0,f1,f7,f8,rfl,rfl⟩;obtain⟨a,ha⟩:=yQ4 hlt;obtain⟨y,hky,hy⟩:=hxs.get ha;have hcall:=hp a (lMg ha) y hy st1;obtain⟨o5,n5,t5,x5,t6,x6,rfl⟩:=hy.agg;simp only[go_sem,zE,zB,zA,reduceCtorEq,f0,f1,f7,f8,lt_i hlt,yQ3 htg,iNn,hky,fits,he];refine hcall.mono ?_;rintro _ _ ⟨rfl,rfl⟩;cases hr:p a
  ·simp only[go_sem,zE,reduceCtorEq,f0,f1,f7,f8,yQf hlt (show us.length<=281474976710656 by omega)];rw[yQ7 ha,List.any_append,hn];simp[hr]
  ·simp only[go_sem,zE];refine yQ0 ⟨⟨_,rfl,?_⟩,rfl⟩;rw[dEt (iNn k)];exact (List.any_eq_true.2 ⟨a,lMg ha,hr⟩).symm
 ·rintro fr st1 _ ⟨hn,f0,f1,f7,f8,rfl,rfl⟩;rw[lTl] at hn;simp only[go_sem,f7,f8,yQo (nLi _)];exact yQ0 ⟨⟨_,rfl,by rw[hn];rfl⟩,rfl⟩
theorem yW7 (g:FuncId)(caps:List IV)(he:entI prog g=true)(us:List Fm)(p:Fm->Bool)(hp:∀a∈us,∀x,IsFm a x->∀st,ICall prog gl g (x::caps) st (λr st'=>r=.raw (.bool (p a))/\st'=st))
  (tg:Tag) (xs:List IV) (htg:okEs tg 4) (hxs:IsFms us xs) (st:ISt) :
  ICall prog gl 58 [.sl tg xs,.fn (.func g) [] caps] st (λr st'=>r=.raw (.bool (us.any p))/\st'=st):=by
 refine iI func58 ?_;simp only[go_sem,zE,zA,reduceCtorEq];refine (xV2 gl g caps he us p hp tg xs htg hxs _).mono ?_;rintro _ _ ⟨⟨n,rfl,hn⟩,rfl⟩;simp only[go_sem,hn];exact yQ0 ⟨rfl,rfl⟩
theorem vG8 (G:Gl gl)(f g:Fm)(x y:IV)(hx:IsFm f x)(hy:IsFm g y)(hs:f.size<=1000000)(hs':g.size<=1000000)(st:ISt) :
  ICall prog gl 59 [y,.cptr x] st (λr st'=>r=.raw (.bool (eqF f g))/\st'=st):=by
 have h1:=λst=>wJz gl G f g x y hx hy hs hs' st;obtain⟨o5,n5,t5,x5,t6,x6,rfl⟩:=hx.agg;obtain⟨o7,n7,t7,x7,t8,x8,rfl⟩:=hy.agg;refine iI func59 ?_;simp only[go_sem,zE,zA,zL,fits];refine (h1 _).mono ?_;rintro _ _ ⟨rfl,rfl⟩;simp only[go_sem];exact yQ0 ⟨rfl,rfl⟩
theorem wVb (G:Gl gl)(l:List Fm)(f:Fm)(tg:Tag)(xs:List IV)(x:IV)(htg:okEs tg 4)(hxs:IsFms l xs)(hx:IsFm f x)(hl:fitL l)(hs:f.size<=1000000)(st:ISt) :
  ICall prog gl 21 [.sl tg xs,x] st (λr st'=>r=.raw (.bool (hasF l f))/\st'=st):=by
 have h1:=λst=>yW7 gl 59 [.cptr x] (by simp only[go_sem]) l (eqF f) (λa ha y hy st=>vG8 gl G f a x y hx hy hs (hl a ha) st) tg xs htg hxs st;obtain⟨o5,n5,t5,x5,t6,x6,rfl⟩:=hx.agg;refine ICall.intro (c:=cf prog gl [] [] [3]) func21 rfl (by show _<=8;simp) (by kernel_rfl) ?_;simp only[go_sem,zE,zA,reduceCtorEq];refine (h1 _).mono ?_;rintro _ _ ⟨rfl,rfl⟩;simp only[go_sem];exact yQ0 ⟨rfl,rfl⟩
theorem vYt (G:Gl gl)(l m:List Fm)(t t':Tag)(xs ys:List IV)(ht:okEs t 4)(ht':okEs t' 4)(hxs:IsFms l xs)(hys:IsFms m ys)(hl:fitL l)(hm:fitL m)(st:ISt) :
  ICall prog gl 77 [.sl t xs,.sl t' ys] st (λr st'=>r=.raw (.bool (allF l m))/\st'=st):=by
 refine iI func77 ?_;simp only[go_sem,reduceCtorEq,hxs.len];intro _;refine LoopC.ctr l.length (λk fr st' ds=>(l.take k).all (hasF m)=true/\fr 1=.iv (.sl t' ys)/\fr 7=.iv (.sl t xs)/\fr 8=.iv (.raw (.int .i64 l.length))/\fr 9=.iv (.raw (.int .i64 k))/\st'=st/\ds=[]) ?_ ?_ ?_
 ·simp only[go_sem,zE];rfl
 ·rintro k fr st1 _ hlt ⟨hn,f1,f7,f8,f9,rfl,rfl⟩;obtain⟨a,ha⟩:=yQ4 hlt;obtain⟨y,hky,hy⟩:=hxs.get ha;have hcall:=wVb gl G m a t' ys y ht' hys hy hm (hl a (lMg ha)) st1;obtain⟨o5,n5,t5,x5,t6,x6,rfl⟩:=hy.agg;simp only[go_sem,zE,zB,zA,zL,f1,f7,f8,f9,lt_i hlt,yQ3 ht,iNn,hky,fits];refine hcall.mono ?_;rintro _ _ ⟨rfl,rfl⟩;cases hr:hasF m a
  ·simp only[go_sem];refine yQ0 ⟨?_,rfl⟩;have:allF l m=false:=by
    unfold allF;rw[List.all_eq_false];exact⟨a,lMg ha,by simp[hr]⟩
   rw[this]
  ·simp only[go_sem,zE,f1,f7,f8,f9,yQf hlt (show l.length<=281474976710656 by omega)];rw[yQ7 ha,List.all_append,hn];simp[hr]
 ·rintro fr st1 _ ⟨hn,f1,f7,f8,f9,rfl,rfl⟩;rw[lTl] at hn;simp only[go_sem,f8,f9,yQo (nLi _)];exact yQ0 ⟨by rw[show allF l m=true from hn],rfl⟩
def yGd (s:Sq):Prop:=fitL s.l/\fitL s.r
theorem xYy (G:Gl gl)(a b:Sq)(x y:IV)(hx:IsSq a x)(hy:IsSq b y)(ha:yGd a)(hb:yGd b)(st:ISt):ICall prog gl 34 [x,y] st (λr st'=>r=.raw (.bool (yXp a b))/\st'=st):=by
 obtain⟨t1,x1,t2,x2,rfl,e1,i1,e2,i2⟩:=hx;obtain⟨t3,x3,t4,x4,rfl,e3,i3,e4,i4⟩:=hy;refine iI func34 ?_;simp only[go_sem,zE,zA];refine (vYt gl G a.l b.l t1 t3 x1 x3 e1 e3 i1 i3 ha.1 hb.1 _).mono ?_;rintro _ _ ⟨rfl,rfl⟩;cases hr:allF a.l b.l
 ·simp only[go_sem,zE];exact yQ0 ⟨by simp[yXp,hr],rfl⟩
 ·simp only[go_sem,zE,zA];refine (vYt gl G a.r b.r t2 t4 x2 x4 e2 e4 i2 i4 ha.2 hb.2 _).mono ?_;rintro _ _ ⟨rfl,rfl⟩;simp only[go_sem,zE];exact yQ0 ⟨by simp[yXp,hr],rfl⟩
theorem yK1 (a b:Int)(v:IV):∀es:List (Value×IV),yZy (.int .u8 a) (updI (.int .u8 b) v es)=if a=b then some v else yZy (.int .u8 a) es
 | []=>by
  simp only[updI,yZy,yJv];by_cases h:a=b<;>simp[h]
 | (x,u)::es=>by
  simp only[updI];by_cases hk:yJv (.int .u8 b) x=true
  ·rw[if_pos hk];have hx:∀c,yJv (.int .u8 c) x=decide (c=b):=λc=>by
    cases x<;>simp[yJv] at hk ⊢;rw[hk]
   have e:yJv (.int .u8 a) (.int .u8 b)=decide (a=b):=rfl;simp only[yZy,e,hx];by_cases h:a=b<;>simp[h]
  ·rw[if_neg hk];simp only[yZy];rw[yK1 a b v es];by_cases h:a=b
   ·subst h;simp[hk]
   ·simp[h]
def zWc (ca rule:Nat):Nat :=
 if ca=2/\rule=18 then 167 else if ca=2/\rule=8 then 165
 else if rule=13\/rule=15 then 168 else if rule=14\/rule=16 then 170
 else if rule=1 then 190 else if rule=2 then 191 else if rule=3 then 192 else if rule=4 then 193
 else if rule=5 then 194 else if rule=6 then 195 else if rule=7 then 196 else if rule=8 then 197
 else if rule=9 then 198 else if rule=10 then 199 else if rule=11 then 201 else if rule=12 then 203
 else 204
def rwI (ca rule:Nat)(r:Rw):IV:=.agg [.raw (.bool r.left),.raw (.bool r.right),.raw (.int .u8 r.op),.raw (.int .u8 r.asks),.fn (.func (zWc ca rule)) [] []]
def rwL (a b:Bool)(op asks id:Nat):IV:=.agg [.raw (.bool a),.raw (.bool b),.raw (.int .u8 op),.raw (.int .u8 asks),.fn (.func id) [] []]
def zY0:List (Value×IV) :=
 updI (.int .u8 17) (rwL false false 0 0 204) <| updI (.int .u8 12) (rwL false true 7 0 203) <| updI (.int .u8 11) (rwL true false 7 0 201) <|
 updI (.int .u8 10) (rwL false true 6 0 199) <| updI (.int .u8 9) (rwL true false 6 0 198) <| updI (.int .u8 8) (rwL false true 5 0 197) <|
 updI (.int .u8 7) (rwL true false 5 0 196) <| updI (.int .u8 6) (rwL false true 4 0 195) <| updI (.int .u8 5) (rwL true false 4 0 194) <|
 updI (.int .u8 4) (rwL false true 3 0 193) <| updI (.int .u8 3) (rwL true false 3 0 192) <| updI (.int .u8 2) (rwL true false 2 0 191) <|
 updI (.int .u8 1) (rwL true true 0 0 190) []
def zQ8 (ca:Nat):List (Value×IV) :=
 if ca=2 then updI (.int .u8 18) (rwL false true 5 0 167) <| updI (.int .u8 8) (rwL false true 5 0 165) zY0
 else if ca=3 then updI (.int .u8 16) (rwL false true 9 1 170) <| updI (.int .u8 15) (rwL true false 9 2 168) <| updI (.int .u8 14) (rwL false true 8 2 170) <|
  updI (.int .u8 13) (rwL true false 8 1 168) zY0
 else zY0
theorem vQl (st:ISt):ICall prog gl 164 [] st (λr st'=>∃b,st b=none/\r=.raw (.map (some b))/\st'=st.put b (some (.map (.int .u8) zY0))):=by
 refine iI func164 ?_;simp only[go_sem,zE,zA,zL,fits];refine λb=>yQc λhb=>?_;simp only[go_sem,yQ8];exact yQ0 ⟨b,hb,rfl,rfl⟩
theorem wZp (ca:Nat)(st:ISt):ICall prog gl 128 [.raw (.int .u8 ca)] st (λr st'=>∃b,st b=none/\r=.raw (.map (some b))/\st'=st.put b (some (.map (.int .u8) (zQ8 ca)))):=by
 refine iI func128 ?_;simp only[go_sem,zA];refine (vQl gl _).mono ?_;rintro _ _ ⟨b,hb,rfl,rfl⟩;by_cases h2:ca=2
 ·have e2:decide ((ca:Int)=2)=true:=dEt (by omega);simp only[go_sem,zE,zA,zL,reduceCtorEq,e2,fits,ISt.put_same,yQ8];exact yQ0 ⟨b,hb,rfl,by rw[zQ8,if_pos h2];rfl⟩
 ·have e2:decide ((ca:Int)=2)=false:=dEf (by omega);by_cases h3:ca=3
  ·have e3:decide ((ca:Int)=3)=true:=dEt (by omega);simp only[go_sem,zE,zA,zL,reduceCtorEq,e2,e3,fits,ISt.put_same,yQ8];exact yQ0 ⟨b,hb,rfl,by rw[zQ8,if_neg h2,if_pos h3];rfl⟩
  ·have e3:decide ((ca:Int)=3)=false:=dEf (by omega);simp only[go_sem,zE,reduceCtorEq,e2,e3];exact yQ0 ⟨b,hb,rfl,by rw[zQ8,if_neg h2,if_neg h3]⟩
theorem xJk (rule:Nat):yZy (.int .u8 rule) zY0=(rowK rule).map λr=>.agg [.raw (.bool r.left),.raw (.bool r.right),.raw (.int .u8 r.op),.raw (.int .u8 r.asks),.fn (.func (zWc 1 rule)) [] []]:=by
 unfold zY0;simp only[yK1];by_cases h:rule<=18
 ·rcases (show rule=0\/rule=1\/rule=2\/rule=3\/rule=4\/rule=5\/rule=6\/rule=7\/rule=8\/rule=9\/rule=10\/rule=11\/rule=12\/rule=13\/rule=14\/rule=15\/rule=16\/rule=17\/rule=18 by omega) with
   rfl|rfl|rfl|rfl|rfl|rfl|rfl|rfl|rfl|rfl|rfl|rfl|rfl|rfl|rfl|rfl|rfl|rfl|rfl<;>rfl
 ·have hn:rowK rule=none:=by unfold rowK;repeat (rw[if_neg (by omega)])
  rw[hn]
  repeat (rw[if_neg (by omega)])
  rfl
theorem yY0 (ca rule:Nat):yZy (.int .u8 rule) (zQ8 ca)=(rowS ca rule).map (rwI ca rule):=by
 have hp:=xJk rule;by_cases h:rule<=18
 ·have hr:rule=0\/rule=1\/rule=2\/rule=3\/rule=4\/rule=5\/rule=6\/rule=7\/rule=8\/rule=9\/rule=10\/rule=11\/rule=12\/rule=13\/rule=14\/rule=15\/rule=16\/rule=17\/rule=18:=by omega
  by_cases h2:ca=2
  ·subst h2;simp only[zQ8,if_true,yK1,hp];rcases hr with rfl|rfl|rfl|rfl|rfl|rfl|rfl|rfl|rfl|rfl|rfl|rfl|rfl|rfl|rfl|rfl|rfl|rfl|rfl<;>rfl
  ·by_cases h3:ca=3
   ·subst h3;simp only[zQ8,if_true,if_neg h2,yK1,hp];rcases hr with rfl|rfl|rfl|rfl|rfl|rfl|rfl|rfl|rfl|rfl|rfl|rfl|rfl|rfl|rfl|rfl|rfl|rfl|rfl<;>rfl
   ·have hk:rowS ca rule=rowK rule:=by
     unfold rowS;rw[if_neg (by omega),if_neg (by omega),if_neg (by omega),if_neg (by omega),if_neg (by omega)]
    have hi:∀r,rowK rule=some r->zWc 1 rule=zWc ca rule:=λ_ _=>by
     unfold zWc;rw[if_neg (by omega),if_neg (by omega)]
     conv=>rhs;rw[if_neg (by omega),if_neg (by omega)]
    simp only[zQ8,if_neg h2,if_neg h3,hp,hk];cases hq:rowK rule with
    | none=>rfl
    | some r=>simp only[Option.map_some,rwI,hi r hq]
 ·have hn:rowS ca rule=none:=by
   unfold rowS;rw[if_neg (by omega),if_neg (by omega),if_neg (by omega),if_neg (by omega),if_neg (by omega)];unfold rowK;repeat (rw[if_neg (by omega)])
  have hk:rowK rule=none:=by unfold rowK;repeat (rw[if_neg (by omega)])
  rw[hk] at hp;rw[hn];unfold zQ8;split
  ·simp only[yK1,hp];repeat (rw[if_neg (by omega)])
   rfl
  ·split
   ·simp only[yK1,hp];repeat (rw[if_neg (by omega)])
    rfl
   ·rw[hp];rfl
theorem wYr {ca rule:Nat}{r:Rw}(h:rowS ca rule=some r):yYo gl (zWc ca rule) (addS ca rule)/\entI prog (zWc ca rule)=true:=by
 have hr:rule<=18:=by
  refine Classical.byContradiction λhc=>?_;have hn:rowS ca rule=none:=by
   unfold rowS;rw[if_neg (by omega),if_neg (by omega),if_neg (by omega),if_neg (by omega),if_neg (by omega)];unfold rowK;repeat (rw[if_neg (by omega)])
  rw[hn] at h;cases h
 have hcas:rule=0\/rule=1\/rule=2\/rule=3\/rule=4\/rule=5\/rule=6\/rule=7\/rule=8\/rule=9\/rule=10\/rule=11\/rule=12\/rule=13\/rule=14\/rule=15\/rule=16\/rule=17\/rule=18:=by omega
 by_cases h2:ca=2
 ·subst h2;rcases hcas with rfl|rfl|rfl|rfl|rfl|rfl|rfl|rfl|rfl|rfl|rfl|rfl|rfl|rfl|rfl|rfl|rfl|rfl|rfl
  all_goals first|(cases h;done)|exact⟨wV3 gl,by kernel_rfl⟩|exact⟨wV2 gl,by kernel_rfl⟩|exact⟨wV1 gl,by kernel_rfl⟩|exact⟨wV0 gl,by kernel_rfl⟩|exact⟨wKz gl,by kernel_rfl⟩|exact⟨wKy gl,by kernel_rfl⟩|exact⟨wKx gl,by kernel_rfl⟩|exact⟨wKw gl,by kernel_rfl⟩|exact⟨xKs gl,by kernel_rfl⟩|exact⟨wKv gl,by kernel_rfl⟩|exact⟨xKx gl,by kernel_rfl⟩|exact⟨xKw gl,by kernel_rfl⟩|exact⟨xKv gl,by kernel_rfl⟩|exact⟨xKu gl,by kernel_rfl⟩|exact⟨xKt gl,by kernel_rfl⟩|exact⟨wKu gl,by kernel_rfl⟩|exact⟨wKt gl,by kernel_rfl⟩
 ·by_cases h3:ca=3
  ·subst h3;rcases hcas with rfl|rfl|rfl|rfl|rfl|rfl|rfl|rfl|rfl|rfl|rfl|rfl|rfl|rfl|rfl|rfl|rfl|rfl|rfl
   all_goals first|(cases h;done)|exact⟨wV3 gl,by kernel_rfl⟩|exact⟨wV2 gl,by kernel_rfl⟩|exact⟨wV1 gl,by kernel_rfl⟩|exact⟨wV0 gl,by kernel_rfl⟩|exact⟨wKz gl,by kernel_rfl⟩|exact⟨wKy gl,by kernel_rfl⟩|exact⟨wKx gl,by kernel_rfl⟩|exact⟨wKw gl,by kernel_rfl⟩|exact⟨xKs gl,by kernel_rfl⟩|exact⟨wKv gl,by kernel_rfl⟩|exact⟨xKx gl,by kernel_rfl⟩|exact⟨xKw gl,by kernel_rfl⟩|exact⟨xKv gl,by kernel_rfl⟩|exact⟨xKu gl,by kernel_rfl⟩|exact⟨xKt gl,by kernel_rfl⟩|exact⟨wKu gl,by kernel_rfl⟩|exact⟨wKt gl,by kernel_rfl⟩
  ·have hk:rowS ca rule=rowS 1 rule:=by
    unfold rowS;rw[if_neg (by omega),if_neg (by omega),if_neg (by omega),if_neg (by omega),if_neg (by omega)]
    conv=>rhs;rw[if_neg (by omega),if_neg (by omega),if_neg (by omega),if_neg (by omega),if_neg (by omega)]
   have hi:zWc ca rule=zWc 1 rule:=by
    unfold zWc;rw[if_neg (by omega),if_neg (by omega)]
    conv=>rhs;rw[if_neg (by omega),if_neg (by omega)]
   have hs:addS ca rule=addS 1 rule:=by
    funext m a b;unfold addS;rw[if_neg h2,if_neg (show ¬ (1:Nat)=2 by decide)]
   rw[hk] at h;rw[hi,hs];rcases hcas with rfl|rfl|rfl|rfl|rfl|rfl|rfl|rfl|rfl|rfl|rfl|rfl|rfl|rfl|rfl|rfl|rfl|rfl|rfl
   all_goals first|(cases h;done)|exact⟨wV3 gl,by kernel_rfl⟩|exact⟨wV2 gl,by kernel_rfl⟩|exact⟨wV1 gl,by kernel_rfl⟩|exact⟨wV0 gl,by kernel_rfl⟩|exact⟨wKz gl,by kernel_rfl⟩|exact⟨wKy gl,by kernel_rfl⟩|exact⟨wKx gl,by kernel_rfl⟩|exact⟨wKw gl,by kernel_rfl⟩|exact⟨xKs gl,by kernel_rfl⟩|exact⟨wKv gl,by kernel_rfl⟩|exact⟨xKx gl,by kernel_rfl⟩|exact⟨xKw gl,by kernel_rfl⟩|exact⟨xKv gl,by kernel_rfl⟩|exact⟨xKu gl,by kernel_rfl⟩|exact⟨xKt gl,by kernel_rfl⟩|exact⟨wKu gl,by kernel_rfl⟩|exact⟨wKt gl,by kernel_rfl⟩
