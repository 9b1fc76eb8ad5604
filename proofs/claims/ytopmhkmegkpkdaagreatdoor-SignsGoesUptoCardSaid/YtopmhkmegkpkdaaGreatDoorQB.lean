/- Plain law: a tableau of mode K1 is a tre -/
import Derived.Test.YtopmhkmegkpkdaaGreatDoorQA
import Derived.Lib.Bytealg
import Derived.Test.YtopmhkmegkpkdaaGreatDoorLA
set_option linter.all false
open Nat renaming reduceEqDiff → zE,reduceBEq → zB,reduceAdd → zA,reduceMul → zM,reduceLeDiff → zL
namespace Go.Proofs.Tryz
open Go Go.Iv
theorem MN {a b:Mk}:mkB a b=true↔a=b:=by
 obtain⟨i,w,f⟩:=a;obtain⟨i',w',f'⟩:=b;simp only[mkB,bAt,beq_iff_eq,dTe,Dn,Mk.mk.injEq,and_assoc]
theorem zZj {l:List Mk}{m:Mk}:hasT l m=true↔m∈l:=by
 simp only[hasT,List.any_eq_true,MN];constructor
 ·rintro⟨x,h,rfl⟩;exact h
 ·exact λh=>⟨m,h,rfl⟩
theorem MO {l:List Mk}{m x:Mk}:x∈addT l m↔x∈l\/x=m:=by
 unfold addT;split
 ·rename_i h;rw[zZj] at h;constructor
  ·exact .inl
  ·rintro (h'|rfl)
   ·exact h'
   ·exact h
 ·simp
theorem yVv {x:Mk}:∀ {q l:List Mk},x∈d_ l q↔x∈l\/x∈q
 | [],l=>by simp[d_]
 | m::q,l=>by
  have:=yVv (x:=x) (q:=q) (l:=addT l m);unfold d_ at this ⊢;rw[List.foldl_cons,this,MO];simp[or_assoc]
theorem MP {l:List Mk}{m:Mk}:(addT l m).length<=l.length+1:=by
 unfold addT;split<;>simp
def eC (b:Bool)(l:List Mk):List Fm:=(l.filter λm=>m.is == b).map (·.f)
theorem yJ1 {b:Bool}{l:List Mk}{f:Fm}:f∈eC b l↔∃m∈l,m.is=b/\m.f=f:=by
 simp only[eC,List.mem_map,List.mem_filter,beq_iff_eq,and_assoc]
def sqT (l:List Mk):Sq:=⟨eC true l,eC false l⟩
def ga (b:Bool)(o:Nat):Nat:=if o=3 then (if b then 3 else 4) else if o=4 then (if b then 5 else 6) else if o=5 then (if b then 7 else 8) else if o=6 then (if b then 9 else 10) else if o=7 then (if b then 11 else 12) else 0
noncomputable def ji (l:List Mk)(m:Mk)(c:Bool):Nat:=if !c then ga m.is m.f.op else if hasT l ⟨!m.is,m.w,m.f⟩ then 1 else 2
def tm0:Tm:=.mk false bE []
mutual
noncomputable def gw (l:List Mk):Nd->Tr
 | .mk m c w sub=>.mk (ji l m c) (sqT l) m.f tm0 bE (if c then [] else gd l (dY m 0) sub)
noncomputable def gd (l:List Mk):List (List Mk)->List Nd->List Tr
 | q::qs,n::ns=>gw (d_ l q) n::gd l qs ns
 | _,_=>[]
end
mutual
noncomputable def bigT (l:List Mk):Nd->Bool
 | .mk m c w sub=>decide (64<(eC true l).length) || decide (64<(eC false l).length) || (!c&&jE l (dY m 0) sub)
noncomputable def jE (l:List Mk):List (List Mk)->List Nd->Bool
 | q::qs,n::ns=>bigT (d_ l q) n || jE l qs ns
 | _,_=>false
end
def GoodT (l:List Mk):Prop:=∀m∈l,fmB 1 m.f=true/\m.w=0
theorem GoodT.adds {l q:List Mk}(h:GoodT l)(h':GoodT q):GoodT (d_ l q):=λm hm=>(yVv.1 hm).elim (h m) (h' m)
theorem oZ {l:List Mk}{m:Mk}{c:Bool}{w:Int}{k:Nat}(h:j9 l m c w k=0) :
  m∈l/\(c=true->lr l m=true)/\(c=false->(eJ m).1≠0)/\w=0/\k=(if c then 0 else (dY m w).length):=by
 unfold j9 at h;rcases DQ h with⟨_,h⟩|⟨h1,h⟩
 ·cases h
 rcases DQ h with⟨_,h⟩|⟨h2,h⟩
 ·cases h
 have h3:k=(if c then 0 else (dY m w).length):=Decidable.byContradiction λhc=>by rw[if_pos hc] at h;cases h
 rw[<- zZj];simp only[Bool.or_eq_true,bAt,Bool.not_eq_true',dTe,not_or,not_and,Bool.not_eq_false,Decidable.not_not] at h1 h2;exact⟨h1.1.1,h1.1.2,λhc=>h1.2 hc,h2,h3⟩
theorem oe {m:Mk}(h:(eJ m).1≠0):∃r,rowT m.is m.f.op=some r/\m.f.subs.length=r.2/\eJ m=r:=by
 unfold eJ at h ⊢;cases hr:rowT m.is m.f.op with
 | none=>rw[hr] at h;exact absurd rfl h
 | some r =>
  rw[hr] at h;by_cases hl:m.f.subs.length=r.2
  ·exact⟨r,rfl,hl,by simp only[if_pos hl]⟩
  ·simp only[if_neg hl] at h;exact absurd rfl h
theorem DU {m:Mk}(hf:fmB 1 m.f=true)(h:(eJ m).1≠0):(∃n a,m.f=.mk 3 n [] [a]/\fmB 1 a=true)\/∃o n a b,(o=4\/o=5\/o=6\/o=7)/\m.f=.mk o n [] [a,b]/\fmB 1 a=true/\fmB 1 b=true:=by
 obtain⟨r,hr,hl,_⟩:=oe h;obtain⟨is,w,⟨o,n,us,sub⟩⟩:=m;simp only[Fm.op,Fm.subs] at hr hl hf;have hpart:∀g∈sub,fmB 1 g=true:=λg hg=>ML hf hg;have h4:=(yWf.1 hf).2.2.2;simp only[opsB,bAt,dTe] at h4;have hus:us=[]:=by simpa using h4.1.2
 have ho:o<=7:=by have:=h4.1.1.2;simpa using this
 subst hus;unfold rowT at hr;have h2:∀n,sub.length=2->∃o' n' a b,(o'=4\/o'=5\/o'=6\/o'=7)->Fm.mk o n [] sub=.mk o' n' [] [a,b]/\fmB 1 a=true/\fmB 1 b=true:=λn hs=>by
  match sub,hs,hpart with
  | [a,b],_,hp=>exact⟨o,n,a,b,λ_=>⟨rfl,hp a (by simp),hp b (by simp)⟩⟩
 have h2':sub.length=2->(o=4\/o=5\/o=6\/o=7)->∃o' n' a b,(o'=4\/o'=5\/o'=6\/o'=7)/\Fm.mk o n [] sub=.mk o' n' [] [a,b]/\fmB 1 a=true/\fmB 1 b=true:=λhs hq=>by
  match sub,hs,hpart with
  | [a,b],_,hp=>exact⟨o,n,a,b,hq,rfl,hp a (by simp),hp b (by simp)⟩
 rcases ka hr with⟨h3,rfl⟩|⟨_,hr⟩
 ·have:o=3:=by omega
  subst this
  match sub,hl,hpart with
  | [a],_,hp=>exact .inl ⟨n,a,rfl,hp a (by simp)⟩
 rcases ka hr with⟨h3,rfl⟩|⟨_,hr⟩
 ·exact .inr (h2' hl (by omega))
 rcases ka hr with⟨h3,rfl⟩|⟨_,hr⟩
 ·exact .inr (h2' hl (by omega))
 rcases ka hr with⟨h3,rfl⟩|⟨_,hr⟩
 ·exact .inr (h2' hl (by omega))
 rcases ka hr with⟨h3,rfl⟩|⟨_,hr⟩
 ·exact .inr (h2' hl (by omega))
 rcases ka hr with⟨h3,rfl⟩|⟨_,hr⟩
 ·omega
 rcases ka hr with⟨h3,rfl⟩|⟨_,hr⟩
 ·omega
 cases hr
theorem o_ {m:Mk}(hf:fmB 1 m.f=true)(h:(eJ m).1≠0)(w:Int) :
  (∃r,rowK (ga m.is m.f.op)=some r/\r.asks=0/\r.op=m.f.op/\r.left=m.is/\r.right=!m.is) /\
  addS 1 (ga m.is m.f.op) m.f ((m.f.subs[0]?).getD fm0) ((m.f.subs[1]?).getD fm0)=(dY m w).map sqT /\
  (∀q∈dY m w,∀x∈q,fmB 1 x.f=true/\x.w=m.w)/\3<=ga m.is m.f.op/\ga m.is m.f.op<=12/\0<(dY m w).length:=by
 have hm:=hf;rcases DU hf h with⟨n,a,he,ha⟩|⟨o,n,a,b,ho,he,ha,hb⟩
 ·obtain⟨is,w',f⟩:=m;simp only at he hm;subst he;cases is
  ·refine⟨⟨_,rfl,rfl,rfl,rfl,rfl⟩,rfl,?_,of_decide_eq_true rfl,of_decide_eq_true rfl,of_decide_eq_true rfl⟩;show ∀q∈[[(⟨true,w',a⟩:Mk)]],_;simp[ha]
  ·refine⟨⟨_,rfl,rfl,rfl,rfl,rfl⟩,rfl,?_,of_decide_eq_true rfl,of_decide_eq_true rfl,of_decide_eq_true rfl⟩;show ∀q∈[[(⟨false,w',a⟩:Mk)]],_;simp[ha]
 ·obtain⟨is,w',f⟩:=m;simp only at he hm;subst he;rcases ho with rfl|rfl|rfl|rfl
  ·cases is
   ·refine⟨⟨_,rfl,rfl,rfl,rfl,rfl⟩,rfl,?_,of_decide_eq_true rfl,of_decide_eq_true rfl,of_decide_eq_true rfl⟩;show ∀q∈[[(⟨false,w',a⟩:Mk)],[⟨false,w',b⟩]],_;simp[ha,hb]
   ·refine⟨⟨_,rfl,rfl,rfl,rfl,rfl⟩,rfl,?_,of_decide_eq_true rfl,of_decide_eq_true rfl,of_decide_eq_true rfl⟩;show ∀q∈[[(⟨true,w',a⟩:Mk),⟨true,w',b⟩]],_;simp[ha,hb]
  ·cases is
   ·refine⟨⟨_,rfl,rfl,rfl,rfl,rfl⟩,rfl,?_,of_decide_eq_true rfl,of_decide_eq_true rfl,of_decide_eq_true rfl⟩;show ∀q∈[[(⟨false,w',a⟩:Mk),⟨false,w',b⟩]],_;simp[ha,hb]
   ·refine⟨⟨_,rfl,rfl,rfl,rfl,rfl⟩,rfl,?_,of_decide_eq_true rfl,of_decide_eq_true rfl,of_decide_eq_true rfl⟩;show ∀q∈[[(⟨true,w',a⟩:Mk)],[⟨true,w',b⟩]],_;simp[ha,hb]
  ·cases is
   ·refine⟨⟨_,rfl,rfl,rfl,rfl,rfl⟩,rfl,?_,of_decide_eq_true rfl,of_decide_eq_true rfl,of_decide_eq_true rfl⟩;show ∀q∈[[(⟨true,w',a⟩:Mk),⟨false,w',b⟩]],_;simp[ha,hb]
   ·refine⟨⟨_,rfl,rfl,rfl,rfl,rfl⟩,rfl,?_,of_decide_eq_true rfl,of_decide_eq_true rfl,of_decide_eq_true rfl⟩;show ∀q∈[[(⟨false,w',a⟩:Mk)],[⟨true,w',b⟩]],_;simp[ha,hb]
  ·obtain⟨i1,i2⟩:=MM hm;cases is
   ·refine⟨⟨_,rfl,rfl,rfl,rfl,rfl⟩,rfl,?_,of_decide_eq_true rfl,of_decide_eq_true rfl,of_decide_eq_true rfl⟩;show ∀q∈[[(⟨true,w',a⟩:Mk),⟨false,w',b⟩],[⟨true,w',b⟩,⟨false,w',a⟩]],_;simp[ha,hb]
   ·refine⟨⟨_,rfl,rfl,rfl,rfl,rfl⟩,rfl,?_,of_decide_eq_true rfl,of_decide_eq_true rfl,of_decide_eq_true rfl⟩;show ∀q∈[[(⟨true,w',impF a b⟩:Mk),⟨true,w',impF b a⟩]],_;simp[i1,i2]
theorem row1 (rule:Nat):rowS 1 rule=rowK rule:=by
 unfold rowS;rw[if_neg (by omega),if_neg (by omega),if_neg (by omega),if_neg (by omega),if_neg (by omega)]
theorem DV {l:List Fm}{f:Fm}(hf:fmB 1 f=true)(h:f∈l):hasF l f=true:=zW7.2 ⟨f,h,x_ (DR hf)⟩
theorem yc {s:Sq}{rule:Nat}{r:Rw}{main:Fm}{u:Tm}{nm:ByteArray}(hv:j7 1 s=true)(hr:rowK rule=some r)(ha:r.asks=0)(hm:fmB 1 main=true)(hop:r.op=0\/r.op=main.op)(hl:r.left=true->main∈s.l)(hrr:r.right=true->main∈s.r) :
  ie 1 s rule main u nm=(addS 1 rule main ((main.subs[0]?).getD fm0) ((main.subs[1]?).getD fm0),0):=by
 have hadd:gW 1 rule r main u nm=(addS 1 rule main ((main.subs[0]?).getD fm0) ((main.subs[1]?).getD fm0),0):=by
  have e:(!fmB 1 main || (decide (r.op≠0)&&decide (main.op≠r.op)))=false:=by
   rw[hm];rcases hop with h|h<;>simp[h]
  simp only[gW,e,bFt,if_false,if_pos ha]
 unfold ie;rw[hv,row1,hr];simp only[hadd,ha];have h1:(r.left&&!hasF s.l main)=false:=by
  cases hq:r.left
  ·rfl
  ·rw[DV hm (hl hq)];rfl
 have h2:(r.right&&!hasF s.r main)=false:=by
  cases hq:r.right
  ·rfl
  ·rw[DV hm (hrr hq)];rfl
 rw[h1,h2];rfl
theorem qo {l:List Mk}(h:GoodT l)(b:Bool):(eC b l).all (fmB 1)=true:=List.all_eq_true.2 λf hf=>by
 obtain⟨m,hm,_,rfl⟩:=yJ1.1 hf;exact (h m hm).1
theorem MQ {l:List Mk}(h:GoodT l)(h1:(eC true l).length<=64)(h2:(eC false l).length<=64):j7 1 (sqT l)=true:=by
 unfold j7;rw[show (sqT l).l=eC true l from rfl,show (sqT l).r=eC false l from rfl,qo h,qo h,dEt h1,dEt h2];rfl
theorem yd {a b:Sq}(h1:a.l.all Fm.right=true)(h2:a.r.all Fm.right=true)(h3:∀f∈a.l,f∈b.l)(h4:∀f∈a.r,f∈b.r):kV a b=true:=by
 have key:∀l m:List Fm,l.all Fm.right=true->(∀f∈l,f∈m)->allF l m=true:=λl m h hm=>wWo.2 λf hf=>zW7.2 ⟨f,hm f hf,x_ (List.all_eq_true.1 h f hf)⟩;unfold kV;rw[key _ _ h1 h3,key _ _ h2 h4];rfl
theorem MR {l q:List Mk}(hl:GoodT (d_ l q)):kV (sqT (d_ l q)) ((sqT l).plus (sqT q))=true:=by
 have key:∀b,∀f∈eC b (d_ l q),f∈eC b l++eC b q:=λb f hf=>by
  obtain⟨m,hm,hb,he⟩:=yJ1.1 hf;rcases yVv.1 hm with h|h
  ·exact List.mem_append_left _ (yJ1.2 ⟨m,h,hb,he⟩)
  ·exact List.mem_append_right _ (yJ1.2 ⟨m,h,hb,he⟩)
 exact yd (qm (qo hl true)) (qm (qo hl false)) (key true) (key false)
theorem DW (l:List Mk):∀n:Nd,(gw l n).sq=sqT l
 | .mk ..=>rfl
theorem rQ (l:List Mk):∀(qs:List (List Mk)) (ns:List Nd),qs.length=ns.length->(gd l qs ns).length=qs.length
 | [],[],_=>rfl
 | q::qs,n::ns,h=>by simp only[gd,List.length_cons,rQ l qs ns (by simpa using h)]
 | [],_::_,h=>by simp at h
 | _::_,[],h=>by simp at h
theorem DX {l:List Mk}(hl:GoodT l):∀(qs:List (List Mk)) (ns:List Nd),(∀q∈qs,GoodT q)->jg (sqT l) (qs.map sqT) (gd l qs ns)=true
 | [],ns,_=>by simp[jg]
 | q::qs,[],_=>by simp[gd,jg]
 | q::qs,n::ns,h=>by
  simp only[List.map_cons,gd,jg,DW,bAt];exact⟨MR (hl.adds (h q (by simp))),DX hl qs ns λq' hq=>h q' (by simp[hq])⟩
mutual
theorem DY:∀(n:Nd)(l:List Mk)(p:List Nat),GoodT l->(fx l p n).2=0->bigT l n=false->oY 1 (gw l n)=true
 | .mk m c w sub,l,p,hl,h,hb=>by
  unfold fx at h;split at h
  ·rename_i h1;exact absurd h h1
  rename_i h1;obtain⟨hm,hcl,hfind,rfl,hk⟩:=oZ (Decidable.not_not.1 h1);unfold bigT at hb;simp only[Bool.or_eq_false_iff,decide_eq_false_iff_not,Nat.not_lt] at hb;obtain⟨⟨b1,b2⟩,b3⟩:=hb;have hv:=MQ hl b1 b2;have hf:=(hl m hm).1;have hml:m.is=true->m.f∈(sqT l).l:=λh=>yJ1.2 ⟨m,hm,h,rfl⟩;have hmr:m.is=false->m.f∈(sqT l).r:=λh=>yJ1.2 ⟨m,hm,h,rfl⟩;unfold gw;cases c
  ·simp only[bFt,if_false] at h hk;rw[Bool.not_false,Bool.true_and] at b3;have hft:=hfind rfl;obtain⟨⟨r,hr,ha,hop,hrl,hrr⟩,hadd,hgood,_⟩:=o_ hf hft 0;have hg:∀q∈dY m 0,GoodT q:=λq hq x hx=>⟨(hgood q hq x hx).1,((hgood q hq x hx).2).trans (hl m hm).2⟩
   have hrule:ji l m false=ga m.is m.f.op:=rfl;simp only[bFt,if_false,oY,hrule,bAt,dTe];have hst:=yc (u:=tm0) (nm:=bE) hv hr ha hf (.inr hop) (λh=>hml (hrl▸h)) (λh=>hmr (by rw[hrr] at h;simpa using h));rw[hadd] at hst;refine⟨?_,DZ sub (dY m 0) l p 0 hl hg h b3⟩;simp only[iP,hst,ne_eq,nTf,if_false,List.length_map,rQ l _ _ hk.symm,DX hl _ _ hg,if_true]
  ·have hc:=hcl rfl;simp only[if_true,oY,oa,Bool.and_true,dTe];by_cases ho:hasT l ⟨!m.is,m.w,m.f⟩=true
   ·have hrule:ji l m true=1:=by unfold ji;rw[ho];rfl
    have hop:=zZj.1 ho;have hst:=yc (u:=tm0) (nm:=bE) (rule:=1) (r:=⟨true,true,0,0⟩) hv rfl rfl hf (.inl rfl) (λ_=>by
     cases hi:m.is
     ·rw[hi] at hop;exact yJ1.2 ⟨_,hop,rfl,rfl⟩
     ·exact hml hi) (λ_=>by
     cases hi:m.is
     ·exact hmr hi
     ·rw[hi] at hop;exact yJ1.2 ⟨_,hop,rfl,rfl⟩)
    simp only[iP,hrule,hst];rfl
   ·have ho':hasT l ⟨!m.is,m.w,m.f⟩=false:=by simpa using ho
    have hrule:ji l m true=2:=by unfold ji;rw[ho'];rfl
    unfold lr at hc;rw[ho',Bool.or_false,bAt,dTe] at hc;have hst:=yc (u:=tm0) (nm:=bE) (rule:=2) (r:=⟨true,false,2,0⟩) hv rfl rfl hf (.inr hc.2.symm) (λ_=>hml hc.1) (λh=>by cases h);simp only[iP,hrule,hst];rfl
theorem DZ:∀(ns:List Nd)(qs:List (List Mk))(l:List Mk)(p:List Nat)(i:Nat),GoodT l->(∀q∈qs,GoodT q)->(gN l p i qs ns).2=0->jE l qs ns=false->oa 1 (gd l qs ns)=true
 | [],qs,l,p,i,_,_,_,_=>by cases qs<;>rfl
 | n::ns,[],l,p,i,_,_,_,_=>rfl
 | n::ns,q::qs,l,p,i,hl,hg,h,hb=>by
  unfold gN at h;unfold jE at hb;rw[Bool.or_eq_false_iff] at hb;split at h
  ·rename_i h1;exact absurd h h1
  rename_i h1;unfold gd;simp only[oa,bAt];exact⟨DY n _ _ (hl.adds (hg q (by simp))) (Decidable.not_not.1 h1) hb.1,DZ ns qs l p _ hl (λq' hq=>hg q' (by simp[hq])) h hb.2⟩
end
theorem ye (b:Bool)(o:Int)(x y:Fm):∀q∈askT b o x y,q.length<=2:=by
 unfold askT
 repeat' split
 all_goals simp
theorem yf (b:Bool)(o:Int)(x y:Fm):(askT b o x y).length<=2:=by
 unfold askT
 repeat' split
 all_goals simp
theorem nt (m:Mk)(w:Int):∀q∈dY m w,q.length<=2:=by
 unfold dY;split
 ·simp
 ·intro q hq;obtain⟨l,hl,rfl⟩:=List.mem_map.1 hq;rw[List.length_map];exact ye _ _ _ _ l hl
theorem og (m:Mk)(w:Int):(dY m w).length<=2:=by
 unfold dY;split
 ·exact Nat.zero_le _
 ·rw[List.length_map];exact yf ..
end Go.Proofs.Tryz
namespace Go.Proofs.Tryz
open Go Go.Iv
set_option maxRecDepth 4000
variable (gl:Nat->Option IV)
theorem IsMk.agg {m:Mk}{x:IV}(h:IsMk m x):∃(o:Int) (n:ByteArray) (t:Tag) (xs:List IV) (t':Tag) (ys:List IV),x=.agg [.raw (.bool m.is),.raw (.int .i64 m.w),.raw (.int .u8 o),.raw (.string n),.sl t xs,.sl t' ys]:=by
 obtain⟨o,n,t,xs,t',ys,h,_⟩:=h;exact⟨_,_,_,_,_,_,h⟩
def fnF (m:Mk):IV:=if (eJ m).1=0 then .raw .nilFunc else .fn (.func (mC m.is m.f.op)) [] []
def rowF (m:Mk):IV:=.agg [.raw (.int .u8 (eJ m).1),.raw (.int .i64 (eJ m).2),fnF m]
theorem MS {b:Bool}{o:Int}{r:Nat×Nat}(h:rowT b o=some r):r.1≠0/\r.1<=4/\r.2<=2:=by
 unfold rowT at h;rcases ka h with⟨_,rfl⟩|⟨_,h⟩
 ·decide
 rcases ka h with⟨_,rfl⟩|⟨_,h⟩
 ·cases b<;>decide
 rcases ka h with⟨_,rfl⟩|⟨_,h⟩
 ·cases b<;>decide
 rcases ka h with⟨_,rfl⟩|⟨_,h⟩
 ·cases b<;>decide
 rcases ka h with⟨_,rfl⟩|⟨_,h⟩
 ·cases b<;>decide
 rcases ka h with⟨_,rfl⟩|⟨_,h⟩
 ·cases b<;>decide
 rcases ka h with⟨_,rfl⟩|⟨_,h⟩
 ·cases b<;>decide
 cases h
theorem rR (m:Mk)(y:IV)(hy:IsMk m y)(st:ISt)(b:Nat)(es:List (Value×IV))(hb:st b=some (.map .sg es))(ht:lu es) :
  ICall prog gl 157 [.raw (.map (some b)),y] st (λr st'=>r=rowF m/\st'=st):=by
 obtain⟨is,w,f⟩:=m;obtain⟨o',n',t1,x1,t2,x2,rfl,hf⟩:=hy;obtain⟨o,n,us,sub⟩:=f;obtain⟨_,_,_,_,he,ho,e1,i1,e2,i2⟩:=hf.mk;simp only[IV.agg.injEq,List.cons.injEq,IV.raw.injEq,Value.int.injEq,Value.string.injEq,IV.sl.injEq,true_and,and_true] at he;obtain⟨rfl,rfl,⟨rfl,rfl⟩,rfl,rfl⟩:=he;have d1:decide ((0:Int)<=(o:Int))=true:=dEt (by omega);have d2:decide ((o:Int)<=255)=true:=dEt (by omega);have hfi:e8 (.agg #[.bool is,.int .u8 (o:Int)]) es=(rowT is o).map λr=>ql r (mC is o):=ht is o;refine iI func157 ?_;cases hr:rowT is o with
 | none =>
  have hT:eJ ⟨is,w,.mk o n' us sub⟩=(0,0):=by unfold eJ;simp only[Fm.op,hr]
  simp only[go_sem,zE,zA,zL,reduceCtorEq,d1,d2,hb,hfi,hr,Option.map_none,uV,rowZ,fits];exact cO ⟨by simp only[rowF,fnF,hT,if_true];rfl,rfl⟩
 | some r =>
  obtain⟨p1,p2,p3⟩:=MS hr;obtain⟨k,q⟩:=r;simp only at p1 p2 p3;by_cases hl:sub.length=q
  ·have hT:eJ ⟨is,w,.mk o n' us sub⟩=(k,q):=by unfold eJ;simp only[Fm.op,Fm.subs,hr,hl,if_true]
   have dl:decide ((sub.length:Int)=(q:Int))=true:=dEt (by omega);simp only[go_sem,zE,zA,zL,reduceCtorEq,d1,d2,hb,hfi,hr,Option.map_some,sA,ql,i2.len,dl,fits];intros;exact cO ⟨by simp only[rowF,fnF,hT,if_neg p1];rfl,rfl⟩
  ·have hT:eJ ⟨is,w,.mk o n' us sub⟩=(0,0):=by unfold eJ;simp only[Fm.op,Fm.subs,hr];exact if_neg hl
   have dl:decide ((sub.length:Int)=(q:Int))=false:=dEf (by omega);simp only[go_sem,zE,zA,zL,reduceCtorEq,d1,d2,hb,hfi,hr,Option.map_some,sA,ql,i2.len,dl,fits];intros;exact cO ⟨by simp only[rowF,fnF,hT,if_true];rfl,rfl⟩
theorem rS {b:Bool}{o:Nat}{r:Nat×Nat}(h:rowT b o=some r)(ho:o<=7):l7 gl (mC b o) (askT b o)/\entI prog (mC b o)=true/\(r.1=1\/r.1=2)/\(r.2=1\/r.2=2):=by
 have hc:o=3\/o=4\/o=5\/o=6\/o=7:=by
  refine Classical.byContradiction λhc=>?_;unfold rowT at h
  repeat (rw[if_neg (by omega)] at h)
  cases h
 rcases hc with rfl|rfl|rfl|rfl|rfl<;>cases b<;>obtain rfl:=Option.some.inj h
 ·exact⟨My gl,by kernel_rfl,by decide,by decide⟩
 ·exact⟨Mx gl,by kernel_rfl,by decide,by decide⟩
 ·exact⟨MA gl,by kernel_rfl,by decide,by decide⟩
 ·exact⟨Mz gl,by kernel_rfl,by decide,by decide⟩
 ·exact⟨MC gl,by kernel_rfl,by decide,by decide⟩
 ·exact⟨MB gl,by kernel_rfl,by decide,by decide⟩
 ·exact⟨ME gl,by kernel_rfl,by decide,by decide⟩
 ·exact⟨MD gl,by kernel_rfl,by decide,by decide⟩
 ·exact⟨MG gl,by kernel_rfl,by decide,by decide⟩
 ·exact⟨MF gl,by kernel_rfl,by decide,by decide⟩
def mkH (w:Int)(h:Bool×Fm):Mk:=⟨h.1,w,h.2⟩
theorem yg {m:Mk}{w:Int}{k:Nat}{q:Nat}(h:eJ m=(k,q))(hk:k=1\/k=2):dY m w=(askT m.is m.f.op ((m.f.subs[0]?).getD fm0) (if q=2 then (m.f.subs[1]?).getD fm0 else fm0)).map λl=>l.map (mkH m.w):=by
 unfold dY;rw[h,if_neg (by show ¬ k=0;omega)];simp only[if_pos hk];rfl
theorem MU {st st' S0:ISt}{tg:Tag}{n s:Nat}(h:own st tg n s S0)(hs:subSt st st'):own st' tg n s S0:=h.mono λg hg _=>hs g _ hg
theorem tO (m:Mk)(y:IV)(hy:IsMk m y)(hm:m.f.op<=7)(w:Int)(st:ISt)(b:Nat)(es:List (Value×IV))(hb:st b=some (.map .sg es))(ht:lu es) :
  ICall prog gl 113 [.raw (.map (some b)),y,.raw (.int .i64 w)] st (λr st'=>∃tg xs,r=.sl tg xs/\okEs tg 1/\IsMkss (dY m w) xs/\st'=st):=by
 have hfind:=λst hb=>rR gl m y hy st b es hb ht;obtain⟨is,mw,f⟩:=m;obtain⟨o',n',t1,x1,t2,x2,rfl,hf⟩:=hy;obtain⟨o,n,us,sub⟩:=f;obtain⟨_,_,_,_,he,ho,e1,i1,e2,i2⟩:=hf.mk;simp only[IV.agg.injEq,List.cons.injEq,IV.raw.injEq,Value.int.injEq,Value.string.injEq,IV.sl.injEq,true_and,and_true] at he;obtain⟨rfl,rfl,⟨rfl,rfl⟩,rfl,rfl⟩:=he;simp only[Fm.op] at hm;refine ICall.intro (c:=cf prog gl [] [(10,[0,1,2,3,4,5,6,7,10,8,9])]) func113 rfl (by show _<=75;simp) (by kernel_rfl) ?_;simp only[go_sem,zE,zA,zL,reduceCtorEq];refine (hfind _ hb).mono ?_;rintro _ st ⟨rfl,rfl⟩;by_cases hk:(eJ ⟨is,mw,.mk o n' us sub⟩).1=0
 ·have dk:decide (((eJ ⟨is,mw,.mk o n' us sub⟩).1:Int)=0)=true:=dEt (by omega);have hf0:fnF ⟨is,mw,.mk o n' us sub⟩=.raw .nilFunc:=by unfold fnF;rw[if_pos hk]
  simp only[go_sem,zE,zA,zL,rowF,hf0,dk];exact cO ⟨_,_,rfl,.inl rfl,by unfold dY;rw[if_pos hk];rfl,rfl⟩
 obtain⟨⟨k,q⟩,hr,hq,hT⟩:=oe hk;simp only[Fm.op,Fm.subs] at hr hq;obtain⟨hask,hent,hk12,hq12⟩:=rS gl hr hm;simp only at hk12 hq12;rw[yg hT hk12];simp only[Fm.op,Fm.subs];have hfn:fnF ⟨is,mw,.mk o n' us sub⟩=.fn (.func (mC is o)) [] []:=by unfold fnF;rw[if_neg hk];rfl
 have dk:decide ((k:Int)=0)=false:=dEf (by omega);obtain⟨a,ha⟩:=dd (show 0<sub.length by omega);obtain⟨ya,hka,hA⟩:=i2.get ha;have hA0:=hA;obtain⟨o5,n5,t5,x5,t6,x6,rfl⟩:=hA0.agg;rw[ha,Option.getD_some];rcases hq12 with rfl|rfl;rw[if_neg (by decide)];have hB:=tF ⟨true,.nil,0⟩ ⟨true,.nil,0⟩ (.inl rfl) (.inl rfl);generalize fm0=fB at hB ⊢;rcases hk12 with rfl|rfl;simp only[go_sem,zE,zB,zA,zL,rowF,hfn,hT,hent,fits,dc e2,Int.le_refl,Int.toNat_zero,hka,show decide (((1:Nat):Int)=0)=false from rfl,show decide (((1:Nat):Int)=2)=false from rfl,show decide (((1:Nat):Int)=1)=true from rfl]
 rotate_left
 simp only[go_sem,zE,zB,zA,zL,rowF,hfn,hT,hent,fits,dc e2,Int.le_refl,Int.toNat_zero,hka,show decide (((2:Nat):Int)=0)=false from rfl,show decide (((1:Nat):Int)=2)=false from rfl,show decide (((2:Nat):Int)=1)=false from rfl,show decide (((2:Nat):Int)=2)=true from rfl]
 rotate_left
 rw[if_pos rfl];obtain⟨fB,hb'⟩:=dd (show 1<sub.length by omega);obtain⟨yb,hkb,hB⟩:=i2.get hb';have hB0:=hB;obtain⟨o7,n7,t7,x7,t8,x8,rfl⟩:=hB0.agg;rw[hb',Option.getD_some];rcases hk12 with rfl|rfl;simp only[go_sem,zE,zB,zA,zL,rowF,hfn,hT,hent,fits,dc e2,Int.le_refl,Int.toNat_zero,hka,Int.toNat_one,hkb,show decide (((1:Nat):Int)=0)=false from rfl,show decide (((2:Nat):Int)=2)=true from rfl,show decide (((1:Nat):Int)=1)=true from rfl]
 rotate_left
 simp only[go_sem,zE,zB,zA,zL,rowF,hfn,hT,hent,fits,dc e2,Int.le_refl,Int.toNat_zero,hka,Int.toNat_one,hkb,show decide (((2:Nat):Int)=0)=false from rfl,show decide (((2:Nat):Int)=1)=false from rfl,show decide (((2:Nat):Int)=2)=true from rfl]
 rotate_left
 all_goals
  refine (hask _ _ _ _ hA hB _).mono ?_;rintro _ st1 ⟨tg,xs,rfl,htg,hxs,rfl⟩;generalize hL:askT is o a fB=L at hxs ⊢;have hL2:L.length<=2:=by rw[<- hL];exact yf ..
  have hL3:∀q∈L,q.length<=2:=by rw[<- hL];exact ye _ _ _ _
  simp only[go_sem,hxs.len];refine cV L.length (λk fr st' ds=>(∃tg' zs,fr 9=.iv (.sl tg' zs)/\IsMkss ((L.take k).map λl=>l.map (mkH mw)) zs/\own st' tg' k 1 st1/\subSt st1 st')/\fr 2=.iv (.raw (.int .i64 mw))/\fr 47=.iv (.sl tg xs)/\fr 48=.iv (.raw (.int .i64 L.length))/\fr 49=.iv (.raw (.int .i64 k))/\ds=[]) ?_ ?_ ?_
  ·simp only[go_sem,zE];exact⟨⟨_,_,rfl,rfl,.inl ⟨rfl,rfl⟩,subSt.refl _⟩,rfl⟩
  ·rintro k fr st2 _ hlt ⟨⟨tgo,zs,f9,hzs,hown,hsub⟩,f2,f47,f48,f49,rfl⟩;obtain⟨a,ha⟩:=dd hlt;obtain⟨ta,za,hka,hta,hza⟩:=hxs.get ha;have ha2:=hL3 a (lMg ha);simp only[go_sem,zE,f47,f48,f49,lt_i hlt,dc htg,iNn,hka,fits,hza.len];intro _;refine cV a.length (λj fr st' ds=>(∃tg' zs,fr 12=.iv (.sl tg' zs)/\IsMks ((a.take j).map (mkH mw)) zs/\own st' tg' j 6 st2/\subSt st2 st')/\fr 2=.iv (.raw (.int .i64 mw))/\fr 9=.iv (.sl tgo zs)/\fr 47=.iv (.sl tg xs)/\fr 48=.iv (.raw (.int .i64 L.length))/\fr 49=.iv (.raw (.int .i64 k))/\fr 53=.iv (.sl ta za)/\fr 54=.iv (.raw (.int .i64 a.length))/\fr 55=.iv (.raw (.int .i64 j))/\ds=[]) ?_ ?_ ?_
   ·simp only[go_sem,zE,f2,f9,f47,f48,f49];exact⟨⟨_,_,rfl,rfl,.inl ⟨rfl,rfl⟩,subSt.refl _⟩,rfl⟩
   ·rintro j fr st3 _ hjt ⟨⟨tgi,zi,f12,hzi,hoi,hsi⟩,f2,f9,f47,f48,f49,f53,f54,f55,rfl⟩;obtain⟨h,hh⟩:=dd hjt;obtain⟨y,hky,hy⟩:=hza.get hh;obtain⟨oh,nh,t5,x5,t6,x6,rfl,hfh⟩:=hy;simp only[go_sem,zE,zB,zA,zM,zL,f2,f12,f53,f54,f55,lt_i hjt,dc hta,iNn,hky,fits,dP];refine lq hoi (by rw[hzi.len,List.length_map,List.length_take];omega) hsi rfl (by simp[fits,IV.one]) (by simp only;omega) (by omega) λtg2 st4 hown2 hsub4 _=>?_;simp only[go_sem,zE,f2,f9,f47,f48,f49,f53,f54,f55,df hjt (show a.length<=281474976710656 by omega)];refine⟨tg2,_,rfl,?_,hown2,hsub4⟩;rw[dK hh,List.map_append];exact hzi.append (IsMks.one ⟨_,_,_,_,_,_,rfl,hfh⟩)
   ·rintro fr st3 _ ⟨⟨tgi,zi,f12,hzi,hoi,hsi⟩,f2,f9,f47,f48,f49,f53,f54,f55,rfl⟩;rw[lTl] at hzi;simp only[go_sem,zE,zA,zM,zL,f9,f12,f54,f55,dD (nLi _),fits,dP];refine lq (MU hown hsi) (by rw[hzs.len,List.length_map,List.length_take];omega) (hsub.trans hsi) rfl (by simp[fits,IV.one]) (by simp only;omega) (by omega) λtg2 st4 hown2 hsub4 _=>?_;simp only[go_sem,zE,f2,f47,f48,f49,df hlt (show L.length<=281474976710656 by omega)];refine⟨tg2,_,rfl,?_,hown2,hsub4⟩;rw[dK ha,List.map_append];exact hzs.append (IsMkss.one hoi.es hzi)
  ·rintro fr st2 _ ⟨⟨tgo,zs,f9,hzs,hown,hsub⟩,f2,f47,f48,f49,rfl⟩;rw[lTl] at hzs;simp only[go_sem,zE,f9,f48,f49,dD (nLi _)];exact dZ hsub ⟨_,_,rfl,hown.es,hzs,rfl⟩
theorem iM {is:Bool}{w:Int}{o:Nat}{n:ByteArray}{us:List Tm}{sub:List Fm}{r:Nat×Nat}(h:rowT is o=some r):eJ ⟨is,w,.mk o n us sub⟩=if sub.length=r.2 then r else (0,0):=by
 unfold eJ;simp only[Fm.op,Fm.subs,h];rfl
theorem yh (m:Mk)(y:IV)(hy:IsMk m y)(st:ISt):ICall prog gl 124 [y] st (λr st'=>r=.raw (.int .u8 (eJ m).1)/\st'=st):=by
 obtain⟨is,w,f⟩:=m;obtain⟨o',n',t1,x1,t2,x2,rfl,hf⟩:=hy;obtain⟨o,n,us,sub⟩:=f;obtain⟨_,_,_,_,he,ho,e1,i1,e2,i2⟩:=hf.mk;simp only[IV.agg.injEq,List.cons.injEq,IV.raw.injEq,Value.int.injEq,Value.string.injEq,IV.sl.injEq,true_and,and_true] at he;obtain⟨rfl,rfl,⟨rfl,rfl⟩,rfl,rfl⟩:=he;refine iI func124 ?_;by_cases h3:o=3
 ·have d3:decide ((o:Int)=3)=true:=dEt (by omega);by_cases hl:sub.length=1
  ·have dl:decide ((sub.length:Int)=1)=true:=dEt (by omega);cases is
   ·simp only[go_sem,zE,zA,i2.len,dl,d3];intros;exact cO ⟨by subst h3;rw[iM (r:=(1,1)) rfl,if_pos hl];rfl,rfl⟩
   ·simp only[go_sem,zE,zA,i2.len,dl,d3];intros;exact cO ⟨by subst h3;rw[iM (r:=(1,1)) rfl,if_pos hl];rfl,rfl⟩
  ·have dl:decide ((sub.length:Int)=1)=false:=dEf (by omega);simp only[go_sem,zE,zA,i2.len,dl,d3];intros;exact cO ⟨by subst h3;rw[iM (r:=(if is then 1 else 1,1)) (by cases is<;>rfl),if_neg hl];rfl,rfl⟩
 have d3:decide ((o:Int)=3)=false:=dEf (by omega);by_cases h4:o=4
 ·have d4:decide ((o:Int)=4)=true:=dEt (by omega);by_cases hl:sub.length=2
  ·have dl:decide ((sub.length:Int)=2)=true:=dEt (by omega);cases is
   ·simp only[go_sem,zE,zA,i2.len,dl,d3,d4,show (false == true)=false from rfl];intros;exact cO ⟨by subst h4;rw[iM (r:=(2,2)) rfl,if_pos hl];rfl,rfl⟩
   ·simp only[go_sem,zE,zA,i2.len,dl,d3,d4,show (true == true)=true from rfl];intros;exact cO ⟨by subst h4;rw[iM (r:=(1,2)) rfl,if_pos hl];rfl,rfl⟩
  ·have dl:decide ((sub.length:Int)=2)=false:=dEf (by omega);simp only[go_sem,zE,zA,i2.len,dl,d3,d4];intros;exact cO ⟨by subst h4;rw[iM (r:=(if is then 1 else 2,2)) (by cases is<;>rfl),if_neg hl];rfl,rfl⟩
 have d4:decide ((o:Int)=4)=false:=dEf (by omega);by_cases h6:o=6
 ·have d6:decide ((o:Int)=6)=true:=dEt (by omega);by_cases hl:sub.length=2
  ·have dl:decide ((sub.length:Int)=2)=true:=dEt (by omega);cases is
   ·simp only[go_sem,zE,zA,i2.len,dl,d3,d4,d6,show (false == false)=true from rfl];intros;exact cO ⟨by subst h6;rw[iM (r:=(1,2)) rfl,if_pos hl];rfl,rfl⟩
   ·simp only[go_sem,zE,zA,i2.len,dl,d3,d4,d6,show (true == false)=false from rfl];intros;exact cO ⟨by subst h6;rw[iM (r:=(2,2)) rfl,if_pos hl];rfl,rfl⟩
  ·have dl:decide ((sub.length:Int)=2)=false:=dEf (by omega);simp only[go_sem,zE,zA,i2.len,dl,d3,d4,d6];intros;exact cO ⟨by subst h6;rw[iM (r:=(if is then 2 else 1,2)) (by cases is<;>rfl),if_neg hl];rfl,rfl⟩
 have d6:decide ((o:Int)=6)=false:=dEf (by omega);by_cases h5:o=5
 ·have d5:decide ((o:Int)=5)=true:=dEt (by omega);by_cases hl:sub.length=2
  ·have dl:decide ((sub.length:Int)=2)=true:=dEt (by omega);cases is
   ·simp only[go_sem,zE,zA,i2.len,dl,d3,d4,d6,d5];intros;exact cO ⟨by subst h5;rw[iM (r:=(1,2)) rfl,if_pos hl];rfl,rfl⟩
   ·simp only[go_sem,zE,zA,i2.len,dl,d3,d4,d6,d5];intros;exact cO ⟨by subst h5;rw[iM (r:=(2,2)) rfl,if_pos hl];rfl,rfl⟩
  ·have dl:decide ((sub.length:Int)=2)=false:=dEf (by omega);simp only[go_sem,zE,zA,i2.len,dl,d3,d4,d6,d5];intros;exact cO ⟨by subst h5;rw[iM (r:=(if is then 2 else 1,2)) (by cases is<;>rfl),if_neg hl];rfl,rfl⟩
 have d5:decide ((o:Int)=5)=false:=dEf (by omega);by_cases h7:o=7
 ·have d7:decide ((o:Int)=7)=true:=dEt (by omega);by_cases hl:sub.length=2
  ·have dl:decide ((sub.length:Int)=2)=true:=dEt (by omega);cases is
   ·simp only[go_sem,zE,zA,i2.len,dl,d3,d4,d5,d6,d7];intros;exact cO ⟨by subst h7;rw[iM (r:=(2,2)) rfl,if_pos hl];rfl,rfl⟩
   ·simp only[go_sem,zE,zA,i2.len,dl,d3,d4,d5,d6,d7];intros;exact cO ⟨by subst h7;rw[iM (r:=(1,2)) rfl,if_pos hl];rfl,rfl⟩
  ·have dl:decide ((sub.length:Int)=2)=false:=dEf (by omega);simp only[go_sem,zE,zA,i2.len,dl,d3,d4,d5,d6,d7];intros;exact cO ⟨by subst h7;rw[iM (r:=(if is then 1 else 2,2)) (by cases is<;>rfl),if_neg hl];rfl,rfl⟩
 have d7:decide ((o:Int)=7)=false:=dEf (by omega);by_cases h10:o=10
 ·have d10:decide ((o:Int)=10)=true:=dEt (by omega);by_cases hl:sub.length=1
  ·have dl:decide ((sub.length:Int)=1)=true:=dEt (by omega);cases is
   ·simp only[go_sem,zE,zA,i2.len,dl,d3,d4,d5,d6,d7,d10];intros;exact cO ⟨by subst h10;rw[iM (r:=(4,1)) rfl,if_pos hl];rfl,rfl⟩
   ·simp only[go_sem,zE,zA,i2.len,dl,d3,d4,d5,d6,d7,d10];intros;exact cO ⟨by subst h10;rw[iM (r:=(3,1)) rfl,if_pos hl];rfl,rfl⟩
  ·have dl:decide ((sub.length:Int)=1)=false:=dEf (by omega);simp only[go_sem,zE,zA,i2.len,dl,d3,d4,d5,d6,d7,d10];intros;exact cO ⟨by subst h10;rw[iM (r:=(if is then 3 else 4,1)) (by cases is<;>rfl),if_neg hl];rfl,rfl⟩
 have d10:decide ((o:Int)=10)=false:=dEf (by omega);by_cases h11:o=11
 ·have d11:decide ((o:Int)=11)=true:=dEt (by omega);by_cases hl:sub.length=1
  ·have dl:decide ((sub.length:Int)=1)=true:=dEt (by omega);cases is
   ·simp only[go_sem,zE,zA,i2.len,dl,d3,d4,d5,d6,d7,d10,d11];intros;exact cO ⟨by subst h11;rw[iM (r:=(3,1)) rfl,if_pos hl];rfl,rfl⟩
   ·simp only[go_sem,zE,zA,i2.len,dl,d3,d4,d5,d6,d7,d10,d11];intros;exact cO ⟨by subst h11;rw[iM (r:=(4,1)) rfl,if_pos hl];rfl,rfl⟩
  ·have dl:decide ((sub.length:Int)=1)=false:=dEf (by omega);simp only[go_sem,zE,zA,i2.len,dl,d3,d4,d5,d6,d7,d10,d11];intros;exact cO ⟨by subst h11;rw[iM (r:=(if is then 4 else 3,1)) (by cases is<;>rfl),if_neg hl];rfl,rfl⟩
 have d11:decide ((o:Int)=11)=false:=dEf (by omega);simp only[go_sem,zE,zA,i2.len,d3,d4,d5,d6,d7,d10,d11];intros;refine cO ⟨?_,rfl⟩;have hr:rowT is (o:Int)=none:=by
  unfold rowT
  repeat (rw[if_neg (by omega)])
 unfold eJ;simp only[Fm.op,hr];rfl
theorem pc {a:List Mk}{t:Tag}{zs:List IV}(ht:okEs t 6)(h:IsMks a zs):IsMkss [a] [.sl t zs]:=⟨_,_,_,rfl,ht,h,rfl⟩
theorem tP {a a':List Mk}{t t':Tag}{zs zs':List IV}(ht:okEs t 6)(h:IsMks a zs)(ht':okEs t' 6)(h':IsMks a' zs'):IsMkss [a,a'] [.sl t zs,.sl t' zs']:=⟨_,_,_,rfl,ht,h,pc ht' h'⟩
theorem mks1 {m:Mk}{x:IV}(h:IsMk m x):IsMks [m] [x]:=⟨_,_,rfl,h,rfl⟩
theorem mks2 {m m':Mk}{x x':IV}(h:IsMk m x)(h':IsMk m' x'):IsMks [m,m'] [x,x']:=⟨_,_,rfl,h,mks1 h'⟩
theorem mkOf {b:Bool}{w:Int}{f:Fm}{o:Int}{n:ByteArray}{t t':Tag}{xs ys:List IV}(h:IsFm f (.agg [.raw (.int .u8 o),.raw (.string n),.sl t xs,.sl t' ys])):IsMk ⟨b,w,f⟩ (.agg [.raw (.bool b),.raw (.int .i64 w),.raw (.int .u8 o),.raw (.string n),.sl t xs,.sl t' ys]):=⟨_,_,_,_,_,_,rfl,h⟩
theorem le01:((0:Int)<=1)=True:=eq_true (by omega)
set_option maxHeartbeats 1000000 in
theorem D1 (m:Mk)(y:IV)(hy:IsMk m y)(hm:m.f.op<=7)(w:Int)(st:ISt) :
  ICall prog gl 83 [y,.raw (.int .i64 w)] st (λr st'=>∃tg xs,r=.sl tg xs/\okEs tg 1/\IsMkss (dY m w) xs/\st'=st):=by
 have hK:=λst=>yh gl m y hy st;obtain⟨is,mw,f⟩:=m;obtain⟨o',n',t1,x1,t2,x2,rfl,hf⟩:=hy;obtain⟨o,n,us,sub⟩:=f;obtain⟨_,_,_,_,he,ho,e1,i1,e2,i2⟩:=hf.mk;simp only[IV.agg.injEq,List.cons.injEq,IV.raw.injEq,Value.int.injEq,Value.string.injEq,IV.sl.injEq,true_and,and_true] at he;obtain⟨rfl,rfl,⟨rfl,rfl⟩,rfl,rfl⟩:=he;simp only[Fm.op] at hm;refine iI func83 ?_;simp only[go_sem,zE,zA,zL];refine (hK _).mono ?_;rintro _ st ⟨rfl,rfl⟩;by_cases hk:(eJ ⟨is,mw,.mk o n' us sub⟩).1=0
 ·have dk:decide (((eJ ⟨is,mw,.mk o n' us sub⟩).1:Int)=0)=true:=dEt (by omega);simp only[go_sem,dk];exact cO ⟨_,_,rfl,.inl rfl,by unfold dY;rw[if_pos hk];rfl,rfl⟩
 obtain⟨⟨k,q⟩,hr,hq,hT⟩:=oe hk;simp only[Fm.op,Fm.subs] at hr hq;obtain⟨_,_,hk12,hq12⟩:=rS gl hr hm;simp only at hk12 hq12;rw[yg hT hk12,hT];simp only[Fm.op,Fm.subs];have dk:decide ((k:Int)=0)=false:=dEf (by omega);have dk3:decide ((3:Int)<=(k:Int))=false:=dEf (by omega);obtain⟨a,ha⟩:=dd (show 0<sub.length by omega);obtain⟨ya,hka,hA⟩:=i2.get ha;have hA0:=hA;obtain⟨o5,n5,t5,x5,t6,x6,rfl⟩:=hA0.agg;rw[ha,Option.getD_some];have hc:o=3/\q=1\/(o=4\/o=5\/o=6\/o=7)/\q=2:=by
  unfold rowT at hr
  repeat (first|(rcases ka hr with⟨_,h⟩|⟨_,hr⟩;(obtain⟨_,rfl⟩:=Prod.mk.inj h;omega))|cases hr)
 simp only[go_sem,zE,zB,zA,zL,dk,dk3,fits,i2.len,dc e2,Int.le_refl,Int.toNat_zero,hka];intros;rcases hc with⟨h3,rfl⟩|⟨hc,rfl⟩
 ·have d3:decide ((o:Int)=3)=true:=dEt (by omega);have dl:decide ((sub.length:Int)=1)=true:=dEt (by omega);cases is
  ·simp only[go_sem,zE,zA,zM,zL,d3,dl,fits,i2.len,dP,show (false == true)=false from rfl];intros;exact cO ⟨_,_,rfl,.inr rfl,by subst h3;exact pc (.inr rfl) (mks1 (mkOf hA)),rfl⟩
  ·simp only[go_sem,zE,zA,zM,zL,d3,dl,fits,i2.len,dP,show (true == true)=true from rfl];intros;exact cO ⟨_,_,rfl,.inr rfl,by subst h3;exact pc (.inr rfl) (mks1 (mkOf hA)),rfl⟩
 obtain⟨b,hb⟩:=dd (show 1<sub.length by omega);obtain⟨yb,hkb,hB⟩:=i2.get hb;have hB0:=hB;obtain⟨o7,n7,t7,x7,t8,x8,rfl⟩:=hB0.agg;rw[if_pos rfl,hb,Option.getD_some];have dl:decide ((sub.length:Int)=1)=false:=dEf (by omega);simp only[go_sem,zE,zB,zA,zL,dl,fits,i2.len,dc e2,le01,Int.toNat_one,hkb];intros;by_cases h4:o=4
 ·have d4:decide ((o:Int)=4)=true:=dEt (by omega);cases is
  ·simp only[go_sem,zE,zA,zM,zL,d4,fits,dP,fF];intros;exact cO ⟨_,_,rfl,.inr rfl,by subst h4;exact tP (.inr rfl) (mks1 (mkOf hA)) (.inr rfl) (mks1 (mkOf hB)),rfl⟩
  ·simp only[go_sem,zE,zA,zM,zL,d4,fits,dP,fF];intros;exact cO ⟨_,_,rfl,.inr rfl,by subst h4;exact pc (.inr rfl) (mks2 (mkOf hA) (mkOf hB)),rfl⟩
 have d4:decide ((o:Int)=4)=false:=dEf (by omega);by_cases h5:o=5
 ·have d5:decide ((o:Int)=5)=true:=dEt (by omega);cases is
  ·simp only[go_sem,zE,zA,zM,zL,d4,d5,fits,dP,fF];intros;exact cO ⟨_,_,rfl,.inr rfl,by subst h5;exact pc (.inr rfl) (mks2 (mkOf hA) (mkOf hB)),rfl⟩
  ·simp only[go_sem,zE,zA,zM,zL,d4,d5,fits,dP,fF];intros;exact cO ⟨_,_,rfl,.inr rfl,by subst h5;exact tP (.inr rfl) (mks1 (mkOf hA)) (.inr rfl) (mks1 (mkOf hB)),rfl⟩
 have d5:decide ((o:Int)=5)=false:=dEf (by omega);by_cases h6:o=6
 ·have d6:decide ((o:Int)=6)=true:=dEt (by omega);cases is
  ·simp only[go_sem,zE,zA,zM,zL,d4,d5,d6,fits,dP,fF];intros;exact cO ⟨_,_,rfl,.inr rfl,by subst h6;exact pc (.inr rfl) (mks2 (mkOf hA) (mkOf hB)),rfl⟩
  ·simp only[go_sem,zE,zA,zM,zL,d4,d5,d6,fits,dP,fF];intros;exact cO ⟨_,_,rfl,.inr rfl,by subst h6;exact tP (.inr rfl) (mks1 (mkOf hA)) (.inr rfl) (mks1 (mkOf hB)),rfl⟩
 have d6:decide ((o:Int)=6)=false:=dEf (by omega);obtain rfl:o=7:=by omega
 cases is
 ·simp only[go_sem,zE,zA,zM,zL,d4,d5,d6,fits,fF];intros;exact cO ⟨_,_,rfl,.inr rfl,tP (.inr rfl) (mks2 (mkOf hA) (mkOf hB)) (.inr rfl) (mks2 (mkOf hB) (mkOf hA)),rfl⟩
 ·have h1:IsFm (impF a b) (.agg [.raw (.int .u8 6),.raw (.string ⟨#[]⟩),.sl ⟨true,.nil,0⟩ [],.sl ⟨true,.full,4⟩ [.agg [.raw (.int .u8 o5),.raw (.string n5),.sl t5 x5,.sl t6 x6],.agg [.raw (.int .u8 o7),.raw (.string n7),.sl t7 x7,.sl t8 x8]]]):=⟨_,_,_,_,rfl,by decide,.inl rfl,rfl,.inr rfl,_,_,rfl,hA,_,_,rfl,hB,rfl⟩
  have h2:IsFm (impF b a) (.agg [.raw (.int .u8 6),.raw (.string ⟨#[]⟩),.sl ⟨true,.nil,0⟩ [],.sl ⟨true,.full,4⟩ [.agg [.raw (.int .u8 o7),.raw (.string n7),.sl t7 x7,.sl t8 x8],.agg [.raw (.int .u8 o5),.raw (.string n5),.sl t5 x5,.sl t6 x6]]]):=⟨_,_,_,_,rfl,by decide,.inl rfl,rfl,.inr rfl,_,_,rfl,hB,_,_,rfl,hA,rfl⟩
  simp only[go_sem,zE,zB,zA,zM,zL,d4,d5,d6,fits,dc e2,Int.le_refl,le01,Int.toNat_zero,Int.toNat_one,hka,hkb,dP,fF];intros;exact cO ⟨_,_,rfl,.inr rfl,pc (.inr rfl) (mks2 (mkOf h1) (mkOf h2)),rfl⟩
end Go.Proofs.Tryz
namespace Go.Proofs.Tryz
open Go Go.Iv Go.Shelf Go.RowKit
set_option maxRecDepth 4000
variable (gl:Nat->Option IV)
theorem MV (a b:ByteArray)(w:World):Calls prog 255 #[.string a,.string b] w λe w'=>e=.returned (.int .i64 (Lib.compareBytes a.data.toList b.data.toList))/\w'=w:=by
 have t9:prog.underlying 9=some .string:=by kernel_rfl
 have a9:∀w,(isAgg 9).run prog w=.ok false w:=run_isAgg_plain t9 rfl;have t3:prog.underlying 3=some (.int .i64):=by kernel_rfl
 have a3:∀w,(isAgg 3).run prog w=.ok false w:=run_isAgg_plain t3 rfl
 go_enter func255,(show _=_ from rfl)
 go_wp2
 rw[run_callFunc_extern func277 (by kernel_rfl) (by kernel_rfl) (by kernel_rfl) (e:=Extern.BytealgCompare.compare) (by kernel_rfl),Lib.run_compareString];simp only[Result.andThen];rw[Oper.upon_value]
 go_wp2
 go_ret
 exact⟨rfl,rfl⟩
theorem D2:∀x y:List UInt8,Lib.compareBytes x y=if Op.bytesLess x y=true then -1 else if Op.bytesLess y x=true then 1 else 0
 | [],[]=>by simp[Lib.compareBytes,Op.bytesLess]
 | [],_::_=>by simp[Lib.compareBytes,Op.bytesLess]
 | _::_,[]=>by simp[Lib.compareBytes,Op.bytesLess]
 | a::x,b::y=>by
  have ih:=D2 x y;unfold Lib.compareBytes Op.bytesLess;by_cases h1:a<b
  ·have h2:¬ b<a:=λh=>UInt8.lt_irrefl _ (UInt8.lt_trans h1 h);simp[h1]
  ·by_cases h2:b<a
   ·have h3:a≠b:=by rintro rfl;exact UInt8.lt_irrefl _ h2
    simp[h1,h2,h3]
   ·have:a=b:=UInt8.le_antisymm (UInt8.not_lt.1 h2) (UInt8.not_lt.1 h1);subst this;simp[h1,ih]
theorem MW (a b:ByteArray)(st:ISt):ICall prog gl 255 [.raw (.string a),.raw (.string b)] st (λr st'=>r=.raw (.int .i64 (cmpB a b))/\st'=st):=by
 intro B X rs hg hst hv;have hr:rs=[.string a,.string b]:=by
  match rs,hv with
  | [r,r'],hv=>rw[dQ (hv.2 0 r _ rfl rfl),dQ (hv.2 1 r' _ rfl rfl)]
  | [],hv=>cases hv.1
  | [_],hv=>cases hv.1
  | _::_::_::_,hv=>cases hv.1
 subst hr;refine Calls.mono (MV a b X.w) ?_;rintro e w' ⟨rfl,rfl⟩;refine⟨_,rfl,X,.raw (.int .i64 (cmpB a b)),rfl,hg,Ext.refl X,?_,rfl,hst⟩;rw[D2];exact .raw _ trivial
theorem D3 (a b:ByteArray)(st:ISt):ICall prog gl 212 [.raw (.string a),.raw (.string b)] st (λr st'=>r=.raw (.int .i64 (cmpB a b))/\st'=st):=by
 refine iI func212 ?_;simp only[go_sem,zE,zA,reduceCtorEq];refine (MW gl a b _).mono ?_;rintro _ _ ⟨rfl,rfl⟩;simp only[go_sem];exact cO ⟨rfl,rfl⟩
theorem D4 (a:Nat)(st:ISt):ICall prog gl 254 [.raw (.int .u8 a)] st (λr st'=>r=.raw (.bool false)/\st'=st):=by
 refine iI func254 ?_;simp only[go_sem,zE,reduceCtorEq];exact cO ⟨rfl,rfl⟩
theorem MX (a b:Nat)(st:ISt):ICall prog gl 211 [.raw (.int .u8 a),.raw (.int .u8 b)] st (λr st'=>r=.raw (.int .i64 (cmpN a b))/\st'=st):=by
 refine iI func211 ?_;simp only[go_sem,zA,reduceCtorEq];refine (D4 gl a _).mono ?_;rintro _ _ ⟨rfl,rfl⟩;simp only[go_sem,zE,zA];refine (D4 gl b _).mono ?_;rintro _ _ ⟨rfl,rfl⟩;unfold cmpN;by_cases h1:a<b
 ·simp only[go_sem,zE,reduceCtorEq,lt_i h1];exact cO ⟨by rw[if_pos h1],rfl⟩
 ·by_cases h2:b<a
  ·simp only[go_sem,zE,reduceCtorEq,dD h1,lt_i h2];exact cO ⟨by rw[if_neg h1,if_pos h2],rfl⟩
  ·simp only[go_sem,zE,reduceCtorEq,dD h1,dD h2];exact cO ⟨by rw[if_neg h1,if_neg h2],rfl⟩
theorem D5 (a:Nat)(st:ISt):ICall prog gl 278 [.raw (.int .i64 a)] st (λr st'=>r=.raw (.bool false)/\st'=st):=by
 refine iI func278 ?_;simp only[go_sem,zE,reduceCtorEq];exact cO ⟨rfl,rfl⟩
theorem D6 (a b:Nat)(st:ISt):ICall prog gl 256 [.raw (.int .i64 a),.raw (.int .i64 b)] st (λr st'=>r=.raw (.int .i64 (cmpN a b))/\st'=st):=by
 refine iI func256 ?_;simp only[go_sem,zA,reduceCtorEq];refine (D5 gl a _).mono ?_;rintro _ _ ⟨rfl,rfl⟩;simp only[go_sem,zE,zA];refine (D5 gl b _).mono ?_;rintro _ _ ⟨rfl,rfl⟩;unfold cmpN;by_cases h1:a<b
 ·simp only[go_sem,zE,reduceCtorEq,lt_i h1];exact cO ⟨by rw[if_pos h1],rfl⟩
 ·by_cases h2:b<a
  ·simp only[go_sem,zE,reduceCtorEq,dD h1,lt_i h2];exact cO ⟨by rw[if_neg h1,if_pos h2],rfl⟩
  ·simp only[go_sem,zE,reduceCtorEq,dD h1,dD h2];exact cO ⟨by rw[if_neg h1,if_neg h2],rfl⟩
theorem rT {t:Tm}{x:IV}(h:IsTm t x):∃v n tg xs,x=.agg [.raw (.bool v),.raw (.string n),.sl tg xs]:=by
 obtain⟨v,n,us⟩:=t;obtain⟨tg,xs,rfl,_⟩:=h.mk;exact⟨_,_,_,_,rfl⟩
theorem nu {α:Type}{f:α->α->Int}{g:List α->List α->Int}(g0:g [] []=0)(g1:∀a b l m,g (a::l) (b::m)=lexI (f a b) (g l m)):∀(l m l' m':List α),l.length=m.length->g (l++l') (m++m')=lexI (g l m) (g l' m')
 | [],[],l',m',_=>by rw[g0];simp[lexI]
 | a::l,b::m,l',m',h=>by
  rw[List.cons_append,List.cons_append,g1,g1,nu g0 g1 l m l' m' (by simpa using h)];unfold lexI;by_cases h1:f a b=0
  ·simp[h1]
  ·simp[h1]
 | [],_::_,_,_,h=>by simp at h
 | _::_,[],_,_,h=>by simp at h
theorem i0 (x:Int)(h:x=0):decide (x=0)=true:=dEt h
theorem i1 (x:Int)(h:¬ x=0):decide (x=0)=false:=dEf h
def CmpT (a:Tm):Prop:=∀(b:Tm) (x y:IV) (_:IsTm a x) (_:IsTm b y) (st:ISt),ICall prog gl 214 [x,y] st (λr st'=>r=.raw (.int .i64 (j8 a b))/\st'=st)
def CmpF (a:Fm):Prop:=∀(b:Fm) (x y:IV) (_:IsFm a x) (_:IsFm b y) (st:ISt),ICall prog gl 179 [x,y] st (λr st'=>r=.raw (.int .i64 (gX a b))/\st'=st)
theorem D7 (us:List Tm)(IH:∀a∈us,CmpT gl a)(ws:List Tm)(t t':Tag)(xs ys:List IV)(ht:okEs t 3)(ht':okEs t' 3)(ha:IsTms us xs)(hb:IsTms ws ys)(st:ISt) :
  ICall prog gl 213 [.sl t xs,.sl t' ys,.fn (.func 214) [] []] st (λr st'=>r=.raw (.int .i64 (lenL ig us ws))/\st'=st):=by
 refine iI func213 ?_;simp only[go_sem,zE,zA,reduceCtorEq,ha.len,hb.len];intro hla hlb;refine (D6 gl us.length ws.length _).mono ?_;rintro _ st ⟨rfl,rfl⟩;unfold lenL;by_cases h0:cmpN us.length ws.length=0
 ·have hlen:=zZr.1 h0;simp only[go_sem,reduceCtorEq,i0 _ h0,ha.len];intro _;refine cV us.length (λk fr st' ds=>ig (us.take k) (ws.take k)=0/\fr 0=.iv (.sl t xs)/\fr 1=.iv (.sl t' ys)/\fr 2=.iv (.fn (.func 214) [] [])/\fr 19=.iv (.raw (.int .i64 us.length))/\fr 20=.iv (.raw (.int .i64 k))/\st'=st/\ds=[]) ?_ ?_ ?_
  ·simp only[go_sem,zE,reduceCtorEq];exact⟨mA,rfl⟩
  ·rintro k fr st1 _ hlt ⟨hn,f0,f1,f2,f19,f20,rfl,rfl⟩;obtain⟨a,hka⟩:=dd hlt;obtain⟨b,hkb⟩:=dd (l:=ws) (k:=k) (by omega);obtain⟨x,hkx,hx⟩:=ha.get hka;obtain⟨y,hky,hy⟩:=hb.get hkb;have hcall:=IH a (lMg hka) b x y hx hy st1;have htl:(us.take k).length=(ws.take k).length:=by rw[List.length_take,List.length_take];omega
   obtain⟨x1,x2,x3,x4,rfl⟩:=rT hx;obtain⟨y1,y2,y3,y4,rfl⟩:=rT hy;simp only[go_sem,zE,zB,zA,reduceCtorEq,f0,f1,f2,f19,f20,lt_i hlt,dc ht,dc ht',iNn,hkx,hky,fits];refine hcall.mono ?_;rintro _ _ ⟨rfl,rfl⟩;by_cases hc:j8 a b=0
   ·simp only[go_sem,zE,reduceCtorEq,i0 _ hc,f0,f1,f2,f19,f20,df hlt (show us.length<=281474976710656 by omega)];rw[dK hka,dK hkb,nu mA mB _ _ _ _ htl,hn,mB,mA,hc];simp[lexI]
   ·simp only[go_sem,zE,i1 _ hc];refine cO ⟨?_,rfl⟩;rw[h0];have h2:ig us ws=j8 a b:=by
     conv=>lhs;rw[<- List.take_append_drop k us,<- List.take_append_drop k ws]
     rw[List.drop_eq_getElem_cons hlt,List.drop_eq_getElem_cons (show k<ws.length by omega),nu mA mB _ _ _ _ htl,hn,mB,(lGs hka).2,(lGs hkb).2];simp[lexI,hc]
    rw[h2];simp[lexI]
  ·rintro fr st1 _ ⟨hn,f0,f1,f2,f19,f20,rfl,rfl⟩;rw[lTl,show ws.take us.length=ws by rw[hlen,lTl]] at hn;simp only[go_sem,f19,f20,dD (nLi _)];exact cO ⟨by rw[h0,hn];simp[lexI],rfl⟩
 ·simp only[go_sem,zE,i1 _ h0];exact cO ⟨by simp[lexI,h0],rfl⟩
theorem MY (v:Bool)(n:ByteArray)(us:List Tm)(IH:∀a∈us,CmpT gl a):CmpT gl (.mk v n us):=by
 rintro⟨w,m,ws⟩ x y hx hy st;obtain⟨tx,cx,rfl,htx,hcx⟩:=hx.mk;obtain⟨ty,cy,rfl,hty,hcy⟩:=hy.mk;have hl:=λst=>D7 gl us IH ws tx ty cx cy htx hty hcx hcy st;simp only[j8];refine iI func214 ?_;by_cases hv:v=w
 ·subst hv;simp only[go_sem,zE,zA,beq_self_eq_true];refine (D3 gl n m _).mono ?_;rintro _ _ ⟨rfl,rfl⟩;by_cases h0:cmpB n m=0
  ·simp only[go_sem,zE,zA,i0 _ h0];refine (hl _).mono ?_;rintro _ _ ⟨rfl,rfl⟩;simp only[go_sem];exact cO ⟨by simp[lexI,h0,lenL],rfl⟩
  ·simp only[go_sem,zE,i1 _ h0];exact cO ⟨by simp[lexI,h0],rfl⟩
 ·cases v<;>cases w<;>first|exact absurd rfl hv|skip
  all_goals
   simp only[go_sem,zE,reduceCtorEq,beq_eq_false_iff_ne.2 hv];exact cO ⟨by simp,rfl⟩
theorem D8:∀(k:Nat)(t:Tm),SizeOf.sizeOf t<k->CmpT gl t
 | 0,t,h=>by omega
 | k+1,.mk v n us,h=>MY gl v n us (λa ha=>D8 k a (by
   have:=lSm ha;simp at h;omega))
theorem MZ (t:Tm):CmpT gl t:=D8 gl _ t (Nat.lt_succ_self _)
theorem M0 (us:List Fm)(IH:∀a∈us,CmpF gl a)(ws:List Fm)(t t':Tag)(xs ys:List IV)(ht:okEs t 4)(ht':okEs t' 4)(ha:IsFms us xs)(hb:IsFms ws ys)(st:ISt) :
  ICall prog gl 215 [.sl t xs,.sl t' ys,.fn (.func 179) [] []] st (λr st'=>r=.raw (.int .i64 (lenL jO us ws))/\st'=st):=by
 refine iI func215 ?_;simp only[go_sem,zE,zA,reduceCtorEq,ha.len,hb.len];intro hla hlb;refine (D6 gl us.length ws.length _).mono ?_;rintro _ st ⟨rfl,rfl⟩;unfold lenL;by_cases h0:cmpN us.length ws.length=0
 ·have hlen:=zZr.1 h0;simp only[go_sem,reduceCtorEq,i0 _ h0,ha.len];intro _;refine cV us.length (λk fr st' ds=>jO (us.take k) (ws.take k)=0/\fr 0=.iv (.sl t xs)/\fr 1=.iv (.sl t' ys)/\fr 2=.iv (.fn (.func 179) [] [])/\fr 19=.iv (.raw (.int .i64 us.length))/\fr 20=.iv (.raw (.int .i64 k))/\st'=st/\ds=[]) ?_ ?_ ?_
  ·simp only[go_sem,zE,reduceCtorEq];exact⟨ng,rfl⟩
  ·rintro k fr st1 _ hlt ⟨hn,f0,f1,f2,f19,f20,rfl,rfl⟩;obtain⟨a,hka⟩:=dd hlt;obtain⟨b,hkb⟩:=dd (l:=ws) (k:=k) (by omega);obtain⟨x,hkx,hx⟩:=ha.get hka;obtain⟨y,hky,hy⟩:=hb.get hkb;have hcall:=IH a (lMg hka) b x y hx hy st1;have htl:(us.take k).length=(ws.take k).length:=by rw[List.length_take,List.length_take];omega
   obtain⟨x1,x2,x3,x4,x5,x6,rfl⟩:=hx.agg;obtain⟨y1,y2,y3,y4,y5,y6,rfl⟩:=hy.agg;simp only[go_sem,zE,zB,zA,reduceCtorEq,f0,f1,f2,f19,f20,lt_i hlt,dc ht,dc ht',iNn,hkx,hky,fits];refine hcall.mono ?_;rintro _ _ ⟨rfl,rfl⟩;by_cases hc:gX a b=0
   ·simp only[go_sem,zE,reduceCtorEq,i0 _ hc,f0,f1,f2,f19,f20,df hlt (show us.length<=281474976710656 by omega)];rw[dK hka,dK hkb,nu ng np _ _ _ _ htl,hn,np,ng,hc];simp[lexI]
   ·simp only[go_sem,zE,i1 _ hc];refine cO ⟨?_,rfl⟩;rw[h0];have h2:jO us ws=gX a b:=by
     conv=>lhs;rw[<- List.take_append_drop k us,<- List.take_append_drop k ws]
     rw[List.drop_eq_getElem_cons hlt,List.drop_eq_getElem_cons (show k<ws.length by omega),nu ng np _ _ _ _ htl,hn,np,(lGs hka).2,(lGs hkb).2];simp[lexI,hc]
    rw[h2];simp[lexI]
  ·rintro fr st1 _ ⟨hn,f0,f1,f2,f19,f20,rfl,rfl⟩;rw[lTl,show ws.take us.length=ws by rw[hlen,lTl]] at hn;simp only[go_sem,f19,f20,dD (nLi _)];exact cO ⟨by rw[h0,hn];simp[lexI],rfl⟩
 ·simp only[go_sem,zE,i1 _ h0];exact cO ⟨by simp[lexI,h0],rfl⟩
theorem M1 (o:Nat)(n:ByteArray)(us:List Tm)(sub:List Fm)(IH:∀a∈sub,CmpF gl a):CmpF gl (.mk o n us sub):=by
 rintro⟨w,m,ws,sub'⟩ x y hx hy st;obtain⟨t1,x1,t2,x2,rfl,_,e1,i1',e2,i2⟩:=hx.mk;obtain⟨t3,x3,t4,x4,rfl,_,e3,i3,e4,i4⟩:=hy.mk;have hl1:=λst=>D7 gl us (λa _=>MZ gl a) ws t1 t3 x1 x3 e1 e3 i1' i3 st;have hl2:=λst=>M0 gl sub IH sub' t2 t4 x2 x4 e2 e4 i2 i4 st;simp only[gX];refine iI func179 ?_;simp only[go_sem,zE,zA];refine (MX gl o w _).mono ?_;rintro _ _ ⟨rfl,rfl⟩;by_cases h0:cmpN o w=0
 ·simp only[go_sem,zE,zA,i0 _ h0];refine (D3 gl n m _).mono ?_;rintro _ _ ⟨rfl,rfl⟩;by_cases h1:cmpB n m=0
  ·simp only[go_sem,zE,zA,i0 _ h1];refine (hl1 _).mono ?_;rintro _ _ ⟨rfl,rfl⟩;by_cases h2:lenL ig us ws=0
   ·simp only[go_sem,zE,zA,i0 _ h2];refine (hl2 _).mono ?_;rintro _ _ ⟨rfl,rfl⟩;simp only[go_sem];refine cO ⟨?_,rfl⟩;unfold lenL at h2 ⊢;rw[h0,h1,h2];simp[lexI]
   ·simp only[go_sem,zE,i1 _ h2];refine cO ⟨?_,rfl⟩;unfold lenL at h2 ⊢;rw[h0,h1];generalize lexI (cmpN us.length ws.length) (ig us ws)=q at h2 ⊢;simp[lexI,h2]
  ·simp only[go_sem,zE,i1 _ h1];exact cO ⟨by rw[h0];simp[lexI,h1],rfl⟩
 ·simp only[go_sem,zE,i1 _ h0];exact cO ⟨by simp[lexI,h0],rfl⟩
theorem D9:∀(k:Nat)(t:Fm),SizeOf.sizeOf t<k->CmpF gl t
 | 0,t,h=>by omega
 | k+1,.mk o n us sub,h=>M1 gl o n us sub (λa ha=>D9 k a (by
   have:=lSm ha;simp at h;omega))
theorem M3 (t:Fm):CmpF gl t:=D9 gl _ t (Nat.lt_succ_self _)
theorem yj (a b:Fm)(x y:IV)(hx:IsFm a x)(hy:IsFm b y)(st:ISt):ICall prog gl 135 [x,y] st (λr st'=>r=.raw (.bool (decide (gX a b=0)))/\st'=st):=by
 have hc:=λst=>M3 gl a b x y hx hy st;obtain⟨x1,x2,x3,x4,x5,x6,rfl⟩:=hx.agg;obtain⟨y1,y2,y3,y4,y5,y6,rfl⟩:=hy.agg;refine iI func135 ?_;simp only[go_sem,zE,zA,zL];refine (hc _).mono ?_;rintro _ _ ⟨rfl,rfl⟩;simp only[go_sem];exact cO ⟨rfl,rfl⟩
end Go.Proofs.Tryz
namespace Go.Iv
open Go
@[go_sem] theorem VZ (P:Program)(T:TypeId)(a b:ByteArray):binI P T .gtr (.string a) (.string b)=some (.bool (!(Op.bytesLess a.data.toList b.data.toList || decide (a=b)))):=(rfl)
end Go.Iv
namespace Go.Proofs.Tryz
open Go Go.Iv
set_option maxRecDepth 4000
variable (gl:Nat->Option IV)
theorem M4 {a b:ByteArray}(h:Op.bytesLess a.data.toList b.data.toList=false):(!(false || decide (a=b)))=Op.bytesLess b.data.toList a.data.toList:=by
 have he:=(oX a).eq b;unfold cmpB at he;rw[h] at he;by_cases hab:a=b
 ·have:=he.2 hab;subst hab;rw[h];simp
 ·cases hb:Op.bytesLess b.data.toList a.data.toList
  ·rw[hb] at he;simp at he;exact absurd he hab
  ·simp[hab]
theorem D_ (a b:ByteArray)(st:ISt):ICall prog gl 238 [.raw (.string a),.raw (.string b)] st (λr st'=>r=.raw (.int .i64 (cmpB a b))/\st'=st):=by
 unfold cmpB;refine iI func238 ?_;cases h:Op.bytesLess a.data.toList b.data.toList
 ·have hn:=M4 h;simp only[go_sem,zE,reduceCtorEq,h,hn];cases h':Op.bytesLess b.data.toList a.data.toList
  ·simp only[go_sem,reduceCtorEq];exact cO ⟨by simp,rfl⟩
  ·simp only[go_sem];exact cO ⟨by simp,rfl⟩
 ·simp only[go_sem,zE,reduceCtorEq,h];exact cO ⟨by simp,rfl⟩
def RCT (a:Tm):Prop:=∀(b:Tm) (x y:IV) (_:IsTm a x) (_:IsTm b y) (st:ISt),ICall prog gl 265 [x,y] st (λr st'=>r=.raw (.int .i64 (j8 a b))/\st'=st)
def RCF (a:Fm):Prop:=∀(b:Fm) (x y:IV) (_:IsFm a x) (_:IsFm b y) (st:ISt),ICall prog gl 195 [x,y] st (λr st'=>r=.raw (.int .i64 (gX a b))/\st'=st)
theorem Ea (us:List Tm)(IH:∀a∈us,RCT gl a)(ws:List Tm)(t t':Tag)(xs ys:List IV)(ht:okEs t 3)(ht':okEs t' 3)(ha:IsTms us xs)(hb:IsTms ws ys)(st:ISt) :
  ICall prog gl 239 [.sl t xs,.sl t' ys] st (λr st'=>r=.raw (.int .i64 (lenL ig us ws))/\st'=st):=by
 unfold lenL cmpN;refine iI func239 ?_;simp only[go_sem,zE,reduceCtorEq,ha.len,hb.len];intro hla hlb;by_cases h1:us.length<ws.length
 ·simp only[go_sem,lt_i h1];exact cO ⟨by simp[h1,lexI],rfl⟩
 simp only[go_sem,zE,reduceCtorEq,show decide (((us.length:Nat):Int)<ws.length)=false from dEf (by omega),ha.len,hb.len];intros;by_cases h2:ws.length<us.length
 ·simp only[go_sem,lt_i h2];exact cO ⟨by simp[h1,h2,lexI],rfl⟩
 simp only[go_sem,show decide (((ws.length:Nat):Int)<us.length)=false from dEf (by omega)];rw[if_neg h1,if_neg h2];have hlen:us.length=ws.length:=by omega
 refine cV us.length (λk fr st' ds=>ig (us.take k) (ws.take k)=0/\fr 0=.iv (.sl t xs)/\fr 1=.iv (.sl t' ys)/\fr 5=.iv (.raw (.int .i64 k))/\st'=st/\ds=[]) ?_ ?_ ?_
 ·simp only[go_sem,zE,reduceCtorEq];exact⟨mA,rfl⟩
 ·rintro k fr st1 _ hlt ⟨hn,f0,f1,f5,rfl,rfl⟩;obtain⟨a,hka⟩:=dd hlt;obtain⟨b,hkb⟩:=dd (l:=ws) (k:=k) (by omega);obtain⟨x,hkx,hx⟩:=ha.get hka;obtain⟨y,hky,hy⟩:=hb.get hkb;have hcall:=IH a (lMg hka) b x y hx hy st1;have htl:(us.take k).length=(ws.take k).length:=by rw[List.length_take,List.length_take];omega
  have htake:ig us ws=lexI (ig (us.take k) (ws.take k)) (lexI (j8 a b) (ig (us.drop (k+1)) (ws.drop (k+1)))):=by
   conv=>lhs;rw[<- List.take_append_drop k us,<- List.take_append_drop k ws]
   rw[List.drop_eq_getElem_cons hlt,List.drop_eq_getElem_cons (show k<ws.length by omega),nu mA mB _ _ _ _ htl,mB,(lGs hka).2,(lGs hkb).2]
  have hnext:j8 a b=0->ig (us.take (k+1)) (ws.take (k+1))=0:=λhc=>by
   rw[dK hka,dK hkb,nu mA mB _ _ _ _ htl,hn,mB,mA,hc];simp[lexI]
  rw[hn] at htake;obtain⟨x1,x2,x3,x4,rfl⟩:=rT hx;obtain⟨y1,y2,y3,y4,rfl⟩:=rT hy;simp only[go_sem,zE,zB,zA,reduceCtorEq,f0,f1,f5,ha.len,lt_i hlt,dc ht,dc ht',iNn,hkx,hky,fits];intros;refine hcall.mono ?_;rintro _ _ ⟨rfl,rfl⟩;by_cases hc:j8 a b=0
  ·simp only[go_sem,zE,reduceCtorEq,i0 _ hc,f0,f1,f5,df hlt (show us.length<=281474976710656 by omega)];exact hnext hc
  ·simp only[go_sem,zE,i1 _ hc];exact cO ⟨by rw[htake];simp[lexI,hc],rfl⟩
 ·rintro fr st1 _ ⟨hn,f0,f1,f5,rfl,rfl⟩;rw[lTl,show ws.take us.length=ws by rw[hlen,lTl]] at hn;simp only[go_sem,zE,reduceCtorEq,f0,f5,ha.len,dD (nLi _)];intros;exact cO ⟨by rw[hn];simp[lexI],rfl⟩
theorem M5 (v:Bool)(n:ByteArray)(us:List Tm)(IH:∀a∈us,RCT gl a):RCT gl (.mk v n us):=by
 rintro⟨w,m,ws⟩ x y hx hy st;obtain⟨tx,cx,rfl,htx,hcx⟩:=hx.mk;obtain⟨ty,cy,rfl,hty,hcy⟩:=hy.mk;have hl:=λst=>Ea gl us IH ws tx ty cx cy htx hty hcx hcy st;simp only[j8];refine iI func265 ?_;by_cases hv:v=w
 ·subst hv;by_cases h0:n=m
  ·have hz:=((oX n).eq m).2 h0;simp only[go_sem,zE,zA,beq_self_eq_true,dEt h0];refine (hl _).mono ?_;rintro _ _ ⟨rfl,rfl⟩;simp only[go_sem];exact cO ⟨by simp[lexI,hz,lenL],rfl⟩
  ·have hz:¬ cmpB n m=0:=λh=>h0 (((oX n).eq m).1 h);simp only[go_sem,zE,zA,beq_self_eq_true,dEf h0];refine (D_ gl n m _).mono ?_;rintro _ _ ⟨rfl,rfl⟩;simp only[go_sem];exact cO ⟨by simp[lexI,hz],rfl⟩
 ·cases v<;>cases w<;>first|exact absurd rfl hv|skip
  all_goals
   simp only[go_sem,zE,reduceCtorEq,beq_eq_false_iff_ne.2 hv];exact cO ⟨by simp,rfl⟩
theorem Eb:∀(k:Nat)(t:Tm),SizeOf.sizeOf t<k->RCT gl t
 | 0,t,h=>by omega
 | k+1,.mk v n us,h=>M5 gl v n us (λa ha=>Eb k a (by
   have:=lSm ha;simp at h;omega))
theorem M6 (t:Tm):RCT gl t:=Eb gl _ t (Nat.lt_succ_self _)
theorem M7 (o:Nat)(n:ByteArray)(us:List Tm)(sub:List Fm)(IH:∀a∈sub,RCF gl a):RCF gl (.mk o n us sub):=by
 rintro⟨w,m,ws,sub'⟩ x y hx hy st;obtain⟨t1,x1,t2,x2,rfl,_,e1,i1',ht,ha⟩:=hx.mk;obtain⟨t3,x3,t4,x4,rfl,_,e3,i3,ht',hb⟩:=hy.mk;have hl1:=λst=>Ea gl us (λa _=>M6 gl a) ws t1 t3 x1 x3 e1 e3 i1' i3 st;simp only[gX];unfold cmpN;refine iI func195 ?_;by_cases q1:o<w
 ·simp only[go_sem,zE,lt_i q1];exact cO ⟨by simp[q1,lexI],rfl⟩
 simp only[go_sem,zE,show decide (((o:Nat):Int)<w)=false from dEf (by omega)];by_cases q2:w<o
 ·simp only[go_sem,lt_i q2];exact cO ⟨by simp[q1,q2,lexI],rfl⟩
 rw[if_neg q1,if_neg q2];simp only[go_sem,zE,show decide (((w:Nat):Int)<o)=false from dEf (by omega)];by_cases h0:n=m
 case neg =>
  have hz:¬ cmpB n m=0:=λh=>h0 (((oX n).eq m).1 h);simp only[go_sem,zE,zA,dEf h0];refine (D_ gl n m _).mono ?_;rintro _ _ ⟨rfl,rfl⟩;simp only[go_sem];exact cO ⟨by simp[lexI,hz],rfl⟩
 have hz:=((oX n).eq m).2 h0;rw[hz];simp only[go_sem,zE,zA,dEt h0];refine (hl1 _).mono ?_;rintro _ st ⟨rfl,rfl⟩;unfold lenL cmpN;generalize lexI (if us.length<ws.length then -1 else if ws.length<us.length then 1 else 0) (ig us ws)=c1;by_cases h1:c1=0
 case neg =>
  simp only[go_sem,zE,i1 _ h1];exact cO ⟨by simp[lexI,h1],rfl⟩
 subst h1;simp only[go_sem,zE,ha.len,hb.len,decide_true];intro hla hlb;by_cases h3:sub.length<sub'.length
 ·simp only[go_sem,lt_i h3];exact cO ⟨by simp[h3,lexI],rfl⟩
 simp only[go_sem,zE,show decide (((sub.length:Nat):Int)<sub'.length)=false from dEf (by omega),ha.len,hb.len];intros;by_cases h4:sub'.length<sub.length
 ·simp only[go_sem,lt_i h4];exact cO ⟨by simp[h3,h4,lexI],rfl⟩
 rw[if_neg h3,if_neg h4];simp only[go_sem,show decide (((sub'.length:Nat):Int)<sub.length)=false from dEf (by omega)];have hlen:sub.length=sub'.length:=by omega
 refine cV sub.length (λk fr st' ds=>jO (sub.take k) (sub'.take k)=0/\fr 2=.box [.raw (.int .u8 o),.raw (.string n),.sl t1 x1,.sl t2 x2]/\fr 3=.box [.raw (.int .u8 w),.raw (.string m),.sl t3 x3,.sl t4 x4]/\fr 6=.iv (.raw (.int .i64 k))/\st'=st/\ds=[]) ?_ ?_ ?_
 ·simp only[go_sem,zE];exact⟨ng,rfl⟩
 ·rintro k fr st1 _ hlt ⟨hn,f2,f3,f6,rfl,rfl⟩;obtain⟨a,hka⟩:=dd hlt;obtain⟨b,hkb⟩:=dd (l:=sub') (k:=k) (by omega);obtain⟨x,hkx,hx⟩:=ha.get hka;obtain⟨y,hky,hy⟩:=hb.get hkb;have hcall:=IH a (lMg hka) b x y hx hy st1;have htl:(sub.take k).length=(sub'.take k).length:=by rw[List.length_take,List.length_take];omega
  have htake:jO sub sub'=lexI (jO (sub.take k) (sub'.take k)) (lexI (gX a b) (jO (sub.drop (k+1)) (sub'.drop (k+1)))):=by
   conv=>lhs;rw[<- List.take_append_drop k sub,<- List.take_append_drop k sub']
   rw[List.drop_eq_getElem_cons hlt,List.drop_eq_getElem_cons (show k<sub'.length by omega),nu ng np _ _ _ _ htl,np,(lGs hka).2,(lGs hkb).2]
  have hnext:gX a b=0->jO (sub.take (k+1)) (sub'.take (k+1))=0:=λhc=>by
   rw[dK hka,dK hkb,nu ng np _ _ _ _ htl,hn,np,ng,hc];simp[lexI]
  rw[hn] at htake;obtain⟨x1',x2',x3',x4',x5',x6',rfl⟩:=hx.agg;obtain⟨y1',y2',y3',y4',y5',y6',rfl⟩:=hy.agg;simp only[go_sem,zE,zB,zA,f2,f3,f6,ha.len,lt_i hlt,dc ht,dc ht',iNn,hkx,hky,fits];intros;refine hcall.mono ?_;rintro _ _ ⟨rfl,rfl⟩;by_cases hc:gX a b=0
  ·simp only[go_sem,zE,i0 _ hc,f2,f3,f6,df hlt (show sub.length<=281474976710656 by omega)];exact hnext hc
  ·simp only[go_sem,zE,i1 _ hc];exact cO ⟨by rw[htake];simp[lexI,hc],rfl⟩
 ·rintro fr st1 _ ⟨hn,f2,f3,f6,rfl,rfl⟩;rw[lTl,show sub'.take sub.length=sub' by rw[hlen,lTl]] at hn;simp only[go_sem,zE,f2,f6,ha.len,dD (nLi _)];intros;exact cO ⟨by rw[hn];simp[lexI],rfl⟩
theorem Ec:∀(k:Nat)(t:Fm),SizeOf.sizeOf t<k->RCF gl t
 | 0,t,h=>by omega
 | k+1,.mk o n us sub,h=>M7 gl o n us sub (λa ha=>Ec k a (by
   have:=lSm ha;simp at h;omega))
theorem M8 (t:Fm):RCF gl t:=Ec gl _ t (Nat.lt_succ_self _)
end Go.Proofs.Tryz
namespace Go.Iv
open Go
def Ed (s1:ISt)(y x:IV):Prop:=y=x\/∃x0,OI s1 y x0/\x=age x0
def LentsS (s1:ISt):List IV->List IV->Prop
 | [],xs=>xs=[]
 | y::ys,xs=>∃x xs',xs=x::xs'/\Ed s1 y x/\LentsS s1 ys xs'
theorem LentsS.v {C:Cx}{X:WS}{s1 s0:ISt}(h:Good C X)(k:LendOk X.st s1 s0):∀ {ys xs:List IV} {rs:List Value},LentsS s1 ys xs->C.vl X rs ys->C.vl (X.lendS s1 s0) rs xs
 | [],xs,rs,hl,hv=>by
  simp only[LentsS] at hl;subst hl;obtain rfl:rs=[]:=List.eq_nil_of_length_eq_zero hv.1;exact VL.nil
 | y::ys,xs,rs,hl,hv=>by
  simp only[LentsS] at hl;obtain⟨x,xs',rfl,hx,hl⟩:=hl;cases rs with
  | nil=>have:=hv.1;simp at this
  | cons r rs =>
   have h1:=hv.2 0 r y rfl rfl;have h2:C.vl X rs ys:=⟨by have:=hv.1;simpa using this,λi a b ha hb=>hv.2 (i+1) a b (by simpa using ha) (by simpa using hb)⟩
   refine VL.cons ?_ (LentsS.v h k hl h2);rcases hx with rfl|⟨x0,ho,rfl⟩
   ·exact (h.lendS_ext k).v h1
   ·exact ho.v h k h1
theorem ICall.frz {P:Program}{gl:Nat->Option IV}{f:FuncId}{args args':List IV}{st s1 s0:ISt}{K:IV->ISt->Prop}(k:LendOk st s1 s0)(hl:LentsS s1 args args')(h:ICall P gl f args' s0 K):ICall P gl f args st K:=by
 intro B X rs hg hst hv;subst hst;refine (h B (X.lendS s1 s0) rs (hg.lendS k) rfl (hl.v hg k hv)).mono ?_;rintro e w' ⟨v,rfl,X',x,h1,h2,h3,h4,h5⟩;exact⟨v,rfl,X',x,h1,h2,(hg.lendS_ext k).trans h3,h4,h5⟩
theorem Ee {st:ISt}{b:Nat}{cs:List IV}(h:st b=some (.box cs)):LendOk st (ISt.put (λ_=>none) b (some (.box cs))) (st.put b none):=by
 refine⟨λc o hc=>?_,λc o hc=>?_,λc cs' hc=>?_⟩
 ·rw[ISt.put_apply] at hc;split at hc
  ·rename_i hb;rw[hb,h];exact hc
  ·cases hc
 ·rw[ISt.put_apply] at hc;split at hc
  ·cases hc
  ·exact hc
 ·rw[ISt.put_apply] at hc ⊢;split at hc
  ·rename_i hb;rw[if_pos hb]
  ·cases hc
theorem LentsS.same (s1:ISt):∀l:List IV,LentsS s1 l l
 | []=>rfl
 | a::l=>⟨a,l,rfl,.inl rfl,LentsS.same s1 l⟩
theorem a0_45 {P:Program}{gl:Nat->Option IV}{f:FuncId}{b:Nat}{cs args:List IV}{st:ISt}{K:IV->ISt->Prop}(hb:st b=some (.box cs))(h:ICall P gl f (.cptr (.agg (ages cs))::args) (st.put b none) K) :
  ICall P gl f (.raw (.pointer (some ⟨b,0,none⟩))::args) st K:=by
 refine ICall.frz (Ee hb) ⟨_,_,rfl,.inr ⟨.cptr (.agg cs),?_,by simp only[age]⟩,LentsS.same _ _⟩ h;exact .ptr b (.agg cs) cs (cT ..) rfl λi r c hr hc=>by
   rw[show (IV.agg cs).cells=cs from rfl,hr] at hc;cases hc;exact .refl _
theorem LentsS.last {s1:ISt}{y x:IV}(h:Ed s1 y x):∀l:List IV,LentsS s1 (l++[y]) (l++[x])
 | []=>⟨x,[],rfl,h,rfl⟩
 | a::l=>⟨a,l++[x],rfl,.inl rfl,LentsS.last h l⟩
theorem ma {P:Program}{gl:Nat->Option IV}{f:FuncId}{pre:List IV}{g n cap es:Nat}{cs zs:List IV}{st:ISt}{K:IV->ISt->Prop}(hst:st g=some (.box cs))(hn:zs.length=n)(hcap:n<=cap)(hroom:cap*es<=cs.length)
  (hz:∀z∈zs,z.cells.length=es) (hcs:cs.take (n*es)=zs.flatMap IV.cells) (hlen:n<=140737488355328) (h:ICall P gl f (pre++[.sl ⟨false,.app g,es⟩ (ages zs)]) (st.put g none) K) :
  ICall P gl f (pre++[.raw (.slice (some ⟨g,0,none⟩) n cap)]) st K:=by
 subst hn;refine ICall.frz (Ee hst) (LentsS.last (.inr ⟨.sl ⟨true,.app g,es⟩ zs,?_,by simp only[age]⟩) pre) h;refine .sl g cap ⟨true,.app g,es⟩ zs cs rfl hlen hcap hz (cT ..) hroom λi r c hr hc=>?_;have hi:i<zs.length*es:=by
  have:=(lGs hc).1
  rwa [jZ _ hz] at this
 have:(cs.take (zs.length*es))[i]?=cs[i]?:=by rw[List.getElem?_take,if_pos hi]
 rw[hcs,hc,hr] at this;cases this;exact .refl _
end Go.Iv
namespace Go.Proofs.Tryz
open Go Go.Iv
set_option maxRecDepth 4000
variable (gl:Nat->Option IV)
theorem M9 (g:FuncId)(caps:List IV)(he:entI prog g=true)(us:List Mk)(p:Mk->Bool)(st:ISt)(hp:∀a∈us,∀x,IsMk a x->ICall prog gl g (x::caps) st (λr st'=>r=.raw (.bool (p a))/\st'=st))
  (tg:Tag) (xs:List IV) (htg:okEs tg 6) (hxs:IsMks us xs) :
  ICall prog gl 233 [.sl tg xs,.fn (.func g) [] caps] st (λr st'=>(∃n:Int,r=.raw (.int .i64 n)/\decide (0<=n)=us.any p)/\st'=st):=by
 refine iI func233 ?_;simp only[go_sem,reduceCtorEq,hxs.len];intro _;refine cV us.length (λk fr st' ds=>(us.take k).any p=false/\fr 0=.iv (.sl tg xs)/\fr 1=.iv (.fn (.func g) [] caps)/\fr 7=.iv (.raw (.int .i64 us.length))/\fr 8=.iv (.raw (.int .i64 k))/\st'=st/\ds=[]) ?_ ?_ ?_
 ·simp only[go_sem,zE,reduceCtorEq];exact⟨rfl,rfl⟩
 ·rintro k fr st1 _ hlt ⟨hn,f0,f1,f7,f8,rfl,rfl⟩;obtain⟨a,ha⟩:=dd hlt;obtain⟨y,hky,hy⟩:=hxs.get ha;have hcall:=hp a (lMg ha) y hy;obtain⟨_,_,_,_,_,_,rfl⟩:=hy.agg;simp only[go_sem,zE,zB,zA,reduceCtorEq,f0,f1,f7,f8,lt_i hlt,dc htg,iNn,hky,fits,he];refine hcall.mono ?_;rintro _ _ ⟨rfl,rfl⟩;cases hr:p a
  ·simp only[go_sem,zE,reduceCtorEq,f0,f1,f7,f8,df hlt (show us.length<=281474976710656 by omega)];rw[dK ha,List.any_append,hn];simp[hr]
  ·simp only[go_sem,zE];refine cO ⟨⟨_,rfl,?_⟩,rfl⟩;rw[dEt (iNn k)];exact (List.any_eq_true.2 ⟨a,lMg ha,hr⟩).symm
 ·rintro fr st1 _ ⟨hn,f0,f1,f7,f8,rfl,rfl⟩;rw[lTl] at hn;simp only[go_sem,f7,f8,dD (nLi _)];exact cO ⟨⟨_,rfl,by rw[hn];rfl⟩,rfl⟩
theorem yn (g:FuncId)(caps:List IV)(he:entI prog g=true)(us:List Mk)(p:Mk->Bool)(st:ISt)(hp:∀a∈us,∀x,IsMk a x->ICall prog gl g (x::caps) st (λr st'=>r=.raw (.bool (p a))/\st'=st))
  (tg:Tag) (xs:List IV) (htg:okEs tg 6) (hxs:IsMks us xs) :
  ICall prog gl 190 [.sl tg xs,.fn (.func g) [] caps] st (λr st'=>r=.raw (.bool (us.any p))/\st'=st):=by
 refine iI func190 ?_;simp only[go_sem,zE,zA,reduceCtorEq];refine (M9 gl g caps he us p _ hp tg xs htg hxs).mono ?_;rintro _ _ ⟨⟨n,rfl,hn⟩,rfl⟩;simp only[go_sem,hn];exact cO ⟨rfl,rfl⟩
theorem M_ {a b:Mk}(h:a.f.op≠b.f.op):decide (gX a.f b.f=0)=false:=dEf λhc=>h (by rw[(Dn _ _).1 hc])
theorem Ef (a m:Mk)(y x:IV)(hy:IsMk a y)(hx:IsMk m x)(st:ISt):ICall prog gl 191 [y,.cptr x] st (λr st'=>r=.raw (.bool (mkB a m))/\st'=st):=by
 obtain⟨i,w,f⟩:=a;obtain⟨i',w',f'⟩:=m;obtain⟨o5,n5,t5,x5,t6,x6,rfl,h1⟩:=hy;obtain⟨o7,n7,t7,x7,t8,x8,rfl,h2⟩:=hx;have hs:=λst=>yj gl f f' _ _ h1 h2 st;have hop:mkB ⟨i,w,f⟩ ⟨i',w',f'⟩=(i == i'&&decide (w=w')&&decide (o5=o7)&&decide (gX f f'=0)):=by
  have e1:=h1;have e2:=h2;obtain⟨o,n,us,sub⟩:=f;obtain⟨o',n',us',sub'⟩:=f';obtain⟨_,_,_,_,he,_⟩:=e1.mk;obtain⟨_,_,_,_,he',_⟩:=e2.mk;simp only[IV.agg.injEq,List.cons.injEq,IV.raw.injEq,Value.int.injEq,true_and] at he he';rw[he.1,he'.1];unfold mkB;by_cases ho:o=o'
  ·subst ho;simp
  ·rw[M_ (a:=⟨i,w,.mk o n us sub⟩) (b:=⟨i',w',.mk o' n' us' sub'⟩) ho,Bool.and_false,Bool.and_false]
 rw[hop];refine iI func191 ?_;by_cases hi:i=i'
 ·subst hi;by_cases hw:w=w'
  ·subst hw;by_cases ho:o5=o7
   ·subst ho;simp only[go_sem,zE,zB,zA,zL,fits,decide_true];refine (hs _).mono ?_;rintro _ _ ⟨rfl,rfl⟩;simp only[go_sem,zE];exact cO ⟨by simp,rfl⟩
   ·simp only[go_sem,zE,zB,zA,zL,fits,decide_true,dEf ho];exact cO ⟨by simp[],rfl⟩
  ·simp only[go_sem,zE,zA,fits,dEf hw];exact cO ⟨by simp[],rfl⟩
 ·have hb:(i == i')=false:=by simp[hi]
  simp only[go_sem,zE,fits,hb];exact cO ⟨rfl,rfl⟩
def appN (n:Nat)(t:Tag):Prop:=(n=0/\t.cap=.nil)\/(0<n/\∃g,t.cap=.app g)
theorem tQ:∀ {l:List Mk}{xs:List IV},IsMks l xs->xs.all (fits true 6)=true
 | [],_,rfl=>rfl
 | a::l,_,⟨y,ys,rfl,hy,h⟩=>by
  obtain⟨_,_,_,_,_,_,rfl⟩:=hy.agg;rw[List.all_cons,tQ h];simp[fits,IV.one]
def brI (tb:Nat)(t:Tag)(xs:List IV)(t':Tag)(v:Int):List IV:=[.raw (.int .u8 1),.raw (.map (some tb)),.sl t xs,.sl t' [.raw (.int .i64 v)]]
def IsBr (l:List Mk)(tb:Nat)(x:IV):Prop:=∃t xs t' v,x=.agg (brI tb t xs t' v)/\okEs t 6/\appN l.length t/\IsMks l xs/\okEs t' 1/\t'.cap≠.nil
theorem yo (l:List Mk)(tb:Nat)(x:IV)(hx:IsBr l tb x)(m:Mk)(y:IV)(hy:IsMk m y)(st:ISt):ICall prog gl 156 [.cptr x,y] st (λr st'=>r=.raw (.bool (hasT l m))/\st'=st):=by
 obtain⟨t,xs,t',v,rfl,ht,_,hxs,_⟩:=hx;have h1:=λst=>yn gl 191 [.cptr y] (by simp only[go_sem]) l (λa=>mkB a m) st (λa _ x hx=>Ef gl a m x y hx hy st) t xs ht hxs;obtain⟨_,_,_,_,_,_,rfl⟩:=hy.agg;refine ICall.intro (c:=cf prog gl [] [] [3]) func156 rfl (by show _<=11;simp) (by kernel_rfl) ?_;simp only[go_sem,zE,zA,reduceCtorEq,fits,brI];refine (h1 _).mono ?_;rintro _ _ ⟨rfl,rfl⟩;simp only[go_sem];exact cO ⟨rfl,rfl⟩
theorem Na (l:List Mk)(tb b:Nat)(t:Tag)(xs:List IV)(t':Tag)(v:Int)(ht:okEs t 6)(hxs:IsMks l xs)(m:Mk)(y:IV)(hy:IsMk m y)(st:ISt)(hb:st b=some (.box (brI tb t xs t' v))) :
  ICall prog gl 156 [.raw (.pointer (some ⟨b,0,none⟩)),y] st (λr st'=>r=.raw (.bool (hasT l m))/\st'=st):=by
 have h1:=λst=>yn gl 191 [.cptr y] (by simp only[go_sem]) l (λa=>mkB a m) st (λa _ x hx=>Ef gl a m x y hx hy st) t xs ht hxs;obtain⟨_,_,_,_,_,_,rfl⟩:=hy.agg;unfold brI at hb;refine ICall.intro (c:=cf prog gl [] [] [3]) func156 rfl (by show _<=11;simp) (by kernel_rfl) ?_;simp only[go_sem,zE,zA,reduceCtorEq,hb];refine (h1 _).mono ?_;rintro _ _ ⟨rfl,rfl⟩;simp only[go_sem];exact cO ⟨rfl,rfl⟩
theorem Eg (l:List Mk)(tb:Nat)(x:IV)(hx:IsBr l tb x)(m:Mk)(y:IV)(hy:IsMk m y)(st:ISt):ICall prog gl 158 [.cptr x,y] st (λr st'=>r=.raw (.bool (lr l m))/\st'=st):=by
 obtain⟨i,w,f⟩:=m;have hy0:=hy;obtain⟨o5,n5,t5,x5,t6,x6,rfl,h1⟩:=hy;have hop:(f.op:Int)=o5:=by
  obtain⟨o,n,us,sub⟩:=f;obtain⟨_,_,_,_,he,_⟩:=h1.mk;simp only[IV.agg.injEq,List.cons.injEq,IV.raw.injEq,Value.int.injEq,true_and] at he;exact he.1.symm
 have hh:=λst=>yo gl l tb x hx ⟨!i,w,f⟩ _ ⟨_,_,_,_,_,_,rfl,h1⟩ st;unfold lr;refine iI func158 ?_;cases i
 ·simp only[go_sem,zE,zA,zL,reduceCtorEq,fits];refine (hh _).mono ?_;rintro _ _ ⟨rfl,rfl⟩;simp only[go_sem,zE];exact cO ⟨by simp,rfl⟩
 ·by_cases ho:o5=2
  ·simp only[go_sem,zE,zA,dEt ho];exact cO ⟨by simp[show f.op=2 by omega],rfl⟩
  ·simp only[go_sem,zE,zA,zL,reduceCtorEq,fits,dEf ho];refine (hh _).mono ?_;rintro _ _ ⟨rfl,rfl⟩;simp only[go_sem,zE];exact cO ⟨by simp[show ¬ f.op=2 by omega],rfl⟩
def BrSt (S0:ISt)(b tb:Nat)(l:List Mk)(t':Tag)(v:Int)(st:ISt):Prop:=∃t xs,st b=some (.box (brI tb t xs t' v))/\IsMks l xs/\own st t l.length 6 S0/\appN l.length t/\subSt S0 st/\S0 b=none
theorem yp (S0:ISt)(b tb:Nat)(l:List Mk)(t':Tag)(v:Int)(st:ISt)(hs:BrSt S0 b tb l t' v st)(hl:l.length<=1000000)(m:Mk)(y:IV)(hy:IsMk m y) :
  ICall prog gl 111 [.raw (.pointer (some ⟨b,0,none⟩)),y] st (λ_ st'=>BrSt S0 b tb (addT l m) t' v st'):=by
 obtain⟨t,xs,hb,hxs,hown,hap,hsub,hS⟩:=hs;have hh:=Na gl l tb b t xs t' v hown.es hxs m y hy st hb;have hy0:=hy;obtain⟨o5,n5,t5,x5,t6,x6,rfl,h1⟩:=hy;unfold addT;refine ICall.intro (c:=cf prog gl [12] []) func111 rfl (by show _<=18;simp) (by kernel_rfl) ?_;simp only[go_sem,zE,zA,zL,reduceCtorEq];refine hh.mono ?_;rintro _ st ⟨rfl,rfl⟩;cases hq:hasT l m
 ·unfold brI at hb;simp only[go_sem,zE,zA,zM,zL,reduceCtorEq,fits,hb,dP];refine iG hown hxs.len hsub rfl (by simp[fits,IV.one]) (by simp only;omega) (by omega) λtg2 st4 hown2 hsub4 hk hap2=>?_;have hb4:=hk b _ hb (λn h=>by cases h);simp only[go_sem,zE,zA,zL,hb4];refine cO ⟨tg2,_,cT ..,hxs.append (IsMks.one hy0),?_,.inr ⟨by simp,?_⟩,gU hsub4 hS,hS⟩
  ·rw[lLa];exact hown2.mono λg hg hg0=>by
    rw[de (λhc=>?_)]
    ·exact hg
    ·rw[hc,hb4] at hg;cases hg
  ·rcases hap2 with h|⟨_,_,h⟩
   ·rcases hown2 with⟨h0,_⟩|rfl|⟨g,rfl,_⟩
    ·omega
    ·cases h
    ·cases h
   ·exact h
 ·simp only[go_sem];exact cO ⟨t,xs,hb,hxs,hown,hap,hsub,hS⟩
theorem Nb (l:List Mk)(t:Tag)(xs:List IV)(ht:okEs t 6)(ha:appN l.length t)(hxs:IsMks l xs)(hl:l.length<=1000000)(st:ISt) :
  ICall prog gl 160 [.sl t xs] st (λr st'=>∃t' ,r=.sl t' xs/\own st' t' l.length 6 st/\appN l.length t'/\subSt st st'):=by
 have hlen:=hxs.len;have hall:xs.all (fits true 6)=true:=tQ hxs;rcases ha with⟨h0,hc⟩|⟨h0,g,hc⟩
 ·obtain⟨fs,c,es⟩:=t;obtain rfl:c=.nil:=hc;obtain rfl:xs=[]:=List.eq_nil_of_length_eq_zero (by omega);have hb:binV prog 88 .eql (.sl ⟨fs,.nil,es⟩ []) (.sl ⟨true,.nil,0⟩ [])=some (.raw (.bool true)):=by
   have:nC prog 88=true:=by kernel_rfl
   simp[binV,kK,this]
  refine iI func160 ?_;simp only[go_sem,reduceCtorEq,hb];exact cO ⟨_,rfl,.inl ⟨h0,rfl⟩,.inl ⟨h0,rfl⟩,subSt.refl _⟩
 ·obtain⟨fs,c,es⟩:=t;obtain rfl:c=.app g:=hc;have hb:binV prog 88 .eql (.sl ⟨fs,.app g,es⟩ xs) (.sl ⟨true,.nil,0⟩ [])=some (.raw (.bool false)):=by
   have:nC prog 88=true:=by kernel_rfl
   simp[binV,kK,this]
  refine iI func160 ?_;obtain⟨x,xs',rfl⟩:∃x xs',xs=x::xs':=by
   cases xs with
   | nil=>rw[List.length_nil] at hlen;omega
   | cons x xs'=>exact⟨_,_,rfl⟩
  simp only[go_sem,zE,zB,zA,zM,zL,reduceCtorEq,fits,hb,show jH 0 []=true from rfl];rw[List.length_cons] at hlen;refine gv hall (gv ⟨by omega,by omega⟩ λg'=>eB λhg=>?_);exact cO ⟨_,rfl,.inr (.inr ⟨g',rfl,by rw[cT,hlen],hg⟩),.inr ⟨h0,g',rfl⟩,fj hg⟩
theorem Nc (t:Tag)(v:Int)(ht:t.cap≠.nil)(st:ISt):ICall prog gl 96 [.sl t [.raw (.int .i64 v)]] st (λr st'=>∃t',r=.sl t' [.raw (.int .i64 v)]/\okEs t' 1/\t'.cap≠.nil/\st'=st):=by
 have hb:binV prog 79 .eql (.sl t [.raw (.int .i64 v)]) (.sl ⟨true,.nil,0⟩ [])=some (.raw (.bool false)):=by
  have:nC prog 79=true:=by kernel_rfl
  obtain⟨fs,c,es⟩:=t;cases c<;>first|exact absurd rfl ht|simp[binV,kK,this]
 refine iI func96 ?_;simp only[go_sem,zE,zA,zM,zL,reduceCtorEq,fits,hb,show jH 0 []=true from rfl];refine λg'=>eB λhg=>?_;exact dZ (fj hg) ⟨_,rfl,.inr rfl,by simp,rfl⟩
theorem yq (l q:List Mk)(a:Mk):d_ l (q++[a])=addT (d_ l q) a:=by unfold d_;rw[List.foldl_append];rfl
theorem ij:∀(q l:List Mk),(d_ l q).length<=l.length+q.length
 | [],l=>by simp[d_]
 | a::q,l=>by
  have h1:=ij q (addT l a);have h2:=MP (l:=l) (m:=a);show (d_ (addT l a) q).length<=_;rw[List.length_cons];omega
theorem BrSt.br {S0 st:ISt}{b tb:Nat}{l:List Mk}{t':Tag}{v:Int}(h:BrSt S0 b tb l t' v st)(ht:okEs t' 1)(hc:t'.cap≠.nil):subSt S0 st/\∃t xs,st b=some (.box (brI tb t xs t' v))/\IsBr l tb (.agg (brI tb t xs t' v)):=by
 obtain⟨t,xs,hb,hxs,hown,hap,hsub,_⟩:=h;exact⟨hsub,t,xs,hb,t,xs,t',v,rfl,hown.es,hap,hxs,ht,hc⟩
def rU (X:IV)(tb:Nat)(t:Tag)(xs:List IV)(t':Tag)(v:Int)(t2 t3:Tag)(b:Nat):List (Nat×IV) :=
 [(10,.cptr X),(11,.cptr X),(12,.cptr (.agg [.raw (.int .u8 1),.raw (.map (some tb))])),(13,.agg [.raw (.int .u8 1),.raw (.map (some tb))]),(14,.cptr X),(15,.cptr X),(16,.cptr (.sl t xs)),(17,.sl t xs),(18,.sl t2 xs),
  (19,.cptr X),(20,.cptr X),(21,.cptr (.sl t' [.raw (.int .i64 v)])),(22,.sl t' [.raw (.int .i64 v)]),(23,.sl t3 [.raw (.int .i64 v)]),(24,.agg (brI tb t2 xs t3 v)),(7,.raw (.pointer (some ⟨b,0,none⟩)))]
def dstB (i:Nat):Nat:=if i=15 then 7 else 10+i
theorem oj {X:IV}{tb:Nat}{t:Tag}{xs:List IV}{t':Tag}{v:Int}{t2 t3:Tag}{b i d:Nat}{z:IV}(h:(rU X tb t xs t' v t2 t3 b)[i]?=some (d,z)):i<16/\d=dstB i:=by
 have hi:i<16:=(lGs h).1;refine⟨hi,?_⟩;rcases (show i=0\/i=1\/i=2\/i=3\/i=4\/i=5\/i=6\/i=7\/i=8\/i=9\/i=10\/i=11\/i=12\/i=13\/i=14\/i=15 by omega) with rfl|rfl|rfl|rfl|rfl|rfl|rfl|rfl|rfl|rfl|rfl|rfl|rfl|rfl|rfl|rfl<;>cases h<;>rfl
def boxZ:List IV:=[.raw (.int .u8 0),.raw (.map none),.sl ⟨true,.nil,0⟩ [],.sl ⟨true,.nil,0⟩ []]
def FB (X:IV)(tg:Tag)(zs ym:List IV)(fr:Fr):Prop:=fr 0=.iv (.cptr X)/\fr 2=.iv (.sl tg zs)/\fr 4=.box ym/\fr 6=.box boxZ
theorem FB.put {X:IV}{tg:Tag}{zs ym:List IV}{fr:Fr}(h:FB X tg zs ym fr){d:Nat}(hd:7<=d)(z:SV):FB X tg zs ym (fr.put d z):=by
 obtain⟨h1,h2,h3,h4⟩:=h;refine⟨?_,?_,?_,?_⟩<;>rw[Fr.put_apply,if_neg (by omega)]<;>assumption
def BelJ (X:IV)(tb:Nat)(t:Tag)(xs:List IV)(t':Tag)(v:Int)(n:Nat)(tg:Tag)(zs ym:List IV)(st:ISt)(listed:Array Bool):Kt:=λad fr st' ds=>(∀s,ad s=none)/\ds=[]/\FB X tg zs ym fr/\∃t2 t3 b s1,
 ((listed.getD 8 false=true/\own s1 t2 n 6 st/\appN n t2/\subSt st s1)\/(listed.getD 8 false=false/\s1=st)) /\
 (listed.getD 13 false=true->okEs t3 1/\t3.cap≠.nil) /\
 ((listed.getD 15 false=true/\s1 b=none/\st'=s1.put b (some (.box (if listed.getD 16 false=true then brI tb t2 xs t3 v else boxZ))))\/(listed.getD 15 false=false/\st'=s1)) /\
 (listed.getD 16 false=true->listed.getD 14 false=true/\listed.getD 15 false=true)/\(listed.getD 14 false=true->listed.getD 13 false=true/\listed.getD 8 false=true) /\
 ∀i,listed.getD i false=true->∀d z,(rU X tb t xs t' v t2 t3 b)[i]?=some (d,z)->fr d=.iv z
theorem Nf {i j:Nat}(hi:i<16)(hj:j<16)(h:dstB i=dstB j):i=j:=by
 unfold dstB at h;split at h<;>split at h<;>omega
theorem qp {L L':List (Nat×IV)}(hL:∀i d z,L'[i]?=some (d,z)->i<16/\d=dstB i){i d:Nat}{z:IV}{listed:Array Bool}{fr:Fr}(hz:listed.size=17)(hi:i<16)(hs:L'[i]?=some (d,z))(hk:∀j,j≠i->listed.getD j false=true->L'[j]?=L[j]?)
  (h:∀j,listed.getD j false=true->∀d z,L[j]?=some (d,z)->fr d=.iv z) :
  ∀j,(listed.setIfInBounds i true).getD j false=true->∀d' z',L'[j]?=some (d',z')->fr.put d (.iv z) d'=.iv z':=by
 intro j hl d' z' hs';rw[Fr.put_apply];by_cases hij:i=j
 ·subst hij;rw[hs] at hs';cases hs';rw[if_pos rfl]
 ·obtain⟨hj,rfl⟩:=hL j d' z' hs';obtain⟨_,rfl⟩:=hL i d z hs;rw[if_neg (λhc=>hij (Nf hi hj hc.symm))];rw[fu (by omega),if_neg hij] at hl;exact h j hl _ _ (by rw[<- hk j (Ne.symm hij) hl];exact hs')
theorem qq {ad:Ad}(h:∀s,ad s=none)(d:Nat):∀s,ad.put d none s=none:=λs=>by
 rw[Ad.put_apply,h s];split<;>rfl
theorem lv {X:IV}{tb:Nat}{t:Tag}{xs:List IV}{t':Tag}{v:Int}{n:Nat}{tg:Tag}{zs ym:List IV}{st st1:ISt}{listed:Array Bool}{ad:Ad}{fr:Fr}{ds:List Dfd}{i d:Nat}{z:IV}(hz:listed.size=17)
  (h:BelJ X tb t xs t' v n tg zs ym st listed ad fr st1 ds) (h1:i<13) (h2:i≠8) (hs:∀t2 t3 b,(rU X tb t xs t' v t2 t3 b)[i]?=some (d,z)):BelJ X tb t xs t' v n tg zs ym st (listed.setIfInBounds i true) (ad.put d none) (fr.put d (.iv z)) st1 ds:=by
 obtain⟨had,rfl,hF,t2,t3,b,s1,a1,a2,a3,a4,a5,a6⟩:=h;have hd:=(oj (hs t2 t3 b)).2;have st':∀j,i≠j->(listed.setIfInBounds i true).getD j false=listed.getD j false:=λj hj=>by rw[fu (by omega),if_neg hj]
 refine⟨qq had _,rfl,hF.put (by rw[hd];unfold dstB;split<;>omega) _,t2,t3,b,s1,?_,?_,?_,?_,?_,qp (λ_ _ _ h=>oj h) hz (by omega) (hs t2 t3 b) (λ_ _ _=>rfl) a6⟩
 ·rw[st' 8 (by omega)];exact a1
 ·rw[st' 13 (by omega)];exact a2
 ·rw[st' 15 (by omega),st' 16 (by omega)];exact a3
 ·rw[st' 14 (by omega),st' 15 (by omega),st' 16 (by omega)];exact a4
 ·rw[st' 14 (by omega),st' 13 (by omega),st' 8 (by omega)];exact a5
theorem Ng {st2 st:ISt}{t:Tag}{n s b:Nat}{o:IObj}(h:own st2 t n s (st.put b (some o))):own (st2.put b none) t n s st:=by
 rcases h with h|h|⟨g,h1,h2,h3⟩
 ·exact .inl h
 ·exact .inr (.inl h)
 ·have hg:g≠b:=λhc=>by rw[hc,cT] at h3;cases h3
  exact .inr (.inr ⟨g,h1,by rw[de hg];exact h2,by rw[de hg] at h3;exact h3⟩)
theorem Nh {st2 st:ISt}{b:Nat}{o:IObj}(h:subSt (st.put b (some o)) st2)(hb:st b=none):subSt st (st2.put b none):=λc x hc=>by
 have hcb:c≠b:=λhq=>by rw[hq,hb] at hc;cases hc
 rw[de hcb];exact h c x (by rw[de hcb];exact hc)
theorem Ni {st2:ISt}{b:Nat}{o:IObj}(h:st2 b=some o):(st2.put b none).put b (some o)=st2:=by
 funext c;simp only[ISt.put_apply];split
 ·subst_vars;exact h.symm
 ·rfl
theorem tT {X:IV}{tb:Nat}{t:Tag}{xs:List IV}{t':Tag}{v:Int}{t2 t3 t2' t3':Tag}{b b':Nat}(j:Nat)(h8:t2=t2'\/(j≠8/\j≠14))(h13:t3=t3'\/(j≠13/\j≠14))(h15:b=b'\/j≠15):(rU X tb t xs t' v t2 t3 b)[j]?=(rU X tb t xs t' v t2' t3' b')[j]?:=by
 by_cases hj:j<16
 ·rcases (show j=0\/j=1\/j=2\/j=3\/j=4\/j=5\/j=6\/j=7\/j=8\/j=9\/j=10\/j=11\/j=12\/j=13\/j=14\/j=15 by omega) with rfl|rfl|rfl|rfl|rfl|rfl|rfl|rfl|rfl|rfl|rfl|rfl|rfl|rfl|rfl|rfl
  all_goals first|rfl|(simp at h8 h13 h15;subst_vars;rfl)
 ·rw[List.getElem?_eq_none (by show 16<=j;omega),List.getElem?_eq_none (by show 16<=j;omega)]
theorem Eh (l:List Mk)(tb:Nat)(x:IV)(hx:IsBr l tb x)(m:Mk)(y:IV)(hy:IsMk m y)(hm:m.f.op<=7)(q:List Mk)(tg:Tag)(zs:List IV)(htg:okEs tg 6)(hzs:IsMks q zs)(hl:l.length+q.length<=1000000)(st:ISt)(es:List (Value×IV))(hb:st tb=some (.map .sg es))(ht:lu es) :
  ICall prog gl 114 [.cptr x,y,.sl tg zs] st (λr st'=>IsBr (d_ l q) tb r/\st'=st):=by
 obtain⟨t,xs,t',v,rfl,ht6,hap,hxs,ht1,htc⟩:=hx;have hfind:=λst hb=>rR gl m y hy st tb es hb ht;have hk4:decide (((eJ m).1:Int)=4)=false:=dEf (by
  by_cases h0:(eJ m).1=0
  ·omega
  ·obtain⟨r,hr,_,hT⟩:=oe h0;have:=(rS gl hr hm).2.2.1;rw[hT];omega)
 obtain⟨oy,ny,ty,xy,ty',xy',rfl⟩:=hy.agg;refine ICall.intro (c:=cf prog gl [7] [(1,[])]) func114 rfl (by show _<=51;simp) (by kernel_rfl) ?_;simp only[go_sem,zE,brI];rw[nL];refine mU (BelJ (.agg (brI tb t xs t' v)) tb t xs t' v l.length tg zs [.raw (.bool m.is),.raw (.int .i64 m.w),.raw (.int .u8 oy),.raw (.string ny),.sl ty xy,.sl ty' xy'] st) ?_ ?_ _ _ _ _ _ _ rfl ?_
 ·intro listed ad fr st1 ds hz hJ i hi;replace hz:listed.size=17:=hz;obtain⟨h0,o,ho,hdep⟩:=mem_ready.1 hi;have his:i<17:=(Array.getElem?_eq_some_iff.1 ho).1;have hfl:listed.getD i false=false:=by
   rw[Array.getD_eq_getD_getElem?,Array.getElem?_eq_getElem (by omega)] at h0 ⊢;exact h0
  have hJ':=hJ;obtain⟨had,rfl,hF,t2,t3,b,s1,a1,a2,a3,a4,a5,a6⟩:=hJ';rcases (show i=0\/i=1\/i=2\/i=3\/i=4\/i=5\/i=6\/i=7\/i=8\/i=9\/i=10\/i=11\/i=12\/i=13\/i=14\/i=15\/i=16 by omega) with rfl|rfl|rfl|rfl|rfl|rfl|rfl|rfl|rfl|rfl|rfl|rfl|rfl|rfl|rfl|rfl|rfl
  all_goals obtain rfl:=Option.some.inj ho
  ·simp only[go_sem,dT,hF.1];exact lv hz hJ (by decide) (by decide) λ_ _ _=>rfl
  ·have d1:=hdep ⟨0,.data⟩ (by simp) rfl;have f1:=a6 0 d1 _ _ rfl;simp only[go_sem,dT,f1];exact lv hz hJ (by decide) (by decide) λ_ _ _=>rfl
  ·have d1:=hdep ⟨1,.data⟩ (by simp) rfl;have f1:=a6 1 d1 _ _ rfl;simp only[go_sem,zB,dT,had,f1,fits];exact lv hz hJ (by decide) (by decide) λ_ _ _=>rfl
  ·have d1:=hdep ⟨2,.data⟩ (by simp) rfl;have f1:=a6 2 d1 _ _ rfl;simp only[go_sem,zA,dT,had,f1,fits];exact lv hz hJ (by decide) (by decide) λ_ _ _=>rfl
  ·simp only[go_sem,dT,hF.1];exact lv hz hJ (by decide) (by decide) λ_ _ _=>rfl
  ·have d1:=hdep ⟨4,.data⟩ (by simp) rfl;have f1:=a6 4 d1 _ _ rfl;simp only[go_sem,dT,f1];exact lv hz hJ (by decide) (by decide) λ_ _ _=>rfl
  ·have d1:=hdep ⟨5,.data⟩ (by simp) rfl;have f1:=a6 5 d1 _ _ rfl;simp only[go_sem,dT,had,f1,fits];exact lv hz hJ (by decide) (by decide) λ_ _ _=>rfl
  ·have d1:=hdep ⟨6,.data⟩ (by simp) rfl;have f1:=a6 6 d1 _ _ rfl;simp only[go_sem,dT,had,f1,fits];exact lv hz hJ (by decide) (by decide) λ_ _ _=>rfl
  ·have d1:=hdep ⟨7,.data⟩ (by simp) rfl;have f1:=a6 7 d1 _ _ rfl;simp only[go_sem,zE,zA,dT,f1];refine (Nb gl l t xs ht6 hap hxs (by omega) _).mono ?_;rintro _ st2 ⟨t4,rfl,hown,hap4,hsub⟩;have st':∀j,8≠j->(listed.setIfInBounds 8 true).getD j false=listed.getD j false:=λj hj=>by rw[fu (by omega),if_neg hj]
   have sti:(listed.setIfInBounds 8 true).getD 8 false=true:=by rw[fu (by omega),if_pos rfl]
   have h14:listed.getD 14 false≠true:=λhc=>by rw[(a5 hc).2] at hfl;cases hfl
   have h16:listed.getD 16 false≠true:=λhc=>h14 (a4 hc).1;rcases a1 with⟨h8,_⟩|⟨_,rfl⟩
   ·rw[hfl] at h8;cases h8
   rcases a3 with⟨l15,hb1,rfl⟩|⟨l15,rfl⟩
   ·rw[if_neg h16] at hown hsub;refine⟨qq had _,rfl,hF.put (by decide) _,t4,t3,b,st2.put b none,.inl ⟨sti,Ng hown,hap4,Nh hsub hb1⟩,?_,.inl ⟨?_,cT ..,?_⟩,?_,?_,qp (λ_ _ _ h=>oj h) hz (by decide) rfl (λj hj hl=>tT j (.inr ⟨hj,λhc=>h14 (hc▸hl)⟩) (.inl rfl) (.inl rfl)) a6⟩
    ·rw[st' 13 (by decide)];exact a2
    ·rw[st' 15 (by decide)];exact l15
    ·rw[st' 16 (by decide),if_neg h16];exact (Ni (hsub b _ (cT ..))).symm
    ·rw[st' 16 (by decide)];exact λhc=>absurd hc h16
    ·rw[st' 14 (by decide)];exact λhc=>absurd hc h14
   ·refine⟨qq had _,rfl,hF.put (by decide) _,t4,t3,b,st2,.inl ⟨sti,hown,hap4,hsub⟩,?_,.inr ⟨?_,rfl⟩,?_,?_,qp (λ_ _ _ h=>oj h) hz (by decide) rfl (λj hj hl=>tT j (.inr ⟨hj,λhc=>h14 (hc▸hl)⟩) (.inl rfl) (.inl rfl)) a6⟩
    ·rw[st' 13 (by decide)];exact a2
    ·rw[st' 15 (by decide)];exact l15
    ·rw[st' 16 (by decide)];exact λhc=>absurd hc h16
    ·rw[st' 14 (by decide)];exact λhc=>absurd hc h14
  ·simp only[go_sem,dT,hF.1];exact lv hz hJ (by decide) (by decide) λ_ _ _=>rfl
  ·have d1:=hdep ⟨9,.data⟩ (by simp) rfl;have f1:=a6 9 d1 _ _ rfl;simp only[go_sem,dT,f1];exact lv hz hJ (by decide) (by decide) λ_ _ _=>rfl
  ·have d1:=hdep ⟨10,.data⟩ (by simp) rfl;have f1:=a6 10 d1 _ _ rfl;simp only[go_sem,dT,had,f1,fits];exact lv hz hJ (by decide) (by decide) λ_ _ _=>rfl
  ·have d1:=hdep ⟨11,.data⟩ (by simp) rfl;have f1:=a6 11 d1 _ _ rfl;simp only[go_sem,dT,had,f1,fits];exact lv hz hJ (by decide) (by decide) λ_ _ _=>rfl
  ·have d1:=hdep ⟨12,.data⟩ (by simp) rfl;have f1:=a6 12 d1 _ _ rfl;simp only[go_sem,zE,zA,dT,f1];refine (Nc gl t' v htc _).mono ?_;rintro _ st2 ⟨t4,rfl,ht4,ht4c,rfl⟩;have st':∀j,13≠j->(listed.setIfInBounds 13 true).getD j false=listed.getD j false:=λj hj=>by rw[fu (by omega),if_neg hj]
   have sti:(listed.setIfInBounds 13 true).getD 13 false=true:=by rw[fu (by omega),if_pos rfl]
   have h14:listed.getD 14 false≠true:=λhc=>by rw[(a5 hc).1] at hfl;cases hfl
   have h16:listed.getD 16 false≠true:=λhc=>h14 (a4 hc).1;refine⟨qq had _,rfl,hF.put (by decide) _,t2,t4,b,s1,?_,λ_=>⟨ht4,ht4c⟩,?_,?_,?_,qp (λ_ _ _ h=>oj h) hz (by decide) rfl (λj hj hl=>tT j (.inl rfl) (.inr ⟨hj,λhc=>h14 (hc▸hl)⟩) (.inl rfl)) a6⟩
   ·rw[st' 8 (by decide)];exact a1
   ·rw[st' 15 (by decide),st' 16 (by decide)];rw[if_neg h16] at a3 ⊢;exact a3
   ·rw[st' 16 (by decide)];exact λhc=>absurd hc h16
   ·rw[st' 14 (by decide)];exact λhc=>absurd hc h14
  ·have d3:=hdep ⟨3,.data⟩ (by simp) rfl;have d8:=hdep ⟨8,.data⟩ (by simp) rfl;have d13:=hdep ⟨13,.data⟩ (by simp) rfl;have f3:=a6 3 d3 _ _ rfl;have f8:=a6 8 d8 _ _ rfl;have f13:=a6 13 d13 _ _ rfl;simp only[go_sem,zA,zL,dT,f3,f8,f13,fits];have st':∀j,14≠j->(listed.setIfInBounds 14 true).getD j false=listed.getD j false:=λj hj=>by rw[fu (by omega),if_neg hj]
   have sti:(listed.setIfInBounds 14 true).getD 14 false=true:=by rw[fu (by omega),if_pos rfl]
   refine⟨qq had _,rfl,hF.put (by decide) _,t2,t3,b,s1,?_,?_,?_,?_,?_,qp (λ_ _ _ h=>oj h) hz (by decide) rfl (λj hj hl=>rfl) a6⟩
   ·rw[st' 8 (by decide)];exact a1
   ·rw[st' 13 (by decide)];exact a2
   ·rw[st' 15 (by decide),st' 16 (by decide)];exact a3
   ·rw[st' 15 (by decide),st' 16 (by decide)];exact λhc=>⟨sti,(a4 hc).2⟩
   ·rw[st' 13 (by decide),st' 8 (by decide)];exact λ_=>⟨d13,d8⟩
  ·have h16:listed.getD 16 false≠true:=λhc=>by rw[(a4 hc).2] at hfl;cases hfl
   rcases a3 with⟨h15,_⟩|⟨_,rfl⟩
   ·rw[hfl] at h15;cases h15
   simp only[go_sem,dT];refine λb'=>eB λhb'=>?_;have st':∀j,15≠j->(listed.setIfInBounds 15 true).getD j false=listed.getD j false:=λj hj=>by rw[fu (by omega),if_neg hj]
   have sti:(listed.setIfInBounds 15 true).getD 15 false=true:=by rw[fu (by omega),if_pos rfl]
   refine⟨qq had _,rfl,hF.put (by decide) _,t2,t3,b',st1,?_,?_,.inl ⟨sti,hb',?_⟩,?_,?_,qp (λ_ _ _ h=>oj h) hz (by decide) rfl (λj hj hl=>tT j (.inl rfl) (.inl rfl) (.inr hj)) a6⟩
   ·rw[st' 8 (by decide)];exact a1
   ·rw[st' 13 (by decide)];exact a2
   ·rw[st' 16 (by decide),if_neg h16];rfl
   ·rw[st' 16 (by decide)];exact λhc=>absurd hc h16
   ·rw[st' 14 (by decide),st' 13 (by decide),st' 8 (by decide)];exact a5
  ·have d14:=hdep ⟨14,.data⟩ (by simp) rfl;have d15:=hdep ⟨15,.data⟩ (by simp) rfl;have f14:=a6 14 d14 _ _ rfl;have f15:=a6 15 d15 _ _ rfl;unfold brI at f14;rcases a3 with⟨_,hb1,rfl⟩|⟨h15,_⟩
   case inr=>rw[d15] at h15;cases h15
   rw[if_neg (by rw[hfl];decide)];unfold boxZ;simp only[go_sem,zA,zL,dT,had,f14,f15,cT,eZ];have st':∀j,16≠j->(listed.setIfInBounds 16 true).getD j false=listed.getD j false:=λj hj=>by rw[fu (by omega),if_neg hj]
   have sti:(listed.setIfInBounds 16 true).getD 16 false=true:=by rw[fu (by omega),if_pos rfl]
   refine⟨had,rfl,hF,t2,t3,b,s1,?_,?_,.inl ⟨?_,hb1,?_⟩,?_,?_,λj hl d z hs=>?_⟩
   ·rw[st' 8 (by decide)];exact a1
   ·rw[st' 13 (by decide)];exact a2
   ·rw[st' 15 (by decide)];exact d15
   ·rw[if_pos sti];rfl
   ·rw[st' 14 (by decide),st' 15 (by decide)];exact λ_=>⟨d14,d15⟩
   ·rw[st' 14 (by decide),st' 13 (by decide),st' 8 (by decide)];exact a5
   ·have hj:=(oj hs).1;rw[st' j (by omega)] at hl;exact a6 j hl d z hs
 ·intro listed ad fr st1 ds hz hr hJ;have hl:=xX (by decide +kernel) hz hr;obtain⟨_,rfl,⟨f0,f2,f4,f6⟩,t2,t3,b,s1,a1,a2,a3,a4,a5,a6⟩:=hJ;have f7:=a6 15 (hl 15 (by decide)) _ _ rfl;obtain⟨_,hown,hap2,hsub⟩|⟨h8,_⟩:=a1
  case inr=>rw[hl 8 (by decide)] at h8;cases h8
  obtain⟨_,hbn,rfl⟩|⟨h15,_⟩:=a3
  case inr=>rw[hl 15 (by decide)] at h15;cases h15
  rw[if_pos (hl 16 (by decide))];obtain⟨ht3,ht3c⟩:=a2 (hl 13 (by decide));have hbS:=nb hsub hbn;have htb:tb≠b:=λhc=>by rw[hc] at hb;rw[hb] at hbS;cases hbS
  have hbt:(s1.put b (some (.box (brI tb t2 xs t3 v)))) tb=some (.map .sg es):=by rw[de htb];exact hsub _ _ hb
  have hBr:BrSt st b tb l t3 v (s1.put b (some (.box (brI tb t2 xs t3 v)))):=⟨t2,xs,cT ..,hxs,hown.mono λg hg hg0=>by rw[de (λhc=>by rw[hc,hbn] at hg;cases hg)];exact hg,hap2,gU hsub hbS,hbS⟩
  generalize s1.put b (some (.box (brI tb t2 xs t3 v)))=s2 at hbt hBr ⊢;unfold brI at f0;simp only[go_sem,zE,zB,zA,zL,f0,f4,fits];refine (hfind _ hbt).mono ?_;rintro _ _ ⟨rfl,rfl⟩;simp only[go_sem,zE,f2,rowF,hk4,hzs.len];intro _;refine cV q.length (λk fr st' ds=>BrSt st b tb (d_ l (q.take k)) t3 v st'/\fr 6=.box boxZ/\fr 7=.iv (.raw (.pointer (some ⟨b,0,none⟩)))/\fr 41=.iv (.sl tg zs)/\fr 42=.iv (.raw (.int .i64 q.length))/\fr 43=.iv (.raw (.int .i64 k))/\ds=[]) ?_ ?_ ?_
  ·simp only[go_sem,zE,f6,f7];exact⟨hBr,rfl⟩
  ·rintro k fr st3 _ hlt ⟨hB,f6,f7,f41,f42,f43,rfl⟩;obtain⟨a,ha⟩:=dd hlt;obtain⟨y,hky,hy⟩:=hzs.get ha;have hlen:=ij (q.take k) l;rw[List.length_take] at hlen;have hadd:=yp gl st b tb _ t3 v st3 hB (by omega) a y hy;obtain⟨_,_,_,_,_,_,rfl⟩:=hy.agg;simp only[go_sem,zE,zB,zA,zL,f7,f41,f42,f43,lt_i hlt,dc htg,iNn,hky,fits];refine hadd.mono ?_;rintro _ st4 hB';simp only[go_sem,zE,f6,f7,f41,f42,f43,df hlt (show q.length<=281474976710656 by omega)];rw[dK ha,yq];exact hB'
  ·rintro fr st3 _ ⟨hB,f6,f7,f41,f42,f43,rfl⟩;rw[lTl] at hB;obtain⟨hsub3,t4,x4,hb4,hbr⟩:=hB.br ht3 ht3c;unfold brI at hb4;unfold boxZ at f6;simp only[go_sem,zE,zA,zL,f6,f7,f42,f43,dD (nLi _),hb4];exact dZ hsub3 ⟨hbr,rfl⟩
 ·refine⟨λ_=>rfl,rfl,⟨rfl,rfl,rfl,rfl⟩,t,t',0,st,.inr ⟨jh _ _,rfl⟩,λhc=>?_,.inr ⟨jh _ _,rfl⟩,λhc=>?_,λhc=>?_,λi hc=>?_⟩
  all_goals (rw[show _=false from jh _ _] at hc;cases hc)
theorem rV (l q q':List Mk):d_ l (q++q')=d_ (d_ l q) q':=by unfold d_;rw[List.foldl_append]
theorem Ei (s:Sq)(x:IV)(hx:IsSq s x)(hl:s.l.length+s.r.length<=1000000)(st:ISt) :
  ICall prog gl 71 [.raw (.int .u8 1),x] st (λr st'=>∃tb es,st tb=none/\lu es/\IsBr (eW s) tb r/\st'=st.put tb (some (.map .sg es))):=by
 obtain⟨t1,x1,t2,x2,rfl,e1,i1,e2,i2⟩:=hx;refine ICall.intro (c:=cf prog gl [5] []) func71 rfl (by show _<=38;simp) (by kernel_rfl) ?_;simp only[go_sem,zE,zA,reduceCtorEq];refine (DM gl _).mono ?_;rintro _ _ ⟨tb,es,htb,rfl,hok,rfl⟩;obtain⟨S0,hS0⟩:∃S0,S0=st.put tb (some (.map .sg es)):=⟨_,rfl⟩
 rw[<- hS0];simp only[go_sem,zE,zA,zM,zL,fits,dP];refine λb=>eB λhbn=>?_;have hBr:BrSt S0 b tb [] ⟨true,.full,1⟩ (-1) (S0.put b (some (.box (brI tb ⟨true,.nil,0⟩ [] ⟨true,.full,1⟩ (-1))))):=⟨_,[],cT ..,rfl,.inl ⟨rfl,rfl⟩,.inl ⟨rfl,rfl⟩,fj hbn,hbn⟩
 simp only[go_sem,eZ,i1.len];intro _;refine cV s.l.length (λk fr st' ds=>BrSt S0 b tb (d_ [] ((s.l.take k).map (⟨true,0,·⟩))) ⟨true,.full,1⟩ (-1) st'/\fr 3=.box [.sl t1 x1,.sl t2 x2]/\fr 4=.box boxZ/\fr 5=.iv (.raw (.pointer (some ⟨b,0,none⟩)))/\fr 16=.iv (.sl t1 x1)/\fr 17=.iv (.raw (.int .i64 s.l.length))/\fr 18=.iv (.raw (.int .i64 k))/\ds=[]) ?_ ?_ ?_
 ·simp only[go_sem,zE];exact⟨hBr,rfl,rfl⟩
 ·rintro k fr st3 _ hlt ⟨hB,f3,f4,f5,f16,f17,f18,rfl⟩;obtain⟨a,ha⟩:=dd hlt;obtain⟨y,hky,hy⟩:=i1.get ha;have hy0:=hy;obtain⟨o5,n5,t5,x5,t6,x6,rfl⟩:=hy.agg;have hadd:=yp gl S0 b tb _ _ _ st3 hB (by have h9:=ij ((s.l.take k).map (⟨true,0,·⟩)) [];have h8:=ij (s.l.map (⟨true,0,·⟩)) [];simp only[List.length_map,List.length_take,List.length_nil] at h8 h9 ⊢;omega) ⟨true,0,a⟩ _ ⟨_,_,_,_,_,_,rfl,hy0⟩;simp only[go_sem,zE,zB,zA,zL,f5,f16,f17,f18,lt_i hlt,dc e1,iNn,hky,fits];refine hadd.mono ?_;rintro _ st4 hB';simp only[go_sem,zE,f3,f4,f5,f16,f17,f18,df hlt (show s.l.length<=281474976710656 by omega)];rw[dK ha,List.map_append,rV];exact hB'
 ·rintro fr st2 _ ⟨hB,f3,f4,f5,f16,f17,f18,rfl⟩;rw[lTl] at hB;simp only[go_sem,zE,f3,f17,f18,dD (nLi _),i2.len];intro _;refine cV s.r.length (λk fr st' ds=>BrSt S0 b tb (d_ (d_ [] (s.l.map (⟨true,0,·⟩))) ((s.r.take k).map (⟨false,0,·⟩))) ⟨true,.full,1⟩ (-1) st'/\fr 4=.box boxZ/\fr 5=.iv (.raw (.pointer (some ⟨b,0,none⟩)))/\fr 27=.iv (.sl t2 x2)/\fr 28=.iv (.raw (.int .i64 s.r.length))/\fr 29=.iv (.raw (.int .i64 k))/\ds=[]) ?_ ?_ ?_
  ·simp only[go_sem,zE,f4,f5];exact⟨hB,rfl⟩
  ·rintro k fr st3 _ hlt ⟨hB,f4,f5,f27,f28,f29,rfl⟩;obtain⟨a,ha⟩:=dd hlt;obtain⟨y,hky,hy⟩:=i2.get ha;have hy0:=hy;obtain⟨o5,n5,t5,x5,t6,x6,rfl⟩:=hy.agg;have hadd:=yp gl S0 b tb _ _ _ st3 hB (by have h9:=ij ((s.r.take k).map (⟨false,0,·⟩)) (d_ [] (s.l.map (⟨true,0,·⟩)));have h8:=ij (s.l.map (⟨true,0,·⟩)) [];simp only[List.length_map,List.length_take,List.length_nil] at h8 h9 ⊢;omega) ⟨false,0,a⟩ _ ⟨_,_,_,_,_,_,rfl,hy0⟩;simp only[go_sem,zE,zB,zA,zL,f5,f27,f28,f29,lt_i hlt,dc e2,iNn,hky,fits];refine hadd.mono ?_;rintro _ st4 hB';simp only[go_sem,zE,f4,f5,f27,f28,f29,df hlt (show s.r.length<=281474976710656 by omega)];rw[dK ha,List.map_append,rV];exact hB'
  ·rintro fr st3 _ ⟨hB,f4,f5,f27,f28,f29,rfl⟩;rw[lTl,<- rV] at hB;obtain⟨hsub3,t4,x4,hb4,hbr⟩:=hB.br (.inr rfl) (by simp);unfold brI at hb4;unfold boxZ at f4;simp only[go_sem,zE,zA,zL,f4,f5,f28,f29,dD (nLi _),hb4];exact dZ hsub3 ⟨tb,es,htb,hok,hbr,hS0⟩
theorem Nj (a b:Fm)(x y:IV)(hx:IsFm a x)(hy:IsFm b y)(st:ISt):ICall prog gl 165 [x,y] st (λr st'=>r=.raw (.bool (decide (gX a b=0)))/\st'=st):=by
 have h:=λst=>M8 gl a b x y hx hy st;obtain⟨_,_,_,_,_,_,rfl⟩:=hx.agg;obtain⟨_,_,_,_,_,_,rfl⟩:=hy.agg;refine iI func165 ?_;simp only[go_sem,zE,zA,zL];refine (h _).mono ?_;rintro _ _ ⟨rfl,rfl⟩;simp only[go_sem];exact cO ⟨rfl,rfl⟩
theorem Nk (a m:Mk)(y x:IV)(hy:IsMk a y)(hx:IsMk m x)(st:ISt):ICall prog gl 123 [y,x] st (λr st'=>r=.raw (.bool (mkB a m))/\st'=st):=by
 obtain⟨i,w,f⟩:=a;obtain⟨i',w',f'⟩:=m;obtain⟨o5,n5,t5,x5,t6,x6,rfl,h1⟩:=hy;obtain⟨o7,n7,t7,x7,t8,x8,rfl,h2⟩:=hx;have hs:=λst=>Nj gl f f' _ _ h1 h2 st;refine iI func123 ?_;by_cases hi:i=i'
 case neg =>
  have hb:(i == i')=false:=by simp[hi]
  simp only[go_sem,zE,zA,hb];exact cO ⟨by simp[mkB,hi],rfl⟩
 have hb:(i == i')=true:=by simp[hi]
 by_cases hw:w=w'
 case neg =>
  simp only[go_sem,zE,zA,hb,dEf hw];exact cO ⟨by simp[mkB,hw],rfl⟩
 simp only[go_sem,zE,zA,zL,hb,dEt hw];refine (hs _).mono ?_;rintro _ _ ⟨rfl,rfl⟩;simp only[go_sem,zE];exact cO ⟨by simp[mkB,hi,hw],rfl⟩
def RBr (l:List Mk)(x:IV):Prop:=∃(t:Tag) (xs:List IV) (t':Tag) (vs:List IV),x=.agg [.raw (.int .u8 1),.sl t xs,.sl t' vs]/\okEs t 6/\IsMks l xs
theorem tU (l:List Mk)(x:IV)(hx:RBr l x)(m:Mk)(y:IV)(hy:IsMk m y)(st:ISt):ICall prog gl 82 [x,y] st (λr st'=>r=.raw (.bool (hasT l m))/\st'=st):=by
 obtain⟨t,xs,t',vs,rfl,ht,hxs⟩:=hx;have hy0:=hy;obtain⟨o7,n7,t7,x7,t8,x8,rfl,_⟩:=hy;have hlen:=hxs.len;refine iI func82 ?_;simp only[go_sem,zE];refine cV l.length (λk fr st' ds=>hasT (l.take k) m=false/\fr 2=.box [.raw (.int .u8 1),.sl t xs,.sl t' vs]/\fr 3=.box [.raw (.bool m.is),.raw (.int .i64 m.w),.raw (.int .u8 o7),.raw (.string n7),.sl t7 x7,.sl t8 x8]/\fr 5=.iv (.raw (.int .i64 k))/\st'=st/\ds=[]) ?_ ?_ ?_
 ·simp only[go_sem,zE];exact⟨rfl,rfl⟩
 ·rintro k fr st1 _ hlt ⟨hn,f2,f3,f5,rfl,rfl⟩;obtain⟨a,ha⟩:=dd hlt;obtain⟨z,hkz,hz⟩:=hxs.get ha;have hs:=λst=>Nk gl a m _ _ hz hy0 st;obtain⟨o5,n5,t5,x5,t6,x6,rfl,_⟩:=hz;simp only[go_sem,zE,zB,zA,zL,f2,f3,f5,hxs.len,lt_i hlt,dc ht,iNn,hkz,fits];intro _;refine (hs _).mono ?_;rintro _ _ ⟨rfl,rfl⟩;cases hc:mkB a m
  ·simp only[go_sem,zE,f2,f3,f5,df hlt (show l.length<=281474976710656 by omega)];unfold hasT at hn ⊢;rw[dK ha,List.any_append,hn];simp[hc]
  ·simp only[go_sem];exact cO ⟨by rw[show hasT l m=true from List.any_eq_true.2 ⟨_,lMg ha,hc⟩],rfl⟩
 ·rintro fr st1 _ ⟨hn,f2,f3,f5,rfl,rfl⟩;rw[lTl] at hn;simp only[go_sem,zE,f2,f5,hxs.len,dD (nLi _)];intro _;exact cO ⟨by rw[hn],rfl⟩
theorem rW (l:List Mk)(x:IV)(hx:RBr l x)(q:List Mk)(tq:Tag)(zs:List IV)(htq:okEs tq 6)(hzs:IsMks q zs)(hl:l.length+q.length<=1000000)(st:ISt) :
  ICall prog gl 84 [x,.sl tq zs] st (λr st'=>RBr (d_ l q) r/\st'=st):=by
 obtain⟨t,xs,t3,v3,rfl,ht,hxs⟩:=hx;refine iI func84 ?_;simp only[go_sem,zE,zA,zM,zL,show jH 0 []=true from rfl];refine w_ (m:=l.length) (own.full st st 0 6) rfl hxs.len (subSt.refl _) rfl (tQ hxs) (by simp only;omega) (by omega) λtg2 st4 hown2 hsub4 _ _=>?_;rw[Nat.zero_add] at hown2;simp only[go_sem,zE,zA,zL];refine cV q.length (λk fr st' ds=>(∃t' ys,fr 2=.box [.raw (.int .u8 1),.sl t' ys,.sl t3 v3]/\IsMks (d_ l (q.take k)) ys/\own st' t' (d_ l (q.take k)).length 6 st/\subSt st st')/\fr 1=.iv (.sl tq zs)/\fr 4=.box [.raw (.int .u8 0),.sl ⟨true,.nil,0⟩ [],.sl ⟨true,.nil,0⟩ []]/\fr 5=.iv (.raw (.int .i64 k))/\ds=[]) ?_ ?_ ?_
 ·simp only[go_sem,zE];exact⟨⟨_,_,rfl,hxs,hown2,hsub4⟩,rfl⟩
 ·rintro k fr st1 _ hlt ⟨⟨t',ys,f2,hys,hown,hsub⟩,f1,f4,f5,rfl⟩;obtain⟨a,ha⟩:=dd hlt;obtain⟨y,hky,hy⟩:=hzs.get ha;have hlen:=ij (q.take k) l;rw[List.length_take] at hlen;have hh:=λst=>tU gl _ _ ⟨t',ys,t3,v3,rfl,hown.es,hys⟩ a y hy st;have hy0:=hy;obtain⟨o5,n5,t5,x5,t6,x6,rfl,h1⟩:=hy;rw[dK ha,yq];simp only[go_sem,zE,zB,zA,zL,f1,f2,f5,hzs.len,lt_i hlt,dc htq,iNn,hky,fits];intro _;refine (hh _).mono ?_;rintro _ _ ⟨rfl,rfl⟩;unfold addT;cases hq:hasT (d_ l (q.take k)) a
  ·simp only[go_sem,zE,zB,zA,zM,zL,reduceCtorEq,f1,f2,f5,dc htq,iNn,hky,fits,dP];refine iG hown hys.len hsub rfl (by simp[fits,IV.one]) (by simp only;omega) (by omega) λtg3 st5 hown3 hsub5 _ _=>?_;simp only[go_sem,zE,zA,zL,f1,f2,f4,f5,df hlt (show q.length<=281474976710656 by omega)];exact⟨tg3,_,rfl,hys.append (IsMks.one hy0),by rw[lLa];exact hown3,hsub5⟩
  ·simp only[go_sem,zE,f1,f2,f4,f5,df hlt (show q.length<=281474976710656 by omega)];exact⟨t',ys,rfl,hys,hown,hsub⟩
 ·rintro fr st1 _ ⟨⟨t',ys,f2,hys,hown,hsub⟩,f1,f4,f5,rfl⟩;rw[lTl] at hys;simp only[go_sem,zE,zA,zL,f1,f2,f4,f5,hzs.len,dD (nLi _)];intro _;exact dZ hsub ⟨⟨t',ys,t3,v3,rfl,hown.es,hys⟩,rfl⟩
theorem Ej (s:Sq)(x:IV)(hx:IsSq s x)(hl:s.l.length+s.r.length<=900000)(st:ISt):ICall prog gl 43 [.raw (.int .u8 1),x] st (λr st'=>RBr (eW s) r/\st'=st):=by
 obtain⟨t1,x1,t2,x2,rfl,e1,i1,e2,i2⟩:=hx;refine iI func43 ?_;simp only[go_sem,zE,zA,zM,zL,reduceCtorEq,fits,dP];refine cV s.l.length (λk fr st' ds=>(∃t' ys t3 v3,fr 5=.box [.raw (.int .u8 1),.sl t' ys,.sl t3 v3]/\okEs t' 6/\IsMks (d_ [] ((s.l.take k).map (⟨true,0,·⟩))) ys)/\fr 3=.box [.sl t1 x1,.sl t2 x2]/\fr 4=.box [.raw (.int .u8 0),.sl ⟨true,.nil,0⟩ [],.sl ⟨true,.nil,0⟩ []]/\fr 6=.iv (.raw (.int .i64 k))/\st'=st/\ds=[]) ?_ ?_ ?_
 ·simp only[go_sem,zE];exact⟨⟨_,_,_,_,rfl,.inl rfl,rfl⟩,rfl⟩
 ·rintro k fr st1 _ hlt ⟨⟨t',ys,t3,v3,f5,ht',hys⟩,f3,f4,f6,rfl,rfl⟩;obtain⟨a,ha⟩:=dd hlt;obtain⟨y,hky,hy⟩:=i1.get ha;have hlen:=ij ((s.l.take k).map (⟨true,0,·⟩)) [];have hsz:(((s.l.take k).map (⟨true,0,·⟩)):List Mk).length=k:=by simp;omega
  obtain⟨o5,n5,t5,x5,t6,x6,rfl⟩:=hy.agg;have hW:=λst=>rW gl _ _ ⟨t',ys,t3,v3,rfl,ht',hys⟩ [⟨true,0,a⟩] ⟨true,.full,6⟩ _ (.inr rfl) (mks1 (mkOf hy)) (by simp only[List.length_cons,List.length_nil] at hlen ⊢;omega) st;simp only[go_sem,zE,zB,zA,zM,zL,f3,f5,f6,i1.len,lt_i hlt,dc e1,iNn,hky,fits,dP];intro _;refine (hW _).mono ?_;rintro _ _ ⟨⟨t4,z4,t5',v5,rfl,e4,i4⟩,rfl⟩;simp only[go_sem,zE,zA,zL,f3,f4,f5,f6,df hlt (show s.l.length<=281474976710656 by omega)];exact⟨t4,z4,t5',v5,rfl,e4,by rw[dK ha,List.map_append,List.map_singleton,rV];exact i4⟩
 ·rintro fr st1 _ ⟨⟨t',ys,t3,v3,f5,ht',hys⟩,f3,f4,f6,rfl,rfl⟩;rw[lTl] at hys;simp only[go_sem,zE,f3,f6,i1.len,dD (nLi _)];intro _;refine cV s.r.length (λk fr st' ds=>(∃t' ys t3 v3,fr 5=.box [.raw (.int .u8 1),.sl t' ys,.sl t3 v3]/\okEs t' 6/\IsMks (d_ [] (s.l.map (⟨true,0,·⟩:Fm->Mk)++(s.r.take k).map (⟨false,0,·⟩:Fm->Mk))) ys)/\fr 3=.box [.sl t1 x1,.sl t2 x2]/\fr 4=.box [.raw (.int .u8 0),.sl ⟨true,.nil,0⟩ [],.sl ⟨true,.nil,0⟩ []]/\fr 7=.iv (.raw (.int .i64 k))/\st'=st1/\ds=[]) ?_ ?_ ?_
  ·simp only[go_sem,zE,f3,f4,f5];exact⟨⟨_,_,_,_,rfl,ht',by simpa using hys⟩,rfl⟩
  ·rintro k fr st1 _ hlt ⟨⟨t',ys,t3,v3,f5,ht',hys⟩,f3,f4,f7,rfl,rfl⟩;obtain⟨a,ha⟩:=dd hlt;obtain⟨y,hky,hy⟩:=i2.get ha;have hlen:=ij (s.l.map (⟨true,0,·⟩:Fm->Mk)++(s.r.take k).map (⟨false,0,·⟩:Fm->Mk)) [];have hsz:((s.l.map (⟨true,0,·⟩:Fm->Mk)++(s.r.take k).map (⟨false,0,·⟩:Fm->Mk)):List Mk).length=s.l.length+k:=by simp;omega
   obtain⟨o5,n5,t5,x5,t6,x6,rfl⟩:=hy.agg;have hW:=λst=>rW gl _ _ ⟨t',ys,t3,v3,rfl,ht',hys⟩ [⟨false,0,a⟩] ⟨true,.full,6⟩ _ (.inr rfl) (mks1 (mkOf hy)) (by simp only[List.length_cons,List.length_nil] at hlen ⊢;omega) st;simp only[go_sem,zE,zB,zA,zM,zL,f3,f5,f7,i2.len,lt_i hlt,dc e2,iNn,hky,fits,dP];intro _;refine (hW _).mono ?_;rintro _ _ ⟨⟨t4,z4,t5',v5,rfl,e4,i4⟩,rfl⟩;simp only[go_sem,zE,zA,zL,f3,f4,f5,f7,df hlt (show s.r.length<=281474976710656 by omega)];exact⟨t4,z4,t5',v5,rfl,e4,by rw[dK ha,List.map_append,List.map_singleton,<- List.append_assoc,rV];exact i4⟩
  ·rintro fr st1 _ ⟨⟨t',ys,t3,v3,f5,ht',hys⟩,f3,f4,f7,rfl,rfl⟩;rw[lTl] at hys;simp only[go_sem,zE,zA,zL,f3,f4,f5,f7,i2.len,dD (nLi _)];intro _;exact cO ⟨⟨t',ys,t3,v3,rfl,ht',hys⟩,rfl⟩
theorem Nl (l:List Mk)(x:IV)(hx:RBr l x)(m:Mk)(y:IV)(hy:IsMk m y)(st:ISt):ICall prog gl 163 [x,y] st (λr st'=>r=.raw (.bool (lr l m))/\st'=st):=by
 obtain⟨is,w,f⟩:=m;obtain⟨o7,n7,t7,x7,t8,x8,rfl,hf⟩:=hy;have hh:=λst=>tU gl l x hx ⟨!is,w,f⟩ _ ⟨_,_,_,_,_,_,rfl,hf⟩ st;obtain⟨o,n,us,sub⟩:=f;obtain⟨_,_,_,_,he,ho,_⟩:=hf.mk;simp only[IV.agg.injEq,List.cons.injEq,IV.raw.injEq,Value.int.injEq,true_and,and_true] at he;obtain⟨rfl,_⟩:=he;obtain⟨t,xs,t',vs,rfl,ht,hxs⟩:=hx;have d2:decide ((o:Int)=2)=decide (o=2):=by rw[decide_eq_decide];omega
 have hc:lr l ⟨is,w,.mk o n us sub⟩=((is&&decide (o=2)) || hasT l ⟨!is,w,.mk o n us sub⟩):=rfl;rw[hc];refine iI func163 ?_;simp only[go_sem,zE,zA,zL,fits];refine (hh _).mono ?_;rintro _ _ ⟨rfl,rfl⟩;cases hq:hasT l ⟨!is,w,.mk o n us sub⟩
 ·cases is
  ·simp only[go_sem,zE,zA];exact cO ⟨rfl,rfl⟩
  ·simp only[go_sem,zE,zA,d2];exact cO ⟨by simp,rfl⟩
 ·simp only[go_sem,zE];exact cO ⟨by simp,rfl⟩
