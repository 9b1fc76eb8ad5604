/- Walks: Small of lyceumlaw19. -/
import Derived.Test.YtofmbookakncjaaGreatDoorQG
import Derived.Test.YtofmbookakncjaaGreatDoorKE
import Derived.Deep.DeepHandedRow
set_option linter.all false
open Nat renaming reduceEqDiff → zE,reduceBEq → zB,reduceAdd → zA,reduceMul → zM,reduceLeDiff → zL
namespace Go.Proofs.Tryz
open Go Go.Iv
set_option maxRecDepth 4000
variable (gl:Nat->Option IV)
mutual
def wTr:Tr->Nat
 | .mk _ s f u n sub=>wFms s.l+wFms s.r+wFm f+wTm u+n.size+wTrs sub
def wTrs:List Tr->Nat
 | []=>0
 | a::l=>wTr a+wTrs l
end
def xJs (s:Sq)(f:Fm)(u:Tm)(n:ByteArray):Bool:=decide (wFms s.l+wFms s.r<=300)&&!decide (300<wFm f)&&!decide (300<wTm u)&&!decide (100<n.size)
mutual
def okT:Tr->Bool
 | .mk _ s f u n sub=>xJs s f u n&&okTs sub
def okTs:List Tr->Bool
 | []=>true
 | a::l=>okT a&&okTs l
end
theorem yU8:∀l m:List Tr,okTs (l++m)=(okTs l&&okTs m)
 | [],m=>by simp[okTs]
 | a::l,m=>by simp only[List.cons_append,okTs,yU8 l m,Bool.and_assoc]
theorem wXd {l:List Tr}{k:Nat}{a:Tr}(h:l[k]?=some a):okTs (l.take (k+1))=(okTs (l.take k)&&okT a):=by
 rw[yQ6 h,yU8];simp[okTs]
theorem vZc (l:List Tr)(k:Nat)(h:okTs l=true):okTs (l.take k)=true:=by
 rw[<- List.take_append_drop k l,yU8,bAt] at h;exact h.1
theorem xXx {l:List Tr}{k:Nat}{a:Tr}(h:l[k]?=some a):yQr (l.take (k+1))=yQr (l.take k)+a.steps:=by
 rw[yQ6 h,yKo];simp[yQr]
theorem wZd (l:List Tr)(k:Nat):yQr (l.take k)<=yQr l:=by
 conv=>rhs;rw[<- List.take_append_drop k l]
 rw[yKo];omega
theorem zYu:∀ {l:List Tr}{t:Tr},t∈l->wTr t<=wTrs l
 | a::l,t,h=>by
  simp only[wTrs];rcases List.mem_cons.1 h with rfl|h
  ·omega
  ·have:=zYu h;omega
theorem Sum.gt {w:Nat}{r:IV}(h:Sum w 300 r):∃n:Nat,r=.raw (.int .i64 n)/\decide ((300:Int)<(n:Int))=decide (300<w):=by
 obtain⟨n,rfl,h1,h2⟩:=h;refine⟨n,rfl,?_⟩;rw[decide_eq_decide];constructor
 ·intro h;omega
 ·intro h;rcases Int.lt_or_le 300 (n:Int) with A|A
  ·exact A
  ·have:=h2 A;omega
def vU0 (t:Tr)(left:Int)(r:Int):Prop:=-1<=r/\r<=left/\(0<=r↔okT t=true/\(t.steps:Int)<=left)/\(0<=r->r=left-t.steps)
def sC (t:Tr):Prop:=∀(x:IV) (_:IsTr t x) (left:Int) (_:0<=left/\left<=1000) (_:wTr t<=1099511627776) (st:ISt),
 ICall prog gl 28 [x,.raw (.int .i64 left)] st (λr st'=>(∃n:Int,r=.raw (.int .i64 n)/\vU0 t left n)/\st'=st)
theorem xU0 (rule:Nat)(s:Sq)(f:Fm)(u:Tm)(n:ByteArray)(sub:List Tr)(IH:∀a∈sub,sC gl a):sC gl (.mk rule s f u n sub):=by
 intro x hx left hl hw st;obtain⟨tl,xl,tr,xr,op,fn,ta,xa,tb,xb,v,un,tu,xu,ts,xs,rfl,a8,e1,i1,e2,i2,hy,hz,e3,i3⟩:=hx.mk;simp only[wTr] at hw;have ak:=λst=>vUa gl s _ ⟨tl,xl,tr,xr,rfl,e1,i1,e2,i2⟩ ⟨by omega,by omega⟩ st;have aq:=λst=>xJh gl [f] ⟨true,.full,4⟩ _ (.inr rfl) ⟨_,_,rfl,hy,rfl⟩ 300 ⟨by omega,by omega⟩ (by simp only[wFms];omega) st;have htm:=λst=>xW4 gl [u] ⟨true,.full,3⟩ _ (.inr rfl) ⟨_,_,rfl,hz,rfl⟩ 300 ⟨by omega,by omega⟩ (by simp only[wTms];omega) st;have D:xJs s f u n=false->vU0 (.mk rule s f u n sub) left (-1):=λh=>by
  refine⟨by omega,by omega,⟨λh=>by omega,λh'=>?_⟩,λh=>by omega⟩;simp only[okT,h,Bool.false_and,bFt,false_and] at h'
 refine iI func28 ?_;simp only[go_sem,zE,zA,zL];refine (ak _).mono ?_;rintro _ st ⟨rfl,rfl⟩;unfold xJs at D;cases q1:decide (wFms s.l+wFms s.r<=300)
 ·simp only[go_sem,zE];exact yQ0 ⟨⟨-1,rfl,D (by rw[q1];rfl)⟩,rfl⟩
 simp only[go_sem,zE,zA,zM,zL,fits,yQ4];refine (aq _).mono ?_;rintro _ st ⟨hS,rfl⟩;obtain⟨m,rfl,hd⟩:=hS.gt;rw[show wFms [f]=wFm f from by simp[wFms]] at hd;cases q2:decide (300<wFm f)
 case true =>
  rw[q2] at hd;simp only[go_sem,zE,hd];exact yQ0 ⟨⟨-1,rfl,D (by rw[q1,q2];rfl)⟩,rfl⟩
 rw[q2] at hd;simp only[go_sem,zE,zA,zM,zL,fits,hd,yQ4];refine (htm _).mono ?_;rintro _ st ⟨ay,rfl⟩;obtain⟨m2,rfl,G⟩:=ay.gt;rw[show wTms [u]=wTm u from by simp[wTms]] at G;cases q3:decide (300<wTm u)
 case true =>
  rw[q3] at G;simp only[go_sem,zE,G];exact yQ0 ⟨⟨-1,rfl,D (by rw[q1,q2,q3];rfl)⟩,rfl⟩
 rw[q3] at G;have aa:decide ((100:Int)<((n.size:Nat):Int))=decide (100<n.size):=by rw[decide_eq_decide];omega
 cases q4:decide (100<n.size)
 case true =>
  rw[q4] at aa;simp only[go_sem,zE,G,aa];intro _;exact yQ0 ⟨⟨-1,rfl,D (by rw[q1,q2,q3,q4];rfl)⟩,rfl⟩
 rw[q4] at aa;have J:xJs s f u n=true:=by unfold xJs;rw[q1,q2,q3,q4];rfl
 have wl:IntKind.i64.wrap (left-1)=left-1:=w64 (by omega) (by omega);simp only[go_sem,zE,G,aa,wl];intro _;refine LoopC.ctr sub.length (λk fr st' ds=>(∃l:Int,fr 1=.iv (.raw (.int .i64 l)) /\ -1<=l/\l<=left-1/\(0<=l↔okTs (sub.take k)=true/\((yQr (sub.take k):Nat):Int)+1<=left)/\(0<=l->l=left-1-(yQr (sub.take k):Nat))) /\
  fr 2=.box [.raw (.int .u8 rule),.sl tl xl,.sl tr xr,.raw (.int .u8 op),.raw (.string fn),.sl ta xa,.sl tb xb,.raw (.bool v),.raw (.string un),.sl tu xu,.raw (.string n),.sl ts xs]/\fr 5=.iv (.raw (.int .i64 k))/\st'=st/\ds=[]) ?_ ?_ ?_
 ·simp only[go_sem,zE];exact⟨⟨left-1,rfl,by omega,by omega,⟨λh=>⟨rfl,by simp only[yQr];omega⟩,λh=>by have:=h.2;simp only[yQr] at this;omega⟩,λ_=>by simp only[yQr];omega⟩,rfl⟩
 ·rintro k fr an _ O ⟨⟨l,f1,ab,aw,E,U⟩,f2,f5,rfl,rfl⟩;obtain⟨a,ha⟩:=yQ1 O;obtain⟨z,ax,ah⟩:=i3.get ha;have aj:=wXd ha;have hst:=xXx ha;by_cases A:(0:Int)<=l
  ·have ac:=λst=>IH a (lMg ha) z ah l ⟨A,by omega⟩ (by have:=zYu (lMg ha);omega) st;obtain⟨ao,aT,aF,aS,aE,aY,bd,aW,aI,aU,aG,v',aL,aN,aA,n',aQ,aC,rfl⟩:=yZy ah;simp only[go_sem,zE,zB,zA,f1,f2,f5,i3.len,lt_i O,dEt A,yQ3 e3,iNn,ax,fits];intro _;refine (ac _).mono ?_;rintro _ aX ⟨⟨r,rfl,av,ba,ai,au⟩,rfl⟩;simp only[go_sem,zE,f2,f5,yQc O (show sub.length<=281474976710656 by omega)];have g3:=E.1 A;have g4:=U A;refine⟨r,rfl,av,by omega,?_,λh=>by have:=au h;rw[hst];omega⟩;rw[aj,hst,g3.1,Bool.true_and];constructor
   ·intro h;have:=ai.1 h;exact⟨this.1,by omega⟩
   ·intro h;exact ai.2 ⟨h.1,by have:=h.2;omega⟩
  ·simp only[go_sem,zE,f1,f2,f5,i3.len,lt_i O,dEf A];intro _;refine yQ0 ⟨⟨l,rfl,ab,by omega,⟨λh=>absurd h A,λh=>?_⟩,λh=>absurd h A⟩,rfl⟩;have h1:=h.1;have h2:=h.2;simp only[okT,J,Bool.true_and] at h1;simp only[Tr.steps] at h2;have h3:=wZd sub k;exact absurd (E.2 ⟨vZc sub k h1,by omega⟩) A
 ·rintro fr an _ ⟨⟨l,f1,ab,aw,E,U⟩,f2,f5,rfl,rfl⟩;rw[lTl] at E U;simp only[go_sem,zE,f1,f2,f5,i3.len,yQl (nLi _)];intro _;refine yQ0 ⟨⟨l,rfl,ab,by omega,?_,λh=>by have:=U h;simp only[Tr.steps];omega⟩,rfl⟩;simp only[okT,J,Bool.true_and,Tr.steps];constructor
  ·intro h;have:=E.1 h;exact⟨this.1,by omega⟩
  ·intro h;exact E.2 ⟨h.1,by have:=h.2;omega⟩
theorem xQc:∀(k:Nat)(t:Tr),SizeOf.sizeOf t<k->sC gl t
 | 0,t,h=>by omega
 | k+1,.mk r sq f u n sub,h=>xU0 gl r sq f u n sub (λa A=>xQc k a (by
   have:=lSm A;simp at h;omega))
theorem wWw (t:Tr):sC gl t:=xQc gl _ t (Nat.lt_succ_self _)
theorem wGj (t:Tr)(x:IV)(D:IsTr t x)(hw:wTr t<=1099511627776)(st:ISt):ICall prog gl 6 [x] st (λr st'=>r=.raw (.bool (okT t&&decide (t.steps<=60)))/\st'=st):=by
 have hs:=λst=>wWw gl t x D 60 ⟨by omega,by omega⟩ hw st;obtain⟨A,ag,O,af,J,aj,am,ai,aa,ah,U,v',ab,ac,E,n',ae,G,rfl⟩:=yZy D;refine iI func6 ?_;simp only[go_sem,zE,zA,zL];refine (hs _).mono ?_;rintro _ st ⟨⟨r,rfl,h1,h2,h3,h4⟩,rfl⟩;have hd:decide ((0:Int)<=r)=(okT t&&decide (t.steps<=60)):=by
  rw[Bool.eq_iff_iff,dTe,h3,bAt,dTe];constructor<;>intro h<;>exact⟨h.1,by have:=h.2;omega⟩
 simp only[go_sem,hd];exact yQ0 ⟨rfl,rfl⟩
end Go.Proofs.Tryz
namespace Go.Proofs.Tryz
open Go Go.Iv
mutual
theorem xVr:∀t:Tm,t.size<=wTm t
 | .mk _ n us=>by have:=zJt us;simp only[wTm,Tm.size];omega
theorem zJt:∀l:List Tm,yQf l<=wTms l
 | []=>Nat.le_refl _
 | a::l=>by have:=xVr a;have:=zJt l;simp only[wTms,yQf];omega
end
mutual
theorem xVs:∀f:Fm,f.size<=wFm f
 | .mk _ n us sub=>by have:=zJt us;have:=zQ1 sub;simp only[wFm,Fm.size];omega
theorem zQ1:∀l:List Fm,yQb l<=wFms l
 | []=>Nat.le_refl _
 | a::l=>by have:=xVs a;have:=zQ1 l;simp only[wFms,yQb];omega
end
theorem zWw {s:Sq}{f:Fm}{u:Tm}{n:ByteArray}(h:xJs s f u n=true):wFms s.l+wFms s.r<=300/\wFm f<=300/\wTm u<=300/\n.size<=100:=by
 unfold xJs at h;grind
theorem xYt {s:Sq}(h:wFms s.l+wFms s.r<=300):yXq s:=by
 have:=zQ1 s.l;have:=zQ1 s.r;exact⟨λf A=>by have:=yW3 A;omega,λf A=>by have:=yW3 A;omega⟩
theorem xWe:∀ {l:List Tr}{a:Tr},okTs l=true->a∈l->okT a=true
 | b::l,a,h,A=>by
  simp only[okTs,bAt] at h;rcases List.mem_cons.1 A with rfl|A
  ·exact h.1
  ·exact xWe h.2 A
theorem wY2:∀ {t:Tr},okT t=true->zWv t
 | .mk rule s m u n sub,h=>by
  simp only[okT,bAt] at h;obtain⟨h1,h2,U,_⟩:=zWw h.1;have:=xVs m;have:=xVr u;refine⟨xYt h1,by omega,by omega,λa E=>?_⟩;have:=xWe h.2 E;obtain⟨A,s',O,G,J,D⟩:=a;simp only[okT,bAt] at this;exact xYt (zWw this.1).1
mutual
theorem xWf:∀(p:List Nat)(t:Tr),okT t=true->∀q∈t.walk p,okT q.2=true
 | p,.mk rule s m u n sub,h,q,A=>by
  simp only[Tr.walk,List.mem_cons] at A;rcases A with rfl|A
  ·exact h
  ·simp only[okT,bAt] at h;exact xQp p 0 sub h.2 q A
theorem xQp:∀(p:List Nat)(i:Nat)(l:List Tr),okTs l=true->∀q∈yQk p i l,okT q.2=true
 | _,_,[],_,q,A=>by cases A
 | p,i,a::l,h,q,A=>by
  simp only[okTs,bAt] at h;simp only[yQk,List.mem_append] at A;rcases A with A|A
  ·exact xWf _ a h.1 q A
  ·exact xQp p (i+1) l h.2 q A
end
theorem zK8 {t:Tr}(h:okT t=true)(hs:t.steps<=1099511627776):zKx t:=⟨λq A=>wY2 (xWf [] t h q A),Nat.le_trans t.height_le_steps hs⟩
theorem xY2 {o:Nat}(h:o<=7):isQ o=false:=by
 rcases (show o=0\/o=1\/o=2\/o=3\/o=4\/o=5\/o=6\/o=7 by omega) with rfl|rfl|rfl|rfl|rfl|rfl|rfl|rfl<;>rfl
theorem wY1 {f:Fm}(h:PF f)(fr:List ByteArray)(ar:Ar):zW1 fr ar f=f:=by
 induction h with
 | atom n=>simp[zW1,yKx,yX3,xY2 (o:=1) (by omega)]
 | fls=>simp[zW1,yKx,yX3,xY2 (o:=2) (by omega)]
 | neg h E=>simp[zW1,yKx,yX3,xY2 (o:=3) (by omega),E]
 | bin J G _ _ D A=>simp[zW1,yKx,yX3,xY2 G,D,A]
theorem wGz {ca:Nat}(hc:ca=1\/ca=2){s:Sq}(hv:yQm ca s=true):SetS s=(sqOf (nf (s.l,s.r)),0):=by
 have D:=yY9 hv;have key:∀l:List Fm,(∀f∈l,fmB ca f=true)->yXa l=(setF l,0):=λl hl=>by
  unfold yXa;rw[if_pos (List.all_eq_true.2 λf A=>yZi (hl f A))];have:l.map zKb=l:=by
   conv=>rhs;rw[<- List.map_id l]
   exact List.map_congr_left λf A=>wY1 (zW0 (by omega) (hl f A)) _ _
  rw[this]
 unfold SetS;rw[key s.l λf A=>D f (List.mem_append_left _ A),key s.r λf A=>D f (List.mem_append_right _ A)];rfl
theorem zQn {ca:Nat}{s:Sq}(hv:yQm ca s=true):yXq s:=by
 have A:=yY9 hv;exact⟨λf D=>by have:=yJw (yZi (A f (List.mem_append_left _ D)));omega,λf D=>by have:=yJw (yZi (A f (List.mem_append_right _ D)));omega⟩
section
variable {ca:Nat}(hc:ca=1\/ca=2){s0:Sq}(hv:yQm ca s0=true){K:List Sn}(hK:ReachOk (calJ ca) (nf (s0.l,s0.r)) K)
include hc hv hK
end
set_option maxRecDepth 100000
theorem yUg {e:Tr->Nat}:∀ {l:List (List Nat×Tr)},(∀q∈l,e q.2=0)->yQz e l=([],0)
 | [],_=>rfl
 | q::l,h=>by
  obtain⟨p,t⟩:=q;rw[yQz,if_pos (h _ (.head _))];exact yUg λq A=>h q (.tail _ A)
theorem zV1 {e:Tr->Nat}:∀ {l:List (List Nat×Tr)},(yQz e l).2=0\/∃q∈l,(yQz e l).1=q.1
 | []=>.inl rfl
 | (p,t)::l=>by
  rw[yQz];by_cases h:e t=0
  ·rw[if_pos h];rcases zV1 (e:=e) (l:=l) with h|⟨q,A,h⟩
   ·exact .inl h
   ·exact .inr ⟨q,.tail _ A,h⟩
  ·rw[if_neg h];exact .inr ⟨(p,t),.head _,rfl⟩
mutual
theorem wW1:∀(p:List Nat)(t:Tr)(q:List Nat×Tr),q∈t.walk p->p.length<=q.1.length
 | p,.mk _ _ _ _ _ sub,q,h=>by
  simp only[Tr.walk,List.mem_cons] at h;rcases h with rfl|h
  ·exact Nat.le_refl _
  ·exact Nat.le_of_lt (zJc p 0 sub q h)
theorem zJc:∀(p:List Nat)(i:Nat)(l:List Tr)(q:List Nat×Tr),q∈yQk p i l->p.length<q.1.length
 | _,_,[],q,h=>by simp[yQk] at h
 | p,i,a::l,q,h=>by
  simp only[yQk,List.mem_append] at h;rcases h with h|h
  ·have:=wW1 (p++[i]) a q h;rw[lLa,List.length_singleton] at this;omega
  ·exact zJc p (i+1) l q h
end
theorem yW6 {ca:Nat}(D:yXy ca=true){t:Tr}(E:zW4 t=false)(hs:(shal t).steps<=300)(h:yXi ca (shal t)=0):yKu ca t=true:=by
 unfold yKu;rw[E];have e:yXz ca (shal t)=yQz (yXi ca) ((shal t).walk []):=by
  unfold yXz;rw[D];simp only[Bool.not_true,bFt,if_false];rw[if_neg (by omega)]
 rw[e];obtain⟨r,s,m,u,n,sub⟩:=t;simp only[shal] at h ⊢;simp only[Tr.walk,yQz,h,if_true];simp only[bFt,if_false,Bool.or_eq_true,dTe];rcases zV1 (e:=yXi ca) (l:=yQk [] 0 (sub.map λp=>goalT p.sq)) with h1|⟨q,A,h1⟩
 ·exact .inl h1
 ·right;rw[h1];exact Nat.lt_of_le_of_lt (Nat.zero_le _) (zJc _ _ _ _ A)
theorem yJt {ca:Nat}{s:Sq}(h:yQm ca s=true):yKu ca (goalT s)=true:=by
 have:zW4 (goalT s)=true:=by
  rw[zW4,(yXp fm0 fm0).2 rfl];rfl
 unfold yKu;rw[this];exact h
theorem zX9 {ca:Nat}(hc:ca=1\/ca=2){t:Tr}(hs:t.steps<=300)(h:∀q∈t.walk [],yKu ca q.2=true):hCk ca t=([],0):=by
 unfold hCk;rw[if_pos hc,if_neg (by omega)];exact yUg λq A=>by unfold badN;rw[if_pos (h q A)]
abbrev qqF:Fm:=fbi 6 faQ faQ
abbrev mnF:Fm:=fbi 5 faP qqF
abbrev sM:Sq:=⟨[],[mnF]⟩
abbrev sQ:Sq:=⟨[],[qqF]⟩
abbrev sA:Sq:=⟨[faQ],[faQ]⟩
abbrev sP:Sq:=⟨[],[faP]⟩
abbrev sO:Sq:=⟨[],[orP]⟩
abbrev mv1:Nat×Fm×List Sn:=(18,mnF,[([],[qqF])])
abbrev mv2:Nat×Fm×List Sn:=(10,qqF,[([faQ],[faQ])])
abbrev mv3:Nat×Fm×List Sn:=(1,faQ,[])
abbrev mv4:Nat×Fm×List Sn:=(8,orP,[([],[faP,fno faP,orP])])
abbrev sk1:Tr:=.mk 18 sM mnF tmZ noN [goalT sQ]
abbrev sk2:Tr:=.mk 18 sM mnF tmZ noN [.mk 10 sQ qqF tmZ noN [goalT sA]]
abbrev sk3:Tr:=.mk 18 sM mnF tmZ noN [.mk 10 sQ qqF tmZ noN [.mk 1 sA faQ tmZ noN []]]
abbrev skW:Tr:=.mk 8 sM mnF tmZ noN [goalT sP]
theorem hvM:yQm 2 sM=true:=zUz (by kernel_rfl)
theorem hvQ:yQm 2 sQ=true:=zUz (by kernel_rfl)
theorem hvA:yQm 2 sA=true:=zUz (by kernel_rfl)
theorem hvP:yQm 2 sP=true:=zUz (by kernel_rfl)
theorem hvE:yQm 1 ⟨[],[faP,fno faP,orP]⟩=true:=by kernel_rfl
theorem nfM:nf ([],[mnF])=([],[mnF]):=by rw[nf_C];kernel_rfl
theorem nfQ:nf ([],[qqF])=([],[qqF]):=by rw[nf_C];kernel_rfl
theorem nfO:nf ([],[orP])=([],[orP]):=by rw[nf_C];kernel_rfl
theorem nfA:nf ([faQ],[faQ])=([faQ],[faQ]):=by rw[nf_C];kernel_rfl
theorem mvM:mvF true ([],[mnF])=[(8,mnF,[([],[faP])]),mv1]:=by rw[wXn];kernel_rfl
theorem mvQ:mvF true ([],[qqF])=[mv2]:=by rw[wXn];kernel_rfl
theorem mvO:mvF false ([],[orP])=[mv4]:=by rw[wXn];kernel_rfl
theorem nclM:¬ ClF ([]:List Fm) [mnF]:=λh=>by
 have:=(zVd ([],[mnF])).2 h;exact absurd this (by rw[show clC ([],[mnF])=false by kernel_rfl];decide)
theorem nclQ:¬ ClF ([]:List Fm) [qqF]:=λh=>by
 have:=(zVd ([],[qqF])).2 h;exact absurd this (by rw[show clC ([],[qqF])=false by kernel_rfl];decide)
theorem nclO:¬ ClF ([]:List Fm) [orP]:=λh=>by
 have:=(zVd ([],[orP])).2 h;exact absurd this (by rw[show clC ([],[orP])=false by kernel_rfl];decide)
theorem clA:ClF [faQ] [faQ]:=.inl ⟨faQ,.head _,.head _⟩
def sd1K:List Sn:=[([],[faP])]
theorem sd1c:Cert true sd1K [false] [[]] [0]:=yV4 (by kernel_rfl) (by kernel_rfl) (by kernel_rfl) (by kernel_rfl) (by kernel_rfl) (by kernel_rfl) (by decide)
theorem sd1:hF true ([],[faP])=0/\ReachOk true (nf ([],[faP])) sd1K:=yWy sd1c (by kernel_rfl)
def sd2K:List Sn:=[([],[(fbi 5 faP (fbi 6 faQ faQ))]),([],[faP]),([],[(fbi 6 faQ faQ)]),([faQ],[faQ])]
theorem sd2c:Cert true sd2K [false,false,false,true] [[[1],[2]],[],[[3]],[]] [3,0,2,1]:=yV4 (by kernel_rfl) (by kernel_rfl) (by kernel_rfl) (by kernel_rfl) (by kernel_rfl) (by kernel_rfl) (by decide)
theorem sd2:hF true ([],[(fbi 5 faP (fbi 6 faQ faQ))])=3/\ReachOk true (nf ([],[(fbi 5 faP (fbi 6 faQ faQ))])) sd2K:=yWy sd2c (by kernel_rfl)
def sd3K:List Sn:=[([],[(fbi 6 faQ faQ)]),([faQ],[faQ])]
theorem sd3c:Cert true sd3K [false,true] [[[1]],[]] [2,1]:=yV4 (by kernel_rfl) (by kernel_rfl) (by kernel_rfl) (by kernel_rfl) (by kernel_rfl) (by kernel_rfl) (by decide)
theorem sd3:hF true ([],[(fbi 6 faQ faQ)])=2/\ReachOk true (nf ([],[(fbi 6 faQ faQ)])) sd3K:=yWy sd3c (by kernel_rfl)
def sd4K:List Sn:=[([faQ],[faQ])]
theorem sd4c:Cert true sd4K [true] [[]] [1]:=yV4 (by kernel_rfl) (by kernel_rfl) (by kernel_rfl) (by kernel_rfl) (by kernel_rfl) (by kernel_rfl) (by decide)
theorem sd4:hF true ([faQ],[faQ])=1/\ReachOk true (nf ([faQ],[faQ])) sd4K:=yWy sd4c (by kernel_rfl)
def sd5K:List Sn:=[([],[faP,(fno faP),(fbi 5 faP (fno faP))]),([faP],[faP,(fno faP),(fbi 5 faP (fno faP))])]
theorem sd5c:Cert false sd5K [false,true] [[[1],[0]],[]] [2,1]:=yV4 (by kernel_rfl) (by kernel_rfl) (by kernel_rfl) (by kernel_rfl) (by kernel_rfl) (by kernel_rfl) (by decide)
theorem sd5:hF false ([],[faP,(fno faP),(fbi 5 faP (fno faP))])=2/\ReachOk false (nf ([],[faP,(fno faP),(fbi 5 faP (fno faP))])) sd5K:=yWy sd5c (by kernel_rfl)
theorem wXh {s:Sn}(hv:yQm 2 (sqOf s)=true)(h1:s.1=[])(h2:∀f∈s.2,fmB 2 f=true){m:Nat×Fm×List Sn}(D:m∈mvF true s){sub:List Tr}(A:sub.map Tr.sq=m.2.2.map sqOf):yXi 2 (.mk m.1 (sqOf s) m.2.1 tmZ noN sub)=0 :=
 (zWe (.inr rfl) hv (by rw[h1];nofun) h2 D A).1
theorem fmM:∀f∈[mnF],fmB 2 f=true:=λf A=>by rw[List.mem_singleton.1 A];kernel_rfl
theorem fmQ:∀f∈[qqF],fmB 2 f=true:=λf A=>by rw[List.mem_singleton.1 A];kernel_rfl
theorem rW:yKu 2 skW=true:=yW6 rfl rfl (by decide) (wXh (s:=([],[mnF])) hvM rfl fmM (m:=(8,mnF,[([],[faP])])) (by rw[mvM];exact .head _) rfl)
theorem r1 (a:Tr)(h:a.sq=sQ):yKu 2 (.mk 18 sM mnF tmZ noN [a])=true:=yW6 rfl rfl (by show 2<=300;decide) (wXh (s:=([],[mnF])) hvM rfl fmM (m:=mv1) (by rw[mvM];exact .tail _ (.head _)) (by simp only[List.map_cons,List.map_nil,h];rfl))
theorem r2 (a:Tr)(h:a.sq=sA):yKu 2 (.mk 10 sQ qqF tmZ noN [a])=true:=yW6 rfl rfl (by show 2<=300;decide) (wXh (s:=([],[qqF])) hvQ rfl fmQ (m:=mv2) (by rw[mvQ];exact .head _) (by simp only[List.map_cons,List.map_nil,h];rfl))
theorem r3:yKu 2 (.mk 1 sA faQ tmZ noN [])=true:=yW6 rfl rfl (by decide) (xGa (.inr rfl) (s:=([faQ],[faQ])) hvA (λf A=>by rw[List.mem_singleton.1 A];kernel_rfl) (by simp[axF])).1
theorem ckO1:hCk 1 (goalT sO)=([],0):=zX9 (.inl rfl) (by decide) λq A=>by
 simp only[Tr.walk,yQk,List.mem_singleton] at A;subst A;exact yJt awv2
theorem ckO2:hCk 2 (goalT sO)=([],0):=zX9 (.inr rfl) (by decide) λq A=>by
 simp only[Tr.walk,yQk,List.mem_singleton] at A;subst A;exact yJt awv3
theorem ckM:hCk 2 (goalT sM)=([],0):=zX9 (.inr rfl) (by decide) λq A=>by
 simp only[Tr.walk,yQk,List.mem_singleton] at A;subst A;exact yJt hvM
theorem ckW:hCk 2 skW=([],0):=zX9 (.inr rfl) (by decide) λq A=>by
 simp only[Tr.walk,yQk,List.append_nil,List.nil_append,List.mem_cons,List.not_mem_nil,or_false] at A;rcases A with rfl|rfl
 ·exact rW
 ·exact yJt hvP
theorem ck1:hCk 2 sk1=([],0):=zX9 (.inr rfl) (by decide) λq A=>by
 simp only[Tr.walk,yQk,List.append_nil,List.nil_append,List.mem_cons,List.not_mem_nil,or_false] at A;rcases A with rfl|rfl
 ·exact r1 _ rfl
 ·exact yJt hvQ
theorem ck2:hCk 2 sk2=([],0):=zX9 (.inr rfl) (by decide) λq A=>by
 simp only[Tr.walk,yQk,List.append_nil,List.nil_append,List.mem_cons,List.not_mem_nil,or_false] at A;rcases A with rfl|rfl|rfl
 ·exact r1 _ rfl
 ·exact r2 _ rfl
 ·exact yJt hvA
theorem ck3:hCk 2 sk3=([],0):=zX9 (.inr rfl) (by decide) λq A=>by
 simp only[Tr.walk,yQk,List.append_nil,List.nil_append,List.mem_cons,List.not_mem_nil,or_false] at A;rcases A with rfl|rfl|rfl
 ·exact r1 _ rfl
 ·exact r2 _ rfl
 ·exact r3
end Go.Proofs.Tryz
namespace Go.Proofs.Tryz
open Go Go.Iv
set_option maxRecDepth 8000
variable (gl:Nat->Option IV)
theorem k_p (n:ByteArray)(st:ISt):ICall prog gl 17 [.raw (.string n)] st (λr st'=>r=.agg [.raw (.int .u8 1),.raw (.string n),nlS,nlS]/\st'=st):=by
 refine iI func17 ?_;simp only[go_sem,zE,zA,zL,reduceCtorEq,fits];exact yQ0 ⟨rfl,rfl⟩
theorem k_of (op:Int)(t:Tag)(A:List IV)(st:ISt):ICall prog gl 18 [.raw (.int .u8 op),.sl t A] st (λr st'=>r=.agg [.raw (.int .u8 op),.raw (.string ⟨#[]⟩),nlS,.sl t A]/\st'=st):=by
 refine iI func18 ?_;simp only[go_sem,zE,zA,zL,reduceCtorEq,fits];exact yQ0 ⟨rfl,rfl⟩
theorem k_fs (t:Tag)(A:List IV)(st:ISt):ICall prog gl 20 [.sl t A] st (λr st'=>r=.sl t A/\st'=st):=by
 refine iI func20 ?_;simp only[go_sem,reduceCtorEq];exact yQ0 ⟨rfl,rfl⟩
theorem k_sq (t:Tag)(A:List IV)(D:Tag)(ys:List IV)(st:ISt):ICall prog gl 19 [.sl t A,.sl D ys] st (λr st'=>r=.agg [.sl t A,.sl D ys]/\st'=st):=by
 refine iI func19 ?_;simp only[go_sem,zE,zA,zL,reduceCtorEq,fits];exact yQ0 ⟨rfl,rfl⟩
def gI (t:Tag)(A:List IV)(D:Tag)(ys:List IV):IV:=.agg [.raw (.int .u8 0),.sl t A,.sl D ys,.raw (.int .u8 0),.raw (.string ⟨#[]⟩),nlS,nlS,.raw (.bool false),.raw (.string ⟨#[]⟩),nlS,.raw (.string ⟨#[]⟩),nlS]
theorem xZ6 (t:Tag)(A:List IV)(D:Tag)(ys:List IV)(st:ISt):ICall prog gl 13 [.agg [.sl t A,.sl D ys]] st (λr st'=>r=gI t A D ys/\st'=st):=by
 refine iI func13 ?_;simp only[go_sem,zE,zA,zL,fits];exact yQ0 ⟨rfl,rfl⟩
theorem xZ5 (r o:Int)(n:ByteArray)(t1:Tag)(E:List IV)(t2:Tag)(D:List IV)(t:Tag)(A:List IV)(G:Tag)(ys:List IV)(ts:Tag)(zs:List IV)(st:ISt) :
  ICall prog gl 12 [.raw (.int .u8 r),.agg [.raw (.int .u8 o),.raw (.string n),.sl t1 E,.sl t2 D],.agg [.sl t A,.sl G ys],.sl ts zs] st
   (λy st'=>y=.agg [.raw (.int .u8 r),.sl t A,.sl G ys,.raw (.int .u8 o),.raw (.string n),.sl t1 E,.sl t2 D,.raw (.bool false),.raw (.string ⟨#[]⟩),nlS,.raw (.string ⟨#[]⟩),.sl ts zs]/\st'=st):=by
 refine iI func12 ?_;simp only[go_sem,zE,zA,zL,reduceCtorEq,fits];exact yQ0 ⟨rfl,rfl⟩
theorem xKc {s:Sq}{t:Tag}{A:List IV}{D:Tag}{ys:List IV}(h:IsSq s (.agg [.sl t A,.sl D ys])):IsTr (goalT s) (gI t A D ys):=by
 obtain⟨t1,U,t2,O,E,J,i1,G,i2⟩:=h;cases E;exact⟨_,_,_,_,_,_,_,_,_,_,_,_,_,_,_,_,rfl,by decide,J,i1,G,i2,xKk,zYy,.inl rfl,rfl⟩
theorem zKz (G:Gl gl)(T:Gt gl)(U:∀g x,gl g=some x->age x=x){ca:Nat}(hc:ca=1\/ca=2){t:Tr}{x:IV}(hx:IsTr t x)(O:okT t=true)(hs:t.steps<=300){p:List Nat}(J:yZu t=[p]){s:Sq}(D:(atT t p).sq=s)(hv:yQm ca s=true){h:Nat}{K:List Sn}(hK:hF (calJ ca) (s.l,s.r)=h/\ReachOk (calJ ca) (nf (s.l,s.r)) K)(aa:yXq s)(m:Nat×Fm×List Sn)
  (hB:0<h->∀y st,IsSq s y->ICall prog gl 58 [.raw (.int .u8 (ca:Int)),y,.raw (.int .i64 (h:Int))] st (λr st'=>(∃z,yK8 m z/\r=.tup [z,.raw (.int .i64 0)])/\st'=st)) (st:ISt) :
  ICall prog gl 30 [.raw (.int .u8 (ca:Int)),x] st (λr st'=>xXe ca t h m r/\st'=st):=by
 refine wKd gl G T U ca t x hx (zK8 O (by omega)) (by omega) h m (λq qs _ E y st A=>?_) (λq qs hh _ E y st A=>?_) st
 ·rw[J] at E;cases E;rw[D] at A;exact yUc gl G T ca s hc hv hK y A aa st
 ·rw[J] at E;cases E;rw[D] at A;exact hB hh y st A
theorem kX3 (G:Gl gl)(T:Gt gl)(y:IV)(st:ISt)(A:IsSq sM y):ICall prog gl 58 [.raw (.int .u8 ((2:Nat):Int)),y,.raw (.int .i64 ((3:Nat):Int))] st (λr st'=>(∃z,yK8 mv1 z/\r=.tup [z,.raw (.int .i64 0)])/\st'=st):=by
 refine zKo gl G T 2 sM (.inr rfl) hvM 3 mv1 y A (yJy (by decide)) (λh=>(nclM h).elim) (λ_=>⟨sd2.2.top (by rw[nfM];exact nclM),?_,?_,?_⟩) st
 ·rw[show nf (sM.l,sM.r)=([],[mnF]) from nfM,show mvF (calJ 2) ([],[mnF])=_ from mvM];have E:lowB (calJ 2) 3 [(([]:List Fm),[faP])]=false:=by unfold lowB;simp only[List.all_cons,List.all_nil];rw[show Tryz.hF (calJ 2) ([],[faP])=0 from sd1.1];rfl
  have D:lowB (calJ 2) 3 [(([]:List Fm),[qqF])]=true:=by unfold lowB;simp only[List.all_cons,List.all_nil];rw[show Tryz.hF (calJ 2) ([],[qqF])=2 from sd3.1];rfl
  rw[List.find?_cons,E,List.find?_cons,D]
 ·rw[show nf (sM.l,sM.r)=([],[mnF]) from nfM,show mvF (calJ 2) ([],[mnF])=_ from mvM];decide
 ·rw[show nf (sM.l,sM.r)=([],[mnF]) from nfM,show mvF (calJ 2) ([],[mnF])=_ from mvM];intro v hv;simp only[List.mem_cons,List.not_mem_nil,or_false] at hv;rcases hv with rfl|rfl
  ·refine⟨by show 1<=1000000;decide,λp hp y st A=>?_⟩;rw[List.mem_singleton.1 hp] at A ⊢;rw[show Tryz.hF (calJ 2) ([],[faP])=0 from sd1.1];exact yUc gl G T 2 sP (.inr rfl) hvP sd1 y A (yJy (by decide)) st
  ·refine⟨by show 1<=1000000;decide,λp hp y st A=>?_⟩;rw[List.mem_singleton.1 hp] at A ⊢;rw[show Tryz.hF (calJ 2) ([],[qqF])=2 from sd3.1];exact yUc gl G T 2 sQ (.inr rfl) hvQ sd3 y A (yJy (by decide)) st
theorem kX1 (G:Gl gl)(T:Gt gl)(y:IV)(st:ISt)(A:IsSq sQ y):ICall prog gl 58 [.raw (.int .u8 ((2:Nat):Int)),y,.raw (.int .i64 ((2:Nat):Int))] st (λr st'=>(∃z,yK8 mv2 z/\r=.tup [z,.raw (.int .i64 0)])/\st'=st):=by
 refine zKo gl G T 2 sQ (.inr rfl) hvQ 2 mv2 y A (yJy (by decide)) (λh=>(nclQ h).elim) (λ_=>⟨sd3.2.top (by rw[nfQ];exact nclQ),?_,?_,?_⟩) st
 ·rw[show nf (sQ.l,sQ.r)=([],[qqF]) from nfQ,show mvF (calJ 2) ([],[qqF])=_ from mvQ];have D:lowB (calJ 2) 2 [([faQ],[faQ])]=true:=by unfold lowB;simp only[List.all_cons,List.all_nil];rw[show Tryz.hF (calJ 2) ([faQ],[faQ])=1 from sd4.1];rfl
  rw[List.find?_cons,D]
 ·rw[show nf (sQ.l,sQ.r)=([],[qqF]) from nfQ,show mvF (calJ 2) ([],[qqF])=_ from mvQ];decide
 ·rw[show nf (sQ.l,sQ.r)=([],[qqF]) from nfQ,show mvF (calJ 2) ([],[qqF])=_ from mvQ];intro v hv;rw[List.mem_singleton.1 hv];refine⟨by show 1<=1000000;decide,λp hp y st A=>?_⟩;rw[List.mem_singleton.1 hp] at A ⊢;rw[show Tryz.hF (calJ 2) ([faQ],[faQ])=1 from sd4.1];exact yUc gl G T 2 sA (.inr rfl) hvA sd4 y A (yJy (by decide)) st
theorem kX2 (G:Gl gl)(T:Gt gl)(y:IV)(st:ISt)(A:IsSq sO y):ICall prog gl 58 [.raw (.int .u8 ((1:Nat):Int)),y,.raw (.int .i64 ((3:Nat):Int))] st (λr st'=>(∃z,yK8 mv4 z/\r=.tup [z,.raw (.int .i64 0)])/\st'=st):=by
 refine zKo gl G T 1 sO (.inl rfl) awv2 3 mv4 y A (yJy (by decide)) (λh=>(nclO h).elim) (λ_=>⟨aw2.2.top (by rw[nfO];exact nclO),?_,?_,?_⟩) st
 ·rw[show nf (sO.l,sO.r)=([],[orP]) from nfO,show mvF (calJ 1) ([],[orP])=_ from mvO];have D:lowB (calJ 1) 3 [([],[faP,fno faP,orP])]=true:=by unfold lowB;simp only[List.all_cons,List.all_nil];rw[show Tryz.hF (calJ 1) ([],[faP,fno faP,orP])=2 from sd5.1];rfl
  rw[List.find?_cons,D]
 ·rw[show nf (sO.l,sO.r)=([],[orP]) from nfO,show mvF (calJ 1) ([],[orP])=_ from mvO];decide
 ·rw[show nf (sO.l,sO.r)=([],[orP]) from nfO,show mvF (calJ 1) ([],[orP])=_ from mvO];intro v hv;rw[List.mem_singleton.1 hv];refine⟨by show 1<=1000000;decide,λp hp y st A=>?_⟩;rw[List.mem_singleton.1 hp] at A ⊢;rw[show Tryz.hF (calJ 1) ([],[faP,fno faP,orP])=2 from sd5.1];exact yUc gl G T 1 ⟨[],[faP,fno faP,orP]⟩ (.inl rfl) hvE sd5 y A (yJy (by decide)) st
theorem kX5 (G:Gl gl)(T:Gt gl)(y:IV)(st:ISt)(A:IsSq sA y):ICall prog gl 58 [.raw (.int .u8 ((2:Nat):Int)),y,.raw (.int .i64 ((1:Nat):Int))] st (λr st'=>(∃z,yK8 mv3 z/\r=.tup [z,.raw (.int .i64 0)])/\st'=st):=by
 have hS:SetS sA=(sA,0):=by rw[wGz (.inr rfl) hvA,show nf (sA.l,sA.r)=([faQ],[faQ]) from nfA];rfl
 have D:sA.l.find? (hasF sA.r)=some faQ:=by
  have:hasF [faQ] faQ=true:=by simp only[hasF,List.any_cons,xG0 (show faQ.right=true by kernel_rfl),Bool.true_or]
  simp only[List.find?_cons,this]
 have hM:clM sA=mv3:=by simp only[clM,D]
 exact zKo gl G T 2 sA (.inr rfl) hvA 1 mv3 y A (yJy (by decide)) (λ_ st=>hM▸xZz gl G T sA sA y A (yJy (by decide)) (by decide) hS (yJy (by decide)) (by decide) st) (λh=>(h clA).elim) st
set_option maxRecDepth 4000
def wWl (t:Tr):Prop:=∀(x y:IV) (_:IsTr t x) (_:IsTr t y) (_:t.steps<=1099511627776) (st:ISt),ICall prog gl 25 [x,y] st (λr st'=>r=.raw (.bool true)/\st'=st)
theorem wZw (rule:Nat)(s:Sq)(f:Fm)(u:Tm)(n:ByteArray)(sub:List Tr)(IH:∀a∈sub,wWl gl a):wWl gl (.mk rule s f u n sub):=by
 intro x y hx hy hst st;obtain⟨tl,xl,tr,xr,op,fn,ta,xa,tb,xb,v,un,tu,xu,ts,xs,rfl,bl,e1,i1,e2,i2,aM,hz,e3,i3⟩:=hx.mk;obtain⟨U,O,tr2,J,aH,aV,aE,ao,aC,am,v2,au,aw,ag,ay,ai,rfl,a6,aZ,aK,aY,aJ,ac,aL,aX,aa⟩:=hy.mk;simp only[Tr.steps] at hst;have aS:=yVg sub;have h1:=λst=>zY5 gl s s (.agg [.sl tl xl,.sl tr xr]) (.agg [.sl U O,.sl tr2 J]) ⟨_,_,_,_,rfl,e1,i1,e2,i2⟩ ⟨_,_,_,_,rfl,aZ,aK,aY,aJ⟩ st;have h2:=λst=>yUe gl f f _ _ aM ac st;have h3:=λst=>xK5 gl u u _ _ hz aL st;have aQ:eqB s s=true:=yZ0.2 rfl;have aO:eqB f f=true:=yZ0.2 rfl;have aN:eqB u u=true:=yZ0.2 rfl;refine iI func25 ?_;simp only[go_sem,zE,zA,zL,decide_true];refine (h1 _).mono ?_;rintro _ st ⟨rfl,rfl⟩;simp only[go_sem,zE,zA,zL,aQ];refine (h2 _).mono ?_;rintro _ st ⟨rfl,rfl⟩;simp only[go_sem,zE,zA,zL,aO];refine (h3 _).mono ?_;rintro _ st ⟨rfl,rfl⟩;simp only[go_sem,zE,zA,aN,decide_true,i3.len,aa.len];intros;refine LoopC.ctr sub.length (λk fr st' ds=>fr 2=.box [.raw (.int .u8 rule),.sl tl xl,.sl tr xr,.raw (.int .u8 op),.raw (.string fn),.sl ta xa,.sl tb xb,.raw (.bool v),.raw (.string un),.sl tu xu,.raw (.string n),.sl ts xs] /\
  fr 3=.box [.raw (.int .u8 rule),.sl U O,.sl tr2 J,.raw (.int .u8 aH),.raw (.string aV),.sl aE ao,.sl aC am,.raw (.bool v2),.raw (.string au),.sl aw ag,.raw (.string n),.sl ay ai]/\fr 5=.iv (.raw (.int .i64 k))/\st'=st/\ds=[]) ?_ ?_ ?_
 ·simp only[go_sem,zE];rfl
 ·rintro k fr aG _ E ⟨f2,f3,f5,rfl,rfl⟩;obtain⟨a,ha⟩:=yQ1 E;have af:=lMg ha;obtain⟨z,aT,ab⟩:=i3.get ha;obtain⟨z2,ae,A⟩:=aa.get ha;have G:=λst=>IH a af z z2 ab A (by have:=yYc af;omega) st;obtain⟨D,aB,al,aA,ak,aI,aW,aF,aq,aD,an,v',av,ax,ah,n',az,aj,rfl⟩:=yZy ab;obtain⟨D,aB,al,aA,ak,aI,aW,aF,aq,aD,an,v',av,ax,ah,n',az,aj,rfl⟩:=yZy A;simp only[go_sem,zE,zB,zA,f2,f3,f5,i3.len,lt_i E,yQ3 e3,yQ3 aX,iNn,aT,ae,fits];intros;refine (G _).mono ?_;rintro _ bg ⟨rfl,rfl⟩;simp only[go_sem,zE,f2,f3,f5,yQc E (show sub.length<=281474976710656 by omega)]
 ·rintro fr aG _ ⟨f2,f3,f5,rfl,rfl⟩;simp only[go_sem,zE,f2,f5,i3.len,yQl (nLi _)];intros;exact yQ0 ⟨rfl,rfl⟩
theorem xVx:∀(k:Nat)(t:Tr),SizeOf.sizeOf t<k->wWl gl t
 | 0,t,h=>by omega
 | k+1,.mk r sq f u n sub,h=>wZw gl r sq f u n sub (λa A=>xVx k a (by
   have:=lSm A;simp at h;omega))
theorem wQj (t:Tr):wWl gl t:=xVx gl _ t (Nat.lt_succ_self _)
set_option maxRecDepth 8000
theorem vZe {r:Nat}(J:r<256){s:Sq}{m:Fm}{sub:List Tr}{t G t1 t2 ts:Tag}{A ys E D zs:List IV}{o:Int}{n:ByteArray}(h1:IsSq s (.agg [.sl t A,.sl G ys]))(h2:IsFm m (.agg [.raw (.int .u8 o),.raw (.string n),.sl t1 E,.sl t2 D]))(h3:okEs ts 12)(U:IsTrs sub zs) :
  IsTr (.mk r s m tmZ noN sub) (.agg [.raw (.int .u8 (r:Int)),.sl t A,.sl G ys,.raw (.int .u8 o),.raw (.string n),.sl t1 E,.sl t2 D,.raw (.bool false),.raw (.string ⟨#[]⟩),nlS,.raw (.string ⟨#[]⟩),.sl ts zs]):=by
 obtain⟨a1,b1,a2,b2,O,e1,i1,e2,i2⟩:=h1;cases O;exact⟨_,_,_,_,_,_,_,_,_,_,_,_,_,_,_,_,rfl,J,e1,i1,e2,i2,h2,zYy,h3,U⟩
theorem vX7 {t A:Tr}{x:IV}(J:IsTr t x)(hs:t.steps<=200){h:Nat}{m:Nat×Fm×List Sn}(O:m.1<256)(hm:m.2.2.length<=100)(D:hCk 2 t=([],0)){p:List Nat}(G:yZu t=[p])(hh:0<h)
  (hF:∀st,ICall prog gl 30 [.raw (.int .u8 ((2:Nat):Int)),x] st (λr st'=>xXe 2 t h m r/\st'=st)) (n:Nat) (hv:visF (folF m) n t true p=some A) (st:ISt) :
  ICall prog gl 26 [.raw (.int .u8 ((2:Nat):Int)),x] st (λr st'=>(∃z,IsTr A z/\r=.tup [z,.raw (.int .i64 0)])/\st'=st):=by
 refine (xZj gl 2 t A x J (by omega) h m O hF n (λq U _ E=>by rw[G] at E;cases E;exact⟨by omega,hv⟩) st).mono ?_;rintro r st' ⟨⟨h0,_⟩|⟨_,h0,_⟩|⟨_,h0⟩|⟨_,_,h0⟩,h1⟩
 ·rw[D] at h0;exact absurd rfl h0
 ·rw[G] at h0;cases h0
 ·omega
 ·exact⟨h0,h1⟩
def skK:Nat->Tr
 | 0=>goalT sM
 | 1=>sk1
 | 2=>sk2
 | _=>sk3
theorem uGd (G:Gl gl)(T:Gt gl)(A:∀g x,gl g=some x->age x=x)(k:Nat)(J:k<3)(x:IV)(D:IsTr (skK k) x)(st:ISt) :
  ICall prog gl 26 [.raw (.int .u8 ((2:Nat):Int)),x] st (λr st'=>(∃z,IsTr (skK (k+1)) z/\r=.tup [z,.raw (.int .i64 0)])/\st'=st):=by
 rcases (show k=0\/k=1\/k=2 by omega) with rfl|rfl|rfl
 ·exact vX7 gl D (by decide) (m:=mv1) (by decide) (by decide) ckM (p:=[]) rfl (by decide) (λst=>zKz gl G T A (.inr rfl) D (by decide) (by decide) (p:=[]) rfl rfl hvM sd2 (yJy (by decide)) mv1 (λ_ y st E=>kX3 gl G T y st E) st) 3 (by kernel_rfl) st
 ·exact vX7 gl D (by decide) (m:=mv2) (by decide) (by decide) ck1 (p:=[0]) rfl (by decide) (λst=>zKz gl G T A (.inr rfl) D (by decide) (by decide) (p:=[0]) rfl rfl hvQ sd3 (yJy (by decide)) mv2 (λ_ y st E=>kX1 gl G T y st E) st) 4 (by kernel_rfl) st
 ·exact vX7 gl D (by decide) (m:=mv3) (by decide) (by decide) ck2 (p:=[0,0]) rfl (by decide) (λst=>zKz gl G T A (.inr rfl) D (by decide) (by decide) (p:=[0,0]) rfl rfl hvA sd4 (yJy (by decide)) mv3 (λ_ y st E=>kX5 gl G T y st E) st) 5 (by kernel_rfl) st
theorem vWx (G:Gl gl)(T:Gt gl)(D:∀g x,gl g=some x->age x=x)(x:IV)(E:IsTr sk3 x)(st:ISt) :
  ICall prog gl 26 [.raw (.int .u8 ((2:Nat):Int)),x] st (λr st'=>r=.tup [.agg z12,.raw (.int .i64 271)]/\st'=st):=by
 have A:yZu sk3=[]:=rfl;refine (xZj gl 2 sk3 sk3 x E (by decide) 1 mv3 (by decide) (λst=>wKd gl G T D 2 sk3 x E (zK8 (by decide) (by decide)) (by decide) 1 mv3 (λp ps _ h=>by rw[A] at h;cases h) (λp ps _ _ h=>by rw[A] at h;cases h) st) 0 (λq O _ J=>by rw[A] at J;cases J) st).mono ?_;rintro r st' ⟨⟨h0,_⟩|⟨_,_,h0⟩|⟨_,h0⟩|⟨_,h0,_⟩,h1⟩
 ·rw[ck3] at h0;exact absurd rfl h0
 ·exact⟨h0,h1⟩
 ·omega
 ·exact absurd A h0
theorem ckS3:yXz 2 sk3=([],0):=by
 have c1:yXi 2 sk3=0:=wXh (s:=([],[mnF])) hvM rfl fmM (m:=mv1) (by rw[mvM];exact .tail _ (.head _)) rfl;have c2:yXi 2 (.mk 10 sQ qqF tmZ noN [.mk 1 sA faQ tmZ noN []])=0:=wXh (s:=([],[qqF])) hvQ rfl fmQ (m:=mv2) (by rw[mvQ];exact .head _) rfl;have c3:yXi 2 (.mk 1 sA faQ tmZ noN [])=0:=(xGa (.inr rfl) (s:=([faQ],[faQ])) hvA (λf D=>by rw[List.mem_singleton.1 D];kernel_rfl) (by simp[axF])).1;have e:yXz 2 sk3=yQz (yXi 2) (sk3.walk []):=by
  unfold yXz;rw[show yXy 2=true from rfl];simp only[Bool.not_true,bFt,if_false];rw[if_neg (by decide)]
 rw[e];refine yUg λq A=>?_;simp only[Tr.walk,yQk,List.append_nil,List.nil_append,List.mem_cons,List.not_mem_nil,or_false] at A;rcases A with rfl|rfl|rfl
 ·exact c1
 ·exact c2
 ·exact c3
theorem wW0 (G:Gl gl)(T:Gt gl)(E:∀g x,gl g=some x->age x=x)(st:ISt):ICall prog gl 4 [] st (λr st'=>r=.raw (.bool true)/\st'=st):=by
 have hO:=xKc (wZz sO (by decide));have ay:=λst=>wJv gl 1 (goalT sO) _ hO 3 mv4 4 (λ_ _ _ _=>rfl) (λ_ st=>zKz gl G T E (.inl rfl) hO (by decide) (by decide) (p:=[]) rfl rfl awv2 aw2 (yJy (by decide)) mv4 (λ_ y st hy=>kX2 gl G T y st hy) st) st;have ax:=λst=>wJv gl 2 (goalT sO) _ hO 0 mv4 4 (λ_ h _ _=>absurd h (by decide)) (λ_ st=>zKz gl G T E (.inr rfl) hO (by decide) (by decide) (p:=[]) rfl rfl awv3 aw3 (yJy (by decide)) mv4 (λh=>absurd h (by decide)) st) st;have ai:IsTr skW _:=vZe (r:=8) (ts:=⟨true,.full,12⟩) (by decide) (wZz sM (by decide)) (wK7 mnF (by decide)) (.inr rfl) ⟨_,[],rfl,xKc (wZz sP (by decide)),rfl⟩;have aj:=λst=>vX2 gl G T E 2 skW _ ai (zK8 (by decide) (by decide)) (by decide) 3 (λ_=>⟨⟨0,rfl,λy st hy=>yUc gl G T 2 sP (.inr rfl) hvP sd1 y hy (yJy (by decide)) st⟩,by decide,λy st hy=>yUc gl G T 2 sM (.inr rfl) hvM sd2 y hy (yJy (by decide)) st⟩) st;have aq:=λst=>vX0 gl 2 skW (goalT sM) _ ai (hCk 2 skW).2 aj 3 (λ_=>by kernel_rfl) st;refine ICall.intro (c:=cf prog gl [] [(9,[0,1,2,3,7,4,5,6,8]),(10,[0,1,2,5,6,12,3,4,7,8,9,10,11,13])]) func4 rfl (by show _<=179;simp) (by kernel_rfl) ?_;simp only[go_sem,zA,zL,yGo]
 repeat ((first|refine (k_p gl _ _).mono ?_|refine (k_of gl _ _ _ _).mono ?_|refine (k_fs gl _ _ _).mono ?_|refine (k_sq gl _ _ _ _ _).mono ?_|refine (xZ6 gl _ _ _ _ _).mono ?_|refine (xZ5 gl _ _ _ _ _ _ _ _ _ _ _ _ _ _).mono ?_);rintro _ st ⟨rfl,rfl⟩;simp only[go_sem,zE,zA,zM,zL,fits,yQ4,yXe,yGo,gI])
 refine (ay _).mono ?_;rintro r st ⟨U,rfl⟩;obtain⟨A,O,o,n,t1,x1,t2,x2,t3,x3,hm,rfl⟩:∃A,okEs A 1/\∃o n t1 x1 t2 x2 t3 x3,yK8 mv4 (.agg [.raw (.int .u8 ((8:Nat):Int)),.raw (.int .u8 o),.raw (.string n),.sl t1 x1,.sl t2 x2,.sl t3 x3]) /\
   r=.tup [.agg [.sl A [],.raw (.int .i64 ((3:Nat):Int)),.raw (.bool true),.raw (.int .u8 o),.raw (.string n),.sl t1 x1,.sl t2 x2,.raw (.int .u8 ((8:Nat):Int)),.sl t3 x3],.raw (.int .i64 0)]:=by
  rcases U with⟨h,_⟩|⟨_,⟨h,_⟩|⟨_,h,_⟩|⟨_,p,ps,A,aa,O,⟨h,_⟩|⟨_,o,n,t1,x1,t2,x2,t3,x3,hm,rfl⟩⟩⟩
  ·omega
  ·rw[ckO1] at h;exact absurd rfl h
  ·cases h
  ·cases h
  ·cases aa;exact⟨A,O,o,n,t1,x1,t2,x2,t3,x3,hm,rfl⟩
 simp only[go_sem,zE,zA,zL];refine (ax _).mono ?_;rintro r st ⟨U,rfl⟩;obtain⟨aQ,aH,rfl⟩:∃A,okEs A 1/\r=.tup [.agg (.sl A []::advZ.tail),.raw (.int .i64 272)]:=by
  rcases U with⟨h,_⟩|⟨_,⟨h,_⟩|⟨_,h,_⟩|⟨_,p,ps,A,aa,O,⟨_,rfl⟩|⟨h,_⟩⟩⟩
  ·omega
  ·rw[ckO2] at h;exact absurd rfl h
  ·cases h
  ·cases aa;exact⟨A,O,rfl⟩
  ·omega
 obtain⟨o',n',q1,z1,q2,z2,q3,z3,he,hf,e3,h3⟩:=hm;cases he;have hp1:IsSqs [⟨[],[faP,fno faP,orP]⟩] [sI ⟨[],[faP,fno faP,orP]⟩]:=⟨_,_,rfl,wZz _ (by decide),rfl⟩
 have aw:=λst=>yUe gl orP orP _ _ hf (wK7 orP (by decide)) st;have av:=λst=>wQk gl _ _ t3 ⟨true,.full,2⟩ x3 [sI ⟨[],[faP,fno faP,orP]⟩] e3 (by simp[okEs]) (wZe h3) hp1 st;simp only[go_sem,zE,zA,zL,show advZ.tail=[.raw (.int .i64 0),.raw (.bool false),.raw (.int .u8 0),.raw (.string ⟨#[]⟩),nlS,nlS,.raw (.int .u8 0),nlS] from rfl,decide_true,show decide (((3:Nat):Int)=3)=true from rfl,show decide (((8:Nat):Int)=8)=true from rfl,show decide (((0:Nat):Int)=0)=true from rfl];refine (aw _).mono ?_;rintro _ st ⟨rfl,rfl⟩;have hq:eqB orP orP=true:=yZ0.2 rfl;simp only[go_sem,zE,zA,zM,zL,fits,hq,vWh]
 repeat ((first|refine (k_p gl _ _).mono ?_|refine (k_of gl _ _ _ _).mono ?_|refine (k_fs gl _ _ _).mono ?_|refine (k_sq gl _ _ _ _ _).mono ?_|refine (xZ6 gl _ _ _ _ _).mono ?_|refine (xZ5 gl _ _ _ _ _ _ _ _ _ _ _ _ _ _).mono ?_);rintro _ st ⟨rfl,rfl⟩;simp only[go_sem,zE,zA,zM,zL,fits,yQ4])
 refine (av _).mono ?_;rintro _ st ⟨rfl,rfl⟩;have am:eqB ([⟨[],[faP,fno faP,orP]⟩]:List Sq) [⟨[],[faP,fno faP,orP]⟩]=true:=yZ0.2 rfl;simp only[go_sem,zE,zA,zM,zL,fits,am,yXe]
 repeat ((first|refine (k_p gl _ _).mono ?_|refine (k_of gl _ _ _ _).mono ?_|refine (k_fs gl _ _ _).mono ?_|refine (k_sq gl _ _ _ _ _).mono ?_|refine (xZ6 gl _ _ _ _ _).mono ?_|refine (xZ5 gl _ _ _ _ _ _ _ _ _ _ _ _ _ _).mono ?_);rintro _ st ⟨rfl,rfl⟩;simp only[go_sem,zE,zA,zM,zL,fits,yQ4,yXe,gI])
 refine (aj _).mono ?_;rintro r st ⟨U,rfl⟩;obtain⟨aO,aG,rfl⟩:∃A,okEs A 1/\r=.tup [.sl A [],.raw (.int .i64 0)]:=by
  rcases U with⟨h,_⟩|⟨_,A,h1,h2⟩
  ·rw[ckW] at h;exact absurd rfl h
  ·exact⟨A,h1,h2⟩
 simp only[go_sem,zE,zA,zL];refine (aq _).mono ?_;rintro r st ⟨U,rfl⟩;obtain⟨u,hu,rfl⟩:∃z,IsTr (goalT sM) z/\r=.tup [z,.raw (.int .i64 0)]:=by
  rcases U with⟨h,_⟩|⟨_,h⟩
  ·rw[ckW] at h;exact absurd rfl h
  ·exact h
 have ag:=hu;obtain⟨r1,a1,b1,a2,b2,o1,n1,a3,b3,a4,b4,v1,n2,a5,b5,n3,a6,b6,rfl⟩:=yZy hu;have au:=λst=>wQj gl (goalT sM) _ _ ag (xKc (wZz sM (by decide))) (by decide) st;simp only[go_sem,zE,zA,zM,zL,fits,decide_true,show decide (((0:Nat):Int)=0)=true from rfl,yQ4]
 repeat ((first|refine (k_p gl _ _).mono ?_|refine (k_of gl _ _ _ _).mono ?_|refine (k_fs gl _ _ _).mono ?_|refine (k_sq gl _ _ _ _ _).mono ?_|refine (xZ6 gl _ _ _ _ _).mono ?_|refine (xZ5 gl _ _ _ _ _ _ _ _ _ _ _ _ _ _).mono ?_);rintro _ st ⟨rfl,rfl⟩;simp only[go_sem,zE,zA,gI])
 refine (au _).mono ?_;rintro _ st ⟨rfl,rfl⟩;simp only[go_sem,zE];refine LoopC.ctr 3 (λk fr st' ds=>(∃c,fr 14=.box c/\IsTr (skK k) (.agg c))/\st'=st/\fr 16=.iv (.raw (.int .i64 (k:Int)))/\ds=[]) ?_ ?_ ?_
 ·simp only[go_sem,zE];exact⟨⟨_,rfl,ag⟩,rfl⟩
 ·rintro k fr J _ ah ⟨⟨c,f14,hc⟩,rfl,f16,rfl⟩;have ao:=λst=>uGd gl G T E k ah _ hc st;obtain⟨r1,a1,b1,a2,b2,o1,n1,a3,b3,a4,b4,v1,n2,a5,b5,n3,a6,b6,D⟩:=yZy hc;injection D with D;subst D;simp only[go_sem,zE,zA,zL,f14,f16,show decide ((k:Int)<3)=true from dEt (by omega)];refine (ao _).mono ?_;rintro _ J ⟨⟨z,hz,rfl⟩,rfl⟩;have al:=hz;obtain⟨r2,c1,e1,c2,e2,o2,m1,c3,aX,c4,e4,v2,m2,c5,e5,m3,c6,e6,rfl⟩:=yZy hz;simp only[go_sem,zE,zA,zL,f14,f16,decide_true,yQc ah (show 3<=281474976710656 by omega)];exact⟨_,rfl,al⟩
 ·rintro fr J _ ⟨⟨c,f14,hc⟩,rfl,f16,rfl⟩;have hC:=λst=>wVy gl G T 2 sk3 _ hc (zK8 (by decide) (by decide)) st;have az:=λst=>vWx gl G T E _ hc st;obtain⟨a1,b1,a2,b2,o1,n1,a3,b3,a4,b4,v1,n2,a5,b5,a6,b6,D,_⟩:=IsTr.mk hc;injection D with D;subst D;rw[ckS3] at hC;simp only[go_sem,zE,zA,zL,f14,f16,show decide (((3:Nat):Int)<3)=false from rfl];refine (hC _).mono ?_;rintro _ J ⟨⟨A,rfl,_⟩,rfl⟩;simp only[go_sem,zE,zA,zL,f14];refine (az _).mono ?_;rintro _ J ⟨rfl,rfl⟩;simp only[go_sem,zE,zA,zL,f14,decide_true,show decide (((0:Nat):Int)=0)=true from rfl,show decide (((18:Nat):Int)=18)=true from rfl];exact yQ0 ⟨rfl,rfl⟩
set_option maxRecDepth 4000
theorem wY0 (j:Bool)(s p:Sn):zQ6 j (nf s) p=zQ6 j s p:=by
 unfold zQ6;have h1:setF (setF s.1++p.1)=setF (s.1++p.1):=xQe λx=>by simp only[List.mem_append,yZg]
 have h2:setF (rgt j (setF s.2) p.2)=setF (rgt j s.2 p.2):=xQe λx=>by unfold rgt;split<;>simp only[List.mem_append,yZg]
 simp only[nf,h1,h2]
theorem vW3 {j:Bool}{s:Sn}{m:Nat×Fm×List Sn}(h:m∈mvF j (nf s)):m∈mvF j s:=by
 have key:∀r f,yW7 j (nf s) r f=yW7 j s r f:=λr f=>by unfold yW7;rw[show zQ6 j (nf s)=zQ6 j s from funext (wY0 j s)]
 rcases List.mem_append.1 h with h|h
 ·obtain⟨f,A,h⟩:=List.mem_flatMap.1 h;exact List.mem_append_left _ (List.mem_flatMap.2 ⟨f,yZg.1 A,key false f▸h⟩)
 ·obtain⟨f,A,h⟩:=List.mem_flatMap.1 h;exact List.mem_append_right _ (List.mem_flatMap.2 ⟨f,yZg.1 A,key true f▸h⟩)
theorem vXz {j:Bool}{f:Fm}{r:Bool}{t:Nat×List Sn}(h:t∈addF j f r):3<=t.1/\onR t.1=r/\t.2.length<=2:=by
 cases j<;>unfold addF at h<;>split at h<;>simp at h
 all_goals first
  | (subst h;exact⟨by simp,rfl,by simp⟩)
  | (rcases h with rfl|rfl<;>exact⟨by simp,rfl,by simp⟩)
theorem xGj (j:Bool)(f:Fm)(r:Bool):(addF j f r).length<=2:=by
 cases j<;>unfold addF<;>split<;>simp
theorem zKw {α β:Type}{g:α->List β}(A:∀a,(g a).length<=2):∀l:List α,(l.flatMap g).length<=2*l.length
 | []=>Nat.zero_le _
 | a::l=>by have:=A a;have:=zKw A l;rw[List.flatMap_cons,lLa,List.length_cons];omega
theorem vW2 {j:Bool}{s:Sn}{m:Nat×Fm×List Sn}(h:m∈mvF j s):3<=m.1/\m.2.2.length<=2/\m.2.1∈(if onR m.1=true then s.2 else s.1):=by
 have key:∀r f,f∈(if r=true then s.2 else s.1)->m∈yW7 j s r f->3<=m.1/\m.2.2.length<=2/\m.2.1∈(if onR m.1=true then s.2 else s.1):=λr f A D=>by
  obtain⟨t,ht,rfl⟩:=List.mem_map.1 D;obtain⟨a,b,c⟩:=vXz ht;exact⟨a,by simpa using c,by rw[show onR (t.1,f,t.2.map (zQ6 j s)).1=r from b];exact A⟩
 rcases List.mem_append.1 h with h|h
 ·obtain⟨f,A,h⟩:=List.mem_flatMap.1 h;exact key false f A h
 ·obtain⟨f,A,h⟩:=List.mem_flatMap.1 h;exact key true f A h
open Classical in
noncomputable def bsM (ca:Nat)(s:Sq):Nat×Fm×List Sn :=
 if ClF s.l s.r then clM (sqOf (nf (s.l,s.r))) else ((mvF (calJ ca) (nf (s.l,s.r))).find? (λv=>lowB (calJ ca) (Tryz.hF (calJ ca) (s.l,s.r)) v.2.2)).getD (0,fm0,[])
theorem wV1 {ca:Nat}{s:Sq}(A:¬ ClF s.l s.r)(h:0<Tryz.hF (calJ ca) (s.l,s.r)):(mvF (calJ ca) (nf (s.l,s.r))).find? (λv=>lowB (calJ ca) (Tryz.hF (calJ ca) (s.l,s.r)) v.2.2)=some (bsM ca s):=by
 unfold bsM;rw[if_neg A];cases U:(mvF (calJ ca) (nf (s.l,s.r))).find? (λv=>lowB (calJ ca) (Tryz.hF (calJ ca) (s.l,s.r)) v.2.2) with
 | some m=>rfl
 | none =>
  have G:=List.find?_eq_none.1 U;obtain⟨k,O⟩:∃k,Tryz.hF (calJ ca) (s.l,s.r)=k+1:=⟨_,(Nat.sub_add_cancel h).symm⟩
  have hp:=wJr.2 (wUn h);rw[O] at hp;rcases zJ3.1 hp with hc|⟨m,J,D⟩
  ·exact (A ((xX1 (s.l,s.r)).1 hc)).elim
  ·refine (G m J ?_).elim;unfold lowB;refine List.all_eq_true.2 λp E=>?_;have:=xUz (D p E);rw[bAt];exact⟨dEt this.2.2,dEt (by omega)⟩
abbrev stT (m:Nat×Fm×List Sn)(s:Sq):Tr:=.mk m.1 s m.2.1 tmZ noN (m.2.2.map λp=>goalT ⟨p.1,p.2⟩)
theorem zW9:∀(p:List Nat)(i:Nat)(l:List Sn)(q:List Nat×Tr),q∈yQk p i (l.map λp=>goalT ⟨p.1,p.2⟩)->∃a∈l,q.2=goalT ⟨a.1,a.2⟩
 | _,_,[],q,h=>by simp[yQk] at h
 | p,i,a::l,q,h=>by
  simp only[List.map_cons,yQk,Tr.walk,List.singleton_append,List.mem_cons] at h;rcases h with rfl|h
  ·exact⟨a,.head _,rfl⟩
  ·obtain⟨b,h1,h2⟩:=zW9 p (i+1) l q h;exact⟨b,.tail _ h1,h2⟩
theorem yU6:∀l:List Sn,yQr (l.map λp=>goalT ⟨p.1,p.2⟩)=l.length
 | []=>rfl
 | a::l=>by rw[List.map_cons,yQr,yU6 l,List.length_cons];simp only[Tr.steps,yQr];omega
structure BestP (ca:Nat)(s:Sq)(m:Nat×Fm×List Sn):Prop where
 ck:hCk ca (stT m s)=([],0)
 lt:m.1<256
 pos:0<m.1
 has:hasF (if onR m.1=true then s.r else s.l) m.2.1=true
 nil:m.2.2=[]↔Tryz.hF (calJ ca) (s.l,s.r)=1
 len:m.2.2.length<=2
 fm:fmB ca m.2.1=true
 prem:∀p∈m.2.2,yQm ca (sqOf p)=true/\0<Tryz.hF (calJ ca) p
theorem vGu {ca:Nat}(hc:ca=1\/ca=2){s:Sq}(hv:yQm ca s=true){K:List Sn}(hK:ReachOk (calJ ca) (nf (s.l,s.r)) K)(h:0<Tryz.hF (calJ ca) (s.l,s.r)):BestP ca s (bsM ca s):=by
 have aj:ca≠3:=by omega
 have hk:yXy ca=true:=by unfold yXy;rcases hc with rfl|rfl<;>rfl
 have ai:=yY9 hv;have h1:∀f∈s.l,fmB ca f=true:=λf E=>ai f (List.mem_append_left _ E);have h2:∀f∈s.r,fmB ca f=true:=λf E=>ai f (List.mem_append_right _ E);have J:∀m:Nat×Fm×List Sn,yXi ca (.mk m.1 s m.2.1 tmZ noN (m.2.2.map λp=>goalT ⟨p.1,p.2⟩))=0->0<m.1->m.2.2.length<=2->(∀p∈m.2.2,yQm ca (sqOf p)=true)->hCk ca (stT m s)=([],0):=λm c1 c2 c3 c4=>by
  have hst:(stT m s).steps<=300:=by simp only[Tr.steps,yU6];omega
  have ae:shal (stT m s)=stT m s:=by simp only[shal,List.map_map];rfl
  refine zX9 hc hst λq hq=>?_;simp only[Tr.walk,List.mem_cons] at hq;rcases hq with rfl|hq
  ·refine yW6 hk ?_ (by rw[ae];exact hst) (by rw[ae];exact c1);rw[zW4,dEf (by omega)];rfl
  ·obtain⟨a,ha,am⟩:=zW9 _ _ _ q hq;rw[am];exact yJt (c4 a ha)
 by_cases G:ClF s.l s.r
 ·have hm:bsM ca s=clM (sqOf (nf (s.l,s.r))):=by unfold bsM;rw[if_pos G]
  have ax:Tryz.hF (calJ ca) (s.l,s.r)=1:=wJw G;have ac:((clM (sqOf (nf (s.l,s.r)))).1=1/\(clM (sqOf (nf (s.l,s.r)))).2.1∈s.l/\(clM (sqOf (nf (s.l,s.r)))).2.1∈s.r)\/((clM (sqOf (nf (s.l,s.r)))).1=2/\(clM (sqOf (nf (s.l,s.r)))).2.1=.mk 2 noN [] []/\∃g∈s.l,zZj g=true):=by
   unfold clM;split
   ·rename_i f E;have D:f∈s.l:=yZg.1 (List.mem_of_find?_eq_some E);obtain⟨g,hg,aw⟩:=wJt.1 (List.find?_some E);have ah:g∈s.r:=yZg.1 hg;obtain rfl:=(wKl aj (h1 f D) (h2 g ah)).1 aw;exact .inl ⟨rfl,D,ah⟩
   ·rename_i E;refine .inr ⟨rfl,rfl,?_⟩;rcases G with⟨f,D,av⟩|hg
    ·refine (List.find?_eq_none.1 E f (yZg.2 D) ?_).elim;exact yJ2 (yZg.2 av) (yZi (h1 f D))
    ·exact hg
  have U:(clM (sqOf (nf (s.l,s.r)))).2.2=[]:=by unfold clM;split<;>rfl
  obtain⟨c1,c2,c3⟩:=xX7 hc (s:=(s.l,s.r)) hv h1 ac;rw[hm];generalize clM (sqOf (nf (s.l,s.r)))=m at ac U c1 c2 c3;refine⟨J m (by rw[U];exact c1) (by omega) (by rw[U];exact Nat.zero_le _) (by rw[U];nofun),by omega,by omega,?_,by simp only[U,ax],by rw[U];exact Nat.zero_le _,c3,by rw[U];nofun⟩;have ao:onR m.1=false:=by rcases c2 with c2|c2<;>rw[c2]<;>rfl
  rw[ao];rcases ac with⟨_,ha,_⟩|⟨_,ha,g,hg,aq⟩
  ·exact yJ2 ha (yZi c3)
  ·have an:=zW0 aj (h1 g hg);have au:g=.mk 2 noN [] []:=by
    cases an<;>simp[zZj] at aq
    ·rfl
    ·omega
   rw[ha,<- au];exact yJ2 hg (yZi (h1 g hg))
 ·have E:=wV1 G h;have hm:=List.mem_of_find?_eq_some E;have A:=List.find?_some (p:=λv:Nat×Fm×List Sn=>lowB (calJ ca) (Tryz.hF (calJ ca) (s.l,s.r)) v.2.2) E;generalize bsM ca s=m at hm A;have aa:=vW3 hm;obtain⟨c1,c2,c3,c4⟩:=zWe hc (s:=(s.l,s.r)) hv h1 h2 aa (sub:=m.2.2.map λp=>goalT ⟨p.1,p.2⟩) (by rw[List.map_map];rfl);obtain⟨d1,d2,d3⟩:=vW2 aa;have af:=vW4 aa;have A:∀p∈m.2.2,1<=Tryz.hF (calJ ca) p/\Tryz.hF (calJ ca) p<Tryz.hF (calJ ca) (s.l,s.r):=λp hp=>by
   have:=List.all_eq_true.1 A p hp;rw[bAt] at this;exact⟨of_decide_eq_true this.1,of_decide_eq_true this.2⟩
  have O:∀p∈m.2.2,yQm ca (sqOf p)=true:=λp hp=>(zK2 hc hv hK (.step .refl (λh=>G ((xX1 (s.l,s.r)).1 h)) hm hp)).1;refine⟨J m c1 (by omega) d2 O,c2,by omega,yJ2 d3 (yZi c4),?_,d2,c4,λp hp=>⟨O p hp,(A p hp).1⟩⟩;refine⟨λh=>(af h).elim,λh=>?_⟩;obtain⟨p,hp⟩:∃p,p∈m.2.2:=by
   cases hl:m.2.2 with
   | nil=>exact (af hl).elim
   | cons a l=>exact⟨a,.head _⟩
  have:=A p hp;omega
theorem zQf {ca:Nat}{s:Sq}(hv:yQm ca s=true):s.l.length<=64/\s.r.length<=64:=by
 unfold yQm at hv;simp only[bAt,dTe] at hv;exact⟨hv.1.1.1.1.2,hv.1.1.1.2⟩
theorem vGv (G:Gl gl)(T:Gt gl)(ca:Nat)(hc:ca=1\/ca=2)(s:Sq)(hv:yQm ca s=true){K:List Sn}(hK:ReachOk (calJ ca) (nf (s.l,s.r)) K)(h:0<Tryz.hF (calJ ca) (s.l,s.r))(x:IV)(U:IsSq s x)(st:ISt) :
  ICall prog gl 58 [.raw (.int .u8 (ca:Int)),x,.raw (.int .i64 (Tryz.hF (calJ ca) (s.l,s.r):Int))] st (λr st'=>(∃z,yK8 (bsM ca s) z/\r=.tup [z,.raw (.int .i64 0)])/\st'=st):=by
 have E:=zQn hv;obtain⟨l1,l2⟩:=zQf hv;have D:=zK2 hc hv hK .refl;refine zKo gl G T ca s hc hv _ (bsM ca s) x U E (λA st=>?_) (λA=>⟨?_,wV1 A h,?_,λv J=>⟨?_,λp hp y st hy=>?_⟩⟩) st
 ·have hm:bsM ca s=clM (sqOf (nf (s.l,s.r))):=by unfold bsM;rw[if_pos A]
  rw[hm];exact xZz gl G T s _ x U E ⟨l1,l2⟩ (wGz hc hv) (zQn D.1) (zQf D.1).1 st
 ·exact hK.short _ ((hK.mem _).2 .refl) λh=>A ((xX1 (s.l,s.r)).1 h)
 ·have h1:=(zQf D.1).1;have h2:=(zQf D.1).2;have h3:=zKw (g:=yW7 (calJ ca) (nf (s.l,s.r)) false) (λf=>by unfold yW7;rw[List.length_map];exact xGj ..) (nf (s.l,s.r)).1;have h4:=zKw (g:=yW7 (calJ ca) (nf (s.l,s.r)) true) (λf=>by unfold yW7;rw[List.length_map];exact xGj ..) (nf (s.l,s.r)).2;have h1:(nf (s.l,s.r)).1.length<=64:=h1;have h2:(nf (s.l,s.r)).2.length<=64:=h2;unfold mvF;rw[lLa];omega
 ·have:=(vW2 J).2.1;omega
 ·have hr:Rch (calJ ca) (nf (s.l,s.r)) p:=.step .refl (λh=>A ((xX1 (s.l,s.r)).1 h)) J hp;obtain⟨O,v2,_⟩:=zK2 hc hv hK hr;refine (xWv gl G T ca ⟨p.1,p.2⟩ y hy (zQn O) st).mono ?_;rintro r st' ⟨rfl,⟨e,hb,_⟩|⟨_,_,_,rfl⟩⟩
  ·rcases hb.1 with⟨h,_⟩|⟨_,h,_⟩|⟨_,_,h⟩
   ·exact (h hc).elim
   ·rw[show yQm ca ⟨p.1,p.2⟩=true from O] at h;cases h
   ·rw[show nf (p.1,p.2)=p from v2] at h;exact (hK.no hr h).elim
  ·exact⟨rfl,rfl⟩
theorem xJe (W:List Fm)(j:Bool):∀(q n:Nat) (ls:List Ln),runF W j q n ls<=5
 | 0,_,_=>Nat.zero_le _
 | q+1,n,ls=>by
  have D:∀(l:List (Option Mv)) (ls:List Ln),(expF l ls).2<=5:=λl=>by
   induction l with
   | nil=>exact λ_=>Nat.zero_le _
   | cons a l A =>
    intro ls;cases a with
    | none=>exact Nat.le_refl _
    | some v =>
     rw[expF];split
     ·show 4<=5;decide
     ·exact A _
  rw[runF];split
  ·exact Nat.zero_le _
  ·split
   ·exact xJe W j q _ _
   ·split
    ·exact xJe W j q _ _
    ·exact D _ _
theorem vXd (ca:Nat)(s:Sq):errN ca s<=190:=by
 unfold errN;split
 ·split
  ·have:=xJe (spW s) (calJ ca) 20001 0 [zXj (spW s) (s.l,s.r)];omega
  ·decide
 ·decide
def sG (t:Tr):Sq:=(atT t ((yZu t).headD [])).sq
def FkP (ca:Nat)(s:Sq):Prop:=(ca=1\/ca=2)/\yQm ca s=true/\∃K:List Sn,ReachOk (calJ ca) (nf (s.l,s.r)) K
theorem wJc {ca:Nat}{s:Sq}(h:0<(leF ca s).1):(leF ca s).1=Tryz.hF (calJ ca) (s.l,s.r):=by
 unfold leF at h ⊢;simp only at h ⊢;split
 ·rfl
 ·rename_i A;rw[if_neg A] at h;omega
theorem wQu:∀ {l:List Tr}{k i:Nat}{z:Tr}{p:List Nat}{x:List Nat×Tr},l[i]?=some z->x∈z.walk (p++[k+i])->x∈yQk p k l
 | a::l,k,0,z,p,x,h,A=>by
  obtain rfl:a=z:=by simpa using h
  rw[yQk];exact List.mem_append_left _ A
 | a::l,k,i+1,z,p,x,h,A=>by
  rw[yQk];refine List.mem_append_right _ (wQu (l:=l) (k:=k+1) (i:=i) (by simpa using h) ?_);rw[show k+1+i=k+(i+1) by omega];exact A
theorem wU6:∀(p:List Nat)(t:Tr)(q:List Nat),okP t p->(q++p,atT t p)∈t.walk q
 | [],.mk _ _ _ _ _ _,q,_=>by rw[List.append_nil];simp only[Tr.walk,atT];exact .head _
 | i::p,.mk r s f u n sub,q,⟨z,h1,h2⟩=>by
  have A:atT (.mk r s f u n sub) (i::p)=atT z p:=by simp only[atT,h1]
  rw[A];simp only[Tr.walk];refine .tail _ (wQu h1 ?_);have:=wU6 p z (q++[i]) h2;rw[List.append_assoc] at this;rw[Nat.zero_add];exact this
theorem wUt {t:Tr}{p:List Nat}(h:zKx t)(hp:okP t p):yXq (atT t p).sq:=by
 have:=h.1 _ (wU6 p t [] hp);generalize atT t p=z at this;obtain⟨r,s,f,u,n,sub⟩:=z;exact this.1
theorem vX8 (G:Gl gl)(T:Gt gl)(U:∀g x,gl g=some x->age x=x)(ca:Nat)(t:Tr)(x:IV)(hx:IsTr t x)(A:zKx t)(hs:t.steps<=1000000)(st:ISt) :
  ICall prog gl 30 [.raw (.int .u8 (ca:Int)),x] st (λr st'=>wVt ca t (leF ca (sG t)).1 (leF ca (sG t)).2 (bsM ca (sG t)) (FkP ca (sG t)) r/\st'=st):=by
 refine xYv gl G T U ca t x hx A hs _ _ _ _ (λp ps _ J y st E=>?_) (λhF p ps O _ J y st E=>?_) st
 ·have D:sG t=(atT t p).sq:=by unfold sG;rw[J];rfl
  rw[D];exact xWw gl G T ca _ y E (wUt A (zKr J).1) st
 ·have D:sG t=(atT t p).sq:=by unfold sG;rw[J];rfl
  rw[<- D] at E;obtain⟨hc,hv,K,hK⟩:=hF;have he:=wJc O;rw[he] at O ⊢;exact vGv gl G T ca hc _ hv hK O y E st
theorem vWg (G:Gl gl)(T:Gt gl)(D:∀g x,gl g=some x->age x=x)(ca:Nat)(t:Tr)(x:IV)(E:IsTr t x)(A:zKx t)(hs:t.steps<=1000000)(l:Nat)(h1:1<=l)(J:l<=4)(st:ISt) :
  ICall prog gl 8 [.raw (.int .u8 (ca:Int)),x,.raw (.int .i64 (l:Int))] st (λr st'=>wGo ca t (leF ca (sG t)).1 (leF ca (sG t)).2 (bsM ca (sG t)) (FkP ca (sG t)) l r/\st'=st) :=
 xYh gl ca t x E _ _ (Nat.lt_of_le_of_lt (vXd ca (sG t)) (by decide)) _ _ (l:Int) l (by omega) (by omega) rfl (λst=>vX8 gl G T D ca t x E A hs st) st
theorem vWc (b:Bool)(st:ISt):ICall prog gl 5 [.raw (.bool b)] st (λr st'=>r=.raw (.int .u8 ((if b=true then 2 else 1:Nat):Int))/\st'=st):=by
 refine iI func5 ?_;cases b
 ·simp only[go_sem,reduceCtorEq];exact yQ0 ⟨rfl,rfl⟩
 ·simp only[go_sem,reduceCtorEq];exact yQ0 ⟨rfl,rfl⟩
def lgC (t:Tr):Prop:=∀(x:IV) (_:IsTr t x) (left:Int) (_:0<=left/\left<=1000) (_:wTr t<=1099511627776) (_:t.steps<=1000000) (st:ISt),
 ICall prog gl 29 [x,.raw (.int .i64 left)] st (λr st'=>(∃n:Int,r=.raw (.int .i64 n) /\ -1<=n/\n<=left)/\st'=st)
theorem xUn (af:∀g x,gl g=some x->age x=x)(rule:Nat)(s:Sq)(f:Fm)(u:Tm)(n:ByteArray)(sub:List Tr)(IH:∀a∈sub,lgC gl a):lgC gl (.mk rule s f u n sub):=by
 intro x hx left hl hw hs st;have hG:=λst=>zUs gl af _ x hx hs st;obtain⟨tl,xl,tr,xr,op,fn,ta,xa,tb,xb,v,un,tu,xu,ts,xs,rfl,aN,e1,i1,e2,i2,hy,hz,e3,i3⟩:=hx.mk;simp only[wTr] at hw;simp only[Tr.steps] at hs;have ag:=λst=>vJ2 gl s _ ⟨tl,xl,tr,xr,rfl,e1,i1,e2,i2⟩ ⟨by omega,by omega⟩ st;refine iI func29 ?_;simp only[go_sem,zE,zA,zL];refine (hG _).mono ?_;rintro _ st ⟨⟨tg,ys,rfl,aM,hys⟩,rfl⟩;by_cases h0:ys.length=0
 ·have d0:decide ((ys.length:Int)=0)=true:=dEt (by omega);simp only[go_sem,zE,d0];intro _;exact yQ0 ⟨⟨left,rfl,by omega,by omega⟩,rfl⟩
 have d0:decide ((ys.length:Int)=0)=false:=dEf (by omega);simp only[go_sem,zE,zA,zL,d0];intro _;refine (ag _).mono ?_;rintro _ st ⟨rfl,rfl⟩;cases hq:xWs s
 ·simp only[go_sem];exact yQ0 ⟨⟨-1,rfl,by omega,by omega⟩,rfl⟩
 have wl:IntKind.i64.wrap (left-1)=left-1:=w64 (by omega) (by omega);simp only[go_sem,zE,wl];refine LoopC.ctr sub.length (λk fr st' ds=>(∃l:Int,fr 1=.iv (.raw (.int .i64 l)) /\ -1<=l/\l<=left-1) /\
  fr 2=.box [.raw (.int .u8 rule),.sl tl xl,.sl tr xr,.raw (.int .u8 op),.raw (.string fn),.sl ta xa,.sl tb xb,.raw (.bool v),.raw (.string un),.sl tu xu,.raw (.string n),.sl ts xs]/\fr 5=.iv (.raw (.int .i64 k))/\st'=st/\ds=[]) ?_ ?_ ?_
 ·simp only[go_sem,zE];exact⟨⟨left-1,rfl,by omega,by omega⟩,rfl⟩
 ·rintro k fr U _ A ⟨⟨l,f1,E,ac⟩,f2,f5,rfl,rfl⟩;obtain⟨a,ha⟩:=yQ1 A;obtain⟨z,ae,O⟩:=i3.get ha;have J:=lMg ha;by_cases D:(0:Int)<=l
  ·have G:=λst=>IH a J z O l ⟨D,by omega⟩ (by have:=zYu J;omega) (by have:=zJn J;omega) st;obtain⟨aa,aF,aq,aE,ao,aK,aS,aI,aw,aG,au,v',az,aB,ak,n',aD,am,rfl⟩:=yZy O;simp only[go_sem,zE,zB,zA,f1,f2,f5,i3.len,lt_i A,dEt D,yQ3 e3,iNn,ae,fits];intro _;refine (G _).mono ?_;rintro _ aJ ⟨⟨r,rfl,ab,aO⟩,rfl⟩;simp only[go_sem,zE,f2,f5,yQc A (show sub.length<=281474976710656 by omega)];exact⟨r,rfl,ab,by omega⟩
  ·simp only[go_sem,zE,f1,f2,f5,i3.len,lt_i A,dEf D];intro _;exact yQ0 ⟨⟨l,rfl,E,by omega⟩,rfl⟩
 ·rintro fr U _ ⟨⟨l,f1,E,ac⟩,f2,f5,rfl,rfl⟩;simp only[go_sem,zE,f1,f2,f5,i3.len,yQl (nLi _)];intro _;exact yQ0 ⟨⟨l,rfl,E,by omega⟩,rfl⟩
theorem xQz (A:∀g x,gl g=some x->age x=x):∀(k:Nat) (t:Tr),SizeOf.sizeOf t<k->lgC gl t
 | 0,t,h=>by omega
 | k+1,.mk r sq f u n sub,h=>xUn gl A r sq f u n sub (λa D=>xQz A k a (by
   have:=lSm D;simp at h;omega))
theorem vW6 (D:∀g x,gl g=some x->age x=x)(t:Tr)(x:IV)(E:IsTr t x)(hw:wTr t<=1099511627776)(hs:t.steps<=1000000)(st:ISt):ICall prog gl 7 [x] st (λr st'=>(∃b:Bool,r=.raw (.bool b))/\st'=st):=by
 have hl:=λst=>xQz gl D _ t (Nat.lt_succ_self _) x E 8 ⟨by omega,by omega⟩ hw hs st;obtain⟨A,ah,U,ag,O,ak,am,aj,ab,ai,aa,v',ac,ae,G,n',af,J,rfl⟩:=yZy E;refine iI func7 ?_;simp only[go_sem,zE,zA,zL];refine (hl _).mono ?_;rintro _ st ⟨⟨r,rfl,h1,h2⟩,rfl⟩;simp only[go_sem];exact yQ0 ⟨⟨_,rfl⟩,rfl⟩
set_option maxRecDepth 8000
noncomputable def errH (ca:Nat)(t:Tr):Nat:=if (hCk ca t).2≠0 then (hCk ca t).2 else if yZu t=[] then 271 else if (leF ca (sG t)).2≠0 then (leF ca (sG t)).2 else if (leF ca (sG t)).1=0 then 272 else 0
def AdvC (ca:Nat)(t:Tr)(l:Nat)(a:List IV):Prop:=(errH ca t≠0/\∃A D,okEs A 1/\a=.sl A D::advZ.tail/\(errH ca t≠272->D=[])) \/
 (errH ca t=0/\∃p ps A o n t1 J t2 G t3 E,yZu t=p::ps/\okEs A 1/\yK8 (bsM ca (sG t)) (.agg [.raw (.int .u8 ((bsM ca (sG t)).1:Int)),.raw (.int .u8 o),.raw (.string n),.sl t1 J,.sl t2 G,.sl t3 E]) /\
  a=advK (.sl A (plI p)) ((leF ca (sG t)).1:Int) (bsM ca (sG t)).1 o n (.sl t1 J) (.sl t2 G) (.sl t3 E) l)
theorem AdvC.shape {ca:Nat}{t:Tr}{l:Nat}{a:List IV}(h:AdvC ca t l a):∃t0 G h0 b o n t1 E t2 D r t3 A,a=[.sl t0 G,.raw (.int .i64 h0),.raw (.bool b),.raw (.int .u8 o),.raw (.string n),.sl t1 E,.sl t2 D,.raw (.int .u8 r),.sl t3 A]:=by
 rcases h with⟨_,J,O,_,rfl,_⟩|⟨_,p,ps,J,o,n,t1,E,t2,D,t3,A,_,_,_,rfl⟩
 ·exact⟨_,_,_,_,_,_,_,_,_,_,_,_,_,rfl⟩
 ·unfold advK;split<;>exact⟨_,_,_,_,_,_,_,_,_,_,_,_,_,rfl⟩
theorem wJs {ca:Nat}{t:Tr}{l:Nat}{r:IV}(h:wGo ca t (leF ca (sG t)).1 (leF ca (sG t)).2 (bsM ca (sG t)) (FkP ca (sG t)) l r) :
  ∃a,r=.tup [.agg a,.raw (.int .i64 (errH ca t:Int))]/\AdvC ca t l a/\(errH ca t=0->(hCk ca t).2=0/\FkP ca (sG t)/\(leF ca (sG t)).2=0/\0<(leF ca (sG t)).1):=by
 rcases h with⟨h0,rfl⟩|⟨h0,A,rfl⟩|⟨h0,p,ps,J,A,D,⟨E,rfl⟩|⟨E,hF,⟨G,rfl⟩|⟨G,o,n,t1,x1,t2,U,t3,O,hm,rfl⟩⟩⟩
 ·have e:errH ca t=(hCk ca t).2:=by unfold errH;rw[if_pos h0]
  exact⟨advZ,by rw[e],.inl ⟨by rw[e];exact h0,⟨true,.nil,0⟩,[],.inl rfl,rfl,λ_=>rfl⟩,λh=>absurd (e▸h) h0⟩
 ·have e:errH ca t=271:=by unfold errH;rw[if_neg (by omega),if_pos A]
  exact⟨_,by rw[e];rfl,.inl ⟨by omega,_,_,.inl rfl,rfl,λ_=>rfl⟩,λh=>by omega⟩
 ·have e:errH ca t=(leF ca (sG t)).2:=by unfold errH;rw[if_neg (by omega),if_neg (by rw[A];simp),if_pos E]
  exact⟨advZ,by rw[e],.inl ⟨by rw[e];exact E,⟨true,.nil,0⟩,[],.inl rfl,rfl,λ_=>rfl⟩,λh=>absurd (e▸h) E⟩
 ·have e:errH ca t=272:=by unfold errH;rw[if_neg (by omega),if_neg (by rw[A];simp),if_neg (by omega),if_pos G]
  exact⟨_,by rw[e];rfl,.inl ⟨by omega,J,_,D,rfl,λh=>absurd e h⟩,λh=>by omega⟩
 ·have e:errH ca t=0:=by unfold errH;rw[if_neg (by omega),if_neg (by rw[A];simp),if_neg (by omega),if_neg (by omega)]
  exact⟨_,by rw[e];rfl,.inr ⟨e,p,ps,J,o,n,t1,x1,t2,U,t3,O,A,D,hm,rfl⟩,λ_=>⟨h0,hF,E,G⟩⟩
theorem vV6 {m:Nat×Fm×List Sn}{s:Sq}(hs:yXq s)(E:m.2.1.size<=1000000)(hp:∀p∈m.2.2,yXq ⟨p.1,p.2⟩):zKx (stT m s):=by
 have h1:∀a∈m.2.2.map λp=>goalT ⟨p.1,p.2⟩,yXq a.sq:=λa G=>by
  obtain⟨p,h,rfl⟩:=List.mem_map.1 G;exact hp p h
 obtain⟨g1,D⟩:=zKq (m.2.2.map λp=>goalT ⟨p.1,p.2⟩) 0 h1;rw[List.map_map] at g1 D;refine⟨λq A=>?_,?_⟩
 ·simp only[Tr.walk,List.mem_cons] at A;rcases A with rfl|A
  ·exact⟨hs,E,by decide,h1⟩
  ·exact g1 q A
 ·have D:yXm (m.2.2.map λp=>goalT ⟨p.1,p.2⟩)<=1:=D;simp only[Tr.height];omega
set_option maxHeartbeats 4000000 in
theorem zUr (G:Gl gl)(T:Gt gl)(aC:∀g x,gl g=some x->age x=x)(b:Bool)(t:Tr)(x:IV)(hx:IsTr t x)(hw:wTr t<=1099511627776)(st:ISt) :
  ICall prog gl 3 [.raw (.bool b),x] st (λr st'=>r=.raw (.bool true)/\st'=st):=by
 have ct:=λst=>wW0 gl G T aC st;have cn:=λst=>wGj gl t x hx hw st;have bL:=λst=>vWc gl b st;have cm:(if b=true then 2 else 1:Nat)=1\/(if b=true then 2 else 1:Nat)=2:=by cases b<;>simp
 generalize (if b=true then 2 else 1:Nat)=ca at bL cm;have aQ:=λhs st=>vW6 gl aC t x hx hw hs st;have aS:=λah hs l h1 h4 st=>vWg gl G T aC ca t x hx ah hs l h1 h4 st;have aT:=λhs st=>zUs gl aC t x hx hs st;have b9:=hx;obtain⟨rule,tl,xl,tr,xr,op,fn,ta,xa,tb,xb,v,un,tu,xu,n,ts,xs,rfl⟩:=yZy hx;refine iI func3 ?_;simp only[go_sem,zA];refine (ct _).mono ?_;rintro _ st ⟨rfl,rfl⟩;simp only[go_sem,zA,reduceCtorEq];refine (bL _).mono ?_;rintro _ st ⟨rfl,rfl⟩;simp only[go_sem,zE,zA,zL];refine (cn _).mono ?_;rintro _ st ⟨rfl,rfl⟩;cases hs:(okT t&&decide (t.steps<=60))
 ·simp only[go_sem,zE];exact yQ0 ⟨rfl,rfl⟩
 simp only[bAt,dTe] at hs;obtain⟨cg,hst⟩:=hs;have ah:=zK8 cg (by omega);have aQ:=aQ (by omega);have aS:=aS ah (by omega);have aT:=aT (by omega);simp only[go_sem,zE,zA,zL];refine (aQ _).mono ?_;rintro _ st ⟨⟨bm,rfl⟩,rfl⟩;cases bm
 ·simp only[go_sem,zE];exact yQ0 ⟨rfl,rfl⟩
 have ha:arrI prog 40=some (4,true,9):=by kernel_rfl
 simp only[go_sem,zE];refine LoopC.ctr 4 (λk fr st' ds=>(∃A:Nat->List IV,(∀i,i<k->AdvC ca t (i+1) (A i))/\(∀i,k<=i->A i=advZ)/\fr 6=.box (A 0++(A 1++(A 2++A 3))))/\(0<k->errH ca t=0->(hCk ca t).2=0/\FkP ca (sG t)/\(leF ca (sG t)).2=0/\0<(leF ca (sG t)).1)/\fr 7=.iv (.raw (.int .i64 (if k=0 then 0 else (errH ca t:Int)))) /\
  fr 3=.box [.raw (.int .u8 rule),.sl tl xl,.sl tr xr,.raw (.int .u8 op),.raw (.string fn),.sl ta xa,.sl tb xb,.raw (.bool v),.raw (.string un),.sl tu xu,.raw (.string n),.sl ts xs]/\fr 5=.iv (.raw (.int .u8 (ca:Int)))/\fr 37=.iv (.raw (.int .i64 (k:Int)))/\st'=st/\ds=[]) ?_ ?_ ?_
 ·simp only[go_sem,zE];exact⟨⟨λ_=>advZ,nofun,λ_ _=>rfl,rfl⟩,nofun,rfl⟩
 ·rintro k fr D _ E ⟨⟨A,hA,O,f6⟩,bJ,f7,f3,f5,f37,rfl,rfl⟩;have hc:=λst=>aS (k+1) (by omega) (by omega) st;simp only[go_sem,zE,zA,zL,reduceCtorEq,f3,f5,f37,show decide ((k:Int)<4)=true from dEt (by omega),yQc E (show 4<=281474976710656 by omega)];refine (hc _).mono ?_;rintro _ D ⟨hr,rfl⟩;obtain⟨a,rfl,bF,hF⟩:=wJs hr;have aG:∀i,i<k+1->AdvC ca t (i+1) (if i=k then a else A i):=λi hi=>by
   by_cases he:i=k
   ·rw[if_pos he,he];exact bF
   ·rw[if_neg he];exact hA i (by omega)
  have aE:∀i,k+1<=i->(if i=k then a else A i)=advZ:=λi hi=>by rw[if_neg (by omega)];exact O i (by omega)
  obtain⟨t0,x0,h0,b0,o0,n0,t1,x1,t2,x2,r0,t3,x3,rfl⟩:=bF.shape;rcases (show k=0\/k=1\/k=2\/k=3 by omega) with rfl|rfl|rfl|rfl
  ·rw[O 0 (by omega),O 1 (by omega),O 2 (by omega),O 3 (by omega)] at f6;have dk:decide ((0:Int)<((0:Nat):Int))=false:=rfl;simp only[go_sem,zE,zA,zM,zL,f3,f5,f6,f37,ha,dk,show (0<=((0:Nat):Int))=True from eq_true (by omega),show (0<4)=True from eq_true (by decide),show Int.toNat ((0:Nat):Int)=0 from rfl];exact⟨⟨_,aG,aE,by simp only[O 1 (by omega),O 2 (by omega),O 3 (by omega)];rfl⟩,λ_=>hF,rfl⟩
  ·obtain⟨u0,v0,w0,i0,j0,m0,u1,v1,u2,v2,s0,u3,v3,e0⟩:=(hA 0 (by omega)).shape;rw[e0,O 1 (by omega),O 2 (by omega),O 3 (by omega)] at f6;have dk:decide ((0:Int)<((1:Nat):Int))=true:=rfl;simp only[go_sem,zE,zA,zM,zL,reduceCtorEq,f3,f5,f6,f7,f37,ha,dk,decide_true,show (0<=((1:Nat):Int))=True from eq_true (by omega),show (1<4)=True from eq_true (by decide),show Int.toNat ((1:Nat):Int)=1 from rfl];exact⟨⟨_,aG,aE,by simp only[e0,O 2 (by omega),O 3 (by omega)];rfl⟩,λ_=>hF,rfl⟩
  ·obtain⟨u0,v0,w0,i0,j0,m0,u1,v1,u2,v2,s0,u3,v3,e0⟩:=(hA 0 (by omega)).shape;obtain⟨p0,q0,w1,i1,j1,m1,p1,q1,p2,q2,s1,p3,q3,e1⟩:=(hA 1 (by omega)).shape;rw[e0,e1,O 2 (by omega),O 3 (by omega)] at f6;have dk:decide ((0:Int)<((2:Nat):Int))=true:=rfl;simp only[go_sem,zE,zA,zM,zL,reduceCtorEq,f3,f5,f6,f7,f37,ha,dk,decide_true,show (0<=((2:Nat):Int))=True from eq_true (by omega),show (2<4)=True from eq_true (by decide),show Int.toNat ((2:Nat):Int)=2 from rfl];exact⟨⟨_,aG,aE,by simp only[e0,e1,O 3 (by omega)];rfl⟩,λ_=>hF,rfl⟩
  ·obtain⟨u0,v0,w0,i0,j0,m0,u1,v1,u2,v2,s0,u3,v3,e0⟩:=(hA 0 (by omega)).shape;obtain⟨p0,q0,w1,i1,j1,m1,p1,q1,p2,q2,s1,p3,q3,e1⟩:=(hA 1 (by omega)).shape;obtain⟨y0,z0,w2,i2,j2,m2,y1,z1,y2,z2,s2,y3,z3,e2⟩:=(hA 2 (by omega)).shape;rw[e0,e1,e2,O 3 (by omega)] at f6;have dk:decide ((0:Int)<((3:Nat):Int))=true:=rfl;simp only[go_sem,zE,zA,zM,zL,reduceCtorEq,f3,f5,f6,f7,f37,ha,dk,decide_true,show (0<=((3:Nat):Int))=True from eq_true (by omega),show (3<4)=True from eq_true (by decide),show Int.toNat ((3:Nat):Int)=3 from rfl];exact⟨⟨_,aG,aE,by simp only[e0,e1,e2];rfl⟩,λ_=>hF,rfl⟩
 ·rintro fr D _ ⟨⟨A,hA,O,f6⟩,bJ,f7,f3,f5,f37,rfl,rfl⟩;by_cases hE:errH ca t=0
  case neg =>
   have af:∀i,i<4->∃tg xs,okEs tg 1/\A i=.sl tg xs::advZ.tail/\(errH ca t≠272->xs=[]):=λi hi=>by
    rcases hA i hi with⟨_,h⟩|⟨h,_⟩
    ·exact h
    ·exact absurd h hE
   obtain⟨ao,cS,dF,e0,k0⟩:=af 0 (by omega);obtain⟨bZ,cR,dE,e1,_⟩:=af 1 (by omega);obtain⟨bY,bT,dD,e2,_⟩:=af 2 (by omega);obtain⟨ax,cQ,dC,e3,_⟩:=af 3 (by omega);rw[e0,e1,e2,e3,show advZ.tail=[.raw (.int .i64 0),.raw (.bool false),.raw (.int .u8 0),.raw (.string ⟨#[]⟩),nlS,nlS,.raw (.int .u8 0),nlS] from rfl] at f6;have d0:decide ((errH ca t:Int)=0)=false:=dEf (by omega);by_cases bM:errH ca t=272
   ·have d1:decide ((errH ca t:Int)=272)=true:=dEt (by omega);simp only[go_sem,zE,zA,zM,zL,reduceCtorEq,f6,f7,f37,ha,d0,d1,decide_true,show decide (IntKind.i64.wrap (0+0)=0)=true from rfl,show decide (((0:Nat):Int)=0)=true from rfl,show decide (((4:Nat):Int)<4)=false from rfl,Int.le_refl,show ((0:Int)<=1)=True from eq_true (by decide),show ((0:Int)<=2)=True from eq_true (by decide),show ((0:Int)<=3)=True from eq_true (by decide),Int.toNat_zero,show Int.toNat 1=1 from rfl,show Int.toNat 2=2 from rfl,show Int.toNat 3=3 from rfl,show (0<4)=True from eq_true (by decide),show (1<4)=True from eq_true (by decide),show (2<4)=True from eq_true (by decide),show (3<4)=True from eq_true (by decide)];exact yQ0 ⟨rfl,rfl⟩
   ·have d1:decide ((errH ca t:Int)=272)=false:=dEf (by omega);obtain rfl:=k0 bM;simp only[go_sem,zE,zA,zM,zL,reduceCtorEq,f6,f7,f37,ha,d0,d1,decide_true,show decide (IntKind.i64.wrap (0+0)=0)=true from rfl,show decide (((0:Nat):Int)=0)=true from rfl,show decide (((4:Nat):Int)<4)=false from rfl,Int.le_refl,show ((0:Int)<=1)=True from eq_true (by decide),show ((0:Int)<=2)=True from eq_true (by decide),show ((0:Int)<=3)=True from eq_true (by decide),Int.toNat_zero,show Int.toNat 1=1 from rfl,show Int.toNat 2=2 from rfl,show Int.toNat 3=3 from rfl,show (0<4)=True from eq_true (by decide),show (1<4)=True from eq_true (by decide),show (2<4)=True from eq_true (by decide),show (3<4)=True from eq_true (by decide)];exact yQ0 ⟨rfl,rfl⟩
  obtain⟨dJ,⟨hc,hv,K,hK⟩,he,hh⟩:=bJ (by omega) hE;have hB:=vGu hc hv hK (by rw[<- wJc hh];exact hh);have ae:∀i,i<4->∃p ps tg o n t1 x1 t2 x2 t3 x3,yZu t=p::ps/\okEs tg 1/\IsFm (bsM ca (sG t)).2.1 (.agg [.raw (.int .u8 o),.raw (.string n),.sl t1 x1,.sl t2 x2])/\okEs t3 2/\AllR (λp y=>IsSq ⟨p.1,p.2⟩ y) (bsM ca (sG t)).2.2 x3 /\
    A i=advK (.sl tg (plI p)) ((leF ca (sG t)).1:Int) (bsM ca (sG t)).1 o n (.sl t1 x1) (.sl t2 x2) (.sl t3 x3) (i+1):=λi hi=>by
   rcases hA i hi with⟨h,_⟩|⟨_,p,ps,tg,o,n,t1,x1,t2,x2,t3,x3,h1,h2,⟨_,_,_,_,_,_,_,_,hz,h4,h5,h6⟩,h7⟩
   ·exact absurd hE h
   ·cases hz;exact⟨p,ps,tg,o,n,t1,x1,t2,x2,t3,x3,h1,h2,h4,h5,h6,h7⟩
  obtain⟨p,ps,ao,u0,v0,w0,i0,j0,m0,u1,v1,hg,au,_,_,_,e0⟩:=ae 0 (by omega);obtain⟨p',du,bZ,o1,n1,q1,y1,q2,y2,q3,y3,bw,_,bA,_,_,e1⟩:=ae 1 (by omega);obtain⟨dw,cH,bY,o2,n2,q4,y4,q5,y5,q6,y6,aK,_,bx,_,_,e2⟩:=ae 2 (by omega);obtain⟨p3,dt,ax,o3,n3,q7,y7,q8,y8,q9,y9,bu,bs,am,cv,aU,e3⟩:=ae 3 (by omega);rw[hg] at bw aK bu;cases bw;cases aK;cases bu;have az:sG t=(atT t p).sq:=by unfold sG;rw[hg];rfl
  obtain⟨aI,dH⟩:=zKr hg;generalize dI:bsM ca (sG t)=m at hB bA bx am aU e0 e1 e2 e3;generalize aw:(leF ca (sG t)).1=h at hh e0 e1 e2 e3;have aA:=aU.1;simp only[advK] at e0 e1 e2 e3;rw[e0,e1,e2,e3,show advZ.drop 2=[.raw (.bool false),.raw (.int .u8 0),.raw (.string ⟨#[]⟩),nlS,nlS,.raw (.int .u8 0),nlS] from rfl] at f6;have d0:decide ((errH ca t:Int)=0)=true:=dEt (by omega);simp only[go_sem,zE,zA,zM,zL,reduceCtorEq,f3,f6,f7,f37,ha,d0,show decide (((4:Nat):Int)<4)=false from rfl,Int.le_refl,show ((0:Int)<=1)=True from eq_true (by decide),show ((0:Int)<=2)=True from eq_true (by decide),show ((0:Int)<=3)=True from eq_true (by decide),Int.toNat_zero,show Int.toNat 1=1 from rfl,show Int.toNat 2=2 from rfl,show Int.toNat 3=3 from rfl,show (0<4)=True from eq_true (by decide),show (1<4)=True from eq_true (by decide),show (2<4)=True from eq_true (by decide),show (3<4)=True from eq_true (by decide)];refine (aT _).mono ?_;rintro _ D ⟨⟨dj,ys,rfl,br,hys⟩,rfl⟩;rw[hg] at hys;obtain⟨y,hy,t',rfl,cb⟩:=hys.2 0 p rfl;obtain⟨zs,rfl⟩:∃zs,ys=.sl t' (plI p)::zs:=by
   cases ys with
   | nil=>cases hy
   | cons a zs=>cases hy;exact⟨zs,rfl⟩
  have bH:=λst=>zYp gl ao t' p p au cb st;have bG:=λst=>zYp gl ax ao p p bs au st;rw[yZ0.2 rfl] at bH bG;have bC:=λst=>zGa gl m.2.1 m.2.1 _ _ bA am st;have bB:=λst=>zGa gl m.2.1 m.2.1 _ _ bx am st;rw[(yXp m.2.1 m.2.1).2 rfl] at bC bB;have dl:decide (((zs.length+1:Nat):Int)=0)=false:=dEf (by omega);simp only[go_sem,zE,zA,fits,dl,yQ3 br,Int.le_refl,Int.toNat_zero];refine (bH _).mono ?_;rintro _ D ⟨rfl,rfl⟩;simp only[go_sem,zE,zA];refine (bG _).mono ?_;rintro _ D ⟨rfl,rfl⟩;simp only[go_sem,zE,zA,zL,decide_true,show decide (IntKind.i64.wrap (IntKind.i64.wrap (((0:Nat):Int)+((0:Nat):Int))+((0:Nat):Int))=0)=true from rfl,List.append_eq];refine (bC _).mono ?_;rintro _ D ⟨rfl,rfl⟩;simp only[go_sem,zE,zA,zL,decide_true];refine (bB _).mono ?_;rintro _ D ⟨rfl,rfl⟩;simp only[go_sem,zE,zA,zL,f3,decide_true];refine LoopC.ctr p.length (λk fr st' ds=>(∃c,fr 16=.box c/\IsTr (atT t (p.take k)) (.agg c))/\st'=D/\fr 5=.iv (.raw (.int .u8 (ca:Int))) /\
   fr 11=.box (.sl ao (plI p)::.raw (.int .i64 (h:Int))::advZ.drop 2)/\fr 14=.box [.sl ax (plI p),.raw (.int .i64 (h:Int)),.raw (.bool (onR m.1)),.raw (.int .u8 o3),.raw (.string n3),.sl q7 y7,.sl q8 y8,.raw (.int .u8 (m.1:Int)),.sl q9 y9]/\fr 17=.iv (.raw (.int .i64 (k:Int)))/\ds=[]) ?_ ?_ ?_
  ·simp only[go_sem,zE];exact⟨⟨_,rfl,b9⟩,f5,rfl⟩
  ·rintro k fr D _ E ⟨⟨c,f16,hc⟩,rfl,f5,f11,f14,f17,rfl⟩;obtain⟨i,hi⟩:=yQ1 E;have cj:=xJk hi;have bt:okP t (p.take k++i::p.drop (k+1)):=by
    have:=List.take_append_drop k p;rw[List.drop_eq_getElem_cons E,(lGs hi).2] at this;rw[this];exact aI
   obtain⟨h1,_⟩:=yYk bt;have bD:atT t (p.take (k+1))=atT (atT t (p.take k)) [i]:=by
    rw[yQ6 hi];exact (yYk (p:=p.take k) (l:=[i]) (t:=t) (zGm (by rw[List.append_assoc];exact bt))).2
   generalize atT t (p.take k)=z at h1 hc bD;obtain⟨aq,J,f',u',n',bi⟩:=z;obtain⟨z,hz,_⟩:=h1;obtain⟨al,aj,ak,ai,bn,bN,bg,a7,bf,a6,v',bc,bd,aZ,be,a1,aa,_,_,_,_,_,_,_,e4,i4⟩:=hc.mk;injection aa with aa;subst aa;obtain⟨y,hy,bq⟩:=i4.get hz;have b8:=bq;obtain⟨b4,dh,cV,tr2,cT,dx,dN,dp,cY,dm,cW,v2,c8,dc,cO,dy,df,bT,rfl⟩:=yZy bq;simp only[go_sem,zE,zB,zA,zL,f5,f11,f14,f16,f17,fits,yXj,lt_i E,yQ3 au,yQ3 e4,iNn,cj,hy,yQc E (show p.length<=281474976710656 by omega)];rw[bD];exact λ_=>⟨_,rfl,by simp only[atT,hz];exact b8⟩
  ·rintro fr D _ ⟨⟨c,f16,hc⟩,rfl,f5,f11,f14,f17,rfl⟩;rw[lTl] at hc;generalize b7:atT t p=z at hc az;obtain⟨aq,J,f',u',n',bi⟩:=z;obtain⟨al,aj,ak,ai,bn,bN,bg,a7,bf,a6,v',bc,bd,aZ,be,a1,aa,_,b1,c1,b2,c2,_⟩:=hc.mk;injection aa with aa;subst aa;have cc:IsSq J (.agg [.sl al aj,.sl ak ai]):=⟨_,_,_,_,rfl,b1,c1,b2,c2⟩
   have ch:=λst=>xZ5 gl (m.1:Int) o3 n3 q7 y7 q8 y8 al aj ak ai ⟨true,.nil,0⟩ [] st;simp only[go_sem,zE,zA,zL,f11,f14,f16,f17,yXj,yQl (nLi _)];intro _;refine (ch _).mono ?_;rintro _ D ⟨rfl,rfl⟩;have az:sG t=J:=az;rw[az] at hB aw he;have aD:yXq J:=by have:=wUt ah aI;rw[b7] at this;exact this
   have hms:m.2.1.size<=1000000:=by have:=yJw (yZi hB.fm);omega
   have bI:=λst=>xWw gl G T ca J _ cc aD st;have cq:=λst=>zYq gl G J.l m.2.1 _ _ _ b1 c1 am aD.1 hms st;have co:=λst=>zYq gl G J.r m.2.1 _ _ _ b2 c2 am aD.2 hms st;have cK:=hB.len;simp only[go_sem,zE,zA,zL];refine LoopC.ctr m.2.2.length (λk fr st' ds=>(∃t y,fr 18=.box [.raw (.int .u8 (m.1:Int)),.sl al aj,.sl ak ai,.raw (.int .u8 o3),.raw (.string n3),.sl q7 y7,.sl q8 y8,.raw (.bool false),.raw (.string ⟨#[]⟩),nlS,.raw (.string ⟨#[]⟩),.sl t y]/\own st' t k 12 D/\subSt D st'/\IsTrs ((m.2.2.take k).map λp=>goalT ⟨p.1,p.2⟩) y/\y.length=k)/\fr 5=.iv (.raw (.int .u8 (ca:Int))) /\
    fr 11=.box (.sl ao (plI p)::.raw (.int .i64 (h:Int))::advZ.drop 2)/\fr 14=.box [.sl ax (plI p),.raw (.int .i64 (h:Int)),.raw (.bool (onR m.1)),.raw (.int .u8 o3),.raw (.string n3),.sl q7 y7,.sl q8 y8,.raw (.int .u8 (m.1:Int)),.sl q9 y9] /\
    fr 16=.box [.raw (.int .u8 aq),.sl al aj,.sl ak ai,.raw (.int .u8 bn),.raw (.string bN),.sl bg a7,.sl bf a6,.raw (.bool v'),.raw (.string bc),.sl bd aZ,.raw (.string n'),.sl be a1]/\fr 19=.iv (.raw (.int .i64 (k:Int)))/\ds=[]) ?_ ?_ ?_
   ·simp only[go_sem,zE];exact⟨⟨_,[],rfl,own.nil ..,subSt.refl _,rfl,rfl⟩,f5,f11,f14,f16,rfl⟩
   ·rintro k fr bj _ E ⟨⟨t',y,f18,av,ac,hy,aM⟩,f5,f11,f14,f16,f19,rfl⟩;obtain⟨q,hq⟩:=yQ1 E;obtain⟨w,hw,ce⟩:=aU.2 k q hq;obtain⟨t5,x5,t6,x6,rfl,e5,i5,e6,i6⟩:=ce;have ci:=λst=>xZ6 gl t5 x5 t6 x6 st;simp only[go_sem,zE,zB,zA,f14,f18,f19,aA,lt_i E,yQ3 cv,iNn,hw,fits];intro _;refine (ci _).mono ?_;rintro _ bj ⟨rfl,rfl⟩;simp only[go_sem,zE,zA,zM,zL,gI,fits,yQ4];refine yZc av aM ac rfl (by simp[fits,IV.one]) (by simp only;omega) (by omega) λt2 st4 w1 w2 w3=>?_;simp only[go_sem,zE,zA,zL,f5,f11,f14,f16,f18,f19,yQc E (show m.2.2.length<=281474976710656 by omega)];refine⟨t2,_,rfl,w1,w2,?_,by rw[lLa,aM];rfl⟩;rw[yQ6 hq,List.map_append,List.map_singleton];exact hy.append ⟨_,[],rfl,⟨_,_,_,_,_,_,_,_,_,_,_,_,_,_,_,_,rfl,by decide,e5,i5,e6,i6,xKk,zYy,.inl rfl,rfl⟩,rfl⟩
   ·rintro fr bj _ ⟨⟨t',y,f18,av,ac,hy,aM⟩,f5,f11,f14,f16,f19,rfl⟩;rw[lTl] at hy;have cd:IsTr (stT m J) (.agg [.raw (.int .u8 (m.1:Int)),.sl al aj,.sl ak ai,.raw (.int .u8 o3),.raw (.string n3),.sl q7 y7,.sl q8 y8,.raw (.bool false),.raw (.string ⟨#[]⟩),nlS,.raw (.string ⟨#[]⟩),.sl t' y]) :=
     ⟨_,_,_,_,_,_,_,_,_,_,_,_,_,_,_,_,rfl,hB.lt,b1,c1,b2,c2,am,zYy,av.es,hy⟩
    have bK:=λst=>zU7 gl G T ca (stT m J) _ cd (vV6 aD hms (λp hp=>zQn (hB.prem p hp).1)) (by simp only[Tr.steps,yU6];omega) st;rw[hB.ck] at bK;simp only[go_sem,zE,zA,zL,f5,f14,f18,f19,aA,yQl (nLi _)];intro _;refine (bK _).mono ?_;rintro _ st4 ⟨⟨di,rfl,_⟩,rfl⟩;have ag:=hB.has;have aJ:decide ((m.2.2.length:Int)=0)=decide ((h:Int)=1):=by
     have h1:=hB.nil;rw[<- wJc (by rw[aw];exact hh),aw] at h1;rw[decide_eq_decide];constructor
     ·intro h2;have:=h1.1 (List.eq_nil_of_length_eq_zero (by omega));omega
     ·intro h2;rw[h1.2 (by omega)];rfl
    cases U:onR m.1
    ·simp only[go_sem,zE,zA,zL,f5,f14,f16,U];refine (bI _).mono ?_;rintro _ st4 ⟨⟨rfl,_⟩,rfl⟩;rw[U,if_neg (by decide)] at ag;simp only[go_sem,zE,zA,zL,f11,f14,U,aw,he,decide_true,show decide (((0:Nat):Int)=0)=true from rfl];refine (cq _).mono ?_;rintro _ st4 ⟨rfl,rfl⟩;simp only[go_sem,zE,f14,U,ag,aJ,aA];intro _;exact yQg ac ⟨rfl,rfl⟩
    ·simp only[go_sem,zE,zA,zL,f5,f14,f16,U];refine (bI _).mono ?_;rintro _ st4 ⟨⟨rfl,_⟩,rfl⟩;rw[U,if_pos rfl] at ag;simp only[go_sem,zE,zA,zL,f11,f14,U,aw,he,decide_true,show decide (((0:Nat):Int)=0)=true from rfl];refine (co _).mono ?_;rintro _ st4 ⟨rfl,rfl⟩;simp only[go_sem,zE,f14,U,ag,aJ,aA];intro _;exact yQg ac ⟨rfl,rfl⟩
end Go.Proofs.Tryz
namespace Go.Proofs.Tryz
open Go Go.Iv Go.ChangeShapes
open Go.Proofs.YtofmbookakncjaaGreatDoor.Rows (uptoBulk uptoBulkAll)
set_option maxRecDepth 4000
theorem uSeq:prog.underlying 24=some (.struct #[⟨ "Left",22,0,false, "", "",0⟩,⟨ "Right",22,1,false, "", "",24⟩]):=by kernel_rfl
theorem vKt:prog.underlying 32=some (.struct #[⟨ "Rule",5,0,false, "", "",0⟩,⟨ "Seq",24,1,false, "", "",8⟩,⟨ "Main",27,3,false, "", "",56⟩,⟨ "Term",29,7,false, "", "",128⟩,⟨ "Name",9,10,false, "", "",176⟩,⟨ "Sub",30,11,false, "", "",192⟩]):=by kernel_rfl
theorem vKs:prog.underlying 30=some (.slice 32):=by kernel_rfl
theorem nSeq:prog.cellsOf 24=2:=by kernel_rfl
theorem vVy:prog.cellsOf 32=12:=by kernel_rfl
mutual
theorem xVf:∀t:Tm,wTm t<=2*wQa t
 | .mk _ n us=>by have:=zJe us;simp only[wTm,wQa];omega
theorem zJe:∀l:List Tm,wTms l<=2*yGz l
 | []=>Nat.le_refl _
 | a::l=>by have:=xVf a;have:=zJe l;simp only[wTms,yGz];omega
end
mutual
theorem xVg:∀f:Fm,wFm f<=2*wQb f
 | .mk _ n us sub=>by have:=zJe us;have:=yUq sub;simp only[wFm,wQb];omega
theorem yUq:∀l:List Fm,wFms l<=2*zQv l
 | []=>Nat.le_refl _
 | a::l=>by have:=xVg a;have:=yUq l;simp only[wFms,zQv];omega
end
section
variable {H:Type}{enc:TypeId×Value->H}{w:World}{spare:Nat->Bool}{held:Bool}
def RQ (d:DataW H)(s:Sq)(x:IV):Prop:=IsSq s x/\wFms s.l+wFms s.r<=2*uptoBulk d
theorem vVa (O:Nat)(cs:List Value)(y:DataW H×List MemPlace)(h:DataW.trod enc prog w 0 spare held O 24 cs=some y)(hb:uptoBulk y.1<=1048576):∃s x,VL 0 (L0 w) w cs x.cells/\RQ y.1 s x:=by
 obtain⟨ys,n,rfl,rfl,hl,J,hf⟩:=DataW.trod_struct uSeq h
 match ys,J with
 | [y0,y1],_ =>
  rw[nSeq] at hl
  match cs,hl with
  | [c0,c1],_ =>
   have h0:=hf 0 _ rfl;have h1:=hf 1 _ rfl;simp only[List.getElem?_cons_zero,List.getElem?_cons_succ] at h0 h1;simp only[List.map_cons,List.map_nil,uptoBulk,uptoBulkAll] at hb;obtain⟨v0,G,D,l0,e0,aa,ac,af,ak⟩:=zUa h0 (by omega) (λm _=>xKh m);obtain⟨v1,E,A,l1,e1,U,ab,ae,aj⟩:=zUa h1 (by omega) (λm _=>xKh m);cases e0;cases e1;refine⟨⟨l0,l1⟩,.agg [.sl G D,.sl E A],VL.cons aa (VL.cons U VL.nil),⟨G,D,E,A,rfl,ac,af,ab,ae⟩,?_⟩;have:=yUq l0;have:=yUq l1;simp only[List.map_cons,List.map_nil,uptoBulk,uptoBulkAll];omega
theorem xZ9:∀ {us:List Tr}{A:List IV},us.length=A.length->(∀(i:Nat)(a:Tr)(x:IV),us[i]?=some a->A[i]?=some x->IsTr a x)->IsTrs us A
 | [],A,h,_=>by simpa[IsTrs] using h.symm
 | a::us,[],h,_=>by simp at h
 | a::us,x::A,h,D=>⟨x,A,rfl,D 0 a x rfl rfl,xZ9 (by simpa using h) (λi b y G E=>D (i+1) b y (by simpa using G) (by simpa using E))⟩
theorem xVe:∀ {us:List Tr}{ds:List (DataW H)},us.length=ds.length->(∀(i:Nat)(a:Tr)(d:DataW H),us[i]?=some a->ds[i]?=some d->wTr a+a.steps<=2*uptoBulk d)->wTrs us+yQr us<=2*uptoBulkAll ds
 | [],ds,h,_=>by simp[wTrs,yQr]
 | a::us,[],h,_=>by simp at h
 | a::us,x::D,h,A=>by
  have h1:=A 0 a x rfl rfl;have h2:=xVe (us:=us) (ds:=D) (by simpa using h) (λi b y G E=>A (i+1) b y (by simpa using G) (by simpa using E));simp only[wTrs,yQr,uptoBulkAll];omega
def RR (d:DataW H)(t:Tr)(x:IV):Prop:=IsTr t x/\wTr t+t.steps<=2*uptoBulk d
theorem RR.cells {d:DataW H}{t:Tr}{x:IV}(h:RR d t x):x.cells.length=12:=by
 obtain⟨_,_,_,_,_,_,_,_,_,_,_,_,_,_,_,_,_,_,rfl⟩:=yZy h.1;rfl
theorem wW5 {D:Nat}{cs:List Value}{y:DataW H×List MemPlace}(h:DataW.trod enc prog w 0 spare held D 30 cs=some y)(hb:uptoBulk y.1<=1048576)
  (IH:∀(n:Nat),n<D->∀(cs:List Value) (y:DataW H×List MemPlace),DataW.trod enc prog w 0 spare held n 32 cs=some y->uptoBulk y.1<=1048576->∃t x,VL 0 (L0 w) w cs x.cells/\RR y.1 t x) :
  ∃v J G ts,cs=[v]/\V 0 (L0 w) w v (.sl J G)/\okEs J 12/\IsTrs ts G/\wTrs ts+yQr ts+1<=2*uptoBulk y.1:=by
 obtain⟨v,J,G,ts,rfl,hv,O,hl,hc⟩:=xJm (H:=H) (P:=prog) (d:=y.1) (p:=y.2) RR vKs vVy (by decide) h (λA sp e=>by
   have:=yKc A sp;have:=zQe A;rw[<- e] at *;omega) (λd t x h=>h.cells) (λn hn cs' z q ⟨A,sp,he,hm⟩ hz=>by
   have:=yKc A sp;have:=zGk hm;rw[he] at hb;exact IH n (by omega) cs' (z,q) hz (show uptoBulk z<=1048576 by omega))
 refine⟨v,J,G,ts,rfl,hv,O,?_⟩;rcases hc with⟨hd,rfl⟩|⟨A,sp,hd,ai,hr⟩
 ·obtain rfl:ts=[]:=List.length_eq_zero_iff.1 (by simpa using hl);exact⟨rfl,by rw[hd];simp[wTrs,yQr,uptoBulk]⟩
 ·have U:∀(i:Nat) (a:Tr),ts[i]?=some a->∃x d,G[i]?=some x/\A[i]?=some d/\RR d a x:=λi a E=>by
   have U:=(lGs E).1;exact⟨_,_,List.getElem?_eq_getElem (by omega),List.getElem?_eq_getElem (by omega),hr i _ _ _ (List.getElem?_eq_getElem (by omega)) E (List.getElem?_eq_getElem (by omega))⟩
  refine⟨xZ9 hl (λi a x E hx=>?_),?_⟩
  ·obtain⟨x',d,h1,h2,h3⟩:=U i a E;rw[hx] at h1;cases h1;exact h3.1
  ·have:=xVe (us:=ts) (ds:=A) (by omega) (λi a d E aa=>by
    obtain⟨x',d',h1,h2,h3⟩:=U i a E;rw[aa] at h2;cases h2;exact h3.2)
   have:=yKc A sp;grind
theorem cs12 {cs:List Value}(h:cs.length=12):∃a b c d e f g h i j k l,cs=[a,b,c,d,e,f,g,h,i,j,k,l]:=by
 match cs,h with
 | [a,b,c,d,e,f,g,h,i,j,k,l],_=>exact⟨a,b,c,d,e,f,g,h,i,j,k,l,rfl⟩
theorem vQo:∀(A:Nat)(cs:List Value)(y:DataW H×List MemPlace),DataW.trod enc prog w 0 spare held A 32 cs=some y->uptoBulk y.1<=1048576->∃t x,VL 0 (L0 w) w cs x.cells/\RR y.1 t x:=by
 intro A
 induction A using Nat.strongRecOn with
 | ind A IH =>
  intro cs y h hb;obtain⟨ys,n,rfl,rfl,hl,J,E⟩:=DataW.trod_struct vKt h
  match ys,J with
  | [y0,y1,y2,y3,y4,y5],_ =>
   rw[vVy] at hl;obtain⟨c0,c1,c2,c3,c4,c5,c6,c7,c8,c9,aJ,aI,rfl⟩:=cs12 hl;have h0:=E 0 _ rfl;have h1:=E 1 _ rfl;have h2:=E 2 _ rfl;have h3:=E 3 _ rfl;have h4:=E 4 _ rfl;have h5:=E 5 _ rfl;simp only[List.getElem?_cons_zero,List.getElem?_cons_succ] at h0 h1 h2 h3 h4 h5;simp only[List.map_cons,List.map_nil,uptoBulk,uptoBulkAll] at hb;obtain⟨op,e0,rfl,D⟩:=DataW.trod_int uU8 h0;obtain⟨s,xs,ac,af,ay⟩:=vVa n _ _ h1 (by omega);obtain⟨f,xf,ae,O,aB⟩:=xKh n _ _ h2 (by omega);obtain⟨t,xt,ab,G,aw⟩:=wZ7 n _ _ h3 (by omega);obtain⟨nm,e4,hn,az⟩:=wZc h4 (by omega);obtain⟨v,tg,xb,ts,e5,hv,av,hts,aD⟩:=wW5 h5 (by omega) (λm hm=>IH m (by omega));cases e0;cases e4;cases e5;have D:0<=op/\op<256:=by
    simp only[Lit.wf,IntKind.min,IntKind.max,IntKind.signed,IntKind.bits,bAt] at D;grind
   obtain⟨k,rfl⟩:=Int.eq_ofNat_of_zero_le D.1;obtain⟨tl,xl,tr,xr,rfl,k1,k2,k3,k4⟩:=af;have aC:=O;have ax:=G;obtain⟨o,fn,us,sub⟩:=f;obtain⟨ta,xa,tb,U,rfl,_⟩:=O.mk;obtain⟨b,un,uu⟩:=t;obtain⟨tu,xu,rfl,_⟩:=G.mk;refine⟨.mk k s (.mk o fn us sub) (.mk b un uu) nm ts,.agg [.raw (.int .u8 k),.sl tl xl,.sl tr xr,.raw (.int .u8 o),.raw (.string fn),.sl ta xa,.sl tb U,.raw (.bool b),.raw (.string un),.sl tu xu,.raw (.string nm),.sl tg xb],
    VL.cons (.raw _ trivial) (ac.append (ae.append (ab.append (VL.cons hn (VL.cons hv VL.nil))))),?_,?_⟩
   ·simp only[IsTr];grind
   ·have:=xVg (.mk o fn us sub);have:=xVf (.mk b un uu);simp only[List.map_cons,List.map_nil,uptoBulk,uptoBulkAll,wTr,Tr.steps];omega
end
end Go.Proofs.Tryz
namespace Go.Proofs.Tryz
open Go Go.Iv Go.ChangeShapes Go.RowKit
open Go.Proofs.YtofmbookakncjaaGreatDoor
set_option maxRecDepth 8000
theorem uRow:prog.underlying 244=some (.struct #[⟨ "right",4,0,false, "", "lyceum/syntax",0⟩,⟨ "schema",4,1,false, "", "lyceum/syntax",1⟩,⟨ "name",5,2,false, "", "lyceum/syntax",2⟩,⟨ "args",3,3,false, "", "lyceum/syntax",8⟩,⟨ "subs",3,4,false, "", "lyceum/syntax",16⟩]):=by kernel_rfl
theorem uJt:prog.underlying 245=some (.array 17 244):=by kernel_rfl
theorem uInt:prog.underlying 3=some (.int .i64):=by kernel_rfl
theorem nRow:prog.cellsOf 244=5:=by kernel_rfl
theorem uYk:prog.cellsOf 245=85:=by kernel_rfl
theorem gRows:prog.globalNamed "lyceum/syntax.rows" = some 1:=by kernel_rfl
theorem gRowsT:(prog.globals[1]?).map (·.type)=some 245:=by kernel_rfl
theorem gPow:prog.globalNamed "internal/strconv.uint64pow10" = some 2:=by kernel_rfl
theorem gPowT:(prog.globals[2]?).map (·.type)=some 343:=by kernel_rfl
theorem uPow:prog.underlying 343=some (.array 20 274):=by kernel_rfl
theorem uU64:prog.underlying 274=some (.int .u64):=by kernel_rfl
theorem nPow:prog.cellsOf 343=20:=by kernel_rfl
theorem nU64:prog.cellsOf 274=1:=by kernel_rfl
section
variable {H:Type}{enc:TypeId×Value->H}{w:World}{spare:Nat->Bool}{held:Bool}
def rowD (op:Nat):DataW H:=.agg [.lit (.bool (yZ8 op)),.lit (.bool (zJz op)),.lit (.int .u8 (yXd op)),.lit (.int .i64 (yX9 op)),.lit (.int .i64 (yX8 op))]
def rowV (op:Nat):List Value:=[.bool (yZ8 op),.bool (zJz op),.int .u8 (yXd op),.int .i64 (yX9 op),.int .i64 (yX8 op)]
theorem wX2 {G:Nat}{cs:List Value}{op:Nat}{p:List MemPlace}(h:DataW.trod enc prog w 0 spare held G 244 cs=some (rowD op,p)):cs=rowV op:=by
 obtain⟨ys,n,rfl,U,hl,A,D⟩:=DataW.trod_struct uRow h
 match ys,A with
 | [y0,y1,y2,y3,y4],_ =>
  rw[nRow] at hl
  match cs,hl with
  | [c0,c1,c2,c3,c4],_ =>
   have h0:=D 0 _ rfl;have h1:=D 1 _ rfl;have h2:=D 2 _ rfl;have O:=D 3 _ rfl;have J:=D 4 _ rfl;simp only[List.getElem?_cons_zero,List.getElem?_cons_succ] at h0 h1 h2 O J;obtain⟨b0,e0,rfl⟩:=DataW.trod_bool xGp h0;obtain⟨b1,e1,rfl⟩:=DataW.trod_bool xGp h1;obtain⟨b2,e2,rfl,_⟩:=DataW.trod_int uU8 h2;obtain⟨b3,e3,rfl,_⟩:=DataW.trod_int uInt O;obtain⟨b4,e4,rfl,_⟩:=DataW.trod_int uInt J;cases e0;cases e1;cases e2;cases e3;cases e4;have E:=congrArg Prod.fst U;simp only[rowD,List.map_cons,List.map_nil,DataW.agg.injEq,List.cons.injEq,DataW.lit.injEq,Lit.bool.injEq,Lit.int.injEq,true_and,and_true] at E;obtain⟨rfl,rfl,rfl,rfl,rfl⟩:=E;rfl
theorem wX1:(Rows.laid_lyceum_syntax_rows:DataW H)=.agg ((List.range 17).map rowD):=by rfl
theorem xU5 {G:Nat}{cs:List Value}{p:List MemPlace}(h:DataW.trod enc prog w 0 spare held G 245 cs=some (Rows.laid_lyceum_syntax_rows,p)) :
  cs.length=85/\∀op,op<17->(cs.drop (op*5)).take 5=rowV op:=by
 obtain⟨ys,n,rfl,he,hl,J,U⟩:=DataW.trod_array uJt h;rw[uYk] at hl;refine⟨hl,λop E=>?_⟩;have h1:=U op E;rw[nRow] at h1;have A:=congrArg Prod.fst he;rw[wX1] at A;simp only[DataW.agg.injEq] at A;have h2:(ys.map (·.1))[op]?=some (rowD op):=by
  rw[<- A,List.getElem?_map,List.getElem?_range E];rfl
 rw[List.getElem?_map] at h2;obtain⟨y,O,D⟩:=Option.map_eq_some_iff.1 h2;rw[O] at h1;obtain⟨y1,y2⟩:=y;simp only at D;subst D;exact wX2 h1
end
def gl0:Nat->Option IV
 | 1=>some (.agg rowsL)
 | 2=>some (.agg pow10L)
 | _=>none
theorem G0:Gl gl0:=⟨rfl⟩
theorem T0:Gt gl0:=⟨rfl⟩
def X0 (w:World):WS:={ w:=w,L:=L0 w,st:=λ_=>none,d:=0 }
theorem xJf {cs:List Value}(hl:cs.length=85)(h:∀op,op<17->(cs.drop (op*5)).take 5=rowV op)(i:Nat)(r:Value)(c:IV)(E:cs[i]?=some r)(hc:rowsL[i]?=some c):c=.raw r/\zGe r:=by
 have G:i<85:=by have:=(lGs E).1;omega
 have A:i / 5<17:=by omega
 have e:i=i / 5*5+i%5:=by omega
 have D:i%5<5:=Nat.mod_lt _ (by decide);have h1:(rowV (i / 5))[i%5]?=some r:=by
  rw[<- h _ A,List.getElem?_take,if_pos D,List.getElem?_drop,<- e];exact E
 have h2:(rowI (i / 5))[i%5]?=some c:=by
  rw[<- (zWl _ A).2,List.getElem?_take,if_pos D,List.getElem?_drop,<- e];exact hc
 generalize i%5=k at h1 h2 D
 match k,D with
 | 0,_=>cases h1;cases h2;exact⟨rfl,trivial⟩
 | 1,_=>cases h1;cases h2;exact⟨rfl,trivial⟩
 | 2,_=>cases h1;cases h2;exact⟨rfl,trivial⟩
 | 3,_=>cases h1;cases h2;exact⟨rfl,trivial⟩
 | 4,_=>cases h1;cases h2;exact⟨rfl,trivial⟩
theorem uGc {W:World}(hL:laidMetH prog Rows.hintDegreesUptoRow.laid W):Go.Iv.Good ⟨prog,gl0,0⟩ (X0 W):=by
 obtain⟨ps,A,_⟩:=(show laidMet prog _ W from hL)
 obtain⟨_,_,_,_,_,_,_,_,_,_,A,_⟩:=A;obtain⟨_,_,_,_,_,_,_,_,_,_,A,_⟩:=A;obtain⟨g1,t1,J,f1,p1,q1,aq,an,al,av,A,_⟩:=A;obtain⟨g2,t2,ag,f2,p2,q2,ao,am,ak,au,_,_⟩:=A;obtain rfl:=Option.some.inj (gPow.symm.trans aq);obtain rfl:=Option.some.inj (gPowT.symm.trans an);obtain rfl:=Option.some.inj (gRows.symm.trans ao);obtain rfl:=Option.some.inj (gRowsT.symm.trans am);have ac:=Lib.cells_of_tab (zs:=Lib.pow10Tab) uPow uU64 nU64 nPow av;have G:=xU5 au;have hb:∀(n:String) (g:Nat) (cs:Array Value),prog.globalNamed n=some g->W.var? prog n=some cs->∃T f,W.heap[g]?=some (.cells cs T f):=by
  intro n g cs hn hv;unfold World.var? at hv;rw[hn,Option.bind_some] at hv;split at hv
  ·rename_i c t f hh;cases hv;exact⟨_,_,hh⟩
  ·cases hv
 obtain⟨T1,af,ab⟩:=hb _ _ _ gPow al;obtain⟨T2,ae,aa⟩:=hb _ _ _ gRows ak;have row:∀(g:Nat) (cs:Array Value) (T:TypeId) (f:Nat×Nat) (xs:List IV),W.heap[g]?=some (.cells cs T f)->cs.size=xs.length->(∀(i:Nat) (r:Value) (c:IV),cs.toList[i]?=some r->xs[i]?=some c->c=.raw r/\zGe r) →
   V 0 (L0 W) W (.pointer (some ⟨g,0,none⟩)) (.cptr (.agg xs)):=by
  intro g cs T f xs hh hl h;refine .cptr _ _ cs.toList rfl (by simpa[IV.cells] using hl) ?_ (λi r E=>?_) (λi r c E hc=>?_)
  ·show 0+cs.toList.length<=L0 W g;simp[L0,hh]
  ·show W.cell? ⟨g,0+i,none⟩=some r;simp only[World.cell?,hh,Nat.zero_add];simpa using E
  ·obtain⟨rfl,hk⟩:=h i r c E hc;exact .raw _ hk
 have hp:∀(i:Nat) (r:Value) (c:IV),J.toList[i]?=some r->pow10L[i]?=some c->c=.raw r/\zGe r:=by
  intro i r c E hc;rw[ac,List.getElem?_map] at E;unfold pow10L at hc;rw[List.getElem?_map] at hc;obtain⟨z,hz,rfl⟩:=Option.map_eq_some_iff.1 E;rw[hz] at hc;cases hc;exact⟨rfl,trivial⟩
 have U:J.size=pow10L.length:=by
  rw[<- Array.length_toList,ac];simp[pow10L]
 have O:ag.size=rowsL.length:=by
  rw[<- Array.length_toList,G.1];rfl
 refine⟨λb o h=>(by cases h),λg x D=>?_,Nat.zero_le _,λb hb=>?_,λg x D=>?_,λ_=>Nat.zero_le _⟩
 ·match g,D with
  | 1,D=>cases D;exact row 1 ag T2 ae _ aa O (λi r c E hc=>xJf G.1 G.2 i r c E hc)
  | 2,D=>cases D;exact row 2 J T1 af _ ab U hp
 ·show L0 W b=0;unfold L0;rw[Array.getElem?_eq_none (show W.heap.size<=b from hb)]
 ·match g,D with
  | 1,D=>cases D;exact⟨T2,ae == (0,0),by show shq W 1=_;simp[shq,aa,O,IV.cells]⟩
  | 2,D=>cases D;exact⟨T1,af == (0,0),by show shq W 2=_;simp[shq,ab,U,IV.cells]⟩
theorem xX6 {W:World}{X':WS}(h:Ext (X0 W) X'):Below W.heap.size W X'.w :=
 ⟨h.os,h.tape,h.output,h.size,λk A=>(h.keep k A rfl).1⟩
theorem vZt:laidOutB prog=true:=by kernel_rfl
theorem yUv {H:Type}{enc:TypeId×Value->H}{W W':World}(E:Below W.heap.size W W')(sp:Nat->Bool):∀ {ts:List TypeId} {vs:List Value} {ds:List (DataW H)} {ps:List MemPlace},
  (∀t∈ts,prog.readableRec t=true/\t<prog.types.size)->DataW.TrodAll enc prog W 0 (λ_=>true) true ts vs ds ps->(∀p∈ps,p.block<W.heap.size)->(∀p∈ps,sp p.block=true) →
  DataW.TrodAll enc prog W' 0 sp true ts vs ds ps
 | [],vs,ds,ps,_,h,_,_=>by
  obtain⟨rfl,rfl,rfl⟩:=trodAll_nil h;rfl
 | t::ts,vs,ds,ps,ht,h,D,A=>by
  obtain⟨v,G,d,J,a,b,rfl,rfl,rfl,h1,h2⟩:=trodAll_cons h;refine⟨a,b,WideElems.Trod_stays vZt (ht t (by simp)).1 (ht t (by simp)).2 h1 (λp hp=>E.same (D p (by simp[hp]))) (λp hp=>A p (by simp[hp])),?_,rfl⟩;exact yUv E sp (λt h=>ht t (by simp[h])) h2 (λp hp=>D p (by simp[hp])) (λp hp=>A p (by simp[hp]))
theorem wYi {H:Type}{enc:TypeId×Value->H}{f:Func}{s:ChangeSpec}{af:FuncId}{W:World}{args:Array Value}{ds gs:List (DataW H)}{G:List MemPlace}{ab:List IV}
  (A:s.vars=[]) (hW:DataW.Whole enc prog f.params.toList s.vars false W args.toList ds gs G) (aa:s.fn H (ds++gs)={ results:=[.lit (.bool true)],args:=ds })
  (J:f.resultTypes=#[4]) (O:∀t∈f.params.toList,prog.readableRec t=true/\t<prog.types.size) (hg:Go.Iv.Good ⟨prog,gl0,0⟩ (X0 W)) (hv:VL 0 (L0 W) W args.toList ab)
  (hc:ICall prog gl0 af ab (λ_=>none) (λr st'=>r=.raw (.bool true)/\st'=λ_=>none)) :
  Calls prog af args W λe W'=>∃v,e=.returned v/\s.post enc prog f false true false false W args v W':=by
 refine (hc 0 (X0 W) args.toList hg rfl hv).mono ?_;rintro e W' ⟨v,rfl,X',x,rfl,ao,he,E,rfl,_⟩;obtain rfl:=V.raw_inv E;have hb:=xX6 he;refine⟨_,rfl,?_⟩;have ae:=hW;obtain⟨p,q,hA,hV,rfl,hz,_⟩:=hW;rw[A] at hV;have ai:gs=[]/\q=[]:=by
  cases gs with
  | nil=>exact⟨rfl,hV⟩
  | cons _ _=>exact absurd hV (by simp[DataW.TrodVars])
 obtain⟨rfl,rfl⟩:=ai;have U:∀x∈p,x.block<W.heap.size:=λx E=>by simpa using ae.lt x (by simpa using E)
 have D:∀sp:Nat->Bool,(∀x∈p,sp x.block=true)->DataW.TrodAll enc prog X'.w 0 sp true f.params.toList args.toList (s.fn H (ds++[])).args p:=λsp ah=>by
  rw[aa];exact yUv hb sp O hA U ah
 have hr:∀(b:Nat) (sp:Nat->Bool) (hd:Bool),DataW.TrodAll enc prog X'.w b sp hd f.resultTypes.toList ((Value.bool true).resultList f.resultTypes.size) (s.fn H (ds++[])).results []:=λ_ _ _=>by
  rw[aa,J];exact trodAll_cons_mk (shut_bool xGp _) trodAll_mk0
 have ac:∀sp:Nat->Bool,DataW.TrodVars enc prog X'.w sp s.vars (s.fn H (ds++[])).vars []:=λ_=>by
  rw[A,aa];rfl
 have ag:∀x∈p,(λb=>decide (b<W.heap.size)) x.block=true:=λx E=>by simpa using U x E
 refine⟨ds,[],p++[],[],p,[],ae,hr _ _ _,D _ ag,ac _,World.keptBut_mono (λx E=>⟨E,Or.inr (by simpa using E)⟩) (hb.frame (·∈p++[])),λ_=>⟨ok_one J rfl (okWide_bool_mk xGp _),_,_,([]++p)++[],
  ⟨[]++p,[],trodAll_append (D _ (λ_ _=>rfl)) (hr _ _ _),ac _,rfl,?_,λh=>by cases h⟩,λx E _=>by simpa using E⟩⟩
 intro b off hp;rw[hb.frozen (p:=⟨b,off,none⟩) (U (.cell b off) (by simpa using hp))];exact hz b off (by simpa using hp)
theorem wW6 {W:World}{base:Nat}{v:Value}{t:Tr}{x:IV}(h:Value.okWide prog W .any base 32 v)(A:VL 0 (L0 W) W v.cells.toList x.cells)(D:IsTr t x):V 0 (L0 W) W v x:=by
 obtain⟨cs,rfl,_⟩:=WideShapes.okWide_struct vKt h;obtain⟨_,_,_,_,_,_,_,_,_,_,_,_,_,_,_,_,_,_,rfl⟩:=yZy D;cases cs;exact A.agg
theorem wGb {W:World}{base:Nat}{v:Value}(h:Value.okWide prog W .any base 4 v):∃b:Bool,v=.bool b/\V 0 (L0 W) W (.bool b) (.raw (.bool b)):=by
 simp only[Value.okWide,xGp,Cell.okWide] at h;cases v<;>simp_all [Cell.ok];exact .raw _ trivial
def tab32:List Int:=[0,1,28,2,29,14,24,3,30,22,20,15,25,17,4,8,31,27,13,23,21,19,16,7,26,12,18,6,11,5,10,9]
def tab64:List Int:=[0,1,56,2,57,49,28,3,61,58,42,50,38,29,17,4,62,47,59,36,45,43,51,22,53,39,33,30,24,18,12,5,63,55,48,27,60,41,37,16,46,35,44,21,52,32,23,11,54,26,40,15,34,20,31,10,25,14,19,9,13,8,7,6]
def lay (cs:List Value):Obj->Obj
 | .cells _ t frozen=>.cells cs.toArray t frozen
 | o=>o
noncomputable def zKi (os:Os):World :=
 { World.holding prog os ⟨#[],#[],[]⟩ with heap:=((((World.holding prog os ⟨#[],#[],[]⟩).heap.modify 1 (lay ((List.range 17).flatMap rowV))).modify 2 (lay (Lib.pow10Tab.map λz=>.int .u64 z))).modify 3 (lay (tab32.map λz=>.int .u8 z))).modify 4 (lay (tab64.map λz=>.int .u8 z)) }
theorem wYj (os:Os)(args:Array Value):laidMet prog Rows.hintDegreesUptoRow.laid ((zKi os).forCall (λ_ _=>0) ⟨#[],args,[]⟩).memory :=
 laidMet_of_run' 8 (by kernel_rfl) (by kernel_rfl)
end Go.Proofs.Tryz
namespace Go.Proofs.Tryz
open Go Go.Iv
set_option maxRecDepth 4000
theorem zVm:∀l:List IV,(∀x∈l,∃v,x=.raw v)->ages l=l
 | [],_=>rfl
 | x::l,h=>by
  obtain⟨v,rfl⟩:=h x (by simp);simp only[ages,age,zVm l λy A=>h y (by simp[A])]
theorem wGf:∀g x,gl0 g=some x->age x=x:=by
 intro g x D
 match g,D with
 | 1,D =>
  cases D;simp only[age];rw[zVm _ λy A=>?_];obtain⟨op,_,A⟩:=List.mem_flatMap.1 A;unfold rowI at A;simp only[List.mem_cons,List.not_mem_nil,or_false] at A;rcases A with rfl|rfl|rfl|rfl|rfl<;>exact⟨_,rfl⟩
 | 2,D =>
  cases D;simp only[age];rw[zVm _ λy A=>?_];obtain⟨z,_,rfl⟩:=List.mem_map.1 A;exact⟨_,rfl⟩
