/- The tree of least height that search han -/
import Derived.Test.YtofmbookakncjabGreatDoorQG
set_option linter.all false
open Nat renaming reduceEqDiff → zE,reduceBEq → zB,reduceAdd → zA,reduceMul → zM,reduceLeDiff → zL
namespace Go.Proofs.Tryz
open Go Go.Iv
def IY {ca:Nat}{s:Sq}{rule:Nat}{A:Fm}{term:Tm}{name:ByteArray}{r:Rw}{ad:List Sq}(h1:fT ca s=true)(h2:rowS ca rule=some r)(U:iT ca rule r A term name=(ad,0))
  (O:r.left=true->hasF s.l A=true) (J:r.right=true->hasF s.r A=true) (G:r.asks=0):ju ca s rule A term name=(ad,0):=by
 unfold ju;rw[h1,h2];simp only[nD,bFt,et,U];obtain⟨E,D,op,asks⟩:=r;simp only at O J G ⊢;have e1:(E&&!hasF s.l A)=false:=by
  cases E
  ·rfl
  ·rw[O rfl];rfl
 have e2:(D&&!hasF s.r A)=false:=by
  cases D
  ·rfl
  ·rw[J rfl];rfl
 subst G;rw[e1,e2];rfl
def IZ {f:Fm}(A:f.right=true):eqF f f=true:=by unfold eqF p8;rw[A,dEt rfl];simp[eqB]
def pG {ca:Nat}{f:Fm}(h:fmB ca f=true):f.right=true:=by unfold fmB at h;exact (bAt _ _▸h).1
def sw {l:List Fm}{f:Fm}(h:f∈l)(A:f.right=true):hasF l f=true:=il.2 ⟨f,h,IZ A⟩
def I0 {l m:List Fm}(h:∀f∈l,f∈m)(D:∀f∈l,f.right=true):allF l m=true:=fZ.2 λf A=>sw (h f A) (D f A)
def Rk {ca:Nat}(hc:ca=1\/ca=2){f:Fm}(A:PF f){r:Bool}{t:Nat×List Sn}(ht:t∈addF (calJ ca) f r):∃R,rowS ca t.1=some R/\(R.left=true->r=false)/\(R.right=true->r=true)/\R.asks=0/\t.1<256/\t.1≠17:=by
 cases A with
 | atom n=>simp[addF] at ht
 | fls=>simp[addF] at ht
 | neg D =>
  rcases hc with rfl|rfl<;>cases r<;>simp[addF] at ht<;>subst ht<;>exact⟨_,rfl,by simp,by simp,rfl,by simp,by simp⟩
 | @bin o a b G E _ _ =>
  obtain rfl|rfl|rfl|rfl:o=4\/o=5\/o=6\/o=7:=by omega
  all_goals rcases hc with rfl|rfl<;>cases r<;>simp[addF,calJ] at ht
  all_goals first
   | (subst ht;exact⟨_,rfl,by simp,by simp,rfl,by simp,by simp⟩)
   | (rcases ht with rfl|rfl<;>exact⟨_,rfl,by simp,by simp,rfl,by simp,by simp⟩)
def Rl {ca:Nat}{rule:Nat}{f:Fm}{R:Rw}{ad:List Sq}(A:jL ca=true)(D:rowS ca rule=some R)(h:px ca rule f tmZ noN=(ad,0)):iT ca rule R f tmZ noN=(ad,0):=by
 unfold px at h;rw[A,D] at h;exact h
def I1 {s:Sq}:∀ {ad:List Sq} {sub:List Tr},(∀(i:Nat) (m:Sq) (t:Tr),ad[i]?=some m->sub[i]?=some t->qc t.sq (s.plus m)=true)->km s ad sub=true
 | [],_,_=>by simp[km]
 | m::ad,[],_=>by simp[km]
 | m::ad,t::sub,h=>by
  simp only[km,bAt];exact⟨h 0 m t rfl rfl,I1 λi m t h1 h2=>h (i+1) m t h1 h2⟩
def Rm {ca:Nat}(hc:ca=1\/ca=2){s:Sn}(hv:fT ca (sqOf s)=true)(h1:∀f∈s.1,fmB ca f=true)(h2:∀f∈s.2,fmB ca f=true){m:Nat×Fm×List Sn}(hm:m∈mvF (calJ ca) s){sub:List Tr}(G:sub.map Tr.sq=m.2.2.map sqOf) :
  iC ca (.mk m.1 (sqOf s) m.2.1 tmZ noN sub)=0/\m.1<256/\m.1≠17/\fmB ca m.2.1=true:=by
 have O:ca≠3:=by omega
 have hk:jL ca=true:=by unfold jL;rcases hc with rfl|rfl<;>rfl
 have key:∀(r:Bool) (f:Fm),f∈(if r=true then s.2 else s.1)->m∈nz (calJ ca) s r f->iC ca (.mk m.1 (sqOf s) m.2.1 tmZ noN sub)=0/\m.1<256/\m.1≠17/\fmB ca m.2.1=true:=λr f E ac=>by
  obtain⟨t,ht,rfl⟩:=eh.1 ac;have A:fmB ca f=true:=by cases r<;>simp at E<;>first|exact h1 f E|exact h2 f E
  obtain⟨R,hR,hl,hr,ha,ae,af⟩:=Rk hc (pC O A) ht;have U:=Hy hc A ht;have hst:ju ca (sqOf s) t.1 f tmZ noN=(t.2.map sqOf,0):=IY hv hR (Rl hk hR U)
   (λh=>sw (show f∈s.1 by rw[hl h] at E;simpa using E) (pG A)) (λh=>sw (show f∈s.2 by rw[hr h] at E;simpa using E) (pG A)) ha
  refine⟨?_,ae,af,A⟩;have J:sub.length=(t.2.map sqOf).length:=by
   have:=eZ List.length G;simpa using this
  simp only[iC];rw[hst];simp only[ne_eq,nTf,et,J];rw[c_];refine I1 λi q tr hq aa=>?_;rw[fH] at hq;obtain⟨p,hp,rfl⟩:=ga.1 hq;have hs:(sub.map Tr.sq)[i]?=some tr.sq:=by rw[fH,aa];rfl
  rw[G,fH,fH,hp] at hs;have ab:tr.sq=sqOf (qk (calJ ca) s p):=by simpa using hs.symm
  rw[ab];obtain⟨a1,a2⟩:=Pu O A ht p (lMg hp);have w1:∀g∈(qk (calJ ca) s p).1,g∈s.1++p.1:=λg D=>yWu.1 D;have w2:∀g∈(qk (calJ ca) s p).2,g∈s.2++p.2:=λg D=>by
   have D:=yWu.1 D;unfold rgt at D;split at D
   ·exact jI _ D
   ·exact D
  unfold qc;rw[bAt];exact⟨I0 w1 λg D=>pG ((eQ.1 (w1 g D)).elim (h1 g) (a1 g)),I0 w2 λg D=>pG ((eQ.1 (w2 g D)).elim (h2 g) (a2 g))⟩
 rcases eQ.1 hm with hm|hm
 ·obtain⟨f,E,hm⟩:=gJ.1 hm;exact key false f E hm
 ·obtain⟨f,E,hm⟩:=gJ.1 hm;exact key true f E hm
def Rn {ca:Nat}(hc:ca=1\/ca=2){s:Sn}(hv:fT ca (sqOf s)=true)(h1:∀f∈s.1,fmB ca f=true){r:Nat}{f:Fm}(ha:(r=1/\f∈s.1/\f∈s.2)\/(r=2/\f=.mk 2 noN [] []/\∃g∈s.1,mU g=true)) :
  iC ca (.mk r (sqOf s) f tmZ noN [])=0/\(r=1\/r=2)/\fmB ca f=true:=by
 have aa:ca≠3:=by omega
 have D:∀R,rowS ca r=some R->R.asks=0->iT ca r R f tmZ noN=([],0)->(R.left=true->hasF s.1 f=true)->(R.right=true->hasF s.2 f=true)->iC ca (.mk r (sqOf s) f tmZ noN [])=0:=λR hR h0 hA hl E=>by
  have hst:ju ca (sqOf s) r f tmZ noN=([],0):=IY hv hR hA hl E h0;simp only[iC];rw[hst];rfl
 rcases ha with⟨rfl,hl,E⟩|⟨rfl,rfl,g,U,J⟩
 ·have A:=h1 f hl;refine⟨D ⟨true,true,0,0⟩ (by rcases hc with rfl|rfl<;>rfl) rfl ?_ (λ_=>sw hl (pG A)) (λ_=>sw E (pG A)),.inl rfl,A⟩;unfold iT;rw[A];simp[addS]
 ·have G:=pC aa (h1 g U);have O:g=.mk 2 noN [] []:=by
   cases G<;>simp[mU] at J
   ·rfl
   ·omega
  subst O;have A:=h1 _ U;refine⟨D ⟨true,false,2,0⟩ (by rcases hc with rfl|rfl<;>rfl) rfl ?_ (λ_=>sw U (pG A)) (λh=>by cases h),.inr rfl,A⟩;unfold iT;rw[A];simp[addS,Fm.op]
def I2 {ca:Nat}(hc:ca=1\/ca=2){s:Sn}(hv:fT ca (sqOf s)=true)(h1:∀f∈s.1,fmB ca f=true){r:Nat}{f:Fm}(A:axF s=some (r,f)) :
  iC ca (.mk r (sqOf s) f tmZ noN [])=0/\(r=1\/r=2)/\fmB ca f=true:=Rn hc hv h1 (QK A)
end Go.Proofs.Tryz
namespace Go.Proofs.Tryz
open Go Go.Iv
set_option maxRecDepth 4000
variable (gl:Nat->Option IV)
section
variable {ca m:Nat}{W:List Fm}{tw:Tag}{xw:List IV}{lines:List Ln}{links:List (List Lk)}{hs:List Nat}{tl tk:Tag}{xl xk:List IV}{mN rb gH:Nat}
end
section
variable {ca m:Nat}{W:List Fm}{tw:Tag}{xw:List IV}{lines:List Ln}{links:List (List Lk)}{hs:List Nat}{tl tk:Tag}{xl xk:List IV}{mN rb gH:Nat}
end
noncomputable def tS (j:Bool)(s:Sn):Nat:=(tF j (hF j s) s).steps
section
variable {ca m:Nat}{W:List Fm}{tw:Tag}{xw:List IV}{lines:List Ln}{links:List (List Lk)}{hs:List Nat}{tl tk:Tag}{xl xk:List IV}{mN rb gH:Nat}
end
noncomputable def tP (ca:Nat)(s:Sn):Tr:=tF (calJ ca) (hF (calJ ca) s) (nf s)
end Go.Proofs.Tryz
namespace Go.Proofs.Tryz
open Go Go.Iv
end Go.Proofs.Tryz
namespace Go.Proofs.Tryz
open Go Go.Iv
set_option maxRecDepth 4000
variable (gl:Nat->Option IV)
mutual
def wTr:Tr->Nat
 | .mk _ s f u n sub=>wFms s.l+wFms s.r+wFm f+wTm u+n.size+wTrs sub
def wTrs:List Tr->Nat
 | []=>0
 | a::l=>wTr a+wTrs l
end
def lQ (s:Sq)(f:Fm)(u:Tm)(n:ByteArray):Bool:=decide (wFms s.l+wFms s.r<=300)&&!decide (300<wFm f)&&!decide (300<wTm u)&&!decide (100<n.size)
mutual
def okT:Tr->Bool
 | .mk _ s f u n sub=>lQ s f u n&&okTs sub
def okTs:List Tr->Bool
 | []=>true
 | a::l=>okT a&&okTs l
end
def Ch:∀l m:List Tr,okTs (l++m)=(okTs l&&okTs m)
 | [],m=>by simp[okTs]
 | a::l,m=>by simp only[fq,okTs,Ch l m,qz]
def Ro {l:List Tr}{k:Nat}{a:Tr}(h:l[k]?=some a):okTs (l.take (k+1))=(okTs (l.take k)&&okT a):=by
 rw[en h,Ch];simp[okTs]
def Rp (l:List Tr)(k:Nat)(h:okTs l=true):okTs (l.take k)=true:=by
 rw[<- fh k l,Ch,bAt] at h;exact h.1
def Rq {l:List Tr}{k:Nat}{a:Tr}(h:l[k]?=some a):gk (l.take (k+1))=gk (l.take k)+a.steps:=by
 rw[en h,AI];simp[gk]
def Ci (l:List Tr)(k:Nat):gk (l.take k)<=gk l:=by
 conv=>rhs;rw[<- fh k l]
 rw[AI];omega
def Cj:∀ {l:List Tr}{t:Tr},t∈l->wTr t<=wTrs l
 | a::l,t,h=>by
  simp only[wTrs];rcases eK.1 h with rfl|h
  ·omega
  ·have:=Cj h;omega
def Sum.gt {w:Nat}{r:IV}(h:Sum w 300 r):∃n:Nat,r=n/\decide ((300:Int)<(n:Int))=decide (300<w):=by
 obtain⟨n,rfl,h1,h2⟩:=h;refine⟨n,rfl,?_⟩;rw[gM];constructor
 ·intro h;omega
 ·intro h;rcases Int.lt_or_le 300 (n:Int) with A|A
  ·exact A
  ·have:=h2 A;omega
def I3 (t:Tr)(left:Int)(r:Int):Prop:=-1<=r/\r<=left/\(0<=r↔okT t=true/\(t.steps:Int)<=left)/\(0<=r->r=left-t.steps)
def sC (t:Tr):Prop:=∀(x:IV) (_:IsTr t x) (left:Int) (_:0<=left/\left<=1000) (_:wTr t<=1099511627776) (st:ISt),
 ICall prog gl 28 [x,left] st (λr st'=>(∃n:Int,r=n/\I3 t left n)/\st'=st)
def Rr (rule:Nat)(s:Sq)(f:Fm)(u:Tm)(n:ByteArray)(sub:List Tr)(IH:∀a∈sub,sC gl a):sC gl (.mk rule s f u n sub):=by
 intro x hx left hl hw st;obtain⟨tl,xl,tr,xr,op,fn,ta,xa,tb,xb,v,un,tu,xu,ts,xs,rfl,a8,e1,i1,e2,i2,hy,hz,e3,i3⟩:=hx.mk;simp only[wTr] at hw;have ak:=λst=>G3 gl s _ ⟨tl,xl,tr,xr,rfl,e1,i1,e2,i2⟩ ⟨by omega,by omega⟩ st;have aq:=λst=>Bt gl [f] ⟨true,.full,4⟩ _ (.inr rfl) ⟨_,_,rfl,hy,rfl⟩ 300 ⟨by omega,by omega⟩ (by simp only[wFms];omega) st;have htm:=λst=>G1 gl [u] ⟨true,.full,3⟩ _ (.inr rfl) ⟨_,_,rfl,hz,rfl⟩ 300 ⟨by omega,by omega⟩ (by simp only[wTms];omega) st;have D:lQ s f u n=false->I3 (.mk rule s f u n sub) left (-1):=λh=>by
  refine⟨by omega,by omega,⟨λh=>by omega,λh'=>?_⟩,λh=>by omega⟩;simp only[okT,h,qA,bFt,false_and] at h'
 refine iI func28 ?_;simp only[go_sem,zE,zA,zL];refine (ak _).q ?_;unfold lQ at D;cases q1:decide (wFms s.l+wFms s.r<=300)
 ·simp only[go_sem,zE];exact dw ⟨⟨-1,rfl,D (by rw[q1];rfl)⟩,rfl⟩
 simp only[go_sem,zE,zA,zM,zL,fits,fg];refine (aq _).mono ?_;rintro _ st ⟨hS,rfl⟩;obtain⟨m,rfl,hd⟩:=hS.gt;rw[show wFms [f]=wFm f from by simp[wFms]] at hd;cases q2:decide (300<wFm f)
 case true =>
  rw[q2] at hd;simp only[go_sem,zE,hd];exact dw ⟨⟨-1,rfl,D (by rw[q1,q2];rfl)⟩,rfl⟩
 rw[q2] at hd;simp only[go_sem,zE,zA,zM,zL,fits,hd,fg];refine (htm _).mono ?_;rintro _ st ⟨ay,rfl⟩;obtain⟨m2,rfl,G⟩:=ay.gt;rw[show wTms [u]=wTm u from by simp[wTms]] at G;cases q3:decide (300<wTm u)
 case true =>
  rw[q3] at G;simp only[go_sem,zE,G];exact dw ⟨⟨-1,rfl,D (by rw[q1,q2,q3];rfl)⟩,rfl⟩
 rw[q3] at G;have aa:decide ((100:Int)<((n.size:Nat):Int))=decide (100<n.size):=by rw[gM];omega
 cases q4:decide (100<n.size)
 case true =>
  rw[q4] at aa;simp only[go_sem,zE,G,aa];intro _;exact dw ⟨⟨-1,rfl,D (by rw[q1,q2,q3,q4];rfl)⟩,rfl⟩
 rw[q4] at aa;have J:lQ s f u n=true:=by unfold lQ;rw[q1,q2,q3,q4];rfl
 have wl:IntKind.i64.wrap (left-1)=left-1:=w64 (by omega) (by omega);simp only[go_sem,zE,G,aa,wl];intro _;refine dC sub.length (λk fr st' ds=>(∃l:Int,fr 1=l /\ -1<=l/\l<=left-1/\(0<=l↔okTs (sub.take k)=true/\((gk (sub.take k):Nat):Int)+1<=left)/\(0<=l->l=left-1-(gk (sub.take k):Nat))) /\
  fr 2=.box [.raw (.int .u8 rule),.sl tl xl,.sl tr xr,.raw (.int .u8 op),fn,.sl ta xa,.sl tb xb,v,un,.sl tu xu,n,.sl ts xs]/\fr 5=.iv (.raw (.int .i64 k))/\st'=st/\ds=[]) ?_ ?_ ?_
 ·simp only[go_sem,zE];exact⟨⟨left-1,rfl,by omega,by omega,⟨λh=>⟨rfl,by simp only[gk];omega⟩,λh=>by have:=h.2;simp only[gk] at this;omega⟩,λ_=>by simp only[gk];omega⟩,rfl⟩
 ·rintro k fr an _ O ⟨⟨l,f1,ab,aw,E,U⟩,f2,f5,rfl,rfl⟩;obtain⟨a,ha⟩:=ed O;obtain⟨z,ax,ah⟩:=i3.get ha;have aj:=Ro ha;have hst:=Rq ha;by_cases A:(0:Int)<=l
  ·have ac:=λst=>IH a (lMg ha) z ah l ⟨A,by omega⟩ (by have:=Cj (lMg ha);omega) st;obtain⟨ao,aT,aF,aS,aE,aY,bd,aW,aI,aU,aG,v',aL,aN,aA,n',aQ,aC,rfl⟩:=fY ah;simp only[go_sem,zE,zB,zA,f1,f2,f5,i3.len,lt_i O,dEt A,ec e3,iNn,ax,fits];intro _;refine (ac _).mono ?_;rintro _ aX ⟨⟨r,rfl,av,ba,ai,au⟩,rfl⟩;simp only[go_sem,zE,f2,f5,ek O (by omega)];have g3:=E.1 A;have g4:=U A;refine⟨r,rfl,av,by omega,?_,λh=>by have:=au h;rw[hst];omega⟩;rw[aj,hst,g3.1,jV];constructor
   ·intro h;have:=ai.1 h;exact⟨this.1,by omega⟩
   ·intro h;exact ai.2 ⟨h.1,by have:=h.2;omega⟩
  ·simp only[go_sem,zE,f1,f2,f5,i3.len,lt_i O,dEf A];intro _;refine dw ⟨⟨l,rfl,ab,by omega,⟨λh=>absurd h A,λh=>?_⟩,λh=>absurd h A⟩,rfl⟩;have h1:=h.1;have h2:=h.2;simp only[okT,J,jV] at h1;simp only[Tr.steps] at h2;have h3:=Ci sub k;exact absurd (E.2 ⟨Rp sub k h1,by omega⟩) A
 ·rintro fr an _ ⟨⟨l,f1,ab,aw,E,U⟩,f2,f5,rfl,rfl⟩;rw[lTl] at E U;simp only[go_sem,zE,f1,f2,f5,i3.len,eI (nLi _)];intro _;refine dw ⟨⟨l,rfl,ab,by omega,?_,λh=>by have:=U h;simp only[Tr.steps];omega⟩,rfl⟩;simp only[okT,J,jV,Tr.steps];constructor
  ·intro h;have:=E.1 h;exact⟨this.1,by omega⟩
  ·intro h;exact E.2 ⟨h.1,by have:=h.2;omega⟩
def I4:∀(k:Nat)(t:Tr),SizeOf.sizeOf t<k->sC gl t
 | 0,t,h=>by omega
 | k+1,.mk r sq f u n sub,h=>Rr gl r sq f u n sub (λa A=>I4 k a (by
   have:=lSm A;simp at h;omega))
def Rs (t:Tr):sC gl t:=I4 gl _ t (fP _)
def Ru (t:Tr)(x:IV)(D:IsTr t x)(hw:wTr t<=1099511627776)(st:ISt):ICall prog gl 6 [x] st (λr st'=>r=(okT t&&decide (t.steps<=60):Bool)/\st'=st):=by
 have hs:=λst=>Rs gl t x D 60 ⟨by omega,by omega⟩ hw st;obtain⟨A,ag,O,af,J,aj,am,ai,aa,ah,U,v',ab,ac,E,n',ae,G,rfl⟩:=fY D;refine iI func6 ?_;simp only[go_sem,zE,zA,zL];refine (hs _).mono ?_;rintro _ st ⟨⟨r,rfl,h1,h2,h3,h4⟩,rfl⟩;have hd:decide ((0:Int)<=r)=(okT t&&decide (t.steps<=60)):=by
  rw[m_,dTe,h3,bAt,dTe];constructor<;>intro h<;>exact⟨h.1,by have:=h.2;omega⟩
 simp only[go_sem,hd];exact dw ⟨rfl,rfl⟩
end Go.Proofs.Tryz
namespace Go.Proofs.Tryz
open Go Go.Iv
mutual
def I5:∀t:Tm,t.size<=wTm t
 | .mk _ n us=>by have:=Ck us;simp only[wTm,Tm.size];omega
def Ck:∀l:List Tm,fp l<=wTms l
 | []=>eu _
 | a::l=>by have:=I5 a;have:=Ck l;simp only[wTms,fp];omega
end
mutual
def I6:∀f:Fm,f.size<=wFm f
 | .mk _ n us sub=>by have:=Ck us;have:=ye sub;simp only[wFm,Fm.size];omega
def ye:∀l:List Fm,eS l<=wFms l
 | []=>eu _
 | a::l=>by have:=I6 a;have:=ye l;simp only[wFms,eS];omega
end
def I7 {s:Sq}{f:Fm}{u:Tm}{n:ByteArray}(h:lQ s f u n=true):wFms s.l+wFms s.r<=300/\wFm f<=300/\wTm u<=300/\n.size<=100:=by
 unfold lQ at h;grind
def I8 {s:Sq}(h:wFms s.l+wFms s.r<=300):ig s:=by
 have:=ye s.l;have:=ye s.r;exact⟨λf A=>by have:=uD A;omega,λf A=>by have:=uD A;omega⟩
def I9:∀ {l:List Tr}{a:Tr},okTs l=true->a∈l->okT a=true
 | b::l,a,h,A=>by
  simp only[okTs,bAt] at h;rcases eK.1 A with rfl|A
  ·exact h.1
  ·exact I9 h.2 A
def Rv:∀ {t:Tr},okT t=true->rH t
 | .mk rule s m u n sub,h=>by
  simp only[okT,bAt] at h;obtain⟨h1,h2,U,_⟩:=I7 h.1;have:=I6 m;have:=I5 u;refine⟨I8 h1,by omega,by omega,λa E=>?_⟩;have:=I9 h.2 E;obtain⟨A,s',O,G,J,D⟩:=a;simp only[okT,bAt] at this;exact I8 (I7 this.1).1
mutual
def I_:∀(p:List Nat)(t:Tr),okT t=true->∀q∈t.walk p,okT q.2=true
 | p,.mk rule s m u n sub,h,q,A=>by
  simp only[Tr.walk,eK] at A;rcases A with rfl|A
  ·exact h
  ·simp only[okT,bAt] at h;exact Ja p 0 sub h.2 q A
def Ja:∀(p:List Nat)(i:Nat)(l:List Tr),okTs l=true->∀q∈fJ p i l,okT q.2=true
 | _,_,[],_,q,A=>by cases A
 | p,i,a::l,h,q,A=>by
  simp only[okTs,bAt] at h;simp only[fJ,eQ] at A;rcases A with A|A
  ·exact I_ _ a h.1 q A
  ·exact Ja p (i+1) l h.2 q A
end
def qv {t:Tr}(h:okT t=true)(hs:t.steps<=1099511627776):pv t:=⟨λq A=>Rv (I_ [] t h q A),eM t.height_le_steps hs⟩
def yf {o:Nat}(h:o<=7):isQ o=false:=by
 rcases (show o=0\/o=1\/o=2\/o=3\/o=4\/o=5\/o=6\/o=7 by omega) with rfl|rfl|rfl|rfl|rfl|rfl|rfl|rfl<;>rfl
def Rx {f:Fm}(h:PF f)(fr:List ByteArray)(ar:Ar):nt fr ar f=f:=by
 induction h with
 | atom n=>simp[nt,kL,iz,yf (o:=1) (by omega)]
 | fls=>simp[nt,kL,iz,yf (o:=2) (by omega)]
 | neg h E=>simp[nt,kL,iz,yf (o:=3) (by omega),E]
 | bin J G _ _ D A=>simp[nt,kL,iz,yf G,D,A]
def Ry {ca:Nat}(hc:ca=1\/ca=2){s:Sq}(hv:fT ca s=true):SetS s=(sqOf (nf (s.l,s.r)),0):=by
 have D:=QE hv;have key:∀l:List Fm,(∀f∈l,fmB ca f=true)->jv l=(setF l,0):=λl hl=>by
  unfold jv;rw[c_ (fZ.2 λf A=>pG (hl f A))];have:l.map mP=l:=by
   conv=>rhs;rw[<- List.map_id l]
   exact ll λf A=>Rx (pC (by omega) (hl f A)) _ _
  rw[this]
 unfold SetS;rw[key s.l λf A=>D f (jH _ A),key s.r λf A=>D f (jI _ A)];rfl
section
variable {ca:Nat}(hc:ca=1\/ca=2){s0:Sq}(hv:fT ca s0=true){K:List Sn}(hK:ReachOk (calJ ca) (nf (s0.l,s0.r)) K)
include hc hv hK
end
set_option maxRecDepth 100000
def Cm {e:Tr->Nat}:∀ {l:List (List Nat×Tr)},(∀q∈l,e q.2=0)->g_ e l=([],0)
 | [],_=>rfl
 | q::l,h=>by
  obtain⟨p,t⟩:=q;rw[g_,c_ (h _ (.head _))];exact Cm λq A=>h q (.tail _ A)
def Jb {e:Tr->Nat}:∀ {l:List (List Nat×Tr)},(g_ e l).2=0\/∃q∈l,(g_ e l).1=q.1
 | []=>.inl rfl
 | (p,t)::l=>by
  rw[g_];by_cases h:e t=0
  ·rw[c_ h];rcases Jb (e:=e) (l:=l) with h|⟨q,A,h⟩
   ·exact .inl h
   ·exact .inr ⟨q,.tail _ A,h⟩
  ·rw[a_ h];exact .inr ⟨(p,t),.head _,rfl⟩
mutual
def Rz:∀(p:List Nat)(t:Tr)(q:List Nat×Tr),q∈t.walk p->p.length<=q.1.length
 | p,.mk _ _ _ _ _ sub,q,h=>by
  simp only[Tr.walk,eK] at h;rcases h with rfl|h
  ·exact eu _
  ·exact Nat.le_of_lt (Cn p 0 sub q h)
def Cn:∀(p:List Nat)(i:Nat)(l:List Tr)(q:List Nat×Tr),q∈fJ p i l->p.length<q.1.length
 | _,_,[],q,h=>by simp[fJ] at h
 | p,i,a::l,q,h=>by
  simp only[fJ,eQ] at h;rcases h with h|h
  ·have:=Rz (p++[i]) a q h;rw[lLa,List.length_singleton] at this;omega
  ·exact Cn p (i+1) l q h
end
def yg {ca:Nat}(D:jL ca=true){t:Tr}(E:me t=false)(hs:(shal t).steps<=300)(h:iC ca (shal t)=0):iZ ca t=true:=by
 unfold iZ;rw[E];have e:jg ca (shal t)=g_ (iC ca) ((shal t).walk []):=by
  unfold jg;rw[D];simp only[nD,bFt,et];rw[a_ (by omega)]
 rw[e];obtain⟨r,s,m,u,n,sub⟩:=t;simp only[shal] at h ⊢;simp only[Tr.walk,g_,h,el];simp only[bFt,et,iN,dTe];rcases Jb (e:=iC ca) (l:=fJ [] 0 (sub.map λp=>goalT p.sq)) with h1|⟨q,A,h1⟩
 ·exact .inl h1
 ·right;rw[h1];exact Nat.lt_of_le_of_lt (fe _) (Cn _ _ _ _ A)
def qw {ca:Nat}{s:Sq}(h:fT ca s=true):iZ ca (goalT s)=true:=by
 have:me (goalT s)=true:=by
  rw[me,(mc fm0 fm0).2 rfl];rfl
 unfold iZ;rw[this];exact h
def qx {ca:Nat}(hc:ca=1\/ca=2){t:Tr}(hs:t.steps<=300)(h:∀q∈t.walk [],iZ ca q.2=true):hCk ca t=([],0):=by
 unfold hCk;rw[c_ hc,a_ (by omega)];exact Cm λq A=>by unfold badN;rw[c_ (h q A)]
abbrev qqF:Fm:=fbi 6 faQ faQ
abbrev mnF:Fm:=fbi 5 faP qqF
abbrev sM:Sq:=⟨[],[mnF]⟩
abbrev sQ:Sq:=⟨[],[qqF]⟩
abbrev sA:Sq:=⟨[faQ],[faQ]⟩
abbrev sP:Sq:=⟨[],[faP]⟩
abbrev sO:Sq:=⟨[],[orP]⟩
abbrev mv1:Nat×Fm×List Sn:=(18,mnF,[([],[qqF])])
abbrev mv2:Nat×Fm×List Sn:=(10,qqF,[([faQ],[faQ])])
abbrev mv3:Nat×Fm×List Sn:=(1,faQ,[])
abbrev mv4:Nat×Fm×List Sn:=(8,orP,[([],[faP,fno faP,orP])])
abbrev sk1:Tr:=.mk 18 sM mnF tmZ noN [goalT sQ]
abbrev sk2:Tr:=.mk 18 sM mnF tmZ noN [.mk 10 sQ qqF tmZ noN [goalT sA]]
abbrev sk3:Tr:=.mk 18 sM mnF tmZ noN [.mk 10 sQ qqF tmZ noN [.mk 1 sA faQ tmZ noN []]]
abbrev skW:Tr:=.mk 8 sM mnF tmZ noN [goalT sP]
def hvM:fT 2 sM=true:=uU (by kernel_rfl)
def hvQ:fT 2 sQ=true:=uU (by kernel_rfl)
def hvA:fT 2 sA=true:=uU (by kernel_rfl)
def hvP:fT 2 sP=true:=uU (by kernel_rfl)
def hvE:fT 1 ⟨[],[faP,fno faP,orP]⟩=true:=by kernel_rfl
def nfM:nf ([],[mnF])=([],[mnF]):=by rw[nf_C];kernel_rfl
def nfQ:nf ([],[qqF])=([],[qqF]):=by rw[nf_C];kernel_rfl
def nfO:nf ([],[orP])=([],[orP]):=by rw[nf_C];kernel_rfl
def nfA:nf ([faQ],[faQ])=([faQ],[faQ]):=by rw[nf_C];kernel_rfl
def mvM:mvF true ([],[mnF])=[(8,mnF,[([],[faP])]),mv1]:=by rw[BZ];kernel_rfl
def mvQ:mvF true ([],[qqF])=[mv2]:=by rw[BZ];kernel_rfl
def mvO:mvF false ([],[orP])=[mv4]:=by rw[BZ];kernel_rfl
def nclM:¬ ClF ([]:List Fm) [mnF]:=λh=>by
 have:=(qn ([],[mnF])).2 h;exact absurd this (by rw[show clC ([],[mnF])=false by kernel_rfl];decide)
def nclQ:¬ ClF ([]:List Fm) [qqF]:=λh=>by
 have:=(qn ([],[qqF])).2 h;exact absurd this (by rw[show clC ([],[qqF])=false by kernel_rfl];decide)
def nclO:¬ ClF ([]:List Fm) [orP]:=λh=>by
 have:=(qn ([],[orP])).2 h;exact absurd this (by rw[show clC ([],[orP])=false by kernel_rfl];decide)
def clA:ClF [faQ] [faQ]:=.inl ⟨faQ,.head _,.head _⟩
def sd1K:List Sn:=[([],[faP])]
def sd1c:Cert true sd1K [false] [[]] [0]:=mY (by kernel_rfl) (by kernel_rfl) (by kernel_rfl) (by kernel_rfl) (by kernel_rfl) (by kernel_rfl) (by decide)
def sd1:hF true ([],[faP])=0/\ReachOk true (nf ([],[faP])) sd1K:=qo sd1c (by kernel_rfl)
def sd2K:List Sn:=[([],[(fbi 5 faP (fbi 6 faQ faQ))]),([],[faP]),([],[(fbi 6 faQ faQ)]),([faQ],[faQ])]
def sd2c:Cert true sd2K [false,false,false,true] [[[1],[2]],[],[[3]],[]] [3,0,2,1]:=mY (by kernel_rfl) (by kernel_rfl) (by kernel_rfl) (by kernel_rfl) (by kernel_rfl) (by kernel_rfl) (by decide)
def sd2:hF true ([],[(fbi 5 faP (fbi 6 faQ faQ))])=3/\ReachOk true (nf ([],[(fbi 5 faP (fbi 6 faQ faQ))])) sd2K:=qo sd2c (by kernel_rfl)
def sd3K:List Sn:=[([],[(fbi 6 faQ faQ)]),([faQ],[faQ])]
def sd3c:Cert true sd3K [false,true] [[[1]],[]] [2,1]:=mY (by kernel_rfl) (by kernel_rfl) (by kernel_rfl) (by kernel_rfl) (by kernel_rfl) (by kernel_rfl) (by decide)
def sd3:hF true ([],[(fbi 6 faQ faQ)])=2/\ReachOk true (nf ([],[(fbi 6 faQ faQ)])) sd3K:=qo sd3c (by kernel_rfl)
def sd4K:List Sn:=[([faQ],[faQ])]
def sd4c:Cert true sd4K [true] [[]] [1]:=mY (by kernel_rfl) (by kernel_rfl) (by kernel_rfl) (by kernel_rfl) (by kernel_rfl) (by kernel_rfl) (by decide)
def sd4:hF true ([faQ],[faQ])=1/\ReachOk true (nf ([faQ],[faQ])) sd4K:=qo sd4c (by kernel_rfl)
def sd5K:List Sn:=[([],[faP,(fno faP),(fbi 5 faP (fno faP))]),([faP],[faP,(fno faP),(fbi 5 faP (fno faP))])]
def sd5c:Cert false sd5K [false,true] [[[1],[0]],[]] [2,1]:=mY (by kernel_rfl) (by kernel_rfl) (by kernel_rfl) (by kernel_rfl) (by kernel_rfl) (by kernel_rfl) (by decide)
def sd5:hF false ([],[faP,(fno faP),(fbi 5 faP (fno faP))])=2/\ReachOk false (nf ([],[faP,(fno faP),(fbi 5 faP (fno faP))])) sd5K:=qo sd5c (by kernel_rfl)
def u0 {s:Sn}(hv:fT 2 (sqOf s)=true)(h1:s.1=[])(h2:∀f∈s.2,fmB 2 f=true){m:Nat×Fm×List Sn}(D:m∈mvF true s){sub:List Tr}(A:sub.map Tr.sq=m.2.2.map sqOf):iC 2 (.mk m.1 (sqOf s) m.2.1 tmZ noN sub)=0 :=
 (Rm (.inr rfl) hv (by rw[h1];nofun) h2 D A).1
def fmM:∀f∈[mnF],fmB 2 f=true:=λf A=>by rw[eY.1 A];kernel_rfl
def fmQ:∀f∈[qqF],fmB 2 f=true:=λf A=>by rw[eY.1 A];kernel_rfl
def rW:iZ 2 skW=true:=yg rfl rfl (by decide) (u0 (s:=([],[mnF])) hvM rfl fmM (m:=(8,mnF,[([],[faP])])) (by rw[mvM];exact .head _) rfl)
def r1 (a:Tr)(h:a.sq=sQ):iZ 2 (.mk 18 sM mnF tmZ noN [a])=true:=yg rfl rfl (by show 2<=300;decide) (u0 (s:=([],[mnF])) hvM rfl fmM (m:=mv1) (by rw[mvM];exact .tail _ (.head _)) (by simp only[ff,gE,h];rfl))
def r2 (a:Tr)(h:a.sq=sA):iZ 2 (.mk 10 sQ qqF tmZ noN [a])=true:=yg rfl rfl (by show 2<=300;decide) (u0 (s:=([],[qqF])) hvQ rfl fmQ (m:=mv2) (by rw[mvQ];exact .head _) (by simp only[ff,gE,h];rfl))
def r3:iZ 2 (.mk 1 sA faQ tmZ noN [])=true:=yg rfl rfl (by decide) (I2 (.inr rfl) (s:=([faQ],[faQ])) hvA (λf A=>by rw[eY.1 A];kernel_rfl) (by simp[axF])).1
def ckO1:hCk 1 (goalT sO)=([],0):=qx (.inl rfl) (by decide) λq A=>by
 simp only[Tr.walk,fJ,eY] at A;subst A;exact qw awv2
def ckO2:hCk 2 (goalT sO)=([],0):=qx (.inr rfl) (by decide) λq A=>by
 simp only[Tr.walk,fJ,eY] at A;subst A;exact qw awv3
def ckM:hCk 2 (goalT sM)=([],0):=qx (.inr rfl) (by decide) λq A=>by
 simp only[Tr.walk,fJ,eY] at A;subst A;exact qw hvM
def ckW:hCk 2 skW=([],0):=qx (.inr rfl) (by decide) λq A=>by
 simp only[Tr.walk,fJ,fL,f_,eK,h_,gq] at A;rcases A with rfl|rfl
 ·exact rW
 ·exact qw hvP
def ck1:hCk 2 sk1=([],0):=qx (.inr rfl) (by decide) λq A=>by
 simp only[Tr.walk,fJ,fL,f_,eK,h_,gq] at A;rcases A with rfl|rfl
 ·exact r1 _ rfl
 ·exact qw hvQ
def ck2:hCk 2 sk2=([],0):=qx (.inr rfl) (by decide) λq A=>by
 simp only[Tr.walk,fJ,fL,f_,eK,h_,gq] at A;rcases A with rfl|rfl|rfl
 ·exact r1 _ rfl
 ·exact r2 _ rfl
 ·exact qw hvA
def ck3:hCk 2 sk3=([],0):=qx (.inr rfl) (by decide) λq A=>by
 simp only[Tr.walk,fJ,fL,f_,eK,h_,gq] at A;rcases A with rfl|rfl|rfl
 ·exact r1 _ rfl
 ·exact r2 _ rfl
 ·exact r3
end Go.Proofs.Tryz
namespace Go.Proofs.Tryz
open Go Go.Iv
set_option maxRecDepth 8000
variable (gl:Nat->Option IV)
def k_p (n:ByteArray)(st:ISt):ICall prog gl 18 [n] st (λr st'=>r=.agg [.raw (.int .u8 1),n,nlS,nlS]/\st'=st):=by
 refine iI func18 ?_;simp only[go_sem,zE,zA,zL,reduceCtorEq,fits];exact dw ⟨rfl,rfl⟩
def k_of (op:Int)(t:Tag)(A:List IV)(st:ISt):ICall prog gl 19 [.raw (.int .u8 op),.sl t A] st (λr st'=>r=.agg [.raw (.int .u8 op),.raw (.string ⟨#[]⟩),nlS,.sl t A]/\st'=st):=by
 refine iI func19 ?_;simp only[go_sem,zE,zA,zL,reduceCtorEq,fits];exact dw ⟨rfl,rfl⟩
def k_fs (t:Tag)(A:List IV)(st:ISt):ICall prog gl 21 [.sl t A] st (λr st'=>r=.sl t A/\st'=st):=by
 refine iI func21 ?_;simp only[go_sem,reduceCtorEq];exact dw ⟨rfl,rfl⟩
def k_sq (t:Tag)(A:List IV)(D:Tag)(ys:List IV)(st:ISt):ICall prog gl 20 [.sl t A,.sl D ys] st (λr st'=>r=.agg [.sl t A,.sl D ys]/\st'=st):=by
 refine iI func20 ?_;simp only[go_sem,zE,zA,zL,reduceCtorEq,fits];exact dw ⟨rfl,rfl⟩
def gI (t:Tag)(A:List IV)(D:Tag)(ys:List IV):IV:=.agg [.raw (.int .u8 0),.sl t A,.sl D ys,.raw (.int .u8 0),.raw (.string ⟨#[]⟩),nlS,nlS,false,.raw (.string ⟨#[]⟩),nlS,.raw (.string ⟨#[]⟩),nlS]
def u7 (t:Tag)(A:List IV)(D:Tag)(ys:List IV)(st:ISt):ICall prog gl 14 [.agg [.sl t A,.sl D ys]] st (λr st'=>r=gI t A D ys/\st'=st):=by
 refine iI func14 ?_;simp only[go_sem,zE,zA,zL,fits];exact dw ⟨rfl,rfl⟩
def yh (r o:Int)(n:ByteArray)(t1:Tag)(E:List IV)(t2:Tag)(D:List IV)(t:Tag)(A:List IV)(G:Tag)(ys:List IV)(ts:Tag)(zs:List IV)(st:ISt) :
  ICall prog gl 25 [.raw (.int .u8 r),.agg [.raw (.int .u8 o),n,.sl t1 E,.sl t2 D],.agg [.sl t A,.sl G ys],.sl ts zs] st
   (λy st'=>y=.agg [.raw (.int .u8 r),.sl t A,.sl G ys,.raw (.int .u8 o),n,.sl t1 E,.sl t2 D,false,.raw (.string ⟨#[]⟩),nlS,.raw (.string ⟨#[]⟩),.sl ts zs]/\st'=st):=by
 refine iI func25 ?_;simp only[go_sem,zE,zA,zL,reduceCtorEq,fits];exact dw ⟨rfl,rfl⟩
def yi {s:Sq}{t:Tag}{A:List IV}{D:Tag}{ys:List IV}(h:IsSq s (.agg [.sl t A,.sl D ys])):IsTr (goalT s) (gI t A D ys):=by
 obtain⟨t1,U,t2,O,E,J,i1,G,i2⟩:=h;cases E;exact⟨_,_,_,_,_,_,_,_,_,_,_,_,_,_,_,_,rfl,by decide,J,i1,G,i2,rD,qq,.inl rfl,rfl⟩
def u9 (G:Gl gl)(T:Gt gl)(U:∀g x,gl g=some x->age x=x){ca:Nat}(hc:ca=1\/ca=2){t:Tr}{x:IV}(hx:IsTr t x)(O:okT t=true)(hs:t.steps<=300){p:List Nat}(J:gz t=[p]){s:Sq}(D:(atT t p).sq=s)(hv:fT ca s=true){h:Nat}{K:List Sn}(hK:hF (calJ ca) (s.l,s.r)=h/\ReachOk (calJ ca) (nf (s.l,s.r)) K)(aa:ig s)(m:Nat×Fm×List Sn)
  (hB:0<h->∀y st,IsSq s y->ICall prog gl 72 [.raw (.int .u8 (ca:Int)),y,(h:Int)] st (λr st'=>(∃z,jh m z/\r=.tup [z,(0:Int)])/\st'=st)) (st:ISt) :
  ICall prog gl 42 [.raw (.int .u8 (ca:Int)),x] st (λr st'=>uY ca t h m r/\st'=st):=by
 refine IL gl G T U ca t x hx (qv O (by omega)) (by omega) h m (λq qs _ E y st A=>?_) (λq qs hh _ E y st A=>?_) st
 ·rw[J] at E;cases E;rw[D] at A;exact qp gl G T ca s hc hv hK y A aa st
 ·rw[J] at E;cases E;rw[D] at A;exact hB hh y st A
def RA (G:Gl gl)(T:Gt gl)(y:IV)(st:ISt)(A:IsSq sM y):ICall prog gl 72 [.raw (.int .u8 ((2:Nat):Int)),y,((3:Nat):Int)] st (λr st'=>(∃z,jh mv1 z/\r=.tup [z,(0:Int)])/\st'=st):=by
 refine ya gl G T 2 sM (.inr rfl) hvM 3 mv1 y A (kg (by decide)) (λh=>(nclM h).elim) (λ_=>⟨sd2.2.top (by rw[nfM];exact nclM),?_,?_,?_⟩) st
 ·rw[show nf (sM.l,sM.r)=([],[mnF]) from nfM,show mvF (calJ 2) ([],[mnF])=_ from mvM];have E:lowB (calJ 2) 3 [(([]:List Fm),[faP])]=false:=by unfold lowB;simp only[ko,List.all_nil];rw[show Tryz.hF (calJ 2) ([],[faP])=0 from sd1.1];rfl
  have D:lowB (calJ 2) 3 [(([]:List Fm),[qqF])]=true:=by unfold lowB;simp only[ko,List.all_nil];rw[show Tryz.hF (calJ 2) ([],[qqF])=2 from sd3.1];rfl
  rw[jG,E,jG,D]
 ·rw[show nf (sM.l,sM.r)=([],[mnF]) from nfM,show mvF (calJ 2) ([],[mnF])=_ from mvM];decide
 ·rw[show nf (sM.l,sM.r)=([],[mnF]) from nfM,show mvF (calJ 2) ([],[mnF])=_ from mvM];intro v hv;simp only[eK,h_,gq] at hv;rcases hv with rfl|rfl
  ·refine⟨by show 1<=1000000;decide,λp hp y st A=>?_⟩;rw[eY.1 hp] at A ⊢;rw[show Tryz.hF (calJ 2) ([],[faP])=0 from sd1.1];exact qp gl G T 2 sP (.inr rfl) hvP sd1 y A (kg (by decide)) st
  ·refine⟨by show 1<=1000000;decide,λp hp y st A=>?_⟩;rw[eY.1 hp] at A ⊢;rw[show Tryz.hF (calJ 2) ([],[qqF])=2 from sd3.1];exact qp gl G T 2 sQ (.inr rfl) hvQ sd3 y A (kg (by decide)) st
def RB (G:Gl gl)(T:Gt gl)(y:IV)(st:ISt)(A:IsSq sQ y):ICall prog gl 72 [.raw (.int .u8 ((2:Nat):Int)),y,((2:Nat):Int)] st (λr st'=>(∃z,jh mv2 z/\r=.tup [z,(0:Int)])/\st'=st):=by
 refine ya gl G T 2 sQ (.inr rfl) hvQ 2 mv2 y A (kg (by decide)) (λh=>(nclQ h).elim) (λ_=>⟨sd3.2.top (by rw[nfQ];exact nclQ),?_,?_,?_⟩) st
 ·rw[show nf (sQ.l,sQ.r)=([],[qqF]) from nfQ,show mvF (calJ 2) ([],[qqF])=_ from mvQ];have D:lowB (calJ 2) 2 [([faQ],[faQ])]=true:=by unfold lowB;simp only[ko,List.all_nil];rw[show Tryz.hF (calJ 2) ([faQ],[faQ])=1 from sd4.1];rfl
  rw[jG,D]
 ·rw[show nf (sQ.l,sQ.r)=([],[qqF]) from nfQ,show mvF (calJ 2) ([],[qqF])=_ from mvQ];decide
 ·rw[show nf (sQ.l,sQ.r)=([],[qqF]) from nfQ,show mvF (calJ 2) ([],[qqF])=_ from mvQ];intro v hv;rw[eY.1 hv];refine⟨by show 1<=1000000;decide,λp hp y st A=>?_⟩;rw[eY.1 hp] at A ⊢;rw[show Tryz.hF (calJ 2) ([faQ],[faQ])=1 from sd4.1];exact qp gl G T 2 sA (.inr rfl) hvA sd4 y A (kg (by decide)) st
def RC (G:Gl gl)(T:Gt gl)(y:IV)(st:ISt)(A:IsSq sO y):ICall prog gl 72 [.raw (.int .u8 ((1:Nat):Int)),y,((3:Nat):Int)] st (λr st'=>(∃z,jh mv4 z/\r=.tup [z,(0:Int)])/\st'=st):=by
 refine ya gl G T 1 sO (.inl rfl) awv2 3 mv4 y A (kg (by decide)) (λh=>(nclO h).elim) (λ_=>⟨aw2.2.top (by rw[nfO];exact nclO),?_,?_,?_⟩) st
 ·rw[show nf (sO.l,sO.r)=([],[orP]) from nfO,show mvF (calJ 1) ([],[orP])=_ from mvO];have D:lowB (calJ 1) 3 [([],[faP,fno faP,orP])]=true:=by unfold lowB;simp only[ko,List.all_nil];rw[show Tryz.hF (calJ 1) ([],[faP,fno faP,orP])=2 from sd5.1];rfl
  rw[jG,D]
 ·rw[show nf (sO.l,sO.r)=([],[orP]) from nfO,show mvF (calJ 1) ([],[orP])=_ from mvO];decide
 ·rw[show nf (sO.l,sO.r)=([],[orP]) from nfO,show mvF (calJ 1) ([],[orP])=_ from mvO];intro v hv;rw[eY.1 hv];refine⟨by show 1<=1000000;decide,λp hp y st A=>?_⟩;rw[eY.1 hp] at A ⊢;rw[show Tryz.hF (calJ 1) ([],[faP,fno faP,orP])=2 from sd5.1];exact qp gl G T 1 ⟨[],[faP,fno faP,orP]⟩ (.inl rfl) hvE sd5 y A (kg (by decide)) st
def RD (G:Gl gl)(T:Gt gl)(y:IV)(st:ISt)(A:IsSq sA y):ICall prog gl 72 [.raw (.int .u8 ((2:Nat):Int)),y,((1:Nat):Int)] st (λr st'=>(∃z,jh mv3 z/\r=.tup [z,(0:Int)])/\st'=st):=by
 have hS:SetS sA=(sA,0):=by rw[Ry (.inr rfl) hvA,show nf (sA.l,sA.r)=([faQ],[faQ]) from nfA];rfl
 have D:sA.l.find? (hasF sA.r)=some faQ:=by
  have:hasF [faQ] faQ=true:=by simp only[hasF,List.any_cons,IZ (show faQ.right=true by kernel_rfl),Bool.true_or]
  simp only[jG,this]
 have hM:clM sA=mv3:=by simp only[clM,D]
 exact ya gl G T 2 sA (.inr rfl) hvA 1 mv3 y A (kg (by decide)) (λ_ st=>hM▸Q1 gl G T sA sA y A (kg (by decide)) (by decide) hS (kg (by decide)) (by decide) st) (λh=>(h clA).elim) st
set_option maxRecDepth 4000
def yj (t:Tr):Prop:=∀(x y:IV) (_:IsTr t x) (_:IsTr t y) (_:t.steps<=1099511627776) (st:ISt),ICall prog gl 13 [x,y] st (λr st'=>r=true/\st'=st)
def RE (rule:Nat)(s:Sq)(f:Fm)(u:Tm)(n:ByteArray)(sub:List Tr)(IH:∀a∈sub,yj gl a):yj gl (.mk rule s f u n sub):=by
 intro x y hx hy hst st;obtain⟨tl,xl,tr,xr,op,fn,ta,xa,tb,xb,v,un,tu,xu,ts,xs,rfl,bl,e1,i1,e2,i2,aM,hz,e3,i3⟩:=hx.mk;obtain⟨U,O,tr2,J,aH,aV,aE,ao,aC,am,v2,au,aw,ag,ay,ai,rfl,a6,aZ,aK,aY,aJ,ac,aL,aX,aa⟩:=hy.mk;simp only[Tr.steps] at hst;have aS:=xx sub;have h1:=λst=>AM gl s s (.agg [.sl tl xl,.sl tr xr]) (.agg [.sl U O,.sl tr2 J]) ⟨_,_,_,_,rfl,e1,i1,e2,i2⟩ ⟨_,_,_,_,rfl,aZ,aK,aY,aJ⟩ st;have h2:=λst=>AL gl f f _ _ aM ac st;have h3:=λst=>NU gl u u _ _ hz aL st;have aQ:eqB s s=true:=yZ2.2 rfl;have aO:eqB f f=true:=yZ2.2 rfl;have aN:eqB u u=true:=yZ2.2 rfl;refine iI func13 ?_;simp only[go_sem,zE,zA,zL,d_];refine (h1 _).q ?_;simp only[go_sem,zE,zA,zL,aQ];refine (h2 _).q ?_;simp only[go_sem,zE,zA,zL,aO];refine (h3 _).q ?_;simp only[go_sem,zE,zA,aN,d_,i3.len,aa.len];intros;refine dC sub.length (λk fr st' ds=>fr 2=.box [.raw (.int .u8 rule),.sl tl xl,.sl tr xr,.raw (.int .u8 op),fn,.sl ta xa,.sl tb xb,v,un,.sl tu xu,n,.sl ts xs] /\
  fr 3=.box [.raw (.int .u8 rule),.sl U O,.sl tr2 J,.raw (.int .u8 aH),aV,.sl aE ao,.sl aC am,v2,au,.sl aw ag,n,.sl ay ai]/\fr 5=.iv (.raw (.int .i64 k))/\st'=st/\ds=[]) ?_ ?_ ?_
 ·simp only[go_sem,zE];rfl
 ·rintro k fr aG _ E ⟨f2,f3,f5,rfl,rfl⟩;obtain⟨a,ha⟩:=ed E;have af:=lMg ha;obtain⟨z,aT,ab⟩:=i3.get ha;obtain⟨z2,ae,A⟩:=aa.get ha;have G:=λst=>IH a af z z2 ab A (by have:=Ir af;omega) st;obtain⟨D,aB,al,aA,ak,aI,aW,aF,aq,aD,an,v',av,ax,ah,n',az,aj,rfl⟩:=fY ab;obtain⟨D,aB,al,aA,ak,aI,aW,aF,aq,aD,an,v',av,ax,ah,n',az,aj,rfl⟩:=fY A;simp only[go_sem,zE,zB,zA,f2,f3,f5,i3.len,lt_i E,ec e3,ec aX,iNn,aT,ae,fits];intros;refine (G _).q ?_;simp only[go_sem,zE,f2,f3,f5,ek E (by omega)]
 ·rintro fr aG _ ⟨f2,f3,f5,rfl,rfl⟩;simp only[go_sem,zE,f2,f5,i3.len,eI (nLi _)];intros;exact dw ⟨rfl,rfl⟩
def Jc:∀(k:Nat)(t:Tr),SizeOf.sizeOf t<k->yj gl t
 | 0,t,h=>by omega
 | k+1,.mk r sq f u n sub,h=>RE gl r sq f u n sub (λa A=>Jc k a (by
   have:=lSm A;simp at h;omega))
def Jd (t:Tr):yj gl t:=Jc gl _ t (fP _)
set_option maxRecDepth 8000
def RG {r:Nat}(J:r<256){s:Sq}{m:Fm}{sub:List Tr}{t G t1 t2 ts:Tag}{A ys E D zs:List IV}{o:Int}{n:ByteArray}(h1:IsSq s (.agg [.sl t A,.sl G ys]))(h2:IsFm m (.agg [.raw (.int .u8 o),n,.sl t1 E,.sl t2 D]))(h3:okEs ts 12)(U:IsTrs sub zs) :
  IsTr (.mk r s m tmZ noN sub) (.agg [.raw (.int .u8 (r:Int)),.sl t A,.sl G ys,.raw (.int .u8 o),n,.sl t1 E,.sl t2 D,false,.raw (.string ⟨#[]⟩),nlS,.raw (.string ⟨#[]⟩),.sl ts zs]):=by
 obtain⟨a1,b1,a2,b2,O,e1,i1,e2,i2⟩:=h1;cases O;exact⟨_,_,_,_,_,_,_,_,_,_,_,_,_,_,_,_,rfl,J,e1,i1,e2,i2,h2,qq,h3,U⟩
def Co {t A:Tr}{x:IV}(J:IsTr t x)(hs:t.steps<=200){h:Nat}{m:Nat×Fm×List Sn}(O:m.1<256)(hm:m.2.2.length<=100)(D:hCk 2 t=([],0)){p:List Nat}(G:gz t=[p])(hh:0<h)
  (hF:∀st,ICall prog gl 42 [.raw (.int .u8 ((2:Nat):Int)),x] st (λr st'=>uY 2 t h m r/\st'=st)) (n:Nat) (hv:visF (folF m) n t true p=some A) (st:ISt) :
  ICall prog gl 26 [.raw (.int .u8 ((2:Nat):Int)),x] st (λr st'=>(∃z,IsTr A z/\r=.tup [z,(0:Int)])/\st'=st):=by
 refine (IT gl 2 t A x J (by omega) h m O hF n (λq U _ E=>by rw[G] at E;cases E;exact⟨by omega,hv⟩) st).mono ?_;rintro r st' ⟨⟨h0,_⟩|⟨_,h0,_⟩|⟨_,h0⟩|⟨_,_,h0⟩,h1⟩
 ·rw[D] at h0;exact absurd rfl h0
 ·rw[G] at h0;cases h0
 ·omega
 ·exact⟨h0,h1⟩
def skK:Nat->Tr
 | 0=>goalT sM
 | 1=>sk1
 | 2=>sk2
 | _=>sk3
def RH (G:Gl gl)(T:Gt gl)(A:∀g x,gl g=some x->age x=x)(k:Nat)(J:k<3)(x:IV)(D:IsTr (skK k) x)(st:ISt) :
  ICall prog gl 26 [.raw (.int .u8 ((2:Nat):Int)),x] st (λr st'=>(∃z,IsTr (skK (k+1)) z/\r=.tup [z,(0:Int)])/\st'=st):=by
 rcases (show k=0\/k=1\/k=2 by omega) with rfl|rfl|rfl
 ·exact Co gl D (by decide) (m:=mv1) (by decide) (by decide) ckM (p:=[]) rfl (by decide) (λst=>u9 gl G T A (.inr rfl) D (by decide) (by decide) (p:=[]) rfl rfl hvM sd2 (kg (by decide)) mv1 (λ_ y st E=>RA gl G T y st E) st) 3 (by kernel_rfl) st
 ·exact Co gl D (by decide) (m:=mv2) (by decide) (by decide) ck1 (p:=[0]) rfl (by decide) (λst=>u9 gl G T A (.inr rfl) D (by decide) (by decide) (p:=[0]) rfl rfl hvQ sd3 (kg (by decide)) mv2 (λ_ y st E=>RB gl G T y st E) st) 4 (by kernel_rfl) st
 ·exact Co gl D (by decide) (m:=mv3) (by decide) (by decide) ck2 (p:=[0,0]) rfl (by decide) (λst=>u9 gl G T A (.inr rfl) D (by decide) (by decide) (p:=[0,0]) rfl rfl hvA sd4 (kg (by decide)) mv3 (λ_ y st E=>RD gl G T y st E) st) 5 (by kernel_rfl) st
def RI (G:Gl gl)(T:Gt gl)(D:∀g x,gl g=some x->age x=x)(x:IV)(E:IsTr sk3 x)(st:ISt) :
  ICall prog gl 26 [.raw (.int .u8 ((2:Nat):Int)),x] st (λr st'=>r=.tup [.agg z12,(271:Int)]/\st'=st):=by
 have A:gz sk3=[]:=rfl;refine (IT gl 2 sk3 sk3 x E (by decide) 1 mv3 (by decide) (λst=>IL gl G T D 2 sk3 x E (qv (by decide) (by decide)) (by decide) 1 mv3 (λp ps _ h=>by rw[A] at h;cases h) (λp ps _ _ h=>by rw[A] at h;cases h) st) 0 (λq O _ J=>by rw[A] at J;cases J) st).mono ?_;rintro r st' ⟨⟨h0,_⟩|⟨_,_,h0⟩|⟨_,h0⟩|⟨_,h0,_⟩,h1⟩
 ·rw[ck3] at h0;exact absurd rfl h0
 ·exact⟨h0,h1⟩
 ·omega
 ·exact absurd A h0
def ckS3:jg 2 sk3=([],0):=by
 have c1:iC 2 sk3=0:=u0 (s:=([],[mnF])) hvM rfl fmM (m:=mv1) (by rw[mvM];exact .tail _ (.head _)) rfl;have c2:iC 2 (.mk 10 sQ qqF tmZ noN [.mk 1 sA faQ tmZ noN []])=0:=u0 (s:=([],[qqF])) hvQ rfl fmQ (m:=mv2) (by rw[mvQ];exact .head _) rfl;have c3:iC 2 (.mk 1 sA faQ tmZ noN [])=0:=(I2 (.inr rfl) (s:=([faQ],[faQ])) hvA (λf D=>by rw[eY.1 D];kernel_rfl) (by simp[axF])).1;have e:jg 2 sk3=g_ (iC 2) (sk3.walk []):=by
  unfold jg;rw[show jL 2=true from rfl];simp only[nD,bFt,et];rw[a_ (by decide)]
 rw[e];refine Cm λq A=>?_;simp only[Tr.walk,fJ,fL,f_,eK,h_,gq] at A;rcases A with rfl|rfl|rfl
 ·exact c1
 ·exact c2
 ·exact c3
def lW (s:Sq):Nat×Nat:=if wFms s.r=wFms [faP] then (0,0) else (3,0)
def RJ (G:Gl gl)(T:Gt gl)(E:∀g x,gl g=some x->age x=x)(st:ISt):ICall prog gl 4 [] st (λr st'=>r=true/\st'=st):=by
 have hO:=yi (uV sO (by decide));have aA:=λst=>IX gl 1 (goalT sO) _ hO 3 mv4 4 (λ_ _ _ _=>rfl) (λ_ st=>u9 gl G T E (.inl rfl) hO (by decide) (by decide) (p:=[]) rfl rfl awv2 aw2 (kg (by decide)) mv4 (λ_ y st hy=>RC gl G T y st hy) st) st;have az:=λst=>IX gl 2 (goalT sO) _ hO 0 mv4 4 (λ_ h _ _=>absurd h (by decide)) (λ_ st=>u9 gl G T E (.inr rfl) hO (by decide) (by decide) (p:=[]) rfl rfl awv3 aw3 (kg (by decide)) mv4 (λh=>absurd h (by decide)) st) st;have aj:IsTr skW _:=RG (r:=8) (ts:=⟨true,.full,12⟩) (by decide) (uV sM (by decide)) (Ay mnF (by decide)) (.inr rfl) ⟨_,[],rfl,yi (uV sP (by decide)),rfl⟩;have au:gP lW 2 skW=([],0):=by unfold gP;rw[ckW];kernel_rfl
 have ac:=λst=>Cg gl G T E lW 2 skW _ aj (qv (by decide) (by decide)) (by decide) (λz U y st hy=>by
  have U:z=skW\/z=goalT sP:=by
   rw[show iM skW=[skW,goalT sP] from rfl] at U;simpa using U
  rcases U with rfl|rfl
  ·rw[show lW skW.sq=(3,0) by kernel_rfl];exact qp gl G T 2 sM (.inr rfl) hvM sd2 y hy (kg (by decide)) st
  ·rw[show lW (goalT sP).sq=(0,0) by kernel_rfl];exact qp gl G T 2 sP (.inr rfl) hvP sd1 y hy (kg (by decide)) st) st
 rw[au] at ac;have av:=λst=>IS gl 2 skW (goalT sM) _ aj [] (by decide) 0 (λst=>(ac st).mono λr st' ⟨a,b⟩=>⟨.inr ⟨rfl,a⟩,b⟩) 3 (λ_=>by kernel_rfl) st;refine ICall.intro (c:=cf prog gl [] [(9,[0,1,2,3,7,4,5,6,8]),(10,[0,1,2,5,6,12,3,4,7,8,9,10,11,13])]) func4 rfl (by show _<=179;simp) (by kernel_rfl) ?_;simp only[go_sem,zA,zL,qW]
 repeat ((first|refine (k_p gl _ _).mono ?_|refine (k_of gl _ _ _ _).mono ?_|refine (k_fs gl _ _ _).mono ?_|refine (k_sq gl _ _ _ _ _).mono ?_|refine (u7 gl _ _ _ _ _).mono ?_|refine (yh gl _ _ _ _ _ _ _ _ _ _ _ _ _ _).mono ?_);rintro _ st ⟨rfl,rfl⟩;simp only[go_sem,zE,zA,zM,zL,fits,fg,lM,qW,gI])
 refine (aA _).mono ?_;rintro r st ⟨hr,rfl⟩;obtain⟨D,O,o,n,t1,x1,t2,x2,t3,x3,hm,rfl⟩:∃D,okEs D 1/\∃o n t1 x1 t2 x2 t3 x3,jh mv4 (.agg [.raw (.int .u8 ((8:Nat):Int)),.raw (.int .u8 o),.raw (.string n),.sl t1 x1,.sl t2 x2,.sl t3 x3]) /\
   r=.tup [.agg [.sl D [],((3:Nat):Int),true,.raw (.int .u8 o),.raw (.string n),.sl t1 x1,.sl t2 x2,.raw (.int .u8 ((8:Nat):Int)),.sl t3 x3],(0:Int)]:=by
  rcases hr with⟨h,_⟩|⟨_,⟨h,_⟩|⟨_,h,_⟩|⟨_,p,ps,D,ab,O,⟨h,_⟩|⟨_,o,n,t1,x1,t2,x2,t3,x3,hm,rfl⟩⟩⟩
  ·omega
  ·rw[ckO1] at h;exact absurd rfl h
  ·cases h
  ·cases h
  ·cases ab;exact⟨D,O,o,n,t1,x1,t2,x2,t3,x3,hm,rfl⟩
 simp only[go_sem,zE,zA,zL];refine (az _).mono ?_;rintro r st ⟨hr,rfl⟩;obtain⟨aS,aI,rfl⟩:∃D,okEs D 1/\r=.tup [.agg (.sl D []::advZ.tail),(272:Int)]:=by
  rcases hr with⟨h,_⟩|⟨_,⟨h,_⟩|⟨_,h,_⟩|⟨_,p,ps,D,ab,O,⟨_,rfl⟩|⟨h,_⟩⟩⟩
  ·omega
  ·rw[ckO2] at h;exact absurd rfl h
  ·cases h
  ·cases ab;exact⟨D,O,rfl⟩
  ·omega
 obtain⟨o',n',q1,z1,q2,z2,q3,z3,he,hf,e3,h3⟩:=hm;cases he;have hp1:IsSqs [⟨[],[faP,fno faP,orP]⟩] [sI ⟨[],[faP,fno faP,orP]⟩]:=⟨_,_,rfl,uV _ (by decide),rfl⟩
 have ay:=λst=>AL gl orP orP _ _ hf (Ay orP (by decide)) st;have ax:=λst=>QF gl _ _ t3 ⟨true,.full,2⟩ x3 [sI ⟨[],[faP,fno faP,orP]⟩] e3 (by simp[okEs]) (Iq h3) hp1 st;simp only[go_sem,zE,zA,zL,show advZ.tail=[.raw (.int .i64 0),.raw (.bool false),.raw (.int .u8 0),.raw (.string ⟨#[]⟩),nlS,nlS,.raw (.int .u8 0),nlS] from rfl,d_,show decide (((3:Nat):Int)=3)=true from rfl,show decide (((8:Nat):Int)=8)=true from rfl,show decide (((0:Nat):Int)=0)=true from rfl];refine (ay _).q ?_;have hq:eqB orP orP=true:=yZ2.2 rfl;simp only[go_sem,zE,zA,zM,zL,fits,hq,QG]
 repeat ((first|refine (k_p gl _ _).mono ?_|refine (k_of gl _ _ _ _).mono ?_|refine (k_fs gl _ _ _).mono ?_|refine (k_sq gl _ _ _ _ _).mono ?_|refine (u7 gl _ _ _ _ _).mono ?_|refine (yh gl _ _ _ _ _ _ _ _ _ _ _ _ _ _).mono ?_);rintro _ st ⟨rfl,rfl⟩;simp only[go_sem,zE,zA,zM,zL,fits,fg])
 refine (ax _).q ?_;have an:eqB ([⟨[],[faP,fno faP,orP]⟩]:List Sq) [⟨[],[faP,fno faP,orP]⟩]=true:=yZ2.2 rfl;simp only[go_sem,zE,zA,zM,zL,fits,an,lM]
 repeat ((first|refine (k_p gl _ _).mono ?_|refine (k_of gl _ _ _ _).mono ?_|refine (k_fs gl _ _ _).mono ?_|refine (k_sq gl _ _ _ _ _).mono ?_|refine (u7 gl _ _ _ _ _).mono ?_|refine (yh gl _ _ _ _ _ _ _ _ _ _ _ _ _ _).mono ?_);rintro _ st ⟨rfl,rfl⟩;simp only[go_sem,zE,zA,zM,zL,fits,fg,lM,gI])
 refine (ac _).mono ?_;rintro r st ⟨hr,rfl⟩;obtain⟨aQ,aH,rfl⟩:∃D,okEs D 1/\r=.tup [.sl D [],(0:Int)]:=hr;simp only[go_sem,zE,zA,zL];refine (av _).mono ?_;rintro r st ⟨hr,rfl⟩;obtain⟨u,hu,rfl⟩:∃z,IsTr (goalT sM) z/\r=.tup [z,(0:Int)]:=by
  rcases hr with⟨h,_⟩|⟨_,h⟩
  ·exact absurd rfl h
  ·exact h
 have ah:=hu;obtain⟨r1,a1,b1,a2,b2,o1,n1,a3,b3,a4,b4,v1,n2,a5,b5,n3,a6,b6,rfl⟩:=fY hu;have aw:=λst=>Jd gl (goalT sM) _ _ ah (yi (uV sM (by decide))) (by decide) st;simp only[go_sem,zE,zA,zM,zL,fits,d_,show decide (((0:Nat):Int)=0)=true from rfl,fg]
 repeat ((first|refine (k_p gl _ _).mono ?_|refine (k_of gl _ _ _ _).mono ?_|refine (k_fs gl _ _ _).mono ?_|refine (k_sq gl _ _ _ _ _).mono ?_|refine (u7 gl _ _ _ _ _).mono ?_|refine (yh gl _ _ _ _ _ _ _ _ _ _ _ _ _ _).mono ?_);rintro _ st ⟨rfl,rfl⟩;simp only[go_sem,zE,zA,gI])
 refine (aw _).q ?_;simp only[go_sem,zE];refine dC 3 (λk fr st' ds=>(∃c,fr 14=.box c/\IsTr (skK k) (.agg c))/\st'=st/\fr 16=(k:Int)/\ds=[]) ?_ ?_ ?_
 ·simp only[go_sem,zE];exact⟨⟨_,rfl,ah⟩,rfl⟩
 ·rintro k fr J _ ai ⟨⟨c,f14,hc⟩,rfl,f16,rfl⟩;have aq:=λst=>RH gl G T E k ai _ hc st;obtain⟨r1,a1,b1,a2,b2,o1,n1,a3,b3,a4,b4,v1,n2,a5,b5,n3,a6,b6,A⟩:=fY hc;injection A with A;subst A;simp only[go_sem,zE,zA,zL,f14,f16,show decide ((k:Int)<3)=true from dEt (by omega)];refine (aq _).mono ?_;rintro _ J ⟨⟨z,U,rfl⟩,rfl⟩;have am:=U;obtain⟨r2,c1,e1,c2,e2,o2,m1,c3,aY,c4,e4,v2,m2,c5,e5,m3,c6,e6,rfl⟩:=fY U;simp only[go_sem,zE,zA,zL,f14,f16,d_,ek ai (by omega)];exact⟨_,rfl,am⟩
 ·rintro fr J _ ⟨⟨c,f14,hc⟩,rfl,f16,rfl⟩;have hC:=λst=>Gj gl G T 2 sk3 _ hc (qv (by decide) (by decide)) st;have aB:=λst=>RI gl G T E _ hc st;obtain⟨a1,b1,a2,b2,o1,n1,a3,b3,a4,b4,v1,n2,a5,b5,a6,b6,A,_⟩:=IsTr.mk hc;injection A with A;subst A;rw[ckS3] at hC;simp only[go_sem,zE,zA,zL,f14,f16,show decide (((3:Nat):Int)<3)=false from rfl];refine (hC _).mono ?_;rintro _ J ⟨⟨D,rfl,_⟩,rfl⟩;simp only[go_sem,zE,zA,zL,f14];refine (aB _).q ?_;simp only[go_sem,zE,zA,zL,f14,d_,show decide (((0:Nat):Int)=0)=true from rfl,show decide (((18:Nat):Int)=18)=true from rfl];exact dw ⟨rfl,rfl⟩
set_option maxRecDepth 4000
def RK (b:Bool)(st:ISt):ICall prog gl 5 [b] st (λr st'=>r=.raw (.int .u8 ((if b=true then 2 else 1:Nat):Int))/\st'=st):=by
 refine iI func5 ?_;cases b
 ·simp only[go_sem,reduceCtorEq];exact dw ⟨rfl,rfl⟩
 ·simp only[go_sem,reduceCtorEq];exact dw ⟨rfl,rfl⟩
def lgC (t:Tr):Prop:=∀(x:IV) (_:IsTr t x) (left:Int) (_:0<=left/\left<=1000) (_:wTr t<=1099511627776) (_:t.steps<=1000000) (st:ISt),
 ICall prog gl 29 [x,left] st (λr st'=>(∃n:Int,r=n /\ -1<=n/\n<=left)/\st'=st)
def RL (af:∀g x,gl g=some x->age x=x)(rule:Nat)(s:Sq)(f:Fm)(u:Tm)(n:ByteArray)(sub:List Tr)(IH:∀a∈sub,lgC gl a):lgC gl (.mk rule s f u n sub):=by
 intro x hx left hl hw hs st;have hG:=λst=>B5 gl af _ x hx hs st;obtain⟨tl,xl,tr,xr,op,fn,ta,xa,tb,xb,v,un,tu,xu,ts,xs,rfl,aN,e1,i1,e2,i2,hy,hz,e3,i3⟩:=hx.mk;simp only[wTr] at hw;simp only[Tr.steps] at hs;have ag:=λst=>O_ gl s _ ⟨tl,xl,tr,xr,rfl,e1,i1,e2,i2⟩ ⟨by omega,by omega⟩ st;refine iI func29 ?_;simp only[go_sem,zE,zA,zL];refine (hG _).mono ?_;rintro _ st ⟨⟨tg,ys,rfl,aM,hys⟩,rfl⟩;by_cases h0:ys.length=0
 ·have d0:decide ((ys.length:Int)=0)=true:=dEt (by omega);simp only[go_sem,zE,d0];intro _;exact dw ⟨⟨left,rfl,by omega,by omega⟩,rfl⟩
 have d0:decide ((ys.length:Int)=0)=false:=dEf (by omega);simp only[go_sem,zE,zA,zL,d0];intro _;refine (ag _).q ?_;cases hq:wQ s
 ·simp only[go_sem];exact dw ⟨⟨-1,rfl,by omega,by omega⟩,rfl⟩
 have wl:IntKind.i64.wrap (left-1)=left-1:=w64 (by omega) (by omega);simp only[go_sem,zE,wl];refine dC sub.length (λk fr st' ds=>(∃l:Int,fr 1=l /\ -1<=l/\l<=left-1) /\
  fr 2=.box [.raw (.int .u8 rule),.sl tl xl,.sl tr xr,.raw (.int .u8 op),fn,.sl ta xa,.sl tb xb,v,un,.sl tu xu,n,.sl ts xs]/\fr 5=.iv (.raw (.int .i64 k))/\st'=st/\ds=[]) ?_ ?_ ?_
 ·simp only[go_sem,zE];exact⟨⟨left-1,rfl,by omega,by omega⟩,rfl⟩
 ·rintro k fr U _ A ⟨⟨l,f1,E,ac⟩,f2,f5,rfl,rfl⟩;obtain⟨a,ha⟩:=ed A;obtain⟨z,ae,O⟩:=i3.get ha;have J:=lMg ha;by_cases D:(0:Int)<=l
  ·have G:=λst=>IH a J z O l ⟨D,by omega⟩ (by have:=Cj J;omega) (by have:=oG J;omega) st;obtain⟨aa,aF,aq,aE,ao,aK,aS,aI,aw,aG,au,v',az,aB,ak,n',aD,am,rfl⟩:=fY O;simp only[go_sem,zE,zB,zA,f1,f2,f5,i3.len,lt_i A,dEt D,ec e3,iNn,ae,fits];intro _;refine (G _).mono ?_;rintro _ aJ ⟨⟨r,rfl,ab,aO⟩,rfl⟩;simp only[go_sem,zE,f2,f5,ek A (by omega)];exact⟨r,rfl,ab,by omega⟩
  ·simp only[go_sem,zE,f1,f2,f5,i3.len,lt_i A,dEf D];intro _;exact dw ⟨⟨l,rfl,E,by omega⟩,rfl⟩
 ·rintro fr U _ ⟨⟨l,f1,E,ac⟩,f2,f5,rfl,rfl⟩;simp only[go_sem,zE,f1,f2,f5,i3.len,eI (nLi _)];intro _;exact dw ⟨⟨l,rfl,E,by omega⟩,rfl⟩
def Je (A:∀g x,gl g=some x->age x=x):∀(k:Nat) (t:Tr),SizeOf.sizeOf t<k->lgC gl t
 | 0,t,h=>by omega
 | k+1,.mk r sq f u n sub,h=>RL gl A r sq f u n sub (λa D=>Je A k a (by
   have:=lSm D;simp at h;omega))
def RM (D:∀g x,gl g=some x->age x=x)(t:Tr)(x:IV)(E:IsTr t x)(hw:wTr t<=1099511627776)(hs:t.steps<=1000000)(st:ISt):ICall prog gl 7 [x] st (λr st'=>(∃b:Bool,r=b)/\st'=st):=by
 have hl:=λst=>Je gl D _ t (fP _) x E 8 ⟨by omega,by omega⟩ hw hs st;obtain⟨A,ah,U,ag,O,ak,am,aj,ab,ai,aa,v',ac,ae,G,n',af,J,rfl⟩:=fY E;refine iI func7 ?_;simp only[go_sem,zE,zA,zL];refine (hl _).mono ?_;rintro _ st ⟨⟨r,rfl,h1,h2⟩,rfl⟩;simp only[go_sem];exact dw ⟨⟨_,rfl⟩,rfl⟩
end Go.Proofs.Tryz
namespace Go.Proofs.Tryz
open Go Go.Iv
set_option maxRecDepth 4000
noncomputable def iF:Tr->List Nat->Tr
 | t,[]=>goalT t.sq
 | .mk r s m u n sub,i::p=>match sub[i]? with
  | some a=>.mk r s m u n (sub.set i (iF a p))
  | none=>.mk r s m u n sub
def sB {r:Nat}{s:Sq}{m:Fm}{u:Tm}{n:ByteArray}{sub:List Tr}{i:Nat}{p:List Nat}{a:Tr}(h:sub[i]?=some a):iF (.mk r s m u n sub) (i::p)=.mk r s m u n (sub.set i (iF a p)):=by
 simp only[iF,h]
def qy (t:Tr):iF t []=goalT t.sq:=by cases t;rfl
def yk:∀(p:List Nat)(t:Tr),(iF t p).sq=t.sq
 | [],t=>by rw[qy];rfl
 | i::p,.mk r s m u n sub=>by
  simp only[iF];split<;>rfl
def Jf:∀(p:List Nat)(t:Tr),okP t p->okP (iF t p) p/\atT (iF t p) p=goalT (atT t p).sq
 | [],t,_=>⟨trivial,by rw[qy];cases t;rfl⟩
 | i::p,.mk r s m u n sub,⟨a,h1,h2⟩=>by
  rw[sB h1];have hl:=(lGs h1).1;have hs:(sub.set i (iF a p))[i]?=some (iF a p):=by rw[List.getElem?_set_self hl]
  obtain⟨D,A⟩:=Jf p a h2;exact⟨⟨_,hs,D⟩,by simp only[atT,hs,h1];exact A⟩
def Cq:∀(l:List Tr)(i:Nat)(a b:Tr),l[i]?=some a->b.sq=a.sq->(l.set i b).map Tr.sq=l.map Tr.sq
 | c::l,0,a,b,h,hs=>by
  obtain rfl:c=a:=by simpa using h
  simp only[j4,ff,hs]
 | c::l,i+1,a,b,h,hs=>by
  simp only[lr,ff];rw[Cq l i a b (by simpa using h) hs]
def Jg {P:Tr->Prop}:∀(l:List Tr) (i:Nat) (b:Tr),(∀z∈l.flatMap iM,P z)->(∀z∈iM b,P z)->∀z∈(l.set i b).flatMap iM,P z
 | [],_,_,_,_=>nofun
 | c::l,0,b,h,D=>λz A=>by
  rw[j4,fE] at A;rcases eQ.1 A with A|A
  ·exact D z A
  ·exact h z (by rw[fE];exact jI _ A)
 | c::l,i+1,b,h,D=>λz A=>by
  rw[lr,fE] at A;rcases eQ.1 A with A|A
  ·exact h z (by rw[fE];exact jH _ A)
  ·exact Jg l i b (λz A=>h z (by rw[fE];exact jI _ A)) D z A
def RN {l:List Tr}{a:Tr}(h:a∈l){z:Tr}(A:z∈iM a):z∈l.flatMap iM:=gJ.2 ⟨a,h,A⟩
def Cr {P:Tr->Prop}(h1:∀r s m u n sub D,D.map Tr.sq=sub.map Tr.sq->P (.mk r s m u n sub)->P (.mk r s m u n D)):∀(p:List Nat) (t:Tr),okP t p->(∀z∈iM t,P z)->P (goalT (atT t p).sq)->∀z∈iM (iF t p),P z
 | [],t,_,_,E=>λz A=>by
  rw[qy,pF] at A;simp only[List.flatMap_nil,eY] at A;rw[A]
  rwa [show atT t []=t by cases t;rfl] at E
 | i::p,.mk r s m u n sub,⟨a,h2,O⟩,h,E=>λz A=>by
  have G:=lMg h2;rw[pF] at h;have E:P (goalT (atT a p).sq):=by simpa only[atT,h2] using E
  have J:=Cr h1 p a O (λz A=>h z (.tail _ (RN G A))) E;rw[sB h2,pF] at A;rcases eK.1 A with rfl|A
  ·exact h1 _ _ _ _ _ sub _ (Cq sub i a _ h2 (yk p a)) (h _ (.head _))
  ·exact Jg sub i _ (λz A=>h z (.tail _ A)) J z A
def Jh:∀(l:List Tr)(i:Nat)(a b:Tr),l[i]?=some a->gk (l.set i b)+a.steps=gk l+b.steps
 | c::l,0,a,b,h=>by
  obtain rfl:c=a:=by simpa using h
  simp only[j4,gk];omega
 | c::l,i+1,a,b,h=>by
  have:=Jh l i a b (by simpa using h);simp only[lr,gk];omega
def yl (t:Tr):1<=t.steps:=by cases t;simp only[Tr.steps];omega
def Cs:∀(p:List Nat)(t:Tr),okP t p->(iF t p).steps<=t.steps
 | [],t,_=>by rw[qy];have:=yl t;simp only[Tr.steps,gk];omega
 | i::p,.mk r s m u n sub,⟨a,h1,h2⟩=>by
  have:=Cs p a h2;have:=Jh sub i a (iF a p) h1;rw[sB h1];simp only[Tr.steps];omega
def Ji (L:Sq->Nat×Nat):∀(l:List Tr) (i:Nat) (a b:Tr),l[i]?=some a->iU L (l.set i b)+gR L a=iU L l+gR L b
 | c::l,0,a,b,h=>by
  obtain rfl:c=a:=by simpa using h
  simp only[j4,qu];omega
 | c::l,i+1,a,b,h=>by
  have:=Ji L l i a b (by simpa using h);simp only[lr,qu];omega
def Jj (L:Sq->Nat×Nat){r:Nat}{s:Sq}{m:Fm}{u:Tm}{n:ByteArray}{sub A:List Tr}(h:A.map Tr.sq=sub.map Tr.sq):lstB L (.mk r s m u n A)=lstB L (.mk r s m u n sub):=by
 have hl:=eZ List.length h;rw[eP,eP] at hl;have:A.isEmpty=sub.isEmpty:=by cases sub<;>cases A<;>simp at hl<;>rfl
 unfold lstB;simp only[jN,this];rfl
def Jk (L:Sq->Nat×Nat):∀(p:List Nat) (t:Tr),okP t p->gR L (iF t p)+gR L (atT t p)=gR L t+(if (L (atT t p).sq).1=0 then 1 else 0)
 | [],t,_=>by
  rw[qy,show atT t []=t by cases t;rfl,sv];have:iU L []=0:=rfl;rw[this];by_cases h:(L t.sq).1=0
  ·rw[c_ (by unfold lstB;simp only[jN];rw[show (goalT t.sq).sq=t.sq from rfl,dEt h];rfl),c_ h];omega
  ·rw[a_ (by unfold lstB;rw[show (goalT t.sq).sq=t.sq from rfl,dEf h];simp),a_ h];omega
 | i::p,.mk r s m u n sub,⟨a,h1,h2⟩=>by
  have A:=Jk L p a h2;have hs:=Ji L sub i a (iF a p) h1;rw[sB h1,show atT (.mk r s m u n sub) (i::p)=atT a p by simp only[atT,h1],sv,sv,Jj L (Cq sub i a _ h1 (yk p a))];omega
def Jl:∀(l:List Tr)(i:Nat)(b:Tr),okTs l=true->okT b=true->okTs (l.set i b)=true
 | [],_,_,_,_=>rfl
 | c::l,0,b,h,A=>by
  simp only[okTs,bAt] at h;simp only[j4,okTs,h.2,A,Bool.and_self]
 | c::l,i+1,b,h,A=>by
  simp only[okTs,bAt] at h;simp only[lr,okTs,h.1,Jl l i b h.2 A,Bool.and_self]
def u_:∀ {l:List Tr}{i:Nat}{a:Tr},okTs l=true->l[i]?=some a->okT a=true
 | c::l,0,a,h,A=>by
  simp only[okTs,bAt] at h;obtain rfl:c=a:=by simpa using A
  exact h.1
 | c::l,i+1,a,h,A=>by
  simp only[okTs,bAt] at h;exact u_ h.2 (by simpa using A)
def Jm:∀(p:List Nat)(t:Tr),okP t p->okT t=true->okT (iF t p)=true
 | [],.mk r s m u n sub,_,h=>by
  rw[qy];simp only[okT,bAt,lQ] at h ⊢;exact⟨⟨⟨⟨h.1.1.1.1,by decide⟩,by decide⟩,by decide⟩,rfl⟩
 | i::p,.mk r s m u n sub,⟨a,h1,h2⟩,h=>by
  rw[sB h1];simp only[okT,bAt] at h ⊢;exact⟨h.1,Jl sub i _ h.2 (Jm p a h2 (u_ h.2 h1))⟩
def RO {ca:Nat}{r:Nat}{s:Sq}{m:Fm}{u:Tm}{n:ByteArray}{sub A:List Tr}(h:A.map Tr.sq=sub.map Tr.sq):iZ ca (.mk r s m u n A)=iZ ca (.mk r s m u n sub):=by
 have hl:=eZ List.length h;rw[eP,eP] at hl;have E:A.isEmpty=sub.isEmpty:=by cases sub<;>cases A<;>simp at hl<;>rfl
 have hs:shal (.mk r s m u n A)=shal (.mk r s m u n sub):=by
  simp only[shal];rw[show (A.map λp=>goalT p.sq)=(A.map Tr.sq).map goalT by rw[jn];rfl,h,jn];rfl
 have D:me (.mk r s m u n A)=me (.mk r s m u n sub):=by simp only[me,E]
 unfold iZ;rw[D,hs];rfl
def Jn {ca:Nat}{t:Tr}(h:iZ ca t=true):fT ca t.sq=true:=by
 unfold iZ at h;split at h
 ·exact h
 ·have hc:iC ca (shal t)=0:=by
   unfold jg at h;by_cases A:jL ca=true
   ·rw[A] at h;simp only[nD,bFt,et] at h;by_cases hs:300<(shal t).steps
    ·rw[c_ hs] at h;simp at h
    ·rw[a_ hs] at h;obtain⟨r,s,m,u,n,sub⟩:=t;by_cases h0:iC ca (shal (.mk r s m u n sub))=0
     ·exact h0
     ·simp only[shal,Tr.walk] at h h0;rw[g_,a_ h0] at h;simp[h0] at h
   ·simp only[Bool.not_eq_true] at A;rw[A] at h;simp at h
  obtain⟨r,s,m,u,n,sub⟩:=t;simp only[shal,iC] at hc;by_cases hv:fT ca s=true
  ·exact hv
  ·have:(ju ca s r m tmZ noN).2=190:=by unfold ju;simp only[Bool.not_eq_true] at hv;rw[hv];rfl
   rw[c_ (by rw[this];decide),this] at hc;cases hc
def Ct {ca:Nat}{t:Tr}(hs:t.steps<=300)(hc:ca=1\/ca=2):(hCk ca t).2=0↔∀z∈iM t,iZ ca z=true:=by
 unfold hCk;rw[c_ hc,a_ (by omega)];have key:∀w:List (List Nat×Tr),(g_ (badN ca) w).2=0↔∀q∈w,iZ ca q.2=true:=λw=>by
  induction w with
  | nil=>exact⟨λ_=>nofun,λ_=>rfl⟩
  | cons q w G =>
   obtain⟨p,z⟩:=q;rw[g_];by_cases A:iZ ca z=true
   ·rw[c_ (by unfold badN;rw[c_ A]),G];exact⟨λh q D=>(eK.1 D).elim (λe=>by rw[e];exact A) (h q),λh q D=>h q (.tail _ D)⟩
   ·have E:badN ca z=270:=by unfold badN;rw[a_ A]
    rw[a_ (by rw[E];decide)];exact⟨λh=>(by rw[E] at h;cases h),λh=>(A (h (p,z) (.head _))).elim⟩
 rw[key];exact⟨λh z A=>by
  obtain⟨p,hp⟩:=IN A;exact h _ hp,λh q D=>h q.2 (eh.2 ⟨q,D,rfl⟩)⟩
def RP {ca:Nat}(hc:ca=1\/ca=2){t:Tr}(hs:t.steps<=300){p:List Nat}(hp:okP t p)(h:(hCk ca t).2=0):(hCk ca (iF t p)).2=0:=by
 have h:=(Ct hs hc).1 h;exact (Ct (eM (Cs p t hp) hs) hc).2 (Cr (P:=λz=>iZ ca z=true) (λr s m u n sub A D k=>by rw[RO D];exact k) p t hp h (qw (Jn (h _ (qt hp)))))
def Cu {g:Nat->Tr->Option Tr}:∀(k:Nat) (l A:List Tr),A.length=l.length->(∀(i:Nat) (z:Tr),l[i]?=some z->∃y,A[i]?=some y/\g (k+i) z=some y)->visL g k l=some A
 | k,[],[],_,_=>rfl
 | k,a::l,b::A,hl,h=>by
  obtain⟨y,h1,h2⟩:=h 0 a rfl;obtain rfl:b=y:=by simpa using h1
  have:=Cu (g:=g) (k+1) l A (by simpa using hl) λi z D=>by
   obtain⟨y,G,E⟩:=h (i+1) z (by simpa using D);exact⟨y,by simpa using G,by rw[show k+1+i=k+(i+1) by omega];exact E⟩
  rw[visL,this,show g k a=some b from h2]
def Cv {g:Tr->Bool->List Nat->Option Tr}{o:Bool}{pl:List Nat}{r:Nat}{s:Sq}{m:Fm}{u:Tm}{nm:ByteArray}{sub rs:List Tr}(h:lQ s m u nm=true)(hs:sub.length<=1000000)(hv:visL (visG g o pl) 0 sub=some rs):visB g o pl (.mk r s m u nm sub)=some (.mk r s m u nm rs):=by
 unfold lQ at h;simp only[bAt,dTe,mg,decide_eq_false_iff_not] at h;have h1:=rS s.l;have h2:=rS s.r;have D:=G5 m;have A:=G4 u;rw[visB,dEt (by omega),dEt (by omega),dEt (by omega),dEt (by omega),dEt hs];simp only[Bool.and_self,el,hv,fK]
def Jo (l:List Tr):l.length<=gk l:=by
 induction l with
 | nil=>exact fe _
 | cons a l A=>have:=yl a;simp only[fa,gk];omega
def Jp (f:Tr->Tr):∀(n:Nat) (t:Tr),okT t=true->t.steps<=n->n<=1000000->visF f n t false []=some t
 | 0,t,_,h,_=>by have:=yl t;omega
 | n+1,.mk r s m u nm sub,D,h,E=>by
  simp only[okT,bAt] at D;simp only[Tr.steps] at h;rw[visF,a_ (by simp)];refine Cv D.1 (by have:=Jo sub;omega) (Cu 0 sub sub rfl λi z A=>⟨z,A,?_⟩);rw[visG,a_ (by simp)];exact Jp f n z (u_ D.2 A) (by have:=oG (lMg A);omega) (by omega)
def Jq:∀(p:List Nat)(n:Nat)(t:Tr),okP t p->okT t=true->t.steps<=n->n<=1000000->visF uZ n t true p=some (iF t p)
 | p,0,t,_,_,h,_=>by have:=yl t;omega
 | [],n+1,.mk r s m u nm sub,_,A,h,G=>by
  simp only[okT,bAt] at A;have h1:=A.1;unfold lQ at h1;simp only[bAt] at h1;rw[visF,c_ ⟨rfl,rfl⟩,qy];exact Cv (by show lQ s fm0 tmZ noN=true;unfold lQ;rw[h1.1.1.1];decide) (fe _) rfl
 | i::p,n+1,.mk r s m u nm sub,⟨a,h1,h2⟩,A,h,G=>by
  simp only[okT,bAt] at A;simp only[Tr.steps] at h;rw[visF,a_ (by simp),sB h1];refine Cv A.1 (by have:=Jo sub;omega) (Cu 0 sub _ (by rw[lj]) λk z D=>?_);have hzs:=oG (lMg D);rw[eT];by_cases E:k=i
  ·subst E;rw[h1] at D;obtain rfl:a=z:=by simpa using D
   refine⟨iF a p,by rw[List.getElem?_set_self (lGs h1).1],?_⟩;rw[visG,c_ ⟨rfl,rfl⟩];exact Jq p n a h2 (u_ A.2 h1) (by omega) (by omega)
  ·refine⟨z,by rw[List.getElem?_set_ne (λe=>E e.symm)];exact D,?_⟩;rw[visG,a_ (λe=>E (by have:=e.2;simpa using this.symm))];exact Jp uZ n z (u_ A.2 D) (by omega) (by omega)
end Go.Proofs.Tryz
namespace Go.Proofs.Tryz
open Go Go.Iv
set_option maxRecDepth 4000
variable (gl:Nat->Option IV)
def Jr (L:Sq->Nat×Nat)(t:Tr):gR L t<=t.steps:=by
 unfold gR iM;refine eM (kB ..) ?_;rw[eP,uF];exact eu _
def Cw (L:Sq->Nat×Nat):∀l:List Tr,iU L l<=gk l
 | []=>fe _
 | a::l=>by have:=Jr L a;have:=Cw L l;rw[qu,gk];omega
def LsOk.sub {L:Sq->Nat×Nat}{ca r:Nat}{s:Sq}{m:Fm}{u:Tm}{n:ByteArray}{sub:List Tr}(h:LsOk gl L ca (.mk r s m u n sub)){a:Tr}(D:a∈sub):LsOk gl L ca a:=λz A=>h z (by
 rw[pF];exact .tail _ (gJ.2 ⟨a,D,A⟩))
def Js {L:Sq->Nat×Nat}{r:Nat}{s:Sq}{m:Fm}{u:Tm}{n:ByteArray}{sub:List Tr}(h:¬ (r=0/\sub=[])):lstB L (.mk r s m u n sub)=false:=by
 unfold lstB;rw[show jN (.mk r s m u n sub)=false by
  simp only[jN];by_cases h0:r=0
  ·cases sub with
   | nil=>exact absurd ⟨h0,rfl⟩ h
   | cons a l=>simp
  ·simp[h0]]
 rfl
def lwC (L:Sq->Nat×Nat)(ca:Nat)(t:Tr):Prop:=∀(x:IV) (_:IsTr t x) (_:LsOk gl L ca t) (_:t.steps<=1000000) (st:ISt),
 ICall prog gl 9 [.raw (.int .u8 (ca:Int)),x] st (λr st'=>(∃b:Bool,(b=true↔lP L t)/\r=.tup [(gR L t:Int),b])/\st'=st)
def RU (L:Sq->Nat×Nat)(ca:Nat)(rule:Nat)(s:Sq)(f:Fm)(u:Tm)(n:ByteArray)(sub:List Tr)(IH:∀a∈sub,lwC gl L ca a):lwC gl L ca (.mk rule s f u n sub):=by
 intro x hx hL hs st;have ak:=hL _ (yb _);obtain⟨tl,xl,tr,xr,op,fn,ta,xa,tb,xb,v,un,tu,xu,ts,xs,rfl,ba,e1,i1,e2,i2,hy,O,e3,i3⟩:=hx.mk;have ak:=λst=>ak _ st ⟨tl,xl,tr,xr,rfl,e1,i1,e2,i2⟩;simp only[Tr.steps] at hs;refine iI func9 ?_;by_cases ho:rule=0/\sub=[]
 ·obtain⟨rfl,rfl⟩:=ho;have aI:xs=[]:=fw i3.len;subst aI;simp only[go_sem,zE,zA,zL,reduceCtorEq,show decide (((0:Nat):Int)=0)=true from rfl];refine (ak _).q ?_;have hn:iM (.mk 0 s f u n [])=[.mk 0 s f u n []]:=by rw[pF];rfl
  have hq:iU L []=0:=rfl;by_cases h0:(L s).1=0
  ·have hl:lstB L (.mk 0 s f u n [])=true:=by unfold lstB;rw[show (Tr.mk 0 s f u n []).sq=s from rfl,dEt h0];rfl
   have d0:decide (((L s).1:Int)=0)=true:=dEt (by omega);have hN:gR L (.mk 0 s f u n [])=1:=by rw[sv,c_ hl,hq]
   simp only[go_sem,zE,Tr.sq,d0];refine dw ⟨⟨_,?_,by rw[hN];rfl⟩,rfl⟩;rw[dTe];unfold lP;rw[hn];constructor
   ·intro h z O _;rw[eY.1 O];show (L s).2=0;omega
   ·intro h;have:(L s).2=0:=h _ (.head _) hl;omega
  ·have hl:lstB L (.mk 0 s f u n [])=false:=by unfold lstB;rw[show (Tr.mk 0 s f u n []).sq=s from rfl,dEf h0];simp
   have d0:decide (((L s).1:Int)=0)=false:=dEf (by omega);have hN:gR L (.mk 0 s f u n [])=0:=by rw[sv,a_ (by rw[hl];simp),hq]
   simp only[go_sem,zE,Tr.sq,d0];refine dw ⟨⟨true,⟨λ_ z O h=>?_,λ_=>rfl⟩,by rw[hN];rfl⟩,rfl⟩;rw[hn] at O;rw[eY.1 O,hl] at h;cases h
 have hl:=Js (L:=L) (s:=s) (m:=f) (u:=u) (n:=n) ho;have hN:gR L (.mk rule s f u n sub)=iU L sub:=by rw[sv,a_ (by rw[hl];simp)];omega
 have hK:lP L (.mk rule s f u n sub)↔∀a∈sub,lP L a:=by
  unfold lP;rw[pF];constructor
  ·intro h a U z O;exact h z (.tail _ (gJ.2 ⟨a,U,O⟩))
  ·intro h z O ah;rcases eK.1 O with rfl|O
   ·rw[hl] at ah;cases ah
   ·obtain⟨a,U,O⟩:=gJ.1 O;exact h a U z O ah
 have aj:(decide ((rule:Int)=0)=false)\/(decide ((rule:Int)=0)=true/\decide ((sub.length:Int)=0)=false):=by
  by_cases h0:rule=0
  ·refine .inr ⟨dEt (by omega),dEf λh=>ho ⟨h0,fw (by omega)⟩⟩
  ·exact .inl (dEf (by omega))
 rcases aj with hc|⟨hc,aN⟩
 ·simp only[go_sem,zE,zA,hc]
  try intro _
  refine dC sub.length (λk fr st' ds=>fr 8=(iU L (sub.take k):Int)/\(∃b:Bool,fr 9=b/\(b=true↔∀a∈sub.take k,lP L a))/\fr 0=.iv (.raw (.int .u8 (ca:Int))) /\
   fr 3=.box [.raw (.int .u8 rule),.sl tl xl,.sl tr xr,.raw (.int .u8 op),fn,.sl ta xa,.sl tb xb,v,un,.sl tu xu,n,.sl ts xs]/\fr 10=.iv (.raw (.int .i64 k))/\st'=st/\ds=[]) ?_ ?_ ?_
  ·simp only[go_sem,zE,reduceCtorEq];exact⟨rfl,⟨true,rfl,λ_ _ h=>h.elim,λ_=>rfl⟩,rfl⟩
  ·rintro k fr af _ D ⟨f8,⟨b,f9,hb⟩,f0,f3,f10,rfl,rfl⟩;obtain⟨a,U⟩:=ed D;obtain⟨z,ai,ab⟩:=i3.get U;have J:=lMg U;have aJ:=oG J;have E:=λst=>IH a J z ab (hL.sub gl J) (by omega) st;have hq:iU L (sub.take (k+1))=iU L (sub.take k)+gR L a:=by rw[en U,Cc,qu];rfl
   have aL:=Cw L (sub.take (k+1));have aK:=Ci sub (k+1);have ac:IntKind.i64.wrap ((iU L (sub.take k):Int)+(gR L a:Int))=(iU L (sub.take (k+1)):Int):=by rw[hq];exact w64 (by omega) (by omega)
   have A:∀b':Bool,(b'=true↔lP L a)->((b&&b')=true↔∀a∈sub.take (k+1),lP L a):=λb' G=>by
    rw[bAt,hb,G,en U];simp only[eQ,eY];exact⟨λh c hc=>hc.elim (h.1 c) λe=>e▸h.2,λh=>⟨λc hc=>h c (.inl hc),h a (.inr rfl)⟩⟩
   obtain⟨ag,aD,aw,aC,au,aH,aQ,aF,ay,aE,ax,v',az,aA,an,n',aB,ao,rfl⟩:=fY ab;simp only[go_sem,zE,zB,zA,reduceCtorEq,f0,f3,f10,i3.len,lt_i D,ec e3,iNn,ai,fits];intro _;refine (E _).mono ?_;rintro _ aG ⟨⟨b',G,rfl⟩,rfl⟩;have A:=A b' G;cases b
   ·simp only[go_sem,zE,reduceCtorEq,f0,f3,f8,f9,f10,ac,ek D (by omega)];exact⟨false,rfl,A⟩
   ·simp only[go_sem,zE,reduceCtorEq,f0,f3,f8,f9,f10,ac,ek D (by omega)];exact⟨b',rfl,A⟩
  ·rintro fr af _ ⟨f8,⟨b,f9,hb⟩,f0,f3,f10,rfl,rfl⟩;rw[lTl] at f8 hb;simp only[go_sem,zE,f3,f8,f9,f10,i3.len,eI (nLi _)];intro _;exact dw ⟨⟨b,hb.trans hK.symm,by rw[hN]⟩,rfl⟩
 ·simp only[go_sem,zE,i3.len,hc,aN]
  try intro _
  refine dC sub.length (λk fr st' ds=>fr 8=(iU L (sub.take k):Int)/\(∃b:Bool,fr 9=b/\(b=true↔∀a∈sub.take k,lP L a))/\fr 0=.iv (.raw (.int .u8 (ca:Int))) /\
   fr 3=.box [.raw (.int .u8 rule),.sl tl xl,.sl tr xr,.raw (.int .u8 op),fn,.sl ta xa,.sl tb xb,v,un,.sl tu xu,n,.sl ts xs]/\fr 10=.iv (.raw (.int .i64 k))/\st'=st/\ds=[]) ?_ ?_ ?_
  ·simp only[go_sem,zE,reduceCtorEq];exact⟨rfl,⟨true,rfl,λ_ _ h=>h.elim,λ_=>rfl⟩,rfl⟩
  ·rintro k fr af _ D ⟨f8,⟨b,f9,hb⟩,f0,f3,f10,rfl,rfl⟩;obtain⟨a,U⟩:=ed D;obtain⟨z,ai,ab⟩:=i3.get U;have J:=lMg U;have aJ:=oG J;have E:=λst=>IH a J z ab (hL.sub gl J) (by omega) st;have hq:iU L (sub.take (k+1))=iU L (sub.take k)+gR L a:=by rw[en U,Cc,qu];rfl
   have aL:=Cw L (sub.take (k+1));have aK:=Ci sub (k+1);have ac:IntKind.i64.wrap ((iU L (sub.take k):Int)+(gR L a:Int))=(iU L (sub.take (k+1)):Int):=by rw[hq];exact w64 (by omega) (by omega)
   have A:∀b':Bool,(b'=true↔lP L a)->((b&&b')=true↔∀a∈sub.take (k+1),lP L a):=λb' G=>by
    rw[bAt,hb,G,en U];simp only[eQ,eY];exact⟨λh c hc=>hc.elim (h.1 c) λe=>e▸h.2,λh=>⟨λc hc=>h c (.inl hc),h a (.inr rfl)⟩⟩
   obtain⟨ag,aD,aw,aC,au,aH,aQ,aF,ay,aE,ax,v',az,aA,an,n',aB,ao,rfl⟩:=fY ab;simp only[go_sem,zE,zB,zA,reduceCtorEq,f0,f3,f10,i3.len,lt_i D,ec e3,iNn,ai,fits];intro _;refine (E _).mono ?_;rintro _ aG ⟨⟨b',G,rfl⟩,rfl⟩;have A:=A b' G;cases b
   ·simp only[go_sem,zE,reduceCtorEq,f0,f3,f8,f9,f10,ac,ek D (by omega)];exact⟨false,rfl,A⟩
   ·simp only[go_sem,zE,reduceCtorEq,f0,f3,f8,f9,f10,ac,ek D (by omega)];exact⟨b',rfl,A⟩
  ·rintro fr af _ ⟨f8,⟨b,f9,hb⟩,f0,f3,f10,rfl,rfl⟩;rw[lTl] at f8 hb;simp only[go_sem,zE,f3,f8,f9,f10,i3.len,eI (nLi _)];intro _;exact dw ⟨⟨b,hb.trans hK.symm,by rw[hN]⟩,rfl⟩
def Jt (L:Sq->Nat×Nat)(ca:Nat):∀(k:Nat) (t:Tr),SizeOf.sizeOf t<k->lwC gl L ca t
 | 0,t,h=>by omega
 | k+1,.mk r sq f u n sub,h=>RU gl L ca r sq f u n sub (λa A=>Jt L ca k a (by
   have:=lSm A;simp at h;omega))
def Ju (L:Sq->Nat×Nat)(ca:Nat)(t:Tr):lwC gl L ca t:=Jt gl L ca _ t (fP _)
def RV {L:Sq->Nat×Nat}{r:Nat}{s:Sq}{m:Fm}{u:Tm}{n:ByteArray}{sub:List Tr}(h:¬ (r=0/\sub=[])):wayF L (.mk r s m u n sub)=((fJ [] 0 sub).find? λq=>lstB L q.2).map (·.1):=by
 unfold wayF;simp only[Tr.walk];rw[jG,Js h]
def ym (L:Sq->Nat×Nat)(a:Tr)(k:Nat):(a.walk [k]).find? (λq=>lstB L q.2)=((a.walk []).find? λq=>lstB L q.2).map λq=>(k::q.1,q.2):=by
 have:=AO [k] [] a;rw[fL] at this;rw[this,List.find?_map];rfl
def wyC (L:Sq->Nat×Nat)(ca:Nat)(t:Tr):Prop:=∀(x:IV) (_:IsTr t x) (_:LsOk gl L ca t) (_:t.steps<=1000000) (st:ISt),
 ICall prog gl 16 [.raw (.int .u8 (ca:Int)),x] st (λr st'=>((wayF L t=none/\r=.tup [(),false])\/∃p,wayF L t=some p/\p.length<=t.steps/\∃A,okEs A 1/\r=.tup [.sl A (plI p),true])/\st'=st)
def RW (L:Sq->Nat×Nat)(ca:Nat)(rule:Nat)(s:Sq)(f:Fm)(u:Tm)(n:ByteArray)(sub:List Tr)(IH:∀a∈sub,wyC gl L ca a):wyC gl L ca (.mk rule s f u n sub):=by
 intro x hx hL hs st;have an:=hL _ (yb _);obtain⟨tl,xl,tr,xr,op,fn,ta,xa,tb,xb,v,un,tu,xu,ts,xs,rfl,bc,e1,i1,e2,i2,hy,hz,e3,i3⟩:=hx.mk;have an:=λst=>an _ st ⟨tl,xl,tr,xr,rfl,e1,i1,e2,i2⟩;simp only[Tr.steps] at hs;refine iI func16 ?_;by_cases ho:rule=0/\sub=[]
 ·obtain⟨rfl,rfl⟩:=ho;have aJ:xs=[]:=fw i3.len;subst aJ;simp only[go_sem,zE,zA,zL,reduceCtorEq,show decide (((0:Nat):Int)=0)=true from rfl];refine (an _).q ?_;have hw:wayF L (.mk 0 s f u n [])=if lstB L (.mk 0 s f u n [])=true then some [] else none:=by
   unfold wayF;simp only[Tr.walk,fJ,jG];cases lstB L (.mk 0 s f u n [])<;>rfl
  by_cases h0:(L s).1=0
  ·have hl:lstB L (.mk 0 s f u n [])=true:=by unfold lstB;rw[show (Tr.mk 0 s f u n []).sq=s from rfl,dEt h0];rfl
   have d0:decide (((L s).1:Int)=0)=true:=dEt (by omega);rw[hl,c_ rfl] at hw;simp only[go_sem,zE,Tr.sq,d0];exact dw ⟨.inr ⟨[],hw,fe _,⟨true,.nil,0⟩,.inl rfl,rfl⟩,rfl⟩
  ·have hl:lstB L (.mk 0 s f u n [])=false:=by unfold lstB;rw[show (Tr.mk 0 s f u n []).sq=s from rfl,dEf h0];simp
   have d0:decide (((L s).1:Int)=0)=false:=dEf (by omega);rw[hl,a_ (by simp)] at hw;simp only[go_sem,zE,Tr.sq,d0];exact dw ⟨.inl ⟨hw,rfl⟩,rfl⟩
 have hw:=RV (L:=L) (s:=s) (m:=f) (u:=u) (n:=n) ho;have al:(decide ((rule:Int)=0)=false)\/(decide ((rule:Int)=0)=true/\decide ((sub.length:Int)=0)=false):=by
  by_cases h0:rule=0
  ·refine .inr ⟨dEt (by omega),dEf λh=>ho ⟨h0,fw (by omega)⟩⟩
  ·exact .inl (dEf (by omega))
 rcases al with hc|⟨hc,aQ⟩
 ·simp only[go_sem,zE,zA,hc]
  try intro _
  refine dC sub.length (λk fr st' ds=>(fJ [] 0 (sub.take k)).find? (λq=>lstB L q.2)=none/\fr 0=.iv (.raw (.int .u8 (ca:Int))) /\
   fr 3=.box [.raw (.int .u8 rule),.sl tl xl,.sl tr xr,.raw (.int .u8 op),.raw (.string fn),.sl ta xa,.sl tb xb,.raw (.bool v),.raw (.string un),.sl tu xu,.raw (.string n),.sl ts xs]/\fr 8=.iv (.raw (.int .i64 k))/\st'=st/\ds=[]) ?_ ?_ ?_
  ·simp only[go_sem,zE,reduceCtorEq];exact⟨rfl,rfl⟩
  ·rintro k fr ag _ J ⟨D,f0,f3,f8,rfl,rfl⟩;obtain⟨a,ha⟩:=ed J;obtain⟨z,aj,aa⟩:=i3.get ha;have U:=lMg ha;have aL:=oG U;have O:=λst=>IH a U z aa (hL.sub gl U) (by omega) st;have ac:(fJ [] 0 (sub.take (k+1))).find? (λq=>lstB L q.2)=(a.walk [k]).find? (λq=>lstB L q.2):=by
    rw[en ha,mS,iO,D,eO,ly (by omega),eT];simp only[fJ,f_,fL];rfl
   obtain⟨ah,aE,ax,aD,av,aI,aT,aG,az,aF,ay,v',aA,aB,ao,n',aC,aq,rfl⟩:=fY aa;simp only[go_sem,zE,zB,zA,reduceCtorEq,f0,f3,f8,i3.len,lt_i J,ec e3,iNn,aj,fits];intro _;refine (O _).mono ?_;rintro _ aH ⟨⟨A,rfl⟩|⟨p,A,ai,tg,aK,rfl⟩,rfl⟩
   ·simp only[go_sem,zE,reduceCtorEq,f0,f3,f8,ek J (by omega)];rw[ac,ym];unfold wayF at A;rw[Option.map_eq_none_iff] at A;rw[A];rfl
   ·obtain⟨q,hq,rfl⟩:=ga.1 A;have G:wayF L (.mk rule s f u n sub)=some (k::q.1):=by
     rw[hw,<- fh (k+1) sub,mS,iO,ac,ym,hq];rfl
    have E:(k::q.1).length<=(Tr.mk rule s f u n sub).steps:=by simp only[fa,Tr.steps];omega
    obtain⟨p,z⟩:=q;simp only at G E ai;have ak:p.length+1<=1000000:=eM E (by simp only[Tr.steps];omega);simp only[go_sem,zE,zA,zM,zL,f8,fits,fg];cases p with
    | nil =>
     rw[show plI []=([]:List IV) from rfl,wI];refine gp rfl (gp (by simp only[fa,fb];omega) (gp rfl ?_));simp only[go_sem,zE];exact dw ⟨.inr ⟨_,G,E,_,.inr rfl,rfl⟩,rfl⟩
    | cons i p =>
     have af:(plI (i::p)).all (fits false 1)=true:=by simp[plI,fits,IV.one]
     have ae:=iX (i::p);rw[show plI (i::p)=.raw (.int .i64 (i:Int))::plI p from rfl] at af ae ⊢;rw[CS];refine gp af (gp (by simp only[fa,fb] at ae ak ⊢;omega) (gp rfl λg'=>fc λhg=>?_));simp only[go_sem,zE];exact fN (gj hg) ⟨.inr ⟨_,G,E,_,.inr rfl,rfl⟩,rfl⟩
  ·rintro fr ag _ ⟨D,f0,f3,f8,rfl,rfl⟩;rw[lTl] at D;rw[D] at hw;simp only[go_sem,zE,f3,f8,i3.len,eI (nLi _)];intro _;exact dw ⟨.inl ⟨hw,rfl⟩,rfl⟩
 ·simp only[go_sem,zE,i3.len,hc,aQ]
  try intro _
  refine dC sub.length (λk fr st' ds=>(fJ [] 0 (sub.take k)).find? (λq=>lstB L q.2)=none/\fr 0=.iv (.raw (.int .u8 (ca:Int))) /\
   fr 3=.box [.raw (.int .u8 rule),.sl tl xl,.sl tr xr,.raw (.int .u8 op),.raw (.string fn),.sl ta xa,.sl tb xb,.raw (.bool v),.raw (.string un),.sl tu xu,.raw (.string n),.sl ts xs]/\fr 8=.iv (.raw (.int .i64 k))/\st'=st/\ds=[]) ?_ ?_ ?_
  ·simp only[go_sem,zE,reduceCtorEq];exact⟨rfl,rfl⟩
  ·rintro k fr ag _ J ⟨D,f0,f3,f8,rfl,rfl⟩;obtain⟨a,ha⟩:=ed J;obtain⟨z,aj,aa⟩:=i3.get ha;have U:=lMg ha;have aL:=oG U;have O:=λst=>IH a U z aa (hL.sub gl U) (by omega) st;have ac:(fJ [] 0 (sub.take (k+1))).find? (λq=>lstB L q.2)=(a.walk [k]).find? (λq=>lstB L q.2):=by
    rw[en ha,mS,iO,D,eO,ly (by omega),eT];simp only[fJ,f_,fL];rfl
   obtain⟨ah,aE,ax,aD,av,aI,aT,aG,az,aF,ay,v',aA,aB,ao,n',aC,aq,rfl⟩:=fY aa;simp only[go_sem,zE,zB,zA,reduceCtorEq,f0,f3,f8,i3.len,lt_i J,ec e3,iNn,aj,fits];intro _;refine (O _).mono ?_;rintro _ aH ⟨⟨A,rfl⟩|⟨p,A,ai,tg,aK,rfl⟩,rfl⟩
   ·simp only[go_sem,zE,reduceCtorEq,f0,f3,f8,ek J (by omega)];rw[ac,ym];unfold wayF at A;rw[Option.map_eq_none_iff] at A;rw[A];rfl
   ·obtain⟨q,hq,rfl⟩:=ga.1 A;have G:wayF L (.mk rule s f u n sub)=some (k::q.1):=by
     rw[hw,<- fh (k+1) sub,mS,iO,ac,ym,hq];rfl
    have E:(k::q.1).length<=(Tr.mk rule s f u n sub).steps:=by simp only[fa,Tr.steps];omega
    obtain⟨p,z⟩:=q;simp only at G E ai;have ak:p.length+1<=1000000:=eM E (by simp only[Tr.steps];omega);simp only[go_sem,zE,zA,zM,zL,f8,fits,fg];cases p with
    | nil =>
     rw[show plI []=([]:List IV) from rfl,wI];refine gp rfl (gp (by simp only[fa,fb];omega) (gp rfl ?_));simp only[go_sem,zE];exact dw ⟨.inr ⟨_,G,E,_,.inr rfl,rfl⟩,rfl⟩
    | cons i p =>
     have af:(plI (i::p)).all (fits false 1)=true:=by simp[plI,fits,IV.one]
     have ae:=iX (i::p);rw[show plI (i::p)=.raw (.int .i64 (i:Int))::plI p from rfl] at af ae ⊢;rw[CS];refine gp af (gp (by simp only[fa,fb] at ae ak ⊢;omega) (gp rfl λg'=>fc λhg=>?_));simp only[go_sem,zE];exact fN (gj hg) ⟨.inr ⟨_,G,E,_,.inr rfl,rfl⟩,rfl⟩
  ·rintro fr ag _ ⟨D,f0,f3,f8,rfl,rfl⟩;rw[lTl] at D;rw[D] at hw;simp only[go_sem,zE,f3,f8,i3.len,eI (nLi _)];intro _;exact dw ⟨.inl ⟨hw,rfl⟩,rfl⟩
def Jv (L:Sq->Nat×Nat)(ca:Nat):∀(k:Nat) (t:Tr),SizeOf.sizeOf t<k->wyC gl L ca t
 | 0,t,h=>by omega
 | k+1,.mk r sq f u n sub,h=>RW gl L ca r sq f u n sub (λa A=>Jv L ca k a (by
   have:=lSm A;simp at h;omega))
def RX (L:Sq->Nat×Nat)(ca:Nat)(t:Tr):wyC gl L ca t:=Jv gl L ca _ t (fP _)
