/- Walks: the tree of a tableau. -/
import Derived.Test.YtopmhkmegkpkdaaGreatDoorQE
set_option linter.all false
open Nat renaming reduceEqDiff → zE,reduceBEq → zB,reduceAdd → zA,reduceMul → zM,reduceLeDiff → zL
namespace Go.Proofs.Tryz
open Go Go.Iv
set_option maxRecDepth 4000
variable (gl:Nat->Option IV)
def ux (l:List Mk):∀ {qs:List (List Mk)} {ns:List Nd} {k:Nat} {q:List Mk} {n:Nd},qs[k]?=some q->ns[k]?=some n →
  gd l (qs.take (k+1)) (ns.take (k+1))=gd l (qs.take k) (ns.take k)++[gw (d_ l q) n]/\jE l (qs.take (k+1)) (ns.take (k+1))=(jE l (qs.take k) (ns.take k) || bigT (d_ l q) n)
 | q::qs,n::ns,0,_,_,h1,h2=>by
  simp only[fC,dL] at h1 h2;subst h1 h2;simp[gd,jE]
 | q::qs,n::ns,k+1,_,_,h1,h2=>by
  obtain⟨D,A⟩:=ux l (qs:=qs) (ns:=ns) (k:=k) (by simpa using h1) (by simpa using h2);simp only[kD,gd,jE,D,A,dX,Bool.or_assoc,and_self]
def uy {l:List Mk}{p:List Nat}:∀ {qs:List (List Mk)} {ns:List Nd} {i k:Nat} {q:List Mk} {n:Nd},(gN l p i qs ns).2=0->qs[k]?=some q->ns[k]?=some n->(fx (d_ l q) (p++[i+k]) n).2=0
 | q::qs,n::ns,i,0,_,_,h,h1,h2=>by
  simp only[fC,dL] at h1 h2;subst h1 h2;rw[gN] at h;split at h
  ·exact h
  ·rename_i A;simpa using A
 | q::qs,n::ns,i,k+1,_,_,h,h1,h2=>by
  rw[gN] at h;split at h
  ·rename_i A;exact absurd h A
  ·have:=uy (k:=k) h (by simpa using h1) (by simpa using h2)
   rwa [show i+1+k=i+(k+1) by omega] at this
def ze {B:Nat}:∀ {l:List Fm},(∀f∈l,f.size<=B)->dt l<=l.length*B
 | [],_=>fQ _
 | a::l,h=>by
  have h1:=h a (by simp);have h2:=ze (l:=l) λf A=>h f (by simp[A]);simp only[dt,eG,ek,jt];omega
def F0 (b:Bool)(l:List Mk):(eC b l).length<=l.length:=by
 rw[eC,gj];exact iW ..
def F1 {l:List Mk}(h:∀m∈l,m.f.size<=300)(E:l.length<=1000)(b:Bool):dt (eC b l)<=1000000:=by
 have h1:=ze (B:=300) (l:=eC b l) λf D=>by
  obtain⟨m,A,_,rfl⟩:=yJ1.1 D;exact h m A
 have h2:=F0 b l;have:(eC b l).length*300<=1000*300:=ec _ (by omega);omega
def zf:∀ {l:List Tr}{A:List IV},IsTrs l A->∀x∈A,x.cells.length=12
 | [],A,h,x,hx=>by simp only[IsTrs] at h;subst h;cases hx
 | a::l,A,h,x,hx=>by
  simp only[IsTrs] at h;obtain⟨y,ys,rfl,hy,h⟩:=h;rcases dC.1 hx with rfl|hx
  ·obtain⟨D,ah,aa,E,W,ak,an,aj,ac,ai,ab,v',ae,af,O,n',ag,U,rfl⟩:=gg hy;rfl
  ·exact zf h x hx
def F4:∀ {l:List Tr}{A:List IV}{z:IV},IsTrs l A->z∈A->∃t,IsTr t z
 | [],A,z,h,hx=>by simp only[IsTrs] at h;subst h;cases hx
 | a::l,A,z,h,hx=>by
  simp only[IsTrs] at h;obtain⟨y,ys,rfl,D,h⟩:=h;rcases dC.1 hx with rfl|hx
  ·exact⟨a,D⟩
  ·exact F4 h hx
mutual
def F5:∀ {t:Tr}{x:IV},IsTr t x->IsTr t (age x)
 | .mk rule s f u n sub,x,h=>by
  simp only[IsTr] at h;obtain⟨tl,xl,tr,xr,op,fn,ta,xa,tb,xb,v,un,tu,xu,ts,xs,rfl,O,e1,i1,e2,i2,U,E,W,i3⟩:=h;have D:=U.aged;have A:=E.aged;simp only[age,ages] at D A ⊢;simp only[IsTr];exact⟨_,_,_,_,_,_,_,_,_,_,_,_,_,_,_,_,rfl,O,jJ e1,IsFms.aged i1,jJ e2,IsFms.aged i2,D,A,jJ W,zg i3⟩
def zg:∀ {l:List Tr}{A:List IV},IsTrs l A->IsTrs l (ages A)
 | [],A,h=>by simp only[IsTrs] at h;subst h;rfl
 | a::l,A,h=>by
  simp only[IsTrs] at h;obtain⟨y,ys,rfl,D,h⟩:=h;simp only[ages,IsTrs];exact⟨_,_,rfl,F5 D,zg h⟩
end
def uz (n:Nd):Prop:=∀(z:IV) (_:IsNd n z) (l:List Mk) (p:List Nat) (_:(fx l p n).2=0) (_:GoodT l) (_:∀m∈l,m.f.size<=300) (_:l.length+2*n.nodes<=1000) (t:Tag) (U:List IV) (_:okEs t 6) (_:IsMks l U)
 (st:ISt) (E O:Nat) (D:Bool) (es:List (Value×IV)) (_:st E=some (.box (wrI O D))) (_:st O=some (.map .sg es)) (_:sc es),
 ICall prog gl 37 [z,.sl t U,.fn (.func 39) [ptrI E] [],.fn (.func 40) [ptrI E] []] st
  (λr st'=>∃tr A,(IsTr tr r/\dfr r)/\A=(D || bigT l n)/\(A=false->tr=gw l n)/\st'=st.put E (some (.box (wrI O A))))
def Pp (m:Mk)(c:Bool)(w:Int)(sub:List Nd)(IH:∀a∈sub,uz gl a):uz gl (.mk m c w sub):=by
 intro z hz l p O ai W bc t xs ht aZ st c0 rb U es h0 hb ba;have aX:=hz;have b0:=mG sub;simp only[Nd.nodes] at bc;have bf:c0≠rb:=λh=>by rw[h,hb] at h0;cases h0
 have bH:=O;rw[fx] at O;have a1:j9 l m c w sub.length=0:=by
  split at O
  ·rename_i h;exact absurd O h
  ·rename_i h;simpa using h
 rw[a_ (by rw[a1];decide)] at O;obtain⟨am,b1,ao,rfl,E⟩:=oZ a1;obtain⟨aL,bs⟩:=ai m am;have a8:m.f.op<=7:=by
  have h4:=(yWf.1 aL).2.2.2;obtain⟨mi,mw,⟨o,n,us,sb⟩⟩:=m;simp only[opsB,bAt,dTe] at h4;show o<=7;simpa using h4.1.1.2
 obtain⟨v1,w1,o1,n1,t1,y1,t2,y2,c1,w2,t3,y3,rfl⟩:=fG hz;clear hz;refine sj ?_;refine ICall.intro (c:=cf prog gl [23] []) func37 rfl (by show _<=48;simp) (by kernel_rfl) ?_;simp only[go_sem,zE,zA,zL];refine (Pj gl _ l t xs ht aZ m c 0 sub _ aX (λhc=>⟨a8,ao hc,by rw[E,hc];rfl⟩) (λhc=>fX.1 (by rw[E,hc];rfl)) (by have:=W m am;omega) (by omega) _).mono ?_;rintro _ st ⟨ts,zs,tq,qs,rfl,e3,i3,eq,iq,rfl⟩;have bo:=i3.len;have bY:(si l m c).length=sub.length:=by
  unfold si;rw[E];cases c<;>simp
 simp only[go_sem,zE,zA];intro _;refine gv ⟨by omega,by omega,by omega⟩ λg=>eB λhg=>?_;have aa:g≠c0:=λh=>by rw[h,h0] at hg;cases hg
 have bd:g≠rb:=λh=>by rw[h,hb] at hg;cases hg
 intro _;refine cV sub.length (λk fr st' ds=>(∃cs zt tt mk,st'=(st.put c0 (some (.box (wrI rb mk)))).put g (some (.box cs))/\cs.length=sub.length*12/\cs.take (k*12)=zt.flatMap IV.cells/\IsTrs tt zt/\dfrs zt/\zt.length=k /\
   mk=(U || jE l ((dY m 0).take k) (sub.take k))/\(mk=false->tt=gd l ((dY m 0).take k) (sub.take k))) /\
  fr 1=.iv (.sl t xs)/\fr 2=.iv (.fn (.func 39) [ptrI c0] [])/\fr 3=.iv (.fn (.func 40) [ptrI c0] [])/\fr 4=.box [v1,w1,.raw (.int .u8 o1),n1,.sl t1 y1,.sl t2 y2,c1,w2,.sl t3 y3]/\fr 8=.box trZ /\
  fr 10=.iv (.sl tq qs)/\fr 11=.iv (.raw (.slice (some ⟨g,0,none⟩) sub.length sub.length))/\fr 24=.iv (.sl ts zs)/\fr 25=sub.length/\fr 26=.iv (.raw (.int .i64 k))/\ds=[]) ?_ ?_ ?_
 ·simp only[go_sem,zE,zM,bo];exact⟨⟨_,[],[],U,by rw[lj h0],by simp,rfl,rfl,trivial,rfl,by simp[jE],λ_=>rfl⟩,rfl,rfl⟩
 ·rintro k fr _ _ ah ⟨⟨cs,zt,tt,mk,rfl,be,aM,af,aJ,ae,an,ak⟩,f1,f2,f3,f4,f8,f10,f11,f24,f25,f26,rfl⟩;obtain⟨a,ha⟩:=dd ah;obtain⟨z,bt,hz⟩:=i3.get ha;have bg:=lMg ha;have bG:=kb bg;have bA:c=false:=by
   cases hq:c
   ·rfl
   ·rw[b_ hq] at E;omega
  subst bA;obtain⟨q,hq⟩:=dd (show k<(dY m 0).length by rw[a_ (by decide)] at E;omega);have bB:(si l m false)[k]?=some (d_ l q):=by simp[si,hq]
  obtain⟨tk,zk,bu,bC,bn⟩:=iq.get bB;have aK:=lMg hq;have bZ:=nt m 0 q aK;have b2:=ij q l;simp only[bFt,dJ] at O;have bw:GoodT (d_ l q):=ai.adds λx hx=>by
   obtain⟨h1,h2⟩:=(o_ aL (ao rfl) 0).2.2.1 q aK x hx;exact⟨h1,h2.trans bs⟩
  have bq:∀x∈d_ l q,x.f.size<=300:=λx hx=>(yVv.1 hx).elim (W x) λh=>eh (zd aL (ao rfl) 0 q aK x h) (W m am);have aN:=λbl h0 hb=>IH a bg z hz (d_ l q) _ (uy O hq ha) bw bq (by omega) tk zk bC bn bl c0 rb mk es h0 hb ba;obtain⟨v3,w3,o3,n3,t4,y4,t5,y5,c5,w5,t6,y6,rfl⟩:=fG hz;simp only[go_sem,zE,zB,zA,zL,f2,f3,f10,f11,f24,f25,f26,lt_i ah,dc e3,dc eq,iNn,bt,bu,fits];refine (aN _ (by rw[de aa.symm,cT]) (by rw[de bd.symm,de bf.symm];exact hb)).mono ?_;rintro r _ ⟨tr,ac,⟨aj,bp⟩,A,a7,rfl⟩;have a6:=aj;obtain⟨D,aF,az,ab,ay,aI,aO,aH,aB,aG,aA,v',aC,aD,aw,n',aE,ax,rfl⟩:=gg aj;simp only[go_sem,zE,zA,f1,f2,f3,f4,f8,f10,f11,f24,f25,f26,cT,de aa,df ah (by omega)];obtain⟨q1,q2⟩:=y_ (k:=k) (n:=sub.length) (s:=12) (new:=[.raw (.int .u8 D),.sl aF az,.sl ab ay,.raw (.int .u8 aI),aO,.sl aH aB,.sl aG aA,v',aC,.sl aD aw,n',.sl aE ax]) be ah rfl;obtain⟨e5,e6⟩:=ux l hq ha;rw[b_ ⟨by omega,ah⟩,b_ (by omega),uu aa,eZ,eZ];refine⟨_,zt++[.agg [.raw (.int .u8 D),.sl aF az,.sl ab ay,.raw (.int .u8 aI),aO,.sl aH aB,.sl aG aA,v',aC,.sl aD aw,n',.sl aE ax]],tt++[tr],ac,rfl,q1,?_,af.append ⟨_,_,rfl,a6,rfl⟩,pU aJ ⟨bp,trivial⟩,by simp[ae],?_,λh=>?_⟩
  ·rw[q2,aM,iu,lE];rfl
  ·rw[A,an,e6,Bool.or_assoc]
  ·rw[A] at h;rw[e5,ak (by simpa using (kx.1 h).1),a7 (by rw[A];exact h)]
 ·rintro fr _ _ ⟨⟨cs,zt,tt,mk,rfl,be,aM,af,aJ,ae,an,ak⟩,f1,f2,f3,f4,f8,f10,f11,f24,f25,f26,rfl⟩;simp only[go_sem,zE,zA,zL,f1,f3,f4,f11,f25,f26,dD (nLi _)];refine (Po gl c0 rb mk l t xs ht aZ m c 0 sub _ aX (λhc=>⟨a8,ao hc⟩) (by omega) (F1 W (by omega) true) (F1 W (by omega) false) (by have:=W m am;omega) g sub.length _ es (by rw[de aa.symm,cT]) (by rw[de bd.symm,de bf.symm];exact hb) ba).mono ?_;rintro r _ ⟨ac,A,hT,hF,rfl⟩;have hX:jE l ((dY m 0).take sub.length) (sub.take sub.length)=(!c&&jE l (dY m 0) sub)/\gd l ((dY m 0).take sub.length) (sub.take sub.length)=if c then [] else gd l (dY m 0) sub:=by
   rw[lTl];cases c
   ·simp only[bFt,dJ] at E;rw[gA (by omega)];exact⟨rfl,rfl⟩
   ·obtain rfl:=fX.1 (E.trans rfl);exact⟨rfl,rfl⟩
  rw[hX.1] at an;rw[hX.2] at ak;have au:ac=(U || bigT l (.mk m c 0 sub)):=by
   rw[A,an,bigT];cases U<;>cases decide (64<(eC true l).length)<;>cases decide (64<(eC false l).length)<;>cases (!c&&jE l (dY m 0) sub)<;>rfl
  rw[uu aa,eZ];have bh:(st.put c0 (some (.box (wrI rb ac)))) g=none:=by rw[de aa];exact hg
  cases ac
  ·obtain⟨tL,xL,tR,xR,o,n,t3,x3,t4,x4,rfl,ag⟩:=hF rfl;have bb:mk=false:=(kx.1 (kx.1 A.symm).1).1;simp only[go_sem,zE,zA,zL,f8,trZ,IV.one];refine cO (.inr ⟨[_,_,_,_,_,_,_,_,_,_,_],g,_,_,cs,12,zt,_,hg,bh,rfl,rfl,ae,by omega,dz _,by omega,aM,zf af,.mk (ji l m c) (sqT l) m.f tm0 bE tt,false,⟨ag.1 _ _ _ (.inr rfl) af,?_⟩,au,λ_=>?_,rfl⟩)
   ·rw[dfr];refine⟨pU ag.2.1 ⟨?_,trivial⟩,λx hx=>?_⟩
    ·rw[dfr];refine⟨.inr ⟨by simp[wkE],rfl,g,rfl⟩,aJ,λx hx=>?_⟩;obtain⟨z,hz,aY⟩:=iy.1 hx;obtain⟨tr,aj⟩:=F4 af hz;obtain⟨D,aF,az,ab,ay,aI,aO,aH,aB,aG,aA,v',aC,aD,aw,n',aE,ax,rfl⟩:=gg aj;simp only[IV.cells,dC,e_,eu] at aY;rcases aY with rfl|rfl|rfl|rfl|rfl|rfl|rfl|rfl|rfl|rfl|rfl|rfl<;>rfl
    ·rcases eX.1 hx with hx|hx
     ·exact ag.2.2 x hx
     ·rw[fD.1 hx];rfl
   ·rw[gw,ak bb]
  ·have h:=hT rfl;subst h;have z0:=uw;have z1:=FY;unfold trZ at z0 z1;simp only[go_sem,zE,zA,zL,f8,trZ];exact dZ (fj bh) (.inl ⟨tr0,true,⟨z0,z1⟩,au,(λh=>nomatch h),rfl⟩)
def F6:∀(k:Nat)(n:Nd),SizeOf.sizeOf n<k->uz gl n
 | 0,_,h=>absurd h (by omega)
 | k+1,.mk m c w sub,h=>Pp gl m c w sub λa A=>F6 k a (by have:=lSm A;simp only[Nd.mk.sizeOf_spec] at h;omega)
def Pq (n:Nd):uz gl n:=F6 gl _ n (dM _)
end Go.Proofs.Tryz
namespace Go.Iv
open Go
def apart (t u:Tag):Prop:=∀g,t.cap=.app g->u.cap≠.app g
def apart.symm {t u:Tag}(h:apart t u):apart u t:=λg h1 h2=>h g h2 h1
def F7 {esc:List Nat}{dst:Option Nat}{e:TypeId×Bool×Nat×Nat}{tg A:Tag}{zs:List IV}{y:IV}{R:Rt}{st S0:ISt}{ds:List Dfd}{n n2 s:Nat}(h:own st tg n s S0)(h2:own st A n2 s S0)(hd:apart tg A)(ae:zs.length=n)(E:subSt S0 st)(he:e.2.2.1=s)
  (hf:fits e.2.1 e.2.2.1 y=true) (ah:(n+1)*e.2.2.2<=140737488355328) (ab:n+1<=140737488355328)
  (k:∀aa st',own st' aa (n+1) s S0->own st' A n2 s S0->apart aa A->subSt S0 st'->R (.val (.sl aa (zs++[y]))) st' ds)
  (ag:iz esc dst=false:=by first|rfl|simp[iz]):appV esc dst e tg zs [y] R st ds:=by
 subst ae he;unfold appV;refine⟨by simp[hf],⟨ah,ab⟩,?_⟩;have ac:∀g,st g=none->A.cap≠.app g:=λg D hc=>by
  rcases h2 with⟨_,h⟩|rfl|⟨g2,rfl,h,_⟩
  ·rw[h] at hc;cases hc
  ·cases hc
  ·cases hc;rw[D] at h;cases h
 have hk:∀st',(∀g,A.cap=.app g->st' g=st g)->own st' A n2 e.2.2.1 S0:=λst' hs=>by
  rcases h2 with h|h|⟨g2,rfl,h,h'⟩
  ·exact .inl h
  ·exact .inr (.inl h)
  ·exact .inr (.inr ⟨g2,rfl,by rw[hs g2 rfl];exact h,h'⟩)
 have ai:∀g,A.cap≠.app g->apart ⟨true,.app g,e.2.2.1⟩ A:=λg D g' h=>by cases h;exact D
 have W:∀g,st g=none->∀m,own (st.put g (some (.front m e.2.2.1))) A n2 e.2.2.1 S0/\apart ⟨true,.app g,e.2.2.1⟩ A/\subSt S0 (st.put g (some (.front m e.2.2.1)))/\S0 g=none:=λg D m =>
  have h0:=nb E D
  ⟨hk _ λg' U=>de (λh=>ac g D (h▸U)),ai g (ac g D),gU E h0,h0⟩
 rcases h with⟨h0,hc⟩|rfl|⟨g0,rfl,h1,af⟩
 ·have hz:zs=[]:=eN h0;subst hz;rw[hc];simp only[ag,bFt,dJ];intro g D;obtain⟨a1,a2,a3,a4⟩:=W g D 1;exact k _ _ (.inr (.inr ⟨g,rfl,cT _ _ _,a4⟩)) a1 a2 a3
 ·refine⟨rfl,λg D=>?_⟩;obtain⟨a1,a2,a3,a4⟩:=W g D (zs.length+1);exact k _ _ (.inr (.inr ⟨g,rfl,cT _ _ _,a4⟩)) a1 a2 a3
 ·refine⟨rfl,h1,λg D=>?_⟩;have O:S0 g=none/\A.cap≠.app g:=by
   rcases D with rfl|D
   ·exact⟨af,hd g rfl⟩
   ·exact⟨nb E D,ac g D⟩
  refine k _ _ (.inr (.inr ⟨g,rfl,cT _ _ _,O.1⟩)) (hk _ λg' U=>?_) (ai g O.2) (gU (gU E af) O.1);have n1:g'≠g:=λh=>O.2 (h▸U);have n2:g'≠g0:=λh=>hd g0 rfl (h▸U);rw[de n1,de n2]
end Go.Iv
namespace Go.Proofs.Tryz
open Go Go.Iv
set_option maxRecDepth 4000
variable (gl:Nat->Option IV)
def F8 {l:List Mk}{k:Nat}{a:Mk}(h:l[k]?=some a)(b:Bool):eC b (l.take (k+1))=if a.is=b then eC b (l.take k)++[a.f] else eC b (l.take k):=by
 unfold eC;rw[dK h,lC,jn];by_cases A:a.is=b
 ·simp[A]
 ·simp[A]
def Pr {o:Nat}(h:o=3\/o=4\/o=5\/o=6\/o=7):IntKind.u8.wrap (IntKind.u8.wrap (2*(o:Int))-3)=(ga true o:Int)/\IntKind.u8.wrap ((ga true o:Int)+1)=(ga false o:Int):=by
 rcases h with rfl|rfl|rfl|rfl|rfl<;>exact⟨rfl,rfl⟩
def Ps {b:Bool}{o:Nat}{r:Nat×Nat}(h:rowT b o=some r)(A:o<=7):o=3\/o=4\/o=5\/o=6\/o=7:=by
 refine fL λhc=>?_;unfold rowT at h
 repeat (rw[a_ (by omega)] at h)
 cases h
def rtC (n:Nd):Prop:=∀(l:List Mk) (p:List Nat) (x z:IV) (st:ISt),(fx l p n).2=0->GoodT l->RBr l x->IsNd n z->l.length+2*n.nodes<=800000 →
 ICall prog gl 42 [x,z] st (λr st'=>IsTr (gw l n) r/\st'=st)
def qz (r:Nat)(tl:Tag)(E:List IV)(tr:Tag)(D:List IV)(o:Int)(n:ByteArray)(t1:Tag)(U:List IV)(t2:Tag)(O:List IV)(W:Tag)(A:List IV):List IV :=
 [.raw (.int .u8 r),.sl tl E,.sl tr D,.raw (.int .u8 o),n,.sl t1 U,.sl t2 O,false,.raw (.string ⟨#[]⟩),(),.raw (.string ⟨#[]⟩),.sl W A]
def Pt (m:Mk)(c:Bool)(w:Int)(sub:List Nd)(IH:∀a∈sub,rtC gl a):rtC gl (.mk m c w sub):=by
 intro l p x z st an hl hx hz hb;have aI:=hx;obtain⟨o,n,t1,x1,t2,x2,ts,zs,rfl,hf,aW,hzs⟩:=hz.mk;simp only[Nd.nodes] at hb;rw[fx] at an;split at an
 ·rename_i h;exact absurd an h
 rename_i h0;obtain⟨hm,_,bM,rfl,av⟩:=oZ (Decidable.not_not.1 h0);have aY:=r_ hl hm;have aO:=(hl m hm).2;obtain⟨t,xs,t',vs,rfl,ht,ah⟩:=hx;have b3:=ah.len;unfold gw;refine ICall.intro (c:=cf prog gl [] [(20,[0,1,2,3,4,5,6,8,9,10,11,12,7,13,14,15,16,17])]) func42 rfl (by show _<=109;simp) (by kernel_rfl) ?_;simp only[go_sem,zE,zA,zL,fits];refine cV l.length (λk fr st' ds=>(∃tl xl tr xr,fr 5=.box (qz 0 tl xl tr xr o n t1 x1 t2 x2 ⟨true,.nil,0⟩ [])/\IsFms (eC true (l.take k)) xl/\IsFms (eC false (l.take k)) xr/\own st' tl (eC true (l.take k)).length 4 st/\own st' tr (eC false (l.take k)).length 4 st/\apart tl tr)/\subSt st st' /\
  fr 2=.box [.raw (.int .u8 1),.sl t xs,.sl t' vs]/\fr 3=.box [m.is,m.w,.raw (.int .u8 o),n,.sl t1 x1,.sl t2 x2,c,(0:Int),.sl ts zs]/\fr 4=.box trZ/\fr 6=.iv (.raw (.int .i64 k))/\ds=[]) ?_ ?_ ?_
 ·simp only[go_sem,zE,qz,trZ];exact⟨⟨_,_,_,_,rfl,rfl,rfl,own.nil _ _ _ _ _,own.nil _ _ _ _ _,λg h=>by cases h⟩,subSt.refl _,rfl⟩
 ·rintro k fr bC _ U ⟨⟨tl,xl,tr,xr,f5,il,ir,ol,ax,aT⟩,W,f2,f3,f4,f6,rfl⟩;unfold qz at f5;obtain⟨a,ha⟩:=dd U;obtain⟨y,ay,hy⟩:=ah.get ha;obtain⟨o5,n5,t5,x5,t6,x6,rfl,a6⟩:=hy;have aM:=λb=>F0 b (l.take k);simp only[dO] at aM;have bW:=aM true;have bV:=aM false;have s1:=F8 ha true;have s2:=F8 ha false;cases hi:a.is
  ·rw[hi,a_ (by decide)] at s1;rw[hi,b_ rfl] at s2;rw[s1,s2];rw[hi] at ay;simp only[go_sem,zE,zB,zA,zM,zL,f2,f5,f6,ah.len,lt_i U,dc ht,iNn,ay,fits,dP];intros;refine F7 ax ol aT.symm ir.len W rfl (by simp[fits,IV.one]) (by simp only;omega) (by omega) λao st4 E ai ag A=>?_;simp only[go_sem,zE,zA,zL,f2,f3,f4,f5,f6,df U (by omega)];exact⟨⟨_,_,_,_,rfl,il,ir.append ⟨_,_,rfl,a6,rfl⟩,ai,by rw[lLa];exact E,ag.symm⟩,A⟩
  ·rw[hi,b_ rfl] at s1;rw[hi,a_ (by decide)] at s2;rw[s1,s2];rw[hi] at ay;simp only[go_sem,zE,zB,zA,zM,zL,f2,f5,f6,ah.len,lt_i U,dc ht,iNn,ay,fits,dP];intros;refine F7 ol ax aT il.len W rfl (by simp[fits,IV.one]) (by simp only;omega) (by omega) λao st4 E ai ag A=>?_;simp only[go_sem,zE,zA,zL,f2,f3,f4,f5,f6,df U (by omega)];exact⟨⟨_,_,_,_,rfl,il.append ⟨_,_,rfl,a6,rfl⟩,ir,by rw[lLa];exact E,ai,ag⟩,A⟩
 ·rintro fr bC _ ⟨⟨tl,xl,tr,xr,f5,il,ir,ol,ax,aT⟩,W,f2,f3,f4,f6,rfl⟩;unfold qz at f5;unfold trZ at f4;rw[lTl] at il ir;have aw:∀(r:Nat) (tS:Tag) (xS:List IV) (S:List Tr),r<256->okEs tS 12->IsTrs S xS->IsTr (.mk r (sqT l) m.f tm0 bE S) (.agg (qz r tl xl tr xr o n t1 x1 t2 x2 tS xS)):=λr tS xS S h1 h2 h3=>by
   simp only[IsTr];exact⟨_,_,_,_,_,_,_,_,_,_,_,_,_,_,_,_,rfl,h1,ol.es,il,ax.es,ir,hf,⟨_,_,rfl,.inl rfl,rfl⟩,h2,h3⟩
  unfold qz at aw;cases c
  case true =>
   have hH:=λst=>tU gl l _ aI ⟨!m.is,0,m.f⟩ _ ⟨_,_,_,_,_,_,rfl,hf⟩ st;rw[b_ rfl];have hr:ji l m true=if hasT l ⟨!m.is,0,m.f⟩ then 1 else 2:=by rw[<- aO];rfl
   rw[hr];simp only[go_sem,zE,zA,zL,f2,f3,f5,f6,ah.len,dD (nLi _),fits];intros;refine (hH _).q ?_;cases hasT l ⟨!m.is,0,m.f⟩
   ·simp only[go_sem,zE,zA,zL,reduceCtorEq,f4];exact dZ W ⟨aw 2 _ _ [] (by decide) (.inl rfl) rfl,rfl⟩
   ·simp only[go_sem,zE,zA,zL,f4];exact dZ W ⟨aw 1 _ _ [] (by decide) (.inl rfl) rfl,rfl⟩
  have a1:=bM rfl;obtain⟨⟨kk,q⟩,hr,hq,hT⟩:=oe a1;simp only[bFt,dJ] at an av ⊢;obtain⟨_,_,ae,_⟩:=o_ (hl m hm).1 a1 0;have b4:=og m 0;have bK:(o:Int)=(m.f.op:Int):=by
   obtain⟨_,_,⟨o',n',b0,bS⟩⟩:=m;obtain⟨_,_,_,_,he,_⟩:=hf.mk;simp only[IV.agg.injEq,List.cons.injEq,IV.raw.injEq,Value.int.injEq,true_and,and_true] at he;exact he.1
  obtain⟨k1,k2⟩:=Pr (Ps hr aY);rw[<- bK] at k1;have hA:=λst=>D1 gl m _ ⟨_,_,_,_,_,_,rfl,hf⟩ aY 0 st;have bH:ji l m false=ga m.is m.f.op:=rfl;rw[bH];have aX:∀b,ga b m.f.op<256:=λb=>by
   unfold ga
   repeat' split
   all_goals decide
  cases hi:m.is
  ·rw[hi] at f3 hA;simp only[go_sem,zE,zA,zL,f2,f3,f5,f6,ah.len,dD (nLi _),k1,k2];intros;refine (hA _).mono ?_;rintro _ _ ⟨tg,ls,rfl,aK,aj,rfl⟩;simp only[go_sem];refine cV (dY m 0).length (λk fr st' ds=>(∃ac ys,fr 5=.box [.raw (.int .u8 (ga false m.f.op)),.sl tl xl,.sl tr xr,.raw (.int .u8 o),n,.sl t1 x1,.sl t2 x2,false,.raw (.string ⟨#[]⟩),(),.raw (.string ⟨#[]⟩),.sl ac ys]/\IsTrs (gd l ((dY m 0).take k) (sub.take k)) ys/\own st' ac k 12 st/\subSt st st') /\
    fr 2=.box [.raw (.int .u8 1),.sl t xs,.sl t' vs]/\fr 3=.box [false,m.w,.raw (.int .u8 o),n,.sl t1 x1,.sl t2 x2,false,(0:Int),.sl ts zs]/\fr 4=.box trZ/\fr 7=.iv (.sl tg ls)/\fr 8=.iv (.raw (.int .i64 k))/\ds=[]) ?_ ?_ ?_
   ·simp only[go_sem,zE,f2,f3,f4,trZ];exact⟨⟨_,_,rfl,rfl,own.nil _ _ _ _ _,W⟩,rfl⟩
   ·rintro k fr aE _ U ⟨⟨ac,ys,f5,hys,aa,D⟩,f2,f3,f4,f7,f8,rfl⟩;obtain⟨q',O⟩:=dd U;obtain⟨tq,zq,aR,aJ,aG⟩:=aj.get O;have bJ:=nt m 0 q' (lMg O);obtain⟨nk,ab⟩:=dd (l:=sub) (k:=k) (by omega);obtain⟨zk,aS,aq⟩:=hzs.get ab;have h8:=ij q' l;have h9:=kb (lMg ab);have ak:ys.length=k:=by rw[hys.len,rQ _ _ _ (by simp only[dO];omega),dO];omega
    have hW:=λst=>rW gl l _ aI q' tq zq aJ aG (by omega) st;have am:=λx hx st=>IH nk (lMg ab) (d_ l q') (p++[0+k]) x zk st (uy an O ab) (hl.adds λy hy=>⟨(ae q' (lMg O) y hy).1,(ae q' (lMg O) y hy).2.trans aO⟩) hx aq (by omega);have aL:=(ux l O ab).1;obtain⟨_,_,_,_,_,_,_,_,_,_,_,_,rfl⟩:=fG aq;simp only[go_sem,zE,zB,zA,zL,f2,f3,f5,f7,f8,aj.len,lt_i U,dc aK,dc aW,iNn,aR,aS,fits];intros;refine (hW _).mono ?_;rintro r _ ⟨au,rfl⟩;have af:=λst=>am r au st;obtain⟨t5,x5,t6,x6,rfl,_⟩:=au;simp only[go_sem,zE,zA];refine (af _).mono ?_;rintro r _ ⟨ar,rfl⟩;have aN:IsTrs (gd l ((dY m 0).take (k+1)) (sub.take (k+1))) (ys++[r]):=by
     rw[aL];exact hys.append ⟨_,_,rfl,ar,rfl⟩
    obtain⟨aF,bs,bh,bp,bg,bD,bP,bw,bj,bu,bi,v',bl,bm,bd,n',bn,be,rfl⟩:=gg ar;simp only[go_sem,zE,zA,zM,zL,fits,dP];refine iG aa ak D rfl (by simp[fits,IV.one]) (by simp only;omega) (by omega) λao st4 E A _ ag=>?_;simp only[go_sem,zE,zA,zL,f2,f3,f4,f5,f7,f8,df U (by omega)];exact⟨ao,_,rfl,aN,E,A⟩
   ·rintro fr aE _ ⟨⟨ac,ys,f5,hys,aa,D⟩,f2,f3,f4,f7,f8,rfl⟩;unfold trZ at f4;rw[lTl,<- av,lTl] at hys;simp only[go_sem,zE,zA,zL,f4,f5,f7,f8,aj.len,dD (nLi _)];intros;exact dZ D ⟨aw _ _ _ _ (aX _) aa.es hys,rfl⟩
  ·rw[hi] at f3 hA;simp only[go_sem,zE,zA,zL,f2,f3,f5,f6,ah.len,dD (nLi _),k1];intros;refine (hA _).mono ?_;rintro _ _ ⟨tg,ls,rfl,aK,aj,rfl⟩;simp only[go_sem];refine cV (dY m 0).length (λk fr st' ds=>(∃ac ys,fr 5=.box [.raw (.int .u8 (ga true m.f.op)),.sl tl xl,.sl tr xr,.raw (.int .u8 o),n,.sl t1 x1,.sl t2 x2,false,.raw (.string ⟨#[]⟩),(),.raw (.string ⟨#[]⟩),.sl ac ys]/\IsTrs (gd l ((dY m 0).take k) (sub.take k)) ys/\own st' ac k 12 st/\subSt st st') /\
    fr 2=.box [.raw (.int .u8 1),.sl t xs,.sl t' vs]/\fr 3=.box [true,m.w,.raw (.int .u8 o),n,.sl t1 x1,.sl t2 x2,false,(0:Int),.sl ts zs]/\fr 4=.box trZ/\fr 7=.iv (.sl tg ls)/\fr 8=.iv (.raw (.int .i64 k))/\ds=[]) ?_ ?_ ?_
   ·simp only[go_sem,zE,f2,f3,f4,trZ];exact⟨⟨_,_,rfl,rfl,own.nil _ _ _ _ _,W⟩,rfl⟩
   ·rintro k fr aE _ U ⟨⟨ac,ys,f5,hys,aa,D⟩,f2,f3,f4,f7,f8,rfl⟩;obtain⟨q',O⟩:=dd U;obtain⟨tq,zq,aR,aJ,aG⟩:=aj.get O;have bJ:=nt m 0 q' (lMg O);obtain⟨nk,ab⟩:=dd (l:=sub) (k:=k) (by omega);obtain⟨zk,aS,aq⟩:=hzs.get ab;have h8:=ij q' l;have h9:=kb (lMg ab);have ak:ys.length=k:=by rw[hys.len,rQ _ _ _ (by simp only[dO];omega),dO];omega
    have hW:=λst=>rW gl l _ aI q' tq zq aJ aG (by omega) st;have am:=λx hx st=>IH nk (lMg ab) (d_ l q') (p++[0+k]) x zk st (uy an O ab) (hl.adds λy hy=>⟨(ae q' (lMg O) y hy).1,(ae q' (lMg O) y hy).2.trans aO⟩) hx aq (by omega);have aL:=(ux l O ab).1;obtain⟨_,_,_,_,_,_,_,_,_,_,_,_,rfl⟩:=fG aq;simp only[go_sem,zE,zB,zA,zL,f2,f3,f5,f7,f8,aj.len,lt_i U,dc aK,dc aW,iNn,aR,aS,fits];intros;refine (hW _).mono ?_;rintro r _ ⟨au,rfl⟩;have af:=λst=>am r au st;obtain⟨t5,x5,t6,x6,rfl,_⟩:=au;simp only[go_sem,zE,zA];refine (af _).mono ?_;rintro r _ ⟨ar,rfl⟩;have aN:IsTrs (gd l ((dY m 0).take (k+1)) (sub.take (k+1))) (ys++[r]):=by
     rw[aL];exact hys.append ⟨_,_,rfl,ar,rfl⟩
    obtain⟨aF,bs,bh,bp,bg,bD,bP,bw,bj,bu,bi,v',bl,bm,bd,n',bn,be,rfl⟩:=gg ar;simp only[go_sem,zE,zA,zM,zL,fits,dP];refine iG aa ak D rfl (by simp[fits,IV.one]) (by simp only;omega) (by omega) λao st4 E A _ ag=>?_;simp only[go_sem,zE,zA,zL,f2,f3,f4,f5,f7,f8,df U (by omega)];exact⟨ao,_,rfl,aN,E,A⟩
   ·rintro fr aE _ ⟨⟨ac,ys,f5,hys,aa,D⟩,f2,f3,f4,f7,f8,rfl⟩;unfold trZ at f4;rw[lTl,<- av,lTl] at hys;simp only[go_sem,zE,zA,zL,f4,f5,f7,f8,aj.len,dD (nLi _)];intros;exact dZ D ⟨aw _ _ _ _ (aX _) aa.es hys,rfl⟩
def F9:∀(k:Nat)(n:Nd),SizeOf.sizeOf n<k->rtC gl n
 | 0,n,h=>by omega
 | k+1,.mk m c w sub,h=>Pt gl m c w sub λa A=>F9 k a (by
   have:=lSm A;simp only[Nd.mk.sizeOf_spec] at h;omega)
mutual
def ev:Tr->Bool
 | .mk _ s _ _ _ sub=>decide (64<s.l.length) || decide (64<s.r.length) || jP sub
def jP:List Tr->Bool
 | []=>false
 | a::l=>ev a || jP l
end
def F_:∀l m:List Tr,jP (l++m)=(jP l || jP m)
 | [],m=>rfl
 | a::l,m=>by simp only[dX,jP,F_ l m,Bool.or_assoc]
def Ga:∀ {l:List Tr}{a:Tr},a∈l->ev a=true->jP l=true
 | b::l,a,h,A=>by
  simp only[jP,iU];rcases dC.1 h with rfl|h
  ·exact .inl A
  ·exact .inr (Ga h A)
def rwC (t:Tr):Prop:=∀(x:IV) (_:IsTr t x) (st:ISt),ICall prog gl 44 [x] st (λr st'=>r=(ev t:Bool)/\st'=st)
def Pu (rule:Nat)(s:Sq)(f:Fm)(u:Tm)(n:ByteArray)(sub:List Tr)(IH:∀a∈sub,rwC gl a):rwC gl (.mk rule s f u n sub):=by
 intro x hx st;obtain⟨tl,xl,tr,xr,op,fn,ta,xa,tb,xb,v,un,tu,xu,ts,xs,rfl,aK,e1,i1,e2,i2,hy,hz,e3,i3⟩:=hx.mk;have d1:decide ((64:Int)<(s.l.length:Int))=decide (64<s.l.length):=by rw[decide_eq_decide];omega
 have d2:decide ((64:Int)<(s.r.length:Int))=decide (64<s.r.length):=by rw[decide_eq_decide];omega
 unfold ev;refine iI func44 ?_;cases b1:decide (64<s.l.length)
 case true =>
  simp only[go_sem,zE,i1.len,d1,b1];intros;exact cO ⟨rfl,rfl⟩
 cases b2:decide (64<s.r.length)
 case true =>
  simp only[go_sem,zE,zA,i1.len,i2.len,d1,d2,b1,b2];intros;exact cO ⟨rfl,rfl⟩
 simp only[go_sem,zE,zA,i1.len,i2.len,d1,d2,b1,b2];intros;refine cV sub.length (λk fr st' ds=>jP (sub.take k)=false/\fr 1=.box [.raw (.int .u8 rule),.sl tl xl,.sl tr xr,.raw (.int .u8 op),fn,.sl ta xa,.sl tb xb,v,un,.sl tu xu,n,.sl ts xs]/\fr 3=.iv (.raw (.int .i64 k))/\st'=st/\ds=[]) ?_ ?_ ?_
 ·simp only[go_sem,zE];exact⟨rfl,rfl⟩
 ·rintro k fr W _ A ⟨U,f1,f3,rfl,rfl⟩;obtain⟨a,ha⟩:=dd A;obtain⟨z,ab,E⟩:=i3.get ha;have O:=lMg ha;have D:=λst=>IH a O z E st;have ag:=i3.len;obtain⟨aa,aE,ao,aD,am,aJ,aL,aH,av,aF,ar,v',ax,az,ah,n',aB,aj,rfl⟩:=gg E;simp only[go_sem,zE,zB,zA,f1,f3,i3.len,lt_i A,dc e3,iNn,ab,fits];intros;refine (D _).q ?_;cases hq:ev a
  ·simp only[go_sem,zE,f1,f3,df A (by omega)];rw[dK ha,F_,U];simp[jP,hq]
  ·simp only[go_sem];exact cO ⟨by rw[Ga O hq];rfl,rfl⟩
 ·rintro fr W _ ⟨U,f1,f3,rfl,rfl⟩;rw[lTl] at U;simp only[go_sem,zE,f1,f3,i3.len,dD (nLi _)];intros;exact cO ⟨by rw[U];rfl,rfl⟩
def Gb:∀(k:Nat)(t:Tr),SizeOf.sizeOf t<k->rwC gl t
 | 0,t,h=>by omega
 | k+1,.mk r sq f u n sub,h=>Pu gl r sq f u n sub (λa A=>Gb k a (by
   have:=lSm A;simp at h;omega))
mutual
def zh:∀(n:Nd)(l:List Mk),bigT l n=ev (gw l n)
 | .mk m c w sub,l=>by
  have h:=Gc sub l (dY m 0);unfold bigT gw ev;cases c
  ·simp only[jQ,eM,bFt,dJ,h];rfl
  ·simp only[fW,fk,dB];rfl
def Gc:∀(ns:List Nd)(l:List Mk)(qs:List (List Mk)),jE l qs ns=jP (gd l qs ns)
 | [],l,qs=>by cases qs<;>simp[jE,gd,jP]
 | n::ns,l,[]=>by simp[jE,gd,jP]
 | n::ns,l,q::qs=>by
  simp only[jE,gd,jP,zh n,Gc ns l qs]
end
noncomputable def gY (s:Sq)(n:Nd):Tr×Nat:=if (jC s n).2≠0 then (tr0,230) else if bigT (eW s) n=true then (tr0,5) else (gw (eW s) n,0)
def Gd (G:Gl gl)(s:Sq)(x:IV)(hx:IsSq s x)(hw:wFms s.l+wFms s.r<=300)(n:Nd)(z:IV)(hz:IsNd n z)(hn:n.nodes<=100)(st:ISt) :
  ICall prog gl 13 [x,z] st (λr st'=>(∃y,r=.tup [y,.raw (.int .i64 (gY s n).2)]/\IsTr (gY s n).1 y/\dfr y)/\st'=st):=by
 have ar:=λst=>Oa gl G s x hx (sh hw) n z hz (by omega) st;have aw:s.l.length+s.r.length<=300:=by
  have h1:=h_ s.l;have h2:=h_ s.r;have h3:=iT s.l;have h4:=iT s.r;omega
 have am:=λst=>Om gl s x hx (by omega) st;have ah:=hz;have z0:=uw;have z1:=FY;unfold trZ at z0 z1;have aq:∀n:Nat,((n:Int)=0)=(n=0):=λn=>propext (by omega);obtain⟨v1,w1,o1,n1,t1,y1,t2,y2,c1,w2,t3,y3,rfl⟩:=fG hz;obtain⟨tl,xl,tr,xr,rfl,e1,i1,e2,i2⟩:=hx;refine ICall.intro (c:=cf prog gl [21] [(5,[0,1,3,4,5,6,8,2,7,9])]) func13 rfl (by show _<=36;simp) (by kernel_rfl) ?_;simp only[go_sem,zE,zA,zL];refine (ar _).mono ?_;rintro _ st ⟨⟨tg,rfl,aN⟩,rfl⟩;by_cases O:(jC s n).2=0
 ·simp only[go_sem,zE,zA,O,dR,fW,Int.natCast_zero];refine (Fj gl _).mono ?_;rintro _ _ ⟨rb,es,an,rfl,ao,rfl⟩;simp only[go_sem,zE,zA,zL,fits];refine λc=>eB λhc=>?_;have W:c≠rb:=λh=>by rw[h,cT] at hc;cases hc
  have au:st c=none:=by rw[de W] at hc;exact hc
  have hC:iK s=true/\(fx (eW s) [] n).2=0:=by
   unfold jC at O;split at O
   ·cases O
   split at O
   ·cases O
   ·rename_i h _;exact⟨by simpa using h,O⟩
  refine (am _).mono ?_;rintro _ _ ⟨t',ys,rfl,aj,hys,rfl⟩;simp only[go_sem,zE,zA];refine (Pq gl n _ ah (eW s) [] hC.2 (oq hC.1) (λm hm=>?_) ?_ t' ys aj hys _ c rb false es (cT ..) (by rw[de W.symm,cT]) ao).mono ?_
  ·have h1:=iT s.l;have h2:=iT s.r;rcases (yKr.1 hm).2 with h|h
   ·have:=lx h.2;omega
   ·have:=lx h.2;omega
  ·have:=ij (iJ s) [];have h3:(iJ s).length=s.l.length+s.r.length:=by simp[iJ]
   unfold eW;simp only[fN] at this;omega
  rintro r _ ⟨tr,D,⟨ab,ak⟩,hm,ht,rfl⟩;have aa:=ab;obtain⟨ag,aH,aB,av,aA,aL,aS,aJ,aD,aI,aC,v',aE,aF,ay,n',aG,az,rfl⟩:=gg ab;rw[Bool.false_or] at hm;simp only[go_sem,zE,zA,zL,cT,eZ,wrI];have A:subSt st ((st.put rb (some (.map .sg es))).put c (some (.box [.raw (.map (some rb)),D]))):=(fj an).trans (fj (by rw[de W];exact au));cases E:D
  ·simp only[go_sem,zE,zA,zL];have U:gY s n=(gw (eW s) n,0):=by rw[gY,a_ (by rw[O];decide),a_ (by rw[<- hm,E];decide)]
   rw[E] at A;exact dZ A ⟨⟨_,by rw[U];rfl,by rw[U,<- ht E];exact aa,ak⟩,rfl⟩
  ·simp only[go_sem,zE,zA,zL];have U:gY s n=(tr0,5):=by rw[gY,a_ (by rw[O];decide),b_ (by rw[<- hm,E])]
   rw[E] at A;exact dZ A ⟨⟨_,by rw[U];rfl,by rw[U];exact z0,z1⟩,rfl⟩
 ·simp only[go_sem,zE,zA,zL,aq,O,decide_false,jQ];have U:gY s n=(tr0,230):=by rw[gY,b_ O]
  exact cO ⟨⟨_,by rw[U];rfl,by rw[U];exact z0,z1⟩,rfl⟩
mutual
def wNd:Nd->Nat
 | .mk m _ _ sub=>wFm m.f+wNds sub
def wNds:List Nd->Nat
 | []=>0
 | a::l=>wNd a+wNds l
end
mutual
def okN:Nd->Bool
 | .mk m _ _ sub=>decide (wFm m.f<=300)&&okNs sub
def okNs:List Nd->Bool
 | []=>true
 | a::l=>okN a&&okNs l
end
def zj:∀l m:List Nd,okNs (l++m)=(okNs l&&okNs m)
 | [],m=>by simp[okNs]
 | a::l,m=>by simp only[dX,okNs,zj l m,me]
def Pv {l:List Nd}{k:Nat}{a:Nd}(h:l[k]?=some a):okNs (l.take (k+1))=(okNs (l.take k)&&okN a):=by
 rw[dK h,zj];simp[okNs]
def Pw (l:List Nd)(k:Nat)(h:okNs l=true):okNs (l.take k)=true:=by
 rw[<- eF k l,zj,bAt] at h;exact h.1
def Px {l:List Nd}{k:Nat}{a:Nd}(h:l[k]?=some a):eT (l.take (k+1))=eT (l.take k)+a.nodes:=by
 rw[dK h,qv];simp[eT]
def Ge:∀ {l:List Nd}{n:Nd},n∈l->wNd n<=wNds l
 | a::l,n,h=>by
  simp only[wNds];rcases dC.1 h with rfl|h
  ·omega
  ·have:=Ge h;omega
def Gf (t:Nd)(left:Int)(r:Int):Prop:=-1<=r/\r<=left/\(0<=r↔okN t=true/\(t.nodes:Int)<=left)/\(0<=r->r=left-t.nodes)
def snC (n:Nd):Prop:=∀(x:IV) (_:IsNd n x) (left:Int) (_:0<=left/\left<=1000) (_:wNd n<=1099511627776) (st:ISt),
 ICall prog gl 9 [x,left] st (λr st'=>(∃A:Int,r=A/\Gf n left A)/\st'=st)
def n_fs (t:Tag)(A:List IV)(st:ISt):ICall prog gl 32 [.sl t A] st (λr st'=>r=.sl t A/\st'=st):=by
 refine iI func32 ?_;simp only[go_sem,reduceCtorEq];exact cO ⟨rfl,rfl⟩
def n_sq (t:Tag)(A:List IV)(D:Tag)(ys:List IV)(st:ISt):ICall prog gl 31 [.sl t A,.sl D ys] st (λr st'=>r=.agg [.sl t A,.sl D ys]/\st'=st):=by
 refine iI func31 ?_;simp only[go_sem,zE,zA,zL,reduceCtorEq,fits];exact cO ⟨rfl,rfl⟩
def Py (m:Mk)(c:Bool)(w:Int)(sub:List Nd)(IH:∀a∈sub,snC gl a):snC gl (.mk m c w sub):=by
 intro x hx left hl hw st;obtain⟨o,n,t,xs,t',ys,ts,zs,rfl,hy,e3,i3⟩:=hx.mk;simp only[wNd] at hw;have U:=λst=>Fy gl ⟨[m.f],[]⟩ (.agg [.sl ⟨true,.full,4⟩ [.agg [.raw (.int .u8 o),n,.sl t xs,.sl t' ys]],()]) ⟨_,_,_,_,rfl,.inr rfl,⟨_,_,rfl,hy,rfl⟩,.inl rfl,rfl⟩ ⟨by simp only[wFms];omega,by simp only[wFms];omega⟩ st;rw[show wFms [m.f]+wFms []=wFm m.f from by simp[wFms]] at U;have ag:decide (wFm m.f<=300)=false->Gf (.mk m c w sub) left (-1):=λh=>by
  refine⟨by omega,by omega,⟨λh=>by omega,λh'=>?_⟩,λh=>by omega⟩;simp only[okN,h,fk,bFt,false_and] at h'
 refine iI func9 ?_;simp only[go_sem,zE,zA,zM,zL,fits,dP];refine (n_fs gl _ _ _).q ?_;simp only[go_sem,zA];refine (n_sq gl _ _ _ _ _).q ?_;simp only[go_sem,zA];refine (U _).q ?_;cases q1:decide (wFm m.f<=300)
 ·simp only[go_sem];exact cO ⟨⟨-1,rfl,ag q1⟩,rfl⟩
 have wl:IntKind.i64.wrap (left-1)=left-1:=w64 (by omega) (by omega);simp only[go_sem,zE,wl];refine cV sub.length (λk fr st' ds=>(∃l:Int,fr 1=l /\ -1<=l/\l<=left-1/\(0<=l↔okNs (sub.take k)=true/\((eT (sub.take k):Nat):Int)+1<=left)/\(0<=l->l=left-1-(eT (sub.take k):Nat))) /\
  fr 2=.box [m.is,m.w,.raw (.int .u8 o),n,.sl t xs,.sl t' ys,c,w,.sl ts zs]/\fr 5=.iv (.raw (.int .i64 k))/\st'=st/\ds=[]) ?_ ?_ ?_
 ·simp only[go_sem,zE];exact⟨⟨left-1,rfl,by omega,by omega,⟨λh=>⟨rfl,by simp only[eT];omega⟩,λh=>by have:=h.2;simp only[eT] at this;omega⟩,λ_=>by simp only[eT];omega⟩,rfl⟩
 ·rintro k fr ai _ E ⟨⟨l,f1,W,an,D,O⟩,f2,f5,rfl,rfl⟩;obtain⟨a,ha⟩:=dd E;obtain⟨z,ao,ab⟩:=i3.get ha;have af:=Pv ha;have ac:=Px ha;by_cases A:(0:Int)<=l
  ·have aa:=λst=>IH a (lMg ha) z ab l ⟨A,by omega⟩ (by have:=Ge (lMg ha);omega) st;obtain⟨v3,w3,o3,n3,t4,y4,t5,y5,c5,w5,t6,y6,rfl⟩:=fG ab;simp only[go_sem,zE,zB,zA,f1,f2,f5,i3.len,lt_i E,dEt A,dc e3,iNn,ao,fits];intro _;refine (aa _).mono ?_;rintro _ aw ⟨⟨r,rfl,am,az,ae,ak⟩,rfl⟩;simp only[go_sem,zE,f2,f5,df E (by omega)];have g3:=D.1 A;have g4:=O A;refine⟨r,rfl,am,by omega,?_,λh=>by have:=ak h;rw[ac];omega⟩;rw[af,ac,g3.1,eM];constructor
   ·intro h;have:=ae.1 h;exact⟨this.1,by omega⟩
   ·intro h;exact ae.2 ⟨h.1,by have:=h.2;omega⟩
  ·simp only[go_sem,zE,f1,f2,f5,i3.len,lt_i E,dEf A];intro _;refine cO ⟨⟨l,rfl,W,by omega,⟨λh=>absurd h A,λh=>?_⟩,λh=>absurd h A⟩,rfl⟩;have h1:=h.1;have h2:=h.2;simp only[okN,q1,eM] at h1;simp only[Nd.nodes] at h2;have h3:=qw sub k;exact absurd (D.2 ⟨Pw sub k h1,by omega⟩) A
 ·rintro fr ai _ ⟨⟨l,f1,W,an,D,O⟩,f2,f5,rfl,rfl⟩;rw[lTl] at D O;simp only[go_sem,zE,f1,f2,f5,i3.len,dD (nLi _)];intro _;refine cO ⟨⟨l,rfl,W,by omega,?_,λh=>by have:=O h;simp only[Nd.nodes];omega⟩,rfl⟩;simp only[okN,q1,eM,Nd.nodes];constructor
  ·intro h;have:=D.1 h;exact⟨this.1,by omega⟩
  ·intro h;exact D.2 ⟨h.1,by have:=h.2;omega⟩
def Gg:∀(k:Nat)(t:Nd),SizeOf.sizeOf t<k->snC gl t
 | 0,t,h=>by omega
 | k+1,.mk m c w sub,h=>Py gl m c w sub (λa A=>Gg k a (by
   have:=lSm A;simp only[Nd.mk.sizeOf_spec] at h;omega))
def Pz (t:Nd)(x:IV)(hx:IsNd t x)(A:wNd t<=1099511627776)(st:ISt):ICall prog gl 5 [x] st (λr st'=>r=(okN t&&decide (t.nodes<=60):Bool)/\st'=st):=by
 have D:=λst=>Gg gl _ t (dM _) x hx 60 ⟨by omega,by omega⟩ A st;obtain⟨v3,w3,o3,n3,t4,W,t5,U,c5,w5,t6,O,rfl⟩:=fG hx;refine iI func5 ?_;simp only[go_sem,zE,zA,zL];refine (D _).mono ?_;rintro _ st ⟨⟨r,rfl,h1,h2,E,h4⟩,rfl⟩;have hd:decide ((0:Int)<=r)=(okN t&&decide (t.nodes<=60)):=by
  rw[mf,dTe,E,bAt,dTe];constructor<;>intro h<;>exact⟨h.1,by have:=h.2;omega⟩
 simp only[go_sem,hd];exact cO ⟨rfl,rfl⟩
def uA (t:Nd):Prop:=∀(x y:IV) (_:IsNd t x) (_:IsNd t y) (_:t.nodes<=1099511627776) (st:ISt),ICall prog gl 20 [x,y] st (λr st'=>r=true/\st'=st)
def PA (m:Mk)(c:Bool)(w:Int)(sub:List Nd)(IH:∀a∈sub,uA gl a):uA gl (.mk m c w sub):=by
 intro x y hx hy ai st;obtain⟨o,n,t,xs,t',ys,ts,zs,rfl,hf,e3,i3⟩:=hx.mk;obtain⟨o2,n2,t2,ae,ag,ac,af,ab,rfl,hf2,an,O⟩:=hy.mk;simp only[Nd.nodes] at ai;have aj:=mG sub;have h2:=λst=>rN gl m.f m.f _ _ hf hf2 st;have hs2:eqB m.f m.f=true:=yZ5.2 rfl;refine iI func20 ?_;have e0:∀b:Bool,(b != b)=false:=λb=>by cases b<;>rfl
 simp only[go_sem,zE,zA,zL,dR];refine (h2 _).q ?_;simp only[go_sem,zE,zA,hs2,dR,i3.len,O.len];intros;refine cV sub.length (λk fr st' ds=>fr 2=.box [m.is,m.w,.raw (.int .u8 o),n,.sl t xs,.sl t' ys,c,w,.sl ts zs] /\
  fr 3=.box [m.is,m.w,.raw (.int .u8 o2),n2,.sl t2 ae,.sl ag ac,c,w,.sl af ab]/\fr 5=.iv (.raw (.int .i64 k))/\st'=st/\ds=[]) ?_ ?_ ?_
 ·simp only[go_sem,zE];rfl
 ·rintro k fr ah _ D ⟨f2,f3,f5,rfl,rfl⟩;obtain⟨a,ha⟩:=dd D;have aa:=lMg ha;obtain⟨z,ak,U⟩:=i3.get ha;obtain⟨z2,W,A⟩:=O.get ha;have E:=λst=>IH a aa z z2 U A (by have:=kb aa;omega) st;obtain⟨v3,w3,o3,n3,t4,y4,t5,y5,c5,w5,t6,y6,rfl⟩:=fG U;obtain⟨v3,w3,o3,n3,t4,y4,t5,y5,c5,w5,t6,y6,rfl⟩:=fG A;simp only[go_sem,zE,zB,zA,f2,f3,f5,i3.len,lt_i D,dc e3,dc an,iNn,ak,W,fits];intros;refine (E _).q ?_;simp only[go_sem,zE,f2,f3,f5,df D (by omega)]
 ·rintro fr ah _ ⟨f2,f3,f5,rfl,rfl⟩;simp only[go_sem,zE,f2,f5,i3.len,dD (nLi _)];intros;exact cO ⟨rfl,rfl⟩
def Gh:∀(k:Nat)(t:Nd),SizeOf.sizeOf t<k->uA gl t
 | 0,t,h=>by omega
 | k+1,.mk m c w sub,h=>PA gl m c w sub (λa A=>Gh k a (by
   have:=lSm A;simp only[Nd.mk.sizeOf_spec] at h;omega))
def zm (t:Nd):uA gl t:=Gh gl _ t (dM _)
def PB (s:Sq)(x:IV)(hx:IsSq s x)(hw:wFms s.l+wFms s.r<=300)(n:Nd)(z:IV)(hz:IsNd n z)(hn:n.nodes<=100)(st:ISt) :
  ICall prog gl 14 [x,z] st (λr st'=>(∃y,r=.tup [y,.raw (.int .i64 (gY s n).2)]/\IsTr (gY s n).1 y)/\st'=st):=by
 have hC:=λst=>Ol gl s x hx (sh hw) n z hz (by omega) st;have ac:s.l.length+s.r.length<=300:=by
  have h1:=h_ s.l;have h2:=h_ s.r;have h3:=iT s.l;have h4:=iT s.r;omega
 have hB:=λst=>Ej gl s x hx (by omega) st;have W:=hz;have z0:=uw;unfold trZ at z0;obtain⟨t1,x1,t2,x2,rfl,_⟩:=hx;obtain⟨_,_,_,_,_,_,_,_,_,_,_,_,rfl⟩:=fG hz;refine ICall.intro (c:=cf prog gl [] [(4,[0,2,4,1,3,5])]) func14 rfl (by show _<=26;simp) (by kernel_rfl) ?_;simp only[go_sem,zE,zA,zL];refine (hC _).mono ?_;rintro _ st ⟨⟨tg,rfl,az⟩,rfl⟩;by_cases A:(jC s n).2=0
 case neg =>
  have d0:decide (((jC s n).2:Int)=0)=false:=dEf (by omega);have D:gY s n=(tr0,230):=by rw[gY,b_ A]
  simp only[go_sem,zE,zA,zL,d0];exact cO ⟨⟨_,by rw[D];rfl,by rw[D];exact z0⟩,rfl⟩
 have d0:decide (((jC s n).2:Int)=0)=true:=dEt (by omega);have hc:iK s=true/\(fx (eW s) [] n).2=0:=by
  unfold jC at A;split at A
  ·cases A
  split at A
  ·cases A
  ·rename_i h _;exact⟨by simpa using h,A⟩
 have ae:(eW s).length<=400:=by
  have h1:=ij (iJ s) [];unfold iJ at h1;rw[lLa,gj,gj,fN] at h1;unfold eW iJ;omega
 simp only[go_sem,zE,zA,zL,d0];refine (hB _).mono ?_;rintro _ st ⟨E,rfl⟩;have hT:=λst=>F9 gl _ n (dM _) (eW s) [] _ _ st hc.2 (oq hc.1) E W (by omega);obtain⟨t5,x5,t6,x6,rfl,_⟩:=E;simp only[go_sem,zE,zA];refine (hT _).mono ?_;rintro r st ⟨E,rfl⟩;have O:=λst=>Gb gl _ _ (dM _) r E st;rw[<- zh] at O;have ab:=E;obtain⟨U,au,aj,ar,ai,ax,aD,aw,am,av,ak,v',an,ao,ag,n',aq,ah,rfl⟩:=gg E;simp only[go_sem,zE,zA,zL];refine (O _).q ?_;cases hb:bigT (eW s) n
 ·have D:gY s n=(gw (eW s) n,0):=by rw[gY,a_ (by rw[A];decide),a_ (by rw[hb];decide)]
  simp only[go_sem,zE,zA,zL];exact cO ⟨⟨_,by rw[D];rfl,by rw[D];exact ab⟩,rfl⟩
 ·have D:gY s n=(tr0,5):=by rw[gY,a_ (by rw[A];decide),b_ hb]
  simp only[go_sem,zE,zA,zL];exact cO ⟨⟨_,by rw[D];rfl,by rw[D];exact z0⟩,rfl⟩
def rbC (n:Nd):Prop:=∀(z:IV) (_:IsNd n z) (_:n.nodes<=1000000000) (st:ISt),ICall prog gl 18 [z] st (λr st'=>r=n.branches/\st'=st)
def PC (sub:List Nd):gu sub<=eT sub:=by
 induction sub with
 | nil=>exact dz _
 | cons a l A =>
  have:=FW a;simp only[gu,eT];omega
def PD (m:Mk)(c:Bool)(w:Int)(sub:List Nd)(IH:∀a∈sub,rbC gl a):rbC gl (.mk m c w sub):=by
 intro z hz hb st;obtain⟨o,n,t1,x1,t2,x2,ts,zs,rfl,hf,U,hzs⟩:=hz.mk;simp only[Nd.nodes] at hb;have af:=mG sub;refine iI func18 ?_;simp only[go_sem];refine cV sub.length (λk fr st' ds=>fr 1=.box [m.is,m.w,.raw (.int .u8 o),n,.sl t1 x1,.sl t2 x2,c,w,.sl ts zs]/\fr 3=((gu (sub.take k):Nat):Int)/\fr 4=.iv (.raw (.int .i64 k))/\st'=st/\ds=[]) ?_ ?_ ?_
 ·simp only[go_sem,zE];exact⟨rfl,rfl⟩
 ·rintro k fr O _ A ⟨f1,f3,f4,rfl,rfl⟩;have ac:=qw sub (k+1);have am:=PC (sub.take (k+1));obtain⟨a,E⟩:=dd A;obtain⟨y,W,hy⟩:=hzs.get E;have ae:gu (sub.take (k+1))=gu (sub.take k)+a.branches:=by rw[dK E,ur];simp[gu]
  have ao:=kb (lMg E);have D:=λst=>IH a (lMg E) y hy (by omega) st;have hw:IntKind.i64.wrap (((gu (sub.take k):Nat):Int)+(a.branches:Int))=((gu (sub.take (k+1)):Nat):Int):=by rw[w64]<;>omega
  obtain⟨_,_,_,_,_,_,_,_,_,_,_,_,rfl⟩:=fG hy;simp only[go_sem,zE,zB,zA,f1,f3,f4,hzs.len,lt_i A,dc U,iNn,W,fits];intros;refine (D _).q ?_;simp only[go_sem,zE,f1,f4,hw,df A (by omega)]
 ·rintro fr O _ ⟨f1,f3,f4,rfl,rfl⟩;rw[lTl] at f3;by_cases he:sub=[]
  ·subst he;have d:decide (((0:Nat):Int)=0)=true:=rfl;simp only[go_sem,zE,zL,f1,f4,hzs.len,fN,dD (nLi _),d];intros;exact cO ⟨rfl,rfl⟩
  ·have hp:=List.length_pos_iff.2 he;have d:decide ((sub.length:Int)=0)=false:=dEf (by omega);simp only[go_sem,zE,f1,f3,f4,hzs.len,dD (nLi _),d];intros;exact cO ⟨by unfold Nd.branches;rw[a_ (by simpa using he)],rfl⟩
def Gi:∀(k:Nat)(n:Nd),SizeOf.sizeOf n<k->rbC gl n
 | 0,n,h=>by omega
 | k+1,.mk m c w sub,h=>PD gl m c w sub λa A=>Gi k a (by
   have:=lSm A;simp only[Nd.mk.sizeOf_spec] at h;omega)
mutual
def NB:Nd->Prop
 | .mk m _ _ sub=>m.f.size<=1099511627776/\NBs sub
def NBs:List Nd->Prop
 | []=>True
 | a::l=>NB a/\NBs l
end
def zn:∀ {l:List Nd}{a:Nd},NBs l->a∈l->NB a
 | b::l,a,h,A=>by
  simp only[NBs] at h;rcases dC.1 A with rfl|A
  ·exact h.1
  ·exact zn h.2 A
def Gj (m:Mk)(x:IV)(hx:IsMk m x)(E:m.f.size<=1099511627776)(st:ISt):ICall prog gl 33 [x] st (λr st'=>IsMk m r/\st'=st):=by
 obtain⟨o,n,t1,x1,t2,x2,rfl,O⟩:=hx;have U:=λst=>xB gl m.f _ O E st;refine iI func33 ?_;simp only[go_sem,zE,zA,zL];refine (U _).mono ?_;rintro r st ⟨D,rfl⟩;have A:=D.1;obtain⟨o2,n2,t3,x3,t4,W,rfl⟩:=jD D;simp only[go_sem,zE,zA,zL];exact cO ⟨⟨_,_,_,_,_,_,rfl,A⟩,rfl⟩
def gnC (n:Nd):Prop:=∀(x:IV) (_:IsNd n x) (_:NB n) (_:n.nodes<=1000000) (st:ISt),ICall prog gl 10 [x] st (λr st'=>IsNd n r/\st'=st)
def PE (m:Mk)(c:Bool)(w:Int)(sub:List Nd)(IH:∀a∈sub,gnC gl a):gnC gl (.mk m c w sub):=by
 intro x hx W aj st;obtain⟨o,n,t1,x1,t2,x2,ts,zs,rfl,hf,ai,hzs⟩:=hx.mk;simp only[NB] at W;simp only[Nd.nodes] at aj;have ak:=mG sub;have hM:=λst=>Gj gl m _ ⟨_,_,_,_,_,_,rfl,hf⟩ W.1 st;refine ICall.intro (c:=cf prog gl [] [(1,[0,1,3,4,5,6,8,2,7,9])]) func10 rfl (by show _<=32;simp) (by kernel_rfl) ?_;simp only[go_sem,zE,zA,zL];refine (hM _).mono ?_;rintro _ st ⟨⟨o2,n2,t3,x3,t4,x4,rfl,hf2⟩,rfl⟩;simp only[go_sem,zE,zA,zL,fits];refine cV sub.length (λk fr st' ds=>(∃E ys,fr 3=.box [m.is,m.w,.raw (.int .u8 o2),n2,.sl t3 x3,.sl t4 x4,c,w,.sl E ys]/\IsNds (sub.take k) ys/\own st' E k 9 st/\subSt st st') /\
  fr 1=.box [m.is,m.w,.raw (.int .u8 o),n,.sl t1 x1,.sl t2 x2,c,w,.sl ts zs] /\
  fr 2=.box [false,(0:Int),.raw (.int .u8 0),.raw (.string ⟨#[]⟩),(),(),false,(0:Int),()]/\fr 4=.iv (.raw (.int .i64 k))/\ds=[]) ?_ ?_ ?_
 ·simp only[go_sem,zE];exact⟨⟨_,_,rfl,rfl,own.nil _ _ _ _ _,subSt.refl _⟩,rfl⟩
 ·rintro k fr ah _ aa ⟨⟨E,ys,f3,hys,D,A⟩,f1,f2,f4,rfl⟩;obtain⟨a,ha⟩:=dd aa;have ae:=lMg ha;obtain⟨z,am,af⟩:=hzs.get ha;have ab:ys.length=k:=by rw[hys.len,dO];omega
  have ac:=λst=>IH a ae z af (zn W.2 ae) (by have:=kb ae;omega) st;obtain⟨_,_,_,_,_,_,_,_,_,_,_,_,rfl⟩:=fG af;simp only[go_sem,zE,zB,zA,f1,f3,f4,hzs.len,lt_i aa,dc ai,iNn,am,fits];intro _;refine (ac _).mono ?_;rintro r _ ⟨hr,rfl⟩;have hn:IsNds (sub.take (k+1)) (ys++[r]):=by
   rw[dK ha];exact hys.append ⟨_,_,rfl,hr,rfl⟩
  obtain⟨_,_,_,_,_,_,_,_,_,_,_,_,rfl⟩:=fG hr;simp only[go_sem,zE,zA,zM,zL,fits,dP];refine iG D ab A rfl (by simp[fits,IV.one]) (by simp only;omega) (by omega) λag st4 U O _ aq=>?_;simp only[go_sem,zE,zA,zL,f1,f2,f3,f4,df aa (by omega)];exact⟨ag,_,rfl,hn,U,O⟩
 ·rintro fr ah _ ⟨⟨E,ys,f3,hys,D,A⟩,f1,f2,f4,rfl⟩;rw[lTl] at hys;simp only[go_sem,zE,zA,zL,f1,f2,f3,f4,hzs.len,dD (nLi _)];intro _;refine dZ (st':=st) A ⟨?_,rfl⟩;simp only[IsNd];exact⟨_,_,_,_,_,_,_,_,rfl,hf2,D.es,hys⟩
def Gk:∀(k:Nat)(n:Nd),SizeOf.sizeOf n<k->gnC gl n
 | 0,n,h=>by omega
 | k+1,.mk m c w sub,h=>PE gl m c w sub λa A=>Gk k a (by
   have:=lSm A;simp only[Nd.mk.sizeOf_spec] at h;omega)
def tnC (n:Nd):Prop:=∀(x:IV) (_:IsNd n x) (_:NB n) (_:n.nodes<=1000000) (st:ISt),ICall prog gl 11 [x] st (λr st'=>IsNd n r/\st'=st)
def PF (m:Mk)(c:Bool)(w:Int)(sub:List Nd)(IH:∀a∈sub,tnC gl a):tnC gl (.mk m c w sub):=by
 intro x hx W aj st;obtain⟨o,n,t1,x1,t2,x2,ts,zs,rfl,hf,ai,hzs⟩:=hx.mk;simp only[NB] at W;simp only[Nd.nodes] at aj;have ak:=mG sub;have hM:=λst=>Gj gl m _ ⟨_,_,_,_,_,_,rfl,hf⟩ W.1 st;refine ICall.intro (c:=cf prog gl [] [(1,[0,1,3,4,5,6,8,2,7,9])]) func11 rfl (by show _<=32;simp) (by kernel_rfl) ?_;simp only[go_sem,zE,zA,zL];refine (hM _).mono ?_;rintro _ st ⟨⟨o2,n2,t3,x3,t4,x4,rfl,hf2⟩,rfl⟩;simp only[go_sem,zE,zA,zL,fits];refine cV sub.length (λk fr st' ds=>(∃E ys,fr 3=.box [m.is,m.w,.raw (.int .u8 o2),n2,.sl t3 x3,.sl t4 x4,c,w,.sl E ys]/\IsNds (sub.take k) ys/\own st' E k 9 st/\subSt st st') /\
  fr 1=.box [m.is,m.w,.raw (.int .u8 o),n,.sl t1 x1,.sl t2 x2,c,w,.sl ts zs] /\
  fr 2=.box [false,(0:Int),.raw (.int .u8 0),.raw (.string ⟨#[]⟩),(),(),false,(0:Int),()]/\fr 4=.iv (.raw (.int .i64 k))/\ds=[]) ?_ ?_ ?_
 ·simp only[go_sem,zE];exact⟨⟨_,_,rfl,rfl,own.nil _ _ _ _ _,subSt.refl _⟩,rfl⟩
 ·rintro k fr ah _ aa ⟨⟨E,ys,f3,hys,D,A⟩,f1,f2,f4,rfl⟩;obtain⟨a,ha⟩:=dd aa;have ae:=lMg ha;obtain⟨z,am,af⟩:=hzs.get ha;have ab:ys.length=k:=by rw[hys.len,dO];omega
  have ac:=λst=>IH a ae z af (zn W.2 ae) (by have:=kb ae;omega) st;obtain⟨_,_,_,_,_,_,_,_,_,_,_,_,rfl⟩:=fG af;simp only[go_sem,zE,zB,zA,f1,f3,f4,hzs.len,lt_i aa,dc ai,iNn,am,fits];intro _;refine (ac _).mono ?_;rintro r _ ⟨hr,rfl⟩;have hn:IsNds (sub.take (k+1)) (ys++[r]):=by
   rw[dK ha];exact hys.append ⟨_,_,rfl,hr,rfl⟩
  obtain⟨_,_,_,_,_,_,_,_,_,_,_,_,rfl⟩:=fG hr;simp only[go_sem,zE,zA,zM,zL,fits,dP];refine iG D ab A rfl (by simp[fits,IV.one]) (by simp only;omega) (by omega) λag st4 U O _ aq=>?_;simp only[go_sem,zE,zA,zL,f1,f2,f3,f4,df aa (by omega)];exact⟨ag,_,rfl,hn,U,O⟩
 ·rintro fr ah _ ⟨⟨E,ys,f3,hys,D,A⟩,f1,f2,f4,rfl⟩;rw[lTl] at hys;simp only[go_sem,zE,zA,zL,f1,f2,f3,f4,hzs.len,dD (nLi _)];intro _;refine dZ (st':=st) A ⟨?_,rfl⟩;simp only[IsNd];exact⟨_,_,_,_,_,_,_,_,rfl,hf2,D.es,hys⟩
def Gm:∀(k:Nat)(n:Nd),SizeOf.sizeOf n<k->tnC gl n
 | 0,n,h=>by omega
 | k+1,.mk m c w sub,h=>PF gl m c w sub λa A=>Gm k a (by
   have:=lSm A;simp only[Nd.mk.sizeOf_spec] at h;omega)
def mkT (k i:Nat):ByteArray:=⟨#[35,UInt8.ofNat k,UInt8.ofNat (k / 256),UInt8.ofNat (k / 65536),47,UInt8.ofNat i,UInt8.ofNat (i / 256),UInt8.ofNat (i / 65536)]⟩
@[go_sem] def PG (a:Option Addr)(n c:Nat):IV.one (.raw (.slice a n c))=true:=(rfl)
@[go_sem] def V1:((#[]:Array UInt8).size<=281474976710656)=True:=eq_true (fQ _)
def PH (k:Nat):IntKind.u8.wrap ((k:Nat):Int)=((UInt8.ofNat k).toNat:Int):=by
 simp[IntKind.wrap,IntKind.bits,IntKind.signed]
def shr8 (k:Nat):Int.fdiv (k:Int) (2 ^ min (Int.toNat 8) 64)=((k / 256:Nat):Int):=by
 rw[show (2:Int) ^ min (Int.toNat 8) 64=((256:Nat):Int) from rfl];exact (Int.ofNat_fdiv k 256).symm
def PI (k:Nat):Int.fdiv (k:Int) (2 ^ min (Int.toNat 16) 64)=((k / 65536:Nat):Int):=by
 rw[show (2:Int) ^ min (Int.toNat 16) 64=((65536:Nat):Int) from rfl];exact (Int.ofNat_fdiv k 65536).symm
def PJ (a b c d e f g h:UInt8):lJ [.raw (.int .u8 (a.toNat:Int)),.raw (.int .u8 (b.toNat:Int)),.raw (.int .u8 (c.toNat:Int)),.raw (.int .u8 (d.toNat:Int)),.raw (.int .u8 (e.toNat:Int)),.raw (.int .u8 (f.toNat:Int)),.raw (.int .u8 (g.toNat:Int)),.raw (.int .u8 (h.toNat:Int))]=some [a,b,c,d,e,f,g,h]:=by
 simp only[HM,HL,fg]
def PL (a b c d e f g h:Operand):jH 8 [(0,a),(1,b),(2,c),(3,d),(4,e),(5,f),(6,g),(7,h)]=true:=rfl
def Gn (k i:Nat)(st:ISt):ICall prog gl 109 [k,i] st (λr st'=>r=(mkT k i:ByteArray)/\st'=st):=by
 have D:=PJ 35 (UInt8.ofNat k) (UInt8.ofNat (k / 256)) (UInt8.ofNat (k / 65536)) 47 (UInt8.ofNat i) (UInt8.ofNat (i / 256)) (UInt8.ofNat (i / 65536));simp only[show (((35:UInt8).toNat:Nat):Int)=35 from rfl,show (((47:UInt8).toNat:Nat):Int)=47 from rfl] at D;have A:=λn:Int=>z_ prog 3 5 BI BJ .i64 n;refine iI func109 ?_;simp only[go_sem,zE,zM,zL,reduceCtorEq,A,show ((0:Int)<=8)=True from eq_true (by omega),show ((0:Int)<=16)=True from eq_true (by omega),shr8,PI,PH,fits,PL,D,kG];exact cO ⟨rfl,rfl⟩
def mkC (k j:Nat):List IV:=[false,(mkT k j:ByteArray),()]
def mkD (k j:Nat):List IV:=[.raw (.int .u8 (0:Nat)),(mkT k j:ByteArray),(),()]
def mksT:Nat->List IV
 | 0=>[]
 | j+1=>mksT j++mkC 1 j
def mksF:Nat->List IV
 | 0=>[]
 | j+1=>mksF j++mkD 1 j
def pk:∀j,(mksT j).length=j*3
 | 0=>rfl
 | j+1=>by simp only[mksT,lLa,pk j,mkC,eG,fN];omega
def pn:∀j,(mksF j).length=j*4
 | 0=>rfl
 | j+1=>by simp only[mksF,lLa,pn j,mkD,eG,fN];omega
def zo (k i:Nat)(st:ISt):ICall prog gl 126 [k,i] st (λr st'=>r=.agg (mkC k i)/\st'=st):=by
 refine iI func126 ?_;simp only[go_sem,zE,zA,reduceCtorEq];refine (Gn gl k i _).q ?_;simp only[go_sem,zE,zA,zL,fits];exact cO ⟨rfl,rfl⟩
def zp (k i:Nat)(st:ISt):ICall prog gl 68 [k,i] st (λr st'=>r=.agg (mkD k i)/\st'=st):=by
 refine iI func68 ?_;simp only[go_sem,zE,zA,reduceCtorEq];refine (Gn gl k i _).q ?_;simp only[go_sem,zE,zA,zL,fits];exact cO ⟨rfl,rfl⟩
mutual
def LTt (T:ISt):Tm->List IV->Prop
 | .mk v n A,c=>∃a cs,c=[.raw (.bool v),.raw (.string n),.raw (.slice (some ⟨a,0,none⟩) A.length (A.length+12))]/\T a=some (.box (cs++mksT 12))/\LTc T A cs
def LTc (T:ISt):List Tm->List IV->Prop
 | [],cs=>cs=[]
 | t::l,cs=>∃c d,cs=c++d/\LTt T t c/\LTc T l d
end
mutual
def LFf (T:ISt):Fm->List IV->Prop
 | .mk o n A sub,c=>∃a cs b ds,o<256/\c=[.raw (.int .u8 o),.raw (.string n),.raw (.slice (some ⟨a,0,none⟩) A.length (A.length+12)),.raw (.slice (some ⟨b,0,none⟩) sub.length (sub.length+12))] /\
   T a=some (.box (cs++mksT 12))/\LTc T A cs/\T b=some (.box (ds++mksF 12))/\LFc T sub ds
def LFc (T:ISt):List Fm->List IV->Prop
 | [],cs=>cs=[]
 | t::l,cs=>∃c d,cs=c++d/\LFf T t c/\LFc T l d
end
mutual
def LTt.mono {T T':ISt}(h:subSt T T'):∀ {t:Tm} {c:List IV},LTt T t c->LTt T' t c
 | .mk v n D,c,hc=>by
  simp only[LTt] at hc ⊢;obtain⟨a,cs,h1,h2,A⟩:=hc;exact⟨a,cs,h1,h _ _ h2,LTc.mono h A⟩
def LTc.mono {T T':ISt}(h:subSt T T'):∀ {l:List Tm} {c:List IV},LTc T l c->LTc T' l c
 | [],c,hc=>hc
 | t::l,c,hc=>by
  simp only[LTc] at hc ⊢;obtain⟨a,b,h1,h2,A⟩:=hc;exact⟨a,b,h1,LTt.mono h h2,LTc.mono h A⟩
end
mutual
def LFf.mono {T T':ISt}(h:subSt T T'):∀ {t:Fm} {c:List IV},LFf T t c->LFf T' t c
 | .mk o n U sub,c,hc=>by
  simp only[LFf] at hc ⊢;obtain⟨a,cs,b,ds,O,h1,h2,E,D,A⟩:=hc;exact⟨a,cs,b,ds,O,h1,h _ _ h2,E.mono h,h _ _ D,LFc.mono h A⟩
def LFc.mono {T T':ISt}(h:subSt T T'):∀ {l:List Fm} {c:List IV},LFc T l c->LFc T' l c
 | [],c,hc=>hc
 | t::l,c,hc=>by
  simp only[LFc] at hc ⊢;obtain⟨a,b,h1,h2,A⟩:=hc;exact⟨a,b,h1,LFf.mono h h2,LFc.mono h A⟩
end
def LTt.len {T:ISt}{t:Tm}{c:List IV}(h:LTt T t c):c.length=3:=by
 cases t;simp only[LTt] at h;obtain⟨_,_,rfl,_⟩:=h;rfl
def LFf.len {T:ISt}{t:Fm}{c:List IV}(h:LFf T t c):c.length=4:=by
 cases t;simp only[LFf] at h;obtain⟨_,_,_,_,_,rfl,_⟩:=h;rfl
def LTc.len {T:ISt}:∀ {l:List Tm} {c:List IV},LTc T l c->c.length=l.length*3
 | [],c,h=>by simp only[LTc] at h;subst h;rfl
 | t::l,c,h=>by
  simp only[LTc] at h;obtain⟨a,b,rfl,h2,A⟩:=h;rw[lLa,h2.len,LTc.len A,eG];omega
def LFc.len {T:ISt}:∀ {l:List Fm} {c:List IV},LFc T l c->c.length=l.length*4
 | [],c,h=>by simp only[LFc] at h;subst h;rfl
 | t::l,c,h=>by
  simp only[LFc] at h;obtain⟨a,b,rfl,h2,A⟩:=h;rw[lLa,h2.len,LFc.len A,eG];omega
def LTc.snoc {T:ISt}{t:Tm}{c:List IV}(h:LTt T t c):∀ {l:List Tm} {cs:List IV},LTc T l cs->LTc T (l++[t]) (cs++c)
 | [],cs,k=>by
  simp only[LTc] at k;subst k;exact⟨c,[],by simp,h,rfl⟩
 | a::l,cs,k=>by
  simp only[LTc] at k;obtain⟨x,y,rfl,h2,A⟩:=k;exact⟨x,y++c,by simp,h2,LTc.snoc h A⟩
def LFc.snoc {T:ISt}{t:Fm}{c:List IV}(h:LFf T t c):∀ {l:List Fm} {cs:List IV},LFc T l cs->LFc T (l++[t]) (cs++c)
 | [],cs,k=>by
  simp only[LFc] at k;subst k;exact⟨c,[],by simp,h,rfl⟩
 | a::l,cs,k=>by
  simp only[LFc] at k;obtain⟨x,y,rfl,h2,A⟩:=k;exact⟨x,y++c,by simp,h2,LFc.snoc h A⟩
def nw (st st':ISt):ISt:=λb=>match st b with|none=>st' b|some _=>none
def pq {st st':ISt}{b:Nat}{o:IObj}(h:nw st st' b=some o):st b=none/\st' b=some o:=by
 unfold nw at h;split at h
 ·exact⟨‹_›,h⟩
 ·cases h
def ox {st st':ISt}{b:Nat}{o:IObj}(h:st b=none)(A:st' b=some o):nw st st' b=some o:=by
 unfold nw;rw[h];exact A
def nw_l {st s1 A:ISt}(h:subSt s1 A):subSt (nw st s1) (nw st A):=λb o D=>by
 obtain⟨h1,h2⟩:=pq D;exact ox h1 (h _ _ h2)
def nw_r {st s1 A:ISt}(h:subSt st s1):subSt (nw s1 A) (nw st A):=λb o D=>by
 obtain⟨h1,h2⟩:=pq D;exact ox (nb h h1) h2
def Gp {st s1 E:ISt}{g:Nat}{o:Option IObj}(h:subSt s1 E):subSt ((nw st s1).put g none) ((nw st (E.put g o)).put g none):=λb x D=>by
 rw[ISt.put_apply] at D ⊢;split at D
 ·cases D
 ·rename_i A;rw[a_ A];obtain⟨h1,h2⟩:=pq D;exact ox h1 (by rw[de A];exact h _ _ h2)
def Gq {st s1 D:ISt}{g:Nat}{o:Option IObj}{x:IObj}(h:subSt st s1)(E:s1 g=some x):subSt (nw s1 D) ((nw st (D.put g o)).put g none):=λb y O=>by
 obtain⟨h1,h2⟩:=pq O;have A:b≠g:=by rintro rfl;rw[E] at h1;cases h1
 rw[de A];exact ox (nb h h1) (by rw[de A];exact h2)
def uB {e:TypeId×Bool×Nat×Nat}{b n cap:Nat}{y:IV}{cs cs':List IV}{R:Rt}{st:ISt}{ds:List Dfd}(E:st b=some (.box cs))(D:fits e.2.1 e.2.2.1 y=true)(h1:(n+1)*e.2.2.2<=140737488355328/\n+1<=140737488355328)(hc:n+1<=cap)(h2:cap*e.2.2.1<=cs.length)
  (A:eV cs (n*e.2.2.1) y.cells=cs') (h:∀st',st'=st.put b (some (.box cs'))->R (.val (.raw (.slice (some ⟨b,0,none⟩) (n+1) cap))) st' ds):appO e b 0 n cap [y] R st ds:=by
 subst A;have h:=h _ rfl;refine⟨⟨rfl,by simp[D]⟩,h1,yQ4.2 ⟨_,E,⟨by omega,h2⟩,λ_=>by simpa using h,λhd=>?_⟩⟩;exact absurd (dEt hc) (by simpa using hd)
def uC {cs rest c:List IV}{k:Nat}(h:cs.length=k):eV (cs++rest) k c=cs++c++rest.drop c.length:=by
 unfold eV;rw[List.take_left' h,<- h,List.drop_append,List.drop_eq_nil_of_le (by omega),gz];simp
def oz {k n:Nat}(h:k<=n):gK none (some ((k:Nat):Int)) n=some (0,k):=by
 simp only[gK,gm,fI];rw[b_ ⟨Int.le_refl _,by omega,by omega⟩];simp
def qA {st:ISt}{g:Nat}{cs:List IV}(h:flatSt st)(hc:∀c∈cs,je c):flatSt (st.put g (some (.box cs))):=h.put λx hx=>by cases hx;exact hc
def uD {st:ISt}{g:Nat}{cs:List IV}(h:flatSt st)(A:st g=some (.box cs)):∀c∈cs,je c:=h g _ A
def LTt.flat {T:ISt}{t:Tm}{c:List IV}(h:LTt T t c):∀x∈c,je x:=by
 cases t;simp only[LTt] at h;obtain⟨_,_,rfl,_⟩:=h;intro x hx;simp only[dC,e_,eu] at hx;rcases hx with rfl|rfl|rfl<;>trivial
def LFf.flat {T:ISt}{t:Fm}{c:List IV}(h:LFf T t c):∀x∈c,je x:=by
 cases t;simp only[LFf] at h;obtain⟨_,_,_,_,_,rfl,_⟩:=h;intro x hx;simp only[dC,e_,eu] at hx;rcases hx with rfl|rfl|rfl|rfl<;>trivial
def PM (k j:Nat):∀x∈mkC k j,je x:=by
 intro x hx;simp only[mkC,dC,e_,eu] at hx;rcases hx with rfl|rfl|rfl<;>first|trivial|rfl
def PN (k j:Nat):∀x∈mkD k j,je x:=by
 intro x hx;simp only[mkD,dC,e_,eu] at hx;rcases hx with rfl|rfl|rfl|rfl<;>first|trivial|rfl
def uE {cs c rest:List IV}{m:Nat}(h:∀x∈cs++rest,je x)(hc:∀x∈c,je x):∀x∈cs++c++rest.drop m,je x:=by
 intro x hx;rcases eX.1 hx with hx|hx
 ·rcases eX.1 hx with hx|hx
  ·exact h x (eX.2 (.inl hx))
  ·exact hc x hx
 ·exact h x (eX.2 (.inr (lG hx)))
def LTP (us:List Tm):Prop:=∀(D:Tag) (A:List IV) (_:okEs D 3) (_:IsTms us A) (_:dN us<=1099511627776) (st:ISt) (_:flatSt st),
 ICall prog gl 108 [.sl D A] st (λr st'=>∃a cs,r=.raw (.slice (some ⟨a,0,none⟩) us.length (us.length+12))/\nw st st' a=some (.box (cs++mksT 12))/\LTc (nw st st') us cs/\subSt st st'/\flatSt st')
def PO (v:Bool)(n:ByteArray)(us:List Tm)(IH:LTP gl us)(x:IV)(hx:IsTm (.mk v n us) x)(U:(Tm.mk v n us).size<=1099511627776)(st:ISt)(W:flatSt st) :
  ICall prog gl 138 [x] st (λr st'=>∃c,r=.agg c/\LTt (nw st st') (.mk v n us) c/\subSt st st'/\flatSt st'):=by
 obtain⟨O,cx,rfl,D,E⟩:=hx.mk;simp only[Tm.size] at U;have A:=IH O cx D E (by omega) st W;refine iI func138 ?_;simp only[go_sem,zE,zA];refine A.mono ?_;rintro _ st' ⟨a,cs,rfl,h1,h2,h3,h4⟩;simp only[go_sem,zE,zA,zL];exact dZ (λ_ _ h=>h) ⟨_,rfl,⟨a,cs,rfl,h1,h2⟩,h3,h4⟩
def LTt.all {T:ISt}{t:Tm}{c:List IV}(h:LTt T t c):c.all IV.one=true:=by
 cases t;simp only[LTt] at h;obtain⟨_,_,rfl,_⟩:=h;rfl
def LFf.all {T:ISt}{t:Fm}{c:List IV}(h:LFf T t c):c.all IV.one=true:=by
 cases t;simp only[LFf] at h;obtain⟨_,_,_,_,_,rfl,_⟩:=h;rfl
def PS (us:List Tm)(IH:∀v n l,Tm.mk v n l∈us->LTP gl l):LTP gl us:=by
 intro tg xs aF ak aS st hf;have aO:=mv us;have step:∀a∈us,∀(x:IV) (_:IsTm a x) (_:a.size<=1099511627776) (st:ISt) (_:flatSt st),ICall prog gl 138 [x] st (λr st'=>∃c,r=.agg c/\LTt (nw st st') a c/\subSt st st'/\flatSt st'):=λa ha x hx hs st hf=>by
  obtain⟨v,n,l⟩:=a;exact PO gl v n l (IH _ _ _ ha) x hx hs st hf
 have aD:IntKind.i64.wrap ((us.length:Int)+12)=((us.length+12:Nat):Int):=by rw[w64]<;>omega
 refine ICall.intro (c:=cf prog gl [10] []) func108 rfl (by show _<=39;simp) (by kernel_rfl) ?_;simp only[go_sem,reduceCtorEq,ak.len];intro _;simp only[go_sem,aD];refine gv ⟨by omega,by omega,by omega⟩ λg=>eB λhg=>?_;refine cV us.length (λk fr st' ds=>(∃cs rest,fr 3=.iv (.raw (.slice (some ⟨g,0,none⟩) k (us.length+12)))/\st' g=some (.box (cs++rest))/\rest.length=(us.length+12-k)*3/\LTc ((nw st st').put g none) (us.take k) cs/\subSt st st'/\flatSt st') /\
  fr 0=.iv (.sl tg xs)/\fr 4=.iv (.raw (.int .i64 k))/\ds=[]) ?_ ?_ ?_
 ·have au:∀c∈List.replicate ((us.length+12)*3) IV.junk,je c:=λc hc=>by
   obtain rfl:=lB hc;trivial
  have W:st.put g (some (.box (List.replicate ((us.length+12)*3) .junk))) g=some (.box ([]++List.replicate ((us.length+12)*3) .junk)):=cT ..;have D:=fj (o:=some (.box (List.replicate ((us.length+12)*3) .junk))) hg;have ah:=qA (g:=g) hf au;generalize st.put g (some (.box (List.replicate ((us.length+12)*3) .junk)))=aR at W D ah;simp only[go_sem,zE,reduceCtorEq];exact⟨⟨[],_,W,iX ..,rfl,D,ah⟩,rfl⟩
 ·rintro k fr af _ ao ⟨⟨cs,rest,f3,E,ag,ai,D,ah⟩,f0,f4,rfl⟩;obtain⟨a,ha⟩:=dd ao;obtain⟨x,aK,hx⟩:=ak.get ha;obtain⟨h1,h2⟩:=mr ha;have av:cs.length=k*3:=by rw[ai.len,dO];congr 1;omega
  have aw:=step a (lMg ha) x hx (by omega) af ah;obtain⟨v5,n5,t5,x5,rfl⟩:=hx.agg;simp only[go_sem,zE,zB,zA,reduceCtorEq,f0,f4,ak.len,lt_i ao,dc aF,iNn,aK,fits];intro _;refine aw.mono ?_;rintro _ aj ⟨c,rfl,hc,U,O⟩;have aq:=hc.len;have ae:fits true 3 (.agg c)=true:=by rw[zQ,aq,hc.all];rfl
  have aE:c.take 3=c:=gA (by omega);simp only[go_sem,zE,zA,zM,zL,f3,aE,aq,hc.all,fits,dP];refine uB (U _ _ E) ae ⟨by simp only;omega,by omega⟩ (by omega) (by simp only[lLa];omega) (uC (by exact av)) λaa A=>?_;have ar:aa g=some (.box (cs++c++rest.drop c.length)):=by rw[A];exact cT ..
  have aB:LTc ((nw st aa).put g none) (us.take (k+1)) (cs++c):=by
   rw[dK ha,A];exact LTc.snoc (hc.mono (Gq D E)) (ai.mono (Gp U))
  have am:subSt st aa:=λb o W=>by
   have an:b≠g:=by rintro rfl;rw[hg] at W;cases W
   rw[A,de an];exact U _ _ (D _ _ W)
  have ac:flatSt aa:=by rw[A];exact qA O (uE (uD O (U _ _ E)) hc.flat)
  simp only[go_sem,zE,reduceCtorEq,f0,f4,df ao (by omega)]
  first
   | exact⟨cs++c,rest.drop c.length,rfl,ar,by rw[fp,ag,aq];omega,aB,am,ac⟩
   | exact⟨cs++c,rest.drop c.length,ar,by rw[fp,ag,aq];omega,aB,am,ac⟩
 ·rintro fr af _ ⟨⟨cs,rest,f3,E,ag,ai,D,ah⟩,f0,f4,rfl⟩;rw[lTl] at ai;have av:cs.length=us.length*3:=ai.len;simp only[go_sem,zE,reduceCtorEq,f0,f4,ak.len,dD (nLi _)];intro _;refine cV 12 (λi fr st' ds=>(∃rest,fr 3=.iv (.raw (.slice (some ⟨g,0,none⟩) (us.length+i) (us.length+12)))/\st' g=some (.box (cs++mksT i++rest))/\rest.length=(12-i)*3/\(∀b,b≠g->st' b=af b)/\flatSt st') /\
   fr 0=.iv (.sl tg xs)/\fr 6=.iv (.raw (.int .i64 i))/\ds=[]) ?_ ?_ ?_
  ·have aA:af g=some (.box (cs++mksT 0++rest)):=by simpa[mksT] using E
   have ay:rest.length=(12-0)*3:=by omega
   simp only[go_sem,zE,zM,reduceCtorEq,f0,f3];exact⟨⟨rest,aA,ay,λ_ _=>trivial,ah⟩,rfl⟩
  ·rintro i fr aj _ ao ⟨⟨rest,f3,E,ag,ab,O⟩,f0,f6,rfl⟩;have aJ:=zo gl 1 i aj;have az:(cs++mksT i).length=(us.length+i)*3:=by rw[lLa,av,pk];omega
   simp only[go_sem,zE,zA,f3,f6,show decide (((i:Nat):Int)<12)=true from dEt (by omega)];refine aJ.mono ?_;rintro _ aj ⟨rfl,rfl⟩;have ae:fits true 3 (.agg (mkC 1 i))=true:=rfl;simp only[go_sem,zE,zA,zM,zL,ae,dP];refine uB E ae ⟨by simp only;omega,by omega⟩ (by omega) (by rw[lLa,az];simp only;omega) (uC (by exact az)) λaa A=>?_;have ar:aa g=some (.box (cs++mksT (i+1)++rest.drop (mkC 1 i).length)):=by rw[A,cT,mksT];simp only[IV.cells,fA]
   have aH:(rest.drop (mkC 1 i).length).length=(12-(i+1))*3:=by rw[fp,ag];simp only[mkC,eG,fN];omega
   have aI:∀b,b≠g->aa b=af b:=λb W=>by rw[A,de W];exact ab b W
   have ac:flatSt aa:=by rw[A];exact qA O (uE (uD O E) (PM 1 i))
   simp only[go_sem,zE,reduceCtorEq,f0,f6,show IntKind.i64.wrap (((i:Nat):Int)+1)=((i+1:Nat):Int) by rw[w64]<;>omega,fa];exact⟨_,ar,aH,aI,ac⟩
  ·rintro fr aj _ ⟨⟨rest,f3,E,ag,ab,O⟩,f0,f6,rfl⟩;obtain rfl:rest=[]:=eN (by omega);rw[fH] at E;simp only[go_sem,zE,zL,reduceCtorEq,f0,f3,f6,ak.len,show decide (((12:Nat):Int)<12)=false from rfl];intro _;simp only[go_sem,reduceCtorEq,dz,oz (show us.length<=us.length+12 by omega),fY];have aG:subSt ((nw st af).put g none) (nw st aj):=λb o W=>by
    rw[ISt.put_apply] at W;split at W
    ·cases W
    ·rename_i an;obtain⟨h1,h2⟩:=pq W;exact ox h1 (by rw[ab b an];exact h2)
   refine cO ⟨g,cs,rfl,ox hg E,ai.mono aG,λb o W=>?_,O⟩;have an:b≠g:=by rintro rfl;rw[hg] at W;cases W
   rw[ab b an];exact D _ _ W
def Gr:∀(k:Nat)(us:List Tm),SizeOf.sizeOf us<k->LTP gl us
 | 0,f,h=>by omega
 | k+1,us,h=>PS gl us (λv n l A=>Gr k l (by
   have:=lSm A;simp at this;omega))
def PT (us:List Tm):LTP gl us:=Gr gl _ us (dM _)
def LFP (a:Fm):Prop:=∀(x:IV) (_:IsFm a x) (_:a.size<=1099511627776) (st:ISt) (_:flatSt st),ICall prog gl 67 [x] st (λr st'=>∃c,r=.agg c/\LFf (nw st st') a c/\subSt st st'/\flatSt st')
def Gs (us:List Fm)(IH:∀a∈us,LFP gl a)(tg:Tag)(xs:List IV)(aH:okEs tg 4)(ak:IsFms us xs)(aR:dt us<=1099511627776)(st:ISt)(hf:flatSt st) :
  ICall prog gl 34 [.sl tg xs] st (λr st'=>∃a cs,r=.raw (.slice (some ⟨a,0,none⟩) us.length (us.length+12))/\nw st st' a=some (.box (cs++mksF 12))/\LFc (nw st st') us cs/\subSt st st'/\flatSt st'):=by
 have aN:=h_ us;have aF:IntKind.i64.wrap ((us.length:Int)+12)=((us.length+12:Nat):Int):=by rw[w64]<;>omega
 refine ICall.intro (c:=cf prog gl [10] []) func34 rfl (by show _<=39;simp) (by kernel_rfl) ?_;simp only[go_sem,reduceCtorEq,ak.len];intro _;simp only[go_sem,aF];refine gv ⟨by omega,by omega,by omega⟩ λg=>eB λhg=>?_;refine cV us.length (λk fr st' ds=>(∃cs rest,fr 3=.iv (.raw (.slice (some ⟨g,0,none⟩) k (us.length+12)))/\st' g=some (.box (cs++rest))/\rest.length=(us.length+12-k)*4/\LFc ((nw st st').put g none) (us.take k) cs/\subSt st st'/\flatSt st') /\
  fr 0=.iv (.sl tg xs)/\fr 4=.iv (.raw (.int .i64 k))/\ds=[]) ?_ ?_ ?_
 ·have au:∀c∈List.replicate ((us.length+12)*4) IV.junk,je c:=λc hc=>by
   obtain rfl:=lB hc;trivial
  have W:st.put g (some (.box (List.replicate ((us.length+12)*4) .junk))) g=some (.box ([]++List.replicate ((us.length+12)*4) .junk)):=cT ..;have D:=fj (o:=some (.box (List.replicate ((us.length+12)*4) .junk))) hg;have ah:=qA (g:=g) hf au;generalize st.put g (some (.box (List.replicate ((us.length+12)*4) .junk)))=aO at W D ah;simp only[go_sem,zE,reduceCtorEq];exact⟨⟨[],_,W,iX ..,rfl,D,ah⟩,rfl⟩
 ·rintro k fr af _ ao ⟨⟨cs,rest,f3,E,ag,ai,D,ah⟩,f0,f4,rfl⟩;obtain⟨a,ha⟩:=dd ao;obtain⟨x,aM,hx⟩:=ak.get ha;obtain⟨h1,h2⟩:=jK ha;have av:cs.length=k*4:=by rw[ai.len,dO];congr 1;omega
  have aw:=IH a (lMg ha) x hx (by omega) af ah;obtain⟨v5,n5,t5,x5,t6,x6,rfl⟩:=hx.agg;simp only[go_sem,zE,zB,zA,reduceCtorEq,f0,f4,ak.len,lt_i ao,dc aH,iNn,aM,fits];intro _;refine aw.mono ?_;rintro _ aj ⟨c,rfl,hc,U,O⟩;have aq:=hc.len;have ae:fits true 4 (.agg c)=true:=by rw[zQ,aq,hc.all];rfl
  have aG:c.take 4=c:=gA (by omega);simp only[go_sem,zE,zA,zM,zL,f3,aG,aq,hc.all,fits,dP];refine uB (U _ _ E) ae ⟨by simp only;omega,by omega⟩ (by omega) (by simp only[lLa];omega) (uC (by exact av)) λaa A=>?_;have ar:aa g=some (.box (cs++c++rest.drop c.length)):=by rw[A];exact cT ..
  have aA:LFc ((nw st aa).put g none) (us.take (k+1)) (cs++c):=by
   rw[dK ha,A];exact LFc.snoc (hc.mono (Gq D E)) (ai.mono (Gp U))
  have am:subSt st aa:=λb o W=>by
   have an:b≠g:=by rintro rfl;rw[hg] at W;cases W
   rw[A,de an];exact U _ _ (D _ _ W)
  have ac:flatSt aa:=by rw[A];exact qA O (uE (uD O (U _ _ E)) hc.flat)
  simp only[go_sem,zE,reduceCtorEq,f0,f4,df ao (by omega)]
  first
   | exact⟨cs++c,rest.drop c.length,rfl,ar,by rw[fp,ag,aq];omega,aA,am,ac⟩
   | exact⟨cs++c,rest.drop c.length,ar,by rw[fp,ag,aq];omega,aA,am,ac⟩
 ·rintro fr af _ ⟨⟨cs,rest,f3,E,ag,ai,D,ah⟩,f0,f4,rfl⟩;rw[lTl] at ai;have av:cs.length=us.length*4:=ai.len;simp only[go_sem,zE,reduceCtorEq,f0,f4,ak.len,dD (nLi _)];intro _;refine cV 12 (λi fr st' ds=>(∃rest,fr 3=.iv (.raw (.slice (some ⟨g,0,none⟩) (us.length+i) (us.length+12)))/\st' g=some (.box (cs++mksF i++rest))/\rest.length=(12-i)*4/\(∀b,b≠g->st' b=af b)/\flatSt st') /\
   fr 0=.iv (.sl tg xs)/\fr 6=.iv (.raw (.int .i64 i))/\ds=[]) ?_ ?_ ?_
  ·have az:af g=some (.box (cs++mksF 0++rest)):=by simpa[mksF] using E
   have ax:rest.length=(12-0)*4:=by omega
   simp only[go_sem,zE,zM,reduceCtorEq,f0,f3];exact⟨⟨rest,az,ax,λ_ _=>trivial,ah⟩,rfl⟩
  ·rintro i fr aj _ ao ⟨⟨rest,f3,E,ag,ab,O⟩,f0,f6,rfl⟩;have aL:=zp gl 1 i aj;have ay:(cs++mksF i).length=(us.length+i)*4:=by rw[lLa,av,pn];omega
   simp only[go_sem,zE,zA,f3,f6,show decide (((i:Nat):Int)<12)=true from dEt (by omega)];refine aL.mono ?_;rintro _ aj ⟨rfl,rfl⟩;have ae:fits true 4 (.agg (mkD 1 i))=true:=rfl;simp only[go_sem,zE,zA,zM,zL,ae,dP];refine uB E ae ⟨by simp only;omega,by omega⟩ (by omega) (by rw[lLa,ay];simp only;omega) (uC (by exact ay)) λaa A=>?_;have ar:aa g=some (.box (cs++mksF (i+1)++rest.drop (mkD 1 i).length)):=by rw[A,cT,mksF];simp only[IV.cells,fA]
   have aJ:(rest.drop (mkD 1 i).length).length=(12-(i+1))*4:=by rw[fp,ag];simp only[mkD,eG,fN];omega
   have aK:∀b,b≠g->aa b=af b:=λb W=>by rw[A,de W];exact ab b W
   have ac:flatSt aa:=by rw[A];exact qA O (uE (uD O E) (PN 1 i))
   simp only[go_sem,zE,reduceCtorEq,f0,f6,show IntKind.i64.wrap (((i:Nat):Int)+1)=((i+1:Nat):Int) by rw[w64]<;>omega,fa];exact⟨_,ar,aJ,aK,ac⟩
  ·rintro fr aj _ ⟨⟨rest,f3,E,ag,ab,O⟩,f0,f6,rfl⟩;obtain rfl:rest=[]:=eN (by omega);rw[fH] at E;simp only[go_sem,zE,zL,reduceCtorEq,f0,f3,f6,ak.len,show decide (((12:Nat):Int)<12)=false from rfl];intro _;simp only[go_sem,reduceCtorEq,dz,oz (show us.length<=us.length+12 by omega),fY];have aI:subSt ((nw st af).put g none) (nw st aj):=λb o W=>by
    rw[ISt.put_apply] at W;split at W
    ·cases W
    ·rename_i an;obtain⟨h1,h2⟩:=pq W;exact ox h1 (by rw[ab b an];exact h2)
   refine cO ⟨g,cs,rfl,ox hg E,ai.mono aI,λb o W=>?_,O⟩;have an:b≠g:=by rintro rfl;rw[hg] at W;cases W
   rw[ab b an];exact D _ _ W
def PU (op:Nat)(n:ByteArray)(us:List Tm)(sub:List Fm)(IH:∀a∈sub,LFP gl a):LFP gl (.mk op n us sub):=by
 intro x hx W st A;obtain⟨t1,E,t2,D,rfl,ho,e1,i1,e2,i2⟩:=hx.mk;simp only[Fm.size] at W;have h1:=PT gl us t1 E e1 i1 (by omega) st A;have h2:=λst A=>Gs gl sub IH t2 D e2 i2 (by omega) st A;refine iI func67 ?_;simp only[go_sem,zE,zA];refine h1.mono ?_;rintro _ U ⟨a,cs,rfl,a1,a2,a3,a4⟩;simp only[go_sem,zE,zA,zL];refine (h2 _ a4).mono ?_;rintro _ O ⟨b,ds,rfl,b1,b2,b3,b4⟩;simp only[go_sem,zE,zA,zL];exact dZ (λ_ _ h=>h) ⟨_,rfl,⟨a,cs,b,ds,ho,rfl,nw_l b3 _ _ a1,a2.mono (nw_l b3),nw_r a3 _ _ b1,b2.mono (nw_r a3)⟩,λ_ _ h=>b3 _ _ (a3 _ _ h),b4⟩
def Gu:∀(k:Nat)(a:Fm),SizeOf.sizeOf a<k->LFP gl a
 | 0,f,h=>by omega
 | k+1,.mk o n us sub,h=>PU gl o n us sub (λa A=>Gu k a (by
   have:=lSm A;simp at h;omega))
def PV (a:Fm):LFP gl a:=Gu gl _ a (dM _)
def Gv (us:List Fm)(D:Tag)(A:List IV)(O:okEs D 4)(E:IsFms us A)(U:dt us<=1099511627776)(st:ISt)(W:flatSt st) :
  ICall prog gl 34 [.sl D A] st (λr st'=>∃a cs,r=.raw (.slice (some ⟨a,0,none⟩) us.length (us.length+12))/\nw st st' a=some (.box (cs++mksF 12))/\LFc (nw st st') us cs/\subSt st st'/\flatSt st') :=
 Gs gl us (λa _=>PV gl a) D A O E U st W
def LSq (T:ISt)(s:Sq)(x:IV):Prop:=∃a cs b ds,x=.agg [.raw (.slice (some ⟨a,0,none⟩) s.l.length (s.l.length+12)),.raw (.slice (some ⟨b,0,none⟩) s.r.length (s.r.length+12))]/\T a=some (.box (cs++mksF 12))/\LFc T s.l cs/\T b=some (.box (ds++mksF 12))/\LFc T s.r ds
def LSq.mono {T T':ISt}{s:Sq}{x:IV}(h:subSt T T')(k:LSq T s x):LSq T' s x:=by
 obtain⟨a,cs,b,ds,h1,h2,E,D,A⟩:=k;exact⟨a,cs,b,ds,h1,h _ _ h2,E.mono h,h _ _ D,A.mono h⟩
def PW (s:Sq)(x:IV)(hx:IsSq s x)(hl:dt s.l<=1099511627776)(W:dt s.r<=1099511627776)(st:ISt)(A:flatSt st) :
  ICall prog gl 12 [x] st (λr st'=>LSq (nw st st') s r/\subSt st st'/\flatSt st'):=by
 obtain⟨t1,E,t2,D,rfl,e1,i1,e2,i2⟩:=hx;have h1:=Gv gl s.l t1 E e1 i1 hl st A;have h2:=λst A=>Gv gl s.r t2 D e2 i2 W st A;refine iI func12 ?_;simp only[go_sem,zE,zA];refine h1.mono ?_;rintro _ U ⟨a,cs,rfl,a1,a2,a3,a4⟩;simp only[go_sem,zE,zA,zL];refine (h2 _ a4).mono ?_;rintro _ O ⟨b,ds,rfl,b1,b2,b3,b4⟩;simp only[go_sem,zE,zA,zL];exact dZ (λ_ _ h=>h) ⟨⟨a,cs,b,ds,rfl,nw_l b3 _ _ a1,a2.mono (nw_l b3),nw_r a3 _ _ b1,b2.mono (nw_r a3)⟩,λ_ _ h=>b3 _ _ (a3 _ _ h),b4⟩
def OIc (T:ISt)(cs ds:List IV):Prop:=cs.length=ds.length/\∀(i:Nat) (r c:IV),cs[i]?=some r->ds[i]?=some c->OI T r c
def OIc.nil (T:ISt):OIc T [] []:=⟨rfl,λi r c h=>by simp at h⟩
def OIc.cons {T:ISt}{r c:IV}{cs ds:List IV}(h:OI T r c)(k:OIc T cs ds):OIc T (r::cs) (c::ds) :=
 ⟨by simp[k.1],λi a b D A=>by
  cases i with
  | zero=>cases D;cases A;exact h
  | succ i=>exact k.2 i a b (by simpa using D) (by simpa using A)⟩
def OIc.append {T:ISt}{cs ds:List IV}:∀ {us A:List IV},OIc T us A->OIc T cs ds->OIc T (us++cs) (A++ds)
 | [],[],_,k=>k
 | [],_::_,h,_=>by cases h.1
 | _::_,[],h,_=>by cases h.1
 | a::us,b::A,h,k=>OIc.cons (h.2 0 a b rfl rfl) (OIc.append ⟨by have:=h.1;simpa using this,λi r c D hc=>h.2 (i+1) r c (by simpa using D) (by simpa using hc)⟩ k)
def OIc.front {T:ISt}{cs ds rest:List IV}(h:OIc T cs ds)(i:Nat)(r c:IV)(A:(cs++rest)[i]?=some r)(hc:ds[i]?=some c):OI T r c:=by
 have D:=(lGs hc).1;rw[fP (by rw[h.1];exact D)] at A;exact h.2 i r c A hc
def OIc.agg {T:ISt}{cs ds:List IV}(h:OIc T cs ds):OI T (.agg cs) (.agg ds):=.agg _ _ h.1 h.2
def zu:∀ {l:List Tm}{A:List IV},IsTms l A->∀x∈A,x.cells.length=3
 | [],A,h,x,hx=>by simp only[IsTms] at h;subst h;cases hx
 | a::l,A,h,x,hx=>by
  obtain⟨y,ys,rfl,D,h⟩:=h;rcases dC.1 hx with rfl|hx
  ·obtain⟨_,_,_,_,rfl⟩:=D.agg;rfl
  ·exact zu h x hx
def _root_.Go.Iv.IsSq.aged {s:Sq}{x:IV}(h:IsSq s x):IsSq s (age x):=by
 obtain⟨t1,O,t2,E,rfl,D,i1,A,i2⟩:=h;exact⟨_,_,_,_,by simp only[age,ages],jJ D,i1.aged,jJ A,i2.aged⟩
mutual
def LTt.oi {T:ISt}:∀ {t:Tm} {c:List IV},LTt T t c->t.size<=1099511627776->∃x,IsTm t x/\OIc T c x.cells
 | .mk v n E,c,h,U=>by
  simp only[LTt] at h;obtain⟨a,cs,rfl,hb,hc⟩:=h;simp only[Tm.size] at U;obtain⟨D,A,W⟩:=LTc.oi hc (by omega);have hl:=A.len;have O:=mv E;refine⟨.agg [v,n,.sl ⟨true,.app a,3⟩ D],⟨_,_,rfl,.inr rfl,A⟩,.cons (.refl _) (.cons (.refl _) (.cons ?_ (.nil _)))⟩;rw[<- hl];exact .sl a _ _ D _ rfl (by omega) (by omega) (zu A) hb (by rw[lLa,hc.len,pk];simp only;omega) (W.front (rest:=mksT 12))
def LTc.oi {T:ISt}:∀ {l:List Tm} {c:List IV},LTc T l c->dN l<=1099511627776->∃A,IsTms l A/\OIc T c (A.flatMap IV.cells)
 | [],c,h,_=>by
  simp only[LTc] at h;subst h;exact⟨[],rfl,.nil _⟩
 | t::l,c,h,U=>by
  simp only[LTc] at h;obtain⟨a,b,rfl,h2,W⟩:=h;simp only[dN] at U;obtain⟨x,hx,O⟩:=LTt.oi h2 (by omega);obtain⟨A,E,D⟩:=LTc.oi W (by omega);exact⟨x::A,⟨x,A,rfl,hx,E⟩,by rw[ff];exact OIc.append O D⟩
end
mutual
def LFf.oi {T:ISt}:∀ {t:Fm} {c:List IV},LFf T t c->t.size<=1099511627776->∃x,IsFm t x/\OIc T c x.cells
 | .mk o n ws sub,c,h,hs=>by
  simp only[LFf] at h;obtain⟨a,cs,b,ds,ho,rfl,hb,hc,hd,W⟩:=h;simp only[Fm.size] at hs;obtain⟨O,A,E⟩:=LTc.oi hc (by omega);obtain⟨ys,hys,D⟩:=LFc.oi W (by omega);have hl:=A.len;have hm:=hys.len;have ac:=mv ws;have U:=h_ sub;refine⟨.agg [.raw (.int .u8 o),n,.sl ⟨true,.app a,3⟩ O,.sl ⟨true,.app b,4⟩ ys],⟨_,_,_,_,rfl,ho,.inr rfl,A,.inr rfl,hys⟩,.cons (.refl _) (.cons (.refl _) (.cons ?_ (.cons ?_ (.nil _))))⟩
  ·rw[<- hl];exact .sl a _ _ O _ rfl (by omega) (by omega) (zu A) hb (by rw[lLa,hc.len,pk];simp only;omega) (E.front (rest:=mksT 12))
  ·rw[<- hm];exact .sl b _ _ ys _ rfl (by omega) (by omega) (λy hy=>tY (pe hys y hy)) hd (by rw[lLa,W.len,pn];simp only;omega) (D.front (rest:=mksF 12))
def LFc.oi {T:ISt}:∀ {l:List Fm} {c:List IV},LFc T l c->dt l<=1099511627776->∃A,IsFms l A/\OIc T c (A.flatMap IV.cells)
 | [],c,h,_=>by
  simp only[LFc] at h;subst h;exact⟨[],rfl,.nil _⟩
 | t::l,c,h,U=>by
  simp only[LFc] at h;obtain⟨a,b,rfl,h2,W⟩:=h;simp only[dt] at U;obtain⟨x,hx,O⟩:=LFf.oi h2 (by omega);obtain⟨A,E,D⟩:=LFc.oi W (by omega);exact⟨x::A,⟨x,A,rfl,hx,E⟩,by rw[ff];exact OIc.append O D⟩
end
def LTt.agg {T:ISt}{t:Tm}{c:List IV}(h:LTt T t c)(A:t.size<=1099511627776):∃x,IsTm t x/\OI T (.agg c) x:=by
 obtain⟨x,hx,D⟩:=h.oi A;obtain⟨_,_,_,_,rfl⟩:=hx.agg;exact⟨_,hx,D.agg⟩
def LFf.agg {T:ISt}{t:Fm}{c:List IV}(h:LFf T t c)(A:t.size<=1099511627776):∃x,IsFm t x/\OI T (.agg c) x:=by
 obtain⟨x,hx,D⟩:=h.oi A;obtain⟨_,_,_,_,_,_,rfl⟩:=hx.agg;exact⟨_,hx,D.agg⟩
def LFc.sl {T:ISt}{l:List Fm}{c:List IV}{a:Nat}(h:LFc T l c)(hb:T a=some (.box (c++mksF 12)))(U:dt l<=1099511627776):∃D,IsFms l D/\OI T (.raw (.slice (some ⟨a,0,none⟩) l.length (l.length+12))) (.sl ⟨true,.app a,4⟩ D):=by
 obtain⟨ys,hys,A⟩:=h.oi U;have W:=hys.len;have E:=h_ l;refine⟨ys,hys,?_⟩;rw[<- W];exact .sl a _ _ ys _ rfl (by omega) (by omega) (λy O=>tY (pe hys y O)) hb (by rw[lLa,h.len,pn];simp only;omega) (A.front (rest:=mksF 12))
def LSq.oi {T:ISt}{s:Sq}{x:IV}(h:LSq T s x)(W:dt s.l<=1099511627776)(O:dt s.r<=1099511627776):∃y,IsSq s y/\OI T x y:=by
 obtain⟨a,cs,b,ds,rfl,h2,h3,h4,h5⟩:=h;obtain⟨E,A,U⟩:=h3.sl h2 W;obtain⟨ys,hys,D⟩:=h5.sl h4 O;exact⟨.agg [.sl ⟨true,.app a,4⟩ E,.sl ⟨true,.app b,4⟩ ys],⟨_,_,_,_,rfl,.inr rfl,A,.inr rfl,hys⟩,(OIc.cons U (.cons D (.nil _))).agg⟩
def tmPF:FuncId->List IV->Option IV
 | g,[.raw (.int .i64 k),.raw (.int .i64 i)]=>if g=126/\0<=k/\0<=i then some (.agg (mkC k.toNat i.toNat)) else none
 | _,_=>none
def fmPF:FuncId->List IV->Option IV
 | g,[.raw (.int .i64 k),.raw (.int .i64 i)]=>if g=68/\0<=k/\0<=i then some (.agg (mkD k.toNat i.toNat)) else none
 | _,_=>none
def PX:∀g us v,tmPF g us=some v->entI prog g=true/\∀st,ICall prog gl g us st (λr st'=>r=v/\st'=st):=by
 intro g us v h;unfold tmPF at h;split at h
 ·rename_i k i;split at h
  ·rename_i hc;obtain⟨rfl,A,D⟩:=hc;cases h;refine⟨by simp only[go_sem],λst=>?_⟩;have:=zo gl k.toNat i.toNat st
   rwa [Int.toNat_of_nonneg A,Int.toNat_of_nonneg D] at this
  ·cases h
 ·cases h
def PY:∀g us v,fmPF g us=some v->entI prog g=true/\∀st,ICall prog gl g us st (λr st'=>r=v/\st'=st):=by
 intro g us v h;unfold fmPF at h;split at h
 ·rename_i k i;split at h
  ·rename_i hc;obtain⟨rfl,A,D⟩:=hc;cases h;refine⟨by simp only[go_sem],λst=>?_⟩;have:=zp gl k.toNat i.toNat st
   rwa [Int.toNat_of_nonneg A,Int.toNat_of_nonneg D] at this
  ·cases h
 ·cases h
def PZ (j:Nat):tmPF 126 [.raw (.int .i64 1),.raw (.int .i64 (j:Int))]=some (.agg (mkC 1 j)):=by simp[tmPF]
def P0 (j:Nat):fmPF 68 [.raw (.int .i64 1),.raw (.int .i64 (j:Int))]=some (.agg (mkD 1 j)):=by simp[fmPF]
def LTc.get {T:ISt}:∀ {l:List Tm} {cs rest:List IV} {k:Nat} {t:Tm},LTc T l cs->l[k]?=some t->∃c,LTt T t c/\k*3+3<=(cs++rest).length/\((cs++rest).drop (k*3)).take 3=c
 | [],_,_,k,_,_,h=>by simp at h
 | a::l,cs,rest,0,t,h,A=>by
  simp only[LTc] at h;obtain⟨c,d,rfl,h2,U⟩:=h;cases A;refine⟨c,h2,by simp only[lLa,h2.len];omega,?_⟩;rw[fY,List.drop_zero,fA,List.take_left' h2.len]
 | a::l,cs,rest,k+1,t,h,A=>by
  simp only[LTc] at h;obtain⟨c,d,rfl,h2,U⟩:=h;obtain⟨e,O,E,D⟩:=LTc.get (rest:=rest) U (by simpa using A);have hc:=h2.len;refine⟨e,O,by simp only[lLa] at E ⊢;omega,?_⟩;rw[fA,show (k+1)*3=c.length+k*3 by omega,<- kC,jR];exact D
def LFc.get {T:ISt}:∀ {l:List Fm} {cs rest:List IV} {k:Nat} {t:Fm},LFc T l cs->l[k]?=some t->∃c,LFf T t c/\k*4+4<=(cs++rest).length/\((cs++rest).drop (k*4)).take 4=c
 | [],_,_,k,_,_,h=>by simp at h
 | a::l,cs,rest,0,t,h,A=>by
  simp only[LFc] at h;obtain⟨c,d,rfl,h2,U⟩:=h;cases A;refine⟨c,h2,by simp only[lLa,h2.len];omega,?_⟩;rw[fY,List.drop_zero,fA,List.take_left' h2.len]
 | a::l,cs,rest,k+1,t,h,A=>by
  simp only[LFc] at h;obtain⟨c,d,rfl,h2,U⟩:=h;obtain⟨e,O,E,D⟩:=LFc.get (rest:=rest) U (by simpa using A);have hc:=h2.len;refine⟨e,O,by simp only[lLa] at E ⊢;omega,?_⟩;rw[fA,show (k+1)*4=c.length+k*4 by omega,<- kC,jR];exact D
def Gw:∀ {m j:Nat},j<m->((mksT m).drop (j*3)).take 3=mkC 1 j
 | m+1,j,h=>by
  simp only[mksT];by_cases A:j=m
  ·subst A;rw[List.drop_left' (pk j)];rfl
  ·have:=Gw (show j<m by omega);have D:=pk m;rw[List.drop_append_of_le_length (by omega),gP (by rw[fp];omega)];exact this
def Gx:∀ {m j:Nat},j<m->((mksF m).drop (j*4)).take 4=mkD 1 j
 | m+1,j,h=>by
  simp only[mksF];by_cases A:j=m
  ·subst A;rw[List.drop_left' (pn j)];rfl
  ·have:=Gx (show j<m by omega);have D:=pn m;rw[List.drop_append_of_le_length (by omega),gP (by rw[fp];omega)];exact this
def P1 (k j:Nat):IsTm (.mk false (mkT k j) []) (.agg (mkC k j)):=⟨_,_,rfl,.inl rfl,rfl⟩
def P2 (k j:Nat):IsFm (.mk 0 (mkT k j) [] []) (.agg (mkD k j)):=⟨_,_,_,_,rfl,by omega,.inl rfl,rfl,.inl rfl,rfl⟩
def P3 {st:ISt}(h:flatSt st):∀b o,st b=some o->(∃cs,o=.box cs)\/rm o:=λb o A=>.inr (h b o A)
def Gy {st:ISt}{x A y:IV}(D:OI st x A):Lents st [x,y] [age A,y]:=⟨_,_,rfl,.inr ⟨A,D,rfl⟩,_,_,rfl,.inl rfl,rfl⟩
def uF {f:FuncId}{x A y:IV}{b:Bool}{st T:ISt}(E:flatSt st)(O:subSt T st)(D:OI T x A)(h:∀st,ICall prog gl f [age A,y] st (λr st'=>r=b/\st'=st)) :
  ICall prog gl f [x,y] st (λr st'=>r=b/\st'=st) :=
 (ICall.lent (K:=λr=>r=b) (P3 E) (Gy (D.mono λ_ _ h=>O _ _ h)) ((h (gS st)).mono λr st' k=>⟨k.2,by rw[k.1];trivial,k.1⟩)).mono λr st' k=>⟨k.2,k.1⟩
def KTP (us:List Tm):Prop:=∀(D:Tag) (A:List IV) (_:okEs D 3) (_:IsTms us A) (_:dN us<=1099511627776) (a:Nat) (cs:List IV) (st:ISt) (_:flatSt st) (_:st a=some (.box (cs++mksT 12))) (_:LTc st us cs),
 ICall prog gl 127 [.raw (.slice (some ⟨a,0,none⟩) us.length (us.length+12)),.sl D A] st (λr st'=>r=true/\st'=st)
def KFP (us:List Fm):Prop:=∀(D:Tag) (A:List IV) (_:okEs D 4) (_:IsFms us A) (_:dt us<=1099511627776) (a:Nat) (cs:List IV) (st:ISt) (_:flatSt st) (_:st a=some (.box (cs++mksF 12))) (_:LFc st us cs),
 ICall prog gl 56 [.raw (.slice (some ⟨a,0,none⟩) us.length (us.length+12)),.sl D A] st (λr st'=>r=true/\st'=st)
def P4 (v:Bool)(n:ByteArray)(us:List Tm)(IH:KTP gl us)(x:IV)(hx:IsTm (.mk v n us) x)(E:(Tm.mk v n us).size<=1099511627776)(c:List IV)(st:ISt)(O:flatSt st)(hc:LTt st (.mk v n us) c) :
  ICall prog gl 166 [.agg c,x] st (λr st'=>r=true/\st'=st):=by
 obtain⟨y,W,ho⟩:=hc.agg E;have h1:=uF gl O (subSt.refl _) ho (λst=>xA gl _ _ _ _ W.aged hx st);rw[yZ5.2 rfl] at h1;simp only[LTt] at hc;obtain⟨a,cs,rfl,hb,hc⟩:=hc;obtain⟨U,cx,rfl,A,D⟩:=hx.mk;simp only[Tm.size] at E;have h2:=IH U cx A D (by omega) a cs st O hb hc;refine iI func166 ?_;simp only[go_sem,zE,zA,zL];refine h1.mono ?_;rintro _ st ⟨rfl,rfl⟩;simp only[go_sem,zE,zA];refine h2.mono ?_;rintro _ st ⟨rfl,rfl⟩;simp only[go_sem,zE];exact cO ⟨rfl,rfl⟩
def Gz (k j:Nat):IsTm (.mk false (mkT k j) []) (.agg (mkC k j)):=P1 k j
def GA (k j:Nat):IsFm (.mk 0 (mkT k j) [] []) (.agg (mkD k j)):=P2 k j
def P5 (us:List Tm)(IH:∀v n l,Tm.mk v n l∈us->KTP gl l):KTP gl us:=by
 intro tg xs af D av a cs st hf hb hc;have ak:=mv us;have step:∀t∈us,∀(x:IV) (_:IsTm t x) (_:t.size<=1099511627776) (c:List IV) (_:LTt st t c),ICall prog gl 166 [.agg c,x] st (λr st'=>r=true/\st'=st):=λt ht x hx hs c hc=>by
  obtain⟨v,n,l⟩:=t;exact P4 gl v n l (IH _ _ _ ht) x hx hs c st hf hc
 have ai:(cs++mksT 12).length=(us.length+12)*3:=by rw[lLa,hc.len,pk];omega
 have ae:IntKind.i64.wrap ((us.length:Int)+12)=((us.length+12:Nat):Int):=by rw[w64]<;>omega
 refine ICall.intro (c:=cfp prog gl [31,48,1000126] [] tmPF (PX gl)) func127 rfl (by show _<=58;simp) (by kernel_rfl) ?_;simp only[go_sem,zE,reduceCtorEq,D.len,dR];intro _;simp only[go_sem,reduceCtorEq,ae,Nat.le_add_right,oz (dz (us.length+12)),fY];intro _;refine cV (us.length+12) (λk fr st' ds=>fr 0=.iv (.raw (.slice (some ⟨a,0,none⟩) us.length (us.length+12)))/\fr 1=.iv (.sl tg xs)/\fr 5=.iv (.raw (.slice (some ⟨a,0,none⟩) (us.length+12) (us.length+12)))/\fr 6=.iv (.raw (.int .i64 k))/\st'=st/\ds=[]) ?_ ?_ ?_
 ·simp only[go_sem,zE,reduceCtorEq]
  first|rfl|exact⟨rfl,rfl⟩
 ·rintro k fr st _ A ⟨f0,f1,f5,f6,rfl,rfl⟩;by_cases hk:k<us.length
  ·obtain⟨t,ht⟩:=dd hk;obtain⟨y,ag,hy⟩:=D.get ht;obtain⟨c,ah,W,U⟩:=hc.get (rest:=mksT 12) ht;obtain⟨h1,h2⟩:=mr ht;have aa:=step t (lMg ht) y hy (by omega) c ah;have O:decide (((us.length:Nat):Int)<=(k:Nat))=false:=dEf (by omega);obtain⟨v5,n5,t5,x5,rfl⟩:=hy.agg;simp only[go_sem,zE,zB,zA,f1,f5,f6,lt_i A,lt_i hk,D.len,dc af,iNn,ag,hb,W,U,fits,A];refine aa.mono ?_;rintro _ st ⟨rfl,rfl⟩;simp only[go_sem,zE,reduceCtorEq,f0,f1,f5,f6,D.len,O,df A (by omega)]
  ·obtain⟨j,hj⟩:∃j,k=us.length+j:=⟨k-us.length,by omega⟩
   have ac:decide (((k:Nat):Int)<us.length)=false:=dEf (by omega);have O:decide (((us.length:Nat):Int)<=(k:Nat))=true:=dEt (by omega);have hw:IntKind.i64.wrap (((k:Nat):Int)-us.length)=((j:Nat):Int):=by rw[w64]<;>omega
   have W:k*3+3<=(cs++mksT 12).length:=by rw[ai];omega
   have U:((cs++mksT 12).drop (k*3)).take 3=mkC 1 j:=by
    have az:cs.length=us.length*3:=hc.len;rw[show k*3=cs.length+j*3 by omega,<- kC,jR];exact Gw (by omega)
   have E:=xA gl _ _ _ _ (Gz 1 j) (Gz 1 j) st;rw[yZ5.2 rfl] at E;have ao:(mkC 1 j).all IV.one=true:=rfl;have ax:(mkC 1 j).length=3:=rfl;simp only[go_sem,zE,zB,zA,f1,f5,f6,lt_i A,ac,O,D.len,iNn,hb,W,U,fits,A,hw,PZ];intros;refine E.mono ?_;rintro _ st ⟨rfl,rfl⟩;simp only[go_sem,zE,reduceCtorEq,f0,f1,f5,f6,df A (by omega)]
 ·rintro fr st _ ⟨f0,f1,f5,f6,rfl,rfl⟩;simp only[go_sem,zE,f5,f6,dD (nLi _)];exact cO ⟨rfl,rfl⟩
def GB:∀(k:Nat)(us:List Tm),SizeOf.sizeOf us<k->KTP gl us
 | 0,f,h=>by omega
 | k+1,us,h=>P5 gl us (λv n l A=>GB k l (by
   have:=lSm A;simp at this;omega))
def P6 (us:List Tm):KTP gl us:=GB gl _ us (dM _)
def KFf (t:Fm):Prop:=∀(x:IV) (_:IsFm t x) (_:t.size<=1099511627776) (c:List IV) (st:ISt) (_:flatSt st) (_:LFf st t c),
 ICall prog gl 91 [.agg c,x] st (λr st'=>r=true/\st'=st)
def GC (us:List Fm)(IH:∀a∈us,KFf gl a):KFP gl us:=by
 intro tg xs af D av a cs st hf hb hc;have ak:=h_ us;have ai:(cs++mksF 12).length=(us.length+12)*4:=by rw[lLa,hc.len,pn];omega
 have ae:IntKind.i64.wrap ((us.length:Int)+12)=((us.length+12:Nat):Int):=by rw[w64]<;>omega
 refine ICall.intro (c:=cfp prog gl [31,48,1000068] [] fmPF (PY gl)) func56 rfl (by show _<=58;simp) (by kernel_rfl) ?_;simp only[go_sem,zE,reduceCtorEq,D.len,dR];intro _;simp only[go_sem,reduceCtorEq,ae,Nat.le_add_right,oz (dz (us.length+12)),fY];intro _;refine cV (us.length+12) (λk fr st' ds=>fr 0=.iv (.raw (.slice (some ⟨a,0,none⟩) us.length (us.length+12)))/\fr 1=.iv (.sl tg xs)/\fr 5=.iv (.raw (.slice (some ⟨a,0,none⟩) (us.length+12) (us.length+12)))/\fr 6=.iv (.raw (.int .i64 k))/\st'=st/\ds=[]) ?_ ?_ ?_
 ·simp only[go_sem,zE,reduceCtorEq]
  first|rfl|exact⟨rfl,rfl⟩
 ·rintro k fr st _ A ⟨f0,f1,f5,f6,rfl,rfl⟩;by_cases hk:k<us.length
  ·obtain⟨t,ht⟩:=dd hk;obtain⟨y,ag,hy⟩:=D.get ht;obtain⟨c,ah,W,U⟩:=hc.get (rest:=mksF 12) ht;obtain⟨h1,h2⟩:=jK ht;have aa:=IH t (lMg ht) y hy (by omega) c st hf ah;have O:decide (((us.length:Nat):Int)<=(k:Nat))=false:=dEf (by omega);obtain⟨v5,n5,t5,x5,t6,x6,rfl⟩:=hy.agg;simp only[go_sem,zE,zB,zA,f1,f5,f6,lt_i A,lt_i hk,D.len,dc af,iNn,ag,hb,W,U,fits,A];refine aa.mono ?_;rintro _ st ⟨rfl,rfl⟩;simp only[go_sem,zE,reduceCtorEq,f0,f1,f5,f6,D.len,O,df A (by omega)]
  ·obtain⟨j,hj⟩:∃j,k=us.length+j:=⟨k-us.length,by omega⟩
   have ab:decide (((k:Nat):Int)<us.length)=false:=dEf (by omega);have O:decide (((us.length:Nat):Int)<=(k:Nat))=true:=dEt (by omega);have hw:IntKind.i64.wrap (((k:Nat):Int)-us.length)=((j:Nat):Int):=by rw[w64]<;>omega
   have W:k*4+4<=(cs++mksF 12).length:=by rw[ai];omega
   have U:((cs++mksF 12).drop (k*4)).take 4=mkD 1 j:=by
    have ay:cs.length=us.length*4:=hc.len;rw[show k*4=cs.length+j*4 by omega,<- kC,jR];exact Gx (by omega)
   have E:=rN gl _ _ _ _ (GA 1 j) (GA 1 j) st;rw[yZ5.2 rfl] at E;have ao:(mkD 1 j).all IV.one=true:=rfl;have aw:(mkD 1 j).length=4:=rfl;simp only[go_sem,zE,zB,zA,f1,f5,f6,lt_i A,ab,O,D.len,iNn,hb,W,U,fits,A,hw,P0];intros;refine E.mono ?_;rintro _ st ⟨rfl,rfl⟩;simp only[go_sem,zE,reduceCtorEq,f0,f1,f5,f6,df A (by omega)]
 ·rintro fr st _ ⟨f0,f1,f5,f6,rfl,rfl⟩;simp only[go_sem,zE,f5,f6,dD (nLi _)];exact cO ⟨rfl,rfl⟩
def P7 (op:Nat)(n:ByteArray)(us:List Tm)(sub:List Fm)(IH:∀a∈sub,KFf gl a):KFf gl (.mk op n us sub):=by
 intro x hx W c st E hc;obtain⟨y,hy,ho⟩:=hc.agg W;have h1:=uF gl E (subSt.refl _) ho (λst=>rN gl _ _ _ _ hy.aged hx st);rw[yZ5.2 rfl] at h1;simp only[LFf] at hc;obtain⟨a,cs,b,ds,_,rfl,hb,hc,hd,he⟩:=hc;obtain⟨tx,cx,ty,cy,rfl,_,D,U,A,O⟩:=hx.mk;simp only[Fm.size] at W;have h2:=P6 gl us tx cx D U (by omega) a cs st E hb hc;have h3:=GC gl sub IH ty cy A O (by omega) b ds st E hd he;refine iI func91 ?_;simp only[go_sem,zE,zA,zL];refine h1.mono ?_;rintro _ st ⟨rfl,rfl⟩;simp only[go_sem,zE,zA];refine h2.mono ?_;rintro _ st ⟨rfl,rfl⟩;simp only[go_sem,zE,zA];refine h3.mono ?_;rintro _ st ⟨rfl,rfl⟩;simp only[go_sem,zE];exact cO ⟨rfl,rfl⟩
def GD:∀(k:Nat)(a:Fm),SizeOf.sizeOf a<k->KFf gl a
 | 0,f,h=>by omega
 | k+1,.mk o n us sub,h=>P7 gl o n us sub (λa A=>GD k a (by
   have:=lSm A;simp at h;omega))
def P8 (a:Fm):KFf gl a:=GD gl _ a (dM _)
def GF (us:List Fm):KFP gl us:=GC gl us (λa _=>P8 gl a)
def P9 (s:Sq)(x y:IV)(hx:IsSq s x)(E:dt s.l<=1099511627776)(D:dt s.r<=1099511627776)(st:ISt)(A:flatSt st)(hc:LSq st s y) :
  ICall prog gl 21 [y,x] st (λr st'=>r=true/\st'=st):=by
 obtain⟨z,W,ho⟩:=hc.oi E D;have h1:=uF gl A (subSt.refl _) ho (λst=>Dt gl _ _ _ _ (IsSq.aged W) hx st);rw[yZ5.2 rfl] at h1;obtain⟨a,cs,b,ds,rfl,hb,hc,hd,he⟩:=hc;obtain⟨t1,U,t2,O,rfl,e1,i1,e2,i2⟩:=hx;have h2:=GF gl s.l t1 U e1 i1 E a cs st A hb hc;have h3:=GF gl s.r t2 O e2 i2 D b ds st A hd he;refine iI func21 ?_;simp only[go_sem,zE,zA,zL];refine h1.mono ?_;rintro _ st ⟨rfl,rfl⟩;simp only[go_sem,zE,zA];refine h2.mono ?_;rintro _ st ⟨rfl,rfl⟩;simp only[go_sem,zE,zA];refine h3.mono ?_;rintro _ st ⟨rfl,rfl⟩;simp only[go_sem,zE];exact cO ⟨rfl,rfl⟩
