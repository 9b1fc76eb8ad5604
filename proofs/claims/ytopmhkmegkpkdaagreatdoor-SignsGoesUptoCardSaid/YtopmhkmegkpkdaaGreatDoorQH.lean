/- Walks: a tableau that is built, where ea -/
import Derived.Test.YtopmhkmegkpkdaaGreatDoorQG
import Derived.Test.YtopmhkmegkpkdaaGreatDoorKE
import Derived.Deep.DeepHandedRow
set_option linter.all false
open Nat renaming reduceEqDiff → zE,reduceBEq → zB,reduceAdd → zA,reduceMul → zM,reduceSub → zS,reduceLeDiff → zL
namespace Go.Proofs.Tryz
open Go Go.Iv
set_option maxRecDepth 4000
variable (gl:Nat->Option IV)
mutual
def oC:Nd->List Mk->Prop
 | .mk m c w sub,l=>w=0/\pt l=some (m,c)/\(if c=true then sub=[] else (eJ m).1≠0/\GrowsL sub l (dY m 0))
def GrowsL:List Nd->List Mk->List (List Mk)->Prop
 | [],_,[]=>True
 | n::ns,l,q::qs=>oC n (d_ l q)/\GrowsL ns l qs
 | [],_,_::_=>False
 | _::_,_,[]=>False
end
def GrowsL.len:∀ {ns:List Nd}{l:List Mk}{qs:List (List Mk)},GrowsL ns l qs->ns.length=qs.length
 | [],_,[],_=>rfl
 | _::_,_,_::_,h=>by rw[GrowsL] at h;simp[GrowsL.len h.2]
def GrowsL.get:∀ {ns:List Nd}{l:List Mk}{qs:List (List Mk)}{k:Nat}{n:Nd}{q:List Mk},GrowsL ns l qs->ns[k]?=some n->qs[k]?=some q->oC n (d_ l q)
 | _::_,_,_::_,0,_,_,h,h1,h2=>by
  rw[GrowsL] at h;simp only[fC,dL] at h1 h2;subst h1 h2;exact h.1
 | _::_,_,_::_,k+1,_,_,h,h1,h2=>by
  rw[GrowsL] at h;exact GrowsL.get (k:=k) h.2 (by simpa using h1) (by simpa using h2)
def Qk {l:List Mk}{m:Mk}{c:Bool}(h:pt l=some (m,c)):m∈l:=by
 unfold pt at h;split at h
 ·rename_i D E;cases h;exact List.mem_of_find?_eq_some E
 ·cases A:(gH l 1).find? λm=>!allT l (((dY m 0)[0]?).getD []) with
  | none=>rw[A] at h;cases h
  | some D =>
   rw[A] at h;cases h;have:=List.mem_of_find?_eq_some A;rw[gH,jq] at this;exact this.1
def Ql {st S0:ISt}{A:Tag}{n s D:Nat}{cs:List IV}{o:Option IObj}(h:own st A n s S0)(O:st D=some (.box cs)):own (st.put D o) A n s S0:=by
 rcases h with h|h|⟨g,h1,h2,U⟩
 ·exact .inl h
 ·exact .inr (.inl h)
 ·exact .inr (.inr ⟨g,h1,by rw[de (λE=>by rw[E,O] at h2;cases h2)];exact h2,U⟩)
def G2:∀ {l:List Nd}{A:List IV}{z:IV},IsNds l A->z∈A->∃n,IsNd n z
 | [],A,z,h,hx=>by simp only[IsNds] at h;subst h;cases hx
 | a::l,A,z,h,hx=>by
  simp only[IsNds] at h;obtain⟨y,ys,rfl,D,h⟩:=h;rcases dC.1 hx with rfl|hx
  ·exact⟨a,D⟩
  ·exact G2 h hx
def nd_d {b:Bool}{w o:Int}{n:ByteArray}{t U O:Tag}{E A ys:List IV}{c:Bool}{w':Int}{l:List Nd}(h:dfr (.agg [b,w,.raw (.int .u8 o),n,.sl t E,.sl U A]))(ha:appT l.length O)(hd:dfrs ys)(W:IsNds l ys) :
  dfr (.agg [b,w,.raw (.int .u8 o),n,.sl t E,.sl U A,c,w',.sl O ys]):=by
 rw[dfr] at h ⊢;obtain⟨_,_,_,_,h5,h6,_⟩:=h.1;refine⟨⟨trivial,trivial,trivial,trivial,h5,h6,trivial,trivial,?_,trivial⟩,λx hx=>?_⟩
 ·rw[dfr];refine⟨(ha.to W.len).up,hd,λx hx=>?_⟩;obtain⟨z,hz,D⟩:=iy.1 hx;obtain⟨n,hn⟩:=G2 W hz;obtain⟨v3,w3,o3,n3,t3,y3,t4,y4,c5,w5,t6,y6,rfl⟩:=fG hn;simp only[IV.cells,dC,e_,eu] at D;rcases D with rfl|rfl|rfl|rfl|rfl|rfl|rfl|rfl|rfl<;>rfl
 ·simp only[dC,e_,eu] at hx;rcases hx with rfl|rfl|rfl|rfl|rfl|rfl|rfl|rfl|rfl<;>rfl
def uK (n:Nd):Prop:=∀(l:List Mk) (D:Nat) (x:IV) (_:IsBr l D x) (_:GoodT l) (_:∀m∈l,m.f.size<=1000) (_:l.length+2*n.nodes<=1000) (_:oC n l) (st:ISt) (es:List (Value×IV)) (_:st D=some (.map .sg es)) (_:lu es) (A v:Nat) (rest:List IV) (_:st A=some (.box (v::rest))) (_:v+n.nodes<=300),
 ICall prog gl 92 [ptrI A,x] st (λr st'=>(∃z,r=.tup [z,(0:Int)]/\IsNd n z/\dfr z)/\st'=st.put A (some (.box ((v+n.nodes:Nat)::rest))))
def Qm (m:Mk)(c:Bool)(w:Int)(sub:List Nd)(IH:∀a∈sub,uK gl a):uK gl (.mk m c w sub):=by
 intro l tb x hx D am aE aF st es hb ht gb v rest ay hv;have bG:=mG sub;rw[oC] at aF;obtain⟨rfl,aC,A⟩:=aF;simp only[Nd.nodes] at aE hv;have aB:∀m∈l,m.f.op<=7:=λm hm=>by
  have h4:=(yWf.1 (D m hm).1).2.2.2;obtain⟨mi,mw,⟨o,n,us,sb⟩⟩:=m;simp only[opsB,bAt,dTe] at h4;show o<=7;simpa using h4.1.1.2
 have av:=λst hb=>Qi gl l tb x hx (by omega) aB m c aC st es hb ht;have E:m∈l:=Qk aC;have aD:=aB m E;have aI:=λq tg zs ag hzs hl st hb y hy=>Eh gl l tb x hx m y hy aD q tg zs ag hzs hl st es hb ht;have bs:=hx;obtain⟨t,xs,t',v',rfl,bw,bI,bq,bA,bu⟩:=hx;have ag:tb≠gb:=λh=>by rw[h,ay] at hb;cases hb
 have hw:IntKind.i64.wrap ((v:Int)+1)=((v+1:Nat):Int):=by rw[w64]<;>omega
 have hd:decide ((300:Int)<((v+1:Nat):Int))=false:=dEf (by omega);unfold ptrI;refine ICall.intro (c:=cf prog gl [] [] [3]) func92 rfl (by show _<=84;simp) (by kernel_rfl) ?_;simp only[go_sem,zE,zA,brI];refine (av _ hb).mono ?_;rintro _ st ⟨z,rfl,hz,rfl⟩;obtain⟨o,n,t1,x1,t2,x2,rfl,h1⟩:=hz;have d8:decide ((0:Int)=8)=false:=rfl;have aH:=λst=>E9 gl m _ ⟨_,_,_,_,_,_,rfl,h1⟩ (by have:=am m E;omega) st;cases c
 ·rw[a_ (by decide)] at A;obtain⟨aG,A⟩:=A;have aW:=A.len;have aZ:=λst hb=>tO gl m _ ⟨_,_,_,_,_,_,rfl,h1⟩ aD 0 st tb es hb ht;simp only[go_sem,zE,zB,zA,zL,reduceCtorEq,fits,ay,hw,hd,d8,cT];refine (aZ _ (by rw[de ag];exact hb)).mono ?_;rintro _ _ ⟨tq,qs,rfl,a8,iq,rfl⟩;simp only[go_sem,iq.len];intro _;obtain⟨S0,ac⟩:∃S0,S0=st.put gb none:=⟨_,rfl⟩
  have ai:S0 tb=some (.map .sg es):=by rw[ac,de ag];exact hb
  have ax:∀(st':ISt) o,subSt S0 st'->subSt S0 (st'.put gb o):=λst' o h c y hc=>by
   have:c≠gb:=λhq=>by rw[hq,ac,cT] at hc;cases hc
   rw[de this];exact h c y hc
  refine cV sub.length (λk fr st' ds=>(∃O ys,fr 6=.box [.raw (.bool m.is),.raw (.int .i64 m.w),.raw (.int .u8 o),.raw (.string n),.sl t1 x1,.sl t2 x2,false,(0:Int),.sl O ys]/\IsNds (sub.take k) ys/\(dfrs ys/\appT k O)/\own st' O k 9 S0/\subSt S0 st') /\
   st' gb=some (.box ((v+1+eT (sub.take k):Nat)::rest))/\fr 0=.iv (.raw (.pointer (some ⟨gb,0,none⟩)))/\fr 3=.iv (.cptr (.agg (brI tb t xs t' v')))/\fr 4=.box ndZ/\fr 53=.iv (.sl tq qs)/\fr 54=sub.length/\fr 55=.iv (.raw (.int .i64 k))/\ds=[]) ?_ ?_ ?_
  ·simp only[go_sem,zE,reduceCtorEq,aW];exact⟨⟨⟨true,.nil,0⟩,[],rfl,rfl,⟨trivial,.inl rfl⟩,.inl ⟨rfl,rfl⟩,λc y hc=>by
    have:c≠gb:=λhq=>by rw[hq,ac,cT] at hc;cases hc
    rw[ac,de this] at hc;rw[de this];exact hc⟩,by simp[eT],by first|rfl|exact⟨rfl,rfl⟩|exact⟨rfl,rfl,rfl⟩⟩
  ·rintro k fr ak _ aw ⟨⟨O,ys,f6,hys,af,W,U⟩,aa,f0,f3,f4,f53,f54,f55,rfl⟩;obtain⟨a,ha⟩:=dd aw;obtain⟨q,hq⟩:=dd (show k<(dY m 0).length by omega);obtain⟨tk,zk,a1,ba,aS⟩:=iq.get hq;have aq:=lMg hq;have aK:=lMg ha;have bB:=nt m 0 q aq;have bJ:=ij q l;have bD:=kb aK;have bC:=qw sub (k+1);have aV:eT (sub.take (k+1))=eT (sub.take k)+a.nodes:=by rw[dK ha,qv];simp[eT]
   have a7:GoodT (d_ l q):=D.adds λx hx=>by
    obtain⟨h1,h2⟩:=(o_ (D m E).1 aG 0).2.2.1 q aq x hx;exact⟨h1,h2.trans (D m E).2⟩
   have aX:∀x∈d_ l q,x.f.size<=1000:=λx hx=>(yVv.1 hx).elim (am x) λh=>eh (zd (D m E).1 aG 0 q aq x h) (am m E);simp only[go_sem,zE,zA,zL,reduceCtorEq,f0,f3,f6,f53,f54,f55,lt_i aw,dc a8,iNn,a1,fits];refine (aI q tk zk ba aS (by omega) _ (U _ _ ai) _ ⟨_,_,_,_,_,_,rfl,h1⟩).mono ?_;rintro y ak ⟨hy,rfl⟩;have aA:=IH a aK (d_ l q) tb y hy a7 aX (by omega) (A.get ha hq) ak es (U _ _ ai) ht gb _ rest aa (by omega);obtain⟨ty,xy,bl,vy,rfl,_⟩:=hy;simp only[go_sem,zE,zA,brI];refine aA.mono ?_;rintro _ _ ⟨⟨z,rfl,hz,aT⟩,rfl⟩;have aU:=hz;obtain⟨v3,w3,o3,n3,t3,y3,t4,y4,c5,w5,t6,y6,rfl⟩:=fG hz;simp only[go_sem,zE,zA,zM,zL,f6,fits,dP,dR,fW];refine iG (Ql W aa) (by rw[hys.len,dO];omega) (ax _ _ U) rfl (by simp[fits,IV.one]) (by simp only;omega) (by omega) λaR st5 au an a6 aJ=>?_;simp only[go_sem,zE,zA,zL,reduceCtorEq,f0,f3,f4,f6,f53,f54,f55,df aw (by omega)];refine⟨⟨aR,_,rfl,by rw[dK ha];exact hys.append ⟨_,_,rfl,aU,rfl⟩,⟨pU af.1 ⟨aT,trivial⟩,aJ⟩,au,an⟩,?_,rfl⟩;rw[a6 gb _ (cT ..) (λn=>by simp),aV,fa]
  ·rintro fr ak _ ⟨⟨O,ys,f6,hys,af,W,U⟩,aa,f0,f3,f4,f53,f54,f55,rfl⟩;rw[lTl] at hys aa;simp only[go_sem,zE,zA,zL,f6,f54,f55,dD (nLi _)];refine (aH _).mono ?_;rintro r _ ⟨⟨hr,ao⟩,rfl⟩;obtain⟨o3,n3,t3,x3,t4,x4,rfl,h4⟩:=hr;simp only[go_sem,zE,zA,zL,f4,f6,ndZ];refine dZ (st':=st.put gb (some (.box ((v+(Nd.mk m false 0 sub).nodes:Nat)::rest)))) (λc y hc=>?_) ⟨⟨_,rfl,?_,nd_d ao af.2 af.1 hys⟩,rfl⟩
   ·by_cases ah:c=gb
    ·rw[ah,cT] at hc;rw[ah,aa,<- hc,Nd.nodes,fa]
    ·rw[de ah] at hc;exact U c y (by rw[ac,de ah];exact hc)
   ·simp only[IsNd];exact⟨_,_,_,_,_,_,_,_,rfl,h4,W.es,hys⟩
 ·rw[b_ rfl] at A;subst A;simp only[go_sem,zE,zA,zL,reduceCtorEq,ay,hw,hd,d8,cT];refine (aH _).mono ?_;rintro r _ ⟨⟨hr,ao⟩,rfl⟩;obtain⟨o3,n3,t3,x3,t4,x4,rfl,h4⟩:=hr;simp only[go_sem,zE,zA,zL];refine cO ⟨⟨_,rfl,?_,nd_d (l:=[]) ao (.inl rfl) trivial rfl⟩,by simp only[Nd.nodes,eT]⟩;simp only[IsNd];exact⟨_,_,_,_,_,_,_,_,rfl,h4,.inl rfl,rfl⟩
def G3:∀(k:Nat)(n:Nd),SizeOf.sizeOf n<k->uK gl n
 | 0,_,h=>absurd h (by omega)
 | k+1,.mk m c w sub,h=>Qm gl m c w sub λa A=>G3 k a (by have:=lSm A;simp only[Nd.mk.sizeOf_spec] at h;omega)
def Qn (n:Nd):uK gl n:=G3 gl _ n (dM _)
def blZ:List IV:=[.raw (.int .u8 0),.raw (.map none),(),()]
def BldJ (z bz:List IV)(b:Nat)(D:ISt)(A:Array Bool):Kt:=λad fr st ds=>(∀s,ad s=none)/\st=D/\ds=[]/\fr 7=(ptrI b)/\fr 8=.box z/\fr 9=(0:Int)/\(A.getD 0 false=true->fr 28=.iv (.agg z)) /\
 (A.getD 1 false=true->fr 29=.iv (.agg bz))/\(A.getD 2 false=true->fr 30=(0:Int))/\fr 4=.box (if A.getD 3 false=true then z else ndZ)/\fr 5=.box (if A.getD 4 false=true then bz else (0:Int)::blZ)/\(A.getD 5 false=true->fr 6=(0:Int))
def Qo (G:Gl gl)(s:Sq)(x:IV)(hx:IsSq s x)(hw:wFms s.l+wFms s.r<=300)(hv:iK s=true)(n:Nd)(hn:n.nodes<=100)(hg:oC n (eW s))(st:ISt) :
  ICall prog gl 57 [.raw (.int .u8 1),x] st (λr st'=>(∃z v,r=.tup [z,.agg (.raw (.int .i64 v)::blZ),(0:Int)]/\IsNd n z/\dfr z)/\st'=st):=by
 have hk:=λst=>yL gl st;have hV:=λst=>yM gl G s x hx (sh hw) st;rw[hv] at hV;have h3:=h_ s.l;have h4:=h_ s.r;have h5:=iT s.l;have h6:=iT s.r;have ak:=λst=>Ei gl s x hx (by omega) st;have aq:∀m∈eW s,m.f.size<=1000:=λm hm=>by
  rcases (yKr.1 hm).2 with h|h
  ·have:=lx h.2;omega
  ·have:=lx h.2;omega
 have af:(eW s).length+2*n.nodes<=1000:=by
  have:=ij (iJ s) [];have h3:(iJ s).length=s.l.length+s.r.length:=by simp[iJ]
  unfold eW;simp only[fN] at this;omega
 obtain⟨tl,xl,tr,xr,rfl,e1,i1,e2,i2⟩:=hx;refine ICall.intro (c:=cf prog gl [7,29] [(7,[])]) func57 rfl (by show _<=31;simp) (by kernel_rfl) ?_;simp only[go_sem,zE,zA,reduceCtorEq];refine λb=>eB λhb=>?_;refine (hk _).mono ?_;rintro _ ae ⟨rfl,E⟩;simp only[go_sem,zE,zA,zL,reduceCtorEq];refine (hV _).q ?_;simp only[go_sem,zE,zA,zL,reduceCtorEq];refine (ak _).mono ?_;rintro r _ ⟨tb,es,U,ar,aj,rfl⟩;have ai:=aj;obtain⟨t,xs,t',v',rfl,_⟩:=aj;have ah:b≠tb:=λh=>by rw[<- h,E,cT] at U;cases U
 simp only[go_sem,zE,zA,brI];refine (Qn gl n (eW s) tb _ ai (oq hv) aq af hg _ es (cT ..) ar b 0 blZ (by rw[de ah,E,cT];rfl) (by omega)).mono ?_;rintro _ _ ⟨⟨z,rfl,hz,an⟩,rfl⟩;have ao:=hz;obtain⟨v1,w1,o1,n1,t1,y1,t2,y2,c1,w2,t3,y3,rfl⟩:=fG hz;simp only[go_sem,zE,zA,zL,blZ];rw[nL];refine mU (BldJ [v1,w1,.raw (.int .u8 o1),n1,.sl t1 y1,.sl t2 y2,c1,w2,.sl t3 y3] ((n.nodes:Nat)::blZ) b ((ae.put tb (some (.map .sg es))).put b (some (.box ((n.nodes:Nat)::blZ))))) ?_ ?_ _ _ _ _ _ _ rfl ?_
 ·intro A ad fr st ds hz hJ i hi;replace hz:A.size=6:=hz;obtain⟨h0,o,ho,O⟩:=fb.1 hi;have aM:i<6:=(gO.1 ho).1;have ag:A.getD i false=false:=by
   rw[gx,jj (by omega)] at h0 ⊢;exact h0
  have e:∀j,i≠j->(A.setIfInBounds i true).getD j false=A.getD j false:=λj hj=>by rw[fu (by omega),a_ hj]
  have ei:(A.setIfInBounds i true).getD i false=true:=by rw[fu (by omega),b_ rfl]
  obtain⟨D,rfl,rfl,f7,f8,f9,g0,g1,W,f4,f5,g5⟩:=hJ;rcases (show i=0\/i=1\/i=2\/i=3\/i=4\/i=5 by omega) with rfl|rfl|rfl|rfl|rfl|rfl
  ·obtain rfl:_=o:=eK ho;simp only[go_sem,zA,zL,dT,D,f8];exact⟨ou D _,rfl,rfl,f7,f8,f9,λ_=>rfl,λh=>g1 (by rwa [e 1 (by decide)] at h),λh=>W (by rwa [e 2 (by decide)] at h),by rw[e 3 (by decide)];exact f4,by rw[e 4 (by decide)];exact f5,λh=>g5 (by rwa [e 5 (by decide)] at h)⟩
  ·obtain rfl:_=o:=eK ho;simp only[go_sem,zE,zA,zL,dT,D,f7,ptrI,cT,blZ];exact⟨ou D _,rfl,rfl,f7,f8,f9,λh=>g0 (by rwa [e 0 (by decide)] at h),λ_=>rfl,λh=>W (by rwa [e 2 (by decide)] at h),by rw[e 3 (by decide)];exact f4,by rw[e 4 (by decide)];exact f5,λh=>g5 (by rwa [e 5 (by decide)] at h)⟩
  ·obtain rfl:_=o:=eK ho;simp only[go_sem,dT,f9];exact⟨ou D _,rfl,rfl,f7,f8,f9,λh=>g0 (by rwa [e 0 (by decide)] at h),λh=>g1 (by rwa [e 1 (by decide)] at h),λ_=>rfl,by rw[e 3 (by decide)];exact f4,by rw[e 4 (by decide)];exact f5,λh=>g5 (by rwa [e 5 (by decide)] at h)⟩
  ·obtain rfl:_=o:=eK ho;replace g0:=g0 (O ⟨0,.data⟩ (by simp) rfl);simp only[go_sem,zA,zL,dT,D,g0,f4,ag,ndZ,bFt];exact⟨D,rfl,rfl,f7,f8,f9,λ_=>g0,λh=>g1 (by rwa [e 1 (by decide)] at h),λh=>W (by rwa [e 2 (by decide)] at h),by rw[ei];rfl,by rw[e 4 (by decide)];exact f5,λh=>g5 (by rwa [e 5 (by decide)] at h)⟩
  ·obtain rfl:_=o:=eK ho;replace g1:=g1 (O ⟨1,.data⟩ (by simp) rfl);simp only[go_sem,zA,zL,dT,D,g1,f5,ag,blZ,bFt];exact⟨D,rfl,rfl,f7,f8,f9,λh=>g0 (by rwa [e 0 (by decide)] at h),λ_=>g1,λh=>W (by rwa [e 2 (by decide)] at h),by rw[e 3 (by decide)];exact f4,by rw[ei];rfl,λh=>g5 (by rwa [e 5 (by decide)] at h)⟩
  ·obtain rfl:_=o:=eK ho;replace W:=W (O ⟨2,.data⟩ (by simp) rfl);simp only[go_sem,dT,W];exact⟨ou D _,rfl,rfl,f7,f8,f9,λh=>g0 (by rwa [e 0 (by decide)] at h),λh=>g1 (by rwa [e 1 (by decide)] at h),λ_=>W,by rw[e 3 (by decide)];exact f4,by rw[e 4 (by decide)];exact f5,λ_=>rfl⟩
 ·intro A ad fr st ds hz hr hJ;have hl:=zD (by decide) hz hr;obtain⟨D,rfl,rfl,f7,f8,f9,g0,g1,W,f4,f5,g5⟩:=hJ;rw[b_ (hl 3 (by decide))] at f4;rw[b_ (hl 4 (by decide))] at f5;have f6:=g5 (hl 5 (by decide));unfold blZ at f5;simp only[go_sem,zA,zL,f4,f5,f6];refine dZ (λc y hc=>?_) ⟨⟨_,_,rfl,ao,an⟩,rfl⟩;have h1:c≠b:=λh=>by rw[h,hb] at hc;cases hc
  have h2:c≠tb:=λh=>by
   rw[h] at hc;rw[E,de ah.symm,hc] at U;cases U
  rw[de h1,de h2,E,de h1];exact hc
 ·exact⟨λ_=>rfl,rfl,rfl,rfl,rfl,rfl,(λh=>nomatch h),(λh=>nomatch h),(λh=>nomatch h),rfl,rfl,λh=>nomatch h⟩
def Qp (G:Gl gl)(s:Sq)(x:IV)(hx:IsSq s x)(O:wFms s.l+wFms s.r<=300)(U:iK s=true)(n:Nd)(W:n.nodes<=100)(hg:oC n (eW s))(st:ISt) :
  ICall prog gl 26 [.raw (.int .u8 1),x] st (λr st'=>(∃z,r=.tup [z,(0:Int)]/\IsNd n z/\dfr z)/\st'=st):=by
 have hB:=λst=>Qo gl G s x hx O U n W hg st;obtain⟨tl,xl,tr,xr,rfl,e1,i1,e2,i2⟩:=hx;refine iI func26 ?_;simp only[go_sem,zE,zA,zL,reduceCtorEq];refine (hB _).mono ?_;rintro _ _ ⟨⟨z,v,rfl,E,A⟩,rfl⟩;have D:=E;obtain⟨v1,w1,o1,n1,t1,y1,t2,y2,c1,w2,t3,y3,rfl⟩:=fG E;simp only[go_sem,zE,zA,zL,blZ];exact cO ⟨⟨_,rfl,D,A⟩,rfl⟩
end Go.Proofs.Tryz
namespace Go.Proofs.Tryz
open Go Go.Iv
set_option maxRecDepth 8000
def xmP:Fm:=.mk 1 ⟨#[80]⟩ [] []
def xmQ:Fm:=.mk 1 ⟨#[81]⟩ [] []
def xmR:Fm:=.mk 1 ⟨#[82]⟩ [] []
def xmN:Fm:=.mk 3 ⟨#[]⟩ [] [xmP]
def xmO:Fm:=.mk 5 ⟨#[]⟩ [] [xmP,xmN]
def xmA:Fm:=.mk 4 ⟨#[]⟩ [] [xmP,xmQ]
def xmS:Sq:=⟨[],[xmO]⟩
def n3 (b:Bool):Nd:=.mk ⟨b,0,xmP⟩ true 0 []
def n2 (b:Bool):Nd:=.mk ⟨false,0,xmN⟩ false 0 [n3 b]
def n1 (b:Bool):Nd:=.mk ⟨false,0,xmO⟩ false 0 [n2 b]
def xmT:Tm:=.mk false ⟨#[]⟩ []
def xmW:Tr:=.mk 8 xmS xmO xmT ⟨#[]⟩ [.mk 4 ⟨[],[xmO,xmP,xmN]⟩ xmN xmT ⟨#[]⟩ [.mk 1 ⟨[xmP],[xmO,xmP,xmN]⟩ xmP xmT ⟨#[]⟩ []]]
def xmV:Tr:=.mk 8 xmS xmO xmT ⟨#[]⟩ [.mk 4 ⟨[],[xmP,xmN]⟩ xmN xmT ⟨#[]⟩ [.mk 1 ⟨[xmP],[xmP]⟩ xmP xmT ⟨#[]⟩ []]]
def xmX:Tr:=.mk 5 ⟨[xmR,xmA],[xmR]⟩ xmA xmT ⟨#[]⟩ [.mk 1 ⟨[xmP,xmQ,xmR,xmA],[xmR]⟩ xmR xmT ⟨#[]⟩ []]
def xmY:Tr:=.mk 1 ⟨[xmR],[xmR]⟩ xmR xmT ⟨#[]⟩ []
def Qq:iK xmS=true:=rfl
def Qr:eW xmS=[⟨false,0,xmO⟩]:=rfl
def G4:jC xmS (n1 false)=([],0):=rfl
def G5:bigT (eW xmS) (n1 false)=false:=rfl
def G6:gw (eW xmS) (n1 false)=xmW:=rfl
def Qs:qx xmW=n1 true:=rfl
def G7:gM 1 xmW=([],0):=G6▸(N6 (by rw[G4]) G5).1
def Qt:xmW.cuts=0:=rfl
end Go.Proofs.Tryz
namespace Go.Proofs.Tryz
open Go Go.Iv
set_option maxRecDepth 4000
variable (gl:Nat->Option IV)
def s_p (n:ByteArray)(st:ISt):ICall prog gl 22 [n] st (λr st'=>r=.agg [.raw (.int .u8 1),n,(),()]/\st'=st):=by
 refine iI func22 ?_;simp only[go_sem,zE,zA,zL,reduceCtorEq,fits];exact cO ⟨rfl,rfl⟩
def s_of (o:Int)(t:Tag)(A:List IV)(st:ISt):ICall prog gl 23 [.raw (.int .u8 o),.sl t A] st (λr st'=>r=.agg [.raw (.int .u8 o),.raw (.string ⟨#[]⟩),(),.sl t A]/\st'=st):=by
 refine iI func23 ?_;simp only[go_sem,zE,zA,zL,reduceCtorEq,fits];exact cO ⟨rfl,rfl⟩
def s_fs (t:Tag)(A:List IV)(st:ISt):ICall prog gl 25 [.sl t A] st (λr st'=>r=.sl t A/\st'=st):=by
 refine iI func25 ?_;simp only[go_sem,reduceCtorEq];exact cO ⟨rfl,rfl⟩
def s_sq (t:Tag)(A:List IV)(D:Tag)(ys:List IV)(st:ISt):ICall prog gl 24 [.sl t A,.sl D ys] st (λr st'=>r=.agg [.sl t A,.sl D ys]/\st'=st):=by
 refine iI func24 ?_;simp only[go_sem,zE,zA,zL,reduceCtorEq,fits];exact cO ⟨rfl,rfl⟩
def uL (rule o:Int)(n:ByteArray)(t:Tag)(x:List IV)(W:Tag)(O:List IV)(tl:Tag)(E:List IV)(tr:Tag)(D:List IV)(U:Tag)(A:List IV)(st:ISt) :
  ICall prog gl 27 [.raw (.int .u8 rule),.agg [.raw (.int .u8 o),n,.sl t x,.sl W O],.agg [.sl tl E,.sl tr D],.sl U A] st
  (λr st'=>r=.agg [.raw (.int .u8 rule),.sl tl E,.sl tr D,.raw (.int .u8 o),n,.sl t x,.sl W O,false,.raw (.string ⟨#[]⟩),(),.raw (.string ⟨#[]⟩),.sl U A]/\st'=st):=by
 refine iI func27 ?_;simp only[go_sem,zE,zA,zL,reduceCtorEq,fits];exact cO ⟨rfl,rfl⟩
def G8 {N:ISt}{r0 r1 r2 W U O E D A c0 c1 c2 c3 c4 c5 c6 c7 c8:IV}{rest:List IV}(h0:OI N r0 c0)(h1:OI N r1 c1)(h2:OI N r2 c2)(h3:OI N W c3)(h4:OI N U c4)(h5:OI N O c5)(h6:OI N E c6)(h7:OI N D c7)(h8:OI N A c8) :
  ∀(i:Nat) (r c:IV),(r0::r1::r2::W::U::O::E::D::A::rest)[i]?=some r->[c0,c1,c2,c3,c4,c5,c6,c7,c8][i]?=some c->OI N r c
 | 0,_,_,h,k=>by cases h;cases k;exact h0
 | 1,_,_,h,k=>by cases h;cases k;exact h1
 | 2,_,_,h,k=>by cases h;cases k;exact h2
 | 3,_,_,h,k=>by cases h;cases k;exact h3
 | 4,_,_,h,k=>by cases h;cases k;exact h4
 | 5,_,_,h,k=>by cases h;cases k;exact h5
 | 6,_,_,h,k=>by cases h;cases k;exact h6
 | 7,_,_,h,k=>by cases h;cases k;exact h7
 | 8,_,_,h,k=>by cases h;cases k;exact h8
 | i+9,_,_,_,k=>by simp at k
def len9:∀ {l:List IV},9<=l.length->∃r0 r1 r2 W U O E D A rest,l=r0::r1::r2::W::U::O::E::D::A::rest
 | r0::r1::r2::W::U::O::E::D::A::rest,_=>⟨r0,r1,r2,W,U,O,E,D,A,rest,rfl⟩
 | [],h=>by simp at h
 | [_],h=>by simp at h
 | [_,_],h=>by simp at h
 | [_,_,_],h=>by simp at h
 | [_,_,_,_],h=>by simp at h
 | [_,_,_,_,_],h=>by simp at h
 | [_,_,_,_,_,_],h=>by simp at h
 | [_,_,_,_,_,_,_],h=>by simp at h
 | [_,_,_,_,_,_,_,_],h=>by simp at h
def zF {N:ISt}{r:IV}{t:Tag}{A:List IV}(D:rawC r)(h:OI N r (.sl t A)):∃v,r=.raw v:=by
 rcases D with⟨v,rfl⟩|rfl
 ·exact⟨v,rfl⟩
 ·cases h
def G9 {N:ISt}{v:Value}{W:Tag}{z:IV}(E:lX N)(h:OI N (.raw v) (.sl W [z])){b c:Bool}{w w' o:Int}{n:ByteArray}{t t' tt:Tag}{xs ys zs:List IV}
  (hz:z=.agg [b,w,.raw (.int .u8 o),n,.sl t xs,.sl t' ys,.raw (.bool c),w',.sl tt zs]) :
  ∃g cap v4 v5 U rest,v=.slice (some ⟨g,0,none⟩) 1 cap/\W.cap=.app g/\W.es=9/\1<=cap/\cap*9<=rest.length+9/\N g=some (.box (b::w::.raw (.int .u8 o)::n::.raw v4::.raw v5::.raw (.bool c)::w'::.raw U::rest)) /\
   OI N (.raw v4) (.sl t xs)/\OI N (.raw v5) (.sl t' ys)/\OI N (.raw U) (.sl tt zs):=by
 subst hz;cases h with
 | sl g cap _ _ cs O ah aa hs D A h =>
  have he:9=W.es:=hs _ (fD.2 rfl);have ab:1<=cap:=aa;rw[<- he] at A;obtain⟨r0,r1,r2,r3,r4,r5,r6,r7,r8,rest,rfl⟩:=len9 (l:=cs) (by omega);have hC:=E _ _ D;have k:=λi r c hr hc=>h i r c hr (by simpa[IV.cells] using hc);obtain rfl:=gZ (k 0 _ _ rfl rfl);obtain rfl:=gZ (k 1 _ _ rfl rfl);obtain rfl:=gZ (k 2 _ _ rfl rfl);obtain rfl:=gZ (k 3 _ _ rfl rfl);obtain⟨v4,rfl⟩:=zF (hC r4 (by simp)) (k 4 _ _ rfl rfl);obtain⟨v5,rfl⟩:=zF (hC r5 (by simp)) (k 5 _ _ rfl rfl);obtain rfl:=gZ (k 6 _ _ rfl rfl);obtain rfl:=gZ (k 7 _ _ rfl rfl);obtain⟨U,rfl⟩:=zF (hC r8 (by simp)) (k 8 _ _ rfl rfl);refine⟨g,cap,v4,v5,U,rest,rfl,O,he.symm,ab,?_,D,k 4 _ _ rfl rfl,k 5 _ _ rfl rfl,k 8 _ _ rfl rfl⟩;simpa using A
def G_ {N:ISt}{g cap:Nat}{A:Tag}{b c:Bool}{w w' o:Int}{n:ByteArray}{t U O:Tag}{D ys zs rest:List IV}{v4 v5 E:Value}(h1:A.cap=.app g)(h2:A.es=9)(h3:1<=cap)(h4:cap*9<=rest.length+9)
  (h5:N g=some (.box (b::w::.raw (.int .u8 o)::n::.raw v4::.raw v5::c::w'::.raw E::rest))) (h6:OI N (.raw v4) (.sl t D)) (h7:OI N (.raw v5) (.sl U ys)) (W:OI N (.raw E) (.sl O zs)) :
  OI N (.raw (.slice (some ⟨g,0,none⟩) 1 cap)) (.sl A [.agg [b,w,.raw (.int .u8 o),n,.sl t D,.sl U ys,c,w',.sl O zs]]):=by
 refine .sl g cap A [_] _ h1 (by simp) h3 (λx hx=>by rw[fD.1 hx];exact h2.symm) h5 (by rw[h2];simpa using h4) ?_;simp only[ff,List.flatMap_nil,fH,IV.cells];exact G8 (.refl _) (.refl _) (.refl _) (.refl _) h6 h7 (.refl _) (.refl _) W
def Ha {N:ISt}{v:Value}{t:Tag}{A:List IV}(h:OI N (.raw v) (.sl t A)):(IV.raw v).one=true:=by
 cases h<;>rfl
def Qu {N:ISt}{y z:IV}(aa:lX N)(hz:IsNd (n1 false) z)(ho:OI N y z)(hy:rawY y) :
  ∃o n v4 v5 g1 c1 o2 m2 w4 w5 q1 g2 c2 U W u4 u5 u8 q2,y=.agg [false,(0:Int),.raw (.int .u8 o),.raw (.string n),.raw v4,.raw v5,false,(0:Int),.raw (.slice (some ⟨g1,0,none⟩) 1 c1)]/\(IV.raw v4).one=true/\(IV.raw v5).one=true/\1<=c1/\1<=c2 /\
   N g1=some (.box (false::(0:Int)::.raw (.int .u8 o2)::.raw (.string m2)::.raw w4::.raw w5::false::(0:Int)::.raw (.slice (some ⟨g2,0,none⟩) 1 c2)::q1)) /\
   N g2=some (.box (false::(0:Int)::.raw (.int .u8 U)::.raw (.string W)::.raw u4::.raw u5::true::(0:Int)::.raw u8::q2)) /\
   ∃z',IsNd (n1 true) z'/\OI (N.put g2 (some (.box (true::(0:Int)::.raw (.int .u8 U)::.raw (.string W)::.raw u4::.raw u5::true::(0:Int)::.raw u8::q2)))) y z':=by
 obtain⟨o,n,t,xs,t',ys,ts,zs,rfl,hf,e1,hzs⟩:=IsNd.mk hz;obtain⟨z2,_,rfl,aU,E⟩:=(show ∃y ys,zs=y::ys/\IsNd (n2 false) y/\IsNds [] ys by simpa only[IsNds] using hzs)
 obtain rfl:_=[]:=E;obtain⟨o2,m2,t2,aJ,aR,aj,aN,aH,ao,hf2,e2,am⟩:=IsNd.mk aU;obtain⟨z3,_,rfl,aT,E⟩:=(show ∃y ys,aH=y::ys/\IsNd (n3 false) y/\IsNds [] ys by simpa only[IsNds] using am)
 obtain rfl:_=[]:=E;obtain⟨U,W,t3,aI,aO,ai,aM,aG,an,aw,e3,ak⟩:=IsNd.mk aT;have aV:xs=[]/\IsFms [xmP,xmN] ys:=by
  obtain⟨_,_,_,_,he,_,_,i1,_,i2⟩:=IsFm.mk hf;cases he;exact⟨i1,i2⟩
 have av:aJ=[]/\IsFms [xmP] aj:=by
  obtain⟨_,_,_,_,he,_,_,i1,_,i2⟩:=IsFm.mk hf2;cases he;exact⟨i1,i2⟩
 have au:aI=[]/\IsFms [] ai:=by
  obtain⟨_,_,_,_,he,_,_,i1,_,i2⟩:=IsFm.mk aw;cases he;exact⟨i1,i2⟩
 obtain⟨rfl,hys⟩:=aV;obtain⟨rfl,ar⟩:=av;obtain⟨rfl,aq⟩:=au;cases ho with
 | refl =>
  simp only[rawY,mV] at hy;exact absurd hy (by simp)
 | agg rs _ hl h =>
 obtain⟨r0,r1,r2,r3,r4,r5,r6,r7,r8,rest,rfl⟩:=len9 (l:=rs) (by rw[hl];simp);obtain rfl:rest=[]:=by simpa using hl
 simp only[rawY,mV] at hy;obtain⟨_,_,_,_,y4,y5,_,_,y8,_⟩:=hy;obtain rfl:=gZ (h 0 _ _ rfl rfl);obtain rfl:=gZ (h 1 _ _ rfl rfl);obtain rfl:=gZ (h 2 _ _ rfl rfl);obtain rfl:=gZ (h 3 _ _ rfl rfl);obtain rfl:=gZ (h 6 _ _ rfl rfl);obtain rfl:=gZ (h 7 _ _ rfl rfl);have ag:∀ {r:IV} {t:Tag} {xs:List IV},rawY r->OI N r (.sl t xs)->∃v,r=.raw v:=λ{r t xs} hr h=>by
  cases h with
  | refl=>simp only[rawY] at hr
  | nil=>exact⟨_,rfl⟩
  | sl=>exact⟨_,rfl⟩
 have h4:=h 4 _ _ rfl rfl;have h5:=h 5 _ _ rfl rfl;have h8:=h 8 _ _ rfl rfl;obtain⟨v4,rfl⟩:=ag y4 h4;obtain⟨v5,rfl⟩:=ag y5 h5;obtain⟨v8,rfl⟩:=ag y8 h8;obtain⟨g1,c1,w4,w5,w8,q1,rfl,aX,a8,az,aZ,O,k4,k5,k8⟩:=G9 aa h8 ao;obtain⟨g2,c2,u4,u5,u8,q2,rfl,aW,a7,ay,aY,D,l4,l5,l8⟩:=G9 aa k8 an;have hg:g1≠g2:=λhg=>by
  rw[hg,D] at O;cases O
 have A:(true::(0:Int)::.raw (.int .u8 U)::.raw (.string W)::.raw u4::.raw u5::true::(0:Int)::.raw u8::q2:List IV).length=(false::(0:Int)::.raw (.int .u8 U)::.raw (.string W)::.raw u4::.raw u5::true::(0:Int)::.raw u8::q2:List IV).length:=by simp only[eG]
 have hb:∃b,(false::(0:Int)::.raw (.int .u8 U)::.raw (.string W)::.raw u4::.raw u5::true::(0:Int)::.raw u8::q2:List IV)[0]?=some (.raw (.bool b)):=⟨false,rfl⟩
 have a6:aG=[]:=by simpa only[IsNds] using ak
 subst a6;refine⟨o,n,v4,v5,g1,c1,o2,m2,w4,w5,q1,g2,c2,U,W,u4,u5,u8,q2,rfl,Ha h4,Ha h5,az,ay,O,D,.agg [false,(0:Int),.raw (.int .u8 o),.raw (.string n),.sl t [],.sl t' ys,false,(0:Int),
  .sl ts [.agg [false,(0:Int),.raw (.int .u8 o2),.raw (.string m2),.sl t2 [],.sl aR aj,false,(0:Int),.sl aN [.agg [true,(0:Int),.raw (.int .u8 U),.raw (.string W),.sl t3 [],.sl aO ai,true,(0:Int),.sl aM []]]]]],?_,?_⟩
 ·simp only[n1,n2,n3,IsNd,IsNds];exact⟨_,_,_,_,_,_,_,_,rfl,hf,e1,_,_,rfl,⟨_,_,_,_,_,_,_,_,rfl,hf2,e2,_,_,rfl,⟨_,_,_,_,_,_,_,_,rfl,aw,e3,rfl⟩,rfl⟩,rfl⟩
 ·refine .agg _ _ rfl (G8 (rest:=[]) (.refl _) (.refl _) (.refl _) (.refl _) (qB D A h4) (uH D hb A _ _ (dM _) rfl _ _ _ hys h5) (.refl _) (.refl _) ?_);refine G_ aX a8 az aZ (by rw[de hg];exact O) (qB D A k4) (uH D hb A _ _ (dM _) rfl _ _ _ ar k5) ?_;exact G_ aW a7 ay aY (cT ..) (qB D A l4) (uH D hb A _ _ (dM _) rfl _ _ _ aq l5) (qB D A l8)
def uM (t:Tr):Prop:=∀(x y:IV) (_:IsTr t x) (_:IsTr t y) (_:t.steps<=1099511627776) (st:ISt),ICall prog gl 15 [x,y] st (λr st'=>r=true/\st'=st)
def Qv (rule:Nat)(s:Sq)(f:Fm)(u:Tm)(n:ByteArray)(sub:List Tr)(IH:∀a∈sub,uM gl a):uM gl (.mk rule s f u n sub):=by
 intro x y hx hy aR st;obtain⟨tl,xl,tr,xr,op,fn,ta,xa,tb,xb,v,un,tu,xu,ts,xs,rfl,bo,e1,i1,e2,i2,aO,hz,e3,i3⟩:=hx.mk;obtain⟨ab,W,aa,U,aJ,aW,aG,au,aE,aq,v2,aw,ay,ai,aA,ak,rfl,a8,a1,aM,aZ,aL,af,aN,aY,ac⟩:=hy.mk;simp only[Tr.steps] at aR;have aT:=ow sub;have h1:=λst=>Dt gl s s (.agg [.sl tl xl,.sl tr xr]) (.agg [.sl ab W,.sl aa U]) ⟨_,_,_,_,rfl,e1,i1,e2,i2⟩ ⟨_,_,_,_,rfl,a1,aM,aZ,aL⟩ st;have h2:=λst=>rN gl f f _ _ aO af st;have h3:=λst=>xA gl u u _ _ hz aN st;have hs1:eqB s s=true:=yZ5.2 rfl;have hs2:eqB f f=true:=yZ5.2 rfl;have aS:eqB u u=true:=yZ5.2 rfl;refine iI func15 ?_;simp only[go_sem,zE,zA,zL,dR];refine (h1 _).q ?_;simp only[go_sem,zE,zA,zL,hs1];refine (h2 _).q ?_;simp only[go_sem,zE,zA,zL,hs2];refine (h3 _).q ?_;simp only[go_sem,zE,zA,aS,dR,i3.len,ac.len];intros;refine cV sub.length (λk fr st' ds=>fr 2=.box [.raw (.int .u8 rule),.sl tl xl,.sl tr xr,.raw (.int .u8 op),fn,.sl ta xa,.sl tb xb,v,un,.sl tu xu,n,.sl ts xs] /\
  fr 3=.box [.raw (.int .u8 rule),.sl ab W,.sl aa U,.raw (.int .u8 aJ),aW,.sl aG au,.sl aE aq,v2,aw,.sl ay ai,n,.sl aA ak]/\fr 5=.iv (.raw (.int .i64 k))/\st'=st/\ds=[]) ?_ ?_ ?_
 ·simp only[go_sem,zE];rfl
 ·rintro k fr aI _ E ⟨f2,f3,f5,rfl,rfl⟩;obtain⟨a,ha⟩:=dd E;have ah:=lMg ha;obtain⟨z,aU,ae⟩:=i3.get ha;obtain⟨z2,ag,A⟩:=ac.get ha;have O:=λst=>IH a ah z z2 ae A (by have:=xZ ah;omega) st;obtain⟨D,aD,ao,aC,an,aK,aX,aH,av,aF,ar,v',ax,az,aj,n',aB,am,rfl⟩:=gg ae;obtain⟨D,aD,ao,aC,an,aK,aX,aH,av,aF,ar,v',ax,az,aj,n',aB,am,rfl⟩:=gg A;simp only[go_sem,zE,zB,zA,f2,f3,f5,i3.len,lt_i E,dc e3,dc aY,iNn,aU,ag,fits];intros;refine (O _).q ?_;simp only[go_sem,zE,f2,f3,f5,df E (by omega)]
 ·rintro fr aI _ ⟨f2,f3,f5,rfl,rfl⟩;simp only[go_sem,zE,f2,f5,i3.len,dD (nLi _)];intros;exact cO ⟨rfl,rfl⟩
def Hb:∀(k:Nat)(t:Tr),SizeOf.sizeOf t<k->uM gl t
 | 0,t,h=>by omega
 | k+1,.mk r sq f u n sub,h=>Qv gl r sq f u n sub (λa A=>Hb k a (by
   have:=lSm A;simp at h;omega))
def uN (t:Tr):uM gl t:=Hb gl _ t (dM _)
noncomputable def uO (q s w:Sq):Sq:=⟨q.l++fO s.l w.l,q.r++fO s.r w.r⟩
noncomputable def mc (A:Sq->Tr):List Sq->List Tr->Sq->Tr
 | _,[],q=>A q
 | [],s::_,_=>s
 | a::al,s::D,q=>if !kv a.l s.sq.l&&!kv a.r s.sq.r then s else mc A al D (uO q s.sq a)
def uP (rule:Nat)(m:Fm):Sq:=if rule=1 then ⟨[m],[m]⟩ else if iN rule then ⟨[m],[]⟩ else if rule≠17 then ⟨[],[m]⟩ else ⟨[],[]⟩
noncomputable def addU (rule:Nat)(m:Fm):List Sq:=(yN 1 rule m tm0 bE).1
noncomputable def pv (rule:Nat)(s:Sq)(m:Fm)(subs:List Tr):Tr:=mc (λq=>.mk rule ⟨fZ s.l q.l,fZ s.r q.r⟩ m tm0 bE subs) (addU rule m) subs (uP rule m)
def zG (l:List Fm):fO l []=l:=by simp[fO,hasL]
def NeedO.sub {s0 st:ISt}{b gL W:Nat}{L R:List Fm}(h:NeedO s0 st b gL W L R)(E:s0 b=none):subSt s0 st:=by
 obtain⟨xl,xr,zl,zr,h1,h2,_,U,_,_,_,O⟩:=h;have none:∀ {s n cells g x},SlO s0 st s n cells g x->0<n->s0 g=none:=λD hn=>by
  rcases D with⟨h,_⟩|⟨_,_,_,_,_,_,_,_,h⟩
  ·omega
  ·exact h
 intro c o hc;have pos:∀l:List Fm,l≠[]->0<l.length:=λl h=>by cases l<;>simp at *
 rw[O c (λh=>by rw[h,E] at hc;cases hc) (λA h=>by rw[h,none h2 (pos _ A)] at hc;cases hc) (λA h=>by rw[h,none U (pos _ A)] at hc;cases hc)];exact hc
def Hc (A:Sq->Tr)(al:List Sq)(q:Sq):mc A al [] q=A q:=by cases al<;>rfl
def NeedO.off {s0 st:ISt}{b D A:Nat}{L R:List Fm}(h:NeedO s0 st b D A L R):(L≠[]->s0 D=none)/\(R≠[]->s0 A=none):=by
 obtain⟨xl,xr,zl,W,h1,h2,_,U,_,_,_,h8⟩:=h;have none:∀ {l:List Fm} {s cells g x},SlO s0 st s l.length cells g x->l≠[]->s0 g=none:=λE O=>by
  rcases E with⟨h,_⟩|⟨_,_,_,_,_,_,_,_,h⟩
  ·exact absurd (fX.1 h) O
  ·exact h
 exact⟨none h2,none U⟩
def SU (st:ISt)(eL eR:Bool)(D A:Nat)(a b:Bool):ISt:=λc=>if (a=true/\eL=true/\c=D)\/(b=true/\eR=true/\c=A) then none else st c
def SU_ff {st:ISt}{eL eR:Bool}{D A:Nat}:SU st eL eR D A false false=st:=by
 funext c;simp[SU]
def Hd {st:ISt}{L R:List Fm}{E D c:Nat}{a b:Bool}(h1:L≠[]->c≠E)(h2:R≠[]->c≠D):SU st (!L.isEmpty) (!R.isEmpty) E D a b c=st c:=by
 unfold SU;rw[a_];simp only[fV,List.isEmpty_eq_false_iff];rintro (⟨_,h,A⟩|⟨_,h,A⟩)
 ·exact h1 h A
 ·exact h2 h A
def SU_L {st:ISt}{L R:List Fm}{A E:Nat}{b:Bool}(h:R≠[]->A≠E):SU st (!L.isEmpty) (!R.isEmpty) A E false b A=st A:=by
 unfold SU;rw[a_];simp only[fV,List.isEmpty_eq_false_iff,bFt,false_and,false_or];exact λD=>h D.2.1 D.2.2
def SU_R {st:ISt}{L R:List Fm}{E A:Nat}{a:Bool}(h:L≠[]->A≠E):SU st (!L.isEmpty) (!R.isEmpty) E A a false A=st A:=by
 unfold SU;rw[a_];simp only[fV,List.isEmpty_eq_false_iff,bFt,false_and,eu];exact λD=>h D.2.1 D.2.2
def Qw {st:ISt}{eR:Bool}{A D:Nat}{b:Bool}:(SU st true eR A D false b).put A none=SU st true eR A D true b:=by
 funext c;rw[ISt.put_apply];unfold SU;by_cases h:c=A<;>simp[h]
def Qx {st:ISt}{eL:Bool}{D A:Nat}{a:Bool}:(SU st eL true D A a false).put A none=SU st eL true D A a true:=by
 funext c;rw[ISt.put_apply];unfold SU;by_cases h:c=A<;>simp[h]
def He {st:ISt}{eR:Bool}{D A:Nat}{a b:Bool}:SU st false eR D A a b=SU st false eR D A false b:=by
 funext c;simp[SU]
def Hf {st:ISt}{eL:Bool}{D A:Nat}{a b:Bool}:SU st eL false D A a b=SU st eL false D A a false:=by
 funext c;simp[SU]
def Hg {l:List Fm}{A:List IV}(h:IsFms l A):∀x∈A,x.cells.length=4:=λx hx=>by
 have:=pe h x hx;exact (mQ this).2.1
set_option maxHeartbeats 2000000 in
def Qy (G:Gl gl)(T:Gt gl)(rd:IV)(mp:Nat)(cu:rd=.agg [.raw (.map (some mp))])(rule:Nat)(s:Sq)(mn:Fm)(u:Tm)(nm:ByteArray)(sb:List Tr)(x:IV)(hx:IsTr (.mk rule s mn u nm sb) x)(subs:List Tr)(tg:Tag)(zs:List IV)(aW:okEs tg 12)(hzs:IsTrs subs zs)
  (dH:mn.size<=100000) (hs1:dt s.l<=100000) (hs2:dt s.r<=100000) (hq:∀a∈subs,a.sq.l.length+a.sq.r.length<=1000) (hn:subs.length<=100) (st:ISt) (es:List (Value×IV)) (hm:st mp=some (.map (.int .u8) es)) (hl:qy es) :
  ICall prog gl 66 [rd,x,.agg [],.sl tg zs] st (λr st'=>IsTr (pv rule s mn subs) r/\st'=st):=by
 subst cu;obtain⟨tl,xl,tr,xr,op,fn,ta,xa,tb,xb,v,un,tu,xu,ts,xs,rfl,ct,e1,i1,e2,i2,hy,hz,e3,i3⟩:=hx.mk;have a6:=λst=>qk gl mn _ hy (by omega) st;have hA:=λst=>Oc gl G T 1 rule mn _ hy (by omega) tm0 (.agg [false,.raw (.string ⟨#[]⟩),()]) ⟨_,_,rfl,.inl rfl,rfl⟩ (by decide) bE st;have aA:=hl rule;have dI:((rule:Int)=1)=(rule=1):=propext (by omega);have c6:((rule:Int)=17)=(rule=17):=propext (by omega);have ao:IsFms [mn] [.agg [.raw (.int .u8 op),fn,.sl ta xa,.sl tb xb]]:=⟨_,_,rfl,hy,rfl⟩
 have aH:=λq L R t1 x1 t2 x2 (h1:IsSq q (.agg [.sl t1 x1,.sl t2 x2])) s0 st b gL gR (h:NeedO s0 st b gL gR L R) hl=>G1 gl q ⟨[],[]⟩ _ (.agg [(),()]) h1 ⟨_,_,_,_,rfl,.inl rfl,rfl,.inl rfl,rfl⟩ s0 st b gL gR L R h hl;refine ICall.intro (c:=cf prog gl [9,110,116] [(18,[])] [5]) func66 rfl (by show _<=124;simp) (by kernel_rfl) ?_;simp only[go_sem,zE,zB,zA,zM,zL,fits];refine λb=>eB λhb=>?_;have aJ:NeedO st (st.put b (some (.box [(),()]))) b b b [] []:=⟨_,_,[],[],cT ..,.inl ⟨rfl,rfl,_,_,rfl⟩,rfl,.inl ⟨rfl,rfl,_,_,rfl⟩,rfl,λh=>absurd rfl h,λh=>absurd rfl h,λc h _ _=>de h⟩
 have a7:mp≠b:=λh=>by rw[<- h,hm] at hb;cases hb
 have O:uP rule mn=if rule=1 then ⟨[mn],[mn]⟩ else if iN rule then ⟨[mn],[]⟩ else if rule≠17 then ⟨[],[mn]⟩ else ⟨[],[]⟩:=rfl
 have bH:pv rule s mn subs=mc (λq=>.mk rule ⟨fZ s.l q.l,fZ s.r q.r⟩ mn tm0 bE subs) (addU rule mn) subs (uP rule mn):=rfl;generalize uP rule mn=q at O bH;have aB:∀z,kN false none z=some z:=λ_=>rfl;have aU:∀v z,kN false (some v) z=some v:=λ_ _=>rfl;have aw:(if (#[]:Array UInt8).size<=281474976710656 then some (IV.raw (Value.string { data:=#[] })) else none)=some (IV.raw (Value.string { data:=#[] })):=rfl;rcases (show rule=1\/(rule≠1/\iN rule=true)\/(rule≠1/\iN rule=false/\rule=17)\/(rule≠1/\iN rule=false/\rule≠17) by
  by_cases h1:rule=1
  ·exact .inl h1
  ·by_cases h2:rule=17<;>cases iN rule<;>simp[h1,h2]) with h1|h1|h1|h1
 all_goals first
  | (rw[b_ h1] at O
     have d1:decide ((rule:Int)=1)=true:=dEt (by omega);simp only[go_sem,zE,zA,zL,fits,dP,d1];refine (aH ⟨[mn],[mn]⟩ _ _ _ _ _ _ ⟨_,_,_,_,rfl,.inr rfl,ao,.inr rfl,ao⟩ _ _ _ _ _ aJ (by simp)).mono ?_;rintro _ ae ⟨rfl,gL,gR,hN⟩;simp only[zG,gz] at hN;have aO:NeedO st ae b gL gR q.l q.r:=by rw[O];exact hN
     have aY:q.l.length+q.r.length<=2:=by rw[O];simp
     simp only[go_sem,zE,zB,zA,zL,fits,aw])
  | (have d1:decide ((rule:Int)=1)=false:=dEf (by omega)
     rw[a_ h1.1,h1.2,b_ rfl] at O;rw[h1.2,b_ rfl] at aA;simp only[go_sem,zE,zA,zL,fits,dP,d1,de a7,hm,aA,aU];refine (aH ⟨[mn],[]⟩ _ _ _ _ _ _ ⟨_,_,_,_,rfl,.inr rfl,ao,.inl rfl,rfl⟩ _ _ _ _ _ aJ (by simp)).mono ?_;rintro _ ae ⟨rfl,gL,gR,hN⟩;simp only[zG,gz] at hN;have aO:NeedO st ae b gL gR q.l q.r:=by rw[O];exact hN
     have aY:q.l.length+q.r.length<=2:=by rw[O];simp
     simp only[go_sem,zE,zB,zA,zL,fits,aw])
  | (have d1:decide ((rule:Int)=1)=false:=dEf (by omega)
     have d2:decide ((rule:Int)=17)=true:=dEt (by omega);rw[a_ h1.1,h1.2.1,a_ (by decide),a_ (λh=>h h1.2.2)] at O;rw[h1.2.1,a_ (by decide)] at aA;simp only[go_sem,zE,zB,zA,zL,fits,dP,d1,de a7,hm,aA,aB,d2];obtain⟨ae,ax⟩:∃ae,ae=st.put b (some (.box [(),()])):=⟨_,rfl⟩
     rw[<- ax];rw[<- ax] at aJ;have aO:NeedO st ae b b b q.l q.r:=by rw[O];exact aJ
     have aY:q.l.length+q.r.length<=2:=by rw[O];simp
     try simp only[go_sem,aw])
  | (have d1:decide ((rule:Int)=1)=false:=dEf (by omega)
     have d2:decide ((rule:Int)=17)=false:=dEf (by omega);rw[a_ h1.1,h1.2.1,a_ (by decide),b_ h1.2.2] at O;rw[h1.2.1,a_ (by decide)] at aA;simp only[go_sem,zE,zA,zL,fits,dP,d1,de a7,hm,aA,aB,d2];refine (aH ⟨[],[mn]⟩ _ _ _ _ _ _ ⟨_,_,_,_,rfl,.inl rfl,rfl,.inr rfl,ao⟩ _ _ _ _ _ aJ (by simp)).mono ?_;rintro _ ae ⟨rfl,gL,gR,hN⟩;simp only[zG,gz] at hN;have aO:NeedO st ae b gL gR q.l q.r:=by rw[O];exact hN
     have aY:q.l.length+q.r.length<=2:=by rw[O];simp
     simp only[go_sem,zE,zB,zA,zL,fits,aw])
 all_goals
  refine (hA _).mono ?_;rintro _ ae ⟨cb,bm,rfl,eA,_,iA,rfl⟩;replace iA:IsSqs (addU rule mn) bm:=iA.w;simp only[go_sem,zE,hzs.len];intro _;refine cV subs.length (λk fr st' ds=>(∃gL gR q,NeedO st st' b gL gR q.l q.r/\pv rule s mn subs=mc (λq=>.mk rule ⟨fZ s.l q.l,fZ s.r q.r⟩ mn tm0 bE subs) ((addU rule mn).drop k) (subs.drop k) q/\q.l.length+q.r.length<=2+1000*k) /\
   fr 3=.iv (.sl tg zs)/\fr 4=.box [.raw (.map (some mp))]/\fr 5=.iv (.cptr (.agg [.raw (.int .u8 rule),.sl tl xl,.sl tr xr,.raw (.int .u8 op),fn,.sl ta xa,.sl tb xb,.raw (.bool v),un,.sl tu xu,nm,.sl ts xs]))/\fr 8=.box trZ/\fr 9=(ptrI b)/\fr 10=.iv (.fn (.func 103) [] [ptrI b])/\fr 12=.iv (.sl cb bm) /\
   fr 59=.iv (.sl tg zs)/\fr 60=subs.length/\fr 61=.iv (.raw (.int .i64 k))/\ds=[]) ?_ ?_ ?_
  ·simp only[go_sem,zE,zM];exact⟨⟨_,_,q,aO,bH,by omega⟩,rfl,rfl,rfl,rfl⟩
  ·rintro k fr ae _ az ⟨⟨gL,gR,q,hN,ah,cv⟩,f3,f4,f5,f8,f9,f10,f12,f59,f60,f61,rfl⟩;obtain⟨a,ha⟩:=dd az;obtain⟨z,bJ,hz⟩:=hzs.get ha;have bI:=hq a (lMg ha);have ay:=hz;have bM:subs.drop k=a::subs.drop (k+1):=fM az▸by rw[(lGs ha).2]
   obtain⟨ar,W,am,au,an,dW⟩:=a;obtain⟨bu,bo,bt,bn,dA,dU,dy,dq,dx,dp,v',du,dv,dm,dw,dn,rfl,_,bV,bG,bU,bF,dG,dF,dV,dE⟩:=hz.mk;by_cases bK:k<(addU rule mn).length
   ·have dk:decide ((((addU rule mn).length:Nat):Int)<=(k:Int))=false:=dEf (by omega);simp only[go_sem,zE,zB,zA,zL,f12,f59,f60,f61,lt_i az,dc aW,dc eA,iNn,bJ,fits,iA.len,dk];obtain⟨w,hw⟩:=dd bK;obtain⟨yw,aN,cn⟩:=iA.get hw;have cB:(addU rule mn).drop k=w::(addU rule mn).drop (k+1):=fM bK▸by rw[(lGs hw).2]
    rw[bM,cB,mc] at ah;obtain⟨tw,xw,bs,bl,rfl,ew,iw,bT,bC⟩:=cn;have cy:=λst=>GZ gl w.l tw xw ew iw W.l bu bo bV bG st;have cw:=λst=>GZ gl w.r bs bl bT bC W.r bt bn bU bF st;have c8:(fO W.l w.l).length<=W.l.length:=iW ..;have c7:(fO W.r w.r).length<=W.r.length:=iW ..;replace bI:W.l.length+W.r.length<=1000:=bI;have bN:=G1 gl W w (.agg [.sl bu bo,.sl bt bn]) (.agg [.sl tw xw,.sl bs bl]) ⟨_,_,_,_,rfl,bV,bG,bU,bF⟩ ⟨_,_,_,_,rfl,ew,iw,bT,bC⟩ st ae b gL gR q.l q.r hN (by omega);have aF:∀(av:ISt) gL gR,NeedO st av b gL gR (q.l++fO W.l w.l) (q.r++fO W.r w.r)->pv rule s mn subs=mc (λq=>.mk rule ⟨fZ s.l q.l,fZ s.r q.r⟩ mn tm0 bE subs) ((addU rule mn).drop (k+1)) (subs.drop (k+1)) (uO q W w) →
      ∃gL gR q,NeedO st av b gL gR q.l q.r/\pv rule s mn subs=mc (λq=>.mk rule ⟨fZ s.l q.l,fZ s.r q.r⟩ mn tm0 bE subs) ((addU rule mn).drop (k+1)) (subs.drop (k+1)) q/\q.l.length+q.r.length<=2+1000*(k+1):=λav gL gR h1 h2=>⟨gL,gR,uO q W w,h1,h2,by simp only[uO,lLa];omega⟩
    simp only[go_sem,aN];refine (cy _).q ?_;cases a8:kv w.l W.l
    ·simp only[go_sem,zE,zA,f12,aN,dc eA,iNn,fits];refine (cw _).q ?_;cases bO:kv w.r W.r
     ·simp only[go_sem,zE,zA,zL,f8];rw[b_ (by decide)];refine dZ (hN.sub hb) ⟨?_,rfl⟩;rw[ah,b_ (by show (!kv w.l W.l&&!kv w.r W.r)=true;rw[a8,bO];rfl)];exact ay
     ·rw[a_ (by show ¬ (!kv w.l W.l&&!kv w.r W.r)=true;rw[a8,bO];decide)] at ah;simp only[go_sem,zE,zB,zA,zL,f10,f12,aN,dc eA,iNn,fits];refine bN.mono ?_;rintro _ av ⟨rfl,bf,be,bb⟩;simp only[go_sem,zE,f3,f4,f5,f8,f9,f10,f12,f59,f60,f61,df az (by omega)];exact aF av bf be bb ah
    ·rw[a_ (by show ¬ (!kv w.l W.l&&!kv w.r W.r)=true;rw[a8];simp)] at ah;simp only[go_sem,zE,zB,zA,zL,f10,f12,aN,dc eA,iNn,fits];refine bN.mono ?_;rintro _ av ⟨rfl,bf,be,bb⟩;simp only[go_sem,zE,f3,f4,f5,f8,f9,f10,f12,f59,f60,f61,df az (by omega)];exact aF av bf be bb ah
   ·have dk:decide ((((addU rule mn).length:Nat):Int)<=(k:Int))=true:=dEt (by omega);simp only[go_sem,zE,zB,zA,zL,f8,f12,f59,f60,f61,lt_i az,dc aW,iNn,bJ,fits,iA.len,dk];rw[b_ (by decide)];rw[bM,List.drop_eq_nil_of_le (by omega),mc] at ah;exact dZ (hN.sub hb) ⟨by rw[ah];exact ay,rfl⟩
  ·rintro fr ae _ ⟨⟨gL,gR,q,hN,ah,cv⟩,f3,f4,f5,f8,f9,f10,f12,f59,f60,f61,rfl⟩;rw[List.drop_length] at ah;simp only[go_sem,f60,f61,dD (nLi _)];rw[nL];have aX:=hN.sub hb;obtain⟨cG,cF⟩:=hN.off;obtain⟨yl,yr,zl,zr,cD,cr,aD,cq,aC,k1,k2,k3⟩:=hN;obtain⟨S,hS⟩:∃S:Array Bool->ISt,S=λl=>SU ae (!q.l.isEmpty) (!q.r.isEmpty) gL gR (l.getD 7 false) (l.getD 13 false):=⟨_,rfl⟩
   have bQ:∀l,S l b=some (.box [yl,yr]):=λl=>by rw[hS];exact (Hd (λh=>(k1 h).1.symm) (λh=>(k2 h).symm)).trans cD
   have kk:∀ {K:Kt} {ad:Ad} {fr:Fr} {l:Array Bool} {i:Nat},K ad fr (S (l.setIfInBounds i true)) []->(decide (i=7) || decide (i=13))=false->K ad fr (S l) []:=λh hi=>by
    simp only[kx,decide_eq_false_iff_not] at hi;rw[hS] at h ⊢;simp only[fq false hi.1,fq false hi.2] at h;exact h
   have ax:ae=S (Array.replicate 21 false):=by rw[hS];simp only[jh];exact SU_ff.symm
   rw[ax];refine anyT (n:=20) (S:=S) (Rel:=λi z=>match i with
    | 0=>z=.cptr (.raw (.int .u8 rule))
    | 1=>z=.raw (.int .u8 rule)
    | 2=>z=.cptr (.agg [.sl tl xl,.sl tr xr])
    | 3=>z=.cptr (.sl tl xl)
    | 4=>z=.sl tl xl
    | 5=>z=.raw (.pointer (some ⟨b,0,none⟩))
    | 6=>z=yl
    | 7=>∃t ys,z=.sl t ys/\okEs t 4/\IsFms (fZ s.l q.l) ys
    | 8=>z=.cptr (.agg [.sl tl xl,.sl tr xr])
    | 9=>z=.cptr (.sl tr xr)
    | 10=>z=.sl tr xr
    | 11=>z=.raw (.pointer (some ⟨b,1,none⟩))
    | 12=>z=yr
    | 13=>∃t ys,z=.sl t ys/\okEs t 4/\IsFms (fZ s.r q.r) ys
    | 14=>∃t ys t' bk,z=.agg [.sl t ys,.sl t' bk]/\okEs t 4/\IsFms (fZ s.l q.l) ys/\okEs t' 4/\IsFms (fZ s.r q.r) bk
    | 15=>z=.cptr (.agg [.raw (.int .u8 op),fn,.sl ta xa,.sl tb xb])
    | 16=>z=.agg [.raw (.int .u8 op),fn,.sl ta xa,.sl tb xb]
    | 17=>IsFm mn z
    | 18=>z=.sl tg zs
    | 19=>IsTr (.mk rule ⟨fZ s.l q.l,fZ s.r q.r⟩ mn tm0 bE subs) z
    | _=>True)
    (F:=λfr=>fr 3=.iv (.sl tg zs)/\fr 5=.iv (.cptr (.agg [.raw (.int .u8 rule),.sl tl xl,.sl tr xr,.raw (.int .u8 op),fn,.sl ta xa,.sl tb xb,.raw (.bool v),un,.sl tu xu,nm,.sl ts xs]))/\fr 8=.box trZ/\fr 9=(ptrI b)) (G:=λfr=>∃l,IsTr (.mk rule ⟨fZ s.l q.l,fZ s.r q.r⟩ mn tm0 bE subs) (.agg l)/\fr 8=.box l)
    ⟨rfl,by decide,by decide,by decide,λfr d z hd ⟨h3,h5,h8,h9⟩=>⟨(ov hd rfl).trans h3,(ov hd rfl).trans h5,(ov hd rfl).trans h8,(ov hd rfl).trans h9⟩⟩ ?_ ?_ (λ_=>rfl) ⟨f3,f5,f8,f9⟩
   ·repeat' apply AllOkS.cons
    ·intro A ad fr K hz E D hF hd hK U;obtain⟨f3,f5,f8,f9⟩:=hF;simp only[go_sem,dT,D,f5];exact kk (hK _ _ rfl (λh=>absurd h (by decide)) rfl) rfl
    ·intro A ad fr K hz E D hF hd hK U;obtain⟨f3,f5,f8,f9⟩:=hF;obtain⟨_,g0,rfl⟩:=hd 0 _ rfl rfl;simp only[go_sem,dT,D,g0];exact kk (hK _ _ rfl (λh=>absurd h (by decide)) rfl) rfl
    ·intro A ad fr K hz E D hF hd hK U;obtain⟨f3,f5,f8,f9⟩:=hF;simp only[go_sem,zA,zL,dT,D,f5];exact kk (hK _ _ rfl (λh=>absurd h (by decide)) rfl) rfl
    ·intro A ad fr K hz E D hF hd hK U;obtain⟨f3,f5,f8,f9⟩:=hF;obtain⟨_,g2,rfl⟩:=hd 2 _ rfl rfl;simp only[go_sem,dT,D,g2];exact kk (hK _ _ rfl (λh=>absurd h (by decide)) rfl) rfl
    ·intro A ad fr K hz E D hF hd hK U;obtain⟨f3,f5,f8,f9⟩:=hF;obtain⟨_,g3,rfl⟩:=hd 3 _ rfl rfl;simp only[go_sem,dT,D,g3];exact kk (hK _ _ rfl (λh=>absurd h (by decide)) rfl) rfl
    ·intro A ad fr K hz E D hF hd hK U;obtain⟨f3,f5,f8,f9⟩:=hF;unfold ptrI at f9;simp only[go_sem,dT,D,f9];exact kk (hK _ _ rfl (λh=>absurd h (by decide)) rfl) rfl
    ·intro A ad fr K hz E D hF hd hK U;obtain⟨f3,f5,f8,f9⟩:=hF;obtain⟨_,g5,rfl⟩:=hd 5 _ rfl rfl;simp only[go_sem,zE,dT,D,g5,bQ];exact kk (hK _ _ rfl (λh=>absurd h (by decide)) rfl) rfl
    ·intro A ad fr K hz E D hF hd hK U;obtain⟨f3,f5,f8,f9⟩:=hF;obtain⟨_,g4,rfl⟩:=hd 4 _ rfl rfl;obtain⟨_,g6,rfl⟩:=hd 6 _ rfl rfl;rcases cr with⟨ag,cC,fz,ez,rfl⟩|⟨ag,bW,bh,rfl,a1,aG,aI,aE,bL⟩
     ·have O:q.l=[]:=fX.1 ag;have ay:zl=[]:=fX.1 (by rw[aD.len];exact ag);subst ay;simp only[go_sem,zE,zA,dT,g4,g6];refine (uI gl s.l tl xl e1 i1 q.l ⟨fz,.nil,ez⟩ [] (.inl rfl) aD (by omega) _).mono ?_;rintro _ _ ⟨t5,y5,rfl,e5,i5,rfl⟩;have bc:=hK _ (.sl t5 y5) rfl (λh=>absurd h (by decide)) ⟨_,_,rfl,e5,i5⟩;have hE:S (A.setIfInBounds 7 true)=S A:=by
       rw[hS];simp only[fq false (show 7≠13 by decide),O,List.isEmpty_nil,fW];rw[He,He (a:=A.getD 7 false)]
      rw[<- hE];exact bc
     ·have O:q.l≠[]:=λh=>by rw[h] at ag;exact absurd ag (by decide)
      have aZ:(!q.l.isEmpty)=true:=by simpa using O
      have ba:S A gL=some (.box bh):=by
       rw[hS];simp only[E];exact (SU_L (λh=>(k1 O).2 h)).trans a1
      have hE:(S A).put gL none=S (A.setIfInBounds 7 true):=by
       rw[hS];simp only[fq false (show 7≠13 by decide),fu (show 7<A.size by rw[hz];decide),dB,E,aZ];exact Qw
      simp only[go_sem,zE,zA,dT,g4,g6];refine ma (pre:=[_]) (es:=4) (zs:=zl) ba aD.len aG aI (Hg aD) aE (by omega) ?_;rw[hE];refine (uI gl s.l tl xl e1 i1 q.l _ _ (.inr rfl) aD.aged (by omega) _).mono ?_;rintro _ _ ⟨t5,y5,rfl,e5,i5,rfl⟩;exact hK _ (.sl t5 y5) rfl (λh=>absurd h (by decide)) ⟨_,_,rfl,e5,i5⟩
    ·intro A ad fr K hz E D hF hd hK U;obtain⟨f3,f5,f8,f9⟩:=hF;simp only[go_sem,zA,zL,dT,D,f5];exact kk (hK _ _ rfl (λh=>absurd h (by decide)) rfl) rfl
    ·intro A ad fr K hz E D hF hd hK U;obtain⟨f3,f5,f8,f9⟩:=hF;obtain⟨_,g8,rfl⟩:=hd 8 _ rfl rfl;simp only[go_sem,dT,D,g8];exact kk (hK _ _ rfl (λh=>absurd h (by decide)) rfl) rfl
    ·intro A ad fr K hz E D hF hd hK U;obtain⟨f3,f5,f8,f9⟩:=hF;obtain⟨_,g9,rfl⟩:=hd 9 _ rfl rfl;simp only[go_sem,dT,D,g9];exact kk (hK _ _ rfl (λh=>absurd h (by decide)) rfl) rfl
    ·intro A ad fr K hz E D hF hd hK U;obtain⟨f3,f5,f8,f9⟩:=hF;unfold ptrI at f9;simp only[go_sem,dT,D,f9];exact kk (hK _ _ rfl (λh=>absurd h (by decide)) rfl) rfl
    ·intro A ad fr K hz E D hF hd hK U;obtain⟨f3,f5,f8,f9⟩:=hF;obtain⟨_,cN,rfl⟩:=hd 11 _ rfl rfl;simp only[go_sem,zE,dT,D,cN,bQ];exact kk (hK _ _ rfl (λh=>absurd h (by decide)) rfl) rfl
    ·intro A ad fr K hz E D hF hd hK U;obtain⟨f3,f5,f8,f9⟩:=hF;obtain⟨_,bS,rfl⟩:=hd 10 _ rfl rfl;obtain⟨_,bR,rfl⟩:=hd 12 _ rfl rfl;rcases cq with⟨ag,cC,fz,ez,rfl⟩|⟨ag,bW,bh,rfl,a1,aG,aI,aE,bL⟩
     ·have O:q.r=[]:=fX.1 ag;have ay:zr=[]:=fX.1 (by rw[aC.len];exact ag);subst ay;simp only[go_sem,zE,zA,dT,bS,bR];refine (uI gl s.r tr xr e2 i2 q.r ⟨fz,.nil,ez⟩ [] (.inl rfl) aC (by omega) _).mono ?_;rintro _ _ ⟨t5,y5,rfl,e5,i5,rfl⟩;have bc:=hK _ (.sl t5 y5) rfl (λh=>absurd h (by decide)) ⟨_,_,rfl,e5,i5⟩;have hE:S (A.setIfInBounds 13 true)=S A:=by
       rw[hS];simp only[fq false (show 13≠7 by decide),O,List.isEmpty_nil,fW];rw[Hf,Hf (b:=A.getD 13 false)]
      rw[<- hE];exact bc
     ·have O:q.r≠[]:=λh=>by rw[h] at ag;exact absurd ag (by decide)
      have aZ:(!q.r.isEmpty)=true:=by simpa using O
      have ba:S A gR=some (.box bh):=by
       rw[hS];simp only[E];exact (SU_R (λh=>((k1 h).2 O).symm)).trans a1
      have hE:(S A).put gR none=S (A.setIfInBounds 13 true):=by
       rw[hS];simp only[fq false (show 13≠7 by decide),fu (show 13<A.size by rw[hz];decide),dB,E,aZ];exact Qx
      simp only[go_sem,zE,zA,dT,bS,bR];refine ma (pre:=[_]) (es:=4) (zs:=zr) ba aC.len aG aI (Hg aC) aE (by omega) ?_;rw[hE];refine (uI gl s.r tr xr e2 i2 q.r _ _ (.inr rfl) aC.aged (by omega) _).mono ?_;rintro _ _ ⟨t5,y5,rfl,e5,i5,rfl⟩;exact hK _ (.sl t5 y5) rfl (λh=>absurd h (by decide)) ⟨_,_,rfl,e5,i5⟩
    ·intro A ad fr K hz E D hF hd hK U;obtain⟨f3,f5,f8,f9⟩:=hF;obtain⟨z7,g7,k7⟩:=hd 7 _ rfl rfl;obtain⟨t5,y5,rfl,k5,k6⟩:=k7;obtain⟨dj,cM,ck⟩:=hd 13 _ rfl rfl;obtain⟨t6,y6,rfl,aV,k8⟩:=ck;simp only[go_sem,zA,zL,dT,g7,cM,fits];exact kk (hK _ _ rfl (λh=>absurd h (by decide)) ⟨_,_,_,_,rfl,k5,k6,aV,k8⟩) rfl
    ·intro A ad fr K hz E D hF hd hK U;obtain⟨f3,f5,f8,f9⟩:=hF;simp only[go_sem,zA,zL,dT,D,f5];exact kk (hK _ _ rfl (λh=>absurd h (by decide)) rfl) rfl
    ·intro A ad fr K hz E D hF hd hK U;obtain⟨f3,f5,f8,f9⟩:=hF;obtain⟨_,cK,rfl⟩:=hd 15 _ rfl rfl;simp only[go_sem,zA,dT,D,cK,fits];exact kk (hK _ _ rfl (λh=>absurd h (by decide)) rfl) rfl
    ·intro A ad fr K hz E D hF hd hK U;obtain⟨f3,f5,f8,f9⟩:=hF;obtain⟨_,cJ,rfl⟩:=hd 16 _ rfl rfl;simp only[go_sem,zE,zA,dT,cJ];refine (a6 _).mono ?_;rintro r _ ⟨hr,rfl⟩;exact kk (hK _ _ rfl (λh=>absurd h (by decide)) hr.1) rfl
    ·intro A ad fr K hz E D hF hd hK U;obtain⟨f3,f5,f8,f9⟩:=hF;simp only[go_sem,dT,f3];exact kk (hK _ _ rfl (λh=>absurd h (by decide)) rfl) rfl
    ·intro A ad fr K hz E D hF hd hK U;obtain⟨f3,f5,f8,f9⟩:=hF;obtain⟨_,g1,rfl⟩:=hd 1 _ rfl rfl;obtain⟨di,cL,cj⟩:=hd 14 _ rfl rfl;obtain⟨t5,y5,t6,y6,rfl,k5,k6,aV,k8⟩:=cj;obtain⟨bZ,g17,aM⟩:=hd 17 _ rfl rfl;obtain⟨_,g18,rfl⟩:=hd 18 _ rfl rfl;replace aM:IsFm mn bZ:=aM;obtain⟨o2,n2,t2,x2,t3,x3,rfl⟩:=aM.agg;simp only[go_sem,zA,zL,dT,g1,cL,g17,g18,fits];exact kk (hK _ _ rfl (λh=>absurd h (by decide)) (by simp only[IsTr];exact⟨_,_,_,_,_,_,_,_,_,_,_,_,_,_,_,_,rfl,ct,k5,k6,aV,k8,aM,⟨_,_,rfl,.inl rfl,rfl⟩,aW,hzs⟩)) rfl
    ·intro A ad fr K hz E D hF hd hK U;obtain⟨f3,f5,f8,f9⟩:=hF;obtain⟨dh,g19,bB⟩:=hd 19 _ rfl rfl;obtain⟨aT,ca,b3,b9,b2,ce,cP,cd,b5,cc,b4,v9,b6,b7,b0,n9,b8,b1,rfl⟩:=gg bB;simp only[go_sem,zA,zL,dT,D,f8,g19,trZ];exact kk (U _ rfl rfl ⟨_,bB,rfl⟩ (λ_=>Fo rfl)) rfl
    ·exact trivial
   ·rintro fr ⟨l,hl,h8⟩ c9;obtain⟨aT,ca,b3,b9,b2,ce,cP,cd,b5,cc,b4,v9,b6,b7,b0,n9,b8,b1,cA⟩:=gg hl;obtain rfl:=IV.agg.inj cA;simp only[go_sem,zA,zL,h8];refine dZ (λc o hc=>?_) ⟨by rw[ah,Hc];exact hl,rfl⟩;rw[hS];exact (Hd (λh h'=>by rw[h',cG h] at hc;cases hc) (λh h'=>by rw[h',cF h] at hc;cases hc)).trans (aX c o hc)
mutual
noncomputable def oD:Tr->Tr
 | .mk rule s m _ _ sub=>pv rule s m (kW sub)
noncomputable def kW:List Tr->List Tr
 | []=>[]
 | a::l=>oD a::kW l
end
def zH:∀l:List Tr,(kW l).length=l.length
 | []=>rfl
 | a::l=>by simp only[kW,eG,zH l]
def Hh:∀l m:List Tr,kW (l++m)=kW l++kW m
 | [],m=>rfl
 | a::l,m=>by simp only[dX,kW,Hh l m]
def Hi {P:Tr->Prop}{A:Sq->Tr}(E:∀q,P (A q)):∀ {al:List Sq} {D:List Tr} {q:Sq},(∀s∈D,P s)->P (mc A al D q)
 | al,[],q,_=>by rw[Hc];exact E q
 | [],s::_,q,h=>h s (by simp)
 | a::al,s::D,q,h=>by
  rw[mc];split
  ·exact h s (by simp)
  ·exact Hi E λx hx=>h x (by simp[hx])
mutual
def Qz:∀ {t:Tr},okT t=true->(oD t).sq.l.length+(oD t).sq.r.length<=300
 | .mk rule s m u n sub,h=>by
  simp only[okT,bAt] at h;have A:=(uk h.1).1;rw[oD,pv];refine Hi (P:=λt=>t.sq.l.length+t.sq.r.length<=300) (λq=>?_) (zI h.2);have h1:=(su (need:=q.l) (l:=s.l) (r:=[])).2;have h2:=(su (need:=q.r) (l:=s.r) (r:=[])).2;have U:=h_ s.l;have O:=h_ s.r;have E:=iT s.l;have D:=iT s.r;simp only[fN] at h1 h2;show (fZ s.l q.l).length+(fZ s.r q.r).length<=300;unfold fZ;omega
def zI:∀ {l:List Tr},okTs l=true->∀a∈kW l,a.sq.l.length+a.sq.r.length<=300
 | [],_,a,h=>by simp only[kW] at h;cases h
 | b::l,h,a,A=>by
  simp only[okTs,bAt] at h;simp only[kW,dC] at A;rcases A with rfl|A
  ·exact Qz h.1
  ·exact zI h.2 a A
end
def uQ (t:Tr):Prop:=∀(x:IV) (_:IsTr t x) (_:t.steps<=100) (_:okT t=true) (st:ISt) (m:Nat) (es:List (Value×IV)) (_:st m=some (.map (.int .u8) es)) (_:qy es),
 ICall prog gl 65 [x,.agg [],.fn (.func 63) [.agg [.raw (.map (some m))]] [],.fn (.func 66) [.agg [.raw (.map (some m))]] []] st
  (λr st'=>IsTr (oD t) r/\st'=st)
def QA (G:Gl gl)(T:Gt gl)(rule:Nat)(s:Sq)(mn:Fm)(u:Tm)(nm:ByteArray)(sub:List Tr)(IH:∀a∈sub,uQ gl a):uQ gl (.mk rule s mn u nm sub):=by
 intro x hx am hw st m es hm hl;obtain⟨tl,xl,tr,xr,op,fn,ta,xa,tb,xb,v,un,tu,xu,ts,xs,rfl,bu,e1,i1,e2,i2,hy,hz,e3,i3⟩:=hx.mk;refine ICall.intro (c:=cf prog gl [23] []) func65 rfl (by show _<=48;simp) (by kernel_rfl) ?_;simp only[go_sem,zE,zA,zL];refine (Fq gl _ m rfl _ _ hx (by show sub.length<=_;simp only[Tr.steps] at am;have:=ow sub;omega) _).mono ?_;rintro _ st ⟨aE,aw,rfl,aO,ax,rfl⟩;have aB:=ax.len;have bA:sub.length<=100:=by rw[Tr.steps] at am;have:=ow sub;omega
 change aw.length=sub.length at aB;simp only[go_sem,zE,zA];intro _;refine gv ⟨by omega,by omega,by omega⟩ λg=>eB λhg=>?_;have aM:g≠m:=λh=>by rw[h,hm] at hg;cases hg
 intro _;refine cV sub.length (λk fr st' ds=>(∃cs zs,st'=st.put g (some (.box cs))/\cs.length=sub.length*12/\cs.take (k*12)=zs.flatMap IV.cells/\IsTrs (kW (sub.take k)) zs) /\
  fr 2=.iv (.fn (.func 63) [.agg [.raw (.map (some m))]] [])/\fr 3=.iv (.fn (.func 66) [.agg [.raw (.map (some m))]] [])/\fr 4=.box [.raw (.int .u8 rule),.sl tl xl,.sl tr xr,.raw (.int .u8 op),fn,.sl ta xa,.sl tb xb,v,un,.sl tu xu,nm,.sl ts xs]/\fr 5=.box []/\fr 8=.box trZ /\
  fr 10=.iv (.sl ⟨false,.none,0⟩ (List.replicate sub.length (.agg [])))/\fr 11=.iv (.raw (.slice (some ⟨g,0,none⟩) sub.length sub.length))/\fr 24=.iv (.sl aE aw)/\fr 25=sub.length/\fr 26=.iv (.raw (.int .i64 k))/\ds=[]) ?_ ?_ ?_
 ·simp only[go_sem,zE,zM,aB];exact⟨⟨_,[],rfl,by simp,rfl,rfl⟩,rfl,rfl,rfl⟩
 ·rintro k fr _ _ D ⟨⟨cs,zs,rfl,aC,ao,hzs⟩,f2,f3,f4,f5,f8,f10,f11,f24,f25,f26,rfl⟩;obtain⟨a,ha⟩:=dd D;obtain⟨z,aL,hz⟩:=ax.get ha;have ar:=lMg ha;have aR:=uh ar;simp only[Tr.steps] at am;simp only[okT,bAt] at hw;have aq:=λaF hm=>IH a ar z hz (by omega) (y7 hw.2 ar) aF m es hm hl;have ay:(List.replicate sub.length (IV.agg []))[k]?=some (.agg []):=by rw[List.getElem?_replicate,b_ D]
  obtain⟨aG,bi,aZ,bh,aX,bp,bF,bl,a8,bj,a6,v',bb,bd,aT,n',bf,aV,rfl⟩:=gg hz;simp only[go_sem,zE,zB,zA,zL,f2,f3,f10,f11,f24,f25,f26,lt_i D,dc aO,iNn,aL,fits,ay];refine (aq _ (by rw[de aM.symm];exact hm)).mono ?_;rintro r _ ⟨hr,rfl⟩;have an:=hr;obtain⟨A,ah,W,ag,U,ak,au,aj,ab,ai,aa,v9,ac,ae,E,n9,af,O,rfl⟩:=gg hr;simp only[go_sem,zE,zA,f2,f3,f4,f5,f8,f10,f11,f24,f25,f26,cT,eZ,df D (by omega)];have bB:k*12+12<=sub.length*12:=by omega
  obtain⟨q1,q2⟩:=y_ (new:=[IV.raw (.int .u8 A),.sl ah W,.sl ag U,.raw (.int .u8 ak),au,.sl aj ab,.sl ai aa,v9,ac,.sl ae E,n9,.sl af O]) aC D rfl;rw[b_ ⟨by omega,D⟩,b_ (by omega)];refine⟨_,zs++[.agg [.raw (.int .u8 A),.sl ah W,.sl ag U,.raw (.int .u8 ak),au,.sl aj ab,.sl ai aa,v9,ac,.sl ae E,n9,.sl af O]],rfl,q1,?_,?_⟩
  ·rw[q2,ao,iu,lE];rfl
  ·rw[dK ha,Hh];exact hzs.append ⟨_,_,rfl,an,rfl⟩
 ·rintro fr _ _ ⟨⟨cs,zs,rfl,aC,ao,hzs⟩,f2,f3,f4,f5,f8,f10,f11,f24,f25,f26,rfl⟩;rw[lTl] at hzs;have aJ:zs.length=sub.length:=by rw[hzs.len,zH]
  simp only[go_sem,zE,zA,zL,f3,f4,f5,f11,f25,f26,dD (nLi _)];refine ma (pre:=[_,_,_]) (es:=12) (zs:=zs) (cT ..) aJ (dz _) (by omega) (zf hzs) ao (by omega) ?_;rw[FL hg];have bw:=hw;simp only[okT,bAt] at hw;obtain⟨bD,bC,_,_⟩:=uk hw.1;have bq:=uj mn;have bt:=iT s.l;have bs:=iT s.r;refine (Qy gl G T _ m rfl rule s mn u nm sub _ hx (kW sub) _ _ (.inr rfl) (zg hzs) (by omega) (by omega) (by omega) (λa ha=>eh (zI hw.2 a ha) (by decide)) (by rw[zH];omega) _ es hm hl).mono ?_;rintro r _ ⟨hr,rfl⟩;have an:=hr;obtain⟨A,ah,W,ag,U,ak,au,aj,ab,ai,aa,v9,ac,ae,E,n9,af,O,rfl⟩:=gg hr;simp only[go_sem,zE,zA,zL,f8,trZ];exact cO ⟨by simpa only[oD] using an,rfl⟩
def Hj (G:Gl gl)(T:Gt gl):∀(k:Nat) (t:Tr),SizeOf.sizeOf t<k->uQ gl t
 | 0,_,h=>absurd h (by omega)
 | k+1,.mk rule s A u nm sub,h=>QA gl G T rule s A u nm sub λa D=>Hj G T k a (by have:=lSm D;simp only[Tr.mk.sizeOf_spec] at h;omega)
def QB (G:Gl gl)(T:Gt gl)(t:Tr):uQ gl t:=Hj gl G T _ t (dM _)
noncomputable def mI (t:Tr):Tr×Nat:=if (gM 1 t).2≠0 then (tr0,231) else (oD t,0)
def Hk (G:Gl gl)(T:Gt gl)(t:Tr)(x:IV)(hx:IsTr t x)(A:okT t=true)(W:t.steps<=100)(st:ISt) :
  ICall prog gl 29 [x] st (λr st'=>(∃z,r=.tup [z,.raw (.int .i64 (mI t).2)]/\IsTr (mI t).1 z)/\st'=st):=by
 have ac:=λst=>EM gl G T 1 t x hx (OX A (by omega)) st;have U:=hx;have z0:=uw;unfold trZ at z0;obtain⟨rule,tl,xl,tr,xr,op,fn,ta,xa,tb,xb,v,un,tu,xu,nm,ts,xs,rfl⟩:=gg hx;have ab:∀n:Nat,((n:Int)=0)=(n=0):=λn=>propext (by omega);refine iI func29 ?_;simp only[go_sem,zE,zA,zL];refine (ac _).mono ?_;rintro _ st ⟨⟨tg,rfl,ax⟩,rfl⟩;by_cases E:(gM 1 t).2=0
 ·simp only[go_sem,zE,zA,E,dR,fW,Int.natCast_zero];refine (Fl gl st).mono ?_;rintro _ _ ⟨m,es,hm,rfl,hl,rfl⟩;simp only[go_sem,zE,zA,zL];refine (QB gl G T t _ U W A _ m es (cT ..) hl).mono ?_;rintro r _ ⟨hr,rfl⟩;have aa:=hr;obtain⟨O,ar,ai,aq,ah,aw,aA,av,ak,au,aj,v9,am,an,af,n9,ao,ag,rfl⟩:=gg hr;simp only[go_sem,zE,zA,zL];have D:mI t=(oD t,0):=by rw[mI,a_ (by rw[E];decide)]
  exact dZ (fj hm) ⟨⟨_,by rw[D];rfl,by rw[D];exact aa⟩,rfl⟩
 ·simp only[go_sem,zE,zA,zL,ab,E,decide_false,jQ];have D:mI t=(tr0,231):=by rw[mI,b_ E]
  exact cO ⟨⟨_,by rw[D];rfl,by rw[D];exact z0⟩,rfl⟩
set_option maxRecDepth 8000
def ord3 (x y z:Operand):jH 3 [(0,x),(1,y),(2,z)]=true:=rfl
def ord4 (x y z w:Operand):jH 4 [(0,x),(1,y),(2,z),(3,w)]=true:=rfl
def Hl {ca:Nat}{s:Sq}{rule:Nat}{A:Fm}{term:Tm}{name:ByteArray}{r:Rw}{ad:List Sq}(h1:j7 ca s=true)(h2:rowS ca rule=some r)(h3:gW ca rule r A term name=(ad,0))
  (W:r.left=true->hasF s.l A=true) (U:r.right=true->hasF s.r A=true) (O:r.asks≠2):ie ca s rule A term name=(ad,0):=by
 unfold ie;rw[h1,h2];simp only[fW,bFt,dJ,h3];obtain⟨E,D,op,asks⟩:=r;simp only at W U O ⊢;have e1:(E&&!hasF s.l A)=false:=by
  cases E
  ·rfl
  ·rw[W rfl];rfl
 have e2:(D&&!hasF s.r A)=false:=by
  cases D
  ·rfl
  ·rw[U rfl];rfl
 rw[e1,e2,dEf O];rfl
def xHas {l:List Fm}{f:Fm}(h:f∈l)(A:f.right=true):hasF l f=true:=zW7.2 ⟨f,h,x_ A⟩
def Hm {s:Sq}(h:(decide (s.l.length<=64)&&decide (s.r.length<=64)&&s.l.all (fmB 1)&&s.r.all (fmB 1))=true):j7 1 s=true:=by
 unfold j7;rw[show j6 1=true from rfl,eM,h];rfl
def xAll {l m:List Fm}(h:∀f∈l,f∈m/\f.right=true):allF l m=true:=ed.2 λf A=>xHas (h f A).1 (h f A).2
def Hn {ca rule:Nat}{s:Sq}{A:Fm}{term:Tm}{name:ByteArray}{sub:List Tr}{ad:List Sq}(h:ie ca s rule A term name=(ad,0))(D:sub.length=ad.length)(hp:jg s ad sub=true):iP ca (.mk rule s A term name sub)=0:=by
 simp only[iP];rw[h];simp only[ne_eq,nTf,dJ,D,hp,dB]
def QC:ie 1 ⟨[xmR,xmA],[xmR]⟩ 5 xmA xmT ⟨#[]⟩=([⟨[xmP,xmQ],[]⟩],0):=Hl (r:=⟨true,false,4,0⟩) (Hm (by decide)) rfl (by rfl) (λ_=>xHas (by simp) (by decide)) (λh=>by cases h) (by decide)
def QD:ie 1 ⟨[xmP,xmQ,xmR,xmA],[xmR]⟩ 1 xmR xmT ⟨#[]⟩=([],0):=Hl (r:=⟨true,true,0,0⟩) (Hm (by decide)) rfl (by rfl) (λ_=>xHas (by simp) (by decide)) (λ_=>xHas (by simp) (by decide)) (by decide)
def QE:gM 1 xmX=([],0):=by
 have h1:iP 1 xmX=0:=Hn QC rfl (by
  have D:allF [xmP,xmQ,xmR,xmA] [xmR,xmA,xmP,xmQ]=true:=xAll λf A=>by
   simp only[dC,e_,eu] at A;rcases A with rfl|rfl|rfl|rfl<;>exact⟨by simp,by decide⟩
  have a2:allF [xmR] [xmR]=true:=xAll λf A=>by
   simp only[dC,e_,eu] at A;subst A;exact⟨by simp,by decide⟩
  simp only[jg,Tr.sq,Sq.plus,kV,fH,dX,gz,D,a2,Bool.and_self])
 have h2:iP 1 (.mk 1 ⟨[xmP,xmQ,xmR,xmA],[xmR]⟩ xmR xmT ⟨#[]⟩ [])=0:=Hn QD rfl rfl;unfold gM;rw[show xmX.walk []=[([],xmX),([0],.mk 1 ⟨[xmP,xmQ,xmR,xmA],[xmR]⟩ xmR xmT ⟨#[]⟩ [])] from rfl];simp only[ic,h1,h2,dB];rfl
def Ho:gY xmS (n1 false)=(xmW,0):=by
 rw[gY,a_ (by rw[G4];decide),a_ (by rw[G5];decide),G6]
def QF:ku xmW=(n1 true,0):=by
 rw[ku,a_ (by rw[G7,Qt];decide),a_ (by decide),Qs]
def QG:mI xmW=(xmV,0):=by
 rw[mI,a_ (by rw[G7];decide)];rfl
def QH:mI xmX=(xmY,0):=by
 rw[mI,a_ (by rw[QE];decide)];rfl
def QI:oC (n1 false) (eW xmS):=by
 simp only[n1,n2,n3,oC,Qr];exact⟨trivial,rfl,by decide,⟨rfl,rfl,by decide,⟨rfl,rfl,rfl⟩,trivial⟩,trivial⟩
def tagJ:List Tr->Tag
 | []=>⟨true,.nil,0⟩
 | _::_=>⟨true,.full,12⟩
def QJ (l:List Tr):okEs (tagJ l) 12:=by cases l<;>simp[tagJ,okEs]
mutual
def trJ:Tr->IV
 | .mk rule s (.mk o fn us D) (.mk v E A) n sub=>.agg [.raw (.int .u8 rule),.sl (tagF s.l) (fmsI s.l),.sl (tagF s.r) (fmsI s.r),.raw (.int .u8 o),fn,.sl (tagT us) (tmsI us),.sl (tagF D) (fmsI D),v,E,.sl (tagT A) (tmsI A),n,.sl (tagJ sub) (trsJ sub)]
def trsJ:List Tr->List IV
 | []=>[]
 | a::l=>trJ a::trsJ l
end
mutual
def bytJ:Tr->Bool
 | .mk rule s f _ _ sub=>decide (rule<256)&&nW s.l&&nW s.r&&tG f&&uR sub
def uR:List Tr->Bool
 | []=>true
 | a::l=>bytJ a&&uR l
end
mutual
def sv:∀t:Tr,bytJ t=true->IsTr t (trJ t)
 | .mk rule s (.mk o fn us D) (.mk v E A) n sub,h=>by
  simp only[bytJ,bAt,dTe] at h;obtain⟨⟨⟨⟨h1,h2⟩,h3⟩,h4⟩,W⟩:=h;have U:=CV (.mk o fn us D) h4;have O:=CU (.mk v E A);simp only[fmI] at U;simp only[tmI] at O;simp only[IsTr];exact⟨tagF s.l,fmsI s.l,tagF s.r,fmsI s.r,o,fn,tagT us,tmsI us,tagF D,fmsI D,v,E,tagT A,tmsI A,tagJ sub,trsJ sub,by simp only[trJ],h1,rK _,qf _ h2,rK _,qf _ h3,U,O,QJ _,Hp sub W⟩
def Hp:∀l:List Tr,uR l=true->IsTrs l (trsJ l)
 | [],_=>rfl
 | a::l,h=>by
  simp only[uR,bAt] at h;exact⟨_,_,by simp only[trsJ],sv a h.1,Hp l h.2⟩
end
def sqI (s:Sq):IV:=.agg [.sl (tagF s.l) (fmsI s.l),.sl (tagF s.r) (fmsI s.r)]
def Hq (s:Sq)(h:(nW s.l&&nW s.r)=true):IsSq s (sqI s):=by
 rw[bAt] at h;exact⟨_,_,_,_,rfl,rK _,qf _ h.1,rK _,qf _ h.2⟩
def Hr {s:Sq}{x:IV}(h:IsSq s x):IsSq s (age x):=by
 obtain⟨t1,O,t2,E,rfl,D,i1,A,i2⟩:=h;simp only[age,ages];exact⟨_,_,_,_,rfl,jJ D,i1.aged,jJ A,i2.aged⟩
set_option maxHeartbeats 4000000 in
def QK (G:Gl gl)(T:Gt gl)(ab:∀g x,gl g=some x->age x=x)(st:ISt)(h0:∀b,st b=none):ICall prog gl 7 [] st (λr st'=>r=true/\st'=st):=by
 have aB:flatSt st:=λb o D=>by rw[h0] at D;cases D
 have aw:lX st:=λb cs D=>by rw[h0] at D;cases D
 have hB:=ICall.own (K:=λr=>∃z,r=.tup [z,(0:Int)]/\IsNd (n1 false) z) (args:=[.raw (.int .u8 1),sqI xmS]) aB ab ((Qp gl G xmS (age (sqI xmS)) (Hr (Hq xmS (by decide))) (by decide) Qq (n1 false) (by decide) QI st).mono λr st' ⟨⟨z,h1,h2,h3⟩,h4⟩=>⟨h4,by rw[h1];exact⟨h3,trivial,trivial⟩,z,h1,h2⟩);refine ICall.intro (c:=cf prog gl [] [(7,[0,1,2,3,4,5,6,9,10,11,13,14,15,16,24,7,8,12,17,18,19,20,21,22,23,25]),(10,[0,1,2,3,4,5,8,9,10,12,13,21,6,7,11,14,15,16,17,18,19,20,22]),(13,[0,1,2,3,5,6,9,10,11,12,13,14,16,17,27,4,7,8,15,18,19,20,21,22,23,24,25,26,28,29]),(14,[0,1,2,3,4,5,6,7,8,9,10,11,12,13,14,15,16,17,18,19,20,21,22,23,24,25,26,28,29,27,30,31,32,33,34,35,36,37,38,39,40])]) func7 rfl (by show _<=199;simp) (by kernel_rfl) ?_;simp only[go_sem,zA,zL,ll]
 repeat (first
  | (refine (s_p gl _ _).mono ?_;rintro _ st ⟨rfl,rfl⟩;simp only[go_sem,zE,zA,zM,zL,fits,dP,fits])
  | (refine (s_of gl _ _ _ _).mono ?_;rintro _ st ⟨rfl,rfl⟩;simp only[go_sem,zE,zA,zM,zL,fits,dP,fF,fits])
  | (refine (s_fs gl _ _ _).mono ?_;rintro _ st ⟨rfl,rfl⟩;simp only[go_sem,zA])
  | (refine (s_sq gl _ _ _ _ _).mono ?_;rintro _ st ⟨rfl,rfl⟩;simp only[go_sem,zE,zA,zL])
  | (refine (uL gl _ _ _ _ _ _ _ _ _ _ _ _ _ _).mono ?_;rintro _ st ⟨rfl,rfl⟩;simp only[go_sem,zE,zB,zA,zM,zS,zL,reduceCtorEq,fits,dP,fF,ord3,ord4,ll,dR,fits]))
 refine hB.mono ?_;rintro _ ak ⟨_,A,aa,_,⟨z,rfl,hz⟩,hO,hY⟩;obtain⟨y,rfl,O,aC⟩:=GO hO hY;obtain⟨o,n,v4,v5,g1,c1,o2,m2,w4,w5,q1,g2,c2,o3,m3,u4,u5,u8,q2,rfl,az,ay,bX,bW,aJ,ag,z',au,aI⟩:=Qu (aa aw) hz O aC;have ax:(IV.raw (Value.slice (some ⟨g1,0,none⟩) 1 c1)).one=true:=rfl;have aD:=sk (K:=λr=>∃y,r=.tup [y,(0:Int)]/\IsTr xmW y) (args:=[sqI xmS,.agg [.raw (.bool false),(0:Int),.raw (.int .u8 o),n,.raw v4,.raw v5,.raw (.bool false),(0:Int),.raw (.slice (some ⟨g1,0,none⟩) 1 c1)]]) (args':=[sqI xmS,age z]) A ab ⟨_,_,rfl,.inl rfl,_,_,rfl,.inr ⟨z,O,rfl⟩,rfl⟩
  ((Gd gl G xmS (age (sqI xmS)) (Hr (Hq xmS (by decide))) (by decide) (n1 false) (age (age z)) hz.aged.aged (by decide) (gS ak)).mono λr st' ⟨⟨y,h1,h2,h3⟩,h4⟩=>⟨h4,by rw[h1];exact⟨h3,trivial,trivial⟩,age y,by rw[h1,Ho];rfl,by rw[Ho] at h2;exact F5 h2⟩)
 simp only[go_sem,zE,zA,zL,az,ay,ax];refine aD.mono ?_;rintro _ st ⟨rfl,y,rfl,hy⟩;have af:=λst=>O9 gl G T xmW y hy (by decide) (by decide) st;have ae:=λst=>Hk gl G T xmW y hy (by decide) (by decide) st;have aG:=λw E st=>uN gl xmW y w hy E (by decide) st;rw[QF] at af;rw[QG] at ae;obtain⟨ao,bG,bc,aO,a8,bQ,b4,bM,bi,bJ,bf,v',bm,bt,aW,n',bA,aZ,rfl⟩:=gg hy;simp only[go_sem,zE,zA,zM,zL,fits,dP,ord3]
 repeat (first
  | (refine (s_p gl _ _).mono ?_;rintro _ st ⟨rfl,rfl⟩;simp only[go_sem,zE,zB,zA,zM,zS,zL,reduceCtorEq,fits,dP,fF,ord3,ord4,ll,dR,fits])
  | (refine (s_of gl _ _ _ _).mono ?_;rintro _ st ⟨rfl,rfl⟩;simp only[go_sem,zE,zB,zA,zM,zS,zL,reduceCtorEq,fits,dP,fF,ord3,ord4,ll,dR,fits])
  | (refine (s_fs gl _ _ _).mono ?_;rintro _ st ⟨rfl,rfl⟩;simp only[go_sem,zE,zA])
  | (refine (s_sq gl _ _ _ _ _).mono ?_;rintro _ st ⟨rfl,rfl⟩;simp only[go_sem,zE,zA])
  | (refine (uL gl _ _ _ _ _ _ _ _ _ _ _ _ _ _).mono ?_;rintro _ st ⟨rfl,rfl⟩;simp only[go_sem,zE,zA,zM,zL,fits,dP,fits]))
 refine (af _).mono ?_;rintro _ st ⟨⟨m,rfl,hm⟩,rfl⟩;have bZ:=λw E st=>zm gl (n1 true) m w hm E (by decide) st;obtain⟨v1,w1,o1,k1,t1,y1,t2,y2,a1,w2,t3,y3,rfl⟩:=fG hm;simp only[go_sem,zE,zA,zL];refine (ae _).mono ?_;rintro _ st ⟨⟨u,rfl,hu⟩,rfl⟩;have aF:=λw E st=>uN gl xmV u w hu E (by decide) st;obtain⟨an,bF,bb,bC,a7,bP,b3,bL,bh,bI,be,v3,bl,bs,aV,bT,bw,aY,rfl⟩:=gg hu;simp only[go_sem,zE,zA,zM,zL,fits,dP,fF]
 repeat (first
  | (refine (s_p gl _ _).mono ?_;rintro _ st ⟨rfl,rfl⟩;simp only[go_sem,zE,zA,zM,zL,fits,fF,ll,fits])
  | (refine (s_of gl _ _ _ _).mono ?_;rintro _ st ⟨rfl,rfl⟩;simp only[go_sem,zE,zA,zM,zL,fits,dP,fF,ord4,fits])
  | (refine (s_fs gl _ _ _).mono ?_;rintro _ st ⟨rfl,rfl⟩;simp only[go_sem,zE,zA])
  | (refine (s_sq gl _ _ _ _ _).mono ?_;rintro _ st ⟨rfl,rfl⟩;simp only[go_sem,zE,zA])
  | (refine (uL gl _ _ _ _ _ _ _ _ _ _ _ _ _ _).mono ?_;rintro _ st ⟨rfl,rfl⟩;simp only[go_sem,zE,zA,zM,zL,fits,dP,ll,fits]))
 have ac:=λst=>Hk gl G T xmX (trJ xmX) (sv xmX (by decide)) (by decide) (by decide) st;rw[QH] at ac;refine (ac _).mono ?_;rintro _ st ⟨⟨xx,rfl,U⟩,rfl⟩;have aE:=λw E st=>uN gl xmY xx w U E (by decide) st;obtain⟨am,bD,ba,bB,a6,bO,b2,bK,bg,bH,bd,bj,bk,bq,aU,bS,bu,aX,rfl⟩:=gg U;have ar:IntKind.i64.wrap ((0:Int)+((0:Nat):Int))=0:=rfl;have bV:IntKind.i64.wrap (((0:Nat):Int)+((0:Nat):Int))=0:=rfl;have aq:IntKind.i64.wrap ((0:Int)+(0:Int))=0:=rfl;simp only[go_sem,zE,zA,zL,dR,ar,aq];refine (aG (trJ xmW) (sv xmW (by decide)) _).mono ?_;rintro _ st ⟨rfl,rfl⟩;simp only[go_sem,zE,zA,zL];refine (aF (trJ xmV) (sv xmV (by decide)) _).mono ?_;rintro _ st ⟨rfl,rfl⟩;simp only[go_sem,zE,zA,zM,zL,fits,dP]
 repeat (first
  | (refine (s_p gl _ _).mono ?_;rintro _ st ⟨rfl,rfl⟩;simp only[go_sem,zE,zB,zA,zM,zS,zL,reduceCtorEq,fits,dP,fF,ord3,ord4,ll,dR,fits])
  | (refine (s_of gl _ _ _ _).mono ?_;rintro _ st ⟨rfl,rfl⟩;simp only[go_sem,zE,zB,zA,zM,zS,zL,reduceCtorEq,fits,dP,fF,ord3,ord4,ll,dR,fits])
  | (refine (s_fs gl _ _ _).mono ?_;rintro _ st ⟨rfl,rfl⟩;simp only[go_sem,zE,zA])
  | (refine (s_sq gl _ _ _ _ _).mono ?_;rintro _ st ⟨rfl,rfl⟩;simp only[go_sem,zE,zA])
  | (refine (uL gl _ _ _ _ _ _ _ _ _ _ _ _ _ _).mono ?_;rintro _ st ⟨rfl,rfl⟩;simp only[go_sem,zE,zA]))
 refine (aE (trJ xmY) (sv xmY (by decide)) _).mono ?_;rintro _ st ⟨rfl,rfl⟩;simp only[go_sem,zE,zA,zL];have aK:=nP (st:=st) (args:=[.agg [.raw (.bool false),(0:Int),.raw (.int .u8 o),n,.raw v4,.raw v5,.raw (.bool false),(0:Int),.raw (.slice (some ⟨g1,0,none⟩) 1 c1)]]) (K:=λr=>r=(1:Nat)) A ⟨_,_,rfl,.inr ⟨z,O,rfl⟩,rfl⟩
  ((FX gl (n1 false) (age z) hz.aged (by decide) (gS st)).mono λr st' ⟨h1,h2⟩=>⟨h2,by rw[h1];trivial,h1⟩)
 refine aK.mono ?_;rintro _ st ⟨rfl,rfl⟩;have d1:decide (((1:Nat):Int)=1)=true:=rfl;have d0:(0:Int).toNat=0:=rfl;have W:flatSt (st.put g2 (some (.box (true::(0:Int)::.raw (.int .u8 o3)::m3::.raw u4::.raw u5::true::(0:Int)::.raw u8::q2)))):=λb o D=>by
  rw[ISt.put_apply] at D;split at D
  ·cases D;intro x hx;rcases dC.1 hx with rfl|hx
   ·trivial
   ·exact A g2 _ ag x (List.mem_cons_of_mem _ hx)
  ·exact A b o D
 have aH:=λ(w:IV) (E:IsNd (n1 true) w)=>nP (P:=prog) (gl:=gl) (f:=20) (args:=[w,.agg [.raw (.bool false),(0:Int),.raw (.int .u8 o),n,.raw v4,.raw v5,.raw (.bool false),(0:Int),.raw (.slice (some ⟨g1,0,none⟩) 1 c1)]]) (args':=[w,age z']) (K:=λr=>r=true) W ⟨_,_,rfl,.inl rfl,_,_,rfl,.inr ⟨z',aI,rfl⟩,rfl⟩ ((zm gl (n1 true) w (age z') E au.aged (by decide) (gS _)).mono λr st' ⟨h1,h2⟩=>⟨h2,by rw[h1];trivial,h1⟩);simp only[go_sem,zE,zB,zA,zM,zL,fits,d1,d0,aJ,ag];rw[b_ (by decide),b_ (by decide)];refine (aH _ hm).mono ?_;rintro _ _ ⟨rfl,rfl⟩;simp only[go_sem,zE,cT];exact dZ (λb o D=>by rw[h0] at D;cases D) ⟨rfl,rfl⟩
set_option maxRecDepth 4000
def QL {l:List Mk}(h:∀m∈l,m.f.size<=300):iQ (sqT l):=⟨λf D=>by
 obtain⟨m,A,_,rfl⟩:=yJ1.1 D;have:=h m A;omega,λf D=>by
 obtain⟨m,A,_,rfl⟩:=yJ1.1 D;have:=h m A;omega⟩
mutual
def Hs:∀(n:Nd)(l:List Mk)(p:List Nat),(fx l p n).2=0->GoodT l->(∀m∈l,m.f.size<=300)->NA (gw l n)
 | .mk m c w sub,l,p,h,O,U=>by
  rw[fx] at h;have D:j9 l m c w sub.length=0:=by
   split at h
   ·rename_i W;exact absurd h W
   ·rename_i W;simpa using W
  rw[a_ (by rw[D];decide)] at h;obtain⟨A,ac,E,rfl,ab⟩:=oZ D;rw[gw,NA];have h1:=U m A;refine⟨QL U,by omega,by decide,?_⟩;cases c
  ·simp only[bFt,dJ] at h ⊢;exact Ht sub _ l p 0 h O U λq hq x hx=>⟨by
    obtain⟨h1,h2⟩:=(o_ (O m A).1 (E rfl) 0).2.2.1 q hq x hx;exact⟨h1,h2.trans (O m A).2⟩,eh (zd (O m A).1 (E rfl) 0 q hq x hx) h1⟩
  ·trivial
def Ht:∀(ns:List Nd)(qs:List (List Mk))(l:List Mk)(p:List Nat)(i:Nat),(gN l p i qs ns).2=0->GoodT l->(∀m∈l,m.f.size<=300)->(∀q∈qs,∀x∈q,(fmB 1 x.f=true/\x.w=0)/\x.f.size<=300)->NAs (gd l qs ns)
 | [],[],_,_,_,_,_,_,_=>trivial
 | [],_::_,_,_,_,_,_,_,_=>trivial
 | _::_,[],_,_,_,_,_,_,_=>trivial
 | n::ns,q::qs,l,p,i,h,O,E,D=>by
  rw[gN] at h;have h1:(fx (d_ l q) (p++[i]) n).2=0:=by
   split at h
   ·exact h
   ·rename_i U;simpa using U
  rw[a_ (by rw[h1];decide)] at h;exact⟨Hs n _ _ h1 (O.adds λx hx=>(D q (by simp) x hx).1) λx hx=>(yVv.1 hx).elim (E x) λh=>(D q (by simp) x h).2,
   Ht ns qs l p _ h O E λq' A=>D q' (by simp[A])⟩
end
def QM {s:Sq}(h:wFms s.l+wFms s.r<=300):∀m∈eW s,m.f.size<=300:=λm A=>by
 have h1:=iT s.l;have h2:=iT s.r;rcases (yKr.1 A).2 with h|h
 ·have:=lx h.2;omega
 ·have:=lx h.2;omega
end Go.Proofs.Tryz
namespace Go.Proofs.Tryz
open Go Go.Iv
mutual
def IsTr.aged:∀ {t:Tr}{x:IV},IsTr t x->IsTr t (age x)
 | .mk rule s f u n sub,x,h=>by
  simp only[IsTr] at h;obtain⟨tl,xl,tr,xr,op,fn,ta,xa,tb,xb,v,un,tu,xu,ts,xs,rfl,O,e1,i1,e2,i2,U,E,W,i3⟩:=h;have D:=U.aged;have A:=E.aged;simp only[age,ages] at D A ⊢;simp only[IsTr];exact⟨_,_,_,_,_,_,_,_,_,_,_,_,_,_,_,_,rfl,O,jJ e1,IsFms.aged i1,jJ e2,IsFms.aged i2,D,A,jJ W,IsTrs.aged i3⟩
def IsTrs.aged:∀ {l:List Tr}{A:List IV},IsTrs l A->IsTrs l (ages A)
 | [],A,h=>by simp only[IsTrs] at h;subst h;rfl
 | a::l,A,h=>by
  simp only[IsTrs] at h;obtain⟨y,ys,rfl,D,h⟩:=h;simp only[ages,IsTrs];exact⟨_,_,rfl,IsTr.aged D,IsTrs.aged h⟩
end
end Go.Proofs.Tryz
namespace Go.Proofs.Tryz
open Go Go.Iv
set_option maxRecDepth 8000
variable (gl:Nat->Option IV)
def Hu {l:List Fm}(h:fitL l)(A:l.length<=64):dt l<=1099511627776:=by
 have h1:=ze (B:=1000000) (l:=l) h;have:l.length*1000000<=64*1000000:=ec _ A;omega
mutual
def Hv:∀ {t:Tr},NA t->ev t=false->TB t
 | .mk _ s m u _ sub,h,A=>by
  simp only[NA] at h;simp only[ev,kx,decide_eq_false_iff_not,Nat.not_lt] at A;simp only[TB];exact⟨Hu h.1.1 A.1.1,Hu h.1.2 A.1.2,by omega,by omega,Hw h.2.2.2 A.2⟩
def Hw:∀ {l:List Tr},NAs l->jP l=false->TBs l
 | [],_,_=>trivial
 | a::l,h,A=>by
  simp only[NAs] at h;simp only[jP,kx] at A;exact⟨Hv h.1 A.1,Hw h.2 A.2⟩
end
mutual
def zJ:∀ {n:Nd},okN n=true->NB n
 | .mk m _ _ sub,h=>by
  simp only[okN,bAt,dTe] at h;have:=uj m.f;exact⟨by omega,Hx h.2⟩
def Hx:∀ {l:List Nd},okNs l=true->NBs l
 | [],_=>trivial
 | a::l,h=>by
  simp only[okNs,bAt] at h;exact⟨zJ h.1,Hx h.2⟩
end
def QN {s:Sq}{n:Nd}(E:wFms s.l+wFms s.r<=300)(O:n.nodes<=1000):TB (gY s n).1/\(gY s n).1.steps<=1000:=by
 have A:TB tr0/\tr0.steps<=1000:=⟨by simp[tr0,TB,TBs,dt,fm0,tm0,Fm.size,Tm.size,dN],by decide⟩
 unfold gY;split
 ·exact A
 split
 ·exact A
 ·rename_i h1 h2;obtain⟨U,_,D⟩:=ES (Decidable.not_not.1 h1);refine⟨Hv (Hs n _ [] D (oq U) (QM E)) (by rw[<- zh];simpa using h2),?_⟩;have:=(yK n (eW s) [] D).1;simp only[this];exact O
set_option maxHeartbeats 1000000 in
def QO (G:Gl gl)(aX:∀g x,gl g=some x->age x=x)(s:Sq)(x:IV)(hx:IsSq s x)(hw:wFms s.l+wFms s.r<=300)(n:Nd)(z:IV)(hz:IsNd n z)(aj:okN n=true)(hn:n.nodes<=60)(st:ISt)(ab:flatSt st) :
  ICall prog gl 6 [x,z] st (λr st'=>r=true/\st'=st):=by
 have bS:=iT s.l;have bR:=iT s.r;have hG:=λst=>Gk gl _ n (dM _) z hz (zJ aj) (by omega) st;have hL:=λst ab=>PW gl s x hx (by omega) (by omega) st ab;have af:=hx;have aI:=hz;obtain⟨aM,bQ⟩:=QN (s:=s) (n:=n) hw (by omega);obtain⟨t1,x1,t2,x2,rfl,e1,i1,e2,i2⟩:=hx;obtain⟨_,_,_,_,_,_,_,_,_,_,_,_,rfl⟩:=fG hz;refine ICall.intro (c:=cf prog gl [] [(2,[0,2,4,5,1,3,6,7]),(5,[0,1,2,3,4,5,6,7,8,9,10,11,13,12,14,15,16])]) func6 rfl (by show _<=57;simp) (by kernel_rfl) ?_;simp only[go_sem,zE,zA,zL];refine (hG _).mono ?_;rintro r st ⟨hr,rfl⟩;have U:=hr;obtain⟨_,_,_,_,_,_,_,_,_,_,_,_,rfl⟩:=fG hr;have hT:=λst=>Gm gl _ n (dM _) _ U (zJ aj) (by omega) st;have a6:=λst=>PB gl s _ af hw n _ U (by omega) st;have a7:=λst=>Gi gl _ n (dM _) _ U (by omega) st;simp only[go_sem,zE,zA,zL];refine (hT _).mono ?_;rintro q st ⟨hq,rfl⟩;have aa:=hq;obtain⟨_,_,_,_,_,_,_,_,_,_,_,_,rfl⟩:=fG hq;have hB:=λst=>FX gl n _ aa (by omega) st;have hM:=λst=>zm gl n _ _ aa aI (by omega) st;simp only[go_sem,zE,zA];refine (hL _ ab).mono ?_;rintro xa E ⟨ae,hs1,hf1⟩;have ak:LSq E s xa:=ae.mono λc o hc=>(pq hc).2;have hK:=P9 gl s _ xa af (by omega) (by omega) E hf1 ak;obtain⟨za,aH,aV⟩:=ak.oi (by omega) (by omega);have hS:=nY hf1 aX (Gy (y:=_) aV) (K:=λr=>∃y,r=.tup [y,.raw (.int .i64 (gY s n).2)]/\IsTr (gY s n).1 y/\dfr y)
  ((Gd gl G s (age (age za)) aH.aged.aged hw n _ aa.aged (by omega) (gS E)).mono λr st' ⟨⟨y,h1,h2,h3⟩,h4⟩=>⟨h4,by rw[h1];exact⟨h3,trivial,trivial⟩,y,h1,h2,h3⟩)
 obtain⟨pa,b3,pb,b2,rfl,_⟩:=ae;simp only[go_sem,zE,zA,zL];refine hS.mono ?_;rintro _ A ⟨aO,aY,_,N,⟨yi,rfl,ac,aK⟩,aW,aS,aT,D,a8⟩;obtain⟨y,rfl,ah,aR⟩:=GO aW aS;obtain⟨ys,d,rfl,hO⟩:=Qc aT ac aK ah aR;have bV:=hO;obtain⟨q0,q1,q2,q3,q4,q5,q6,q7,q8,q9,aF,aE,rfl,W,k1,k2,k3,k4,k5⟩:=hO;have aU:=Qb gl _ d q0 q1 q2 q3 q4 q5 q6 q7 q8 q9 aF aE A W (k1.mono D) (k2.mono D) (k3.mono D) (k4.mono D) (k5.mono D);simp only[List.forall_mem_cons] at W;obtain⟨⟨w0,rfl,r0⟩,⟨w1,rfl,r1⟩,⟨w2,rfl,r2⟩,⟨w3,rfl,r3⟩,⟨w4,rfl,r4⟩,⟨w5,rfl,r5⟩,⟨w6,rfl,r6⟩,⟨w7,rfl,r7⟩,⟨w8,rfl,r8⟩,⟨w9,rfl,r9⟩,⟨bj,rfl,aD⟩,⟨bi,rfl,aC⟩,_⟩:=W;simp only[go_sem,zE,zA,zL,r0,r1,r2,r3,r4,r5,r6,r7,r8,r9,aD,aC];refine (a6 _).mono ?_;rintro _ A ⟨⟨u,rfl,hu⟩,rfl⟩;have aZ:=λst=>GS gl _ _ (dM _) u hu aM (by omega) st;obtain⟨O,az,aq,ay,ao,aG,ba,aB,au,aA,ar,v',av,aw,am,n',ax,an,rfl⟩:=gg hu;simp only[go_sem,zE,zA,zL,dR];refine (aZ _).mono ?_;rintro q A ⟨ag,rfl⟩;have a1:=uF gl aY D ah (λst=>uN gl _ _ _ (IsTr.aged ac) ag (by omega) st);obtain⟨O,az,aq,ay,ao,aG,ba,aB,au,aA,ar,v',av,aw,am,n',ax,an,rfl⟩:=gg ag;simp only[go_sem,zE,zA];refine a1.mono ?_;rintro _ A ⟨rfl,rfl⟩;simp only[go_sem,zE,zA,zL];refine (hB _).q ?_;simp only[go_sem,zE,zA];refine (a7 _).q ?_;simp only[go_sem,zE,zA,zL,dR];refine aU.mono ?_;rintro _ st4 ai;have aN:subSt E st4:=λc o hc=>by
  rw[ai.dom c λhD=>by rw[a8 c hD] at hc;cases hc];exact aO _ _ hc
 simp only[go_sem,zE,zA,zL];refine (hM _).q ?_;simp only[go_sem,zE,zA,zL];refine (ICall.sub hK aN).q ?_;simp only[go_sem,zE];exact dZ (λc o hc=>hs1 _ _ hc) ⟨rfl,rfl⟩
def L7 (G:Gl gl)(T:Gt gl)(A:∀g x,gl g=some x->age x=x)(s:Sq)(x:IV)(hx:IsSq s x)(W:wFms s.l<=1099511627776/\wFms s.r<=1099511627776)(n:Nd)(z:IV)(O:IsNd n z)(U:wNd n<=1099511627776)(st:ISt)(h0:∀b,st b=none) :
  ICall prog gl 3 [x,z] st (λr st'=>r=true/\st'=st):=by
 have hA:=QK gl G T A st h0;have D:=Fy gl s x hx W st;have aa:=Pz gl n z O U st;have ac:=λW ab hn=>QO gl G A s x hx W n z O ab hn st (λb o hb=>by rw[h0] at hb;cases hb);obtain⟨tl,xl,tr,xr,rfl,e1,i1,e2,i2⟩:=hx;obtain⟨v1,w1,o1,k1,t1,y1,t2,y2,c1,w2,t3,y3,rfl⟩:=fG O;refine iI func3 ?_;simp only[go_sem,zE,zA,zL];refine D.mono ?_;rintro _ st ⟨rfl,rfl⟩;cases q1:decide (wFms s.l+wFms s.r<=300)
 ·simp only[go_sem,zE,zA];refine hA.mono ?_;rintro _ st ⟨rfl,rfl⟩;simp only[go_sem,zE];exact cO ⟨rfl,rfl⟩
 simp only[go_sem,zE,zA,zL];refine aa.mono ?_;rintro _ st ⟨rfl,rfl⟩;cases E:(okN n&&decide (n.nodes<=60))
 ·simp only[go_sem,zE,zA];refine hA.mono ?_;rintro _ st ⟨rfl,rfl⟩;simp only[go_sem,zE];exact cO ⟨rfl,rfl⟩
 rw[bAt,dTe] at E;simp only[go_sem,zE,zA,zL];refine (ac (eI q1) E.1 E.2).q ?_;simp only[go_sem,zE,zA];refine hA.mono ?_;rintro _ st ⟨rfl,rfl⟩;simp only[go_sem,zE];exact cO ⟨rfl,rfl⟩
end Go.Proofs.Tryz
namespace Go.Proofs.Tryz
open Go Go.Iv Go.ChangeShapes
open Go.Proofs.YtopmhkmegkpkdaaGreatDoor.Rows (uptoBulk uptoBulkAll)
set_option maxRecDepth 4000
def uSeq:prog.underlying 24=some (.struct #[⟨ "Left",22,0,false, "", "",0⟩,⟨ "Right",22,1,false, "", "",24⟩]):=by kernel_rfl
def nSeq:prog.cellsOf 24=2:=by kernel_rfl
mutual
def QP:∀t:Tm,wTm t<=2*p6 t
 | .mk _ n us=>by have:=zK us;simp only[wTm,p6];omega
def zK:∀l:List Tm,wTms l<=2*my l
 | []=>dz _
 | a::l=>by have:=QP a;have:=zK l;simp only[wTms,my];omega
end
mutual
def Hy:∀f:Fm,wFm f<=2*p7 f
 | .mk _ n us sub=>by have:=zK us;have:=uS sub;simp only[wFm,p7];omega
def uS:∀l:List Fm,wFms l<=2*mZ l
 | []=>dz _
 | a::l=>by have:=Hy a;have:=uS l;simp only[wFms,mZ];omega
end
section
variable {H:Type}{enc:TypeId×Value->H}{w:World}{spare:Nat->Bool}{held:Bool}
def RQ (d:DataW H)(s:Sq)(x:IV):Prop:=IsSq s x/\wFms s.l+wFms s.r<=2*uptoBulk d
def L1 (W:Nat)(cs:List Value)(y:DataW H×List MemPlace)(h:DataW.trod enc prog w 0 spare held W 24 cs=some y)(hb:uptoBulk y.1<=1048576):∃s x,VL 0 (L0 w) w cs x.cells/\RQ y.1 s x:=by
 obtain⟨ys,n,rfl,rfl,hl,U,hf⟩:=kA uSeq h
 match ys,U with
 | [y0,y1],_ =>
  rw[nSeq] at hl
  match cs,hl with
  | [c0,c1],_ =>
   have h0:=hf 0 _ rfl;have h1:=hf 1 _ rfl;simp only[fC,iV] at h0 h1;simp only[eo,fm,uptoBulk,uptoBulkAll] at hb;obtain⟨v0,O,D,l0,e0,ab,ae,ag,ao⟩:=wX h0 (by omega) (λm _=>wY m);obtain⟨v1,E,A,l1,e1,aa,ac,af,an⟩:=wX h1 (by omega) (λm _=>wY m);cases e0;cases e1;refine⟨⟨l0,l1⟩,.agg [.sl O D,.sl E A],VL.cons ab (VL.cons aa VL.nil),⟨O,D,E,A,rfl,ae,ag,ac,af⟩,?_⟩;have:=uS l0;have:=uS l1;simp only[eo,fm,uptoBulk,uptoBulkAll];omega
end
end Go.Proofs.Tryz
namespace Go.Proofs.Tryz
open Go Go.Iv Go.ChangeShapes Go.RowKit
open Go.Proofs.YtopmhkmegkpkdaaGreatDoor
set_option maxRecDepth 8000
def uRow:prog.underlying 249=some (.struct #[⟨ "right",4,0,false, "", "lyceum/syntax",0⟩,⟨ "schema",4,1,false, "", "lyceum/syntax",1⟩,⟨ "name",5,2,false, "", "lyceum/syntax",2⟩,⟨ "args",3,3,false, "", "lyceum/syntax",8⟩,⟨ "subs",3,4,false, "", "lyceum/syntax",16⟩]):=by kernel_rfl
def QQ:prog.underlying 250=some (.array 17 249):=by kernel_rfl
def uInt:prog.underlying 3=some (.int .i64):=by kernel_rfl
def nRow:prog.cellsOf 249=5:=by kernel_rfl
def QR:prog.cellsOf 250=85:=by kernel_rfl
def nInt:prog.cellsOf 3=1:=by kernel_rfl
def gRows:prog.globalNamed "lyceum/syntax.rows" = some 0:=by kernel_rfl
def gRowsT:(prog.globals[0]?).map (·.type)=some 250:=by kernel_rfl
def gPow:prog.globalNamed "internal/strconv.uint64pow10" = some 2:=by kernel_rfl
def gPowT:(prog.globals[2]?).map (·.type)=some 360:=by kernel_rfl
def uPow:prog.underlying 360=some (.array 20 338):=by kernel_rfl
def uU64:prog.underlying 338=some (.int .u64):=by kernel_rfl
def nPow:prog.cellsOf 360=20:=by kernel_rfl
def nU64:prog.cellsOf 338=1:=by kernel_rfl
section
variable {H:Type}{enc:TypeId×Value->H}{w:World}{spare:Nat->Bool}{held:Bool}
def rowD (op:Nat):DataW H:=.agg [.lit (.bool (gJ op)),.lit (.bool (wo op)),.lit (.int .u8 (iO op)),.lit (.int .i64 (iE op)),.lit (.int .i64 (iF op))]
def rowV (op:Nat):List Value:=[.bool (gJ op),.bool (wo op),.int .u8 (iO op),.int .i64 (iE op),.int .i64 (iF op)]
def QS {O:Nat}{cs:List Value}{op:Nat}{p:List MemPlace}(h:DataW.trod enc prog w 0 spare held O 249 cs=some (rowD op,p)):cs=rowV op:=by
 obtain⟨ys,n,rfl,he,U,A,D⟩:=kA uRow h
 match ys,A with
 | [y0,y1,y2,y3,y4],_ =>
  rw[nRow] at U
  match cs,U with
  | [c0,c1,c2,c3,c4],_ =>
   have h0:=D 0 _ rfl;have h1:=D 1 _ rfl;have h2:=D 2 _ rfl;have h3:=D 3 _ rfl;have W:=D 4 _ rfl;simp only[fC,iV] at h0 h1 h2 h3 W;obtain⟨b0,e0,rfl⟩:=DataW.trod_bool oV h0;obtain⟨b1,e1,rfl⟩:=DataW.trod_bool oV h1;obtain⟨b2,e2,rfl,_⟩:=DataW.trod_int C0 h2;obtain⟨b3,e3,rfl,_⟩:=DataW.trod_int uInt h3;obtain⟨b4,e4,rfl,_⟩:=DataW.trod_int uInt W;cases e0;cases e1;cases e2;cases e3;cases e4;have E:=et Prod.fst he;simp only[rowD,eo,fm,DataW.agg.injEq,List.cons.injEq,DataW.lit.injEq,Lit.bool.injEq,Lit.int.injEq,true_and,and_true] at E;obtain⟨rfl,rfl,rfl,rfl,rfl⟩:=E;rfl
def QT:(Rows.laid_lyceum_syntax_rows:DataW H)=.agg ((List.range 17).map rowD):=by rfl
def QU {O:Nat}{cs:List Value}{p:List MemPlace}(h:DataW.trod enc prog w 0 spare held O 250 cs=some (Rows.laid_lyceum_syntax_rows,p)) :
  cs.length=85/\∀op,op<17->(cs.drop (op*5)).take 5=rowV op:=by
 obtain⟨ys,n,rfl,he,W,U,hf⟩:=DataW.trod_array QQ h;rw[QR] at W;refine⟨W,λop E=>?_⟩;have h1:=hf op E;rw[nRow] at h1;have A:=et Prod.fst he;rw[QT] at A;simp only[DataW.agg.injEq] at A;have h2:(ys.map (·.1))[op]?=some (rowD op):=by
  rw[<- A,en,List.getElem?_range E];rfl
 rw[en] at h2;obtain⟨y,hy,D⟩:=gI.1 h2;rw[hy] at h1;obtain⟨y1,y2⟩:=y;simp only at D;subst D;exact QS h1
end
def gl0:Nat->Option IV
 | 0=>some (.agg rowsL)
 | 2=>some (.agg pow10L)
 | _=>none
def G0:Gl gl0:=⟨rfl⟩
def T0:Gt gl0:=⟨rfl⟩
def X0 (w:World):WS:={ w:=w,L:=L0 w,st:=λ_=>none,d:=0 }
def QV {cs:List Value}(O:cs.length=85)(h:∀op,op<17->(cs.drop (op*5)).take 5=rowV op)(i:Nat)(r:Value)(c:IV)(E:cs[i]?=some r)(hc:rowsL[i]?=some c):c=.raw r/\kI r:=by
 have U:i<85:=by have:=(lGs E).1;omega
 have A:i / 5<17:=by omega
 have e:i=i / 5*5+i%5:=by omega
 have D:i%5<5:=Nat.mod_lt _ (by decide);have h1:(rowV (i / 5))[i%5]?=some r:=by
  rw[<- h _ A,fl,b_ D,ix,<- e];exact E
 have h2:(rowI (i / 5))[i%5]?=some c:=by
  rw[<- (BU _ A).2,fl,b_ D,ix,<- e];exact hc
 generalize i%5=k at h1 h2 D
 match k,D with
 | 0,_=>cases h1;cases h2;exact⟨rfl,trivial⟩
 | 1,_=>cases h1;cases h2;exact⟨rfl,trivial⟩
 | 2,_=>cases h1;cases h2;exact⟨rfl,trivial⟩
 | 3,_=>cases h1;cases h2;exact⟨rfl,trivial⟩
 | 4,_=>cases h1;cases h2;exact⟨rfl,trivial⟩
def L6 {W:World}(hL:laidMetH prog Rows.signsGoesUptoRow.laid W):Go.Iv.Good ⟨prog,gl0,0⟩ (X0 W):=by
 obtain⟨ps,A,_⟩:=(show laidMet prog _ W from hL)
 obtain⟨_,_,_,_,_,_,_,_,_,_,A,_⟩:=A;obtain⟨_,_,_,_,_,_,_,_,_,_,A,_⟩:=A;obtain⟨g1,t1,O,f1,p1,q1,ar,ao,am,av,A,_⟩:=A;obtain⟨g2,t2,ag,f2,p2,q2,aq,an,ak,au,_,_⟩:=A;obtain rfl:=eK (gPow.symm.trans ar);obtain rfl:=eK (gPowT.symm.trans ao);obtain rfl:=eK (gRows.symm.trans aq);obtain rfl:=eK (gRowsT.symm.trans an);have ac:=Lib.cells_of_tab (zs:=Lib.pow10Tab) uPow uU64 nU64 nPow av;have E:=QU au;have hb:∀(n:String) (g:Nat) (cs:Array Value),prog.globalNamed n=some g->W.var? prog n=some cs->∃T f,W.heap[g]?=some (.cells cs T f):=by
  intro n g cs hn U;unfold World.var? at U;rw[hn,kG] at U;split at U
  ·rename_i c t f hh;cases U;exact⟨_,_,hh⟩
  ·cases U
 obtain⟨T1,af,ab⟩:=hb _ _ _ gPow am;obtain⟨T2,ae,aa⟩:=hb _ _ _ gRows ak;have row:∀(g:Nat) (cs:Array Value) (T:TypeId) (f:Nat×Nat) (xs:List IV),W.heap[g]?=some (.cells cs T f)->cs.size=xs.length->(∀(i:Nat) (r:Value) (c:IV),cs.toList[i]?=some r->xs[i]?=some c->c=.raw r/\kI r) →
   V 0 (L0 W) W (.pointer (some ⟨g,0,none⟩)) (.cptr (.agg xs)):=by
  intro g cs T f xs hh hl h;refine .cptr _ _ cs.toList rfl (by simpa[IV.cells] using hl) ?_ (λi r D=>?_) (λi r c D hc=>?_)
  ·show 0+cs.toList.length<=L0 W g;simp[L0,hh]
  ·show W.cell? ⟨g,0+i,none⟩=some r;simp only[World.cell?,hh,eQ];simpa using D
  ·obtain⟨rfl,hk⟩:=h i r c D hc;exact .raw _ hk
 have hp:∀(i:Nat) (r:Value) (c:IV),O.toList[i]?=some r->pow10L[i]?=some c->c=.raw r/\kI r:=by
  intro i r c D hc;rw[ac,en] at D;unfold pow10L at hc;rw[en] at hc;obtain⟨z,hz,rfl⟩:=gI.1 D;rw[hz] at hc;cases hc;exact⟨rfl,trivial⟩
 have hs1:O.size=pow10L.length:=by
  rw[<- kd,ac];simp[pow10L]
 have hs2:ag.size=rowsL.length:=by
  rw[<- kd,E.1];rfl
 refine⟨λb o h=>(by cases h),λg x hx=>?_,fQ _,λb hb=>?_,λg x hx=>?_,λ_=>fQ _⟩
 ·match g,hx with
  | 0,hx=>cases hx;exact row 0 ag T2 ae _ aa hs2 (λi r c D hc=>QV E.1 E.2 i r c D hc)
  | 2,hx=>cases hx;exact row 2 O T1 af _ ab hs1 hp
 ·show L0 W b=0;unfold L0;rw[Array.getElem?_eq_none (show W.heap.size<=b from hb)]
 ·match g,hx with
  | 0,hx=>cases hx;exact⟨T2,ae == (0,0),by show shq W 0=_;simp[shq,aa,hs2,IV.cells]⟩
  | 2,hx=>cases hx;exact⟨T1,af == (0,0),by show shq W 2=_;simp[shq,ab,hs1,IV.cells]⟩
def QW {W:World}{X':WS}(h:Ext (X0 W) X'):Below W.heap.size W X'.w :=
 ⟨h.os,h.tape,h.output,h.size,λk A=>(h.keep k A rfl).1⟩
def QX:laidOutB prog=true:=by kernel_rfl
def Hz {H:Type}{enc:TypeId×Value->H}{W W':World}(hb:Below W.heap.size W W')(O:Nat->Bool):∀ {E:List TypeId} {vs:List Value} {ds:List (DataW H)} {ps:List MemPlace},
  (∀t∈E,prog.readableRec t=true/\t<prog.types.size)->DataW.TrodAll enc prog W 0 (λ_=>true) true E vs ds ps->(∀p∈ps,p.block<W.heap.size)->(∀p∈ps,O p.block=true) →
  DataW.TrodAll enc prog W' 0 O true E vs ds ps
 | [],vs,ds,ps,_,h,_,_=>by
  obtain⟨rfl,rfl,rfl⟩:=trodAll_nil h;rfl
 | t::E,vs,ds,ps,U,h,D,A=>by
  obtain⟨v,ab,d,ac,a,b,rfl,rfl,rfl,h1,h2⟩:=trodAll_cons h;refine⟨a,b,WideElems.Trod_stays QX (U t (by simp)).1 (U t (by simp)).2 h1 (λp hp=>hb.same (D p (by simp[hp]))) (λp hp=>A p (by simp[hp])),?_,rfl⟩;exact Hz hb O (λt h=>U t (by simp[h])) h2 (λp hp=>D p (by simp[hp])) (λp hp=>A p (by simp[hp]))
def L5 {H:Type}{enc:TypeId×Value->H}{f:Func}{s:ChangeSpec}{ah:FuncId}{W:World}{args:Array Value}{ds gs:List (DataW H)}{E:List MemPlace}{ae:List IV}
  (A:s.vars=[]) (hW:DataW.Whole enc prog f.params.toList s.vars false W args.toList ds gs E) (ac:s.fn H (ds++gs)={ results:=[.lit (.bool true)],args:=ds })
  (U:f.resultTypes=#[4]) (aa:∀t∈f.params.toList,prog.readableRec t=true/\t<prog.types.size) (hg:Go.Iv.Good ⟨prog,gl0,0⟩ (X0 W)) (hv:VL 0 (L0 W) W args.toList ae)
  (hc:ICall prog gl0 ah ae (λ_=>none) (λr st'=>r=true/\st'=λ_=>none)) :
  Calls prog ah args W λe W'=>∃v,e=.returned v/\s.post enc prog f false true false false W args v W':=by
 refine (hc 0 (X0 W) args.toList hg rfl hv).mono ?_;rintro e W' ⟨v,rfl,X',x,rfl,aw,he,hx,rfl,_⟩;obtain rfl:=dQ hx;have hb:=QW he;refine⟨_,rfl,?_⟩;have ag:=hW;obtain⟨p,q,hA,hV,rfl,hz,_⟩:=hW;rw[A] at hV;have am:gs=[]/\q=[]:=by
  cases gs with
  | nil=>exact⟨rfl,hV⟩
  | cons _ _=>exact absurd hV (by simp[DataW.TrodVars])
 obtain⟨rfl,rfl⟩:=am;have ab:∀x∈p,x.block<W.heap.size:=λx hx=>by simpa using ag.lt x (by simpa using hx)
 have D:∀O:Nat->Bool,(∀x∈p,O x.block=true)->DataW.TrodAll enc prog X'.w 0 O true f.params.toList args.toList (s.fn H (ds++[])).args p:=λO ak=>by
  rw[ac];exact Hz hb O aa hA ab ak
 have hr:∀(b:Nat) (O:Nat->Bool) (hd:Bool),DataW.TrodAll enc prog X'.w b O hd f.resultTypes.toList ((Value.bool true).resultList f.resultTypes.size) (s.fn H (ds++[])).results []:=λ_ _ _=>by
  rw[ac,U];exact trodAll_cons_mk (shut_bool oV _) trodAll_mk0
 have af:∀O:Nat->Bool,DataW.TrodVars enc prog X'.w O s.vars (s.fn H (ds++[])).vars []:=λ_=>by
  rw[A,ac];rfl
 have aj:∀x∈p,(λb=>decide (b<W.heap.size)) x.block=true:=λx hx=>by simpa using ab x hx
 refine⟨ds,[],p++[],[],p,[],ag,hr _ _ _,D _ aj,af _,World.keptBut_mono (λx hx=>⟨hx,Or.inr (by simpa using hx)⟩) (hb.frame (·∈p++[])),λ_=>⟨ok_one U rfl (okWide_bool_mk oV _),_,_,([]++p)++[],
  ⟨[]++p,[],trodAll_append (D _ (λ_ _=>rfl)) (hr _ _ _),af _,rfl,?_,λh=>by cases h⟩,λx hx _=>by simpa using hx⟩⟩
 intro b off hp;rw[hb.frozen (p:=⟨b,off,none⟩) (ab (.cell b off) (by simpa using hp))];exact hz b off (by simpa using hp)
def L2 {W:World}{A:Nat}{v:Value}{s:Sq}{x:IV}(h:Value.okWide prog W .any A 24 v)(hx:VL 0 (L0 W) W v.cells.toList x.cells)(D:IsSq s x):V 0 (L0 W) W v x:=by
 obtain⟨cs,rfl,_⟩:=WideShapes.okWide_struct uSeq h;obtain⟨_,_,_,_,rfl,_⟩:=D;cases cs;exact hx.agg
def tab32:List Int:=[0,1,28,2,29,14,24,3,30,22,20,15,25,17,4,8,31,27,13,23,21,19,16,7,26,12,18,6,11,5,10,9]
def tab64:List Int:=[0,1,56,2,57,49,28,3,61,58,42,50,38,29,17,4,62,47,59,36,45,43,51,22,53,39,33,30,24,18,12,5,63,55,48,27,60,41,37,16,46,35,44,21,52,32,23,11,54,26,40,15,34,20,31,10,25,14,19,9,13,8,7,6]
def lay (cs:List Value):Obj->Obj
 | .cells _ t frozen=>.cells cs.toArray t frozen
 | o=>o
noncomputable def xp (os:Os):World :=
 { World.holding prog os ⟨#[],#[],[]⟩ with heap:=((((World.holding prog os ⟨#[],#[],[]⟩).heap.modify 0 (lay ((List.range 17).flatMap rowV))).modify 2 (lay (Lib.pow10Tab.map λz=>.int .u64 z))).modify 3 (lay (tab32.map λz=>.int .u8 z))).modify 4 (lay (tab64.map λz=>.int .u8 z)) }
def Ma (os:Os)(args:Array Value):laidMet prog Rows.signsGoesUptoRow.laid ((xp os).forCall (λ_ _=>0) ⟨#[],args,[]⟩).memory :=
 laidMet_of_run' 8 (by kernel_rfl) (by kernel_rfl)
end Go.Proofs.Tryz
namespace Go.Proofs.Tryz
open Go Go.Iv
set_option maxRecDepth 4000
def zN:∀l:List IV,(∀x∈l,∃v,x=.raw v)->ages l=l
 | [],_=>rfl
 | x::l,h=>by
  obtain⟨v,rfl⟩:=h x (by simp);simp only[ages,age,zN l λy A=>h y (by simp[A])]
def L8:∀g x,gl0 g=some x->age x=x:=by
 intro g x hx
 match g,hx with
 | 0,hx =>
  cases hx;simp only[age];rw[zN _ λy A=>?_];obtain⟨op,_,A⟩:=iy.1 A;unfold rowI at A;simp only[dC,e_,eu] at A;rcases A with rfl|rfl|rfl|rfl|rfl<;>exact⟨_,rfl⟩
 | 2,hx =>
  cases hx;simp only[age];rw[zN _ λy A=>?_];obtain⟨z,_,rfl⟩:=eP.1 A;exact⟨_,rfl⟩
end Go.Proofs.Tryz
namespace Go.Proofs.Tryz
open Go Go.Iv Go.ChangeShapes
open Go.Proofs.YtopmhkmegkpkdaaGreatDoor.Rows (uptoBulk uptoBulkAll)
set_option maxRecDepth 4000
def QY:prog.underlying 29=some (.struct #[⟨ "True",4,0,false, "", "",0⟩,⟨ "World",3,1,false, "", "",8⟩,⟨ "Form",27,2,false, "", "",16⟩]):=by kernel_rfl
def HA:prog.underlying 32=some (.struct #[⟨ "Main",29,0,false, "", "",0⟩,⟨ "Close",4,6,false, "", "",88⟩,⟨ "World",3,7,false, "", "",96⟩,⟨ "Sub",30,8,false, "", "",104⟩]):=by kernel_rfl
def QZ:prog.underlying 30=some (.slice 32):=by kernel_rfl
def HB:prog.cellsOf 29=6:=by kernel_rfl
def HC:prog.cellsOf 32=9:=by kernel_rfl
def Q0:prog.cellsOf 30=1:=by kernel_rfl
section
variable {H:Type}{enc:TypeId×Value->H}{w:World}{spare:Nat->Bool}{held:Bool}
def Q1 (D:Nat)(cs:List Value)(y:DataW H×List MemPlace)(h:DataW.trod enc prog w 0 spare held D 29 cs=some y)(hb:uptoBulk y.1<=1048576):∃(m:Mk) (x:IV),VL 0 (L0 w) w cs x.cells/\IsMk m x/\wFm m.f<=2*uptoBulk y.1:=by
 obtain⟨ys,n,rfl,rfl,hl,A,W⟩:=kA QY h
 match ys,A with
 | [y0,y1,y2],_ =>
  rw[HB] at hl
  match cs,hl with
  | [c0,c1,c2,c3,c4,c5],_ =>
   have h0:=W 0 _ rfl;have h1:=W 1 _ rfl;have h2:=W 2 _ rfl;simp only[C2,nInt,wW,List.drop_zero,List.drop_succ_cons,kD,List.take_zero,fC,iV] at h0 h1 h2;simp only[eo,fm,uptoBulk,uptoBulkAll] at hb;obtain⟨b,e0,rfl⟩:=DataW.trod_bool oV h0;obtain⟨i,e1,rfl,_⟩:=DataW.trod_int uInt h1;obtain⟨f,xf,O,hf1,hf2⟩:=wY n _ _ h2 (by omega);cases e0;cases e1;have U:=hf1;obtain⟨o,fn,us,sub⟩:=f;obtain⟨ta,xa,tb,E,rfl,_⟩:=hf1.mk;refine⟨⟨b,i,.mk o fn us sub⟩,.agg [b,i,.raw (.int .u8 o),fn,.sl ta xa,.sl tb E],VL.cons (.raw _ trivial) (VL.cons (.raw _ trivial) O),⟨_,_,_,_,_,_,rfl,U⟩,?_⟩;have:=Hy (.mk o fn us sub);simp only[eo,fm,uptoBulk,uptoBulkAll];omega
def HD:∀ {us:List Nd}{A:List IV},us.length=A.length->(∀(i:Nat)(a:Nd)(x:IV),us[i]?=some a->A[i]?=some x->IsNd a x)->IsNds us A
 | [],A,h,_=>by simpa[IsNds] using h.symm
 | a::us,[],h,_=>by simp at h
 | a::us,x::A,h,D=>⟨x,A,rfl,D 0 a x rfl rfl,HD (by simpa using h) (λi b y O E=>D (i+1) b y (by simpa using O) (by simpa using E))⟩
def HE:∀ {us:List Nd}{ds:List (DataW H)},us.length=ds.length->(∀(i:Nat)(a:Nd)(d:DataW H),us[i]?=some a->ds[i]?=some d->wNd a<=2*uptoBulk d)->wNds us<=2*uptoBulkAll ds
 | [],ds,h,_=>by simp[wNds]
 | a::us,[],h,_=>by simp at h
 | a::us,x::D,h,A=>by
  have h1:=A 0 a x rfl rfl;have h2:=HE (us:=us) (ds:=D) (by simpa using h) (λi b y O E=>A (i+1) b y (by simpa using O) (by simpa using E));simp only[wNds,uptoBulkAll];omega
def RN (d:DataW H)(t:Nd)(x:IV):Prop:=IsNd t x/\wNd t<=2*uptoBulk d
def RN.cells {d:DataW H}{t:Nd}{x:IV}(h:RN d t x):x.cells.length=9:=by
 obtain⟨v3,U,W,n3,t4,E,t5,D,c5,O,t6,A,rfl⟩:=fG h.1;rfl
def Q2 {D:Nat}{cs:List Value}{y:DataW H×List MemPlace}(h:DataW.trod enc prog w 0 spare held D 30 cs=some y)(hb:uptoBulk y.1<=1048576)
  (IH:∀(n:Nat),n<D->∀(cs:List Value) (y:DataW H×List MemPlace),DataW.trod enc prog w 0 spare held n 32 cs=some y->uptoBulk y.1<=1048576->∃t x,VL 0 (L0 w) w cs x.cells/\RN y.1 t x) :
  ∃v tg U E,cs=[v]/\V 0 (L0 w) w v (.sl tg U)/\okEs tg 9/\IsNds E U/\wNds E<=2*uptoBulk y.1:=by
 obtain⟨v,tg,U,E,rfl,hv,ab,hl,hc⟩:=wV (H:=H) (P:=prog) (d:=y.1) (p:=y.2) RN QZ HC (by decide) h (λA W e=>by
   have:=nc A W;have:=tI A;rw[<- e] at *;omega) (λd t x h=>h.cells) (λn hn cs' z q ⟨A,W,he,hm⟩ hz=>by
   have:=nc A W;have:=tH hm;rw[he] at hb;exact IH n (by omega) cs' (z,q) hz (show uptoBulk z<=1048576 by omega))
 refine⟨v,tg,U,E,rfl,hv,ab,?_⟩;rcases hc with⟨hd,rfl⟩|⟨A,W,hd,an,hr⟩
 ·obtain rfl:E=[]:=fX.1 (by simpa using hl);exact⟨rfl,by simp[wNds]⟩
 ·have hi:∀(i:Nat) (a:Nd),E[i]?=some a->∃x d,U[i]?=some x/\A[i]?=some d/\RN d a x:=λi a O=>by
   have hi:=(lGs O).1;exact⟨_,_,ee (by omega),ee (by omega),hr i _ _ _ (ee (by omega)) O (ee (by omega))⟩
  refine⟨HD hl (λi a x O hx=>?_),?_⟩
  ·obtain⟨x',d,h1,h2,h3⟩:=hi i a O;rw[hx] at h1;cases h1;exact h3.1
  ·have:=HE (us:=E) (ds:=A) (by omega) (λi a d O ae=>by
    obtain⟨x',d',h1,h2,h3⟩:=hi i a O;rw[ae] at h2;cases h2;exact h3.2)
   have:=nc A W;grind
def cs9 {cs:List Value}(h:cs.length=9):∃a b c d e f g h i,cs=[a,b,c,d,e,f,g,h,i]:=by
 match cs,h with
 | [a,b,c,d,e,f,g,h,i],_=>exact⟨a,b,c,d,e,f,g,h,i,rfl⟩
def L3:∀(A:Nat)(cs:List Value)(y:DataW H×List MemPlace),DataW.trod enc prog w 0 spare held A 32 cs=some y->uptoBulk y.1<=1048576->∃t x,VL 0 (L0 w) w cs x.cells/\RN y.1 t x:=by
 intro A
 induction A using Nat.strongRecOn with
 | ind A IH =>
  intro cs y h hb;obtain⟨ys,n,rfl,rfl,hl,D,E⟩:=kA HA h
  match ys,D with
  | [y0,y1,y2,y3],_ =>
   rw[HC] at hl;obtain⟨c0,c1,c2,c3,c4,c5,c6,c7,c8,rfl⟩:=cs9 hl;have h0:=E 0 _ rfl;have h1:=E 1 _ rfl;have h2:=E 2 _ rfl;have h3:=E 3 _ rfl;simp only[HB,C2,nInt,Q0,List.drop_zero,List.drop_succ_cons,kD,List.take_zero,fC,iV] at h0 h1 h2 h3;simp only[eo,fm,uptoBulk,uptoBulkAll] at hb;obtain⟨m,xm,U,⟨o,fn,ta,xa,tb,xb,rfl,ab⟩,ao⟩:=Q1 n _ _ h0 (by omega);obtain⟨c,e1,rfl⟩:=DataW.trod_bool oV h1;obtain⟨i,e2,rfl,_⟩:=DataW.trod_int uInt h2;obtain⟨v,tg,O,ts,e3,hv,aa,W,aq⟩:=Q2 h3 (by omega) (λm hm=>IH m (by omega));cases e1;cases e2;cases e3;refine⟨.mk m c i ts,.agg [.raw (.bool m.is),.raw (.int .i64 m.w),.raw (.int .u8 o),fn,.sl ta xa,.sl tb xb,c,i,.sl tg O],
    U.append (VL.cons (.raw _ trivial) (VL.cons (.raw _ trivial) (VL.cons hv VL.nil))),?_,?_⟩
   ·simp only[IsNd];exact⟨_,_,_,_,_,_,_,_,rfl,ab,aa,W⟩
   ·simp only[eo,fm,uptoBulk,uptoBulkAll,wNd];omega
def L4 {W:World}{A:Nat}{v:Value}{t:Nd}{x:IV}(h:Value.okWide prog W .any A 32 v)(hx:VL 0 (L0 W) W v.cells.toList x.cells)(D:IsNd t x):V 0 (L0 W) W v x:=by
 obtain⟨cs,rfl,_⟩:=WideShapes.okWide_struct HA h;obtain⟨_,_,_,_,_,_,_,_,_,_,_,_,rfl⟩:=fG D;cases cs;exact hx.agg
end
