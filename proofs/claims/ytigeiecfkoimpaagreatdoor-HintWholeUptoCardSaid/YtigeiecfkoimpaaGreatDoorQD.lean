/- Walks: numbers in order, each once. -/
import Derived.Test.YtigeiecfkoimpaaGreatDoorQC
set_option linter.all false
open Nat renaming reduceEqDiff → zE,reduceBEq → zB,reduceAdd → zA,reduceMul → zM,reduceLeDiff → zL
namespace Go.Proofs.Tryz
open Go Go.Iv
set_option maxRecDepth 4000
variable (gl:Nat->Option IV)
def fM (l:List Nat):(dO l).length=l.length:=by simp[dO]
def kW {l:List Nat}{i n:Nat}(h:l[i]?=some n):(dO l)[i]?=some (.raw (.int .i64 (n:Int))):=by simp[dO,h]
def NX (l:List Nat)(k:Nat):(dO l).take k=dO (l.take k):=by simp[dO,List.map_take]
def zx (l m:List Nat):dO (l++m)=dO l++dO m:=by simp[dO]
def rd1 {m:List Nat}{rest cs:List IV}{i n:Nat}(h:m[i]?=some n)(hc:cs[i]?=(dO m++rest)[i]?):cs[i]?=some (.raw (.int .i64 (n:Int))):=by
 rw[hc,fg (by rw[fM];exact (lGs h).1),kW h]
def st1_ {cs l:List IV}{k n:Nat}(hl:l.length=n)(h:k+n<=cs.length):(fu cs k l).length=cs.length/\(fu cs k l).take k=cs.take k/\(fu cs k l).take (k+n)=cs.take k++l/\∀i,k+n<=i->(fu cs k l)[i]?=cs[i]?:=by
 have h1:(cs.take k).length=k:=by rw[dU];omega
 have h2:(cs.take k++l).length=k+n:=by rw[lLa,h1,hl]
 unfold fu;refine⟨?_,?_,jM h2,λi D=>?_⟩
 ·rw[lLa,h2,gz,hl];omega
 ·rw[et,jM h1]
 ·rw[fD (by omega),h2,kv,hl];congr 1;omega
def Fw (m:List Nat)(rest:List IV)(aM:m.length<=1099511627776)(g cap:Nat)(af:m.length<=cap)(st:ISt)(hb:st g=some (.box (dO m++rest))) :
  ICall prog gl 171 [.raw (.slice (some ⟨g,0,none⟩) m.length cap)] st
   (λr st'=>∃cs,r=.raw (.slice (some ⟨g,0,none⟩) (ddN m).length cap)/\st'=st.put g (some (.box cs))/\cs.length=(dO m++rest).length/\cs.take (ddN m).length=dO (ddN m)/\(ddN m).length<=m.length):=by
 have am:st.put g (some (.box (dO m++rest)))=st:=jy hb;have ae:ddN m=m->∃cs,IV.raw (.slice (some ⟨g,0,none⟩) m.length cap)=.raw (.slice (some ⟨g,0,none⟩) (ddN m).length cap)/\st=st.put g (some (.box cs))/\cs.length=(dO m++rest).length/\cs.take (ddN m).length=dO (ddN m)/\(ddN m).length<=m.length:=by
  intro hk;rw[hk];exact⟨_,rfl,am.symm,rfl,by rw[jM (fM m)],dG _⟩
 refine ICall.intro (c:=cf prog gl [19,24,38,43] []) func171 rfl (by show _<=61;simp) (by kernel_rfl) ?_;by_cases h2:m.length<2
 ·have d2:decide (((m.length:Nat):Int)<2)=true:=dEt (by omega);simp only[go_sem,reduceCtorEq,d2];refine c_ (ae ?_)
  match m,h2 with
  | [],_=>rfl
  | [a],_=>rfl
 ·have d2:decide (((m.length:Nat):Int)<2)=false:=dEf (by omega);simp only[go_sem,reduceCtorEq,d2];refine dt (m.length-1) (λc fr st' ds=>ddN (m.take (c+1))=m.take (c+1)/\fr 0=.iv (.raw (.slice (some ⟨g,0,none⟩) m.length cap))/\fr 3=((c+1:Nat):Int)/\st'=st/\ds=[]) ?_ ?_ ?_
  ·simp only[go_sem,reduceCtorEq];refine⟨?_,rfl⟩
   match m,h2 with
   | [],h=>exact absurd (show 0<2 by decide) h
   | [a],h=>exact absurd (show 1<2 by decide) h
   | a::b::l,_=>rfl
  ·rintro c fr ai _ aQ ⟨hd,f0,f3,rfl,rfl⟩;have D:c+1<m.length:=by omega
   obtain⟨a,ha⟩:=dD (l:=m) (k:=c) (by omega);obtain⟨b,ah⟩:=dD D;have rx:=rd1 (rest:=rest) ha rfl;have ry:=rd1 (rest:=rest) ah rfl;have hw:IntKind.i64.wrap (((c+1:Nat):Int)-1)=(c:Nat):=by rw[w64 (by omega) (by omega)];omega
   have aa:=Ff ha ah;by_cases he:b=a
   ·rw[cX he,ek,hd] at aa;have av:¬ cap=c+1:=by omega
    simp only[go_sem,zE,reduceCtorEq,f0,f3,lt_i D,hw,D,show c<m.length by omega,iNn,ew,hb,rx,ry,dEt (show (b:Int)=a by omega),u9 (show c+1<=m.length by omega),af,av];refine dt (m.length-(c+1)-1) (λj fr st' ds=>(∃k cs,fr 3=((k:Nat):Int)/\st'=ai.put g (some (.box cs))/\cs.length=(dO m++rest).length/\k=(ddN (m.take (c+1+j+1))).length/\cs.take k=dO (ddN (m.take (c+1+j+1)))/\k<=c+1+j/\∀i,c+1+j<=i->cs[i]?=(dO m++rest)[i]?) /\
     fr 0=.iv (.raw (.slice (some ⟨g,0,none⟩) m.length cap))/\fr 4=.iv (.raw (.slice (some ⟨g,c+1,none⟩) (m.length-(c+1)) (cap-(c+1))))/\fr 5=((j+1:Nat):Int)/\ds=[]) ?_ ?_ ?_
    ·simp only[go_sem,zE,reduceCtorEq];refine⟨⟨c+1,dO m++rest,f3,(jy hb).symm,rfl,?_,?_,dG _,λ_ _=>rfl⟩,f0,rfl⟩
     ·rw[aa,dU];omega
     ·rw[aa,List.take_append_of_le_length (by rw[fM];omega),NX]
    ·rintro j fr aA _ hj ⟨⟨k,cs,f3,rfl,J,O,ab,hk,ac⟩,f0,f4,f5,rfl⟩;obtain⟨a',ax⟩:=dD (l:=m) (k:=c+1+j) (by omega);obtain⟨b',aw⟩:=dD (l:=m) (k:=c+1+j+1) (by omega);have ak:=rd1 ax (ac _ (dG _));have aj:=rd1 aw (ac _ (by omega));have al:IntKind.i64.wrap (((j+1:Nat):Int)-1)=(j:Nat):=by rw[w64 (by omega) (by omega)];omega
     have o2:c+1+(j+1)=c+1+j+1:=by omega
     have G:j+1<m.length-(c+1):=by omega
     have aq:j<m.length-(c+1):=by omega
     have E:=Ff ax aw;by_cases au:b'=a'
     ·rw[cX au,ek] at E;simp only[go_sem,zE,reduceCtorEq,f0,f3,f4,f5,lt_i G,aq,G,al,iNn,ew,b_,o2,ak,aj,dEt (show (b':Int)=a' by omega),dL G (by omega)];exact⟨k,cs,rfl,rfl,J,by rw[E];exact O,by rw[E];exact ab,by omega,λi hi=>ac i (by omega)⟩
     ·rw[a_ au] at E;have ag:k<m.length:=by omega
      have hml:m.length<=cs.length:=by rw[J,lLa,fM];omega
      have ao:k+1<=cs.length:=by omega
      obtain⟨s1,s2,s3,s4⟩:=st1_ (n:=1) (l:=[(b':Int)]) rfl ao;simp only[go_sem,zE,reduceCtorEq,f0,f3,f4,f5,lt_i G,aq,G,al,iNn,ew,b_,o2,ak,aj,dEf (show ¬ (b':Int)=a' by omega),ag,ao,dL ag (by omega),dL G (by omega)];refine⟨k+1,fu cs k [(b':Int)],rfl,by rw[eN];rfl,s1.trans J,?_,?_,by omega,λi hi=>?_⟩
      ·rw[E,lLa,<- O];rfl
      ·rw[E,s3,ab,zx];rfl
      ·exact (s4 i (by omega)).trans (ac i (by omega))
    ·rintro fr aA _ ⟨⟨k,cs,f3,rfl,J,O,ab,hk,ac⟩,f0,f4,f5,rfl⟩;have ag:k<m.length:=by omega
     have aE:¬ cap=k:=by omega
     have aB:¬ m.length-k=0:=by omega
     have aC:m.length<=cs.length:=by rw[J,lLa,fM];omega
     have an:k+(m.length-k)<=cs.length:=by omega
     obtain⟨s1,s2,s3,s4⟩:=st1_ (cs:=cs) (k:=k) (l:=List.replicate (m.length-k) .junk) (gA ..) an;rw[show m.length-(c+1)-1+1=m.length-(c+1) by omega] at f5;simp only[go_sem,zE,reduceCtorEq,f0,f3,f4,f5,dS (nLi _),u9 (show k<=m.length by omega),y_ (show k<=cap by omega),af,aE,aB,b_,an,ite_self,ew];rw[show c+1+(m.length-(c+1)-1)+1=m.length by omega,lTl] at O ab;subst O;exact c_ ⟨fu cs (ddN m).length (List.replicate (m.length-(ddN m).length) .junk),rfl,by rw[eN];rfl,s1.trans J,s2.trans ab,by omega⟩
   ·rw[a_ he,hd] at aa;simp only[go_sem,zE,reduceCtorEq,f0,f3,lt_i D,hw,D,show c<m.length by omega,iNn,ew,hb,rx,ry,dEf (show ¬ (b:Int)=a by omega),dL D (by omega)];rw[aa,dM ah]
  ·rintro fr ai _ ⟨hd,f0,f3,rfl,rfl⟩;rw[show m.length-1+1=m.length by omega] at hd f3;rw[lTl] at hd;simp only[go_sem,zE,reduceCtorEq,f0,f3,dS (nLi _)];exact c_ (ae hd)
def Fx (t:Tag)(ht:t.cap=.nil)(st:ISt):ICall prog gl 171 [.sl t []] st (λr st'=>(∃D,r=.sl D []/\D.cap=.nil)/\st'=st):=by
 obtain⟨E,c,es⟩:=t;obtain rfl:c=.nil:=ht;refine ICall.intro (c:=cf prog gl [19,24,38,43] []) func171 rfl (by show _<=61;simp) (by kernel_rfl) ?_;simp only[go_sem,zL,reduceCtorEq,show decide (((0:Nat):Int)<2)=true from rfl];exact c_ ⟨⟨_,rfl,rfl⟩,rfl⟩
def NY (n:Nat)(O:n<=1099511627776)(st:ISt):ICall prog gl 266 [(),n] st (λr st' =>
  (n=0/\r=()/\st'=st)\/(∃g cap,st g=none/\n<=cap/\r=.raw (.slice (some ⟨g,0,none⟩) 0 cap)/\st'=st.put g (some (.box (List.replicate cap .junk))))):=by
 have h1:decide ((n:Int)<0)=false:=dEf (by omega);have h2:IntKind.i64.wrap ((0:Int)-((0:Nat):Int))=0:=rfl;have E:IntKind.i64.wrap ((n:Int)-0)=n:=w64 (by omega) (by omega);refine iI func266 ?_;by_cases G:n=0
 ·subst G;simp only[go_sem,zE,zL,reduceCtorEq,h1,h2,E,show decide ((0:Int)<((0:Nat):Int))=false from rfl];refine c_ (.inl ?_);simp
 ·have J:decide ((0:Int)<(n:Int))=true:=dEt (by omega);simp only[go_sem,zE,zL,reduceCtorEq,h1,h2,E,J,yQ,Ed];refine fO ⟨rfl,by omega,by show (n:Int)*8<=_;omega,by omega,by decide⟩ λg cap=>d_ λD=>?_;obtain⟨D,hc⟩:=D;rw[i_] at hc;simp only[go_sem,zE,zL,reduceCtorEq,i_,Ee,ite_self,ew,hc];exact c_ (.inr ⟨g,cap,D,hc,rfl,rfl⟩)
def Fy {y:IV}(h:fits false 1 y=true):y.cells.length=1:=(lJ h).2.1
def NZ {l:List IV}(h:∀y∈l,fits false 1 y=true):(l.flatMap IV.cells).length=l.length:=(gS l λx D=>Fy (h x D)).trans (ew _)
def N0 (l:List (Tag×List IV))(tt:Tag)(O:okEs tt 1)(J:∀p∈l,∀y∈p.2,fits false 1 y=true)(aj:(catL l).length<=1099511627776)(st:ISt) :
  ICall prog gl 242 [.sl tt (catI l)] st (λr st'=>(∃t,r=.sl t []/\t.cap=.nil/\catL l=[]/\st'=st) \/
   ∃g cap cs,st g=none/\(catL l).length<=cap/\cap<=cs.length/\cs.take ((catL l).length)=(catL l).flatMap IV.cells/\r=.raw (.slice (some ⟨g,0,none⟩) (catL l).length cap)/\st'=st.put g (some (.box cs))):=by
 have aa:(catI l).length=l.length:=by simp[catI]
 have aC:∀y∈catL l,fits false 1 y=true:=λy hy=>by
  obtain⟨p,hp,hy⟩:=fh.1 hy;exact J p hp y hy
 refine iI func242 ?_;simp only[go_sem,reduceCtorEq,aa];intro hl;refine dt l.length (λk fr st' ds=>fr 0=.iv (.sl tt (catI l))/\fr 3=.iv (.raw (.int .i64 (catL (l.take k)).length))/\fr 9=.iv (.sl tt (catI l))/\fr 10=l.length/\fr 11=.iv (.raw (.int .i64 k))/\st'=st/\ds=[]) ?_ ?_ ?_
 ·simp only[go_sem,zE,reduceCtorEq];simp[catL]
 ·rintro k fr E _ D ⟨f0,f3,f9,f10,f11,rfl,rfl⟩;obtain⟨p,hp⟩:=dD D;have h1:=nT l k;have h2:=nT l (k+1);rw[ka hp,lLa] at h2;have h3:IntKind.i64.wrap ((((catL (l.take k)).length:Nat):Int)+((p.2.length:Nat):Int))=((catL (l.take (k+1))).length:Nat):=by
   rw[w64 (by omega) (by omega),ka hp,lLa];omega
  have h4:decide ((((catL (l.take (k+1))).length:Nat):Int)<0)=false:=dEf (by omega);simp only[go_sem,zE,f3,f9,f10,f11,lt_i D,dB O,iNn,qd hp,fits,h3];intro aB;simp only[go_sem,zE,reduceCtorEq,h3,h4,f0,f9,f10,f11,dL D (by omega)]
 ·rintro fr E _ ⟨f0,f3,f9,f10,f11,rfl,rfl⟩;rw[lTl] at f3;simp only[go_sem,zE,zA,f3,f10,f11,dS (nLi _)];refine (NY gl (catL l).length aj _).mono ?_;have loop:∀(I:Nat->IV->ISt->Prop),True:=λ_=>trivial;rintro r am (⟨hz,rfl,rfl⟩|⟨g,cap,hg,ax,rfl,rfl⟩)
  ·have G:catL l=[]:=ev hz;simp only[go_sem,reduceCtorEq,f0,aa];intro _;refine dt l.length (λk fr st' ds=>(∃t,fr 6=.iv (.sl t [])/\t.cap=.nil)/\fr 25=.iv (.sl tt (catI l))/\fr 26=l.length/\fr 27=.iv (.raw (.int .i64 k))/\st'=am/\ds=[]) ?_ ?_ ?_
   ·simp only[go_sem,zE];exact⟨⟨_,rfl,rfl⟩,rfl⟩
   ·rintro k fr E _ D ⟨⟨t,f6,ht⟩,f25,f26,f27,rfl,rfl⟩;obtain⟨p,hp⟩:=dD D;have ao:p.2=[]:=by
     have:=ka hp;have h2:=nT l (k+1);rw[this,lLa,G,ee] at h2;exact ev (by omega)
    obtain⟨fs,c,es⟩:=t;obtain rfl:c=.nil:=ht;simp only[go_sem,zE,zA,zM,zL,f6,f25,f26,f27,lt_i D,dB O,iNn,qd hp,fits,ao,dL D (by omega)];exact⟨_,rfl,rfl⟩
   ·rintro fr E _ ⟨⟨t,f6,ht⟩,f25,f26,f27,rfl,rfl⟩;simp only[go_sem,zE,f6,f26,f27,dS (nLi _)];exact c_ (.inl ⟨_,rfl,ht,G,rfl⟩)
  ·simp only[go_sem,reduceCtorEq,f0,aa];intro _;refine dt l.length (λk fr st' ds=>(∃g cap cs,E g=none/\(catL (l.take k)).length<=cap/\cap<=cs.length/\cs.take ((catL (l.take k)).length)=(catL (l.take k)).flatMap IV.cells/\fr 6=.iv (.raw (.slice (some ⟨g,0,none⟩) (catL (l.take k)).length cap))/\st'=E.put g (some (.box cs)))/\fr 25=.iv (.sl tt (catI l))/\fr 26=l.length/\fr 27=.iv (.raw (.int .i64 k))/\ds=[]) ?_ ?_ ?_
   ·simp only[go_sem,zE];exact⟨⟨g,cap,_,hg,by simp[catL],by simp,by simp[catL],by simp[catL],rfl⟩,rfl⟩
   ·rintro k fr st' _ D ⟨⟨g,cap,cs,hg,ae,ac,ab,f6,rfl⟩,f25,f26,f27,rfl⟩;obtain⟨p,hp⟩:=dD D;have h2:=nT l (k+1);rw[ka hp,lLa] at h2;have ai:=J p (lMg hp);simp only[go_sem,zE,zA,f6,f25,f26,f27,lt_i D,dB O,iNn,qd hp,fits];refine kN _ _ _ (b_ ..) (eF.2 ai) ⟨by show _*8<=_;omega,by omega⟩ ⟨ae,by simp only[ew];exact ac⟩ ((NZ ai).trans (ew _).symm) ?_;intro g' ak cs' au k1 k2 k3;simp only[ew] at k2 k3;simp only[go_sem,zE,f25,f26,f27,dL D (by omega)];have ah:((E.put g (some (.box cs))).put g none).put g' (some (.box cs'))=E.put g' (some (.box cs')):=by
     funext c;simp only[ISt.put_apply];split
     ·rfl
     ·split
      ·subst_vars;exact hg.symm
      ·rfl
    have aq:E g'=none:=by
     rcases au with rfl|h
     ·exact hg
     ·rw[ISt.put_apply] at h;split at h
      ·cases h
      ·exact h
    refine⟨g',ak,cs',aq,?_,k2,?_,?_,ah⟩
    ·rw[ka hp,lLa];exact k1
    ·rw[ka hp,lLa,ix,<- ab];exact k3
    ·rw[ka hp,lLa]
   ·rintro fr st' _ ⟨⟨g,cap,cs,hg,ae,ac,ab,f6,rfl⟩,f25,f26,f27,rfl⟩;rw[lTl] at *;simp only[go_sem,zE,f6,f26,f27,dS (nLi _)];exact c_ (.inr ⟨g,cap,cs,hg,ae,ac,ab,rfl,rfl⟩)
def Fz (n:Nat):Int.fdiv (n:Int) (2 ^ min (Int.toNat 1) 64)=((n / 2:Nat):Int):=by
 rw[show (2:Int) ^ min (Int.toNat 1) 64=((2:Nat):Int) from rfl];exact (Int.ofNat_fdiv n 2).symm
def FA {a b n:Nat}(h:a<=b)(D:b<=n)(hl:n<=1099511627776):IntKind.u64.wrap (IntKind.i64.wrap ((a:Int)+(b:Int)))=((a+b:Nat):Int)/\IntKind.i64.wrap (((a+b) / 2:Nat):Int)=(((a+b) / 2:Nat):Int):=by
 have h1:IntKind.i64.wrap ((a:Int)+(b:Int))=((a+b:Nat):Int):=by rw[w64 (by omega) (by omega)];omega
 rw[h1];exact⟨IntWalk.u64_in _ (by omega),w64 (by omega) (by omega)⟩
def N1 (W:List Fm)(tg:Tag)(xs:List IV)(ah:okEs tg 4)(hx:IsFms W xs)(hW:Srt W)(ai:W.length<=1099511627776)(f:Fm)(y:IV)(hy:IsFm f y)(st:ISt) :
  ICall prog gl 169 [.sl tg xs,y,.fn (.func 104) [] []] st
   (λr st'=>(∃(i:Nat) (b:Bool),r=.tup [(i:Int),.raw (.bool b)]/\(b=true↔f∈W)/\(b=true->W[i]?=some f))/\st'=st):=by
 have aa:=λa x hx st=>uY gl a f x y hx hy st;obtain⟨y1,y2,y3,y4,y5,y6,rfl⟩:=hy.agg;have al:=hx.len;have c1:=λn:Int=>me prog 3 242 mh t_ .i64 n;have c2:=λn:Int=>me prog 242 3 t_ mh .u64 n;refine iI func169 ?_;simp only[go_sem,zE,reduceCtorEq,al];intro _;refine LoopC.dec W.length (λm fr st' ds=>(∃lo D,m=D-lo/\lo<=D/\D<=W.length/\(∀k a,k<lo->W[k]?=some a->eK a f<0)/\(∀k a,D<=k->W[k]?=some a->¬ eK a f<0)/\fr 9=(lo:Int)/\fr 10=(D:Int))/\fr 0=.iv (.sl tg xs)/\fr 2=.iv (.fn (.func 104) [] []) /\
  fr 4=.box [.raw (.int .u8 y1),y2,.sl y3 y4,.sl y5 y6]/\fr 8=W.length/\st'=st/\ds=[]) ?_ ?_
 ·simp only[go_sem,zE,reduceCtorEq];refine⟨0,W.length,by omega,by omega,by omega,λk a O=>absurd O (by omega),λk a O E=>?_,rfl,rfl⟩;have:=(lGs E).1;omega
 ·rintro m fr aJ _ ⟨⟨lo,D,hm,aq,aj,h1,h2,f9,f10⟩,f0,f2,f4,f8,rfl,rfl⟩;by_cases ao:lo<D
  ·obtain⟨an,am⟩:=FA aq aj ai;obtain⟨a,E⟩:=dD (l:=W) (k:=(lo+D) / 2) (by omega);obtain⟨x,ae,G⟩:=hx.get E;obtain⟨x1,x2,x3,x4,x5,x6,rfl⟩:=G.agg;simp only[go_sem,zE,zB,zA,zL,reduceCtorEq,f0,f2,f4,f9,f10,lt_i ao,c1,c2,show ((0:Int)<=1)=True from eT (by omega),Fz,an,am,dB ah,iNn,ae,fits];refine (aa a _ G _).q ?_;by_cases hc:eK a f<0
   ·simp only[go_sem,zE,reduceCtorEq,f0,f2,f4,f8,f10,dEt hc,dL (show (lo+D) / 2<W.length by omega) (by omega)];refine⟨D-((lo+D) / 2+1),by omega,(lo+D) / 2+1,D,rfl,by omega,aj,λk b O hb=>?_,h2,rfl,rfl⟩;rcases fN k ((lo+D) / 2) with h|h
    ·exact oR _ _ _ (qx hW hb E h) hc
    ·obtain rfl:k=(lo+D) / 2:=by omega
     rw[E] at hb;cases hb;exact hc
   ·simp only[go_sem,zE,reduceCtorEq,f0,f2,f4,f8,f9,dEf hc];refine⟨(lo+D) / 2-lo,by omega,lo,(lo+D) / 2,rfl,by omega,by omega,h1,λk b O hb=>?_,rfl,rfl⟩;rcases fN ((lo+D) / 2) k with h|h
    ·exact λau=>hc (oR _ _ _ (qx hW E hb h) au)
    ·obtain rfl:k=(lo+D) / 2:=by omega
     rw[E] at hb;cases hb;exact hc
  ·obtain rfl:lo=D:=by omega
   have af:∀k,W[k]?=some f->k=lo:=λk O=>by
    rcases Nat.lt_trichotomy k lo with h|h|h
    ·exact absurd (h1 k f h O) (qq f)
    ·exact h
    ·obtain⟨b,hb⟩:=dD (l:=W) (k:=lo) (by have:=(lGs O).1;omega);exact absurd (qx hW hb O h) (h2 lo b (dG _) hb)
   have J:f∈W↔W[lo]?=some f:=⟨λh=>by
    obtain⟨k,O⟩:=lD.1 h
    rwa [af k O] at O,lMg⟩
   by_cases ac:lo<W.length
   ·obtain⟨a,E⟩:=dD ac;obtain⟨x,ae,G⟩:=hx.get E;obtain⟨x1,x2,x3,x4,x5,x6,rfl⟩:=G.agg;simp only[go_sem,zE,zB,zA,zL,reduceCtorEq,f0,f2,f4,f8,f9,f10,dS (nLi _),lt_i ac,dB ah,iNn,ae,fits];refine (aa a _ G _).q ?_;by_cases hc:eK a f=0
    ·simp only[go_sem,zE,dEt hc];refine c_ ⟨⟨lo,true,rfl,⟨λ_=>?_,λ_=>rfl⟩,λ_=>?_⟩,rfl⟩
     ·rw[J,E,(kc a f).1 hc]
     ·rw[E,(kc a f).1 hc]
    ·simp only[go_sem,zE,dEf hc];refine c_ ⟨⟨lo,false,rfl,⟨nofun,λh=>?_⟩,nofun⟩,rfl⟩;rw[J,E] at h;cases h;exact absurd ((kc _ _).2 rfl) hc
   ·simp only[go_sem,zE,f8,f9,f10,dS (nLi _),dS ac];refine c_ ⟨⟨lo,false,rfl,⟨nofun,λh=>?_⟩,nofun⟩,rfl⟩;rw[J] at h;exact absurd (lGs h).1 ac
def FB (l:List Nat):(dO l).flatMap IV.cells=dO l:=by
 induction l with
 | nil=>rfl
 | cons a l D =>
  show IV.cells _++(dO l).flatMap IV.cells=_;rw[D];rfl
def zy (l:List Nat):∀y∈dO l,fits false 1 y=true:=λy D=>by
 obtain⟨n,_,rfl⟩:=dH.1 D;simp[fits,IV.one]
def vg (l:List Nat)(st:ISt)(r:IV)(st':ISt):Prop:=(∃t,r=.sl t (dO l)/\okEs t 1)/\st'=st
def FC {f:FuncId}{args:List IV}{l:List Nat}{st:ISt}(hl:l.length<=140737488355328)
  (h:ICall prog gl f args st (λr st'=>vg l st r st'\/∃g cap cs,st g=none/\r=.raw (.slice (some ⟨g,0,none⟩) l.length cap)/\st'=st.put g (some (.box cs))/\l.length<=cap/\cap<=cs.length/\cs.take l.length=dO l)):ICall prog gl f args st (vg l st):=by
 refine si (h.mono λr st' D=>?_);rcases D with D|⟨g,cap,cs,h1,rfl,rfl,h2,J,G⟩
 ·exact .inl D
 ·exact .inr ⟨g,l.length,cap,cs,1,dO l,h1,rfl,rfl,fM l,hl,h2,by omega,by rw[ew,G,FB],λz E=>Fy (zy l z E),⟨_,rfl,.inr rfl⟩,rfl⟩
def FD (T:Gt gl)(a b:List Nat)(ta O:Tag)(hta:okEs ta 1)(am:okEs O 1)(hl:a.length+b.length<=1000000)(st:ISt) :
  ICall prog gl 203 [.sl ta (dO a),.sl O (dO b)] st (vg (sdN (a++b)) st):=by
 have ac:=sn (a++b);rw[lLa] at ac;have G:catL [(ta,dO a),(O,dO b)]=dO (a++b):=by simp[catL,zx]
 have D:(catL [(ta,dO a),(O,dO b)]).length=(a++b).length:=by rw[G,fM]
 refine FC gl (by omega) ?_;refine iI func203 ?_;simp only[go_sem,zE,zA,zM,zL,reduceCtorEq,fits];refine fO rfl ?_;refine (N0 gl [(ta,dO a),(O,dO b)] _ (.inr rfl) (λp hp y hy=>?_) (by rw[D,lLa];omega) _).mono ?_
 ·rcases dF.1 hp with rfl|hp
  ·exact zy a y hy
  ·obtain rfl:=dR.1 hp;exact zy b y hy
 ·rintro _ _ (⟨t,rfl,ht,hn,rfl⟩|⟨g,cap,cs,hg,h1,h2,h3,rfl,rfl⟩)
  ·have ah:a++b=[]:=ev (by rw[<- D,hn];rfl);rw[ah];simp only[go_sem,zA];refine (Fv gl t ht _).q ?_;simp only[go_sem,zE,zA];refine (Fx gl t ht _).mono ?_;rintro _ _ ⟨⟨t',rfl,ab⟩,rfl⟩;simp only[go_sem];exact c_ (.inl ⟨⟨t',rfl,.inl ab⟩,rfl⟩)
  ·rw[D] at h1 h3;rw[G,FB] at h3;rw[D];have ag:cs=dO (a++b)++cs.drop (a++b).length:=by rw[<- h3,eA]
   have J:=Fu gl T (a++b) (cs.drop (a++b).length) g cap (st.put g (some (.box cs))) (by rw[lLa];omega) (by rw[b_,<- ag]);simp only[go_sem,zA];refine J.mono ?_;rintro _ _ ⟨rfl,m,hp,hs,rfl⟩;have hml:=hp.length_eq;have E:=Fw gl m (cs.drop (a++b).length) (by rw[hml,lLa];omega) g cap (by rw[hml];exact h1) ((st.put g (some (.box cs))).put g (some (.box (dO m++cs.drop (a++b).length)))) (b_ ..);rw[hml] at E;simp only[go_sem,zE,zA];refine E.mono ?_;rintro _ _ ⟨aj,rfl,rfl,ae,aa,af⟩;rw[Fi hp hs] at aa af ⊢;rw[eN,eN];simp only[go_sem];refine c_ (.inr ⟨g,cap,aj,hg,rfl,rfl,by omega,?_,aa⟩);rw[ae,lLa,fM,gz,hml];omega
def OwnI (st:ISt)(l:List Nat)(x:IV)(st':ISt):Prop:=(l=[]/\x=()/\st'=st) \/
 ∃g cap cs,l≠[]/\st g=none/\l.length<=cap/\cap<=cs.length/\cs.take l.length=dO l/\x=.raw (.slice (some ⟨g,0,none⟩) l.length cap)/\st'=st.put g (some (.box cs))
def N2 {st:ISt}{g D:Nat}{o o':Option IObj}(E:st g=none):((st.put g o).put g none).put D o'=st.put D o':=by
 funext c;simp only[ISt.put_apply];split
 ·rfl
 ·split
  ·subst_vars;exact E.symm
  ·rfl
def N3 {st:ISt}{g D:Nat}{o:Option IObj}(E:st g=none)(h:D=g\/(st.put g o) D=none):st D=none:=by
 rcases h with rfl|h
 ·exact E
 ·rw[ISt.put_apply] at h;split at h
  ·rename_i G;rw[G];exact E
  ·exact h
abbrev spI (ca:Nat)(tw:Tag)(xw:List IV)(m:Nat):IV:=.cptr (.agg [.raw (.int .u8 (ca:Int)),.sl tw xw,.raw (.map (some m))])
def FG (T:Gt gl)(ca m:Nat)(W:List Fm)(tw:Tag)(xw:List IV)(ak:okEs tw 4)(aj:IsFms W xw)(hW:Srt W)(aQ:W.length<=1000000)(l:List Fm)(tg:Tag)(xs:List IV)(al:okEs tg 4)(hx:IsFms l xs)(hl:l.length<=1000000)(au:∀f∈l,f∈W)(st:ISt) :
  ICall prog gl 127 [spI ca tw xw m,.sl tg xs] st (vg (l8 W l) st):=by
 have aL:(l8 W l).length<=l.length:=by
  have:=sn (l.map (noW W))
  rwa [dP] at this
 refine FC gl (by omega) ?_;refine ICall.intro (c:=cf prog gl [29] []) func127 rfl (by show _<=35;simp) (by kernel_rfl) ?_;simp only[go_sem,zE,hx.len];intro _;refine dt l.length (λk fr st' ds=>(∃x,fr 5=.iv x/\OwnI st ((l.take k).map (noW W)) x st')/\fr 0=(spI ca tw xw m)/\fr 10=.iv (.sl tg xs)/\fr 11=l.length/\fr 12=(k:Int)/\ds=[]) ?_ ?_ ?_
 ·simp only[go_sem,zE,reduceCtorEq];exact⟨⟨_,rfl,.inl ⟨rfl,rfl,rfl⟩⟩,rfl⟩
 ·rintro k fr ai _ G ⟨⟨x,f5,E⟩,f0,f10,f11,f12,rfl⟩;obtain⟨a,ha⟩:=dD G;obtain⟨y,ao,ac⟩:=hx.get ha;have az:=au a (lMg ha);have ab:=λst=>N1 gl W tw xw ak aj hW (by omega) a y ac st;obtain⟨y1,y2,y3,y4,y5,y6,rfl⟩:=ac.agg;simp only[go_sem,zE,zB,zA,zL,reduceCtorEq,f0,f10,f11,f12,lt_i G,dB al,iNn,ao,fits];refine (ab _).mono ?_;rintro _ aJ ⟨⟨i,b,rfl,ay,ax⟩,rfl⟩;obtain rfl:b=true:=ay.2 az;have hi:=NT hW (ax rfl);have D:(l.take (k+1)).map (noW W)=(l.take k).map (noW W)++[i]:=by rw[dM ha,eQ,<- hi];rfl
  have aN:((l.take k).map (noW W)).length=k:=by rw[dP,dU];omega
  rcases E with⟨h0,rfl,rfl⟩|⟨g,cap,cs,h0,J,h1,h2,h3,rfl,rfl⟩
  ·simp only[go_sem,zE,zA,zM,zL,f5,fits,eh];intro g cap;refine d_ λJ=>?_;obtain⟨J,af⟩:=J;simp only[go_sem,zE,reduceCtorEq,f0,f10,f11,f12,dL G (by omega)];refine⟨_,rfl,.inr ⟨g,cap,_,?_,J,?_,?_,?_,?_,rfl⟩⟩
   ·rw[D];simp
   ·rw[D,h0];exact af
   ·rw[lLa,gA];show cap<=1+(cap-1)*1;omega
   ·rw[D,h0];rfl
   ·rw[D,h0];rfl
  ·simp only[go_sem,zE,zA,zM,zL,f5,fits,eh];refine kN _ _ _ (b_ ..) (by simp[fits,IV.one]) ⟨by show (_+1)*8<=_;omega,by show _+1<=_;omega⟩ ⟨h1,by simpa using h2⟩ (by simp[IV.cells]) ?_;intro g' ag cs' av q1 q2 q3;simp only[ew] at q2 q3;rw[N2 J];simp only[go_sem,zE,reduceCtorEq,f0,f10,f11,f12,dL G (by omega)];refine⟨_,rfl,.inr ⟨g',ag,cs',?_,N3 J av,?_,q2,?_,?_,rfl⟩⟩
   ·rw[D];simp
   ·rw[D,lLa];exact q1
   ·rw[D,lLa,zx,<- h3];exact q3
   ·rw[D,lLa];rfl
 ·rintro fr ai _ ⟨⟨x,f5,E⟩,f0,f10,f11,f12,rfl⟩;rw[lTl] at E;rcases E with⟨h0,rfl,rfl⟩|⟨g,cap,cs,h0,J,h1,h2,h3,rfl,rfl⟩
  ·have hn:l8 W l=[]:=by unfold l8;rw[h0];rfl
   rw[hn];simp only[go_sem,zE,zA,f5,f11,f12,dS (nLi _)];refine (Fv gl _ rfl _).q ?_;simp only[go_sem,zE,zA,f5];refine (Fx gl _ rfl _).mono ?_;rintro _ _ ⟨⟨t',rfl,am⟩,rfl⟩;simp only[go_sem];exact c_ (.inl ⟨⟨t',rfl,.inl am⟩,rfl⟩)
  ·have aG:(l.map (noW W)).length=l.length:=dP ..;have aw:cs=dO (l.map (noW W))++cs.drop (l.map (noW W)).length:=by rw[<- h3,eA]
   have aa:=Fu gl T (l.map (noW W)) (cs.drop (l.map (noW W)).length) g cap (st.put g (some (.box cs))) (by omega) (by rw[b_,<- aw]);simp only[go_sem,zE,zA,f5,f11,f12,dS (nLi _)];refine aa.mono ?_;rintro _ _ ⟨rfl,q,hp,hs,rfl⟩;have hml:=hp.length_eq;have O:=Fw gl q (cs.drop (l.map (noW W)).length) (by omega) g cap (by omega) ((st.put g (some (.box cs))).put g (some (.box (dO q++cs.drop (l.map (noW W)).length)))) (b_ ..);rw[hml] at O;simp only[go_sem,zE,zA,f5];refine O.mono ?_;rintro _ _ ⟨aC,rfl,rfl,an,ae,aq⟩;rw[Fi hp hs] at ae aq ⊢;rw[eN,eN];simp only[go_sem];refine c_ (.inr ⟨g,cap,aC,J,rfl,rfl,?_,?_,ae⟩)
   ·change (sdN (l.map (noW W))).length<=cap;omega
   ·rw[an,lLa,fM,gz,hml];omega
def IsLn (ln:Ln)(x:IV):Prop:=∃t1 t2,x=.agg [.sl t1 (dO ln.1),.sl t2 (dO ln.2)]/\okEs t1 1/\okEs t2 1
def vh (T:Gt gl)(ca m:Nat)(W:List Fm)(tw:Tag)(xw:List IV)(E:okEs tw 4)(D:IsFms W xw)(O:Srt W)(J:W.length<=1000000)(s:Sq)(x:IV)(hx:IsSq s x)(hl:s.l.length<=1000000/\s.r.length<=1000000)(G:InW W (s.l,s.r))(st:ISt) :
  ICall prog gl 91 [spI ca tw xw m,x] st (λr st'=>IsLn (lp W (s.l,s.r)) r/\st'=st):=by
 obtain⟨t1,x1,t2,x2,rfl,e1,i1,e2,i2⟩:=hx;have h1:=λst=>FG gl T ca m W tw xw E D O J s.l t1 x1 e1 i1 hl.1 G.1 st;have h2:=λst=>FG gl T ca m W tw xw E D O J s.r t2 x2 e2 i2 hl.2 G.2 st;refine ICall.intro (c:=cf prog gl [] [(1,[0,1,2,4,5,6,3,7,8,9])]) func91 rfl (by show _<=14;simp) (by kernel_rfl) ?_;simp only[go_sem,zE,zA,reduceCtorEq];refine (h1 _).mono ?_;rintro _ _ ⟨⟨t3,rfl,e3⟩,rfl⟩;simp only[go_sem,zE,zA];refine (h2 _).mono ?_;rintro _ _ ⟨⟨t4,rfl,e4⟩,rfl⟩;simp only[go_sem,zE,zA,zL,fits];exact c_ ⟨⟨t3,t4,rfl,e3,e4⟩,rfl⟩
end Go.Proofs.Tryz
namespace Go.Proofs.Tryz
open Go Go.Iv
def N4 {ca:Nat}(hc:ca≠3)(f:Fm):f.ok=true->opsB ca f=true->PF f:=by
 refine uX (p:=λf=>f.ok=true->opsB ca f=true->PF f) (λo n us sub ih h1 h2=>?_) f;simp only[Fm.ok,bAt] at h1;obtain⟨⟨D,_⟩,ab⟩:=h1;simp only[opsB,bAt,gL,dTe,a_ hc] at h2;obtain⟨⟨⟨ah,ag⟩,G⟩,J⟩:=h2;have G:us=[]:=List.isEmpty_iff.1 (G.resolve_left hc);subst G;have E:∀a∈sub,PF a:=by
  have key:∀l:List Fm,(∀a∈l,a∈sub)->iU l=true->iw ca l=true->∀a∈l,PF a:=λl=>by
   induction l with
   | nil=>intro _ _ _ a O;cases O
   | cons b l aa =>
    intro hm h1 h2 a O;simp only[iU,iw,bAt] at h1 h2;rcases dF.1 O with rfl|O
    ·exact ih a (hm a (.head _)) h1.1 h2.1
    ·exact aa (λx hx=>hm x (.tail _ hx)) h1.2 h2.2 a O
  exact key sub (λ_ h=>h) ab J
 have ho:o=1\/o=2\/o=3\/o=4\/o=5\/o=6\/o=7:=by omega
 rcases ho with rfl|rfl|rfl|rfl|rfl|rfl|rfl<;>simp only[gB,bAt,dTe] at D
 ·obtain rfl:sub=[]:=ev D.2;exact .atom n
 ·obtain rfl:sub=[]:=ev D.2;rw[D.1.1];exact .fls
 ·match sub,D.2 with
  | [a],_=>rw[D.1.1];exact .neg (E a (.head _))
 all_goals
  match sub,D.2 with
  | [a,b],_=>rw[D.1.1];exact .bin (by omega) (by omega) (E a (.head _)) (E b (.tail _ (.head _)))
def lr {ca:Nat}(hc:ca≠3){f:Fm}(h:fmB ca f=true):PF f:=by
 unfold fmB Fm.right at h;simp only[bAt] at h;exact N4 hc f h.1.1.1 h.2
def FH {ca:Nat}{n:ByteArray}{us:List Tm}{a:Fm}(h:fmB ca (.mk 3 n us [a])=true):fmB ca a=true:=by
 unfold fmB Fm.right at *;simp only[bAt,dTe,Fm.ok,iU,opsB,iw,Fm.size,dV,Fm.deep,fX] at *;obtain⟨⟨⟨⟨_,J,_⟩,E⟩,D⟩,_,G,_⟩:=h;have E:=fe E;have D:=fe D;exact⟨⟨⟨J,by omega⟩,by omega⟩,G⟩
def FI {ca o:Nat}(ho:o≠3/\4<=o/\o<=7){n:ByteArray}{us:List Tm}{a b:Fm}(h:fmB ca (.mk o n us [a,b])=true):fmB ca a=true/\fmB ca b=true/\fmB ca (imF a b)=true/\fmB ca (imF b a)=true:=by
 have key:∀k,gB k noN 0 2=true↔k=4\/k=5\/k=6\/k=7\/k=14:=λk=>by
  unfold gB;split<;>simp_all
 unfold fmB Fm.right at *;simp only[bAt,dTe,Fm.ok,iU,opsB,iw,Fm.size,dV,Fm.deep,fX,jq,el,fB,dX,ee,dY,Nat.reduceAdd,List.isEmpty_nil,Bool.or_true] at *;have h6:gB 6 noN 0 2=true:=(key 6).2 (by omega);obtain⟨⟨⟨⟨⟨_,_⟩,O,J,_⟩,k3⟩,k4⟩,⟨⟨k5,k6⟩,k7⟩,G,E,_⟩:=h;have D:6<=(if ca=3 then 9 else 7):=by split<;>omega
 have k3:=fe k3;have k4:=fe k4;exact⟨⟨⟨⟨O,by omega⟩,by omega⟩,G⟩,⟨⟨⟨J,by omega⟩,by omega⟩,E⟩,⟨⟨⟨⟨⟨h6,trivial⟩,O,J,trivial⟩,by omega⟩,dEt (by omega)⟩,⟨⟨by omega,D⟩,trivial⟩,G,E,trivial⟩,⟨⟨⟨⟨⟨h6,trivial⟩,J,O,trivial⟩,by omega⟩,dEt (by omega)⟩,⟨⟨by omega,D⟩,trivial⟩,E,G,trivial⟩⟩
def ju (j:Bool)(op:Nat)(r:Bool):List Nat :=
 if op=3 then (if r=true then [4] else [3]) else if op=4 then (if r=true then [6] else [5])
 else if op=5 then (if r=true then (if j=true then [8,18] else [8]) else [7]) else if op=6 then (if r=true then [10] else [9])
 else if op=7 then (if r=true then [12] else [11]) else []
abbrev calJ (ca:Nat):Bool:=decide (ca=2)
abbrev tmZ:Tm:=.mk false noN []
def sqOf (p:Sn):Sq:=⟨p.1,p.2⟩
def vj {ca:Nat}{f:Fm}(D:PF f)(r:Bool):(addF (calJ ca) f r).map (·.1)=ju (calJ ca) f.op r:=by
 cases D with
 | atom n=>simp[addF,ju,Fm.op]
 | fls=>simp[addF,ju,Fm.op]
 | neg h=>cases r<;>simp[addF,ju,Fm.op]
 | @bin o a b G E _ _ =>
  obtain rfl|rfl|rfl|rfl:o=4\/o=5\/o=6\/o=7:=by omega
  all_goals cases r<;>simp[addF,ju,Fm.op]
  by_cases h:ca=2<;>simp[h]
def FJ {ca:Nat}(hc:ca=1\/ca=2){f:Fm}(h:fmB ca f=true){r:Bool}{t:Nat×List Sn}(ht:t∈addF (calJ ca) f r):nY ca t.1 f tmZ noN=(t.2.map sqOf,0):=by
 have E:ca≠3:=by omega
 have G:gR ca=true:=by unfold gR;rcases hc with rfl|rfl<;>rfl
 have key:∀R:Rw,rowS ca t.1=some R->f.op=R.op->R.asks=0->nY ca t.1 f tmZ noN=(addS ca t.1 f ((f.subs[0]?).getD fm0) ((f.subs[1]?).getD fm0),0):=λR h1 h2 J=>by
  unfold nY;rw[G,h1];exact Eb h (.inr h2) |>.trans (by rw[cX J])
 have D:=lr E h;cases D with
 | atom n=>simp[addF] at ht
 | fls=>simp[addF] at ht
 | neg O =>
  cases r<;>simp[addF] at ht<;>subst ht<;>rw[key _ (by unfold rowS;rcases hc with rfl|rfl<;>rfl) rfl rfl]<;>rfl
 | @bin o a b h4 h7 _ _ =>
  obtain rfl|rfl|rfl|rfl:o=4\/o=5\/o=6\/o=7:=by omega
  all_goals rcases hc with rfl|rfl<;>cases r<;>simp[addF,calJ] at ht
  all_goals first
   | (subst ht;rw[key _ rfl rfl rfl];rfl)
   | (rcases ht with rfl|rfl<;>(rw[key _ rfl rfl rfl];rfl))
def FK {ca:Nat}(hc:ca≠3){f:Fm}(h:fmB ca f=true){j r:Bool}{t:Nat×List Sn}(ht:t∈addF j f r):∀p∈t.2,(∀g∈p.1,fmB ca g=true)/\∀g∈p.2,fmB ca g=true:=by
 have D:=lr hc h;cases D with
 | atom n=>simp[addF] at ht
 | fls=>simp[addF] at ht
 | neg ha =>
  have:=FH h;cases r<;>simp[addF] at ht<;>subst ht<;>simp[this]
 | @bin o a b h4 h7 _ _ =>
  obtain⟨G,E,O,J⟩:=FI ⟨by omega,h4,h7⟩ h;obtain rfl|rfl|rfl|rfl:o=4\/o=5\/o=6\/o=7:=by omega
  all_goals cases r<;>cases j<;>simp[addF] at ht
  all_goals first|(subst ht;simp[G,E,O,J])|(rcases ht with rfl|rfl<;>simp[G,E])
structure SpOk (ca:Nat)(W:List Fm):Prop where
 cal:ca=1\/ca=2
 srt:Srt W
 len:W.length<=1000000
 fm:∀f∈W,fmB ca f=true
 full:Full W
def SpOk.sub {ca:Nat}{W:List Fm}(h:SpOk ca W){f:Fm}(D:f∈W){j r:Bool}{t:Nat×List Sn}(ht:t∈addF j f r){p:Sn}(hp:p∈t.2):InW W p:=h.full f D j r t ht p hp
def SpOk.pf {ca:Nat}{W:List Fm}(h:SpOk ca W){f:Fm}(D:f∈W):PF f:=lr (by have:=h.cal;omega) (h.fm f D)
def SpOk.size {ca:Nat}{W:List Fm}(h:SpOk ca W){f:Fm}(D:f∈W):f.size<=400:=by
 have:=h.fm f D;unfold fmB Fm.right at this;simp only[bAt,dTe] at this;exact this.1.1.2
end Go.Proofs.Tryz
namespace Go.Proofs.Tryz
open Go Go.Iv
set_option maxRecDepth 4000
variable (gl:Nat->Option IV)
def u8I (l:List Nat):List IV:=l.map λ(n:Nat)=>.raw (.int .u8 (n:Int))
def N5 (a b:Operand):la 2 [(0,a),(1,b)]=true:=rfl
def N6 (ca m:Nat)(tw:Tag)(xw:List IV)(op:Nat)(r:Bool)(st:ISt) :
  ICall prog gl 201 [spI ca tw xw m,.raw (.int .u8 (op:Int)),r] st (λx st'=>(∃t,x=.sl t (u8I (ju (calJ ca) op r))/\okEs t 1)/\st'=st):=by
 have d:∀c:Nat,decide ((op:Int)=(c:Int))=decide (op=c):=λc=>fH.2 (by omega);have d3:decide ((op:Int)=3)=decide (op=3):=d 3;have d4:decide ((op:Int)=4)=decide (op=4):=d 4;have d5:decide ((op:Int)=5)=decide (op=5):=d 5;have d6:decide ((op:Int)=6)=decide (op=6):=d 6;have d7:decide ((op:Int)=7)=decide (op=7):=d 7;have dc:decide ((ca:Int)=2)=calJ ca:=fH.2 (by omega);unfold ju;refine iI func201 ?_;by_cases D:op=3
 ·rw[cX D];cases r
  ·simp only[go_sem,zE,zM,zL,reduceCtorEq,d3,dEt D,fits,eh];exact c_ ⟨⟨_,rfl,.inr rfl⟩,rfl⟩
  ·simp only[go_sem,zE,zM,zL,d3,dEt D,fits,eh];exact c_ ⟨⟨_,rfl,.inr rfl⟩,rfl⟩
 ·by_cases E:op=4
  ·rw[a_ D,cX E];cases r
   ·simp only[go_sem,zE,zM,zL,reduceCtorEq,d3,d4,dEf D,dEt E,fits,eh];exact c_ ⟨⟨_,rfl,.inr rfl⟩,rfl⟩
   ·simp only[go_sem,zE,zM,zL,d3,d4,dEf D,dEt E,fits,eh];exact c_ ⟨⟨_,rfl,.inr rfl⟩,rfl⟩
  ·by_cases G:op=5
   ·rw[a_ D,a_ E,cX G];cases r
    ·simp only[go_sem,zE,zM,zL,reduceCtorEq,d3,d4,d5,dEf D,dEf E,dEt G,fits,eh];exact c_ ⟨⟨_,rfl,.inr rfl⟩,rfl⟩
    ·cases hj:calJ ca
     ·simp only[go_sem,zE,zM,zL,reduceCtorEq,d3,d4,d5,dEf D,dEf E,dEt G,fits,eh,dc,hj];exact c_ ⟨⟨_,rfl,.inr rfl⟩,rfl⟩
     ·simp only[go_sem,zE,zM,zL,reduceCtorEq,d3,d4,d5,dEf D,dEf E,dEt G,fits,N5,dc,hj];exact c_ ⟨⟨_,rfl,.inr rfl⟩,rfl⟩
   ·by_cases J:op=6
    ·rw[a_ D,a_ E,a_ G,cX J];cases r
     ·simp only[go_sem,zE,zM,zL,reduceCtorEq,d3,d4,d5,d6,dEf D,dEf E,dEf G,dEt J,fits,eh];exact c_ ⟨⟨_,rfl,.inr rfl⟩,rfl⟩
     ·simp only[go_sem,zE,zM,zL,d3,d4,d5,d6,dEf D,dEf E,dEf G,dEt J,fits,eh];exact c_ ⟨⟨_,rfl,.inr rfl⟩,rfl⟩
    ·by_cases O:op=7
     ·rw[a_ D,a_ E,a_ G,a_ J,cX O];cases r
      ·simp only[go_sem,zE,zM,zL,reduceCtorEq,d3,d4,d5,d6,d7,dEf D,dEf E,dEf G,dEf J,dEt O,fits,eh];exact c_ ⟨⟨_,rfl,.inr rfl⟩,rfl⟩
      ·simp only[go_sem,zE,zM,zL,d3,d4,d5,d6,d7,dEf D,dEf E,dEf G,dEf J,dEt O,fits,eh];exact c_ ⟨⟨_,rfl,.inr rfl⟩,rfl⟩
     ·rw[a_ D,a_ E,a_ G,a_ J,a_ O];simp only[go_sem,zE,d3,d4,d5,d6,d7,dEf D,dEf E,dEf G,dEf J,dEf O];exact c_ ⟨⟨_,rfl,.inl rfl⟩,rfl⟩
@[go_sem] def V7:mapI prog 202=some (.pl,.sl ⟨true,.nil,0⟩ []):=by kernel_rfl
def AllR {α:Type}(R:α->IV->Prop)(l:List α)(xs:List IV):Prop:=xs.length=l.length/\∀(i:Nat) (a:α),l[i]?=some a->∃x,xs[i]?=some x/\R a x
def AllR.nil {α:Type}{R:α->IV->Prop}:AllR R [] []:=⟨rfl,λi a h=>by simp at h⟩
def AllR.snoc {α:Type}{R:α->IV->Prop}{l:List α}{xs:List IV}{a:α}{x:IV}(h:AllR R l xs)(J:R a x):AllR R (l++[a]) (xs++[x]):=by
 refine⟨by simp[h.1],λi b D=>?_⟩;rcases fN i l.length with E|E
 ·rw[fg E] at D;rw[fg (by rw[h.1];exact E)];exact h.2 i b D
 ·rw[fD E] at D;rw[fD (by rw[h.1];exact E),h.1];cases G:i-l.length with
  | zero=>rw[G] at D;cases D;exact⟨x,rfl,J⟩
  | succ n=>rw[G] at D;simp at D
def IsEx (e:Ex)(x:IV):Prop:=∃t1 t2,x=.agg [.sl t1 (dO e.1.1),.sl t2 (dO e.1.2),(e.2.1:Int),(e.2.2:Int)]/\okEs t1 1/\okEs t2 1
abbrev Tn:=Nat×List Ex
def IsTn (t:Tn)(x:IV):Prop:=∃D ys,x=.agg [.raw (.int .u8 (t.1:Int)),.sl D ys]/\okEs D 4/\AllR IsEx t.2 ys
def vk (l:List Tn)(x:IV):Prop:=∃t ys,x=.sl t ys/\okEs t 2/\AllR IsTn l ys
noncomputable def gi (W:List Fm)(j:Bool)(f:Fm)(r:Bool):List Tn:=(addF j f r).map λt=>(t.1,t.2.map (exW W))
def plV (i:Nat)(r:Bool):Value:=.agg #[.int .i64 (i:Int),.bool r]
def CacheOk (ca:Nat)(W:List Fm)(es:List (Value×IV)):Prop:=∀p∈es,∃i r f,p.1=plV i r/\W[i]?=some f/\vk (gi W (calJ ca) f r) p.2
def FL {i:Nat}{r:Bool}{x:IV}:∀ {es:List (Value×IV)},f_ (plV i r) es=some x->(∀p∈es,∃(i:Nat) (r:Bool),p.1=plV i r)->(plV i r,x)∈es
 | [],h,_=>by cases h
 | (k,v)::es,h,D=>by
  obtain⟨E,r',G⟩:=D _ (.head _);simp only at G;subst G;simp only[f_] at h;have J:h_ (plV i r) (plV E r')=(decide ((i:Int)=E)&&decide (r=r')):=rfl;rw[J] at h;by_cases hc:(i:Int)=E/\r=r'
  ·obtain⟨h1,h2⟩:=hc;obtain rfl:i=E:=by omega
   subst h2;simp at h;subst h;exact .head _
  ·rw[a_ (by simpa using hc)] at h;exact .tail _ (FL h λp hp=>D p (.tail _ hp))
def FM {k:Value}{v:IV}:∀ {es:List (Value×IV)} {p:Value×IV},p∈updI k v es->p=(k,v)\/p∈es
 | [],p,h=>.inl (dR.1 h)
 | (x,u)::es,p,h=>by
  simp only[updI] at h;split at h
  ·rcases dF.1 h with h|h
   ·exact .inl h
   ·exact .inr (.tail _ h)
  ·rcases dF.1 h with h|h
   ·exact .inr (by rw[h];exact .head _)
   ·exact (FM h).imp id (.tail _)
def CacheOk.upd {ca:Nat}{W:List Fm}{es:List (Value×IV)}(h:CacheOk ca W es){i:Nat}{r:Bool}{f:Fm}{x:IV}(E:W[i]?=some f)(D:vk (gi W (calJ ca) f r) x):CacheOk ca W (updI (plV i r) x es):=λp hp=>by
 rcases FM hp with rfl|hp
 ·exact⟨i,r,f,rfl,E,D⟩
 ·exact h p hp
def N7 {st st':ISt}{m:Nat}{o:Option IObj}(h:subSt st st'):subSt (st.put m o) (st'.put m o):=λc x hc=>by
 rw[ISt.put_apply] at hc ⊢;split
 ·rename_i D;rw[cX D] at hc;exact hc
 ·rename_i D;rw[a_ D] at hc;exact h c x hc
def FN {j r:Bool}{f:Fm}{t:Nat×List Sn}(h:t∈addF j f r):∀p∈t.2,p.1.length<=2/\p.2.length<=2:=by
 unfold addF at h;split at h<;>(try split at h)<;>simp at h<;>first|(subst h;simp)|(rcases h with rfl|rfl<;>simp)
def zz {j r:Bool}{f:Fm}{t:Nat×List Sn}(h:t∈addF j f r):t.2.length<=2:=by
 unfold addF at h;split at h<;>(try split at h)<;>simp at h<;>first|(subst h;simp)|(rcases h with rfl|rfl<;>simp)
def FP {f:Fm}{n:Nat}{l:List IV}(h:IsFm f (.agg (.raw (.int .u8 (n:Int))::l))):n=f.op:=by
 obtain⟨o,G,us,sub⟩:=f;obtain⟨t,xs,E,ys,D,_⟩:=h.mk;simp only[IV.agg.injEq,jF,IV.raw.injEq,Value.int.injEq,true_and] at D;exact Int.ofNat.inj D.1
def N8 (G:Gl gl)(T:Gt gl)(ca m:Nat)(W:List Fm)(hS:SpOk ca W)(tw:Tag)(xw:List IV)(au:okEs tw 4)(aq:IsFms W xw)(i:Nat)(r:Bool)(f:Fm)(hf:W[i]?=some f)(es:List (Value×IV))(ag:CacheOk ca W es)(st:ISt)(hm:st m=some (.map .pl es)) :
  ICall prog gl 175 [spI ca tw xw m,.agg [.raw (.int .i64 (i:Int)),.raw (.bool r)]] st (λx st'=>vk (gi W (calJ ca) f r) x/\∃aC,CacheOk ca W aC/\st'=st.put m (some (.map .pl aC))):=by
 have bj:i<W.length:=(lGs hf).1;have aX:=hS.len;have af:=lMg hf;have aV:=hS.fm f af;obtain⟨y,aT,hy⟩:=aq.get hf;have ax:fK .pl (plV i r)=true:=by
  show (decide (-9223372036854775808<=(i:Int))&&decide ((i:Int)<=9223372036854775807))=true;rw[bAt,dTe,dTe];omega
 refine ICall.intro (c:=cf prog gl [] [(14,[0,1,2,3,5,6,7,8,9,10,4,11,12,13,14,15])]) func175 rfl (by show _<=94;simp) (by kernel_rfl) ?_;have aU:∀o:Option IV,f_ (.agg #[.int .i64 (i:Int),.bool r]) es=o->∀x,o=some x->vk (gi W (calJ ca) f r) x:=λo ho x hx=>by
  subst hx;have aw:=FL (i:=i) (r:=r) ho λp hp=>by obtain⟨i',r',f',h1,_⟩:=ag p hp;exact⟨i',r',h1⟩
  obtain⟨i',r',f',h1,h2,h3⟩:=ag _ aw;have h1:plV i r=plV i' r':=h1;simp only[plV,Value.agg.injEq,Array.mk.injEq,jF,Value.int.injEq,true_and,Value.bool.injEq,and_true] at h1;obtain⟨h4,rfl⟩:=h1;obtain rfl:i=i':=by omega
  rw[hf] at h2;cases h2;exact h3
 simp only[go_sem,zE,zA,zL,reduceCtorEq,fits,hm,show fK .pl (.agg #[.int .i64 (i:Int),.bool r])=true from ax];cases hq:f_ (.agg #[.int .i64 (i:Int),.bool r]) es with
 | some x =>
  obtain⟨t,ys,rfl,ht,hys⟩:=aU _ hq x rfl;simp only[go_sem,zE,lb,ez,Option.isSome_some];exact c_ ⟨⟨t,ys,rfl,ht,hys⟩,es,ag,(jy hm).symm⟩
 | none =>
  have aA:=vj (ca:=ca) (hS.pf af) r;have aB:(ju (calJ ca) f.op r).length=(addF (calJ ca) f r).length:=by rw[<- aA,dP]
  have bl:(addF (calJ ca) f r).length<=1000:=by
   rw[<- aB];unfold ju
   repeat' split
   all_goals simp
  have ae:=λst=>N6 gl ca m tw xw f.op r st;have az:=λrule st=>NC gl G T ca rule f y hy (by have:=hS.size af;omega) tmZ (.agg [.raw (.bool false),.raw (.string noN),.sl ⟨true,.nil,0⟩ []]) (by simp only[IsTm];exact⟨_,_,rfl,.inl rfl,by simp only[IsTms]⟩) (by decide) noN st;obtain⟨y1,y2,y3,y4,y5,y6,rfl⟩:=hy.agg;obtain rfl:y1=f.op:=FP hy;simp only[go_sem,zE,zB,zA,zL,reduceCtorEq,lb,fj,gn,fits,aT,dB au,iNn];refine (ae _).mono ?_;rintro _ st ⟨⟨tL,rfl,aK⟩,rfl⟩;simp only[go_sem,u8I,dP,aB];intro _;refine dt (addF (calJ ca) f r).length (λk fr st' ds=>(∃t ys,fr 5=.iv (.sl t ys)/\AllR IsTn ((gi W (calJ ca) f r).take k) ys/\own st' t k 2 st/\subSt st st')/\fr 0=.iv (spI ca tw xw m)/\fr 3=.box [.raw (.int .i64 (i:Int)),.raw (.bool r)] /\
   fr 7=.box [.raw (.int .u8 (f.op:Int)),.raw (.string y2),.sl y3 y4,.sl y5 y6]/\fr 39=.iv (.sl tL (u8I (ju (calJ ca) f.op r)))/\fr 40=.iv (.raw (.int .i64 (addF (calJ ca) f r).length))/\fr 41=.iv (.raw (.int .i64 (k:Int)))/\ds=[]) ?_ ?_ ?_
  ·simp only[go_sem,zE,reduceCtorEq,u8I];exact⟨⟨_,_,rfl,AllR.nil,own.nil _ _ _ _ _,subSt.refl _⟩,rfl⟩
  ·rintro k fr ao _ al ⟨⟨t,ys,f5,hys,E,D⟩,f0,f3,f7,f39,f40,f41,rfl⟩;obtain⟨J,ai⟩:=dD al;have htm:=lMg ai;have aL:(ju (calJ ca) f.op r)[k]?=some J.1:=by rw[<- aA,eB,ai];rfl
   have hu:(u8I (ju (calJ ca) f.op r))[k]?=some (.raw (.int .u8 (J.1:Int))):=by rw[u8I,eB,aL];rfl
   have aW:=FJ hS.cal aV htm;have aj:=λp hp=>hS.sub af htm (p:=p) hp;simp only[go_sem,zE,zA,zL,reduceCtorEq,f0,f7,f39,f40,f41,lt_i al,dB aK,iNn,hu,fits];refine (az J.1 _).mono ?_;rintro _ ao ⟨ta,xa,rfl,hta,ah,rfl⟩;rw[aW] at ah ⊢;simp only[go_sem,zE,zA,zL,show decide (((0:Nat):Int)=0)=true from rfl,fits];have aJ:xa.length=J.2.length:=by rw[ah.len,dP]
   have aN:=FN htm;have hp2:=zz htm;intro _;rw[aJ];refine dt J.2.length (λq fr st' ds=>(∃t2 zs,fr 12=.box [.raw (.int .u8 (J.1:Int)),.sl t2 zs]/\AllR IsEx ((J.2.map (exW W)).take q) zs/\own st' t2 q 4 st/\own st' t k 2 st/\subSt st st')/\fr 0=.iv (spI ca tw xw m)/\fr 3=.box [.raw (.int .i64 (i:Int)),.raw (.bool r)]/\fr 5=.iv (.sl t ys) /\
    fr 7=.box [.raw (.int .u8 (f.op:Int)),.raw (.string y2),.sl y3 y4,.sl y5 y6]/\fr 39=.iv (.sl tL (u8I (ju (calJ ca) f.op r)))/\fr 40=.iv (.raw (.int .i64 (addF (calJ ca) f r).length))/\fr 41=.iv (.raw (.int .i64 (k:Int))) /\
    fr 60=.iv (.sl ta xa)/\fr 61=.iv (.raw (.int .i64 J.2.length))/\fr 62=.iv (.raw (.int .i64 (q:Int)))/\ds=[]) ?_ ?_ ?_
   ·simp only[go_sem,zE,reduceCtorEq];refine⟨⟨_,_,rfl,AllR.nil,own.nil _ _ _ _ _,E,D⟩,f0,f3,f5,f7,f39,f40,f41,rfl⟩
   ·rintro q fr an _ hq ⟨⟨t2,zs,f12,hzs,ab,E,D⟩,f0,f3,f5,f7,f39,f40,f41,f60,f61,f62,rfl⟩;obtain⟨p,hp⟩:=dD hq;have aM:(J.2.map sqOf)[q]?=some (sqOf p):=by rw[eB,hp];rfl
    obtain⟨z,aG,hz⟩:=ah.get aM;have bc:=aN p (lMg hp);have aS:=λst=>vh gl T ca m W tw xw au aq hS.srt aX (sqOf p) z hz ⟨by show p.1.length<=_;omega,by show p.2.length<=_;omega⟩ (aj p (lMg hp)) st;obtain⟨t3,x3,t4,x4,rfl,e3,i3,e4,i4⟩:=hz;simp only[go_sem,zE,zB,zA,zL,reduceCtorEq,f0,f12,f60,f61,f62,lt_i hq,dB hta,iNn,aG,fits];refine (aS _).mono ?_;rintro _ an ⟨⟨t5,t6,rfl,e5,e6⟩,rfl⟩;simp only[go_sem,zE,zA,zM,zL,fits,i3.len,i4.len,eh];have aF:zs.length=q:=by rw[hzs.1,dU,dP];omega
    refine ij ab aF D rfl (by simp[fits,IV.one]) (by simp only;omega) (by omega) λaE am aa O ac=>?_;have ak:own am t k 2 st:=E.mono λg hg _=>ac g _ hg λn hn=>by cases hn
    simp only[go_sem,zE,zA,zL,reduceCtorEq,f0,f3,f5,f7,f12,f39,f40,f41,f60,f61,f62,dL hq (by omega)];refine⟨aE,_,rfl,?_,aa,ak,O⟩;rw[dM (show (J.2.map (exW W))[q]?=some (exW W p) by rw[eB,hp];rfl)];exact hzs.snoc ⟨t5,t6,rfl,e5,e6⟩
   ·rintro fr an _ ⟨⟨t2,zs,f12,hzs,ab,E,D⟩,f0,f3,f5,f7,f39,f40,f41,f60,f61,f62,rfl⟩;have aH:ys.length=k:=by
     rw[hys.1,dU];unfold gi;rw[dP];omega
    simp only[go_sem,zE,zA,zM,zL,f5,f12,f61,f62,dS (nLi _),fits,eh];refine ij E aH D rfl (by simp[fits,IV.one]) (by simp only;omega) (by omega) λt' am aa O ac=>?_;simp only[go_sem,zE,reduceCtorEq,f0,f3,f7,f39,f40,f41,dL al (by omega)];refine⟨t',_,rfl,?_,aa,O⟩;unfold gi;rw[dM (show ((addF (calJ ca) f r).map λt=>(t.1,t.2.map (exW W)))[k]?=some (J.1,J.2.map (exW W)) by rw[eB,ai];rfl)];refine hys.snoc ⟨t2,zs,rfl,ab.es,?_⟩;rw[show J.2.length=(J.2.map (exW W)).length from (dP ..).symm,lTl] at hzs;exact hzs
  ·rintro fr ao _ ⟨⟨t,ys,f5,hys,E,D⟩,f0,f3,f7,f39,f40,f41,rfl⟩;have aO:=D m _ hm;rw[show (addF (calJ ca) f r).length=(gi W (calJ ca) f r).length from (dP ..).symm,lTl] at hys;simp only[go_sem,zE,zA,zL,reduceCtorEq,f0,f3,f5,f40,f41,dS (nLi _),aO,show fK .pl (.agg #[.int .i64 (i:Int),.bool r])=true from ax,fits];exact eI (N7 D) ⟨⟨t,ys,rfl,E.es,hys⟩,_,ag.upd hf ⟨t,ys,rfl,E.es,hys⟩,rfl⟩
end Go.Proofs.Tryz
namespace Go.Iv
open Go
def N9 {st:ISt}{b:Nat}{cs:List IV}(h:st b=some (.box cs)):LendOk st (ISt.put (λ_=>none) b (some (.box cs))) (st.put b none):=by
 refine⟨λc o hc=>?_,λc o hc=>?_,λc cs' hc=>?_⟩
 ·rw[ISt.put_apply] at hc;split at hc
  ·rename_i D;rw[D,h];exact hc
  ·cases hc
 ·rw[ISt.put_apply] at hc;split at hc
  ·cases hc
  ·exact hc
 ·rw[ISt.put_apply] at hc ⊢;split at hc
  ·rename_i D;rw[cX D]
  ·cases hc
def vcF (c:Cf)(t:Nat):Nat->Code->Kc->Fr->ISt->List Dfd->Prop
 | 0,D,Q,fr,st,ds=>∃b y,fr t=.iv (.raw (.pointer (some ⟨b,0,none⟩)))/\st b=some (.box y.cells)/\vcC c D Q (fr.put t (.iv (.cptr (age y)))) (st.put b none) ds
 | n+1,.seq a b,Q,fr,st,ds=>vcC c a (seqK (vcF c t n b Q) Q) fr st ds
 | _,_,_,_,_,_=>False
@[go_sem ↓] def V8 {c:Cf}{t n:Nat}{a b:Code}{Q:Kc}{fr:Fr}{st:ISt}{ds:List Dfd}:vcF c t (n+1) (.seq a b) Q fr st ds=vcC c a (seqK (vcF c t n b Q) Q) fr st ds:=(rfl)
def Inv.frzAt {C:Cx}{X0 X:WS}{N:Nat}{fr:Fr}{ds:List Dfd}{a:Act}(h:Inv C X0 N X fr ds a){t b:Nat}{y:IV}(ht:t<N)(J:fr t=.iv (.raw (.pointer (some ⟨b,0,none⟩))))(hb:X.st b=some (.box y.cells)) :
  ∃X',X'.w=X.w/\X'.st=X.st.put b none/\Inv C X0 N X' (fr.put t (.iv (.cptr (age y)))) ds a:=by
 have k:=N9 hb;refine⟨X.lendS (ISt.put (λ_=>none) b (some (.box y.cells))) (X.st.put b none),rfl,rfl,?_⟩;have h1:=h.ext' (h.good.lendS_ext k) (h.good.lendS k);have hv:=h.fr.slot t;rw[J] at hv;have G:OI (ISt.put (λ_=>none) b (some (.box y.cells))) (.raw (.pointer (some ⟨b,0,none⟩))) (.cptr y):=.ptr b y y.cells (b_ ..) rfl λi r c E hc=>by
  rw[E] at hc;cases hc;exact .refl _
 have h2:=h1.put ht (G.v h.good k hv);have D:a.tmps.setIfInBounds t (tm a.tmps t)=a.tmps:=by
  refine Array.ext (by simp) λi h1 h2=>?_;rw[Array.getElem_setIfInBounds];split
  ·rename_i O;subst O;unfold tm;rw[lv,mB h2];rfl
  ·rfl
 rw[D] at h2;simpa only[age] using h2
def FQ {N:Nat}{c:Cf}{t:Nat}(ht:t<N){B:Nat}{X0:WS}{ro:Option Nat}{m:Nat}(G:c.rd=false->ro=none){Q:Kc}:∀(n:Nat) (D:Code) (X:WS) (fr:Fr) (ds:List Dfd) (a:Act),codeOk c N D=true →
  Inv (c.cx B) X0 N X fr ds a->vcF c t n D Q fr X.st ds->D.wpIn (eP ro) m c.P (PQ (c.cx B) X0 N Q) a X.w
 | 0,D,X,fr,ds,a,hd,O,h=>by
  obtain⟨b,y,h1,h2,h3⟩:=h;obtain⟨X',e1,e2,E⟩:=O.frzAt ht h1 h2;rw[<- e2] at h3;have:=tW D c B X0 ro m G Q X' _ ds a hd E h3;rw[e1] at this;exact this
 | n+1,.seq x y,X,fr,ds,a,hd,O,h=>by
  simp only[codeOk,bAt] at hd;refine wpIn_seq (fS (tW x c B X0 ro m G _ X fr ds a hd.1 O h) ?_);rintro e a' w' ⟨X',fr',J,rfl,E,hq⟩;cases e with
  | normal=>exact FQ ht G n y X' fr' J a' hd.2 E hq
  | _=>exact⟨X',fr',J,rfl,E,hq⟩
 | n+1,.skip,_,_,_,_,_,_,h=>h.elim
 | n+1,.region ..,_,_,_,_,_,_,h=>h.elim
 | n+1,.cond ..,_,_,_,_,_,_,h=>h.elim
 | n+1,.block ..,_,_,_,_,_,_,h=>h.elim
 | n+1,.loop ..,_,_,_,_,_,_,h=>h.elim
 | n+1,.exit ..,_,_,_,_,_,_,h=>h.elim
 | n+1,.label ..,_,_,_,_,_,_,h=>h.elim
 | n+1,.goto ..,_,_,_,_,_,_,h=>h.elim
 | n+1,.ret,_,_,_,_,_,_,h=>h.elim
 | n+1,.scope ..,_,_,_,_,_,_,h=>h.elim
 | n+1,.rangeFunc ..,_,_,_,_,_,_,h=>h.elim
 | n+1,.refuse ..,_,_,_,_,_,_,h=>h.elim
def ke {c:Cf}{t n:Nat}{f:FuncId}{fn:Func}{D:Code}{args:List IV}{st:ISt}{K:IV->ISt->Prop}(hf:c.P.funcs[f]?=some fn)(hb:fn.body=some D)
  (hN:args.length<=fn.ntmps) (ht:t<fn.ntmps) (hd:codeOk c fn.ntmps D=true) (h:vcF c t n D (bodyK c.P c.gl fn.results.toList K) (frOf args) st []):ICall c.P c.gl f args st K:=by
 intro B X rs O hst hv;subst hst;refine (callsIn_wide (n:=0)).1 (callsIn_of_wp_marks hf hb trivial ?_);have hs:=FQ (N:=fn.ntmps) ht (c:=c) (B:=B) (X0:=X) (ro:=none) (m:=0) (λ_=>rfl) n D X (frOf args) [] _ hd (Inv.start O hv hN) h;refine fS hs ?_;rintro e a' w' ⟨X',fr',E,rfl,J,G⟩;cases e with
 | normal=>exact pI E X' a' J G
 | ret=>exact pI E X' a' J G
 | _=>exact G.elim
end Go.Iv
namespace Go.Proofs.Tryz
open Go Go.Iv
set_option maxRecDepth 4000
variable (gl:Nat->Option IV)
def FR {c:Cf}{ops:Array Oper}{Q:Fr->ISt->List Dfd->Prop}{D:Array Bool}{ad:Ad}{fr:Fr}{st:ISt}{ds:List Dfd}(h:Q fr st ds):anyV c ops Q 0 D ad fr st ds:=λ_=>h
def su {c:Cf}{ops:Array Oper}{Q:Fr->ISt->List Dfd->Prop}{n:Nat}{D:Array Bool}{ad:Ad}{fr:Fr}{st:ISt}{ds:List Dfd}(i:Nat)(h:Region.ready .any ops D=[i])
  (hs:iS c ops.toList (opAt ops i) (anyV c ops Q n (D.setIfInBounds i true)) ad fr st ds):anyV c ops Q (n+1) D ad fr st ds:=by
 refine⟨λh0=>(by rw[h] at h0;cases h0),λj E=>?_⟩;rw[h,dR] at E;subst E;exact hs
def N_ {c:Cf}{ops:Array Oper}{Q:Fr->ISt->List Dfd->Prop}{n:Nat}{D:Array Bool}{ad:Ad}{fr:Fr}{st:ISt}{ds:List Dfd}(i k:Nat)(h:Region.ready .any ops D=[i,k])
  (hs:iS c ops.toList (opAt ops i) (anyV c ops Q n (D.setIfInBounds i true)) ad fr st ds) (E:iS c ops.toList (opAt ops k) (anyV c ops Q n (D.setIfInBounds k true)) ad fr st ds):anyV c ops Q (n+1) D ad fr st ds:=by
 refine⟨λh0=>(by rw[h] at h0;cases h0),λj G=>?_⟩;rw[h,dF,dR] at G;rcases G with rfl|rfl
 ·exact hs
 ·exact E
def oS (c:Cf)(ops:List Oper)(dst:Option Nat)(op:Op)(E:TypeId)(pos:String)(D:Array Edge)(K:Kt)(ad:Ad)(fr:Fr)(st:ISt)(ds:List Dfd):iS c ops ⟨dst,op,E,pos,D,none⟩ K ad fr st ds=vcOp c dst op K ad fr st ds:=rfl
def vm (fr:Fr)(d:Nat)(x y:SV):(fr.put d x).put d y=fr.put d y:=by
 funext s;simp only[Fr.put_apply];split<;>rfl
def zD {esc:List Nat}{ord:List (Nat×List Nat)}{frz:List Nat}{d D:Nat}{p:String}{Q:Fr->ISt->List Dfd->Prop}{fr:Fr}{st:ISt}(hd:d ∉ esc)(E:d≠D)(G:D ∉ esc)
  (h:∀b:Bool,Q ((fr.put d (.box [b])).put D b) st []) :
  lN (cf prog gl esc ord frz) #[⟨some d,.alloc 4,0,p,#[],none⟩,⟨none,.store 4 (.tmp d) (.const (.bool true)),0,p,#[⟨0,.data⟩,⟨2,.gcOnly .appendInPlace⟩],none⟩,
   ⟨none,.store 4 (.tmp d) (.const (.bool false)),0,p,#[⟨0,.data⟩,⟨1,.textOnly .appendInPlace⟩],none⟩,⟨some D,.load 4 (.tmp d),4,p,#[⟨0,.data⟩,⟨0,.phase⟩,⟨1,.phase⟩,⟨2,.phase⟩],none⟩] (some []) Q fr st []:=by
 rw[B_];refine su 0 (by kernel_rfl) ?_;simp only[go_sem,zA,hd,oS];refine N_ 1 2 (by kernel_rfl) ?_ ?_
 ·simp only[go_sem,zL,oS];refine su 2 (by kernel_rfl) ?_;simp only[go_sem,zL,oS];refine su 3 (by kernel_rfl) ?_;simp only[go_sem,oS];refine FR ?_;rw[vm,vm];exact h false
 ·simp only[go_sem,zL,oS];refine su 1 (by kernel_rfl) ?_;simp only[go_sem,zL,oS];refine su 3 (by kernel_rfl) ?_;simp only[go_sem,oS];refine FR ?_;rw[vm,vm];exact h true
def gJ:Fm->List Fm
 | .mk 7 n us [a,b]=>[.mk 7 n us [a,b],imF a b,imF b a]
 | f=>[f]
mutual
def cloF:Fm->List Fm
 | .mk o n us sub=>gJ (.mk o n us sub)++eZ sub
def eZ:List Fm->List Fm
 | []=>[]
 | a::l=>cloF a++eZ l
end
def kg (ca m:Nat)(x:IV):IObj:=.box [.raw (.int .u8 (ca:Int)),x,.raw (.map (some m))]
def Fo (ca m D:Nat)(B0:ISt)(l:List Fm)(st:ISt):Prop:=(l=[]/\st=B0.put D (some (kg ca m ()))) \/
 ∃g cap cs zs,l≠[]/\B0 g=none/\g≠D/\l.length<=cap/\cap*4<=cs.length/\cs.take (l.length*4)=zs.flatMap IV.cells/\IsFms l zs/\st=(B0.put D (some (kg ca m (.raw (.slice (some ⟨g,0,none⟩) l.length cap))))).put g (some (.box cs))
abbrev ptr (b:Nat):IV:=.raw (.pointer (some ⟨b,0,none⟩))
abbrev colFn (b12 b6:Nat):IV:=.fn (.func 164) [] [.cptr (ptr b12),ptr b6]
def ColC (f:Fm):Prop:=∀(ca m E D:Nat) (x:IV) (_:IsFm f x) (B0 st:ISt) (l:List Fm),B0 E=some (.box [colFn D E])->E≠D->(l++cloF f).length<=1000000->Fo ca m D B0 l st →
 ICall prog gl 164 [x,.cptr (ptr D),ptr E] st (λ_ st'=>Fo ca m D B0 (l++cloF f) st')
def vn:allI oy [Value.int IntKind.u8 0,Value.string noN,Value.slice none 0 0,Value.slice none 0 0]=some [.raw (.int .u8 0),.raw (.string noN),.sl ⟨true,.nil,0⟩ [],.sl ⟨true,.nil,0⟩ []]:=rfl
def FT (f:Fm):1<=(gJ f).length:=by
 unfold gJ;split<;>simp
def FU {o:Nat}{n:ByteArray}{us:List Tm}{sub:List Fm}(h:¬ (o=7/\sub.length=2)):gJ (.mk o n us sub)=[.mk o n us sub]:=by
 unfold gJ;split
 ·rename_i D;cases D;exact absurd ⟨rfl,rfl⟩ h
 ·rfl
def zF {B0:ISt}{b g:Nat}{a z c:Option IObj}(h:g≠b):((B0.put b a).put g c).put b z=(B0.put b z).put g c:=by
 funext d;simp only[ISt.put_apply];by_cases h1:d=b
 ·subst h1;rw[cX rfl,a_ λe=>h e.symm,cX rfl]
 ·rw[a_ h1,a_ h1,a_ h1]
def qz {B0:ISt}{b g G:Nat}{a z c J:Option IObj}(O:B0 g=none)(h1:g≠b)(h2:G≠b):((((B0.put b a).put g c).put g none).put G J).put b z=(B0.put b z).put G J:=by
 funext d;simp only[ISt.put_apply];by_cases E:d=b
 ·subst E;rw[cX rfl,a_ λe=>h2 e.symm,cX rfl]
 ·rw[a_ E,a_ E,a_ E];by_cases D:d=g
  ·rw[cX D,D,O]
  ·rw[a_ D,a_ D]
def vo {l:List Fm}{zs:List IV}(h:IsFms l zs):(zs.flatMap IV.cells).length=l.length*4:=by
 rw[<- h.len];refine gS zs λz D=>?_;obtain⟨a,E,_⟩:=qt h z D;cases a;obtain⟨_,_,_,_,rfl,_⟩:=E.mk;rfl
def zG {cs' Z z new:List IV}{n:Nat}(D:Z.length=n*4)(E:new.length=4)(hl:(n+1)*4<=cs'.length)(h:cs'.take ((n+1)*4)=Z++z):(cs'.take (n*4)++new++cs'.drop (n*4+4)).take ((n+1)*4)=Z++new:=by
 have h1:cs'.take (n*4)=Z:=by
  have:=dZ (List.take (n*4)) h;rw[List.take_take,Nat.min_eq_left (by omega),jM D] at this;exact this
 rw[h1,jM];rw[lLa,D,E];omega
def qA {B0:ISt}{b g D:Nat}{a':IObj}{c:Option IObj}(J:B0 g=none)(G:g≠b)(E:D=g\/((B0.put b (some a')).put g c) D=none):D≠b/\B0 D=none:=by
 rcases E with rfl|h
 ·exact⟨G,J⟩
 ·by_cases h1:D=g
  ·subst h1;exact⟨G,J⟩
  ·rw[dz h1] at h;by_cases h2:D=b
   ·subst h2;rw[b_] at h;cases h
   ·exact⟨h2,by rwa [dz h2] at h⟩
def Fo.first {ca m D g cap:Nat}{B0:ISt}{cs:List IV}{f:Fm}{x:IV}(E:IsFm f x)(O:B0 g=none)(J:g≠D)(hc:1<=cap)(G:cap*4<=cs.length)(ht:cs.take 4=x.cells) :
  Fo ca m D B0 [f] ((B0.put D (some (kg ca m (.raw (.slice (some ⟨g,0,none⟩) 1 cap))))).put g (some (.box cs))) :=
 .inr ⟨g,cap,cs,[x],by simp,O,J,hc,G,by simpa using ht,.one E,rfl⟩
def Fo.snoc {ca m D g cap:Nat}{B0:ISt}{cs:List IV}{l:List Fm}{zs:List IV}(E:IsFms l zs){f:Fm}{x:IV}(G:IsFm f x)(hg:B0 g=none)(O:g≠D)(hc:l.length+1<=cap)(J:cap*4<=cs.length)
  (ht:cs.take ((l.length+1)*4)=zs.flatMap IV.cells++x.cells) :
  Fo ca m D B0 (l++[f]) ((B0.put D (some (kg ca m (.raw (.slice (some ⟨g,0,none⟩) (l.length+1) cap))))).put g (some (.box cs))) :=
 .inr ⟨g,cap,cs,zs++[x],by simp,hg,O,by simpa using hc,J,by simpa using ht,E.append (.one G),by simp⟩
def Oa {c:Cf}{A:Code}{K:Fr->ISt->List Dfd->Prop}{Q:Kc}{fr:Fr}{st:ISt}{ds:List Dfd}(J:Fr->ISt->List Dfd->Prop)(h:vcC c A (seqK J Q) fr st ds)(D:∀fr st ds,J fr st ds->K fr st ds):vcC c A (seqK K Q) fr st ds :=
 rv A (λe fr st ds=>by cases e<;>first|exact D _ _ _|exact id) h
def zH {b:Bool}{c:Cf}{A B:Code}{K:Fr->ISt->List Dfd->Prop}{Q:Kc}{fr:Fr}{st:ISt}{ds:List Dfd}(J:Fr->ISt->List Dfd->Prop)(E:∀fr st ds,J fr st ds->K fr st ds)
  (h1:b=true->vcC c A (seqK J Q) fr st ds) (h2:b=false->vcC c B (seqK J Q) fr st ds):jl b (vcC c A (seqK K Q) fr st ds) (vcC c B (seqK K Q) fr st ds) .mk .mk:=by
 have D:∀e fr st ds,seqK J Q e fr st ds->seqK K Q e fr st ds:=λe fr st ds=>by
  cases e<;>first|exact E _ _ _|exact id
 exact kR (λh=>rv A D (h1 h)) (λh=>rv B D (h2 h))
def vp {sub:List Fm}{k:Nat}{g:Fm}(h:sub[k]?=some g):eZ (sub.take (k+1))=eZ (sub.take k)++cloF g:=by
 have app:∀a b:List Fm,eZ (a++b)=eZ a++eZ b:=λa b=>by
  induction a with
  | nil=>rfl
  | cons c a D=>simp only[eu,eZ,D,et]
 rw[dM h,app];simp[eZ]
def Oc {l:List Fm}{o:Nat}{n:ByteArray}{us:List Tm}{sub:List Fm}{k:Nat}{g:Fm}(h:(l++cloF (.mk o n us sub)).length<=1000000)(E:sub[k]?=some g):(l++gJ (.mk o n us sub)++eZ (sub.take k)++cloF g).length<=1000000:=by
 have mono:∀(a:List Fm) (k:Nat),(eZ (a.take k)).length<=(eZ a).length:=λa=>by
  induction a with
  | nil=>intro k;simp
  | cons c a D =>
   intro k;cases k with
   | zero=>simp[eZ]
   | succ k=>simp only[kF,eZ,lLa];have:=D k;omega
 have h1:=mono sub (k+1);rw[vp E] at h1;simp only[cloF,lLa] at h h1 ⊢;omega
def Fo.self {ca m D G:Nat}{B0 st:ISt}{l:List Fm}{o:IObj}(h:Fo ca m D B0 l st)(E:B0 G=some o)(J:G≠D):st G=some o:=by
 rcases h with⟨_,rfl⟩|⟨g,cap,cs,zs,_,O,_,_,_,_,_,rfl⟩
 ·rw[dz J,E]
 ·rw[dz (by rintro rfl;rw[O] at E;cases E),dz J,E]
def vq {a b:Fm}{x y:IV}(E:IsFm a x)(D:IsFm b y):IsFm (imF a b) (.agg [.raw (.int .u8 6),noN,(),.sl ⟨true,.full,4⟩ [x,y]]) :=
 ⟨_,_,_,_,rfl,by decide,.inl rfl,rfl,.inr rfl,⟨x,_,rfl,E,y,_,rfl,D,rfl⟩⟩
def Od (o:Nat)(n:ByteArray)(us:List Tm)(sub:List Fm)(IH:∀a∈sub,ColC gl a):ColC gl (.mk o n us sub):=by
 intro ca m b6 ae x hx B0 st l h6 n6 av hF;obtain⟨t1,x1,t2,x2,rfl,ho,e1,i1,e2,i2⟩:=hx.mk;have aG:l.length+(gJ (.mk o n us sub)).length<=1000000:=by rw[lLa] at av;simp only[cloF,lLa] at av;omega
 have aE:=FT (.mk o n us sub);refine ICall.intro (c:=cf prog gl [13,17,25,28,53,60,68,74,82,89,97,103] [(1,[]),(7,[]),(11,[])]) func164 rfl (by show _<=117;simp) (by kernel_rfl) ?_;simp only[go_sem,zE];refine zD gl (by decide) (by decide) (by decide) λc1=>?_;simp only[go_sem];refine zH (λfr st ds=>Fo ca m ae B0 (l++[.mk o n us sub]) st/\ds=[]/\fr 1=.iv (.cptr (ptr ae))/\fr 2=.iv (ptr b6)/\fr 3=.box [.raw (.int .u8 (o:Int)),.raw (.string n),.sl t1 x1,.sl t2 x2]) ?_ (λh=>?_) (λh=>?_)
 ·rintro fr s1 _ ⟨ax,rfl,f1,f2,f3⟩;rw[J9];refine Oa (λfr st ds=>Fo ca m ae B0 (l++gJ (.mk o n us sub)) st/\ds=[]/\fr 1=.iv (.cptr (ptr ae))/\fr 2=.iv (ptr b6)/\fr 3=.box [.raw (.int .u8 (o:Int)),.raw (.string n),.sl t1 x1,.sl t2 x2]) ?_ ?_
  ·by_cases h7:o=7
   ·subst h7;by_cases h2:x2.length=2
    ·rw[i2.len] at h2;obtain⟨a,b,rfl⟩:∃a b,sub=[a,b]:=by
      match sub,h2 with
      | [a,b],_=>exact⟨a,b,rfl⟩
     obtain⟨xa,_,rfl,ia,xb,_,rfl,ib,rfl⟩:=i2;cases a with
     | mk oa na ua sa =>
     cases b with
     | mk ob nb ub sb =>
     obtain⟨aS,aM,aQ,aL,rfl,ha⟩:=ia.mk;obtain⟨aO,aK,aN,aJ,rfl,hb⟩:=ib.mk;simp only[go_sem,zE,zA,zL,f3,show decide (((7:Nat):Int)=7)=true from rfl];refine kR (λ_=>?_) λh=>absurd h (by decide);simp only[go_sem,zE,zB,zA,zL,f3,fits,dB e2,show ((0:Int)<=0)=True from eT (by decide),show ((0:Int)<=1)=True from eT (by decide),show Int.toNat 0=0 from rfl,show Int.toNat 1=1 from rfl,IV.one];rw[show l++gJ (.mk 7 n us [.mk oa na ua sa,.mk ob nb ub sb])=l++[.mk 7 n us [.mk oa na ua sa,.mk ob nb ub sb]]++[imF (.mk oa na ua sa) (.mk ob nb ub sb)]++[imF (.mk ob nb ub sb) (.mk oa na ua sa)] by simp[gJ]];have hL:(l++[Fm.mk 7 n us [.mk oa na ua sa,.mk ob nb ub sb]]).length+2<=1000000:=by simp[gJ] at aG ⊢;omega
     have aF:l++[Fm.mk 7 n us [.mk oa na ua sa,.mk ob nb ub sb]]≠[]:=by simp
     generalize l++[Fm.mk 7 n us [.mk oa na ua sa,.mk ob nb ub sb]]=L at ax hL aF ⊢;refine zD gl (by decide) (by decide) (by decide) λc2=>?_;simp only[go_sem];refine zH (λfr st ds=>Fo ca m ae B0 (L++[imF (.mk oa na ua sa) (.mk ob nb ub sb)]) st/\ds=[]/\fr 1=.iv (.cptr (ptr ae))/\fr 2=.iv (ptr b6) /\
      fr 3=.box [.raw (.int .u8 ((7:Nat):Int)),.raw (.string n),.sl t1 x1,.sl t2 [.agg [.raw (.int .u8 (oa:Int)),.raw (.string na),.sl aS aM,.sl aQ aL],.agg [.raw (.int .u8 (ob:Int)),.raw (.string nb),.sl aO aK,.sl aN aJ]]] /\
      fr 4=.box [.raw (.int .u8 (oa:Int)),.raw (.string na),.sl aS aM,.sl aQ aL]/\fr 5=.box [.raw (.int .u8 (ob:Int)),.raw (.string nb),.sl aO aK,.sl aN aJ]) ?_ (λh=>?_) (λh=>?_)
     ·rintro fr s2 _ ⟨aB,rfl,f1,f2,f3,f4,f5⟩;have a8:(L++[imF (.mk oa na ua sa) (.mk ob nb ub sb)]).length+1<=1000000:=by rw[lLa];exact hL
      have aC:L++[imF (.mk oa na ua sa) (.mk ob nb ub sb)]≠[]:=by simp
      generalize L++[imF (.mk oa na ua sa) (.mk ob nb ub sb)]=L2 at aB a8 aC ⊢;simp only[go_sem,zE];refine zD gl (by decide) (by decide) (by decide) λc3=>?_;obtain⟨g,cap,cs,zs,aA,hg,D,O,G,af,hzs,rfl⟩:=aB.resolve_left λh=>aC h.1;cases c3
      ·simp only[go_sem,zE,zA,zM,zL,f1,f4,f5,fits,kg,dz D.symm,eh,pX];refine kN _ _ _ (b_ ..) rfl ⟨by show (L2.length+1)*72<=_;omega,by show L2.length+1<=_;omega⟩ ⟨O,G⟩ rfl ?_;intro g' J cs' ac k1 k2 k3;obtain⟨E,ab⟩:=qA hg D ac;simp only[go_sem,zE,zA,zL,f1,f2,f3,dz E.symm,dz D.symm,IV.one];rw[qz hg D E];exact .snoc hzs (vq ib ia) ab E k1 k2 (k3.trans (dZ (·++_) af))
      ·simp only[go_sem,zE,zA,zM,zL,f1,f4,f5,fits,kg,dz D.symm,eh,pX,vn];refine kN _ _ _ (b_ ..) rfl ⟨by show (L2.length+1)*72<=_;omega,by show L2.length+1<=_;omega⟩ ⟨O,G⟩ rfl ?_;intro g' J cs' ac k1 k2 k3;obtain⟨E,ab⟩:=qA hg D ac;simp only[go_sem,zE,zA,zL,f1,f2,f3,dz E.symm,dz E,dz D.symm,IV.one];have aT:J*4<=cs'.length:=k2;have aU:L2.length+1<=J:=k1;rw[cX ⟨iNn _,eS _⟩,cX (by omega),qz hg D E,eN];exact .snoc hzs (vq ib ia) ab E k1 (by simp only[lLa,dU,gz,dX,ee];omega) (zG (by rw[vo hzs]) rfl (by omega) (k3.trans (dZ (·++_) af)))
     ·obtain⟨g,cap,cs,zs,aA,hg,D,O,G,af,hzs,rfl⟩:=ax.resolve_left λh=>aF h.1;simp only[go_sem,zE,zA,zM,zL,f1,fits,kg,dz D.symm,eh,pX,vn];refine kN _ _ _ (b_ ..) rfl ⟨by show (L.length+1)*72<=_;omega,by show L.length+1<=_;omega⟩ ⟨O,G⟩ rfl ?_;intro g' J cs' ac k1 k2 k3;obtain⟨E,ab⟩:=qA hg D ac;simp only[go_sem,zE,zA,zL,f1,f2,f3,dz E.symm,dz E,dz D.symm,IV.one];have aT:J*4<=cs'.length:=k2;have aU:L.length+1<=J:=k1;rw[cX ⟨iNn _,eS _⟩,cX (by omega),qz hg D E,eN];exact .snoc hzs (vq ia ib) ab E k1 (by simp only[lLa,dU,gz,dX,ee];omega) (zG (by rw[vo hzs]) rfl (by omega) (k3.trans (dZ (·++_) af)))
     ·obtain⟨g,cap,cs,zs,aA,hg,D,O,G,af,hzs,rfl⟩:=ax.resolve_left λh=>aF h.1;simp only[go_sem,zE,zA,zM,zL,f1,fits,kg,dz D.symm,eh,pX];refine kN _ _ _ (b_ ..) rfl ⟨by show (L.length+1)*72<=_;omega,by show L.length+1<=_;omega⟩ ⟨O,G⟩ rfl ?_;intro g' J cs' ac k1 k2 k3;obtain⟨E,ab⟩:=qA hg D ac;simp only[go_sem,zE,zA,zL,f1,f2,f3,dz E.symm,dz D.symm,IV.one];rw[qz hg D E];exact .snoc hzs (vq ia ib) ab E k1 k2 (k3.trans (dZ (·++_) af))
    ·have bc:¬ ((x2.length:Nat):Int)=2:=by omega
     simp only[go_sem,zE,f1,f2,f3,bc,decide_false,show decide (((7:Nat):Int)=7)=true from rfl];intro _;rw[FU λh=>h2 (by rw[i2.len,h.2])];exact ax
   ·have bb:¬ (o:Int)=7:=by omega
    simp only[go_sem,zE,zA,f1,f2,f3,bb,decide_false];rw[FU λh=>h7 h.1];exact ax
  ·rintro fr s2 _ ⟨aB,rfl,f1,f2,f3⟩;simp only[go_sem,zE,f3];intro _;have aE:=i2.len;refine dt x2.length (λk fr st' ds=>Fo ca m ae B0 (l++gJ (.mk o n us sub)++eZ (sub.take k)) st'/\fr 1=.iv (.cptr (ptr ae))/\fr 2=.iv (ptr b6)/\fr 107=.iv (.sl t2 x2)/\fr 108=.iv (.raw (.int .i64 x2.length))/\fr 109=.iv (.raw (.int .i64 (k:Int)))/\ds=[]) ?_ ?_ ?_
   ·simp only[go_sem,zE];simpa[eZ] using ⟨aB,f1,f2⟩
   ·rintro k fr aD _ aY ⟨aw,f1,f2,f107,f108,f109,rfl⟩;rw[aE] at aY;obtain⟨g,hg⟩:=dD aY;obtain⟨z,hz,aZ⟩:=i2.get hg;have IHg:=IH g (lMg hg) ca m b6 ae z aZ B0 aD _ h6 n6 (Oc av hg) aw;cases g with
    | mk og ng ug sg =>
    obtain⟨bl,bj,bk,bi,rfl,bo⟩:=aZ.mk;simp only[go_sem,zE,zB,zA,zL,f2,f107,f108,f109,lt_i (show k<x2.length by omega),dB e2,iNn,hz,fits,IV.one];rw[aw.self h6 n6];simp only[go_sem];refine IHg.mono ?_;rintro _ aD ba;simp only[go_sem,zE,f1,f2,f107,f108,f109,dL (show k<x2.length by omega) (by omega)];rw[vp hg,<- et];exact ba
   ·rintro fr aD _ ⟨aw,f1,f2,f107,f108,f109,rfl⟩;rw[aE,lTl] at aw;simp only[go_sem,f108,f109,dS (nLi _)];refine c_ ?_;rw[cloF,<- et];exact aw
 ·rcases hF with⟨rfl,rfl⟩|⟨g,cap,cs,zs,aA,hg,D,O,G,af,hzs,rfl⟩
  ·simp only[go_sem,zE,zA,zM,zL,fits,kg,eh,vn];intro g cap aH;obtain⟨hg,aI⟩:=aH;have gb:g≠ae:=by rintro rfl;rw[b_] at hg;cases hg
   rw[dz gb] at hg;simp only[go_sem,zA,zL,dz gb.symm,dz gb,IV.one,show ((0:Int)<=((0:Nat):Int)/\(0:Nat)<1)=True from eT (by decide),eo,List.flatMap_nil,IV.cells,ek,eu,fa];rw[zF gb,eN];exact .first hx hg gb aI (by simp;omega) rfl
  ·simp only[go_sem,zE,zA,zM,zL,fits,kg,dz D.symm,eh,vn];refine kN _ _ _ (b_ ..) rfl ⟨by show (l.length+1)*72<=_;omega,by show l.length+1<=_;omega⟩ ⟨O,G⟩ rfl ?_;intro g' J cs' ac k1 k2 k3;obtain⟨E,ab⟩:=qA hg D ac;simp only[go_sem,zE,zA,zL,dz E.symm,dz E,dz D.symm,IV.one];have aT:J*4<=cs'.length:=k2;have aU:l.length+1<=J:=k1;rw[cX ⟨iNn _,eS _⟩,cX (by omega),qz hg D E,eN];exact .snoc hzs hx ab E k1 (by simp only[lLa,dU,gz,dX,ee];omega) (zG (by rw[vo hzs]) rfl (by omega) (k3.trans (dZ (·++_) af)))
 ·rcases hF with⟨rfl,rfl⟩|⟨g,cap,cs,zs,aA,hg,D,O,G,af,hzs,rfl⟩
  ·simp only[go_sem,zE,zA,zM,zL,fits,kg,eh];intro g cap aH;obtain⟨hg,aI⟩:=aH;have gb:g≠ae:=by rintro rfl;rw[b_] at hg;cases hg
   rw[dz gb] at hg;simp only[go_sem,zA,zL,dz gb.symm,IV.one];rw[zF gb];exact .first hx hg gb aI (by simp[IV.cells];omega) rfl
  ·simp only[go_sem,zE,zA,zM,zL,fits,kg,dz D.symm,eh];refine kN _ _ _ (b_ ..) rfl ⟨by show (l.length+1)*72<=_;omega,by show l.length+1<=_;omega⟩ ⟨O,G⟩ rfl ?_;intro g' J cs' ac k1 k2 k3;obtain⟨E,ab⟩:=qA hg D ac;simp only[go_sem,zE,zA,zL,dz E.symm,dz D.symm,IV.one];rw[qz hg D E];exact .snoc hzs hx ab E k1 k2 (k3.trans (dZ (·++_) af))
mutual
def FV:∀f:Fm,ColC gl f
 | .mk o n us sub=>Od gl o n us sub (FW sub)
def FW:∀l:List Fm,∀a∈l,ColC gl a
 | [],_,h=>by cases h
 | b::l,a,h=>by
  rcases dF.1 h with h1|h
  ·rw[h1];exact FV b
  ·exact FW l a h
end
def Oe (T:Gt gl)(ca m:Nat)(tw:Tag)(xw:List IV)(ln:Ln)(x:IV)(hx:IsLn ln x)(e:Ex)(y:IV)(hy:IsEx e y)(hl:ln.1.length<=300000/\ln.2.length<=300000/\e.1.1.length<=300000/\e.1.2.length<=300000/\e.2.1<=300000/\e.2.2<=300000)(st:ISt) :
  ICall prog gl 176 [spI ca tw xw m,x,y] st (λr st'=>(∃a b c d,r=.tup [.agg [.sl a b,.sl c d],(!tooN (calJ ca) ln e:Bool)]/\(tooN (calJ ca) ln e=false->IsLn (kd (calJ ca) ln e) (.agg [.sl a b,.sl c d])))/\st'=st):=by
 obtain⟨t1,t2,rfl,e1,e2⟩:=hx;obtain⟨t3,t4,rfl,e3,e4⟩:=hy;obtain⟨l1,l2,l3,l4,l5,l6⟩:=hl;have G:decide ((ca:Int)=2)=calJ ca:=fH.2 (by omega);have J:IntKind.i64.wrap ((ln.1.length:Int)+(e.2.1:Int))=((ln.1.length+e.2.1:Nat):Int):=by rw[w64 (by omega) (by omega)];omega
 have d1:decide ((64:Int)<((ln.1.length+e.2.1:Nat):Int))=decide (64<ln.1.length+e.2.1):=fH.2 (by omega);have d0:decide ((0:Int)<(e.2.2:Int))=decide (0<e.2.2):=fH.2 (by omega);have nl:(dO [])=[]:=rfl;have hj:=λ(R:List Nat) (tR:Tag) (E:okEs tR 1) (aj:R.length<=300000) st=>FD gl T R e.1.2 tR t4 E e4 (by omega) st;have O:=λst=>FD gl T ln.1 e.1.1 t1 t3 e1 e3 (by omega) st;refine ICall.intro (c:=cf prog gl [] [(5,[0,1,2,3,4,6,7,8,9,10,5,11,12,13,14])]) func176 rfl (by show _<=49;simp) (by kernel_rfl) ?_;generalize calJ ca=jj at G ⊢;cases jj
 ·have E:rgtN (false) ln e=ln.2:=by unfold rgtN;rw[a_ (by simp)]
  have D:IntKind.i64.wrap (((ln.2).length:Int)+(e.2.2:Int))=(((ln.2).length+e.2.2:Nat):Int):=by rw[w64 (by first|omega|(simp only[ee];omega)) (by first|omega|(simp only[ee];omega))];first|omega|(simp only[ee];omega)
  have d2:decide ((64:Int)<(((ln.2).length+e.2.2:Nat):Int))=decide (64<(ln.2).length+e.2.2):=fH.2 (by omega);by_cases h1:64<ln.1.length+e.2.1
  ·have ht:tooN (false) ln e=true:=by unfold tooN;rw[dEt h1];rfl
   simp only[go_sem,zE,zA,zL,reduceCtorEq,G,fits,fM,J,d1,dEt h1];intros;exact c_ ⟨⟨_,_,_,_,by rw[ht];rfl,λh=>by rw[ht] at h;cases h⟩,rfl⟩
  ·by_cases h2:64<(ln.2).length+e.2.2
   ·have ht:tooN (false) ln e=true:=by unfold tooN;rw[E,dEt h2,Bool.or_true]
    try simp only[ee] at D d2
    simp only[go_sem,zE,zA,zL,reduceCtorEq,G,fits,fM,J,d1,dEf h1,D,dEt h2,d2];intros;exact c_ ⟨⟨_,_,_,_,by rw[ht];rfl,λh=>by rw[ht] at h;cases h⟩,rfl⟩
   ·have ht:tooN (false) ln e=false:=by unfold tooN;rw[E,dEf h1,dEf h2];rfl
    try simp only[ee] at D d2
    simp only[go_sem,zE,zA,reduceCtorEq,G,fits,fM,J,d1,dEf h1,D,dEf h2,d2];intros;refine (O _).mono ?_;rintro _ st ⟨⟨t5,rfl,e5⟩,rfl⟩;simp only[go_sem,zE,zA];refine (hj (ln.2) t2 (by first|exact e2|exact .inl rfl) (by first|omega|(simp only[ee];omega)) _).mono ?_;rintro _ st ⟨⟨t6,rfl,e6⟩,rfl⟩;simp only[go_sem,zE,zA,zL,fits];exact c_ ⟨⟨_,_,_,_,by rw[ht];rfl,λ_=>⟨t5,t6,(by unfold kd;rw[E];try rfl),e5,e6⟩⟩,rfl⟩
 ·by_cases h0:0<e.2.2
  ·have E:rgtN (true) ln e=([]:List Nat):=by unfold rgtN;rw[cX ⟨rfl,h0⟩]
   have D:IntKind.i64.wrap (((([]:List Nat)).length:Int)+(e.2.2:Int))=(((([]:List Nat)).length+e.2.2:Nat):Int):=by rw[w64 (by first|omega|(simp only[ee];omega)) (by first|omega|(simp only[ee];omega))];first|omega|(simp only[ee];omega)
   have d2:decide ((64:Int)<(((([]:List Nat)).length+e.2.2:Nat):Int))=decide (64<(([]:List Nat)).length+e.2.2):=fH.2 (by omega);by_cases h1:64<ln.1.length+e.2.1
   ·have ht:tooN (true) ln e=true:=by unfold tooN;rw[dEt h1];rfl
    simp only[go_sem,zE,zA,zL,reduceCtorEq,G,d0,dEt h0,fits,fM,J,d1,dEt h1];intros;exact c_ ⟨⟨_,_,_,_,by rw[ht];rfl,λh=>by rw[ht] at h;cases h⟩,rfl⟩
   ·by_cases h2:64<(([]:List Nat)).length+e.2.2
    ·have ht:tooN (true) ln e=true:=by unfold tooN;rw[E,dEt h2,Bool.or_true]
     try simp only[ee] at D d2
     simp only[go_sem,zE,zA,zL,reduceCtorEq,G,d0,dEt h0,fits,fM,J,d1,dEf h1,D,dEt (show (64:Int)<(e.2.2:Int) by simp at h2;omega)];intros;exact c_ ⟨⟨_,_,_,_,by rw[ht];rfl,λh=>by rw[ht] at h;cases h⟩,rfl⟩
    ·have ht:tooN (true) ln e=false:=by unfold tooN;rw[E,dEf h1,dEf h2];rfl
     try simp only[ee] at D d2
     simp only[go_sem,zE,zA,zL,reduceCtorEq,G,d0,dEt h0,fits,fM,J,d1,dEf h1,D,dEf (show ¬ (64:Int)<(e.2.2:Int) by simp at h2;omega)];intros;refine (O _).mono ?_;rintro _ st ⟨⟨t5,rfl,e5⟩,rfl⟩;simp only[go_sem,zE,zA];refine (hj (([]:List Nat)) ⟨true,.nil,0⟩ (by first|exact e2|exact .inl rfl) (by first|omega|(simp only[ee];omega)) _).mono ?_;rintro _ st ⟨⟨t6,rfl,e6⟩,rfl⟩;simp only[go_sem,zE,zA,zL,fits];exact c_ ⟨⟨_,_,_,_,by rw[ht];rfl,λ_=>⟨t5,t6,(by unfold kd;rw[E];try rfl),e5,e6⟩⟩,rfl⟩
  ·have E:rgtN (true) ln e=ln.2:=by unfold rgtN;rw[a_ λh=>h0 h.2]
   have D:IntKind.i64.wrap (((ln.2).length:Int)+(e.2.2:Int))=(((ln.2).length+e.2.2:Nat):Int):=by rw[w64 (by first|omega|(simp only[ee];omega)) (by first|omega|(simp only[ee];omega))];first|omega|(simp only[ee];omega)
   have d2:decide ((64:Int)<(((ln.2).length+e.2.2:Nat):Int))=decide (64<(ln.2).length+e.2.2):=fH.2 (by omega);by_cases h1:64<ln.1.length+e.2.1
   ·have ht:tooN (true) ln e=true:=by unfold tooN;rw[dEt h1];rfl
    simp only[go_sem,zE,zA,zL,reduceCtorEq,G,d0,dEf h0,fits,fM,J,d1,dEt h1];intros;exact c_ ⟨⟨_,_,_,_,by rw[ht];rfl,λh=>by rw[ht] at h;cases h⟩,rfl⟩
   ·by_cases h2:64<(ln.2).length+e.2.2
    ·have ht:tooN (true) ln e=true:=by unfold tooN;rw[E,dEt h2,Bool.or_true]
     try simp only[ee] at D d2
     simp only[go_sem,zE,zA,zL,reduceCtorEq,G,d0,dEf h0,fits,fM,J,d1,dEf h1,D,dEt h2,d2];intros;exact c_ ⟨⟨_,_,_,_,by rw[ht];rfl,λh=>by rw[ht] at h;cases h⟩,rfl⟩
    ·have ht:tooN (true) ln e=false:=by unfold tooN;rw[E,dEf h1,dEf h2];rfl
     try simp only[ee] at D d2
     simp only[go_sem,zE,zA,reduceCtorEq,G,d0,dEf h0,fits,fM,J,d1,dEf h1,D,dEf h2,d2];intros;refine (O _).mono ?_;rintro _ st ⟨⟨t5,rfl,e5⟩,rfl⟩;simp only[go_sem,zE,zA];refine (hj (ln.2) t2 (by first|exact e2|exact .inl rfl) (by first|omega|(simp only[ee];omega)) _).mono ?_;rintro _ st ⟨⟨t6,rfl,e6⟩,rfl⟩;simp only[go_sem,zE,zA,zL,fits];exact c_ ⟨⟨_,_,_,_,by rw[ht];rfl,λ_=>⟨t5,t6,(by unfold kd;rw[E];try rfl),e5,e6⟩⟩,rfl⟩
def plcs (ln:Ln):List (Nat×Bool):=(ln.1.map λi=>(i,false))++ln.2.map λi=>(i,true)
abbrev plcI (p:Nat×Bool):IV:=.agg [.raw (.int .i64 (p.1:Int)),.raw (.bool p.2)]
def plX (ln:Ln):Nat->List IV->Prop:=λk a=>∃p,(plcs ln)[k]?=some p/\a=[plcI p]
def sv (ln:Ln):(plcs ln).length=ln.1.length+ln.2.length:=by simp[plcs]
def FX (ln:Ln)(x:IV)(D:IsLn ln x)(st:ISt):ICall prog gl 168 [x] st (λr st'=>r=.fn (.func 198) [] [.cptr x]/\st'=st):=by
 obtain⟨t1,t2,rfl,G,E⟩:=D;refine ICall.intro (c:=cf prog gl [] [] [1]) func168 rfl (by show _<=4;simp) (by kernel_rfl) ?_;simp only[go_sem,zE];exact c_ ⟨rfl,rfl⟩
def FY (ln:Ln)(x:IV)(hx:IsLn ln x)(hl:ln.1.length<=1000000/\ln.2.length<=1000000)(I:Nat->ISt->Prop):IterC prog gl 198 [] [.cptr x] (plX ln) (plcs ln).length I:=by
 obtain⟨t1,t2,rfl,e1,e2⟩:=hx;rintro y I' S' st ⟨f,fi,ca,rfl,ae,G⟩ _ hy h0;change ICall prog gl _ [.fn f fi ca,_] st _;refine iI func198 ?_;simp only[go_sem,fits,fM];intros;refine dt ln.1.length (λk fr st' ds=>I' k st'/\fr 0=.iv (.fn f fi ca)/\fr 1=.iv (.cptr (.agg [.sl t1 (dO ln.1),.sl t2 (dO ln.2)]))/\fr 8=.iv (.sl t1 (dO ln.1))/\fr 9=.iv (.raw (.int .i64 ln.1.length))/\fr 10=(k:Int)/\ds=[]) ?_ ?_ ?_
 ·simp only[go_sem,zE,reduceCtorEq];exact⟨h0,rfl⟩
 ·rintro k fr st _ D ⟨J,f0,f1,f8,f9,f10,rfl⟩;obtain⟨n,O⟩:=dD D;have E:=hy k [plcI (n,false)] st ⟨(n,false),by unfold plcs;rw[fg (by simpa using D),eB,O];rfl,rfl⟩ J;simp only[go_sem,zE,zA,zL,reduceCtorEq,f0,f8,f9,f10,lt_i D,dB e1,iNn,kW O,fits];refine lO G (E.mono ?_);rintro _ st (⟨rfl,h⟩|⟨rfl,h⟩)
  ·simp only[go_sem,zE,reduceCtorEq,f0,f1,f8,f9,f10,dL D (by omega)];exact h
  ·simp only[go_sem];exact c_ (.inr h)
 ·rintro fr st _ ⟨J,f0,f1,f8,f9,f10,rfl⟩;simp only[go_sem,zE,f1,f9,f10,dS (nLi _),fM];intro _;refine dt ln.2.length (λk fr st' ds=>I' (ln.1.length+k) st'/\fr 0=.iv (.fn f fi ca)/\fr 21=.iv (.sl t2 (dO ln.2))/\fr 22=.iv (.raw (.int .i64 ln.2.length))/\fr 23=(k:Int)/\ds=[]) ?_ ?_ ?_
  ·simp only[go_sem,zE,reduceCtorEq];exact⟨J,f0,rfl⟩
  ·rintro k fr st _ D ⟨J,f0,f21,f22,f23,rfl⟩;obtain⟨n,O⟩:=dD D;have E:=hy (ln.1.length+k) [plcI (n,true)] st ⟨(n,true),by unfold plcs;rw[fD (by simp),dP,Nat.add_sub_cancel_left,eB,O];rfl,rfl⟩ J;simp only[go_sem,zE,zA,zL,reduceCtorEq,f0,f21,f22,f23,lt_i D,dB e2,iNn,kW O,fits];refine lO G (E.mono ?_);rintro _ st (⟨rfl,h⟩|⟨rfl,h⟩)
   ·simp only[go_sem,zE,reduceCtorEq,f0,f21,f22,f23,dL D (by omega)];exact h
   ·simp only[go_sem];exact c_ (.inr h)
  ·rintro fr st _ ⟨J,f0,f21,f22,f23,rfl⟩;simp only[go_sem,f22,f23,dS (nLi _)];refine c_ (.inl ?_);rw[sv];exact J
def FZ (m:Nat)(w x:IV)(c:List IV)(E:w=.cptr (.agg c))(ln:Ln)(D:IsLn ln x)(st:ISt):ICall prog gl 129 [w,x] st (λr st'=>r=.fn (.func 174) [] [.cptr x,.cptr w]/\st'=st):=by
 obtain⟨t1,t2,rfl,J,G⟩:=D;subst E;refine ICall.intro (c:=cf prog gl [] [] [2,3]) func129 rfl (by show _<=6;simp) (by kernel_rfl) ?_;simp only[go_sem,zE];exact c_ ⟨rfl,rfl⟩
def nanC (a:Int)(st:ISt):ICall prog gl 200 [a] st (λr st'=>r=false/\st'=st):=by
 refine iI func200 ?_;simp only[go_sem,zE,reduceCtorEq,dC];exact c_ ⟨rfl,rfl⟩
def nanS (a:Int)(st:ISt):ICall prog gl 173 [a] st (λr st'=>r=false/\st'=st):=by
 refine iI func173 ?_;simp only[go_sem,zE,reduceCtorEq,dC];exact c_ ⟨rfl,rfl⟩
def Of (a b:Int)(st:ISt):ICall prog gl 172 [a,b] st (λr st'=>r=(decide (a<b):Bool)/\st'=st):=by
 refine iI func172 ?_;simp only[go_sem,zA,reduceCtorEq];refine (nanC gl _ _).q ?_;simp only[go_sem,zE,reduceCtorEq];exact c_ ⟨rfl,rfl⟩
def Og (l:List Nat)(tg:Tag)(ac:okEs tg 1)(hl:Inc l)(ae:l.length<=1099511627776)(n:Nat)(st:ISt) :
  ICall prog gl 128 [.sl tg (dO l),(n:Int)] st
   (λr st'=>(∃(i:Nat),r=.tup [(i:Int),(decide (n∈l):Bool)])/\st'=st):=by
 have O:∀ {i k a b:Nat},l[i]?=some a->l[k]?=some b->i<k->a<b:=λE G al=>by
  obtain⟨h1,h2⟩:=lGs E;obtain⟨h3,h4⟩:=lGs G;have:=List.pairwise_iff_getElem.1 hl _ _ h1 h3 al
  rwa [h2,h4] at this
 have c1:=λn:Int=>me prog 3 242 mh t_ .i64 n;have c2:=λn:Int=>me prog 242 3 t_ mh .u64 n;refine iI func128 ?_;simp only[go_sem,zE,reduceCtorEq,fM];intro _;refine LoopC.dec l.length (λm fr st' ds=>(∃lo D,m=D-lo/\lo<=D/\D<=l.length/\(∀k a,k<lo->l[k]?=some a->a<n)/\(∀k a,D<=k->l[k]?=some a->¬ a<n)/\fr 7=(lo:Int)/\fr 8=(D:Int))/\fr 0=.iv (.sl tg (dO l))/\fr 1=(n:Int) /\
  fr 6=.iv (.raw (.int .i64 l.length))/\st'=st/\ds=[]) ?_ ?_
 ·simp only[go_sem,zE,reduceCtorEq];refine⟨0,l.length,by omega,by omega,by omega,λk a hk=>absurd hk (by omega),λk a hk E=>?_,rfl,rfl⟩;have:=(lGs E).1;omega
 ·rintro m fr am _ ⟨⟨lo,D,hm,ak,af,h1,h2,f7,f8⟩,f0,f1,f6,rfl,rfl⟩;by_cases aj:lo<D
  ·obtain⟨ai,ah⟩:=FA ak af ae;obtain⟨a,E⟩:=dD (l:=l) (k:=(lo+D) / 2) (by omega);simp only[go_sem,zE,zA,reduceCtorEq,f0,f1,f7,f8,lt_i aj,c1,c2,show ((0:Int)<=1)=True from eT (by omega),Fz,ai,ah,dB ac,iNn,kW E,fits];refine (Of gl _ _ _).q ?_;by_cases hc:a<n
   ·simp only[go_sem,zE,reduceCtorEq,f0,f1,f6,f8,dEt (show (a:Int)<n by omega),dL (show (lo+D) / 2<l.length by omega) (by omega)];refine⟨D-((lo+D) / 2+1),by omega,(lo+D) / 2+1,D,rfl,by omega,af,λk b hk G=>?_,h2,rfl,rfl⟩;rcases fN k ((lo+D) / 2) with h|h
    ·exact Nat.lt_trans (O G E h) hc
    ·obtain rfl:k=(lo+D) / 2:=by omega
     rw[E] at G;cases G;exact hc
   ·simp only[go_sem,zE,reduceCtorEq,f0,f1,f6,f7,dEf (show ¬ (a:Int)<n by omega)];refine⟨(lo+D) / 2-lo,by omega,lo,(lo+D) / 2,rfl,by omega,by omega,h1,λk b hk G=>?_,rfl,rfl⟩;rcases fN ((lo+D) / 2) k with h|h
    ·have:=O E G h;omega
    ·obtain rfl:k=(lo+D) / 2:=by omega
     rw[E] at G;cases G;exact hc
  ·obtain rfl:lo=D:=by omega
   have J:n∈l↔l[lo]?=some n:=⟨λh=>by
    obtain⟨k,hk⟩:=lD.1 h;rcases Nat.lt_trichotomy k lo with h|h|h
    ·exact absurd (h1 k n h hk) (nLi _)
    ·rwa [<- h]
    ·obtain⟨b,G⟩:=dD (l:=l) (k:=lo) (by have:=(lGs hk).1;omega);exact absurd (O G hk h) (h2 lo b (dG _) G),lMg⟩
   by_cases aa:lo<l.length
   ·obtain⟨a,E⟩:=dD aa;by_cases hc:a=n
    ·subst hc;have hd:decide (a∈l)=true:=dEt (J.2 E);rw[hd];simp only[go_sem,zE,reduceCtorEq,f0,f1,f6,f7,f8,dS (nLi _),lt_i aa,dB ac,iNn,kW E,fits,dC];exact c_ ⟨⟨lo,rfl⟩,rfl⟩
    ·have hd:decide (n∈l)=false:=dEf λh=>by
      rw[J,E] at h;cases h;exact hc rfl
     rw[hd];simp only[go_sem,zE,zA,reduceCtorEq,f0,f1,f6,f7,f8,dS (nLi _),lt_i aa,dB ac,iNn,kW E,fits,dEf (show ¬ (a:Int)=n by omega)];refine (nanS gl _ _).q ?_;simp only[go_sem,zE];exact c_ ⟨⟨lo,rfl⟩,rfl⟩
   ·have hd:decide (n∈l)=false:=dEf λh=>by
     rw[J] at h;exact aa (lGs h).1
    rw[hd];simp only[go_sem,zE,f6,f7,f8,dS (nLi _),dS aa];exact c_ ⟨⟨lo,rfl⟩,rfl⟩
def axW (W:List Fm)(ln:Ln):Option (Nat×Fm):=match ln.1.find? (λi=>decide (i∈ln.2)) with
 | some i=>some (1,(W[i]?).getD fm0)
 | none=>if (ln.1.any λi=>jU ((W[i]?).getD fm0))=true then some (2,.mk 2 noN [] []) else none
def zI {W:List Fm}{ln:Ln}(h:Ix W ln.1):(axW W ln).isSome=true↔clN W ln:=by
 unfold axW clN;cases J:ln.1.find? (λi=>decide (i∈ln.2)) with
 | some i=>simp;exact .inl ⟨i,List.mem_of_find?_eq_some J,by simpa using List.find?_some J⟩
 | none =>
  have O:¬ ∃i∈ln.1,i∈ln.2:=λ⟨i,h1,h2⟩=>by
   have:=jc.1 J i h1;simp[h2] at this
  simp only[O,false_or];constructor
  ·intro h2;split at h2
   ·rename_i ha;obtain⟨i,E,G⟩:=gk.1 ha;obtain⟨f,D⟩:=h.get E;exact⟨i,E,f,D,by rw[D] at G;exact G⟩
   ·cases h2
  ·rintro⟨i,E,f,D,G⟩;rw[cX (gk.2 ⟨i,E,by rw[D];exact G⟩)];rfl
def Oh {p:Nat->Bool}{l:List Nat}{k a:Nat}(h:(l.take k).find? p=none)(D:l[k]?=some a):(p a=true->l.find? p=some a)/\(p a=false->(l.take (k+1)).find? p=none):=by
 refine⟨λhp=>?_,λhp=>?_⟩
 ·obtain⟨h1,h2⟩:=lGs D;rw[<- eA k l,jb,h,fC h1,h2];simp[hp]
 ·rw[dM D,jb,h];simp[hp]
def F1 (f:Fm):jU f=decide (f.op=2):=by cases f;rfl
def zJ (ca m:Nat)(W:List Fm)(hS:SpOk ca W)(tw:Tag)(xw:List IV)(ag:okEs tw 4)(ak:IsFms W xw)(ln:Ln)(G:LnOk W ln)(x:IV)(hx:IsLn ln x)(st:ISt) :
  ICall prog gl 92 [spI ca tw xw m,x] st (λr st'=>(∃z,r=.tup [.raw (.int .u8 (((axW W ln).getD (0,fm0)).1:Int)),z,.raw (.bool (axW W ln).isSome)]/\IsFm ((axW W ln).getD (0,fm0)).2 z)/\st'=st):=by
 obtain⟨t1,t2,rfl,e1,e2⟩:=hx;have aF:=nZ G.1.1 G.1.2;have aE:=nZ G.2.1 G.2.2;have aG:=hS.len;have ao:=λn st=>Og gl ln.2 t2 e2 G.2.1 (by omega) n st;refine iI func92 ?_;simp only[go_sem,zE,fM];intro _;refine dt ln.1.length (λk fr st' ds=>(ln.1.take k).find? (λi=>decide (i∈ln.2))=none/\fr 0=(spI ca tw xw m)/\fr 3=.box [.sl t1 (dO ln.1),.sl t2 (dO ln.2)]/\(∃c,fr 5=.box c/\c.length=4) /\
  fr 14=.iv (.sl t1 (dO ln.1))/\fr 15=ln.1.length/\fr 16=(k:Int)/\st'=st/\ds=[]) ?_ ?_ ?_
 ·simp only[go_sem,zE,reduceCtorEq];exact⟨rfl,⟨_,rfl,rfl⟩,rfl⟩
 ·rintro k fr ah _ E ⟨J,f0,f3,⟨c5,f5,D⟩,f14,f15,f16,rfl,rfl⟩;obtain⟨a,ha⟩:=dD E;obtain⟨g,hg⟩:=G.1.get (lMg ha);have am:=(lGs hg).1;obtain⟨q1,q2⟩:=Oh J ha;simp only[go_sem,zE,zA,f3,f14,f15,f16,lt_i E,dB e1,iNn,kW ha,fits];refine (ao a _).mono ?_;rintro _ st ⟨⟨i,rfl⟩,rfl⟩;by_cases ac:a∈ln.2
  ·have O:axW W ln=some (1,g):=by unfold axW;rw[q1 (dEt ac)];simp[hg]
   obtain⟨y,ab,hy⟩:=ak.get hg;have an:=λst=>mZ gl g y hy (by have:=hS.size (lMg hg);omega) st;obtain⟨y1,y2,y3,y4,y5,y6,rfl⟩:=hy.agg;simp only[go_sem,zE,zB,zA,reduceCtorEq,f0,dEt ac,fits,ab,dB ag,iNn];refine (an _).mono ?_;rintro z _ ⟨hz,rfl⟩;have ai:=hz.1;obtain⟨z1,z2,z3,z4,z5,z6,rfl⟩:=ai.agg;simp only[go_sem,zE,zA,zL,f5,D];rw[O];refine c_ ⟨⟨_,rfl,?_⟩,rfl⟩;exact ai
  ·simp only[go_sem,zE,reduceCtorEq,f0,f3,f5,f14,f15,f16,dEf ac,dL E (by omega)];exact⟨q2 (dEf ac),_,rfl,D⟩
 ·rintro fr ah _ ⟨J,f0,f3,⟨c5,f5,D⟩,f14,f15,f16,rfl,rfl⟩;rw[lTl] at J;simp only[go_sem,zE,f3,f15,f16,dS (nLi _),fM];intro _;refine dt ln.1.length (λk fr st' ds=>((ln.1.take k).any λi=>jU ((W[i]?).getD fm0))=false/\fr 0=(spI ca tw xw m)/\(∃c,fr 5=.box c/\c.length=4) /\
   fr 38=.iv (.sl t1 (dO ln.1))/\fr 39=ln.1.length/\fr 40=(k:Int)/\st'=ah/\ds=[]) ?_ ?_ ?_
  ·simp only[go_sem,zE,reduceCtorEq];exact⟨rfl,f0,⟨_,f5,D⟩,rfl⟩
  ·rintro k fr st _ E ⟨aa,f0,⟨c5,f5,D⟩,f38,f39,f40,rfl,rfl⟩;obtain⟨a,ha⟩:=dD E;obtain⟨g,hg⟩:=G.1.get (lMg ha);have am:=(lGs hg).1;obtain⟨y,ab,hy⟩:=ak.get hg;obtain⟨y1,y2,y3,y4,y5,y6,rfl⟩:=hy.agg;obtain rfl:y1=g.op:=FP hy;have al:(ln.1.take (k+1)).any (λi=>jU ((W[i]?).getD fm0))=decide (g.op=2):=by
    rw[dM ha,List.any_append,aa,List.any_cons,List.any_nil,hg,<- F1 g];simp
   by_cases h2:g.op=2
   ·have O:axW W ln=some (2,.mk 2 noN [] []):=by
     unfold axW;rw[J];simp only;rw[cX (gk.2 ⟨a,lMg ha,by rw[hg];simp[F1,h2]⟩)]
    simp only[go_sem,zE,zA,zL,reduceCtorEq,f0,f5,f38,f39,f40,lt_i E,dB e1,iNn,kW ha,fits,ab,dB ag,dEt (show (g.op:Int)=2 by omega),D];rw[O];refine c_ ⟨⟨_,rfl,?_⟩,rfl⟩;simp only[IsFm,ez];exact⟨_,_,_,_,rfl,by omega,.inl rfl,by simp only[IsTms],.inl rfl,by simp only[IsFms]⟩
   ·simp only[go_sem,zE,reduceCtorEq,f0,f5,f38,f39,f40,lt_i E,dB e1,iNn,kW ha,fits,ab,dB ag,dEf (show ¬ (g.op:Int)=2 by omega),dL E (by omega)];exact⟨by rw[al];exact dEf h2,_,rfl,D⟩
  ·rintro fr st _ ⟨aa,f0,⟨c5,f5,D⟩,f38,f39,f40,rfl,rfl⟩;rw[lTl] at aa;have O:axW W ln=none:=by
    unfold axW;rw[J];simp only;rw[a_ (by rw[aa];simp)]
   simp only[go_sem,zE,zA,zL,f5,f39,f40,dS (nLi _),D];rw[O];refine c_ ⟨⟨_,rfl,?_⟩,rfl⟩;simp only[IsFm,fj,fm0];exact⟨_,_,_,_,rfl,by omega,.inl rfl,by simp only[IsTms],.inl rfl,by simp only[IsFms]⟩
def b3 (p:Nat×Bool):List UInt8:=[UInt8.ofNat (p.1 / 65536),UInt8.ofNat (p.1 / 256),UInt8.ofNat p.1]
def keyL (ln:Ln):List UInt8:=(plcs ln).flatMap b3++[UInt8.ofNat ln.1.length]
def keyB (ln:Ln):ByteArray:=⟨(keyL ln).toArray⟩
def byI (l:List UInt8):List IV:=l.map λu=>.raw (.int .u8 (u.toNat:Int))
def F4:∀l:List UInt8,k8 (byI l)=some l
 | []=>rfl
 | u::l=>by
  show k8 (.raw (.int .u8 (u.toNat:Int))::byI l)=_;rw[Im,F4 l];rfl
def kw (k:Nat):IntKind.u8.wrap ((k:Nat):Int)=((UInt8.ofNat k).toNat:Int):=by
 simp[IntKind.wrap,IntKind.bits,IntKind.signed]
def ks8 (k:Nat):Int.fdiv (k:Int) (2 ^ min (Int.toNat 8) 64)=((k / 256:Nat):Int):=by
 rw[show (2:Int) ^ min (Int.toNat 8) 64=((256:Nat):Int) from rfl];exact (Int.ofNat_fdiv k 256).symm
def ks16 (k:Nat):Int.fdiv (k:Int) (2 ^ min (Int.toNat 16) 64)=((k / 65536:Nat):Int):=by
 rw[show (2:Int) ^ min (Int.toNat 16) 64=((65536:Nat):Int) from rfl];exact (Int.ofNat_fdiv k 65536).symm
def Oi (a b c:Operand):la 3 [(0,a),(1,b),(2,c)]=true:=rfl
def Oj (ln:Ln)(x:IV)(hx:IsLn ln x)(hl:ln.1.length<=1000000/\ln.2.length<=1000000)(st:ISt) :
  ICall prog gl 126 [x] st (λr st'=>r=(keyB ln:ByteArray)/\st'=st):=by
 have ab:=λst=>FX gl ln x hx st;have hp1:=λI=>FY gl ln x hx ⟨by omega,by omega⟩ I;obtain⟨t1,t2,rfl,e1,e2⟩:=hx;have J:=λn:Int=>me prog 3 5 mh Cm .i64 n;refine ICall.intro (c:=cf prog gl [3] []) func126 rfl (by show _<=30;simp) (by kernel_rfl) ?_;simp only[go_sem,zE];refine λb=>d_ λhb=>?_;refine (ab _).q ?_;simp only[go_sem,reduceCtorEq];refine RangeC.intro (plX ln) (plcs ln).length (λk st'=>∃t,st' b=some (.box [.sl t (byI (((plcs ln).take k).flatMap b3))])/\own st' t (3*k) 1 st/\subSt st st') (λ_ _=>False) (by simp only[go_sem]) ?_ ⟨_,b_ _ _ _,own.nil _ _ _ _ _,fb hb⟩ ?_ (hp1 _) ?_ (λ_ _ _ h=>h.elim)
 ·rintro k a ⟨p,_,rfl⟩;rfl
 ·rintro k _ G ⟨⟨i,r⟩,hp,rfl⟩ ⟨t,h1,h2,h3⟩;simp only[go_sem,zE,zA,zM,zL,fits,h1,J,show ((0:Int)<=8)=True from eT (by omega),show ((0:Int)<=16)=True from eT (by omega),ks8,ks16,kw,Oi];have aq:k<ln.1.length+ln.2.length:=by rw[<- sv];exact (lGs hp).1
  have D:(byI (((plcs ln).take k).flatMap b3)).length=3*k:=by
   rw[byI,dP];have:∀l:List (Nat×Bool),(l.flatMap b3).length=3*l.length:=λl=>by
    induction l with
    | nil=>rfl
    | cons a l O=>rw[eo,lLa,O,dX];show 3+_=_;omega
   rw[this,dU,sv];omega
  refine DQ (m:=3) h2 D rfl h3 rfl (by simp[fits,IV.one]) (by simp only;omega) (by omega) λt' E h4 h5 h6=>?_;have h7:E b=some (.box [.sl t (byI (((plcs ln).take k).flatMap b3))]):=h6 b _ h1 λn h=>by cases h
  simp only[go_sem,zE,zL,h7];refine⟨t',?_,?_,eG h5 hb⟩
  ·rw[dM hp,ix];simp only[byI,eQ];rfl
  ·rw[show 3*(k+1)=3*k+3 by omega];exact h4.mono λg hg _=>by
    rw[dz λh=>by rw[h,h7] at hg;cases hg];exact hg
 ·rintro G rr ⟨t,h1,h2,h3⟩;rw[lTl] at h1;simp only[go_sem,zE,zA,zM,zL,h1,fits,fM,J,kw,eh];intro _;have D:(byI ((plcs ln).flatMap b3)).length=3*(plcs ln).length:=by
   rw[byI,dP];have:∀l:List (Nat×Bool),(l.flatMap b3).length=3*l.length:=λl=>by
    induction l with
    | nil=>rfl
    | cons a l O=>rw[eo,lLa,O,dX];show 3+_=_;omega
   exact this _
  have ao:=sv ln;refine DQ (m:=1) h2 D rfl h3 rfl (by simp[fits,IV.one]) (by simp only;omega) (by omega) λt' E h4 h5 h6=>?_;have af:k8 (byI ((plcs ln).flatMap b3)++[.raw (.int .u8 ((UInt8.ofNat ln.1.length).toNat:Int))])=some (keyL ln):=by
   have:=F4 (keyL ln)
   rwa [keyL,byI,eQ] at this
  have ac:¬ keyL ln=[]:=by unfold keyL;simp
  have an:(keyL ln).toArray.size<=281474976710656:=by
   unfold keyL;rw[List.size_toArray,lLa];rw[byI,dP] at D;rw[D];simp only[dX,ee];omega
  simp only[go_sem,af,ac,Option.bind_some];exact eI h5 ⟨rfl,rfl⟩
def Ol {a b:Ln}(ha:(∀i∈a.1,i<16777216)/\∀i∈a.2,i<16777216)(hb:(∀i∈b.1,i<16777216)/\∀i∈b.2,i<16777216)(hl:a.1.length<256/\b.1.length<256)(h:keyB a=keyB b):a=b:=by
 have h1:keyL a=keyL b:=by
  have:=dZ (λx:ByteArray=>x.data.toList) h;simpa[keyB] using this
 unfold keyL at h1;have h2:=List.append_inj_left' h1 rfl;have h3:=List.append_inj_right' h1 rfl;have D:∀n,n<16777216->(UInt8.ofNat (n / 65536)).toNat*65536+(UInt8.ofNat (n / 256)).toNat*256+(UInt8.ofNat n).toNat=n:=λn hn=>by
  simp only[ji];omega
 have key:∀(l m:List (Nat×Bool)),(∀p∈l,p.1<16777216)->(∀p∈m,p.1<16777216)->l.flatMap b3=m.flatMap b3->l.map (·.1)=m.map (·.1):=λl=>by
  induction l with
  | nil =>
   intro m _ _ h;cases m with
   | nil=>rfl
   | cons p m=>simp[b3] at h
  | cons p l ih =>
   intro m hl G h;cases m with
   | nil=>simp[b3] at h
   | cons q m =>
    rw[eo,eo] at h;simp only[b3,eu,fa,jF] at h;obtain⟨e1,e2,e3,h⟩:=h;have n1:=D p.1 (hl p (.head _));have n2:=D q.1 (G q (.head _));rw[e1,e2,e3,n2] at n1;rw[ec,ec,ih m (λx J=>hl x (.tail _ J)) (λx J=>G x (.tail _ J)) h,n1]
 have E:∀c:Ln,(∀i∈c.1,i<16777216)/\(∀i∈c.2,i<16777216)->∀p∈plcs c,p.1<16777216:=λc hc p hp=>by
  rcases dQ.1 hp with hp|hp
  ·obtain⟨i,O,rfl⟩:=dH.1 hp;exact hc.1 i O
  ·obtain⟨i,O,rfl⟩:=dH.1 hp;exact hc.2 i O
 have h4:=key (plcs a) (plcs b) (E a ha) (E b hb) h2;have G:∀c:Ln,(plcs c).map (·.1)=c.1++c.2:=λc=>by simp[plcs,Function.comp_def]
 rw[G,G] at h4;have h5:a.1.length=b.1.length:=by
  have:=dZ UInt8.toNat (List.cons.inj h3).1;simp only[ji] at this;omega
 exact Prod.ext (List.append_inj_left h4 h5) (List.append_inj_right h4 h5)
end Go.Proofs.Tryz
namespace Go.Iv
open Go
def ICallV.sub {P:Program}{gl:Nat->Option IV}{f:IV}{args:List IV}{st D:ISt}{K:IV->ISt->Prop}(h:ICallV P gl f args D K)(hs:subSt D st):ICallV P gl f args st K:=by
 intro B X fv rs O hst hf hv;obtain⟨G,E⟩:=O.sub (st:=D) (by rw[hst];exact hs);refine (h B { X with st:=D } fv rs G rfl (E.v hf) ⟨hv.1,λi r c J hc=>E.v (hv.2 i r c J hc)⟩).mono λv w' he=>?_;obtain⟨X',x,h1,h2,h3,h4,h5⟩:=he;exact⟨X',x,h1,h2,E.trans h3,h4,h5⟩
def YieldL.none {P:Program}{gl:Nat->Option IV}{y:IV}{xs:Nat->List IV->Prop}{I:Nat->ISt->Prop}{S:ISt->Prop}(h:YieldL P gl y (pF xs) I S){k:Nat}{a:List IV}{stu:ISt}(D:xs k a)(G:I k stu) :
  ICallV P gl y a stu λr st'=>(r=true/\I (k+1) st')\/(r=false/\S st') :=
 (h k a (λ_=>Option.none) stu ⟨D,rfl⟩ (λ_ J=>absurd rfl J) G).mono λr st' E=>E.imp (λ⟨h1,s1,h2,_,O⟩=>⟨h1,O▸h2⟩) id
