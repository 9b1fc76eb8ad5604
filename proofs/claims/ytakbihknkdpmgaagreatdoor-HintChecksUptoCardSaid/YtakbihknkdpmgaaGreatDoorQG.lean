/- Walks: the places of goals; the step at -/
import Derived.Test.YtakbihknkdpmgaaGreatDoorQF
set_option linter.all false
open Nat renaming reduceEqDiff → zE,reduceBEq → zB,reduceAdd → zA,reduceMul → zM,reduceSub → zS,reduceLeDiff → zL
namespace Go.Proofs.Tryz
open Go Go.Iv
set_option maxRecDepth 4000
variable (gl:Nat->Option IV)
def PU {g cap:Nat}{p:List Nat}{cs:List IV}(hl:p.length<=1099511627776)(h1:p.length<=cap)(h2:cap<=cs.length)(G:cs.take p.length=plI p):Lents (emp.put g (some (.box cs))) [.raw (.slice (some ⟨g,0,none⟩) p.length cap)] [.sl ⟨false,.app g,1⟩ (plI p)]:=by
 refine⟨_,_,rfl,.inr ⟨.sl ⟨true,.app g,1⟩ (plI p),?_,?_⟩,rfl⟩
 ·rw[<- ir p];refine .sl g cap ⟨true,.app g,1⟩ (plI p) cs rfl (by rw[ir];omega) (by rw[ir];exact h1) (λx A=>?_) (b_ ..) (by simpa using h2) λi r c D hc=>?_
  ·obtain⟨i,_,rfl⟩:=dH.1 A;rfl
  ·rw[zY p] at hc;have E:i<p.length:=by
    have:=(lGs hc).1
    rwa [ir] at this
   have:(cs.take p.length)[i]?=cs[i]?:=by rw[gg,cV E]
   rw[G,hc,D] at this;cases this;exact .refl _
 ·simp only[age,vn]
def PV {g:Nat}{cs:List IV}:j0 (emp.put g (some (.box cs)))=emp:=by
 funext b;by_cases A:b=g
 ·rw[A,rf (b_ ..)];rfl
 ·have:(emp.put g (some (.box cs))) b=none:=by rw[ISt.put_apply,a_ A];rfl
  rw[tN (λcs' h=>by rw[this] at h;cases h),this];rfl
def PW (J:∀g x,gl g=some x->age x=x)(p:List Nat)(a:IV)(e s:ISt)(hp:PlV p a e)(hl:p.length<=1099511627776)(hd:disj s e):ICall prog gl 39 [a] (join s e) (λr st'=>(∃A,r=.sl A (plI p)/\okEs A 1)/\st'=join s e):=by
 have key:ICall prog gl 39 [a] e (λr st'=>st'=e/\∃A,r=.sl A (plI p)/\okEs A 1):=by
  rcases hp with⟨t,rfl,ht,rfl,rfl⟩|⟨g,cap,cs,rfl,rfl,h1,h2,h3⟩
  ·exact (PG gl t ht emp).mono λr st' ⟨⟨A,h,G⟩,h2⟩=>⟨h2,A,h,G.1⟩
  ·refine sB (K:=λr=>∃A,r=.sl A (plI p)/\okEs A 1) (λb o D=>?_) J (PU hl h1 h2 h3) ?_
   ·rw[ISt.put_apply] at D;split at D
    ·cases D;exact .inl ⟨_,rfl⟩
    ·cases D
   ·rw[PV,show ages [.sl ⟨false,.app g,1⟩ (plI p)]=[.sl ⟨false,.app g,1⟩ (plI p)] by simp only[ages,age,vn]];have O:∀r (st':ISt),((∃A,r=.sl A (plI p)/\okN A)/\st'=emp)->st'=emp/\Newly r/\∃A,r=.sl A (plI p)/\okEs A 1:=λr st' ⟨⟨A,h,G⟩,h2⟩=>by
     subst h;exact⟨h2,.sl G.2 λx U=>by obtain⟨i,_,rfl⟩:=dH.1 U;exact⟨_,rfl⟩,A,rfl,G.1⟩
    by_cases E:p=[]
    ·subst E;exact (PI gl g emp).mono O
    ·exact (PH gl g p E hl emp).mono O
 have h1:=key.frame (own:=s) (λb D=>by
  cases he:e b with
  | none=>rfl
  | some o=>exact absurd (hd b (by rw[he];simp)) D)
 rw[GP hd];refine h1.mono ?_;rintro r st' ⟨stu,_,rfl,rfl,h⟩;exact⟨h,rfl⟩
def PX {e st':ISt}(h:subSt e st'):∃s1,disj s1 e/\st'=join s1 e/\∀b,e b=none->s1 b=st' b:=by
 refine⟨λb=>match e b with|none=>st' b|some _=>none,λb D=>?_,?_,λb D=>by simp only[D]⟩
 ·cases A:e b with
  | none=>exact absurd A D
  | some o=>simp only[A]
 ·funext b;cases A:e b with
  | none=>rw[fO A];simp only[A]
  | some o=>rw[eS A,h b o A]
def vq {s e:ISt}{b:Nat}{o:IObj}(hd:disj s e)(h:s b=some o):e b=none:=by
 cases A:e b with
 | none=>rfl
 | some _=>rw[hd b (by rw[A];simp)] at h;cases h
def oU (l:List (List Nat))(ys:List IV):Prop:=AllR (λp y=>∃t,y=.sl t (plI p)/\okEs t 1) l ys
def GoI (st:ISt)(b:Nat)(l:List (List Nat))(s:ISt):Prop:=∃t ys,s b=some (.box [.sl t ys])/\own s t ys.length 1 st/\subSt st s/\oU l ys
def qy (w:List (List Nat×Tr)):List (List Nat):=(w.filter λq=>gZ q.2).map (·.1)
def PY {w:List (List Nat×Tr)}{p:List Nat}{t:Tr}:qy (w++[(p,t)])=if gZ t=true then qy w++[p] else qy w:=by
 unfold qy;rw[List.filter_append,eJ];by_cases h:gZ t=true
 ·rw[cV h];simp[h]
 ·rw[a_ h];simp[h]
def GoJ (a:IV)(b:Nat)(p:List Nat)(D:Tag)(ys:List IV)(S0 S:ISt)(A:Array Bool):Kt:=λad fr st ds=>(∀s,ad s=none)/\ds=[]/\fr 3=(pt b)/\fr 4=a/\(A.getD 0 false=true->fr 19=.iv (.sl D ys))/\(A.getD 1 false=true->fr 20=a) /\
 (A.getD 2 false=true->∃t,okEs t 1/\fr 21=.iv (.sl t (plI p)))/\(A.getD 3 false=true->∃t,okEs t 1/\fr 22=.iv (.sl ⟨true,.full,1⟩ [.sl t (plI p)])) /\
 (A.getD 4 false=true->A.getD 0 false=true/\A.getD 2 false=true)/\(A.getD 4 false=false->st=S) /\
 (A.getD 4 false=true->∃t u,okEs t 1/\fr 23=.iv (.sl u (ys++[.sl t (plI p)]))/\own st u (ys.length+1) 1 S0/\subSt S0 st/\∃c,st b=some (.box [c])/\(A.getD 5 false=true->c=.sl u (ys++[.sl t (plI p)])))/\(A.getD 5 false=true->A.getD 4 false=true)/\(A.getD 3 false=true->A.getD 2 false=true)
def z_ (aO:∀g x,gl g=some x->age x=x)(t:Tr)(x:IV)(hx:IsTr t x)(hs:t.steps<=1000000)(st:ISt):ICall prog gl 14 [x] st (λr st'=>(∃tg ys,r=.sl tg ys/\okEs tg 1/\oU (e_ t) ys)/\st'=st):=by
 have hh:=dT t.height_le_steps hs;have hst:=λst=>GW gl x st t hx;have aN:=λI=>GV gl t x hx (by omega) I;obtain⟨rule,tl,xl,tr,xr,op,fn,ta,xa,tb,xb,v,un,tu,xu,n,ts,xs,rfl⟩:=eT hx;refine ICall.intro (c:=cf prog gl [3,19] [(6,[])] [1]) func14 rfl (by show _<=25;simp) (by kernel_rfl) ?_;simp only[go_sem,zE,zA,fits,IV.one];intro b;refine d_ λhb=>?_;refine (hst _).q ?_;simp only[go_sem,reduceCtorEq];refine RangeL.intro (lkW (λx=>x) (t.walk [])) (t.walk []).length (λk s=>GoI st b (qy ((t.walk []).take k)) s) (λe s=>False) rfl ?_ ?_ ?_ (aN _) ?_ ?_
 ·rintro k a e ⟨p,u,a,y,_,_,_,rfl⟩;rfl
 ·exact⟨_,[],b_ ..,own.nil ..,ff hb,AllR.nil⟩
 ·rintro k _ e s ⟨p,z,a,y,al,hz,hp,rfl⟩ hd ⟨tg,ys,c3,J,G,hys⟩;have ab:disj s e:=hd;have r3:=ix ab _ _ c3;have aH:=oT [] t _ (lMg al);simp only[dU] at aH;have aS:=PW gl aO p a e s hp (by omega) ab;have ae:ivOf a=some a:=by rcases hp with⟨t,rfl,_⟩|⟨g,cap,cs,rfl,_⟩<;>rfl
  have aK:=(lGs al).1;rw[sv] at aK;rw[dE al,PY];obtain⟨U,bi,f',u',n',aq⟩:=z;obtain⟨bf,a7,be,a6,bk,bu,bh,ba,bg,a8,v',bb,bc,a1,bd,ao,rfl,_,_,_,_,_,_,_,bw,aE⟩:=hz.mk;have aJ:=aE.len;by_cases h0:U=0
  ·have d0:decide ((U:Int)=0)=true:=dEt (by omega);by_cases h1:aq=[]
   ·have d1:decide ((ao.length:Int)=0)=true:=by rw[aJ,h1];rfl
    rw[cV (by simp[gZ,h0,h1])];simp only[go_sem,zE,zA,zL,d0,d1,ae];intro _;have bq:ys.length<=k:=by
     rw[hys.1];unfold qy;rw[dY];refine dT (iU ..) ?_;rw[dQ];omega
    have aM:(join st e) b=none:=by rw[fO (vq ab c3)];exact hb
    have aG:subSt (join st e) (join s e):=λc o h=>by
     cases he:e c with
     | some o'=>rw[eS he] at h ⊢;exact h
     | none=>rw[fO he] at h ⊢;exact G c o h
    have aI:own (join s e) tg ys.length 1 (join st e):=by
     rcases J with h|h|⟨g,h1,h2,h3⟩
     ·exact .inl h
     ·exact .inr (.inl h)
     ·exact .inr (.inr ⟨g,h1,ix ab _ _ h2,by rw[fO (vq ab h2)];exact h3⟩)
    rw[BY];refine wM (GoJ a b p tg ys (join st e) (join s e)) ?_ ?_ _ _ _ _ _ _ rfl ?_
    ·intro A ad fr aC ds ah hJ i hi;replace ah:A.size=6:=ah;obtain⟨au,o,ho,D⟩:=mem_ready.1 hi;have bs:i<6:=(iF.1 ho).1;have aa:A.getD i false=false:=by
      rw[la,mu (by omega)] at au ⊢;exact au
     have e':∀j,(A.setIfInBounds i true).getD j false=if i=j then true else A.getD j false:=λj=>GX (by omega)
     obtain⟨O,rfl,f3,f4,g0,g1,g2,g3,g4,g5,g6,g7,g8⟩:=hJ;rcases (show i=0\/i=1\/i=2\/i=3\/i=4\/i=5 by omega) with rfl|rfl|rfl|rfl|rfl|rfl
     all_goals obtain rfl:_=o:=eE ho
     ·have h4:A.getD 4 false=false:=by
       cases h:A.getD 4 false with
       | false=>rfl
       | true=>rw[(g4 h).1] at aa;cases aa
      have h5:A.getD 5 false=true->False:=λh=>by rw[g7 h] at h4;cases h4
      obtain rfl:=g5 h4;simp only[go_sem,zE,ju,O,f3,pt,r3];simp only[GoJ,e',iteT,iteF,h4,reduceCtorEq,false_imp_iff,fu];exact⟨kM O _,trivial,f3,f4,rfl,g1,g2,g3,trivial,trivial,trivial,h5,g8⟩
     ·simp only[go_sem,ju,f4,ae];simp only[GoJ,e',zE,iteT,iteF,reduceCtorEq,fu];exact⟨kM O _,trivial,f3,f4,g0,rfl,g2,g3,g4,g5,g6,g7,g8⟩
     ·have h4:A.getD 4 false=false:=by
       cases h:A.getD 4 false with
       | false=>rfl
       | true=>rw[(g4 h).2] at aa;cases aa
      have h5:A.getD 5 false=true->False:=λh=>by rw[g7 h] at h4;cases h4
      obtain rfl:=g5 h4;replace g1:=g1 (D ⟨1,.data⟩ (by simp) rfl);simp only[go_sem,zE,zA,ju,g1,ae];refine aS.mono ?_;rintro _ _ ⟨⟨t',rfl,E⟩,rfl⟩;simp only[go_sem];simp only[GoJ,e',zE,iteT,iteF,h4,reduceCtorEq,false_imp_iff,fu];exact⟨kM O _,trivial,f3,f4,g0,λ_=>g1,⟨t',E,rfl⟩,g3,trivial,trivial,trivial,h5,λ_=>trivial⟩
     ·obtain⟨t',E,aX⟩:=g2 (D ⟨2,.data⟩ (by simp) rfl);simp only[go_sem,zE,zM,zL,ju,aX];simp only[GoJ,e',zE,iteT,iteF,reduceCtorEq,fu];exact fJ rfl ⟨kM O _,trivial,f3,f4,g0,g1,g2,⟨t',E,rfl⟩,g4,g5,g6,g7,D ⟨2,.data⟩ (by simp) rfl⟩
     ·replace g0:=g0 (D ⟨0,.data⟩ (by simp) rfl);obtain⟨t',E,aA⟩:=g3 (D ⟨3,.data⟩ (by simp) rfl);have h2:=g8 (D ⟨3,.data⟩ (by simp) rfl);obtain rfl:=g5 aa;simp only[go_sem,zE,zA,ju,g0,aA];refine jN aI rfl aG rfl (by simp[fits,IV.one]) (by simp only;omega) (by omega) λu st4 o4 s4 k4 _=>?_;simp only[go_sem,zE,reduceCtorEq,GoJ,e',iteT,iteF,false_imp_iff,fu];exact⟨kM O _,f3,f4,λ_=>g0,g1,g2,λ_=>⟨t',E,aA⟩,⟨D ⟨0,.data⟩ (by simp) rfl,h2⟩,⟨t',u,E,rfl,o4,s4,_,k4 b _ r3 nofun,λh=>by rw[g7 h] at aa;cases aa⟩,λ_=>trivial,g8⟩
     ·obtain⟨t',u,E,f23,ak,ai,c,hc,_⟩:=g6 (D ⟨4,.data⟩ (by simp) rfl);have h4:=D ⟨4,.data⟩ (by simp) rfl;simp only[go_sem,zL,ju,O,f23,f3,pt,hc];simp only[GoJ,e',zE,iteT,iteF,h4,reduceCtorEq,false_imp_iff,fu];exact⟨O,trivial,f3,f4,g0,g1,g2,g3,g4 h4,trivial,⟨t',u,E,f23,ak.mono λg hg _=>by rw[dw (λh=>by rw[h,hc] at hg;cases hg)];exact hg,eA ai aM,_,b_ ..,rfl⟩,trivial,g8⟩
    ·intro A ad fr aC ds ah hr hJ;have hl:=GY (by decide) ah hr;obtain⟨_,rfl,_,_,_,_,_,_,_,_,g6,_,_⟩:=hJ;obtain⟨t',u,E,_,ak,ai,c,hc,aT⟩:=g6 (hl 4 (by decide));obtain rfl:=aT (hl 5 (by decide));obtain⟨s1,d1,rfl,k1⟩:=PX (join_sub'.trans ai);have aL:∀c,(join st e) c=none->e c=none/\st c=none:=λc h=>by
      cases he:e c with
      | some o=>rw[eS he] at h;cases h
      | none=>rw[fO he] at h;exact⟨rfl,h⟩
     simp only[go_sem];refine⟨s1,⟨u,_,by rw[k1 b (vq ab c3)];exact hc,?_,λc o h=>?_,hys.snoc ⟨t',rfl,E⟩⟩,d1,rfl⟩
     ·rw[lLa];rcases ak with⟨h,_⟩|h|⟨g,h1,h2,h3⟩
      ·omega
      ·exact .inr (.inl h)
      ·obtain⟨j1,j2⟩:=aL g h3;exact .inr (.inr ⟨g,h1,by rw[k1 g j1];exact h2,j2⟩)
     ·have he:=vq ab (G c o h);rw[k1 c he];exact ai c o (by rw[fO he];exact h)
    ·exact⟨λ_=>rfl,rfl,rfl,rfl,nofun,nofun,nofun,nofun,nofun,λ_=>rfl,nofun,nofun,nofun⟩
   ·have d1:decide ((ao.length:Int)=0)=false:=dEf (by have:=kj.2 h1;omega);rw[a_ (by simp[gZ,h1])];simp only[go_sem,zE,zA,zL,d0,d1,ae];intro _;exact⟨s,⟨tg,ys,c3,J,G,hys⟩,hd,rfl⟩
  ·have d0:decide ((U:Int)=0)=false:=dEf (by omega);rw[a_ (by simp[gZ,h0])];simp only[go_sem,zE,zA,zL,d0,ae];exact⟨s,⟨tg,ys,c3,J,G,hys⟩,hd,rfl⟩
 ·rintro s r ⟨tg,ys,c3,J,G,hys⟩;rw[lTl] at hys;simp only[go_sem,zE,c3];exact ez G ⟨⟨tg,ys,rfl,J.es,hys⟩,rfl⟩
 ·rintro e s r ⟨⟩
def okP:Tr->List Nat->Prop
 | _,[]=>True
 | .mk _ _ _ _ _ sub,i::p=>∃s,sub[i]?=some s/\okP s p
def Aa:∀ {p l:List Nat}{t:Tr},okP t (p++l)->okP (atT t p) l/\atT t (p++l)=atT (atT t p) l
 | [],l,t,h=>⟨h,by simp only[eY,atT]⟩
 | i::p,l,.mk r s f u n sub,h=>by
  obtain⟨z,h1,h2⟩:=h;simp only[ed,atT,h1];exact Aa h2
mutual
def Ab:∀(q:List Nat)(t:Tr)(p:List Nat)(z:Tr),(p,z)∈t.walk q->∃p',p=q++p'/\okP t p'/\atT t p'=z
 | q,.mk r s f u n sub,p,z,h=>by
  simp only[Tr.walk,dN,Prod.mk.injEq] at h;rcases h with⟨rfl,rfl⟩|h
  ·exact⟨[],by simp,trivial,rfl⟩
  ·obtain⟨i,a,p',_,h1,h2,D,A⟩:=G5 q 0 sub p z h;rw[iZ] at h2;exact⟨i::p',h1,⟨a,h2,D⟩,by simp only[atT,h2];exact A⟩
def G5:∀(q:List Nat)(j:Nat)(l:List Tr)(p:List Nat)(z:Tr),(p,z)∈ek q j l->∃i a p',j<=i/\p=q++i::p'/\l[i-j]?=some a/\okP a p'/\atT a p'=z
 | _,_,[],p,z,h=>by simp[ek] at h
 | q,j,a::l,p,z,h=>by
  simp only[ek,dR] at h;rcases h with h|h
  ·obtain⟨p',h1,h2,A⟩:=Ab (q++[j]) a p z h;exact⟨j,a,p',dJ _,by rw[h1,en];rfl,by simp,h2,A⟩
  ·obtain⟨i,b,p',h0,h1,h2,A,D⟩:=G5 q (j+1) l p z h;exact⟨i,b,p',by omega,h1,by rw[show i-j=i-(j+1)+1 by omega];exact h2,A,D⟩
end
def Ac:∀ {p l:List Nat}{t:Tr},okP t (p++l)->okP t p
 | [],_,_,_=>trivial
 | i::p,l,.mk r s f u n sub,h=>by
  obtain⟨z,h1,h2⟩:=h;exact⟨z,h1,Ac h2⟩
abbrev z12:List IV:=[.raw (.int .u8 0),.sl ⟨true,.nil,0⟩ [],.sl ⟨true,.nil,0⟩ [],.raw (.int .u8 0),.raw (.string ⟨#[]⟩),.sl ⟨true,.nil,0⟩ [],.sl ⟨true,.nil,0⟩ [],.raw (.bool false),.raw (.string ⟨#[]⟩),.sl ⟨true,.nil,0⟩ [],.raw (.string ⟨#[]⟩),.sl ⟨true,.nil,0⟩ []]
def at_c (t:Tr)(x:IV)(hx:IsTr t x)(p:List Nat)(hp:okP t p)(tg:Tag)(ax:okEs tg 1)(hl:p.length<=1000000)(st:ISt):ICall prog gl 51 [x,.sl tg (plI p)] st (λr st'=>IsTr (atT t p) r/\st'=st):=by
 have aw:=hx;obtain⟨rule,tl,xl,tr,xr,op,fn,ta,xa,tb,xb,v,un,tu,xu,n,ts,xs,rfl⟩:=eT hx;refine iI func51 ?_;simp only[go_sem,zE,ir];intro _;refine dj p.length (λk fr st' ds=>(∃c,fr 2=.box c/\IsTr (atT t (p.take k)) (.agg c))/\st'=st/\fr 4=.box z12/\fr 7=.iv (.sl tg (plI p))/\fr 8=(p.length:Int)/\fr 9=(k:Int)/\ds=[]) ?_ ?_ ?_
 ·simp only[go_sem,zE];exact⟨⟨_,rfl,aw⟩,rfl⟩
 ·rintro k fr ao _ D ⟨⟨c,f2,hc⟩,rfl,f4,f7,f8,f9,rfl⟩;obtain⟨i,hi⟩:=dB D;have aA:=GZ hi;have J:okP t (p.take k++i::p.drop (k+1)):=by
   have:=el k p;rw[fa D,(lGs hi).2] at this;rw[this];exact hp
  obtain⟨h1,_⟩:=Aa J;have O:atT t (p.take (k+1))=atT (atT t (p.take k)) [i]:=by
   rw[dE hi];have:=Aa (p:=p.take k) (l:=[i]) (t:=t) (by
    have ay:okP t ((p.take k++[i])++p.drop (k+1)):=by rw[en];exact J
    exact Ac ay)
   exact this.2
  generalize atT t (p.take k)=z at h1 hc O;obtain⟨E,aU,f',u',n',aC⟩:=z;obtain⟨z,hz,_⟩:=h1;obtain⟨ak,ac,aj,ab,au,aB,an,af,am,ae,v',ag,ah,U,ai,aa,A,_,_,_,_,_,_,_,e3,i3⟩:=hc.mk;injection A with A;subst A;obtain⟨y,hy,G⟩:=i3.get hz;have av:=G;obtain⟨aq,aQ,aI,tr2,aH,aV,aY,aT,aK,aS,aJ,v2,aM,aN,aF,n2,aO,aG,rfl⟩:=eT G;simp only[go_sem,zE,zB,zA,zL,f2,f4,f7,f8,f9,fits,lt_i D,dz ax,dz e3,iNn,aA,hy,dC D (by omega)];rw[O];exact⟨_,rfl,by simp only[atT,hz];exact av⟩
 ·rintro fr ao _ ⟨⟨c,f2,hc⟩,rfl,f4,f7,f8,f9,rfl⟩;rw[lTl] at hc;obtain⟨E,ak,ac,aj,ab,au,aB,an,af,am,ae,v',ag,ah,U,n',ai,aa,A⟩:=eT hc;injection A with A;subst A;simp only[go_sem,zE,zA,zL,f2,f4,f8,f9,z12,dF (nLi _)];exact c_ ⟨hc,rfl⟩
def G6:∀ {l:List Tr}{k i:Nat}{z:Tr}{p:List Nat}{x:List Nat×Tr},l[i]?=some z->x∈z.walk (p++[k+i])->x∈ek p k l
 | a::l,k,0,z,p,x,h,A=>by
  obtain rfl:a=z:=by simpa using h
  rw[ek];exact iX _ A
 | a::l,k,i+1,z,p,x,h,A=>by
  rw[ek];refine jD _ (G6 (l:=l) (k:=k+1) (i:=i) (by simpa using h) ?_);rw[show k+1+i=k+(i+1) by omega];exact A
def G7:∀(p:List Nat)(t:Tr)(q:List Nat),okP t p->(q++p,atT t p)∈t.walk q
 | [],.mk _ _ _ _ _ _,q,_=>by rw[eo];simp only[Tr.walk,atT];exact .head _
 | i::p,.mk r s f u n sub,q,⟨z,h1,h2⟩=>by
  have A:atT (.mk r s f u n sub) (i::p)=atT z p:=by simp only[atT,h1]
  rw[A];simp only[Tr.walk];refine .tail _ (G6 h1 ?_);have:=G7 p z (q++[i]) h2;rw[en] at this;rw[ee];exact this
def oV:IsTm tmZ (.agg [false,.raw (.string ⟨#[]⟩),()]):=⟨_,_,rfl,.inl rfl,rfl⟩
def PZ (t:Tr)(x:IV)(D:IsTr t x)(st:ISt):ICall prog gl 65 [x] st (λr st'=>r=(jP t:Bool)/\st'=st):=by
 obtain⟨rule,sq,f,u,n,sub⟩:=t;obtain⟨tl,xl,tr,J,op,fn,ta,U,tb,O,v,un,tu,G,ts,A,rfl,_,_,_,_,_,E,_,e3,i3⟩:=D.mk;have hS:=λst=>Ef gl f fm0 _ _ E qb st;have hl:=i3.len;refine iI func65 ?_;by_cases h0:rule=0
 ·have d0:decide ((rule:Int)=0)=true:=dEt (by omega);by_cases h1:sub=[]
  ·have d1:decide ((A.length:Int)=0)=true:=by rw[hl,h1];rfl
   simp only[go_sem,zE,zA,zL,d0,d1];intro _;refine (hS _).q ?_;simp only[go_sem,zE];exact c_ ⟨by simp[jP,h0,h1],rfl⟩
  ·have hp:0<sub.length:=kj.2 h1;have d1:decide ((A.length:Int)=0)=false:=dEf (by omega);simp only[go_sem,zE,d0,d1];intro _;exact c_ ⟨by simp[jP,h1],rfl⟩
 ·have d0:decide ((rule:Int)=0)=false:=dEf (by omega);simp only[go_sem,zE,zA,d0];exact c_ ⟨by simp[jP,h0],rfl⟩
def G8:∀(l:List Tr)(i:Nat),(∀a∈l,fW a.sq)->(∀q∈ek [] i (l.map λp=>goalT p.sq),oS q.2)/\lO (l.map λp=>goalT p.sq)<=1
 | [],_,_=>⟨nofun,fq _⟩
 | a::l,i,D=>by
  obtain⟨E,J⟩:=G8 l (i+1) λb G=>D b (.tail _ G);simp only[ec,ek,Tr.walk,lO,Tr.height];refine⟨λq A=>?_,by omega⟩;rcases dR.1 A with A|A
  ·rcases dN.1 A with rfl|A
   ·exact⟨D a (.head _),by show fm0.size<=1000000;decide,by show tmZ.size<=1000000;decide,nofun⟩
   ·cases A
  ·exact E q A
def P0 {t:Tr}(h:oS t):n_ (shal t):=by
 obtain⟨rule,sq,f,u,n,sub⟩:=t;obtain⟨h1,h2,_,D⟩:=h;have G:tmZ.size<=1000000:=by decide
 obtain⟨E,U⟩:=G8 sub 0 D;refine⟨λq A=>?_,?_⟩
 ·simp only[shal,Tr.walk] at A;rcases dN.1 A with rfl|A
  ·refine⟨h1,h2,G,λa O=>?_⟩;obtain⟨b,J,rfl⟩:=dH.1 O;exact D b J
  ·exact E q A
 ·simp only[shal,Tr.height];omega
def P1 (G:Gl gl)(T:Gt gl)(ca:Nat)(t:Tr)(x:IV)(hx:IsTr t x)(hn:oS t)(hl:t.steps<=1000000)(st:ISt):ICall prog gl 38 [.raw (.int .u8 (ca:Int)),x] st (λr st'=>r=(iu ca t:Bool)/\st'=st):=by
 have hg:=λst=>PZ gl t x hx st;have ai:=λy O st=>GS gl G T ca (shal t) y O (P0 hn) st;obtain⟨rule,sq,f,u,n,sub⟩:=t;have ah:=hn.1;obtain⟨tl,xl,tr,xr,op,fn,ta,xa,tb,xb,v,un,tu,xu,ts,xs,rfl,af,e1,i1,e2,i2,hf,_,e3,i3⟩:=hx.mk;have hv:=λst=>yS gl G ca sq _ ⟨_,_,_,_,rfl,e1,i1,e2,i2⟩ ah st;have aZ:=lY sub;simp only[Tr.steps] at hl;refine iI func38 ?_;simp only[go_sem,zE,zA,zL];refine (hg _).q ?_;cases hb:jP (.mk rule sq f u n sub)
 ·simp only[go_sem,zE,zA,zL,fits,i3.len];intro _;refine dj sub.length (λk fr st' ds=>(∃t y,fr 5=.box [.raw (.int .u8 rule),.sl tl xl,.sl tr xr,.raw (.int .u8 op),fn,.sl ta xa,.sl tb xb,false,.raw (.string ⟨#[]⟩),(),.raw (.string ⟨#[]⟩),.sl t y]/\own st' t k 12 st/\subSt st st'/\IsTrs ((sub.take k).map λp=>goalT p.sq) y/\y.length=k) /\
   fr 0=.iv (.raw (.int .u8 ca))/\fr 24=.iv (.sl ts xs)/\fr 25=(sub.length:Int)/\fr 26=(k:Int)/\ds=[]) ?_ ?_ ?_
  ·simp only[go_sem,zE,reduceCtorEq];exact⟨⟨_,_,rfl,own.nil ..,subSt.refl _,rfl,rfl⟩,rfl⟩
  ·rintro k fr U _ J ⟨⟨t,y,f5,D,A,O,E⟩,f0,f24,f25,f26,rfl⟩;obtain⟨a,ha⟩:=dB J;obtain⟨z,ag,hz⟩:=i3.get ha;obtain⟨aa,aV,f',u',n',au⟩:=a;obtain⟨aN,aE,aM,aD,aW,a7,aQ,aG,aO,aF,v',aJ,aK,aA,aL,aB,rfl,_,al,ac,ak,ab,_⟩:=hz.mk;simp only[go_sem,zE,zB,zA,zM,zL,f5,f24,f25,f26,fits,lt_i J,dz e3,iNn,ag,dW];refine gQ D E A rfl (by simp[fits,IV.one]) (by simp only;omega) (by omega) λt' aT w1 w2 w3=>?_;simp only[go_sem,zE,zA,zL,reduceCtorEq,f5,f0,f24,f25,f26,dC J (by omega)];refine⟨t',_,rfl,w1,w2,?_,by rw[lLa,E];rfl⟩;rw[dE ha,eJ,List.map_singleton];refine O.append ?_;simp only[IsTrs];exact⟨_,[],rfl,⟨_,_,_,_,_,_,_,_,_,_,_,_,_,_,_,_,rfl,by omega,al,ac,ak,ab,qb,oV,.inl rfl,rfl⟩,rfl⟩
  ·rintro fr U _ ⟨⟨t,y,f5,D,A,O,E⟩,f0,f24,f25,f26,rfl⟩;rw[lTl] at O;have ae:IsTr (shal (.mk rule sq f u n sub)) (.agg [.raw (.int .u8 rule),.sl tl xl,.sl tr xr,.raw (.int .u8 op),fn,.sl ta xa,.sl tb xb,false,.raw (.string ⟨#[]⟩),(),.raw (.string ⟨#[]⟩),.sl t y]) :=
    ⟨_,_,_,_,_,_,_,_,_,_,_,_,_,_,_,_,rfl,af,e1,i1,e2,i2,hf,oV,D.es,O⟩
   simp only[go_sem,zE,zA,zL,reduceCtorEq,f5,f0,f25,f26,dF (nLi _)];refine (ai _ ae _).mono ?_;rintro _ aU ⟨⟨tg,rfl,aY⟩,rfl⟩;by_cases h0:(gS ca (shal (.mk rule sq f u n sub))).2=0
   ·have d0:decide (((gS ca (shal (.mk rule sq f u n sub))).2:Int)=0)=true:=dEt (by omega);simp only[go_sem,zE,d0];exact ez A ⟨by simp[iu,hb,h0],rfl⟩
   ·have d0:decide (((gS ca (shal (.mk rule sq f u n sub))).2:Int)=0)=false:=dEf (by omega);simp only[go_sem,zE,d0,ir];intro _;refine ez A ⟨?_,rfl⟩;simp[iu,hb,h0]
 ·simp only[go_sem,zE,zA,zL,reduceCtorEq];refine (hv _).q ?_;simp only[go_sem];exact c_ ⟨by simp[iu,hb,Tr.sq],rfl⟩
mutual
def G9:∀(q:List Nat)(t:Tr)(x:List Nat×Tr),x∈t.walk q->x.2.steps<=t.steps
 | q,.mk _ _ _ _ _ sub,x,h=>by
  simp only[Tr.walk,dN] at h;rcases h with rfl|h
  ·exact dJ _
  ·have:=G_ q 0 sub x h;simp only[Tr.steps];omega
def G_:∀(q:List Nat)(i:Nat)(l:List Tr)(x:List Nat×Tr),x∈ek q i l->x.2.steps<=fj l
 | _,_,[],x,h=>by simp[ek] at h
 | q,i,a::l,x,h=>by
  simp only[ek,dR] at h;simp only[fj];rcases h with h|h
  ·have:=G9 (q++[i]) a x h;omega
  ·have:=G_ q (i+1) l x h;omega
end
def Ae (G:Gl gl)(T:Gt gl)(ca:Nat)(t:Tr)(x:IV)(hx:IsTr t x)(U:n_ t)(hs:t.steps<=1000000)(st:ISt):ICall prog gl 10 [.raw (.int .u8 (ca:Int)),x] st (λr st'=>(∃tg,r=.tup [.sl tg (plI (hCk ca t).1),((hCk ca t).2:Int)]/\okEs tg 1)/\st'=st):=by
 have hst:=λst=>GW gl x st t hx;have hN:=λst=>G4 gl t x hx (by omega) st;have ay:=λI=>GV gl t x hx U.2 I;obtain⟨rule,tl,xl,tr,xr,op,fn,ta,xa,tb,xb,v,un,tu,xu,n,ts,xs,rfl⟩:=eT hx;refine ICall.intro (c:=cf prog gl [2,4,5] [] [3]) func10 rfl (by show _<=27;simp) (by kernel_rfl) ?_;simp only[go_sem,zE,IV.one];intro b2;refine d_ λaA=>?_;intro b4;refine d_ λaa=>?_;intro b5;refine d_ λD=>?_;have af:b2≠b4:=by rintro rfl;rw[b_] at aa;cases aa
 have ac:b4≠b5:=by rintro rfl;rw[b_] at D;cases D
 have ak:b2≠b5:=by rintro rfl;rw[ISt.put_apply,a_ af,b_] at D;cases D
 rw[ISt.put_apply,a_ af.symm] at aa;rw[ISt.put_apply,a_ ac.symm,ISt.put_apply,a_ ak.symm] at D;obtain⟨s1,av,f2,f4,f5,O⟩:∃s1,s1=((st.put b2 (some (.box [.raw (.int .u8 ca)]))).put b4 (some (.box [()]))).put b5 (some (.box [(0:Int)]))/\s1 b2=some (.box [.raw (.int .u8 ca)])/\s1 b4=some (.box [()])/\s1 b5=some (.box [(0:Int)])/\subSt st s1 :=
  ⟨_,rfl,by simp only[ISt.put_apply,a_ af,a_ ak,dD],by simp only[ISt.put_apply,a_ ac,dD],by simp only[ISt.put_apply,dD],eA (eA (eA (subSt.refl st) aA) aa) D⟩
 rw[<- av];have g5:∀(s:ISt) o,(s.put b4 o) b5=s b5:=λs o=>by rw[ISt.put_apply,a_ ac.symm]
 have g4:∀(s:ISt) o o',((s.put b4 o).put b5 o') b4=o:=λs o o'=>by rw[ISt.put_apply,a_ ac,b_]
 have A:∀(s:ISt) o o',subSt st s->subSt st ((s.put b4 o).put b5 o'):=λs o o' h=>eA (eA h aa) D;by_cases hc:ca=1\/ca=2
 ·obtain⟨a,d1,d2⟩:∃a:Bool,decide ((ca:Int)=1)=a/\(a=false->decide ((ca:Int)=2)=true):=by
   rcases hc with rfl|rfl
   ·exact⟨true,rfl,nofun⟩
   ·exact⟨false,rfl,λ_=>rfl⟩
  cases a
  all_goals first
   | (replace d2:=d2 rfl;simp only[go_sem,zE,zA,f2,d1,d2,fits])
   | simp only[go_sem,zE,zA,f2,d1,fits]
  all_goals
   refine (hN _).q ?_;by_cases ae:300<t.steps
   ·have d3:decide ((300:Int)<(t.steps:Int))=true:=dEt (by omega);have hq:hCk ca t=([],5):=by unfold hCk;rw[cV hc,cV ae]
    simp only[go_sem,zE,zL,f4,f5,d3,g5,g4,b_];exact ez (A _ _ _ O) ⟨⟨_,by rw[hq];rfl,.inl rfl⟩,rfl⟩
   ·have d3:decide ((300:Int)<(t.steps:Int))=false:=dEf (by omega);have hq:hCk ca t=eV (badN ca) (t.walk []):=by unfold hCk;rw[cV hc,a_ ae]
    simp only[go_sem,zE,zA,d3,fits];refine (hst _).q ?_;simp only[go_sem,reduceCtorEq];refine RangeL.intro (lkW (λx=>x) (t.walk [])) (t.walk []).length (λk s=>(s b2=some (.box [.raw (.int .u8 ca)])/\s b4=some (.box [()])/\s b5=some (.box [(0:Int)])/\subSt st s)/\eV (badN ca) ((t.walk []).take k)=([],0)) (λe s=>CkS st b4 b5 (hCk ca t) e s) rfl ?_ ?_ ?_ (ay _) ?_ ?_
    ·rintro k a e ⟨p,u,a,y,_,_,_,rfl⟩;rfl
    ·exact⟨⟨f2,f4,f5,O⟩,by simp[eV]⟩
    ·rintro k _ e s ⟨p,z,a,y,J,hz,hp,rfl⟩ hd ⟨⟨c2,c4,c5,E⟩,hf⟩;have aj:disj s e:=hd;have r2:=ix aj _ _ c2;have ax:=oT [] t _ (lMg J);have aW:=U.2;simp only[dU] at ax;have aw:=λst=>P1 gl G T ca z y hz (U.1 _ (lMg J)) (dT (G9 [] t _ (lMg J)) hs) st;have az:=GQ gl p a e s hp (by omega) aj;have ah:ivOf a=some a:=by rcases hp with⟨t,rfl,_⟩|⟨g,cap,cs,rfl,_⟩<;>rfl
     obtain⟨aq,aO,aH,aN,aG,aV,aY,aS,aJ,aQ,aI,v',aK,aL,aE,n',aM,aF,rfl⟩:=eT hz;simp only[go_sem,zE,zA,zL,r2,ah];refine (aw _).q ?_;cases hr:iu ca z
     ·have hb:badN ca z=270:=by unfold badN;rw[hr];rfl
      have hv:hCk ca t=(p,270):=by
       rw[hq]
       conv=>lhs;rw[<- el k (t.walk [])]
       rw[fa (lGs J).1,(lGs J).2,nO,hf];simp[eV,hb]
      simp only[go_sem,zE,zA,ah];refine az.mono ?_;rintro _ _ ⟨⟨t',rfl,au⟩,rfl⟩;simp only[go_sem,zE,zL,c4,c5,g5];refine⟨rfl,⟨t',?_,au⟩,?_,A _ _ _ E⟩
      ·rw[g4,hv]
      ·rw[b_,hv];rfl
     ·have hb:badN ca z=0:=by unfold badN;rw[hr];rfl
      simp only[go_sem];refine⟨s,⟨⟨c2,c4,c5,E⟩,?_⟩,hd,rfl⟩;rw[dE J,nO,hf];simp[eV,hb]
    ·rintro s r ⟨⟨c2,c4,c5,E⟩,hf⟩;rw[lTl,<- hq] at hf;simp only[go_sem,zE,zL,c4,c5,g5,g4,b_];exact ez (A _ _ _ E) ⟨⟨_,by rw[hf];rfl,.inl rfl⟩,rfl⟩
    ·rintro e s r ⟨rfl,⟨tg,c4,ht⟩,c5,E⟩;simp only[go_sem,zE,c4,c5];exact ez E ⟨⟨_,rfl,ht⟩,rfl⟩
 ·have d1:decide ((ca:Int)=1)=false:=dEf (by omega);have d2:decide ((ca:Int)=2)=false:=dEf (by omega);have hq:hCk ca t=([],2):=by unfold hCk;rw[a_ hc]
  simp only[go_sem,zE,zL,f2,f4,f5,d1,d2,g5,g4,b_];exact ez (A _ _ _ O) ⟨⟨_,by rw[hq];rfl,.inl rfl⟩,rfl⟩
noncomputable def lowB (j:Bool)(h:Nat)(ps:List Sn):Bool:=ps.all λp=>decide (1<=Tryz.hF j p)&&decide (Tryz.hF j p<h)
abbrev mvZ:IV:=.agg [.raw (.int .u8 0),.raw (.int .u8 0),.raw (.string ⟨#[]⟩),.sl ⟨true,.nil,0⟩ [],.sl ⟨true,.nil,0⟩ [],.sl ⟨true,.nil,0⟩ []]
def P2 (ca:Nat)(v:Nat×Fm×List Sn)(x:IV)(hv:gT v x)(h:Nat)(ae:v.2.2.length<=1000000)(hp:∀p∈v.2.2,∀y st,IsSq ⟨p.1,p.2⟩ y->ICall prog gl 50 [.raw (.int .u8 (ca:Int)),y] st (λr st'=>r=.tup [(Tryz.hF (calJ ca) p:Int),(0:Int)]/\st'=st))(st:ISt) :
  ICall prog gl 93 [.raw (.int .u8 (ca:Int)),x,(h:Int)] st (λr st'=>r=.tup [(lowB (calJ ca) h v.2.2:Bool),(0:Int)]/\st'=st):=by
 obtain⟨o,n,t1,x1,t2,x2,t3,x3,rfl,hf,e3,h3⟩:=hv;have ac:=h3.1;refine iI func93 ?_;simp only[go_sem,zE,ac];intro _;refine dj v.2.2.length (λk fr st' ds=>lowB (calJ ca) h (v.2.2.take k)=true/\st'=st/\fr 0=.iv (.raw (.int .u8 (ca:Int)))/\fr 2=(h:Int)/\fr 13=.iv (.sl t3 x3)/\fr 14=(v.2.2.length:Int)/\fr 15=(k:Int)/\ds=[]) ?_ ?_ ?_
 ·simp only[go_sem,zE,reduceCtorEq];exact⟨rfl,rfl⟩
 ·rintro k fr E _ J ⟨D,rfl,f0,f2,f13,f14,f15,rfl⟩;obtain⟨p,G⟩:=dB J;obtain⟨y,hy,aa⟩:=h3.2 k p G;have hL:=hp p (lMg G) y;have U:=aa;obtain⟨ta,xa,tb,xb,rfl,ea,ia,eb,ib⟩:=aa;have O:=hL E U;simp only[go_sem,zE,zB,zA,zL,reduceCtorEq,f0,f13,f14,f15,fits,lt_i J,dz e3,iNn,hy];refine O.mono ?_;rintro _ E ⟨rfl,rfl⟩;have A:lowB (calJ ca) h (v.2.2.take (k+1))=(decide (1<=Tryz.hF (calJ ca) p)&&decide (Tryz.hF (calJ ca) p<h)):=by
   rw[dE G];unfold lowB at D ⊢;rw[List.all_append,D];simp
  have ab:∀b:Bool,lowB (calJ ca) h (v.2.2.take (k+1))=false->lowB (calJ ca) h v.2.2=false:=λ_ hb=>by
   rw[<- el (k+1) v.2.2];unfold lowB at hb ⊢;rw[List.all_append,hb];rfl
  by_cases h1:1<=Tryz.hF (calJ ca) p
  ·have d1:decide ((Tryz.hF (calJ ca) p:Int)<1)=false:=dEf (by omega);by_cases h2:Tryz.hF (calJ ca) p<h
   ·have d2:decide ((h:Int)<=(Tryz.hF (calJ ca) p:Int))=false:=dEf (by omega);rw[dEt h1,dEt h2] at A;simp only[go_sem,zE,reduceCtorEq,f0,f2,f13,f14,f15,dA,d1,d2,dC J (by omega)];exact A
   ·have d2:decide ((h:Int)<=(Tryz.hF (calJ ca) p:Int))=true:=dEt (by omega);rw[dEf h2,Bool.and_false] at A;simp only[go_sem,zE,f2,dA,d1,d2];exact c_ ⟨by rw[ab true A],rfl⟩
  ·have d1:decide ((Tryz.hF (calJ ca) p:Int)<1)=true:=dEt (by omega);rw[dEf h1,oe] at A;simp only[go_sem,zE,dA,d1];exact c_ ⟨by rw[ab true A],rfl⟩
 ·rintro fr E _ ⟨D,rfl,f0,f2,f13,f14,f15,rfl⟩;rw[lTl] at D;simp only[go_sem,zE,f14,f15,dF (nLi _)];exact c_ ⟨by rw[D],rfl⟩
noncomputable def clM (s:Sq):Nat×Fm×List Sn:=match s.l.find? (hasF s.r) with
 | some f=>(1,f,[])
 | none=>(2,.mk 2 noN [] [],[])
def P3 (G:Gl gl)(T:Gt gl)(s s1:Sq)(x:IV)(hx:IsSq s x)(hs:fW s)(hl:s.l.length<=64/\s.r.length<=64)(h1:SetS s=(s1,0))(aa:fW s1)(am:s1.l.length<=64)(st:ISt) :
  ICall prog gl 91 [x] st (λr st'=>(∃z,gT (clM s1) z/\r=.tup [z,(0:Int)])/\st'=st):=by
 have hS:=λst=>Ns gl G T s x hx hs ⟨by omega,by omega⟩ st;rw[h1] at hS;obtain⟨t1,x1,t2,x2,rfl,e1,i1,e2,i2⟩:=hx;refine iI func91 ?_;simp only[go_sem,zE,zA,zL];refine (hS _).mono ?_;rintro _ st ⟨⟨y,rfl,hy⟩,rfl⟩;obtain⟨t3,x3,t4,x4,rfl,e3,i3,e4,i4⟩:=hy;simp only[go_sem,zE,zA,zL,i3.len,show decide (((0:Nat):Int)=0)=true from rfl];intro _;refine dj s1.l.length (λk fr st' ds=>(∀g∈s1.l.take k,hasF s1.r g=false)/\st'=st/\fr 1=.box [.sl t3 x3,.sl t4 x4]/\fr 2=.box [.raw (.int .u8 0),.raw (.int .u8 0),.raw (.string ⟨#[]⟩),(),(),()]/\fr 17=.iv (.sl t3 x3)/\fr 18=(s1.l.length:Int)/\fr 19=(k:Int)/\ds=[]) ?_ ?_ ?_
 ·simp only[go_sem,zE];exact⟨nofun,rfl⟩
 ·rintro k fr U _ E ⟨A,rfl,f1,f2,f17,f18,f19,rfl⟩;obtain⟨g,hg⟩:=dB E;obtain⟨z,hz,J⟩:=i3.get hg;have ae:=lMg hg;have hH:=λst=>uH gl G s1.r g t4 x4 z e4 i4 J aa.2 (aa.1 g ae) st;have ac:=J;obtain⟨o5,n5,t5,x5,t6,x6,rfl⟩:=J.agg;simp only[go_sem,zE,zB,zA,zL,f1,f17,f18,f19,fits,lt_i E,dz e3,iNn,hz];refine (hH _).q ?_;cases hb:hasF s1.r g
  ·simp only[go_sem,zE,f1,f2,f17,f18,f19,dC E (by omega)];refine λq D=>?_;rw[dE hg] at D;rcases dR.1 D with D|D
   ·exact A q D
   ·rw[dZ.1 D];exact hb
  ·have O:clM s1=(1,g,[]):=by
    have hf:s1.l.find? (hasF s1.r)=some g:=by
     rw[<- el k s1.l,fa E,(lGs hg).2,iS,jz.2 λq D=>by rw[A q D];simp];simp[hb]
    simp only[clM,hf]
   rw[O];simp only[go_sem,zE,zA,zL,f2,fits];exact c_ ⟨⟨_,⟨_,_,_,_,_,_,_,_,rfl,ac,.inl rfl,AllR.nil⟩,rfl⟩,rfl⟩
 ·rintro fr U _ ⟨A,rfl,f1,f2,f17,f18,f19,rfl⟩;rw[lTl] at A;have O:clM s1=(2,.mk 2 noN [] [],[]):=by
   have hf:s1.l.find? (hasF s1.r)=none:=jz.2 λq D=>by rw[A q D];simp
   simp only[clM,hf]
  rw[O];simp only[go_sem,zE,zA,zL,f2,f18,f19,dF (nLi _),fits];exact c_ ⟨⟨_,⟨_,_,_,_,_,_,_,_,rfl,by simp only[IsFm];exact⟨_,_,_,_,rfl,by decide,.inl rfl,rfl,.inl rfl,rfl⟩,.inl rfl,AllR.nil⟩,rfl⟩,rfl⟩
def vr (G:Gl gl)(T:Gt gl)(ca:Nat)(s:Sq)(hc:ca=1\/ca=2)(hv:ev ca s=true)(h:Nat)(m:Nat×Fm×List Sn)(x:IV)(hx:IsSq s x)(hs:fW s)
  (aq:ClF s.l s.r->∀st,ICall prog gl 91 [x] st (λr st'=>(∃z,gT m z/\r=.tup [z,(0:Int)])/\st'=st))
  (an:¬ ClF s.l s.r->¬ mX (calJ ca) (nf (s.l,s.r))/\(mvF (calJ ca) (nf (s.l,s.r))).find? (λv=>lowB (calJ ca) h v.2.2)=some m/\(mvF (calJ ca) (nf (s.l,s.r))).length<=1000000/\∀v∈mvF (calJ ca) (nf (s.l,s.r)),v.2.2.length<=1000000/\∀p∈v.2.2,∀y st,IsSq ⟨p.1,p.2⟩ y->ICall prog gl 50 [.raw (.int .u8 (ca:Int)),y] st (λr st'=>r=.tup [(Tryz.hF (calJ ca) p:Int),(0:Int)]/\st'=st)) (st:ISt) :
  ICall prog gl 68 [.raw (.int .u8 (ca:Int)),x,(h:Int)] st (λr st'=>(∃z,gT m z/\r=.tup [z,(0:Int)])/\st'=st):=by
 have hC:=λst=>Pb gl G T ca s x hx hs st;have hM:=λhn st=>Ph gl G T ca s hc hv hn x hx hs st;obtain⟨t1,x1,t2,x2,rfl,e1,i1,e2,i2⟩:=hx;refine iI func68 ?_;simp only[go_sem,zE,zA,zL,reduceCtorEq];refine (hC _).mono ?_;rintro r st ⟨rfl,hr⟩;obtain⟨b,hb,rfl⟩:∃b:Bool,(b=true↔ClF s.l s.r)/\r=.tup [b,(0:Int)]:=by
  rcases hr with⟨h,_⟩|⟨_,h,_⟩|⟨_,_,h⟩
  ·exact absurd hc h
  ·rw[hv] at h;cases h
  ·exact h
 cases b
 ·have ae:¬ ClF s.l s.r:=λh=>by have:=hb.2 h;cases this
  obtain⟨ab,A,hml,U⟩:=an ae;simp only[go_sem,zE,zA,zL,reduceCtorEq,dA];refine (hM ab _).mono ?_;rintro _ st ⟨⟨t,ys,ht,hys,rfl⟩,rfl⟩;generalize mvF (calJ ca) (nf (s.l,s.r))=L at A hml U hys;have ai:=hys.1;simp only[go_sem,zE,dA,ai];intro _;refine dj L.length (λk fr st' ds=>(∀v∈L.take k,lowB (calJ ca) h v.2.2=false)/\st'=st/\fr 0=.iv (.raw (.int .u8 (ca:Int)))/\fr 2=(h:Int)/\fr 6=.box [.raw (.int .u8 0),.raw (.int .u8 0),.raw (.string ⟨#[]⟩),(),(),()]/\fr 40=.iv (.sl t ys)/\fr 41=(L.length:Int)/\fr 42=(k:Int)/\ds=[]) ?_ ?_ ?_
  ·simp only[go_sem,zE,reduceCtorEq];exact⟨nofun,rfl⟩
  ·rintro k fr ac _ O ⟨D,rfl,f0,f2,f6,f40,f41,f42,rfl⟩;obtain⟨v,J⟩:=dB O;obtain⟨y,hy,aa⟩:=hys.2 k v J;obtain⟨am,al⟩:=U v (lMg J);have ao:=λst=>P2 gl ca v y aa h am al st;have aj:=aa;obtain⟨o,n,q1,z1,q2,z2,q3,z3,rfl,_⟩:=aa;simp only[go_sem,zE,zB,zA,zL,reduceCtorEq,f0,f2,f40,f41,f42,fits,lt_i O,dz ht,iNn,hy];refine (ao _).q ?_;cases ag:lowB (calJ ca) h v.2.2
   ·simp only[go_sem,zE,reduceCtorEq,f0,f2,f6,f40,f41,f42,dA,dC O (by omega)];refine λq E=>?_;rw[dE J] at E;rcases dR.1 E with E|E
    ·exact D q E
    ·rw[dZ.1 E];exact ag
   ·have af:m=v:=by
     rw[<- el k L,fa O,(lGs J).2,iS,jz.2 λq E=>by rw[D q E];simp] at A;simpa[ag] using A.symm
    subst af;simp only[go_sem,zE,zA,zL,f6,dA];exact c_ ⟨⟨_,aj,rfl⟩,rfl⟩
  ·rintro fr ac _ ⟨D,rfl,f0,f2,f6,f40,f41,f42,rfl⟩;rw[lTl] at D;rw[jz.2 λq E=>by rw[D q E];simp] at A;cases A
 ·simp only[go_sem,zE,zA,zL,dA];refine (aq (hb.1 rfl) _).mono ?_;rintro _ st ⟨⟨z,hz,rfl⟩,rfl⟩;have ah:=hz;obtain⟨o,n,q1,z1,q2,z2,q3,z3,rfl,_⟩:=hz;simp only[go_sem,zE,zA,zL];exact c_ ⟨⟨_,ah,rfl⟩,rfl⟩
abbrev nlS:IV:=.sl ⟨true,.nil,0⟩ []
def sD (ca:Nat)(t:Tr)(h:Nat)(m:Nat×Fm×List Sn)(r:IV):Prop :=
 ((hCk ca t).2≠0/\r=.tup [nlS,(0:Int),mvZ,((hCk ca t).2:Int)]) \/
 ((hCk ca t).2=0/\e_ t=[]/\r=.tup [nlS,(0:Int),mvZ,(271:Int)]) \/
 ((hCk ca t).2=0/\∃p ps A,e_ t=p::ps/\okEs A 1/\((h=0/\r=.tup [.sl A (plI p),(0:Int),mvZ,(272:Int)])\/(0<h/\∃z,gT m z/\r=.tup [.sl A (plI p),(h:Int),z,(0:Int)])))
def Ha (ca:Nat)(t:Tr)(h e:Nat)(m:Nat×Fm×List Sn)(F:Prop)(r:IV):Prop :=
 ((hCk ca t).2≠0/\r=.tup [nlS,(0:Int),mvZ,((hCk ca t).2:Int)]) \/
 ((hCk ca t).2=0/\e_ t=[]/\r=.tup [nlS,(0:Int),mvZ,(271:Int)]) \/
 ((hCk ca t).2=0/\∃p ps A,e_ t=p::ps/\okEs A 1/\((e≠0/\r=.tup [nlS,(0:Int),mvZ,(e:Int)])\/(e=0/\F/\((h=0/\r=.tup [.sl A (plI p),(0:Int),mvZ,(272:Int)])\/(0<h/\∃z,gT m z/\r=.tup [.sl A (plI p),(h:Int),z,(0:Int)])))))
def Hb {t:Tr}{p:List Nat}{ps:List (List Nat)}(h:e_ t=p::ps):okP t p/\p.length<=t.steps:=by
 have D:p∈e_ t:=by rw[h];exact .head _
 unfold e_ at D;obtain⟨⟨q,z⟩,A,rfl⟩:=dH.1 D;have A:=(iY.1 A).1;obtain⟨p',h1,h2,_⟩:=Ab [] t q z A;have:=oT [] t _ A;have E:=t.height_le_steps;simp only[dU] at this;rw[eY] at h1;exact⟨h1▸h2,by show q.length<=_;omega⟩
def P4 (G:Gl gl)(T:Gt gl)(au:∀g x,gl g=some x->age x=x)(ca:Nat)(t:Tr)(x:IV)(hx:IsTr t x)(aa:n_ t)(hs:t.steps<=1000000)(h e:Nat)(m:Nat×Fm×List Sn)(F:Prop)
  (hL:∀p ps,(hCk ca t).2=0->e_ t=p::ps->∀y st,IsSq (atT t p).sq y->ICall prog gl 50 [.raw (.int .u8 (ca:Int)),y] st (λr st'=>(r=.tup [(h:Int),(e:Int)]/\(e=0->F))/\st'=st))
  (hB:F->∀p ps,0<h->(hCk ca t).2=0->e_ t=p::ps->∀y st,IsSq (atT t p).sq y->ICall prog gl 68 [.raw (.int .u8 (ca:Int)),y,(h:Int)] st (λr st'=>(∃z,gT m z/\r=.tup [z,(0:Int)])/\st'=st)) (st:ISt) :
  ICall prog gl 45 [.raw (.int .u8 (ca:Int)),x] st (λr st'=>Ha ca t h e m F r/\st'=st):=by
 have hC:=λst=>Ae gl G T ca t x hx aa hs st;have hG:=λst=>z_ gl au t x hx hs st;have hA:=λp hp tg D hl st=>at_c gl t x hx p hp tg D hl st;obtain⟨rule,tl,xl,tr,xr,op,fn,ta,xa,tb,xb,v,un,tu,xu,n,ts,xs,rfl⟩:=eT hx;refine ICall.intro (c:=cf prog gl [] [(7,[0,1,2,3,6,4,5,7])]) func45 rfl (by show _<=69;simp) (by kernel_rfl) ?_;simp only[go_sem,zE,zA,zL,reduceCtorEq];refine (hC _).mono ?_;rintro _ st ⟨⟨aM,rfl,_⟩,rfl⟩;by_cases h0:(hCk ca t).2=0
 ·have d0:decide (((hCk ca t).2:Int)=0)=true:=dEt (by omega);simp only[go_sem,zE,zA,zL,d0];refine (hG _).mono ?_;rintro _ st ⟨⟨tg,ys,rfl,D,hys⟩,rfl⟩;cases A:e_ t with
  | nil =>
   rw[A] at hys;obtain rfl:ys=[]:=eG hys.1;simp only[go_sem,zE,zA,zL,show decide (((0:Nat):Int)=0)=true from rfl];exact c_ ⟨.inr (.inl ⟨h0,A,rfl⟩),rfl⟩
  | cons p ps =>
   rw[A] at hys;obtain⟨y,hy,O,rfl,E⟩:=hys.2 0 p rfl;obtain⟨zs,rfl⟩:∃zs,ys=.sl O (plI p)::zs:=by
    cases ys with
    | nil=>cases hy
    | cons a zs=>cases hy;exact⟨zs,rfl⟩
   obtain⟨aq,ao⟩:=Hb A;have d1:decide (((zs.length+1:Nat):Int)=0)=false:=dEf (by omega);have ha:=hA p aq O E (dT ao hs);simp only[go_sem,zE,zA,zL,fits,d1,dz D];intro _;refine (ha _).mono ?_;rintro r st ⟨hr,rfl⟩;have ab:=hL p ps h0 A;have ac:=λhF J=>hB hF p ps J h0 A;generalize atT t p=z at hr ab ac;obtain⟨ak,aj,f',u',n',aA⟩:=z;obtain⟨ai,ag,ah,af,aQ,aX,aO,aI,aN,aH,v',aJ,aK,aF,aL,aG,rfl,_,ay,am,ax,al,_⟩:=hr.mk;have U:IsSq aj (.agg [.sl ai ag,.sl ah af]):=⟨_,_,_,_,rfl,ay,am,ax,al⟩
   have av:=λst=>ab _ st U;have aw:=λhF J st=>ac hF J _ st U;simp only[go_sem,zE,zA,zL,reduceCtorEq];refine (av _).mono ?_;rintro _ st ⟨⟨rfl,hF⟩,rfl⟩;by_cases he:e=0
   case neg =>
    have d3:decide ((e:Int)=0)=false:=dEf (by omega);simp only[go_sem,zE,zA,zL,d3];exact c_ ⟨.inr (.inr ⟨h0,p,ps,O,A,E,.inl ⟨he,rfl⟩⟩),rfl⟩
   subst he;have hF:=hF rfl;rcases Nat.eq_zero_or_pos h with rfl|J
   ·simp only[go_sem,zE,zA,zL,fits,show decide (((0:Nat):Int)=0)=true from rfl,dz D,jw,jx];exact c_ ⟨.inr (.inr ⟨h0,p,ps,O,A,E,.inr ⟨rfl,hF,.inl ⟨rfl,rfl⟩⟩⟩),rfl⟩
   ·have d2:decide ((h:Int)=0)=false:=dEf (by omega);simp only[go_sem,zE,zA,zL,reduceCtorEq,show decide (((0:Nat):Int)=0)=true from rfl,d2];refine (aw hF J _).mono ?_;rintro _ st ⟨⟨z,hz,rfl⟩,rfl⟩;have an:=hz;obtain⟨o,n,q1,z1,q2,z2,q3,z3,rfl,_⟩:=hz;simp only[go_sem,zE,zA,zL,fits,dA,dz D,jw,jx];exact c_ ⟨.inr (.inr ⟨h0,p,ps,O,A,E,.inr ⟨rfl,hF,.inr ⟨J,_,an,rfl⟩⟩⟩),rfl⟩
 ·have d0:decide (((hCk ca t).2:Int)=0)=false:=dEf (by omega);simp only[go_sem,zE,zA,zL,d0];exact c_ ⟨.inl ⟨h0,rfl⟩,rfl⟩
def Hc (G:Gl gl)(T:Gt gl)(D:∀g x,gl g=some x->age x=x)(ca:Nat)(t:Tr)(x:IV)(U:IsTr t x)(A:n_ t)(hs:t.steps<=1000000)(h:Nat)(m:Nat×Fm×List Sn)
  (hL:∀p ps,(hCk ca t).2=0->e_ t=p::ps->∀y st,IsSq (atT t p).sq y->ICall prog gl 50 [.raw (.int .u8 (ca:Int)),y] st (λr st'=>r=.tup [(h:Int),(0:Int)]/\st'=st))
  (hB:∀p ps,0<h->(hCk ca t).2=0->e_ t=p::ps->∀y st,IsSq (atT t p).sq y->ICall prog gl 68 [.raw (.int .u8 (ca:Int)),y,(h:Int)] st (λr st'=>(∃z,gT m z/\r=.tup [z,(0:Int)])/\st'=st)) (st:ISt) :
  ICall prog gl 45 [.raw (.int .u8 (ca:Int)),x] st (λr st'=>sD ca t h m r/\st'=st) :=
 (P4 gl G T D ca t x U A hs h 0 m True (λp ps h0 hg y st O=>(hL p ps h0 hg y st O).mono λ_ _ ⟨a,b⟩=>⟨⟨a,λ_=>trivial⟩,b⟩) (λ_=>hB) st).mono λr st' ⟨a,b⟩=>⟨by
  rcases a with a|a|⟨h0,p,ps,J,h1,h2,⟨E,_⟩|⟨_,_,E⟩⟩
  ·exact .inl a
  ·exact .inr (.inl a)
  ·exact absurd rfl E
  ·exact .inr (.inr ⟨h0,p,ps,J,h1,h2,E⟩),b⟩
end Go.Proofs.Tryz
namespace Go.Proofs.Tryz
open Go Go.Iv
set_option maxRecDepth 4000
def Af (t:Tr):List Tr:=(t.walk []).map (·.2)
def P5 {t:Tr}{p:List Nat}(h:okP t p):atT t p∈Af t:=dH.2 ⟨_,G7 p t [] h,rfl⟩
def P6 {t:Tr}{q:List Nat×Tr}(h:q∈t.walk []):okP t q.1/\atT t q.1=q.2:=by
 obtain⟨p',h1,h2,A⟩:=Ab [] t q.1 q.2 h;rw[eY] at h1;rw[h1];exact⟨h2,A⟩
def jQ (L:Sq->Nat×Nat)(t:Tr):List (List Nat)->List Nat×Nat
 | []=>([],271)
 | p::ps=>if (L (atT t p).sq).2≠0 then ([],(L (atT t p).sq).2) else if (L (atT t p).sq).1=0 then (p,0) else jQ L t ps
def upG (L:Sq->Nat×Nat)(t:Tr)(p:List Nat):Nat->List Nat×Nat
 | 0=>([],272)
 | n+1=>if (L (atT t (p.take n)).sq).2≠0 then ([],(L (atT t (p.take n)).sq).2) else if 0<(L (atT t (p.take n)).sq).1 then (p.take n,0) else upG L t p n
noncomputable def sE (L:Sq->Nat×Nat)(ca:Nat)(t:Tr):List Nat×Nat :=
 if (hCk ca t).2≠0 then ([],(hCk ca t).2) else if (jQ L t (e_ t)).2≠0 then ([],(jQ L t (e_ t)).2) else upG L t (jQ L t (e_ t)).1 (jQ L t (e_ t)).1.length
def Hd (L:Sq->Nat×Nat)(t:Tr):∀l:List (List Nat),(∃p∈l,jQ L t l=(p,0)/\L (atT t p).sq=(0,0))\/(jQ L t l=([],271)/\∀p∈l,(L (atT t p).sq).2=0/\(L (atT t p).sq).1≠0)\/∃p∈l,jQ L t l=([],(L (atT t p).sq).2)/\(L (atT t p).sq).2≠0
 | []=>.inr (.inl ⟨rfl,nofun⟩)
 | p::ps=>by
  rw[jQ];by_cases h1:(L (atT t p).sq).2≠0
  ·rw[cV h1];exact .inr (.inr ⟨p,.head _,rfl,h1⟩)
  ·rw[a_ h1];by_cases h2:(L (atT t p).sq).1=0
   ·rw[cV h2];exact .inl ⟨p,.head _,rfl,Prod.ext h2 (Decidable.of_not_not h1)⟩
   ·rw[a_ h2];rcases Hd L t ps with⟨q,a,b⟩|⟨a,b⟩|⟨q,a,b⟩
    ·exact .inl ⟨q,.tail _ a,b⟩
    ·refine .inr (.inl ⟨a,λq A=>?_⟩);rcases dN.1 A with rfl|A
     ·exact⟨Decidable.of_not_not h1,h2⟩
     ·exact b q A
    ·exact .inr (.inr ⟨q,.tail _ a,b⟩)
def He {t:Tr}{p:List Nat}(h:p∈e_ t):okP t p/\gZ (atT t p)=true/\p.length<=t.steps:=by
 unfold e_ at h;obtain⟨q,A,rfl⟩:=dH.1 h;obtain⟨h1,h2⟩:=iY.1 A;obtain⟨E,D⟩:=P6 h1;have:=oT [] t _ h1;have G:=t.height_le_steps;simp only[dU] at this;exact⟨E,by rw[D];exact h2,by omega⟩
mutual
def Hf {ca:Nat}(hc:ca≠3)(e:List ByteArray):∀f g:Fm,opsB ca f=true->dbF e f=dbF e g->f=g
 | .mk o n us sub,.mk o' U D A,G,h=>by
  simp only[opsB,bAt,dTe,a_ hc,dEf hc,Bool.false_or,List.isEmpty_iff] at G;obtain⟨⟨⟨h1,h2⟩,rfl⟩,O⟩:=G;have q:∀o,o<=7->isQ o=false:=by decide
  have q:=q o h2;simp only[dbF,NlF.mk.injEq] at h;obtain⟨rfl,E,J,h⟩:=h;simp only[q,bFt,dI] at E h;cases D with
  | cons a l=>simp[dbs] at J
  | nil=>rw[E,Hg hc e sub A O h]
def Hg {ca:Nat}(hc:ca≠3)(e:List ByteArray):∀l m:List Fm,gE ca l=true->dbFs e l=dbFs e m->l=m
 | [],[],_,_=>rfl
 | [],b::m,_,h=>by simp[dbFs] at h
 | a::l,[],_,h=>by simp[dbFs] at h
 | a::l,b::m,hl,h=>by
  simp only[gE,bAt] at hl;simp only[dbFs,List.cons.injEq] at h;rw[Hf hc e a b hl.1 h.1,Hg hc e l m hl.2 h.2]
end
end Go.Proofs.Tryz
namespace Go.Proofs.Tryz
open Go Go.Iv
set_option maxRecDepth 4000
variable (gl:Nat->Option IV)
abbrev nlSl:IV:=.sl ⟨true,.nil,0⟩ []
def P7 (A D:Tag)(ys:List IV)(hl:ys.length<=1099511627776)(st:ISt):ICall prog gl 203 [.sl A [],.sl D ys,nlSl,nlSl] st (λr st'=>r=(decide (ys.length=0):Bool)/\st'=st):=by
 refine iI func203 ?_;by_cases h:ys.length=0
 ·rw[dEt h];simp only[go_sem,zE,zL,reduceCtorEq,dU,show decide (((0:Nat):Int)=((ys.length:Nat):Int))=true from dEt (by omega)];intros;refine dj 0 (λk fr st' ds=>fr 0=.iv (.sl A [])/\fr 9=(0:Int)/\st'=st/\ds=[]) ?_ ?_ ?_
  ·simp only[go_sem,reduceCtorEq]
  ·intro k _ _ _ h;omega
  ·rintro fr _ _ ⟨f0,f9,rfl,rfl⟩;simp only[go_sem,zE,zL,reduceCtorEq,f0,f9,dU,show decide ((0:Int)<((0:Nat):Int))=false from rfl];intros;exact c_ ⟨rfl,rfl⟩
 ·rw[dEf h];simp only[go_sem,zE,zL,reduceCtorEq,dU,show decide (((0:Nat):Int)=((ys.length:Nat):Int))=false from dEf (by omega)];intros;exact c_ ⟨rfl,rfl⟩
def WSm (a:Fm):Prop:=∀(b:Fm) (x y:IV) (_:IsFm a x) (_:IsFm b y) (_:a.size<=1099511627776) (_:b.size<=1099511627776) (st:ISt),ICall prog gl 149 [x,y,nlSl,nlSl] st (λr st'=>r=(eqB a b:Bool)/\st'=st)
def vt (op:Nat)(n:ByteArray)(sub:List Fm)(h7:op<=7)(IH:∀a∈sub,WSm gl a):WSm gl (.mk op n [] sub):=by
 intro b x y hx hy av au st;obtain⟨O,n',J,A⟩:=b;obtain⟨ta,xa,tb,xb,rfl,ho,hta,am,aq,E⟩:=hx.mk;obtain⟨tc,xc,td,xd,rfl,aM,aL,ah,ao,ab⟩:=hy.mk;obtain rfl:xa=[]:=eG (by rw[am.len];rfl);simp only[Fm.size] at av au;have aO:=rN sub;have aN:=nN J;have D:=λst=>P7 gl ta tc xc (by rw[ah.len];omega) st;rw[ah.len] at D;have hq:isQ op=false:=(by decide:∀o,o<=7->isQ o=false) op h7;have G:(Fm.mk op n [] sub≠.mk O n' J A)->eqB (Fm.mk op n [] sub) (.mk O n' J A)=false:=λh=>yQo.2 h;refine ICall.intro (c:=cf prog gl [] [(4,[0,1,3,4,5,2,6,7]),(5,[0,1,3,4,5,2,6,7])]) func149 rfl (by show _<=76;simp) (by kernel_rfl) ?_;by_cases ai:op=O
 case neg =>
  simp only[go_sem,zE,zA,show decide ((op:Int)=(O:Int))=false from dEf (by omega)];exact c_ ⟨by rw[G λh=>ai (by injection h)],rfl⟩
 subst ai;by_cases aa:sub.length=A.length
 case neg =>
  simp only[go_sem,zE,dA,E.len,ab.len,show decide ((sub.length:Int)=(A.length:Int))=false from dEf (by omega)];intros;exact c_ ⟨by rw[G λh=>aa (by injection h with _ _ _ h;rw[h])],rfl⟩
 simp only[go_sem,zE,zA,dA,E.len,ab.len,show decide ((sub.length:Int)=(A.length:Int))=true from dEt (by omega)];intros;refine (D _).q ?_;by_cases hu:J=[]
 case neg =>
  simp only[go_sem,zE,dEf (λh=>hu (eG h))];exact c_ ⟨by rw[G λh=>hu (by injection h with _ _ h;rw[<- h])],rfl⟩
 subst hu;simp only[go_sem,zE,zA,zL,dU,dA];refine (L3 gl op n _ _ _ _ _).q ?_;by_cases hn:n=n'
 case neg =>
  simp only[go_sem,zE,hq,dEf hn];exact c_ ⟨by rw[G λh=>hn (by injection h)],rfl⟩
 subst hn;simp only[go_sem,zE,hq,dA];refine dj sub.length (λk fr st' ds=>sub.take k=A.take k/\fr 2=nlSl/\fr 3=nlSl/\fr 4=.box [.raw (.int .u8 op),n,.sl ta [],.sl tb xb] /\
  fr 5=.box [.raw (.int .u8 op),n,.sl tc xc,.sl td xd]/\fr 9=.iv (.raw (.int .i64 k))/\st'=st/\ds=[]) ?_ ?_ ?_
 ·simp only[go_sem,zE];rfl
 ·rintro k fr ag _ ac ⟨U,f2,f3,f4,f5,f9,rfl,rfl⟩;obtain⟨a,ha⟩:=dB ac;obtain⟨b,hb⟩:=dB (show k<A.length by omega);obtain⟨y,az,hy⟩:=E.get ha;obtain⟨z,ay,hz⟩:=ab.get hb;have ax:=lMg ha;have ae:=λst=>IH a ax b y z hy hz (by have:=(rM ha).2;omega) (by have:=(rM hb).2;omega) st;obtain⟨o8,n8,t8,x8,t9,x9,rfl⟩:=hy.agg;obtain⟨o6,n6,t6,x6,t7,x7,rfl⟩:=hz.agg;simp only[go_sem,zE,zB,zA,f2,f3,f4,f5,f9,E.len,lt_i ac,dz aq,dz ao,iNn,az,ay,fits];intros;refine (ae _).q ?_;cases he:eqB a b
  ·simp only[go_sem];exact c_ ⟨by rw[G λh=>by
    injection h with _ _ _ h;rw[h,hb] at ha;cases ha;rw[yQx.2 rfl] at he;cases he],rfl⟩
  ·simp only[go_sem,zE,f2,f3,f4,f5,f9,dC ac (by omega)];rw[dE ha,dE hb,U,yQx.1 he]
 ·rintro fr ag _ ⟨U,f2,f3,f4,f5,f9,rfl,rfl⟩;rw[lTl,aa,lTl] at U;simp only[go_sem,zE,f4,f9,E.len,dF (nLi _)];intros;subst U;exact c_ ⟨by rw[yQx.2 rfl],rfl⟩
def P8 {a:Fm}(h:PF a):WSm gl a:=by
 induction h with
 | atom n=>exact vt gl 1 n [] (by decide) nofun
 | fls=>exact vt gl 2 _ [] (by decide) nofun
 | neg _ E=>exact vt gl 3 _ _ (by decide) (by simpa using E)
 | bin J G _ _ D A=>exact vt gl _ _ _ G (by simpa using ⟨D,A⟩)
def Hh {ca:Nat}(hc:ca≠3)(f g:Fm)(hf:fmB ca f=true)(x y:IV)(J:IsFm f x)(G:IsFm g y)(ae:g.size<=1000000)(st:ISt) :
  ICall prog gl 116 [x,y] st (λr st'=>r=(iB f g:Bool)/\st'=st):=by
 obtain⟨U,ac,_,D⟩:=vQf.1 hf;have O:f.right=true:=m_ hf;have A:iq ca f=true:=by rw[uO ca f U];exact D
 have h1:=λst=>y8 gl hc f x J (by omega) st;have h2:=λst=>y8 gl hc g y G (by omega) st;have h3:=λst=>P8 gl (lU hc hf) g x y J G (by omega) (by omega) st;have ab:iB f g=eqB f g:=by
  rw[kN,yQx];unfold iB;rw[bAt,yQx];constructor
  ·exact λh=>Hf hc [] f g D h.2
  ·rintro rfl;rw[O];exact⟨rfl,rfl⟩
 rw[ab];obtain⟨o1,n1,t1,x1,t2,x2,rfl⟩:=J.agg;obtain⟨o3,n3,t3,x3,t4,x4,rfl⟩:=G.agg;refine iI func116 ?_;simp only[go_sem,zE,zA,zL];refine (h1 _).mono ?_;rintro _ st ⟨⟨b,rfl,E⟩,rfl⟩;obtain rfl:b=true:=by rw[E A,O]
 simp only[go_sem,zE,zA,zL];refine (h2 _).mono ?_;rintro _ st ⟨⟨b,rfl,E⟩,rfl⟩;cases b
 ·simp only[go_sem,zE];exact c_ ⟨by rw[yQo.2 λh=>by rw[<- h,O] at E;exact absurd (E A) (by simp)],rfl⟩
 simp only[go_sem,zE,zA,zL];refine (h3 _).q ?_;simp only[go_sem,zE];exact c_ ⟨rfl,rfl⟩
def vu {ca:Nat}(hc:ca≠3)(l:List Fm)(tg:Tag)(xs:List IV)(ae:okEs tg 4)(A:IsFms l xs)(f:Fm)(y:IV)(hy:IsFm f y)(hl:∀a∈l,fmB ca a=true)(hf:f.size<=1000000)(ai:l.length<=1099511627776)(st:ISt) :
  ICall prog gl 152 [.sl tg xs,y] st (λr st'=>r=(hasF l f:Bool)/\st'=st):=by
 have hA:=λg z hz hg st=>Hh gl hc g f hg z y hz hy hf st;obtain⟨o9,n9,t9,x9,t8,x8,rfl⟩:=hy.agg;refine iI func152 ?_;simp only[go_sem];refine dj l.length (λk fr st' ds=>hasF (l.take k) f=false/\fr 0=.iv (.sl tg xs)/\fr 3=.box [.raw (.int .u8 o9),n9,.sl t9 x9,.sl t8 x8]/\fr 5=.iv (.raw (.int .i64 k))/\st'=st/\ds=[]) ?_ ?_ ?_
 ·simp only[go_sem,zE,reduceCtorEq];exact⟨rfl,rfl⟩
 ·rintro k fr ac _ D ⟨O,f0,f3,f5,rfl,rfl⟩;obtain⟨a,ha⟩:=dB D;have U:=lMg ha;obtain⟨z,af,G⟩:=A.get ha;have E:=λst=>hA a z G (hl a U) st;obtain⟨o5,n5,t5,x5,t6,x6,rfl⟩:=G.agg;simp only[go_sem,zE,zB,zA,zL,reduceCtorEq,f0,f3,f5,A.len,lt_i D,dz ae,iNn,af,fits];intro _;refine (E _).q ?_;rw[<- E8];cases J:eqF f a
  ·simp only[go_sem,zE,reduceCtorEq,f0,f3,f5,dC D (by omega)];unfold hasF at O ⊢;rw[dE ha,List.any_append,O];simp[J]
  ·simp only[go_sem];exact c_ ⟨by rw[wW2.2 ⟨a,U,J⟩],rfl⟩
 ·rintro fr ac _ ⟨O,f0,f3,f5,rfl,rfl⟩;rw[lTl] at O;simp only[go_sem,zE,reduceCtorEq,f0,f5,A.len,dF (nLi _)];intro _;exact c_ ⟨by rw[O],rfl⟩
def Hi {ca:Nat}(hc:ca≠3)(l a b:List Fm)(tl ta tb:Tag)(xl xa xb:List IV)(e1:okEs tl 4)(i1:IsFms l xl)(e2:okEs ta 4)(i2:IsFms a xa)(e3:okEs tb 4)(i3:IsFms b xb)(hl:fitL l)(ha:∀f∈a,fmB ca f=true)(hb:∀f∈b,fmB ca f=true)
  (E:l.length<=1099511627776/\a.length<=1099511627776/\b.length<=1099511627776) (st:ISt) :
  ICall prog gl 118 [.sl tl xl,.sl ta xa,.sl tb xb] st (λr st'=>r=(allF l (a++b):Bool)/\st'=st):=by
 have au:=λf y hy hf st=>vu gl hc a ta xa e2 i2 f y hy ha hf E.2.1 st;have aq:=λf y hy hf st=>vu gl hc b tb xb e3 i3 f y hy hb hf E.2.2 st;have G:∀f,hasF (a++b) f=(hasF a f || hasF b f):=λf=>by unfold hasF;rw[List.any_append]
 refine iI func118 ?_;simp only[go_sem];refine dj l.length (λk fr st' ds=>allF (l.take k) (a++b)=true/\fr 0=.iv (.sl tl xl)/\fr 1=.iv (.sl ta xa)/\fr 2=.iv (.sl tb xb)/\fr 7=.iv (.raw (.int .i64 k))/\st'=st/\ds=[]) ?_ ?_ ?_
 ·simp only[go_sem,zE,reduceCtorEq];exact⟨rfl,rfl⟩
 ·rintro k fr ai _ A ⟨hk,f0,f1,f2,f7,rfl,rfl⟩;obtain⟨q,hq⟩:=dB A;have O:=lMg hq;obtain⟨z,ab,J⟩:=i1.get hq;have ao:=λst=>au q z J (hl q O) st;have an:=λst=>aq q z J (hl q O) st;obtain⟨o5,n5,t5,x5,t6,x6,rfl⟩:=J.agg;have D:(hasF a q || hasF b q)=true->allF (l.take (k+1)) (a++b)=true:=λh=>by
   rw[<- G] at h;unfold allF at hk ⊢;rw[dE hq,List.all_append,hk];simp[h]
  simp only[go_sem,zE,zB,zA,reduceCtorEq,f0,f1,f7,i1.len,lt_i A,dz e1,iNn,ab,fits];intro _;refine (ao _).q ?_;cases aa:hasF a q
  ·simp only[go_sem,zE,zB,zA,reduceCtorEq,f0,f2,f7,dz e1,iNn,ab,fits];intros;refine (an _).q ?_;cases U:hasF b q
   ·have al:allF l (a++b)=false:=by
     cases hh:allF l (a++b)
     ·rfl
     ·have:=wYi.1 hh q O;rw[G,aa,U] at this;cases this
    simp only[go_sem,zE];exact c_ ⟨by rw[al],rfl⟩
   ·simp only[go_sem,zE,reduceCtorEq,f0,f1,f2,f7,dC A (by omega)];exact D (by rw[U,Bool.or_true])
  ·simp only[go_sem,zE,reduceCtorEq,f0,f1,f2,f7,dC A (by omega)];exact D (by rw[aa,Bool.true_or])
 ·rintro fr ai _ ⟨hk,f0,f1,f2,f7,rfl,rfl⟩;rw[lTl] at hk;simp only[go_sem,zE,reduceCtorEq,f0,f7,i1.len,dF (nLi _)];intro _;exact c_ ⟨by rw[hk],rfl⟩
set_option maxHeartbeats 1000000 in
def Hj {ca:Nat}(aU:ca=1\/ca=2)(s:Sq)(x:IV)(hx:IsSq s x)(hs:fW s)(st:ISt):ICall prog gl 88 [.raw (.int .u8 ca),x] st (λr st'=>r=(ev ca s:Bool)/\st'=st):=by
 have hc:ca≠3:=by omega
 have hF:=λf z hz (A:f.size<=1000000) st=>E7 gl hc f z hz (by omega) st;have aC:=λf g z w hz hw A (hg:g.size<=1000000) st=>Hh gl hc f g A z w hz hw hg st;obtain⟨l,r⟩:=s;obtain⟨t1,x1,t2,x2,rfl,e1,i1,e2,i2⟩:=hx;simp only[fW] at hs i1 i2;obtain⟨hl,hr⟩:=hs;have k1:decide (((ca:Nat):Int)<1)=false:=dEf (by omega);have k2:decide ((3:Int)<((ca:Nat):Int))=false:=dEf (by omega);have k3:decide ((64:Int)<((l.length:Nat):Int))=decide (64<l.length):=by rw[eX];omega
 have k4:decide ((64:Int)<((r.length:Nat):Int))=decide (64<r.length):=by rw[eX];omega
 have k5:decide (((ca:Nat):Int)=2)=decide (ca=2):=by rw[eX];omega
 have hk:gv ca=true:=by
  simp only[gv,bAt,dTe];omega
 refine iI func88 ?_;cases q3:decide (64<l.length)
 case true =>
  simp only[go_sem,zE,reduceCtorEq,k1,k2,k3,q3,i1.len];intros;exact c_ ⟨by rw[uQ λh=>by have:=h.2.1;have:=fc q3;simp only at *;omega],rfl⟩
 cases q4:decide (64<r.length)
 case true =>
  simp only[go_sem,zE,reduceCtorEq,k1,k2,k3,k4,q3,q4,i1.len,i2.len];intros;exact c_ ⟨by rw[uQ λh=>by have:=h.2.2.1;have:=fc q4;simp only at *;omega],rfl⟩
 have hll:l.length<=64:=by have:=fX q3;omega
 have az:r.length<=64:=by have:=fX q4;omega
 simp only[go_sem,zE,reduceCtorEq,k1,k2,k3,k4,q3,q4,i1.len,i2.len];intros;refine dj l.length (λk fr st' ds=>(∀f∈l.take k,fmB ca f=true)/\fr 0=.iv (.raw (.int .u8 ca))/\fr 3=.box [.sl t1 x1,.sl t2 x2]/\fr 5=.iv (.raw (.int .i64 k))/\st'=st/\ds=[]) ?_ ?_ ?_
 ·simp only[go_sem,zE,reduceCtorEq];exact⟨nofun,rfl⟩
 ·rintro k fr ab _ E ⟨U,f0,f3,f5,rfl,rfl⟩;obtain⟨a,ha⟩:=dB E;have O:=lMg ha;obtain⟨z,ac,J⟩:=i1.get ha;have G:=λst=>hF a z J (hl a O) st;obtain⟨o5,n5,t5,x5,t6,x6,rfl⟩:=J.agg;simp only[go_sem,zE,zB,zA,reduceCtorEq,f0,f3,f5,i1.len,lt_i E,dz e1,iNn,ac,fits];intro _;refine (G _).q ?_;cases D:fmB ca a
  ·simp only[go_sem];exact c_ ⟨by rw[uQ λh=>by have:=h.2.2.2.1 a O;rw[D] at this;cases this],rfl⟩
  ·simp only[go_sem,zE,reduceCtorEq,f0,f3,f5,dC E (by omega)];intro f A;rw[dE ha] at A;rcases dR.1 A with A|A
   ·exact U f A
   ·rw[dZ.1 A];exact D
 ·rintro fr ab _ ⟨am,f0,f3,f5,rfl,rfl⟩;rw[lTl] at am;simp only[go_sem,zE,f3,f5,i1.len,dF (nLi _)];intro _;refine dj r.length (λk fr st' ds=>(∀f∈r.take k,qV ca ((r[0]?).getD fm0) f)/\fr 0=.iv (.raw (.int .u8 ca))/\fr 3=.box [.sl t1 x1,.sl t2 x2]/\fr 6=.iv (.raw (.int .i64 k))/\st'=ab/\ds=[]) ?_ ?_ ?_
  ·simp only[go_sem,zE,reduceCtorEq,f0,f3];exact⟨nofun,rfl⟩
  ·rintro k fr ab _ E ⟨U,f0,f3,f6,rfl,rfl⟩;obtain⟨a,ha⟩:=dB E;have O:=lMg ha;obtain⟨z,ac,J⟩:=i2.get ha;obtain⟨b,hb⟩:=dB (show 0<r.length by omega);obtain⟨zb,aA,ak⟩:=i2.get hb;have G:=λst=>hF a z J (hr a O) st;have ah:=λA st=>aC b a zb z ak J A (hr a O) st;have an:(r[0]?).getD fm0=b:=by rw[hb];rfl
   rw[an] at U ⊢;have af:∀h:¬ qV ca b a,ev ca ⟨l,r⟩=false:=λh=>uQ λh'=>h (by have:=h'.2.2.2.2 a O;rwa [an] at this);have aa:qV ca b a->∀f∈r.take (k+1),qV ca b f:=λh f A=>by
    rw[dE ha] at A;rcases dR.1 A with A|A
    ·exact U f A
    ·rw[dZ.1 A];exact h
   obtain⟨o5,n5,t5,x5,t6,x6,rfl⟩:=J.agg;obtain⟨o7,n7,t7,x7,t8,x8,rfl⟩:=ak.agg;simp only[go_sem,zE,zB,zA,reduceCtorEq,f0,f3,f6,i2.len,lt_i E,dz e2,iNn,ac,fits];intro _;refine (G _).q ?_;cases D:fmB ca a
   ·simp only[go_sem,zE];exact c_ ⟨by rw[af λh=>by rw[h.1] at D;cases D],rfl⟩
   ·have aB:fmB ca b=true:=by
     by_cases h0:k=0
     ·rw[h0,hb] at ha;cases ha;exact D
     ·exact (U b (lMg (i:=0) (by rw[gg,cV (by omega),hb]))).1
    cases q5:decide (ca=2)
    ·simp only[go_sem,zE,reduceCtorEq,f0,f3,f6,k5,q5,dC E (by omega)];exact aa ⟨D,λh=>absurd h (fX q5)⟩
    ·simp only[go_sem,zE,zB,zA,reduceCtorEq,f0,f3,f6,fits,k5,q5,dz e2,iNn,ac,aA,jw,jx];intros;refine (ah aB _).q ?_;cases ag:iB b a
     ·simp only[go_sem,zE];exact c_ ⟨by rw[af λh=>by rw[h.2 (fc q5)] at ag;cases ag],rfl⟩
     ·simp only[go_sem,zE,reduceCtorEq,f0,f3,f6,dC E (by omega)];exact aa ⟨D,λ_=>ag⟩
  ·rintro fr ab _ ⟨al,f0,f3,f6,rfl,rfl⟩;rw[lTl] at al;simp only[go_sem,zE,f3,f6,i2.len,dF (nLi _)];intro _;exact c_ ⟨by rw[yGr.2 ⟨hk,hll,az,am,al⟩],rfl⟩
end Go.Proofs.Tryz
namespace Go.Proofs.Tryz
open Go Go.Iv
end Go.Proofs.Tryz
namespace Go.Proofs.Tryz
open Go Go.Iv
set_option maxRecDepth 4000
variable (gl:Nat->Option IV)
mutual
def wTr:Tr->Nat
 | .mk _ s f u n sub=>wFms s.l+wFms s.r+wFm f+wTm u+n.size+wTrs sub
def wTrs:List Tr->Nat
 | []=>0
 | a::l=>wTr a+wTrs l
end
def oW (s:Sq)(f:Fm)(u:Tm)(n:ByteArray):Bool:=decide (wFms s.l+wFms s.r<=300)&&!decide (300<wFm f)&&!decide (300<wTm u)&&!decide (100<n.size)
mutual
def okT:Tr->Bool
 | .mk _ s f u n sub=>oW s f u n&&okTs sub
def okTs:List Tr->Bool
 | []=>true
 | a::l=>okT a&&okTs l
end
def Ag:∀l m:List Tr,okTs (l++m)=(okTs l&&okTs m)
 | [],m=>by simp[okTs]
 | a::l,m=>by simp only[ed,okTs,Ag l m,Bool.and_assoc]
def P9 {l:List Tr}{k:Nat}{a:Tr}(h:l[k]?=some a):okTs (l.take (k+1))=(okTs (l.take k)&&okT a):=by
 rw[dE h,Ag];simp[okTs]
def P_ (l:List Tr)(k:Nat)(h:okTs l=true):okTs (l.take k)=true:=by
 rw[<- el k l,Ag,bAt] at h;exact h.1
def Hk {l:List Tr}{k:Nat}{a:Tr}(h:l[k]?=some a):fj (l.take (k+1))=fj (l.take k)+a.steps:=by
 rw[dE h,yh];simp[fj]
def Ah (l:List Tr)(k:Nat):fj (l.take k)<=fj l:=by
 conv=>rhs;rw[<- el k l]
 rw[yh];omega
def Hl:∀ {l:List Tr}{t:Tr},t∈l->wTr t<=wTrs l
 | a::l,t,h=>by
  simp only[wTrs];rcases dN.1 h with rfl|h
  ·omega
  ·have:=Hl h;omega
def Sum.gt {w:Nat}{r:IV}(h:Sum w 300 r):∃n:Nat,r=n/\decide ((300:Int)<(n:Int))=decide (300<w):=by
 obtain⟨n,rfl,h1,h2⟩:=h;refine⟨n,rfl,?_⟩;rw[eX];constructor
 ·intro h;omega
 ·intro h;rcases Int.lt_or_le 300 (n:Int) with A|A
  ·exact A
  ·have:=h2 A;omega
def Hm (t:Tr)(left:Int)(r:Int):Prop:=-1<=r/\r<=left/\(0<=r↔okT t=true/\(t.steps:Int)<=left)/\(0<=r->r=left-t.steps)
def sC (t:Tr):Prop:=∀(x:IV) (_:IsTr t x) (left:Int) (_:0<=left/\left<=1000) (_:wTr t<=1099511627776) (st:ISt),
 ICall prog gl 7 [x,left] st (λr st'=>(∃n:Int,r=n/\Hm t left n)/\st'=st)
def Qa (rule:Nat)(s:Sq)(f:Fm)(u:Tm)(n:ByteArray)(sub:List Tr)(IH:∀a∈sub,sC gl a):sC gl (.mk rule s f u n sub):=by
 intro x hx left hl hw st;obtain⟨tl,xl,tr,xr,op,fn,ta,xa,tb,xb,v,un,tu,xu,ts,xs,rfl,a8,e1,i1,e2,i2,hy,hz,e3,i3⟩:=hx.mk;simp only[wTr] at hw;have ak:=λst=>NQ gl s _ ⟨tl,xl,tr,xr,rfl,e1,i1,e2,i2⟩ ⟨by omega,by omega⟩ st;have aq:=λst=>zg gl [f] ⟨true,.full,4⟩ _ (.inr rfl) ⟨_,_,rfl,hy,rfl⟩ 300 ⟨by omega,by omega⟩ (by simp only[wFms];omega) st;have htm:=λst=>Fc gl [u] ⟨true,.full,3⟩ _ (.inr rfl) ⟨_,_,rfl,hz,rfl⟩ 300 ⟨by omega,by omega⟩ (by simp only[wTms];omega) st;have D:oW s f u n=false->Hm (.mk rule s f u n sub) left (-1):=λh=>by
  refine⟨by omega,by omega,⟨λh=>by omega,λh'=>?_⟩,λh=>by omega⟩;simp only[okT,h,oe,bFt,false_and] at h'
 refine iI func7 ?_;simp only[go_sem,zE,zA,zL];refine (ak _).q ?_;unfold oW at D;cases q1:decide (wFms s.l+wFms s.r<=300)
 ·simp only[go_sem,zE];exact c_ ⟨⟨-1,rfl,D (by rw[q1];rfl)⟩,rfl⟩
 simp only[go_sem,zE,zA,zM,zL,fits,dW];refine (aq _).mono ?_;rintro _ st ⟨hS,rfl⟩;obtain⟨m,rfl,hd⟩:=hS.gt;rw[show wFms [f]=wFm f from by simp[wFms]] at hd;cases q2:decide (300<wFm f)
 case true =>
  rw[q2] at hd;simp only[go_sem,zE,hd];exact c_ ⟨⟨-1,rfl,D (by rw[q1,q2];rfl)⟩,rfl⟩
 rw[q2] at hd;simp only[go_sem,zE,zA,zM,zL,fits,hd,dW];refine (htm _).mono ?_;rintro _ st ⟨ay,rfl⟩;obtain⟨m2,rfl,G⟩:=ay.gt;rw[show wTms [u]=wTm u from by simp[wTms]] at G;cases q3:decide (300<wTm u)
 case true =>
  rw[q3] at G;simp only[go_sem,zE,G];exact c_ ⟨⟨-1,rfl,D (by rw[q1,q2,q3];rfl)⟩,rfl⟩
 rw[q3] at G;have aa:decide ((100:Int)<((n.size:Nat):Int))=decide (100<n.size):=by rw[eX];omega
 cases q4:decide (100<n.size)
 case true =>
  rw[q4] at aa;simp only[go_sem,zE,G,aa];intro _;exact c_ ⟨⟨-1,rfl,D (by rw[q1,q2,q3,q4];rfl)⟩,rfl⟩
 rw[q4] at aa;have J:oW s f u n=true:=by unfold oW;rw[q1,q2,q3,q4];rfl
 have wl:IntKind.i64.wrap (left-1)=left-1:=w64 (by omega) (by omega);simp only[go_sem,zE,G,aa,wl];intro _;refine dj sub.length (λk fr st' ds=>(∃l:Int,fr 1=l /\ -1<=l/\l<=left-1/\(0<=l↔okTs (sub.take k)=true/\((fj (sub.take k):Nat):Int)+1<=left)/\(0<=l->l=left-1-(fj (sub.take k):Nat))) /\
  fr 2=.box [.raw (.int .u8 rule),.sl tl xl,.sl tr xr,.raw (.int .u8 op),fn,.sl ta xa,.sl tb xb,v,un,.sl tu xu,n,.sl ts xs]/\fr 5=.iv (.raw (.int .i64 k))/\st'=st/\ds=[]) ?_ ?_ ?_
 ·simp only[go_sem,zE];exact⟨⟨left-1,rfl,by omega,by omega,⟨λh=>⟨rfl,by simp only[fj];omega⟩,λh=>by have:=h.2;simp only[fj] at this;omega⟩,λ_=>by simp only[fj];omega⟩,rfl⟩
 ·rintro k fr an _ O ⟨⟨l,f1,ab,aw,E,U⟩,f2,f5,rfl,rfl⟩;obtain⟨a,ha⟩:=dB O;obtain⟨z,ax,ah⟩:=i3.get ha;have aj:=P9 ha;have hst:=Hk ha;by_cases A:(0:Int)<=l
  ·have ac:=λst=>IH a (lMg ha) z ah l ⟨A,by omega⟩ (by have:=Hl (lMg ha);omega) st;obtain⟨ao,aT,aF,aS,aE,aY,bd,aW,aI,aU,aG,v',aL,aN,aA,n',aQ,aC,rfl⟩:=eT ah;simp only[go_sem,zE,zB,zA,f1,f2,f5,i3.len,lt_i O,dEt A,dz e3,iNn,ax,fits];intro _;refine (ac _).mono ?_;rintro _ aX ⟨⟨r,rfl,av,ba,ai,au⟩,rfl⟩;simp only[go_sem,zE,f2,f5,dC O (by omega)];have g3:=E.1 A;have g4:=U A;refine⟨r,rfl,av,by omega,?_,λh=>by have:=au h;rw[hst];omega⟩;rw[aj,hst,g3.1,g_];constructor
   ·intro h;have:=ai.1 h;exact⟨this.1,by omega⟩
   ·intro h;exact ai.2 ⟨h.1,by have:=h.2;omega⟩
  ·simp only[go_sem,zE,f1,f2,f5,i3.len,lt_i O,dEf A];intro _;refine c_ ⟨⟨l,rfl,ab,by omega,⟨λh=>absurd h A,λh=>?_⟩,λh=>absurd h A⟩,rfl⟩;have h1:=h.1;have h2:=h.2;simp only[okT,J,g_] at h1;simp only[Tr.steps] at h2;have h3:=Ah sub k;exact absurd (E.2 ⟨P_ sub k h1,by omega⟩) A
 ·rintro fr an _ ⟨⟨l,f1,ab,aw,E,U⟩,f2,f5,rfl,rfl⟩;rw[lTl] at E U;simp only[go_sem,zE,f1,f2,f5,i3.len,dF (nLi _)];intro _;refine c_ ⟨⟨l,rfl,ab,by omega,?_,λh=>by have:=U h;simp only[Tr.steps];omega⟩,rfl⟩;simp only[okT,J,g_,Tr.steps];constructor
  ·intro h;have:=E.1 h;exact⟨this.1,by omega⟩
  ·intro h;exact E.2 ⟨h.1,by have:=h.2;omega⟩
def Hn:∀(k:Nat)(t:Tr),SizeOf.sizeOf t<k->sC gl t
 | 0,t,h=>by omega
 | k+1,.mk r sq f u n sub,h=>Qa gl r sq f u n sub (λa A=>Hn k a (by
   have:=lSm A;simp at h;omega))
def Qb (t:Tr):sC gl t:=Hn gl _ t (ew _)
def Qc (t:Tr)(x:IV)(D:IsTr t x)(hw:wTr t<=1099511627776)(st:ISt):ICall prog gl 4 [x] st (λr st'=>r=(okT t&&decide (t.steps<=60):Bool)/\st'=st):=by
 have hs:=λst=>Qb gl t x D 60 ⟨by omega,by omega⟩ hw st;obtain⟨A,ag,O,af,J,aj,am,ai,aa,ah,U,v',ab,ac,E,n',ae,G,rfl⟩:=eT D;refine iI func4 ?_;simp only[go_sem,zE,zA,zL];refine (hs _).mono ?_;rintro _ st ⟨⟨r,rfl,h1,h2,h3,h4⟩,rfl⟩;have hd:decide ((0:Int)<=r)=(okT t&&decide (t.steps<=60)):=by
  rw[kN,dTe,h3,bAt,dTe];constructor<;>intro h<;>exact⟨h.1,by have:=h.2;omega⟩
 simp only[go_sem,hd];exact c_ ⟨rfl,rfl⟩
end Go.Proofs.Tryz
namespace Go.Proofs.Tryz
open Go Go.Iv
mutual
def vv:∀t:Tm,t.size<=wTm t
 | .mk _ n us=>by have:=Ai us;simp only[wTm,Tm.size];omega
def Ai:∀l:List Tm,dP l<=wTms l
 | []=>dJ _
 | a::l=>by have:=vv a;have:=Ai l;simp only[wTms,dP];omega
end
mutual
def vw:∀f:Fm,f.size<=wFm f
 | .mk _ n us sub=>by have:=Ai us;have:=mr sub;simp only[wFm,Fm.size];omega
def mr:∀l:List Fm,dL l<=wFms l
 | []=>dJ _
 | a::l=>by have:=vw a;have:=mr l;simp only[wFms,dL];omega
end
def nh {s:Sq}{f:Fm}{u:Tm}{n:ByteArray}(h:oW s f u n=true):wFms s.l+wFms s.r<=300/\wFm f<=300/\wTm u<=300/\n.size<=100:=by
 unfold oW at h;grind
def Ho {s:Sq}(h:wFms s.l+wFms s.r<=300):fW s:=by
 have:=mr s.l;have:=mr s.r;exact⟨λf A=>by have:=uK A;omega,λf A=>by have:=uK A;omega⟩
def qz:∀ {l:List Tr}{a:Tr},okTs l=true->a∈l->okT a=true
 | b::l,a,h,A=>by
  simp only[okTs,bAt] at h;rcases dN.1 A with rfl|A
  ·exact h.1
  ·exact qz h.2 A
def Hp:∀ {t:Tr},okT t=true->oS t
 | .mk rule s m u n sub,h=>by
  simp only[okT,bAt] at h;obtain⟨h1,h2,U,_⟩:=nh h.1;have:=vw m;have:=vv u;refine⟨Ho h1,by omega,by omega,λa E=>?_⟩;have:=qz h.2 E;obtain⟨A,s',O,G,J,D⟩:=a;simp only[okT,bAt] at this;exact Ho (nh this.1).1
mutual
def Hq:∀(p:List Nat)(t:Tr),okT t=true->∀q∈t.walk p,okT q.2=true
 | p,.mk rule s m u n sub,h,q,A=>by
  simp only[Tr.walk,dN] at A;rcases A with rfl|A
  ·exact h
  ·simp only[okT,bAt] at h;exact Hr p 0 sub h.2 q A
def Hr:∀(p:List Nat)(i:Nat)(l:List Tr),okTs l=true->∀q∈ek p i l,okT q.2=true
 | _,_,[],_,q,A=>by cases A
 | p,i,a::l,h,q,A=>by
  simp only[okTs,bAt] at h;simp only[ek,dR] at A;rcases A with A|A
  ·exact Hq _ a h.1 q A
  ·exact Hr p (i+1) l h.2 q A
end
def vA {t:Tr}(h:okT t=true)(hs:t.steps<=1099511627776):n_ t:=⟨λq A=>Hp (Hq [] t h q A),dT t.height_le_steps hs⟩
mutual
def NA:Tr->Prop
 | .mk _ s m u _ sub=>fW s/\m.size<=1000000/\u.size<=1000000/\NAs sub
def NAs:List Tr->Prop
 | []=>True
 | a::l=>NA a/\NAs l
end
def Hs:∀ {t:Tr},NA t->fW t.sq
 | .mk _ _ _ _ _ _,h=>by simp only[NA] at h;exact h.1
def Aj:∀ {l:List Tr}{a:Tr},NAs l->a∈l->NA a
 | b::l,a,h,A=>by
  simp only[NAs] at h;rcases dN.1 A with rfl|A
  ·exact h.1
  ·exact Aj h.2 A
def Qd:∀ {t:Tr},NA t->oS t
 | .mk _ _ _ _ _ _,h=>by
  simp only[NA] at h;exact⟨h.1,h.2.1,h.2.2.1,λa A=>Hs (Aj h.2.2.2 A)⟩
mutual
def Ht:∀(p:List Nat)(t:Tr),NA t->∀q∈t.walk p,NA q.2
 | p,.mk rule s m u n sub,h,q,A=>by
  simp only[Tr.walk,dN] at A;rcases A with rfl|A
  ·exact h
  ·simp only[NA] at h;exact Hu p 0 sub h.2.2.2 q A
def Hu:∀(p:List Nat)(i:Nat)(l:List Tr),NAs l->∀q∈ek p i l,NA q.2
 | _,_,[],_,q,A=>by cases A
 | p,i,a::l,h,q,A=>by
  simp only[NAs] at h;simp only[ek,dR] at A;rcases A with A|A
  ·exact Ht _ a h.1 q A
  ·exact Hu p (i+1) l h.2 q A
end
def Qe {t:Tr}(h:NA t)(hs:t.steps<=1099511627776):n_ t:=⟨λq A=>Qd (Ht [] t h q A),dT t.height_le_steps hs⟩
mutual
def Ak:∀ {t:Tr},okT t=true->NA t
 | .mk _ s m u n sub,h=>by
  have A:=Hp h;simp only[okT,bAt] at h;exact⟨A.1,A.2.1,A.2.2.1,Hv h.2⟩
def Hv:∀ {l:List Tr},okTs l=true->NAs l
 | [],_=>trivial
 | a::l,h=>by
  simp only[okTs,bAt] at h;exact⟨Ak h.1,Hv h.2⟩
end
end Go.Proofs.Tryz
namespace Go.Proofs.Tryz
open Go Go.Iv
set_option maxRecDepth 4000
variable (gl:Nat->Option IV)
set_option maxHeartbeats 4000000 in
def Hw {ca:Nat}(hc:ca=1\/ca=2)(rule:Nat)(st:ISt):ICall prog gl 150 [.raw (.int .u8 ca),.raw (.int .u8 rule)] st (λr st'=>uP ca rule r/\st'=st):=by
 refine iI func150 ?_;by_cases h:18<rule
 ·have ds:∀j:Int,j<=18->decide (((rule:Nat):Int)=j)=false:=λj A=>dEf (by omega);simp only[go_sem,zE,ds,Int.reduceLE];refine c_ ⟨?_,rfl⟩;have:rowS ca rule=none:=by
   unfold rowS rowK
   repeat rw[a_ (by omega)]
  unfold uP;rw[this];exact⟨_,_,_,rfl⟩
 rcases (show rule=0\/rule=1\/rule=2\/rule=3\/rule=4\/rule=5\/rule=6\/rule=7\/rule=8\/rule=9\/rule=10\/rule=11\/rule=12\/rule=13\/rule=14\/rule=15\/rule=16\/rule=17\/rule=18 by omega) with rfl|rfl|rfl|rfl|rfl|rfl|rfl|rfl|rfl|rfl|rfl|rfl|rfl|rfl|rfl|rfl|rfl|rfl|rfl
 all_goals rcases hc with rfl|rfl
 all_goals
  simp only[go_sem,zE,reduceCtorEq,kc,Int.reduceEq,dA,decide_false];exact c_ ⟨by first|exact rfl|exact⟨_,_,_,rfl⟩,rfl⟩
def Hx {A:Tag}{es:Nat}(h:okEs A es)(len D l:Nat):okEs (jm (reTag es A) len D l none) es:=by
 have:=dz h;unfold jm;by_cases h1:(reTag es A).cap=.nil
 ·rw[cV h1];exact .inr this
 ·rw[a_ h1];by_cases h2:l=0/\D=len
  ·simp only[cV h2];exact .inr this
  ·simp only[a_ h2];exact .inr this
def Hy {n:Nat}(h:1<=n):fT (some 1) none n=some (1,n):=by
 simp only[fT,fM,eh];rw[cV (by omega)];rfl
def Hz {n:Nat}(h:1<=n):fT none (some 1) n=some (0,1):=by
 simp only[fT,fM,eh];rw[cV (by omega)];rfl
inductive RowI:Nat->Rw->Prop
 | a:RowI 1 ⟨true,true,0,0⟩
 | b:RowI 2 ⟨true,false,2,0⟩
 | c:RowI 3 ⟨true,false,3,0⟩
 | d:RowI 4 ⟨false,true,3,0⟩
 | e:RowI 5 ⟨true,false,4,0⟩
 | f:RowI 6 ⟨false,true,4,0⟩
 | g:RowI 7 ⟨true,false,5,0⟩
 | h:RowI 8 ⟨false,true,5,0⟩
 | i:RowI 9 ⟨true,false,6,0⟩
 | j:RowI 10 ⟨false,true,6,0⟩
 | k:RowI 11 ⟨true,false,7,0⟩
 | l:RowI 12 ⟨false,true,7,0⟩
 | m:RowI 17 ⟨false,false,0,0⟩
 | n:RowI 18 ⟨false,true,5,0⟩
def qA {ca rule:Nat}{r:Rw}(hc:ca=1\/ca=2)(h:rowS ca rule=some r):RowI rule r:=by
 by_cases A:18<rule
 ·unfold rowS rowK at h
  repeat rw[a_ (by omega)] at h
  cases h
 ·rcases (show rule=0\/rule=1\/rule=2\/rule=3\/rule=4\/rule=5\/rule=6\/rule=7\/rule=8\/rule=9\/rule=10\/rule=11\/rule=12\/rule=13\/rule=14\/rule=15\/rule=16\/rule=17\/rule=18 by omega) with rfl|rfl|rfl|rfl|rfl|rfl|rfl|rfl|rfl|rfl|rfl|rfl|rfl|rfl|rfl|rfl|rfl|rfl|rfl
  all_goals rcases hc with rfl|rfl
  all_goals
   simp[rowS,rowK] at h
   try (subst h;constructor)
def Al {ca rule:Nat}{r:Rw}{main:Fm}{u:Tm}{n:ByteArray}(hc:ca≠3)(D:rowS ca rule=some r):fH ca rule r main u n=if fmB ca main=true/\(r.op=0\/main.op=r.op) then (addS ca rule main ((main.subs[0]?).getD fm0) ((main.subs[1]?).getD fm0),0) else ([],192):=by
 split
 ·rename_i h;rw[yT h.1 h.2,cV (y9 hc D)]
 ·rename_i h;unfold fH;rw[cV];by_cases A:fmB ca main=true
  ·have h0:r.op≠0:=λq=>h ⟨A,.inl q⟩;have h1:main.op≠r.op:=λq=>h ⟨A,.inr q⟩;simp[h0,h1]
  ·simp[A]
def Qf {ca rule:Nat}{r:Rw}{main:Fm}{u:Tm}{n:ByteArray}{ad:List Sq}(hc:ca=1\/ca=2)(G:rowS ca rule=some r)(h:fH ca rule r main u n=(ad,0)) :
  ∀q∈ad,q.l.length<=2/\q.r.length<=2/\(∀f∈q.l,fmB ca f=true)/\∀f∈q.r,fmB ca f=true:=by
 have E:ca≠3:=by omega
 rw[Al E G] at h;split at h
 case isFalse=>cases (Prod.mk.inj h).2
 rename_i hb;obtain⟨D,A⟩:=hb;obtain rfl:=(Prod.mk.inj h).1;cases lU E D with
 | atom n=>cases qA hc G<;>simp[Fm.op] at A<;>simp[addS,D]
 | fls=>cases qA hc G<;>simp[Fm.op] at A<;>simp[addS,D]
 | neg _ =>
  have:=zt D;cases qA hc G<;>simp[Fm.op] at A<;>simp[addS,D,Fm.subs,this]
 | @bin o a b h4 h7 _ _ =>
  obtain⟨k1,U,O,J⟩:=zu ⟨by omega,h4,h7⟩ D;have O:fmB ca (impF a b)=true:=O;have J:fmB ca (impF b a)=true:=J;cases qA hc G
  all_goals dsimp only[Fm.op] at A
  all_goals try (exfalso;omega)
  all_goals rcases hc with rfl|rfl<;>simp[addS,D,Fm.subs,k1,U,O,J]
def himp {a b:Fm}{D A:IV}{t:Tag}(ht:okEs t 4)(G:IsFm a D)(E:IsFm b A):IsFm (impF a b) (.agg [.raw (.int .u8 6),.raw (.string ⟨#[]⟩),(),.sl t [D,A]]):=by
 simp only[IsFms,impF,IsFm];exact⟨_,_,_,_,rfl,by omega,.inl rfl,rfl,ht,_,_,rfl,G,_,_,rfl,E,rfl⟩
set_option maxHeartbeats 8000000 in
def Qg {ca:Nat}(hc:ca=1\/ca=2)(rule:Nat)(main:Fm)(y:IV)(hy:IsFm main y)(hm:main.size<=1000000)(term:Tm)(z:IV)(hz:IsTm term z)(name:ByteArray)(st:ISt) :
  ICall prog gl 151 [.raw (.int .u8 ca),.raw (.int .u8 rule),y,z,name] st (AdR st (lQ ca rule main term name)):=by
 have J:ca≠3:=by omega
 have hW:=λst=>Hw gl hc rule st;have hF:=λst=>E7 gl J main y hy (by omega) st;have ag:=hy;obtain⟨op,nm,us,sub⟩:=main;obtain⟨t1,x1,t4,x4,rfl,ho,e1,i1,e4,i4⟩:=hy.mk;obtain⟨v5,n5,t5,x5,rfl⟩:=hz.agg;have k1:decide (((ca:Nat):Int)<1)=false:=dEf (by omega);have k2:decide ((3:Int)<((ca:Nat):Int))=false:=dEf (by omega);have hk:gv ca=true:=by
  simp only[gv,bAt,dTe];omega
 refine ICall.intro (c:=cf prog gl [] [(39,[0,1,3,4,2,5,6,7,8]),(48,[0,1,2,3,4,5,10,6,7,8,9,11,12])]) func151 rfl (by show _<=197;simp) (by kernel_rfl) ?_;simp only[go_sem,zE,zA,reduceCtorEq,k1,k2];intros;refine (hW _).mono ?_;rintro w st ⟨O,rfl⟩;unfold uP at O;unfold lQ;rw[hk];cases A:rowS ca rule with
 | none =>
  rw[A] at O;obtain⟨o9,a9,b9,rfl⟩:=O;simp only[go_sem,zE,reduceCtorEq];exact c_ ⟨_,_,rfl,.inl rfl,rfl,rfl⟩
 | some r =>
  rw[A] at O;simp only at O;subst O;simp only[mw,bFt,dI,Al J A];simp only[go_sem,zE,zA,zL,reduceCtorEq];refine (hF _).q ?_;cases hf:fmB ca (.mk op nm us sub)
  ·simp only[go_sem,zE,reduceCtorEq];exact c_ ⟨_,_,rfl,.inl rfl,rfl,rfl⟩
  by_cases G:r.op=0\/op=r.op
  case neg =>
   rw[a_ λh=>G h.2];have k4:decide (((r.op:Nat):Int)=0)=false:=dEf (by omega);have k5:decide (((op:Nat):Int)=((r.op:Nat):Int))=false:=dEf (by omega);simp only[go_sem,zE,zA,k4,k5];intros;exact c_ ⟨_,_,rfl,.inl rfl,rfl,rfl⟩
  rw[cV ⟨rfl,G⟩];have s3:∀a b c,(reTag 4 (jm (reTag 4 t4) a b c none)).es=4:=λa b c=>dz (Hx e4 a b c);have s1:=Hy (show 1<=1 by omega);have s2:=Hz (show 1<=1 by omega);have s4:=Hy (show 1<=2 by omega);have s5:=Hz (show 1<=2 by omega);have U:∀x y:Operand,kB 2 [(0,x),(1,y)]=true:=λ_ _=>rfl;have ai:(sub=[]/\op<=2)\/(op=3/\∃a,sub=[a])\/(4<=op/\op<=7/\∃a b,sub=[a,b]):=by
   cases lU J hf with
   | atom n=>exact .inl ⟨rfl,by decide⟩
   | fls=>exact .inl ⟨rfl,by decide⟩
   | neg _=>exact .inr (.inl ⟨rfl,_,rfl⟩)
   | bin h4 h7 _ _=>exact .inr (.inr ⟨h4,h7,_,_,rfl⟩)
  have hC:=qA hc A;rcases ai with⟨rfl,h2⟩|⟨rfl,a,rfl⟩|⟨h4,h7,a,b,rfl⟩
  all_goals first
   | (obtain⟨ya,_,rfl,D,yb,_,rfl,E,rfl⟩:=i4
      obtain⟨oa,na,af,ac,ae,ab,rfl⟩:=D.agg;obtain⟨ob,nb,au,an,aq,am,rfl⟩:=E.agg;obtain rfl|rfl|rfl|rfl:op=4\/op=5\/op=6\/op=7:=by omega)
   | (obtain⟨ya,_,rfl,D,rfl⟩:=i4
      obtain⟨oa,na,af,ac,ae,ab,rfl⟩:=D.agg)
   | (obtain rfl:x4=[]:=i4
      obtain rfl|rfl|rfl:op=0\/op=1\/op=2:=by omega)
  all_goals cases hC
  all_goals dsimp only at G
  all_goals try (exfalso;omega)
  all_goals rcases hc with rfl|rfl
  all_goals
   simp only[go_sem,zE,zB,zA,zM,zS,zL,reduceCtorEq,fits,kc,Int.reduceEq,Int.reduceLT,dA,decide_false,dU,dW,U,s1,s2,s3,s4,s5,dz e4,jw,jx];intros
   repeat (refine (NJ gl _ _ _ _ _).q ?_;simp only[go_sem,zE,zA,zM,zL,fits,dU,dW,U])
   refine c_ ⟨_,_,rfl,by first|exact .inl rfl|exact .inr rfl,?_,rfl⟩
   repeat' first
    | exact rfl
    | exact D
    | exact E
    | exact ag
    | exact .inl rfl
    | exact .inr rfl
    | exact e4
    | exact Hx e4 _ _ _
    | exact himp e4 D E
    | exact himp (.inr rfl) E D
    | refine⟨_,_,_,_,rfl,?_,?_,?_,?_⟩
    | refine⟨_,_,rfl,?_,?_⟩
def HA {s:Sq}:∀ {ad:List Sq} {ts:List Tr},(∀(i:Nat) (m:Sq) (t:Tr),ad[i]?=some m->ts[i]?=some t->j7 t.sq (s.plus m)=true)->gp s ad ts=true
 | [],_,_=>rfl
 | _::_,[],_=>rfl
 | m::ad,t::ts,h=>by
  simp only[gp,bAt];exact⟨h 0 m t rfl rfl,HA λi a b h1 h2=>h (i+1) a b (by simpa using h1) (by simpa using h2)⟩
set_option maxHeartbeats 4000000 in
def Qh {ca:Nat}(hc:ca=1\/ca=2)(rule:Nat)(s:Sq)(m:Fm)(u:Tm)(n:ByteArray)(sub:List Tr)(x:IV)(hx:IsTr (.mk rule s m u n sub) x)(hn:NA (.mk rule s m u n sub))(st:ISt) :
  ICall prog gl 117 [.raw (.int .u8 ca),x] st (AdR st (fA ca s rule m u n)):=by
 have D:ca≠3:=by omega
 obtain⟨tl,xl,tr,xr,op,fn,ta,xa,tb,xb,v,un,tu,xu,ts,xs,rfl,aw,e1,i1,e2,i2,hy,hz,e3,i3⟩:=hx.mk;simp only[NA] at hn;have hV:=λst=>Hj gl hc s _ ⟨tl,xl,tr,xr,rfl,e1,i1,e2,i2⟩ hn.1 st;have hW:=λst=>Hw gl hc rule st;have hA:=λst=>Qg gl hc rule m _ hy hn.2.1 u _ hz n st;have hk:gv ca=true:=by
  simp only[gv,bAt,dTe];omega
 refine iI func117 ?_;simp only[go_sem,zE,zA,zL,reduceCtorEq];refine (hV _).q ?_;unfold fA;cases hv:ev ca s
 ·simp only[go_sem,zE];exact c_ ⟨_,_,rfl,.inl rfl,rfl,rfl⟩
 obtain⟨_,ak,aj,ah,ag⟩:=yGr.1 hv;have ac:=λst=>vu gl D s.l tl xl e1 i1 m _ hy ah hn.2.1 (by omega) st;have ab:=λst=>vu gl D s.r tr xr e2 i2 m _ hy (λf hf=>(ag f hf).1) hn.2.1 (by omega) st;simp only[go_sem,zE,zA,reduceCtorEq];refine (hW _).mono ?_;rintro w st ⟨G,rfl⟩;unfold uP at G;unfold lQ at hA;rw[hk] at hA;cases A:rowS ca rule with
 | none =>
  rw[A] at G;obtain⟨o9,a9,b9,rfl⟩:=G;simp only[go_sem,zE];exact c_ ⟨_,_,rfl,.inl rfl,rfl,rfl⟩
 | some r =>
  rw[A] at G hA;simp only[mw,bFt,dI] at G hA;subst G;have aB:rule≠14/\rule≠15:=by cases qA hc A<;>decide
  have O:decide (((rule:Nat):Int)=14)=false:=dEf (by omega);have J:decide (((rule:Nat):Int)=15)=false:=dEf (by omega);have hq:(fH ca rule r m u n).2=0\/(fH ca rule r m u n).2=192:=by rw[Al D A];split<;>simp
  have has:=y9 D A;simp only[has,show decide ((0:Nat)=2)=false from rfl,oe,bFt,dI];generalize fH ca rule r m u n=q at hA hq ⊢;obtain⟨q,e⟩:=q;simp only at hq ⊢;simp only[go_sem,zE,zA,zL,reduceCtorEq];refine (hA _).mono ?_;rintro _ st ⟨an,za,rfl,hta,U,rfl⟩;rcases hq with rfl|rfl
  case inr =>
   simp only[go_sem,zE,kc,dA];intros;exact c_ ⟨_,_,rfl,.inl rfl,rfl,rfl⟩
  have E:decide (((0:Nat):Int)=192)=false:=rfl;generalize hasF s.l m=bl at ac ⊢;generalize hasF s.r m=br at ab ⊢;obtain⟨rl,rr,ro,ra⟩:=r;simp only;cases rl
  case' false =>
   simp only[go_sem,zE,reduceCtorEq,E];intros
  case' true =>
   simp only[go_sem,zE,zA,zL,reduceCtorEq,E];intros;refine (ac _).q ?_;cases bl
   ·simp only[go_sem,zE];intros;exact c_ ⟨_,_,rfl,.inl rfl,rfl,rfl⟩
   simp only[go_sem,zE];intros
  all_goals
   cases rr
   ·simp only[go_sem,zE,zA,O,J,kc,dA];intros;exact c_ ⟨_,_,rfl,hta,U,rfl⟩
   ·simp only[go_sem,zE,zA,zL];intros;refine (ab _).q ?_;cases br
    ·simp only[go_sem,zE];intros;exact c_ ⟨_,_,rfl,.inl rfl,rfl,rfl⟩
    ·simp only[go_sem,zE,zA,O,J,kc,dA];intros;exact c_ ⟨_,_,rfl,hta,U,rfl⟩
section
variable {ca m:Nat}{W:List Fm}{tw:Tag}{xw:List IV}{lines:List Ln}{links:List (List Lk)}{hs:List Nat}{tl tk:Tag}{xl xk:List IV}{mN rb gH:Nat}
end
section
variable {ca m:Nat}{W:List Fm}{tw:Tag}{xw:List IV}{lines:List Ln}{links:List (List Lk)}{hs:List Nat}{tl tk:Tag}{xl xk:List IV}{mN rb gH:Nat}
end
noncomputable def tS (j:Bool)(s:Sn):Nat:=(tF j (hF j s) s).steps
section
variable {ca m:Nat}{W:List Fm}{tw:Tag}{xw:List IV}{lines:List Ln}{links:List (List Lk)}{hs:List Nat}{tl tk:Tag}{xl xk:List IV}{mN rb gH:Nat}
end
end Go.Proofs.Tryz
namespace Go.Proofs.Tryz
open Go Go.Iv
def vB {o:Nat}(h:o<=7):isQ o=false:=by
 rcases (show o=0\/o=1\/o=2\/o=3\/o=4\/o=5\/o=6\/o=7 by omega) with rfl|rfl|rfl|rfl|rfl|rfl|rfl|rfl<;>rfl
def Qi {f:Fm}(h:PF f)(fr:List ByteArray)(ar:Ar):mh fr ar f=f:=by
 induction h with
 | atom n=>simp[mh,jM,gk,vB (o:=1) (by omega)]
 | fls=>simp[mh,jM,gk,vB (o:=2) (by omega)]
 | neg h E=>simp[mh,jM,gk,vB (o:=3) (by omega),E]
 | bin J G _ _ D A=>simp[mh,jM,gk,vB G,D,A]
def Qj {ca:Nat}(hc:ca=1\/ca=2){s:Sq}(hv:ev ca s=true):SetS s=(sqOf (nf (s.l,s.r)),0):=by
 have D:=Pj hv;have key:∀l:List Fm,(∀f∈l,fmB ca f=true)->il l=(setF l,0):=λl hl=>by
  unfold il;rw[cV (eP.2 λf A=>m_ (hl f A))];have:l.map lM=l:=by
   conv=>rhs;rw[<- List.map_id l]
   exact kl λf A=>Qi (lU (by omega) (hl f A)) _ _
  rw[this]
 unfold SetS;rw[key s.l λf A=>D f (iX _ A),key s.r λf A=>D f (jD _ A)];rfl
section
variable {ca:Nat}(hc:ca=1\/ca=2){s0:Sq}(hv:ev ca s0=true){K:List Sn}(hK:ReachOk (calJ ca) (nf (s0.l,s0.r)) K)
include hc hv hK
end
set_option maxRecDepth 100000
def Am {e:Tr->Nat}:∀ {l:List (List Nat×Tr)},(∀q∈l,e q.2=0)->eV e l=([],0)
 | [],_=>rfl
 | q::l,h=>by
  obtain⟨p,t⟩:=q;rw[eV,cV (h _ (.head _))];exact Am λq A=>h q (.tail _ A)
def HB {e:Tr->Nat}:∀ {l:List (List Nat×Tr)},(eV e l).2=0\/∃q∈l,(eV e l).1=q.1
 | []=>.inl rfl
 | (p,t)::l=>by
  rw[eV];by_cases h:e t=0
  ·rw[cV h];rcases HB (e:=e) (l:=l) with h|⟨q,A,h⟩
   ·exact .inl h
   ·exact .inr ⟨q,.tail _ A,h⟩
  ·rw[a_ h];exact .inr ⟨(p,t),.head _,rfl⟩
mutual
def Qk:∀(p:List Nat)(t:Tr)(q:List Nat×Tr),q∈t.walk p->p.length<=q.1.length
 | p,.mk _ _ _ _ _ sub,q,h=>by
  simp only[Tr.walk,dN] at h;rcases h with rfl|h
  ·exact dJ _
  ·exact Nat.le_of_lt (An p 0 sub q h)
def An:∀(p:List Nat)(i:Nat)(l:List Tr)(q:List Nat×Tr),q∈ek p i l->p.length<q.1.length
 | _,_,[],q,h=>by simp[ek] at h
 | p,i,a::l,q,h=>by
  simp only[ek,dR] at h;rcases h with h|h
  ·have:=Qk (p++[i]) a q h;rw[lLa,jC] at this;omega
  ·exact An p (i+1) l q h
end
def sF {ca:Nat}(D:gv ca=true){t:Tr}(E:jP t=false)(hs:(shal t).steps<=300)(h:fP ca (shal t)=0):iu ca t=true:=by
 unfold iu;rw[E];have e:gS ca (shal t)=eV (fP ca) ((shal t).walk []):=by
  unfold gS;rw[D];simp only[mw,bFt,dI];rw[a_ (by omega)]
 rw[e];obtain⟨r,s,m,u,n,sub⟩:=t;simp only[shal] at h ⊢;simp only[Tr.walk,eV,h,dD];simp only[bFt,dI,lf,dTe];rcases HB (e:=fP ca) (l:=ek [] 0 (sub.map λp=>goalT p.sq)) with h1|⟨q,A,h1⟩
 ·exact .inl h1
 ·right;rw[h1];exact Nat.lt_of_le_of_lt (fq _) (An _ _ _ _ A)
def qB {ca:Nat}{s:Sq}(h:ev ca s=true):iu ca (goalT s)=true:=by
 have:jP (goalT s)=true:=by
  rw[jP,(j6 fm0 fm0).2 rfl];rfl
 unfold iu;rw[this];exact h
def oX {ca:Nat}(hc:ca=1\/ca=2){t:Tr}(hs:t.steps<=300)(h:∀q∈t.walk [],iu ca q.2=true):hCk ca t=([],0):=by
 unfold hCk;rw[cV hc,a_ (by omega)];exact Am λq A=>by unfold badN;rw[cV (h q A)]
abbrev qqF:Fm:=fbi 6 faQ faQ
abbrev mnF:Fm:=fbi 5 faP qqF
abbrev sM:Sq:=⟨[],[mnF]⟩
abbrev sQ:Sq:=⟨[],[qqF]⟩
abbrev sA:Sq:=⟨[faQ],[faQ]⟩
abbrev sP:Sq:=⟨[],[faP]⟩
abbrev sO:Sq:=⟨[],[orP]⟩
abbrev mv1:Nat×Fm×List Sn:=(18,mnF,[([],[qqF])])
abbrev mv2:Nat×Fm×List Sn:=(10,qqF,[([faQ],[faQ])])
abbrev mv3:Nat×Fm×List Sn:=(1,faQ,[])
abbrev mv4:Nat×Fm×List Sn:=(8,orP,[([],[faP,fno faP,orP])])
abbrev sk1:Tr:=.mk 18 sM mnF tmZ noN [goalT sQ]
abbrev sk2:Tr:=.mk 18 sM mnF tmZ noN [.mk 10 sQ qqF tmZ noN [goalT sA]]
abbrev sk3:Tr:=.mk 18 sM mnF tmZ noN [.mk 10 sQ qqF tmZ noN [.mk 1 sA faQ tmZ noN []]]
abbrev skW:Tr:=.mk 8 sM mnF tmZ noN [goalT sP]
def hvM:ev 2 sM=true:=sn (by kernel_rfl)
def hvQ:ev 2 sQ=true:=sn (by kernel_rfl)
def hvA:ev 2 sA=true:=sn (by kernel_rfl)
def hvP:ev 2 sP=true:=sn (by kernel_rfl)
def hvE:ev 1 ⟨[],[faP,fno faP,orP]⟩=true:=by kernel_rfl
def nfM:nf ([],[mnF])=([],[mnF]):=by rw[nf_C];kernel_rfl
def nfQ:nf ([],[qqF])=([],[qqF]):=by rw[nf_C];kernel_rfl
def nfO:nf ([],[orP])=([],[orP]):=by rw[nf_C];kernel_rfl
def nfA:nf ([faQ],[faQ])=([faQ],[faQ]):=by rw[nf_C];kernel_rfl
def mvM:mvF true ([],[mnF])=[(8,mnF,[([],[faP])]),mv1]:=by rw[zW];kernel_rfl
def mvQ:mvF true ([],[qqF])=[mv2]:=by rw[zW];kernel_rfl
def mvO:mvF false ([],[orP])=[mv4]:=by rw[zW];kernel_rfl
def nclM:¬ ClF ([]:List Fm) [mnF]:=λh=>by
 have:=(oO ([],[mnF])).2 h;exact absurd this (by rw[show clC ([],[mnF])=false by kernel_rfl];decide)
def nclQ:¬ ClF ([]:List Fm) [qqF]:=λh=>by
 have:=(oO ([],[qqF])).2 h;exact absurd this (by rw[show clC ([],[qqF])=false by kernel_rfl];decide)
def nclO:¬ ClF ([]:List Fm) [orP]:=λh=>by
 have:=(oO ([],[orP])).2 h;exact absurd this (by rw[show clC ([],[orP])=false by kernel_rfl];decide)
def clA:ClF [faQ] [faQ]:=.inl ⟨faQ,.head _,.head _⟩
def sd1K:List Sn:=[([],[faP])]
def sd1c:Cert true sd1K [false] [[]] [0]:=lX (by kernel_rfl) (by kernel_rfl) (by kernel_rfl) (by kernel_rfl) (by kernel_rfl) (by kernel_rfl) (by decide)
def sd1:hF true ([],[faP])=0/\ReachOk true (nf ([],[faP])) sd1K:=oP sd1c (by kernel_rfl)
def sd2K:List Sn:=[([],[(fbi 5 faP (fbi 6 faQ faQ))]),([],[faP]),([],[(fbi 6 faQ faQ)]),([faQ],[faQ])]
def sd2c:Cert true sd2K [false,false,false,true] [[[1],[2]],[],[[3]],[]] [3,0,2,1]:=lX (by kernel_rfl) (by kernel_rfl) (by kernel_rfl) (by kernel_rfl) (by kernel_rfl) (by kernel_rfl) (by decide)
def sd2:hF true ([],[(fbi 5 faP (fbi 6 faQ faQ))])=3/\ReachOk true (nf ([],[(fbi 5 faP (fbi 6 faQ faQ))])) sd2K:=oP sd2c (by kernel_rfl)
def sd3K:List Sn:=[([],[(fbi 6 faQ faQ)]),([faQ],[faQ])]
def sd3c:Cert true sd3K [false,true] [[[1]],[]] [2,1]:=lX (by kernel_rfl) (by kernel_rfl) (by kernel_rfl) (by kernel_rfl) (by kernel_rfl) (by kernel_rfl) (by decide)
def sd3:hF true ([],[(fbi 6 faQ faQ)])=2/\ReachOk true (nf ([],[(fbi 6 faQ faQ)])) sd3K:=oP sd3c (by kernel_rfl)
def sd4K:List Sn:=[([faQ],[faQ])]
def sd4c:Cert true sd4K [true] [[]] [1]:=lX (by kernel_rfl) (by kernel_rfl) (by kernel_rfl) (by kernel_rfl) (by kernel_rfl) (by kernel_rfl) (by decide)
def sd4:hF true ([faQ],[faQ])=1/\ReachOk true (nf ([faQ],[faQ])) sd4K:=oP sd4c (by kernel_rfl)
def sd5K:List Sn:=[([],[faP,(fno faP),(fbi 5 faP (fno faP))]),([faP],[faP,(fno faP),(fbi 5 faP (fno faP))])]
def sd5c:Cert false sd5K [false,true] [[[1],[0]],[]] [2,1]:=lX (by kernel_rfl) (by kernel_rfl) (by kernel_rfl) (by kernel_rfl) (by kernel_rfl) (by kernel_rfl) (by decide)
def sd5:hF false ([],[faP,(fno faP),(fbi 5 faP (fno faP))])=2/\ReachOk false (nf ([],[faP,(fno faP),(fbi 5 faP (fno faP))])) sd5K:=oP sd5c (by kernel_rfl)
def sG {s:Sn}(hv:ev 2 (sqOf s)=true)(h1:s.1=[])(h2:∀f∈s.2,fmB 2 f=true){m:Nat×Fm×List Sn}(D:m∈mvF true s){sub:List Tr}(A:sub.map Tr.sq=m.2.2.map sqOf):fP 2 (.mk m.1 (sqOf s) m.2.1 tmZ noN sub)=0 :=
 (Pt (.inr rfl) hv (by rw[h1];nofun) h2 D A).1
def fmM:∀f∈[mnF],fmB 2 f=true:=λf A=>by rw[dZ.1 A];kernel_rfl
def fmQ:∀f∈[qqF],fmB 2 f=true:=λf A=>by rw[dZ.1 A];kernel_rfl
def rW:iu 2 skW=true:=sF rfl rfl (by decide) (sG (s:=([],[mnF])) hvM rfl fmM (m:=(8,mnF,[([],[faP])])) (by rw[mvM];exact .head _) rfl)
def r1 (a:Tr)(h:a.sq=sQ):iu 2 (.mk 18 sM mnF tmZ noN [a])=true:=sF rfl rfl (by show 2<=300;decide) (sG (s:=([],[mnF])) hvM rfl fmM (m:=mv1) (by rw[mvM];exact .tail _ (.head _)) (by simp only[ec,fx,h];rfl))
def r2 (a:Tr)(h:a.sq=sA):iu 2 (.mk 10 sQ qqF tmZ noN [a])=true:=sF rfl rfl (by show 2<=300;decide) (sG (s:=([],[qqF])) hvQ rfl fmQ (m:=mv2) (by rw[mvQ];exact .head _) (by simp only[ec,fx,h];rfl))
def r3:iu 2 (.mk 1 sA faQ tmZ noN [])=true:=sF rfl rfl (by decide) (GL (.inr rfl) (s:=([faQ],[faQ])) hvA (λf A=>by rw[dZ.1 A];kernel_rfl) (by simp[axF])).1
def ckO1:hCk 1 (goalT sO)=([],0):=oX (.inl rfl) (by decide) λq A=>by
 simp only[Tr.walk,ek,dZ] at A;subst A;exact qB awv2
def ckO2:hCk 2 (goalT sO)=([],0):=oX (.inr rfl) (by decide) λq A=>by
 simp only[Tr.walk,ek,dZ] at A;subst A;exact qB awv3
def ckM:hCk 2 (goalT sM)=([],0):=oX (.inr rfl) (by decide) λq A=>by
 simp only[Tr.walk,ek,dZ] at A;subst A;exact qB hvM
def ckW:hCk 2 skW=([],0):=oX (.inr rfl) (by decide) λq A=>by
 simp only[Tr.walk,ek,eo,eY,dN,ga,fe] at A;rcases A with rfl|rfl
 ·exact rW
 ·exact qB hvP
def ck1:hCk 2 sk1=([],0):=oX (.inr rfl) (by decide) λq A=>by
 simp only[Tr.walk,ek,eo,eY,dN,ga,fe] at A;rcases A with rfl|rfl
 ·exact r1 _ rfl
 ·exact qB hvQ
def ck2:hCk 2 sk2=([],0):=oX (.inr rfl) (by decide) λq A=>by
 simp only[Tr.walk,ek,eo,eY,dN,ga,fe] at A;rcases A with rfl|rfl|rfl
 ·exact r1 _ rfl
 ·exact r2 _ rfl
 ·exact qB hvA
def ck3:hCk 2 sk3=([],0):=oX (.inr rfl) (by decide) λq A=>by
 simp only[Tr.walk,ek,eo,eY,dN,ga,fe] at A;rcases A with rfl|rfl|rfl
 ·exact r1 _ rfl
 ·exact r2 _ rfl
 ·exact r3
def HC (s:Sq):∀(ad:List Sq) (sub:List Tr),gp s ad (sub.map λp=>goalT p.sq)=gp s ad sub
 | [],_=>by simp[gp]
 | m::ad,[]=>by simp[gp]
 | m::ad,t::sub=>by simp only[ec,gp,HC s ad sub];rfl
def Ql {ca:Nat}(hc:ca≠3)(s:Sq)(rule:Nat)(m:Fm)(u:Tm)(n:ByteArray):fA ca s rule m tmZ noN=fA ca s rule m u n:=by
 unfold fA;cases D:rowS ca rule with
 | none=>rfl
 | some R =>
  have h0:=y9 hc D;have A:fH ca rule R m tmZ noN=fH ca rule R m u n:=by unfold fH;simp only[h0,dD]
  simp only[A,h0];rfl
def stG:∀l:List Tr,fj (l.map λp=>goalT p.sq)=l.length
 | []=>rfl
 | a::l=>by simp only[ec,fj,stG l,Tr.steps,dV];omega
noncomputable def Ao (ca:Nat):Tr->Bool
 | .mk r s m u n sub=>if gZ (.mk r s m u n sub)=true then ev ca s&&eqB m fm0 else decide (fP ca (.mk r s m u n sub)=0)
def Qm {ca:Nat}(hc:ca=1\/ca=2)(z:Tr)(hs:z.steps<=299):iu ca z=Ao ca z:=by
 obtain⟨r,s,m,u,n,sub⟩:=z;have U:gv ca=true:=by unfold gv;rcases hc with rfl|rfl<;>rfl
 have hl:=lY sub;simp only[Tr.steps] at hs;have G:(shal (.mk r s m u n sub)).steps<=300:=by simp only[shal,Tr.steps,stG];omega
 have key:jP (.mk r s m u n sub)=false->iu ca (.mk r s m u n sub)=decide (fP ca (.mk r s m u n sub)=0):=λD=>by
  have J:fP ca (shal (.mk r s m u n sub))=fP ca (.mk r s m u n sub):=by
   simp only[shal,fP,Ql (by omega:ca≠3) s r m u n,dY,HC]
  rw[<- J,kN,dTe];refine⟨λh=>?_,sF U D G⟩;unfold iu at h;rw[D] at h;simp only[bFt,dI] at h;unfold gS at h;rw[U] at h;simp only[mw,bFt,dI] at h;rw[a_ (by omega)] at h;by_cases h0:fP ca (shal (.mk r s m u n sub))=0
  ·exact h0
  ·simp only[shal,Tr.walk] at h h0;rw[eV,a_ h0] at h;simp[h0] at h
 simp only[Ao];by_cases A:gZ (.mk r s m u n sub)=true
 ·rw[cV A];by_cases E:m=fm0
  ·have D:jP (.mk r s m u n sub)=true:=by
    simp only[gZ] at A;simp only[jP,A,(j6 m fm0).2 E,dA,Bool.and_self]
   unfold iu;rw[cV D,yQx.2 E,Bool.and_true];rfl
  ·have D:jP (.mk r s m u n sub)=false:=by
    simp only[jP,dEf (λh=>E ((j6 m fm0).1 h)),Bool.and_false]
   rw[key D,yQo.2 E,Bool.and_false];simp only[gZ,bAt,dTe] at A;obtain⟨rfl,_⟩:=A;have hr:rowS ca 0=none:=by rcases hc with rfl|rfl<;>rfl
   refine dEf λh=>?_;have O:(fA ca s 0 m u n).2≠0:=by
    unfold fA;rw[hr];cases hv:ev ca s<;>simp
   simp only[fP] at h;rw[cV O] at h;exact O h
 ·rw[a_ A];exact key (by simp only[gZ,Bool.not_eq_true] at A;simp only[jP,A,oe])
def Aq (p:List Nat):∀(i:Nat) (l m:List Tr),ek p i (l++m)=ek p i l++ek p (i+l.length) m
 | i,[],m=>by simp[ek]
 | i,a::l,m=>by
  simp only[ed,ek,Aq p (i+1) l m,en,dV];rw[show i+1+l.length=i+(l.length+1) by omega]
def HD {p:List Nat}{l:List Tr}{k:Nat}{a:Tr}(h:l[k]?=some a):ek p 0 (l.take (k+1))=ek p 0 (l.take k)++a.walk (p++[k]):=by
 have A:=(lGs h).1;rw[dE h,Aq];simp only[ek,eo,dQ,ee];rw[Nat.min_eq_left (by omega)]
def Qn (p:List Nat)(l:List Tr)(k:Nat):∃m,ek p 0 l=ek p 0 (l.take k)++m:=by
 refine⟨ek p (0+(l.take k).length) (l.drop k),?_⟩;rw[<- Aq,el]
def nk (i:Nat)(l:List Tr):List (List Nat):=((ek [] i l).filter λq=>gZ q.2).map (·.1)
def Qo (r:Nat)(s:Sq)(m:Fm)(u:Tm)(n:ByteArray)(sub:List Tr):e_ (.mk r s m u n sub)=if gZ (.mk r s m u n sub)=true then [[]] else nk 0 sub:=by
 unfold e_ nk;simp only[Tr.walk,kg];split
 ·rename_i h;simp only[gZ,bAt,List.isEmpty_iff] at h;rw[h.2];rfl
 ·rfl
def Qp {l:List Tr}{k:Nat}{a:Tr}(h:l[k]?=some a):nk 0 (l.take (k+1))=nk 0 (l.take k)++(e_ a).map (k::·):=by
 have:=Ei [k] [] a;simp only[eo] at this;unfold nk e_;rw[HD h,List.filter_append,eJ,eY,this];congr 1;rw[List.filter_map,iG,iG];rfl
