/- Walks: the places of goals; the step at -/
import Derived.Test.YtofmbookakncjabGreatDoorQF
set_option linter.all false
open Nat renaming reduceEqDiff → zE,reduceBEq → zB,reduceAdd → zA,reduceMul → zM,reduceLeDiff → zL
namespace Go.Proofs.Tryz
open Go Go.Iv
set_option maxRecDepth 4000
variable (gl:Nat->Option IV)
def QR {g cap:Nat}{p:List Nat}{cs:List IV}(hl:p.length<=1099511627776)(h1:p.length<=cap)(h2:cap<=cs.length)(G:cs.take p.length=plI p):Lents (emp.put g (some (.box cs))) [.raw (.slice (some ⟨g,0,none⟩) p.length cap)] [.sl ⟨false,.app g,1⟩ (plI p)]:=by
 refine⟨_,_,rfl,.inr ⟨.sl ⟨true,.app g,1⟩ (plI p),?_,?_⟩,rfl⟩
 ·rw[<- iX p];refine .sl g cap ⟨true,.app g,1⟩ (plI p) cs rfl (by rw[iX];omega) (by rw[iX];exact h1) (λx A=>?_) (b_ ..) (by simpa using h2) λi r c D hc=>?_
  ·obtain⟨i,_,rfl⟩:=eh.1 A;rfl
  ·rw[Bh p] at hc;have E:i<p.length:=by
    have:=(lGs hc).1
    rwa [iX] at this
   have:(cs.take p.length)[i]?=cs[i]?:=by rw[iq,c_ E]
   rw[G,hc,D] at this;cases this;exact .refl _
 ·simp only[age,wJ]
def QS {g:Nat}{cs:List IV}:kV (emp.put g (some (.box cs)))=emp:=by
 funext b;by_cases A:b=g
 ·rw[A,ti (b_ ..)];rfl
 ·have:(emp.put g (some (.box cs))) b=none:=by rw[ISt.put_apply,a_ A];rfl
  rw[vR (λcs' h=>by rw[this] at h;cases h),this];rfl
def QT (J:∀g x,gl g=some x->age x=x)(p:List Nat)(a:IV)(e s:ISt)(hp:PlV p a e)(hl:p.length<=1099511627776)(hd:disj s e):ICall prog gl 33 [a] (join s e) (λr st'=>(∃A,r=.sl A (plI p)/\okEs A 1)/\st'=join s e):=by
 have key:ICall prog gl 33 [a] e (λr st'=>st'=e/\∃A,r=.sl A (plI p)/\okEs A 1):=by
  rcases hp with⟨t,rfl,ht,rfl,rfl⟩|⟨g,cap,cs,rfl,rfl,h1,h2,h3⟩
  ·exact (OC gl t ht emp).mono λr st' ⟨⟨A,h,G⟩,h2⟩=>⟨h2,A,h,G.1⟩
  ·refine uX (K:=λr=>∃A,r=.sl A (plI p)/\okEs A 1) (λb o D=>?_) J (QR hl h1 h2 h3) ?_
   ·rw[ISt.put_apply] at D;split at D
    ·cases D;exact .inl ⟨_,rfl⟩
    ·cases D
   ·rw[QS,show ages [.sl ⟨false,.app g,1⟩ (plI p)]=[.sl ⟨false,.app g,1⟩ (plI p)] by simp only[ages,age,wJ]];have O:∀r (st':ISt),((∃A,r=.sl A (plI p)/\okN A)/\st'=emp)->st'=emp/\Newly r/\∃A,r=.sl A (plI p)/\okEs A 1:=λr st' ⟨⟨A,h,G⟩,h2⟩=>by
     subst h;exact⟨h2,.sl G.2 λx U=>by obtain⟨i,_,rfl⟩:=eh.1 U;exact⟨_,rfl⟩,A,rfl,G.1⟩
    by_cases E:p=[]
    ·subst E;exact (OE gl g emp).mono O
    ·exact (OD gl g p E hl emp).mono O
 have h1:=key.frame (own:=s) (λb D=>by
  cases he:e b with
  | none=>rfl
  | some o=>exact absurd (hd b (by rw[he];simp)) D)
 rw[Gf hd];refine h1.mono ?_;rintro r st' ⟨stu,_,rfl,rfl,h⟩;exact⟨h,rfl⟩
def QU {e st':ISt}(h:subSt e st'):∃s1,disj s1 e/\st'=join s1 e/\∀b,e b=none->s1 b=st' b:=by
 refine⟨λb=>match e b with|none=>st' b|some _=>none,λb D=>?_,?_,λb D=>by simp only[D]⟩
 ·cases A:e b with
  | none=>exact absurd A D
  | some o=>simp only[A]
 ·funext b;cases A:e b with
  | none=>rw[gV A];simp only[A]
  | some o=>rw[gd A,h b o A]
def x0 {s e:ISt}{b:Nat}{o:IObj}(hd:disj s e)(h:s b=some o):e b=none:=by
 cases A:e b with
 | none=>rfl
 | some _=>rw[hd b (by rw[A];simp)] at h;cases h
def Iw (l:List (List Nat))(ys:List IV):Prop:=AllR (λp y=>∃t,y=.sl t (plI p)/\okEs t 1) l ys
def GoI (st:ISt)(b:Nat)(l:List (List Nat))(s:ISt):Prop:=∃t ys,s b=some (.box [.sl t ys])/\own s t ys.length 1 st/\subSt st s/\Iw l ys
def sr (w:List (List Nat×Tr)):List (List Nat):=(w.filter λq=>jN q.2).map (·.1)
def QV {w:List (List Nat×Tr)}{p:List Nat}{t:Tr}:sr (w++[(p,t)])=if jN t=true then sr w++[p] else sr w:=by
 unfold sr;rw[List.filter_append,fS];by_cases h:jN t=true
 ·rw[c_ h];simp[h]
 ·rw[a_ h];simp[h]
def GoJ (a:IV)(b:Nat)(p:List Nat)(D:Tag)(ys:List IV)(S0 S:ISt)(A:Array Bool):Kt:=λad fr st ds=>(∀s,ad s=none)/\ds=[]/\fr 3=(pt b)/\fr 4=a/\(A.getD 0 false=true->fr 19=.iv (.sl D ys))/\(A.getD 1 false=true->fr 20=a) /\
 (A.getD 2 false=true->∃t,okEs t 1/\fr 21=.iv (.sl t (plI p)))/\(A.getD 3 false=true->∃t,okEs t 1/\fr 22=.iv (.sl ⟨true,.full,1⟩ [.sl t (plI p)])) /\
 (A.getD 4 false=true->A.getD 0 false=true/\A.getD 2 false=true)/\(A.getD 4 false=false->st=S) /\
 (A.getD 4 false=true->∃t u,okEs t 1/\fr 23=.iv (.sl u (ys++[.sl t (plI p)]))/\own st u (ys.length+1) 1 S0/\subSt S0 st/\∃c,st b=some (.box [c])/\(A.getD 5 false=true->c=.sl u (ys++[.sl t (plI p)])))/\(A.getD 5 false=true->A.getD 4 false=true)/\(A.getD 3 false=true->A.getD 2 false=true)
def B5 (aO:∀g x,gl g=some x->age x=x)(t:Tr)(x:IV)(hx:IsTr t x)(hs:t.steps<=1000000)(st:ISt):ICall prog gl 52 [x] st (λr st'=>(∃tg ys,r=.sl tg ys/\okEs tg 1/\Iw (gz t) ys)/\st'=st):=by
 have hh:=eM t.height_le_steps hs;have hst:=λst=>Gn gl x st t hx;have aN:=λI=>Gm gl t x hx (by omega) I;obtain⟨rule,tl,xl,tr,xr,op,fn,ta,xa,tb,xb,v,un,tu,xu,n,ts,xs,rfl⟩:=fY hx;refine ICall.intro (c:=cf prog gl [3,19] [(6,[])] [1]) func52 rfl (by show _<=25;simp) (by kernel_rfl) ?_;simp only[go_sem,zE,zA,fits,IV.one];intro b;refine fc λhb=>?_;refine (hst _).q ?_;simp only[go_sem,reduceCtorEq];refine RangeL.intro (lkW (λx=>x) (t.walk [])) (t.walk []).length (λk s=>GoI st b (sr ((t.walk []).take k)) s) (λe s=>False) rfl ?_ ?_ ?_ (aN _) ?_ ?_
 ·rintro k a e ⟨p,u,a,y,_,_,_,rfl⟩;rfl
 ·exact⟨_,[],b_ ..,own.nil ..,gj hb,AllR.nil⟩
 ·rintro k _ e s ⟨p,z,a,y,al,hz,hp,rfl⟩ hd ⟨tg,ys,c3,J,G,hys⟩;have ab:disj s e:=hd;have r3:=jy ab _ _ c3;have aH:=qd [] t _ (lMg al);simp only[fb] at aH;have aS:=QT gl aO p a e s hp (by omega) ab;have ae:ivOf a=some a:=by rcases hp with⟨t,rfl,_⟩|⟨g,cap,cs,rfl,_⟩<;>rfl
  have aK:=(lGs al).1;rw[uF] at aK;rw[en al,QV];obtain⟨U,bi,f',u',n',aq⟩:=z;obtain⟨bf,a7,be,a6,bk,bu,bh,ba,bg,a8,v',bb,bc,a1,bd,ao,rfl,_,_,_,_,_,_,_,bw,aE⟩:=hz.mk;have aJ:=aE.len;by_cases h0:U=0
  ·have d0:decide ((U:Int)=0)=true:=dEt (by omega);by_cases h1:aq=[]
   ·have d1:decide ((ao.length:Int)=0)=true:=by rw[aJ,h1];rfl
    rw[c_ (by simp[jN,h0,h1])];simp only[go_sem,zE,zA,zL,d0,d1,ae];intro _;have bq:ys.length<=k:=by
     rw[hys.1];unfold sr;rw[eP];refine eM (kB ..) ?_;rw[eO];omega
    have aM:(join st e) b=none:=by rw[gV (x0 ab c3)];exact hb
    have aG:subSt (join st e) (join s e):=λc o h=>by
     cases he:e c with
     | some o'=>rw[gd he] at h ⊢;exact h
     | none=>rw[gV he] at h ⊢;exact G c o h
    have aI:own (join s e) tg ys.length 1 (join st e):=by
     rcases J with h|h|⟨g,h1,h2,h3⟩
     ·exact .inl h
     ·exact .inr (.inl h)
     ·exact .inr (.inr ⟨g,h1,jy ab _ _ h2,by rw[gV (x0 ab h2)];exact h3⟩)
    rw[DX];refine vI (GoJ a b p tg ys (join st e) (join s e)) ?_ ?_ _ _ _ _ _ _ rfl ?_
    ·intro A ad fr aC ds ah hJ i hi;replace ah:A.size=6:=ah;obtain⟨au,o,ho,D⟩:=ix.1 hi;have bs:i<6:=(jw.1 ho).1;have aa:A.getD i false=false:=by
      rw[lR,mZ (by omega)] at au ⊢;exact au
     have e':∀j,(A.setIfInBounds i true).getD j false=if i=j then true else A.getD j false:=λj=>B1 (by omega)
     obtain⟨O,rfl,f3,f4,g0,g1,g2,g3,g4,g5,g6,g7,g8⟩:=hJ;rcases (show i=0\/i=1\/i=2\/i=3\/i=4\/i=5 by omega) with rfl|rfl|rfl|rfl|rfl|rfl
     all_goals obtain rfl:_=o:=fA ho
     ·have h4:A.getD 4 false=false:=by
       cases h:A.getD 4 false with
       | false=>rfl
       | true=>rw[(g4 h).1] at aa;cases aa
      have h5:A.getD 5 false=true->False:=λh=>by rw[g7 h] at h4;cases h4
      obtain rfl:=g5 h4;simp only[go_sem,zE,gX,O,f3,pt,r3];simp only[GoJ,e',iteT,iteF,h4,reduceCtorEq,false_imp_iff,e_];exact⟨lO O _,trivial,f3,f4,rfl,g1,g2,g3,trivial,trivial,trivial,h5,g8⟩
     ·simp only[go_sem,gX,f4,ae];simp only[GoJ,e',zE,iteT,iteF,reduceCtorEq,e_];exact⟨lO O _,trivial,f3,f4,g0,rfl,g2,g3,g4,g5,g6,g7,g8⟩
     ·have h4:A.getD 4 false=false:=by
       cases h:A.getD 4 false with
       | false=>rfl
       | true=>rw[(g4 h).2] at aa;cases aa
      have h5:A.getD 5 false=true->False:=λh=>by rw[g7 h] at h4;cases h4
      obtain rfl:=g5 h4;replace g1:=g1 (D ⟨1,.data⟩ (by simp) rfl);simp only[go_sem,zE,zA,gX,g1,ae];refine aS.mono ?_;rintro _ _ ⟨⟨t',rfl,E⟩,rfl⟩;simp only[go_sem];simp only[GoJ,e',zE,iteT,iteF,h4,reduceCtorEq,false_imp_iff,e_];exact⟨lO O _,trivial,f3,f4,g0,λ_=>g1,⟨t',E,rfl⟩,g3,trivial,trivial,trivial,h5,λ_=>trivial⟩
     ·obtain⟨t',E,aX⟩:=g2 (D ⟨2,.data⟩ (by simp) rfl);simp only[go_sem,zE,zM,zL,gX,aX];simp only[GoJ,e',zE,iteT,iteF,reduceCtorEq,e_];exact gp rfl ⟨lO O _,trivial,f3,f4,g0,g1,g2,⟨t',E,rfl⟩,g4,g5,g6,g7,D ⟨2,.data⟩ (by simp) rfl⟩
     ·replace g0:=g0 (D ⟨0,.data⟩ (by simp) rfl);obtain⟨t',E,aA⟩:=g3 (D ⟨3,.data⟩ (by simp) rfl);have h2:=g8 (D ⟨3,.data⟩ (by simp) rfl);obtain rfl:=g5 aa;simp only[go_sem,zE,zA,gX,g0,aA];refine ou aI rfl aG rfl (by simp[fits,IV.one]) (by simp only;omega) (by omega) λu st4 o4 s4 k4 _=>?_;simp only[go_sem,zE,reduceCtorEq,GoJ,e',iteT,iteF,false_imp_iff,e_];exact⟨lO O _,f3,f4,λ_=>g0,g1,g2,λ_=>⟨t',E,aA⟩,⟨D ⟨0,.data⟩ (by simp) rfl,h2⟩,⟨t',u,E,rfl,o4,s4,_,k4 b _ r3 nofun,λh=>by rw[g7 h] at aa;cases aa⟩,λ_=>trivial,g8⟩
     ·obtain⟨t',u,E,f23,ak,ai,c,hc,_⟩:=g6 (D ⟨4,.data⟩ (by simp) rfl);have h4:=D ⟨4,.data⟩ (by simp) rfl;simp only[go_sem,zL,gX,O,f23,f3,pt,hc];simp only[GoJ,e',zE,iteT,iteF,h4,reduceCtorEq,false_imp_iff,e_];exact⟨O,trivial,f3,f4,g0,g1,g2,g3,g4 h4,trivial,⟨t',u,E,f23,ak.mono λg hg _=>by rw[dZ (λh=>by rw[h,hc] at hg;cases hg)];exact hg,fM ai aM,_,b_ ..,rfl⟩,trivial,g8⟩
    ·intro A ad fr aC ds ah hr hJ;have hl:=B2 (by decide) ah hr;obtain⟨_,rfl,_,_,_,_,_,_,_,_,g6,_,_⟩:=hJ;obtain⟨t',u,E,_,ak,ai,c,hc,aT⟩:=g6 (hl 4 (by decide));obtain rfl:=aT (hl 5 (by decide));obtain⟨s1,d1,rfl,k1⟩:=QU (join_sub'.trans ai);have aL:∀c,(join st e) c=none->e c=none/\st c=none:=λc h=>by
      cases he:e c with
      | some o=>rw[gd he] at h;cases h
      | none=>rw[gV he] at h;exact⟨rfl,h⟩
     simp only[go_sem];refine⟨s1,⟨u,_,by rw[k1 b (x0 ab c3)];exact hc,?_,λc o h=>?_,hys.snoc ⟨t',rfl,E⟩⟩,d1,rfl⟩
     ·rw[lLa];rcases ak with⟨h,_⟩|h|⟨g,h1,h2,h3⟩
      ·omega
      ·exact .inr (.inl h)
      ·obtain⟨j1,j2⟩:=aL g h3;exact .inr (.inr ⟨g,h1,by rw[k1 g j1];exact h2,j2⟩)
     ·have he:=x0 ab (G c o h);rw[k1 c he];exact ai c o (by rw[gV he];exact h)
    ·exact⟨λ_=>rfl,rfl,rfl,rfl,nofun,nofun,nofun,nofun,nofun,λ_=>rfl,nofun,nofun,nofun⟩
   ·have d1:decide ((ao.length:Int)=0)=false:=dEf (by have:=kC.2 h1;omega);rw[a_ (by simp[jN,h1])];simp only[go_sem,zE,zA,zL,d0,d1,ae];intro _;exact⟨s,⟨tg,ys,c3,J,G,hys⟩,hd,rfl⟩
  ·have d0:decide ((U:Int)=0)=false:=dEf (by omega);rw[a_ (by simp[jN,h0])];simp only[go_sem,zE,zA,zL,d0,ae];exact⟨s,⟨tg,ys,c3,J,G,hys⟩,hd,rfl⟩
 ·rintro s r ⟨tg,ys,c3,J,G,hys⟩;rw[lTl] at hys;simp only[go_sem,zE,c3];exact fN G ⟨⟨tg,ys,rfl,J.es,hys⟩,rfl⟩
 ·rintro e s r ⟨⟩
def okP:Tr->List Nat->Prop
 | _,[]=>True
 | .mk _ _ _ _ _ sub,i::p=>∃s,sub[i]?=some s/\okP s p
def su:∀ {p l:List Nat}{t:Tr},okP t (p++l)->okP (atT t p) l/\atT t (p++l)=atT (atT t p) l
 | [],l,t,h=>⟨h,by simp only[f_,atT]⟩
 | i::p,l,.mk r s f u n sub,h=>by
  obtain⟨z,h1,h2⟩:=h;simp only[fq,atT,h1];exact su h2
mutual
def B6:∀(q:List Nat)(t:Tr)(p:List Nat)(z:Tr),(p,z)∈t.walk q->∃p',p=q++p'/\okP t p'/\atT t p'=z
 | q,.mk r s f u n sub,p,z,h=>by
  simp only[Tr.walk,eK,Prod.mk.injEq] at h;rcases h with⟨rfl,rfl⟩|h
  ·exact⟨[],by simp,trivial,rfl⟩
  ·obtain⟨i,a,p',_,h1,h2,D,A⟩:=Iy q 0 sub p z h;rw[iG] at h2;exact⟨i::p',h1,⟨a,h2,D⟩,by simp only[atT,h2];exact A⟩
def Iy:∀(q:List Nat)(j:Nat)(l:List Tr)(p:List Nat)(z:Tr),(p,z)∈fJ q j l->∃i a p',j<=i/\p=q++i::p'/\l[i-j]?=some a/\okP a p'/\atT a p'=z
 | _,_,[],p,z,h=>by simp[fJ] at h
 | q,j,a::l,p,z,h=>by
  simp only[fJ,eQ] at h;rcases h with h|h
  ·obtain⟨p',h1,h2,A⟩:=B6 (q++[j]) a p z h;exact⟨j,a,p',eu _,by rw[h1,fD];rfl,by simp,h2,A⟩
  ·obtain⟨i,b,p',h0,h1,h2,A,D⟩:=Iy q (j+1) l p z h;exact⟨i,b,p',by omega,h1,by rw[show i-j=i-(j+1)+1 by omega];exact h2,A,D⟩
end
def pE:∀ {p l:List Nat}{t:Tr},okP t (p++l)->okP t p
 | [],_,_,_=>trivial
 | i::p,l,.mk r s f u n sub,h=>by
  obtain⟨z,h1,h2⟩:=h;exact⟨z,h1,pE h2⟩
abbrev z12:List IV:=[.raw (.int .u8 0),.sl ⟨true,.nil,0⟩ [],.sl ⟨true,.nil,0⟩ [],.raw (.int .u8 0),.raw (.string ⟨#[]⟩),.sl ⟨true,.nil,0⟩ [],.sl ⟨true,.nil,0⟩ [],.raw (.bool false),.raw (.string ⟨#[]⟩),.sl ⟨true,.nil,0⟩ [],.raw (.string ⟨#[]⟩),.sl ⟨true,.nil,0⟩ []]
def at_c (t:Tr)(x:IV)(hx:IsTr t x)(p:List Nat)(hp:okP t p)(tg:Tag)(ax:okEs tg 1)(hl:p.length<=1000000)(st:ISt):ICall prog gl 35 [x,.sl tg (plI p)] st (λr st'=>IsTr (atT t p) r/\st'=st):=by
 have aw:=hx;obtain⟨rule,tl,xl,tr,xr,op,fn,ta,xa,tb,xb,v,un,tu,xu,n,ts,xs,rfl⟩:=fY hx;refine iI func35 ?_;simp only[go_sem,zE,iX];intro _;refine dC p.length (λk fr st' ds=>(∃c,fr 2=.box c/\IsTr (atT t (p.take k)) (.agg c))/\st'=st/\fr 4=.box z12/\fr 7=.iv (.sl tg (plI p))/\fr 8=(p.length:Int)/\fr 9=(k:Int)/\ds=[]) ?_ ?_ ?_
 ·simp only[go_sem,zE];exact⟨⟨_,rfl,aw⟩,rfl⟩
 ·rintro k fr ao _ D ⟨⟨c,f2,hc⟩,rfl,f4,f7,f8,f9,rfl⟩;obtain⟨i,hi⟩:=ed D;have aA:=xp hi;have J:okP t (p.take k++i::p.drop (k+1)):=by
   have:=fh k p;rw[gB D,(lGs hi).2] at this;rw[this];exact hp
  obtain⟨h1,_⟩:=su J;have O:atT t (p.take (k+1))=atT (atT t (p.take k)) [i]:=by
   rw[en hi];have:=su (p:=p.take k) (l:=[i]) (t:=t) (by
    have ay:okP t ((p.take k++[i])++p.drop (k+1)):=by rw[fD];exact J
    exact pE ay)
   exact this.2
  generalize atT t (p.take k)=z at h1 hc O;obtain⟨E,aU,f',u',n',aC⟩:=z;obtain⟨z,hz,_⟩:=h1;obtain⟨ak,ac,aj,ab,au,aB,an,af,am,ae,v',ag,ah,U,ai,aa,A,_,_,_,_,_,_,_,e3,i3⟩:=hc.mk;injection A with A;subst A;obtain⟨y,hy,G⟩:=i3.get hz;have av:=G;obtain⟨aq,aQ,aI,tr2,aH,aV,aY,aT,aK,aS,aJ,v2,aM,aN,aF,n2,aO,aG,rfl⟩:=fY G;simp only[go_sem,zE,zB,zA,zL,f2,f4,f7,f8,f9,fits,lt_i D,ec ax,ec e3,iNn,aA,hy,ek D (by omega)];rw[O];exact⟨_,rfl,by simp only[atT,hz];exact av⟩
 ·rintro fr ao _ ⟨⟨c,f2,hc⟩,rfl,f4,f7,f8,f9,rfl⟩;rw[lTl] at hc;obtain⟨E,ak,ac,aj,ab,au,aB,an,af,am,ae,v',ag,ah,U,n',ai,aa,A⟩:=fY hc;injection A with A;subst A;simp only[go_sem,zE,zA,zL,f2,f4,f8,f9,z12,eI (nLi _)];exact dw ⟨hc,rfl⟩
def Iz:∀ {l:List Tr}{k i:Nat}{z:Tr}{p:List Nat}{x:List Nat×Tr},l[i]?=some z->x∈z.walk (p++[k+i])->x∈fJ p k l
 | a::l,k,0,z,p,x,h,A=>by
  obtain rfl:a=z:=by simpa using h
  rw[fJ];exact jH _ A
 | a::l,k,i+1,z,p,x,h,A=>by
  rw[fJ];refine jI _ (Iz (l:=l) (k:=k+1) (i:=i) (by simpa using h) ?_);rw[show k+1+i=k+(i+1) by omega];exact A
def x_:∀(p:List Nat)(t:Tr)(q:List Nat),okP t p->(q++p,atT t p)∈t.walk q
 | [],.mk _ _ _ _ _ _,q,_=>by rw[fL];simp only[Tr.walk,atT];exact .head _
 | i::p,.mk r s f u n sub,q,⟨z,h1,h2⟩=>by
  have A:atT (.mk r s f u n sub) (i::p)=atT z p:=by simp only[atT,h1]
  rw[A];simp only[Tr.walk];refine .tail _ (Iz h1 ?_);have:=x_ p z (q++[i]) h2;rw[fD] at this;rw[eT];exact this
def qq:IsTm tmZ (.agg [false,.raw (.string ⟨#[]⟩),()]):=⟨_,_,rfl,.inl rfl,rfl⟩
def QW (t:Tr)(x:IV)(D:IsTr t x)(st:ISt):ICall prog gl 59 [x] st (λr st'=>r=(me t:Bool)/\st'=st):=by
 obtain⟨rule,sq,f,u,n,sub⟩:=t;obtain⟨tl,xl,tr,J,op,fn,ta,U,tb,O,v,un,tu,G,ts,A,rfl,_,_,_,_,_,E,_,e3,i3⟩:=D.mk;have hS:=λst=>GG gl f fm0 _ _ E rD st;have hl:=i3.len;refine iI func59 ?_;by_cases h0:rule=0
 ·have d0:decide ((rule:Int)=0)=true:=dEt (by omega);by_cases h1:sub=[]
  ·have d1:decide ((A.length:Int)=0)=true:=by rw[hl,h1];rfl
   simp only[go_sem,zE,zA,zL,d0,d1];intro _;refine (hS _).q ?_;simp only[go_sem,zE];exact dw ⟨by simp[me,h0,h1],rfl⟩
  ·have hp:0<sub.length:=kC.2 h1;have d1:decide ((A.length:Int)=0)=false:=dEf (by omega);simp only[go_sem,zE,d0,d1];intro _;exact dw ⟨by simp[me,h1],rfl⟩
 ·have d0:decide ((rule:Int)=0)=false:=dEf (by omega);simp only[go_sem,zE,zA,d0];exact dw ⟨by simp[me,h0],rfl⟩
def IA:∀(l:List Tr)(i:Nat),(∀a∈l,ig a.sq)->(∀q∈fJ [] i (l.map λp=>goalT p.sq),rH q.2)/\mR (l.map λp=>goalT p.sq)<=1
 | [],_,_=>⟨nofun,fe _⟩
 | a::l,i,D=>by
  obtain⟨E,J⟩:=IA l (i+1) λb G=>D b (.tail _ G);simp only[ff,fJ,Tr.walk,mR,Tr.height];refine⟨λq A=>?_,by omega⟩;rcases eQ.1 A with A|A
  ·rcases eK.1 A with rfl|A
   ·exact⟨D a (.head _),by show fm0.size<=1000000;decide,by show tmZ.size<=1000000;decide,nofun⟩
   ·cases A
  ·exact E q A
def QX {t:Tr}(h:rH t):pv (shal t):=by
 obtain⟨rule,sq,f,u,n,sub⟩:=t;obtain⟨h1,h2,_,D⟩:=h;have G:tmZ.size<=1000000:=by decide
 obtain⟨E,U⟩:=IA sub 0 D;refine⟨λq A=>?_,?_⟩
 ·simp only[shal,Tr.walk] at A;rcases eK.1 A with rfl|A
  ·refine⟨h1,h2,G,λa O=>?_⟩;obtain⟨b,J,rfl⟩:=eh.1 O;exact D b J
  ·exact E q A
 ·simp only[shal,Tr.height];omega
def QY (G:Gl gl)(T:Gt gl)(ca:Nat)(t:Tr)(x:IV)(hx:IsTr t x)(hn:rH t)(hl:t.steps<=1000000)(st:ISt):ICall prog gl 32 [.raw (.int .u8 (ca:Int)),x] st (λr st'=>r=(iZ ca t:Bool)/\st'=st):=by
 have hg:=λst=>QW gl t x hx st;have ai:=λy O st=>Gj gl G T ca (shal t) y O (QX hn) st;obtain⟨rule,sq,f,u,n,sub⟩:=t;have ah:=hn.1;obtain⟨tl,xl,tr,xr,op,fn,ta,xa,tb,xb,v,un,tu,xu,ts,xs,rfl,af,e1,i1,e2,i2,hf,_,e3,i3⟩:=hx.mk;have hv:=λst=>Bb gl G ca sq _ ⟨_,_,_,_,rfl,e1,i1,e2,i2⟩ ah st;have aZ:=xx sub;simp only[Tr.steps] at hl;refine iI func32 ?_;simp only[go_sem,zE,zA,zL];refine (hg _).q ?_;cases hb:me (.mk rule sq f u n sub)
 ·simp only[go_sem,zE,zA,zL,fits,i3.len];intro _;refine dC sub.length (λk fr st' ds=>(∃t y,fr 5=.box [.raw (.int .u8 rule),.sl tl xl,.sl tr xr,.raw (.int .u8 op),fn,.sl ta xa,.sl tb xb,false,.raw (.string ⟨#[]⟩),(),.raw (.string ⟨#[]⟩),.sl t y]/\own st' t k 12 st/\subSt st st'/\IsTrs ((sub.take k).map λp=>goalT p.sq) y/\y.length=k) /\
   fr 0=.iv (.raw (.int .u8 ca))/\fr 24=.iv (.sl ts xs)/\fr 25=(sub.length:Int)/\fr 26=(k:Int)/\ds=[]) ?_ ?_ ?_
  ·simp only[go_sem,zE,reduceCtorEq];exact⟨⟨_,_,rfl,own.nil ..,subSt.refl _,rfl,rfl⟩,rfl⟩
  ·rintro k fr U _ J ⟨⟨t,y,f5,D,A,O,E⟩,f0,f24,f25,f26,rfl⟩;obtain⟨a,ha⟩:=ed J;obtain⟨z,ag,hz⟩:=i3.get ha;obtain⟨aa,aV,f',u',n',au⟩:=a;obtain⟨aN,aE,aM,aD,aW,a7,aQ,aG,aO,aF,v',aJ,aK,aA,aL,aB,rfl,_,al,ac,ak,ab,_⟩:=hz.mk;simp only[go_sem,zE,zB,zA,zM,zL,f5,f24,f25,f26,fits,lt_i J,ec e3,iNn,ag,fg];refine je D E A rfl (by simp[fits,IV.one]) (by simp only;omega) (by omega) λt' aT w1 w2 w3=>?_;simp only[go_sem,zE,zA,zL,reduceCtorEq,f5,f0,f24,f25,f26,ek J (by omega)];refine⟨t',_,rfl,w1,w2,?_,by rw[lLa,E];rfl⟩;rw[en ha,fS,List.map_singleton];refine O.append ?_;simp only[IsTrs];exact⟨_,[],rfl,⟨_,_,_,_,_,_,_,_,_,_,_,_,_,_,_,_,rfl,by omega,al,ac,ak,ab,rD,qq,.inl rfl,rfl⟩,rfl⟩
  ·rintro fr U _ ⟨⟨t,y,f5,D,A,O,E⟩,f0,f24,f25,f26,rfl⟩;rw[lTl] at O;have ae:IsTr (shal (.mk rule sq f u n sub)) (.agg [.raw (.int .u8 rule),.sl tl xl,.sl tr xr,.raw (.int .u8 op),fn,.sl ta xa,.sl tb xb,false,.raw (.string ⟨#[]⟩),(),.raw (.string ⟨#[]⟩),.sl t y]) :=
    ⟨_,_,_,_,_,_,_,_,_,_,_,_,_,_,_,_,rfl,af,e1,i1,e2,i2,hf,qq,D.es,O⟩
   simp only[go_sem,zE,zA,zL,reduceCtorEq,f5,f0,f25,f26,eI (nLi _)];refine (ai _ ae _).mono ?_;rintro _ aU ⟨⟨tg,rfl,aY⟩,rfl⟩;by_cases h0:(jg ca (shal (.mk rule sq f u n sub))).2=0
   ·have d0:decide (((jg ca (shal (.mk rule sq f u n sub))).2:Int)=0)=true:=dEt (by omega);simp only[go_sem,zE,d0];exact fN A ⟨by simp[iZ,hb,h0],rfl⟩
   ·have d0:decide (((jg ca (shal (.mk rule sq f u n sub))).2:Int)=0)=false:=dEf (by omega);simp only[go_sem,zE,d0,iX];intro _;refine fN A ⟨?_,rfl⟩;simp[iZ,hb,h0]
 ·simp only[go_sem,zE,zA,zL,reduceCtorEq];refine (hv _).q ?_;simp only[go_sem];exact dw ⟨by simp[iZ,hb,Tr.sq],rfl⟩
def IB (us:List Fm)(tg:Tag)(xs:List IV)(ah:okEs tg 4)(ac:IsFms us xs)(an:eS us<=1000000)(st:ISt) :
  ICall prog gl 87 [.sl tg xs] st (λr st'=>(∃A ys,r=.sl A ys/\okEs A 4/\IsFms us ys)/\st'=st):=by
 have am:=oj us;refine iI func87 ?_;simp only[go_sem,reduceCtorEq,ac.len];intro _;refine dC us.length (λk fr st' ds=>(∃A ys,fr 3=.iv (.sl A ys)/\IsFms (us.take k) ys/\own st' A k 4 st/\subSt st st') /\
  fr 6=.iv (.sl tg xs)/\fr 7=us.length/\fr 8=.iv (.raw (.int .i64 k))/\ds=[]) ?_ ?_ ?_
 ·simp only[go_sem,zE];exact⟨⟨_,[],rfl,rfl,own.nil ..,subSt.refl _⟩,rfl⟩
 ·rintro k fr ab _ O ⟨⟨A,ys,f3,hys,E,D⟩,f6,f7,f8,rfl⟩;obtain⟨a,ha⟩:=ed O;obtain⟨x,ai,hx⟩:=ac.get ha;obtain⟨h1,h2⟩:=kW ha;have U:ys.length=k:=by rw[hys.len,eO];omega
  have aa:=ow gl a x hx (by omega) ab;obtain⟨o5,n5,t5,x5,t6,x6,rfl⟩:=hx.agg;simp only[go_sem,zE,zB,zA,zL,f3,f6,f7,f8,lt_i O,ec ah,iNn,ai,fits];refine aa.mono ?_;rintro r _ ⟨hr,rfl⟩;have hn:IsFms (us.take (k+1)) (ys++[r]):=by
   rw[en ha];exact hys.append ⟨r,[],rfl,hr.1,rfl⟩
  obtain⟨o7,n7,t7,x7,t8,x8,rfl⟩:=jC hr;simp only[go_sem,zE,zA,zM,zL,fits,fg];refine je E U D rfl (by simp[fits,IV.one]) (by simp only;omega) (by omega) λaf st4 J G _=>?_;simp only[go_sem,zE,f6,f7,f8,ek O (by omega)];exact⟨af,_,rfl,hn,J,G⟩
 ·rintro fr ab _ ⟨⟨A,ys,f3,hys,E,D⟩,f6,f7,f8,rfl⟩;rw[lTl] at hys;simp only[go_sem,zE,f3,f7,f8,eI (nLi _)];exact fN D ⟨⟨A,ys,rfl,E.es,hys⟩,rfl⟩
def B7 (s:Sq)(x:IV)(E:IsSq s x)(h1:eS s.l<=1000000)(h2:eS s.r<=1000000)(st:ISt) :
  ICall prog gl 62 [x] st (λr st'=>IsSq s r/\st'=st):=by
 obtain⟨t1,D,t2,A,rfl,U,i1,O,i2⟩:=E;have c1:=λst=>IB gl s.l t1 D U i1 h1 st;have c2:=λst=>IB gl s.r t2 A O i2 h2 st;refine ICall.intro (c:=cf prog gl [] [(1,[0,1,3,4,2,5,6,7])]) func62 rfl (by show _<=10;simp) (by kernel_rfl) ?_;simp only[go_sem,zE,zA];refine (c1 _).mono ?_;rintro _ _ ⟨⟨t3,y1,rfl,J,i3⟩,rfl⟩;simp only[go_sem,zE,zA];refine (c2 _).mono ?_;rintro _ _ ⟨⟨t4,y2,rfl,G,i4⟩,rfl⟩;simp only[go_sem,zE,zA,zL,fits];exact dw ⟨⟨_,_,_,_,rfl,J,i3,G,i4⟩,rfl⟩
def hTC (t:Tm):Prop:=∀(x:IV) (_:IsTm t x) (_:t.size<=1000000) (st:ISt),ICall prog gl 64 [x] st (λr st'=>IsTm t r/\st'=st)
def QZ (v:Bool)(n:ByteArray)(us:List Tm)(IH:∀a∈us,hTC gl a):hTC gl (.mk v n us):=by
 intro x hx ac st;obtain⟨t,xs,rfl,ht,U⟩:=hx.mk;simp only[Tm.size] at ac;have hl:=p7 us;refine iI func64 ?_;simp only[go_sem,zE,zA,zL,U.len];intro _;refine dC us.length (λk fr st' ds=>(∃tg ys,fr 1=.box [v,n,.sl tg ys]/\own st' tg k 3 st/\subSt st st'/\IsTms (us.take k) ys/\ys.length=k)/\fr 2=.box [false,.raw (.string ⟨#[]⟩),()]/\fr 9=.iv (.sl t xs)/\fr 10=(us.length:Int)/\fr 11=(k:Int)/\ds=[]) ?_ ?_ ?_
 ·simp only[go_sem,zE];exact⟨⟨_,[],rfl,own.nil ..,subSt.refl _,rfl,rfl⟩,rfl⟩
 ·rintro k fr E _ J ⟨⟨tg,ys,f1,D,A,hys,G⟩,f2,f9,f10,f11,rfl⟩;obtain⟨a,ha⟩:=ed J;obtain⟨z,ae,hz⟩:=U.get ha;obtain⟨h1,h2⟩:=oe ha;have O:=IH a (lMg ha) z hz (by omega) E;obtain⟨v2,n2,m⟩:=a;obtain⟨tx,cx,rfl,an,aq⟩:=hz.mk;simp only[go_sem,zE,zB,zA,zL,f1,f9,f10,f11,lt_i J,ec ht,iNn,ae,fits];refine O.mono ?_;rintro r E ⟨hr,rfl⟩;have hn:IsTms (us.take (k+1)) (ys++[r]):=by
   rw[en ha];exact hys.append (IsTms.one hr)
  obtain⟨t3,x3,rfl,_⟩:=hr.mk;simp only[go_sem,zE,zA,zM,zL,fits,fg];refine je D G A rfl (by simp[fits,IV.one]) (by simp only;omega) (by omega) λt' al w1 w2 w3=>?_;simp only[go_sem,zE,zA,zL,f1,f2,f9,f10,f11,ek J (by omega)];exact⟨t',_,rfl,w1,w2,hn,by rw[lLa,G];rfl⟩
 ·rintro fr E _ ⟨⟨tg,ys,f1,D,A,hys,G⟩,f2,f9,f10,f11,rfl⟩;rw[lTl] at hys;simp only[go_sem,zE,zA,zL,f1,f2,f10,f11,eI (nLi _)];exact fN A ⟨⟨_,_,rfl,D.es,hys⟩,rfl⟩
def IC:∀(k:Nat)(t:Tm),SizeOf.sizeOf t<k->hTC gl t
 | 0,t,h=>by omega
 | k+1,.mk v n us,h=>QZ gl v n us (λa A=>IC k a (by
   have:=lSm A;simp at h;omega))
def B8 (t:Tm):hTC gl t:=IC gl _ t (fP _)
def visL (g:Nat->Tr->Option Tr):Nat->List Tr->Option (List Tr)
 | _,[]=>some []
 | k,s::l=>match g k s,visL g (k+1) l with
  | some z,some zs=>some (z::zs)
  | _,_=>none
def ID {g:Nat->Tr->Option Tr}:∀ {k:Nat} {l zs:List Tr},visL g k l=some zs->zs.length=l.length/\∀(i:Nat) (s:Tr),l[i]?=some s->∃z,g (k+i) s=some z/\zs[i]?=some z
 | _,[],zs,h=>by cases h;exact⟨rfl,λi s h=>by simp at h⟩
 | k,s::l,zs,h=>by
  unfold visL at h;split at h
  ·rename_i z D h1 h2;cases h;obtain⟨J,G⟩:=ID h2;refine⟨by simp[J],λi s' A=>?_⟩;cases i with
   | zero=>cases A;exact⟨z,h1,rfl⟩
   | succ i =>
    obtain⟨E,U,O⟩:=G i s' A;exact⟨E,by rw[show k+(i+1)=k+1+i by omega];exact U,O⟩
  ·cases h
def visG (g:Tr->Bool->List Nat->Option Tr)(o:Bool)(pl:List Nat)(k:Nat)(z:Tr):Option Tr:=if o=true/\pl.head?=some k then g z true pl.tail else g z false []
noncomputable def visB (g:Tr->Bool->List Nat->Option Tr)(o:Bool)(pl:List Nat):Tr->Option Tr
 | .mk r s m u nm sub=>if (decide (u.size<=1000000)&&decide (eS s.l<=1000000)&&decide (eS s.r<=1000000)&&decide (m.size<=1000000)&&decide (sub.length<=1000000))=true then (visL (visG g o pl) 0 sub).map (λrs=>.mk r s m u nm rs) else none
noncomputable def visF (f:Tr->Tr):Nat->Tr->Bool->List Nat->Option Tr
 | 0,_,_,_=>none
 | n+1,t,A,pl=>if A=true/\pl=[] then visB (visF f n) false pl (f t) else visB (visF f n) A pl t
def B9 {g:Tr->Bool->List Nat->Option Tr}{o:Bool}{pl:List Nat}{r:Nat}{s:Sq}{m:Fm}{u:Tm}{nm:ByteArray}{sub:List Tr}{A:Tr}(h:visB g o pl (.mk r s m u nm sub)=some A) :
  u.size<=1000000/\eS s.l<=1000000/\eS s.r<=1000000/\m.size<=1000000/\sub.length<=1000000/\∃rs,A=.mk r s m u nm rs/\rs.length=sub.length/\∀(i:Nat) (z:Tr),sub[i]?=some z->∃y,visG g o pl i z=some y/\rs[i]?=some y:=by
 rw[visB] at h;by_cases hc:(decide (u.size<=1000000)&&decide (eS s.l<=1000000)&&decide (eS s.r<=1000000)&&decide (m.size<=1000000)&&decide (sub.length<=1000000))=true
 ·rw[c_ hc] at h;simp only[bAt,dTe] at hc;obtain⟨⟨⟨⟨c1,c2⟩,c3⟩,c4⟩,c5⟩:=hc;cases hv:visL (visG g o pl) 0 sub with
  | none=>rw[hv] at h;cases h
  | some rs =>
   rw[hv] at h;obtain⟨E,D⟩:=ID hv;refine⟨c1,c2,c3,c4,c5,rs,by cases h;rfl,E,λi z G=>?_⟩;obtain⟨y,h1,h2⟩:=D i z G;rw[eT] at h1;exact⟨y,h1,h2⟩
 ·rw[a_ hc] at h;cases h
def B_ {A:Tag}{es:Nat}(h:okEs A es)(len D l:Nat):okEs (lD (reTag es A) len D l none) es:=by
 have:=ec h;unfold lD;by_cases h1:(reTag es A).cap=.nil
 ·rw[c_ h1];exact .inr this
 ·rw[a_ h1];by_cases h2:l=0/\D=len
  ·simp only[c_ h2];exact .inr this
  ·simp only[a_ h2];exact .inr this
def visI (c:IV)(b:Nat):IV:=.fn (.func 61) [] [.cptr c,pt b]
def IE (f:Tr->Tr)(g:Fn)(fi ca:List IV)(aI:∀i,g=.func i->entI prog i=true)(P:ISt->Prop)(hP:∀s s',P s->subSt s s'->P s')(aJ:∀t x st,P st->IsTr t x->ICallV prog gl (.fn g fi ca) [x] st (λr st'=>IsTr (f t) r/\st'=st))(b:Nat) :
  ∀(n:Nat) (t:Tr) (x:IV) (_:IsTr t x) (on:Bool) (pl:List Nat) (tg:Tag) (_:okEs tg 1) (_:pl.length<=1000000) (an:Tr) (_:visF f n t on pl=some an) (st:ISt) (_:P st) (_:st b=some (.box [visI (.fn g fi ca) b])),
   ICall prog gl 61 [x,.raw (.bool on),.sl tg (plI pl),.cptr (.fn g fi ca),pt b] st (λr st'=>IsTr an r/\st'=st)
 | 0,_,_,_,_,_,_,_,_,_,hv,_,_,_=>by cases hv
 | n+1,t,x,hx,on,pl,tg,aq,ba,an,hv,st,ai,hst=>by
  have IH:=λt x hx on pl tg aq ba an hv st ai hst=>IE f g fi ca aI P hP aJ b n t x hx on pl tg aq ba an hv st ai hst;have cq:=hx;have ch:=λst hp=>aJ t x st hp hx;rw[visF] at hv;obtain⟨U,s1,m1,u1,ao,sub1⟩:=t;obtain⟨b8,b1,tr1,b0,cc,ci,cb,b4,b9,b2,v1,b6,b7,bZ,aC,aB,rfl,aD,e1,i1,e2,i2,hf,hu,e3,i3⟩:=hx.mk;refine ICall.intro (c:=cf prog gl [53,63] [(4,[0,1,2,3,5,6,8,9,11,12,14,4,7,10,13,15])]) func61 rfl (by show _<=71;simp) (by kernel_rfl) ?_;cases on
  ·rw[a_ (by simp)] at hv;obtain⟨ku,k1,k2,k3,k4,rs,rfl,aw,av⟩:=B9 hv;simp only[go_sem,zE,zA,zL];have au:=λst=>B7 gl s1 _ ⟨_,_,_,_,rfl,e1,i1,e2,i2⟩ k1 k2 st;have ay:=λst=>ow gl m1 _ hf (by omega) st;have htm:=λst=>B8 gl u1 _ hu ku st;refine (au _).mono ?_;rintro _ st ⟨⟨q1,y1,q2,y2,rfl,g1,j1,g2,j2⟩,rfl⟩;simp only[go_sem,zE,zA];refine (ay _).mono ?_;rintro _ st ⟨⟨ae,bO⟩,rfl⟩;have ac:=ae;obtain⟨o5,n5,t5,x5,t6,x6,rfl⟩:=ae.agg;simp only[go_sem,zE,zA];refine (htm _).mono ?_;rintro _ st ⟨ab,rfl⟩;have aa:=ab;obtain⟨v5,n6,bo⟩:=u1;obtain⟨q3,y3,rfl,_,_⟩:=ab.mk;simp only[go_sem,zE,zA,zL,fits,i3.len];intro _;refine dC sub1.length (λk fr st' ds=>(∃t y,fr 9=.box [.raw (.int .u8 U),.sl q1 y1,.sl q2 y2,.raw (.int .u8 o5),n5,.sl t5 x5,.sl t6 x6,v5,n6,.sl q3 y3,ao,.sl t y]/\own st' t k 12 st/\subSt st st'/\IsTrs (rs.take k) y/\y.length=k) /\
    fr 1=false/\fr 2=.iv (.sl tg (plI pl))/\fr 4=(pt b)/\fr 8=.box z12/\fr 36=.iv (.sl aC aB)/\fr 37=(sub1.length:Int)/\fr 38=(k:Int)/\ds=[]) ?_ ?_ ?_
   ·simp only[go_sem,zE,z12];exact⟨⟨_,[],rfl,own.nil ..,subSt.refl _,rfl,rfl⟩,rfl⟩
   ·rintro k fr G _ O ⟨⟨t,y,f9,D,A,hy,J⟩,f1,f2,f4,f8,f36,f37,f38,rfl⟩;obtain⟨a,ha⟩:=ed O;obtain⟨z,al,hz⟩:=i3.get ha;obtain⟨w,hw,ak⟩:=av k a ha;have aj:=hz;have hb:=A _ _ hst;obtain⟨am,bs,bj,tr2,bi,bB,bR,bu,bl,bt,bk,v2,bp,bq,bg,n2,br,bh,rfl⟩:=fY hz;rw[visG,a_ (by simp)] at hw;have E:=IH a _ aj false [] ⟨true,.nil,0⟩ (.inl rfl) (fe _) w hw G (hP _ _ ai A) hb;simp only[go_sem,zE,zB,zA,zL,f9,f1,f4,f36,f37,f38,fits,lt_i O,ec e3,iNn,al,pt,hb,visI];refine E.mono ?_;rintro r G ⟨hr,rfl⟩;have ah:=hr;obtain⟨af,aY,aO,tr3,aN,a8,bb,a1,aS,aZ,aQ,v3,aV,aW,aL,n3,aX,aM,rfl⟩:=fY hr;simp only[go_sem,zE,zA,zM,zL,fits,fg];refine je D J A rfl (by simp[fits,IV.one]) (by simp only;omega) (by omega) λt' a7 w1 w2 w3=>?_;simp only[go_sem,zE,zA,zL,f9,f1,f2,f4,f8,f36,f37,f38,ek O (by omega)];refine⟨⟨t',_,rfl,w1,w2,?_,by rw[lLa,J];rfl⟩,rfl⟩;rw[en ak];exact hy.append ⟨_,[],rfl,ah,rfl⟩
   ·rintro fr G _ ⟨⟨t,y,f9,D,A,hy,J⟩,f1,f2,f4,f8,f36,f37,f38,rfl⟩;rw[<- aw,lTl] at hy;simp only[go_sem,zE,zA,zL,f9,f8,f37,f38,z12,eI (nLi _)];exact fN A ⟨⟨_,_,_,_,_,_,_,_,_,_,_,_,_,_,_,_,rfl,aD,g1,j1,g2,j2,ac,aa,D.es,hy⟩,rfl⟩
  ·by_cases hp:pl=[]
   ·subst hp;rw[c_ ⟨rfl,rfl⟩] at hv;have d:decide (((plI []).length:Int)=0)=true:=rfl;simp only[go_sem,zE,zA,zL,fits,d];intro _;refine mI aI ((ch _ ai).mono ?_);rintro _ st ⟨bM,rfl⟩;generalize f (.mk U s1 m1 u1 ao sub1)=t1 at hv bM;obtain⟨U,s1,m1,u1,ao,sub1⟩:=t1;obtain⟨b8,b1,tr1,b0,cc,ci,cb,b4,b9,b2,v1,b6,b7,bZ,aC,aB,rfl,aD,e1,i1,e2,i2,hf,hu,e3,i3⟩:=bM.mk;obtain⟨ku,k1,k2,k3,k4,rs,rfl,aw,av⟩:=B9 hv;simp only[go_sem,zE,zA,zL];have au:=λst=>B7 gl s1 _ ⟨_,_,_,_,rfl,e1,i1,e2,i2⟩ k1 k2 st;have ay:=λst=>ow gl m1 _ hf (by omega) st;have htm:=λst=>B8 gl u1 _ hu ku st;refine (au _).mono ?_;rintro _ st ⟨⟨q1,y1,q2,y2,rfl,g1,j1,g2,j2⟩,rfl⟩;simp only[go_sem,zE,zA];refine (ay _).mono ?_;rintro _ st ⟨⟨ae,bO⟩,rfl⟩;have ac:=ae;obtain⟨o5,n5,t5,x5,t6,x6,rfl⟩:=ae.agg;simp only[go_sem,zE,zA];refine (htm _).mono ?_;rintro _ st ⟨ab,rfl⟩;have aa:=ab;obtain⟨v5,n6,bo⟩:=u1;obtain⟨q3,y3,rfl,_,_⟩:=ab.mk;simp only[go_sem,zE,zA,zL,fits,i3.len];intro _;refine dC sub1.length (λk fr st' ds=>(∃t y,fr 9=.box [.raw (.int .u8 U),.sl q1 y1,.sl q2 y2,.raw (.int .u8 o5),n5,.sl t5 x5,.sl t6 x6,v5,n6,.sl q3 y3,ao,.sl t y]/\own st' t k 12 st/\subSt st st'/\IsTrs (rs.take k) y/\y.length=k) /\
     fr 1=false/\fr 2=.iv (.sl tg (plI []))/\fr 4=(pt b)/\fr 8=.box z12/\fr 36=.iv (.sl aC aB)/\fr 37=(sub1.length:Int)/\fr 38=(k:Int)/\ds=[]) ?_ ?_ ?_
    ·simp only[go_sem,zE,z12];exact⟨⟨_,[],rfl,own.nil ..,subSt.refl _,rfl,rfl⟩,rfl⟩
    ·rintro k fr G _ O ⟨⟨t,y,f9,D,A,hy,J⟩,f1,f2,f4,f8,f36,f37,f38,rfl⟩;obtain⟨a,ha⟩:=ed O;obtain⟨z,al,hz⟩:=i3.get ha;obtain⟨w,hw,ak⟩:=av k a ha;have aj:=hz;have hb:=A _ _ hst;obtain⟨am,bs,bj,tr2,bi,bB,bR,bu,bl,bt,bk,v2,bp,bq,bg,n2,br,bh,rfl⟩:=fY hz;rw[visG,a_ (by simp)] at hw;have E:=IH a _ aj false [] ⟨true,.nil,0⟩ (.inl rfl) (fe _) w hw G (hP _ _ ai A) hb;simp only[go_sem,zE,zB,zA,zL,f9,f1,f4,f36,f37,f38,fits,lt_i O,ec e3,iNn,al,pt,hb,visI];refine E.mono ?_;rintro r G ⟨hr,rfl⟩;have ah:=hr;obtain⟨af,aY,aO,tr3,aN,a8,bb,a1,aS,aZ,aQ,v3,aV,aW,aL,n3,aX,aM,rfl⟩:=fY hr;simp only[go_sem,zE,zA,zM,zL,fits,fg];refine je D J A rfl (by simp[fits,IV.one]) (by simp only;omega) (by omega) λt' a7 w1 w2 w3=>?_;simp only[go_sem,zE,zA,zL,f9,f1,f2,f4,f8,f36,f37,f38,ek O (by omega)];refine⟨⟨t',_,rfl,w1,w2,?_,by rw[lLa,J];rfl⟩,rfl⟩;rw[en ak];exact hy.append ⟨_,[],rfl,ah,rfl⟩
    ·rintro fr G _ ⟨⟨t,y,f9,D,A,hy,J⟩,f1,f2,f4,f8,f36,f37,f38,rfl⟩;rw[<- aw,lTl] at hy;simp only[go_sem,zE,zA,zL,f9,f8,f37,f38,z12,eI (nLi _)];exact fN A ⟨⟨_,_,_,_,_,_,_,_,_,_,_,_,_,_,_,_,rfl,aD,g1,j1,g2,j2,ac,aa,D.es,hy⟩,rfl⟩
   ·obtain⟨p0,pr,rfl⟩:=List.exists_cons_of_ne_nil hp;rw[a_ (by simp)] at hv;obtain⟨ku,k1,k2,k3,k4,rs,rfl,aw,av⟩:=B9 hv;have d:decide (((plI (p0::pr)).length:Int)=0)=false:=by rw[iX,fa];exact dEf (by omega)
    simp only[go_sem,zE,zA,zL,d];intro _;have au:=λst=>B7 gl s1 _ ⟨_,_,_,_,rfl,e1,i1,e2,i2⟩ k1 k2 st;have ay:=λst=>ow gl m1 _ hf (by omega) st;have htm:=λst=>B8 gl u1 _ hu ku st;refine (au _).mono ?_;rintro _ st ⟨⟨q1,y1,q2,y2,rfl,g1,j1,g2,j2⟩,rfl⟩;simp only[go_sem,zE,zA];refine (ay _).mono ?_;rintro _ st ⟨⟨ae,bO⟩,rfl⟩;have ac:=ae;obtain⟨o5,n5,t5,x5,t6,x6,rfl⟩:=ae.agg;simp only[go_sem,zE,zA];refine (htm _).mono ?_;rintro _ st ⟨ab,rfl⟩;have aa:=ab;obtain⟨v5,n6,bo⟩:=u1;obtain⟨q3,y3,rfl,_,_⟩:=ab.mk;simp only[go_sem,zE,zA,zL,fits,i3.len];intro _;refine dC sub1.length (λk fr st' ds=>(∃t y,fr 9=.box [.raw (.int .u8 U),.sl q1 y1,.sl q2 y2,.raw (.int .u8 o5),n5,.sl t5 x5,.sl t6 x6,v5,n6,.sl q3 y3,ao,.sl t y]/\own st' t k 12 st/\subSt st st'/\IsTrs (rs.take k) y/\y.length=k) /\
     fr 1=true/\fr 2=.iv (.sl tg (plI (p0::pr)))/\fr 4=(pt b)/\fr 8=.box z12/\fr 36=.iv (.sl aC aB)/\fr 37=(sub1.length:Int)/\fr 38=(k:Int)/\ds=[]) ?_ ?_ ?_
    ·simp only[go_sem,zE,z12];exact⟨⟨_,[],rfl,own.nil ..,subSt.refl _,rfl,rfl⟩,rfl⟩
    ·rintro k fr G _ O ⟨⟨t,y,f9,D,A,hy,J⟩,f1,f2,f4,f8,f36,f37,f38,rfl⟩;obtain⟨a,ha⟩:=ed O;obtain⟨z,al,hz⟩:=i3.get ha;obtain⟨w,hw,ak⟩:=av k a ha;have aj:=hz;have hb:=A _ _ hst;obtain⟨am,bs,bj,tr2,bi,bB,bR,bu,bl,bt,bk,v2,bp,bq,bg,n2,br,bh,rfl⟩:=fY hz;have h0:(plI (p0::pr))[0]?=some (.raw (.int .i64 (p0:Int))):=rfl;have cg:ic (some 1) none (plI (p0::pr)).length=some (1,pr.length+1):=by
      rw[iX,fa];simp only[ic,gh,fz];rw[c_ ⟨by omega,by omega,by omega⟩];simp
     have ce:List.take (pr.length+1-1) (List.drop 1 (plI (p0::pr)))=plI pr:=by
      show List.take pr.length (plI pr)=_;rw[<- iX pr,lTl]
     by_cases hk:k=p0
     ·subst hk;rw[visG,c_ ⟨rfl,rfl⟩] at hw;simp only[go_sem,zE,zB,zA,zL,f9,f1,f2,f4,f36,f37,f38,fits,lt_i O,ec e3,ec aq,iNn,kn,jX,h0,d_,al,pt,hb,visI,cg];rw[ce];have E:=IH a _ aj true pr _ (B_ aq (plI (k::pr)).length (pr.length+1) 1) (by simp only[fa] at ba;omega) w hw G (hP _ _ ai A) hb;refine E.mono ?_;rintro r G ⟨hr,rfl⟩;have ah:=hr;obtain⟨af,aY,aO,tr3,aN,a8,bb,a1,aS,aZ,aQ,v3,aV,aW,aL,n3,aX,aM,rfl⟩:=fY hr;simp only[go_sem,zE,zA,zM,zL,fits,fg];refine je D J A rfl (by simp[fits,IV.one]) (by simp only;omega) (by omega) λt' a7 w1 w2 w3=>?_;simp only[go_sem,zE,zA,zL,f9,f1,f2,f4,f8,f36,f37,f38,ek O (by omega)];refine⟨⟨t',_,rfl,w1,w2,?_,by rw[lLa,J];rfl⟩,rfl⟩;rw[en ak];exact hy.append ⟨_,[],rfl,ah,rfl⟩
     ·rw[visG,a_ (λh=>hk (by have:=h.2;simpa using this.symm))] at hw;have dk:decide ((k:Int)=(p0:Int))=false:=dEf (by omega);have E:=IH a _ aj false [] ⟨true,.nil,0⟩ (.inl rfl) (fe _) w hw G (hP _ _ ai A) hb;simp only[go_sem,zE,zB,zA,zL,f9,f1,f2,f4,f36,f37,f38,fits,lt_i O,ec e3,ec aq,iNn,kn,jX,h0,dk,al,pt,hb,visI];refine E.mono ?_;rintro r G ⟨hr,rfl⟩;have ah:=hr;obtain⟨af,aY,aO,tr3,aN,a8,bb,a1,aS,aZ,aQ,v3,aV,aW,aL,n3,aX,aM,rfl⟩:=fY hr;simp only[go_sem,zE,zA,zM,zL,fits,fg];refine je D J A rfl (by simp[fits,IV.one]) (by simp only;omega) (by omega) λt' a7 w1 w2 w3=>?_;simp only[go_sem,zE,zA,zL,f9,f1,f2,f4,f8,f36,f37,f38,ek O (by omega)];refine⟨⟨t',_,rfl,w1,w2,?_,by rw[lLa,J];rfl⟩,rfl⟩;rw[en ak];exact hy.append ⟨_,[],rfl,ah,rfl⟩
    ·rintro fr G _ ⟨⟨t,y,f9,D,A,hy,J⟩,f1,f2,f4,f8,f36,f37,f38,rfl⟩;rw[<- aw,lTl] at hy;simp only[go_sem,zE,zA,zL,f9,f8,f37,f38,z12,eI (nLi _)];exact fN A ⟨⟨_,_,_,_,_,_,_,_,_,_,_,_,_,_,_,_,rfl,aD,g1,j1,g2,j2,ac,aa,D.es,hy⟩,rfl⟩
def IF (f:Tr->Tr)(g:Fn)(fi ca:List IV)(E:∀i,g=.func i->entI prog i=true)(P:ISt->Prop)(hP:∀s s',P s->subSt s s'->P s')(G:∀t x st,P st->IsTr t x->ICallV prog gl (.fn g fi ca) [x] st (λr st'=>IsTr (f t) r/\st'=st))(n:Nat)(t:Tr)(x:IV)(hx:IsTr t x)(pl:List Nat)(O:Tag)(ab:okEs O 1)(ae:pl.length<=1000000)(A:Tr)(hv:visF f n t true pl=some A)(st:ISt)(af:P st) :
  ICall prog gl 36 [x,.sl O (plI pl),.fn g fi ca] st (λr st'=>IsTr A r/\st'=st):=by
 have D:=λb st=>IE gl f g fi ca E P hP G b n t x hx true pl O ab ae A hv st;obtain⟨aa,aI,av,aG,aq,aO,aS,aM,az,aK,ax,v',aB,aD,al,n',aF,an,rfl⟩:=fY hx;refine ICall.intro (c:=cf prog gl [7] [] [5]) func36 rfl (by show _<=13;simp) (by kernel_rfl) ?_;simp only[go_sem,zE,zA,zL];intro b;refine fc λJ=>?_;refine (D b _ (hP _ _ af (fM (fM (subSt.refl _) J) J)) (b_ ..)).mono ?_;rintro r _ ⟨hr,rfl⟩;have ac:=hr;obtain⟨U,aH,au,tr3,ao,aN,aQ,aL,ay,aJ,aw,v3,aA,aC,ak,n3,aE,am,rfl⟩:=fY hr;simp only[go_sem,zE,zA,zL];exact fN (st':=st) (fM (fM (subSt.refl _) J) J) ⟨ac,rfl⟩
mutual
def IG:∀(q:List Nat)(t:Tr)(x:List Nat×Tr),x∈t.walk q->x.2.steps<=t.steps
 | q,.mk _ _ _ _ _ sub,x,h=>by
  simp only[Tr.walk,eK] at h;rcases h with rfl|h
  ·exact eu _
  ·have:=II q 0 sub x h;simp only[Tr.steps];omega
def II:∀(q:List Nat)(i:Nat)(l:List Tr)(x:List Nat×Tr),x∈fJ q i l->x.2.steps<=gk l
 | _,_,[],x,h=>by simp[fJ] at h
 | q,i,a::l,x,h=>by
  simp only[fJ,eQ] at h;simp only[gk];rcases h with h|h
  ·have:=IG (q++[i]) a x h;omega
  ·have:=II q (i+1) l x h;omega
end
def Ca (G:Gl gl)(T:Gt gl)(ca:Nat)(t:Tr)(x:IV)(hx:IsTr t x)(U:pv t)(hs:t.steps<=1000000)(st:ISt):ICall prog gl 8 [.raw (.int .u8 (ca:Int)),x] st (λr st'=>(∃tg,r=.tup [.sl tg (plI (hCk ca t).1),((hCk ca t).2:Int)]/\okEs tg 1)/\st'=st):=by
 have hst:=λst=>Gn gl x st t hx;have hN:=λst=>Iu gl t x hx (by omega) st;have ay:=λI=>Gm gl t x hx U.2 I;obtain⟨rule,tl,xl,tr,xr,op,fn,ta,xa,tb,xb,v,un,tu,xu,n,ts,xs,rfl⟩:=fY hx;refine ICall.intro (c:=cf prog gl [2,4,5] [] [3]) func8 rfl (by show _<=27;simp) (by kernel_rfl) ?_;simp only[go_sem,zE,IV.one];intro b2;refine fc λaA=>?_;intro b4;refine fc λaa=>?_;intro b5;refine fc λD=>?_;have af:b2≠b4:=by rintro rfl;rw[b_] at aa;cases aa
 have ac:b4≠b5:=by rintro rfl;rw[b_] at D;cases D
 have ak:b2≠b5:=by rintro rfl;rw[ISt.put_apply,a_ af,b_] at D;cases D
 rw[ISt.put_apply,a_ af.symm] at aa;rw[ISt.put_apply,a_ ac.symm,ISt.put_apply,a_ ak.symm] at D;obtain⟨s1,av,f2,f4,f5,O⟩:∃s1,s1=((st.put b2 (some (.box [.raw (.int .u8 ca)]))).put b4 (some (.box [()]))).put b5 (some (.box [(0:Int)]))/\s1 b2=some (.box [.raw (.int .u8 ca)])/\s1 b4=some (.box [()])/\s1 b5=some (.box [(0:Int)])/\subSt st s1 :=
  ⟨_,rfl,by simp only[ISt.put_apply,a_ af,a_ ak,el],by simp only[ISt.put_apply,a_ ac,el],by simp only[ISt.put_apply,el],fM (fM (fM (subSt.refl st) aA) aa) D⟩
 rw[<- av];have g5:∀(s:ISt) o,(s.put b4 o) b5=s b5:=λs o=>by rw[ISt.put_apply,a_ ac.symm]
 have g4:∀(s:ISt) o o',((s.put b4 o).put b5 o') b4=o:=λs o o'=>by rw[ISt.put_apply,a_ ac,b_]
 have A:∀(s:ISt) o o',subSt st s->subSt st ((s.put b4 o).put b5 o'):=λs o o' h=>fM (fM h aa) D;by_cases hc:ca=1\/ca=2
 ·obtain⟨a,d1,d2⟩:∃a:Bool,decide ((ca:Int)=1)=a/\(a=false->decide ((ca:Int)=2)=true):=by
   rcases hc with rfl|rfl
   ·exact⟨true,rfl,nofun⟩
   ·exact⟨false,rfl,λ_=>rfl⟩
  cases a
  all_goals first
   | (replace d2:=d2 rfl;simp only[go_sem,zE,zA,f2,d1,d2,fits])
   | simp only[go_sem,zE,zA,f2,d1,fits]
  all_goals
   refine (hN _).q ?_;by_cases ae:300<t.steps
   ·have d3:decide ((300:Int)<(t.steps:Int))=true:=dEt (by omega);have hq:hCk ca t=([],5):=by unfold hCk;rw[c_ hc,c_ ae]
    simp only[go_sem,zE,zL,f4,f5,d3,g5,g4,b_];exact fN (A _ _ _ O) ⟨⟨_,by rw[hq];rfl,.inl rfl⟩,rfl⟩
   ·have d3:decide ((300:Int)<(t.steps:Int))=false:=dEf (by omega);have hq:hCk ca t=g_ (badN ca) (t.walk []):=by unfold hCk;rw[c_ hc,a_ ae]
    simp only[go_sem,zE,zA,d3,fits];refine (hst _).q ?_;simp only[go_sem,reduceCtorEq];refine RangeL.intro (lkW (λx=>x) (t.walk [])) (t.walk []).length (λk s=>(s b2=some (.box [.raw (.int .u8 ca)])/\s b4=some (.box [()])/\s b5=some (.box [(0:Int)])/\subSt st s)/\g_ (badN ca) ((t.walk []).take k)=([],0)) (λe s=>CkS st b4 b5 (hCk ca t) e s) rfl ?_ ?_ ?_ (ay _) ?_ ?_
    ·rintro k a e ⟨p,u,a,y,_,_,_,rfl⟩;rfl
    ·exact⟨⟨f2,f4,f5,O⟩,by simp[g_]⟩
    ·rintro k _ e s ⟨p,z,a,y,J,hz,hp,rfl⟩ hd ⟨⟨c2,c4,c5,E⟩,hf⟩;have aj:disj s e:=hd;have r2:=jy aj _ _ c2;have ax:=qd [] t _ (lMg J);have aW:=U.2;simp only[fb] at ax;have aw:=λst=>QY gl G T ca z y hz (U.1 _ (lMg J)) (eM (IG [] t _ (lMg J)) hs) st;have az:=Gg gl p a e s hp (by omega) aj;have ah:ivOf a=some a:=by rcases hp with⟨t,rfl,_⟩|⟨g,cap,cs,rfl,_⟩<;>rfl
     obtain⟨aq,aO,aH,aN,aG,aV,aY,aS,aJ,aQ,aI,v',aK,aL,aE,n',aM,aF,rfl⟩:=fY hz;simp only[go_sem,zE,zA,zL,r2,ah];refine (aw _).q ?_;cases hr:iZ ca z
     ·have hb:badN ca z=270:=by unfold badN;rw[hr];rfl
      have hv:hCk ca t=(p,270):=by
       rw[hq]
       conv=>lhs;rw[<- fh k (t.walk [])]
       rw[gB (lGs J).1,(lGs J).2,uz,hf];simp[g_,hb]
      simp only[go_sem,zE,zA,ah];refine az.mono ?_;rintro _ _ ⟨⟨t',rfl,au⟩,rfl⟩;simp only[go_sem,zE,zL,c4,c5,g5];refine⟨rfl,⟨t',?_,au⟩,?_,A _ _ _ E⟩
      ·rw[g4,hv]
      ·rw[b_,hv];rfl
     ·have hb:badN ca z=0:=by unfold badN;rw[hr];rfl
      simp only[go_sem];refine⟨s,⟨⟨c2,c4,c5,E⟩,?_⟩,hd,rfl⟩;rw[en J,uz,hf];simp[g_,hb]
    ·rintro s r ⟨⟨c2,c4,c5,E⟩,hf⟩;rw[lTl,<- hq] at hf;simp only[go_sem,zE,zL,c4,c5,g5,g4,b_];exact fN (A _ _ _ E) ⟨⟨_,by rw[hf];rfl,.inl rfl⟩,rfl⟩
    ·rintro e s r ⟨rfl,⟨tg,c4,ht⟩,c5,E⟩;simp only[go_sem,zE,c4,c5];exact fN E ⟨⟨_,rfl,ht⟩,rfl⟩
 ·have d1:decide ((ca:Int)=1)=false:=dEf (by omega);have d2:decide ((ca:Int)=2)=false:=dEf (by omega);have hq:hCk ca t=([],2):=by unfold hCk;rw[a_ hc]
  simp only[go_sem,zE,zL,f2,f4,f5,d1,d2,g5,g4,b_];exact fN (A _ _ _ O) ⟨⟨_,by rw[hq];rfl,.inl rfl⟩,rfl⟩
noncomputable def lowB (j:Bool)(h:Nat)(ps:List Sn):Bool:=ps.all λp=>decide (1<=Tryz.hF j p)&&decide (Tryz.hF j p<h)
abbrev mvZ:IV:=.agg [.raw (.int .u8 0),.raw (.int .u8 0),.raw (.string ⟨#[]⟩),.sl ⟨true,.nil,0⟩ [],.sl ⟨true,.nil,0⟩ [],.sl ⟨true,.nil,0⟩ []]
def Q0 (ca:Nat)(v:Nat×Fm×List Sn)(x:IV)(hv:jh v x)(h:Nat)(ae:v.2.2.length<=1000000)(hp:∀p∈v.2.2,∀y st,IsSq ⟨p.1,p.2⟩ y->ICall prog gl 12 [.raw (.int .u8 (ca:Int)),y] st (λr st'=>r=.tup [(Tryz.hF (calJ ca) p:Int),(0:Int)]/\st'=st))(st:ISt) :
  ICall prog gl 99 [.raw (.int .u8 (ca:Int)),x,(h:Int)] st (λr st'=>r=.tup [(lowB (calJ ca) h v.2.2:Bool),(0:Int)]/\st'=st):=by
 obtain⟨o,n,t1,x1,t2,x2,t3,x3,rfl,hf,e3,h3⟩:=hv;have ac:=h3.1;refine iI func99 ?_;simp only[go_sem,zE,ac];intro _;refine dC v.2.2.length (λk fr st' ds=>lowB (calJ ca) h (v.2.2.take k)=true/\st'=st/\fr 0=.iv (.raw (.int .u8 (ca:Int)))/\fr 2=(h:Int)/\fr 13=.iv (.sl t3 x3)/\fr 14=(v.2.2.length:Int)/\fr 15=(k:Int)/\ds=[]) ?_ ?_ ?_
 ·simp only[go_sem,zE,reduceCtorEq];exact⟨rfl,rfl⟩
 ·rintro k fr E _ J ⟨D,rfl,f0,f2,f13,f14,f15,rfl⟩;obtain⟨p,G⟩:=ed J;obtain⟨y,hy,aa⟩:=h3.2 k p G;have hL:=hp p (lMg G) y;have U:=aa;obtain⟨ta,xa,tb,xb,rfl,ea,ia,eb,ib⟩:=aa;have O:=hL E U;simp only[go_sem,zE,zB,zA,zL,reduceCtorEq,f0,f13,f14,f15,fits,lt_i J,ec e3,iNn,hy];refine O.mono ?_;rintro _ E ⟨rfl,rfl⟩;have A:lowB (calJ ca) h (v.2.2.take (k+1))=(decide (1<=Tryz.hF (calJ ca) p)&&decide (Tryz.hF (calJ ca) p<h)):=by
   rw[en G];unfold lowB at D ⊢;rw[lf,D];simp
  have ab:∀b:Bool,lowB (calJ ca) h (v.2.2.take (k+1))=false->lowB (calJ ca) h v.2.2=false:=λ_ hb=>by
   rw[<- fh (k+1) v.2.2];unfold lowB at hb ⊢;rw[lf,hb];rfl
  by_cases h1:1<=Tryz.hF (calJ ca) p
  ·have d1:decide ((Tryz.hF (calJ ca) p:Int)<1)=false:=dEf (by omega);by_cases h2:Tryz.hF (calJ ca) p<h
   ·have d2:decide ((h:Int)<=(Tryz.hF (calJ ca) p:Int))=false:=dEf (by omega);rw[dEt h1,dEt h2] at A;simp only[go_sem,zE,reduceCtorEq,f0,f2,f13,f14,f15,d_,d1,d2,ek J (by omega)];exact A
   ·have d2:decide ((h:Int)<=(Tryz.hF (calJ ca) p:Int))=true:=dEt (by omega);rw[dEf h2,Bool.and_false] at A;simp only[go_sem,zE,f2,d_,d1,d2];exact dw ⟨by rw[ab true A],rfl⟩
  ·have d1:decide ((Tryz.hF (calJ ca) p:Int)<1)=true:=dEt (by omega);rw[dEf h1,qA] at A;simp only[go_sem,zE,d_,d1];exact dw ⟨by rw[ab true A],rfl⟩
 ·rintro fr E _ ⟨D,rfl,f0,f2,f13,f14,f15,rfl⟩;rw[lTl] at D;simp only[go_sem,zE,f14,f15,eI (nLi _)];exact dw ⟨by rw[D],rfl⟩
noncomputable def clM (s:Sq):Nat×Fm×List Sn:=match s.l.find? (hasF s.r) with
 | some f=>(1,f,[])
 | none=>(2,.mk 2 noN [] [],[])
def Q1 (G:Gl gl)(T:Gt gl)(s s1:Sq)(x:IV)(hx:IsSq s x)(hs:ig s)(hl:s.l.length<=64/\s.r.length<=64)(h1:SetS s=(s1,0))(aa:ig s1)(am:s1.l.length<=64)(st:ISt) :
  ICall prog gl 97 [x] st (λr st'=>(∃z,jh (clM s1) z/\r=.tup [z,(0:Int)])/\st'=st):=by
 have hS:=λst=>O1 gl G T s x hx hs ⟨by omega,by omega⟩ st;rw[h1] at hS;obtain⟨t1,x1,t2,x2,rfl,e1,i1,e2,i2⟩:=hx;refine iI func97 ?_;simp only[go_sem,zE,zA,zL];refine (hS _).mono ?_;rintro _ st ⟨⟨y,rfl,hy⟩,rfl⟩;obtain⟨t3,x3,t4,x4,rfl,e3,i3,e4,i4⟩:=hy;simp only[go_sem,zE,zA,zL,i3.len,show decide (((0:Nat):Int)=0)=true from rfl];intro _;refine dC s1.l.length (λk fr st' ds=>(∀g∈s1.l.take k,hasF s1.r g=false)/\st'=st/\fr 1=.box [.sl t3 x3,.sl t4 x4]/\fr 2=.box [.raw (.int .u8 0),.raw (.int .u8 0),.raw (.string ⟨#[]⟩),(),(),()]/\fr 17=.iv (.sl t3 x3)/\fr 18=(s1.l.length:Int)/\fr 19=(k:Int)/\ds=[]) ?_ ?_ ?_
 ·simp only[go_sem,zE];exact⟨nofun,rfl⟩
 ·rintro k fr U _ E ⟨A,rfl,f1,f2,f17,f18,f19,rfl⟩;obtain⟨g,hg⟩:=ed E;obtain⟨z,hz,J⟩:=i3.get hg;have ae:=lMg hg;have hH:=λst=>wB gl G s1.r g t4 x4 z e4 i4 J aa.2 (aa.1 g ae) st;have ac:=J;obtain⟨o5,n5,t5,x5,t6,x6,rfl⟩:=J.agg;simp only[go_sem,zE,zB,zA,zL,f1,f17,f18,f19,fits,lt_i E,ec e3,iNn,hz];refine (hH _).q ?_;cases hb:hasF s1.r g
  ·simp only[go_sem,zE,f1,f2,f17,f18,f19,ek E (by omega)];refine λq D=>?_;rw[en hg] at D;rcases eQ.1 D with D|D
   ·exact A q D
   ·rw[eY.1 D];exact hb
  ·have O:clM s1=(1,g,[]):=by
    have hf:s1.l.find? (hasF s1.r)=some g:=by
     rw[<- fh k s1.l,gB E,(lGs hg).2,iO,jY.2 λq D=>by rw[A q D];simp];simp[hb]
    simp only[clM,hf]
   rw[O];simp only[go_sem,zE,zA,zL,f2,fits];exact dw ⟨⟨_,⟨_,_,_,_,_,_,_,_,rfl,ac,.inl rfl,AllR.nil⟩,rfl⟩,rfl⟩
 ·rintro fr U _ ⟨A,rfl,f1,f2,f17,f18,f19,rfl⟩;rw[lTl] at A;have O:clM s1=(2,.mk 2 noN [] [],[]):=by
   have hf:s1.l.find? (hasF s1.r)=none:=jY.2 λq D=>by rw[A q D];simp
   simp only[clM,hf]
  rw[O];simp only[go_sem,zE,zA,zL,f2,f18,f19,eI (nLi _),fits];exact dw ⟨⟨_,⟨_,_,_,_,_,_,_,_,rfl,by simp only[IsFm];exact⟨_,_,_,_,rfl,by decide,.inl rfl,rfl,.inl rfl,rfl⟩,.inl rfl,AllR.nil⟩,rfl⟩,rfl⟩
def ya (G:Gl gl)(T:Gt gl)(ca:Nat)(s:Sq)(hc:ca=1\/ca=2)(hv:fT ca s=true)(h:Nat)(m:Nat×Fm×List Sn)(x:IV)(hx:IsSq s x)(hs:ig s)
  (aq:ClF s.l s.r->∀st,ICall prog gl 97 [x] st (λr st'=>(∃z,jh m z/\r=.tup [z,(0:Int)])/\st'=st))
  (an:¬ ClF s.l s.r->¬ oC (calJ ca) (nf (s.l,s.r))/\(mvF (calJ ca) (nf (s.l,s.r))).find? (λv=>lowB (calJ ca) h v.2.2)=some m/\(mvF (calJ ca) (nf (s.l,s.r))).length<=1000000/\∀v∈mvF (calJ ca) (nf (s.l,s.r)),v.2.2.length<=1000000/\∀p∈v.2.2,∀y st,IsSq ⟨p.1,p.2⟩ y->ICall prog gl 12 [.raw (.int .u8 (ca:Int)),y] st (λr st'=>r=.tup [(Tryz.hF (calJ ca) p:Int),(0:Int)]/\st'=st)) (st:ISt) :
  ICall prog gl 72 [.raw (.int .u8 (ca:Int)),x,(h:Int)] st (λr st'=>(∃z,jh m z/\r=.tup [z,(0:Int)])/\st'=st):=by
 have hC:=λst=>Qy gl G T ca s x hx hs st;have hM:=λhn st=>QD gl G T ca s hc hv hn x hx hs st;obtain⟨t1,x1,t2,x2,rfl,e1,i1,e2,i2⟩:=hx;refine iI func72 ?_;simp only[go_sem,zE,zA,zL,reduceCtorEq];refine (hC _).mono ?_;rintro r st ⟨rfl,hr⟩;obtain⟨b,hb,rfl⟩:∃b:Bool,(b=true↔ClF s.l s.r)/\r=.tup [b,(0:Int)]:=by
  rcases hr with⟨h,_⟩|⟨_,h,_⟩|⟨_,_,h⟩
  ·exact absurd hc h
  ·rw[hv] at h;cases h
  ·exact h
 cases b
 ·have ae:¬ ClF s.l s.r:=λh=>by have:=hb.2 h;cases this
  obtain⟨ab,A,hml,U⟩:=an ae;simp only[go_sem,zE,zA,zL,reduceCtorEq,d_];refine (hM ab _).mono ?_;rintro _ st ⟨⟨t,ys,ht,hys,rfl⟩,rfl⟩;generalize mvF (calJ ca) (nf (s.l,s.r))=L at A hml U hys;have ai:=hys.1;simp only[go_sem,zE,d_,ai];intro _;refine dC L.length (λk fr st' ds=>(∀v∈L.take k,lowB (calJ ca) h v.2.2=false)/\st'=st/\fr 0=.iv (.raw (.int .u8 (ca:Int)))/\fr 2=(h:Int)/\fr 6=.box [.raw (.int .u8 0),.raw (.int .u8 0),.raw (.string ⟨#[]⟩),(),(),()]/\fr 40=.iv (.sl t ys)/\fr 41=(L.length:Int)/\fr 42=(k:Int)/\ds=[]) ?_ ?_ ?_
  ·simp only[go_sem,zE,reduceCtorEq];exact⟨nofun,rfl⟩
  ·rintro k fr ac _ O ⟨D,rfl,f0,f2,f6,f40,f41,f42,rfl⟩;obtain⟨v,J⟩:=ed O;obtain⟨y,hy,aa⟩:=hys.2 k v J;obtain⟨am,al⟩:=U v (lMg J);have ao:=λst=>Q0 gl ca v y aa h am al st;have aj:=aa;obtain⟨o,n,q1,z1,q2,z2,q3,z3,rfl,_⟩:=aa;simp only[go_sem,zE,zB,zA,zL,reduceCtorEq,f0,f2,f40,f41,f42,fits,lt_i O,ec ht,iNn,hy];refine (ao _).q ?_;cases ag:lowB (calJ ca) h v.2.2
   ·simp only[go_sem,zE,reduceCtorEq,f0,f2,f6,f40,f41,f42,d_,ek O (by omega)];refine λq E=>?_;rw[en J] at E;rcases eQ.1 E with E|E
    ·exact D q E
    ·rw[eY.1 E];exact ag
   ·have af:m=v:=by
     rw[<- fh k L,gB O,(lGs J).2,iO,jY.2 λq E=>by rw[D q E];simp] at A;simpa[ag] using A.symm
    subst af;simp only[go_sem,zE,zA,zL,f6,d_];exact dw ⟨⟨_,aj,rfl⟩,rfl⟩
  ·rintro fr ac _ ⟨D,rfl,f0,f2,f6,f40,f41,f42,rfl⟩;rw[lTl] at D;rw[jY.2 λq E=>by rw[D q E];simp] at A;cases A
 ·simp only[go_sem,zE,zA,zL,d_];refine (aq (hb.1 rfl) _).mono ?_;rintro _ st ⟨⟨z,hz,rfl⟩,rfl⟩;have ah:=hz;obtain⟨o,n,q1,z1,q2,z2,q3,z3,rfl,_⟩:=hz;simp only[go_sem,zE,zA,zL];exact dw ⟨⟨_,ah,rfl⟩,rfl⟩
abbrev nlS:IV:=.sl ⟨true,.nil,0⟩ []
def uY (ca:Nat)(t:Tr)(h:Nat)(m:Nat×Fm×List Sn)(r:IV):Prop :=
 ((hCk ca t).2≠0/\r=.tup [nlS,(0:Int),mvZ,((hCk ca t).2:Int)]) \/
 ((hCk ca t).2=0/\gz t=[]/\r=.tup [nlS,(0:Int),mvZ,(271:Int)]) \/
 ((hCk ca t).2=0/\∃p ps A,gz t=p::ps/\okEs A 1/\((h=0/\r=.tup [.sl A (plI p),(0:Int),mvZ,(272:Int)])\/(0<h/\∃z,jh m z/\r=.tup [.sl A (plI p),(h:Int),z,(0:Int)])))
def IJ (ca:Nat)(t:Tr)(h e:Nat)(m:Nat×Fm×List Sn)(F:Prop)(r:IV):Prop :=
 ((hCk ca t).2≠0/\r=.tup [nlS,(0:Int),mvZ,((hCk ca t).2:Int)]) \/
 ((hCk ca t).2=0/\gz t=[]/\r=.tup [nlS,(0:Int),mvZ,(271:Int)]) \/
 ((hCk ca t).2=0/\∃p ps A,gz t=p::ps/\okEs A 1/\((e≠0/\r=.tup [nlS,(0:Int),mvZ,(e:Int)])\/(e=0/\F/\((h=0/\r=.tup [.sl A (plI p),(0:Int),mvZ,(272:Int)])\/(0<h/\∃z,jh m z/\r=.tup [.sl A (plI p),(h:Int),z,(0:Int)])))))
def IK {t:Tr}{p:List Nat}{ps:List (List Nat)}(h:gz t=p::ps):okP t p/\p.length<=t.steps:=by
 have D:p∈gz t:=by rw[h];exact .head _
 unfold gz at D;obtain⟨⟨q,z⟩,A,rfl⟩:=eh.1 D;have A:=(j3.1 A).1;obtain⟨p',h1,h2,_⟩:=B6 [] t q z A;have:=qd [] t _ A;have E:=t.height_le_steps;simp only[fb] at this;rw[f_] at h1;exact⟨h1▸h2,by show q.length<=_;omega⟩
def Q2 (G:Gl gl)(T:Gt gl)(au:∀g x,gl g=some x->age x=x)(ca:Nat)(t:Tr)(x:IV)(hx:IsTr t x)(aa:pv t)(hs:t.steps<=1000000)(h e:Nat)(m:Nat×Fm×List Sn)(F:Prop)
  (hL:∀p ps,(hCk ca t).2=0->gz t=p::ps->∀y st,IsSq (atT t p).sq y->ICall prog gl 12 [.raw (.int .u8 (ca:Int)),y] st (λr st'=>(r=.tup [(h:Int),(e:Int)]/\(e=0->F))/\st'=st))
  (hB:F->∀p ps,0<h->(hCk ca t).2=0->gz t=p::ps->∀y st,IsSq (atT t p).sq y->ICall prog gl 72 [.raw (.int .u8 (ca:Int)),y,(h:Int)] st (λr st'=>(∃z,jh m z/\r=.tup [z,(0:Int)])/\st'=st)) (st:ISt) :
  ICall prog gl 42 [.raw (.int .u8 (ca:Int)),x] st (λr st'=>IJ ca t h e m F r/\st'=st):=by
 have hC:=λst=>Ca gl G T ca t x hx aa hs st;have hG:=λst=>B5 gl au t x hx hs st;have hA:=λp hp tg D hl st=>at_c gl t x hx p hp tg D hl st;obtain⟨rule,tl,xl,tr,xr,op,fn,ta,xa,tb,xb,v,un,tu,xu,n,ts,xs,rfl⟩:=fY hx;refine ICall.intro (c:=cf prog gl [] [(7,[0,1,2,3,6,4,5,7])]) func42 rfl (by show _<=69;simp) (by kernel_rfl) ?_;simp only[go_sem,zE,zA,zL,reduceCtorEq];refine (hC _).mono ?_;rintro _ st ⟨⟨aM,rfl,_⟩,rfl⟩;by_cases h0:(hCk ca t).2=0
 ·have d0:decide (((hCk ca t).2:Int)=0)=true:=dEt (by omega);simp only[go_sem,zE,zA,zL,d0];refine (hG _).mono ?_;rintro _ st ⟨⟨tg,ys,rfl,D,hys⟩,rfl⟩;cases A:gz t with
  | nil =>
   rw[A] at hys;obtain rfl:ys=[]:=fw hys.1;simp only[go_sem,zE,zA,zL,show decide (((0:Nat):Int)=0)=true from rfl];exact dw ⟨.inr (.inl ⟨h0,A,rfl⟩),rfl⟩
  | cons p ps =>
   rw[A] at hys;obtain⟨y,hy,O,rfl,E⟩:=hys.2 0 p rfl;obtain⟨zs,rfl⟩:∃zs,ys=.sl O (plI p)::zs:=by
    cases ys with
    | nil=>cases hy
    | cons a zs=>cases hy;exact⟨zs,rfl⟩
   obtain⟨aq,ao⟩:=IK A;have d1:decide (((zs.length+1:Nat):Int)=0)=false:=dEf (by omega);have ha:=hA p aq O E (eM ao hs);simp only[go_sem,zE,zA,zL,fits,d1,ec D];intro _;refine (ha _).mono ?_;rintro r st ⟨hr,rfl⟩;have ab:=hL p ps h0 A;have ac:=λhF J=>hB hF p ps J h0 A;generalize atT t p=z at hr ab ac;obtain⟨ak,aj,f',u',n',aA⟩:=z;obtain⟨ai,ag,ah,af,aQ,aX,aO,aI,aN,aH,v',aJ,aK,aF,aL,aG,rfl,_,ay,am,ax,al,_⟩:=hr.mk;have U:IsSq aj (.agg [.sl ai ag,.sl ah af]):=⟨_,_,_,_,rfl,ay,am,ax,al⟩
   have av:=λst=>ab _ st U;have aw:=λhF J st=>ac hF J _ st U;simp only[go_sem,zE,zA,zL,reduceCtorEq];refine (av _).mono ?_;rintro _ st ⟨⟨rfl,hF⟩,rfl⟩;by_cases he:e=0
   case neg =>
    have d3:decide ((e:Int)=0)=false:=dEf (by omega);simp only[go_sem,zE,zA,zL,d3];exact dw ⟨.inr (.inr ⟨h0,p,ps,O,A,E,.inl ⟨he,rfl⟩⟩),rfl⟩
   subst he;have hF:=hF rfl;rcases mw h with rfl|J
   ·simp only[go_sem,zE,zA,zL,fits,show decide (((0:Nat):Int)=0)=true from rfl,ec D,kn,jX];exact dw ⟨.inr (.inr ⟨h0,p,ps,O,A,E,.inr ⟨rfl,hF,.inl ⟨rfl,rfl⟩⟩⟩),rfl⟩
   ·have d2:decide ((h:Int)=0)=false:=dEf (by omega);simp only[go_sem,zE,zA,zL,reduceCtorEq,show decide (((0:Nat):Int)=0)=true from rfl,d2];refine (aw hF J _).mono ?_;rintro _ st ⟨⟨z,hz,rfl⟩,rfl⟩;have an:=hz;obtain⟨o,n,q1,z1,q2,z2,q3,z3,rfl,_⟩:=hz;simp only[go_sem,zE,zA,zL,fits,d_,ec D,kn,jX];exact dw ⟨.inr (.inr ⟨h0,p,ps,O,A,E,.inr ⟨rfl,hF,.inr ⟨J,_,an,rfl⟩⟩⟩),rfl⟩
 ·have d0:decide (((hCk ca t).2:Int)=0)=false:=dEf (by omega);simp only[go_sem,zE,zA,zL,d0];exact dw ⟨.inl ⟨h0,rfl⟩,rfl⟩
def IL (G:Gl gl)(T:Gt gl)(D:∀g x,gl g=some x->age x=x)(ca:Nat)(t:Tr)(x:IV)(U:IsTr t x)(A:pv t)(hs:t.steps<=1000000)(h:Nat)(m:Nat×Fm×List Sn)
  (hL:∀p ps,(hCk ca t).2=0->gz t=p::ps->∀y st,IsSq (atT t p).sq y->ICall prog gl 12 [.raw (.int .u8 (ca:Int)),y] st (λr st'=>r=.tup [(h:Int),(0:Int)]/\st'=st))
  (hB:∀p ps,0<h->(hCk ca t).2=0->gz t=p::ps->∀y st,IsSq (atT t p).sq y->ICall prog gl 72 [.raw (.int .u8 (ca:Int)),y,(h:Int)] st (λr st'=>(∃z,jh m z/\r=.tup [z,(0:Int)])/\st'=st)) (st:ISt) :
  ICall prog gl 42 [.raw (.int .u8 (ca:Int)),x] st (λr st'=>uY ca t h m r/\st'=st) :=
 (Q2 gl G T D ca t x U A hs h 0 m True (λp ps h0 hg y st O=>(hL p ps h0 hg y st O).mono λ_ _ ⟨a,b⟩=>⟨⟨a,λ_=>trivial⟩,b⟩) (λ_=>hB) st).mono λr st' ⟨a,b⟩=>⟨by
  rcases a with a|a|⟨h0,p,ps,J,h1,h2,⟨E,_⟩|⟨_,_,E⟩⟩
  ·exact .inl a
  ·exact .inr (.inl a)
  ·exact absurd rfl E
  ·exact .inr (.inr ⟨h0,p,ps,J,h1,h2,E⟩),b⟩
end Go.Proofs.Tryz
namespace Go.Proofs.Tryz
open Go Go.Iv
set_option maxRecDepth 4000
def iM (t:Tr):List Tr:=(t.walk []).map (·.2)
def Q3 (q:List Nat)(t:Tr):(t.walk q).map (·.2)=iM t:=by
 have:=AO q [] t;rw[fL] at this;rw[this,jn];rfl
def IM:∀(q:List Nat)(i:Nat)(l:List Tr),(fJ q i l).map (·.2)=l.flatMap iM
 | _,_,[]=>rfl
 | q,i,a::l=>by rw[fJ,fS,Q3,IM q (i+1) l,fE]
def pF (r:Nat)(s:Sq)(m:Fm)(u:Tm)(n:ByteArray)(sub:List Tr):iM (.mk r s m u n sub)=.mk r s m u n sub::sub.flatMap iM:=by
 unfold iM;simp only[Tr.walk,ff];rw[show (fJ [] 0 sub).map (λx=>x.2)=sub.flatMap iM from IM [] 0 sub];rfl
def yb (t:Tr):t∈iM t:=by obtain⟨r,s,m,u,n,sub⟩:=t;rw[pF];exact .head _
def qt {t:Tr}{p:List Nat}(h:okP t p):atT t p∈iM t:=eh.2 ⟨_,x_ p t [] h,rfl⟩
def IN {t z:Tr}(h:z∈iM t):∃p,(p,z)∈t.walk []:=by
 obtain⟨⟨p,z⟩,h1,rfl⟩:=eh.1 h;exact⟨p,h1⟩
def Cb {t:Tr}{q:List Nat×Tr}(h:q∈t.walk []):okP t q.1/\atT t q.1=q.2:=by
 obtain⟨p',h1,h2,A⟩:=B6 [] t q.1 q.2 h;rw[f_] at h1;rw[h1];exact⟨h2,A⟩
def lstB (L:Sq->Nat×Nat)(z:Tr):Bool:=jN z&&decide ((L z.sq).1=0)
def iU (L:Sq->Nat×Nat)(l:List Tr):Nat:=((l.flatMap iM).filter (lstB L)).length
def gR (L:Sq->Nat×Nat)(t:Tr):Nat:=((iM t).filter (lstB L)).length
def qu (L:Sq->Nat×Nat)(a:Tr)(l:List Tr):iU L (a::l)=gR L a+iU L l:=by
 unfold iU gR;rw[fE,List.filter_append,lLa]
def Cc (L:Sq->Nat×Nat):∀l m:List Tr,iU L (l++m)=iU L l+iU L m
 | [],m=>by simp[iU]
 | a::l,m=>by rw[fq,qu,qu,Cc L l m];omega
def sv (L:Sq->Nat×Nat)(r:Nat)(s:Sq)(m:Fm)(u:Tm)(n:ByteArray)(sub:List Tr):gR L (.mk r s m u n sub)=(if lstB L (.mk r s m u n sub)=true then 1 else 0)+iU L sub:=by
 unfold gR iU;rw[pF,kv];split
 ·rw[fa];omega
 ·omega
def lP (L:Sq->Nat×Nat)(t:Tr):Prop:=∀z∈iM t,lstB L z=true->(L z.sq).2=0
def wayF (L:Sq->Nat×Nat)(t:Tr):Option (List Nat):=((t.walk []).find? λq=>lstB L q.2).map (·.1)
def zKx {L:Sq->Nat×Nat}{t:Tr}:wayF L t=none↔gR L t=0:=by
 unfold wayF gR iM;rw[Option.map_eq_none_iff,jY,mn,List.filter_eq_nil_iff];constructor
 ·intro h z D;obtain⟨q,A,rfl⟩:=eh.1 D;exact h q A
 ·intro h q A;exact h q.2 (eh.2 ⟨q,A,rfl⟩)
def iV (L:Sq->Nat×Nat)(t:Tr):List (List Nat)->List Nat×Nat
 | []=>([],271)
 | p::ps=>if (L (atT t p).sq).2≠0 then ([],(L (atT t p).sq).2) else if (L (atT t p).sq).1=0 then (p,0) else iV L t ps
def upG (L:Sq->Nat×Nat)(t:Tr)(p:List Nat):Nat->List Nat×Nat
 | 0=>([],272)
 | n+1=>if (L (atT t (p.take n)).sq).2≠0 then ([],(L (atT t (p.take n)).sq).2) else if 0<(L (atT t (p.take n)).sq).1 then (p.take n,0) else upG L t p n
noncomputable def gP (L:Sq->Nat×Nat)(ca:Nat)(t:Tr):List Nat×Nat :=
 if (hCk ca t).2≠0 then ([],(hCk ca t).2) else if (iV L t (gz t)).2≠0 then ([],(iV L t (gz t)).2) else upG L t (iV L t (gz t)).1 (iV L t (gz t)).1.length
def Cd (L:Sq->Nat×Nat)(t:Tr):∀l:List (List Nat),(∃p∈l,iV L t l=(p,0)/\L (atT t p).sq=(0,0))\/(iV L t l=([],271)/\∀p∈l,(L (atT t p).sq).2=0/\(L (atT t p).sq).1≠0)\/∃p∈l,iV L t l=([],(L (atT t p).sq).2)/\(L (atT t p).sq).2≠0
 | []=>.inr (.inl ⟨rfl,nofun⟩)
 | p::ps=>by
  rw[iV];by_cases h1:(L (atT t p).sq).2≠0
  ·rw[c_ h1];exact .inr (.inr ⟨p,.head _,rfl,h1⟩)
  ·rw[a_ h1];by_cases h2:(L (atT t p).sq).1=0
   ·rw[c_ h2];exact .inl ⟨p,.head _,rfl,Prod.ext h2 (Decidable.of_not_not h1)⟩
   ·rw[a_ h2];rcases Cd L t ps with⟨q,a,b⟩|⟨a,b⟩|⟨q,a,b⟩
    ·exact .inl ⟨q,.tail _ a,b⟩
    ·refine .inr (.inl ⟨a,λq A=>?_⟩);rcases eK.1 A with rfl|A
     ·exact⟨Decidable.of_not_not h1,h2⟩
     ·exact b q A
    ·exact .inr (.inr ⟨q,.tail _ a,b⟩)
def IP (L:Sq->Nat×Nat)(t:Tr)(p:List Nat):∀n,(∃k,k<n/\upG L t p n=(p.take k,0)/\0<(L (atT t (p.take k)).sq).1/\∀j,k<j->j<n->L (atT t (p.take j)).sq=(0,0))\/(upG L t p n=([],272)/\∀j,j<n->L (atT t (p.take j)).sq=(0,0)) \/
  ∃j,j<n/\upG L t p n=([],(L (atT t (p.take j)).sq).2)/\(L (atT t (p.take j)).sq).2≠0
 | 0=>.inr (.inl ⟨rfl,λj h=>by omega⟩)
 | n+1=>by
  rw[upG];by_cases h1:(L (atT t (p.take n)).sq).2≠0
  ·rw[c_ h1];exact .inr (.inr ⟨n,by omega,rfl,h1⟩)
  ·rw[a_ h1];by_cases h2:0<(L (atT t (p.take n)).sq).1
   ·rw[c_ h2];exact .inl ⟨n,by omega,rfl,h2,λj a b=>by omega⟩
   ·rw[a_ h2];have D:L (atT t (p.take n)).sq=(0,0):=Prod.ext (by show _=0;omega) (Decidable.of_not_not h1);rcases IP L t p n with⟨k,a,b,c,d⟩|⟨a,b⟩|⟨j,a,b⟩
    ·refine .inl ⟨k,by omega,b,c,λj e f=>?_⟩;by_cases A:j=n
     ·rw[A];exact D
     ·exact d j e (by omega)
    ·refine .inr (.inl ⟨a,λj e=>?_⟩);by_cases A:j=n
     ·rw[A];exact D
     ·exact b j (by omega)
    ·exact .inr (.inr ⟨j,by omega,b⟩)
def Q4 {L:Sq->Nat×Nat}{t:Tr}(O:∀s,(L s).2≠0->(L s).1=0)(A:lP L t):(wayF L t=none/\iV L t (gz t)=([],271))\/∃p,wayF L t=some p/\iV L t (gz t)=(p,0):=by
 have key:∀w:List (List Nat×Tr),(∀q∈w,atT t q.1=q.2/\(lstB L q.2=true->(L q.2.sq).2=0))->((w.find? λq=>lstB L q.2)=none/\iV L t ((w.filter λq=>jN q.2).map (·.1))=([],271))\/∃q,(w.find? λq=>lstB L q.2)=some q/\iV L t ((w.filter λq=>jN q.2).map (·.1))=(q.1,0):=λw=>by
  induction w with
  | nil=>exact λ_=>.inl ⟨rfl,rfl⟩
  | cons q w D =>
   intro h;have D:=D λa J=>h a (.tail _ J);obtain⟨h1,h2⟩:=h q (.head _);rw[jG,kv];cases A:jN q.2
   ·have hl:lstB L q.2=false:=by unfold lstB;rw[A];rfl
    rw[hl];simpa using D
   ·by_cases h0:(L q.2.sq).1=0
    ·have hl:lstB L q.2=true:=by unfold lstB;rw[A,dEt h0];rfl
     rw[hl];refine .inr ⟨q,rfl,?_⟩;rw[c_ rfl,ff,iV,h1,a_ (by rw[h2 hl];simp),c_ h0]
    ·have hl:lstB L q.2=false:=by unfold lstB;rw[A,dEf h0];rfl
     have G:¬ (L q.2.sq).2≠0:=λh=>h0 (O _ h);rw[hl,c_ rfl,ff,iV,h1,a_ G,a_ h0];exact D
 have:=key (t.walk []) λq E=>⟨(Cb E).2,A q.2 (eh.2 ⟨q,E,rfl⟩)⟩
 unfold wayF gz;rcases this with⟨a,b⟩|⟨q,a,b⟩
 ·exact .inl ⟨by rw[a];rfl,b⟩
 ·exact .inr ⟨q.1,by rw[a];rfl,b⟩
def yc {t:Tr}{p:List Nat}(h:p∈gz t):okP t p/\jN (atT t p)=true/\p.length<=t.steps:=by
 unfold gz at h;obtain⟨q,A,rfl⟩:=eh.1 h;obtain⟨h1,h2⟩:=j3.1 A;obtain⟨E,D⟩:=Cb h1;have:=qd [] t _ h1;have G:=t.height_le_steps;simp only[fb] at this;exact⟨E,by rw[D];exact h2,by omega⟩
def yd {L:Sq->Nat×Nat}{ca:Nat}{t:Tr}(E:(hCk ca t).2=0) :
  (∃p k,gP L ca t=(p.take k,0)/\k<p.length/\okP t p/\jN (atT t p)=true/\iV L t (gz t)=(p,0)/\L (atT t p).sq=(0,0)/\0<(L (atT t (p.take k)).sq).1/\∀j,k<j->j<=p.length->L (atT t (p.take j)).sq=(0,0)) \/
  (gP L ca t=([],271)/\iV L t (gz t)=([],271))\/(gP L ca t=([],272)/\L t.sq=(0,0))\/∃z∈iM t,gP L ca t=([],(L z.sq).2)/\(L z.sq).2≠0:=by
 unfold gP;rw[a_ (by omega)];rcases Cd L t (gz t) with⟨p,h1,h2,A⟩|⟨h1,_⟩|⟨p,h1,h2,A⟩
 ·obtain⟨g1,G,_⟩:=yc h1;rw[h2,a_ (by simp)];rcases IP L t p p.length with⟨k,a,b,c,d⟩|⟨a,b⟩|⟨j,a,b,c⟩
  ·refine .inl ⟨p,k,b,a,g1,G,rfl,A,c,λj e f=>?_⟩;by_cases D:j=p.length
   ·rw[D,lTl];exact A
   ·exact d j e (by omega)
  ·refine .inr (.inr (.inl ⟨a,?_⟩));rcases mw p.length with h|h
   ·obtain rfl:=fw h;have A:L (atT t []).sq=(0,0):=A
    rwa [show atT t []=t by cases t;rfl] at A
   ·have:=b 0 h;rw[List.take_zero] at this
    rwa [show atT t []=t by cases t;rfl] at this
  ·refine .inr (.inr (.inr ⟨_,qt (p:=p.take j) (pE (l:=p.drop j) (by rw[fh];exact g1)),b,c⟩))
 ·rw[h1,c_ (by simp)];exact .inr (.inl ⟨rfl,rfl⟩)
 ·rw[h2,c_ A];exact .inr (.inr (.inr ⟨_,qt (yc h1).1,rfl,A⟩))
end Go.Proofs.Tryz
namespace Go.Proofs.Tryz
open Go Go.Iv
set_option maxRecDepth 4000
variable (gl:Nat->Option IV)
def uZ (t:Tr):Tr:=goalT t.sq
def folF (m:Nat×Fm×List Sn)(t:Tr):Tr:=.mk m.1 t.sq m.2.1 tmZ noN (m.2.2.map λp=>goalT ⟨p.1,p.2⟩)
def Q5 (t:Tr)(x:IV)(hx:IsTr t x)(st:ISt):ICall prog gl 37 [x] st (λr st'=>IsTr (uZ t) r/\st'=st):=by
 obtain⟨A,aj,f',u',n',D⟩:=t;obtain⟨ag,O,af,J,ak,am,ai,aa,ah,U,v',ab,ac,E,ae,G,rfl,_,e1,i1,e2,i2,_⟩:=hx.mk;refine iI func37 ?_;simp only[go_sem,zE,zA,zL,fits];exact dw ⟨⟨_,_,_,_,_,_,_,_,_,_,_,_,_,_,_,_,rfl,by decide,e1,i1,e2,i2,rD,qq,.inl rfl,rfl⟩,rfl⟩
def Q6 {s:Sq}{x:IV}(h:IsSq s x):IsSq s (age x):=by
 obtain⟨t,G,A,ys,rfl,E,i1,D,i2⟩:=h;exact⟨⟨false,t.cap,t.es⟩,_,⟨false,A.cap,A.es⟩,_,by simp only[age,ages],E,i1.aged,D,i2.aged⟩
def Q7 {l:List IV}{i:Nat}{x:IV}(h:l[i]?=some x):(ages l)[i]?=some (age x):=by
 induction l generalizing i with
 | nil=>simp at h
 | cons a l A =>
  cases i with
  | zero=>cases h;simp[ages]
  | succ i=>simp only[ages,i_] at h ⊢;exact A h
def Ce:∀l:List IV,(ages l).length=l.length
 | []=>by simp[ages]
 | _::l=>by simp[ages,Ce l]
def Q8 {m:Nat×Fm×List Sn}{x:IV}(h:jh m x):jh m (age x):=by
 obtain⟨o,n,t1,U,t2,O,t3,E,rfl,G,J,D⟩:=h;have A:=G.aged;simp only[age,ages] at A;refine⟨_,_,_,_,_,_,⟨false,t3.cap,t3.es⟩,ages E,by simp only[age,ages],A,J,by rw[Ce];exact D.1,λi p hp=>?_⟩;obtain⟨y,h1,h2⟩:=D.2 i p hp;exact⟨_,Q7 h1,Q6 h2⟩
def Q9 (m:Nat×Fm×List Sn)(z:List IV)(hm:jh m (.agg z))(hr:m.1<256)(hl:m.2.2.length<=1000000)(t:Tr)(x:IV)(hx:IsTr t x)(st:ISt):ICall prog gl 45 [x,.cptr (.agg z)] st (λr st'=>IsTr (folF m t) r/\st'=st):=by
 obtain⟨ae,aE,f',u',n',ai⟩:=t;obtain⟨ab,U,aa,O,aF,aM,aB,an,aA,am,v',ax,ay,ak,az,al,rfl,_,e1,i1,e2,i2,_⟩:=hx.mk;obtain⟨o,n,t1,x1,t2,x2,t3,x3,hz,hf,e3,h3⟩:=hm;injection hz with hz;subst hz;have ah:=h3.1;refine iI func45 ?_;simp only[go_sem,zE,zB,zA,zL,fits,ah];intro _;refine dC m.2.2.length (λk fr st' ds=>(∃t y,fr 4=.box [.raw (.int .u8 (m.1:Int)),.sl ab U,.sl aa O,.raw (.int .u8 o),n,.sl t1 x1,.sl t2 x2,false,.raw (.string ⟨#[]⟩),(),.raw (.string ⟨#[]⟩),.sl t y]/\own st' t k 12 st/\subSt st st'/\IsTrs ((m.2.2.take k).map λp=>goalT ⟨p.1,p.2⟩) y/\y.length=k) /\
  fr 3=.box z12/\fr 15=.iv (.sl t3 x3)/\fr 16=(m.2.2.length:Int)/\fr 17=(k:Int)/\ds=[]) ?_ ?_ ?_
 ·simp only[go_sem,zE,z12];exact⟨⟨_,[],rfl,own.nil ..,subSt.refl _,rfl,rfl⟩,rfl⟩
 ·rintro k fr ac _ G ⟨⟨t,y,f4,D,A,J,E⟩,f3,f15,f16,f17,rfl⟩;obtain⟨p,hp⟩:=ed G;obtain⟨q,hq,ag⟩:=h3.2 k p hp;obtain⟨t5,x5,t6,x6,rfl,e5,i5,e6,i6⟩:=ag;simp only[go_sem,zE,zB,zA,zM,zL,f4,f15,f16,f17,fits,lt_i G,ec e3,iNn,hq,fg];refine je D E A rfl (by simp[fits,IV.one]) (by simp only;omega) (by omega) λt' aD w1 w2 w3=>?_;simp only[go_sem,zE,zA,zL,f3,f4,f15,f16,f17,ek G (by omega)];refine⟨t',_,rfl,w1,w2,?_,by rw[lLa,E];rfl⟩;rw[en hp,fS,List.map_singleton];exact J.append ⟨_,[],rfl,⟨_,_,_,_,_,_,_,_,_,_,_,_,_,_,_,_,rfl,by decide,e5,i5,e6,i6,rD,qq,.inl rfl,rfl⟩,rfl⟩
 ·rintro fr ac _ ⟨⟨t,y,f4,D,A,J,E⟩,f3,f15,f16,f17,rfl⟩;rw[lTl] at J;simp only[go_sem,zE,zA,zL,f3,f4,f16,f17,z12,eI (nLi _)];exact fN A ⟨⟨_,_,_,_,_,_,_,_,_,_,_,_,_,_,_,_,rfl,hr,e1,i1,e2,i2,hf,qq,D.es,J⟩,rfl⟩
def LsOk (L:Sq->Nat×Nat)(ca:Nat)(t:Tr):Prop:=∀z∈iM t,∀y st,IsSq z.sq y->ICall prog gl 12 [.raw (.int .u8 (ca:Int)),y] st (λr st'=>r=.tup [((L z.sq).1:Int),((L z.sq).2:Int)]/\st'=st)
def IQ {L:Sq->Nat×Nat}{ca:Nat}{t:Tr}(E:LsOk gl L ca t){p:List Nat}(hp:okP t p){rule:Nat}{sq:Sq}{f:Fm}{u:Tm}{n:ByteArray}{sub:List Tr}(D:atT t p=.mk rule sq f u n sub){y:IV}(A:IsSq sq y)(st:ISt) :
  ICall prog gl 12 [.raw (.int .u8 (ca:Int)),y] st (λr st'=>r=.tup [((L (atT t p).sq).1:Int),((L (atT t p).sq).2:Int)]/\st'=st) :=
 E _ (qt hp) y st (by rw[D];exact A)
def Q_ (ag:∀g x,gl g=some x->age x=x)(L:Sq->Nat×Nat)(ca:Nat)(t:Tr)(x:IV)(hx:IsTr t x)(hs:t.steps<=1000000)(hL:LsOk gl L ca t)(st:ISt) :
  ICall prog gl 34 [.raw (.int .u8 (ca:Int)),x] st (λr st'=>(∃G,okEs G 1/\r=.tup [.sl G (plI (iV L t (gz t)).1),((iV L t (gz t)).2:Int)])/\st'=st):=by
 have hG:=λst=>B5 gl ag t x hx hs st;have hA:=λp hp G E hl st=>at_c gl t x hx p hp G E hl st;obtain⟨rule,tl,xl,tr,xr,op,fn,ta,xa,tb,xb,v,un,tu,xu,n,ts,xs,rfl⟩:=fY hx;refine iI func34 ?_;simp only[go_sem,zE,zA,zL];refine (hG _).mono ?_;rintro _ st ⟨⟨G,ys,rfl,E,hys⟩,rfl⟩;have ac:=hys.1;simp only[go_sem,ac];intro _;refine dC (gz t).length (λk fr st' ds=>iV L t (gz t)=iV L t ((gz t).drop k)/\st'=st/\fr 0=.iv (.raw (.int .u8 (ca:Int)))/\fr 3=.box [.raw (.int .u8 rule),.sl tl xl,.sl tr xr,.raw (.int .u8 op),fn,.sl ta xa,.sl tb xb,v,un,.sl tu xu,n,.sl ts xs]/\fr 11=.iv (.sl G ys)/\fr 12=((gz t).length:Int)/\fr 13=(k:Int)/\ds=[]) ?_ ?_ ?_
 ·simp only[go_sem,zE,reduceCtorEq];exact rfl
 ·rintro k fr A _ D ⟨hd,rfl,f0,f3,f11,f12,f13,rfl⟩;obtain⟨p,hp⟩:=ed D;obtain⟨y,hy,t',rfl,J⟩:=hys.2 k p hp;obtain⟨O,_,af⟩:=yc (lMg hp);have ha:=hA p O t' J (eM af hs) A;rw[gB D,(lGs hp).2,iV] at hd;simp only[go_sem,zE,zA,zL,reduceCtorEq,f0,f3,f11,f12,f13,fits,lt_i D,ec E,iNn,hy];refine ha.mono ?_;rintro r A ⟨hr,rfl⟩;obtain⟨U,aN,f',u',n',al,hz⟩:∃a b c d e f,atT t p=.mk a b c d e f:=by cases atT t p;exact⟨_,_,_,_,_,_,rfl⟩
  rw[hz] at hr;obtain⟨aJ,ay,aI,aw,aO,aV,aM,aB,aK,az,v',aD,aF,ao,aH,au,rfl,_,aj,ab,ai,aa,_⟩:=hr.mk;have ah:=λst=>IQ gl hL O hz ⟨_,_,_,_,rfl,aj,ab,ai,aa⟩ st;simp only[go_sem,zE,zA,zL];refine (ah _).q ?_;by_cases h1:(L (atT t p).sq).2=0
  ·have d1:decide (((L (atT t p).sq).2:Int)=0)=true:=dEt (by omega);rw[a_ (λh=>h h1)] at hd;by_cases h2:(L (atT t p).sq).1=0
   ·have d2:decide (((L (atT t p).sq).1:Int)=0)=true:=dEt (by omega);rw[c_ h2] at hd;simp only[go_sem,zE,d1,d2];exact dw ⟨⟨t',J,by rw[hd];rfl⟩,rfl⟩
   ·have d2:decide (((L (atT t p).sq).1:Int)=0)=false:=dEf (by omega);rw[a_ h2] at hd;simp only[go_sem,zE,reduceCtorEq,f0,f3,f11,f12,f13,d1,d2,ek D (by omega)];exact hd
  ·have d1:decide (((L (atT t p).sq).2:Int)=0)=false:=dEf (by omega);rw[c_ h1] at hd;simp only[go_sem,zE,d1];exact dw ⟨⟨⟨true,.nil,0⟩,.inl rfl,by rw[hd];rfl⟩,rfl⟩
 ·rintro fr A _ ⟨hd,rfl,f0,f3,f11,f12,f13,rfl⟩;rw[List.drop_length,iV] at hd;simp only[go_sem,zE,f12,f13,eI (nLi _)];exact dw ⟨⟨⟨true,.nil,0⟩,.inl rfl,by rw[hd];rfl⟩,rfl⟩
def Cg (G:Gl gl)(T:Gt gl)(aB:∀g x,gl g=some x->age x=x)(L:Sq->Nat×Nat)(ca:Nat)(t:Tr)(x:IV)(hx:IsTr t x)(ac:pv t)(hs:t.steps<=1000000)(hL:LsOk gl L ca t)(st:ISt) :
  ICall prog gl 10 [.raw (.int .u8 (ca:Int)),x] st (λr st'=>(∃E,okEs E 1/\r=.tup [.sl E (plI (gP L ca t).1),((gP L ca t).2:Int)])/\st'=st):=by
 have hC:=λst=>Ca gl G T ca t x hx ac hs st;have hA:=λp hp E A hl st=>at_c gl t x hx p hp E A hl st;have aA:=λst=>Q_ gl aB L ca t x hx hs hL st;obtain⟨U,aq,ai,ao,ah,ax,aD,av,ak,au,aj,v',al,am,af,n',an,ag,rfl⟩:=fY hx;refine iI func10 ?_;simp only[go_sem,zE,zA,zL,reduceCtorEq];refine (hC _).mono ?_;rintro _ st ⟨⟨aY,rfl,_⟩,rfl⟩;unfold gP;by_cases h0:(hCk ca t).2=0
 case neg =>
  have d0:decide (((hCk ca t).2:Int)=0)=false:=dEf (by omega);rw[c_ h0];simp only[go_sem,zE,d0];exact dw ⟨⟨⟨true,.nil,0⟩,.inl rfl,rfl⟩,rfl⟩
 have d0:decide (((hCk ca t).2:Int)=0)=true:=dEt (by omega);rw[a_ (λh=>h h0)];simp only[go_sem,zE,zA,zL,reduceCtorEq,d0];refine (aA _).mono ?_;rintro _ st ⟨⟨E,A,rfl⟩,rfl⟩;rcases Cd L t (gz t) with⟨p,h1,h2,h3⟩|⟨h1,_⟩|⟨p,h1,h2,h3⟩
 case inr.inl =>
  rw[h1,c_ (by decide)];simp only[go_sem,zE,show decide (((271:Nat):Int)=0)=false from rfl];exact dw ⟨⟨⟨true,.nil,0⟩,.inl rfl,rfl⟩,rfl⟩
 case inr.inr =>
  have d1:decide (((L (atT t p).sq).2:Int)=0)=false:=dEf (by omega);rw[h2,c_ h3];simp only[go_sem,zE,d1];exact dw ⟨⟨⟨true,.nil,0⟩,.inl rfl,rfl⟩,rfl⟩
 obtain⟨az,_,ba⟩:=yc h1;rw[h2,a_ (by simp)];simp only[go_sem,zE,show decide (((0:Nat):Int)=0)=true from rfl];refine dC p.length (λk fr st' ds=>(∃E,okEs E 1/\fr 8=.iv (.sl E (plI (p.take (p.length-k)))))/\upG L t p p.length=upG L t p (p.length-k)/\st'=st/\fr 0=.iv (.raw (.int .u8 (ca:Int)))/\fr 3=.box [.raw (.int .u8 U),.sl aq ai,.sl ao ah,.raw (.int .u8 ax),aD,.sl av ak,.sl au aj,v',al,.sl am af,n',.sl an ag]/\ds=[]) ?_ ?_ ?_
 ·simp only[go_sem,zE,reduceCtorEq];exact⟨E,A,by rw[lTl]⟩
 ·rintro k fr J _ bc ⟨⟨E,A,f8⟩,D,rfl,f0,f3,rfl⟩;obtain⟨m,hm⟩:∃m,p.length-k=m+1:=⟨p.length-k-1,by omega⟩
  rw[hm] at f8 D;have hl:(plI (p.take (m+1))).length=m+1:=by rw[iX,eO];omega
  have hw:IntKind.i64.wrap (((m+1:Nat):Int)-1)=(m:Int):=by rw[show ((m+1:Nat):Int)-1=(m:Int) by omega];exact w64 (by omega) (by omega)
  have ay:ic none (some (m:Int)) (m+1)=some (0,m):=by
   simp only[ic,gh,fz];rw[c_ ⟨by omega,by omega,by omega⟩];simp
  have ab:List.take (m-0) (List.drop 0 (plI (p.take (m+1))))=plI (p.take m):=by
   rw[List.drop_zero,iG];unfold plI;rw[<- List.map_take,List.take_take,ly (by omega)]
  rw[upG] at D;have O:okP t (p.take m):=pE (l:=p.drop m) (by rw[fh];exact az);have aa:=B_ A (m+1) m 0;have ha:=hA (p.take m) O _ aa (by rw[eO];omega) J;rw[iG,List.drop_zero] at ab;simp only[go_sem,zE,zA,zL,reduceCtorEq,f0,f3,f8,hl,hw,ay,ab,show decide ((0:Int)<((m+1:Nat):Int))=true from dEt (by omega),ec A];intro _ _;refine ha.mono ?_;rintro r J ⟨hr,rfl⟩;obtain⟨aw,sq2,bg,u2,n2,aE,hz⟩:∃a b c d e f,atT t (p.take m)=.mk a b c d e f:=by cases atT t (p.take m);exact⟨_,_,_,_,_,_,rfl⟩
  rw[hz] at hr;obtain⟨aX,aO,tr2,aN,a6,bf,a1,aS,aZ,aQ,v2,aU,aV,aL,aW,aM,rfl,_,e1,i1,e2,i2,_⟩:=hr.mk;have aC:=λst=>IQ gl hL O hz ⟨_,_,_,_,rfl,e1,i1,e2,i2⟩ st;simp only[go_sem,zE,zA,zL];refine (aC _).q ?_;by_cases h4:(L (atT t (p.take m)).sq).2=0
  ·have d1:decide (((L (atT t (p.take m)).sq).2:Int)=0)=true:=dEt (by omega);rw[a_ (λh=>h h4)] at D;by_cases h5:0<(L (atT t (p.take m)).sq).1
   ·have d2:decide ((0:Int)<((L (atT t (p.take m)).sq).1:Int))=true:=dEt (by omega);rw[c_ h5] at D;simp only[go_sem,zE,d1,d2];exact dw ⟨⟨_,aa,by rw[D];rfl⟩,rfl⟩
   ·have d2:decide ((0:Int)<((L (atT t (p.take m)).sq).1:Int))=false:=dEf (by omega);rw[a_ h5] at D;simp only[go_sem,zE,reduceCtorEq,f0,f3,d1,d2];rw[show p.length-(k+1)=m by omega];exact⟨⟨_,aa,rfl⟩,D⟩
  ·have d1:decide (((L (atT t (p.take m)).sq).2:Int)=0)=false:=dEf (by omega);rw[c_ h4] at D;simp only[go_sem,zE,d1];exact dw ⟨⟨⟨true,.nil,0⟩,.inl rfl,by rw[D];rfl⟩,rfl⟩
 ·rintro fr J _ ⟨⟨E,A,f8⟩,D,rfl,f0,f3,rfl⟩;rw[gg] at f8 D;rw[List.take_zero] at f8;rw[upG] at D;have hl:(plI []).length=0:=rfl;simp only[go_sem,zE,zL,f8,hl,show decide ((0:Int)<((0:Nat):Int))=false from rfl];exact dw ⟨⟨⟨true,.nil,0⟩,.inl rfl,by rw[D];rfl⟩,rfl⟩
def IS (ca:Nat)(t D:Tr)(x:IV)(J:IsTr t x)(pl:List Nat)(ab:pl.length<=1000000)(e:Nat)(hB:∀st,ICall prog gl 10 [.raw (.int .u8 (ca:Int)),x] st (λr st'=>((e≠0/\∃A xs,okEs A 1/\r=.tup [.sl A xs,(e:Int)])\/(e=0/\∃A,okEs A 1/\r=.tup [.sl A (plI pl),(0:Int)]))/\st'=st))
  (n:Nat) (hv:e=0->visF uZ n t true pl=some D) (st:ISt) :
  ICall prog gl 11 [.raw (.int .u8 (ca:Int)),x] st (λr st'=>((e≠0/\r=.tup [.agg z12,(e:Int)])\/(e=0/\∃z,IsTr D z/\r=.tup [z,(0:Int)]))/\st'=st):=by
 have aa:=λG A E st=>IF gl uZ (.func 37) [] [] (λi h=>by cases h;simp only[go_sem]) (λ_=>True) (λ_ _ _ _=>trivial) (λt x st _ J=>.of_ICall (by simp only[go_sem]) (Q5 gl t x J st)) n t x J pl A E ab D (hv G) st trivial;obtain⟨rule,tl,xl,tr,xr,op,fn,ta,xa,tb,xb,v,un,tu,xu,n',ts,xs,rfl⟩:=fY J;refine iI func11 ?_;simp only[go_sem,zE,zA,zL,reduceCtorEq];refine (hB _).mono ?_;rintro _ st ⟨⟨G,A,zs,_,rfl⟩|⟨G,A,E,rfl⟩,rfl⟩
 ·have d0:decide ((e:Int)=0)=false:=dEf (by omega);simp only[go_sem,zE,zA,zL,d0];exact dw ⟨.inl ⟨G,rfl⟩,rfl⟩
 ·simp only[go_sem,zE,zA,zL,d_];refine (aa G A E _).mono ?_;rintro z st ⟨hz,rfl⟩;have U:=hz;obtain⟨O,aq,ai,ao,ah,aw,az,av,ak,au,aj,v',al,am,af,n',an,ag,rfl⟩:=fY hz;simp only[go_sem,zE,zA,zL];exact dw ⟨.inr ⟨G,_,U,rfl⟩,rfl⟩
def IT (ca:Nat)(t D:Tr)(x:IV)(U:IsTr t x)(hs:t.steps<=1000000)(h:Nat)(m:Nat×Fm×List Sn)(hr:m.1<256)(hF:∀st,ICall prog gl 42 [.raw (.int .u8 (ca:Int)),x] st (λr st'=>uY ca t h m r/\st'=st))
  (n:Nat) (hv:∀p ps,0<h->gz t=p::ps->t.steps+m.2.2.length<=300/\visF (folF m) n t true p=some D) (st:ISt) :
  ICall prog gl 26 [.raw (.int .u8 (ca:Int)),x] st (λr st'=>(((hCk ca t).2≠0/\r=.tup [.agg z12,((hCk ca t).2:Int)])\/((hCk ca t).2=0/\gz t=[]/\r=.tup [.agg z12,(271:Int)])\/((hCk ca t).2=0/\h=0)\/((hCk ca t).2=0/\gz t≠[]/\∃z,IsTr D z/\r=.tup [z,(0:Int)]))/\st'=st):=by
 have hN:=λst=>Iu gl t x U (by omega) st;have ae:=λp ps G A z hm tg E st=>IF gl (folF m) (.func 45) [] [.cptr (.agg z)] (λi h=>by cases h;simp only[go_sem]) (λ_=>True) (λ_ _ _ _=>trivial) (λt x st _ U=>.of_ICall (by simp only[go_sem]) (Q9 gl m z hm hr (by have:=(hv p ps G A).1;omega) t x U st)) n t x U p tg E (eM (IK A).2 hs) D (hv p ps G A).2 st trivial;obtain⟨rule,tl,xl,tr,xr,op,fn,ta,xa,tb,xb,v,un,tu,xu,n',ts,xs,rfl⟩:=fY U;refine k9 (t:=8) (n:=2) (c:=cf prog gl [8] [(4,[0,2,3,4,1,5,6])]) func26 rfl (by show _<=34;simp) (by show _<34;simp) (by kernel_rfl) ?_;simp only[go_sem,zE,zA,zL,reduceCtorEq];refine (hF _).mono ?_;rintro r st ⟨⟨h0,rfl⟩|⟨h0,A,rfl⟩|⟨h0,p,ps,tg,A,E,⟨G,rfl⟩|⟨G,z,hz,rfl⟩⟩,rfl⟩
 ·have d0:decide (((hCk ca t).2:Int)=0)=false:=dEf (by omega);simp only[go_sem,zE,zA,zL];refine λb=>fc λJ=>?_;refine⟨b,mvZ,by simp only[go_sem,zE],b_ ..,?_⟩;rw[pD J];simp only[go_sem,zE,zA,zL,d0];exact dw ⟨.inl ⟨h0,rfl⟩,rfl⟩
 ·simp only[go_sem,zE,zA,zL];refine λb=>fc λJ=>?_;refine⟨b,mvZ,by simp only[go_sem,zE],b_ ..,?_⟩;rw[pD J];simp only[go_sem,zE,zA,zL,show decide ((271:Int)=0)=false from rfl];exact dw ⟨.inr (.inl ⟨h0,A,rfl⟩),rfl⟩
 ·simp only[go_sem,zE,zA,zL];refine λb=>fc λJ=>?_;refine⟨b,mvZ,by simp only[go_sem,zE],b_ ..,?_⟩;rw[pD J];simp only[go_sem,zE,zA,zL,show decide ((272:Int)=0)=false from rfl];exact dw ⟨.inr (.inr (.inl ⟨h0,G⟩)),rfl⟩
 ·have O:=Q8 hz;obtain⟨hst,_⟩:=hv p ps G A;obtain⟨o,nm,q1,z1,q2,z2,q3,z3,rfl,_,_,h3⟩:=hz;have af:=h3.1;simp only[go_sem,zE,zA,zL];refine λb=>fc λJ=>?_;refine⟨b,.agg [.raw (.int .u8 (m.1:Int)),.raw (.int .u8 o),nm,.sl q1 z1,.sl q2 z2,.sl q3 z3],by simp only[go_sem,zE],b_ ..,?_⟩;rw[pD J];simp only[age,ages] at O ⊢;have ag:(ages z3).length=m.2.2.length:=by rw[Ce];exact af
  have dn:decide ((300:Int)<IntKind.i64.wrap ((t.steps:Int)+(m.2.2.length:Int)))=false:=dEf (by rw[w64 (by omega) (by omega)];omega);simp only[go_sem,zE,zA,zL,fits,d_,ag];refine (hN _).q ?_;simp only[go_sem,zE,zA,zL,dn];refine (ae p ps G A _ O tg E _).mono ?_;rintro y st ⟨hy,rfl⟩;have ac:=hy;obtain⟨ab,ay,an,ax,am,aE,aK,aA,aq,az,ao,v',au,av,ak,n',aw,al,rfl⟩:=fY hy;simp only[go_sem,zE,zA,zL];exact dw ⟨.inr (.inr (.inr ⟨h0,by rw[A];simp,_,ac,rfl⟩)),rfl⟩
abbrev advZ:List IV:=[nlS,.raw (.int .i64 0),.raw (.bool false),.raw (.int .u8 0),.raw (.string ⟨#[]⟩),nlS,nlS,.raw (.int .u8 0),nlS]
def onR (r:Nat):Bool:=decide (r=4\/r=6\/r=8\/r=18\/r=10\/r=12)
def Ra (r:Nat)(st:ISt):ICall prog gl 75 [.raw (.int .u8 (r:Int))] st (λx st'=>x=(onR r:Bool)/\st'=st):=by
 refine iI func75 ?_;by_cases J:r=4
 ·simp only[go_sem,reduceCtorEq,show decide ((r:Int)=4)=true from dEt (by omega)];exact dw ⟨by simp[onR,J],rfl⟩
 have d4:decide ((r:Int)=4)=false:=dEf (by omega);by_cases G:r=6
 ·simp only[go_sem,zE,reduceCtorEq,d4,show decide ((r:Int)=6)=true from dEt (by omega)];exact dw ⟨by simp[onR,G],rfl⟩
 have d6:decide ((r:Int)=6)=false:=dEf (by omega);by_cases E:r=8
 ·simp only[go_sem,zE,reduceCtorEq,d4,d6,show decide ((r:Int)=8)=true from dEt (by omega)];exact dw ⟨by simp[onR,E],rfl⟩
 have d8:decide ((r:Int)=8)=false:=dEf (by omega);by_cases g18:r=18
 ·simp only[go_sem,zE,reduceCtorEq,d4,d6,d8,show decide ((r:Int)=18)=true from dEt (by omega)];exact dw ⟨by simp[onR,g18],rfl⟩
 have d18:decide ((r:Int)=18)=false:=dEf (by omega);by_cases D:r=10
 ·simp only[go_sem,zE,reduceCtorEq,d4,d6,d8,d18,show decide ((r:Int)=10)=true from dEt (by omega)];exact dw ⟨by simp[onR,D],rfl⟩
 have d10:decide ((r:Int)=10)=false:=dEf (by omega);by_cases A:r=12
 ·simp only[go_sem,zE,reduceCtorEq,d4,d6,d8,d18,d10,show decide ((r:Int)=12)=true from dEt (by omega)];exact dw ⟨by simp[onR,A],rfl⟩
 have d12:decide ((r:Int)=12)=false:=dEf (by omega);simp only[go_sem,zE,reduceCtorEq,d4,d6,d8,d18,d10,d12];exact dw ⟨by simp[onR,J,G,E,g18,D,A],rfl⟩
def D1J (D:Tag)(pl:List IV)(h:Int)(b:Nat)(c0 c1:IV)(z:List IV)(S:ISt)(A:Array Bool):Kt:=λad fr st ds=>(∀s,ad s=none)/\ds=[]/\fr 0=(pt b)/\fr 1=.iv (.cptr (.sl D pl))/\fr 2=.iv (.cptr h) /\
 (A.getD 0 false=true->fr 4=(pt b))/\(A.getD 1 false=true->fr 5=(pt b))/\(A.getD 2 false=true->fr 6=.iv (.sl D pl))/\(A.getD 3 false=true->fr 7=h)/\(A.getD 4 false=true->fr 8=(pt b))/\(A.getD 5 false=true->fr 9=(pt b)) /\
 (A.getD 7 false=true->fr 10=(pt b))/\(A.getD 8 false=true->fr 11=.iv (.raw (.pointer (some ⟨b,1,none⟩))))/\st=S.put b (some (.box ((if A.getD 6 false=true then .sl D pl else c0)::(if A.getD 9 false=true then h else c1)::z)))
section
variable (c0 c1 c2 c3 c4 c5 c6 c7 c8:IV)(b:Nat)(st:ISt)(hst:st b=some (.box [c0,c1,c2,c3,c4,c5,c6,c7,c8]))
include hst
def Rb (tg:Tag)(pl:List IV)(h:Int):ICall prog gl 73 [pt b,.cptr (.sl tg pl),.cptr h] st (λ_ st'=>st'=st.put b (some (.box [.sl tg pl,h,c2,c3,c4,c5,c6,c7,c8]))):=by
 refine ICall.intro (c:=cf prog gl [2] [(0,[])]) func73 rfl (by show _<=12;simp) (by kernel_rfl) ?_;have hS:st=st.put b (some (.box (c0::c1::[c2,c3,c4,c5,c6,c7,c8]))):=by
  funext c;by_cases hc:c=b
  ·rw[hc,b_];exact hst
  ·rw[dZ hc]
 simp only[go_sem];refine vI (D1J tg pl h b c0 c1 [c2,c3,c4,c5,c6,c7,c8] st) ?_ ?_ _ _ _ _ _ _ rfl ?_
 ·intro E ad fr ag ds ae hJ i hi;replace ae:E.size=10:=ae;obtain⟨ay,o,ho,D⟩:=ix.1 hi;have aw:i<10:=(jw.1 ho).1;have e':∀j,(E.setIfInBounds i true).getD j false=if i=j then true else E.getD j false:=λj=>B1 (by omega)
  obtain⟨A,rfl,f0,f1,f2,g0,g1,g2,g3,U,O,J,G,rfl⟩:=hJ;rcases (show i=0\/i=1\/i=2\/i=3\/i=4\/i=5\/i=6\/i=7\/i=8\/i=9 by omega) with rfl|rfl|rfl|rfl|rfl|rfl|rfl|rfl|rfl|rfl
  all_goals obtain rfl:_=o:=fA ho
  ·simp only[go_sem,gX,f0,pt];simp only[D1J,e',iteT,iteF,reduceCtorEq,e_];exact⟨lO A _,trivial,f0,f1,f2,rfl,g1,g2,g3,U,O,J,G,trivial⟩
  ·simp only[go_sem,gX,f0,pt];simp only[D1J,e',zE,iteT,iteF,reduceCtorEq,e_];exact⟨lO A _,trivial,f0,f1,f2,g0,rfl,g2,g3,U,O,J,G,trivial⟩
  ·simp only[go_sem,gX,A,f1,fits];simp only[D1J,e',zE,iteT,iteF,reduceCtorEq,e_];exact⟨lO A _,trivial,f0,f1,f2,g0,g1,rfl,g3,U,O,J,G,trivial⟩
  ·simp only[go_sem,gX,A,f2,fits];simp only[D1J,e',zE,iteT,iteF,reduceCtorEq,e_];exact⟨lO A _,trivial,f0,f1,f2,g0,g1,g2,rfl,U,O,J,G,trivial⟩
  ·have q0:=g0 (D ⟨0,.data⟩ (by simp) rfl);simp only[go_sem,gX,A,q0,pt];simp only[D1J,e',zE,iteT,iteF,reduceCtorEq,e_];exact⟨lO A _,trivial,f0,f1,f2,g0,g1,g2,g3,rfl,O,J,G,trivial⟩
  ·have q4:=U (D ⟨4,.data⟩ (by simp) rfl);simp only[go_sem,gX,A,q4,pt];simp only[D1J,e',zE,iteT,iteF,reduceCtorEq,e_];exact⟨lO A _,trivial,f0,f1,f2,g0,g1,g2,g3,U,rfl,J,G,trivial⟩
  ·have q5:=O (D ⟨5,.data⟩ (by simp) rfl);have q2:=g2 (D ⟨2,.data⟩ (by simp) rfl);simp only[go_sem,zA,zL,gX,A,q5,q2,pt,b_,fW];simp only[D1J,e',zE,iteT,iteF,reduceCtorEq];exact⟨A,trivial,f0,f1,f2,g0,g1,g2,g3,U,O,J,G,trivial⟩
  ·have q1:=g1 (D ⟨1,.data⟩ (by simp) rfl);simp only[go_sem,gX,A,q1,pt];simp only[D1J,e',zE,iteT,iteF,reduceCtorEq,e_];exact⟨lO A _,trivial,f0,f1,f2,g0,g1,g2,g3,U,O,rfl,G,trivial⟩
  ·have q7:=J (D ⟨7,.data⟩ (by simp) rfl);simp only[go_sem,gX,A,q7,pt];simp only[D1J,e',zE,iteT,iteF,reduceCtorEq,e_];exact⟨lO A _,trivial,f0,f1,f2,g0,g1,g2,g3,U,O,J,rfl,trivial⟩
  ·have q8:=G (D ⟨8,.data⟩ (by simp) rfl);have q3:=g3 (D ⟨3,.data⟩ (by simp) rfl);simp only[go_sem,zA,zL,gX,A,q8,q3,b_,fW];simp only[D1J,e',zE,iteT,iteF,reduceCtorEq];exact⟨A,trivial,f0,f1,f2,g0,g1,g2,g3,U,O,J,G,trivial⟩
 ·intro E ad fr ag ds ae hr hJ;have hl:=B2 (by decide) ae hr;obtain⟨_,rfl,_,_,_,_,_,_,_,_,_,_,_,rfl⟩:=hJ;rw[hl 6 (by decide),hl 9 (by decide)];simp only[go_sem];exact dw rfl
 ·exact⟨λ_=>rfl,rfl,rfl,rfl,rfl,nofun,nofun,nofun,nofun,nofun,nofun,nofun,nofun,hS⟩
def Rc (r:Nat)(o:Int)(n:ByteArray)(t1:Tag)(D:List IV)(t2:Tag)(A:List IV)(t3:Tag)(E:List IV):ICall prog gl 74 [pt b,.cptr (.agg [.raw (.int .u8 (r:Int)),.raw (.int .u8 o),n,.sl t1 D,.sl t2 A,.sl t3 E])] st (λ_ st'=>st'=st.put b (some (.box [c0,c1,(onR r:Bool),.raw (.int .u8 o),n,.sl t1 D,.sl t2 A,c7,c8]))):=by
 have G:=λst=>Ra gl r st;refine iI func74 ?_;simp only[go_sem,zE,zB,zA,zL,reduceCtorEq,fits,pt];refine (G _).q ?_;simp only[go_sem,zE,zA,zL,hst,b_,fW];exact dw rfl
def Re (r:Nat)(o n a A ps:IV):ICall prog gl 76 [pt b,.cptr (.agg [.raw (.int .u8 (r:Int)),o,n,a,A,ps])] st (λ_ st'=>st'=st.put b (some (.box [c0,c1,c2,c3,c4,c5,c6,.raw (.int .u8 (r:Int)),c8]))):=by
 refine iI func76 ?_;simp only[go_sem,zE,zA,zL,fits,pt,hst];exact dw rfl
def Rf (r o n a D:IV)(t3:Tag)(A:List IV):ICall prog gl 77 [pt b,.cptr (.agg [r,o,n,a,D,.sl t3 A])] st (λ_ st'=>st'=st.put b (some (.box [c0,c1,c2,c3,c4,c5,c6,c7,.sl t3 A]))):=by
 refine iI func77 ?_;simp only[go_sem,zE,zA,zL,fits,pt,hst];exact dw rfl
end
def degI (pl h m:IV):IV:=.agg [.fn (.func 73) [] [.cptr pl,.cptr h],.fn (.func 74) [] [.cptr m],.fn (.func 76) [] [.cptr m],.fn (.func 77) [] [.cptr m]]
def Rg (A:Tag)(pl:List IV)(h:Int)(m:Nat×Fm×List Sn)(z:IV)(D:jh m z)(st:ISt):ICall prog gl 43 [.sl A pl,h,z] st (λr st'=>r=degI (.sl A pl) h z/\st'=st):=by
 obtain⟨o,n,t1,x1,t2,x2,t3,U,rfl,_⟩:=D;refine ICall.intro (c:=cf prog gl [] [] [3,4,5]) func43 rfl (by show _<=12;simp) (by kernel_rfl) ?_;have J:∀i,fldI prog 91 i=none:=λi=>by
  cases h:fldI prog 91 i with
  | none=>rfl
  | some f =>
   obtain⟨fs,_,h1,_⟩:=vo (fo:=f.1) (ag:=f.2.1) (n:=f.2.2) h;have h2:(match prog.underlying 91 with|some (.struct _)=>true|_=>false)=false:=by kernel_rfl
   rw[h1] at h2;cases h2
 have O:arrI prog 91=some (4,false,1):=by kernel_rfl
 have E:∀b:Option (Nat×Bool×Nat),orO none b=b:=λ_=>rfl;have G:iR prog 91=true:=by kernel_rfl
 simp only[go_sem,zE,zA,zM,zL,fits,J,O,E,G,fK];exact dw ⟨rfl,rfl⟩
def IU:∀(l:List (List Nat×Tr))(ca:Nat),(g_ (badN ca) l).2<=270
 | [],_=>fe _
 | (p,t)::l,ca=>by
  rw[g_];split
  ·exact IU l ca
  ·show badN ca t<=270;unfold badN;split<;>omega
def Rh (ca:Nat)(t:Tr):(hCk ca t).2<=270:=by
 unfold hCk;split
 ·split
  ·decide
  ·exact IU _ _
 ·decide
def advK (pl:IV)(h:Int)(r:Nat)(o:Int)(n:ByteArray)(s1 A D:IV):Nat->List IV
 | 0=>advZ
 | 1=>pl::h::advZ.drop 2
 | 2=>[pl,h,(onR r:Bool),.raw (.int .u8 o),n,s1,A,.raw (.int .u8 0),nlS]
 | 3=>[pl,h,(onR r:Bool),.raw (.int .u8 o),n,s1,A,.raw (.int .u8 (r:Int)),nlS]
 | _=>[pl,h,(onR r:Bool),.raw (.int .u8 o),n,s1,A,.raw (.int .u8 (r:Int)),D]
def IW (ca:Nat)(t:Tr)(h e:Nat)(m:Nat×Fm×List Sn)(F:Prop)(l:Nat)(r:IV):Prop :=
 ((hCk ca t).2≠0/\r=.tup [.agg advZ,((hCk ca t).2:Int)])\/((hCk ca t).2=0/\gz t=[]/\r=.tup [.agg advZ,(271:Int)]) \/
  ((hCk ca t).2=0/\∃p ps A,gz t=p::ps/\okEs A 1/\((e≠0/\r=.tup [.agg advZ,(e:Int)])\/(e=0/\F/\((h=0/\r=.tup [.agg (.sl A (plI p)::advZ.tail),(272:Int)])\/(0<h/\∃o n t1 G t2 E t3 D,jh m (.agg [.raw (.int .u8 (m.1:Int)),.raw (.int .u8 o),.raw (.string n),.sl t1 G,.sl t2 E,.sl t3 D]) /\
   r=.tup [.agg (advK (.sl A (plI p)) h m.1 o n (.sl t1 G) (.sl t2 E) (.sl t3 D) l),(0:Int)])))))
def Ri (ca:Nat)(t:Tr)(x:IV)(hx:IsTr t x)(h e:Nat)(he:e<272)(m:Nat×Fm×List Sn)(F:Prop)(E:Int)(l:Nat)(am:¬ E<1)(al:¬ 4<E)(aw:E=l)(hF:∀st,ICall prog gl 42 [.raw (.int .u8 (ca:Int)),x] st (λr st'=>IJ ca t h e m F r/\st'=st))(st:ISt) :
  ICall prog gl 22 [.raw (.int .u8 (ca:Int)),x,E] st (λr st'=>IW ca t h e m F l r/\st'=st):=by
 obtain⟨rule,tl,xl,tr,xr,op,fn,ta,xa,tb,xb,v,un,tu,xu,n',ts,xs,rfl⟩:=fY hx;refine ICall.intro (c:=cf prog gl [12] []) func22 rfl (by show _<=54;simp) (by kernel_rfl) ?_;have d1:decide (E<1)=false:=dEf am;have d2:decide (4<E)=false:=dEf al;simp only[go_sem,zE,zA,zL,reduceCtorEq,d1,d2];refine (hF _).mono ?_;rintro r st ⟨⟨h0,rfl⟩|⟨h0,D,rfl⟩|⟨h0,p,ps,G,D,J,⟨ak,rfl⟩|⟨ab,hFF,⟨hh,rfl⟩|⟨hh,z,hz,rfl⟩⟩⟩,rfl⟩
 ·have d0:decide (((hCk ca t).2:Int)=272)=false:=dEf (by have:=Rh ca t;omega);have d3:decide (((hCk ca t).2:Int)=0)=false:=dEf (by omega);simp only[go_sem,zE,zA,zL,d0,d3];exact dw ⟨.inl ⟨h0,rfl⟩,rfl⟩
 ·simp only[go_sem,zE,zA,zL,show decide ((271:Int)=272)=false from rfl,show decide ((271:Int)=0)=false from rfl];exact dw ⟨.inr (.inl ⟨h0,D,rfl⟩),rfl⟩
 ·have d0:decide ((e:Int)=272)=false:=dEf (by omega);have d3:decide ((e:Int)=0)=false:=dEf (by omega);simp only[go_sem,zE,zA,zL,d0,d3];exact dw ⟨.inr (.inr ⟨h0,p,ps,G,D,J,.inl ⟨ak,rfl⟩⟩),rfl⟩
 ·simp only[go_sem,zE,zA,zL,fits,d_];exact dw ⟨.inr (.inr ⟨h0,p,ps,G,D,J,.inr ⟨ab,hFF,.inl ⟨hh,rfl⟩⟩⟩),rfl⟩
 ·have ai:=hz;have ao:=λst=>Rg gl G (plI p) (h:Int) m z hz st;obtain⟨o,nm,q1,z1,q2,z2,q3,z3,rfl,_⟩:=hz;simp only[go_sem,zE,zA,zL,show decide ((0:Int)=272)=false from rfl,d_];refine λb=>fc λhb=>?_;refine (ao _).mono ?_;rintro _ aq ⟨rfl,U⟩;subst U;have O:arrI prog 91=some (4,false,1):=by kernel_rfl
  have A:lenI prog 91=some (.arr 4):=by kernel_rfl
  simp only[go_sem];refine dC 4 (λk fr st' ds=>(∃j:Nat,j=min k l/\st'=st.put b (some (.box (advK (.sl G (plI p)) h m.1 o nm (.sl q1 z1) (.sl q2 z2) (.sl q3 z3) j))))/\fr 2=E/\fr 12=(pt b)/\fr 6=.box advZ/\fr 42=(degI (.sl G (plI p)) (h:Int) (.agg [.raw (.int .u8 (m.1:Int)),.raw (.int .u8 o),nm,.sl q1 z1,.sl q2 z2,.sl q3 z3]))/\fr 43=(k:Int)/\ds=[]) ?_ ?_ ?_
  ·simp only[go_sem,zE];exact⟨⟨0,by omega,rfl⟩,rfl,rfl⟩
  ·rintro k fr ae _ ax ⟨⟨j,hj,rfl⟩,f2,f12,f6,f42,f43,rfl⟩;unfold degI at f42;by_cases aa:(k:Int)<E
   ·have dk:decide ((k:Int)<E)=true:=dEt aa;obtain rfl:j=k:=by omega
    rcases (show j=0\/j=1\/j=2\/j=3 by omega) with rfl|rfl|rfl|rfl
    ·simp only[go_sem,zE,zM,f2,f12,f42,f43,O,A,pt,dk,show decide (((0:Nat):Int)<4)=true from rfl,show (0<=((0:Nat):Int)/\((0:Nat):Int)<((4:Nat):Int))=True from fU (by omega),show Int.toNat ((0:Nat):Int)=0 from rfl];refine (Rb gl _ _ _ _ _ _ _ _ _ b _ (b_ ..) _ _ _).mono ?_;rintro _ _ rfl;rw[fW];simp only[go_sem,zE,f2,f12,f6,f42,f43];exact⟨⟨1,by omega,rfl⟩,rfl,rfl,rfl⟩
    ·simp only[go_sem,zE,zA,zM,f2,f12,f42,f43,O,A,pt,dk,show decide (((1:Nat):Int)<4)=true from rfl,show (0<=((1:Nat):Int)/\((1:Nat):Int)<((4:Nat):Int))=True from fU (by omega),show Int.toNat ((1:Nat):Int)=1 from rfl];refine (Rc gl _ _ _ _ _ _ _ _ _ b _ (b_ ..) _ _ _ _ _ _ _ _ _).mono ?_;rintro _ _ rfl;rw[fW];simp only[go_sem,zE,f2,f12,f6,f42,f43];exact⟨⟨2,by omega,rfl⟩,rfl,rfl,rfl⟩
    ·simp only[go_sem,zE,zA,zM,f2,f12,f42,f43,O,A,pt,dk,show decide (((2:Nat):Int)<4)=true from rfl,show (0<=((2:Nat):Int)/\((2:Nat):Int)<((4:Nat):Int))=True from fU (by omega),show Int.toNat ((2:Nat):Int)=2 from rfl];refine (Re gl _ _ _ _ _ _ _ _ _ b _ (b_ ..) _ _ _ _ _ _).mono ?_;rintro _ _ rfl;rw[fW];simp only[go_sem,zE,f2,f12,f6,f42,f43];exact⟨⟨3,by omega,rfl⟩,rfl,rfl,rfl⟩
    ·simp only[go_sem,zE,zA,zM,f2,f12,f42,f43,O,A,pt,dk,show decide (((3:Nat):Int)<4)=true from rfl,show (0<=((3:Nat):Int)/\((3:Nat):Int)<((4:Nat):Int))=True from fU (by omega),show Int.toNat ((3:Nat):Int)=3 from rfl];refine (Rf gl _ _ _ _ _ _ _ _ _ b _ (b_ ..) _ _ _ _ _ _ _).mono ?_;rintro _ _ rfl;rw[fW];simp only[go_sem,zE,f2,f12,f6,f42,f43];exact⟨⟨4,by omega,rfl⟩,rfl,rfl,rfl⟩
   ·have dk:decide ((k:Int)<E)=false:=dEf aa;rcases (show k=1\/k=2\/k=3 by omega) with rfl|rfl|rfl
    ·simp only[go_sem,zE,zA,zM,f2,f12,f42,f43,O,A,pt,dk,show decide (((1:Nat):Int)<4)=true from rfl,show (0<=((1:Nat):Int)/\((1:Nat):Int)<((4:Nat):Int))=True from fU (by omega),show Int.toNat ((1:Nat):Int)=1 from rfl];exact⟨⟨j,by omega,rfl⟩,f6,rfl,rfl⟩
    ·simp only[go_sem,zE,zA,zM,f2,f12,f42,f43,O,A,pt,dk,show decide (((2:Nat):Int)<4)=true from rfl,show (0<=((2:Nat):Int)/\((2:Nat):Int)<((4:Nat):Int))=True from fU (by omega),show Int.toNat ((2:Nat):Int)=2 from rfl];exact⟨⟨j,by omega,rfl⟩,f6,rfl,rfl⟩
    ·simp only[go_sem,zE,zA,zM,f2,f12,f42,f43,O,A,pt,dk,show decide (((3:Nat):Int)<4)=true from rfl,show (0<=((3:Nat):Int)/\((3:Nat):Int)<((4:Nat):Int))=True from fU (by omega),show Int.toNat ((3:Nat):Int)=3 from rfl];exact⟨⟨j,by omega,rfl⟩,f6,rfl,rfl⟩
  ·rintro fr ae _ ⟨⟨j,hj,rfl⟩,f2,f12,f6,f42,f43,rfl⟩;obtain rfl:j=l:=by omega
   have hr:=show IW ca t h e m F j (.tup [.agg (advK (.sl G (plI p)) h m.1 o nm (.sl q1 z1) (.sl q2 z2) (.sl q3 z3) j),(0:Int)]) from .inr (.inr ⟨h0,p,ps,G,D,J,.inr ⟨ab,hFF,.inr ⟨hh,_,_,_,_,_,_,_,_,ai,rfl⟩⟩⟩);rcases (show j=1\/j=2\/j=3\/j=4 by omega) with rfl|rfl|rfl|rfl <;>
   ·simp only[go_sem,zE,zA,zL,f12,f6,f43,pt,advK,b_,show decide (((4:Nat):Int)<4)=false from rfl];exact fN (st':=st) (gj hb) ⟨hr,rfl⟩
def Rj (ca:Nat)(t:Tr)(h:Nat)(m:Nat×Fm×List Sn)(A:Int)(r:IV):Prop :=
 ((A<1\/4<A)/\r=.tup [.agg advZ,(2:Int)])\/(¬ (A<1\/4<A)/\(((hCk ca t).2≠0/\r=.tup [.agg advZ,((hCk ca t).2:Int)])\/((hCk ca t).2=0/\gz t=[]/\r=.tup [.agg advZ,(271:Int)]) \/
  ((hCk ca t).2=0/\∃p ps D,gz t=p::ps/\okEs D 1/\((h=0/\r=.tup [.agg (.sl D (plI p)::advZ.tail),(272:Int)])\/(0<h/\∃o n t1 J t2 G t3 E,jh m (.agg [.raw (.int .u8 (m.1:Int)),.raw (.int .u8 o),.raw (.string n),.sl t1 J,.sl t2 G,.sl t3 E]) /\
   r=.tup [.agg [.sl D (plI p),(h:Int),(onR m.1:Bool),.raw (.int .u8 o),.raw (.string n),.sl t1 J,.sl t2 G,.raw (.int .u8 (m.1:Int)),.sl t3 E],(0:Int)])))))
def IX (ca:Nat)(t:Tr)(x:IV)(O:IsTr t x)(h:Nat)(m:Nat×Fm×List Sn)(A:Int)(G:(hCk ca t).2=0->0<h->gz t≠[]->¬ (A<1\/4<A)->A=4)(hF:¬ (A<1\/4<A)->∀st,ICall prog gl 42 [.raw (.int .u8 (ca:Int)),x] st (λr st'=>uY ca t h m r/\st'=st))(st:ISt) :
  ICall prog gl 22 [.raw (.int .u8 (ca:Int)),x,A] st (λr st'=>Rj ca t h m A r/\st'=st):=by
 by_cases h1:A<1\/4<A
 ·obtain⟨rule,tl,xl,tr,xr,op,fn,ta,xa,tb,xb,v,un,tu,xu,n',ts,xs,rfl⟩:=fY O;refine ICall.intro (c:=cf prog gl [12] []) func22 rfl (by show _<=54;simp) (by kernel_rfl) ?_;by_cases h2:A<1
  ·have d1:decide (A<1)=true:=dEt h2;simp only[go_sem,zE,zA,zL,d1];exact dw ⟨.inl ⟨h1,rfl⟩,rfl⟩
  ·have d1:decide (A<1)=false:=dEf h2;have d2:decide (4<A)=true:=dEt (by omega);simp only[go_sem,zE,zA,zL,d1,d2];exact dw ⟨.inl ⟨h1,rfl⟩,rfl⟩
 refine (Ri gl ca t x O h 0 (by decide) m True A A.toNat (by omega) (by omega) (by omega) (λst=>(hF h1 st).mono λr st' ⟨a,b⟩=>⟨?_,b⟩) st).mono λr st' ⟨a,b⟩=>⟨.inr ⟨h1,?_⟩,b⟩
 ·rcases a with a|a|⟨h0,p,ps,E,h1,h2,D⟩
  ·exact .inl a
  ·exact .inr (.inl a)
  ·exact .inr (.inr ⟨h0,p,ps,E,h1,h2,.inr ⟨rfl,trivial,D⟩⟩)
 ·rcases a with a|a|⟨h0,p,ps,E,D,h2,⟨J,_⟩|⟨_,_,J|⟨U,o,n,t1,x1,t2,x2,t3,x3,h6,rfl⟩⟩⟩
  ·exact .inl a
  ·exact .inr (.inl a)
  ·exact absurd rfl J
  ·exact .inr (.inr ⟨h0,p,ps,E,D,h2,.inl J⟩)
  ·refine .inr (.inr ⟨h0,p,ps,E,D,h2,.inr ⟨U,o,n,t1,x1,t2,x2,t3,x3,h6,?_⟩⟩);rw[G h0 U (by rw[D];simp) h1];rfl
