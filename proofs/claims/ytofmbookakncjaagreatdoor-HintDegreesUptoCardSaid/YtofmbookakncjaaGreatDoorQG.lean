/- Walks: the places of goals; the step at -/
import Derived.Test.YtofmbookakncjaaGreatDoorQF
set_option linter.all false
open Nat renaming reduceEqDiff → zE,reduceBEq → zB,reduceAdd → zA,reduceMul → zM,reduceLeDiff → zL
namespace Go.Proofs.Tryz
open Go Go.Iv
set_option maxRecDepth 4000
variable (gl:Nat->Option IV)
theorem xU9 {g cap:Nat}{p:List Nat}{cs:List IV}(hl:p.length<=1099511627776)(h1:p.length<=cap)(h2:cap<=cs.length)(G:cs.take p.length=plI p):Lents (emp.put g (some (.box cs))) [.raw (.slice (some ⟨g,0,none⟩) p.length cap)] [.sl ⟨false,.app g,1⟩ (plI p)]:=by
 refine⟨_,_,rfl,.inr ⟨.sl ⟨true,.app g,1⟩ (plI p),?_,?_⟩,rfl⟩
 ·rw[<- yXj p];refine .sl g cap ⟨true,.app g,1⟩ (plI p) cs rfl (by rw[yXj];omega) (by rw[yXj];exact h1) (λx A=>?_) (ISt.put_same ..) (by simpa using h2) λi r c D hc=>?_
  ·obtain⟨i,_,rfl⟩:=List.mem_map.1 A;rfl
  ·rw[zGj p] at hc;have E:i<p.length:=by
    have:=(lGs hc).1
    rwa [yXj] at this
   have:(cs.take p.length)[i]?=cs[i]?:=by rw[List.getElem?_take,if_pos E]
   rw[G,hc,D] at this;cases this;exact .refl _
 ·simp only[age,zJa]
theorem wXi {g:Nat}{cs:List IV}:zQb (emp.put g (some (.box cs)))=emp:=by
 funext b;by_cases A:b=g
 ·rw[A,yYn (ISt.put_same ..)];rfl
 ·have:(emp.put g (some (.box cs))) b=none:=by rw[ISt.put_apply,if_neg A];rfl
  rw[yGd (λcs' h=>by rw[this] at h;cases h),this];rfl
theorem vJ6 (J:∀g x,gl g=some x->age x=x)(p:List Nat)(a:IV)(e s:ISt)(hp:PlV p a e)(hl:p.length<=1099511627776)(hd:disj s e):ICall prog gl 33 [a] (join s e) (λr st'=>(∃A,r=.sl A (plI p)/\okEs A 1)/\st'=join s e):=by
 have key:ICall prog gl 33 [a] e (λr st'=>st'=e/\∃A,r=.sl A (plI p)/\okEs A 1):=by
  rcases hp with⟨t,rfl,ht,rfl,rfl⟩|⟨g,cap,cs,rfl,rfl,h1,h2,h3⟩
  ·exact (wQo gl t ht emp).mono λr st' ⟨⟨A,h,G⟩,h2⟩=>⟨h2,A,h,G.1⟩
  ·refine ICall.lentN (K:=λr=>∃A,r=.sl A (plI p)/\okEs A 1) (λb o D=>?_) J (xU9 hl h1 h2 h3) ?_
   ·rw[ISt.put_apply] at D;split at D
    ·cases D;exact .inl ⟨_,rfl⟩
    ·cases D
   ·rw[wXi,show ages [.sl ⟨false,.app g,1⟩ (plI p)]=[.sl ⟨false,.app g,1⟩ (plI p)] by simp only[ages,age,zJa]];have O:∀r (st':ISt),((∃A,r=.sl A (plI p)/\okN A)/\st'=emp)->st'=emp/\Newly r/\∃A,r=.sl A (plI p)/\okEs A 1:=λr st' ⟨⟨A,h,G⟩,h2⟩=>by
     subst h;exact⟨h2,.sl G.2 λx U=>by obtain⟨i,_,rfl⟩:=List.mem_map.1 U;exact⟨_,rfl⟩,A,rfl,G.1⟩
    by_cases E:p=[]
    ·subst E;exact (xV9 gl g emp).mono O
    ·exact (wQp gl g p E hl emp).mono O
 have h1:=key.frame (own:=s) (λb D=>by
  cases he:e b with
  | none=>rfl
  | some o=>exact absurd (hd b (by rw[he];simp)) D)
 rw[xZ7 hd];refine h1.mono ?_;rintro r st' ⟨stu,_,rfl,rfl,h⟩;exact⟨h,rfl⟩
theorem xUq {e st':ISt}(h:subSt e st'):∃s1,disj s1 e/\st'=join s1 e/\∀b,e b=none->s1 b=st' b:=by
 refine⟨λb=>match e b with|none=>st' b|some _=>none,λb D=>?_,?_,λb D=>by simp only[D]⟩
 ·cases A:e b with
  | none=>exact absurd A D
  | some o=>simp only[A]
 ·funext b;cases A:e b with
  | none=>rw[yQq A];simp only[A]
  | some o=>rw[yQi A,h b o A]
theorem zQp {s e:ISt}{b:Nat}{o:IObj}(hd:disj s e)(h:s b=some o):e b=none:=by
 cases A:e b with
 | none=>rfl
 | some _=>rw[hd b (by rw[A];simp)] at h;cases h
def vU4 (l:List (List Nat))(ys:List IV):Prop:=AllR (λp y=>∃t,y=.sl t (plI p)/\okEs t 1) l ys
def GoI (st:ISt)(b:Nat)(l:List (List Nat))(s:ISt):Prop:=∃t ys,s b=some (.box [.sl t ys])/\own s t ys.length 1 st/\subSt st s/\vU4 l ys
def zY7 (w:List (List Nat×Tr)):List (List Nat):=(w.filter λq=>xJn q.2).map (·.1)
theorem xKb {w:List (List Nat×Tr)}{p:List Nat}{t:Tr}:zY7 (w++[(p,t)])=if xJn t=true then zY7 w++[p] else zY7 w:=by
 unfold zY7;rw[List.filter_append,List.map_append];by_cases h:xJn t=true
 ·rw[if_pos h];simp[h]
 ·rw[if_neg h];simp[h]
def GoJ (a:IV)(b:Nat)(p:List Nat)(D:Tag)(ys:List IV)(S0 S:ISt)(A:Array Bool):Kt:=λad fr st ds=>(∀s,ad s=none)/\ds=[]/\fr 3=.iv (pt b)/\fr 4=.iv a/\(A.getD 0 false=true->fr 19=.iv (.sl D ys))/\(A.getD 1 false=true->fr 20=.iv a) /\
 (A.getD 2 false=true->∃t,okEs t 1/\fr 21=.iv (.sl t (plI p)))/\(A.getD 3 false=true->∃t,okEs t 1/\fr 22=.iv (.sl ⟨true,.full,1⟩ [.sl t (plI p)])) /\
 (A.getD 4 false=true->A.getD 0 false=true/\A.getD 2 false=true)/\(A.getD 4 false=false->st=S) /\
 (A.getD 4 false=true->∃t u,okEs t 1/\fr 23=.iv (.sl u (ys++[.sl t (plI p)]))/\own st u (ys.length+1) 1 S0/\subSt S0 st/\∃c,st b=some (.box [c])/\(A.getD 5 false=true->c=.sl u (ys++[.sl t (plI p)])))/\(A.getD 5 false=true->A.getD 4 false=true)/\(A.getD 3 false=true->A.getD 2 false=true)
theorem zUs (aO:∀g x,gl g=some x->age x=x)(t:Tr)(x:IV)(hx:IsTr t x)(hs:t.steps<=1000000)(st:ISt):ICall prog gl 9 [x] st (λr st'=>(∃tg ys,r=.sl tg ys/\okEs tg 1/\vU4 (yZu t) ys)/\st'=st):=by
 have hh:=Nat.le_trans t.height_le_steps hs;have hst:=λst=>xYg gl x st t hx;have aN:=λI=>xZg gl t x hx (by omega) I;obtain⟨rule,tl,xl,tr,xr,op,fn,ta,xa,tb,xb,v,un,tu,xu,n,ts,xs,rfl⟩:=yZy hx;refine ICall.intro (c:=cf prog gl [3,19] [(6,[])] [1]) func9 rfl (by show _<=25;simp) (by kernel_rfl) ?_;simp only[go_sem,zE,zA,fits,IV.one];intro b;refine yQ8 λhb=>?_;refine (hst _).mono ?_;rintro _ _ ⟨rfl,rfl⟩;simp only[go_sem,reduceCtorEq];refine RangeL.intro (lkW (λx=>x) (t.walk [])) (t.walk []).length (λk s=>GoI st b (zY7 ((t.walk []).take k)) s) (λe s=>False) rfl ?_ ?_ ?_ (aN _) ?_ ?_
 ·rintro k a e ⟨p,u,a,y,_,_,_,rfl⟩;rfl
 ·exact⟨_,[],ISt.put_same ..,own.nil ..,yQh hb,AllR.nil⟩
 ·rintro k _ e s ⟨p,z,a,y,al,hz,hp,rfl⟩ hd ⟨tg,ys,c3,J,G,hys⟩;have ab:disj s e:=hd;have r3:=yZp ab _ _ c3;have aH:=yY8 [] t _ (lMg al);simp only[List.length_nil] at aH;have aS:=vJ6 gl aO p a e s hp (by omega) ab;have ae:ivOf (.iv a)=some a:=by rcases hp with⟨t,rfl,_⟩|⟨g,cap,cs,rfl,_⟩<;>rfl
  have aK:=(lGs al).1;rw[zXn] at aK;rw[yQ6 al,xKb];obtain⟨U,bi,f',u',n',aq⟩:=z;obtain⟨bf,a7,be,a6,bk,bu,bh,ba,bg,a8,v',bb,bc,a1,bd,ao,rfl,_,_,_,_,_,_,_,bw,aE⟩:=hz.mk;have aJ:=aE.len;by_cases h0:U=0
  ·have d0:decide ((U:Int)=0)=true:=dEt (by omega);by_cases h1:aq=[]
   ·have d1:decide ((ao.length:Int)=0)=true:=by rw[aJ,h1];rfl
    rw[if_pos (by simp[xJn,h0,h1])];simp only[go_sem,zE,zA,zL,d0,d1,ae];intro _;have bq:ys.length<=k:=by
     rw[hys.1];unfold zY7;rw[List.length_map];refine Nat.le_trans (List.length_filter_le ..) ?_;rw[List.length_take];omega
    have aM:(join st e) b=none:=by rw[yQq (zQp ab c3)];exact hb
    have aG:subSt (join st e) (join s e):=λc o h=>by
     cases he:e c with
     | some o'=>rw[yQi he] at h ⊢;exact h
     | none=>rw[yQq he] at h ⊢;exact G c o h
    have aI:own (join s e) tg ys.length 1 (join st e):=by
     rcases J with h|h|⟨g,h1,h2,h3⟩
     ·exact .inl h
     ·exact .inr (.inl h)
     ·exact .inr (.inr ⟨g,h1,yZp ab _ _ h2,by rw[yQq (zQp ab h2)];exact h3⟩)
    rw[xZs];refine zZu (GoJ a b p tg ys (join st e) (join s e)) ?_ ?_ _ _ _ _ _ _ rfl ?_
    ·intro A ad fr aC ds ah hJ i hi;replace ah:A.size=6:=ah;obtain⟨au,o,ho,D⟩:=mem_ready.1 hi;have bs:i<6:=(Array.getElem?_eq_some_iff.1 ho).1;have aa:A.getD i false=false:=by
      rw[Array.getD_eq_getD_getElem?,Array.getElem?_eq_getElem (by omega)] at au ⊢;exact au
     have e':∀j,(A.setIfInBounds i true).getD j false=if i=j then true else A.getD j false:=λj=>xZl (by omega)
     obtain⟨O,rfl,f3,f4,g0,g1,g2,g3,g4,g5,g6,g7,g8⟩:=hJ;rcases (show i=0\/i=1\/i=2\/i=3\/i=4\/i=5 by omega) with rfl|rfl|rfl|rfl|rfl|rfl
     all_goals obtain rfl:_=o:=Option.some.inj ho
     ·have h4:A.getD 4 false=false:=by
       cases h:A.getD 4 false with
       | false=>rfl
       | true=>rw[(g4 h).1] at aa;cases aa
      have h5:A.getD 5 false=true->False:=λh=>by rw[g7 h] at h4;cases h4
      obtain rfl:=g5 h4;simp only[go_sem,zE,yZ5,O,f3,pt,r3];simp only[GoJ,e',iteT,iteF,h4,reduceCtorEq,false_imp_iff,true_imp_iff];exact⟨yXw O _,trivial,f3,f4,rfl,g1,g2,g3,trivial,trivial,trivial,h5,g8⟩
     ·simp only[go_sem,yZ5,f4,ae];simp only[GoJ,e',zE,iteT,iteF,reduceCtorEq,true_imp_iff];exact⟨yXw O _,trivial,f3,f4,g0,rfl,g2,g3,g4,g5,g6,g7,g8⟩
     ·have h4:A.getD 4 false=false:=by
       cases h:A.getD 4 false with
       | false=>rfl
       | true=>rw[(g4 h).2] at aa;cases aa
      have h5:A.getD 5 false=true->False:=λh=>by rw[g7 h] at h4;cases h4
      obtain rfl:=g5 h4;replace g1:=g1 (D ⟨1,.data⟩ (by simp) rfl);simp only[go_sem,zE,zA,yZ5,g1,ae];refine aS.mono ?_;rintro _ _ ⟨⟨t',rfl,E⟩,rfl⟩;simp only[go_sem];simp only[GoJ,e',zE,iteT,iteF,h4,reduceCtorEq,false_imp_iff,true_imp_iff];exact⟨yXw O _,trivial,f3,f4,g0,λ_=>g1,⟨t',E,rfl⟩,g3,trivial,trivial,trivial,h5,λ_=>trivial⟩
     ·obtain⟨t',E,aX⟩:=g2 (D ⟨2,.data⟩ (by simp) rfl);simp only[go_sem,zE,zM,zL,yZ5,aX];simp only[GoJ,e',zE,iteT,iteF,reduceCtorEq,true_imp_iff];exact yQp rfl ⟨yXw O _,trivial,f3,f4,g0,g1,g2,⟨t',E,rfl⟩,g4,g5,g6,g7,D ⟨2,.data⟩ (by simp) rfl⟩
     ·replace g0:=g0 (D ⟨0,.data⟩ (by simp) rfl);obtain⟨t',E,aA⟩:=g3 (D ⟨3,.data⟩ (by simp) rfl);have h2:=g8 (D ⟨3,.data⟩ (by simp) rfl);obtain rfl:=g5 aa;simp only[go_sem,zE,zA,yZ5,g0,aA];refine yJj aI rfl aG rfl (by simp[fits,IV.one]) (by simp only;omega) (by omega) λu st4 o4 s4 k4 _=>?_;simp only[go_sem,zE,reduceCtorEq,GoJ,e',iteT,iteF,false_imp_iff,true_imp_iff];exact⟨yXw O _,f3,f4,λ_=>g0,g1,g2,λ_=>⟨t',E,aA⟩,⟨D ⟨0,.data⟩ (by simp) rfl,h2⟩,⟨t',u,E,rfl,o4,s4,_,k4 b _ r3 nofun,λh=>by rw[g7 h] at aa;cases aa⟩,λ_=>trivial,g8⟩
     ·obtain⟨t',u,E,f23,ak,ai,c,hc,_⟩:=g6 (D ⟨4,.data⟩ (by simp) rfl);have h4:=D ⟨4,.data⟩ (by simp) rfl;simp only[go_sem,zL,yZ5,O,f23,f3,pt,hc];simp only[GoJ,e',zE,iteT,iteF,h4,reduceCtorEq,false_imp_iff,true_imp_iff];exact⟨O,trivial,f3,f4,g0,g1,g2,g3,g4 h4,trivial,⟨t',u,E,f23,ak.mono λg hg _=>by rw[yQ7 (λh=>by rw[h,hc] at hg;cases hg)];exact hg,yQa ai aM,_,ISt.put_same ..,rfl⟩,trivial,g8⟩
    ·intro A ad fr aC ds ah hr hJ;have hl:=zK1 (by decide) ah hr;obtain⟨_,rfl,_,_,_,_,_,_,_,_,g6,_,_⟩:=hJ;obtain⟨t',u,E,_,ak,ai,c,hc,aT⟩:=g6 (hl 4 (by decide));obtain rfl:=aT (hl 5 (by decide));obtain⟨s1,d1,rfl,k1⟩:=xUq (join_sub'.trans ai);have aL:∀c,(join st e) c=none->e c=none/\st c=none:=λc h=>by
      cases he:e c with
      | some o=>rw[yQi he] at h;cases h
      | none=>rw[yQq he] at h;exact⟨rfl,h⟩
     simp only[go_sem];refine⟨s1,⟨u,_,by rw[k1 b (zQp ab c3)];exact hc,?_,λc o h=>?_,hys.snoc ⟨t',rfl,E⟩⟩,d1,rfl⟩
     ·rw[lLa];rcases ak with⟨h,_⟩|h|⟨g,h1,h2,h3⟩
      ·omega
      ·exact .inr (.inl h)
      ·obtain⟨j1,j2⟩:=aL g h3;exact .inr (.inr ⟨g,h1,by rw[k1 g j1];exact h2,j2⟩)
     ·have he:=zQp ab (G c o h);rw[k1 c he];exact ai c o (by rw[yQq he];exact h)
    ·exact⟨λ_=>rfl,rfl,rfl,rfl,nofun,nofun,nofun,nofun,nofun,λ_=>rfl,nofun,nofun,nofun⟩
   ·have d1:decide ((ao.length:Int)=0)=false:=dEf (by have:=List.length_pos_iff.2 h1;omega);rw[if_neg (by simp[xJn,h1])];simp only[go_sem,zE,zA,zL,d0,d1,ae];intro _;exact⟨s,⟨tg,ys,c3,J,G,hys⟩,hd,rfl⟩
  ·have d0:decide ((U:Int)=0)=false:=dEf (by omega);rw[if_neg (by simp[xJn,h0])];simp only[go_sem,zE,zA,zL,d0,ae];exact⟨s,⟨tg,ys,c3,J,G,hys⟩,hd,rfl⟩
 ·rintro s r ⟨tg,ys,c3,J,G,hys⟩;rw[lTl] at hys;simp only[go_sem,zE,c3];exact yQg G ⟨⟨tg,ys,rfl,J.es,hys⟩,rfl⟩
 ·rintro e s r ⟨⟩
def okP:Tr->List Nat->Prop
 | _,[]=>True
 | .mk _ _ _ _ _ sub,i::p=>∃s,sub[i]?=some s/\okP s p
theorem yYk:∀ {p l:List Nat}{t:Tr},okP t (p++l)->okP (atT t p) l/\atT t (p++l)=atT (atT t p) l
 | [],l,t,h=>⟨h,by simp only[List.nil_append,atT]⟩
 | i::p,l,.mk r s f u n sub,h=>by
  obtain⟨z,h1,h2⟩:=h;simp only[List.cons_append,atT,h1];exact yYk h2
mutual
theorem xWg:∀(q:List Nat)(t:Tr)(p:List Nat)(z:Tr),(p,z)∈t.walk q->∃p',p=q++p'/\okP t p'/\atT t p'=z
 | q,.mk r s f u n sub,p,z,h=>by
  simp only[Tr.walk,List.mem_cons,Prod.mk.injEq] at h;rcases h with⟨rfl,rfl⟩|h
  ·exact⟨[],by simp,trivial,rfl⟩
  ·obtain⟨i,a,p',_,h1,h2,D,A⟩:=xQq q 0 sub p z h;rw[Nat.sub_zero] at h2;exact⟨i::p',h1,⟨a,h2,D⟩,by simp only[atT,h2];exact A⟩
theorem xQq:∀(q:List Nat)(j:Nat)(l:List Tr)(p:List Nat)(z:Tr),(p,z)∈yQk q j l->∃i a p',j<=i/\p=q++i::p'/\l[i-j]?=some a/\okP a p'/\atT a p'=z
 | _,_,[],p,z,h=>by simp[yQk] at h
 | q,j,a::l,p,z,h=>by
  simp only[yQk,List.mem_append] at h;rcases h with h|h
  ·obtain⟨p',h1,h2,A⟩:=xWg (q++[j]) a p z h;exact⟨j,a,p',Nat.le_refl _,by rw[h1,List.append_assoc];rfl,by simp,h2,A⟩
  ·obtain⟨i,b,p',h0,h1,h2,A,D⟩:=xQq q (j+1) l p z h;exact⟨i,b,p',by omega,h1,by rw[show i-j=i-(j+1)+1 by omega];exact h2,A,D⟩
end
theorem zGm:∀ {p l:List Nat}{t:Tr},okP t (p++l)->okP t p
 | [],_,_,_=>trivial
 | i::p,l,.mk r s f u n sub,h=>by
  obtain⟨z,h1,h2⟩:=h;exact⟨z,h1,zGm h2⟩
abbrev z12:List IV:=[.raw (.int .u8 0),.sl ⟨true,.nil,0⟩ [],.sl ⟨true,.nil,0⟩ [],.raw (.int .u8 0),.raw (.string ⟨#[]⟩),.sl ⟨true,.nil,0⟩ [],.sl ⟨true,.nil,0⟩ [],.raw (.bool false),.raw (.string ⟨#[]⟩),.sl ⟨true,.nil,0⟩ [],.raw (.string ⟨#[]⟩),.sl ⟨true,.nil,0⟩ []]
theorem at_c (t:Tr)(x:IV)(hx:IsTr t x)(p:List Nat)(hp:okP t p)(tg:Tag)(ax:okEs tg 1)(hl:p.length<=1000000)(st:ISt):ICall prog gl 46 [x,.sl tg (plI p)] st (λr st'=>IsTr (atT t p) r/\st'=st):=by
 have aw:=hx;obtain⟨rule,tl,xl,tr,xr,op,fn,ta,xa,tb,xb,v,un,tu,xu,n,ts,xs,rfl⟩:=yZy hx;refine iI func46 ?_;simp only[go_sem,zE,yXj];intro _;refine LoopC.ctr p.length (λk fr st' ds=>(∃c,fr 2=.box c/\IsTr (atT t (p.take k)) (.agg c))/\st'=st/\fr 4=.box z12/\fr 7=.iv (.sl tg (plI p))/\fr 8=.iv (.raw (.int .i64 (p.length:Int)))/\fr 9=.iv (.raw (.int .i64 (k:Int)))/\ds=[]) ?_ ?_ ?_
 ·simp only[go_sem,zE];exact⟨⟨_,rfl,aw⟩,rfl⟩
 ·rintro k fr ao _ D ⟨⟨c,f2,hc⟩,rfl,f4,f7,f8,f9,rfl⟩;obtain⟨i,hi⟩:=yQ1 D;have aA:=xJk hi;have J:okP t (p.take k++i::p.drop (k+1)):=by
   have:=List.take_append_drop k p;rw[List.drop_eq_getElem_cons D,(lGs hi).2] at this;rw[this];exact hp
  obtain⟨h1,_⟩:=yYk J;have O:atT t (p.take (k+1))=atT (atT t (p.take k)) [i]:=by
   rw[yQ6 hi];have:=yYk (p:=p.take k) (l:=[i]) (t:=t) (by
    have ay:okP t ((p.take k++[i])++p.drop (k+1)):=by rw[List.append_assoc];exact J
    exact zGm ay)
   exact this.2
  generalize atT t (p.take k)=z at h1 hc O;obtain⟨E,aU,f',u',n',aC⟩:=z;obtain⟨z,hz,_⟩:=h1;obtain⟨ak,ac,aj,ab,au,aB,an,af,am,ae,v',ag,ah,U,ai,aa,A,_,_,_,_,_,_,_,e3,i3⟩:=hc.mk;injection A with A;subst A;obtain⟨y,hy,G⟩:=i3.get hz;have av:=G;obtain⟨aq,aQ,aI,tr2,aH,aV,aY,aT,aK,aS,aJ,v2,aM,aN,aF,n2,aO,aG,rfl⟩:=yZy G;simp only[go_sem,zE,zB,zA,zL,f2,f4,f7,f8,f9,fits,lt_i D,yQ3 ax,yQ3 e3,iNn,aA,hy,yQc D (show p.length<=281474976710656 by omega)];rw[O];exact⟨_,rfl,by simp only[atT,hz];exact av⟩
 ·rintro fr ao _ ⟨⟨c,f2,hc⟩,rfl,f4,f7,f8,f9,rfl⟩;rw[lTl] at hc;obtain⟨E,ak,ac,aj,ab,au,aB,an,af,am,ae,v',ag,ah,U,n',ai,aa,A⟩:=yZy hc;injection A with A;subst A;simp only[go_sem,zE,zA,zL,f2,f4,f8,f9,z12,yQl (nLi _)];exact yQ0 ⟨hc,rfl⟩
theorem zYy:IsTm tmZ (.agg [.raw (.bool false),.raw (.string ⟨#[]⟩),.sl ⟨true,.nil,0⟩ []]):=⟨_,_,rfl,.inl rfl,rfl⟩
theorem vWn (t:Tr)(x:IV)(D:IsTr t x)(st:ISt):ICall prog gl 74 [x] st (λr st'=>r=.raw (.bool (zW4 t))/\st'=st):=by
 obtain⟨rule,sq,f,u,n,sub⟩:=t;obtain⟨tl,xl,tr,J,op,fn,ta,U,tb,O,v,un,tu,G,ts,A,rfl,_,_,_,_,_,E,_,e3,i3⟩:=D.mk;have hS:=λst=>zGa gl f fm0 _ _ E xKk st;have hl:=i3.len;refine iI func74 ?_;by_cases h0:rule=0
 ·have d0:decide ((rule:Int)=0)=true:=dEt (by omega);by_cases h1:sub=[]
  ·have d1:decide ((A.length:Int)=0)=true:=by rw[hl,h1];rfl
   simp only[go_sem,zE,zA,zL,d0,d1];intro _;refine (hS _).mono ?_;rintro _ _ ⟨rfl,rfl⟩;simp only[go_sem,zE];exact yQ0 ⟨by simp[zW4,h0,h1],rfl⟩
  ·have hp:0<sub.length:=List.length_pos_iff.2 h1;have d1:decide ((A.length:Int)=0)=false:=dEf (by omega);simp only[go_sem,zE,d0,d1];intro _;exact yQ0 ⟨by simp[zW4,h1],rfl⟩
 ·have d0:decide ((rule:Int)=0)=false:=dEf (by omega);simp only[go_sem,zE,zA,d0];exact yQ0 ⟨by simp[zW4,h0],rfl⟩
theorem zKq:∀(l:List Tr)(i:Nat),(∀a∈l,yXq a.sq)->(∀q∈yQk [] i (l.map λp=>goalT p.sq),zWv q.2)/\yXm (l.map λp=>goalT p.sq)<=1
 | [],_,_=>⟨nofun,Nat.zero_le _⟩
 | a::l,i,D=>by
  obtain⟨E,J⟩:=zKq l (i+1) λb G=>D b (.tail _ G);simp only[List.map_cons,yQk,Tr.walk,yXm,Tr.height];refine⟨λq A=>?_,by omega⟩;rcases List.mem_append.1 A with A|A
  ·rcases List.mem_cons.1 A with rfl|A
   ·exact⟨D a (.head _),by show fm0.size<=1000000;decide,by show tmZ.size<=1000000;decide,nofun⟩
   ·cases A
  ·exact E q A
theorem wWg {t:Tr}(h:zWv t):zKx (shal t):=by
 obtain⟨rule,sq,f,u,n,sub⟩:=t;obtain⟨h1,h2,_,D⟩:=h;have G:tmZ.size<=1000000:=by decide
 obtain⟨E,U⟩:=zKq sub 0 D;refine⟨λq A=>?_,?_⟩
 ·simp only[shal,Tr.walk] at A;rcases List.mem_cons.1 A with rfl|A
  ·refine⟨h1,h2,G,λa O=>?_⟩;obtain⟨b,J,rfl⟩:=List.mem_map.1 O;exact D b J
  ·exact E q A
 ·simp only[shal,Tr.height];omega
theorem wYn (G:Gl gl)(T:Gt gl)(ca:Nat)(t:Tr)(x:IV)(hx:IsTr t x)(hn:zWv t)(hl:t.steps<=1000000)(st:ISt):ICall prog gl 36 [.raw (.int .u8 (ca:Int)),x] st (λr st'=>r=.raw (.bool (yKu ca t))/\st'=st):=by
 have hg:=λst=>vWn gl t x hx st;have ai:=λy O st=>wVy gl G T ca (shal t) y O (wWg hn) st;obtain⟨rule,sq,f,u,n,sub⟩:=t;have ah:=hn.1;obtain⟨tl,xl,tr,xr,op,fn,ta,xa,tb,xb,v,un,tu,xu,ts,xs,rfl,af,e1,i1,e2,i2,hf,_,e3,i3⟩:=hx.mk;have hv:=λst=>xV6 gl G ca sq _ ⟨_,_,_,_,rfl,e1,i1,e2,i2⟩ ah st;have aZ:=yVg sub;simp only[Tr.steps] at hl;refine iI func36 ?_;simp only[go_sem,zE,zA,zL];refine (hg _).mono ?_;rintro _ st ⟨rfl,rfl⟩;cases hb:zW4 (.mk rule sq f u n sub)
 ·simp only[go_sem,zE,zA,zL,fits,i3.len];intro _;refine LoopC.ctr sub.length (λk fr st' ds=>(∃t y,fr 5=.box [.raw (.int .u8 rule),.sl tl xl,.sl tr xr,.raw (.int .u8 op),.raw (.string fn),.sl ta xa,.sl tb xb,.raw (.bool false),.raw (.string ⟨#[]⟩),.sl ⟨true,.nil,0⟩ [],.raw (.string ⟨#[]⟩),.sl t y]/\own st' t k 12 st/\subSt st st'/\IsTrs ((sub.take k).map λp=>goalT p.sq) y/\y.length=k) /\
   fr 0=.iv (.raw (.int .u8 ca))/\fr 24=.iv (.sl ts xs)/\fr 25=.iv (.raw (.int .i64 (sub.length:Int)))/\fr 26=.iv (.raw (.int .i64 (k:Int)))/\ds=[]) ?_ ?_ ?_
  ·simp only[go_sem,zE,reduceCtorEq];exact⟨⟨_,_,rfl,own.nil ..,subSt.refl _,rfl,rfl⟩,rfl⟩
  ·rintro k fr U _ J ⟨⟨t,y,f5,D,A,O,E⟩,f0,f24,f25,f26,rfl⟩;obtain⟨a,ha⟩:=yQ1 J;obtain⟨z,ag,hz⟩:=i3.get ha;obtain⟨aa,aV,f',u',n',au⟩:=a;obtain⟨aN,aE,aM,aD,aW,a7,aQ,aG,aO,aF,v',aJ,aK,aA,aL,aB,rfl,_,al,ac,ak,ab,_⟩:=hz.mk;simp only[go_sem,zE,zB,zA,zM,zL,f5,f24,f25,f26,fits,lt_i J,yQ3 e3,iNn,ag,yQ4];refine yZc D E A rfl (by simp[fits,IV.one]) (by simp only;omega) (by omega) λt' aT w1 w2 w3=>?_;simp only[go_sem,zE,zA,zL,reduceCtorEq,f5,f0,f24,f25,f26,yQc J (show sub.length<=281474976710656 by omega)];refine⟨t',_,rfl,w1,w2,?_,by rw[lLa,E];rfl⟩;rw[yQ6 ha,List.map_append,List.map_singleton];refine O.append ?_;simp only[IsTrs];exact⟨_,[],rfl,⟨_,_,_,_,_,_,_,_,_,_,_,_,_,_,_,_,rfl,by omega,al,ac,ak,ab,xKk,zYy,.inl rfl,rfl⟩,rfl⟩
  ·rintro fr U _ ⟨⟨t,y,f5,D,A,O,E⟩,f0,f24,f25,f26,rfl⟩;rw[lTl] at O;have ae:IsTr (shal (.mk rule sq f u n sub)) (.agg [.raw (.int .u8 rule),.sl tl xl,.sl tr xr,.raw (.int .u8 op),.raw (.string fn),.sl ta xa,.sl tb xb,.raw (.bool false),.raw (.string ⟨#[]⟩),.sl ⟨true,.nil,0⟩ [],.raw (.string ⟨#[]⟩),.sl t y]) :=
    ⟨_,_,_,_,_,_,_,_,_,_,_,_,_,_,_,_,rfl,af,e1,i1,e2,i2,hf,zYy,D.es,O⟩
   simp only[go_sem,zE,zA,zL,reduceCtorEq,f5,f0,f25,f26,yQl (nLi _)];refine (ai _ ae _).mono ?_;rintro _ aU ⟨⟨tg,rfl,aY⟩,rfl⟩;by_cases h0:(yXz ca (shal (.mk rule sq f u n sub))).2=0
   ·have d0:decide (((yXz ca (shal (.mk rule sq f u n sub))).2:Int)=0)=true:=dEt (by omega);simp only[go_sem,zE,d0];exact yQg A ⟨by simp[yKu,hb,h0],rfl⟩
   ·have d0:decide (((yXz ca (shal (.mk rule sq f u n sub))).2:Int)=0)=false:=dEf (by omega);simp only[go_sem,zE,d0,yXj];intro _;refine yQg A ⟨?_,rfl⟩;simp[yKu,hb,h0]
 ·simp only[go_sem,zE,zA,zL,reduceCtorEq];refine (hv _).mono ?_;rintro _ _ ⟨rfl,rfl⟩;simp only[go_sem];exact yQ0 ⟨by simp[yKu,hb,Tr.sq],rfl⟩
theorem xYi (us:List Fm)(tg:Tag)(xs:List IV)(ah:okEs tg 4)(ac:IsFms us xs)(an:yQb us<=1000000)(st:ISt) :
  ICall prog gl 110 [.sl tg xs] st (λr st'=>(∃A ys,r=.sl A ys/\okEs A 4/\IsFms us ys)/\st'=st):=by
 have am:=yX4 us;refine iI func110 ?_;simp only[go_sem,reduceCtorEq,ac.len];intro _;refine LoopC.ctr us.length (λk fr st' ds=>(∃A ys,fr 3=.iv (.sl A ys)/\IsFms (us.take k) ys/\own st' A k 4 st/\subSt st st') /\
  fr 6=.iv (.sl tg xs)/\fr 7=.iv (.raw (.int .i64 us.length))/\fr 8=.iv (.raw (.int .i64 k))/\ds=[]) ?_ ?_ ?_
 ·simp only[go_sem,zE];exact⟨⟨_,[],rfl,rfl,own.nil ..,subSt.refl _⟩,rfl⟩
 ·rintro k fr ab _ O ⟨⟨A,ys,f3,hys,E,D⟩,f6,f7,f8,rfl⟩;obtain⟨a,ha⟩:=yQ1 O;obtain⟨x,ai,hx⟩:=ac.get ha;obtain⟨h1,h2⟩:=yZ7 ha;have U:ys.length=k:=by rw[hys.len,List.length_take];omega
  have aa:=yWm gl a x hx (by omega) ab;obtain⟨o5,n5,t5,x5,t6,x6,rfl⟩:=hx.agg;simp only[go_sem,zE,zB,zA,zL,f3,f6,f7,f8,lt_i O,yQ3 ah,iNn,ai,fits];refine aa.mono ?_;rintro r _ ⟨hr,rfl⟩;have hn:IsFms (us.take (k+1)) (ys++[r]):=by
   rw[yQ6 ha];exact hys.append ⟨r,[],rfl,hr.1,rfl⟩
  obtain⟨o7,n7,t7,x7,t8,x8,rfl⟩:=IsFmD.aggs hr;simp only[go_sem,zE,zA,zM,zL,fits,yQ4];refine yZc E U D rfl (by simp[fits,IV.one]) (by simp only;omega) (by omega) λaf st4 J G _=>?_;simp only[go_sem,zE,f6,f7,f8,yQc O (show us.length<=281474976710656 by omega)];exact⟨af,_,rfl,hn,J,G⟩
 ·rintro fr ab _ ⟨⟨A,ys,f3,hys,E,D⟩,f6,f7,f8,rfl⟩;rw[lTl] at hys;simp only[go_sem,zE,f3,f7,f8,yQl (nLi _)];exact yQg D ⟨⟨A,ys,rfl,E.es,hys⟩,rfl⟩
theorem wJu (s:Sq)(x:IV)(E:IsSq s x)(h1:yQb s.l<=1000000)(h2:yQb s.r<=1000000)(st:ISt) :
  ICall prog gl 86 [x] st (λr st'=>IsSq s r/\st'=st):=by
 obtain⟨t1,D,t2,A,rfl,U,i1,O,i2⟩:=E;have c1:=λst=>xYi gl s.l t1 D U i1 h1 st;have c2:=λst=>xYi gl s.r t2 A O i2 h2 st;refine ICall.intro (c:=cf prog gl [] [(1,[0,1,3,4,2,5,6,7])]) func86 rfl (by show _<=10;simp) (by kernel_rfl) ?_;simp only[go_sem,zE,zA];refine (c1 _).mono ?_;rintro _ _ ⟨⟨t3,y1,rfl,J,i3⟩,rfl⟩;simp only[go_sem,zE,zA];refine (c2 _).mono ?_;rintro _ _ ⟨⟨t4,y2,rfl,G,i4⟩,rfl⟩;simp only[go_sem,zE,zA,zL,fits];exact yQ0 ⟨⟨_,_,_,_,rfl,J,i3,G,i4⟩,rfl⟩
def hTC (t:Tm):Prop:=∀(x:IV) (_:IsTm t x) (_:t.size<=1000000) (st:ISt),ICall prog gl 88 [x] st (λr st'=>IsTm t r/\st'=st)
theorem xUy (v:Bool)(n:ByteArray)(us:List Tm)(IH:∀a∈us,hTC gl a):hTC gl (.mk v n us):=by
 intro x hx ac st;obtain⟨t,xs,rfl,ht,U⟩:=hx.mk;simp only[Tm.size] at ac;have hl:=yJ7 us;refine iI func88 ?_;simp only[go_sem,zE,zA,zL,U.len];intro _;refine LoopC.ctr us.length (λk fr st' ds=>(∃tg ys,fr 1=.box [.raw (.bool v),.raw (.string n),.sl tg ys]/\own st' tg k 3 st/\subSt st st'/\IsTms (us.take k) ys/\ys.length=k)/\fr 2=.box [.raw (.bool false),.raw (.string ⟨#[]⟩),.sl ⟨true,.nil,0⟩ []]/\fr 9=.iv (.sl t xs)/\fr 10=.iv (.raw (.int .i64 (us.length:Int)))/\fr 11=.iv (.raw (.int .i64 (k:Int)))/\ds=[]) ?_ ?_ ?_
 ·simp only[go_sem,zE];exact⟨⟨_,[],rfl,own.nil ..,subSt.refl _,rfl,rfl⟩,rfl⟩
 ·rintro k fr E _ J ⟨⟨tg,ys,f1,D,A,hys,G⟩,f2,f9,f10,f11,rfl⟩;obtain⟨a,ha⟩:=yQ1 J;obtain⟨z,ae,hz⟩:=U.get ha;obtain⟨h1,h2⟩:=yZz ha;have O:=IH a (lMg ha) z hz (by omega) E;obtain⟨v2,n2,m⟩:=a;obtain⟨tx,cx,rfl,an,aq⟩:=hz.mk;simp only[go_sem,zE,zB,zA,zL,f1,f9,f10,f11,lt_i J,yQ3 ht,iNn,ae,fits];refine O.mono ?_;rintro r E ⟨hr,rfl⟩;have hn:IsTms (us.take (k+1)) (ys++[r]):=by
   rw[yQ6 ha];exact hys.append (IsTms.one hr)
  obtain⟨t3,x3,rfl,_⟩:=hr.mk;simp only[go_sem,zE,zA,zM,zL,fits,yQ4];refine yZc D G A rfl (by simp[fits,IV.one]) (by simp only;omega) (by omega) λt' al w1 w2 w3=>?_;simp only[go_sem,zE,zA,zL,f1,f2,f9,f10,f11,yQc J (show us.length<=281474976710656 by omega)];exact⟨t',_,rfl,w1,w2,hn,by rw[lLa,G];rfl⟩
 ·rintro fr E _ ⟨⟨tg,ys,f1,D,A,hys,G⟩,f2,f9,f10,f11,rfl⟩;rw[lTl] at hys;simp only[go_sem,zE,zA,zL,f1,f2,f10,f11,yQl (nLi _)];exact yQg A ⟨⟨_,_,rfl,D.es,hys⟩,rfl⟩
theorem xZi:∀(k:Nat)(t:Tm),SizeOf.sizeOf t<k->hTC gl t
 | 0,t,h=>by omega
 | k+1,.mk v n us,h=>xUy gl v n us (λa A=>xZi k a (by
   have:=lSm A;simp at h;omega))
theorem xKa (t:Tm):hTC gl t:=xZi gl _ t (Nat.lt_succ_self _)
def visL (g:Nat->Tr->Option Tr):Nat->List Tr->Option (List Tr)
 | _,[]=>some []
 | k,s::l=>match g k s,visL g (k+1) l with
  | some z,some zs=>some (z::zs)
  | _,_=>none
theorem xVh {g:Nat->Tr->Option Tr}:∀ {k:Nat} {l zs:List Tr},visL g k l=some zs->zs.length=l.length/\∀(i:Nat) (s:Tr),l[i]?=some s->∃z,g (k+i) s=some z/\zs[i]?=some z
 | _,[],zs,h=>by cases h;exact⟨rfl,λi s h=>by simp at h⟩
 | k,s::l,zs,h=>by
  unfold visL at h;split at h
  ·rename_i z D h1 h2;cases h;obtain⟨J,G⟩:=xVh h2;refine⟨by simp[J],λi s' A=>?_⟩;cases i with
   | zero=>cases A;exact⟨z,h1,rfl⟩
   | succ i =>
    obtain⟨E,U,O⟩:=G i s' A;exact⟨E,by rw[show k+(i+1)=k+1+i by omega];exact U,O⟩
  ·cases h
def visG (g:Tr->Bool->List Nat->Option Tr)(o:Bool)(pl:List Nat)(k:Nat)(z:Tr):Option Tr:=if o=true/\pl.head?=some k then g z true pl.tail else g z false []
noncomputable def visB (g:Tr->Bool->List Nat->Option Tr)(o:Bool)(pl:List Nat):Tr->Option Tr
 | .mk r s m u nm sub=>if (decide (u.size<=1000000)&&decide (yQb s.l<=1000000)&&decide (yQb s.r<=1000000)&&decide (m.size<=1000000)&&decide (sub.length<=1000000))=true then (visL (visG g o pl) 0 sub).map (λrs=>.mk r s m u nm rs) else none
noncomputable def visF (f:Tr->Tr):Nat->Tr->Bool->List Nat->Option Tr
 | 0,_,_,_=>none
 | n+1,t,A,pl=>if A=true/\pl=[] then visB (visF f n) false pl (f t) else visB (visF f n) A pl t
theorem zJh {g:Tr->Bool->List Nat->Option Tr}{o:Bool}{pl:List Nat}{r:Nat}{s:Sq}{m:Fm}{u:Tm}{nm:ByteArray}{sub:List Tr}{A:Tr}(h:visB g o pl (.mk r s m u nm sub)=some A) :
  u.size<=1000000/\yQb s.l<=1000000/\yQb s.r<=1000000/\m.size<=1000000/\sub.length<=1000000/\∃rs,A=.mk r s m u nm rs/\rs.length=sub.length/\∀(i:Nat) (z:Tr),sub[i]?=some z->∃y,visG g o pl i z=some y/\rs[i]?=some y:=by
 rw[visB] at h;by_cases hc:(decide (u.size<=1000000)&&decide (yQb s.l<=1000000)&&decide (yQb s.r<=1000000)&&decide (m.size<=1000000)&&decide (sub.length<=1000000))=true
 ·rw[if_pos hc] at h;simp only[bAt,dTe] at hc;obtain⟨⟨⟨⟨c1,c2⟩,c3⟩,c4⟩,c5⟩:=hc;cases hv:visL (visG g o pl) 0 sub with
  | none=>rw[hv] at h;cases h
  | some rs =>
   rw[hv] at h;obtain⟨E,D⟩:=xVh hv;refine⟨c1,c2,c3,c4,c5,rs,by cases h;rfl,E,λi z G=>?_⟩;obtain⟨y,h1,h2⟩:=D i z G;rw[Nat.zero_add] at h1;exact⟨y,h1,h2⟩
 ·rw[if_neg hc] at h;cases h
theorem xWh {A:Tag}{es:Nat}(h:okEs A es)(len D l:Nat):okEs (yW2 (reTag es A) len D l none) es:=by
 have:=yQ3 h;unfold yW2;by_cases h1:(reTag es A).cap=.nil
 ·rw[if_pos h1];exact .inr this
 ·rw[if_neg h1];by_cases h2:l=0/\D=len
  ·simp only[if_pos h2];exact .inr this
  ·simp only[if_neg h2];exact .inr this
def visI (c:IV)(b:Nat):IV:=.fn (.func 85) [] [.cptr c,pt b]
theorem vKh (f:Tr->Tr)(g:Fn)(fi ca:List IV)(aI:∀i,g=.func i->entI prog i=true)(P:ISt->Prop)(hP:∀s s',P s->subSt s s'->P s')(aJ:∀t x st,P st->IsTr t x->ICallV prog gl (.fn g fi ca) [x] st (λr st'=>IsTr (f t) r/\st'=st))(b:Nat) :
  ∀(n:Nat) (t:Tr) (x:IV) (_:IsTr t x) (on:Bool) (pl:List Nat) (tg:Tag) (_:okEs tg 1) (_:pl.length<=1000000) (an:Tr) (_:visF f n t on pl=some an) (st:ISt) (_:P st) (_:st b=some (.box [visI (.fn g fi ca) b])),
   ICall prog gl 85 [x,.raw (.bool on),.sl tg (plI pl),.cptr (.fn g fi ca),pt b] st (λr st'=>IsTr an r/\st'=st)
 | 0,_,_,_,_,_,_,_,_,_,hv,_,_,_=>by cases hv
 | n+1,t,x,hx,on,pl,tg,aq,ba,an,hv,st,ai,hst=>by
  have IH:=λt x hx on pl tg aq ba an hv st ai hst=>vKh f g fi ca aI P hP aJ b n t x hx on pl tg aq ba an hv st ai hst;have cr:=hx;have ch:=λst hp=>aJ t x st hp hx;rw[visF] at hv;obtain⟨U,s1,m1,u1,ao,sub1⟩:=t;obtain⟨b8,b1,tr1,b0,cc,ci,cb,b4,b9,b2,v1,b6,b7,bZ,aC,aB,rfl,aD,e1,i1,e2,i2,hf,hu,e3,i3⟩:=hx.mk;refine ICall.intro (c:=cf prog gl [53,63] [(4,[0,1,2,3,5,6,8,9,11,12,14,4,7,10,13,15])]) func85 rfl (by show _<=71;simp) (by kernel_rfl) ?_;cases on
  ·rw[if_neg (by simp)] at hv;obtain⟨ku,k1,k2,k3,k4,rs,rfl,aw,av⟩:=zJh hv;simp only[go_sem,zE,zA,zL];have au:=λst=>wJu gl s1 _ ⟨_,_,_,_,rfl,e1,i1,e2,i2⟩ k1 k2 st;have ay:=λst=>yWm gl m1 _ hf (by omega) st;have htm:=λst=>xKa gl u1 _ hu ku st;refine (au _).mono ?_;rintro _ st ⟨⟨q1,y1,q2,y2,rfl,g1,j1,g2,j2⟩,rfl⟩;simp only[go_sem,zE,zA];refine (ay _).mono ?_;rintro _ st ⟨⟨ae,bO⟩,rfl⟩;have ac:=ae;obtain⟨o5,n5,t5,x5,t6,x6,rfl⟩:=ae.agg;simp only[go_sem,zE,zA];refine (htm _).mono ?_;rintro _ st ⟨ab,rfl⟩;have aa:=ab;obtain⟨v5,n6,bo⟩:=u1;obtain⟨q3,y3,rfl,_,_⟩:=ab.mk;simp only[go_sem,zE,zA,zL,fits,i3.len];intro _;refine LoopC.ctr sub1.length (λk fr st' ds=>(∃t y,fr 9=.box [.raw (.int .u8 U),.sl q1 y1,.sl q2 y2,.raw (.int .u8 o5),.raw (.string n5),.sl t5 x5,.sl t6 x6,.raw (.bool v5),.raw (.string n6),.sl q3 y3,.raw (.string ao),.sl t y]/\own st' t k 12 st/\subSt st st'/\IsTrs (rs.take k) y/\y.length=k) /\
    fr 1=.iv (.raw (.bool false))/\fr 2=.iv (.sl tg (plI pl))/\fr 4=.iv (pt b)/\fr 8=.box z12/\fr 36=.iv (.sl aC aB)/\fr 37=.iv (.raw (.int .i64 (sub1.length:Int)))/\fr 38=.iv (.raw (.int .i64 (k:Int)))/\ds=[]) ?_ ?_ ?_
   ·simp only[go_sem,zE,z12];exact⟨⟨_,[],rfl,own.nil ..,subSt.refl _,rfl,rfl⟩,rfl⟩
   ·rintro k fr G _ O ⟨⟨t,y,f9,D,A,hy,J⟩,f1,f2,f4,f8,f36,f37,f38,rfl⟩;obtain⟨a,ha⟩:=yQ1 O;obtain⟨z,al,hz⟩:=i3.get ha;obtain⟨w,hw,ak⟩:=av k a ha;have aj:=hz;have hb:=A _ _ hst;obtain⟨am,bs,bj,tr2,bi,bB,bR,bu,bl,bt,bk,v2,bp,bq,bg,n2,br,bh,rfl⟩:=yZy hz;rw[visG,if_neg (by simp)] at hw;have E:=IH a _ aj false [] ⟨true,.nil,0⟩ (.inl rfl) (Nat.zero_le _) w hw G (hP _ _ ai A) hb;simp only[go_sem,zE,zB,zA,zL,f9,f1,f4,f36,f37,f38,fits,lt_i O,yQ3 e3,iNn,al,pt,hb,visI];refine E.mono ?_;rintro r G ⟨hr,rfl⟩;have ah:=hr;obtain⟨af,aY,aO,tr3,aN,a8,bb,a1,aS,aZ,aQ,v3,aV,aW,aL,n3,aX,aM,rfl⟩:=yZy hr;simp only[go_sem,zE,zA,zM,zL,fits,yQ4];refine yZc D J A rfl (by simp[fits,IV.one]) (by simp only;omega) (by omega) λt' a7 w1 w2 w3=>?_;simp only[go_sem,zE,zA,zL,f9,f1,f2,f4,f8,f36,f37,f38,yQc O (show sub1.length<=281474976710656 by omega)];refine⟨⟨t',_,rfl,w1,w2,?_,by rw[lLa,J];rfl⟩,rfl⟩;rw[yQ6 ak];exact hy.append ⟨_,[],rfl,ah,rfl⟩
   ·rintro fr G _ ⟨⟨t,y,f9,D,A,hy,J⟩,f1,f2,f4,f8,f36,f37,f38,rfl⟩;rw[<- aw,lTl] at hy;simp only[go_sem,zE,zA,zL,f9,f8,f37,f38,z12,yQl (nLi _)];exact yQg A ⟨⟨_,_,_,_,_,_,_,_,_,_,_,_,_,_,_,_,rfl,aD,g1,j1,g2,j2,ac,aa,D.es,hy⟩,rfl⟩
  ·by_cases hp:pl=[]
   ·subst hp;rw[if_pos ⟨rfl,rfl⟩] at hv;have d:decide (((plI []).length:Int)=0)=true:=rfl;simp only[go_sem,zE,zA,zL,fits,d];intro _;refine yZ3 aI ((ch _ ai).mono ?_);rintro _ st ⟨bM,rfl⟩;generalize f (.mk U s1 m1 u1 ao sub1)=t1 at hv bM;obtain⟨U,s1,m1,u1,ao,sub1⟩:=t1;obtain⟨b8,b1,tr1,b0,cc,ci,cb,b4,b9,b2,v1,b6,b7,bZ,aC,aB,rfl,aD,e1,i1,e2,i2,hf,hu,e3,i3⟩:=bM.mk;obtain⟨ku,k1,k2,k3,k4,rs,rfl,aw,av⟩:=zJh hv;simp only[go_sem,zE,zA,zL];have au:=λst=>wJu gl s1 _ ⟨_,_,_,_,rfl,e1,i1,e2,i2⟩ k1 k2 st;have ay:=λst=>yWm gl m1 _ hf (by omega) st;have htm:=λst=>xKa gl u1 _ hu ku st;refine (au _).mono ?_;rintro _ st ⟨⟨q1,y1,q2,y2,rfl,g1,j1,g2,j2⟩,rfl⟩;simp only[go_sem,zE,zA];refine (ay _).mono ?_;rintro _ st ⟨⟨ae,bO⟩,rfl⟩;have ac:=ae;obtain⟨o5,n5,t5,x5,t6,x6,rfl⟩:=ae.agg;simp only[go_sem,zE,zA];refine (htm _).mono ?_;rintro _ st ⟨ab,rfl⟩;have aa:=ab;obtain⟨v5,n6,bo⟩:=u1;obtain⟨q3,y3,rfl,_,_⟩:=ab.mk;simp only[go_sem,zE,zA,zL,fits,i3.len];intro _;refine LoopC.ctr sub1.length (λk fr st' ds=>(∃t y,fr 9=.box [.raw (.int .u8 U),.sl q1 y1,.sl q2 y2,.raw (.int .u8 o5),.raw (.string n5),.sl t5 x5,.sl t6 x6,.raw (.bool v5),.raw (.string n6),.sl q3 y3,.raw (.string ao),.sl t y]/\own st' t k 12 st/\subSt st st'/\IsTrs (rs.take k) y/\y.length=k) /\
     fr 1=.iv (.raw (.bool false))/\fr 2=.iv (.sl tg (plI []))/\fr 4=.iv (pt b)/\fr 8=.box z12/\fr 36=.iv (.sl aC aB)/\fr 37=.iv (.raw (.int .i64 (sub1.length:Int)))/\fr 38=.iv (.raw (.int .i64 (k:Int)))/\ds=[]) ?_ ?_ ?_
    ·simp only[go_sem,zE,z12];exact⟨⟨_,[],rfl,own.nil ..,subSt.refl _,rfl,rfl⟩,rfl⟩
    ·rintro k fr G _ O ⟨⟨t,y,f9,D,A,hy,J⟩,f1,f2,f4,f8,f36,f37,f38,rfl⟩;obtain⟨a,ha⟩:=yQ1 O;obtain⟨z,al,hz⟩:=i3.get ha;obtain⟨w,hw,ak⟩:=av k a ha;have aj:=hz;have hb:=A _ _ hst;obtain⟨am,bs,bj,tr2,bi,bB,bR,bu,bl,bt,bk,v2,bp,bq,bg,n2,br,bh,rfl⟩:=yZy hz;rw[visG,if_neg (by simp)] at hw;have E:=IH a _ aj false [] ⟨true,.nil,0⟩ (.inl rfl) (Nat.zero_le _) w hw G (hP _ _ ai A) hb;simp only[go_sem,zE,zB,zA,zL,f9,f1,f4,f36,f37,f38,fits,lt_i O,yQ3 e3,iNn,al,pt,hb,visI];refine E.mono ?_;rintro r G ⟨hr,rfl⟩;have ah:=hr;obtain⟨af,aY,aO,tr3,aN,a8,bb,a1,aS,aZ,aQ,v3,aV,aW,aL,n3,aX,aM,rfl⟩:=yZy hr;simp only[go_sem,zE,zA,zM,zL,fits,yQ4];refine yZc D J A rfl (by simp[fits,IV.one]) (by simp only;omega) (by omega) λt' a7 w1 w2 w3=>?_;simp only[go_sem,zE,zA,zL,f9,f1,f2,f4,f8,f36,f37,f38,yQc O (show sub1.length<=281474976710656 by omega)];refine⟨⟨t',_,rfl,w1,w2,?_,by rw[lLa,J];rfl⟩,rfl⟩;rw[yQ6 ak];exact hy.append ⟨_,[],rfl,ah,rfl⟩
    ·rintro fr G _ ⟨⟨t,y,f9,D,A,hy,J⟩,f1,f2,f4,f8,f36,f37,f38,rfl⟩;rw[<- aw,lTl] at hy;simp only[go_sem,zE,zA,zL,f9,f8,f37,f38,z12,yQl (nLi _)];exact yQg A ⟨⟨_,_,_,_,_,_,_,_,_,_,_,_,_,_,_,_,rfl,aD,g1,j1,g2,j2,ac,aa,D.es,hy⟩,rfl⟩
   ·obtain⟨p0,pr,rfl⟩:=List.exists_cons_of_ne_nil hp;rw[if_neg (by simp)] at hv;obtain⟨ku,k1,k2,k3,k4,rs,rfl,aw,av⟩:=zJh hv;have d:decide (((plI (p0::pr)).length:Int)=0)=false:=by rw[yXj,List.length_cons];exact dEf (by omega)
    simp only[go_sem,zE,zA,zL,d];intro _;have au:=λst=>wJu gl s1 _ ⟨_,_,_,_,rfl,e1,i1,e2,i2⟩ k1 k2 st;have ay:=λst=>yWm gl m1 _ hf (by omega) st;have htm:=λst=>xKa gl u1 _ hu ku st;refine (au _).mono ?_;rintro _ st ⟨⟨q1,y1,q2,y2,rfl,g1,j1,g2,j2⟩,rfl⟩;simp only[go_sem,zE,zA];refine (ay _).mono ?_;rintro _ st ⟨⟨ae,bO⟩,rfl⟩;have ac:=ae;obtain⟨o5,n5,t5,x5,t6,x6,rfl⟩:=ae.agg;simp only[go_sem,zE,zA];refine (htm _).mono ?_;rintro _ st ⟨ab,rfl⟩;have aa:=ab;obtain⟨v5,n6,bo⟩:=u1;obtain⟨q3,y3,rfl,_,_⟩:=ab.mk;simp only[go_sem,zE,zA,zL,fits,i3.len];intro _;refine LoopC.ctr sub1.length (λk fr st' ds=>(∃t y,fr 9=.box [.raw (.int .u8 U),.sl q1 y1,.sl q2 y2,.raw (.int .u8 o5),.raw (.string n5),.sl t5 x5,.sl t6 x6,.raw (.bool v5),.raw (.string n6),.sl q3 y3,.raw (.string ao),.sl t y]/\own st' t k 12 st/\subSt st st'/\IsTrs (rs.take k) y/\y.length=k) /\
     fr 1=.iv (.raw (.bool true))/\fr 2=.iv (.sl tg (plI (p0::pr)))/\fr 4=.iv (pt b)/\fr 8=.box z12/\fr 36=.iv (.sl aC aB)/\fr 37=.iv (.raw (.int .i64 (sub1.length:Int)))/\fr 38=.iv (.raw (.int .i64 (k:Int)))/\ds=[]) ?_ ?_ ?_
    ·simp only[go_sem,zE,z12];exact⟨⟨_,[],rfl,own.nil ..,subSt.refl _,rfl,rfl⟩,rfl⟩
    ·rintro k fr G _ O ⟨⟨t,y,f9,D,A,hy,J⟩,f1,f2,f4,f8,f36,f37,f38,rfl⟩;obtain⟨a,ha⟩:=yQ1 O;obtain⟨z,al,hz⟩:=i3.get ha;obtain⟨w,hw,ak⟩:=av k a ha;have aj:=hz;have hb:=A _ _ hst;obtain⟨am,bs,bj,tr2,bi,bB,bR,bu,bl,bt,bk,v2,bp,bq,bg,n2,br,bh,rfl⟩:=yZy hz;have h0:(plI (p0::pr))[0]?=some (.raw (.int .i64 (p0:Int))):=rfl;have cg:yXb (some 1) none (plI (p0::pr)).length=some (1,pr.length+1):=by
      rw[yXj,List.length_cons];simp only[yXb,Option.getD_none,Option.getD_some];rw[if_pos ⟨by omega,by omega,by omega⟩];simp
     have ce:List.take (pr.length+1-1) (List.drop 1 (plI (p0::pr)))=plI pr:=by
      show List.take pr.length (plI pr)=_;rw[<- yXj pr,lTl]
     by_cases hk:k=p0
     ·subst hk;rw[visG,if_pos ⟨rfl,rfl⟩] at hw;simp only[go_sem,zE,zB,zA,zL,f9,f1,f2,f4,f36,f37,f38,fits,lt_i O,yQ3 e3,yQ3 aq,iNn,Int.le_refl,Int.toNat_zero,h0,decide_true,al,pt,hb,visI,cg];rw[ce];have E:=IH a _ aj true pr _ (xWh aq (plI (k::pr)).length (pr.length+1) 1) (by simp only[List.length_cons] at ba;omega) w hw G (hP _ _ ai A) hb;refine E.mono ?_;rintro r G ⟨hr,rfl⟩;have ah:=hr;obtain⟨af,aY,aO,tr3,aN,a8,bb,a1,aS,aZ,aQ,v3,aV,aW,aL,n3,aX,aM,rfl⟩:=yZy hr;simp only[go_sem,zE,zA,zM,zL,fits,yQ4];refine yZc D J A rfl (by simp[fits,IV.one]) (by simp only;omega) (by omega) λt' a7 w1 w2 w3=>?_;simp only[go_sem,zE,zA,zL,f9,f1,f2,f4,f8,f36,f37,f38,yQc O (show sub1.length<=281474976710656 by omega)];refine⟨⟨t',_,rfl,w1,w2,?_,by rw[lLa,J];rfl⟩,rfl⟩;rw[yQ6 ak];exact hy.append ⟨_,[],rfl,ah,rfl⟩
     ·rw[visG,if_neg (λh=>hk (by have:=h.2;simpa using this.symm))] at hw;have dk:decide ((k:Int)=(p0:Int))=false:=dEf (by omega);have E:=IH a _ aj false [] ⟨true,.nil,0⟩ (.inl rfl) (Nat.zero_le _) w hw G (hP _ _ ai A) hb;simp only[go_sem,zE,zB,zA,zL,f9,f1,f2,f4,f36,f37,f38,fits,lt_i O,yQ3 e3,yQ3 aq,iNn,Int.le_refl,Int.toNat_zero,h0,dk,al,pt,hb,visI];refine E.mono ?_;rintro r G ⟨hr,rfl⟩;have ah:=hr;obtain⟨af,aY,aO,tr3,aN,a8,bb,a1,aS,aZ,aQ,v3,aV,aW,aL,n3,aX,aM,rfl⟩:=yZy hr;simp only[go_sem,zE,zA,zM,zL,fits,yQ4];refine yZc D J A rfl (by simp[fits,IV.one]) (by simp only;omega) (by omega) λt' a7 w1 w2 w3=>?_;simp only[go_sem,zE,zA,zL,f9,f1,f2,f4,f8,f36,f37,f38,yQc O (show sub1.length<=281474976710656 by omega)];refine⟨⟨t',_,rfl,w1,w2,?_,by rw[lLa,J];rfl⟩,rfl⟩;rw[yQ6 ak];exact hy.append ⟨_,[],rfl,ah,rfl⟩
    ·rintro fr G _ ⟨⟨t,y,f9,D,A,hy,J⟩,f1,f2,f4,f8,f36,f37,f38,rfl⟩;rw[<- aw,lTl] at hy;simp only[go_sem,zE,zA,zL,f9,f8,f37,f38,z12,yQl (nLi _)];exact yQg A ⟨⟨_,_,_,_,_,_,_,_,_,_,_,_,_,_,_,_,rfl,aD,g1,j1,g2,j2,ac,aa,D.es,hy⟩,rfl⟩
theorem wU4 (f:Tr->Tr)(g:Fn)(fi ca:List IV)(E:∀i,g=.func i->entI prog i=true)(P:ISt->Prop)(hP:∀s s',P s->subSt s s'->P s')(G:∀t x st,P st->IsTr t x->ICallV prog gl (.fn g fi ca) [x] st (λr st'=>IsTr (f t) r/\st'=st))(n:Nat)(t:Tr)(x:IV)(hx:IsTr t x)(pl:List Nat)(O:Tag)(ab:okEs O 1)(ae:pl.length<=1000000)(A:Tr)(hv:visF f n t true pl=some A)(st:ISt)(af:P st) :
  ICall prog gl 47 [x,.sl O (plI pl),.fn g fi ca] st (λr st'=>IsTr A r/\st'=st):=by
 have D:=λb st=>vKh gl f g fi ca E P hP G b n t x hx true pl O ab ae A hv st;obtain⟨aa,aI,av,aG,aq,aO,aS,aM,az,aK,ax,v',aB,aD,al,n',aF,an,rfl⟩:=yZy hx;refine ICall.intro (c:=cf prog gl [7] [] [5]) func47 rfl (by show _<=13;simp) (by kernel_rfl) ?_;simp only[go_sem,zE,zA,zL];intro b;refine yQ8 λJ=>?_;refine (D b _ (hP _ _ af (yQa (yQa (subSt.refl _) J) J)) (ISt.put_same ..)).mono ?_;rintro r _ ⟨hr,rfl⟩;have ac:=hr;obtain⟨U,aH,au,tr3,ao,aN,aQ,aL,ay,aJ,aw,v3,aA,aC,ak,n3,aE,am,rfl⟩:=yZy hr;simp only[go_sem,zE,zA,zL];exact yQg (st':=st) (yQa (yQa (subSt.refl _) J) J) ⟨ac,rfl⟩
mutual
theorem zW8:∀(q:List Nat)(t:Tr)(x:List Nat×Tr),x∈t.walk q->x.2.steps<=t.steps
 | q,.mk _ _ _ _ _ sub,x,h=>by
  simp only[Tr.walk,List.mem_cons] at h;rcases h with rfl|h
  ·exact Nat.le_refl _
  ·have:=yUo q 0 sub x h;simp only[Tr.steps];omega
theorem yUo:∀(q:List Nat)(i:Nat)(l:List Tr)(x:List Nat×Tr),x∈yQk q i l->x.2.steps<=yQr l
 | _,_,[],x,h=>by simp[yQk] at h
 | q,i,a::l,x,h=>by
  simp only[yQk,List.mem_append] at h;simp only[yQr];rcases h with h|h
  ·have:=zW8 (q++[i]) a x h;omega
  ·have:=yUo q (i+1) l x h;omega
end
theorem zU7 (G:Gl gl)(T:Gt gl)(ca:Nat)(t:Tr)(x:IV)(hx:IsTr t x)(U:zKx t)(hs:t.steps<=1000000)(st:ISt):ICall prog gl 14 [.raw (.int .u8 (ca:Int)),x] st (λr st'=>(∃tg,r=.tup [.sl tg (plI (hCk ca t).1),.raw (.int .i64 ((hCk ca t).2:Int))]/\okEs tg 1)/\st'=st):=by
 have hst:=λst=>xYg gl x st t hx;have hN:=λst=>wVq gl t x hx (by omega) st;have ay:=λI=>xZg gl t x hx U.2 I;obtain⟨rule,tl,xl,tr,xr,op,fn,ta,xa,tb,xb,v,un,tu,xu,n,ts,xs,rfl⟩:=yZy hx;refine ICall.intro (c:=cf prog gl [2,4,5] [] [3]) func14 rfl (by show _<=27;simp) (by kernel_rfl) ?_;simp only[go_sem,zE,IV.one];intro b2;refine yQ8 λaA=>?_;intro b4;refine yQ8 λaa=>?_;intro b5;refine yQ8 λD=>?_;have af:b2≠b4:=by rintro rfl;rw[ISt.put_same] at aa;cases aa
 have ac:b4≠b5:=by rintro rfl;rw[ISt.put_same] at D;cases D
 have ak:b2≠b5:=by rintro rfl;rw[ISt.put_apply,if_neg af,ISt.put_same] at D;cases D
 rw[ISt.put_apply,if_neg af.symm] at aa;rw[ISt.put_apply,if_neg ac.symm,ISt.put_apply,if_neg ak.symm] at D;obtain⟨s1,av,f2,f4,f5,O⟩:∃s1,s1=((st.put b2 (some (.box [.raw (.int .u8 ca)]))).put b4 (some (.box [.sl ⟨true,.nil,0⟩ []]))).put b5 (some (.box [.raw (.int .i64 0)]))/\s1 b2=some (.box [.raw (.int .u8 ca)])/\s1 b4=some (.box [.sl ⟨true,.nil,0⟩ []])/\s1 b5=some (.box [.raw (.int .i64 0)])/\subSt st s1 :=
  ⟨_,rfl,by simp only[ISt.put_apply,if_neg af,if_neg ak,if_true],by simp only[ISt.put_apply,if_neg ac,if_true],by simp only[ISt.put_apply,if_true],yQa (yQa (yQa (subSt.refl st) aA) aa) D⟩
 rw[<- av];have g5:∀(s:ISt) o,(s.put b4 o) b5=s b5:=λs o=>by rw[ISt.put_apply,if_neg ac.symm]
 have g4:∀(s:ISt) o o',((s.put b4 o).put b5 o') b4=o:=λs o o'=>by rw[ISt.put_apply,if_neg ac,ISt.put_same]
 have A:∀(s:ISt) o o',subSt st s->subSt st ((s.put b4 o).put b5 o'):=λs o o' h=>yQa (yQa h aa) D;by_cases hc:ca=1\/ca=2
 ·obtain⟨a,d1,d2⟩:∃a:Bool,decide ((ca:Int)=1)=a/\(a=false->decide ((ca:Int)=2)=true):=by
   rcases hc with rfl|rfl
   ·exact⟨true,rfl,nofun⟩
   ·exact⟨false,rfl,λ_=>rfl⟩
  cases a
  all_goals first
   | (replace d2:=d2 rfl;simp only[go_sem,zE,zA,f2,d1,d2,fits])
   | simp only[go_sem,zE,zA,f2,d1,fits]
  all_goals
   refine (hN _).mono ?_;rintro _ aU ⟨rfl,rfl⟩;by_cases ae:300<t.steps
   ·have d3:decide ((300:Int)<(t.steps:Int))=true:=dEt (by omega);have hq:hCk ca t=([],5):=by unfold hCk;rw[if_pos hc,if_pos ae]
    simp only[go_sem,zE,zL,f4,f5,d3,g5,g4,ISt.put_same];exact yQg (A _ _ _ O) ⟨⟨_,by rw[hq];rfl,.inl rfl⟩,rfl⟩
   ·have d3:decide ((300:Int)<(t.steps:Int))=false:=dEf (by omega);have hq:hCk ca t=yQz (badN ca) (t.walk []):=by unfold hCk;rw[if_pos hc,if_neg ae]
    simp only[go_sem,zE,zA,d3,fits];refine (hst _).mono ?_;rintro _ _ ⟨rfl,rfl⟩;simp only[go_sem,reduceCtorEq];refine RangeL.intro (lkW (λx=>x) (t.walk [])) (t.walk []).length (λk s=>(s b2=some (.box [.raw (.int .u8 ca)])/\s b4=some (.box [.sl ⟨true,.nil,0⟩ []])/\s b5=some (.box [.raw (.int .i64 0)])/\subSt st s)/\yQz (badN ca) ((t.walk []).take k)=([],0)) (λe s=>CkS st b4 b5 (hCk ca t) e s) rfl ?_ ?_ ?_ (ay _) ?_ ?_
    ·rintro k a e ⟨p,u,a,y,_,_,_,rfl⟩;rfl
    ·exact⟨⟨f2,f4,f5,O⟩,by simp[yQz]⟩
    ·rintro k _ e s ⟨p,z,a,y,J,hz,hp,rfl⟩ hd ⟨⟨c2,c4,c5,E⟩,hf⟩;have aj:disj s e:=hd;have r2:=yZp aj _ _ c2;have ax:=yY8 [] t _ (lMg J);have aW:=U.2;simp only[List.length_nil] at ax;have aw:=λst=>wYn gl G T ca z y hz (U.1 _ (lMg J)) (Nat.le_trans (zW8 [] t _ (lMg J)) hs) st;have az:=wVw gl p a e s hp (by omega) aj;have ah:ivOf (.iv a)=some a:=by rcases hp with⟨t,rfl,_⟩|⟨g,cap,cs,rfl,_⟩<;>rfl
     obtain⟨aq,aO,aH,aN,aG,aV,aY,aS,aJ,aQ,aI,v',aK,aL,aE,n',aM,aF,rfl⟩:=yZy hz;simp only[go_sem,zE,zA,zL,r2,ah];refine (aw _).mono ?_;rintro _ _ ⟨rfl,rfl⟩;cases hr:yKu ca z
     ·have hb:badN ca z=270:=by unfold badN;rw[hr];rfl
      have hv:hCk ca t=(p,270):=by
       rw[hq]
       conv=>lhs;rw[<- List.take_append_drop k (t.walk [])]
       rw[List.drop_eq_getElem_cons (lGs J).1,(lGs J).2,yXu,hf];simp[yQz,hb]
      simp only[go_sem,zE,zA,ah];refine az.mono ?_;rintro _ _ ⟨⟨t',rfl,au⟩,rfl⟩;simp only[go_sem,zE,zL,c4,c5,g5];refine⟨rfl,⟨t',?_,au⟩,?_,A _ _ _ E⟩
      ·rw[g4,hv]
      ·rw[ISt.put_same,hv];rfl
     ·have hb:badN ca z=0:=by unfold badN;rw[hr];rfl
      simp only[go_sem];refine⟨s,⟨⟨c2,c4,c5,E⟩,?_⟩,hd,rfl⟩;rw[yQ6 J,yXu,hf];simp[yQz,hb]
    ·rintro s r ⟨⟨c2,c4,c5,E⟩,hf⟩;rw[lTl,<- hq] at hf;simp only[go_sem,zE,zL,c4,c5,g5,g4,ISt.put_same];exact yQg (A _ _ _ E) ⟨⟨_,by rw[hf];rfl,.inl rfl⟩,rfl⟩
    ·rintro e s r ⟨rfl,⟨tg,c4,ht⟩,c5,E⟩;simp only[go_sem,zE,c4,c5];exact yQg E ⟨⟨_,rfl,ht⟩,rfl⟩
 ·have d1:decide ((ca:Int)=1)=false:=dEf (by omega);have d2:decide ((ca:Int)=2)=false:=dEf (by omega);have hq:hCk ca t=([],2):=by unfold hCk;rw[if_neg hc]
  simp only[go_sem,zE,zL,f2,f4,f5,d1,d2,g5,g4,ISt.put_same];exact yQg (A _ _ _ O) ⟨⟨_,by rw[hq];rfl,.inl rfl⟩,rfl⟩
noncomputable def lowB (j:Bool)(h:Nat)(ps:List Sn):Bool:=ps.all λp=>decide (1<=Tryz.hF j p)&&decide (Tryz.hF j p<h)
abbrev mvZ:IV:=.agg [.raw (.int .u8 0),.raw (.int .u8 0),.raw (.string ⟨#[]⟩),.sl ⟨true,.nil,0⟩ [],.sl ⟨true,.nil,0⟩ [],.sl ⟨true,.nil,0⟩ []]
theorem vZo (ca:Nat)(v:Nat×Fm×List Sn)(x:IV)(hv:yK8 v x)(h:Nat)(ae:v.2.2.length<=1000000)(hp:∀p∈v.2.2,∀y st,IsSq ⟨p.1,p.2⟩ y->ICall prog gl 15 [.raw (.int .u8 (ca:Int)),y] st (λr st'=>r=.tup [.raw (.int .i64 (Tryz.hF (calJ ca) p:Int)),.raw (.int .i64 0)]/\st'=st))(st:ISt) :
  ICall prog gl 98 [.raw (.int .u8 (ca:Int)),x,.raw (.int .i64 (h:Int))] st (λr st'=>r=.tup [.raw (.bool (lowB (calJ ca) h v.2.2)),.raw (.int .i64 0)]/\st'=st):=by
 obtain⟨o,n,t1,x1,t2,x2,t3,x3,rfl,hf,e3,h3⟩:=hv;have ac:=h3.1;refine iI func98 ?_;simp only[go_sem,zE,ac];intro _;refine LoopC.ctr v.2.2.length (λk fr st' ds=>lowB (calJ ca) h (v.2.2.take k)=true/\st'=st/\fr 0=.iv (.raw (.int .u8 (ca:Int)))/\fr 2=.iv (.raw (.int .i64 (h:Int)))/\fr 13=.iv (.sl t3 x3)/\fr 14=.iv (.raw (.int .i64 (v.2.2.length:Int)))/\fr 15=.iv (.raw (.int .i64 (k:Int)))/\ds=[]) ?_ ?_ ?_
 ·simp only[go_sem,zE,reduceCtorEq];exact⟨rfl,rfl⟩
 ·rintro k fr E _ J ⟨D,rfl,f0,f2,f13,f14,f15,rfl⟩;obtain⟨p,G⟩:=yQ1 J;obtain⟨y,hy,aa⟩:=h3.2 k p G;have hL:=hp p (lMg G) y;have U:=aa;obtain⟨ta,xa,tb,xb,rfl,ea,ia,eb,ib⟩:=aa;have O:=hL E U;simp only[go_sem,zE,zB,zA,zL,reduceCtorEq,f0,f13,f14,f15,fits,lt_i J,yQ3 e3,iNn,hy];refine O.mono ?_;rintro _ E ⟨rfl,rfl⟩;have A:lowB (calJ ca) h (v.2.2.take (k+1))=(decide (1<=Tryz.hF (calJ ca) p)&&decide (Tryz.hF (calJ ca) p<h)):=by
   rw[yQ6 G];unfold lowB at D ⊢;rw[List.all_append,D];simp
  have ab:∀b:Bool,lowB (calJ ca) h (v.2.2.take (k+1))=false->lowB (calJ ca) h v.2.2=false:=λ_ hb=>by
   rw[<- List.take_append_drop (k+1) v.2.2];unfold lowB at hb ⊢;rw[List.all_append,hb];rfl
  by_cases h1:1<=Tryz.hF (calJ ca) p
  ·have d1:decide ((Tryz.hF (calJ ca) p:Int)<1)=false:=dEf (by omega);by_cases h2:Tryz.hF (calJ ca) p<h
   ·have d2:decide ((h:Int)<=(Tryz.hF (calJ ca) p:Int))=false:=dEf (by omega);rw[dEt h1,dEt h2] at A;simp only[go_sem,zE,reduceCtorEq,f0,f2,f13,f14,f15,decide_true,d1,d2,yQc J (show v.2.2.length<=281474976710656 by omega)];exact A
   ·have d2:decide ((h:Int)<=(Tryz.hF (calJ ca) p:Int))=true:=dEt (by omega);rw[dEf h2,Bool.and_false] at A;simp only[go_sem,zE,f2,decide_true,d1,d2];exact yQ0 ⟨by rw[ab true A],rfl⟩
  ·have d1:decide ((Tryz.hF (calJ ca) p:Int)<1)=true:=dEt (by omega);rw[dEf h1,Bool.false_and] at A;simp only[go_sem,zE,decide_true,d1];exact yQ0 ⟨by rw[ab true A],rfl⟩
 ·rintro fr E _ ⟨D,rfl,f0,f2,f13,f14,f15,rfl⟩;rw[lTl] at D;simp only[go_sem,zE,f14,f15,yQl (nLi _)];exact yQ0 ⟨by rw[D],rfl⟩
noncomputable def clM (s:Sq):Nat×Fm×List Sn:=match s.l.find? (hasF s.r) with
 | some f=>(1,f,[])
 | none=>(2,.mk 2 noN [] [],[])
theorem xZz (G:Gl gl)(T:Gt gl)(s s1:Sq)(x:IV)(hx:IsSq s x)(hs:yXq s)(hl:s.l.length<=64/\s.r.length<=64)(h1:SetS s=(s1,0))(aa:yXq s1)(am:s1.l.length<=64)(st:ISt) :
  ICall prog gl 96 [x] st (λr st'=>(∃z,yK8 (clM s1) z/\r=.tup [z,.raw (.int .i64 0)])/\st'=st):=by
 have hS:=λst=>kXb gl G T s x hx hs ⟨by omega,by omega⟩ st;rw[h1] at hS;obtain⟨t1,x1,t2,x2,rfl,e1,i1,e2,i2⟩:=hx;refine iI func96 ?_;simp only[go_sem,zE,zA,zL];refine (hS _).mono ?_;rintro _ st ⟨⟨y,rfl,hy⟩,rfl⟩;obtain⟨t3,x3,t4,x4,rfl,e3,i3,e4,i4⟩:=hy;simp only[go_sem,zE,zA,zL,i3.len,show decide (((0:Nat):Int)=0)=true from rfl];intro _;refine LoopC.ctr s1.l.length (λk fr st' ds=>(∀g∈s1.l.take k,hasF s1.r g=false)/\st'=st/\fr 1=.box [.sl t3 x3,.sl t4 x4]/\fr 2=.box [.raw (.int .u8 0),.raw (.int .u8 0),.raw (.string ⟨#[]⟩),.sl ⟨true,.nil,0⟩ [],.sl ⟨true,.nil,0⟩ [],.sl ⟨true,.nil,0⟩ []]/\fr 17=.iv (.sl t3 x3)/\fr 18=.iv (.raw (.int .i64 (s1.l.length:Int)))/\fr 19=.iv (.raw (.int .i64 (k:Int)))/\ds=[]) ?_ ?_ ?_
 ·simp only[go_sem,zE];exact⟨nofun,rfl⟩
 ·rintro k fr U _ E ⟨A,rfl,f1,f2,f17,f18,f19,rfl⟩;obtain⟨g,hg⟩:=yQ1 E;obtain⟨z,hz,J⟩:=i3.get hg;have ae:=lMg hg;have hH:=λst=>zYq gl G s1.r g t4 x4 z e4 i4 J aa.2 (aa.1 g ae) st;have ac:=J;obtain⟨o5,n5,t5,x5,t6,x6,rfl⟩:=J.agg;simp only[go_sem,zE,zB,zA,zL,f1,f17,f18,f19,fits,lt_i E,yQ3 e3,iNn,hz];refine (hH _).mono ?_;rintro _ U ⟨rfl,rfl⟩;cases hb:hasF s1.r g
  ·simp only[go_sem,zE,f1,f2,f17,f18,f19,yQc E (show s1.l.length<=281474976710656 by omega)];refine λq D=>?_;rw[yQ6 hg] at D;rcases List.mem_append.1 D with D|D
   ·exact A q D
   ·rw[List.mem_singleton.1 D];exact hb
  ·have O:clM s1=(1,g,[]):=by
    have hf:s1.l.find? (hasF s1.r)=some g:=by
     rw[<- List.take_append_drop k s1.l,List.drop_eq_getElem_cons E,(lGs hg).2,List.find?_append,List.find?_eq_none.2 λq D=>by rw[A q D];simp];simp[hb]
    simp only[clM,hf]
   rw[O];simp only[go_sem,zE,zA,zL,f2,fits];exact yQ0 ⟨⟨_,⟨_,_,_,_,_,_,_,_,rfl,ac,.inl rfl,AllR.nil⟩,rfl⟩,rfl⟩
 ·rintro fr U _ ⟨A,rfl,f1,f2,f17,f18,f19,rfl⟩;rw[lTl] at A;have O:clM s1=(2,.mk 2 noN [] [],[]):=by
   have hf:s1.l.find? (hasF s1.r)=none:=List.find?_eq_none.2 λq D=>by rw[A q D];simp
   simp only[clM,hf]
  rw[O];simp only[go_sem,zE,zA,zL,f2,f18,f19,yQl (nLi _),fits];exact yQ0 ⟨⟨_,⟨_,_,_,_,_,_,_,_,rfl,by simp only[IsFm];exact⟨_,_,_,_,rfl,by decide,.inl rfl,rfl,.inl rfl,rfl⟩,.inl rfl,AllR.nil⟩,rfl⟩,rfl⟩
theorem zKo (G:Gl gl)(T:Gt gl)(ca:Nat)(s:Sq)(hc:ca=1\/ca=2)(hv:yQm ca s=true)(h:Nat)(m:Nat×Fm×List Sn)(x:IV)(hx:IsSq s x)(hs:yXq s)
  (aq:ClF s.l s.r->∀st,ICall prog gl 96 [x] st (λr st'=>(∃z,yK8 m z/\r=.tup [z,.raw (.int .i64 0)])/\st'=st))
  (an:¬ ClF s.l s.r->¬ zGt (calJ ca) (nf (s.l,s.r))/\(mvF (calJ ca) (nf (s.l,s.r))).find? (λv=>lowB (calJ ca) h v.2.2)=some m/\(mvF (calJ ca) (nf (s.l,s.r))).length<=1000000/\∀v∈mvF (calJ ca) (nf (s.l,s.r)),v.2.2.length<=1000000/\∀p∈v.2.2,∀y st,IsSq ⟨p.1,p.2⟩ y->ICall prog gl 15 [.raw (.int .u8 (ca:Int)),y] st (λr st'=>r=.tup [.raw (.int .i64 (Tryz.hF (calJ ca) p:Int)),.raw (.int .i64 0)]/\st'=st)) (st:ISt) :
  ICall prog gl 58 [.raw (.int .u8 (ca:Int)),x,.raw (.int .i64 (h:Int))] st (λr st'=>(∃z,yK8 m z/\r=.tup [z,.raw (.int .i64 0)])/\st'=st):=by
 have hC:=λst=>wG8 gl G T ca s x hx hs st;have hM:=λhn st=>vZk gl G T ca s hc hv hn x hx hs st;obtain⟨t1,x1,t2,x2,rfl,e1,i1,e2,i2⟩:=hx;refine iI func58 ?_;simp only[go_sem,zE,zA,zL,reduceCtorEq];refine (hC _).mono ?_;rintro r st ⟨rfl,hr⟩;obtain⟨b,hb,rfl⟩:∃b:Bool,(b=true↔ClF s.l s.r)/\r=.tup [.raw (.bool b),.raw (.int .i64 0)]:=by
  rcases hr with⟨h,_⟩|⟨_,h,_⟩|⟨_,_,h⟩
  ·exact absurd hc h
  ·rw[hv] at h;cases h
  ·exact h
 cases b
 ·have ae:¬ ClF s.l s.r:=λh=>by have:=hb.2 h;cases this
  obtain⟨ab,A,hml,U⟩:=an ae;simp only[go_sem,zE,zA,zL,reduceCtorEq,decide_true];refine (hM ab _).mono ?_;rintro _ st ⟨⟨t,ys,ht,hys,rfl⟩,rfl⟩;generalize mvF (calJ ca) (nf (s.l,s.r))=L at A hml U hys;have ai:=hys.1;simp only[go_sem,zE,decide_true,ai];intro _;refine LoopC.ctr L.length (λk fr st' ds=>(∀v∈L.take k,lowB (calJ ca) h v.2.2=false)/\st'=st/\fr 0=.iv (.raw (.int .u8 (ca:Int)))/\fr 2=.iv (.raw (.int .i64 (h:Int)))/\fr 6=.box [.raw (.int .u8 0),.raw (.int .u8 0),.raw (.string ⟨#[]⟩),.sl ⟨true,.nil,0⟩ [],.sl ⟨true,.nil,0⟩ [],.sl ⟨true,.nil,0⟩ []]/\fr 40=.iv (.sl t ys)/\fr 41=.iv (.raw (.int .i64 (L.length:Int)))/\fr 42=.iv (.raw (.int .i64 (k:Int)))/\ds=[]) ?_ ?_ ?_
  ·simp only[go_sem,zE,reduceCtorEq];exact⟨nofun,rfl⟩
  ·rintro k fr ac _ O ⟨D,rfl,f0,f2,f6,f40,f41,f42,rfl⟩;obtain⟨v,J⟩:=yQ1 O;obtain⟨y,hy,aa⟩:=hys.2 k v J;obtain⟨am,al⟩:=U v (lMg J);have ao:=λst=>vZo gl ca v y aa h am al st;have aj:=aa;obtain⟨o,n,q1,z1,q2,z2,q3,z3,rfl,_⟩:=aa;simp only[go_sem,zE,zB,zA,zL,reduceCtorEq,f0,f2,f40,f41,f42,fits,lt_i O,yQ3 ht,iNn,hy];refine (ao _).mono ?_;rintro _ ac ⟨rfl,rfl⟩;cases ag:lowB (calJ ca) h v.2.2
   ·simp only[go_sem,zE,reduceCtorEq,f0,f2,f6,f40,f41,f42,decide_true,yQc O (show L.length<=281474976710656 by omega)];refine λq E=>?_;rw[yQ6 J] at E;rcases List.mem_append.1 E with E|E
    ·exact D q E
    ·rw[List.mem_singleton.1 E];exact ag
   ·have af:m=v:=by
     rw[<- List.take_append_drop k L,List.drop_eq_getElem_cons O,(lGs J).2,List.find?_append,List.find?_eq_none.2 λq E=>by rw[D q E];simp] at A;simpa[ag] using A.symm
    subst af;simp only[go_sem,zE,zA,zL,f6,decide_true];exact yQ0 ⟨⟨_,aj,rfl⟩,rfl⟩
  ·rintro fr ac _ ⟨D,rfl,f0,f2,f6,f40,f41,f42,rfl⟩;rw[lTl] at D;rw[List.find?_eq_none.2 λq E=>by rw[D q E];simp] at A;cases A
 ·simp only[go_sem,zE,zA,zL,decide_true];refine (aq (hb.1 rfl) _).mono ?_;rintro _ st ⟨⟨z,hz,rfl⟩,rfl⟩;have ah:=hz;obtain⟨o,n,q1,z1,q2,z2,q3,z3,rfl,_⟩:=hz;simp only[go_sem,zE,zA,zL];exact yQ0 ⟨⟨_,ah,rfl⟩,rfl⟩
abbrev nlS:IV:=.sl ⟨true,.nil,0⟩ []
def xXe (ca:Nat)(t:Tr)(h:Nat)(m:Nat×Fm×List Sn)(r:IV):Prop :=
 ((hCk ca t).2≠0/\r=.tup [nlS,.raw (.int .i64 0),mvZ,.raw (.int .i64 ((hCk ca t).2:Int))]) \/
 ((hCk ca t).2=0/\yZu t=[]/\r=.tup [nlS,.raw (.int .i64 0),mvZ,.raw (.int .i64 271)]) \/
 ((hCk ca t).2=0/\∃p ps A,yZu t=p::ps/\okEs A 1/\((h=0/\r=.tup [.sl A (plI p),.raw (.int .i64 0),mvZ,.raw (.int .i64 272)])\/(0<h/\∃z,yK8 m z/\r=.tup [.sl A (plI p),.raw (.int .i64 (h:Int)),z,.raw (.int .i64 0)])))
def wVt (ca:Nat)(t:Tr)(h e:Nat)(m:Nat×Fm×List Sn)(F:Prop)(r:IV):Prop :=
 ((hCk ca t).2≠0/\r=.tup [nlS,.raw (.int .i64 0),mvZ,.raw (.int .i64 ((hCk ca t).2:Int))]) \/
 ((hCk ca t).2=0/\yZu t=[]/\r=.tup [nlS,.raw (.int .i64 0),mvZ,.raw (.int .i64 271)]) \/
 ((hCk ca t).2=0/\∃p ps A,yZu t=p::ps/\okEs A 1/\((e≠0/\r=.tup [nlS,.raw (.int .i64 0),mvZ,.raw (.int .i64 (e:Int))])\/(e=0/\F/\((h=0/\r=.tup [.sl A (plI p),.raw (.int .i64 0),mvZ,.raw (.int .i64 272)])\/(0<h/\∃z,yK8 m z/\r=.tup [.sl A (plI p),.raw (.int .i64 (h:Int)),z,.raw (.int .i64 0)])))))
theorem zKr {t:Tr}{p:List Nat}{ps:List (List Nat)}(h:yZu t=p::ps):okP t p/\p.length<=t.steps:=by
 have D:p∈yZu t:=by rw[h];exact .head _
 unfold yZu at D;obtain⟨⟨q,z⟩,A,rfl⟩:=List.mem_map.1 D;have A:=(List.mem_filter.1 A).1;obtain⟨p',h1,h2,_⟩:=xWg [] t q z A;have:=yY8 [] t _ A;have E:=t.height_le_steps;simp only[List.length_nil] at this;rw[List.nil_append] at h1;exact⟨h1▸h2,by show q.length<=_;omega⟩
theorem xYv (G:Gl gl)(T:Gt gl)(au:∀g x,gl g=some x->age x=x)(ca:Nat)(t:Tr)(x:IV)(hx:IsTr t x)(aa:zKx t)(hs:t.steps<=1000000)(h e:Nat)(m:Nat×Fm×List Sn)(F:Prop)
  (hL:∀p ps,(hCk ca t).2=0->yZu t=p::ps->∀y st,IsSq (atT t p).sq y->ICall prog gl 15 [.raw (.int .u8 (ca:Int)),y] st (λr st'=>(r=.tup [.raw (.int .i64 (h:Int)),.raw (.int .i64 (e:Int))]/\(e=0->F))/\st'=st))
  (hB:F->∀p ps,0<h->(hCk ca t).2=0->yZu t=p::ps->∀y st,IsSq (atT t p).sq y->ICall prog gl 58 [.raw (.int .u8 (ca:Int)),y,.raw (.int .i64 (h:Int))] st (λr st'=>(∃z,yK8 m z/\r=.tup [z,.raw (.int .i64 0)])/\st'=st)) (st:ISt) :
  ICall prog gl 30 [.raw (.int .u8 (ca:Int)),x] st (λr st'=>wVt ca t h e m F r/\st'=st):=by
 have hC:=λst=>zU7 gl G T ca t x hx aa hs st;have hG:=λst=>zUs gl au t x hx hs st;have hA:=λp hp tg D hl st=>at_c gl t x hx p hp tg D hl st;obtain⟨rule,tl,xl,tr,xr,op,fn,ta,xa,tb,xb,v,un,tu,xu,n,ts,xs,rfl⟩:=yZy hx;refine ICall.intro (c:=cf prog gl [] [(7,[0,1,2,3,6,4,5,7])]) func30 rfl (by show _<=69;simp) (by kernel_rfl) ?_;simp only[go_sem,zE,zA,zL,reduceCtorEq];refine (hC _).mono ?_;rintro _ st ⟨⟨aM,rfl,_⟩,rfl⟩;by_cases h0:(hCk ca t).2=0
 ·have d0:decide (((hCk ca t).2:Int)=0)=true:=dEt (by omega);simp only[go_sem,zE,zA,zL,d0];refine (hG _).mono ?_;rintro _ st ⟨⟨tg,ys,rfl,D,hys⟩,rfl⟩;cases A:yZu t with
  | nil =>
   rw[A] at hys;obtain rfl:ys=[]:=List.eq_nil_of_length_eq_zero hys.1;simp only[go_sem,zE,zA,zL,show decide (((0:Nat):Int)=0)=true from rfl];exact yQ0 ⟨.inr (.inl ⟨h0,A,rfl⟩),rfl⟩
  | cons p ps =>
   rw[A] at hys;obtain⟨y,hy,O,rfl,E⟩:=hys.2 0 p rfl;obtain⟨zs,rfl⟩:∃zs,ys=.sl O (plI p)::zs:=by
    cases ys with
    | nil=>cases hy
    | cons a zs=>cases hy;exact⟨zs,rfl⟩
   obtain⟨aq,ao⟩:=zKr A;have d1:decide (((zs.length+1:Nat):Int)=0)=false:=dEf (by omega);have ha:=hA p aq O E (Nat.le_trans ao hs);simp only[go_sem,zE,zA,zL,fits,d1,yQ3 D];intro _;refine (ha _).mono ?_;rintro r st ⟨hr,rfl⟩;have ab:=hL p ps h0 A;have ac:=λhF J=>hB hF p ps J h0 A;generalize atT t p=z at hr ab ac;obtain⟨ak,aj,f',u',n',aA⟩:=z;obtain⟨ai,ag,ah,af,aQ,aX,aO,aI,aN,aH,v',aJ,aK,aF,aL,aG,rfl,_,ay,am,ax,al,_⟩:=hr.mk;have U:IsSq aj (.agg [.sl ai ag,.sl ah af]):=⟨_,_,_,_,rfl,ay,am,ax,al⟩
   have av:=λst=>ab _ st U;have aw:=λhF J st=>ac hF J _ st U;simp only[go_sem,zE,zA,zL,reduceCtorEq];refine (av _).mono ?_;rintro _ st ⟨⟨rfl,hF⟩,rfl⟩;by_cases he:e=0
   case neg =>
    have d3:decide ((e:Int)=0)=false:=dEf (by omega);simp only[go_sem,zE,zA,zL,d3];exact yQ0 ⟨.inr (.inr ⟨h0,p,ps,O,A,E,.inl ⟨he,rfl⟩⟩),rfl⟩
   subst he;have hF:=hF rfl;rcases Nat.eq_zero_or_pos h with rfl|J
   ·simp only[go_sem,zE,zA,zL,fits,show decide (((0:Nat):Int)=0)=true from rfl,yQ3 D,Int.le_refl,Int.toNat_zero];exact yQ0 ⟨.inr (.inr ⟨h0,p,ps,O,A,E,.inr ⟨rfl,hF,.inl ⟨rfl,rfl⟩⟩⟩),rfl⟩
   ·have d2:decide ((h:Int)=0)=false:=dEf (by omega);simp only[go_sem,zE,zA,zL,reduceCtorEq,show decide (((0:Nat):Int)=0)=true from rfl,d2];refine (aw hF J _).mono ?_;rintro _ st ⟨⟨z,hz,rfl⟩,rfl⟩;have an:=hz;obtain⟨o,n,q1,z1,q2,z2,q3,z3,rfl,_⟩:=hz;simp only[go_sem,zE,zA,zL,fits,decide_true,yQ3 D,Int.le_refl,Int.toNat_zero];exact yQ0 ⟨.inr (.inr ⟨h0,p,ps,O,A,E,.inr ⟨rfl,hF,.inr ⟨J,_,an,rfl⟩⟩⟩),rfl⟩
 ·have d0:decide (((hCk ca t).2:Int)=0)=false:=dEf (by omega);simp only[go_sem,zE,zA,zL,d0];exact yQ0 ⟨.inl ⟨h0,rfl⟩,rfl⟩
theorem wKd (G:Gl gl)(T:Gt gl)(D:∀g x,gl g=some x->age x=x)(ca:Nat)(t:Tr)(x:IV)(U:IsTr t x)(A:zKx t)(hs:t.steps<=1000000)(h:Nat)(m:Nat×Fm×List Sn)
  (hL:∀p ps,(hCk ca t).2=0->yZu t=p::ps->∀y st,IsSq (atT t p).sq y->ICall prog gl 15 [.raw (.int .u8 (ca:Int)),y] st (λr st'=>r=.tup [.raw (.int .i64 (h:Int)),.raw (.int .i64 0)]/\st'=st))
  (hB:∀p ps,0<h->(hCk ca t).2=0->yZu t=p::ps->∀y st,IsSq (atT t p).sq y->ICall prog gl 58 [.raw (.int .u8 (ca:Int)),y,.raw (.int .i64 (h:Int))] st (λr st'=>(∃z,yK8 m z/\r=.tup [z,.raw (.int .i64 0)])/\st'=st)) (st:ISt) :
  ICall prog gl 30 [.raw (.int .u8 (ca:Int)),x] st (λr st'=>xXe ca t h m r/\st'=st) :=
 (xYv gl G T D ca t x U A hs h 0 m True (λp ps h0 hg y st O=>(hL p ps h0 hg y st O).mono λ_ _ ⟨a,b⟩=>⟨⟨a,λ_=>trivial⟩,b⟩) (λ_=>hB) st).mono λr st' ⟨a,b⟩=>⟨by
  rcases a with a|a|⟨h0,p,ps,J,h1,h2,⟨E,_⟩|⟨_,_,E⟩⟩
  ·exact .inl a
  ·exact .inr (.inl a)
  ·exact absurd rfl E
  ·exact .inr (.inr ⟨h0,p,ps,J,h1,h2,E⟩),b⟩
def vQj (t:Tr):Tr:=goalT t.sq
def folF (m:Nat×Fm×List Sn)(t:Tr):Tr:=.mk m.1 t.sq m.2.1 tmZ noN (m.2.2.map λp=>goalT ⟨p.1,p.2⟩)
theorem vQk (t:Tr)(x:IV)(hx:IsTr t x)(st:ISt):ICall prog gl 48 [x] st (λr st'=>IsTr (vQj t) r/\st'=st):=by
 obtain⟨A,aj,f',u',n',D⟩:=t;obtain⟨ag,O,af,J,ak,am,ai,aa,ah,U,v',ab,ac,E,ae,G,rfl,_,e1,i1,e2,i2,_⟩:=hx.mk;refine iI func48 ?_;simp only[go_sem,zE,zA,zL,fits];exact yQ0 ⟨⟨_,_,_,_,_,_,_,_,_,_,_,_,_,_,_,_,rfl,by decide,e1,i1,e2,i2,xKk,zYy,.inl rfl,rfl⟩,rfl⟩
theorem vQu {s:Sq}{x:IV}(h:IsSq s x):IsSq s (age x):=by
 obtain⟨t,G,A,ys,rfl,E,i1,D,i2⟩:=h;exact⟨⟨false,t.cap,t.es⟩,_,⟨false,A.cap,A.es⟩,_,by simp only[age,ages],E,i1.aged,D,i2.aged⟩
theorem wVa {l:List IV}{i:Nat}{x:IV}(h:l[i]?=some x):(ages l)[i]?=some (age x):=by
 induction l generalizing i with
 | nil=>simp at h
 | cons a l A =>
  cases i with
  | zero=>cases h;simp[ages]
  | succ i=>simp only[ages,List.getElem?_cons_succ] at h ⊢;exact A h
theorem zVn:∀l:List IV,(ages l).length=l.length
 | []=>by simp[ages]
 | _::l=>by simp[ages,zVn l]
theorem vZi {m:Nat×Fm×List Sn}{x:IV}(h:yK8 m x):yK8 m (age x):=by
 obtain⟨o,n,t1,U,t2,O,t3,E,rfl,G,J,D⟩:=h;have A:=G.aged;simp only[age,ages] at A;refine⟨_,_,_,_,_,_,⟨false,t3.cap,t3.es⟩,ages E,by simp only[age,ages],A,J,by rw[zVn];exact D.1,λi p hp=>?_⟩;obtain⟨y,h1,h2⟩:=D.2 i p hp;exact⟨_,wVa h1,vQu h2⟩
theorem wK1 (m:Nat×Fm×List Sn)(z:List IV)(hm:yK8 m (.agg z))(hr:m.1<256)(hl:m.2.2.length<=1000000)(t:Tr)(x:IV)(hx:IsTr t x)(st:ISt):ICall prog gl 50 [x,.cptr (.agg z)] st (λr st'=>IsTr (folF m t) r/\st'=st):=by
 obtain⟨ae,aE,f',u',n',ai⟩:=t;obtain⟨ab,U,aa,O,aF,aM,aB,an,aA,am,v',ax,ay,ak,az,al,rfl,_,e1,i1,e2,i2,_⟩:=hx.mk;obtain⟨o,n,t1,x1,t2,x2,t3,x3,hz,hf,e3,h3⟩:=hm;injection hz with hz;subst hz;have ah:=h3.1;refine iI func50 ?_;simp only[go_sem,zE,zB,zA,zL,fits,ah];intro _;refine LoopC.ctr m.2.2.length (λk fr st' ds=>(∃t y,fr 4=.box [.raw (.int .u8 (m.1:Int)),.sl ab U,.sl aa O,.raw (.int .u8 o),.raw (.string n),.sl t1 x1,.sl t2 x2,.raw (.bool false),.raw (.string ⟨#[]⟩),.sl ⟨true,.nil,0⟩ [],.raw (.string ⟨#[]⟩),.sl t y]/\own st' t k 12 st/\subSt st st'/\IsTrs ((m.2.2.take k).map λp=>goalT ⟨p.1,p.2⟩) y/\y.length=k) /\
  fr 3=.box z12/\fr 15=.iv (.sl t3 x3)/\fr 16=.iv (.raw (.int .i64 (m.2.2.length:Int)))/\fr 17=.iv (.raw (.int .i64 (k:Int)))/\ds=[]) ?_ ?_ ?_
 ·simp only[go_sem,zE,z12];exact⟨⟨_,[],rfl,own.nil ..,subSt.refl _,rfl,rfl⟩,rfl⟩
 ·rintro k fr ac _ G ⟨⟨t,y,f4,D,A,J,E⟩,f3,f15,f16,f17,rfl⟩;obtain⟨p,hp⟩:=yQ1 G;obtain⟨q,hq,ag⟩:=h3.2 k p hp;obtain⟨t5,x5,t6,x6,rfl,e5,i5,e6,i6⟩:=ag;simp only[go_sem,zE,zB,zA,zM,zL,f4,f15,f16,f17,fits,lt_i G,yQ3 e3,iNn,hq,yQ4];refine yZc D E A rfl (by simp[fits,IV.one]) (by simp only;omega) (by omega) λt' aD w1 w2 w3=>?_;simp only[go_sem,zE,zA,zL,f3,f4,f15,f16,f17,yQc G (show m.2.2.length<=281474976710656 by omega)];refine⟨t',_,rfl,w1,w2,?_,by rw[lLa,E];rfl⟩;rw[yQ6 hp,List.map_append,List.map_singleton];exact J.append ⟨_,[],rfl,⟨_,_,_,_,_,_,_,_,_,_,_,_,_,_,_,_,rfl,by decide,e5,i5,e6,i6,xKk,zYy,.inl rfl,rfl⟩,rfl⟩
 ·rintro fr ac _ ⟨⟨t,y,f4,D,A,J,E⟩,f3,f15,f16,f17,rfl⟩;rw[lTl] at J;simp only[go_sem,zE,zA,zL,f3,f4,f16,f17,z12,yQl (nLi _)];exact yQg A ⟨⟨_,_,_,_,_,_,_,_,_,_,_,_,_,_,_,_,rfl,hr,e1,i1,e2,i2,hf,zYy,D.es,J⟩,rfl⟩
theorem vZy (ag:∀g x,gl g=some x->age x=x)(ca:Nat)(t:Tr)(x:IV)(hx:IsTr t x)(hs:t.steps<=1000000)(p:List Nat)(ps:List (List Nat))(J:yZu t=p::ps)
  (hL:∀y st,IsSq (atT t p).sq y->ICall prog gl 15 [.raw (.int .u8 (ca:Int)),y] st (λr st'=>r=.tup [.raw (.int .i64 0),.raw (.int .i64 0)]/\st'=st)) (st:ISt) :
  ICall prog gl 45 [.raw (.int .u8 (ca:Int)),x] st (λr st'=>(∃E,okEs E 1/\r=.tup [.sl E (plI p),.raw (.int .i64 0)])/\st'=st):=by
 have hG:=λst=>zUs gl ag t x hx hs st;obtain⟨af,ae⟩:=zKr J;have hA:=λE D st=>at_c gl t x hx p af E D (Nat.le_trans ae hs) st;obtain⟨rule,tl,xl,tr,xr,op,fn,ta,xa,tb,xb,v,un,tu,xu,n,ts,xs,rfl⟩:=yZy hx;refine iI func45 ?_;simp only[go_sem,zE,zA,zL];refine (hG _).mono ?_;rintro _ st ⟨⟨E,ys,rfl,D,hys⟩,rfl⟩;rw[J] at hys;obtain⟨y,hy,O,rfl,G⟩:=hys.2 0 p rfl;obtain⟨zs,rfl⟩:∃zs,ys=.sl O (plI p)::zs:=by
  cases ys with
  | nil=>cases hy
  | cons a zs=>cases hy;exact⟨zs,rfl⟩
 simp only[go_sem,zL];intro _;refine LoopC.ctr (zs.length+1) (λk fr st' ds=>k=0/\st'=st/\fr 0=.iv (.raw (.int .u8 (ca:Int)))/\fr 3=.box [.raw (.int .u8 rule),.sl tl xl,.sl tr xr,.raw (.int .u8 op),.raw (.string fn),.sl ta xa,.sl tb xb,.raw (.bool v),.raw (.string un),.sl tu xu,.raw (.string n),.sl ts xs]/\fr 11=.iv (.sl E (.sl O (plI p)::zs))/\fr 12=.iv (.raw (.int .i64 ((zs.length+1:Nat):Int)))/\fr 13=.iv (.raw (.int .i64 (k:Int)))/\ds=[]) ?_ ?_ ?_
 ·simp only[go_sem,zE,reduceCtorEq];exact rfl
 ·rintro k fr A _ aQ ⟨rfl,rfl,f0,f3,f11,f12,f13,rfl⟩;have ha:=hA O G A;have dl:decide (((0:Nat):Int)<((zs.length+1:Nat):Int))=true:=dEt (by omega);simp only[go_sem,zE,zA,zL,reduceCtorEq,f0,f3,f11,f12,f13,fits,dl,yQ3 D];refine ha.mono ?_;rintro r A ⟨hr,rfl⟩;generalize atT t p=z at hr hL;obtain⟨U,aN,f',u',n',ak⟩:=z;obtain⟨aJ,ay,aI,aw,aO,aU,aM,aB,aK,az,v',aD,aF,ao,aH,au,rfl,_,aj,ab,ai,aa,_⟩:=hr.mk;have ah:=λst=>hL _ st ⟨_,_,_,_,rfl,aj,ab,ai,aa⟩;simp only[go_sem,zE,zA,zL];refine (ah _).mono ?_;rintro _ A ⟨rfl,rfl⟩;simp only[go_sem,zE,decide_true];exact yQ0 ⟨⟨O,G,rfl⟩,rfl⟩
 ·rintro fr A _ ⟨h,_⟩;omega
theorem vX2 (G:Gl gl)(T:Gt gl)(aA:∀g x,gl g=some x->age x=x)(ca:Nat)(t:Tr)(x:IV)(hx:IsTr t x)(ae:zKx t)(hs:t.steps<=1000000)(h:Nat)
  (hE:(hCk ca t).2=0->(∃i,yZu t=[[i]]/\∀y st,IsSq (atT t [i]).sq y->ICall prog gl 15 [.raw (.int .u8 (ca:Int)),y] st (λr st'=>r=.tup [.raw (.int .i64 0),.raw (.int .i64 0)]/\st'=st))/\0<h/\∀y st,IsSq t.sq y->ICall prog gl 15 [.raw (.int .u8 (ca:Int)),y] st (λr st'=>r=.tup [.raw (.int .i64 (h:Int)),.raw (.int .i64 0)]/\st'=st)) (st:ISt) :
  ICall prog gl 23 [.raw (.int .u8 (ca:Int)),x] st (λr st'=>(((hCk ca t).2≠0/\r=.tup [nlS,.raw (.int .i64 ((hCk ca t).2:Int))])\/((hCk ca t).2=0/\∃tg,okEs tg 1/\r=.tup [.sl tg (plI []),.raw (.int .i64 0)]))/\st'=st):=by
 have hC:=λst=>zU7 gl G T ca t x hx ae hs st;have hA:=λtg E st=>at_c gl t x hx [] trivial tg E (Nat.zero_le _) st;have az:=λi U hL st=>vZy gl aA ca t x hx hs [i] [] U hL st;have aZ:=hx;obtain⟨A,O,f',u',n',D⟩:=t;obtain⟨av,aj,au,ai,ay,aD,ax,al,aw,ak,v',am,ao,ag,aq,ah,rfl,_,bd,aY,bb,aX,_⟩:=hx.mk;refine iI func23 ?_;simp only[go_sem,zE,zA,zL,reduceCtorEq];refine (hC _).mono ?_;rintro _ st ⟨⟨aT,rfl,_⟩,rfl⟩;by_cases h0:(hCk ca (.mk A O f' u' n' D)).2=0
 ·have d0:decide (((hCk ca (.mk A O f' u' n' D)).2:Int)=0)=true:=dEt (by omega);obtain⟨⟨i,U,hL⟩,hh,hR⟩:=hE h0;simp only[go_sem,zE,zA,zL,reduceCtorEq,d0];refine (az i U hL _).mono ?_;rintro _ st ⟨⟨tg,E,rfl⟩,rfl⟩;simp only[go_sem,zE,decide_true];refine LoopC.ctr 1 (λk fr st' ds=>k=0/\st'=st/\fr 0=.iv (.raw (.int .u8 (ca:Int)))/\fr 3=.box [.raw (.int .u8 A),.sl av aj,.sl au ai,.raw (.int .u8 ay),.raw (.string aD),.sl ax al,.sl aw ak,.raw (.bool v'),.raw (.string am),.sl ao ag,.raw (.string n'),.sl aq ah]/\fr 8=.iv (.sl tg (plI [i]))/\ds=[]) ?_ ?_ ?_
  ·simp only[go_sem,zE,reduceCtorEq]
  ·rintro k fr J _ a1 ⟨rfl,rfl,f0,f3,f8,rfl⟩;have hl:(plI [i]).length=1:=rfl;simp only[go_sem,zE,zA,zL,reduceCtorEq,f0,f3,f8,hl,show decide ((0:Int)<((1:Nat):Int))=true from rfl,show IntKind.i64.wrap (((1:Nat):Int)-1)=0 from rfl,show yXb none (some 0) 1=some (0,0) from rfl,yQ3 E];have ac:=xWh E 1 0 0;refine (hA _ ac _).mono ?_;rintro r J ⟨hr,rfl⟩;simp only[atT] at hr;obtain⟨aS,aJ,tr2,aI,aW,ba,aV,aL,aU,aK,v2,aN,aO,aG,aQ,aH,rfl,_,e1,i1,e2,i2,_⟩:=hr.mk;have aB:=λst=>hR _ st ⟨_,_,_,_,rfl,e1,i1,e2,i2⟩;simp only[go_sem,zE,zA,zL];refine (aB _).mono ?_;rintro _ J ⟨rfl,rfl⟩;have dh:decide ((0:Int)<(h:Int))=true:=dEt (by omega);simp only[go_sem,zE,decide_true,dh];exact yQ0 ⟨.inr ⟨h0,_,ac,rfl⟩,rfl⟩
  ·rintro fr J _ ⟨h,_⟩;omega
 ·have d0:decide (((hCk ca (.mk A O f' u' n' D)).2:Int)=0)=false:=dEf (by omega);simp only[go_sem,zE,d0];exact yQ0 ⟨.inl ⟨h0,rfl⟩,rfl⟩
theorem vX0 (ca:Nat)(t A:Tr)(x:IV)(J:IsTr t x)(e:Nat)(hB:∀st,ICall prog gl 23 [.raw (.int .u8 (ca:Int)),x] st (λr st'=>((e≠0/\r=.tup [nlS,.raw (.int .i64 (e:Int))])\/(e=0/\∃E,okEs E 1/\r=.tup [.sl E (plI []),.raw (.int .i64 0)]))/\st'=st))
  (n:Nat) (hv:e=0->visF vQj n t true []=some A) (st:ISt) :
  ICall prog gl 24 [.raw (.int .u8 (ca:Int)),x] st (λr st'=>((e≠0/\r=.tup [.agg z12,.raw (.int .i64 (e:Int))])\/(e=0/\∃z,IsTr A z/\r=.tup [z,.raw (.int .i64 0)]))/\st'=st):=by
 have aa:=λG E D st=>wU4 gl vQj (.func 48) [] [] (λi h=>by cases h;simp only[go_sem]) (λ_=>True) (λ_ _ _ _=>trivial) (λt x st _ J=>.of_ICall (by simp only[go_sem]) (vQk gl t x J st)) n t x J [] E D (Nat.zero_le _) A (hv G) st trivial;obtain⟨rule,tl,xl,tr,xr,op,fn,ta,xa,tb,xb,v,un,tu,xu,n',ts,xs,rfl⟩:=yZy J;refine iI func24 ?_;simp only[go_sem,zE,zA,zL,reduceCtorEq];refine (hB _).mono ?_;rintro _ st ⟨⟨G,rfl⟩|⟨G,E,D,rfl⟩,rfl⟩
 ·have d0:decide ((e:Int)=0)=false:=dEf (by omega);simp only[go_sem,zE,zA,zL,d0];exact yQ0 ⟨.inl ⟨G,rfl⟩,rfl⟩
 ·simp only[go_sem,zE,zA,zL,decide_true];refine (aa G E D _).mono ?_;rintro z st ⟨hz,rfl⟩;have U:=hz;obtain⟨O,an,ag,am,af,au,ax,aq,ai,ao,ah,v',aj,ak,ac,n',al,ae,rfl⟩:=yZy hz;simp only[go_sem,zE,zA,zL];exact yQ0 ⟨.inr ⟨G,_,U,rfl⟩,rfl⟩
theorem xZj (ca:Nat)(t D:Tr)(x:IV)(U:IsTr t x)(hs:t.steps<=1000000)(h:Nat)(m:Nat×Fm×List Sn)(hr:m.1<256)(hF:∀st,ICall prog gl 30 [.raw (.int .u8 (ca:Int)),x] st (λr st'=>xXe ca t h m r/\st'=st))
  (n:Nat) (hv:∀p ps,0<h->yZu t=p::ps->t.steps+m.2.2.length<=300/\visF (folF m) n t true p=some D) (st:ISt) :
  ICall prog gl 26 [.raw (.int .u8 (ca:Int)),x] st (λr st'=>(((hCk ca t).2≠0/\r=.tup [.agg z12,.raw (.int .i64 ((hCk ca t).2:Int))])\/((hCk ca t).2=0/\yZu t=[]/\r=.tup [.agg z12,.raw (.int .i64 271)])\/((hCk ca t).2=0/\h=0)\/((hCk ca t).2=0/\yZu t≠[]/\∃z,IsTr D z/\r=.tup [z,.raw (.int .i64 0)]))/\st'=st):=by
 have hN:=λst=>wVq gl t x U (by omega) st;have ae:=λp ps G A z hm tg E st=>wU4 gl (folF m) (.func 50) [] [.cptr (.agg z)] (λi h=>by cases h;simp only[go_sem]) (λ_=>True) (λ_ _ _ _=>trivial) (λt x st _ U=>.of_ICall (by simp only[go_sem]) (wK1 gl m z hm hr (by have:=(hv p ps G A).1;omega) t x U st)) n t x U p tg E (Nat.le_trans (zKr A).2 hs) D (hv p ps G A).2 st trivial;obtain⟨rule,tl,xl,tr,xr,op,fn,ta,xa,tb,xb,v,un,tu,xu,n',ts,xs,rfl⟩:=yZy U;refine ICall.introF (t:=8) (n:=2) (c:=cf prog gl [8] [(4,[0,2,3,4,1,5,6])]) func26 rfl (by show _<=34;simp) (by show _<34;simp) (by kernel_rfl) ?_;simp only[go_sem,zE,zA,zL,reduceCtorEq];refine (hF _).mono ?_;rintro r st ⟨⟨h0,rfl⟩|⟨h0,A,rfl⟩|⟨h0,p,ps,tg,A,E,⟨G,rfl⟩|⟨G,z,hz,rfl⟩⟩,rfl⟩
 ·have d0:decide (((hCk ca t).2:Int)=0)=false:=dEf (by omega);simp only[go_sem,zE,zA,zL];refine λb=>yQ8 λJ=>?_;refine⟨b,mvZ,by simp only[go_sem,zE],ISt.put_same ..,?_⟩;rw[yK0 J];simp only[go_sem,zE,zA,zL,d0];exact yQ0 ⟨.inl ⟨h0,rfl⟩,rfl⟩
 ·simp only[go_sem,zE,zA,zL];refine λb=>yQ8 λJ=>?_;refine⟨b,mvZ,by simp only[go_sem,zE],ISt.put_same ..,?_⟩;rw[yK0 J];simp only[go_sem,zE,zA,zL,show decide ((271:Int)=0)=false from rfl];exact yQ0 ⟨.inr (.inl ⟨h0,A,rfl⟩),rfl⟩
 ·simp only[go_sem,zE,zA,zL];refine λb=>yQ8 λJ=>?_;refine⟨b,mvZ,by simp only[go_sem,zE],ISt.put_same ..,?_⟩;rw[yK0 J];simp only[go_sem,zE,zA,zL,show decide ((272:Int)=0)=false from rfl];exact yQ0 ⟨.inr (.inr (.inl ⟨h0,G⟩)),rfl⟩
 ·have O:=vZi hz;obtain⟨hst,_⟩:=hv p ps G A;obtain⟨o,nm,q1,z1,q2,z2,q3,z3,rfl,_,_,h3⟩:=hz;have af:=h3.1;simp only[go_sem,zE,zA,zL];refine λb=>yQ8 λJ=>?_;refine⟨b,.agg [.raw (.int .u8 (m.1:Int)),.raw (.int .u8 o),.raw (.string nm),.sl q1 z1,.sl q2 z2,.sl q3 z3],by simp only[go_sem,zE],ISt.put_same ..,?_⟩;rw[yK0 J];simp only[age,ages] at O ⊢;have ag:(ages z3).length=m.2.2.length:=by rw[zVn];exact af
  have dn:decide ((300:Int)<IntKind.i64.wrap ((t.steps:Int)+(m.2.2.length:Int)))=false:=dEf (by rw[w64 (by omega) (by omega)];omega);simp only[go_sem,zE,zA,zL,fits,decide_true,ag];refine (hN _).mono ?_;rintro _ st ⟨rfl,rfl⟩;simp only[go_sem,zE,zA,zL,dn];refine (ae p ps G A _ O tg E _).mono ?_;rintro y st ⟨hy,rfl⟩;have ac:=hy;obtain⟨ab,ay,an,ax,am,aE,aK,aA,aq,az,ao,v',au,av,ak,n',aw,al,rfl⟩:=yZy hy;simp only[go_sem,zE,zA,zL];exact yQ0 ⟨.inr (.inr (.inr ⟨h0,by rw[A];simp,_,ac,rfl⟩)),rfl⟩
abbrev advZ:List IV:=[nlS,.raw (.int .i64 0),.raw (.bool false),.raw (.int .u8 0),.raw (.string ⟨#[]⟩),nlS,nlS,.raw (.int .u8 0),nlS]
def onR (r:Nat):Bool:=decide (r=4\/r=6\/r=8\/r=18\/r=10\/r=12)
theorem wXc (r:Nat)(st:ISt):ICall prog gl 61 [.raw (.int .u8 (r:Int))] st (λx st'=>x=.raw (.bool (onR r))/\st'=st):=by
 refine iI func61 ?_;by_cases J:r=4
 ·simp only[go_sem,reduceCtorEq,show decide ((r:Int)=4)=true from dEt (by omega)];exact yQ0 ⟨by simp[onR,J],rfl⟩
 have d4:decide ((r:Int)=4)=false:=dEf (by omega);by_cases G:r=6
 ·simp only[go_sem,zE,reduceCtorEq,d4,show decide ((r:Int)=6)=true from dEt (by omega)];exact yQ0 ⟨by simp[onR,G],rfl⟩
 have d6:decide ((r:Int)=6)=false:=dEf (by omega);by_cases E:r=8
 ·simp only[go_sem,zE,reduceCtorEq,d4,d6,show decide ((r:Int)=8)=true from dEt (by omega)];exact yQ0 ⟨by simp[onR,E],rfl⟩
 have d8:decide ((r:Int)=8)=false:=dEf (by omega);by_cases g18:r=18
 ·simp only[go_sem,zE,reduceCtorEq,d4,d6,d8,show decide ((r:Int)=18)=true from dEt (by omega)];exact yQ0 ⟨by simp[onR,g18],rfl⟩
 have d18:decide ((r:Int)=18)=false:=dEf (by omega);by_cases D:r=10
 ·simp only[go_sem,zE,reduceCtorEq,d4,d6,d8,d18,show decide ((r:Int)=10)=true from dEt (by omega)];exact yQ0 ⟨by simp[onR,D],rfl⟩
 have d10:decide ((r:Int)=10)=false:=dEf (by omega);by_cases A:r=12
 ·simp only[go_sem,zE,reduceCtorEq,d4,d6,d8,d18,d10,show decide ((r:Int)=12)=true from dEt (by omega)];exact yQ0 ⟨by simp[onR,A],rfl⟩
 have d12:decide ((r:Int)=12)=false:=dEf (by omega);simp only[go_sem,zE,reduceCtorEq,d4,d6,d8,d18,d10,d12];exact yQ0 ⟨by simp[onR,J,G,E,g18,D,A],rfl⟩
def D1J (D:Tag)(pl:List IV)(h:Int)(b:Nat)(c0 c1:IV)(z:List IV)(S:ISt)(A:Array Bool):Kt:=λad fr st ds=>(∀s,ad s=none)/\ds=[]/\fr 0=.iv (pt b)/\fr 1=.iv (.cptr (.sl D pl))/\fr 2=.iv (.cptr (.raw (.int .i64 h))) /\
 (A.getD 0 false=true->fr 4=.iv (pt b))/\(A.getD 1 false=true->fr 5=.iv (pt b))/\(A.getD 2 false=true->fr 6=.iv (.sl D pl))/\(A.getD 3 false=true->fr 7=.iv (.raw (.int .i64 h)))/\(A.getD 4 false=true->fr 8=.iv (pt b))/\(A.getD 5 false=true->fr 9=.iv (pt b)) /\
 (A.getD 7 false=true->fr 10=.iv (pt b))/\(A.getD 8 false=true->fr 11=.iv (.raw (.pointer (some ⟨b,1,none⟩))))/\st=S.put b (some (.box ((if A.getD 6 false=true then .sl D pl else c0)::(if A.getD 9 false=true then .raw (.int .i64 h) else c1)::z)))
section
variable (c0 c1 c2 c3 c4 c5 c6 c7 c8:IV)(b:Nat)(st:ISt)(hst:st b=some (.box [c0,c1,c2,c3,c4,c5,c6,c7,c8]))
include hst
theorem vGg (tg:Tag)(pl:List IV)(h:Int):ICall prog gl 59 [pt b,.cptr (.sl tg pl),.cptr (.raw (.int .i64 h))] st (λ_ st'=>st'=st.put b (some (.box [.sl tg pl,.raw (.int .i64 h),c2,c3,c4,c5,c6,c7,c8]))):=by
 refine ICall.intro (c:=cf prog gl [2] [(0,[])]) func59 rfl (by show _<=12;simp) (by kernel_rfl) ?_;have hS:st=st.put b (some (.box (c0::c1::[c2,c3,c4,c5,c6,c7,c8]))):=by
  funext c;by_cases hc:c=b
  ·rw[hc,ISt.put_same];exact hst
  ·rw[yQ7 hc]
 simp only[go_sem];refine zZu (D1J tg pl h b c0 c1 [c2,c3,c4,c5,c6,c7,c8] st) ?_ ?_ _ _ _ _ _ _ rfl ?_
 ·intro E ad fr ag ds ae hJ i hi;replace ae:E.size=10:=ae;obtain⟨ay,o,ho,D⟩:=mem_ready.1 hi;have aw:i<10:=(Array.getElem?_eq_some_iff.1 ho).1;have e':∀j,(E.setIfInBounds i true).getD j false=if i=j then true else E.getD j false:=λj=>xZl (by omega)
  obtain⟨A,rfl,f0,f1,f2,g0,g1,g2,g3,U,O,J,G,rfl⟩:=hJ;rcases (show i=0\/i=1\/i=2\/i=3\/i=4\/i=5\/i=6\/i=7\/i=8\/i=9 by omega) with rfl|rfl|rfl|rfl|rfl|rfl|rfl|rfl|rfl|rfl
  all_goals obtain rfl:_=o:=Option.some.inj ho
  ·simp only[go_sem,yZ5,f0,pt];simp only[D1J,e',iteT,iteF,reduceCtorEq,true_imp_iff];exact⟨yXw A _,trivial,f0,f1,f2,rfl,g1,g2,g3,U,O,J,G,trivial⟩
  ·simp only[go_sem,yZ5,f0,pt];simp only[D1J,e',zE,iteT,iteF,reduceCtorEq,true_imp_iff];exact⟨yXw A _,trivial,f0,f1,f2,g0,rfl,g2,g3,U,O,J,G,trivial⟩
  ·simp only[go_sem,yZ5,A,f1,fits];simp only[D1J,e',zE,iteT,iteF,reduceCtorEq,true_imp_iff];exact⟨yXw A _,trivial,f0,f1,f2,g0,g1,rfl,g3,U,O,J,G,trivial⟩
  ·simp only[go_sem,yZ5,A,f2,fits];simp only[D1J,e',zE,iteT,iteF,reduceCtorEq,true_imp_iff];exact⟨yXw A _,trivial,f0,f1,f2,g0,g1,g2,rfl,U,O,J,G,trivial⟩
  ·have q0:=g0 (D ⟨0,.data⟩ (by simp) rfl);simp only[go_sem,yZ5,A,q0,pt];simp only[D1J,e',zE,iteT,iteF,reduceCtorEq,true_imp_iff];exact⟨yXw A _,trivial,f0,f1,f2,g0,g1,g2,g3,rfl,O,J,G,trivial⟩
  ·have q4:=U (D ⟨4,.data⟩ (by simp) rfl);simp only[go_sem,yZ5,A,q4,pt];simp only[D1J,e',zE,iteT,iteF,reduceCtorEq,true_imp_iff];exact⟨yXw A _,trivial,f0,f1,f2,g0,g1,g2,g3,U,rfl,J,G,trivial⟩
  ·have q5:=O (D ⟨5,.data⟩ (by simp) rfl);have q2:=g2 (D ⟨2,.data⟩ (by simp) rfl);simp only[go_sem,zA,zL,yZ5,A,q5,q2,pt,ISt.put_same,yQ9];simp only[D1J,e',zE,iteT,iteF,reduceCtorEq];exact⟨A,trivial,f0,f1,f2,g0,g1,g2,g3,U,O,J,G,trivial⟩
  ·have q1:=g1 (D ⟨1,.data⟩ (by simp) rfl);simp only[go_sem,yZ5,A,q1,pt];simp only[D1J,e',zE,iteT,iteF,reduceCtorEq,true_imp_iff];exact⟨yXw A _,trivial,f0,f1,f2,g0,g1,g2,g3,U,O,rfl,G,trivial⟩
  ·have q7:=J (D ⟨7,.data⟩ (by simp) rfl);simp only[go_sem,yZ5,A,q7,pt];simp only[D1J,e',zE,iteT,iteF,reduceCtorEq,true_imp_iff];exact⟨yXw A _,trivial,f0,f1,f2,g0,g1,g2,g3,U,O,J,rfl,trivial⟩
  ·have q8:=G (D ⟨8,.data⟩ (by simp) rfl);have q3:=g3 (D ⟨3,.data⟩ (by simp) rfl);simp only[go_sem,zA,zL,yZ5,A,q8,q3,ISt.put_same,yQ9];simp only[D1J,e',zE,iteT,iteF,reduceCtorEq];exact⟨A,trivial,f0,f1,f2,g0,g1,g2,g3,U,O,J,G,trivial⟩
 ·intro E ad fr ag ds ae hr hJ;have hl:=zK1 (by decide) ae hr;obtain⟨_,rfl,_,_,_,_,_,_,_,_,_,_,_,rfl⟩:=hJ;rw[hl 6 (by decide),hl 9 (by decide)];simp only[go_sem];exact yQ0 rfl
 ·exact⟨λ_=>rfl,rfl,rfl,rfl,rfl,nofun,nofun,nofun,nofun,nofun,nofun,nofun,nofun,hS⟩
theorem vGf (r:Nat)(o:Int)(n:ByteArray)(t1:Tag)(D:List IV)(t2:Tag)(A:List IV)(t3:Tag)(E:List IV):ICall prog gl 60 [pt b,.cptr (.agg [.raw (.int .u8 (r:Int)),.raw (.int .u8 o),.raw (.string n),.sl t1 D,.sl t2 A,.sl t3 E])] st (λ_ st'=>st'=st.put b (some (.box [c0,c1,.raw (.bool (onR r)),.raw (.int .u8 o),.raw (.string n),.sl t1 D,.sl t2 A,c7,c8]))):=by
 have G:=λst=>wXc gl r st;refine iI func60 ?_;simp only[go_sem,zE,zB,zA,zL,reduceCtorEq,fits,pt];refine (G _).mono ?_;rintro _ _ ⟨rfl,rfl⟩;simp only[go_sem,zE,zA,zL,hst,ISt.put_same,yQ9];exact yQ0 rfl
theorem vGe (r:Nat)(o n a A ps:IV):ICall prog gl 62 [pt b,.cptr (.agg [.raw (.int .u8 (r:Int)),o,n,a,A,ps])] st (λ_ st'=>st'=st.put b (some (.box [c0,c1,c2,c3,c4,c5,c6,.raw (.int .u8 (r:Int)),c8]))):=by
 refine iI func62 ?_;simp only[go_sem,zE,zA,zL,fits,pt,hst];exact yQ0 rfl
theorem vGd (r o n a D:IV)(t3:Tag)(A:List IV):ICall prog gl 63 [pt b,.cptr (.agg [r,o,n,a,D,.sl t3 A])] st (λ_ st'=>st'=st.put b (some (.box [c0,c1,c2,c3,c4,c5,c6,c7,.sl t3 A]))):=by
 refine iI func63 ?_;simp only[go_sem,zE,zA,zL,fits,pt,hst];exact yQ0 rfl
end
def degI (pl h m:IV):IV:=.agg [.fn (.func 59) [] [.cptr pl,.cptr h],.fn (.func 60) [] [.cptr m],.fn (.func 62) [] [.cptr m],.fn (.func 63) [] [.cptr m]]
theorem wKq (A:Tag)(pl:List IV)(h:Int)(m:Nat×Fm×List Sn)(z:IV)(D:yK8 m z)(st:ISt):ICall prog gl 31 [.sl A pl,.raw (.int .i64 h),z] st (λr st'=>r=degI (.sl A pl) (.raw (.int .i64 h)) z/\st'=st):=by
 obtain⟨o,n,t1,x1,t2,x2,t3,U,rfl,_⟩:=D;refine ICall.intro (c:=cf prog gl [] [] [3,4,5]) func31 rfl (by show _<=12;simp) (by kernel_rfl) ?_;have J:∀i,fldI prog 70 i=none:=λi=>by
  cases h:fldI prog 70 i with
  | none=>rfl
  | some f =>
   obtain⟨fs,_,h1,_⟩:=zJ6 (fo:=f.1) (ag:=f.2.1) (n:=f.2.2) h;have h2:(match prog.underlying 70 with|some (.struct _)=>true|_=>false)=false:=by kernel_rfl
   rw[h1] at h2;cases h2
 have O:arrI prog 70=some (4,false,1):=by kernel_rfl
 have E:∀b:Option (Nat×Bool×Nat),orO none b=b:=λ_=>rfl;have G:yZ9 prog 70=true:=by kernel_rfl
 simp only[go_sem,zE,zA,zM,zL,fits,J,O,E,G,Option.map_some];exact yQ0 ⟨rfl,rfl⟩
theorem zV0:∀(l:List (List Nat×Tr))(ca:Nat),(yQz (badN ca) l).2<=270
 | [],_=>Nat.zero_le _
 | (p,t)::l,ca=>by
  rw[yQz];split
  ·exact zV0 l ca
  ·show badN ca t<=270;unfold badN;split<;>omega
theorem vWj (ca:Nat)(t:Tr):(hCk ca t).2<=270:=by
 unfold hCk;split
 ·split
  ·decide
  ·exact zV0 _ _
 ·decide
def advK (pl:IV)(h:Int)(r:Nat)(o:Int)(n:ByteArray)(s1 A D:IV):Nat->List IV
 | 0=>advZ
 | 1=>pl::.raw (.int .i64 h)::advZ.drop 2
 | 2=>[pl,.raw (.int .i64 h),.raw (.bool (onR r)),.raw (.int .u8 o),.raw (.string n),s1,A,.raw (.int .u8 0),nlS]
 | 3=>[pl,.raw (.int .i64 h),.raw (.bool (onR r)),.raw (.int .u8 o),.raw (.string n),s1,A,.raw (.int .u8 (r:Int)),nlS]
 | _=>[pl,.raw (.int .i64 h),.raw (.bool (onR r)),.raw (.int .u8 o),.raw (.string n),s1,A,.raw (.int .u8 (r:Int)),D]
def wGo (ca:Nat)(t:Tr)(h e:Nat)(m:Nat×Fm×List Sn)(F:Prop)(l:Nat)(r:IV):Prop :=
 ((hCk ca t).2≠0/\r=.tup [.agg advZ,.raw (.int .i64 ((hCk ca t).2:Int))])\/((hCk ca t).2=0/\yZu t=[]/\r=.tup [.agg advZ,.raw (.int .i64 271)]) \/
  ((hCk ca t).2=0/\∃p ps A,yZu t=p::ps/\okEs A 1/\((e≠0/\r=.tup [.agg advZ,.raw (.int .i64 (e:Int))])\/(e=0/\F/\((h=0/\r=.tup [.agg (.sl A (plI p)::advZ.tail),.raw (.int .i64 272)])\/(0<h/\∃o n t1 G t2 E t3 D,yK8 m (.agg [.raw (.int .u8 (m.1:Int)),.raw (.int .u8 o),.raw (.string n),.sl t1 G,.sl t2 E,.sl t3 D]) /\
   r=.tup [.agg (advK (.sl A (plI p)) h m.1 o n (.sl t1 G) (.sl t2 E) (.sl t3 D) l),.raw (.int .i64 0)])))))
theorem xYh (ca:Nat)(t:Tr)(x:IV)(hx:IsTr t x)(h e:Nat)(he:e<272)(m:Nat×Fm×List Sn)(F:Prop)(E:Int)(l:Nat)(am:¬ E<1)(al:¬ 4<E)(aw:E=l)(hF:∀st,ICall prog gl 30 [.raw (.int .u8 (ca:Int)),x] st (λr st'=>wVt ca t h e m F r/\st'=st))(st:ISt) :
  ICall prog gl 8 [.raw (.int .u8 (ca:Int)),x,.raw (.int .i64 E)] st (λr st'=>wGo ca t h e m F l r/\st'=st):=by
 obtain⟨rule,tl,xl,tr,xr,op,fn,ta,xa,tb,xb,v,un,tu,xu,n',ts,xs,rfl⟩:=yZy hx;refine ICall.intro (c:=cf prog gl [12] []) func8 rfl (by show _<=54;simp) (by kernel_rfl) ?_;have d1:decide (E<1)=false:=dEf am;have d2:decide (4<E)=false:=dEf al;simp only[go_sem,zE,zA,zL,reduceCtorEq,d1,d2];refine (hF _).mono ?_;rintro r st ⟨⟨h0,rfl⟩|⟨h0,D,rfl⟩|⟨h0,p,ps,G,D,J,⟨ak,rfl⟩|⟨ab,hFF,⟨hh,rfl⟩|⟨hh,z,hz,rfl⟩⟩⟩,rfl⟩
 ·have d0:decide (((hCk ca t).2:Int)=272)=false:=dEf (by have:=vWj ca t;omega);have d3:decide (((hCk ca t).2:Int)=0)=false:=dEf (by omega);simp only[go_sem,zE,zA,zL,d0,d3];exact yQ0 ⟨.inl ⟨h0,rfl⟩,rfl⟩
 ·simp only[go_sem,zE,zA,zL,show decide ((271:Int)=272)=false from rfl,show decide ((271:Int)=0)=false from rfl];exact yQ0 ⟨.inr (.inl ⟨h0,D,rfl⟩),rfl⟩
 ·have d0:decide ((e:Int)=272)=false:=dEf (by omega);have d3:decide ((e:Int)=0)=false:=dEf (by omega);simp only[go_sem,zE,zA,zL,d0,d3];exact yQ0 ⟨.inr (.inr ⟨h0,p,ps,G,D,J,.inl ⟨ak,rfl⟩⟩),rfl⟩
 ·simp only[go_sem,zE,zA,zL,fits,decide_true];exact yQ0 ⟨.inr (.inr ⟨h0,p,ps,G,D,J,.inr ⟨ab,hFF,.inl ⟨hh,rfl⟩⟩⟩),rfl⟩
 ·have ai:=hz;have ao:=λst=>wKq gl G (plI p) (h:Int) m z hz st;obtain⟨o,nm,q1,z1,q2,z2,q3,z3,rfl,_⟩:=hz;simp only[go_sem,zE,zA,zL,show decide ((0:Int)=272)=false from rfl,decide_true];refine λb=>yQ8 λhb=>?_;refine (ao _).mono ?_;rintro _ aq ⟨rfl,U⟩;subst U;have O:arrI prog 70=some (4,false,1):=by kernel_rfl
  have A:lenI prog 70=some (.arr 4):=by kernel_rfl
  simp only[go_sem];refine LoopC.ctr 4 (λk fr st' ds=>(∃j:Nat,j=min k l/\st'=st.put b (some (.box (advK (.sl G (plI p)) h m.1 o nm (.sl q1 z1) (.sl q2 z2) (.sl q3 z3) j))))/\fr 2=.iv (.raw (.int .i64 E))/\fr 12=.iv (pt b)/\fr 6=.box advZ/\fr 42=.iv (degI (.sl G (plI p)) (.raw (.int .i64 (h:Int))) (.agg [.raw (.int .u8 (m.1:Int)),.raw (.int .u8 o),.raw (.string nm),.sl q1 z1,.sl q2 z2,.sl q3 z3]))/\fr 43=.iv (.raw (.int .i64 (k:Int)))/\ds=[]) ?_ ?_ ?_
  ·simp only[go_sem,zE];exact⟨⟨0,by omega,rfl⟩,rfl,rfl⟩
  ·rintro k fr ae _ ax ⟨⟨j,hj,rfl⟩,f2,f12,f6,f42,f43,rfl⟩;unfold degI at f42;by_cases aa:(k:Int)<E
   ·have dk:decide ((k:Int)<E)=true:=dEt aa;obtain rfl:j=k:=by omega
    rcases (show j=0\/j=1\/j=2\/j=3 by omega) with rfl|rfl|rfl|rfl
    ·simp only[go_sem,zE,zM,f2,f12,f42,f43,O,A,pt,dk,show decide (((0:Nat):Int)<4)=true from rfl,show (0<=((0:Nat):Int)/\((0:Nat):Int)<((4:Nat):Int))=True from eq_true (by omega),show Int.toNat ((0:Nat):Int)=0 from rfl];refine (vGg gl _ _ _ _ _ _ _ _ _ b _ (ISt.put_same ..) _ _ _).mono ?_;rintro _ _ rfl;rw[yQ9];simp only[go_sem,zE,f2,f12,f6,f42,f43];exact⟨⟨1,by omega,rfl⟩,rfl,rfl,rfl⟩
    ·simp only[go_sem,zE,zA,zM,f2,f12,f42,f43,O,A,pt,dk,show decide (((1:Nat):Int)<4)=true from rfl,show (0<=((1:Nat):Int)/\((1:Nat):Int)<((4:Nat):Int))=True from eq_true (by omega),show Int.toNat ((1:Nat):Int)=1 from rfl];refine (vGf gl _ _ _ _ _ _ _ _ _ b _ (ISt.put_same ..) _ _ _ _ _ _ _ _ _).mono ?_;rintro _ _ rfl;rw[yQ9];simp only[go_sem,zE,f2,f12,f6,f42,f43];exact⟨⟨2,by omega,rfl⟩,rfl,rfl,rfl⟩
    ·simp only[go_sem,zE,zA,zM,f2,f12,f42,f43,O,A,pt,dk,show decide (((2:Nat):Int)<4)=true from rfl,show (0<=((2:Nat):Int)/\((2:Nat):Int)<((4:Nat):Int))=True from eq_true (by omega),show Int.toNat ((2:Nat):Int)=2 from rfl];refine (vGe gl _ _ _ _ _ _ _ _ _ b _ (ISt.put_same ..) _ _ _ _ _ _).mono ?_;rintro _ _ rfl;rw[yQ9];simp only[go_sem,zE,f2,f12,f6,f42,f43];exact⟨⟨3,by omega,rfl⟩,rfl,rfl,rfl⟩
    ·simp only[go_sem,zE,zA,zM,f2,f12,f42,f43,O,A,pt,dk,show decide (((3:Nat):Int)<4)=true from rfl,show (0<=((3:Nat):Int)/\((3:Nat):Int)<((4:Nat):Int))=True from eq_true (by omega),show Int.toNat ((3:Nat):Int)=3 from rfl];refine (vGd gl _ _ _ _ _ _ _ _ _ b _ (ISt.put_same ..) _ _ _ _ _ _ _).mono ?_;rintro _ _ rfl;rw[yQ9];simp only[go_sem,zE,f2,f12,f6,f42,f43];exact⟨⟨4,by omega,rfl⟩,rfl,rfl,rfl⟩
   ·have dk:decide ((k:Int)<E)=false:=dEf aa;rcases (show k=1\/k=2\/k=3 by omega) with rfl|rfl|rfl
    ·simp only[go_sem,zE,zA,zM,f2,f12,f42,f43,O,A,pt,dk,show decide (((1:Nat):Int)<4)=true from rfl,show (0<=((1:Nat):Int)/\((1:Nat):Int)<((4:Nat):Int))=True from eq_true (by omega),show Int.toNat ((1:Nat):Int)=1 from rfl];exact⟨⟨j,by omega,rfl⟩,f6,rfl,rfl⟩
    ·simp only[go_sem,zE,zA,zM,f2,f12,f42,f43,O,A,pt,dk,show decide (((2:Nat):Int)<4)=true from rfl,show (0<=((2:Nat):Int)/\((2:Nat):Int)<((4:Nat):Int))=True from eq_true (by omega),show Int.toNat ((2:Nat):Int)=2 from rfl];exact⟨⟨j,by omega,rfl⟩,f6,rfl,rfl⟩
    ·simp only[go_sem,zE,zA,zM,f2,f12,f42,f43,O,A,pt,dk,show decide (((3:Nat):Int)<4)=true from rfl,show (0<=((3:Nat):Int)/\((3:Nat):Int)<((4:Nat):Int))=True from eq_true (by omega),show Int.toNat ((3:Nat):Int)=3 from rfl];exact⟨⟨j,by omega,rfl⟩,f6,rfl,rfl⟩
  ·rintro fr ae _ ⟨⟨j,hj,rfl⟩,f2,f12,f6,f42,f43,rfl⟩;obtain rfl:j=l:=by omega
   have hr:=show wGo ca t h e m F j (.tup [.agg (advK (.sl G (plI p)) h m.1 o nm (.sl q1 z1) (.sl q2 z2) (.sl q3 z3) j),.raw (.int .i64 0)]) from .inr (.inr ⟨h0,p,ps,G,D,J,.inr ⟨ab,hFF,.inr ⟨hh,_,_,_,_,_,_,_,_,ai,rfl⟩⟩⟩);rcases (show j=1\/j=2\/j=3\/j=4 by omega) with rfl|rfl|rfl|rfl <;>
   ·simp only[go_sem,zE,zA,zL,f12,f6,f43,pt,advK,ISt.put_same,show decide (((4:Nat):Int)<4)=false from rfl];exact yQg (st':=st) (yQh hb) ⟨hr,rfl⟩
def kXg (ca:Nat)(t:Tr)(h:Nat)(m:Nat×Fm×List Sn)(A:Int)(r:IV):Prop :=
 ((A<1\/4<A)/\r=.tup [.agg advZ,.raw (.int .i64 2)])\/(¬ (A<1\/4<A)/\(((hCk ca t).2≠0/\r=.tup [.agg advZ,.raw (.int .i64 ((hCk ca t).2:Int))])\/((hCk ca t).2=0/\yZu t=[]/\r=.tup [.agg advZ,.raw (.int .i64 271)]) \/
  ((hCk ca t).2=0/\∃p ps D,yZu t=p::ps/\okEs D 1/\((h=0/\r=.tup [.agg (.sl D (plI p)::advZ.tail),.raw (.int .i64 272)])\/(0<h/\∃o n t1 J t2 G t3 E,yK8 m (.agg [.raw (.int .u8 (m.1:Int)),.raw (.int .u8 o),.raw (.string n),.sl t1 J,.sl t2 G,.sl t3 E]) /\
   r=.tup [.agg [.sl D (plI p),.raw (.int .i64 (h:Int)),.raw (.bool (onR m.1)),.raw (.int .u8 o),.raw (.string n),.sl t1 J,.sl t2 G,.raw (.int .u8 (m.1:Int)),.sl t3 E],.raw (.int .i64 0)])))))
theorem wJv (ca:Nat)(t:Tr)(x:IV)(O:IsTr t x)(h:Nat)(m:Nat×Fm×List Sn)(A:Int)(G:(hCk ca t).2=0->0<h->yZu t≠[]->¬ (A<1\/4<A)->A=4)(hF:¬ (A<1\/4<A)->∀st,ICall prog gl 30 [.raw (.int .u8 (ca:Int)),x] st (λr st'=>xXe ca t h m r/\st'=st))(st:ISt) :
  ICall prog gl 8 [.raw (.int .u8 (ca:Int)),x,.raw (.int .i64 A)] st (λr st'=>kXg ca t h m A r/\st'=st):=by
 by_cases h1:A<1\/4<A
 ·obtain⟨rule,tl,xl,tr,xr,op,fn,ta,xa,tb,xb,v,un,tu,xu,n',ts,xs,rfl⟩:=yZy O;refine ICall.intro (c:=cf prog gl [12] []) func8 rfl (by show _<=54;simp) (by kernel_rfl) ?_;by_cases h2:A<1
  ·have d1:decide (A<1)=true:=dEt h2;simp only[go_sem,zE,zA,zL,d1];exact yQ0 ⟨.inl ⟨h1,rfl⟩,rfl⟩
  ·have d1:decide (A<1)=false:=dEf h2;have d2:decide (4<A)=true:=dEt (by omega);simp only[go_sem,zE,zA,zL,d1,d2];exact yQ0 ⟨.inl ⟨h1,rfl⟩,rfl⟩
 refine (xYh gl ca t x O h 0 (by decide) m True A A.toNat (by omega) (by omega) (by omega) (λst=>(hF h1 st).mono λr st' ⟨a,b⟩=>⟨?_,b⟩) st).mono λr st' ⟨a,b⟩=>⟨.inr ⟨h1,?_⟩,b⟩
 ·rcases a with a|a|⟨h0,p,ps,E,h1,h2,D⟩
  ·exact .inl a
  ·exact .inr (.inl a)
  ·exact .inr (.inr ⟨h0,p,ps,E,h1,h2,.inr ⟨rfl,trivial,D⟩⟩)
 ·rcases a with a|a|⟨h0,p,ps,E,D,h2,⟨J,_⟩|⟨_,_,J|⟨U,o,n,t1,x1,t2,x2,t3,x3,h6,rfl⟩⟩⟩
  ·exact .inl a
  ·exact .inr (.inl a)
  ·exact absurd rfl J
  ·exact .inr (.inr ⟨h0,p,ps,E,D,h2,.inl J⟩)
  ·refine .inr (.inr ⟨h0,p,ps,E,D,h2,.inr ⟨U,o,n,t1,x1,t2,x2,t3,x3,h6,?_⟩⟩);rw[G h0 U (by rw[D];simp) h1];rfl
end Go.Proofs.Tryz
namespace Go.Proofs.Tryz
open Go Go.Iv
theorem xVb {ca:Nat}{s:Sq}{rule:Nat}{A:Fm}{term:Tm}{name:ByteArray}{r:Rw}{ad:List Sq}(h1:yQm ca s=true)(h2:rowS ca rule=some r)(U:yK7 ca rule r A term name=(ad,0))
  (O:r.left=true->hasF s.l A=true) (J:r.right=true->hasF s.r A=true) (G:r.asks=0):yWk ca s rule A term name=(ad,0):=by
 unfold yWk;rw[h1,h2];simp only[Bool.not_true,bFt,if_false,U];obtain⟨E,D,op,asks⟩:=r;simp only at O J G ⊢;have e1:(E&&!hasF s.l A)=false:=by
  cases E
  ·rfl
  ·rw[O rfl];rfl
 have e2:(D&&!hasF s.r A)=false:=by
  cases D
  ·rfl
  ·rw[J rfl];rfl
 subst G;rw[e1,e2];rfl
theorem xG0 {f:Fm}(A:f.right=true):eqF f f=true:=by unfold eqF yU0;rw[A,dEt rfl];simp[eqB]
theorem yZi {ca:Nat}{f:Fm}(h:fmB ca f=true):f.right=true:=by unfold fmB at h;exact (bAt _ _▸h).1
theorem yJ2 {l:List Fm}{f:Fm}(h:f∈l)(A:f.right=true):hasF l f=true:=List.any_eq_true.2 ⟨f,h,xG0 A⟩
theorem xGd {l m:List Fm}(h:∀f∈l,f∈m)(D:∀f∈l,f.right=true):allF l m=true:=List.all_eq_true.2 λf A=>yJ2 (h f A) (D f A)
theorem vVd {ca:Nat}(hc:ca=1\/ca=2){f:Fm}(A:PF f){r:Bool}{t:Nat×List Sn}(ht:t∈addF (calJ ca) f r):∃R,rowS ca t.1=some R/\(R.left=true->r=false)/\(R.right=true->r=true)/\R.asks=0/\t.1<256/\t.1≠17:=by
 cases A with
 | atom n=>simp[addF] at ht
 | fls=>simp[addF] at ht
 | neg D =>
  rcases hc with rfl|rfl<;>cases r<;>simp[addF] at ht<;>subst ht<;>exact⟨_,rfl,by simp,by simp,rfl,by simp,by simp⟩
 | @bin o a b G E _ _ =>
  obtain rfl|rfl|rfl|rfl:o=4\/o=5\/o=6\/o=7:=by omega
  all_goals rcases hc with rfl|rfl<;>cases r<;>simp[addF,calJ] at ht
  all_goals first
   | (subst ht;exact⟨_,rfl,by simp,by simp,rfl,by simp,by simp⟩)
   | (rcases ht with rfl|rfl<;>exact⟨_,rfl,by simp,by simp,rfl,by simp,by simp⟩)
theorem wVc {ca:Nat}{rule:Nat}{f:Fm}{R:Rw}{ad:List Sq}(A:yXy ca=true)(D:rowS ca rule=some R)(h:zXe ca rule f tmZ noN=(ad,0)):yK7 ca rule R f tmZ noN=(ad,0):=by
 unfold zXe at h;rw[A,D] at h;exact h
theorem zWo {s:Sq}:∀ {ad:List Sq} {sub:List Tr},(∀(i:Nat) (m:Sq) (t:Tr),ad[i]?=some m->sub[i]?=some t->yU2 t.sq (s.plus m)=true)->yK9 s ad sub=true
 | [],_,_=>by simp[yK9]
 | m::ad,[],_=>by simp[yK9]
 | m::ad,t::sub,h=>by
  simp only[yK9,bAt];exact⟨h 0 m t rfl rfl,zWo λi m t h1 h2=>h (i+1) m t h1 h2⟩
theorem zWe {ca:Nat}(hc:ca=1\/ca=2){s:Sn}(hv:yQm ca (sqOf s)=true)(h1:∀f∈s.1,fmB ca f=true)(h2:∀f∈s.2,fmB ca f=true){m:Nat×Fm×List Sn}(hm:m∈mvF (calJ ca) s){sub:List Tr}(G:sub.map Tr.sq=m.2.2.map sqOf) :
  yXi ca (.mk m.1 (sqOf s) m.2.1 tmZ noN sub)=0/\m.1<256/\m.1≠17/\fmB ca m.2.1=true:=by
 have O:ca≠3:=by omega
 have hk:yXy ca=true:=by unfold yXy;rcases hc with rfl|rfl<;>rfl
 have key:∀(r:Bool) (f:Fm),f∈(if r=true then s.2 else s.1)->m∈yW7 (calJ ca) s r f->yXi ca (.mk m.1 (sqOf s) m.2.1 tmZ noN sub)=0/\m.1<256/\m.1≠17/\fmB ca m.2.1=true:=λr f E ac=>by
  obtain⟨t,ht,rfl⟩:=List.mem_map.1 ac;have A:fmB ca f=true:=by cases r<;>simp at E<;>first|exact h1 f E|exact h2 f E
  obtain⟨R,hR,hl,hr,ha,ae,af⟩:=vVd hc (zW0 O A) ht;have U:=xXb hc A ht;have hst:yWk ca (sqOf s) t.1 f tmZ noN=(t.2.map sqOf,0):=xVb hv hR (wVc hk hR U)
   (λh=>yJ2 (show f∈s.1 by rw[hl h] at E;simpa using E) (yZi A)) (λh=>yJ2 (show f∈s.2 by rw[hr h] at E;simpa using E) (yZi A)) ha
  refine⟨?_,ae,af,A⟩;have J:sub.length=(t.2.map sqOf).length:=by
   have:=congrArg List.length G;simpa using this
  simp only[yXi];rw[hst];simp only[ne_eq,nTf,if_false,J];rw[if_pos];refine zWo λi q tr hq aa=>?_;rw[List.getElem?_map] at hq;obtain⟨p,hp,rfl⟩:=Option.map_eq_some_iff.1 hq;have hs:(sub.map Tr.sq)[i]?=some tr.sq:=by rw[List.getElem?_map,aa];rfl
  rw[G,List.getElem?_map,List.getElem?_map,hp] at hs;have ab:tr.sq=sqOf (zQ6 (calJ ca) s p):=by simpa using hs.symm
  rw[ab];obtain⟨a1,a2⟩:=wKa O A ht p (lMg hp);have w1:∀g∈(zQ6 (calJ ca) s p).1,g∈s.1++p.1:=λg D=>yZg.1 D;have w2:∀g∈(zQ6 (calJ ca) s p).2,g∈s.2++p.2:=λg D=>by
   have D:=yZg.1 D;unfold rgt at D;split at D
   ·exact List.mem_append_right _ D
   ·exact D
  unfold yU2;rw[bAt];exact⟨xGd w1 λg D=>yZi ((List.mem_append.1 (w1 g D)).elim (h1 g) (a1 g)),xGd w2 λg D=>yZi ((List.mem_append.1 (w2 g D)).elim (h2 g) (a2 g))⟩
 rcases List.mem_append.1 hm with hm|hm
 ·obtain⟨f,E,hm⟩:=List.mem_flatMap.1 hm;exact key false f E hm
 ·obtain⟨f,E,hm⟩:=List.mem_flatMap.1 hm;exact key true f E hm
theorem xX7 {ca:Nat}(hc:ca=1\/ca=2){s:Sn}(hv:yQm ca (sqOf s)=true)(h1:∀f∈s.1,fmB ca f=true){r:Nat}{f:Fm}(ha:(r=1/\f∈s.1/\f∈s.2)\/(r=2/\f=.mk 2 noN [] []/\∃g∈s.1,zZj g=true)) :
  yXi ca (.mk r (sqOf s) f tmZ noN [])=0/\(r=1\/r=2)/\fmB ca f=true:=by
 have aa:ca≠3:=by omega
 have D:∀R,rowS ca r=some R->R.asks=0->yK7 ca r R f tmZ noN=([],0)->(R.left=true->hasF s.1 f=true)->(R.right=true->hasF s.2 f=true)->yXi ca (.mk r (sqOf s) f tmZ noN [])=0:=λR hR h0 hA hl E=>by
  have hst:yWk ca (sqOf s) r f tmZ noN=([],0):=xVb hv hR hA hl E h0;simp only[yXi];rw[hst];rfl
 rcases ha with⟨rfl,hl,E⟩|⟨rfl,rfl,g,U,J⟩
 ·have A:=h1 f hl;refine⟨D ⟨true,true,0,0⟩ (by rcases hc with rfl|rfl<;>rfl) rfl ?_ (λ_=>yJ2 hl (yZi A)) (λ_=>yJ2 E (yZi A)),.inl rfl,A⟩;unfold yK7;rw[A];simp[addS]
 ·have G:=zW0 aa (h1 g U);have O:g=.mk 2 noN [] []:=by
   cases G<;>simp[zZj] at J
   ·rfl
   ·omega
  subst O;have A:=h1 _ U;refine⟨D ⟨true,false,2,0⟩ (by rcases hc with rfl|rfl<;>rfl) rfl ?_ (λ_=>yJ2 U (yZi A)) (λh=>by cases h),.inr rfl,A⟩;unfold yK7;rw[A];simp[addS,Fm.op]
theorem xGa {ca:Nat}(hc:ca=1\/ca=2){s:Sn}(hv:yQm ca (sqOf s)=true)(h1:∀f∈s.1,fmB ca f=true){r:Nat}{f:Fm}(A:axF s=some (r,f)) :
  yXi ca (.mk r (sqOf s) f tmZ noN [])=0/\(r=1\/r=2)/\fmB ca f=true:=xX7 hc hv h1 (vXu A)
theorem vW4 {j:Bool}{s:Sn}{m:Nat×Fm×List Sn}(h:m∈mvF j s):m.2.2≠[]:=by
 have key:∀(r:Bool) (f:Fm),m∈yW7 j s r f->m.2.2≠[]:=λr f A=>by
  obtain⟨t,ht,rfl⟩:=List.mem_map.1 A;have:=wVf ht;simpa using this
 rcases List.mem_append.1 h with h|h
 ·obtain⟨f,_,h⟩:=List.mem_flatMap.1 h;exact key false f h
 ·obtain⟨f,_,h⟩:=List.mem_flatMap.1 h;exact key true f h
end Go.Proofs.Tryz
namespace Go.Proofs.Tryz
open Go Go.Iv
set_option maxRecDepth 4000
variable (gl:Nat->Option IV)
section
variable {ca m:Nat}{W:List Fm}{tw:Tag}{xw:List IV}{lines:List Ln}{links:List (List Lk)}{hs:List Nat}{tl tk:Tag}{xl xk:List IV}{mN rb gH:Nat}
end
section
variable {ca m:Nat}{W:List Fm}{tw:Tag}{xw:List IV}{lines:List Ln}{links:List (List Lk)}{hs:List Nat}{tl tk:Tag}{xl xk:List IV}{mN rb gH:Nat}
abbrev u0:IV:=.raw (.int .u8 0)
end
noncomputable def tS (j:Bool)(s:Sn):Nat:=(tF j (hF j s) s).steps
section
variable {ca m:Nat}{W:List Fm}{tw:Tag}{xw:List IV}{lines:List Ln}{links:List (List Lk)}{hs:List Nat}{tl tk:Tag}{xl xk:List IV}{mN rb gH:Nat}
end
end Go.Proofs.Tryz
namespace Go.Proofs.Tryz
open Go Go.Iv
