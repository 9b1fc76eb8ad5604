/- Walks: settle. -/
import Derived.Test.YtofmbookakncjabGreatDoorQE
import Derived.Test.YtofmbookakncjabGreatDoorKG
set_option linter.all false
open Nat renaming reduceEqDiff → zE,reduceBEq → zB,reduceAdd → zA,reduceMul → zM,reduceLeDiff → zL
namespace Go.Proofs.Tryz
open Go Go.Iv
set_option maxRecDepth 4000
variable (gl:Nat->Option IV)
def Ia {ws:List (List Nat)}{u:Us}{w:List Nat}{x:Nat}(E:ws[u.1]?=some w)(D:w[u.2]?=some x):decW ws u=ws.set u.1 (w.set u.2 ((x+255)%256)):=by
 unfold decW;have A:∀ {α:Type} (l:List α) (i:Nat) (f:α->α) (a:α),l[i]?=some a->l.modify i f=l.set i (f a):=λl i f a h=>by
  refine lg λk=>?_;rw[List.getElem?_modify,iD];by_cases e:i=k
  ·subst e;simp only[el,c_ (lGs h).1,h];rfl
  ·simp[e]
 rw[A _ _ _ _ E,A _ _ _ _ D]
def Qo {x:Nat}(h:x<256):IntKind.u8.wrap ((x:Int)-1)=(((x+255)%256:Nat):Int):=by
 have:∀y:Fin 256,IntKind.u8.wrap ((y.val:Int)-1)=(((y.val+255)%256:Nat):Int):=by decide
 exact this ⟨x,h⟩
def Qp (gU gW gH rb n:Nat)(p1 p2 p3 p4:IV)(S0:ISt)(gs hs:List Nat)(ws:List (List Nat))(us:List (List Us))(u:Us)(st:ISt)(hP:PS gU gW gH rb n [p1,p2,p3,p4] S0 gs st hs ws us)(w:List Nat)(U:ws[u.1]?=some w)(x:Nat)(hx:w[u.2]?=some x)(h:Nat)(hh:hs[u.1]?=some h) :
  ICall prog gl 71 [.agg [.raw (.int .i32 (u.1:Int)),.raw (.int .i32 (u.2:Int))],.cptr (slG gW n),.cptr (ptr rb)] st
   (λr st'=>r=(decide ((x+255)%256=0/\h=0):Bool)/\PS gU gW gH rb n [p1,p2,p3,p4] S0 gs st' hs (decW ws u) us/\∀g k s,st g=some (.front k s)->st' g=some (.front k s)):=by
 have hM:=hP.mem;obtain⟨g,hg⟩:=ed (l:=gs) (k:=u.1) (by rw[hM.gll];exact (lGs U).1);have aa:=hM.row _ _ _ hg U;have ac:=(lGs hx).1;have al:x<256:=hM.small w (lMg U) x (lMg hx);have hn:u.1<n:=by rw[<- hM.hl];exact (lGs hh).1
 have af:g∈gs:=lMg hg;obtain⟨d1,d2,d3,d4,d5,d6,d7⟩:=hM.ne;have eW:gW≠g:=λe=>d3 (e▸af);have eH:gH≠g:=λe=>d5 (e▸af);have eR:rb≠g:=λe=>d6 (e▸af);have am:(rwsI gs ws++List.replicate (n-gs.length) (IV.sl ⟨true,.nil,0⟩ []))[u.1]?=some (slG g w.length):=by
  have:=BX hg U;rw[gw (lGs this).1];exact this
 refine ICall.intro (c:=cf prog gl [9,13,20,24,30,34] []) func71 rfl (by show _<=37;simp) (by kernel_rfl) ?_;simp only[go_sem,zE,fits,oE,IV.one,iu,eT,iNn,hn,hM.wts,am,aa,ac,BW hx,Qo al];have aj:List.take u.2 (u8J w)++[.raw (.int .u8 (((x+255)%256:Nat):Int))]++List.drop (u.2+1) (u8J w)=u8J (w.set u.2 ((x+255)%256)):=by
  rw[<- H9,<- qm (by rw[xo];exact ac)];rfl
 rw[c_ (by rw[xo];omega),aj];have E:=hP.setW hg U u.2 (v:=(x+255)%256) (Nat.mod_lt _ (by decide));rw[<- Ia U hx] at E;have ae:(decW ws u)[u.1]?=some (w.set u.2 ((x+255)%256)):=by rw[Ia U hx,iD,c_ rfl,c_ (lGs U).1]
 have A:(w.set u.2 ((x+255)%256))[u.2]?=some ((x+255)%256):=by rw[iD,c_ rfl,c_ ac]
 have ag:∀g' k s,st g'=some (.front k s)->(st.put g (some (.box (u8J (w.set u.2 ((x+255)%256)))))) g'=some (.front k s):=λg' k s ak=>(sn aa ak).trans ak;generalize st.put g (some (.box (u8J (w.set u.2 ((x+255)%256)))))=ax at E ag ⊢;generalize w.set u.2 ((x+255)%256)=w2 at ae A;generalize (x+255)%256=v at A ⊢;have G:=E.mem;have D:=G.row _ _ _ hg ae;have J:=(lGs A).1;have O:(rwsI gs (decW ws u)++List.replicate (n-gs.length) (IV.sl ⟨true,.nil,0⟩ []))[u.1]?=some (slG g w2.length):=by
  have:=BX hg ae;rw[gw (lGs this).1];exact this
 have ab:=G.rbx;simp only[fq,f_] at ab;by_cases hv:v=0
 ·subst hv;simp only[go_sem,zE,zA,fits,oE,IV.one,iu,eT,iNn,hn,G.wts,O,D,J,BW A,ab,G.hts,lN hh,show decide (((0:Nat):Int)=0)=true from rfl];exact dw ⟨by rw[show decide ((h:Int)=0)=decide (h=0) by rw[gM];omega],E,ag⟩
 ·have an:decide ((v:Int)=0)=false:=dEf (by omega);simp only[go_sem,zE,eT,G.wts,O,D,J,BW A,an];exact dw ⟨by rw[show decide (v=0/\h=0)=false from dEf λe=>hv e.1],E,ag⟩
def pD {S:ISt}{b:Nat}{x y:Option IObj}(h:S b=none):((S.put b x).put b y).put b none=S:=by
 funext c;simp only[ISt.put_apply];split
 ·rename_i e;rw[e,h]
 ·rfl
def PS.start {gU gW gH rb n:Nat}{p1 p2 p3 p4:IV}{S0 st:ISt}(ai:st gH=none)(ae:rb≠gH)(D:S0 rb=none)(ab:rb≠gU)(ac:gU≠gH)(ah:st gU=none)(O:gW≠gU)(U:rb≠gW)(aa:gW≠gH)(ag:st gW=none)(A:subSt S0 st) :
  PS gU gW gH rb n [p1,p2,p3,p4] S0 [] ((((st.put gH (some (.box (List.replicate n (0:Int))))).put rb (some (.box [p1,p2,p3,p4,slG gH n]))).put gU (some (.box (List.replicate n ())))).put gW (some (.box (List.replicate n ()))))
   (List.replicate n 0) [] (List.replicate n []):=by
 have J:=kX A ai;have G:=kX A ah;have E:=kX A ag;refine⟨⟨by rw[dZ U,dZ ab,b_];rfl,by rw[dZ aa.symm,dZ ac.symm,dZ ae.symm,b_];simp[eJ],iP,by rw[b_];simp[rwsI],rfl,λk g w h=>by simp at h,?_,λw h=>by cases h⟩,
  ⟨_,by rw[dZ O.symm,b_],by simp,λp l hp=>?_,λp q t t' ys aj g h1 _ h3=>?_⟩,fM (fM (fM (fM A J) D) G) E,⟨G,E,J,D,λg h=>by cases h⟩,?_,iP⟩
 ·simp only[jo,eK,h_,gq,not_or,nFt,kE,and_true];exact⟨⟨aa,U.symm⟩,ae.symm⟩
 ·rw[ml] at hp ⊢;split at hp
  ·rename_i af;cases hp;rw[c_ af];exact⟨_,_,rfl,AllR.nil,own.nil ..⟩
  ·cases hp
 ·rw[ml] at h1;split at h1
  ·cases h1;cases h3
  ·cases h1
 ·simp only[eK,h_,gq,not_or];exact⟨O.symm,ac,ab.symm⟩
def HtOk (cl:Nat->Prop)(i:Nat)(hs:List Nat):Prop:=∀(k x:Nat),hs[k]?=some x->(k<i->(x=1/\cl k)\/(x=0/\¬ cl k))/\(i<=k->x=0)
def Qq (cl:Nat->Prop)(n:Nat):HtOk cl 0 (List.replicate n 0):=λk x A=>by
 rw[ml] at A;split at A
 ·cases A;exact⟨λh=>absurd h (Nat.not_lt_zero _),λ_=>rfl⟩
 ·cases A
def NwOk (hs A:List Nat):Prop:=(∀k,k∈A↔hs[k]?=some 1)/\A.Nodup
def HtOk.one {cl:Nat->Prop}{i:Nat}{hs:List Nat}(h:HtOk cl i hs)(hc:cl i):HtOk cl (i+1) (hs.set i 1):=λk x A=>by
 rw[iD] at A;split at A
 ·rename_i e;subst e;split at A
  ·cases A;exact⟨λ_=>.inl ⟨rfl,hc⟩,λh=>by omega⟩
  ·cases A
 ·rename_i e;obtain⟨h1,h2⟩:=h k x A;exact⟨λD=>h1 (by omega),λE=>h2 (by omega)⟩
def HtOk.zero {cl:Nat->Prop}{i:Nat}{hs:List Nat}(h:HtOk cl i hs)(hc:¬ cl i):HtOk cl (i+1) hs:=λk x D=>by
 obtain⟨h1,h2⟩:=h k x D;refine⟨λA=>?_,λE=>h2 (by omega)⟩;by_cases e:k=i
 ·subst e;exact .inr ⟨h2 (eu _),hc⟩
 ·exact h1 (by omega)
def NwOk.add {hs A:List Nat}{i:Nat}(h:NwOk hs A)(E:hs[i]?=some 0):NwOk (hs.set i 1) (A++[i]):=by
 have D:i ∉ A:=λG=>by have:=(h.1 i).1 G;rw[E] at this;cases this
 refine⟨λk=>?_,mu.2 ⟨h.2,by simp,λa O b J=>by rw[eY.1 J];rintro rfl;exact D O⟩⟩;rw[eQ,eY,iD];by_cases e:i=k
 ·subst e;rw[c_ rfl,c_ (lGs E).1];simp
 ·rw[a_ e,h.1 k];exact⟨λh=>h.resolve_right λh=>e h.symm,.inl⟩
def NwOk.len {hs A:List Nat}(h:NwOk hs A):A.length<=hs.length:=by
 have:=wR (b:=List.range hs.length) h.2 λx D=>kD.2 (lGs ((h.1 x).1 D)).1
 rwa [List.length_range] at this
def Ib {p:Nat}:∀(l:List Us) (E:List (Nat×Us)),(∀u,l.count u<=E.count (p,u))->l.length<=E.length
 | [],_,_=>fe _
 | a::l,E,h=>by
  have G:=h a;rw[List.count_cons_self] at G;have D:(p,a)∈E:=mh.1 (by omega);have:=Ib (p:=p) l (E.erase (p,a)) λu=>by
   have A:=h u;rw[List.count_erase];by_cases e:a=u
   ·subst e;rw[List.count_cons_self] at A;rw[c_ (by simp)];omega
   ·rw[List.count_cons_of_ne e] at A;rw[a_ (by simp[e])];omega
  rw[List.length_erase_of_mem D] at this;have:=List.length_pos_of_mem D;rw[fa];omega
def UsOk.len {us:List (List Us)}{E:List (Nat×Us)}(h:UsOk us E){p:Nat}{l:List Us}(hp:us[p]?=some l):l.length<=E.length :=
 Ib (p:=p) l E λu=>by rw[<- h p u];unfold usAt;rw[hp];exact eu _
def BY {α β:Type}{F:α->List β}{c:Nat}:∀ {l:List α},(∀x∈l,(F x).length<=c)->(l.flatMap F).length<=c*l.length
 | [],_=>by simp
 | a::l,h=>by
  have h1:=h a (.head _);have h2:=BY (l:=l) λx A=>h x (.tail _ A);rw[fE,lLa,fa,Nat.mul_add,iu];omega
def Ic {i:Nat}{l:List Lk}(h:∀k∈l,k.2.2.length<=2):(evL i l).length<=2*l.length:=by
 have:=BY (F:=λA:Lk×Nat=>evK (i,A.2) A.1.2.2) (c:=2) (l:=l.zipIdx) λx D=>by
  unfold evK;rw[eP];exact h _ (List.fst_mem_of_mem_zipIdx D)
 rwa [List.length_zipIdx] at this
def Ie {links:List (List Lk)}(h:∀l∈links,l.length<=16000000/\∀k∈l,k.2.2.length<=2):(evA links).length<=32000000*links.length:=by
 have:=BY (F:=λA:List Lk×Nat=>evL A.2 A.1) (c:=32000000) (l:=links.zipIdx) λx D=>by
  obtain⟨h1,h2⟩:=h _ (List.fst_mem_of_mem_zipIdx D);have:=Ic (i:=x.2) h2;omega
 rwa [List.length_zipIdx] at this
def RdS (links:List (List Lk))(hs:List Nat)(S:Ss):Prop:=S.1.count 0+S.2.2.length=hs.count 0/\∀u,lkAt links u≠[]->∃x,atW S.2.1 u=some x
def RdS.step {links:List (List Lk)}{hs:List Nat}{S:Ss}(h:RdS links hs S){H:Nat}(E:0<H)(u:Us):RdS links hs (iA H S u):=by
 have D:(iA H S u).2.1=decW S.2.1 u:=by unfold iA;split<;>rfl
 refine⟨?_,λv hv=>?_⟩
 ·unfold iA;split
  ·rename_i hc;obtain⟨h1,h2⟩:=lGs hc.2;have:=List.count_set (a:=H) (b:=0) h1;have hp:0<S.1.count 0:=mh.2 (by rw[<- h2];exact List.getElem_mem h1);have G:=h.1;simp only[lLa,List.length_singleton];rw[this,h2,c_ (by simp),a_ (by simp;omega)];omega
  ·exact h.1
 ·obtain⟨x,A⟩:=h.2 v hv;rw[D,se];split
  ·exact⟨_,by rw[A];rfl⟩
  ·exact⟨x,A⟩
def rowJ (l:List Lk)(j:Nat):List Nat:=(l.take j).map (λk=>k.2.2.length)++List.replicate (l.length-j) 0
def Qr (l:List Lk):rowJ l 0=List.replicate l.length 0:=by simp[rowJ]
def Qs (l:List Lk){j:Nat}(h:j<=l.length):(rowJ l j).length=l.length:=by
 unfold rowJ;rw[lLa,eP,eO,iP];omega
def Qt (l:List Lk):rowJ l l.length=l.map λk=>k.2.2.length:=by simp[rowJ]
def Ig {l:List Lk}{j:Nat}{k:Lk}(h:l[j]?=some k):(rowJ l j).set j k.2.2.length=rowJ l (j+1):=by
 have D:=(lGs h).1;unfold rowJ;rw[en h,fS];have h1:((l.take j).map λk:Lk=>k.2.2.length).length=j:=by rw[eP,eO];omega
 rw[List.set_append_right _ _ (by omega),h1,gg];obtain⟨m,A⟩:∃m,l.length-j=m+1:=⟨l.length-j-1,by omega⟩
 rw[A,show l.length-(j+1)=m by omega,List.replicate_succ,j4,fD];rfl
def Qu (ca m:Nat)(W:List Fm)(hS:SpOk ca W)(tw:Tag)(xw:List IV)(cE:okEs tw 4)(cu:IsFms W xw)(cS:W.length<=200000)(lines:List Ln)(links:List (List Lk))(hA:LksAll ca W lines links)(cZ:lines.length<=20000)
  (tl tk:Tag) (xl xk:List IV) (mN rb:Nat) (bB:AllR IsLn lines xl) (bD:AllR xj links xk) (htl:okEs tl 2) (cH:okEs tk 1) (S0 st:ISt)
  (aS:st rb=some (.box [spI ca tw xw m,.sl tl xl,.raw (.map (some mN)),.sl tk xk,()])) (h0:S0 rb=none) (bJ:subSt S0 st) :
  ICall prog gl 39 [ptr rb] st (λr st'=>r=.tup []/\∃gH hs,st' rb=some (.box [spI ca tw xw m,.sl tl xl,.raw (.map (some mN)),.sl tk xk,slG gH lines.length])/\st' gH=some (.box (eJ hs)) /\
   hs.length=lines.length/\(∀i x,hs[i]?=some x->LstG (clL W lines) links i x)/\subSt S0 st'):=by
 have bA:=bB.1;have aU:=bD.1;have hll:=hA.len;refine k9 (t:=3) (n:=4) (c:=cf prog gl [25,3,56,60,96,152,3000027,3000035,3000041,3000084] [(8,[0,1,2,4,5,6,8,16,3,7,9,10,11,12,13,14,15,17,18,19])] [1]) func39 rfl (by show _<=165;simp) (by show _<165;simp) (by kernel_rfl) ?_;simp only[go_sem,zE,zA,zL,fits,aS];refine gp ⟨by omega,by omega,by omega⟩ λgH=>fc λbX=>gp rfl ?_;have cb:rb≠gH:=λe=>by rw[e,bX] at aS;cases aS
 rw[dZ cb,aS];simp only[go_sem,zA,zL];intro _;refine gp ⟨by omega,by omega,by omega⟩ λgU=>fc λan=>?_;have bp:rb≠gU:=λe=>by rw[<- e,b_] at an;cases an
 rw[dZ bp.symm] at an;have b9:gU≠gH:=λe=>by rw[e,b_] at an;cases an
 rw[dZ b9] at an;rw[dZ bp];simp only[go_sem,b_];intro _;refine gp ⟨by omega,by omega,by omega⟩ λgW=>fc λaa=>?_;have b6:gW≠gU:=λe=>by rw[e,b_] at aa;cases aa
 rw[dZ b6] at aa;have b7:rb≠gW:=λe=>by rw[<- e,b_] at aa;cases aa
 rw[dZ b7.symm] at aa;have b8:gW≠gH:=λe=>by rw[e,b_] at aa;cases aa
 rw[dZ b8] at aa;refine λb3=>fc λcQ=>gp rfl ?_;refine⟨b3,slG gW xl.length,by simp only[go_sem],b_ ..,?_⟩;rw[pD cQ,show age (slG gW xl.length)=slG gW xl.length by simp only[age]];rw[bA];have bo:=PS.start (n:=lines.length) (p1:=spI ca tw xw m) (p2:=.sl tl xl) (p3:=.raw (.map (some mN))) (p4:=.sl tk xk) bX cb h0 bp b9 an b6 b7 b8 aa bJ;generalize ((((st.put gH (some (.box (List.replicate lines.length (0:Int))))).put rb (some (.box [spI ca tw xw m,.sl tl xl,.raw (.map (some mN)),.sl tk xk,slG gH lines.length]))).put gU (some (.box (List.replicate lines.length ())))).put gW (some (.box (List.replicate lines.length ()))))=c7 at bo ⊢;have aY:=bo.mem.rbx;simp only[fq,f_] at aY;have aq:∀l∈links,l.length<=16000000:=λl cJ=>by
  obtain⟨i,hi,rfl⟩:=gS.1 cJ;obtain⟨ln,ax,hs⟩:=hA.done i _ (eN hi);rcases hs with⟨_,h0⟩|⟨_,vs,cB,bh⟩
  ·rw[h0];exact fe _
  ·have:=BM hS cS (hA.ok ln (lMg ax));rw[cB,eP] at this;rw[bh.1];exact this
 simp only[go_sem,zE,fits,aY];intro _;refine dC xk.length (λi fr st' ds=>(∃gs hs us O A,PS gU gW gH rb lines.length [spI ca tw xw m,.sl tl xl,.raw (.map (some mN)),.sl tk xk] S0 gs st' hs (wsOf (links.take i)) us/\UsOk us (evA (links.take i))/\own st' O A.length 1 S0/\fr 4=.iv (.sl O (i32I A))/\HtOk (clL W lines) i hs/\NwOk hs A) /\
  fr 1=.iv (.cptr (ptr rb))/\fr 2=(slG gU lines.length)/\fr 3=.iv (.cptr (slG gW lines.length))/\fr 45=.iv (.sl tk xk)/\fr 46=xk.length/\fr 47=(i:Int)/\ds=[]) ?_ ?_ ?_
 ·simp only[go_sem,zE];exact⟨⟨[],_,_,⟨true,.nil,0⟩,[],bo,UsOk.nil _,own.nil ..,rfl,Qq _ _,⟨λk=>by rw[ml];split<;>simp,kE⟩⟩,rfl⟩
 ·rintro i fr aO _ bP ⟨⟨gs,hs,us,O,A,E,hU,D,f4,hH,hN⟩,f1,f2,f3,f45,f46,f47,rfl⟩;have cM:i<links.length:=by omega
  obtain⟨l,hl⟩:=ed cM;obtain⟨ln,ax⟩:=ed (show i<lines.length by omega);have aZ:=hA.ok ln (lMg ax);obtain⟨_,cv,tL,yL,rfl,cI,bx⟩:=bD.2 i l hl;obtain⟨z,cq,hz⟩:=bB.2 i ln ax;have cR:=λst=>BL gl ca m W hS tw xw cE cu ln aZ z hz st;obtain⟨ta,tb,rfl,ea,eb⟩:=hz;have aE:=E.mem.rbx;simp only[fq,f_] at aE;simp only[go_sem,zE,zB,zA,f1,f45,f46,f47,lt_i bP,ec cH,ec htl,iNn,cv,cq,aE,fits,IV.one];refine (cR _).mono ?_;rintro _ aO ⟨⟨zf,rfl,cr⟩,rfl⟩;obtain⟨y1,y2,y3,y4,y5,y6,rfl⟩:=cr.agg;have cO:=BK (W:=W) aZ.1;have a1:clL W lines i↔(axW W ln).isSome=true:=by
   rw[cO];exact⟨λ⟨a,ha,hc⟩=>by rw[ax] at ha;cases ha;exact hc,λhc=>⟨ln,ax,hc⟩⟩
  simp only[go_sem,zE,zA,zL];refine BJ (λfr st' ds=>(∃hs us O A,PS gU gW gH rb lines.length [spI ca tw xw m,.sl tl xl,.raw (.map (some mN)),.sl tk xk] S0 gs st' hs (wsOf (links.take i)) us/\UsOk us (evA (links.take i))/\own st' O A.length 1 S0/\fr 4=.iv (.sl O (i32I A))/\HtOk (clL W lines) (i+1) hs/\NwOk hs A) /\
   fr 1=.iv (.cptr (ptr rb))/\fr 2=(slG gU lines.length)/\fr 3=.iv (.cptr (slG gW lines.length))/\fr 5=(i:Int)/\fr 6=.iv (.sl tL yL)/\fr 45=.iv (.sl tk xk)/\fr 46=xk.length/\fr 47=(i:Int)/\ds=[]) ?_ (λaQ=>?_) (λaQ=>?_)
  ·rintro fr bb _ ⟨⟨hs,us,O,A,E,hU,D,f4,hH,hN⟩,f1,f2,f3,f5,f6,f45,f46,f47,rfl⟩;have aB:=bx.1;have dk:=aq l (lMg hl);have U:i<lines.length:=by omega
   have bV:gs.length=i:=by rw[E.mem.gll];unfold wsOf;rw[eP,eO];omega
   simp only[go_sem,zE,zA,f3,f5,f6,fits,IV.one,iu,iNn,U];refine gp (by omega) λg=>fc λhg=>?_;have bW:gW≠g:=λe=>by rw[<- e,E.mem.wts] at hg;cases hg
   have aj:=E.row hg (w:=List.replicate l.length 0) (λx hx=>by rw[List.eq_of_mem_replicate hx];decide) (by omega);have aC:=E.mem.wts;rw[bV] at aj aC;rw[dZ bW,aC];have bL:(rwsI gs (wsOf (links.take i))++List.replicate (lines.length-i) (IV.sl ⟨true,.nil,0⟩ [])).length=lines.length:=by
    unfold rwsI;rw[lLa,List.length_zipWith,iP,<- E.mem.gll,Nat.min_self];omega
   have ai:∀y:IV,List.take i (rwsI gs (wsOf (links.take i))++List.replicate (lines.length-i) (IV.sl ⟨true,.nil,0⟩ []))++[y]++List.drop (i+1) (rwsI gs (wsOf (links.take i))++List.replicate (lines.length-i) (IV.sl ⟨true,.nil,0⟩ [])) =
     (rwsI gs (wsOf (links.take i))++List.replicate (lines.length-i) (IV.sl ⟨true,.nil,0⟩ [])).set i y:=λy=>by
    rw[<- qm (by rw[bL];exact U)];rfl
   have b2:=aj;rw[iP,<- aB] at aj;simp only[u8J,List.map_replicate] at aj;simp only[go_sem,bL,ai];rw[c_ (show i+1<=lines.length from U)];intro _;rw[show List.replicate yL.length 0=rowJ l 0 by rw[Qr,aB]] at aj;have am:own ((bb.put g (some (.box (List.replicate yL.length (.raw (.int .u8 ((0:Nat):Int))))))).put gW (some (.box ((rwsI gs (wsOf (links.take i))++List.replicate (lines.length-i) (IV.sl ⟨true,.nil,0⟩ [])).set i (slG g yL.length))))) O A.length 1 S0:=D.mono λg' G _=>by
    rw[dZ (λe=>by rw[e,E.mem.wts] at G;cases G),dZ (λe=>by rw[e,hg] at G;cases G)];exact G
   refine (?_:∀st4,PS gU gW gH rb lines.length _ S0 (gs++[g]) st4 hs (wsOf (links.take i)++[rowJ l 0]) us->own st4 O A.length 1 S0->LoopC _ _ _ _ st4 _) _ aj am;intro st4 aj am;clear D E b2;refine dC yL.length (λj fr st' ds=>(∃us,PS gU gW gH rb lines.length [spI ca tw xw m,.sl tl xl,.raw (.map (some mN)),.sl tk xk] S0 (gs++[g]) st' hs (wsOf (links.take i)++[rowJ l j]) us/\UsOk us (evA (links.take i)++evL i (l.take j))/\own st' O A.length 1 S0) /\
    fr 1=.iv (.cptr (ptr rb))/\fr 2=(slG gU lines.length)/\fr 3=.iv (.cptr (slG gW lines.length))/\fr 4=.iv (.sl O (i32I A))/\fr 5=(i:Int)/\fr 45=.iv (.sl tk xk)/\fr 46=xk.length/\fr 47=(i:Int) /\
    fr 86=.iv (.sl tL yL)/\fr 87=yL.length/\fr 88=(j:Int)/\ds=[]) ?_ ?_ ?_
   ·simp only[go_sem,zE];exact⟨⟨us,aj,by simpa[evL] using hU,am⟩,f1,f2,f3,f4,f5,f45,f46,f47,rfl⟩
   ·rintro j fr aw _ bi ⟨⟨us,E,hU,D⟩,f1,f2,f3,f4,f5,f45,f46,f47,f86,f87,f88,rfl⟩;have bR:j<l.length:=by rw[<- aB];exact bi
    obtain⟨k,hk⟩:=ed bR;obtain⟨ch,bC,aV⟩:=bx.2 j k hk;obtain⟨_,cL,df,de,cK⟩:=hA.lk hS (lMg hl) (lMg hk);have cF:=λst=>to_c gl k ch aV cL st;obtain⟨kp,kq,rfl,dc⟩:=id aV;have aC:=E.mem.wts;have bk:(gs++[g])[i]?=some g:=by rw[<- bV,gD (eu _),gg];rfl
    have bF:(wsOf (links.take i)).length=i:=by unfold wsOf;rw[eP,eO];omega
    have bc:(wsOf (links.take i)++[rowJ l j])[i]?=some (rowJ l j):=by rw[gD (by omega),bF,gg];rfl
    have bf:=E.mem.row i g _ bk bc;have bK:=Qs l (j:=j) (by omega);have bG:(rwsI (gs++[g]) (wsOf (links.take i)++[rowJ l j])++List.replicate (lines.length-(gs++[g]).length) (IV.sl ⟨true,.nil,0⟩ []))[i]?=some (slG g (rowJ l j).length):=by
     have:=BX bk bc;rw[gw (lGs this).1];exact this
    have bQ:j<(rowJ l j).length:=by rw[bK];exact bR
    simp only[go_sem,zE,zB,zA,zL,f3,f5,f86,f87,f88,lt_i bi,ec cI,iNn,bC,aC,bG,bf,bQ,U,fits,IV.one,iu,eT];have aD:List.take j (u8J (rowJ l j))++[.raw (.int .u8 (k.2.2.length:Int))]++List.drop (j+1) (u8J (rowJ l j))=u8J (rowJ l (j+1)):=by
     rw[<- Ig hk,<- H9,<- qm (by rw[xo];exact bQ)];rfl
    rw[c_ (by rw[xo];omega),aD];have ao:=E.setW bk bc j (v:=k.2.2.length) (by omega);rw[Ig hk,show (wsOf (links.take i)++[rowJ l j]).set i (rowJ l (j+1))=wsOf (links.take i)++[rowJ l (j+1)] by rw[List.set_append_right _ _ (by omega),bF,gg];rfl] at ao;have J:own (aw.put g (some (.box (u8J (rowJ l (j+1)))))) O A.length 1 S0:=D.mono λg' G _=>(sn bf G).trans G;generalize aw.put g (some (.box (u8J (rowJ l (j+1)))))=az at ao J ⊢;clear E D aC bf aD;refine (cF _).mono ?_;rintro _ az ⟨⟨tp,rfl,htp⟩,rfl⟩;simp only[go_sem,uT];intro _;refine dC k.2.2.length (λq fr st' ds=>(∃us,PS gU gW gH rb lines.length [spI ca tw xw m,.sl tl xl,.raw (.map (some mN)),.sl tk xk] S0 (gs++[g]) st' hs (wsOf (links.take i)++[rowJ l (j+1)]) us/\UsOk us (evA (links.take i)++evL i (l.take j)++evK (i,j) (k.2.2.take q))/\own st' O A.length 1 S0) /\
     fr 1=.iv (.cptr (ptr rb))/\fr 2=(slG gU lines.length)/\fr 3=.iv (.cptr (slG gW lines.length))/\fr 4=.iv (.sl O (i32I A))/\fr 5=(i:Int)/\fr 45=.iv (.sl tk xk)/\fr 46=xk.length/\fr 47=(i:Int) /\
     fr 86=.iv (.sl tL yL)/\fr 87=yL.length/\fr 88=(j:Int)/\fr 10=(j:Int)/\fr 102=.iv (.sl tp (i32I k.2.2))/\fr 103=.iv (.raw (.int .i64 k.2.2.length))/\fr 104=(q:Int)/\ds=[]) ?_ ?_ ?_
    ·simp only[go_sem,zE];exact⟨⟨us,ao,by simpa[evK] using hU,J⟩,f1,f2,f3,f4,f5,f45,f46,f47,f86,f87,f88,rfl⟩
    ·rintro q fr bu _ hq ⟨⟨us,E,hU,D⟩,f1,f2,f3,f4,f5,f45,f46,f47,f86,f87,f88,f10,f102,f103,f104,rfl⟩;obtain⟨p,hp⟩:=ed hq;have bN:=cK p (lMg hp);obtain⟨cells,c1,c2,c3,c4⟩:=E.usr.ex;obtain⟨lu,ae⟩:=ed (l:=us) (k:=p) (by rw[E.ul,<- hll];exact bN);obtain⟨tu,yu,d1,d2,d3⟩:=c3 p lu ae;have bm:=λn:Int=>nc prog 3 21 np xi .i64 n;have cA:IntKind.i32.wrap (i:Int)=(i:Int):=IntWalk.i32_in _ (by omega);have cz:IntKind.i32.wrap (j:Int)=(j:Int):=IntWalk.i32_in _ (by omega);have hpL:p<lines.length:=by rw[<- hll];exact bN
     simp only[go_sem,zE,zA,zM,zL,f2,f5,f10,f102,f103,f104,lt_i hq,ec htp,iNn,H8 hp,oE,c1,d1,hpL,bm,cA,cz,fg,fits,IV.one,iu,eT];have cC:=hU.len ae;have dn:(evA (links.take i)).length<=32000000*20000:=by
      have h1:=Ie (links:=links.take i) λl' aH=>⟨aq l' (mr aH),λk' aI=>(hA.lk hS (mr aH) aI).2.1⟩
      have h2:(links.take i).length<=20000:=by rw[eO];omega
      exact eM h1 (Nat.mul_le_mul_left _ h2)
     have dm:(evL i (l.take j)).length<=2*16000000:=by
      have h1:=Ic (i:=i) (l:=l.take j) λk' aI=>(hA.lk hS (lMg hl) (mr aI)).2.1;have h2:(l.take j).length<=16000000:=by rw[eO];omega
      exact eM h1 (Nat.mul_le_mul_left _ h2)
     have dl:(evK (i,j) (k.2.2.take q)).length<=2:=by unfold evK;rw[eP,eO];omega
     rw[lLa,lLa] at cC;refine BV d3 d2.1 E.base rfl (by simp[fits,IV.one]) (by simp only;omega) (by omega) λcm ba w1 w2 w3 w4=>?_;have b4:=E.addU (u:=(i,j)) rfl ae c1 d1 w1 w2 w3 w4;have cP:ba gU=some (.box cells):=w3 _ _ c1 λe=>by rw[sj d3 e] at c1;cases c1
     have aF:own (ba.put gU (some (.box (cells.set p (.sl cm (yu++[.agg [.raw (.int .i32 (i:Int)),.raw (.int .i32 (j:Int))]])))))) O A.length 1 S0:=D.mono λg' G _=>by
      rw[dZ λe=>by rw[e,c1] at G;cases G];exact w3 _ _ G λe=>by rw[sj d3 e] at G;simp at G
     simp only[go_sem,zE,f1,f2,f3,f4,f5,f10,f45,f46,f47,f86,f87,f88,f102,f103,f104,cP,hpL,ek hq (by omega),IV.one,iu];have aK:p<cells.length:=(lGs d1).1;rw[c_ (iNn _),c_ (show p+1<=cells.length from aK)];have b1:=hU.add (p:=p) (u:=(i,j)) (lGs ae).1;rw[show usAt us p=lu by unfold usAt;rw[ae];rfl,fD,<- Qk hp] at b1;exact⟨_,by rw[<- qm aK] at b4;exact b4,b1,by rw[<- qm aK] at aF;exact aF⟩
    ·rintro fr bu _ ⟨⟨us,E,hU,D⟩,f1,f2,f3,f4,f5,f45,f46,f47,f86,f87,f88,f10,f102,f103,f104,rfl⟩;simp only[go_sem,zE,f1,f2,f3,f4,f5,f45,f46,f47,f86,f87,f88,f103,f104,eI (nLi _)];rw[lTl,fD,<- Qj hk] at hU;exact⟨⟨us,E,hU,D⟩,by rw[ek bi (by omega)]⟩
   ·rintro fr aw _ ⟨⟨us,E,hU,D⟩,f1,f2,f3,f4,f5,f45,f46,f47,f86,f87,f88,rfl⟩;rw[aB,lTl,<- Qi hl] at hU;rw[aB,show wsOf (links.take i)++[rowJ l l.length]=wsOf (links.take (i+1)) by rw[en hl,Qt];unfold wsOf;rw[fS];rfl] at E;simp only[go_sem,zE,f1,f2,f3,f4,f45,f46,f47,f87,f88,eI (nLi _),ek bP (by omega)];exact⟨_,hs,us,O,A,E,hU,D,rfl,hH,hN⟩
  ·have aJ:=E.mem.hts;have bj:=E.mem.hl;have U:i<lines.length:=by omega
   have bm:=λn:Int=>nc prog 3 21 np xi .i64 n;have hw:IntKind.i32.wrap (i:Int)=(i:Int):=IntWalk.i32_in _ (by omega);simp only[go_sem,zE,zA,zL,f1,f4,aE,aJ,fits,IV.one,iu,eT,iNn,U,fg,bm,hw];have ai:List.take i (eJ hs)++[.raw (.int .i64 1)]++List.drop (i+1) (eJ hs)=eJ (hs.set i 1):=by
    rw[<- H_,<- qm (by rw[gN,bj];exact U)];rfl
   rw[c_ (by rw[gN,bj];omega),ai];have ao:=E.setH i 1;have J:own (aO.put gH (some (.box (eJ (hs.set i 1))))) O A.length 1 S0:=D.mono λg hg _=>(sn aJ hg).trans hg;have cw:hs[i]?=some 0:=by
    obtain⟨x,hx⟩:=ed (l:=hs) (k:=i) (by rw[bj];exact U);rw[hx,(hH i x hx).2 (eu _)]
   have da:=hN.len;generalize aO.put gH (some (.box (eJ (hs.set i 1))))=bb at ao J ⊢;refine BV J (uT A) ao.base rfl (by simp[fits,IV.one]) (by simp only;omega) (by omega) λck st4 w1 w2 w3 w4=>?_;simp only[go_sem,zE,f1,f2,f3,f45,f46,f47];exact⟨_,us,ck,A++[i],ao.far J w2 w3,hU,by rw[lLa];exact w1,by simp[i32I],hH.one (a1.2 aQ),hN.add cw⟩
  ·simp only[go_sem,zE,f1,f2,f3,f4,f45,f46,f47];exact⟨hs,us,O,A,E,hU,D,rfl,hH.zero (λh=>(by rw[a1.1 h] at aQ;cases aQ)),hN⟩
 ·rintro fr aO _ ⟨⟨gs,hs,us,O,A,E,hU,D,f4,hH,hN⟩,f1,f2,f3,f45,f46,f47,rfl⟩;rw[aU,lTl] at E hU;rw[aU] at hH;have be:∀p u,(usAt us p).count u=(lkAt links u).count p:=λp u=>(hU p u).trans (Ql links p u);have cT:Rnd (clL W lines) links 2 hs (wsOf links) A:=Rnd.start (λl hl k hk=>(hA.lk hS hl hk).1) (by rw[E.mem.hl,hll]) (λi x hx=>(hH i x hx).1 (by rw[hll,<- E.mem.hl];exact (lGs hx).1)) hN.1 hN.2;have bU:gs.length=lines.length:=by rw[E.mem.gll];unfold wsOf;rw[eP,hll]
  have h2:∀u,(lkAt links u).length<=2:=λu=>by
   unfold lkAt;cases hk:((links[u.1]?).getD [])[u.2]? with
   | none=>simp
   | some k =>
    cases hl:links[u.1]? with
    | none=>rw[hl] at hk;simp at hk
    | some l =>
     rw[hl] at hk;exact (hA.lk hS (lMg hl) (lMg hk)).2.1
  have bS:∀u,∀p∈lkAt links u,p<links.length:=λu p hp=>by
   unfold lkAt at hp;cases hk:((links[u.1]?).getD [])[u.2]? with
   | none=>rw[hk] at hp;cases hp
   | some k =>
    rw[hk] at hp;cases hl:links[u.1]? with
    | none=>rw[hl] at hk;simp at hk
    | some l =>
     rw[hl] at hk;exact (hA.lk hS (lMg hl) (lMg hk)).2.2.2.2 p hp
  have di:hs.count 0<=20000:=by
   have:=List.count_le_length (a:=0) (l:=hs);have:=E.mem.hl;omega
  simp only[go_sem,zE,f1,f3,f46,f47,eI (nLi _)];refine LoopC.dec (2*hs.count 0+if A=[] then 0 else 1) (λq fr st' ds=>(∃H hs ws O A,q=2*hs.count 0+(if A=[] then 0 else 1)/\2<=H/\H+hs.count 0<=20002+(if A=[] then 1 else 0)/\PS gU gW gH rb lines.length [spI ca tw xw m,.sl tl xl,.raw (.map (some mN)),.sl tk xk] S0 gs st' hs ws us /\
   Rnd (clL W lines) links H hs ws A/\okEs O 1/\fr 4=.iv (.sl O (i32I A))/\fr 15=(H:Int)) /\
   fr 1=.iv (.cptr (ptr rb))/\fr 2=(slG gU lines.length)/\fr 3=.iv (.cptr (slG gW lines.length))/\fr 14=.iv (.fn (.func 71) [] [.cptr (slG gW lines.length),.cptr (ptr rb)])/\ds=[]) ?_ ?_
  ·simp only[go_sem,zE,f1,f2,f3,f4];exact⟨2,hs,_,O,A,rfl,eu _,by omega,E,cT,D.es,rfl,rfl⟩
  ·rintro q fr bb _ ⟨⟨H,hs,ws,O,A,hq,b5,cU,E,hR,cG,f4,f15⟩,f1,f2,f3,f14,rfl⟩;by_cases bg:A=[]
   ·subst bg;simp only[go_sem,zL,f4,uT,fb,show decide (((0:Nat):Int) > 0)=false from rfl];have aX:=E.mem.rbx;simp only[fq,f_] at aX;exact dw ⟨rfl,gH,hs,aX,E.mem.hts,E.mem.hl,(Sett.right (us:=us) (.done H hs ws) hR b5 be h2 bS).2,E.base⟩
   ·have cY:0<A.length:=kC.2 bg;rw[a_ bg] at hq cU;simp only[go_sem,zE,f4,uT,show decide (((A.length:Nat):Int) > 0)=true from dEt (by omega)];intro _ _;refine dC A.length (λa fr st' ds=>(∃tq S,S=((A.take a).flatMap (usAt us)).foldl (iA H) (hs,ws,[])/\PS gU gW gH rb lines.length [spI ca tw xw m,.sl tl xl,.raw (.map (some mN)),.sl tk xk] S0 gs st' S.1 S.2.1 us/\RdS links hs S/\own st' tq S.2.2.length 1 S0/\fr 16=.iv (.sl tq (i32I S.2.2))) /\
     fr 1=.iv (.cptr (ptr rb))/\fr 2=(slG gU lines.length)/\fr 3=.iv (.cptr (slG gW lines.length))/\fr 14=.iv (.fn (.func 71) [] [.cptr (slG gW lines.length),.cptr (ptr rb)])/\fr 15=(H:Int) /\
     fr 131=.iv (.sl O (i32I A))/\fr 132=.iv (.raw (.int .i64 A.length))/\fr 133=(a:Int)/\ds=[]) ?_ ?_ ?_
    ·simp only[go_sem,zE];exact⟨⟨⟨true,.nil,0⟩,_,rfl,E,⟨jJ _,hR.wd⟩,own.nil ..,rfl⟩,f1,f2,f3,f14,f15,rfl⟩
    ·rintro a fr st4 _ ha ⟨⟨tq,S,ab,E,ah,D,f16⟩,f1,f2,f3,f14,f15,f131,f132,f133,rfl⟩;obtain⟨i,hi⟩:=ed ha;have U:i<lines.length:=by
      have:=(lGs ((hR.nw i).1 (lMg hi))).1;rw[hR.len,hll] at this;exact this
     obtain⟨cells,c1,c2,c3,c4⟩:=E.usr.ex;obtain⟨lu,ae⟩:=ed (l:=us) (k:=i) (by rw[E.ul];exact U);obtain⟨tu,yu,d1,d2,d3⟩:=c3 i lu ae;have bH:usAt us i=lu:=by unfold usAt;rw[ae];rfl
     have aA:=d2.1;have c8:yu.length<=32000000*20000:=by
      have h1:=hU.len ae;have h2:=Ie (links:=links) λl' aH=>⟨aq l' aH,λk' aI=>(hA.lk hS aH aI).2.1⟩
      have h3:links.length<=20000:=by omega
      rw[aA];exact eM h1 (eM h2 (Nat.mul_le_mul_left _ h3))
     simp only[go_sem,zE,f2,f131,f132,f133,lt_i ha,ec cG,iNn,H8 hi,oE,c1,d1,U,fits,IV.one,iu,eT];intro _;refine dC yu.length (λb fr st' ds=>(∃tq S,S=((A.take a).flatMap (usAt us)++lu.take b).foldl (iA H) (hs,ws,[])/\PS gU gW gH rb lines.length [spI ca tw xw m,.sl tl xl,.raw (.map (some mN)),.sl tk xk] S0 gs st' S.1 S.2.1 us/\RdS links hs S/\own st' tq S.2.2.length 1 S0/\fr 16=.iv (.sl tq (i32I S.2.2))) /\
      fr 1=.iv (.cptr (ptr rb))/\fr 2=(slG gU lines.length)/\fr 3=.iv (.cptr (slG gW lines.length))/\fr 14=.iv (.fn (.func 71) [] [.cptr (slG gW lines.length),.cptr (ptr rb)])/\fr 15=(H:Int) /\
      fr 131=.iv (.sl O (i32I A))/\fr 132=.iv (.raw (.int .i64 A.length))/\fr 133=(a:Int)/\fr 140=.iv (.sl tu yu)/\fr 141=yu.length/\fr 142=(b:Int)/\ds=[]) ?_ ?_ ?_
     ·simp only[go_sem,zE];exact⟨⟨tq,S,ab,E,ah,D,f16⟩,f1,f2,f3,f14,f15,f131,f132,f133,rfl⟩
     ·rintro b fr aw _ hb ⟨⟨tq,S,ab,E,ah,D,f16⟩,f1,f2,f3,f14,f15,f131,f132,f133,f140,f141,f142,rfl⟩;obtain⟨u,hu⟩:=ed (l:=lu) (k:=b) (by rw[<- aA];exact hb);obtain⟨yy,bw,ct⟩:=d2.2 b u hu;have bh:lkAt links u≠[]:=λe=>by
       have h1:=be i u;rw[bH,e] at h1;have h3:0<lu.count u:=mh.2 (lMg hu);rw[h1] at h3;simp at h3
      obtain⟨x,hx⟩:=ah.2 u bh;obtain⟨w,hw,cy⟩:∃w,S.2.1[u.1]?=some w/\w[u.2]?=some x:=by
       unfold atW at hx;cases hw:S.2.1[u.1]? with
       | none=>rw[hw] at hx;simp at hx
       | some w=>rw[hw] at hx;exact⟨w,rfl,hx⟩
      have dh:S.2.1.length=lines.length:=by rw[<- E.mem.gll,bU]
      obtain⟨h,hh⟩:=ed (l:=S.1) (k:=u.1) (by rw[E.mem.hl];have:=(lGs hw).1;omega);have cN:=Qp gl gU gW gH rb lines.length _ _ _ _ S0 gs S.1 S.2.1 us u aw E w hw x cy h hh;rw[ct] at bw;have ac:iA H S u=((A.take a).flatMap (usAt us)++lu.take (b+1)).foldl (iA H) (hs,ws,[]):=by
       rw[en hu,<- fD,List.foldl_append,<- ab];rfl
      have av:=ah.step (H:=H) (by omega) u;have bZ:atW (decW S.2.1 u) u=some ((x+255)%256):=by rw[se,c_ rfl,hx];rfl
      have bI:u.1<lines.length:=by rw[<- E.mem.hl];exact (lGs hh).1
      simp only[go_sem,zE,zB,zA,zL,f14,f140,f141,f142,lt_i hb,ec d3.es,iNn,bw,fits,IV.one];refine cN.mono ?_;rintro _ az ⟨rfl,ay,bY⟩;have aG:own az tq S.2.2.length 1 S0:=D.mono λg' G _=>bY _ _ _ G;have c9:S.2.2.length<=20000:=by
       have h4:=ah.1;have h5:=List.count_le_length (a:=0) (l:=hs);have h6:=hR.len;omega
      by_cases aL:(x+255)%256=0/\h=0
      ·have hT:iA H S u=(S.1.set u.1 H,decW S.2.1 u,S.2.2++[u.1]):=by
        unfold iA;rw[c_ ⟨by rw[bZ,aL.1],by rw[hh,aL.2]⟩]
       rw[hT] at ac av;have aJ:=ay.mem.hts;have aW:=ay.mem.rbx;simp only[fq,f_] at aW;simp only[go_sem,zE,zA,zL,dEt aL,f1,f15,f16,aW,aJ,oE,fits,IV.one,iu,eT,iNn,bI,fg];have ai:List.take u.1 (eJ S.1)++[.raw (.int .i64 (H:Int))]++List.drop (u.1+1) (eJ S.1)=eJ (S.1.set u.1 H):=by
        rw[<- H_,<- qm (by rw[gN,ay.mem.hl];exact bI)];rfl
       rw[c_ (by rw[gN,ay.mem.hl];omega),ai];have bn:=ay.setH u.1 H;have al:own (az.put gH (some (.box (eJ (S.1.set u.1 H))))) tq S.2.2.length 1 S0:=aG.mono λg' G _=>(sn aJ G).trans G;generalize az.put gH (some (.box (eJ (S.1.set u.1 H))))=bu at bn al ⊢;refine BV al (uT _) bn.base rfl (by simp[fits,IV.one]) (by simp only;omega) (by omega) λcj ba w1 w2 w3 w4=>?_;simp only[go_sem,zE,f1,f2,f3,f14,f15,f131,f132,f133,f140,f141,f142,ek hb (by omega)];exact⟨cj,_,ac,bn.far al w2 w3,av,by rw[lLa];exact w1,by simp[i32I]⟩
      ·have hF:iA H S u=(S.1,decW S.2.1 u,S.2.2):=by
        unfold iA;rw[a_ λe=>aL ⟨by have:=e.1;rw[bZ] at this;exact fA this,by have:=e.2;rw[hh] at this;exact fA this⟩]
       rw[hF] at ac av;simp only[go_sem,zE,dEf aL,f1,f2,f3,f14,f15,f16,f131,f132,f133,f140,f141,f142,ek hb (by omega)];exact⟨tq,_,ac,ay,av,aG,rfl⟩
     ·rintro fr aw _ ⟨⟨tq,S,ab,E,ah,D,f16⟩,f1,f2,f3,f14,f15,f131,f132,f133,f140,f141,f142,rfl⟩;rw[aA,lTl] at ab;have b0:(A.take a).flatMap (usAt us)++lu=(A.take (a+1)).flatMap (usAt us):=by rw[en hi,kx,List.flatMap_singleton,bH]
      rw[b0] at ab;simp only[go_sem,zE,f1,f2,f3,f14,f15,f131,f132,f133,f141,f142,eI (nLi _),ek ha (by omega)];exact⟨tq,S,ab,E,ah,D,f16⟩
    ·rintro fr st4 _ ⟨⟨tq,S,ab,E,ah,D,f16⟩,f1,f2,f3,f14,f15,f131,f132,f133,rfl⟩;rw[lTl] at ab;have bO:=hR.next b5 be h2 bS;rw[<- ab] at bO;have hc:=ah.1;have c0:H<=20002:=by omega
     simp only[go_sem,zE,f1,f2,f3,f14,f15,f16,f132,f133,eI (nLi _)];refine⟨2*S.1.count 0+(if S.2.2=[] then 0 else 1),?_,H+1,S.1,S.2.1,tq,S.2.2,rfl,by omega,?_,E,bO,D.es,rfl,by rw[ek (fP H) (by omega)]⟩
     ·by_cases h0:S.2.2=[]
      ·rw[h0,fb] at hc;rw[c_ h0];omega
      ·have:=kC.2 h0;rw[a_ h0];omega
     ·by_cases h0:S.2.2=[]
      ·rw[h0,fb] at hc;rw[c_ h0];omega
      ·have:=kC.2 h0;rw[a_ h0];omega
def BadR (ca:Nat)(s:Sq)(e:Nat):Prop:=((¬ (ca=1\/ca=2)/\e=2)\/((ca=1\/ca=2)/\fT ca s=false/\e=190)\/((ca=1\/ca=2)/\fT ca s=true/\rU (calJ ca) (nf (s.l,s.r)) e))/\e=errN ca s
def BadR.ne {ca:Nat}{s:Sq}{e:Nat}(h:BadR ca s e):e≠0:=by
 rcases h.1 with⟨_,rfl⟩|⟨_,_,rfl⟩|⟨_,_,h|h⟩
 ·decide
 ·decide
 ·rw[h.1];decide
 ·rw[h.1];decide
def ExplR.split {ca:Nat}{s:Sq}{st st':ISt}{r:IV}(h:ExplR ca s st r st'):(∃e,BadR ca s e/\r=.tup [.raw (.pointer none),(e:Int)]/\st'=st) \/
  (errN ca s=0/\(ca=1\/ca=2)/\fT ca s=true/\∃m tw xw rb mN lines links,okEs tw 4/\IsFms (spW s) xw/\r=.tup [ptr rb,(0:Int)]/\RS ca m (spW s) tw xw rb mN st st' lines links/\ExS ca (spW s) (nf (s.l,s.r)) lines links/\links.length=lines.length):=by
 rcases h with⟨hc,h1,h2⟩|⟨hc,hv,h1,h2⟩|⟨hc,hv,⟨e,h1,h2,A⟩|h⟩
 ·exact .inl ⟨2,⟨.inl ⟨hc,rfl⟩,by unfold errN;rw[a_ hc]⟩,h1,h2⟩
 ·exact .inl ⟨190,⟨.inr (.inl ⟨hc,hv,rfl⟩),by unfold errN;rw[c_ hc,a_ (by rw[hv];simp)]⟩,h1,h2⟩
 ·exact .inl ⟨e,⟨.inr (.inr ⟨hc,hv,h1.1⟩),h1.2⟩,h2,A⟩
 ·obtain⟨m,tw,xw,rb,mN,lines,links,G,a2,a3,a4,a5,E,D⟩:=h;exact .inr ⟨D,hc,hv,m,tw,xw,rb,mN,lines,links,G,a2,a3,a4,a5,E⟩
def Ih (G:Gl gl)(T:Gt gl)(ca:Nat)(s:Sq)(x:IV)(hx:IsSq s x)(hs:ig s)(st:ISt):ICall prog gl 12 [.raw (.int .u8 (ca:Int)),x] st (λr st'=>st'=st /\
  ((∃e,BadR ca s e/\r=.tup [(0:Int),(e:Int)])\/(errN ca s=0/\(ca=1\/ca=2)/\fT ca s=true/\(∃K:List Sn,ReachOk (calJ ca) (nf (s.l,s.r)) K)/\r=.tup [(hF (calJ ca) (s.l,s.r):Int),(0:Int)]))):=by
 have he:=Qh gl G T ca s x hx hs;obtain⟨t1,x1,t2,x2,rfl,e1,i1,e2,i2⟩:=hx;refine iI func12 ?_;simp only[go_sem,zE,zA,zL,reduceCtorEq];refine (he _).mono ?_;rintro r ab hr;rcases hr.split with⟨e,hb,rfl,rfl⟩|⟨ao,hc,hv,m,tw,xw,rb,mN,lines,links,ag,ac,rfl,U,hE,hl⟩
 ·have h0:decide ((e:Int)=0)=false:=dEf (by have:=hb.ne;omega);simp only[go_sem,zE,h0];exact dw ⟨rfl,.inl ⟨e,hb,rfl⟩⟩
 ·obtain⟨hS,_,aq,aA⟩:=si hc hv;obtain⟨tl,xl,tk,xk,aj,ae,ak,af,al⟩:=U.ex;have hA:=hE.all hl;have ah:=Qu gl ca m (spW s) hS tw xw ag ac aq lines links hA hE.len tl tk xl xk mN rb ae af ak.es al.es st ab aj U.off.1 U.base;simp only[go_sem,zE,zA,d_];refine ah.mono ?_;rintro _ ay ⟨rfl,gH,ai,D,an,aB,E,A⟩;obtain⟨ln,J,am⟩:=hE.start;have au:=(lGs J).1;obtain⟨h,hh⟩:=ed (l:=ai) (k:=0) (by omega);have O:=hA.hF hS J (E 0 h hh);rw[am,G9] at O;simp only[go_sem,zE,D,an,fits,au,lN hh,Nat.zero_mul,jJ,show ((0:Int)<=0)=True from fU (by decide),show Int.toNat 0=0 from rfl,IV.one];rw[<- O];exact⟨st,A,rfl,.inr ⟨ao,hc,hv,⟨_,hE.reach hS U.nd (Nat.le_of_eq hl.symm)⟩,rfl⟩⟩
def Qv (G:Gl gl)(T:Gt gl)(ca:Nat)(s:Sq)(x:IV)(A:IsSq s x)(hs:ig s)(st:ISt):ICall prog gl 12 [.raw (.int .u8 (ca:Int)),x] st (λr st'=>st'=st /\
  ((∃e,BadR ca s e/\r=.tup [(0:Int),(e:Int)])\/((ca=1\/ca=2)/\fT ca s=true/\(∃K:List Sn,ReachOk (calJ ca) (nf (s.l,s.r)) K)/\r=.tup [(hF (calJ ca) (s.l,s.r):Int),(0:Int)]))) :=
 (Ih gl G T ca s x A hs st).mono λ_ _ ⟨h1,h2⟩=>⟨h1,h2.imp_right (·.2)⟩
noncomputable def leF (ca:Nat)(s:Sq):Nat×Nat:=(if errN ca s=0 then hF (calJ ca) (s.l,s.r) else 0,errN ca s)
def Qw (G:Gl gl)(T:Gt gl)(ca:Nat)(s:Sq)(x:IV)(E:IsSq s x)(hs:ig s)(st:ISt):ICall prog gl 12 [.raw (.int .u8 (ca:Int)),x] st (λr st'=>(r=.tup [((leF ca s).1:Int),((leF ca s).2:Int)] /\
  ((leF ca s).2=0->(ca=1\/ca=2)/\fT ca s=true/\∃K:List Sn,ReachOk (calJ ca) (nf (s.l,s.r)) K))/\st'=st) :=
 (Ih gl G T ca s x E hs st).mono λr st' ⟨h1,h2⟩=>by
  rcases h2 with⟨e,D,rfl⟩|⟨h0,hc,hv,hK,rfl⟩
  ·obtain rfl:e=errN ca s:=D.2;have A:=D.ne;exact⟨⟨by simp only[leF,a_ A];rfl,λh=>(A h).elim⟩,h1⟩
  ·exact⟨⟨by simp only[leF,h0];rfl,λ_=>⟨hc,hv,hK⟩⟩,h1⟩
def Qx (s:Sn):ClF (nf s).1 (nf s).2↔ClF s.1 s.2:=by
 unfold ClF nf;simp only[yWu]
def Qy (G:Gl gl)(T:Gt gl)(ca:Nat)(s:Sq)(x:IV)(hx:IsSq s x)(hs:ig s)(st:ISt):ICall prog gl 96 [.raw (.int .u8 (ca:Int)),x] st (λr st'=>st'=st /\
  ((¬ (ca=1\/ca=2)/\r=.tup [false,(2:Int)])\/((ca=1\/ca=2)/\fT ca s=false/\r=.tup [false,(190:Int)]) \/
   ((ca=1\/ca=2)/\fT ca s=true/\∃b:Bool,(b=true↔ClF s.l s.r)/\r=.tup [b,(0:Int)]))):=by
 have hb:=BS gl G ca s x hx hs;have aa:=hx;obtain⟨t1,x1,t2,x2,rfl,e1,i1,e2,i2⟩:=hx;refine iI func96 ?_;simp only[go_sem,zE,zA,zL,reduceCtorEq];refine (hb _).mono ?_;rintro _ E (⟨hc,rfl,rfl⟩|⟨hc,hv,rfl,rfl⟩|⟨hc,hv,m,tw,xw,hm,O,J,rfl,rfl⟩)
 ·simp only[go_sem,zE,show decide ((2:Int)=0)=false from rfl];exact dw ⟨rfl,.inl ⟨hc,rfl⟩⟩
 ·simp only[go_sem,zE,show decide ((190:Int)=0)=false from rfl];exact dw ⟨rfl,.inr (.inl ⟨hc,hv,rfl⟩)⟩
 ·obtain⟨hS,_,ae,D⟩:=si hc hv;have ag:=BR hv;have A:=BC D;simp only[go_sem,zE,zA,zL,d_];refine (wX gl T ca m (spW s) tw xw O J hS.srt (eM ae (by omega)) s _ aa ⟨by omega,by omega⟩ D _).mono ?_;rintro z E ⟨hz,rfl⟩;have ac:=λst=>BL gl ca m (spW s) hS tw xw O J _ A z hz st;obtain⟨ta,tb,rfl,ea,eb⟩:=hz;simp only[go_sem,zE,zA];refine (ac _).mono ?_;rintro _ E ⟨⟨zf,rfl,U⟩,rfl⟩;obtain⟨y1,y2,y3,y4,y5,y6,rfl⟩:=U.agg;simp only[go_sem,zE,zA,zL];refine⟨st,gj hm,rfl,.inr (.inr ⟨hc,hv,_,?_,rfl⟩)⟩;rw[BK A.1,pA hS.srt A,wV hS.srt D];exact Qx (s.l,s.r)
def Ii {W:List Fm}{l:List Nat}{k i:Nat}{f:Fm}(h:l[k]?=some i)(A:W[i]?=some f):fmW W (l.take (k+1))=fmW W (l.take k)++[f]:=by
 rw[en h];unfold fmW;rw[List.filterMap_append];simp[A]
def Qz (ca m:Nat)(W:List Fm)(hS:SpOk ca W)(tw:Tag)(xw:List IV)(aq:okEs tw 4)(ac:IsFms W xw)(ln:Ln)(J:LnOk W ln)(x:IV)(hx:IsLn ln x)(st:ISt) :
  ICall prog gl 124 [spI ca tw xw m,x] st (λr st'=>IsSq ⟨fmW W ln.1,fmW W ln.2⟩ r/\st'=st):=by
 obtain⟨ta,tb,rfl,ea,eb⟩:=hx;have aX:=pz J.1.1 J.1.2;have aW:=pz J.2.1 J.2.2;have aY:=hS.len;refine iI func124 ?_;simp only[go_sem,zE];intro _;refine dC (eJ ln.1).length (λk fr st' ds=>(∃t y,fr 5=.box [.sl t y,()]/\own st' t k 4 st/\subSt st st'/\IsFms (fmW W (ln.1.take k)) y/\y.length=k)/\fr 0=(spI ca tw xw m)/\fr 3=.box [.sl ta (eJ ln.1),.sl tb (eJ ln.2)]/\fr 4=.box [(),()] /\
  fr 11=.iv (.sl ta (eJ ln.1))/\fr 12=.iv (.raw (.int .i64 (eJ ln.1).length))/\fr 13=(k:Int)/\ds=[]) ?_ ?_ ?_
 ·simp only[go_sem,zE,reduceCtorEq];exact⟨⟨_,_,rfl,own.nil ..,subSt.refl _,rfl,rfl⟩,rfl⟩
 ·rintro k fr ab _ A ⟨⟨t1,y1,aa,E,D,hy,G⟩,f0,f3,f4,fl,fn,fk,rfl⟩;rw[gN] at A;obtain⟨i,hi⟩:=ed A;have O:=J.1.2 i (lMg hi);obtain⟨f,hf⟩:=ed O;obtain⟨z,hz,U⟩:=ac.get hf;have ak:=λst=>ow gl f z U (eM (hS.size (lMg hf)) (by omega)) st;have ao:i<xw.length:=by rw[ac.len];exact O
  cases f with
  | mk og ng ug sg =>
  obtain⟨aB,ax,aA,aw,rfl,aF⟩:=U.mk;simp only[go_sem,zE,zB,zA,reduceCtorEq,aa,f0,fl,fn,fk,lt_i (show k<(eJ ln.1).length by rw[gN];exact A),ec ea,ec aq,iNn,lN hi,hz,fits,IV.one];refine (ak _).mono ?_;rintro r ab ⟨hr,rfl⟩;obtain⟨o1,n1,t2,x2,t3,x3,rfl⟩:=jC hr;simp only[go_sem,zE,zA,zM,zL,fits,fg];refine je E G D rfl (by simp[fits,IV.one]) (by simp only;omega) (by omega) λaf aD w1 w2 w3=>?_;simp only[go_sem,zE,zA,zL,reduceCtorEq,f0,f3,f4,fl,fn,fk,aa,ek (show k<(eJ ln.1).length by rw[gN];exact A) (by rw[gN];omega)];exact⟨af,_,rfl,w1,w2,by rw[Ii hi hf];exact hy.append (.one hr.1),by rw[lLa,G];rfl⟩
 ·rintro fr aO _ ⟨⟨t0,y0,f5,ah,ag,an,aJ⟩,f0,f3,f4,fl,fn,fk,rfl⟩;rw[gN,lTl] at an;have aH:=ah.es;simp only[go_sem,zE,f3,fn,fk,eI (nLi _)];intro _;refine dC (eJ ln.2).length (λk fr st' ds=>(∃t y,fr 5=.box [.sl t0 y0,.sl t y]/\own st' t k 4 st/\subSt st st'/\IsFms (fmW W (ln.2.take k)) y/\y.length=k)/\fr 0=(spI ca tw xw m)/\fr 3=.box [.sl ta (eJ ln.1),.sl tb (eJ ln.2)]/\fr 4=.box [(),()] /\
   fr 32=.iv (.sl tb (eJ ln.2))/\fr 33=.iv (.raw (.int .i64 (eJ ln.2).length))/\fr 34=(k:Int)/\ds=[]) ?_ ?_ ?_
  ·simp only[go_sem,zE,reduceCtorEq,f0,f3,f4,f5];exact⟨⟨_,_,rfl,own.nil ..,ag,rfl,rfl⟩,rfl⟩
  ·rintro k fr ab _ A ⟨⟨t1,y1,aa,E,D,hy,G⟩,f0,f3,f4,fl,fn,fk,rfl⟩;rw[gN] at A;obtain⟨i,hi⟩:=ed A;have O:=J.2.2 i (lMg hi);obtain⟨f,hf⟩:=ed O;obtain⟨z,hz,U⟩:=ac.get hf;have ak:=λst=>ow gl f z U (eM (hS.size (lMg hf)) (by omega)) st;have ao:i<xw.length:=by rw[ac.len];exact O
   cases f with
   | mk og ng ug sg =>
   obtain⟨aB,ax,aA,aw,rfl,aF⟩:=U.mk;simp only[go_sem,zE,zB,zA,reduceCtorEq,aa,f0,fl,fn,fk,lt_i (show k<(eJ ln.2).length by rw[gN];exact A),ec eb,ec aq,iNn,lN hi,hz,fits,IV.one];refine (ak _).mono ?_;rintro r ab ⟨hr,rfl⟩;obtain⟨o1,n1,t2,x2,t3,x3,rfl⟩:=jC hr;simp only[go_sem,zE,zA,zM,zL,fits,fg];refine je E G D rfl (by simp[fits,IV.one]) (by simp only;omega) (by omega) λaf aD w1 w2 w3=>?_;simp only[go_sem,zE,zA,zL,reduceCtorEq,f0,f3,f4,fl,fn,fk,aa,ek (show k<(eJ ln.2).length by rw[gN];exact A) (by rw[gN];omega)];exact⟨af,_,rfl,w1,w2,by rw[Ii hi hf];exact hy.append (.one hr.1),by rw[lLa,G];rfl⟩
  ·rintro fr ab _ ⟨⟨t1,y1,f5,E,D,hy,G⟩,f0,f3,f4,fl,fn,fk,rfl⟩;rw[gN,lTl] at hy;have aG:=E.es;simp only[go_sem,zE,zA,zL,f4,f5,fn,fk,eI (nLi _)];exact⟨st,D,⟨t0,y0,t1,y1,rfl,aH,an,aG,hy⟩,rfl⟩
def jh (v:Nat×Fm×List Sn)(x:IV):Prop:=∃o n t1 E t2 D t3 A,x=.agg [.raw (.int .u8 (v.1:Int)),.raw (.int .u8 o),.raw (.string n),.sl t1 E,.sl t2 D,.sl t3 A]/\IsFm v.2.1 (.agg [.raw (.int .u8 o),.raw (.string n),.sl t1 E,.sl t2 D])/\okEs t3 2/\AllR (λp y=>IsSq ⟨p.1,p.2⟩ y) v.2.2 A
def QA (G:Gl gl)(T:Gt gl)(ca:Nat)(s:Sq)(x:IV)(hx:IsSq s x)(hs:ig s)(st:ISt):ICall prog gl 98 [.raw (.int .u8 (ca:Int)),x] st (λr st'=>st'=st /\
  ((¬ (ca=1\/ca=2)/\r=.tup [(),(2:Int)])\/((ca=1\/ca=2)/\fT ca s=false/\r=.tup [(),(190:Int)]) \/
   ((ca=1\/ca=2)/\fT ca s=true/\((oC (calJ ca) (nf (s.l,s.r))/\r=.tup [(),(5:Int)])\/(¬ oC (calJ ca) (nf (s.l,s.r))/\∃t ys,okEs t 6/\AllR jh (mvF (calJ ca) (nf (s.l,s.r))) ys/\r=.tup [.sl t ys,(0:Int)]))))):=by
 have hb:=BS gl G ca s x hx hs;have bk:=hx;obtain⟨t1,x1,t2,x2,rfl,e1,i1,e2,i2⟩:=hx;refine k9 (t:=6) (n:=2) (c:=cf prog gl [4,5,6,8,38] [(10,[0,1,2,3,4,6,7,12,5,8,9,10,11,13])] [3]) func98 rfl (by show _<=66;simp) (by show _<66;simp) (by kernel_rfl) ?_;simp only[go_sem,zE,zA,reduceCtorEq,fits];refine λb4=>fc λh4=>λb5=>fc λh5=>?_;have A:b5≠b4:=λe=>by rw[e,b_] at h5;cases h5
 rw[dZ A] at h5;have sub0:subSt st ((st.put b4 (some (.box [()]))).put b5 (some (.box [(0:Int)]))):=fM (gj h4) h5;refine (hb _).mono ?_;rintro _ aS (⟨hc,rfl,rfl⟩|⟨hc,hv,rfl,rfl⟩|⟨hc,hv,m,tw,xw,hm,E,O,rfl,rfl⟩)
 ·simp only[go_sem,zE,zL];refine λb6=>fc λD=>?_;have n6:b6≠b5:=λe=>by rw[e,b_] at D;cases D
  rw[dZ n6] at D;have bg:b6≠b4:=λe=>by rw[e,b_] at D;cases D
  refine⟨b6,.raw (.pointer none),by simp only[go_sem,zE],b_ ..,?_⟩;rw[pD (by rw[dZ n6];exact D)];simp only[go_sem,zE,zL,show decide ((2:Int)=0)=false from rfl,dZ A.symm,dZ A];exact⟨st,fM (fM sub0 h4) h5,rfl,.inl ⟨hc,rfl⟩⟩
 ·simp only[go_sem,zE,zL];refine λb6=>fc λD=>?_;have n6:b6≠b5:=λe=>by rw[e,b_] at D;cases D
  rw[dZ n6] at D;have bg:b6≠b4:=λe=>by rw[e,b_] at D;cases D
  refine⟨b6,.raw (.pointer none),by simp only[go_sem,zE],b_ ..,?_⟩;rw[pD (by rw[dZ n6];exact D)];simp only[go_sem,zE,zL,show decide ((190:Int)=0)=false from rfl,dZ A.symm,dZ A];exact⟨st,fM (fM sub0 h4) h5,rfl,.inr (.inl ⟨hc,hv,rfl⟩)⟩
 ·obtain⟨hS,_,aG,aE⟩:=si hc hv;have bG:=BR hv;have U:=BC aE;have aX:=wV hS.srt aE;simp only[go_sem,zE,zL];refine λb6=>fc λD=>?_;have bU:b6≠m:=λe=>by rw[e,b_] at D;cases D
  refine⟨b6,spI ca tw xw m,by simp only[go_sem,zE],b_ ..,?_⟩;rw[pD D,show age (spI ca tw xw m)=spI ca ⟨false,tw.cap,tw.es⟩ (ages xw) m by simp only[age,ages]];replace E:okEs ⟨false,tw.cap,tw.es⟩ 4:=E;replace O:=O.aged;generalize (⟨false,tw.cap,tw.es⟩:Tag)=tw at E ⊢;generalize ages xw=xw at O ⊢;simp only[go_sem,zE,zA,d_];refine λb8=>fc λh8=>?_;refine (wX gl T ca m (spW s) tw xw E O hS.srt (eM aG (by omega)) s _ bk ⟨by omega,by omega⟩ aE _).mono ?_;rintro z aS ⟨hz,rfl⟩;have bq:=λst=>HL gl m (spI ca tw xw m) z _ rfl _ hz st;have br:=HO gl G T ca m _ hS aG tw xw E O _ U z hz;obtain⟨ta,tb,rfl,ea,eb⟩:=id hz;simp only[go_sem,zE,zA];refine (bq _).q ?_;simp only[go_sem,reduceCtorEq];have aZ:m≠b5:=λe=>by rw[e,b_] at hm;cases hm
  rw[dZ aZ] at hm;have a1:m≠b4:=λe=>by rw[e,b_] at hm;cases hm
  rw[dZ a1] at hm;have aH:b8≠m:=λe=>by rw[e,b_] at h8;cases h8
  rw[dZ aH] at h8;have aI:b8≠b5:=λe=>by rw[e,b_] at h8;cases h8
  rw[dZ aI] at h8;have aJ:b8≠b4:=λe=>by rw[e,b_] at h8;cases h8
  rw[dZ aJ] at h8;generalize ak:((((st.put b4 (some (.box [()]))).put b5 (some (.box [(0:Int)]))).put m (some (.map .pl []))).put b8 (some (.box [()])))=sA;have aw:IsFms (setF (gn (s.l++s.r))) xw:=O;generalize hW:setF (gn (s.l++s.r))=W at *;generalize bF:mW W (s.l,s.r)=ln at *
  let EI:Nat->ISt->Prop:=λk s'=>∃(vs:List Mv) (t8:Tag) (ys:List IV),(cutO (mvsN W (calJ ca) ln)).take k=vs.map some/\AllR jh (vs.map (mvW W)) ys/\SpSt ca m W s'/\s' b4=some (.box [()])/\s' b5=some (.box [(0:Int)])/\s' b8=some (.box [.sl t8 ys])/\own s' t8 vs.length 6 st/\subSt st s'
  let ES:Exit->ISt->Prop:=λe s'=>e=.ret/\s' b4=some (.box [()])/\s' b5=some (.box [(5:Int)])/\none∈mvsN W (calJ ca) ln/\subSt st s'
  refine RangeU.intro (mvX W (calJ ca) ln) (cutO (mvsN W (calJ ca) ln)).length EI ES (SpUp ca m W) ?_ (by simp only[go_sem]) ?_ ?_ ?_ (br.of λk s ⟨_,_,_,_,_,h,_⟩=>h) ?_ ?_
  ·rintro k s' m' kk es bu ⟨vs,t8,ys,q1,q2,⟨aq,q3,bf⟩,q4,q5,q6,q7,q8⟩ a6 ⟨rfl,hu⟩;rw[q3] at a6;cases a6;have e4:b4≠m':=λe=>by rw[e,q3] at q4;cases q4
   have e5:b5≠m':=λe=>by rw[e,q3] at q5;cases q5
   have e8:b8≠m':=λe=>by rw[e,q3] at q6;cases q6
   exact⟨vs,t8,ys,q1,q2,⟨bu,b_ ..,hu bf⟩,by rw[dZ e4];exact q4,by rw[dZ e5];exact q5,by rw[dZ e8];exact q6,q7.mono λg hg _=>(by rw[dZ λe=>(by rw[e,q3] at hg;cases hg)];exact hg),fM q8 hm⟩
  ·rintro k a ⟨o,_,ho⟩;cases o with
   | none=>rw[show a=_ from ho];rfl
   | some v=>obtain⟨x,rfl,_⟩:=ho;rfl
  ·exact⟨[],⟨true,.nil,0⟩,[],rfl,AllR.nil,⟨[],by rw[<- ak,dZ aH.symm,b_],λp hp=>by cases hp⟩,by rw[<- ak,dZ aJ.symm,dZ a1.symm,dZ A.symm,b_],
    by rw[<- ak,dZ aI.symm,dZ aZ.symm,b_],by rw[<- ak,b_],own.nil ..,by rw[<- ak];exact fM (fM sub0 hm) h8⟩
  ·rintro k a s' ⟨o,ah,ho⟩ ⟨vs,t8,ys,q1,q2,q3,q4,q5,q6,q7,q8⟩;cases o with
   | none =>
    obtain rfl:a=_:=ho;have aD:none∈mvsN W (calJ ca) ln:=by
     have h1:∀l:List (Option Mv),none∈cutO l->none∈l:=λl=>by
      induction l with
      | nil=>exact id
      | cons a l ih =>
       cases a with
       | none=>exact λ_=>.head _
       | some a =>
        intro h;simp only[cutO] at h;rcases eK.1 h with h|h
        ·cases h
        ·exact .tail _ (ih h)
     exact h1 _ (lMg ah)
    simp only[go_sem,zE,zA,zL,show decide ((5:Int)=0)=false from rfl,q4,q5,dZ A];exact⟨rfl,by rw[dZ A.symm,b_],b_ ..,aD,fM (fM q8 h4) h5⟩
   | some v =>
    obtain⟨xv,rfl,tv,zv,rfl,bn,aB⟩:=ho;have bm:some v∈mvsN W (calJ ca) ln:=by
     have h1:∀l:List (Option Mv),some v∈cutO l->some v∈l:=λl=>by
      induction l with
      | nil=>exact id
      | cons a l ih =>
       cases a with
       | none=>intro h;simp[cutO] at h
       | some a =>
        intro h;simp only[cutO] at h;rcases eK.1 h with h|h
        ·rw[h];exact .head _
        ·exact .tail _ (ih h)
     exact h1 _ (lMg ah)
    obtain⟨g1,g2,g3,g4⟩:=xm hS U bm;obtain⟨f,hf⟩:=ed g1;obtain⟨z,hz,a7⟩:=aw.get hf;have bt:=λst=>ow gl f z a7 (eM (hS.size (lMg hf)) (by omega)) st;obtain⟨og,ng,ug,sg,rfl⟩:∃o n u s,f=.mk o n u s:=by cases f;exact⟨_,_,_,_,rfl⟩
    obtain⟨bP,bJ,bO,bI,rfl,bY⟩:=a7.mk;simp only[go_sem,zE,zB,zA,zL,fits,d_,ec E,iNn,hz,IV.one];refine (bt _).mono ?_;rintro r s2 ⟨hr,rfl⟩;obtain⟨o1,n1,t5,x5,t6,x6,rfl⟩:=jC hr;simp only[go_sem,zE,zA,zL,fits];intro _;refine dC zv.length (λq fr st' ds=>(∃t3 x3,fr 11=.box [.raw (.int .u8 (v.1:Int)),.raw (.int .u8 o1),n1,.sl t5 x5,.sl t6 x6,.sl t3 x3]/\AllR (λp y=>IsSq ⟨p.1,p.2⟩ y) ((v.2.2.take q).map (lnW W)) x3/\own st' t3 q 2 st/\SpSt ca m W st'/\st' b4=some (.box [()])/\st' b5=some (.box [(0:Int)]) /\
     st' b8=some (.box [.sl t8 ys])/\own st' t8 vs.length 6 st/\subSt st st')/\fr 6=.iv (.cptr (spI ca tw xw m))/\fr 46=.iv (.sl tv zv)/\fr 47=zv.length/\fr 48=(q:Int)/\fr 4=(ptr b4)/\fr 5=(ptr b5)/\fr 8=(ptr b8)/\ds=[]) ?_ ?_ ?_
    ·simp only[go_sem,zE];exact⟨⟨_,_,rfl,AllR.nil,own.nil ..,q3,q4,q5,q6,q7,q8⟩,rfl⟩
    ·rintro q fr s3 _ hq ⟨⟨t3,x3,f11,aj,J,q3,q4,q5,q6,q7,q8⟩,f6,f46,f47,f48,f4,f5,f8,rfl⟩;have aC:=aB.1;obtain⟨p,hp⟩:=ed (l:=v.2.2) (k:=q) (by rw[<- aC];exact hq);obtain⟨zq,bi,av⟩:=aB.2 q p hp;obtain⟨g5,g6⟩:=g4 p (lMg hp);have bo:=λst=>Qz gl ca m W hS tw xw E aw p g5 zq av st;obtain⟨bR,bQ,rfl,b9,b7⟩:=av;simp only[go_sem,zE,zB,zA,zL,f11,f6,f46,f47,f48,lt_i hq,ec bn,iNn,bi,fits,IV.one];refine (bo _).mono ?_;rintro _ s3 ⟨⟨t7,x7,t9,x9,rfl,e7,i7,e9,i9⟩,rfl⟩;have aV:x3.length=q:=by rw[aj.1,eP,eO];omega
     simp only[go_sem,zE,zA,zM,zL,fits,fg];refine je J aV q8 rfl (by simp[fits,IV.one]) (by simp only;omega) (by omega) λbe s4 w1 w2 w3=>?_;obtain⟨aq,u1,u2⟩:=q3;simp only[go_sem,zE,zA,zL,f11,f6,f46,f47,f48,f4,f5,f8,ek hq (by omega)];refine⟨be,_,rfl,?_,w1,⟨aq,w3 _ _ u1 (λn h=>by cases h),u2⟩,w3 _ _ q4 (λn h=>by cases h),w3 _ _ q5 (λn h=>by cases h),w3 _ _ q6 (λn h=>by cases h),w3.own q7 (by decide),w2⟩;rw[en hp,fS];exact aj.snoc ⟨t7,x7,t9,x9,rfl,e7,i7,e9,i9⟩
    ·rintro fr s3 _ ⟨⟨t3,x3,f11,aj,J,q3,q4,q5,q6,q7,q8⟩,f6,f46,f47,f48,f4,f5,f8,rfl⟩;have aC:=aB.1;rw[aC,lTl] at aj;have bj:ys.length=vs.length:=by rw[q2.1,eP]
     have bW:vs.length<=16000000:=by
      have h1:∀l:List (Option Mv),(cutO l).length<=l.length:=λl=>by
       induction l with
       | nil=>exact eu _
       | cons a l ih =>
        cases a with
        | none=>simp[cutO]
        | some a=>simp only[cutO,fa];omega
      have h2:=eZ List.length q1;rw[eO,eP] at h2;have h3:=h1 (mvsN W (calJ ca) ln);have h4:=BM hS aG U;omega
     simp only[go_sem,zE,zA,zM,zL,f11,f47,f48,f8,eI (nLi _),q6,fits,fg];refine je q7 bj q8 rfl (by simp[fits,IV.one]) (by simp only;omega) (by omega) λbd s4 w1 w2 w3=>?_;have a8:=w3 _ _ q6 (λn h=>by cases h);simp only[go_sem,zE,zL,f8,a8];obtain⟨aq,u1,u2⟩:=q3;refine⟨vs++[v],bd,_,?_,?_,⟨aq,by rw[dZ aH.symm];exact w3 _ _ u1 (λn h=>by cases h),u2⟩,by rw[dZ aJ.symm];exact w3 _ _ q4 (λn h=>by cases h),by rw[dZ aI.symm];exact w3 _ _ q5 (λn h=>by cases h),b_ ..,?_,fM w2 h8⟩
     ·rw[en ah,q1,fS];rfl
     ·rw[fS];refine q2.snoc ⟨o1,n1,t5,x5,t6,x6,t3,x3,rfl,?_,J.es,aj⟩;show IsFm ((W[v.2.1]?).getD fm0) _;rw[hf];exact hr.1
     ·rw[lLa];refine w1.mono λg hg _=>?_;rw[dZ λe=>by rw[e,a8] at hg;cases hg];exact hg
  ·rintro s' rr ⟨vs,t8,ys,q1,q2,q3,q4,q5,q6,q7,q8⟩;rw[lTl] at q1;have ay:mvsN W (calJ ca) ln=vs.map some:=by
    have h1:∀l:List (Option Mv),none ∉ cutO l->cutO l=l:=λl=>by
     induction l with
     | nil=>intro _;rfl
     | cons a l ih =>
      intro h;cases a with
      | none=>exact absurd (.head _) h
      | some a=>simp only[cutO] at h ⊢;rw[ih λh'=>h (.tail _ h')]
    rw[<- q1,h1];rw[q1];simp
   have aY:=BQ hS U ay;have ai:=xn hS U (j:=calJ ca);rw[aX] at aY ai;simp only[go_sem,zE,zL,q4,q5,q6,dZ A,dZ A.symm];refine⟨st,fM (fM q8 h4) h5,rfl,.inr (.inr ⟨hc,hv,.inr ⟨λh=>?_,t8,ys,q7.es,by rw[aY];exact q2,rfl⟩⟩)⟩;have:=ai.2 h;rw[ay] at this;simp at this
  ·rintro e s' rr ⟨rfl,w1,w2,w3,w4⟩;simp only[go_sem,zE,w1,w2];have ai:=(xn hS U (j:=calJ ca)).1 w3;rw[aX] at ai;exact⟨st,w4,rfl,.inr (.inr ⟨hc,hv,.inl ⟨ai,rfl⟩⟩)⟩
end Go.Proofs.Tryz
namespace Go.Proofs.Tryz
open Go Go.Iv
noncomputable def insC (a:Fm):List Fm->List Fm
 | []=>[a]
 | b::l=>if fO a b<0 then a::b::l else if fO a b=0 then b::l else b::insC a l
noncomputable def setC:List Fm->List Fm
 | []=>[]
 | a::l=>insC a (setC l)
def zUl {a x:Fm}:∀ {l:List Fm},x∈insC a l↔x=a\/x∈l
 | []=>by simp[insC]
 | b::l=>by
  unfold insC;split
  ·simp
  ·split
   ·rename_i h;rw[(mc a b).1 h];simp
   ·rw[eK,zUl,eK];grind
def Ij {a:Fm}:∀ {l:List Fm},l.Pairwise (λx y=>fO x y<0)->(insC a l).Pairwise (λx y=>fO x y<0)
 | [],_=>by simp[insC]
 | b::l,h=>by
  obtain⟨h1,h2⟩:=kF.1 h;unfold insC;split
  ·rename_i D;refine kF.2 ⟨λx A=>?_,h⟩;rcases eK.1 A with rfl|A
   ·exact D
   ·exact qj _ _ _ D (h1 x A)
  ·split
   ·exact h
   ·rename_i E h0;refine kF.2 ⟨λx A=>?_,Ij h2⟩;rcases zUl.1 A with rfl|A
    ·have:=rO x b;omega
    ·exact h1 x A
def Ik:∀l:List Fm,SetF l (setC l)
 | []=>⟨List.Pairwise.nil,λ_=>Iff.rfl⟩
 | a::l=>by
  obtain⟨h1,h2⟩:=Ik l;refine⟨Ij h1,λf=>?_⟩;show f∈insC a (setC l)↔_;rw[zUl,h2,eK]
def Il (l:List Fm):setF l=setC l:=oB (Ik l)
noncomputable def nfC (s:Sn):Sn:=(setC s.1,setC s.2)
def nf_C (s:Sn):nf s=nfC s:=by unfold nf nfC;rw[Il,Il]
noncomputable def pmC (j:Bool)(s p:Sn):Sn:=nfC (s.1++p.1,rgt j s.2 p.2)
noncomputable def mvC (j:Bool)(s:Sn):List (List Sn):=(s.1.flatMap λf=>(addF j f false).map λt=>t.2.map (pmC j s))++s.2.flatMap λf=>(addF j f true).map λt=>t.2.map (pmC j s)
def QB (j:Bool)(s:Sn):(mvF j s).map (λm=>m.2.2)=mvC j s:=by
 have key:∀(r:Bool) (l:List Fm),(l.flatMap (nz j s r)).map (λm=>m.2.2)=l.flatMap λf=>(addF j f r).map λt=>t.2.map (pmC j s):=λr l=>by
  rw[List.map_flatMap];congr 1;funext f;unfold nz;rw[jn];refine ll λt _=>?_;refine ll λp _=>?_;exact nf_C _
 unfold mvF mvC;rw[fS,key,key]
noncomputable def clC (s:Sn):Bool:=s.1.any λf=>s.2.any (λg=>decide (fO f g=0)) || mU f
def qn (s:Sn):clC s=true↔ClF s.1 s.2:=by
 unfold clC ClF;simp only[il,iN,dTe,mc];constructor
 ·rintro⟨f,A,⟨g,D,rfl⟩|h⟩
  ·exact .inl ⟨_,A,D⟩
  ·exact .inr ⟨f,A,h⟩
 ·rintro (⟨f,h1,h2⟩|⟨f,h1,h2⟩)
  ·exact⟨f,h1,.inl ⟨f,h2,rfl⟩⟩
  ·exact⟨f,h1,.inr h2⟩
def QC {j r:Bool}{f:Fm}{t:Nat×List Sn}(h:t∈addF j f r):∀p∈t.2,p.1.length<=2/\p.2.length<=2:=by
 unfold addF at h;split at h
 case h_5=>split at h<;>simp at h<;>(try rcases h with rfl|rfl)<;>(try subst h)<;>simp
 all_goals (first|(simp at h;subst h;simp)|(simp at h))
def at0 (l:List Nat)(i:Nat):Nat:=(l[i]?).getD 0
noncomputable def Im:DecidableEq Fm:=λa b=>decidable_of_iff (fO a b=0) (mc a b)
def Io (n:Nat)(cl:List Bool)(lk:List (List (List Nat)))(hs:List Nat):Bool :=
 (List.range n).all λi=>(decide (i=0) || (List.range i).any λk=>!((cl[k]?).getD true)&&((lk[k]?).getD []).any (·.contains i)) &&
  (if (cl[i]?).getD true=true then decide (at0 hs i=1) else
   (decide (at0 hs i=0) || ((lk[i]?).getD []).any λps=>ps.all λp=>decide (0<at0 hs p)&&decide (at0 hs p<at0 hs i)) &&
   (((lk[i]?).getD []).all λps=>(ps.all λp=>decide (p<n))&&((ps.any λp=>decide (at0 hs p=0)) || (decide (0<at0 hs i)&&ps.any λp=>decide (at0 hs i<=at0 hs p+1)))))
structure Cert (j:Bool)(K:List Sn)(cl:List Bool)(lk:List (List (List Nat)))(hs:List Nat):Prop where
 norm:K.map nfC=K
 nd:K.Nodup
 cls:K.map clC=cl
 mvs:K.map (λs=>if clC s=true then [] else mvC j s)=lk.map (·.map (·.map λn=>(K[n]?).getD ([],[])))
 num:Io K.length cl lk hs=true
 short:(K.all λs=>decide (s.1.length<=60)&&decide (s.2.length<=60))=true
 len:K.length<=20000
section
variable {j:Bool}{K:List Sn}{cl:List Bool}{lk:List (List (List Nat))}{hs:List Nat}(h:Cert j K cl lk hs)
include h
def Cert.at_ {i:Nat}{s:Sn}(A:K[i]?=some s):(cl[i]?).getD true=clC s/\(clC s=false->mvC j s=((lk[i]?).getD []).map (·.map λn=>(K[n]?).getD ([],[]))):=by
 have h1:cl[i]?=some (clC s):=by rw[<- h.cls,fH,A];rfl
 have h2:=eZ (λl=>l[i]?) h.mvs;simp only[fH,A,fK] at h2;refine⟨by rw[h1];rfl,λhc=>?_⟩;rw[hc] at h2;simp only[bFt,et] at h2;cases hl:lk[i]? with
 | none=>rw[hl] at h2;cases h2
 | some l=>rw[hl] at h2;exact fA h2
def Cert.num_ {i:Nat}(A:i<K.length):(i=0\/∃k,k<i/\(cl[k]?).getD true=false/\∃ps∈(lk[k]?).getD [],i∈ps)/\((cl[i]?).getD true=true->at0 hs i=1) /\
  ((cl[i]?).getD true=false->(at0 hs i=0\/∃ps∈(lk[i]?).getD [],∀p∈ps,0<at0 hs p/\at0 hs p<at0 hs i)/\∀ps∈(lk[i]?).getD [],(∀p∈ps,p<K.length)/\((∃p∈ps,at0 hs p=0)\/(0<at0 hs i/\∃p∈ps,at0 hs i<=at0 hs p+1))):=by
 have:=fZ.1 h.num i (kD.2 A);rw[bAt] at this;obtain⟨h1,h2⟩:=this;refine⟨?_,λhc=>?_,λhc=>?_⟩
 ·simp only[iN,dTe,il,kD,bAt,mg,List.contains_iff_mem] at h1;exact h1
 ·rw[c_ hc] at h2;exact gi h2
 ·rw[a_ (by rw[hc];exact Bool.false_ne_true)] at h2;simp only[iN,dTe,il,bAt,fZ] at h2;exact h2
def Cert.mv {i:Nat}{s:Sn}(D:K[i]?=some s)(hc:clC s=false)(P:List Sn->Prop):(∃m∈mvF j s,P m.2.2)↔∃ps∈(lk[i]?).getD [],P (ps.map λn=>(K[n]?).getD ([],[])):=by
 have h1:=(h.at_ D).2 hc;rw[<- QB] at h1;constructor
 ·rintro⟨m,A,hp⟩;have:m.2.2∈(mvF j s).map (λm=>m.2.2):=ir A;rw[h1] at this;obtain⟨ps,h2,G⟩:=eh.1 this;exact⟨ps,h2,G▸hp⟩
 ·rintro⟨ps,h2,hp⟩;have:(ps.map λn=>(K[n]?).getD ([],[]))∈(mvF j s).map (λm=>m.2.2):=by rw[h1];exact ir h2
  obtain⟨m,A,E⟩:=eh.1 this;exact⟨m,A,E▸hp⟩
def Cert.up:∀(x i:Nat)(s:Sn),K[i]?=some s->at0 hs i=x->0<x->HtS j x s:=by
 intro x
 induction x using Nat.strongRecOn with
 | ind x ih =>
  intro i s E hx h0;have D:=(lGs E).1;obtain⟨_,n1,U⟩:=h.num_ D;obtain⟨y,rfl⟩:∃y,x=y+1:=⟨x-1,by omega⟩
  rw[Bx];cases hc:clC s with
  | true=>exact .inl ((qn s).1 hc)
  | false =>
   refine .inr ((h.mv E hc λl=>∀p∈l,HtS j y p).2 ?_);obtain⟨G,O⟩:=U (by rw[(h.at_ E).1];exact hc);rcases G with G|⟨ps,h1,h2⟩
   ·omega
   ·refine⟨ps,h1,λp hp=>?_⟩;obtain⟨n,J,rfl⟩:=eh.1 hp;have A:=(O ps h1).1 n J;obtain⟨a,b⟩:=h2 n J;rw[eN A,fz];have:=ih (at0 hs n) (by omega) n _ (eN A) rfl a;exact this.up (by omega)
def Cert.lo:∀(n i:Nat)(s:Sn),K[i]?=some s->HtS j n s->0<at0 hs i/\at0 hs i<=n
 | 0,_,_,_,A=>A.elim
 | n+1,i,s,J,A=>by
  have G:=(lGs J).1;obtain⟨_,n1,n2⟩:=h.num_ G;have E:=(h.at_ J).1;cases hc:clC s with
  | true =>
   have:=n1 (by rw[E];exact hc);omega
  | false =>
   obtain⟨_,n4⟩:=n2 (by rw[E];exact hc);rw[Bx] at A;rcases A with A|A
   ·rw[<- qn,hc] at A;cases A
   ·obtain⟨ps,h1,h2⟩:=(h.mv J hc λl=>∀p∈l,HtS j n p).1 A;obtain⟨O,U⟩:=n4 ps h1;have hp:∀p∈ps,0<at0 hs p/\at0 hs p<=n:=λp hp=>by
     have:=h2 _ (ir hp);rw[eN (O p hp),fz] at this;exact Cert.lo n p _ (eN (O p hp)) this
    rcases U with⟨p,D,h0⟩|⟨h0,p,D,ae⟩
    ·have:=(hp p D).1;omega
    ·have:=(hp p D).2;exact⟨h0,by omega⟩
def Cert.hF {i:Nat}{s:Sn}(A:K[i]?=some s):Tryz.hF j s=at0 hs i :=
 Bw (λh0=>h.up _ i s A rfl h0) λn D=>h.lo n i s A D
def Cert.reach {s0:Sn}(h0:K[0]?=some s0):ReachOk j s0 K:=by
 have hr:∀(i:Nat) (s:Sn),K[i]?=some s->Rch j s0 s:=by
  intro i
  induction i using Nat.strongRecOn with
  | ind i O =>
   intro s A;have ac:=(lGs A).1;rcases (h.num_ ac).1 with rfl|⟨k,hk,af,ps,E,ae⟩
   ·rw[h0] at A;cases A;exact .refl
   ·obtain⟨sk,D⟩:=ed (l:=K) (k:=k) (by omega);have hc:clC sk=false:=by rw[<- (h.at_ D).1];exact af
    obtain⟨m,hm,aa⟩:=(h.mv D hc λl=>s∈l).2 ⟨ps,E,eh.2 ⟨i,ae,by rw[A];rfl⟩⟩;exact .step (O k hk sk D) (λhx=>by rw[<- qn,hc] at hx;cases hx) hm aa
 refine⟨h.nd,λs=>⟨λhs=>?_,λhs=>?_⟩,λs hs hc=>?_,h.len⟩
 ·obtain⟨i,A,rfl⟩:=gS.1 hs;exact hr i _ (eN A)
 ·induction hs with
  | refl=>exact lMg h0
  | @step s _ hc m hm p hp O =>
   obtain⟨i,A,rfl⟩:=gS.1 O;have J:clC K[i]=false:=by
    cases hq:clC K[i] with
    | false=>rfl
    | true=>exact absurd ((qn _).1 hq) hc
   obtain⟨ps,E,U⟩:=(h.mv (eN A) J λl=>p∈l).1 ⟨m,hm,hp⟩;obtain⟨n,hn,rfl⟩:=eh.1 U;have G:=(((h.num_ A).2.2 (by rw[(h.at_ (eN A)).1];exact J)).2 ps E).1 n hn;rw[eN G];exact List.getElem_mem G
 ·rintro⟨f,r,hf,t,ht,p,hp,hl⟩;have h1:=QC ht p hp;have h2:=fZ.1 h.short s hs;simp only[bAt,dTe] at h2;unfold tooL at hl;split at hl<;>omega
end
set_option maxRecDepth 100000
abbrev faP:Fm:=.mk 1 ⟨#[80]⟩ [] []
abbrev faQ:Fm:=.mk 1 ⟨#[81]⟩ [] []
abbrev fno (a:Fm):Fm:=.mk 3 noN [] [a]
abbrev fbi (o:Nat)(a b:Fm):Fm:=.mk o noN [] [a,b]
noncomputable def Ip (K:List Sn):Decidable K.Nodup:=@List.nodupDecidable Sn (@instDecidableEqProd _ _ (@instDecidableEqList _ Im) (@instDecidableEqList _ Im)) K
def mY {j:Bool}{K:List Sn}{cl:List Bool}{lk:List (List (List Nat))}{hs:List Nat}(h1:K.map nfC=K)(h2:@decide K.Nodup (Ip K)=true)(J:K.map clC=cl)
  (G:K.map (λs=>if clC s=true then [] else mvC j s)=lk.map (·.map (·.map λn=>(K[n]?).getD ([],[])))) (E:Io K.length cl lk hs=true) (D:(K.all λs=>decide (s.1.length<=60)&&decide (s.2.length<=60))=true) (A:K.length<=20000):Cert j K cl lk hs :=
 ⟨h1,@gi K.Nodup (Ip K) h2,J,G,E,D,A⟩
def c1K:List Sn:=[([faP,(fbi 6 faP faQ)],[faQ]),([faP,(fbi 6 faP faQ)],[faP]),([faP,faQ,(fbi 6 faP faQ)],[faQ])]
def c1:Cert true c1K [false,true,true] [[[1,2]],[],[]] [2,1,1]:=mY (by kernel_rfl) (by kernel_rfl) (by kernel_rfl) (by kernel_rfl) (by kernel_rfl) (by kernel_rfl) (by decide)
def c2K:List Sn:=[([],[(fbi 5 faP (fno faP))]),([],[faP,(fno faP),(fbi 5 faP (fno faP))]),([faP],[faP,(fno faP),(fbi 5 faP (fno faP))])]
def c2:Cert false c2K [false,false,true] [[[1]],[[2],[1]],[]] [3,2,1]:=mY (by kernel_rfl) (by kernel_rfl) (by kernel_rfl) (by kernel_rfl) (by kernel_rfl) (by kernel_rfl) (by decide)
def c3K:List Sn:=[([],[(fbi 5 faP (fno faP))]),([],[faP]),([],[(fno faP)]),([faP],[(fno faP)])]
def c3:Cert true c3K [false,false,false,false] [[[1],[2]],[],[[3]],[[3]]] [0,0,0,0]:=mY (by kernel_rfl) (by kernel_rfl) (by kernel_rfl) (by kernel_rfl) (by kernel_rfl) (by kernel_rfl) (by decide)
def c4K:List Sn:=[([],[(fno (fno (fbi 5 faP (fno faP))))]),([(fno (fbi 5 faP (fno faP)))],[(fno (fno (fbi 5 faP (fno faP))))]),([(fno (fbi 5 faP (fno faP)))],[(fbi 5 faP (fno faP))]),([(fno (fbi 5 faP (fno faP)))],[faP]),([(fno (fbi 5 faP (fno faP)))],[(fno faP)]),([faP,(fno (fbi 5 faP (fno faP)))],[(fno faP)]),([faP,(fno (fbi 5 faP (fno faP)))],[(fbi 5 faP (fno faP))]),([faP,(fno (fbi 5 faP (fno faP)))],[faP])]
def c4:Cert true c4K [false,false,false,false,false,false,false,true] [[[1]],[[2],[1]],[[2],[3],[4]],[[2]],[[2],[5]],[[6],[5]],[[6],[7],[5]],[]] [7,6,5,6,4,3,2,1]:=mY (by kernel_rfl) (by kernel_rfl) (by kernel_rfl) (by kernel_rfl) (by kernel_rfl) (by kernel_rfl) (by decide)
def c5K:List Sn:=[([(fbi 6 faP (fbi 6 faP faQ))],[(fbi 6 faP faQ)]),([(fbi 6 faP (fbi 6 faP faQ))],[faP,(fbi 6 faP faQ)]),([(fbi 6 faP faQ),(fbi 6 faP (fbi 6 faP faQ))],[(fbi 6 faP faQ)]),([faP,(fbi 6 faP (fbi 6 faP faQ))],[faQ,(fbi 6 faP faQ)]),([(fbi 6 faP faQ),(fbi 6 faP (fbi 6 faP faQ))],[faP,(fbi 6 faP faQ)]),([faP,(fbi 6 faP (fbi 6 faP faQ))],[faP,faQ,(fbi 6 faP faQ)]),([faP,(fbi 6 faP faQ),(fbi 6 faP (fbi 6 faP faQ))],[faQ,(fbi 6 faP faQ)])]
def c5:Cert false c5K [false,false,true,false,true,true,true] [[[1,2],[3]],[[1,4],[5]],[],[[5,6],[3]],[],[],[]] [3,2,1,2,1,1,1]:=mY (by kernel_rfl) (by kernel_rfl) (by kernel_rfl) (by kernel_rfl) (by kernel_rfl) (by kernel_rfl) (by decide)
def c6K:List Sn:=[([(fbi 6 faP (fbi 6 faP faQ))],[(fbi 6 faP faQ)]),([(fbi 6 faP (fbi 6 faP faQ))],[faP]),([(fbi 6 faP faQ),(fbi 6 faP (fbi 6 faP faQ))],[(fbi 6 faP faQ)]),([faP,(fbi 6 faP (fbi 6 faP faQ))],[faQ]),([(fbi 6 faP faQ),(fbi 6 faP (fbi 6 faP faQ))],[faP]),([faP,(fbi 6 faP (fbi 6 faP faQ))],[faP]),([faP,(fbi 6 faP faQ),(fbi 6 faP (fbi 6 faP faQ))],[faQ]),([faQ,(fbi 6 faP faQ),(fbi 6 faP (fbi 6 faP faQ))],[faP]),([faP,(fbi 6 faP faQ),(fbi 6 faP (fbi 6 faP faQ))],[faP]),([faP,faQ,(fbi 6 faP faQ),(fbi 6 faP (fbi 6 faP faQ))],[faQ])]
def c6:Cert true c6K [false,false,true,false,false,true,false,false,true,true] [[[1,2],[3]],[[1,4]],[],[[5,6]],[[4,7],[4,4]],[],[[8,9],[8,6]],[[7,7],[7,7]],[],[]] [4,0,1,3,0,1,2,0,1,1]:=mY (by kernel_rfl) (by kernel_rfl) (by kernel_rfl) (by kernel_rfl) (by kernel_rfl) (by kernel_rfl) (by decide)
def qo {j:Bool}{K:List Sn}{cl:List Bool}{lk:List (List (List Nat))}{hs:List Nat}(h:Cert j K cl lk hs){s:Sn}(h0:K[0]?=some (nfC s)):hF j s=at0 hs 0/\ReachOk j (nf s) K:=by
 rw[<- G9,nf_C];exact⟨h.hF h0,h.reach h0⟩
def aw2:hF false ([],[fbi 5 faP (fno faP)])=3/\ReachOk false (nf ([],[fbi 5 faP (fno faP)])) c2K:=qo c2 (by kernel_rfl)
def aw3:hF true ([],[fbi 5 faP (fno faP)])=0/\ReachOk true (nf ([],[fbi 5 faP (fno faP)])) c3K:=qo c3 (by kernel_rfl)
noncomputable def mvD (j:Bool)(s:Sn):List (Nat×Fm×List Sn):=(s.1.flatMap λf=>(addF j f false).map λt=>(t.1,f,t.2.map (pmC j s)))++s.2.flatMap λf=>(addF j f true).map λt=>(t.1,f,t.2.map (pmC j s))
def BZ (j:Bool)(s:Sn):mvF j s=mvD j s:=by
 have h:qk j s=pmC j s:=funext λp=>nf_C _;unfold mvF nz mvD;rw[h]
abbrev orP:Fm:=fbi 5 faP (fno faP)
def uU {l:List Fm}{f:Fm}(h:(decide (l.length<=64)&&l.all (fmB 2)&&fmB 2 f)=true):fT 2 ⟨l,[f]⟩=true:=by
 simp only[bAt] at h;obtain⟨⟨h1,h2⟩,A⟩:=h;have D:f.right=true:=by unfold fmB at A;exact (bAt _ _▸A).1
 unfold fT;have E:eqF f f=true:=by unfold eqF p8;rw[D,dEt rfl];simp[eqB]
 simp only[h1,h2,A,AN,ko,List.all_nil,E,Bool.and_true,Bool.or_true];rfl
def awv2:fT 1 ⟨[],[orP]⟩=true:=by kernel_rfl
def awv3:fT 2 ⟨[],[orP]⟩=true:=uU (by kernel_rfl)
def ReachOk.no' {j:Bool}{s0:Sn}{K:List Sn}(h:ReachOk j s0 K){e:Nat}(A:rU j s0 e):False:=h.no .refl A
def ReachOk.top {j:Bool}{s0:Sn}{K:List Sn}(h:ReachOk j s0 K)(hc:¬ ClF s0.1 s0.2):¬ oC j s0:=h.short s0 ((h.mem s0).2 .refl) hc
end Go.Proofs.Tryz
namespace Go.Proofs.Tryz
open Go Go.Iv
set_option maxRecDepth 4000
variable (gl:Nat->Option IV)
abbrev sI (s:Sq):IV:=.agg [.sl (tagF s.l) (fmsI s.l),.sl (tagF s.r) (fmsI s.r)]
def uV (s:Sq)(h:(ru s.l&&ru s.r)=true):IsSq s (sI s):=by
 rw[bAt] at h;exact⟨_,_,_,_,rfl,Av _,wu _ h.1,Av _,wu _ h.2⟩
def qp (G:Gl gl)(T:Gt gl)(ca:Nat)(s:Sq)(hc:ca=1\/ca=2)(hv:fT ca s=true){n:Nat}{K:List Sn}(hK:hF (calJ ca) (s.l,s.r)=n/\ReachOk (calJ ca) (nf (s.l,s.r)) K)(x:IV)(D:IsSq s x)(hs:ig s)(st:ISt) :
  ICall prog gl 12 [.raw (.int .u8 (ca:Int)),x] st (λr st'=>r=.tup [(n:Int),(0:Int)]/\st'=st) :=
 (Qv gl G T ca s x D hs st).mono λr st' ⟨h1,h2⟩=>by
  rcases h2 with⟨e,E,_⟩|⟨_,_,_,A⟩
  ·rcases E.1 with⟨h,_⟩|⟨_,h,_⟩|⟨_,_,h⟩
   ·exact (h hc).elim
   ·rw[hv] at h;cases h
   ·exact (hK.2.no' h).elim
  ·rw[hK.1] at A;exact⟨A,h1⟩
def QD (G:Gl gl)(T:Gt gl)(ca:Nat)(s:Sq)(hc:ca=1\/ca=2)(hv:fT ca s=true)(D:¬ oC (calJ ca) (nf (s.l,s.r)))(x:IV)(A:IsSq s x)(hs:ig s)(st:ISt) :
  ICall prog gl 98 [.raw (.int .u8 (ca:Int)),x] st (λr st'=>(∃t ys,okEs t 6/\AllR jh (mvF (calJ ca) (nf (s.l,s.r))) ys/\r=.tup [.sl t ys,(0:Int)])/\st'=st) :=
 (QA gl G T ca s x A hs st).mono λr st' ⟨h1,h2⟩=>by
  rcases h2 with⟨h,_⟩|⟨_,h,_⟩|⟨_,_,⟨h,_⟩|⟨_,E⟩⟩
  ·exact (h hc).elim
  ·rw[hv] at h;cases h
  ·exact (D h).elim
  ·exact⟨E,h1⟩
end Go.Proofs.Tryz
namespace Go.Proofs.Tryz
open Go Go.Iv
def QE {ca:Nat}{s:Sq}(h:fT ca s=true):∀f∈s.l++s.r,fmB ca f=true:=by
 unfold fT at h;simp only[bAt,dTe,fZ] at h;obtain⟨⟨⟨⟨⟨_,hl⟩,G⟩,D⟩,A⟩,_⟩:=h;exact λf E=>(eQ.1 E).elim (D f) (A f)
end Go.Proofs.Tryz
namespace Go.Proofs.Tryz
open Go Go.Iv
set_option maxRecDepth 4000
variable (gl:Nat->Option IV)
def QF (l m:List Sq)(t t':Tag)(xs ys:List IV)(ht:okEs t 2)(af:okEs t' 2)(U:IsSqs l xs)(hy:IsSqs m ys)(st:ISt) :
  ICall prog gl 24 [.sl t xs,.sl t' ys] st (λr st'=>r=(eqB l m:Bool)/\st'=st):=by
 refine iI func24 ?_;simp only[go_sem,zE,reduceCtorEq,U.len,hy.len];intro am al;by_cases A:l.length=m.length
 case neg =>
  simp only[go_sem,show decide (((l.length:Nat):Int)=m.length)=false from dEf (by omega)];exact dw ⟨by rw[yQq.2 λh=>A (by rw[h])],rfl⟩
 simp only[go_sem,show decide (((l.length:Nat):Int)=m.length)=true from dEt (by omega)];refine dC l.length (λk fr st' ds=>l.take k=m.take k/\fr 0=.iv (.sl t xs)/\fr 1=.iv (.sl t' ys)/\fr 5=.iv (.raw (.int .i64 k))/\st'=st/\ds=[]) ?_ ?_ ?_
 ·simp only[go_sem,zE,reduceCtorEq];simp
 ·rintro k fr G _ D ⟨hn,f0,f1,f5,rfl,rfl⟩;obtain⟨a,ha⟩:=ed D;obtain⟨b,hb⟩:=ed (l:=m) (k:=k) (by omega);obtain⟨x,ah,O⟩:=U.get ha;obtain⟨y,ag,J⟩:=hy.get hb;have E:=AM gl a b x y O J G;obtain⟨_,_,_,_,rfl⟩:=IsSq.two O;obtain⟨_,_,_,_,rfl⟩:=IsSq.two J;simp only[go_sem,zE,zB,zA,reduceCtorEq,f0,f1,f5,U.len,lt_i D,ec ht,ec af,iNn,ah,ag,fits];intros;refine E.mono ?_;rintro _ _ ⟨rfl,rfl⟩;cases hq:eqB a b
  ·simp only[go_sem];refine dw ⟨?_,rfl⟩;rw[yQq.2 λh=>?_];subst h;rw[ha] at hb;cases hb;exact yQq.1 hq rfl
  ·simp only[go_sem,zE,reduceCtorEq,f0,f1,f5,ek D (by omega)];rw[en ha,en hb,hn,yZ2.1 hq]
 ·rintro fr G _ ⟨hn,f0,f1,f5,rfl,rfl⟩;rw[lTl,show m.take l.length=m by rw[A,lTl]] at hn;simp only[go_sem,zE,reduceCtorEq,f0,f5,U.len,eI (nLi _)];intros;exact dw ⟨by rw[yZ2.2 hn],rfl⟩
set_option maxRecDepth 8000
def Iq:∀ {l:List Sn}{A:List IV},AllR (λp y=>IsSq ⟨p.1,p.2⟩ y) l A->IsSqs (l.map λp=>⟨p.1,p.2⟩) A
 | [],A,h=>by
  have:=h.1;obtain rfl:A=[]:=fw this;simp[IsSqs]
 | p::l,A,h=>by
  obtain⟨x,h0,D⟩:=h.2 0 p rfl;cases A with
  | nil=>cases h0
  | cons y ys =>
   obtain rfl:y=x:=by simpa using h0
   exact⟨y,ys,rfl,D,Iq ⟨by have:=h.1;simpa using this,λi a E=>h.2 (i+1) a E⟩⟩
def kg {s:Sq}(h:(s.l.all (λf=>decide (f.size<=1000000))&&s.r.all (λf=>decide (f.size<=1000000)))=true):ig s:=by
 simp only[bAt,fZ,dTe] at h;exact h
def QG (x y z:Operand):mA 3 [(0,x),(1,y),(2,z)]=true:=rfl
def QH (r:List Nat)(x:IV):Prop:=∃t,x=.sl t (eJ r)/\okEs t 1
def QI (S:List (List Nat)):Prop:=S.length<=3/\∀r∈S,r.length<=3/\∀u∈r,u<S.length
section
variable (S:List (List Nat))(hS:QI S)(tS:Tag)(xS:List IV)(htS:okEs tS 1)(hxS:AllR QH S xS)(ta tm:Tag)(hta:okEs ta 1)(htm:okEs tm 1)(l:List ByteArray)(hnd:l.Nodup)(hl:l.length<=100)(ms:List Nat)(hml:ms.length=S.length)(hms:∀m∈ms,m<=1000000)
include hS htS hxS hta htm hnd hl hml hms
end
end Go.Proofs.Tryz
namespace Go.Proofs.Tryz
open Go Go.Iv
def Ir:∀ {l:List Tr}{a:Tr},a∈l->a.steps<=gk l
 | b::l,a,h=>by
  simp only[gk];rcases eK.1 h with rfl|h
  ·omega
  ·have:=Ir h;omega
section
variable {ca rule:Nat}{s:Sq}{f:Fm}{u:Tm}{n:ByteArray}{sub:List Tr}(h:(jg ca (.mk rule s f u n sub)).2=0)(h1:s.l.length<64)(h2:s.r.length<64)
include h h1 h2
end
section
variable {ca rule:Nat}{s:Sq}{f:Fm}{u:Tm}{n:ByteArray}{sub:List Tr}(h:(jg ca (.mk rule s f u n sub)).2=0)
include h
end
section
variable (nm:ByteArray)(g:Fm)
end
section
variable {nm:ByteArray}{g:Fm}{ca:Nat}
end
section
variable {nm:ByteArray}{g:Fm}{ca:Nat}
end
abbrev trZ0:Tr:=.mk 0 ⟨[],[]⟩ fm0 tmZ noN []
noncomputable def mstS (j:Bool)(ps:List Sn):Nat:=if ps.any (λp=>decide (hF j p=0))=true then 0 else ps.foldl (λm p=>max m (hF j p)) 0
noncomputable def QJ (j:Bool)(s:Sn):Option (Nat×Fm×List Sn):=(mvF j s).find? λm=>decide (mstS j m.2.2+1=hF j s)
open Classical in
noncomputable def axF (s:Sn):Option (Nat×Fm):=match s.1.find? (λf=>decide (f∈s.2)) with
 | some f=>some (1,f)
 | none=>if s.1.any mU=true then some (2,.mk 2 noN [] []) else none
noncomputable def tF (j:Bool):Nat->Sn->Tr
 | 0,_=>trZ0
 | n+1,s=>match axF s with
  | some (r,f)=>.mk r (sqOf s) f tmZ noN []
  | none=>match QJ j s with
   | some m=>.mk m.1 (sqOf s) m.2.1 tmZ noN (m.2.2.map (tF j n))
   | none=>trZ0
def QK {s:Sn}{r:Nat}{f:Fm}(h:axF s=some (r,f)):(r=1/\f∈s.1/\f∈s.2)\/(r=2/\f=.mk 2 noN [] []/\∃g∈s.1,mU g=true):=by
 unfold axF at h;split at h
 ·rename_i E A;cases h;exact .inl ⟨rfl,List.mem_of_find?_eq_some A,by simpa using List.find?_some A⟩
 ·split at h
  ·rename_i D;cases h;obtain⟨g,h1,h2⟩:=il.1 D;exact .inr ⟨rfl,rfl,g,h1,h2⟩
  ·cases h
noncomputable def me:Tr->Bool
 | .mk r _ m _ _ sub=>decide (r=0)&&sub.isEmpty&&decide (fO m fm0=0)
def jN:Tr->Bool
 | .mk r _ _ _ _ sub=>decide (r=0)&&sub.isEmpty
abbrev goalT (s:Sq):Tr:=.mk 0 s fm0 tmZ noN []
def shal:Tr->Tr
 | .mk r s m _ _ sub=>.mk r s m tmZ noN (sub.map λp=>goalT p.sq)
noncomputable def iZ (ca:Nat)(t:Tr):Bool:=if me t=true then fT ca t.sq else decide ((jg ca (shal t)).2=0) || decide (0<(jg ca (shal t)).1.length)
noncomputable def badN (ca:Nat)(t:Tr):Nat:=if iZ ca t=true then 0 else 270
noncomputable def hCk (ca:Nat)(t:Tr):List Nat×Nat:=if ca=1\/ca=2 then (if 300<t.steps then ([],5) else g_ (badN ca) (t.walk [])) else ([],2)
def gz (t:Tr):List (List Nat):=((t.walk []).filter λq=>jN q.2).map (·.1)
def atT:Tr->List Nat->Tr
 | t,[]=>t
 | .mk _ _ _ _ _ sub,i::p=>match sub[i]? with
  | some s=>atT s p
  | none=>trZ0
end Go.Proofs.Tryz
namespace Go.Iv
open Go
def uW {M B:Nat}{L L':Nat->Nat}{w:World}{r:Value}{t:Tag}{G:List IV}(hL:∀b,M<=b->L' b=L b)(hB:B<=M)(ht:t.cap=.nil\/t.fresh=true)(hx:∀x∈G,∃v,x=.raw v)(h:V M L w r (.sl t G)):V B L' w r (.sl t G):=by
 cases h with
 | sl a cap t G T vs D O ac hs U E A ae h =>
  have J:∀(i:Nat) (r:Value) (c:IV),vs[i]?=some r->(G.flatMap IV.cells)[i]?=some c->V B L' w r c:=λi r c hr hc=>by
   have ai:=lMg hc;obtain⟨x,af,ab⟩:=gJ.1 ai;obtain⟨v,rfl⟩:=hx x af;simp only[IV.cells,eY] at ab;subst ab;cases h i r _ hr hc with
   | raw _ hv=>exact .raw _ hv
  rcases ht with ht|ht
  ·have ag:G=[]:=by
    rw[ht] at D;exact fw D.2.1
   exact .sl a cap t G T vs D O ac hs U E (λhf ad ha=>by have:=A hf ad ha;exact⟨by omega,this.2⟩) (λaa=>absurd ag aa) J
  ·refine .sl a cap t G T vs D O ac hs U E (λhf ad ha=>by have:=A hf ad ha;exact⟨by omega,this.2⟩) (λaa=>?_) J;grind
def Newly (r:IV):Prop:=∀(M B:Nat) (L L':Nat->Nat) (w:World) (v:Value),(∀b,M<=b->L' b=L b)->B<=M->V M L w v r->V B L' w v r
def Newly.sl {t:Tag}{A:List IV}(ht:t.cap=.nil\/t.fresh=true)(D:∀x∈A,∃v,x=.raw v):Newly (.sl t A):=λ_ _ _ _ _ _ E G h=>uW E G ht D h
section
variable {P:Program}{gl:Nat->Option IV}{f:FuncId}{args args':List IV}{st:ISt}
def uX {K:IV->Prop}(hf:∀b o,st b=some o->(∃cs,o=.box cs)\/D7 o)(ah:∀g x,gl g=some x->age x=x)(hl:Lents st args args')(h:ICall P gl f (ages args') (kV st) (λr st'=>st'=kV st/\Newly r/\K r)) :
  ICall P gl f args st (λr st'=>st'=st/\K r):=by
 intro B X rs O hst hv;subst hst;have G:=O.lend;have ai:Good ⟨P,gl,X.w.heap.size⟩ X.lend:=⟨λb o A=>(G.ok b o A).flat (by
   have J:kV X.st b=some o:=A;rcases hf b o (zF X.st b o J) with⟨cs,rfl⟩|aj
   ·rw[ti (zF X.st b _ J)] at J;cases J
   ·exact aj) rfl rfl,λg x hx=>by
   have h1:=ah g x hx;have h2:=(G.gl g x hx).aged (B':=X.w.heap.size);simp only[age,h1] at h2;exact h2,eu _,G.Lnew,G.gsh,G.dr⟩
 have ag:Cx.vl ⟨P,gl,X.w.heap.size⟩ X.lend rs (ages args'):=VL.aged (hl.v O hv);refine (h X.w.heap.size X.lend rs ai rfl ag).mono ?_;rintro e w' ⟨v,rfl,X',x,rfl,h2,h3,h4,h5,h6,h7⟩;have ae:∀ {b o},X.st b=some o->b<X.w.heap.size:=λA=>O.lt A
 let Y:WS:={ w:=X'.w,L:=λb=>match X.st b with|some (.box _)=>0|_=>X'.L b,st:=X.st,d:=X'.d }
 have al:∀ {b cs},X.st b=some (.box cs)->Y.L b=0:=λA=>by simp only[Y,A]
 have U:∀ {b},(∀cs,X.st b≠some (.box cs))->Y.L b=X'.L b:=λ{b} A=>by
  grind
 have af:∀ {b cs},X.st b=some (.box cs)->X'.w.heap[b]?=X.w.heap[b]?:=λ{b cs} A=>(h3.keep b (ae A) (ti A)).1;have he:Ext X Y:=by
  refine⟨h3.os,h3.tape,h3.output,h3.size,λb=>?_,λb i hi=>?_,λb A hs=>?_,λb _ hs=>hs,h3.shape,h3.d⟩
  ·by_cases A:∃cs,X.st b=some (.box cs)
   ·obtain⟨cs,A⟩:=A;rw[(O.ok b _ A).1];exact fe _
   ·rw[U λcs hc=>A ⟨cs,hc⟩];exact eM (O.lend_ext.lmono b) (h3.lmono b)
  ·exact h3.cells b i (lx hi (O.lend_ext.lmono b))
  ·have E:∀cs,X.st b≠some (.box cs):=λcs hc=>by rw[hs] at hc;cases hc
   obtain⟨k1,k2⟩:=h3.keep b A ((vR E).trans hs);exact⟨k1,by rw[U E,k2,tj E]⟩
 have ac:∀b,X.w.heap.size<=b->Y.L b=X'.L b:=λb A=>U λcs hc=>by have:=ae hc;omega
 have am:V B Y.L Y.w v x:=h6 _ _ _ _ _ _ ac O.B h4;refine⟨v,rfl,Y,_,rfl,⟨λb o A=>?_,λg x ab=>he.v (O.gl g x ab),eM O.B h3.size,λb A=>?_,λg x ab=>?_,h2.dr⟩,he,am,rfl,h7⟩
 ·by_cases D:∃cs,X.st b=some (.box cs)
  ·obtain⟨cs,D⟩:=D;have J:X.st b=some o:=A;rw[D] at J;cases J;exact (O.ok b _ D).mono (af D) (by rw[al D,(O.ok b _ D).1]) (λ_ _ hv=>he.vl hv)
  ·have E:∀cs,X.st b≠some (.box cs):=λcs hc=>D ⟨cs,hc⟩;have h1:X'.st b=some o:=by rw[h5];exact (vR E).trans A
   exact (h2.ok b o h1).flat ((hf b o A).resolve_left λ⟨cs,hc⟩=>D ⟨cs,A.trans (eZ some hc)⟩) rfl (U E)
 ·have E:∀cs,X.st b≠some (.box cs):=λcs hc=>by
   grind
  rw[U E];exact h2.Lnew b A
 ·exact h2.gsh g x ab
end
def B1 {l:Array Bool}{i j:Nat}(A:i<l.size):(l.setIfInBounds i true).getD j false=if i=j then true else l.getD j false:=by
 by_cases h:i=j
 ·subst h;rw[c_ rfl];simp[A]
 ·rw[a_ h,getD_set_ne false h]
def gX (c:Cf)(ops:List Oper)(dst:Option Nat)(op:Op)(D:TypeId)(pos:String)(A:Array Edge)(K:Kt)(ad:Ad)(fr:Fr)(st:ISt)(ds:List Dfd):jP c ops ⟨dst,op,D,pos,A,none⟩ K ad fr st ds=vcOp c dst op K ad fr st ds:=rfl
def lO {ad:Ad}(h:∀s,ad s=none)(d:Nat):∀s,ad.put d none s=none:=λs=>by
 rw[Ad.put_apply,h s];split<;>rfl
def B2 {ops:Array Oper}{A:Array Bool}(h:((List.range ops.size).all λi=>(opAt ops i).after.toList.all λe=>!Region.binds .any e || decide (e.on<i))=true)(hz:A.size=ops.size)(U:Region.ready .any ops A=[]):∀i,i<ops.size->A.getD i false=true:=by
 intro i
 induction i using Nat.strongRecOn with
 | _ i O =>
  intro D;refine jW λhc=>?_;have h4:A.getD i true=false:=by
   rw[lR,mZ (by omega)] at hc ⊢;simpa using hc
  have:i∈Region.ready .any ops A:=ix.2 ⟨h4,_,oU D,λe E hb=>by
   have J:=fZ.1 (fZ.1 h i (kD.2 D)) e (by simpa using E);rw[hb] at J;have G:e.on<i:=by simpa using J
   exact O e.on G (Nat.lt_trans G D)⟩
  rw[U] at this;cases this
end Go.Iv
namespace Go.Proofs.Tryz
open Go Go.Iv
set_option maxRecDepth 4000
variable (gl:Nat->Option IV)
def xp {p:List Nat}{k a:Nat}(h:p[k]?=some a):(plI p)[k]?=some (.raw (.int .i64 (a:Int))):=by simp[plI,fH,h]
def QL (p q:List Nat):plI (p++q)=plI p++plI q:=by simp[plI]
def sumN:List Nat->Nat
 | []=>0
 | a::l=>a+sumN l
def B3:∀l m:List Nat,sumN (l++m)=sumN l+sumN m
 | [],m=>by simp[sumN]
 | a::l,m=>by simp only[fq,sumN,B3 l m];omega
def QM (l:List Nat)(k:Nat):sumN (l.take k)<=sumN l:=by
 conv=>rhs;rw[<- fh k l]
 rw[B3];omega
def QN (D:Tag)(l:List Nat)(G:okEs D 1)(hs:sumN l<=4611686018427387904)(st:ISt):ICall prog gl 56 [.sl D (plI l)] st (λr st'=>r=(sumN l:Int)/\st'=st):=by
 refine iI func56 ?_;simp only[go_sem,reduceCtorEq,iX];intro _;refine dC l.length (λk fr st' ds=>fr 3=(sumN (l.take k):Int)/\fr 6=.iv (.sl D (plI l))/\fr 7=l.length/\fr 8=.iv (.raw (.int .i64 k))/\st'=st/\ds=[]) ?_ ?_ ?_
 ·simp only[go_sem,zE];simp[sumN]
 ·rintro k fr E _ A ⟨f3,f6,f7,f8,rfl,rfl⟩;obtain⟨a,J⟩:=ed A;have h1:=QM l (k+1);have h2:sumN (l.take (k+1))=sumN (l.take k)+a:=by rw[en J,B3];rfl
  have O:IntKind.i64.wrap (((sumN (l.take k):Nat):Int)+(a:Int))=((sumN (l.take (k+1)):Nat):Int):=by rw[w64]<;>omega
  simp only[go_sem,zE,f3,f6,f7,f8,lt_i A,ec G,iNn,xp J,fits,O,ek A (by omega)]
 ·rintro fr E _ ⟨f3,f6,f7,f8,rfl,rfl⟩;rw[lTl] at f3;simp only[go_sem,zE,f3,f7,f8,eI (nLi _)];exact dw ⟨rfl,rfl⟩
def Is:Tr->List Tr
 | .mk _ _ _ _ _ sub=>sub
def xq (g:Nat)(v:Tr->Nat):Prop:=∀(t:Tr) (l:List Nat) (x:IV) (D:Tag) (A st:ISt),IsTr t x->t.steps<=1099511627776->l=(Is t).map v->own st D l.length 1 A->subSt A st →
 ICall prog gl g [x,.sl D (plI l)] st (λr st'=>r=(v t:Int)/\subSt A st')
def oG:∀ {l:List Tr}{t:Tr},t∈l->t.steps<=gk l
 | a::l,t,h=>by
  simp only[gk];rcases eK.1 h with rfl|h
  ·omega
  ·have:=oG h;omega
def xx:∀l:List Tr,l.length<=gk l
 | []=>eu _
 | .mk _ _ _ _ _ s::l=>by
  have:=xx l;simp only[fa,gk,Tr.steps];omega
def xy (v:Tr->Nat)(g:Nat)(t:Tr):Prop:=∀(x:IV) (_:IsTr t x) (_:t.steps<=1099511627776) (st:ISt),ICall prog gl 54 [x,.fn (.func g) [] []] st (λr st'=>r=(v t:Int)/\st'=st)
def QO (v:Tr->Nat)(g:Nat)(ac:entI prog g=true)(hg:xq gl g v)(rule:Nat)(sq:Sq)(f:Fm)(u:Tm)(n:ByteArray)(sub:List Tr)(IH:∀a∈sub,xy gl v g a):xy gl v g (.mk rule sq f u n sub):=by
 intro x hx hs st;have ah:=hx;obtain⟨tl,xl,tr,xr,op,fn,ta,xa,tb,xb,vb,un,tu,xu,ts,xs,rfl,aO,_,_,_,_,_,_,e3,i3⟩:=hx.mk;have ai:=hs;simp only[Tr.steps] at hs;have hll:=xx sub;refine iI func54 ?_;simp only[go_sem,zE,i3.len];intro _;refine dC sub.length (λk fr st' ds=>(∃D,fr 5=.iv (.sl D (plI ((sub.take k).map v)))/\own st' D k 1 st/\subSt st st')/\fr 1=.iv (.fn (.func g) [] [])/\fr 2=.box [.raw (.int .u8 rule),.sl tl xl,.sl tr xr,.raw (.int .u8 op),fn,.sl ta xa,.sl tb xb,vb,un,.sl tu xu,n,.sl ts xs] /\
  fr 9=.iv (.sl ts xs)/\fr 10=sub.length/\fr 11=.iv (.raw (.int .i64 k))/\ds=[]) ?_ ?_ ?_
 ·simp only[go_sem,zE];exact⟨⟨_,rfl,.inl ⟨rfl,rfl⟩,subSt.refl _⟩,rfl⟩
 ·rintro k fr J _ ab ⟨⟨D,f5,G,E⟩,f1,f2,f9,f10,f11,rfl⟩;obtain⟨a,ha⟩:=ed ab;obtain⟨z,aj,hz⟩:=i3.get ha;have hst:=oG (lMg ha);have A:=IH a (lMg ha) z hz (by omega) J;obtain⟨ag,aI,aw,aH,au,aN,aS,aL,az,aJ,ax,v',aC,aE,an,n',aG,aq,rfl⟩:=fY hz;simp only[go_sem,zE,zB,zA,zL,f1,f5,f9,f10,f11,lt_i ab,ec e3,iNn,aj,fits];refine A.mono ?_;rintro _ _ ⟨rfl,rfl⟩;simp only[go_sem,zE,zA,zM,zL,fits,uE];refine ou G (by rw[iX,eP,eO];omega) E rfl (by simp[fits,IV.one]) (by simp only;omega) (by omega) λaf st4 aa O _ _=>?_;simp only[go_sem,zE,f1,f2,f9,f10,f11,ek ab (by omega)];exact⟨af,by rw[en ha,fS,QL];rfl,aa,O⟩
 ·rintro fr J _ ⟨⟨D,f5,G,E⟩,f1,f2,f9,f10,f11,rfl⟩;rw[lTl] at f5;have A:=hg _ (sub.map v) _ D st J ah ai rfl (by rw[eP];exact G) E;simp only[go_sem,zE,zA,zL,f1,f2,f5,f10,f11,eI (nLi _),ac];refine A.mono ?_;rintro _ aM ⟨rfl,U⟩;simp only[go_sem];exact fN U ⟨rfl,rfl⟩
def It (v:Tr->Nat)(g:Nat)(A:entI prog g=true)(D:xq gl g v):∀(k:Nat) (t:Tr),SizeOf.sizeOf t<k->xy gl v g t
 | 0,t,h=>by omega
 | k+1,.mk r sq f u n sub,h=>QO gl v g A D r sq f u n sub (λa E=>It v g A D k a (by
   have:=lSm E;simp at h;omega))
def QP (v:Tr->Nat)(g:Nat)(A:entI prog g=true)(D:xq gl g v)(t:Tr):xy gl v g t:=It gl v g A D _ t (fP _)
def B4:∀l:List Tr,sumN (l.map Tr.steps)=gk l
 | []=>rfl
 | a::l=>by simp only[ff,sumN,gk,B4 l]
def QQ:xq gl 55 Tr.steps:=by
 rintro⟨rule,s,m,u,n,sub⟩ l x tg am st hx hs rfl D E;simp only[Is] at D ⊢;simp only[Tr.steps] at hs;have A:=λst=>QN gl tg (sub.map Tr.steps) D.es (by rw[B4];omega) st;have hw:IntKind.i64.wrap (1+((gk sub:Nat):Int))=((1+gk sub:Nat):Int):=by rw[w64]<;>omega
 rw[B4] at A;obtain⟨G,ai,aa,ah,U,an,au,al,ac,ak,ab,v',ae,af,J,n',ag,O,rfl⟩:=fY hx;refine iI func55 ?_;simp only[go_sem,zE,zA];refine (A _).q ?_;simp only[go_sem,hw];exact dw ⟨by simp only[Tr.steps],E⟩
def Iu (t:Tr)(x:IV)(D:IsTr t x)(hs:t.steps<=1099511627776)(st:ISt):ICall prog gl 30 [x] st (λr st'=>r=(t.steps:Int)/\st'=st):=by
 have hf:=λst=>QP gl Tr.steps 55 (by simp only[go_sem]) (QQ gl) t x D hs st;obtain⟨A,ag,O,af,J,aj,al,ai,aa,ah,U,v',ab,ac,E,n',ae,G,rfl⟩:=fY D;refine iI func30 ?_;simp only[go_sem,zE,zA,zL];refine (hf _).q ?_;simp only[go_sem];exact dw ⟨rfl,rfl⟩
