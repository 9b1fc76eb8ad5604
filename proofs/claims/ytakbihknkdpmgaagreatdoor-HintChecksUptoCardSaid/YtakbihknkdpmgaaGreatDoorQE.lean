/- Walks: a new space. -/
import Derived.Test.YtakbihknkdpmgaaGreatDoorQD
set_option linter.all false
open Nat renaming reduceEqDiff → zE,reduceBEq → zB,reduceAdd → zA,reduceMul → zM,reduceLeDiff → zL
namespace Go.Proofs.Tryz
open Go Go.Iv
set_option maxRecDepth 4000
variable (gl:Nat->Option IV)
def OF (a b:Fm)(x y:IV)(D:IsFm a x)(A:IsFm b y)(st:ISt):ICall prog gl 162 [x,y] st (λr st'=>r=(decide (eB a b=0):Bool)/\st'=st):=by
 have hc:=uD gl a b x y D A st;cases a with
 | mk o1 n1 u1 s1 =>
 cases b with
 | mk o2 n2 U s2 =>
 obtain⟨t1,O,t2,J,rfl,_⟩:=D.mk;obtain⟨t3,G,t4,E,rfl,_⟩:=A.mk;refine iI func162 ?_;simp only[go_sem,zE,zA,zL];refine hc.mono ?_;rintro _ st ⟨rfl,rfl⟩;simp only[go_sem];exact c_ ⟨rfl,rfl⟩
def OG {st:ISt}{m b A D:Nat}{M S x y F0 F:Option IObj}(h1:st m=none)(h2:(st.put m M) b=none)(G:((st.put m M).put b S) A=none)(E:(((((st.put m M).put b S).put A x).put A y).put A none) D=none)(hM:M≠none)(hS:S≠none) :
  D≠b/\D≠m/\b≠m/\st D=none/\st b=none/\((((((st.put m M).put b S).put A x).put A y).put A none).put D F0).put D F=((st.put m M).put D F).put b S:=by
 have e1:b≠m:=by rintro rfl;rw[b_] at h2;exact hM h2
 rw[dw e1] at h2;have e2:A≠b:=by rintro rfl;rw[b_] at G;exact hS G
 rw[dw e2] at G;have U:A≠m:=by rintro rfl;rw[b_] at G;exact hM G
 rw[dw U] at G;have hst:((((st.put m M).put b S).put A x).put A y).put A none=(st.put m M).put b S:=by
  funext c;simp only[ISt.put_apply];by_cases e:c=A
  ·rw[cV e,e,a_ e2,a_ U,G]
  ·rw[a_ e,a_ e,a_ e]
 rw[hst] at E ⊢;have J:D≠b:=by rintro rfl;rw[b_] at E;exact hS E
 rw[dw J] at E;have O:D≠m:=by rintro rfl;rw[b_] at E;exact hM E
 rw[dw O] at E;refine⟨J,O,e1,E,h2,?_⟩;rw[eN];funext c;simp only[ISt.put_apply];by_cases e:c=D
 ·rw[cV e,e,a_ J,cV rfl]
 ·rw[a_ e,a_ e]
def OH (f:Fm):1<=(cloF f).length:=by
 cases f with
 | mk o n us sub =>
  rw[cloF,lLa];have:=FT (.mk o n us sub);omega
def zI:∀l:List Fm,l.length<=(eZ l).length
 | []=>dJ _
 | a::l=>by
  rw[eZ,lLa,dV];have h1:=OH a;have h2:=zI l;omega
def Gf:∀(a:List Fm)(k:Nat),(eZ (a.take k)).length<=(eZ a).length
 | [],k=>by simp
 | c::a,0=>by simp[eZ]
 | c::a,k+1=>by
  simp only[ko,eZ,lLa];have:=Gf a k;omega
def OJ {cs Z:List IV}{k:Nat}(h:cs.take k=Z):cs=Z++cs.drop k:=by rw[<- h,el]
def Gg {st S s1:ISt}{m b ca:Nat}{W:List Fm}{y:IV}{t:Tag}{z:List IV}(G:st m=none)(h0:∀c o,(st.put m (some (.map .pl []))) c=some o->S c=some o)(h1:∀c o,s1 c=some o->S c=some o/\(st.put m (some (.map .pl []))) c=none)
  (J:s1 b=some (.box [.raw (.int .u8 (ca:Int)),y,.raw (.map (some m))])) (E:OI s1 y (.sl t z)) (ht:okEs t 4) (D:IsFms W z) :
  ∃x s1 s0,LendOk S s1 s0/\OI s1 (ptr b) x/\∃m tw xw,st m=none/\okEs tw 4/\IsFms W xw/\age x=spI ca tw xw m/\s0=st.put m (some (.map .pl [])):=by
 refine⟨.cptr (.agg [.raw (.int .u8 (ca:Int)),.sl t z,.raw (.map (some m))]),s1,_,⟨λc o hc=>(h1 c o hc).1,h0,λc cs hc=>(h1 c _ hc).2⟩,.ptr b _ _ J rfl λi r c A hc=>?_,m,⟨false,t.cap,t.es⟩,ages z,G,?_,D.aged,by simp only[age,ages],rfl⟩
 ·match i,A,hc with
  | 0,A,hc=>cases A;cases hc;exact .refl _
  | 1,A,hc=>cases A;cases hc;exact E
  | 2,A,hc=>cases A;cases hc;exact .refl _
  | i+3,A,hc=>simp at A
 ·exact ht
def OK (ca:Nat)(s:Sq)(x:IV)(hx:IsSq s x)(hl:(eZ (s.l++s.r)).length<=1000000)(st:ISt) :
  ICall prog gl 122 [.raw (.int .u8 (ca:Int)),x] st (λr st'=>∃m tw xw,st m=none/\okEs tw 4/\IsFms (setF (eZ (s.l++s.r))) xw/\r=spI ca tw xw m/\st'=st.put m (some (.map .pl []))):=by
 refine nI ?_;have a1:=hx;obtain⟨t1,x1,t2,x2,rfl,e1,i1,e2,i2⟩:=hx;refine j_ (t:=5) (n:=2) (c:=cf prog gl [12,5,6,32,38] []) func122 rfl (by show _<=43;simp) (by show _<43;simp) (by kernel_rfl) ?_;simp only[go_sem,zE,zA,zL,reduceCtorEq,fits];refine λm=>d_ λh1=>λb=>d_ λh2=>λb5=>d_ λh3=>?_;refine⟨b5,ptr b,by simp only[go_sem],b_ ..,?_⟩;simp only[go_sem,zE,zA,zM,zL,fits];refine λJ=>d_ λh4=>?_;obtain⟨n1,n2,n3,h5,h6,hst⟩:=OG (F0:=some (.box [.raw .nilFunc])) (F:=some (.box [colFn b J])) h1 h2 h3 h4 nofun nofun;simp only[go_sem,pQ,show age (ptr b)=ptr b by simp only[age],hst];refine (yV gl s.l s.r t1 t2 _ x1 x2 (.inr rfl) i1 i2 (by rw[<- lLa];exact dT (zI _) (dT hl (by omega))) _).mono ?_;rintro _ _ ⟨tc,xc,rfl,aB,D,rfl⟩;simp only[go_sem];intro _;generalize hB:(st.put m (some (.map .pl []))).put J (some (.box [colFn b J]))=B0;have al:B0 J=some (.box [colFn b J]):=by rw[<- hB,b_]
 have aA:∀g,B0 g=none->g≠m/\g≠J/\st g=none:=λg A=>by
  rw[<- hB] at A;have g1:g≠J:=by rintro rfl;rw[b_] at A;cases A
  rw[dw g1] at A;have g2:g≠m:=by rintro rfl;rw[b_] at A;cases A
  rw[dw g2] at A;exact⟨g2,g1,A⟩
 have ac:∀c o,(st.put m (some (.map .pl []))) c=some o->B0 c=some o/\c≠b:=λc o hc=>by
  have c1:c≠b:=by rintro rfl;rw[dw n3,h6] at hc;cases hc
  have c2:c≠J:=by rintro rfl;rw[dw n2,h5] at hc;cases hc
  exact⟨by rw[<- hB,dw c2];exact hc,c1⟩
 refine dj xc.length (λk fr st' ds=>Fo ca m b B0 (eZ ((s.l++s.r).take k)) st'/\fr 5=.iv (.cptr (ptr b))/\fr 6=(ptr J)/\fr 19=.iv (.sl tc xc)/\fr 20=xc.length/\fr 21=(k:Int)/\ds=[]) ?_ ?_ ?_
 ·simp only[go_sem,zE];exact⟨.inl ⟨rfl,rfl⟩,rfl⟩
 ·rintro k fr ab _ U ⟨am,f5,f6,f19,f20,f21,rfl⟩;rw[D.len] at U;obtain⟨g,A⟩:=dB U;obtain⟨z,hz,aj⟩:=D.get A;have ay:(eZ ((s.l++s.r).take k)++cloF g).length<=1000000:=by rw[<- u9 A];exact dT (Gf _ _) hl
  have IHg:=FV gl g ca m J b z aj B0 ab _ al n1 ay am;have av:=am.self al n1;cases g with
  | mk og ng ug sg =>
  obtain⟨aX,aT,aW,aS,rfl,ba⟩:=aj.mk;simp only[go_sem,zE,zB,zA,zL,f6,f19,f20,f21,lt_i (show k<xc.length by rw[D.len];exact U),dz aB,iNn,hz,fits,IV.one];rw[av];simp only[go_sem];refine IHg.mono ?_;rintro _ ab aF;simp only[go_sem,zE,f5,f6,f19,f20,f21,dC (show k<xc.length by rw[D.len];exact U) (by rw[D.len];exact dT (zI _) (dT hl (by omega)))];rw[u9 A];exact aF
 ·rintro fr ab _ ⟨hF,f5,f6,f19,f20,f21,rfl⟩;rw[D.len,lTl] at hF;generalize hW:eZ (s.l++s.r)=W at hF hl ⊢;rcases hF with⟨rfl,rfl⟩|⟨g,cap,cs,zs,az,A,G,aN,aw,aC,hzs,rfl⟩
  ·simp only[go_sem,zE,zA,f5,f20,f21,dF (nLi _),fits,ka];refine (EN gl _ rfl _).q ?_;simp only[go_sem,zE,zA,f5,fits];refine (EX gl _ _ rfl _).mono ?_;rintro _ _ ⟨⟨t',rfl,au⟩,rfl⟩;simp only[go_sem,zE,zA,zL,f5,fits];rw[eN];refine c_ (Gg (s1:=ISt.put (λ_=>none) b (some (.box [.raw (.int .u8 (ca:Int)),.sl t' [],.raw (.map (some m))]))) (t:=t') (z:=[]) h1 (λc o hc=>?_) (λc o hc=>?_) (b_ ..) (.refl _) (.inl au) (by rw[EV];rfl))
   ·rw[dw (ac c o hc).2];exact (ac c o hc).1
   ·rw[ISt.put_apply] at hc;split at hc
    ·rename_i e;subst e;exact⟨by rw[b_];exact hc,by rw[dw n3];exact h6⟩
    ·cases hc
  ·have aa:=OJ aC;have ai:=EM gl W zs (cs.drop (W.length*4)) hzs (λe=>az (by rw[e] at hzs;exact eG (by rw[<- hzs.len];rfl))) (by rw[hzs.len];omega) g cap;rw[<- aa,hzs.len] at ai;simp only[go_sem,zE,zA,f5,f20,f21,dF (nLi _),fits,ka,dw G.symm];refine (ai _ (b_ ..)).mono ?_;rintro _ _ ⟨rfl,mm,ys,hms,E,ax,-,rfl⟩;have hml:=E.length_eq;have ak:=EU gl 162 (by simp only[go_sem]) (OF gl) mm ys (cs.drop (W.length*4)) hms (by omega) g cap (by omega);rw[hml] at ak;simp only[go_sem,zE,zA,f5,fits,dw G.symm];refine (ak _ (b_ ..)).mono ?_;rintro _ _ ⟨k,ae,O,rfl,rfl,aE,aD,ah,hk,a7,-⟩;simp only[go_sem,zE,zA,zL,f5,fits,dw G.symm];refine fJ rfl ?_;obtain⟨gm,g6,gs⟩:=aA g A;subst hk;rw[eN,eN,zy G];have ag:∀z∈O,z.cells.length=4:=λz hz=>by
    obtain⟨a,ha,_⟩:=qd ah z hz;cases a;obtain⟨_,_,_,_,rfl,_⟩:=ha.mk;rfl
   have bb:ae.length=cs.length:=by
    rw[aE,lLa,u7 hms,iT];omega
   refine c_ (Gg (s1:=(ISt.put (λ_=>none) b (some (.box [.raw (.int .u8 (ca:Int)),.raw (.slice (some ⟨g,0,none⟩) O.length cap),.raw (.map (some m))]))).put g (some (.box ae))) (t:=⟨true,.app g,4⟩) (z:=O) h1 (λc o hc=>?_) (λc o hc=>?_) (by rw[dw G.symm,b_]) ?_ (.inr rfl) (by rw[mW (uM _ mm E ax)];exact ah))
   ·obtain⟨e1,e2⟩:=ac c o hc;rw[dw (by rintro rfl;rw[A] at e1;cases e1),dw e2];exact e1
   ·rw[ISt.put_apply] at hc;split at hc
    ·rename_i e;subst e;exact⟨by rw[b_];exact hc,by rw[dw gm];exact gs⟩
    ·rename_i e;rw[ISt.put_apply] at hc;split at hc
     ·rename_i e';subst e';exact⟨by rw[dw e,b_];exact hc,by rw[dw n3];exact h6⟩
     ·cases hc
   ·refine .sl g cap ⟨true,.app g,4⟩ O ae rfl (by omega) (by omega) ag (b_ ..) (by show cap*4<=_;omega) λi r c hr hc=>?_;have hi:=(lGs hc).1;rw[gD _ ag] at hi;rw[<- aD,gg,cV hi,hr] at hc;cases hc;exact .refl _
end Go.Proofs.Tryz
namespace Go.Proofs.Tryz
open Go Go.Iv
def si (f:Fm):f∈cloF f:=by
 cases f with
 | mk o n us sub =>
  rw[cloF];refine iX _ ?_;unfold gG;split
  ·simp_all
  ·exact .head _
def zQe {g:Fm}:∀ {l:List Fm},g∈eZ l↔∃f∈l,g∈cloF f
 | []=>by simp[eZ]
 | a::l=>by simp only[eZ,dR,zQe,dN];grind
def OL {o:Nat}{a b g:Fm}(h:g∈gG (.mk o noN [] [a,b])):g=.mk o noN [] [a,b]\/(o=7/\(g=imF a b\/g=imF b a)):=by
 unfold gG at h;split at h
 ·rename_i A;cases A;simpa using h
 ·exact .inl (by simpa using h)
def zWd {a g:Fm}:g∈cloF (.mk 3 noN [] [a])↔g=.mk 3 noN [] [a]\/g∈cloF a:=by
 simp[cloF,eZ,gG]
def Gh {o:Nat}{a b g:Fm}:g∈cloF (.mk o noN [] [a,b])->g=.mk o noN [] [a,b]\/(o=7/\(g=imF a b\/g=imF b a))\/g∈cloF a\/g∈cloF b:=λh=>by
 simp only[cloF,eZ,eo,dR] at h;rcases h with h|h|h
 ·rcases OL h with h|h
  ·exact .inl h
  ·exact .inr (.inl h)
 ·exact .inr (.inr (.inl h))
 ·exact .inr (.inr (.inr h))
def qo {o:Nat}{a b g:Fm}(h:g∈cloF a\/g∈cloF b):g∈cloF (.mk o noN [] [a,b]):=by
 simp only[cloF,eZ,eo,dR];exact .inr h
def OM {ca:Nat}{f:Fm}(hf:PF f):fmB ca f=true->∀g∈cloF f,fmB ca g=true:=by
 induction hf with
 | atom n=>intro h g A;simp[cloF,eZ,gG] at A;rw[A];exact h
 | fls=>intro h g A;simp[cloF,eZ,gG] at A;rw[A];exact h
 | neg _ ih =>
  intro h g A;rcases zWd.1 A with rfl|A
  ·exact h
  ·exact ih (zt h) g A
 | bin h4 h7 _ _ E D =>
  intro h g A;obtain⟨U,O,J,G⟩:=zu ⟨by omega,h4,h7⟩ h;rcases Gh A with rfl|⟨_,rfl|rfl⟩|A|A
  ·exact h
  ·exact J
  ·exact G
  ·exact E U g A
  ·exact D O g A
def ON {f:Fm}(hf:PF f):∀g∈cloF f,∀j r,∀t∈addF j g r,∀p∈t.2,(∀x∈p.1,x∈cloF f)/\∀x∈p.2,x∈cloF f:=by
 induction hf with
 | atom n=>intro g A j r t ht;simp[cloF,eZ,gG] at A;subst A;simp[addF] at ht
 | fls=>intro g A j r t ht;simp[cloF,eZ,gG] at A;subst A;simp[addF] at ht
 | @neg a _ U =>
  intro g A j r t ht p hp;rcases zWd.1 A with rfl|A
  ·have D:a∈cloF (.mk 3 noN [] [a]):=zWd.2 (.inr (si a));cases r<;>simp[addF] at ht<;>subst ht<;>simp at hp<;>subst hp<;>simp[D]
  ·obtain⟨h1,h2⟩:=U g A j r t ht p hp;exact⟨λx E=>zWd.2 (.inr (h1 x E)),λx E=>zWd.2 (.inr (h2 x E))⟩
 | @bin o a b h4 h7 _ _ O J =>
  intro g A j r t ht p hp;have D:a∈cloF (.mk o noN [] [a,b]):=qo (.inl (si a));have G:b∈cloF (.mk o noN [] [a,b]):=qo (.inr (si b));have imp:∀c d:Fm,c∈cloF (.mk o noN [] [a,b])->d∈cloF (.mk o noN [] [a,b])->t∈addF j (imF c d) r->(∀x∈p.1,x∈cloF (.mk o noN [] [a,b]))/\∀x∈p.2,x∈cloF (.mk o noN [] [a,b]):=λc d hc hd ht=>by
   cases r<;>simp[addF] at ht<;>subst ht<;>simp at hp
   ·rcases hp with rfl|rfl<;>simp[hc,hd]
   ·subst hp;simp[hc,hd]
  rcases Gh A with rfl|⟨_,rfl|rfl⟩|A|A
  ·obtain rfl|rfl|rfl|rfl:o=4\/o=5\/o=6\/o=7:=by omega
   ·cases r<;>simp[addF] at ht<;>subst ht<;>simp at hp
    ·subst hp;simp[D,G]
    ·rcases hp with rfl|rfl<;>simp[D,G]
   ·cases r<;>cases j<;>simp[addF] at ht
    ·subst ht;simp at hp;rcases hp with rfl|rfl<;>simp[D,G]
    ·subst ht;simp at hp;rcases hp with rfl|rfl<;>simp[D,G]
    ·subst ht;simp at hp;subst hp;simp[D,G]
    ·rcases ht with rfl|rfl<;>simp at hp<;>subst hp<;>simp[D,G]
   ·exact imp a b D G ht
   ·have h1:imF a b∈cloF (.mk 7 noN [] [a,b]):=by simp[cloF,gG]
    have h2:imF b a∈cloF (.mk 7 noN [] [a,b]):=by simp[cloF,gG]
    cases r<;>simp[addF] at ht<;>subst ht<;>simp at hp
    ·subst hp;simp[h1,h2]
    ·rcases hp with rfl|rfl<;>simp[D,G]
  ·exact imp a b D G ht
  ·exact imp b a G D ht
  ·obtain⟨h1,h2⟩:=O g A j r t ht p hp;exact⟨λx E=>qo (.inl (h1 x E)),λx E=>qo (.inl (h2 x E))⟩
  ·obtain⟨h1,h2⟩:=J g A j r t ht p hp;exact⟨λx E=>qo (.inr (h1 x E)),λx E=>qo (.inr (h2 x E))⟩
def OO (f:Fm):(gG f).length<=3:=by
 unfold gG;split<;>simp
mutual
def OP:∀f:Fm,(cloF f).length<=3*f.size
 | .mk o n us sub=>by
  have h1:=OO (.mk o n us sub);have h2:=zJ sub;simp only[cloF,lLa,Fm.size];omega
def zJ:∀l:List Fm,(eZ l).length<=3*dL l
 | []=>by simp[eZ]
 | a::l=>by
  have h1:=OP a;have h2:=zJ l;simp only[eZ,lLa,dL];omega
end
def size_le {l:List Fm}{k:Nat}(h:∀f∈l,f.size<=k):dL l<=l.length*k:=by
 induction l with
 | nil=>simp[dL]
 | cons a l A =>
  have h1:=h a (.head _);have h2:=A λf D=>h f (.tail _ D);simp only[dL,dV,fp,Nat.one_mul];omega
def qp {ca:Nat}{s:Sq}(hc:ca=1\/ca=2)(h:ev ca s=true) :
  SpOk ca (setF (eZ (s.l++s.r)))/\(eZ (s.l++s.r)).length<=200000/\(setF (eZ (s.l++s.r))).length<=200000/\InW (setF (eZ (s.l++s.r))) (s.l,s.r):=by
 unfold ev at h;simp only[bAt,dTe,eP] at h;obtain⟨⟨⟨⟨⟨_,hl⟩,hr⟩,ac⟩,ab⟩,_⟩:=h;have E:∀f∈s.l++s.r,fmB ca f=true:=λf D=>(dR.1 D).elim (ac f) (ab f);have O:ca≠3:=by omega
 have aa:∀f∈s.l++s.r,f.size<=400:=λf D=>by
  have:=E f D;unfold fmB Fm.right at this;simp only[bAt,dTe] at this;exact this.1.1.2
 have h1:=zJ (s.l++s.r);have h2:=size_le aa;rw[lLa] at h2;have h3:(eZ (s.l++s.r)).length<=200000:=by omega
 obtain⟨r,A,ah⟩:=y7 (eZ (s.l++s.r));rw[mW A];refine⟨⟨hc,A.1,by omega,λf D=>?_,λf D j rr t ht p hp=>?_⟩,h3,by omega,λf D=>?_,λf D=>?_⟩
 ·obtain⟨g,J,G⟩:=zQe.1 ((A.2 f).1 D);exact OM (lU O (E g J)) (E g J) f G
 ·obtain⟨g,J,G⟩:=zQe.1 ((A.2 f).1 D);obtain⟨k1,k2⟩:=ON (lU O (E g J)) f G j rr t ht p hp;exact⟨λx U=>(A.2 x).2 (zQe.2 ⟨g,J,k1 x U⟩),λx U=>(A.2 x).2 (zQe.2 ⟨g,J,k2 x U⟩)⟩
 ·exact (A.2 f).2 (zQe.2 ⟨f,iX _ D,si f⟩)
 ·exact (A.2 f).2 (zQe.2 ⟨f,jD _ D,si f⟩)
def mvW (W:List Fm)(v:Mv):Nat×Fm×List Sn:=(v.1,(W[v.2.1]?).getD fm0,v.2.2.map (lnW W))
def mvT (j:Bool)(ln:Ln)(i:Nat)(t:Tn):Mv:=(t.1,i,t.2.map (j9 j ln))
noncomputable def lV (W:List Fm)(j:Bool)(ln:Ln)(p:Nat×Bool):List Mv:=match W[p.1]? with
 | some f=>(gd W j f p.2).map (mvT j ln p.1)
 | none=>[]
def OQ {ca:Nat}{W:List Fm}(hS:SpOk ca W){ln:Ln}(A:LnOk W ln)(j:Bool){i:Nat}{f:Fm}(D:W[i]?=some f)(r:Bool):(lV W j ln (i,r)).map (mvW W)=mo j (lnW W ln) r f:=by
 unfold lV mo gd;simp only[D,iG];refine kl λt ht=>?_;simp only[Function.comp,mvT,mvW,D,eh,iG];refine Prod.ext rfl (Prod.ext rfl ?_);refine kl λp hp=>?_;exact NX hS.srt A (hS.full f (lMg D) j r t ht p hp)
def zK {ca:Nat}{W:List Fm}(hS:SpOk ca W){ln:Ln}(A:LnOk W ln)(j r:Bool):∀ {l:List Nat},(∀i∈l,i<W.length)->((l.map λi=>(i,r)).flatMap (lV W j ln)).map (mvW W)=(fmW W l).flatMap (mo j (lnW W ln) r)
 | [],_=>rfl
 | i::l,h=>by
  obtain⟨f,D⟩:=dB (h i (.head _));rw[zm D,ec,eC,eC,eJ,OQ hS A j D,zK hS A j r λk E=>h k (.tail _ E)]
def Gi {ca:Nat}{W:List Fm}(hS:SpOk ca W){ln:Ln}(A:LnOk W ln)(j:Bool):((plcs ln).flatMap (lV W j ln)).map (mvW W)=mvF j (lnW W ln):=by
 unfold plcs mvF;rw[jA,eJ,zK hS A j false A.1.2,zK hS A j true A.2.2];rfl
def OR {W:List Fm}{j:Bool}{ln:Ln}{p:Nat×Bool}{v:Mv}(h:some v∈iR W j ln p):v∈lV W j ln p:=by
 unfold iR at h;unfold lV;cases D:W[p.1]? with
 | none=>simp only[D] at h;cases h
 | some f =>
  simp only[D] at h ⊢;obtain⟨t,ht,A⟩:=dH.1 h;refine dH.2 ⟨t,ht,?_⟩;unfold mvN at A;split at A
  ·cases A
  ·cases A;rfl
def Gj {W:List Fm}{j:Bool}{ln:Ln}{v:Mv}(h:some v∈mvsN W j ln):v∈(plcs ln).flatMap (lV W j ln):=by
 obtain⟨p,hp,h⟩:=f_.1 h;exact f_.2 ⟨p,hp,OR h⟩
def OS {W:List Fm}{j:Bool}{ln:Ln}{l:List (Nat×Bool)}:∀ {vs:List Mv},l.flatMap (iR W j ln)=vs.map some->l.flatMap (lV W j ln)=vs:=by
 have one:∀p,(∀o∈iR W j ln p,o≠none)->iR W j ln p=(lV W j ln p).map some:=λp=>by
  unfold iR lV;cases W[p.1]? with
  | none=>intro _;rfl
  | some f =>
   simp only[iG];intro h;refine kl λt ht=>?_;have h1:=h _ (gh ht);unfold mvN at h1 ⊢;split
   ·rename_i G;rw[cV G] at h1;exact absurd rfl h1
   ·rfl
 have A:∀ {a b:List Mv},a.map some=b.map some->a=b:=λ{a b} h=>by
  have h1:=dX (List.filterMap id) h;simpa[List.filterMap_map] using h1
 intro vs h;have D:∀p∈l,∀o∈iR W j ln p,o≠none:=λp hp o J O=>by
  have:o∈vs.map some:=h▸f_.2 ⟨p,hp,J⟩;obtain⟨v,_,rfl⟩:=dH.1 this;cases O
 refine A ?_;rw[<- h];clear h
 induction l with
 | nil=>rfl
 | cons a l E =>
  rw[eC,eC,eJ,one a (D a (.head _)),E λp hp=>D p (.tail _ hp)]
def zN {ca:Nat}{W:List Fm}(hS:SpOk ca W){ln:Ln}(A:LnOk W ln){j:Bool}{vs:List Mv}(h:mvsN W j ln=vs.map some):mvF j (lnW W ln)=vs.map (mvW W):=by
 rw[<- Gi hS A,OS h]
def vf {ca:Nat}{W:List Fm}(hS:SpOk ca W){ln:Ln}(D:LnOk W ln){j:Bool}:none∈mvsN W j ln↔mX j (lnW W ln):=by
 have at_:∀i r f,W[i]?=some f->(none∈iR W j ln (i,r)↔∃t∈addF j f r,∃p∈t.2,tooL j (lnW W ln) p):=λi r f A=>by
  unfold iR gd;simp only[A,iG,dH,Function.comp];constructor
  ·rintro⟨t,ht,G⟩;unfold mvN at G;split at G
   ·rename_i hx;obtain⟨e,O,J⟩:=gw.1 hx;obtain⟨p,hp,rfl⟩:=dH.1 O;exact⟨t,ht,p,hp,(Fw D).1 J⟩
   ·cases G
  ·rintro⟨t,ht,p,hp,hl⟩;refine⟨t,ht,?_⟩;unfold mvN;rw[cV (gw.2 ⟨_,gh hp,(Fw D).2 hl⟩)]
 unfold mvsN mX;rw[f_];constructor
 ·rintro⟨⟨i,r⟩,hp,h⟩;have hm:(r=false/\i∈ln.1)\/(r=true/\i∈ln.2):=by
   rcases dR.1 hp with hp|hp<;>obtain⟨k,U,G⟩:=dH.1 hp<;>cases G
   ·exact .inl ⟨rfl,U⟩
   ·exact .inr ⟨rfl,U⟩
  rcases hm with⟨rfl,E⟩|⟨rfl,E⟩
  ·obtain⟨f,A⟩:=D.1.get E;exact⟨f,false,yZp.2 ⟨i,E,A⟩,(at_ i _ f A).1 h⟩
  ·obtain⟨f,A⟩:=D.2.get E;exact⟨f,true,yZp.2 ⟨i,E,A⟩,(at_ i _ f A).1 h⟩
 ·rintro⟨f,r,A,h⟩;cases r
  ·obtain⟨i,E,A⟩:=yZp.1 A;exact⟨(i,false),iX _ (dH.2 ⟨i,E,rfl⟩),(at_ i _ f A).2 h⟩
  ·obtain⟨i,E,A⟩:=yZp.1 A;exact⟨(i,true),jD _ (dH.2 ⟨i,E,rfl⟩),(at_ i _ f A).2 h⟩
def Gk {ca:Nat}{W:List Fm}(hS:SpOk ca W){ln p:Ln}(A:LnOk W ln){s0:Sn}(h:kb W (calJ ca) ln p)(D:Rch (calJ ca) s0 (lnW W ln))(hc:¬ clN W ln):Rch (calJ ca) s0 (lnW W p)/\LnOk W p/\p.1.length<=64/\p.2.length<=64:=by
 obtain⟨v,hv,hp⟩:=h;obtain⟨h1,h2,E⟩:=(ve hS A hv).2.2.2 p hp;refine⟨.step D (λh=>hc ((nW hS.srt A).2 h)) (m:=mvW W v) ?_ (gh hp),h1,h2,E⟩;rw[<- Gi hS A];exact gh (Gj hv)
def LkS (W:List Fm)(j:Bool)(lines:List Ln)(ln:Ln)(l:List Lk):Prop:=(clN W ln/\l=[])\/(¬ clN W ln/\∃vs,mvsN W j ln=vs.map some/\LksOf lines vs l)
def LkS.app {W:List Fm}{j:Bool}{lines more:List Ln}{ln:Ln}{l:List Lk}(h:LkS W j lines ln l):LkS W j (lines++more) ln l :=
 h.imp id λ⟨h1,vs,h2,A⟩=>⟨h1,vs,h2,A.app⟩
structure ExS (ca:Nat)(W:List Fm)(s0:Sn)(lines:List Ln)(links:List (List Lk)):Prop where
 start:∃ln,lines[0]?=some ln/\lnW W ln=s0
 ok:∀ln∈lines,LnOk W ln
 rch:∀ln∈lines,Rch (calJ ca) s0 (lnW W ln)
 done:∀(k:Nat) (l:List Lk),links[k]?=some l->∃ln,lines[k]?=some ln/\LkS W (calJ ca) lines ln l
 len:lines.length<=20000
def ExS.add {ca:Nat}{W:List Fm}{s0:Sn}{lines:List Ln}{links:List (List Lk)}(h:ExS ca W s0 lines links)(hS:SpOk ca W){ln:Ln}(hl:lines[links.length]?=some ln){l:List Lk}{more:List Ln}(O:LkS W (calJ ca) (lines++more) ln l)
  (hm:more=[]\/¬ clN W ln) (hp:∀p∈more,kb W (calJ ca) ln p) (J:(lines++more).length<=20000):ExS ca W s0 (lines++more) (links++[l]):=by
 have G:=lMg hl;have E:∀p∈more,Rch (calJ ca) s0 (lnW W p)/\LnOk W p:=λp D=>by
  rcases hm with rfl|hc
  ·cases D
  ·obtain⟨h1,h2,_⟩:=Gk hS (h.ok ln G) (hp p D) (h.rch ln G) hc;exact⟨h1,h2⟩
 have app:∀ {k:Nat} {a:Ln},lines[k]?=some a->(lines++more)[k]?=some a:=λ{k a} O=>by
  rw[fw (lGs O).1];exact O
 refine⟨?_,λp D=>?_,λp D=>?_,λk l' A=>?_,J⟩
 ·obtain⟨a,ha,hs⟩:=h.start;exact⟨a,app ha,hs⟩
 ·exact (dR.1 D).elim (h.ok p) λD=>(E p D).2
 ·exact (dR.1 D).elim (h.rch p) λD=>(E p D).1
 ·rcases fQ k links.length with U|aa
  ·rw[fw U] at A;obtain⟨a,ha,hs⟩:=h.done k l' A;exact⟨a,app ha,hs.app⟩
  ·rw[fD aa] at A;have h0:k-links.length=0:=by
    rcases Nat.eq_zero_or_pos (k-links.length) with h0|h0
    ·exact h0
    ·rw[List.getElem?_eq_none (by simp only[dV,dU];omega)] at A;cases A
   rw[h0] at A;cases A;obtain rfl:k=links.length:=by omega
   exact⟨ln,app hl,O⟩
def ExS.reach {ca:Nat}{W:List Fm}{s0:Sn}{lines:List Ln}{links:List (List Lk)}(h:ExS ca W s0 lines links)(hS:SpOk ca W)(hn:lines.Nodup)(hl:lines.length<=links.length):ReachOk (calJ ca) s0 (lines.map (lnW W)):=by
 have D:∀ln∈lines,∃l,LkS W (calJ ca) lines ln l:=λln O=>by
  obtain⟨k,hk,rfl⟩:=fL.1 O;obtain⟨a,U,hs⟩:=h.done k _ (dO (kr hk hl));rw[dO hk] at U;cases U;exact⟨_,hs⟩
 refine⟨?_,λs=>⟨λhs=>?_,λhs=>?_⟩,λs hs hc=>?_,by rw[dY];exact h.len⟩
 ·rw[List.nodup_iff_pairwise_ne,km];exact hn.imp_of_mem λ{a b} U hb ae he=>ae (Fs hS.srt (h.ok a U) (h.ok b hb) he)
 ·obtain⟨ln,O,rfl⟩:=dH.1 hs;exact h.rch ln O
 ·induction hs with
  | refl =>
   obtain⟨a,U,hs⟩:=h.start;exact dH.2 ⟨a,lMg U,hs⟩
  | @step s _ hc m O p hp ih =>
   obtain⟨ln,A,rfl⟩:=dH.1 ih;obtain⟨l,⟨J,_⟩|⟨_,vs,G,af⟩⟩:=D ln A
   ·exact absurd ((nW hS.srt (h.ok ln A)).1 J) hc
   ·rw[zN hS (h.ok ln A) G] at O;obtain⟨v,hv,rfl⟩:=dH.1 O;obtain⟨q,hq,rfl⟩:=dH.1 hp;obtain⟨i,hi,ab⟩:=fL.1 hv;obtain⟨k,hk,E⟩:=af.2 i v (by rw[dO hi,ab]);obtain⟨e,he,ac⟩:=fL.1 hq;have ah:e<k.2.2.length:=by rw[E.2.2.1];exact he
    obtain⟨p',hp1,hp2⟩:=E.2.2.2 e _ (dO ah);rw[dO he,ac] at hp2;cases hp2;exact dH.2 ⟨q,lMg hp1,rfl⟩
 ·obtain⟨ln,A,rfl⟩:=dH.1 hs;obtain⟨l,⟨J,_⟩|⟨_,vs,G,_⟩⟩:=D ln A
  ·exact absurd ((nW hS.srt (h.ok ln A)).1 J) hc
  ·intro E;have:=(vf hS (h.ok ln A)).2 E;rw[G] at this;simp at this
def ExS.no5 {ca:Nat}{W:List Fm}{s0:Sn}{lines:List Ln}{links:List (List Lk)}(h:ExS ca W s0 lines links)(hS:SpOk ca W){ln:Ln}(hl:ln∈lines)(hc:¬ clN W ln)(D:none∈mvsN W (calJ ca) ln):qg (calJ ca) s0 5 :=
 .inr ⟨rfl,lnW W ln,h.rch ln hl,λA=>hc ((nW hS.srt (h.ok ln hl)).2 A),(vf hS (h.ok ln hl)).1 D⟩
def ExS.no4 {ca:Nat}{W:List Fm}{s0:Sn}{lines:List Ln}{links:List (List Lk)}(h:ExS ca W s0 lines links)(hS:SpOk ca W){ln:Ln}(hl:ln∈lines)(hc:¬ clN W ln){more:List Ln}{p:Ln}(hm:∀q∈more,kb W (calJ ca) ln q)(hp:kb W (calJ ca) ln p)
  (E:p ∉ lines++more) (hn:(lines++more).Nodup) (U:20000<=(lines++more).length):qg (calJ ca) s0 4:=by
 have D:∀q∈lines++more++[p],Rch (calJ ca) s0 (lnW W q)/\LnOk W q:=λq A=>by
  have pr:∀q,kb W (calJ ca) ln q->Rch (calJ ca) s0 (lnW W q)/\LnOk W q:=λq A=>by
   obtain⟨h1,h2,_⟩:=Gk hS (h.ok ln hl) A (h.rch ln hl) hc;exact⟨h1,h2⟩
  rcases dR.1 A with A|A
  ·rcases dR.1 A with A|A
   ·exact⟨h.rch q A,h.ok q A⟩
   ·exact pr q (hm q A)
  ·rw[dZ.1 A];exact pr p hp
 have hnd:(lines++more++[p]).Nodup:=lr.2 ⟨hn,by simp,λa O b J=>by
  rw[dZ.1 J];rintro rfl;exact E O⟩
 refine .inl ⟨rfl,(lines++more++[p]).map (lnW W),?_,λs hs=>?_,by rw[dY,lLa];simp only[dV,dU];omega⟩
 ·rw[List.nodup_iff_pairwise_ne,km];exact hnd.imp_of_mem λ{a b} O J G he=>G (Fs hS.srt (D a O).2 (D b J).2 he)
 ·obtain⟨q,A,rfl⟩:=dH.1 hs;exact (D q A).1
end Go.Proofs.Tryz
namespace Go.Proofs.Tryz
open Go Go.Iv
set_option maxRecDepth 4000
variable (gl:Nat->Option IV)
noncomputable abbrev spW (s:Sq):List Fm:=setF (eZ (s.l++s.r))
def zO {ca:Nat}{s:Sq}(h:ev ca s=true):s.l.length<=64/\s.r.length<=64:=by
 unfold ev at h;simp only[bAt,dTe] at h;exact⟨h.1.1.1.1.2,h.1.1.1.2⟩
def zP (G:Gl gl)(ca:Nat)(s:Sq)(x:IV)(hx:IsSq s x)(hs:fW s)(st:ISt) :
  ICall prog gl 94 [.raw (.int .u8 (ca:Int)),x] st (λr st' =>
   (¬ (ca=1\/ca=2)/\r=.tup [.raw (.pointer none),(2:Int)]/\st'=st)\/((ca=1\/ca=2)/\ev ca s=false/\r=.tup [.raw (.pointer none),(190:Int)]/\st'=st) \/
   ((ca=1\/ca=2)/\ev ca s=true/\∃m tw xw,st m=none/\okEs tw 4/\IsFms (spW s) xw/\r=.tup [spI ca tw xw m,(0:Int)]/\st'=st.put m (some (.map .pl [])))):=by
 have hv:=λst=>yS gl G ca s x hx hs st;have hn:=OK gl ca s x hx;obtain⟨t1,x1,t2,x2,rfl,e1,i1,e2,i2⟩:=id hx;refine iI func94 ?_;by_cases h1:ca=1
 ·have D:decide ((ca:Int)=1)=true:=dEt (by omega);have hc:ca=1\/ca=2:=.inl h1;simp only[go_sem,zE,zA,zL,reduceCtorEq,D];refine (hv _).q ?_;rcases Bool.eq_false_or_eq_true (ev ca s) with A|A
  ·obtain⟨_,O,_,_⟩:=qp (ca:=ca) (s:=s) hc A;simp only[go_sem,zE,zA,zL,reduceCtorEq,show Value.bool (ev ca s)=.bool true by rw[A]];refine (hn (dT O (by omega)) _).mono ?_;rintro _ _ ⟨m,tw,xw,hm,J,E,rfl,rfl⟩;simp only[go_sem,zE];exact c_ (.inr (.inr ⟨hc,A,m,tw,xw,hm,J,E,rfl,rfl⟩))
  ·simp only[go_sem,zE,show Value.bool (ev ca s)=.bool false by rw[A]];exact c_ (.inr (.inl ⟨hc,A,rfl,rfl⟩))
 ·have D:decide ((ca:Int)=1)=false:=dEf (by omega);by_cases h2:ca=2
  ·have U:decide ((ca:Int)=2)=true:=dEt (by omega);have hc:ca=1\/ca=2:=.inr h2;simp only[go_sem,zE,zA,zL,reduceCtorEq,D,U];refine (hv _).q ?_;rcases Bool.eq_false_or_eq_true (ev ca s) with A|A
   ·obtain⟨_,O,_,_⟩:=qp (ca:=ca) (s:=s) hc A;simp only[go_sem,zE,zA,zL,reduceCtorEq,show Value.bool (ev ca s)=.bool true by rw[A]];refine (hn (dT O (by omega)) _).mono ?_;rintro _ _ ⟨m,tw,xw,hm,J,E,rfl,rfl⟩;simp only[go_sem,zE];exact c_ (.inr (.inr ⟨hc,A,m,tw,xw,hm,J,E,rfl,rfl⟩))
   ·simp only[go_sem,zE,show Value.bool (ev ca s)=.bool false by rw[A]];exact c_ (.inr (.inl ⟨hc,A,rfl,rfl⟩))
  ·have U:decide ((ca:Int)=2)=false:=dEf (by omega);simp only[go_sem,zE,reduceCtorEq,D,U];exact c_ (.inl ⟨by omega,rfl,rfl⟩)
def OT:mapI prog 122=some (.str,.raw (.int .i32 0)):=by kernel_rfl
open Classical in
noncomputable def runF (W:List Fm)(j:Bool):Nat->Nat->List Ln->Nat
 | 0,_,_=>0
 | q+1,n,ls=>match ls[n]? with
  | none=>0
  | some ln=>if clN W ln then runF W j q (n+1) ls else if (expF (mvsN W j ln) ls).2=0 then runF W j q (n+1) (expF (mvsN W j ln) ls).1 else (expF (mvsN W j ln) ls).2
noncomputable def errN (ca:Nat)(s:Sq):Nat:=if ca=1\/ca=2 then (if ev ca s=true then runF (spW s) (calJ ca) 20001 0 [lT (spW s) (s.l,s.r)] else 190) else 2
def ExplR (ca:Nat)(s:Sq)(st:ISt)(r:IV)(st':ISt):Prop :=
 (¬ (ca=1\/ca=2)/\r=.tup [.raw (.pointer none),(2:Int)]/\st'=st)\/((ca=1\/ca=2)/\ev ca s=false/\r=.tup [.raw (.pointer none),(190:Int)]/\st'=st) \/
 ((ca=1\/ca=2)/\ev ca s=true/\((∃e,(qg (calJ ca) (nf (s.l,s.r)) e/\e=errN ca s)/\r=.tup [.raw (.pointer none),(e:Int)]/\st'=st) \/
  ∃m tw xw rb mN lines links,okEs tw 4/\IsFms (spW s) xw/\r=.tup [ptr rb,(0:Int)]/\RS ca m (spW s) tw xw rb mN st st' lines links/\ExS ca (spW s) (nf (s.l,s.r)) lines links/\links.length=lines.length/\errN ca s=0))
def RS.link {ca m:Nat}{W:List Fm}{tw:Tag}{xw:List IV}{rb mN:Nat}{S0 st st':ISt}{lines:List Ln}{links:List (List Lk)}(h:RS ca m W tw xw rb mN S0 st lines links){tl tk:Tag}{xl xk:List IV}{l:List Lk}{x:IV}(hx:vd l x)
  (E:st rb=some (.box [spI ca tw xw m,.sl tl xl,.raw (.map (some mN)),.sl tk xk,()])) (O:AllR IsLn lines xl) (ab:own st tl lines.length 2 S0) (U:AllR vd links xk) {A:Tag} (ac:own st' A (links.length+1) 1 S0) (J:subSt S0 st') (D:keepF 1 st st') :
  RS ca m W tw xw rb mN S0 (st'.put rb (some (.box [spI ca tw xw m,.sl tl xl,.raw (.map (some mN)),.sl A (xk++[x]),()]))) lines (links++[l]):=by
 obtain⟨ah,G,ag⟩:=h.sp;have hn:=h.num;have h1:rb≠m:=by rintro rfl;rw[E] at G;cases G
 have h2:rb≠mN:=by rintro rfl;rw[E] at hn;cases hn
 have aa:=D rb _ E (λn h=>by cases h);have put:∀ {t:Tag} {n k:Nat},own st' t n k S0->own (st'.put rb (some (.box [spI ca tw xw m,.sl tl xl,.raw (.map (some mN)),.sl A (xk++[x]),()]))) t n k S0:=λho=>ho.mono λg hg _=>by
  rw[dw λe=>by rw[e,aa] at hg;cases hg];exact hg
 refine⟨⟨tl,xl,A,_,b_ ..,O,put (D.own ab (by decide)),U.snoc hx,by rw[lLa];exact put ac⟩,?_,⟨ah,?_,ag⟩,eA J h.off.1,h.off,h.ok,h.nd⟩
 ·rw[dw h2.symm];exact D _ _ hn λn h=>by cases h
 ·rw[dw h1.symm];exact D _ _ G λn h=>by cases h
def OU (G:Gl gl)(T:Gt gl)(ca:Nat)(s:Sq)(x:IV)(hx:IsSq s x)(hs:fW s)(st:ISt):ICall prog gl 74 [.raw (.int .u8 (ca:Int)),x] st (ExplR ca s st):=by
 have hb:=λst=>zP gl G ca s x hx hs st;have aY:=hx;obtain⟨t1,x1,t2,x2,rfl,e1,i1,e2,i2⟩:=hx;refine ICall.intro (c:=cf prog gl [26] []) func74 rfl (by show _<=76;simp) (by kernel_rfl) ?_;simp only[go_sem,zE,zA,zL,reduceCtorEq];refine (hb _).mono ?_;rintro _ bs (⟨hc,rfl,rfl⟩|⟨hc,hv,rfl,rfl⟩|⟨hc,hv,m,tw,xw,hm,ah,ag,rfl,rfl⟩)
 ·simp only[go_sem,zE,show decide ((2:Int)=0)=false from rfl];exact c_ (show ExplR _ _ _ _ _ from .inl ⟨hc,rfl,rfl⟩)
 ·simp only[go_sem,zE,show decide ((190:Int)=0)=false from rfl];exact c_ (show ExplR _ _ _ _ _ from .inr (.inl ⟨hc,hv,rfl,rfl⟩))
 ·obtain⟨hS,_,av,ai⟩:=qp hc hv;have al:=zO hv;have J:=zo ai;have au:=λst=>uW gl T ca m (spW s) tw xw ah ag hS.srt (dT av (by omega)) s _ aY ⟨by omega,by omega⟩ ai st;simp only[go_sem,zE,zA,zL,fits,OT,dA];refine λmN=>d_ λac=>λrb=>d_ λA=>?_;refine (au _).mono ?_;rintro z _ ⟨hz,rfl⟩;have n1:mN≠m:=by rintro rfl;rw[b_] at ac;cases ac
  rw[dw n1] at ac;have n2:rb≠mN:=by rintro rfl;rw[b_] at A;cases A
  rw[dw n2] at A;have n3:rb≠m:=by rintro rfl;rw[b_] at A;cases A
  rw[dw n3] at A;have be:RS ca m (spW s) tw xw rb mN st (((st.put m (some (.map .pl []))).put mN (some (.map .str []))).put rb (some (.box [spI ca tw xw m,(),.raw (.map (some mN)),(),()]))) [] [] :=
   ⟨⟨_,_,_,_,b_ ..,AllR.nil,own.nil ..,AllR.nil,own.nil ..⟩,by rw[dw n2.symm,b_];rfl,⟨[],by rw[dw n3.symm,dw n1.symm,b_],(λp hp=>by cases hp)⟩,
    eA (eA (ff hm) ac) A,⟨A,ac,hm⟩,(λ_ h=>by cases h),jF⟩
  have aH:=ql (spW s) s.l;have aG:=ql (spW s) s.r;obtain⟨aW,aV⟩:=Gc (dT av (by omega)) J ⟨dT aH al.1,dT aG al.2⟩;have bb:=Gb gl ca m (spW s) tw xw rb mN st _ [] [] be (lT (spW s) (s.l,s.r)) aW aV z hz (fq _);obtain⟨ta,tb,rfl,ea,eb⟩:=id hz;simp only[go_sem,zE,zA];refine bb.mono ?_;rintro _ s1 (⟨n,hn,_⟩|⟨_,⟨aJ,_⟩|⟨_,rfl,aL,_⟩⟩)
  ·simp at hn
  ·simp at aJ
  ·have aO:ExS ca (spW s) (nf (s.l,s.r)) ([]++[lT (spW s) (s.l,s.r)]) []:=by
    refine⟨⟨_,rfl,uU hS.srt ai⟩,λp hp=>?_,λp hp=>?_,λk l hk=>by simp at hk,by simp⟩
    ·rw[dZ.1 hp];exact J
    ·rw[dZ.1 hp,uU hS.srt ai];exact .refl
   have aN:errN ca s=runF (spW s) (calJ ca) 20001 0 ([]++[lT (spW s) (s.l,s.r)]):=by unfold errN;rw[cV hc,cV hv];rfl
   generalize []++[lT (spW s) (s.l,s.r)]=af at aL aO aN;simp only[go_sem];refine LoopC.dec 20001 (λq fr st' ds=>∃lines links,q+links.length=20001/\RS ca m (spW s) tw xw rb mN st st' lines links/\ExS ca (spW s) (nf (s.l,s.r)) lines links/\errN ca s=runF (spW s) (calJ ca) q links.length lines/\fr 6=(spI ca tw xw m)/\fr 8=(ptr rb)/\fr 9=(links.length:Int)/\ds=[]) ?_ ?_
   ·simp only[go_sem,zE];exact⟨af,[],rfl,aL,aO,aN,rfl⟩
   ·rintro q fr s2 _ ⟨lines,links,hq,hR,U,hF,f6,f8,f9,rfl⟩;obtain⟨tl,xl,tk,xk,A,am,aD,aA,a7⟩:=hR.ex;have bw:links.length<=lines.length:=by
     rcases fQ lines.length links.length with h|h
     ·obtain⟨a,ha,_⟩:=U.done lines.length _ (dO h);rw[List.getElem?_eq_none (dJ _)] at ha;cases ha
     ·exact h
    have bk:=am.1;rcases fQ links.length lines.length with ao|aJ
    ·obtain⟨ln,J⟩:=dB ao;have aq:=lMg J;obtain⟨q,rfl⟩:∃k,q=k+1:=⟨q-1,by have:=U.len;omega⟩
     simp only[runF,J] at hF;have ae:=U.ok ln aq;obtain⟨z,hz,ay⟩:=am.2 _ ln J;have bd:=λst=>zG gl ca m (spW s) hS tw xw ah ag ln ae z ay st;have bc:=OE gl G T ca m (spW s) hS av tw xw ah ag rb mN st s2 lines links hR U.len links.length ln J ae;obtain⟨ta,tb,rfl,ea,eb⟩:=ay;simp only[go_sem,zE,zB,zA,f6,f8,f9,A,fits,lt_i (show links.length<xl.length by omega),hz,iNn,dz aD.es];intro _;refine (bd _).mono ?_;rintro _ s2 ⟨⟨zf,rfl,aX⟩,rfl⟩;obtain⟨y1,y2,y3,y4,y5,y6,rfl⟩:=aX.agg;have aK:=zF (W:=spW s) ae.1;rcases Bool.eq_false_or_eq_true (axW (spW s) ln).isSome with E|E
     ·have D:=aK.1 E;simp only[go_sem,zE,zA,zM,zL,fits,E,f8,A,dW];refine gQ a7 aA.1 hR.base rfl (by simp[fits,IV.one]) (by simp only;omega) (by omega) λaU s3 w1 w2 w3=>?_;have O:=w3 rb _ A (λn h=>by cases h);simp only[go_sem,zE,zA,zL,f6,f8,f9,O];have aj:=U.add hS J (l:=[]) (more:=[]) (.inl ⟨D,rfl⟩) (.inl rfl) (λp hp=>by cases hp) (by rw[eo];exact U.len);rw[eo] at aj;have hk:=U.len;rw[cV D] at hF;exact⟨q,by omega,lines,links++[[]],by rw[lLa];simp only[dV,dU];omega,hR.link ⟨_,[],rfl,.inl rfl,AllR.nil⟩ A am aD aA w1 w2 w3,aj,by rw[lLa];exact hF,by rw[dC ao (by omega),lLa];rfl⟩
     ·have D:¬ clN (spW s) ln:=λh=>by rw[aK.2 h] at E;cases E
      simp only[go_sem,zE,zA,zL,E,f8,f9];refine bc.mono ?_;rintro _ s3 (⟨t,ys,L,vs,more,rfl,ht,hys,a1,a8,a6,aF,aw,aa⟩|⟨rfl,an,ab,aa⟩|⟨rfl,ab,aa,more,p,g1,g2,g3,g4,g5⟩)
      ·obtain⟨bp,bn,bq,bo,O,az,aC,ak,aE⟩:=aw.ex;simp only[go_sem,zE,zA,zM,zL,dA,f8,O,fits,dW];refine gQ aE ak.1 aw.base rfl (by simp[fits,IV.one]) (by simp only;omega) (by omega) λaU s4 w1 w2 w3=>?_;have aB:=w3 rb _ O (λn h=>by cases h);simp only[go_sem,zE,zA,zL,f6,f8,f9,aB];have aj:=U.add hS J (l:=L) (more:=more) (.inr ⟨D,vs,a1,a8⟩) (.inr D) a6 aF;have hk:=U.len;rw[a_ D,aa,cV rfl] at hF;exact⟨q,by omega,lines++more,links++[L],by rw[lLa];simp only[dV,dU];omega,aw.link ⟨_,ys,rfl,ht,hys⟩ O az aC ak w1 w2 w3,aj,by rw[lLa];exact hF,by rw[dC ao (by omega),lLa];rfl⟩
      ·simp only[go_sem,zE,show decide ((5:Int)=0)=false from rfl];exact⟨st,ab,.inr (.inr ⟨hc,hv,.inl ⟨5,⟨U.no5 hS aq D an,by rw[hF,a_ D,aa];rfl⟩,rfl,rfl⟩⟩)⟩
      ·simp only[go_sem,zE,show decide ((4:Int)=0)=false from rfl];exact⟨st,ab,.inr (.inr ⟨hc,hv,.inl ⟨4,⟨U.no4 hS aq D g1 g2 g3 g4 g5,by rw[hF,a_ D,aa];rfl⟩,rfl,rfl⟩⟩)⟩
    ·have aI:¬ links.length<xl.length:=by omega
     simp only[go_sem,zE,f8,f9,A,dF aI];intro _;have an:lines[links.length]?=none:=List.getElem?_eq_none (by omega);have bf:errN ca s=0:=by
      rw[hF];cases q with
      | zero=>rfl
      | succ k=>simp only[runF,an]
     exact c_ (show ExplR _ _ _ _ _ from .inr (.inr ⟨hc,hv,.inr ⟨m,tw,xw,rb,mN,lines,links,ah,ag,rfl,hR,U,by omega,bf⟩⟩))
end Go.Proofs.Tryz
namespace Go.Proofs.Tryz
open Go Go.Iv
def evK (u:Us)(ps:List Nat):List (Nat×Us):=ps.map λp=>(p,u)
def evL (i:Nat)(l:List Lk):List (Nat×Us):=l.zipIdx.flatMap λA=>evK (i,A.2) A.1.2.2
def evA (links:List (List Lk)):List (Nat×Us):=links.zipIdx.flatMap λA=>evL A.2 A.1
def UsOk (us:List (List Us))(E:List (Nat×Us)):Prop:=∀p u,(usAt us p).count u=E.count (p,u)
def zQ {α β:Type} [BEq β] [LawfulBEq β](F:α×Nat->List β)(A:β->Nat)(hF:∀a i,∀x∈F (a,i),A x=i)(b:β):∀(l:List α) (k:Nat),((l.zipIdx k).flatMap F).count b=if k<=A b then ((l[A b-k]?).elim 0 λa=>(F (a,A b)).count b) else 0
 | [],k=>by simp
 | a::l,k=>by
  rw[List.zipIdx_cons,eC,jy,zQ F A hF b l (k+1)];by_cases h1:A b=k
  ·rw[a_ (by omega),cV (by omega),h1,fS];rfl
  ·have h0:(F (a,k)).count b=0:=List.count_eq_zero.2 λD=>h1 (hF a k b D);rw[h0,ee];by_cases h2:k<=A b
   ·rw[cV (by omega),cV h2,show A b-k=(A b-(k+1))+1 by omega,gJ]
   ·rw[a_ (by omega),a_ h2]
def Gm {α β:Type}(F:α×Nat->List β){l:List α}{i:Nat}{a:α}(h:l[i]?=some a):(l.take (i+1)).zipIdx.flatMap F=(l.take i).zipIdx.flatMap F++F (a,i):=by
 have A:=(lGs h).1;rw[dE h,List.zipIdx_append,jA,dQ,ee,Nat.min_eq_left (by omega)];simp
def OV {links:List (List Lk)}{i:Nat}{l:List Lk}(h:links[i]?=some l):evA (links.take (i+1))=evA (links.take i)++evL i l:=Gm _ h
def OW {i j:Nat}{l:List Lk}{k:Lk}(h:l[j]?=some k):evL i (l.take (j+1))=evL i (l.take j)++evK (i,j) k.2.2:=Gm _ h
def OX {u:Us}{ps:List Nat}{q p:Nat}(h:ps[q]?=some p):evK u (ps.take (q+1))=evK u (ps.take q)++[(p,u)]:=by
 unfold evK;rw[dE h,eJ];rfl
def OY (links:List (List Lk))(p:Nat)(u:Us):(evA links).count (p,u)=(lkAt links u).count p:=by
 have hK:∀(u v:Us) (ps:List Nat),(evK v ps).count (p,u)=if v=u then ps.count p else 0:=λu v ps=>by
  unfold evK
  induction ps with
  | nil=>simp
  | cons a ps G =>
   rw[ec,List.count_cons,G,List.count_cons];by_cases h:v=u
   ·subst h;by_cases h2:a=p
    ·simp[h2]
    ·simp[h2]
   ·simp[h]
 have h1:=zQ (λE:List Lk×Nat=>evL E.2 E.1) (λx:Nat×Us=>x.2.1) (λa i x A=>by
  obtain⟨D,_,A⟩:=f_.1 A;obtain⟨q,_,rfl⟩:=dH.1 A;rfl) (p,u) links 0
 unfold evA;rw[h1,cV (fq _),iZ];unfold lkAt;cases hl:links[u.1]? with
 | none=>simp[]
 | some l =>
  simp only[Option.elim_some,eh];have h2:=zQ (λD:Lk×Nat=>evK (u.1,D.2) D.1.2.2) (λx:Nat×Us=>x.2.2) (λa i x A=>by
   obtain⟨q,_,rfl⟩:=dH.1 A;rfl) (p,u) l 0
  unfold evL;rw[h2,cV (fq _),iZ];cases J:l[u.2]? with
  | none=>simp[]
  | some k =>
   simp only[Option.elim_some];rw[hK,cV rfl]
def UsOk.nil (n:Nat):UsOk (List.replicate n []) []:=λp u=>by
 have:usAt (List.replicate n []) p=[]:=by
  unfold usAt;rw[lj];split<;>rfl
 rw[this];rfl
def UsOk.add {us:List (List Us)}{E:List (Nat×Us)}(h:UsOk us E){p:Nat}{u:Us}(hp:p<us.length):UsOk (us.set p (usAt us p++[u])) (E++[(p,u)]):=λp' A=>by
 have hs:usAt (us.set p (usAt us p++[u])) p'=if p'=p then usAt us p++[u] else usAt us p':=by
  unfold usAt;rw[gx];by_cases e:p=p'
  ·subst e;simp[hp]
  ·rw[a_ e,a_ λh=>e h.symm]
 rw[hs,jy,<- h p' A];by_cases e:p'=p
 ·subst e;rw[cV rfl,jy];congr 1;by_cases D:u=A
  ·subst D;simp
  ·simp[D]
 ·rw[a_ e];have:[(p,u)].count (p',A)=0:=by simp[Ne.symm e]
  rw[this,iH]
def wsOf (links:List (List Lk)):List (List Nat):=links.map λl=>l.map λk=>k.2.2.length
def Gn {links:List (List Lk)}(u:Us):atW (wsOf links) u=(((links[u.1]?).getD [])[u.2]?).map λk=>k.2.2.length:=by
 unfold atW wsOf;rw[eI];cases links[u.1]? with
 | none=>simp
 | some l=>simp
def Rnd.start {cl:Nat->Prop}{links:List (List Lk)}{hs D:List Nat}(aa:∀l∈links,∀k∈l,k.2.2≠[])(hl:hs.length=links.length)(hh:∀i x,hs[i]?=some x->(x=1/\cl i)\/(x=0/\¬ cl i))(hn:∀i,i∈D↔hs[i]?=some 1)(hnd:D.Nodup):Rnd cl links 2 hs (wsOf links) D:=by
 refine⟨hl,λu x G=>?_,λu U=>?_,λi x G=>?_,hn,hnd⟩
 ·rw[Gn] at G;obtain⟨k,O,rfl⟩:=fb.1 G;unfold wt lkAt;rw[O];simp only[Option.elim_some];rw[List.filter_eq_self.2 λp _=>by simp[htG]]
 ·rw[Gn];unfold lkAt at U;cases O:((links[u.1]?).getD [])[u.2]? with
  | none=>rw[O] at U;exact absurd rfl U
  | some k=>exact⟨_,rfl⟩
 ·refine⟨λh0=>?_,λk O hg=>?_⟩
  ·rcases hh i x G with⟨rfl,hc⟩|⟨rfl,_⟩
   ·exact⟨.inl hc,by omega⟩
   ·omega
  ·obtain rfl|rfl:k=0\/k=1:=by omega
   ·exact hg.elim
   ·have hc:cl i:=by
     rcases hg with hc|⟨lk,A,hp⟩
     ·exact hc
     ·cases E:links[i]? with
      | none=>rw[E] at A;cases A
      | some l =>
       rw[E] at A;cases J:lk.2.2 with
       | nil=>exact absurd J (aa l (lMg E) lk A)
       | cons p ps=>exact (hp p (by rw[J];exact .head _)).elim
    rcases hh i x G with⟨rfl,_⟩|⟨rfl,hn⟩
    ·exact⟨by omega,by omega⟩
    ·exact absurd hc hn
def OZ {j r:Bool}{f:Fm}{t:Nat×List Sn}(h:t∈addF j f r):t.2≠[]:=by
 unfold addF at h;split at h
 case h_5=>split at h<;>simp at h<;>(try rcases h with rfl|rfl)<;>(try subst h)<;>simp
 all_goals (first|(simp at h;subst h;simp)|(simp at h))
def O0 {W:List Fm}{j:Bool}{ln:Ln}{v:Mv}(h:some v∈mvsN W j ln):v.2.2≠[]:=by
 obtain⟨p,_,h⟩:=f_.1 (Gj h);unfold lV at h;cases D:W[p.1]? with
 | none=>simp only[D] at h;cases h
 | some f =>
  simp only[D] at h;obtain⟨t,ht,rfl⟩:=dH.1 h;obtain⟨E,A,rfl⟩:=dH.1 ht;have:=OZ A;simpa[mvT] using this
def clL (W:List Fm)(lines:List Ln)(i:Nat):Prop:=∃ln,lines[i]?=some ln/\clN W ln
structure LksAll (ca:Nat)(W:List Fm)(lines:List Ln)(links:List (List Lk)):Prop where
 ok:∀ln∈lines,LnOk W ln
 done:∀(k:Nat) (l:List Lk),links[k]?=some l->∃ln,lines[k]?=some ln/\LkS W (calJ ca) lines ln l
 len:links.length=lines.length
def LksAll.lk {ca:Nat}{W:List Fm}{lines:List Ln}{links:List (List Lk)}(h:LksAll ca W lines links)(hS:SpOk ca W){l:List Lk}(hl:l∈links){k:Lk}(U:k∈l):k.2.2≠[]/\k.2.2.length<=2/\k.1<256/\k.2.1<W.length/\∀p∈k.2.2,p<links.length:=by
 obtain⟨i,hi,rfl⟩:=fL.1 hl;obtain⟨ln,O,⟨_,h0⟩|⟨_,vs,J,E⟩⟩:=h.done i _ (dO hi)
 ·rw[h0] at U;cases U
 ·obtain⟨q,hq,rfl⟩:=fL.1 U;obtain⟨v,hv⟩:=dB (show q<vs.length by rw[<- E.1];exact hq);obtain⟨k,G,D⟩:=E.2 q v hv;rw[dO hq] at G;cases G;have A:some v∈mvsN W (calJ ca) ln:=by rw[J];exact gh (lMg hv)
  have h2:=ve hS (h.ok ln (lMg O)) A;refine⟨λe=>O0 A (eG (by rw[<- D.2.2.1,e];rfl)),by rw[D.2.2.1];exact h2.2.2.1,by rw[D.1];exact h2.2.1,by rw[D.2.1];exact h2.1,λp hp=>?_⟩;obtain⟨e,he,rfl⟩:=fL.1 hp;obtain⟨p',hp1,_⟩:=D.2.2.2 e _ (dO he);rw[h.len];exact (lGs hp1).1
def LksAll.ht {ca:Nat}{W:List Fm}{lines:List Ln}{links:List (List Lk)}(h:LksAll ca W lines links)(hS:SpOk ca W):∀(n i:Nat) (ln:Ln),lines[i]?=some ln->(htG (clL W lines) links n i↔HtS (calJ ca) n (lnW W ln))
 | 0,_,_,_=>Iff.rfl
 | n+1,i,ln,A=>by
  have hi:=(lGs A).1;have D:=h.ok ln (lMg A);obtain⟨l,hl⟩:=dB (show i<links.length by rw[h.len];exact hi);have ag:clL W lines i↔ClF (lnW W ln).1 (lnW W ln).2:=by
   rw[<- nW hS.srt D];exact⟨λ⟨a,O,hc⟩=>by rw[A] at O;cases O;exact hc,λhc=>⟨ln,A,hc⟩⟩
  rw[zj];show (clL W lines i\/∃lk∈(links[i]?).getD [],∀p∈lk.2.2,htG (clL W lines) links n p)↔_;rw[ag,hl,eh];obtain⟨a,O,hs⟩:=h.done i l hl;rw[A] at O;cases O;rcases hs with⟨hc,_⟩|⟨hc,vs,ae,G⟩
  ·exact⟨λ_=>.inl ((nW hS.srt D).1 hc),λ_=>.inl ((nW hS.srt D).1 hc)⟩
  ·refine or_congr Iff.rfl ?_;rw[zN hS D ae];constructor
   ·rintro⟨lk,hm,hp⟩;obtain⟨q,U,rfl⟩:=fL.1 hm;obtain⟨v,hv⟩:=dB (show q<vs.length by rw[<- G.1];exact U);obtain⟨k,hk,ho⟩:=G.2 q v hv;rw[dO U] at hk;cases hk;refine⟨mvW W v,gh (lMg hv),λp E=>?_⟩;obtain⟨z,hz,rfl⟩:=dH.1 E;obtain⟨e,he,rfl⟩:=fL.1 hz;have J:e<(l[q]).2.2.length:=by rw[ho.2.2.1];exact he
    obtain⟨p',hp1,hp2⟩:=ho.2.2.2 e _ (dO J);rw[dO he] at hp2;cases hp2;exact (LksAll.ht h hS n _ _ hp1).1 (hp _ (List.getElem_mem J))
   ·rintro⟨m,hm,hp⟩;obtain⟨v,hv,rfl⟩:=dH.1 hm;obtain⟨q,U,rfl⟩:=fL.1 hv;obtain⟨k,hk,ho⟩:=G.2 q _ (dO U);refine⟨k,lMg hk,λp E=>?_⟩;obtain⟨e,he,rfl⟩:=fL.1 E;obtain⟨p',hp1,hp2⟩:=ho.2.2.2 e _ (dO he);exact (LksAll.ht h hS n _ _ hp1).2 (hp _ (gh (lMg hp2)))
def LksAll.hF {ca:Nat}{W:List Fm}{lines:List Ln}{links:List (List Lk)}(h:LksAll ca W lines links)(hS:SpOk ca W){i x:Nat}{ln:Ln}(A:lines[i]?=some ln)(D:LstG (clL W lines) links i x):Tryz.hF (calJ ca) (lnW W ln)=x :=
 zh (λh0=>(h.ht hS x i ln A).1 (D.1 h0)) λn E=>D.2 n ((h.ht hS n i ln A).2 E)
def ExS.all {ca:Nat}{W:List Fm}{s0:Sn}{lines:List Ln}{links:List (List Lk)}(h:ExS ca W s0 lines links)(hl:links.length=lines.length):LksAll ca W lines links:=⟨h.ok,h.done,hl⟩
end Go.Proofs.Tryz
namespace Go.Iv
open Go
def zR {esc:List Nat}{dst:Option Nat}{e:TypeId×Bool×Nat×Nat}{tg:Tag}{zs:List IV}{y:IV}{R:Rt}{st S0:ISt}{ds:List Dfd}{n s:Nat}(h:own st tg n s S0)(U:zs.length=n)(D:subSt S0 st)(he:e.2.2.1=s)
  (hf:fits e.2.1 e.2.2.1 y=true) (ac:(n+1)*e.2.2.2<=140737488355328) (O:n+1<=140737488355328)
  (k:∀J st',own st' J (n+1) s S0->subSt S0 st'->(∀b o,st b=some o->tg.cap≠.app b->st' b=some o)->(∀g,J.cap=.app g->tg.cap=.app g\/st g=none)->R (.val (.sl J (zs++[y]))) st' ds)
  (ab:gO esc dst=false:=by first|rfl|simp[gO]):appV esc dst e tg zs [y] R st ds:=by
 subst U he;unfold appV;refine⟨by simp[hf],⟨ac,O⟩,?_⟩;have E:∀g,st g=none->∀m,subSt S0 (st.put g (some (.front m e.2.2.1)))/\(∀b o,st b=some o->(st.put g (some (.front m e.2.2.1))) b=some o)/\S0 g=none:=λg A m=>by
  have h0:=j3 D A;refine⟨eA D h0,λb o G=>?_,h0⟩;rw[ISt.put_apply];grind
 rcases h with⟨h0,hc⟩|rfl|⟨g0,rfl,h1,h2⟩
 ·have hz:zs=[]:=eG h0;subst hz;rw[hc];simp only[ab,bFt,dI];intro g A;obtain⟨a1,a2,a3⟩:=E g A 1;exact k _ _ (.inr (.inr ⟨g,rfl,b_ _ _ _,a3⟩)) a1 (λb o G _=>a2 b o G) λg' h=>by cases h;exact .inr A
 ·refine⟨rfl,λg A=>?_⟩;obtain⟨a1,a2,a3⟩:=E g A (zs.length+1);exact k _ _ (.inr (.inr ⟨g,rfl,b_ _ _ _,a3⟩)) a1 (λb o G _=>a2 b o G) λg' h=>by cases h;exact .inr A
 ·refine⟨rfl,h1,λg A=>?_⟩;have aa:S0 g=none:=by
   rcases A with rfl|A
   ·exact h2
   ·exact j3 D A
  refine k _ _ (.inr (.inr ⟨g,rfl,b_ _ _ _,aa⟩)) (eA (eA D h2) aa) (λb o G hn=>?_) λg' h=>?_
  ·have ae:b≠g0:=λe=>hn (by rw[e]);have ag:b≠g:=by
    rintro rfl;rcases A with h|h
    ·exact ae h
    ·rw[h] at G;cases G
   rw[dw ag,dw ae];exact G
  ·cases h;rcases A with rfl|A
   ·exact .inl rfl
   ·exact .inr A
end Go.Iv
namespace Go.Proofs.Tryz
open Go Go.Iv
set_option maxRecDepth 4000
variable (gl:Nat->Option IV)
def i32I (l:List Nat):List IV:=l.map λn:Nat=>.raw (.int .i32 (n:Int))
def Gp {l:List Nat}{i n:Nat}(h:l[i]?=some n):(i32I l)[i]?=some (.raw (.int .i32 (n:Int))):=by simp[i32I,h]
def sj (l:List Nat):(i32I l).length=l.length:=by simp[i32I]
def to_c (k:Lk)(x:IV)(D:IsLk k x)(E:k.2.2.length<=2)(st:ISt):ICall prog gl 99 [x] st (λr st'=>(∃t,r=.sl t (i32I k.2.2)/\okEs t 1)/\st'=st):=by
 obtain⟨p,q,rfl,A⟩:=D;refine ICall.intro (c:=cf prog gl [] [] [1]) func99 rfl (by show _<=7;simp) (by kernel_rfl) ?_;simp only[go_sem,zE,zB,zA,zL,fits,yZ E];have e:i32I k.2.2=List.take k.2.2.length [.raw (.int .i32 (p:Int)),.raw (.int .i32 (q:Int))]:=by
  conv=>lhs;rw[A]
  simp[i32I,List.map_take]
 rw[<- e];exact c_ ⟨⟨_,rfl,.inr rfl⟩,rfl⟩
def u8J (l:List Nat):List IV:=l.map λn:Nat=>.raw (.int .u8 (n:Int))
def zT {l:List Nat}{i n:Nat}(h:l[i]?=some n):(u8J l)[i]?=some (.raw (.int .u8 (n:Int))):=by simp[u8J,h]
def vg (l:List Nat):(u8J l).length=l.length:=by simp[u8J]
def Gq (l:List Nat)(i n:Nat):(u8J l).set i (.raw (.int .u8 (n:Int)))=u8J (l.set i n):=by simp[u8J,iV]
def Gr (l:List Nat)(i n:Nat):(dM l).set i (n:Int)=dM (l.set i n):=by simp[dM,iV]
def oN {cs:List IV}{k:Nat}{y:IV}(h:k<cs.length):fB cs k [y]=cs.set k y:=by
 unfold fB;rw[List.set_eq_take_append_cons_drop,cV h];simp
abbrev slG (g n:Nat):IV:=.raw (.slice (some ⟨g,0,none⟩) n n)
def rwsI (gs:List Nat)(ws:List (List Nat)):List IV:=List.zipWith (λg w=>slG g w.length) gs ws
structure Mem (gW gH rb n:Nat)(pre:List IV)(gs:List Nat)(st:ISt)(hs:List Nat)(ws:List (List Nat)):Prop where
 rbx:st rb=some (.box (pre++[slG gH n]))
 hts:st gH=some (.box (dM hs))
 hl:hs.length=n
 wts:st gW=some (.box (rwsI gs ws++List.replicate (n-gs.length) (.sl ⟨true,.nil,0⟩ [])))
 gll:gs.length=ws.length
 row:∀(k g:Nat) (w:List Nat),gs[k]?=some g->ws[k]?=some w->st g=some (.box (u8J w))
 nd:(gW::gH::rb::gs).Nodup
 small:∀w∈ws,∀x∈w,x<256
def zU {gs:List Nat}{ws:List (List Nat)}{k g:Nat}{w:List Nat}(h1:gs[k]?=some g)(h2:ws[k]?=some w):(rwsI gs ws)[k]?=some (slG g w.length):=by
 unfold rwsI;rw[List.getElem?_zipWith,h1,h2]
end Go.Proofs.Tryz
namespace Go.Proofs.Tryz
open Go Go.Iv
def IsUs (u:Us)(y:IV):Prop:=y=.agg [.raw (.int .i32 (u.1:Int)),.raw (.int .i32 (u.2:Int))]
structure Usr (gU:Nat)(S0 st:ISt)(us:List (List Us)):Prop where
 ex:∃cells,st gU=some (.box cells)/\cells.length=us.length/\(∀(p:Nat) (l:List Us),us[p]?=some l->∃t ys,cells[p]?=some (.sl t ys)/\AllR IsUs l ys/\own st t l.length 2 S0) /\
  ∀(p q:Nat) (t t':Tag) (ys ys':List IV) (g:Nat),cells[p]?=some (.sl t ys)->cells[q]?=some (.sl t' ys')->t.cap=.app g->t'.cap=.app g->p=q
def qq {st:ISt}{A:Tag}{n s g:Nat}{S0:ISt}(h:own st A n s S0)(hc:A.cap=.app g):st g=some (.front n s):=by
 rcases h with⟨_,h⟩|rfl|⟨D,rfl,h,_⟩
 ·rw[h] at hc;cases hc
 ·cases hc
 ·cases hc;exact h
def nmem {x g:Nat}{l:List Nat}(h:x ∉ l)(A:g∈l):x≠g:=λe=>h (by rw[e];exact A)
structure PS (gU gW gH rb n:Nat)(pre:List IV)(S0:ISt)(gs:List Nat)(st:ISt)(hs:List Nat)(ws:List (List Nat))(us:List (List Us)):Prop where
 mem:Mem gW gH rb n pre gs st hs ws
 usr:Usr gU S0 st us
 base:subSt S0 st
 off:S0 gU=none/\S0 gW=none/\S0 gH=none/\S0 rb=none/\∀g∈gs,S0 g=none
 gu:gU ∉ gW::gH::rb::gs
 ul:us.length=n
section
variable {gU gW gH rb n:Nat}{pre:List IV}{S0:ISt}{gs:List Nat}{st:ISt}{hs:List Nat}{ws:List (List Nat)}{us:List (List Us)}
def Usr.keep {st':ISt}(h:Usr gU S0 st us)(h1:st' gU=st gU)(h2:∀g k,st g=some (.front k 2)->st' g=st g):Usr gU S0 st' us:=by
 obtain⟨cells,c1,c2,c3,c4⟩:=h.ex;refine⟨cells,h1.trans c1,c2,λp l hp=>?_,c4⟩;obtain⟨t,ys,G,E,D⟩:=c3 p l hp;exact⟨t,ys,G,E,D.mono λg A _=>(h2 g _ A).trans A⟩
def Mem.keep {st':ISt}(h:Mem gW gH rb n pre gs st hs ws)(A:∀b cs,st b=some (.box cs)->b∈gW::gH::rb::gs->st' b=some (.box cs)):Mem gW gH rb n pre gs st' hs ws :=
 ⟨A _ _ h.rbx (by simp),A _ _ h.hts (by simp),h.hl,A _ _ h.wts (by simp),h.gll,λk g w D E=>A _ _ (h.row k g w D E) (by simp[lMg D]),h.nd,h.small⟩
def Mem.ne (h:Mem gW gH rb n pre gs st hs ws):gW≠gH/\gW≠rb/\gW ∉ gs/\gH≠rb/\gH ∉ gs/\rb ∉ gs/\gs.Nodup:=by
 have:=h.nd;simp only[hY,dN,not_or] at this;obtain⟨⟨a,b,c⟩,⟨d,e⟩,f,g⟩:=this;exact⟨a,b,c,d,e,f,g⟩
def PS.une (h:PS gU gW gH rb n pre S0 gs st hs ws us):gU≠gW/\gU≠gH/\gU≠rb/\gU ∉ gs:=by
 have:=h.gu;simp only[dN,not_or] at this;exact this
def qt {st:ISt}{b:Nat}{cs:List IV}{o:Option IObj}(D:st b=some (.box cs)){g k s:Nat}(A:st g=some (.front k s)):(st.put b o) g=st g:=by
 rw[dw];rintro rfl;rw[D] at A;cases A
def PS.setH (h:PS gU gW gH rb n pre S0 gs st hs ws us)(i v:Nat):PS gU gW gH rb n pre S0 gs (st.put gH (some (.box (dM (hs.set i v))))) (hs.set i v) ws us:=by
 obtain⟨a,b,c,d,e,f,g⟩:=h.mem.ne;obtain⟨U,E,O,J⟩:=h.une;refine⟨⟨by rw[dw d.symm];exact h.mem.rbx,b_ ..,by rw[List.length_set];exact h.mem.hl,by rw[dw a];exact h.mem.wts,h.mem.gll,λk D w A G=>?_,h.mem.nd,h.mem.small⟩,
  h.usr.keep (dw E) λD k A=>qt h.mem.hts A,eA h.base h.off.2.2.1,h.off,h.gu,h.ul⟩
 rw[dw (nmem e (lMg A)).symm];exact h.mem.row k D w A G
def PS.row (h:PS gU gW gH rb n pre S0 gs st hs ws us){g:Nat}(G:st g=none){w:List Nat}(hw:∀x∈w,x<256)(hl:gs.length<n) :
  PS gU gW gH rb n pre S0 (gs++[g]) ((st.put g (some (.box (u8J w)))).put gW (some (.box ((rwsI gs ws++List.replicate (n-gs.length) (IV.sl ⟨true,.nil,0⟩ [])).set gs.length (slG g w.length))))) hs (ws++[w]) us:=by
 obtain⟨a,b,c,d,e,f,nd⟩:=h.mem.ne;obtain⟨u1,u2,u3,u4⟩:=h.une;have E:∀b cs,st b=some (.box cs)->g≠b:=λb cs hb e=>by rw[e] at G;rw[G] at hb;cases hb
 have O:=E _ _ h.mem.wts;have ab:=E _ _ h.mem.hts;have aa:=E _ _ h.mem.rbx;obtain⟨cells,uc,_⟩:=h.usr.ex;have U:=E _ _ uc;have J:g ∉ gs:=λhm=>by
  obtain⟨k,hk,rfl⟩:=fL.1 hm;obtain⟨w',D⟩:=dB (l:=ws) (k:=k) (by rw[<- h.mem.gll];exact hk);exact E _ _ (h.mem.row k _ w' (dO hk) D) rfl
 have af:(rwsI gs ws).length=gs.length:=by unfold rwsI;rw[List.length_zipWith,h.mem.gll,Nat.min_self]
 refine⟨⟨by rw[dw b.symm,dw aa.symm];exact h.mem.rbx,by rw[dw a.symm,dw ab.symm];exact h.mem.hts,h.mem.hl,?_,by simp[h.mem.gll],λk g' w' A D=>?_,?_,λw' D=>?_⟩,
  h.usr.keep (by rw[dw u1,dw U.symm]) (λg' k A=>by rw[dw (λe=>by rw[e,h.mem.wts] at A;cases A),dw (λe=>by rw[e,G] at A;cases A)]),eA (eA h.base (j3 h.base G)) h.off.2.1,?_,?_,h.ul⟩
 ·rw[b_];congr 2;have hr:rwsI (gs++[g]) (ws++[w])=rwsI gs ws++[slG g w.length]:=by
   unfold rwsI;rw[List.zipWith_append h.mem.gll];rfl
  rw[hr,lLa,jC,List.set_append_right _ _ (by omega),af,fS];obtain⟨m,hm⟩:∃m,n-gs.length=m+1:=⟨n-gs.length-1,by omega⟩
  rw[hm,show n-(gs.length+1)=m by omega,List.replicate_succ,List.set_cons_zero,en];rfl
 ·rcases fQ k gs.length with hk|hk
  ·rw[fw hk] at A;rw[fw (by rw[<- h.mem.gll];exact hk)] at D;have hm:=lMg A;rw[dw (nmem c hm).symm,dw (nmem J hm).symm];exact h.mem.row k g' w' A D
  ·have ag:k=gs.length:=by
    have:=(lGs A).1;rw[lLa,jC] at this;omega
   subst ag;rw[fD (dJ _),fS] at A;rw[h.mem.gll,fD (dJ _),fS] at D;cases A;cases D;rw[dw O,b_]
 ·simp only[hY,dN,dR,ga,fe,not_or];exact⟨⟨a,b,c,O.symm⟩,⟨d,e,ab.symm⟩,⟨f,aa.symm⟩,lr.2 ⟨nd,by simp,λx ae y hy=>by rw[dZ.1 hy];rintro rfl;exact J ae⟩⟩
 ·rcases dR.1 D with hm|hm
  ·exact h.mem.small w' hm
  ·rw[dZ.1 hm];exact hw
 ·refine⟨h.off.1,h.off.2.1,h.off.2.2.1,h.off.2.2.2.1,λg' A=>?_⟩;rcases dR.1 A with hm|hm
  ·exact h.off.2.2.2.2 g' hm
  ·rw[dZ.1 hm];exact j3 h.base G
 ·simp only[dN,dR,ga,fe,not_or];exact⟨u1,u2,u3,u4,U.symm⟩
def PS.setW (h:PS gU gW gH rb n pre S0 gs st hs ws us){i g:Nat}{w:List Nat}(O:gs[i]?=some g)(E:ws[i]?=some w)(j:Nat){v:Nat}(hv:v<256) :
  PS gU gW gH rb n pre S0 gs (st.put g (some (.box (u8J (w.set j v))))) hs (ws.set i (w.set j v)) us:=by
 obtain⟨a,b,c,d,e,f,nd⟩:=h.mem.ne;obtain⟨u1,u2,u3,u4⟩:=h.une;have J:=lMg O;have G:rwsI gs (ws.set i (w.set j v))=rwsI gs ws:=by
  unfold rwsI;refine ke λk=>?_;rw[List.getElem?_zipWith,List.getElem?_zipWith,gx];by_cases e:i=k
  ·subst e;rw[cV rfl,cV (lGs E).1,E,O];simp
  ·rw[a_ e]
 refine⟨⟨by rw[dw (nmem f J)];exact h.mem.rbx,by rw[dw (nmem e J)];exact h.mem.hts,h.mem.hl,by rw[G,dw (nmem c J)];exact h.mem.wts,by rw[List.length_set];exact h.mem.gll,λk g' w' D A=>?_,h.mem.nd,λw' A x U=>?_⟩,
  h.usr.keep (dw (nmem u4 J)) (λg' k D=>qt (h.mem.row i g w O E) D),eA h.base (h.off.2.2.2.2 g J),h.off,h.gu,h.ul⟩
 ·rw[gx] at A;split at A
  ·rename_i e;subst e;rw[cV (lGs E).1] at A;cases A;rw[O] at D;cases D;exact b_ ..
  ·rename_i e;have aa:g'≠g:=λeg=>by
    subst eg;obtain⟨h1,h2⟩:=lGs O;obtain⟨h3,h4⟩:=lGs D;exact e ((List.getElem_inj nd).1 (h2.trans h4.symm))
   rw[dw aa];exact h.mem.row k g' w' D A
 ·rcases List.mem_or_eq_of_mem_set A with A|rfl
  ·exact h.mem.small w' A x U
  ·rcases List.mem_or_eq_of_mem_set U with U|rfl
   ·exact h.mem.small w (lMg E) x U
   ·exact hv
def PS.addU (h:PS gU gW gH rb n pre S0 gs st hs ws us){p:Nat}{l:List Us}{u:Us}{y:IV}(hy:IsUs u y)(hp:us[p]?=some l){cells ys:List IV}{t A:Tag}{st':ISt}(hc:st gU=some (.box cells))(ht:cells[p]?=some (.sl t ys))(ac:own st' A (l.length+1) 2 S0)(ab:subSt S0 st')
  (G:∀b o,st b=some o->t.cap≠.app b->st' b=some o) (ae:∀g,A.cap=.app g->t.cap=.app g\/st g=none) :
  PS gU gW gH rb n pre S0 gs (st'.put gU (some (.box (cells.set p (.sl A (ys++[y])))))) hs ws (us.set p (l++[u])):=by
 obtain⟨ai,c1,c2,c3,c4⟩:=h.usr.ex;rw[hc] at c1;cases c1;obtain⟨t0,aA,k1,k2,k3⟩:=c3 p l hp;rw[ht] at k1;cases k1;have J:∀b cs,st b=some (.box cs)->st' b=some (.box cs):=λb cs hb=>G b _ hb λe=>by
  rw[qq k3 e] at hb;cases hb
 have aa:p<cells.length:=(lGs ht).1;have aj:=J _ _ hc;refine⟨h.mem.keep λb cs hb hm=>by rw[dw (nmem h.gu hm).symm];exact J b cs hb,⟨_,b_ ..,by rw[List.length_set,List.length_set];exact c2,λq l' D=>?_,λq q' t1 t2 y1 E g h1 h2 h3 h4=>?_⟩,eA ab h.off.1,h.off,h.gu,by rw[List.length_set];exact h.ul⟩
 ·have O:∀ {t2:Tag} {m:Nat},own st' t2 m 2 S0->own (st'.put gU (some (.box (cells.set p (.sl A (ys++[y])))))) t2 m 2 S0:=λho=>ho.mono λg hg _=>by
   rw[dw λe=>by rw[e,aj] at hg;cases hg];exact hg
  rw[gx] at D ⊢;split at D
  ·rename_i e;subst e;rw[cV (lGs hp).1] at D;cases D;exact⟨A,_,by rw[cV aa,cV rfl],k2.snoc hy,by rw[lLa];exact O ac⟩
  ·rename_i e;rw[a_ e];obtain⟨t2,E,g1,g2,g3⟩:=c3 q l' D;refine⟨t2,E,g1,g2,O ?_⟩;rcases g3 with hz|rfl|⟨g',rfl,an,am⟩
   ·exact .inl hz
   ·exact .inr (.inl rfl)
   ·exact .inr (.inr ⟨g',rfl,G g' _ an λU=>e (c4 p q t _ ys _ g' ht g1 U rfl),am⟩)
 ·have key:∀(q:Nat) (t2:Tag) (E:List IV) (g:Nat),q≠p->cells[q]?=some (.sl t2 E)->t2.cap=.app g->A.cap=.app g->False:=λq t2 E g ak D ag av=>by
   rcases ae g av with h0|h0
   ·exact ak (c4 q p t2 t E ys g D ht ag h0)
   ·obtain⟨lq,al⟩:=dB (l:=us) (k:=q) (by rw[<- c2];exact (lGs D).1);obtain⟨t3,y3,g1,_,g3⟩:=c3 q lq al;rw[D] at g1;cases g1;rw[qq g3 ag] at h0;cases h0
  rw[gx] at h1 h2;by_cases e1:p=q
  ·by_cases U:p=q'
   ·exact e1.symm.trans U
   ·subst e1;rw[cV rfl,cV aa] at h1;rw[a_ U] at h2;cases h1;exact (key q' t2 E g (λe=>U e.symm) h2 h4 h3).elim
  ·rw[a_ e1] at h1;by_cases U:p=q'
   ·subst U;rw[cV rfl,cV aa] at h2;cases h2;exact (key q t1 y1 g (λe=>e1 e.symm) h1 h3 h4).elim
   ·rw[a_ U] at h2;exact c4 q q' t1 t2 y1 E g h1 h2 h3 h4
def PS.far (h:PS gU gW gH rb n pre S0 gs st hs ws us){O:Tag}{m:Nat}{st':ISt}(U:own st O m 1 S0)(E:subSt S0 st')(A:∀b o,st b=some o->O.cap≠.app b->st' b=some o):PS gU gW gH rb n pre S0 gs st' hs ws us:=by
 have D:∀b cs,st b=some (.box cs)->st' b=some (.box cs):=λb cs G=>A b _ G λe=>by
  rw[qq U e] at G;cases G
 obtain⟨cells,c1,_⟩:=h.usr.ex;exact⟨h.mem.keep λb cs G _=>D b cs G,h.usr.keep ((D _ _ c1).trans c1.symm) λg k J=>(A g _ J λe=>by rw[qq U e] at J;cases J).trans J.symm,E,h.off,h.gu,h.ul⟩
end
end Go.Proofs.Tryz
namespace Go.Proofs.Tryz
open Go Go.Iv
set_option maxRecDepth 4000
variable (gl:Nat->Option IV)
def Gs {ws:List (List Nat)}{u:Us}{w:List Nat}{x:Nat}(E:ws[u.1]?=some w)(D:w[u.2]?=some x):decW ws u=ws.set u.1 (w.set u.2 ((x+255)%256)):=by
 unfold decW;have A:∀ {α:Type} (l:List α) (i:Nat) (f:α->α) (a:α),l[i]?=some a->l.modify i f=l.set i (f a):=λl i f a h=>by
  refine ke λk=>?_;rw[List.getElem?_modify,gx];by_cases e:i=k
  ·subst e;simp only[dD,cV (lGs h).1,h];rfl
  ·simp[e]
 rw[A _ _ _ _ E,A _ _ _ _ D]
def O1 {x:Nat}(h:x<256):IntKind.u8.wrap ((x:Int)-1)=(((x+255)%256:Nat):Int):=by
 have:∀y:Fin 256,IntKind.u8.wrap ((y.val:Int)-1)=(((y.val+255)%256:Nat):Int):=by decide
 exact this ⟨x,h⟩
def O2 (gU gW gH rb n:Nat)(p1 p2 p3 p4:IV)(S0:ISt)(gs hs:List Nat)(ws:List (List Nat))(us:List (List Us))(u:Us)(st:ISt)(hP:PS gU gW gH rb n [p1,p2,p3,p4] S0 gs st hs ws us)(w:List Nat)(U:ws[u.1]?=some w)(x:Nat)(hx:w[u.2]?=some x)(h:Nat)(hh:hs[u.1]?=some h) :
  ICall prog gl 100 [.agg [.raw (.int .i32 (u.1:Int)),.raw (.int .i32 (u.2:Int))],.cptr (slG gW n),.cptr (ptr rb)] st
   (λr st'=>r=(decide ((x+255)%256=0/\h=0):Bool)/\PS gU gW gH rb n [p1,p2,p3,p4] S0 gs st' hs (decW ws u) us/\∀g k s,st g=some (.front k s)->st' g=some (.front k s)):=by
 have hM:=hP.mem;obtain⟨g,hg⟩:=dB (l:=gs) (k:=u.1) (by rw[hM.gll];exact (lGs U).1);have aa:=hM.row _ _ _ hg U;have ac:=(lGs hx).1;have al:x<256:=hM.small w (lMg U) x (lMg hx);have hn:u.1<n:=by rw[<- hM.hl];exact (lGs hh).1
 have af:g∈gs:=lMg hg;obtain⟨d1,d2,d3,d4,d5,d6,d7⟩:=hM.ne;have eW:gW≠g:=λe=>d3 (e▸af);have eH:gH≠g:=λe=>d5 (e▸af);have eR:rb≠g:=λe=>d6 (e▸af);have am:(rwsI gs ws++List.replicate (n-gs.length) (IV.sl ⟨true,.nil,0⟩ []))[u.1]?=some (slG g w.length):=by
  have:=zU hg U;rw[fw (lGs this).1];exact this
 refine ICall.intro (c:=cf prog gl [9,13,20,24,30,34] []) func100 rfl (by show _<=37;simp) (by kernel_rfl) ?_;simp only[go_sem,zE,fits,mZ,IV.one,fR,ee,iNn,hn,hM.wts,am,aa,ac,zT hx,O1 al];have aj:List.take u.2 (u8J w)++[.raw (.int .u8 (((x+255)%256:Nat):Int))]++List.drop (u.2+1) (u8J w)=u8J (w.set u.2 ((x+255)%256)):=by
  rw[<- Gq,<- oN (by rw[vg];exact ac)];rfl
 rw[cV (by rw[vg];omega),aj];have E:=hP.setW hg U u.2 (v:=(x+255)%256) (Nat.mod_lt _ (by decide));rw[<- Gs U hx] at E;have ae:(decW ws u)[u.1]?=some (w.set u.2 ((x+255)%256)):=by rw[Gs U hx,gx,cV rfl,cV (lGs U).1]
 have A:(w.set u.2 ((x+255)%256))[u.2]?=some ((x+255)%256):=by rw[gx,cV rfl,cV ac]
 have ag:∀g' k s,st g'=some (.front k s)->(st.put g (some (.box (u8J (w.set u.2 ((x+255)%256)))))) g'=some (.front k s):=λg' k s ak=>(qt aa ak).trans ak;generalize st.put g (some (.box (u8J (w.set u.2 ((x+255)%256)))))=ax at E ag ⊢;generalize w.set u.2 ((x+255)%256)=w2 at ae A;generalize (x+255)%256=v at A ⊢;have G:=E.mem;have D:=G.row _ _ _ hg ae;have J:=(lGs A).1;have O:(rwsI gs (decW ws u)++List.replicate (n-gs.length) (IV.sl ⟨true,.nil,0⟩ []))[u.1]?=some (slG g w2.length):=by
  have:=zU hg ae;rw[fw (lGs this).1];exact this
 have ab:=G.rbx;simp only[ed,eY] at ab;by_cases hv:v=0
 ·subst hv;simp only[go_sem,zE,zA,fits,mZ,IV.one,fR,ee,iNn,hn,G.wts,O,D,J,zT A,ab,G.hts,kL hh,show decide (((0:Nat):Int)=0)=true from rfl];exact c_ ⟨by rw[show decide ((h:Int)=0)=decide (h=0) by rw[eX];omega],E,ag⟩
 ·have an:decide ((v:Int)=0)=false:=dEf (by omega);simp only[go_sem,zE,ee,G.wts,O,D,J,zT A,an];exact c_ ⟨by rw[show decide (v=0/\h=0)=false from dEf λe=>hv e.1],E,ag⟩
def nY {S:ISt}{b:Nat}{x y:Option IObj}(h:S b=none):((S.put b x).put b y).put b none=S:=by
 funext c;simp only[ISt.put_apply];split
 ·rename_i e;rw[e,h]
 ·rfl
def PS.start {gU gW gH rb n:Nat}{p1 p2 p3 p4:IV}{S0 st:ISt}(ai:st gH=none)(ae:rb≠gH)(D:S0 rb=none)(ab:rb≠gU)(ac:gU≠gH)(ah:st gU=none)(O:gW≠gU)(U:rb≠gW)(aa:gW≠gH)(ag:st gW=none)(A:subSt S0 st) :
  PS gU gW gH rb n [p1,p2,p3,p4] S0 [] ((((st.put gH (some (.box (List.replicate n (0:Int))))).put rb (some (.box [p1,p2,p3,p4,slG gH n]))).put gU (some (.box (List.replicate n ())))).put gW (some (.box (List.replicate n ()))))
   (List.replicate n 0) [] (List.replicate n []):=by
 have J:=j3 A ai;have G:=j3 A ah;have E:=j3 A ag;refine⟨⟨by rw[dw U,dw ab,b_];rfl,by rw[dw aa.symm,dw ac.symm,dw ae.symm,b_];simp[dM],gK,by rw[b_];simp[rwsI],rfl,λk g w h=>by simp at h,?_,λw h=>by cases h⟩,
  ⟨_,by rw[dw O.symm,b_],by simp,λp l hp=>?_,λp q t t' ys aj g h1 _ h3=>?_⟩,eA (eA (eA (eA A J) D) G) E,⟨G,E,J,D,λg h=>by cases h⟩,?_,gK⟩
 ·simp only[hY,dN,ga,fe,not_or,nFt,jF,and_true];exact⟨⟨aa,U.symm⟩,ae.symm⟩
 ·rw[lj] at hp ⊢;split at hp
  ·rename_i af;cases hp;rw[cV af];exact⟨_,_,rfl,AllR.nil,own.nil ..⟩
  ·cases hp
 ·rw[lj] at h1;split at h1
  ·cases h1;cases h3
  ·cases h1
 ·simp only[dN,ga,fe,not_or];exact⟨O.symm,ac,ab.symm⟩
def HtOk (cl:Nat->Prop)(i:Nat)(hs:List Nat):Prop:=∀(k x:Nat),hs[k]?=some x->(k<i->(x=1/\cl k)\/(x=0/\¬ cl k))/\(i<=k->x=0)
def O3 (cl:Nat->Prop)(n:Nat):HtOk cl 0 (List.replicate n 0):=λk x A=>by
 rw[lj] at A;split at A
 ·cases A;exact⟨λh=>absurd h (Nat.not_lt_zero _),λ_=>rfl⟩
 ·cases A
def NwOk (hs A:List Nat):Prop:=(∀k,k∈A↔hs[k]?=some 1)/\A.Nodup
def HtOk.one {cl:Nat->Prop}{i:Nat}{hs:List Nat}(h:HtOk cl i hs)(hc:cl i):HtOk cl (i+1) (hs.set i 1):=λk x A=>by
 rw[gx] at A;split at A
 ·rename_i e;subst e;split at A
  ·cases A;exact⟨λ_=>.inl ⟨rfl,hc⟩,λh=>by omega⟩
  ·cases A
 ·rename_i e;obtain⟨h1,h2⟩:=h k x A;exact⟨λD=>h1 (by omega),λE=>h2 (by omega)⟩
def HtOk.zero {cl:Nat->Prop}{i:Nat}{hs:List Nat}(h:HtOk cl i hs)(hc:¬ cl i):HtOk cl (i+1) hs:=λk x D=>by
 obtain⟨h1,h2⟩:=h k x D;refine⟨λA=>?_,λE=>h2 (by omega)⟩;by_cases e:k=i
 ·subst e;exact .inr ⟨h2 (dJ _),hc⟩
 ·exact h1 (by omega)
def NwOk.add {hs A:List Nat}{i:Nat}(h:NwOk hs A)(E:hs[i]?=some 0):NwOk (hs.set i 1) (A++[i]):=by
 have D:i ∉ A:=λG=>by have:=(h.1 i).1 G;rw[E] at this;cases this
 refine⟨λk=>?_,lr.2 ⟨h.2,by simp,λa O b J=>by rw[dZ.1 J];rintro rfl;exact D O⟩⟩;rw[dR,dZ,gx];by_cases e:i=k
 ·subst e;rw[cV rfl,cV (lGs E).1];simp
 ·rw[a_ e,h.1 k];exact⟨λh=>h.resolve_right λh=>e h.symm,.inl⟩
def NwOk.len {hs A:List Nat}(h:NwOk hs A):A.length<=hs.length:=by
 have:=uR (b:=List.range hs.length) h.2 λx D=>jE.2 (lGs ((h.1 x).1 D)).1
 rwa [List.length_range] at this
def Gu {p:Nat}:∀(l:List Us) (E:List (Nat×Us)),(∀u,l.count u<=E.count (p,u))->l.length<=E.length
 | [],_,_=>fq _
 | a::l,E,h=>by
  have G:=h a;rw[List.count_cons_self] at G;have D:(p,a)∈E:=lg.1 (by omega);have:=Gu (p:=p) l (E.erase (p,a)) λu=>by
   have A:=h u;rw[List.count_erase];by_cases e:a=u
   ·subst e;rw[List.count_cons_self] at A;rw[cV (by simp)];omega
   ·rw[List.count_cons_of_ne e] at A;rw[a_ (by simp[e])];omega
  rw[List.length_erase_of_mem D] at this;have:=List.length_pos_of_mem D;rw[dV];omega
def UsOk.len {us:List (List Us)}{E:List (Nat×Us)}(h:UsOk us E){p:Nat}{l:List Us}(hp:us[p]?=some l):l.length<=E.length :=
 Gu (p:=p) l E λu=>by rw[<- h p u];unfold usAt;rw[hp];exact dJ _
def zV {α β:Type}{F:α->List β}{c:Nat}:∀ {l:List α},(∀x∈l,(F x).length<=c)->(l.flatMap F).length<=c*l.length
 | [],_=>by simp
 | a::l,h=>by
  have h1:=h a (.head _);have h2:=zV (l:=l) λx A=>h x (.tail _ A);rw[eC,lLa,dV,Nat.mul_add,fR];omega
def Gv {i:Nat}{l:List Lk}(h:∀k∈l,k.2.2.length<=2):(evL i l).length<=2*l.length:=by
 have:=zV (F:=λA:Lk×Nat=>evK (i,A.2) A.1.2.2) (c:=2) (l:=l.zipIdx) λx D=>by
  unfold evK;rw[dY];exact h _ (List.fst_mem_of_mem_zipIdx D)
 rwa [List.length_zipIdx] at this
def Gw {links:List (List Lk)}(h:∀l∈links,l.length<=16000000/\∀k∈l,k.2.2.length<=2):(evA links).length<=32000000*links.length:=by
 have:=zV (F:=λA:List Lk×Nat=>evL A.2 A.1) (c:=32000000) (l:=links.zipIdx) λx D=>by
  obtain⟨h1,h2⟩:=h _ (List.fst_mem_of_mem_zipIdx D);have:=Gv (i:=x.2) h2;omega
 rwa [List.length_zipIdx] at this
def RdS (links:List (List Lk))(hs:List Nat)(S:Ss):Prop:=S.1.count 0+S.2.2.length=hs.count 0/\∀u,lkAt links u≠[]->∃x,atW S.2.1 u=some x
def RdS.step {links:List (List Lk)}{hs:List Nat}{S:Ss}(h:RdS links hs S){H:Nat}(E:0<H)(u:Us):RdS links hs (gq H S u):=by
 have D:(gq H S u).2.1=decW S.2.1 u:=by unfold gq;split<;>rfl
 refine⟨?_,λv hv=>?_⟩
 ·unfold gq;split
  ·rename_i hc;obtain⟨h1,h2⟩:=lGs hc.2;have:=List.count_set (a:=H) (b:=0) h1;have hp:0<S.1.count 0:=lg.2 (by rw[<- h2];exact List.getElem_mem h1);have G:=h.1;simp only[lLa,jC];rw[this,h2,cV (by simp),a_ (by simp;omega)];omega
  ·exact h.1
 ·obtain⟨x,A⟩:=h.2 v hv;rw[D,qn];split
  ·exact⟨_,by rw[A];rfl⟩
  ·exact⟨x,A⟩
def rowJ (l:List Lk)(j:Nat):List Nat:=(l.take j).map (λk=>k.2.2.length)++List.replicate (l.length-j) 0
def O4 (l:List Lk):rowJ l 0=List.replicate l.length 0:=by simp[rowJ]
def O5 (l:List Lk){j:Nat}(h:j<=l.length):(rowJ l j).length=l.length:=by
 unfold rowJ;rw[lLa,dY,dQ,gK];omega
def O6 (l:List Lk):rowJ l l.length=l.map λk=>k.2.2.length:=by simp[rowJ]
def Gx {l:List Lk}{j:Nat}{k:Lk}(h:l[j]?=some k):(rowJ l j).set j k.2.2.length=rowJ l (j+1):=by
 have D:=(lGs h).1;unfold rowJ;rw[dE h,eJ];have h1:((l.take j).map λk:Lk=>k.2.2.length).length=j:=by rw[dY,dQ];omega
 rw[List.set_append_right _ _ (by omega),h1,fS];obtain⟨m,A⟩:∃m,l.length-j=m+1:=⟨l.length-j-1,by omega⟩
 rw[A,show l.length-(j+1)=m by omega,List.replicate_succ,List.set_cons_zero,en];rfl
def O7 (ca m:Nat)(W:List Fm)(hS:SpOk ca W)(tw:Tag)(xw:List IV)(cE:okEs tw 4)(cu:IsFms W xw)(cS:W.length<=200000)(lines:List Ln)(links:List (List Lk))(hA:LksAll ca W lines links)(cZ:lines.length<=20000)
  (tl tk:Tag) (xl xk:List IV) (mN rb:Nat) (bB:AllR IsLn lines xl) (bD:AllR vd links xk) (htl:okEs tl 2) (cH:okEs tk 1) (S0 st:ISt)
  (aS:st rb=some (.box [spI ca tw xw m,.sl tl xl,.raw (.map (some mN)),.sl tk xk,()])) (h0:S0 rb=none) (bJ:subSt S0 st) :
  ICall prog gl 75 [ptr rb] st (λr st'=>r=.tup []/\∃gH hs,st' rb=some (.box [spI ca tw xw m,.sl tl xl,.raw (.map (some mN)),.sl tk xk,slG gH lines.length])/\st' gH=some (.box (dM hs)) /\
   hs.length=lines.length/\(∀i x,hs[i]?=some x->LstG (clL W lines) links i x)/\subSt S0 st'):=by
 have bA:=bB.1;have aU:=bD.1;have hll:=hA.len;refine j_ (t:=3) (n:=4) (c:=cf prog gl [25,3,56,60,96,152,3000027,3000035,3000041,3000084] [(8,[0,1,2,4,5,6,8,16,3,7,9,10,11,12,13,14,15,17,18,19])] [1]) func75 rfl (by show _<=165;simp) (by show _<165;simp) (by kernel_rfl) ?_;simp only[go_sem,zE,zA,zL,fits,aS];refine fJ ⟨by omega,by omega,by omega⟩ λgH=>d_ λbX=>fJ rfl ?_;have cb:rb≠gH:=λe=>by rw[e,bX] at aS;cases aS
 rw[dw cb,aS];simp only[go_sem,zA,zL];intro _;refine fJ ⟨by omega,by omega,by omega⟩ λgU=>d_ λan=>?_;have bp:rb≠gU:=λe=>by rw[<- e,b_] at an;cases an
 rw[dw bp.symm] at an;have b9:gU≠gH:=λe=>by rw[e,b_] at an;cases an
 rw[dw b9] at an;rw[dw bp];simp only[go_sem,b_];intro _;refine fJ ⟨by omega,by omega,by omega⟩ λgW=>d_ λaa=>?_;have b6:gW≠gU:=λe=>by rw[e,b_] at aa;cases aa
 rw[dw b6] at aa;have b7:rb≠gW:=λe=>by rw[<- e,b_] at aa;cases aa
 rw[dw b7.symm] at aa;have b8:gW≠gH:=λe=>by rw[e,b_] at aa;cases aa
 rw[dw b8] at aa;refine λb3=>d_ λcQ=>fJ rfl ?_;refine⟨b3,slG gW xl.length,by simp only[go_sem],b_ ..,?_⟩;rw[nY cQ,show age (slG gW xl.length)=slG gW xl.length by simp only[age]];rw[bA];have bo:=PS.start (n:=lines.length) (p1:=spI ca tw xw m) (p2:=.sl tl xl) (p3:=.raw (.map (some mN))) (p4:=.sl tk xk) bX cb h0 bp b9 an b6 b7 b8 aa bJ;generalize ((((st.put gH (some (.box (List.replicate lines.length (0:Int))))).put rb (some (.box [spI ca tw xw m,.sl tl xl,.raw (.map (some mN)),.sl tk xk,slG gH lines.length]))).put gU (some (.box (List.replicate lines.length ())))).put gW (some (.box (List.replicate lines.length ()))))=c7 at bo ⊢;have aY:=bo.mem.rbx;simp only[ed,eY] at aY;have aq:∀l∈links,l.length<=16000000:=λl cJ=>by
  obtain⟨i,hi,rfl⟩:=fL.1 cJ;obtain⟨ln,ax,hs⟩:=hA.done i _ (dO hi);rcases hs with⟨_,h0⟩|⟨_,vs,cB,bh⟩
  ·rw[h0];exact fq _
  ·have:=zH hS cS (hA.ok ln (lMg ax));rw[cB,dY] at this;rw[bh.1];exact this
 simp only[go_sem,zE,fits,aY];intro _;refine dj xk.length (λi fr st' ds=>(∃gs hs us O A,PS gU gW gH rb lines.length [spI ca tw xw m,.sl tl xl,.raw (.map (some mN)),.sl tk xk] S0 gs st' hs (wsOf (links.take i)) us/\UsOk us (evA (links.take i))/\own st' O A.length 1 S0/\fr 4=.iv (.sl O (i32I A))/\HtOk (clL W lines) i hs/\NwOk hs A) /\
  fr 1=.iv (.cptr (ptr rb))/\fr 2=(slG gU lines.length)/\fr 3=.iv (.cptr (slG gW lines.length))/\fr 45=.iv (.sl tk xk)/\fr 46=xk.length/\fr 47=(i:Int)/\ds=[]) ?_ ?_ ?_
 ·simp only[go_sem,zE];exact⟨⟨[],_,_,⟨true,.nil,0⟩,[],bo,UsOk.nil _,own.nil ..,rfl,O3 _ _,⟨λk=>by rw[lj];split<;>simp,jF⟩⟩,rfl⟩
 ·rintro i fr aO _ bP ⟨⟨gs,hs,us,O,A,E,hU,D,f4,hH,hN⟩,f1,f2,f3,f45,f46,f47,rfl⟩;have cM:i<links.length:=by omega
  obtain⟨l,hl⟩:=dB cM;obtain⟨ln,ax⟩:=dB (show i<lines.length by omega);have aZ:=hA.ok ln (lMg ax);obtain⟨_,cv,tL,yL,rfl,cI,bx⟩:=bD.2 i l hl;obtain⟨z,cq,hz⟩:=bB.2 i ln ax;have cR:=λst=>zG gl ca m W hS tw xw cE cu ln aZ z hz st;obtain⟨ta,tb,rfl,ea,eb⟩:=hz;have aE:=E.mem.rbx;simp only[ed,eY] at aE;simp only[go_sem,zE,zB,zA,f1,f45,f46,f47,lt_i bP,dz cH,dz htl,iNn,cv,cq,aE,fits,IV.one];refine (cR _).mono ?_;rintro _ aO ⟨⟨zf,rfl,cr⟩,rfl⟩;obtain⟨y1,y2,y3,y4,y5,y6,rfl⟩:=cr.agg;have cO:=zF (W:=W) aZ.1;have a1:clL W lines i↔(axW W ln).isSome=true:=by
   rw[cO];exact⟨λ⟨a,ha,hc⟩=>by rw[ax] at ha;cases ha;exact hc,λhc=>⟨ln,ax,hc⟩⟩
  simp only[go_sem,zE,zA,zL];refine zD (λfr st' ds=>(∃hs us O A,PS gU gW gH rb lines.length [spI ca tw xw m,.sl tl xl,.raw (.map (some mN)),.sl tk xk] S0 gs st' hs (wsOf (links.take i)) us/\UsOk us (evA (links.take i))/\own st' O A.length 1 S0/\fr 4=.iv (.sl O (i32I A))/\HtOk (clL W lines) (i+1) hs/\NwOk hs A) /\
   fr 1=.iv (.cptr (ptr rb))/\fr 2=(slG gU lines.length)/\fr 3=.iv (.cptr (slG gW lines.length))/\fr 5=(i:Int)/\fr 6=.iv (.sl tL yL)/\fr 45=.iv (.sl tk xk)/\fr 46=xk.length/\fr 47=(i:Int)/\ds=[]) ?_ (λaQ=>?_) (λaQ=>?_)
  ·rintro fr bb _ ⟨⟨hs,us,O,A,E,hU,D,f4,hH,hN⟩,f1,f2,f3,f5,f6,f45,f46,f47,rfl⟩;have aB:=bx.1;have dk:=aq l (lMg hl);have U:i<lines.length:=by omega
   have bV:gs.length=i:=by rw[E.mem.gll];unfold wsOf;rw[dY,dQ];omega
   simp only[go_sem,zE,zA,f3,f5,f6,fits,IV.one,fR,iNn,U];refine fJ (by omega) λg=>d_ λhg=>?_;have bW:gW≠g:=λe=>by rw[<- e,E.mem.wts] at hg;cases hg
   have aj:=E.row hg (w:=List.replicate l.length 0) (λx hx=>by rw[List.eq_of_mem_replicate hx];decide) (by omega);have aC:=E.mem.wts;rw[bV] at aj aC;rw[dw bW,aC];have bL:(rwsI gs (wsOf (links.take i))++List.replicate (lines.length-i) (IV.sl ⟨true,.nil,0⟩ [])).length=lines.length:=by
    unfold rwsI;rw[lLa,List.length_zipWith,gK,<- E.mem.gll,Nat.min_self];omega
   have ai:∀y:IV,List.take i (rwsI gs (wsOf (links.take i))++List.replicate (lines.length-i) (IV.sl ⟨true,.nil,0⟩ []))++[y]++List.drop (i+1) (rwsI gs (wsOf (links.take i))++List.replicate (lines.length-i) (IV.sl ⟨true,.nil,0⟩ [])) =
     (rwsI gs (wsOf (links.take i))++List.replicate (lines.length-i) (IV.sl ⟨true,.nil,0⟩ [])).set i y:=λy=>by
    rw[<- oN (by rw[bL];exact U)];rfl
   have b2:=aj;rw[gK,<- aB] at aj;simp only[u8J,List.map_replicate] at aj;simp only[go_sem,bL,ai];rw[cV (show i+1<=lines.length from U)];intro _;rw[show List.replicate yL.length 0=rowJ l 0 by rw[O4,aB]] at aj;have am:own ((bb.put g (some (.box (List.replicate yL.length (.raw (.int .u8 ((0:Nat):Int))))))).put gW (some (.box ((rwsI gs (wsOf (links.take i))++List.replicate (lines.length-i) (IV.sl ⟨true,.nil,0⟩ [])).set i (slG g yL.length))))) O A.length 1 S0:=D.mono λg' G _=>by
    rw[dw (λe=>by rw[e,E.mem.wts] at G;cases G),dw (λe=>by rw[e,hg] at G;cases G)];exact G
   refine (?_:∀st4,PS gU gW gH rb lines.length _ S0 (gs++[g]) st4 hs (wsOf (links.take i)++[rowJ l 0]) us->own st4 O A.length 1 S0->LoopC _ _ _ _ st4 _) _ aj am;intro st4 aj am;clear D E b2;refine dj yL.length (λj fr st' ds=>(∃us,PS gU gW gH rb lines.length [spI ca tw xw m,.sl tl xl,.raw (.map (some mN)),.sl tk xk] S0 (gs++[g]) st' hs (wsOf (links.take i)++[rowJ l j]) us/\UsOk us (evA (links.take i)++evL i (l.take j))/\own st' O A.length 1 S0) /\
    fr 1=.iv (.cptr (ptr rb))/\fr 2=(slG gU lines.length)/\fr 3=.iv (.cptr (slG gW lines.length))/\fr 4=.iv (.sl O (i32I A))/\fr 5=(i:Int)/\fr 45=.iv (.sl tk xk)/\fr 46=xk.length/\fr 47=(i:Int) /\
    fr 86=.iv (.sl tL yL)/\fr 87=yL.length/\fr 88=(j:Int)/\ds=[]) ?_ ?_ ?_
   ·simp only[go_sem,zE];exact⟨⟨us,aj,by simpa[evL] using hU,am⟩,f1,f2,f3,f4,f5,f45,f46,f47,rfl⟩
   ·rintro j fr aw _ bi ⟨⟨us,E,hU,D⟩,f1,f2,f3,f4,f5,f45,f46,f47,f86,f87,f88,rfl⟩;have bR:j<l.length:=by rw[<- aB];exact bi
    obtain⟨k,hk⟩:=dB bR;obtain⟨ch,bC,aV⟩:=bx.2 j k hk;obtain⟨_,cL,df,de,cK⟩:=hA.lk hS (lMg hl) (lMg hk);have cF:=λst=>to_c gl k ch aV cL st;obtain⟨kp,kq,rfl,dc⟩:=id aV;have aC:=E.mem.wts;have bk:(gs++[g])[i]?=some g:=by rw[<- bV,fD (dJ _),fS];rfl
    have bF:(wsOf (links.take i)).length=i:=by unfold wsOf;rw[dY,dQ];omega
    have bc:(wsOf (links.take i)++[rowJ l j])[i]?=some (rowJ l j):=by rw[fD (by omega),bF,fS];rfl
    have bf:=E.mem.row i g _ bk bc;have bK:=O5 l (j:=j) (by omega);have bG:(rwsI (gs++[g]) (wsOf (links.take i)++[rowJ l j])++List.replicate (lines.length-(gs++[g]).length) (IV.sl ⟨true,.nil,0⟩ []))[i]?=some (slG g (rowJ l j).length):=by
     have:=zU bk bc;rw[fw (lGs this).1];exact this
    have bQ:j<(rowJ l j).length:=by rw[bK];exact bR
    simp only[go_sem,zE,zB,zA,zL,f3,f5,f86,f87,f88,lt_i bi,dz cI,iNn,bC,aC,bG,bf,bQ,U,fits,IV.one,fR,ee];have aD:List.take j (u8J (rowJ l j))++[.raw (.int .u8 (k.2.2.length:Int))]++List.drop (j+1) (u8J (rowJ l j))=u8J (rowJ l (j+1)):=by
     rw[<- Gx hk,<- Gq,<- oN (by rw[vg];exact bQ)];rfl
    rw[cV (by rw[vg];omega),aD];have ao:=E.setW bk bc j (v:=k.2.2.length) (by omega);rw[Gx hk,show (wsOf (links.take i)++[rowJ l j]).set i (rowJ l (j+1))=wsOf (links.take i)++[rowJ l (j+1)] by rw[List.set_append_right _ _ (by omega),bF,fS];rfl] at ao;have J:own (aw.put g (some (.box (u8J (rowJ l (j+1)))))) O A.length 1 S0:=D.mono λg' G _=>(qt bf G).trans G;generalize aw.put g (some (.box (u8J (rowJ l (j+1)))))=az at ao J ⊢;clear E D aC bf aD;refine (cF _).mono ?_;rintro _ az ⟨⟨tp,rfl,htp⟩,rfl⟩;simp only[go_sem,sj];intro _;refine dj k.2.2.length (λq fr st' ds=>(∃us,PS gU gW gH rb lines.length [spI ca tw xw m,.sl tl xl,.raw (.map (some mN)),.sl tk xk] S0 (gs++[g]) st' hs (wsOf (links.take i)++[rowJ l (j+1)]) us/\UsOk us (evA (links.take i)++evL i (l.take j)++evK (i,j) (k.2.2.take q))/\own st' O A.length 1 S0) /\
     fr 1=.iv (.cptr (ptr rb))/\fr 2=(slG gU lines.length)/\fr 3=.iv (.cptr (slG gW lines.length))/\fr 4=.iv (.sl O (i32I A))/\fr 5=(i:Int)/\fr 45=.iv (.sl tk xk)/\fr 46=xk.length/\fr 47=(i:Int) /\
     fr 86=.iv (.sl tL yL)/\fr 87=yL.length/\fr 88=(j:Int)/\fr 10=(j:Int)/\fr 102=.iv (.sl tp (i32I k.2.2))/\fr 103=.iv (.raw (.int .i64 k.2.2.length))/\fr 104=(q:Int)/\ds=[]) ?_ ?_ ?_
    ·simp only[go_sem,zE];exact⟨⟨us,ao,by simpa[evK] using hU,J⟩,f1,f2,f3,f4,f5,f45,f46,f47,f86,f87,f88,rfl⟩
    ·rintro q fr bu _ hq ⟨⟨us,E,hU,D⟩,f1,f2,f3,f4,f5,f45,f46,f47,f86,f87,f88,f10,f102,f103,f104,rfl⟩;obtain⟨p,hp⟩:=dB hq;have bN:=cK p (lMg hp);obtain⟨cells,c1,c2,c3,c4⟩:=E.usr.ex;obtain⟨lu,ae⟩:=dB (l:=us) (k:=p) (by rw[E.ul,<- hll];exact bN);obtain⟨tu,yu,d1,d2,d3⟩:=c3 p lu ae;have bm:=λn:Int=>l7 prog 3 21 l_ vc .i64 n;have cA:IntKind.i32.wrap (i:Int)=(i:Int):=IntWalk.i32_in _ (by omega);have cz:IntKind.i32.wrap (j:Int)=(j:Int):=IntWalk.i32_in _ (by omega);have hpL:p<lines.length:=by rw[<- hll];exact bN
     simp only[go_sem,zE,zA,zM,zL,f2,f5,f10,f102,f103,f104,lt_i hq,dz htp,iNn,Gp hp,mZ,c1,d1,hpL,bm,cA,cz,dW,fits,IV.one,fR,ee];have cC:=hU.len ae;have dn:(evA (links.take i)).length<=32000000*20000:=by
      have h1:=Gw (links:=links.take i) λl' aH=>⟨aq l' (lp aH),λk' aI=>(hA.lk hS (lp aH) aI).2.1⟩
      have h2:(links.take i).length<=20000:=by rw[dQ];omega
      exact dT h1 (Nat.mul_le_mul_left _ h2)
     have dm:(evL i (l.take j)).length<=2*16000000:=by
      have h1:=Gv (i:=i) (l:=l.take j) λk' aI=>(hA.lk hS (lMg hl) (lp aI)).2.1;have h2:(l.take j).length<=16000000:=by rw[dQ];omega
      exact dT h1 (Nat.mul_le_mul_left _ h2)
     have dl:(evK (i,j) (k.2.2.take q)).length<=2:=by unfold evK;rw[dY,dQ];omega
     rw[lLa,lLa] at cC;refine zR d3 d2.1 E.base rfl (by simp[fits,IV.one]) (by simp only;omega) (by omega) λcm ba w1 w2 w3 w4=>?_;have b4:=E.addU (u:=(i,j)) rfl ae c1 d1 w1 w2 w3 w4;have cP:ba gU=some (.box cells):=w3 _ _ c1 λe=>by rw[qq d3 e] at c1;cases c1
     have aF:own (ba.put gU (some (.box (cells.set p (.sl cm (yu++[.agg [.raw (.int .i32 (i:Int)),.raw (.int .i32 (j:Int))]])))))) O A.length 1 S0:=D.mono λg' G _=>by
      rw[dw λe=>by rw[e,c1] at G;cases G];exact w3 _ _ G λe=>by rw[qq d3 e] at G;simp at G
     simp only[go_sem,zE,f1,f2,f3,f4,f5,f10,f45,f46,f47,f86,f87,f88,f102,f103,f104,cP,hpL,dC hq (by omega),IV.one,fR];have aK:p<cells.length:=(lGs d1).1;rw[cV (iNn _),cV (show p+1<=cells.length from aK)];have b1:=hU.add (p:=p) (u:=(i,j)) (lGs ae).1;rw[show usAt us p=lu by unfold usAt;rw[ae];rfl,en,<- OX hp] at b1;exact⟨_,by rw[<- oN aK] at b4;exact b4,b1,by rw[<- oN aK] at aF;exact aF⟩
    ·rintro fr bu _ ⟨⟨us,E,hU,D⟩,f1,f2,f3,f4,f5,f45,f46,f47,f86,f87,f88,f10,f102,f103,f104,rfl⟩;simp only[go_sem,zE,f1,f2,f3,f4,f5,f45,f46,f47,f86,f87,f88,f103,f104,dF (nLi _)];rw[lTl,en,<- OW hk] at hU;exact⟨⟨us,E,hU,D⟩,by rw[dC bi (by omega)]⟩
   ·rintro fr aw _ ⟨⟨us,E,hU,D⟩,f1,f2,f3,f4,f5,f45,f46,f47,f86,f87,f88,rfl⟩;rw[aB,lTl,<- OV hl] at hU;rw[aB,show wsOf (links.take i)++[rowJ l l.length]=wsOf (links.take (i+1)) by rw[dE hl,O6];unfold wsOf;rw[eJ];rfl] at E;simp only[go_sem,zE,f1,f2,f3,f4,f45,f46,f47,f87,f88,dF (nLi _),dC bP (by omega)];exact⟨_,hs,us,O,A,E,hU,D,rfl,hH,hN⟩
  ·have aJ:=E.mem.hts;have bj:=E.mem.hl;have U:i<lines.length:=by omega
   have bm:=λn:Int=>l7 prog 3 21 l_ vc .i64 n;have hw:IntKind.i32.wrap (i:Int)=(i:Int):=IntWalk.i32_in _ (by omega);simp only[go_sem,zE,zA,zL,f1,f4,aE,aJ,fits,IV.one,fR,ee,iNn,U,dW,bm,hw];have ai:List.take i (dM hs)++[.raw (.int .i64 1)]++List.drop (i+1) (dM hs)=dM (hs.set i 1):=by
    rw[<- Gr,<- oN (by rw[fI,bj];exact U)];rfl
   rw[cV (by rw[fI,bj];omega),ai];have ao:=E.setH i 1;have J:own (aO.put gH (some (.box (dM (hs.set i 1))))) O A.length 1 S0:=D.mono λg hg _=>(qt aJ hg).trans hg;have cw:hs[i]?=some 0:=by
    obtain⟨x,hx⟩:=dB (l:=hs) (k:=i) (by rw[bj];exact U);rw[hx,(hH i x hx).2 (dJ _)]
   have da:=hN.len;generalize aO.put gH (some (.box (dM (hs.set i 1))))=bb at ao J ⊢;refine zR J (sj A) ao.base rfl (by simp[fits,IV.one]) (by simp only;omega) (by omega) λck st4 w1 w2 w3 w4=>?_;simp only[go_sem,zE,f1,f2,f3,f45,f46,f47];exact⟨_,us,ck,A++[i],ao.far J w2 w3,hU,by rw[lLa];exact w1,by simp[i32I],hH.one (a1.2 aQ),hN.add cw⟩
  ·simp only[go_sem,zE,f1,f2,f3,f4,f45,f46,f47];exact⟨hs,us,O,A,E,hU,D,rfl,hH.zero (λh=>(by rw[a1.1 h] at aQ;cases aQ)),hN⟩
 ·rintro fr aO _ ⟨⟨gs,hs,us,O,A,E,hU,D,f4,hH,hN⟩,f1,f2,f3,f45,f46,f47,rfl⟩;rw[aU,lTl] at E hU;rw[aU] at hH;have be:∀p u,(usAt us p).count u=(lkAt links u).count p:=λp u=>(hU p u).trans (OY links p u);have cT:Rnd (clL W lines) links 2 hs (wsOf links) A:=Rnd.start (λl hl k hk=>(hA.lk hS hl hk).1) (by rw[E.mem.hl,hll]) (λi x hx=>(hH i x hx).1 (by rw[hll,<- E.mem.hl];exact (lGs hx).1)) hN.1 hN.2;have bU:gs.length=lines.length:=by rw[E.mem.gll];unfold wsOf;rw[dY,hll]
  have h2:∀u,(lkAt links u).length<=2:=λu=>by
   unfold lkAt;cases hk:((links[u.1]?).getD [])[u.2]? with
   | none=>simp
   | some k =>
    cases hl:links[u.1]? with
    | none=>rw[hl] at hk;simp at hk
    | some l =>
     rw[hl] at hk;exact (hA.lk hS (lMg hl) (lMg hk)).2.1
  have bS:∀u,∀p∈lkAt links u,p<links.length:=λu p hp=>by
   unfold lkAt at hp;cases hk:((links[u.1]?).getD [])[u.2]? with
   | none=>rw[hk] at hp;cases hp
   | some k =>
    rw[hk] at hp;cases hl:links[u.1]? with
    | none=>rw[hl] at hk;simp at hk
    | some l =>
     rw[hl] at hk;exact (hA.lk hS (lMg hl) (lMg hk)).2.2.2.2 p hp
  have di:hs.count 0<=20000:=by
   have:=List.count_le_length (a:=0) (l:=hs);have:=E.mem.hl;omega
  simp only[go_sem,zE,f1,f3,f46,f47,dF (nLi _)];refine LoopC.dec (2*hs.count 0+if A=[] then 0 else 1) (λq fr st' ds=>(∃H hs ws O A,q=2*hs.count 0+(if A=[] then 0 else 1)/\2<=H/\H+hs.count 0<=20002+(if A=[] then 1 else 0)/\PS gU gW gH rb lines.length [spI ca tw xw m,.sl tl xl,.raw (.map (some mN)),.sl tk xk] S0 gs st' hs ws us /\
   Rnd (clL W lines) links H hs ws A/\okEs O 1/\fr 4=.iv (.sl O (i32I A))/\fr 15=(H:Int)) /\
   fr 1=.iv (.cptr (ptr rb))/\fr 2=(slG gU lines.length)/\fr 3=.iv (.cptr (slG gW lines.length))/\fr 14=.iv (.fn (.func 100) [] [.cptr (slG gW lines.length),.cptr (ptr rb)])/\ds=[]) ?_ ?_
  ·simp only[go_sem,zE,f1,f2,f3,f4];exact⟨2,hs,_,O,A,rfl,dJ _,by omega,E,cT,D.es,rfl,rfl⟩
  ·rintro q fr bb _ ⟨⟨H,hs,ws,O,A,hq,b5,cU,E,hR,cG,f4,f15⟩,f1,f2,f3,f14,rfl⟩;by_cases bg:A=[]
   ·subst bg;simp only[go_sem,zL,f4,sj,dU,show decide (((0:Nat):Int) > 0)=false from rfl];have aX:=E.mem.rbx;simp only[ed,eY] at aX;exact c_ ⟨rfl,gH,hs,aX,E.mem.hts,E.mem.hl,(Sett.right (us:=us) (.done H hs ws) hR b5 be h2 bS).2,E.base⟩
   ·have cY:0<A.length:=kj.2 bg;rw[a_ bg] at hq cU;simp only[go_sem,zE,f4,sj,show decide (((A.length:Nat):Int) > 0)=true from dEt (by omega)];intro _ _;refine dj A.length (λa fr st' ds=>(∃tq S,S=((A.take a).flatMap (usAt us)).foldl (gq H) (hs,ws,[])/\PS gU gW gH rb lines.length [spI ca tw xw m,.sl tl xl,.raw (.map (some mN)),.sl tk xk] S0 gs st' S.1 S.2.1 us/\RdS links hs S/\own st' tq S.2.2.length 1 S0/\fr 16=.iv (.sl tq (i32I S.2.2))) /\
     fr 1=.iv (.cptr (ptr rb))/\fr 2=(slG gU lines.length)/\fr 3=.iv (.cptr (slG gW lines.length))/\fr 14=.iv (.fn (.func 100) [] [.cptr (slG gW lines.length),.cptr (ptr rb)])/\fr 15=(H:Int) /\
     fr 131=.iv (.sl O (i32I A))/\fr 132=.iv (.raw (.int .i64 A.length))/\fr 133=(a:Int)/\ds=[]) ?_ ?_ ?_
    ·simp only[go_sem,zE];exact⟨⟨⟨true,.nil,0⟩,_,rfl,E,⟨iH _,hR.wd⟩,own.nil ..,rfl⟩,f1,f2,f3,f14,f15,rfl⟩
    ·rintro a fr st4 _ ha ⟨⟨tq,S,ab,E,ah,D,f16⟩,f1,f2,f3,f14,f15,f131,f132,f133,rfl⟩;obtain⟨i,hi⟩:=dB ha;have U:i<lines.length:=by
      have:=(lGs ((hR.nw i).1 (lMg hi))).1;rw[hR.len,hll] at this;exact this
     obtain⟨cells,c1,c2,c3,c4⟩:=E.usr.ex;obtain⟨lu,ae⟩:=dB (l:=us) (k:=i) (by rw[E.ul];exact U);obtain⟨tu,yu,d1,d2,d3⟩:=c3 i lu ae;have bH:usAt us i=lu:=by unfold usAt;rw[ae];rfl
     have aA:=d2.1;have c8:yu.length<=32000000*20000:=by
      have h1:=hU.len ae;have h2:=Gw (links:=links) λl' aH=>⟨aq l' aH,λk' aI=>(hA.lk hS aH aI).2.1⟩
      have h3:links.length<=20000:=by omega
      rw[aA];exact dT h1 (dT h2 (Nat.mul_le_mul_left _ h3))
     simp only[go_sem,zE,f2,f131,f132,f133,lt_i ha,dz cG,iNn,Gp hi,mZ,c1,d1,U,fits,IV.one,fR,ee];intro _;refine dj yu.length (λb fr st' ds=>(∃tq S,S=((A.take a).flatMap (usAt us)++lu.take b).foldl (gq H) (hs,ws,[])/\PS gU gW gH rb lines.length [spI ca tw xw m,.sl tl xl,.raw (.map (some mN)),.sl tk xk] S0 gs st' S.1 S.2.1 us/\RdS links hs S/\own st' tq S.2.2.length 1 S0/\fr 16=.iv (.sl tq (i32I S.2.2))) /\
      fr 1=.iv (.cptr (ptr rb))/\fr 2=(slG gU lines.length)/\fr 3=.iv (.cptr (slG gW lines.length))/\fr 14=.iv (.fn (.func 100) [] [.cptr (slG gW lines.length),.cptr (ptr rb)])/\fr 15=(H:Int) /\
      fr 131=.iv (.sl O (i32I A))/\fr 132=.iv (.raw (.int .i64 A.length))/\fr 133=(a:Int)/\fr 140=.iv (.sl tu yu)/\fr 141=yu.length/\fr 142=(b:Int)/\ds=[]) ?_ ?_ ?_
     ·simp only[go_sem,zE];exact⟨⟨tq,S,ab,E,ah,D,f16⟩,f1,f2,f3,f14,f15,f131,f132,f133,rfl⟩
     ·rintro b fr aw _ hb ⟨⟨tq,S,ab,E,ah,D,f16⟩,f1,f2,f3,f14,f15,f131,f132,f133,f140,f141,f142,rfl⟩;obtain⟨u,hu⟩:=dB (l:=lu) (k:=b) (by rw[<- aA];exact hb);obtain⟨yy,bw,ct⟩:=d2.2 b u hu;have bh:lkAt links u≠[]:=λe=>by
       have h1:=be i u;rw[bH,e] at h1;have h3:0<lu.count u:=lg.2 (lMg hu);rw[h1] at h3;simp at h3
      obtain⟨x,hx⟩:=ah.2 u bh;obtain⟨w,hw,cy⟩:∃w,S.2.1[u.1]?=some w/\w[u.2]?=some x:=by
       unfold atW at hx;cases hw:S.2.1[u.1]? with
       | none=>rw[hw] at hx;simp at hx
       | some w=>rw[hw] at hx;exact⟨w,rfl,hx⟩
      have dh:S.2.1.length=lines.length:=by rw[<- E.mem.gll,bU]
      obtain⟨h,hh⟩:=dB (l:=S.1) (k:=u.1) (by rw[E.mem.hl];have:=(lGs hw).1;omega);have cN:=O2 gl gU gW gH rb lines.length _ _ _ _ S0 gs S.1 S.2.1 us u aw E w hw x cy h hh;rw[ct] at bw;have ac:gq H S u=((A.take a).flatMap (usAt us)++lu.take (b+1)).foldl (gq H) (hs,ws,[]):=by
       rw[dE hu,<- en,List.foldl_append,<- ab];rfl
      have av:=ah.step (H:=H) (by omega) u;have bZ:atW (decW S.2.1 u) u=some ((x+255)%256):=by rw[qn,cV rfl,hx];rfl
      have bI:u.1<lines.length:=by rw[<- E.mem.hl];exact (lGs hh).1
      simp only[go_sem,zE,zB,zA,zL,f14,f140,f141,f142,lt_i hb,dz d3.es,iNn,bw,fits,IV.one];refine cN.mono ?_;rintro _ az ⟨rfl,ay,bY⟩;have aG:own az tq S.2.2.length 1 S0:=D.mono λg' G _=>bY _ _ _ G;have c9:S.2.2.length<=20000:=by
       have h4:=ah.1;have h5:=List.count_le_length (a:=0) (l:=hs);have h6:=hR.len;omega
      by_cases aL:(x+255)%256=0/\h=0
      ·have hT:gq H S u=(S.1.set u.1 H,decW S.2.1 u,S.2.2++[u.1]):=by
        unfold gq;rw[cV ⟨by rw[bZ,aL.1],by rw[hh,aL.2]⟩]
       rw[hT] at ac av;have aJ:=ay.mem.hts;have aW:=ay.mem.rbx;simp only[ed,eY] at aW;simp only[go_sem,zE,zA,zL,dEt aL,f1,f15,f16,aW,aJ,mZ,fits,IV.one,fR,ee,iNn,bI,dW];have ai:List.take u.1 (dM S.1)++[.raw (.int .i64 (H:Int))]++List.drop (u.1+1) (dM S.1)=dM (S.1.set u.1 H):=by
        rw[<- Gr,<- oN (by rw[fI,ay.mem.hl];exact bI)];rfl
       rw[cV (by rw[fI,ay.mem.hl];omega),ai];have bn:=ay.setH u.1 H;have al:own (az.put gH (some (.box (dM (S.1.set u.1 H))))) tq S.2.2.length 1 S0:=aG.mono λg' G _=>(qt aJ G).trans G;generalize az.put gH (some (.box (dM (S.1.set u.1 H))))=bu at bn al ⊢;refine zR al (sj _) bn.base rfl (by simp[fits,IV.one]) (by simp only;omega) (by omega) λcj ba w1 w2 w3 w4=>?_;simp only[go_sem,zE,f1,f2,f3,f14,f15,f131,f132,f133,f140,f141,f142,dC hb (by omega)];exact⟨cj,_,ac,bn.far al w2 w3,av,by rw[lLa];exact w1,by simp[i32I]⟩
      ·have hF:gq H S u=(S.1,decW S.2.1 u,S.2.2):=by
        unfold gq;rw[a_ λe=>aL ⟨by have:=e.1;rw[bZ] at this;exact eE this,by have:=e.2;rw[hh] at this;exact eE this⟩]
       rw[hF] at ac av;simp only[go_sem,zE,dEf aL,f1,f2,f3,f14,f15,f16,f131,f132,f133,f140,f141,f142,dC hb (by omega)];exact⟨tq,_,ac,ay,av,aG,rfl⟩
     ·rintro fr aw _ ⟨⟨tq,S,ab,E,ah,D,f16⟩,f1,f2,f3,f14,f15,f131,f132,f133,f140,f141,f142,rfl⟩;rw[aA,lTl] at ab;have b0:(A.take a).flatMap (usAt us)++lu=(A.take (a+1)).flatMap (usAt us):=by rw[dE hi,jA,List.flatMap_singleton,bH]
      rw[b0] at ab;simp only[go_sem,zE,f1,f2,f3,f14,f15,f131,f132,f133,f141,f142,dF (nLi _),dC ha (by omega)];exact⟨tq,S,ab,E,ah,D,f16⟩
    ·rintro fr st4 _ ⟨⟨tq,S,ab,E,ah,D,f16⟩,f1,f2,f3,f14,f15,f131,f132,f133,rfl⟩;rw[lTl] at ab;have bO:=hR.next b5 be h2 bS;rw[<- ab] at bO;have hc:=ah.1;have c0:H<=20002:=by omega
     simp only[go_sem,zE,f1,f2,f3,f14,f15,f16,f132,f133,dF (nLi _)];refine⟨2*S.1.count 0+(if S.2.2=[] then 0 else 1),?_,H+1,S.1,S.2.1,tq,S.2.2,rfl,by omega,?_,E,bO,D.es,rfl,by rw[dC (ew H) (by omega)]⟩
     ·by_cases h0:S.2.2=[]
      ·rw[h0,dU] at hc;rw[cV h0];omega
      ·have:=kj.2 h0;rw[a_ h0];omega
     ·by_cases h0:S.2.2=[]
      ·rw[h0,dU] at hc;rw[cV h0];omega
      ·have:=kj.2 h0;rw[a_ h0];omega
def BadR (ca:Nat)(s:Sq)(e:Nat):Prop:=((¬ (ca=1\/ca=2)/\e=2)\/((ca=1\/ca=2)/\ev ca s=false/\e=190)\/((ca=1\/ca=2)/\ev ca s=true/\qg (calJ ca) (nf (s.l,s.r)) e))/\e=errN ca s
def BadR.ne {ca:Nat}{s:Sq}{e:Nat}(h:BadR ca s e):e≠0:=by
 rcases h.1 with⟨_,rfl⟩|⟨_,_,rfl⟩|⟨_,_,h|h⟩
 ·decide
 ·decide
 ·rw[h.1];decide
 ·rw[h.1];decide
def ExplR.split {ca:Nat}{s:Sq}{st st':ISt}{r:IV}(h:ExplR ca s st r st'):(∃e,BadR ca s e/\r=.tup [.raw (.pointer none),(e:Int)]/\st'=st) \/
  (errN ca s=0/\(ca=1\/ca=2)/\ev ca s=true/\∃m tw xw rb mN lines links,okEs tw 4/\IsFms (spW s) xw/\r=.tup [ptr rb,(0:Int)]/\RS ca m (spW s) tw xw rb mN st st' lines links/\ExS ca (spW s) (nf (s.l,s.r)) lines links/\links.length=lines.length):=by
 rcases h with⟨hc,h1,h2⟩|⟨hc,hv,h1,h2⟩|⟨hc,hv,⟨e,h1,h2,A⟩|h⟩
 ·exact .inl ⟨2,⟨.inl ⟨hc,rfl⟩,by unfold errN;rw[a_ hc]⟩,h1,h2⟩
 ·exact .inl ⟨190,⟨.inr (.inl ⟨hc,hv,rfl⟩),by unfold errN;rw[cV hc,a_ (by rw[hv];simp)]⟩,h1,h2⟩
 ·exact .inl ⟨e,⟨.inr (.inr ⟨hc,hv,h1.1⟩),h1.2⟩,h2,A⟩
 ·obtain⟨m,tw,xw,rb,mN,lines,links,G,a2,a3,a4,a5,E,D⟩:=h;exact .inr ⟨D,hc,hv,m,tw,xw,rb,mN,lines,links,G,a2,a3,a4,a5,E⟩
def O8 (G:Gl gl)(T:Gt gl)(ca:Nat)(s:Sq)(x:IV)(hx:IsSq s x)(hs:fW s)(st:ISt):ICall prog gl 50 [.raw (.int .u8 (ca:Int)),x] st (λr st'=>st'=st /\
  ((∃e,BadR ca s e/\r=.tup [(0:Int),(e:Int)])\/(errN ca s=0/\(ca=1\/ca=2)/\ev ca s=true/\(∃K:List Sn,ReachOk (calJ ca) (nf (s.l,s.r)) K)/\r=.tup [(hF (calJ ca) (s.l,s.r):Int),(0:Int)]))):=by
 have he:=OU gl G T ca s x hx hs;obtain⟨t1,x1,t2,x2,rfl,e1,i1,e2,i2⟩:=hx;refine iI func50 ?_;simp only[go_sem,zE,zA,zL,reduceCtorEq];refine (he _).mono ?_;rintro r ab hr;rcases hr.split with⟨e,hb,rfl,rfl⟩|⟨ao,hc,hv,m,tw,xw,rb,mN,lines,links,ag,ac,rfl,U,hE,hl⟩
 ·have h0:decide ((e:Int)=0)=false:=dEf (by have:=hb.ne;omega);simp only[go_sem,zE,h0];exact c_ ⟨rfl,.inl ⟨e,hb,rfl⟩⟩
 ·obtain⟨hS,_,aq,aA⟩:=qp hc hv;obtain⟨tl,xl,tk,xk,aj,ae,ak,af,al⟩:=U.ex;have hA:=hE.all hl;have ah:=O7 gl ca m (spW s) hS tw xw ag ac aq lines links hA hE.len tl tk xl xk mN rb ae af ak.es al.es st ab aj U.off.1 U.base;simp only[go_sem,zE,zA,dA];refine ah.mono ?_;rintro _ ay ⟨rfl,gH,ai,D,an,aB,E,A⟩;obtain⟨ln,J,am⟩:=hE.start;have au:=(lGs J).1;obtain⟨h,hh⟩:=dB (l:=ai) (k:=0) (by omega);have O:=hA.hF hS J (E 0 h hh);rw[am,Ff] at O;simp only[go_sem,zE,D,an,fits,au,kL hh,gL,iH,show ((0:Int)<=0)=True from eQ (by decide),show Int.toNat 0=0 from rfl,IV.one];rw[<- O];exact⟨st,A,rfl,.inr ⟨ao,hc,hv,⟨_,hE.reach hS U.nd (Nat.le_of_eq hl.symm)⟩,rfl⟩⟩
def O9 (G:Gl gl)(T:Gt gl)(ca:Nat)(s:Sq)(x:IV)(A:IsSq s x)(hs:fW s)(st:ISt):ICall prog gl 50 [.raw (.int .u8 (ca:Int)),x] st (λr st'=>st'=st /\
  ((∃e,BadR ca s e/\r=.tup [(0:Int),(e:Int)])\/((ca=1\/ca=2)/\ev ca s=true/\(∃K:List Sn,ReachOk (calJ ca) (nf (s.l,s.r)) K)/\r=.tup [(hF (calJ ca) (s.l,s.r):Int),(0:Int)]))) :=
 (O8 gl G T ca s x A hs st).mono λ_ _ ⟨h1,h2⟩=>⟨h1,h2.imp_right (·.2)⟩
def O_ (s:Sn):ClF (nf s).1 (nf s).2↔ClF s.1 s.2:=by
 unfold ClF nf;simp only[yY3]
def Pb (G:Gl gl)(T:Gt gl)(ca:Nat)(s:Sq)(x:IV)(hx:IsSq s x)(hs:fW s)(st:ISt):ICall prog gl 90 [.raw (.int .u8 (ca:Int)),x] st (λr st'=>st'=st /\
  ((¬ (ca=1\/ca=2)/\r=.tup [false,(2:Int)])\/((ca=1\/ca=2)/\ev ca s=false/\r=.tup [false,(190:Int)]) \/
   ((ca=1\/ca=2)/\ev ca s=true/\∃b:Bool,(b=true↔ClF s.l s.r)/\r=.tup [b,(0:Int)]))):=by
 have hb:=zP gl G ca s x hx hs;have aa:=hx;obtain⟨t1,x1,t2,x2,rfl,e1,i1,e2,i2⟩:=hx;refine iI func90 ?_;simp only[go_sem,zE,zA,zL,reduceCtorEq];refine (hb _).mono ?_;rintro _ E (⟨hc,rfl,rfl⟩|⟨hc,hv,rfl,rfl⟩|⟨hc,hv,m,tw,xw,hm,O,J,rfl,rfl⟩)
 ·simp only[go_sem,zE,show decide ((2:Int)=0)=false from rfl];exact c_ ⟨rfl,.inl ⟨hc,rfl⟩⟩
 ·simp only[go_sem,zE,show decide ((190:Int)=0)=false from rfl];exact c_ ⟨rfl,.inr (.inl ⟨hc,hv,rfl⟩)⟩
 ·obtain⟨hS,_,ae,D⟩:=qp hc hv;have ag:=zO hv;have A:=zo D;simp only[go_sem,zE,zA,zL,dA];refine (uW gl T ca m (spW s) tw xw O J hS.srt (dT ae (by omega)) s _ aa ⟨by omega,by omega⟩ D _).mono ?_;rintro z E ⟨hz,rfl⟩;have ac:=λst=>zG gl ca m (spW s) hS tw xw O J _ A z hz st;obtain⟨ta,tb,rfl,ea,eb⟩:=hz;simp only[go_sem,zE,zA];refine (ac _).mono ?_;rintro _ E ⟨⟨zf,rfl,U⟩,rfl⟩;obtain⟨y1,y2,y3,y4,y5,y6,rfl⟩:=U.agg;simp only[go_sem,zE,zA,zL];refine⟨st,ff hm,rfl,.inr (.inr ⟨hc,hv,_,?_,rfl⟩)⟩;rw[zF A.1,nW hS.srt A,uU hS.srt D];exact O_ (s.l,s.r)
def Gy {W:List Fm}{l:List Nat}{k i:Nat}{f:Fm}(h:l[k]?=some i)(A:W[i]?=some f):fmW W (l.take (k+1))=fmW W (l.take k)++[f]:=by
 rw[dE h];unfold fmW;rw[List.filterMap_append];simp[A]
def Pd (ca m:Nat)(W:List Fm)(hS:SpOk ca W)(tw:Tag)(xw:List IV)(aq:okEs tw 4)(ac:IsFms W xw)(ln:Ln)(J:LnOk W ln)(x:IV)(hx:IsLn ln x)(st:ISt) :
  ICall prog gl 121 [spI ca tw xw m,x] st (λr st'=>IsSq ⟨fmW W ln.1,fmW W ln.2⟩ r/\st'=st):=by
 obtain⟨ta,tb,rfl,ea,eb⟩:=hx;have aX:=nV J.1.1 J.1.2;have aW:=nV J.2.1 J.2.2;have aY:=hS.len;refine iI func121 ?_;simp only[go_sem,zE];intro _;refine dj (dM ln.1).length (λk fr st' ds=>(∃t y,fr 5=.box [.sl t y,()]/\own st' t k 4 st/\subSt st st'/\IsFms (fmW W (ln.1.take k)) y/\y.length=k)/\fr 0=(spI ca tw xw m)/\fr 3=.box [.sl ta (dM ln.1),.sl tb (dM ln.2)]/\fr 4=.box [(),()] /\
  fr 11=.iv (.sl ta (dM ln.1))/\fr 12=.iv (.raw (.int .i64 (dM ln.1).length))/\fr 13=(k:Int)/\ds=[]) ?_ ?_ ?_
 ·simp only[go_sem,zE,reduceCtorEq];exact⟨⟨_,_,rfl,own.nil ..,subSt.refl _,rfl,rfl⟩,rfl⟩
 ·rintro k fr ab _ A ⟨⟨t1,y1,aa,E,D,hy,G⟩,f0,f3,f4,fl,fn,fk,rfl⟩;rw[fI] at A;obtain⟨i,hi⟩:=dB A;have O:=J.1.2 i (lMg hi);obtain⟨f,hf⟩:=dB O;obtain⟨z,hz,U⟩:=ac.get hf;have ak:=λst=>mT gl f z U (dT (hS.size (lMg hf)) (by omega)) st;have ao:i<xw.length:=by rw[ac.len];exact O
  cases f with
  | mk og ng ug sg =>
  obtain⟨aB,ax,aA,aw,rfl,aF⟩:=U.mk;simp only[go_sem,zE,zB,zA,reduceCtorEq,aa,f0,fl,fn,fk,lt_i (show k<(dM ln.1).length by rw[fI];exact A),dz ea,dz aq,iNn,kL hi,hz,fits,IV.one];refine (ak _).mono ?_;rintro r ab ⟨hr,rfl⟩;obtain⟨o1,n1,t2,x2,t3,x3,rfl⟩:=gn hr;simp only[go_sem,zE,zA,zM,zL,fits,dW];refine gQ E G D rfl (by simp[fits,IV.one]) (by simp only;omega) (by omega) λaf aD w1 w2 w3=>?_;simp only[go_sem,zE,zA,zL,reduceCtorEq,f0,f3,f4,fl,fn,fk,aa,dC (show k<(dM ln.1).length by rw[fI];exact A) (by rw[fI];omega)];exact⟨af,_,rfl,w1,w2,by rw[Gy hi hf];exact hy.append (.one hr.1),by rw[lLa,G];rfl⟩
 ·rintro fr aO _ ⟨⟨t0,y0,f5,ah,ag,an,aJ⟩,f0,f3,f4,fl,fn,fk,rfl⟩;rw[fI,lTl] at an;have aH:=ah.es;simp only[go_sem,zE,f3,fn,fk,dF (nLi _)];intro _;refine dj (dM ln.2).length (λk fr st' ds=>(∃t y,fr 5=.box [.sl t0 y0,.sl t y]/\own st' t k 4 st/\subSt st st'/\IsFms (fmW W (ln.2.take k)) y/\y.length=k)/\fr 0=(spI ca tw xw m)/\fr 3=.box [.sl ta (dM ln.1),.sl tb (dM ln.2)]/\fr 4=.box [(),()] /\
   fr 32=.iv (.sl tb (dM ln.2))/\fr 33=.iv (.raw (.int .i64 (dM ln.2).length))/\fr 34=(k:Int)/\ds=[]) ?_ ?_ ?_
  ·simp only[go_sem,zE,reduceCtorEq,f0,f3,f4,f5];exact⟨⟨_,_,rfl,own.nil ..,ag,rfl,rfl⟩,rfl⟩
  ·rintro k fr ab _ A ⟨⟨t1,y1,aa,E,D,hy,G⟩,f0,f3,f4,fl,fn,fk,rfl⟩;rw[fI] at A;obtain⟨i,hi⟩:=dB A;have O:=J.2.2 i (lMg hi);obtain⟨f,hf⟩:=dB O;obtain⟨z,hz,U⟩:=ac.get hf;have ak:=λst=>mT gl f z U (dT (hS.size (lMg hf)) (by omega)) st;have ao:i<xw.length:=by rw[ac.len];exact O
   cases f with
   | mk og ng ug sg =>
   obtain⟨aB,ax,aA,aw,rfl,aF⟩:=U.mk;simp only[go_sem,zE,zB,zA,reduceCtorEq,aa,f0,fl,fn,fk,lt_i (show k<(dM ln.2).length by rw[fI];exact A),dz eb,dz aq,iNn,kL hi,hz,fits,IV.one];refine (ak _).mono ?_;rintro r ab ⟨hr,rfl⟩;obtain⟨o1,n1,t2,x2,t3,x3,rfl⟩:=gn hr;simp only[go_sem,zE,zA,zM,zL,fits,dW];refine gQ E G D rfl (by simp[fits,IV.one]) (by simp only;omega) (by omega) λaf aD w1 w2 w3=>?_;simp only[go_sem,zE,zA,zL,reduceCtorEq,f0,f3,f4,fl,fn,fk,aa,dC (show k<(dM ln.2).length by rw[fI];exact A) (by rw[fI];omega)];exact⟨af,_,rfl,w1,w2,by rw[Gy hi hf];exact hy.append (.one hr.1),by rw[lLa,G];rfl⟩
  ·rintro fr ab _ ⟨⟨t1,y1,f5,E,D,hy,G⟩,f0,f3,f4,fl,fn,fk,rfl⟩;rw[fI,lTl] at hy;have aG:=E.es;simp only[go_sem,zE,zA,zL,f4,f5,fn,fk,dF (nLi _)];exact⟨st,D,⟨t0,y0,t1,y1,rfl,aH,an,aG,hy⟩,rfl⟩
