/- Walks: Given, Taken, checks, HintChecks. -/
import Derived.Test.YtakbihknkdpmgaaGreatDoorQH
import Derived.Test.YtakbihknkdpmgaaGreatDoorKE
import Derived.Deep.DeepHandedRow
set_option linter.all false
open Nat renaming reduceEqDiff → zE,reduceBEq → zB,reduceAdd → zA,reduceMul → zM,reduceLeDiff → zL
namespace Go.Proofs.Tryz
open Go Go.Iv
set_option maxRecDepth 4000
variable (gl:Nat->Option IV)
def HV {a:Tr}{x:IV}(h:IsTr a x):IsTrs [a] [x]:=by simp only[IsTrs];exact⟨x,[],rfl,h,rfl⟩
def AA (t:Tr):Prop:=∀(x:IV) (_:IsTr t x) (_:okT t=true) (_:t.steps<=1000) (st:ISt),ICall prog gl 8 [x] st (λr st'=>IsTr t r/\st'=st)
def Q1 (rule:Nat)(s:Sq)(f:Fm)(u:Tm)(n:ByteArray)(sub:List Tr)(IH:∀a∈sub,AA gl a):AA gl (.mk rule s f u n sub):=by
 intro x hx A hst st;obtain⟨tl,xl,tr,xr,op,fn,ta,xa,tb,xb,v,un,tu,xu,ts,xs,rfl,aI,e1,i1,e2,i2,hy,hz,e3,i3⟩:=hx.mk;simp only[Tr.steps] at hst;have aK:=lY sub;have ai:okTs sub=true:=by
  simp only[okT,bAt] at A;exact A.2
 have aJ:wFms s.l+wFms s.r<=300/\wFm f<=300/\wTm u<=300:=by
  simp only[okT,bAt] at A;exact⟨(nh A.1).1,(nh A.1).2.1,(nh A.1).2.2.1⟩
 have h1:=λst=>D5 gl s (.agg [.sl tl xl,.sl tr xr]) ⟨tl,xl,tr,xr,rfl,e1,i1,e2,i2⟩ (by have:=mr s.l;omega) (by have:=mr s.r;omega) st;have h2:=λst=>yl gl f _ hy (by have:=vw f;omega) st;have h3:=λst=>D1 gl u _ hz (by have:=vv u;omega) st;refine ICall.intro (c:=cf prog gl [] [(1,[0,1,2,3,5,6,8,9,11,12,14,4,7,10,13,15])]) func8 rfl (by show _<=38;simp) (by kernel_rfl) ?_;simp only[go_sem,zE,zA,zL];refine (h1 _).mono ?_;rintro _ st ⟨⟨c1,y1,c2,y2,rfl,g1,_,k1,g2,_,k2⟩,rfl⟩;simp only[go_sem,zE,zA];refine (h2 _).mono ?_;rintro r2 st ⟨ah,rfl⟩;obtain⟨o2,n2,aE,au,aC,ao,rfl⟩:=gn ah;simp only[go_sem,zE,zA];refine (h3 _).mono ?_;rintro r3 st ⟨ag,rfl⟩;obtain⟨v3,n3,t3,x3,rfl⟩:=ag.agg;simp only[go_sem,zE,zA,zL,fits];refine dj sub.length (λk fr st' ds=>(∃G ys,fr 3=.box [.raw (.int .u8 rule),.sl c1 y1,.sl c2 y2,.raw (.int .u8 o2),n2,.sl aE au,.sl aC ao,v3,n3,.sl t3 x3,n,.sl G ys]/\IsTrs (sub.take k) ys/\own st' G k 12 st/\subSt st st') /\
  fr 1=.box [.raw (.int .u8 rule),.sl tl xl,.sl tr xr,.raw (.int .u8 op),fn,.sl ta xa,.sl tb xb,v,un,.sl tu xu,n,.sl ts xs] /\
  fr 2=.box [.raw (.int .u8 0),(),(),.raw (.int .u8 0),.raw (.string ⟨#[]⟩),(),(),false,.raw (.string ⟨#[]⟩),(),.raw (.string ⟨#[]⟩),()]/\fr 4=.iv (.raw (.int .i64 k))/\ds=[]) ?_ ?_ ?_
 ·simp only[go_sem,zE];exact⟨⟨_,_,rfl,rfl,own.nil _ _ _ _ _,subSt.refl _⟩,rfl⟩
 ·rintro k fr aG _ aa ⟨⟨G,ys,f3,hys,E,D⟩,f1,f2,f4,rfl⟩;obtain⟨a,ha⟩:=dB aa;have ae:=lMg ha;obtain⟨z,aL,af⟩:=i3.get ha;have ab:ys.length=k:=by rw[hys.len,dQ];omega
  have ac:=λst=>IH a ae z af (qz ai ae) (by have:=oK ae;omega) st;obtain⟨J,aA,an,az,al,aH,aN,aF,av,aD,aq,v',aw,ax,aj,n',ay,ak,rfl⟩:=eT af;simp only[go_sem,zE,zB,zA,f1,f3,f4,i3.len,lt_i aa,dz e3,iNn,aL,fits];intro _;refine (ac _).mono ?_;rintro r _ ⟨hr,rfl⟩;have hn:IsTrs (sub.take (k+1)) (ys++[r]):=by
   rw[dE ha];exact hys.append (HV hr)
  obtain⟨J,aA,an,az,al,aH,aN,aF,av,aD,aq,v',aw,ax,aj,n',ay,ak,rfl⟩:=eT hr;simp only[go_sem,zE,zA,zM,zL,fits,dW];refine jN E ab D rfl (by simp[fits,IV.one]) (by simp only;omega) (by omega) λaB st4 U O _ aQ=>?_;simp only[go_sem,zE,zA,zL,f1,f2,f3,f4,dC aa (by omega)];exact⟨aB,_,rfl,hn,U,O⟩
 ·rintro fr aG _ ⟨⟨G,ys,f3,hys,E,D⟩,f1,f2,f4,rfl⟩;rw[lTl] at hys;simp only[go_sem,zE,zA,zL,f1,f2,f3,f4,i3.len,dF (nLi _)];intro _;refine ez (st':=st) D ⟨?_,rfl⟩;simp only[IsTr];exact⟨_,_,_,_,_,_,_,_,_,_,_,_,_,_,_,_,rfl,aI,g1,k1.1,g2,k2.1,ah.1,ag.1,E.es,hys⟩
def HW:∀(k:Nat)(t:Tr),SizeOf.sizeOf t<k->AA gl t
 | 0,t,h=>by omega
 | k+1,.mk r sq f u n sub,h=>Q1 gl r sq f u n sub (λa A=>HW k a (by
   have:=lSm A;simp at h;omega))
def AB (t:Tr):Prop:=∀(x:IV) (_:IsTr t x) (_:okT t=true) (_:t.steps<=1000) (st:ISt),ICall prog gl 9 [x] st (λr st'=>IsTr t r/\st'=st)
def Q2 (rule:Nat)(s:Sq)(f:Fm)(u:Tm)(n:ByteArray)(sub:List Tr)(IH:∀a∈sub,AB gl a):AB gl (.mk rule s f u n sub):=by
 intro x hx A hst st;obtain⟨tl,xl,tr,xr,op,fn,ta,xa,tb,xb,v,un,tu,xu,ts,xs,rfl,aI,e1,i1,e2,i2,hy,hz,e3,i3⟩:=hx.mk;simp only[Tr.steps] at hst;have aK:=lY sub;have ai:okTs sub=true:=by
  simp only[okT,bAt] at A;exact A.2
 have aJ:wFms s.l+wFms s.r<=300/\wFm f<=300/\wTm u<=300:=by
  simp only[okT,bAt] at A;exact⟨(nh A.1).1,(nh A.1).2.1,(nh A.1).2.2.1⟩
 have h1:=λst=>D5 gl s (.agg [.sl tl xl,.sl tr xr]) ⟨tl,xl,tr,xr,rfl,e1,i1,e2,i2⟩ (by have:=mr s.l;omega) (by have:=mr s.r;omega) st;have h2:=λst=>yl gl f _ hy (by have:=vw f;omega) st;have h3:=λst=>D1 gl u _ hz (by have:=vv u;omega) st;refine ICall.intro (c:=cf prog gl [] [(1,[0,1,2,3,5,6,8,9,11,12,14,4,7,10,13,15])]) func9 rfl (by show _<=38;simp) (by kernel_rfl) ?_;simp only[go_sem,zE,zA,zL];refine (h1 _).mono ?_;rintro _ st ⟨⟨c1,y1,c2,y2,rfl,g1,_,k1,g2,_,k2⟩,rfl⟩;simp only[go_sem,zE,zA];refine (h2 _).mono ?_;rintro r2 st ⟨ah,rfl⟩;obtain⟨o2,n2,aE,au,aC,ao,rfl⟩:=gn ah;simp only[go_sem,zE,zA];refine (h3 _).mono ?_;rintro r3 st ⟨ag,rfl⟩;obtain⟨v3,n3,t3,x3,rfl⟩:=ag.agg;simp only[go_sem,zE,zA,zL,fits];refine dj sub.length (λk fr st' ds=>(∃G ys,fr 3=.box [.raw (.int .u8 rule),.sl c1 y1,.sl c2 y2,.raw (.int .u8 o2),n2,.sl aE au,.sl aC ao,v3,n3,.sl t3 x3,n,.sl G ys]/\IsTrs (sub.take k) ys/\own st' G k 12 st/\subSt st st') /\
  fr 1=.box [.raw (.int .u8 rule),.sl tl xl,.sl tr xr,.raw (.int .u8 op),fn,.sl ta xa,.sl tb xb,v,un,.sl tu xu,n,.sl ts xs] /\
  fr 2=.box [.raw (.int .u8 0),(),(),.raw (.int .u8 0),.raw (.string ⟨#[]⟩),(),(),false,.raw (.string ⟨#[]⟩),(),.raw (.string ⟨#[]⟩),()]/\fr 4=.iv (.raw (.int .i64 k))/\ds=[]) ?_ ?_ ?_
 ·simp only[go_sem,zE];exact⟨⟨_,_,rfl,rfl,own.nil _ _ _ _ _,subSt.refl _⟩,rfl⟩
 ·rintro k fr aG _ aa ⟨⟨G,ys,f3,hys,E,D⟩,f1,f2,f4,rfl⟩;obtain⟨a,ha⟩:=dB aa;have ae:=lMg ha;obtain⟨z,aL,af⟩:=i3.get ha;have ab:ys.length=k:=by rw[hys.len,dQ];omega
  have ac:=λst=>IH a ae z af (qz ai ae) (by have:=oK ae;omega) st;obtain⟨J,aA,an,az,al,aH,aN,aF,av,aD,aq,v',aw,ax,aj,n',ay,ak,rfl⟩:=eT af;simp only[go_sem,zE,zB,zA,f1,f3,f4,i3.len,lt_i aa,dz e3,iNn,aL,fits];intro _;refine (ac _).mono ?_;rintro r _ ⟨hr,rfl⟩;have hn:IsTrs (sub.take (k+1)) (ys++[r]):=by
   rw[dE ha];exact hys.append (HV hr)
  obtain⟨J,aA,an,az,al,aH,aN,aF,av,aD,aq,v',aw,ax,aj,n',ay,ak,rfl⟩:=eT hr;simp only[go_sem,zE,zA,zM,zL,fits,dW];refine jN E ab D rfl (by simp[fits,IV.one]) (by simp only;omega) (by omega) λaB st4 U O _ aQ=>?_;simp only[go_sem,zE,zA,zL,f1,f2,f3,f4,dC aa (by omega)];exact⟨aB,_,rfl,hn,U,O⟩
 ·rintro fr aG _ ⟨⟨G,ys,f3,hys,E,D⟩,f1,f2,f4,rfl⟩;rw[lTl] at hys;simp only[go_sem,zE,zA,zL,f1,f2,f3,f4,i3.len,dF (nLi _)];intro _;refine ez (st':=st) D ⟨?_,rfl⟩;simp only[IsTr];exact⟨_,_,_,_,_,_,_,_,_,_,_,_,_,_,_,_,rfl,aI,g1,k1.1,g2,k2.1,ah.1,ag.1,E.es,hys⟩
def HX:∀(k:Nat)(t:Tr),SizeOf.sizeOf t<k->AB gl t
 | 0,t,h=>by omega
 | k+1,.mk r sq f u n sub,h=>Q2 gl r sq f u n sub (λa A=>HX k a (by
   have:=lSm A;simp at h;omega))
def Q3 (G:Gl gl)(T:Gt gl)(ai:∀g x,gl g=some x->age x=x)(ca:Nat)(t:Tr)(x:IV)(hx:IsTr t x)(A:okT t=true)(hst:t.steps<=60)(st:ISt) :
  ICall prog gl 5 [.raw (.int .u8 ca),x] st (λr st'=>r=true/\st'=st):=by
 have hG:=λst=>HW gl _ t (ew _) x hx A (by omega) st;have ac:=hx;obtain⟨U,ba,aH,a6,aE,bj,bp,bg,aN,bd,aK,v',aS,aX,ay,n',a1,aB,rfl⟩:=eT hx;refine ICall.intro (c:=cf prog gl [] [(5,[0,1,2,3,4,5,6,7,8,9,11,10,12,13,14,15,16,17,18,19,20])]) func5 rfl (by show _<=47;simp) (by kernel_rfl) ?_;simp only[go_sem,zE,zA,zL];refine (hG _).mono ?_;rintro r st ⟨D,rfl⟩;have hT:=λst=>HX gl _ t (ew _) r D A (by omega) st;have ao:=λst=>Qw gl (ca:=ca) t r D A hst st;have am:=λst=>HH gl _ t (ew _) r D (by omega) st;obtain⟨O,a8,aG,tr2,aD,bi,bo,bf,aM,bc,aJ,v2,aQ,aW,ax,n2,aZ,aA,rfl⟩:=eT D;simp only[go_sem,zE,zA,zL];refine (hT _).mono ?_;rintro q st ⟨E,rfl⟩;have aq:=λst=>Ae gl G T ca t q E (Qe (Ak A) (by omega)) (by omega) st;have an:=λst=>z_ gl ai t q E (by omega) st;have hM:=λst=>HU gl t q _ E ac (by omega) st;obtain⟨J,a7,aF,tr3,aC,bh,bn,be,aL,bb,aI,v3,aO,aV,aw,n3,aY,az,rfl⟩:=eT E;simp only[go_sem,zE,zA,zL,reduceCtorEq];refine (aq _).mono ?_;rintro _ st ⟨⟨g1,rfl,ak⟩,rfl⟩;simp only[go_sem,zE,zA,zL,reduceCtorEq];refine (ao _).mono ?_;rintro _ st ⟨⟨g2,rfl,aj⟩,rfl⟩;generalize hCk ca t=w;obtain⟨p,e⟩:=w;have al:=λst=>DW gl g1 g2 p p ak aj st;simp only[go_sem,zE,zA];refine (al _).q ?_;have hp:eqB p p=true:=yQx.2 rfl;simp only[go_sem,zE,zA,zL,hp,dA];refine (an _).mono ?_;rintro _ st ⟨⟨u1,y1,rfl,ag,ab⟩,rfl⟩;simp only[go_sem,zE,zA];refine (am _).mono ?_;rintro _ st ⟨⟨u2,y2,rfl,af,aa⟩,rfl⟩;simp only[go_sem,zE,zA];have ah:(e_ t).length<=1000000:=by
  unfold e_;rw[dY];have:=iU (λq=>gZ q.2) (t.walk []);rw[sv] at this;omega
 refine (Qz gl (e_ t) u1 u2 y1 y2 ag ab af aa ah _).q ?_;simp only[go_sem,zE,zA,zL];refine (hM _).q ?_;simp only[go_sem,zE];exact c_ ⟨rfl,rfl⟩
def Mp (G:Gl gl)(T:Gt gl)(D:∀g x,gl g=some x->age x=x)(ca:Nat)(t:Tr)(x:IV)(J:IsTr t x)(hw:wTr t<=1099511627776)(st:ISt) :
  ICall prog gl 3 [.raw (.int .u8 ca),x] st (λr st'=>r=true/\st'=st):=by
 have hA:=λst=>Q0 gl G T D st;have hS:=λst=>Qc gl t x J hw st;have hK:=λO (hst:t.steps<=60) st=>Q3 gl G T D ca t x J O hst st;obtain⟨E,ak,ac,aj,ab,an,aq,am,af,al,ae,v',ag,ah,U,n',ai,aa,rfl⟩:=eT J;refine iI func3 ?_;simp only[go_sem,zE,zA,zL];refine (hS _).q ?_;cases A:(okT t&&decide (t.steps<=60))
 ·simp only[go_sem,zE,zA];refine (hA _).q ?_;simp only[go_sem,zE];exact c_ ⟨rfl,rfl⟩
 ·rw[bAt,dTe] at A;simp only[go_sem,zE,zA,zL,reduceCtorEq];refine (hK A.1 A.2 _).q ?_;simp only[go_sem,zE,zA];refine (hA _).q ?_;simp only[go_sem,zE];exact c_ ⟨rfl,rfl⟩
end Go.Proofs.Tryz
namespace Go.Proofs.Tryz
open Go Go.Iv Go.ChangeShapes
open Go.Proofs.YtakbihknkdpmgaaGreatDoor.Rows (uptoBulk uptoBulkAll)
set_option maxRecDepth 4000
def uSeq:prog.underlying 24=some (.struct #[⟨ "Left",22,0,false, "", "",0⟩,⟨ "Right",22,1,false, "", "",24⟩]):=by kernel_rfl
def HY:prog.underlying 32=some (.struct #[⟨ "Rule",5,0,false, "", "",0⟩,⟨ "Seq",24,1,false, "", "",8⟩,⟨ "Main",27,3,false, "", "",56⟩,⟨ "Term",29,7,false, "", "",128⟩,⟨ "Name",9,10,false, "", "",176⟩,⟨ "Sub",30,11,false, "", "",192⟩]):=by kernel_rfl
def Q4:prog.underlying 30=some (.slice 32):=by kernel_rfl
def nSeq:prog.cellsOf 24=2:=by kernel_rfl
def HZ:prog.cellsOf 32=12:=by kernel_rfl
mutual
def H0:∀t:Tm,wTm t<=2*pL t
 | .mk _ n us=>by have:=AD us;simp only[wTm,pL];omega
def AD:∀l:List Tm,wTms l<=2*mg l
 | []=>dJ _
 | a::l=>by have:=H0 a;have:=AD l;simp only[wTms,mg];omega
end
mutual
def H2:∀f:Fm,wFm f<=2*pM f
 | .mk _ n us sub=>by have:=AD us;have:=vF sub;simp only[wFm,pM];omega
def vF:∀l:List Fm,wFms l<=2*mO l
 | []=>dJ _
 | a::l=>by have:=H2 a;have:=vF l;simp only[wFms,mO];omega
end
section
variable {H:Type}{enc:TypeId×Value->H}{w:World}{spare:Nat->Bool}{held:Bool}
def RQ (d:DataW H)(s:Sq)(x:IV):Prop:=IsSq s x/\wFms s.l+wFms s.r<=2*uptoBulk d
def Q5 (O:Nat)(cs:List Value)(y:DataW H×List MemPlace)(h:DataW.trod enc prog w 0 spare held O 24 cs=some y)(hb:uptoBulk y.1<=1048576):∃s x,VL 0 (L0 w) w cs x.cells/\RQ y.1 s x:=by
 obtain⟨ys,n,rfl,rfl,hl,J,hf⟩:=DataW.trod_struct uSeq h
 match ys,J with
 | [y0,y1],_ =>
  rw[nSeq] at hl
  match cs,hl with
  | [c0,c1],_ =>
   have h0:=hf 0 _ rfl;have h1:=hf 1 _ rfl;simp only[ki,gJ] at h0 h1;simp only[ec,fx,uptoBulk,uptoBulkAll] at hb;obtain⟨v0,G,D,l0,e0,aa,ac,af,ak⟩:=xX h0 (by omega) (λm _=>xY m);obtain⟨v1,E,A,l1,e1,U,ab,ae,aj⟩:=xX h1 (by omega) (λm _=>xY m);cases e0;cases e1;refine⟨⟨l0,l1⟩,.agg [.sl G D,.sl E A],VL.cons aa (VL.cons U VL.nil),⟨G,D,E,A,rfl,ac,af,ab,ae⟩,?_⟩;have:=vF l0;have:=vF l1;simp only[ec,fx,uptoBulk,uptoBulkAll];omega
def H3:∀ {us:List Tr}{A:List IV},us.length=A.length->(∀(i:Nat)(a:Tr)(x:IV),us[i]?=some a->A[i]?=some x->IsTr a x)->IsTrs us A
 | [],A,h,_=>by simpa[IsTrs] using h.symm
 | a::us,[],h,_=>by simp at h
 | a::us,x::A,h,D=>⟨x,A,rfl,D 0 a x rfl rfl,H3 (by simpa using h) (λi b y G E=>D (i+1) b y (by simpa using G) (by simpa using E))⟩
def H4:∀ {us:List Tr}{ds:List (DataW H)},us.length=ds.length->(∀(i:Nat)(a:Tr)(d:DataW H),us[i]?=some a->ds[i]?=some d->wTr a+a.steps<=2*uptoBulk d)->wTrs us+fj us<=2*uptoBulkAll ds
 | [],ds,h,_=>by simp[wTrs,fj]
 | a::us,[],h,_=>by simp at h
 | a::us,x::D,h,A=>by
  have h1:=A 0 a x rfl rfl;have h2:=H4 (us:=us) (ds:=D) (by simpa using h) (λi b y G E=>A (i+1) b y (by simpa using G) (by simpa using E));simp only[wTrs,fj,uptoBulkAll];omega
def RR (d:DataW H)(t:Tr)(x:IV):Prop:=IsTr t x/\wTr t+t.steps<=2*uptoBulk d
def RR.cells {d:DataW H}{t:Tr}{x:IV}(h:RR d t x):x.cells.length=12:=by
 obtain⟨_,_,_,_,_,_,_,_,_,_,_,_,_,_,_,_,_,_,rfl⟩:=eT h.1;rfl
def Q6 {D:Nat}{cs:List Value}{y:DataW H×List MemPlace}(h:DataW.trod enc prog w 0 spare held D 30 cs=some y)(hb:uptoBulk y.1<=1048576)
  (IH:∀(n:Nat),n<D->∀(cs:List Value) (y:DataW H×List MemPlace),DataW.trod enc prog w 0 spare held n 32 cs=some y->uptoBulk y.1<=1048576->∃t x,VL 0 (L0 w) w cs x.cells/\RR y.1 t x) :
  ∃v J G ts,cs=[v]/\V 0 (L0 w) w v (.sl J G)/\okEs J 12/\IsTrs ts G/\wTrs ts+fj ts+1<=2*uptoBulk y.1:=by
 obtain⟨v,J,G,ts,rfl,hv,O,hl,hc⟩:=xV (H:=H) (P:=prog) (d:=y.1) (p:=y.2) RR Q4 HZ (by decide) h (λA sp e=>by
   have:=mS A sp;have:=uy A;rw[<- e] at *;omega) (λd t x h=>h.cells) (λn hn cs' z q ⟨A,sp,he,hm⟩ hz=>by
   have:=mS A sp;have:=ux hm;rw[he] at hb;exact IH n (by omega) cs' (z,q) hz (show uptoBulk z<=1048576 by omega))
 refine⟨v,J,G,ts,rfl,hv,O,?_⟩;rcases hc with⟨hd,rfl⟩|⟨A,sp,hd,ai,hr⟩
 ·obtain rfl:ts=[]:=ll.1 (by simpa using hl);exact⟨rfl,by rw[hd];simp[wTrs,fj,uptoBulk]⟩
 ·have U:∀(i:Nat) (a:Tr),ts[i]?=some a->∃x d,G[i]?=some x/\A[i]?=some d/\RR d a x:=λi a E=>by
   have U:=(lGs E).1;exact⟨_,_,dO (by omega),dO (by omega),hr i _ _ _ (dO (by omega)) E (dO (by omega))⟩
  refine⟨H3 hl (λi a x E hx=>?_),?_⟩
  ·obtain⟨x',d,h1,h2,h3⟩:=U i a E;rw[hx] at h1;cases h1;exact h3.1
  ·have:=H4 (us:=ts) (ds:=A) (by omega) (λi a d E aa=>by
    obtain⟨x',d',h1,h2,h3⟩:=U i a E;rw[aa] at h2;cases h2;exact h3.2)
   have:=mS A sp;grind
def cs12 {cs:List Value}(h:cs.length=12):∃a b c d e f g h i j k l,cs=[a,b,c,d,e,f,g,h,i,j,k,l]:=by
 match cs,h with
 | [a,b,c,d,e,f,g,h,i,j,k,l],_=>exact⟨a,b,c,d,e,f,g,h,i,j,k,l,rfl⟩
def Ml:∀(A:Nat)(cs:List Value)(y:DataW H×List MemPlace),DataW.trod enc prog w 0 spare held A 32 cs=some y->uptoBulk y.1<=1048576->∃t x,VL 0 (L0 w) w cs x.cells/\RR y.1 t x:=by
 intro A
 induction A using Nat.strongRecOn with
 | ind A IH =>
  intro cs y h hb;obtain⟨ys,n,rfl,rfl,hl,J,E⟩:=DataW.trod_struct HY h
  match ys,J with
  | [y0,y1,y2,y3,y4,y5],_ =>
   rw[HZ] at hl;obtain⟨c0,c1,c2,c3,c4,c5,c6,c7,c8,c9,aJ,aI,rfl⟩:=cs12 hl;have h0:=E 0 _ rfl;have h1:=E 1 _ rfl;have h2:=E 2 _ rfl;have h3:=E 3 _ rfl;have h4:=E 4 _ rfl;have h5:=E 5 _ rfl;simp only[ki,gJ] at h0 h1 h2 h3 h4 h5;simp only[ec,fx,uptoBulk,uptoBulkAll] at hb;obtain⟨op,e0,rfl,D⟩:=DataW.trod_int uw h0;obtain⟨s,xs,ac,af,ay⟩:=Q5 n _ _ h1 (by omega);obtain⟨f,xf,ae,O,aB⟩:=xY n _ _ h2 (by omega);obtain⟨t,xt,ab,G,aw⟩:=DB n _ _ h3 (by omega);obtain⟨nm,e4,hn,az⟩:=xW h4 (by omega);obtain⟨v,tg,xb,ts,e5,hv,av,hts,aD⟩:=Q6 h5 (by omega) (λm hm=>IH m (by omega));cases e0;cases e4;cases e5;have D:0<=op/\op<256:=by
    simp only[Lit.wf,IntKind.min,IntKind.max,IntKind.signed,IntKind.bits,bAt] at D;grind
   obtain⟨k,rfl⟩:=Int.eq_ofNat_of_zero_le D.1;obtain⟨tl,xl,tr,xr,rfl,k1,k2,k3,k4⟩:=af;have aC:=O;have ax:=G;obtain⟨o,fn,us,sub⟩:=f;obtain⟨ta,xa,tb,U,rfl,_⟩:=O.mk;obtain⟨b,un,uu⟩:=t;obtain⟨tu,xu,rfl,_⟩:=G.mk;refine⟨.mk k s (.mk o fn us sub) (.mk b un uu) nm ts,.agg [.raw (.int .u8 k),.sl tl xl,.sl tr xr,.raw (.int .u8 o),fn,.sl ta xa,.sl tb U,b,un,.sl tu xu,nm,.sl tg xb],
    VL.cons (.raw _ trivial) (ac.append (ae.append (ab.append (VL.cons hn (VL.cons hv VL.nil))))),?_,?_⟩
   ·simp only[IsTr];grind
   ·have:=H2 (.mk o fn us sub);have:=H0 (.mk b un uu);simp only[ec,fx,uptoBulk,uptoBulkAll,wTr,Tr.steps];omega
end
end Go.Proofs.Tryz
namespace Go.Proofs.Tryz
open Go Go.Iv Go.ChangeShapes Go.RowKit
open Go.Proofs.YtakbihknkdpmgaaGreatDoor
set_option maxRecDepth 8000
def uRow:prog.underlying 266=some (.struct #[⟨ "right",4,0,false, "", "lyceum/syntax",0⟩,⟨ "schema",4,1,false, "", "lyceum/syntax",1⟩,⟨ "name",5,2,false, "", "lyceum/syntax",2⟩,⟨ "args",3,3,false, "", "lyceum/syntax",8⟩,⟨ "subs",3,4,false, "", "lyceum/syntax",16⟩]):=by kernel_rfl
def Q7:prog.underlying 267=some (.array 17 266):=by kernel_rfl
def uInt:prog.underlying 3=some (.int .i64):=by kernel_rfl
def nRow:prog.cellsOf 266=5:=by kernel_rfl
def Q8:prog.cellsOf 267=85:=by kernel_rfl
def gRows:prog.globalNamed "lyceum/syntax.rows" = some 0:=by kernel_rfl
def gRowsT:(prog.globals[0]?).map (·.type)=some 267:=by kernel_rfl
def gPow:prog.globalNamed "internal/strconv.uint64pow10" = some 2:=by kernel_rfl
def gPowT:(prog.globals[2]?).map (·.type)=some 379:=by kernel_rfl
def uPow:prog.underlying 379=some (.array 20 322):=by kernel_rfl
def uU64:prog.underlying 322=some (.int .u64):=by kernel_rfl
def nPow:prog.cellsOf 379=20:=by kernel_rfl
def nU64:prog.cellsOf 322=1:=by kernel_rfl
section
variable {H:Type}{enc:TypeId×Value->H}{w:World}{spare:Nat->Bool}{held:Bool}
def rowD (op:Nat):DataW H:=.agg [.lit (.bool (gC op)),.lit (.bool (xj op)),.lit (.int .u8 (iz op)),.lit (.int .i64 (h_ op)),.lit (.int .i64 (ic op))]
def rowV (op:Nat):List Value:=[.bool (gC op),.bool (xj op),.int .u8 (iz op),.int .i64 (h_ op),.int .i64 (ic op)]
def Q9 {G:Nat}{cs:List Value}{op:Nat}{p:List MemPlace}(h:DataW.trod enc prog w 0 spare held G 266 cs=some (rowD op,p)):cs=rowV op:=by
 obtain⟨ys,n,rfl,U,hl,A,D⟩:=DataW.trod_struct uRow h
 match ys,A with
 | [y0,y1,y2,y3,y4],_ =>
  rw[nRow] at hl
  match cs,hl with
  | [c0,c1,c2,c3,c4],_ =>
   have h0:=D 0 _ rfl;have h1:=D 1 _ rfl;have h2:=D 2 _ rfl;have O:=D 3 _ rfl;have J:=D 4 _ rfl;simp only[ki,gJ] at h0 h1 h2 O J;obtain⟨b0,e0,rfl⟩:=DataW.trod_bool rL h0;obtain⟨b1,e1,rfl⟩:=DataW.trod_bool rL h1;obtain⟨b2,e2,rfl,_⟩:=DataW.trod_int uw h2;obtain⟨b3,e3,rfl,_⟩:=DataW.trod_int uInt O;obtain⟨b4,e4,rfl,_⟩:=DataW.trod_int uInt J;cases e0;cases e1;cases e2;cases e3;cases e4;have E:=dX Prod.fst U;simp only[rowD,ec,fx,DataW.agg.injEq,List.cons.injEq,DataW.lit.injEq,Lit.bool.injEq,Lit.int.injEq,true_and,and_true] at E;obtain⟨rfl,rfl,rfl,rfl,rfl⟩:=E;rfl
def Q_:(Rows.laid_lyceum_syntax_rows:DataW H)=.agg ((List.range 17).map rowD):=by rfl
def Ra {G:Nat}{cs:List Value}{p:List MemPlace}(h:DataW.trod enc prog w 0 spare held G 267 cs=some (Rows.laid_lyceum_syntax_rows,p)) :
  cs.length=85/\∀op,op<17->(cs.drop (op*5)).take 5=rowV op:=by
 obtain⟨ys,n,rfl,he,hl,J,U⟩:=DataW.trod_array Q7 h;rw[Q8] at hl;refine⟨hl,λop E=>?_⟩;have h1:=U op E;rw[nRow] at h1;have A:=dX Prod.fst he;rw[Q_] at A;simp only[DataW.agg.injEq] at A;have h2:(ys.map (·.1))[op]?=some (rowD op):=by
  rw[<- A,eI,List.getElem?_range E];rfl
 rw[eI] at h2;obtain⟨y,O,D⟩:=fb.1 h2;rw[O] at h1;obtain⟨y1,y2⟩:=y;simp only at D;subst D;exact Q9 h1
end
def gl0:Nat->Option IV
 | 0=>some (.agg rowsL)
 | 2=>some (.agg pow10L)
 | _=>none
def G0:Gl gl0:=⟨rfl⟩
def T0:Gt gl0:=⟨rfl⟩
def X0 (w:World):WS:={ w:=w,L:=L0 w,st:=λ_=>none,d:=0 }
def Rb {cs:List Value}(hl:cs.length=85)(h:∀op,op<17->(cs.drop (op*5)).take 5=rowV op)(i:Nat)(r:Value)(c:IV)(E:cs[i]?=some r)(hc:rowsL[i]?=some c):c=.raw r/\mz r:=by
 have G:i<85:=by have:=(lGs E).1;omega
 have A:i / 5<17:=by omega
 have e:i=i / 5*5+i%5:=by omega
 have D:i%5<5:=Nat.mod_lt _ (by decide);have h1:(rowV (i / 5))[i%5]?=some r:=by
  rw[<- h _ A,gg,cV D,lh,<- e];exact E
 have h2:(rowI (i / 5))[i%5]?=some c:=by
  rw[<- (Ck _ A).2,gg,cV D,lh,<- e];exact hc
 generalize i%5=k at h1 h2 D
 match k,D with
 | 0,_=>cases h1;cases h2;exact⟨rfl,trivial⟩
 | 1,_=>cases h1;cases h2;exact⟨rfl,trivial⟩
 | 2,_=>cases h1;cases h2;exact⟨rfl,trivial⟩
 | 3,_=>cases h1;cases h2;exact⟨rfl,trivial⟩
 | 4,_=>cases h1;cases h2;exact⟨rfl,trivial⟩
def Mo {W:World}(hL:laidMetH prog Rows.hintChecksUptoRow.laid W):Go.Iv.Good ⟨prog,gl0,0⟩ (X0 W):=by
 obtain⟨ps,A,_⟩:=(show laidMet prog _ W from hL)
 obtain⟨_,_,_,_,_,_,_,_,_,_,A,_⟩:=A;obtain⟨_,_,_,_,_,_,_,_,_,_,A,_⟩:=A;obtain⟨g1,t1,J,f1,p1,q1,aq,an,al,av,A,_⟩:=A;obtain⟨g2,t2,ag,f2,p2,q2,ao,am,ak,au,_,_⟩:=A;obtain rfl:=eE (gPow.symm.trans aq);obtain rfl:=eE (gPowT.symm.trans an);obtain rfl:=eE (gRows.symm.trans ao);obtain rfl:=eE (gRowsT.symm.trans am);have ac:=Lib.cells_of_tab (zs:=Lib.pow10Tab) uPow uU64 nU64 nPow av;have G:=Ra au;have hb:∀(n:String) (g:Nat) (cs:Array Value),prog.globalNamed n=some g->W.var? prog n=some cs->∃T f,W.heap[g]?=some (.cells cs T f):=by
  intro n g cs hn hv;unfold World.var? at hv;rw[hn,Option.bind_some] at hv;split at hv
  ·rename_i c t f hh;cases hv;exact⟨_,_,hh⟩
  ·cases hv
 obtain⟨T1,af,ab⟩:=hb _ _ _ gPow al;obtain⟨T2,ae,aa⟩:=hb _ _ _ gRows ak;have row:∀(g:Nat) (cs:Array Value) (T:TypeId) (f:Nat×Nat) (xs:List IV),W.heap[g]?=some (.cells cs T f)->cs.size=xs.length->(∀(i:Nat) (r:Value) (c:IV),cs.toList[i]?=some r->xs[i]?=some c->c=.raw r/\mz r) →
   V 0 (L0 W) W (.pointer (some ⟨g,0,none⟩)) (.cptr (.agg xs)):=by
  intro g cs T f xs hh hl h;refine .cptr _ _ cs.toList rfl (by simpa[IV.cells] using hl) ?_ (λi r E=>?_) (λi r c E hc=>?_)
  ·show 0+cs.toList.length<=L0 W g;simp[L0,hh]
  ·show W.cell? ⟨g,0+i,none⟩=some r;simp only[World.cell?,hh,ee];simpa using E
  ·obtain⟨rfl,hk⟩:=h i r c E hc;exact .raw _ hk
 have hp:∀(i:Nat) (r:Value) (c:IV),J.toList[i]?=some r->pow10L[i]?=some c->c=.raw r/\mz r:=by
  intro i r c E hc;rw[ac,eI] at E;unfold pow10L at hc;rw[eI] at hc;obtain⟨z,hz,rfl⟩:=fb.1 E;rw[hz] at hc;cases hc;exact⟨rfl,trivial⟩
 have U:J.size=pow10L.length:=by
  rw[<- jR,ac];simp[pow10L]
 have O:ag.size=rowsL.length:=by
  rw[<- jR,G.1];rfl
 refine⟨λb o h=>(by cases h),λg x D=>?_,fq _,λb hb=>?_,λg x D=>?_,λ_=>fq _⟩
 ·match g,D with
  | 0,D=>cases D;exact row 0 ag T2 ae _ aa O (λi r c E hc=>Rb G.1 G.2 i r c E hc)
  | 2,D=>cases D;exact row 2 J T1 af _ ab U hp
 ·show L0 W b=0;unfold L0;rw[Array.getElem?_eq_none (show W.heap.size<=b from hb)]
 ·match g,D with
  | 0,D=>cases D;exact⟨T2,ae == (0,0),by show shq W 0=_;simp[shq,aa,O,IV.cells]⟩
  | 2,D=>cases D;exact⟨T1,af == (0,0),by show shq W 2=_;simp[shq,ab,U,IV.cells]⟩
def Rc {W:World}{X':WS}(h:Ext (X0 W) X'):Below W.heap.size W X'.w :=
 ⟨h.os,h.tape,h.output,h.size,λk A=>(h.keep k A rfl).1⟩
def Re:laidOutB prog=true:=by kernel_rfl
def H5 {H:Type}{enc:TypeId×Value->H}{W W':World}(E:Below W.heap.size W W')(sp:Nat->Bool):∀ {ts:List TypeId} {vs:List Value} {ds:List (DataW H)} {ps:List MemPlace},
  (∀t∈ts,prog.readableRec t=true/\t<prog.types.size)->DataW.TrodAll enc prog W 0 (λ_=>true) true ts vs ds ps->(∀p∈ps,p.block<W.heap.size)->(∀p∈ps,sp p.block=true) →
  DataW.TrodAll enc prog W' 0 sp true ts vs ds ps
 | [],vs,ds,ps,_,h,_,_=>by
  obtain⟨rfl,rfl,rfl⟩:=trodAll_nil h;rfl
 | t::ts,vs,ds,ps,ht,h,D,A=>by
  obtain⟨v,G,d,J,a,b,rfl,rfl,rfl,h1,h2⟩:=trodAll_cons h;refine⟨a,b,WideElems.Trod_stays Re (ht t (by simp)).1 (ht t (by simp)).2 h1 (λp hp=>E.same (D p (by simp[hp]))) (λp hp=>A p (by simp[hp])),?_,rfl⟩;exact H5 E sp (λt h=>ht t (by simp[h])) h2 (λp hp=>D p (by simp[hp])) (λp hp=>A p (by simp[hp]))
def Mn {H:Type}{enc:TypeId×Value->H}{f:Func}{s:ChangeSpec}{af:FuncId}{W:World}{args:Array Value}{ds gs:List (DataW H)}{G:List MemPlace}{ab:List IV}
  (A:s.vars=[]) (hW:DataW.Whole enc prog f.params.toList s.vars false W args.toList ds gs G) (aa:s.fn H (ds++gs)={ results:=[.lit (.bool true)],args:=ds })
  (J:f.resultTypes=#[4]) (O:∀t∈f.params.toList,prog.readableRec t=true/\t<prog.types.size) (hg:Go.Iv.Good ⟨prog,gl0,0⟩ (X0 W)) (hv:VL 0 (L0 W) W args.toList ab)
  (hc:ICall prog gl0 af ab (λ_=>none) (λr st'=>r=true/\st'=λ_=>none)) :
  Calls prog af args W λe W'=>∃v,e=.returned v/\s.post enc prog f false true false false W args v W':=by
 refine (hc 0 (X0 W) args.toList hg rfl hv).mono ?_;rintro e W' ⟨v,rfl,X',x,rfl,ao,he,E,rfl,_⟩;obtain rfl:=dK E;have hb:=Rc he;refine⟨_,rfl,?_⟩;have ae:=hW;obtain⟨p,q,hA,hV,rfl,hz,_⟩:=hW;rw[A] at hV;have ai:gs=[]/\q=[]:=by
  cases gs with
  | nil=>exact⟨rfl,hV⟩
  | cons _ _=>exact absurd hV (by simp[DataW.TrodVars])
 obtain⟨rfl,rfl⟩:=ai;have U:∀x∈p,x.block<W.heap.size:=λx E=>by simpa using ae.lt x (by simpa using E)
 have D:∀sp:Nat->Bool,(∀x∈p,sp x.block=true)->DataW.TrodAll enc prog X'.w 0 sp true f.params.toList args.toList (s.fn H (ds++[])).args p:=λsp ah=>by
  rw[aa];exact H5 hb sp O hA U ah
 have hr:∀(b:Nat) (sp:Nat->Bool) (hd:Bool),DataW.TrodAll enc prog X'.w b sp hd f.resultTypes.toList ((Value.bool true).resultList f.resultTypes.size) (s.fn H (ds++[])).results []:=λ_ _ _=>by
  rw[aa,J];exact trodAll_cons_mk (shut_bool rL _) trodAll_mk0
 have ac:∀sp:Nat->Bool,DataW.TrodVars enc prog X'.w sp s.vars (s.fn H (ds++[])).vars []:=λ_=>by
  rw[A,aa];rfl
 have ag:∀x∈p,(λb=>decide (b<W.heap.size)) x.block=true:=λx E=>by simpa using U x E
 refine⟨ds,[],p++[],[],p,[],ae,hr _ _ _,D _ ag,ac _,World.keptBut_mono (λx E=>⟨E,Or.inr (by simpa using E)⟩) (hb.frame (·∈p++[])),λ_=>⟨ok_one J rfl (okWide_bool_mk rL _),_,_,([]++p)++[],
  ⟨[]++p,[],trodAll_append (D _ (λ_ _=>rfl)) (hr _ _ _),ac _,rfl,?_,λh=>by cases h⟩,λx E _=>by simpa using E⟩⟩
 intro b off hp;rw[hb.frozen (p:=⟨b,off,none⟩) (U (.cell b off) (by simpa using hp))];exact hz b off (by simpa using hp)
def Mm {W:World}{base:Nat}{v:Value}{t:Tr}{x:IV}(h:Value.okWide prog W .any base 32 v)(A:VL 0 (L0 W) W v.cells.toList x.cells)(D:IsTr t x):V 0 (L0 W) W v x:=by
 obtain⟨cs,rfl,_⟩:=WideShapes.okWide_struct HY h;obtain⟨_,_,_,_,_,_,_,_,_,_,_,_,_,_,_,_,_,_,rfl⟩:=eT D;cases cs;exact A.agg
def Mk {α:Prop}{W:World}{base:Nat}{v:Value}(h:Value.okWide prog W .any base 5 v)(_:α):∃b:Nat,v=.int .u8 b/\V 0 (L0 W) W (.int .u8 b) (.raw (.int .u8 b))/\b<256:=by
 simp only[Value.okWide,uw,Cell.okWide] at h;cases v<;>simp_all [Cell.ok];rename_i k n;obtain⟨rfl,h1,h2⟩:=h;have D:IntKind.u8.min=0:=by decide
 have A:IntKind.u8.max=255:=by decide
 rw[D] at h1;rw[A] at h2;refine⟨n.toNat,?_,?_,?_⟩
 ·omega
 ·exact .raw _ trivial
 ·omega
def tab32:List Int:=[0,1,28,2,29,14,24,3,30,22,20,15,25,17,4,8,31,27,13,23,21,19,16,7,26,12,18,6,11,5,10,9]
def tab64:List Int:=[0,1,56,2,57,49,28,3,61,58,42,50,38,29,17,4,62,47,59,36,45,43,51,22,53,39,33,30,24,18,12,5,63,55,48,27,60,41,37,16,46,35,44,21,52,32,23,11,54,26,40,15,34,20,31,10,25,14,19,9,13,8,7,6]
def lay (cs:List Value):Obj->Obj
 | .cells _ t frozen=>.cells cs.toArray t frozen
 | o=>o
noncomputable def yg (os:Os):World :=
 { World.holding prog os ⟨#[],#[],[]⟩ with heap:=((((World.holding prog os ⟨#[],#[],[]⟩).heap.modify 0 (lay ((List.range 17).flatMap rowV))).modify 2 (lay (Lib.pow10Tab.map λz=>.int .u64 z))).modify 3 (lay (tab32.map λz=>.int .u8 z))).modify 4 (lay (tab64.map λz=>.int .u8 z)) }
def Mu (os:Os)(args:Array Value):laidMet prog Rows.hintChecksUptoRow.laid ((yg os).forCall (λ_ _=>0) ⟨#[],args,[]⟩).memory :=
 laidMet_of_run' 8 (by kernel_rfl) (by kernel_rfl)
end Go.Proofs.Tryz
namespace Go.Proofs.Tryz
open Go Go.Iv
set_option maxRecDepth 4000
def AE:∀l:List IV,(∀x∈l,∃v,x=.raw v)->ages l=l
 | [],_=>rfl
 | x::l,h=>by
  obtain⟨v,rfl⟩:=h x (by simp);simp only[ages,age,AE l λy A=>h y (by simp[A])]
def Mq:∀g x,gl0 g=some x->age x=x:=by
 intro g x D
 match g,D with
 | 0,D =>
  cases D;simp only[age];rw[AE _ λy A=>?_];obtain⟨op,_,A⟩:=f_.1 A;unfold rowI at A;simp only[dN,ga,fe] at A;rcases A with rfl|rfl|rfl|rfl|rfl<;>exact⟨_,rfl⟩
 | 2,D =>
  cases D;simp only[age];rw[AE _ λy A=>?_];obtain⟨z,_,rfl⟩:=dH.1 A;exact⟨_,rfl⟩
