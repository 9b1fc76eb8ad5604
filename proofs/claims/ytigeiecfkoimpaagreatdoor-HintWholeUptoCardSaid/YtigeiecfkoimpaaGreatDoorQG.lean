/- The tree of least height that search han -/
import Derived.Test.YtigeiecfkoimpaaGreatDoorQF
set_option linter.all false
open Nat renaming reduceEqDiff → zE,reduceBEq → zB,reduceAdd → zA,reduceMul → zM,reduceLeDiff → zL
namespace Go.Proofs.Tryz
open Go Go.Iv
abbrev trZ0:Tr:=.mk 0 ⟨[],[]⟩ fm0 tmZ noN []
noncomputable def mstS (j:Bool)(ps:List Sn):Nat:=if ps.any (λp=>decide (hF j p=0))=true then 0 else ps.foldl (λm p=>max m (hF j p)) 0
noncomputable def Pr (j:Bool)(s:Sn):Option (Nat×Fm×List Sn):=(mvF j s).find? λm=>decide (mstS j m.2.2+1=hF j s)
open Classical in
noncomputable def axF (s:Sn):Option (Nat×Fm):=match s.1.find? (λf=>decide (f∈s.2)) with
 | some f=>some (1,f)
 | none=>if s.1.any jU=true then some (2,.mk 2 noN [] []) else none
noncomputable def tF (j:Bool):Nat->Sn->Tr
 | 0,_=>trZ0
 | n+1,s=>match axF s with
  | some (r,f)=>.mk r (sqOf s) f tmZ noN []
  | none=>match Pr j s with
   | some m=>.mk m.1 (sqOf s) m.2.1 tmZ noN (m.2.2.map (tF j n))
   | none=>trZ0
def Ps {s:Sn}{r:Nat}{f:Fm}(h:axF s=some (r,f)):(r=1/\f∈s.1/\f∈s.2)\/(r=2/\f=.mk 2 noN [] []/\∃g∈s.1,jU g=true):=by
 unfold axF at h;split at h
 ·rename_i G D;cases h;exact .inl ⟨rfl,List.mem_of_find?_eq_some D,by simpa using List.find?_some D⟩
 ·split at h
  ·rename_i E;cases h;obtain⟨g,h1,h2⟩:=gk.1 E;exact .inr ⟨rfl,rfl,g,h1,h2⟩
  ·cases h
def GQ {ca:Nat}(hc:ca=1\/ca=2){s:Sn}(h1:s.1.length<=64)(h2:s.2.length<=64)(h3:∀f∈s.1,fmB ca f=true)(D:∀f∈s.2,fmB ca f=true)(h5:ca=2->s.2.length<=1):en ca (sqOf s)=true:=by
 have G:gR ca=true:=by unfold gR;rcases hc with rfl|rfl<;>rfl
 have O:(decide (ca≠2) || p_ s.2)=true:=by
  rcases hc with rfl|rfl
  ·rfl
  ·have:=h5 rfl;cases hs:s.2 with
   | nil=>rfl
   | cons f l =>
    rw[hs] at this D;obtain rfl:l=[]:=ev (by simpa using this);have E:f.right=true:=by have:=D f (.head _);unfold fmB at this;exact (bAt _ _▸this).1
    have J:eqF f f=true:=by unfold eqF mn;rw[E,dEt rfl];simp[eqB]
    simp[p_,J]
 unfold en sqOf;simp only[G,dEt h1,dEt h2,eF.2 h3,eF.2 D,O,Bool.and_self]
def sE {l:List Fm}:(setF l).length<=l.length:=qw (GJ l) λf D=>yXq.1 D
def Pt {f:Fm}{r:Bool}{t:Nat×List Sn}(h:t∈addF true f r):∀p∈t.2,p.2.length<=1:=by
 unfold addF at h;split at h<;>simp at h
 all_goals first
  | (subst h;simp;done)
  | (rcases h with rfl|rfl<;>simp;done)
def GR {ca:Nat}(hc:ca=1\/ca=2){s0:Sq}(hv:en ca s0=true){K:List Sn}(hK:ReachOk (calJ ca) (nf (s0.l,s0.r)) K){s:Sn}(h:Rch (calJ ca) (nf (s0.l,s0.r)) s) :
  en ca (sqOf s)=true/\nf s=s/\(ca=2->s.2.length<=1)/\(∀f∈s.1,fmB ca f=true)/\(∀f∈s.2,fmB ca f=true):=by
 have aj:ca≠3:=by omega
 induction h with
 | refl =>
  have aa:=qJ hv;have h1:∀f∈setF s0.l,fmB ca f=true:=λf D=>aa f (gg _ (yXq.1 D));have h2:∀f∈setF s0.r,fmB ca f=true:=λf D=>aa f (fV _ (yXq.1 D));have J:s0.l.length<=64/\s0.r.length<=64:=by
   unfold en at hv;simp only[bAt,dTe] at hv;exact⟨hv.1.1.1.1.2,hv.1.1.1.2⟩
  have h5:ca=2->(setF s0.r).length<=1:=λh=>by
   subst h;have hu:=z8 hv;cases hs:setF s0.r with
   | nil=>exact ed _
   | cons f l =>
    have hnd:=GJ s0.r;rw[hs] at hnd;have:∀g∈l,g=f:=λg G=>hu g (yXq.1 (by rw[hs];exact .tail _ G)) f (yXq.1 (by rw[hs];exact .head _));cases l with
    | nil=>exact dG _
    | cons g l=>exact ((gN.1 hnd).1 (by rw[this g (.head _)];exact .head _)).elim
  exact⟨GQ hc (dN sE J.1) (dN sE J.2) h1 h2 h5,Fb _,h5,h1,h2⟩
 | @step s1 h1 ai m hm p ae ih =>
  obtain⟨_,_,i1,i2,i3⟩:=ih;have af:=hK.short s1 ((hK.mem s1).2 h1) ai;have key:∀(r:Bool) (f:Fm),f∈(if r=true then s1.2 else s1.1)->m∈jB (calJ ca) s1 r f->en ca (sqOf p)=true/\nf p=p/\(ca=2->p.2.length<=1)/\(∀f∈p.1,fmB ca f=true)/\(∀f∈p.2,fmB ca f=true):=λr f D ag=>by
   obtain⟨t,ht,rfl⟩:=dH.1 ag;obtain⟨q,hq,rfl⟩:=dH.1 ae;have ah:fmB ca f=true:=by cases r<;>simp at D<;>first|exact i2 f D|exact i3 f D
   obtain⟨a1,a2⟩:=FK aj ah ht q hq;have E:¬ tooL (calJ ca) s1 q:=λh=>af ⟨f,r,D,t,ht,q,hq,h⟩;unfold tooL at E;have e1:(s1.1++q.1).length<=64:=by rw[lLa];omega
   have e2:(rgt (calJ ca) s1.2 q.2).length<=64:=by
    unfold rgt;by_cases hj:calJ ca=true/\q.2≠[]
    ·rw[cX hj];rw[cX hj] at E;omega
    ·rw[a_ hj,lLa];rw[a_ hj] at E;omega
   have g1:∀f∈setF (s1.1++q.1),fmB ca f=true:=λg G=>(dQ.1 (yXq.1 G)).elim (i2 g) (a1 g);have g2:∀f∈setF (rgt (calJ ca) s1.2 q.2),fmB ca f=true:=λg G=>by
    have G:=yXq.1 G;unfold rgt at G;split at G
    ·exact a2 g G
    ·exact (dQ.1 G).elim (i3 g) (a2 g)
   have g3:ca=2->(setF (rgt (calJ ca) s1.2 q.2)).length<=1:=λh=>by
    refine dN sE ?_;subst h;unfold rgt;by_cases O:q.2=[]
    ·rw[a_ λh=>h.2 O,O,ek];exact i1 rfl
    ·rw[cX ⟨rfl,O⟩];exact Pt ht q hq
   exact⟨GQ hc (s:=np (calJ ca) s1 q) (dN sE e1) (dN sE e2) g1 g2 g3,Fb _,g3,g1,g2⟩
  rcases dQ.1 hm with hm|hm
  ·obtain⟨f,D,hm⟩:=fh.1 hm;exact key false f D hm
  ·obtain⟨f,D,hm⟩:=fh.1 hm;exact key true f D hm
noncomputable def jV:Tr->Bool
 | .mk r _ m _ _ sub=>decide (r=0)&&sub.isEmpty&&decide (eK m fm0=0)
def ki:Tr->Bool
 | .mk r _ _ _ _ sub=>decide (r=0)&&sub.isEmpty
abbrev goalT (s:Sq):Tr:=.mk 0 s fm0 tmZ noN []
def shal:Tr->Tr
 | .mk r s m _ _ sub=>.mk r s m tmZ noN (sub.map λp=>goalT p.sq)
noncomputable def gx (ca:Nat)(t:Tr):Bool:=if jV t=true then en ca t.sq else decide ((gj ca (shal t)).2=0) || decide (0<(gj ca (shal t)).1.length)
noncomputable def badN (ca:Nat)(t:Tr):Nat:=if gx ca t=true then 0 else 270
noncomputable def hCk (ca:Nat)(t:Tr):List Nat×Nat:=if ca=1\/ca=2 then (if 300<t.steps then ([],5) else fz (badN ca) (t.walk [])) else ([],2)
def eY (t:Tr):List (List Nat):=((t.walk []).filter λq=>ki q.2).map (·.1)
def atT:Tr->List Nat->Tr
 | t,[]=>t
 | .mk _ _ _ _ _ sub,i::p=>match sub[i]? with
  | some s=>atT s p
  | none=>trZ0
end Go.Proofs.Tryz
namespace Go.Iv
open Go
def sF {M B:Nat}{L L':Nat->Nat}{w:World}{r:Value}{t:Tag}{xs:List IV}(hL:∀b,M<=b->L' b=L b)(hB:B<=M)(ht:t.cap=.nil\/t.fresh=true)(hx:∀x∈xs,∃v,x=.raw v)(h:V M L w r (.sl t xs)):V B L' w r (.sl t xs):=by
 cases h with
 | sl a cap t xs T vs E O ae hs aa G D af h =>
  have J:∀(i:Nat) (r:Value) (c:IV),vs[i]?=some r->(xs.flatMap IV.cells)[i]?=some c->V B L' w r c:=λi r c hr hc=>by
   have aj:=lMg hc;obtain⟨x,ag,ac⟩:=fh.1 aj;obtain⟨v,rfl⟩:=hx x ag;simp only[IV.cells,dR] at ac;subst ac;cases h i r _ hr hc with
   | raw _ hv=>exact .raw _ hv
  rcases ht with ht|ht
  ·have ah:xs=[]:=by
    rw[ht] at E;exact ev E.2.1
   exact .sl a cap t xs T vs E O ae hs aa G (λhf ad ha=>by have:=D hf ad ha;exact⟨by omega,this.2⟩) (λab=>absurd ah ab) J
  ·refine .sl a cap t xs T vs E O ae hs aa G (λhf ad ha=>by have:=D hf ad ha;exact⟨by omega,this.2⟩) (λab=>?_) J;grind
def Newly (r:IV):Prop:=∀(M B:Nat) (L L':Nat->Nat) (w:World) (v:Value),(∀b,M<=b->L' b=L b)->B<=M->V M L w v r->V B L' w v r
def Newly.sl {t:Tag}{xs:List IV}(ht:t.cap=.nil\/t.fresh=true)(D:∀x∈xs,∃v,x=.raw v):Newly (.sl t xs):=λ_ _ _ _ _ _ E G h=>sF E G ht D h
section
variable {P:Program}{gl:Nat->Option IV}{f:FuncId}{args args':List IV}{st:ISt}
def sH {K:IV->Prop}(hf:∀b o,st b=some o->(∃cs,o=.box cs)\/Cj o)(aj:∀g x,gl g=some x->age x=x)(hl:Lents st args args')(h:ICall P gl f (ages args') (j7 st) (λr st'=>st'=j7 st/\Newly r/\K r)) :
  ICall P gl f args st (λr st'=>st'=st/\K r):=by
 intro B X rs hg hst hv;subst hst;have J:=hg.lend;have ak:Good ⟨P,gl,X.w.heap.size⟩ X.lend:=⟨λb o D=>(J.ok b o D).flat (by
   have O:j7 X.st b=some o:=D;rcases hf b o (xh X.st b o O) with⟨cs,rfl⟩|al
   ·rw[rz (xh X.st b _ O)] at O;cases O
   ·exact al) rfl rfl,λg x hx=>by
   have h1:=aj g x hx;have h2:=(J.gl g x hx).aged (B':=X.w.heap.size);simp only[age,h1] at h2;exact h2,dG _,J.Lnew,J.gsh,J.dr⟩
 have ai:Cx.vl ⟨P,gl,X.w.heap.size⟩ X.lend rs (ages args'):=VL.aged (hl.v hg hv);refine (h X.w.heap.size X.lend rs ak rfl ai).mono ?_;rintro e w' ⟨v,rfl,X',x,rfl,h2,h3,h4,h5,h6,h7⟩;have ag:∀ {b o},X.st b=some o->b<X.w.heap.size:=λD=>hg.lt D
 let Y:WS:={ w:=X'.w,L:=λb=>match X.st b with|some (.box _)=>0|_=>X'.L b,st:=X.st,d:=X'.d }
 have an:∀ {b cs},X.st b=some (.box cs)->Y.L b=0:=λD=>by simp only[Y,D]
 have ab:∀ {b},(∀cs,X.st b≠some (.box cs))->Y.L b=X'.L b:=λ{b} D=>by
  grind
 have ah:∀ {b cs},X.st b=some (.box cs)->X'.w.heap[b]?=X.w.heap[b]?:=λ{b cs} D=>(h3.keep b (ag D) (rz D)).1;have he:Ext X Y:=by
  refine⟨h3.os,h3.tape,h3.output,h3.size,λb=>?_,λb i hi=>?_,λb D hs=>?_,λb _ hs=>hs,h3.shape,h3.d⟩
  ·by_cases D:∃cs,X.st b=some (.box cs)
   ·obtain⟨cs,D⟩:=D;rw[(hg.ok b _ D).1];exact ed _
   ·rw[ab λcs hc=>D ⟨cs,hc⟩];exact dN (hg.lend_ext.lmono b) (h3.lmono b)
  ·exact h3.cells b i (kG hi (hg.lend_ext.lmono b))
  ·have G:∀cs,X.st b≠some (.box cs):=λcs hc=>by rw[hs] at hc;cases hc
   obtain⟨k1,k2⟩:=h3.keep b D ((tZ G).trans hs);exact⟨k1,by rw[ab G,k2,rA G]⟩
 have af:∀b,X.w.heap.size<=b->Y.L b=X'.L b:=λb D=>ab λcs hc=>by have:=ag hc;omega
 have ao:V B Y.L Y.w v x:=h6 _ _ _ _ _ _ af hg.B h4;refine⟨v,rfl,Y,_,rfl,⟨λb o D=>?_,λg x ae=>he.v (hg.gl g x ae),dN hg.B h3.size,λb D=>?_,λg x ae=>?_,h2.dr⟩,he,ao,rfl,h7⟩
 ·by_cases E:∃cs,X.st b=some (.box cs)
  ·obtain⟨cs,E⟩:=E;have O:X.st b=some o:=D;rw[E] at O;cases O;exact (hg.ok b _ E).mono (ah E) (by rw[an E,(hg.ok b _ E).1]) (λ_ _ hv=>he.vl hv)
  ·have G:∀cs,X.st b≠some (.box cs):=λcs hc=>E ⟨cs,hc⟩;have h1:X'.st b=some o:=by rw[h5];exact (tZ G).trans D
   exact (h2.ok b o h1).flat ((hf b o D).resolve_left λ⟨cs,hc⟩=>E ⟨cs,D.trans (dZ some hc)⟩) rfl (ab G)
 ·have G:∀cs,X.st b≠some (.box cs):=λcs hc=>by
   grind
  rw[ab G];exact h2.Lnew b D
 ·exact h2.gsh g x ae
end
def GS {l:Array Bool}{i j:Nat}(D:i<l.size):(l.setIfInBounds i true).getD j false=if i=j then true else l.getD j false:=by
 by_cases h:i=j
 ·subst h;rw[cX rfl];simp[D]
 ·rw[a_ h,getD_set_ne false h]
def jC (c:Cf)(ops:List Oper)(dst:Option Nat)(op:Op)(E:TypeId)(pos:String)(D:Array Edge)(K:Kt)(ad:Ad)(fr:Fr)(st:ISt)(ds:List Dfd):iS c ops ⟨dst,op,E,pos,D,none⟩ K ad fr st ds=vcOp c dst op K ad fr st ds:=rfl
def kX {ad:Ad}(h:∀s,ad s=none)(d:Nat):∀s,ad.put d none s=none:=λs=>by
 rw[Ad.put_apply,h s];split<;>rfl
def GU {ops:Array Oper}{D:Array Bool}(h:((List.range ops.size).all λi=>(opAt ops i).after.toList.all λe=>!Region.binds .any e || decide (e.on<i))=true)(hz:D.size=ops.size)(hr:Region.ready .any ops D=[]):∀i,i<ops.size->D.getD i false=true:=by
 intro i
 induction i using Nat.strongRecOn with
 | _ i ih =>
  intro E;refine gM λhc=>?_;have h4:D.getD i true=false:=by
   rw[lv,mB (by omega)] at hc ⊢;simpa using hc
  have:i∈Region.ready .any ops D:=mem_ready.2 ⟨h4,_,nJ E,λe G hb=>by
   have O:=eF.1 (eF.1 h i (jK.2 E)) e (by simpa using G);rw[hb] at O;have J:e.on<i:=by simpa using O
   exact ih e.on J (Nat.lt_trans J E)⟩
  rw[hr] at this;cases this
end Go.Iv
namespace Go.Proofs.Tryz
open Go Go.Iv
set_option maxRecDepth 4000
variable (gl:Nat->Option IV)
def GV {p:List Nat}{k a:Nat}(h:p[k]?=some a):(plI p)[k]?=some (.raw (.int .i64 (a:Int))):=by simp[plI,eB,h]
def Pu (p q:List Nat):plI (p++q)=plI p++plI q:=by simp[plI]
def sumN:List Nat->Nat
 | []=>0
 | a::l=>a+sumN l
def z_:∀l m:List Nat,sumN (l++m)=sumN l+sumN m
 | [],m=>by simp[sumN]
 | a::l,m=>by simp only[eu,sumN,z_ l m];omega
def Pv (l:List Nat)(k:Nat):sumN (l.take k)<=sumN l:=by
 conv=>rhs;rw[<- eA k l]
 rw[z_];omega
def Pw (E:Tag)(l:List Nat)(J:okEs E 1)(hs:sumN l<=4611686018427387904)(st:ISt):ICall prog gl 56 [.sl E (plI l)] st (λr st'=>r=(sumN l:Int)/\st'=st):=by
 refine iI func56 ?_;simp only[go_sem,reduceCtorEq,iW];intro _;refine dt l.length (λk fr st' ds=>fr 3=(sumN (l.take k):Int)/\fr 6=.iv (.sl E (plI l))/\fr 7=l.length/\fr 8=.iv (.raw (.int .i64 k))/\st'=st/\ds=[]) ?_ ?_ ?_
 ·simp only[go_sem,zE];simp[sumN]
 ·rintro k fr G _ D ⟨f3,f6,f7,f8,rfl,rfl⟩;obtain⟨a,O⟩:=dD D;have h1:=Pv l (k+1);have h2:sumN (l.take (k+1))=sumN (l.take k)+a:=by rw[dM O,z_];rfl
  have h3:IntKind.i64.wrap (((sumN (l.take k):Nat):Int)+(a:Int))=((sumN (l.take (k+1)):Nat):Int):=by rw[w64]<;>omega
  simp only[go_sem,zE,f3,f6,f7,f8,lt_i D,dB J,iNn,GV O,fits,h3,dL D (by omega)]
 ·rintro fr G _ ⟨f3,f6,f7,f8,rfl,rfl⟩;rw[lTl] at f3;simp only[go_sem,zE,f3,f7,f8,dS (nLi _)];exact c_ ⟨rfl,rfl⟩
def GW:Tr->List Tr
 | .mk _ _ _ _ _ sub=>sub
def vC (g:Nat)(v:Tr->Nat):Prop:=∀(t:Tr) (l:List Nat) (x:IV) (E:Tag) (D st:ISt),IsTr t x->t.steps<=1099511627776->l=(GW t).map v->own st E l.length 1 D->subSt D st →
 ICall prog gl g [x,.sl E (plI l)] st (λr st'=>r=(v t:Int)/\subSt D st')
def Aa:∀ {l:List Tr}{t:Tr},t∈l->t.steps<=eE l
 | a::l,t,h=>by
  simp only[eE];rcases dF.1 h with rfl|h
  ·omega
  ·have:=Aa h;omega
def vD:∀l:List Tr,l.length<=eE l
 | []=>dG _
 | .mk _ _ _ _ _ s::l=>by
  have:=vD l;simp only[dX,eE,Tr.steps];omega
def vE (v:Tr->Nat)(g:Nat)(t:Tr):Prop:=∀(x:IV) (_:IsTr t x) (_:t.steps<=1099511627776) (st:ISt),ICall prog gl 54 [x,.fn (.func g) [] []] st (λr st'=>r=(v t:Int)/\st'=st)
def Px (v:Tr->Nat)(g:Nat)(af:entI prog g=true)(hg:vC gl g v)(rule:Nat)(sq:Sq)(f:Fm)(u:Tm)(n:ByteArray)(sub:List Tr)(IH:∀a∈sub,vE gl v g a):vE gl v g (.mk rule sq f u n sub):=by
 intro x hx hs st;have aj:=hx;obtain⟨tl,xl,tr,xr,op,fn,ta,xa,tb,xb,vb,un,tu,xu,ts,xs,rfl,aQ,_,_,_,_,_,_,e3,i3⟩:=hx.mk;have ak:=hs;simp only[Tr.steps] at hs;have hll:=vD sub;refine iI func54 ?_;simp only[go_sem,zE,i3.len];intro _;refine dt sub.length (λk fr st' ds=>(∃E,fr 5=.iv (.sl E (plI ((sub.take k).map v)))/\own st' E k 1 st/\subSt st st')/\fr 1=.iv (.fn (.func g) [] [])/\fr 2=.box [.raw (.int .u8 rule),.sl tl xl,.sl tr xr,.raw (.int .u8 op),fn,.sl ta xa,.sl tb xb,vb,un,.sl tu xu,n,.sl ts xs] /\
  fr 9=.iv (.sl ts xs)/\fr 10=sub.length/\fr 11=.iv (.raw (.int .i64 k))/\ds=[]) ?_ ?_ ?_
 ·simp only[go_sem,zE];exact⟨⟨_,rfl,.inl ⟨rfl,rfl⟩,subSt.refl _⟩,rfl⟩
 ·rintro k fr O _ ae ⟨⟨E,f5,J,G⟩,f1,f2,f9,f10,f11,rfl⟩;obtain⟨a,ha⟩:=dD ae;obtain⟨z,al,hz⟩:=i3.get ha;have hst:=Aa (lMg ha);have D:=IH a (lMg ha) z hz (by omega) O;obtain⟨ai,aJ,ax,aI,av,aO,aT,aM,aA,aK,ay,v',aD,aF,ao,n',aH,au,rfl⟩:=ft hz;simp only[go_sem,zE,zB,zA,zL,f1,f5,f9,f10,f11,lt_i ae,dB e3,iNn,al,fits];refine D.mono ?_;rintro _ _ ⟨rfl,rfl⟩;simp only[go_sem,zE,zA,zM,zL,fits,rZ];refine mX J (by rw[iW,dP,dU];omega) G rfl (by simp[fits,IV.one]) (by simp only;omega) (by omega) λah st4 ac aa _ _=>?_;simp only[go_sem,zE,f1,f2,f9,f10,f11,dL ae (by omega)];exact⟨ah,by rw[dM ha,eQ,Pu];rfl,ac,aa⟩
 ·rintro fr O _ ⟨⟨E,f5,J,G⟩,f1,f2,f9,f10,f11,rfl⟩;rw[lTl] at f5;have D:=hg _ (sub.map v) _ E st O aj ak rfl (by rw[dP];exact J) G;simp only[go_sem,zE,zA,zL,f1,f2,f5,f10,f11,dS (nLi _),af];refine D.mono ?_;rintro _ aN ⟨rfl,ab⟩;simp only[go_sem];exact eI ab ⟨rfl,rfl⟩
def GX (v:Tr->Nat)(g:Nat)(D:entI prog g=true)(E:vC gl g v):∀(k:Nat) (t:Tr),SizeOf.sizeOf t<k->vE gl v g t
 | 0,t,h=>by omega
 | k+1,.mk r sq f u n sub,h=>Px gl v g D E r sq f u n sub (λa G=>GX v g D E k a (by
   have:=lSm G;simp at h;omega))
def Py (v:Tr->Nat)(g:Nat)(D:entI prog g=true)(E:vC gl g v)(t:Tr):vE gl v g t:=GX gl v g D E _ t (eS _)
def Ab:∀l:List Tr,sumN (l.map Tr.steps)=eE l
 | []=>rfl
 | a::l=>by simp only[ec,sumN,eE,Ab l]
def Pz:vC gl 55 Tr.steps:=by
 rintro⟨rule,s,m,u,n,sub⟩ l x tg ao st hx hs rfl E G;simp only[GW] at E ⊢;simp only[Tr.steps] at hs;have D:=λst=>Pw gl tg (sub.map Tr.steps) E.es (by rw[Ab];omega) st;have hw:IntKind.i64.wrap (1+((eE sub:Nat):Int))=((1+eE sub:Nat):Int):=by rw[w64]<;>omega
 rw[Ab] at D;obtain⟨J,ak,ac,aj,ab,aq,aw,an,af,am,ae,v',ag,ah,O,n',ai,aa,rfl⟩:=ft hx;refine iI func55 ?_;simp only[go_sem,zE,zA];refine (D _).q ?_;simp only[go_sem,hw];exact c_ ⟨by simp only[Tr.steps],G⟩
def Ac (t:Tr)(x:IV)(E:IsTr t x)(hs:t.steps<=1099511627776)(st:ISt):ICall prog gl 29 [x] st (λr st'=>r=(t.steps:Int)/\st'=st):=by
 have hf:=λst=>Py gl Tr.steps 55 (by simp only[go_sem]) (Pz gl) t x E hs st;obtain⟨D,ai,aa,ah,O,al,an,ak,ac,aj,ab,v',ae,af,G,n',ag,J,rfl⟩:=ft E;refine iI func29 ?_;simp only[go_sem,zE,zA,zL];refine (hf _).q ?_;simp only[go_sem];exact c_ ⟨rfl,rfl⟩
def PA {g cap:Nat}{p:List Nat}{cs:List IV}(hl:p.length<=1099511627776)(h1:p.length<=cap)(h2:cap<=cs.length)(J:cs.take p.length=plI p):Lents (emp.put g (some (.box cs))) [.raw (.slice (some ⟨g,0,none⟩) p.length cap)] [.sl ⟨false,.app g,1⟩ (plI p)]:=by
 refine⟨_,_,rfl,.inr ⟨.sl ⟨true,.app g,1⟩ (plI p),?_,?_⟩,rfl⟩
 ·rw[<- iW p];refine .sl g cap ⟨true,.app g,1⟩ (plI p) cs rfl (by rw[iW];omega) (by rw[iW];exact h1) (λx D=>?_) (b_ ..) (by simpa using h2) λi r c E hc=>?_
  ·obtain⟨i,_,rfl⟩:=dH.1 D;rfl
  ·rw[yV p] at hc;have G:i<p.length:=by
    have:=(lGs hc).1
    rwa [iW] at this
   have:(cs.take p.length)[i]?=cs[i]?:=by rw[gd,cX G]
   rw[J,hc,E] at this;cases this;exact .refl _
 ·simp only[age,uU]
def PB {g:Nat}{cs:List IV}:j7 (emp.put g (some (.box cs)))=emp:=by
 funext b;by_cases D:b=g
 ·rw[D,rz (b_ ..)];rfl
 ·have:(emp.put g (some (.box cs))) b=none:=by rw[ISt.put_apply,a_ D];rfl
  rw[tZ (λcs' h=>by rw[this] at h;cases h),this];rfl
def PC (O:∀g x,gl g=some x->age x=x)(p:List Nat)(a:IV)(e s:ISt)(hp:PlV p a e)(hl:p.length<=1099511627776)(hd:disj s e):ICall prog gl 32 [a] (join s e) (λr st'=>(∃D,r=.sl D (plI p)/\okEs D 1)/\st'=join s e):=by
 have key:ICall prog gl 32 [a] e (λr st'=>st'=e/\∃D,r=.sl D (plI p)/\okEs D 1):=by
  rcases hp with⟨t,rfl,ht,rfl,rfl⟩|⟨g,cap,cs,rfl,rfl,h1,h2,h3⟩
  ·exact (Na gl t ht emp).mono λr st' ⟨⟨D,h,J⟩,h2⟩=>⟨h2,D,h,J.1⟩
  ·refine sH (K:=λr=>∃D,r=.sl D (plI p)/\okEs D 1) (λb o E=>?_) O (PA hl h1 h2 h3) ?_
   ·rw[ISt.put_apply] at E;split at E
    ·cases E;exact .inl ⟨_,rfl⟩
    ·cases E
   ·rw[PB,show ages [.sl ⟨false,.app g,1⟩ (plI p)]=[.sl ⟨false,.app g,1⟩ (plI p)] by simp only[ages,age,uU]];have hw:∀r (st':ISt),((∃D,r=.sl D (plI p)/\okN D)/\st'=emp)->st'=emp/\Newly r/\∃D,r=.sl D (plI p)/\okEs D 1:=λr st' ⟨⟨D,h,J⟩,h2⟩=>by
     subst h;exact⟨h2,.sl J.2 λx hx=>by obtain⟨i,_,rfl⟩:=dH.1 hx;exact⟨_,rfl⟩,D,rfl,J.1⟩
    by_cases G:p=[]
    ·subst G;exact (Nc gl g emp).mono hw
    ·exact (Nb gl g p G hl emp).mono hw
 have h1:=key.frame (own:=s) (λb E=>by
  cases he:e b with
  | none=>rfl
  | some o=>exact absurd (hd b (by rw[he];simp)) E)
 rw[El hd];refine h1.mono ?_;rintro r st' ⟨stu,_,rfl,rfl,h⟩;exact⟨h,rfl⟩
def PD {e st':ISt}(h:subSt e st'):∃s1,disj s1 e/\st'=join s1 e/\∀b,e b=none->s1 b=st' b:=by
 refine⟨λb=>match e b with|none=>st' b|some _=>none,λb E=>?_,?_,λb E=>by simp only[E]⟩
 ·cases D:e b with
  | none=>exact absurd D E
  | some o=>simp only[D]
 ·funext b;cases D:e b with
  | none=>rw[fT D];simp only[D]
  | some o=>rw[e_ D,h b o D]
def vF {s e:ISt}{b:Nat}{o:IObj}(hd:disj s e)(h:s b=some o):e b=none:=by
 cases D:e b with
 | none=>rfl
 | some _=>rw[hd b (by rw[D];simp)] at h;cases h
def GY (l:List (List Nat))(ys:List IV):Prop:=AllR (λp y=>∃t,y=.sl t (plI p)/\okEs t 1) l ys
def GoI (st:ISt)(b:Nat)(l:List (List Nat))(s:ISt):Prop:=∃t ys,s b=some (.box [.sl t ys])/\own s t ys.length 1 st/\subSt st s/\GY l ys
def qK (w:List (List Nat×Tr)):List (List Nat):=(w.filter λq=>ki q.2).map (·.1)
def PE {w:List (List Nat×Tr)}{p:List Nat}{t:Tr}:qK (w++[(p,t)])=if ki t=true then qK w++[p] else qK w:=by
 unfold qK;rw[List.filter_append,eQ];by_cases h:ki t=true
 ·rw[cX h];simp[h]
 ·rw[a_ h];simp[h]
def GoJ (a:IV)(b:Nat)(p:List Nat)(E:Tag)(ys:List IV)(S0 S:ISt)(D:Array Bool):Kt:=λad fr st ds=>(∀s,ad s=none)/\ds=[]/\fr 3=(pt b)/\fr 4=a/\(D.getD 0 false=true->fr 19=.iv (.sl E ys))/\(D.getD 1 false=true->fr 20=a) /\
 (D.getD 2 false=true->∃t,okEs t 1/\fr 21=.iv (.sl t (plI p)))/\(D.getD 3 false=true->∃t,okEs t 1/\fr 22=.iv (.sl ⟨true,.full,1⟩ [.sl t (plI p)])) /\
 (D.getD 4 false=true->D.getD 0 false=true/\D.getD 2 false=true)/\(D.getD 4 false=false->st=S) /\
 (D.getD 4 false=true->∃t u,okEs t 1/\fr 23=.iv (.sl u (ys++[.sl t (plI p)]))/\own st u (ys.length+1) 1 S0/\subSt S0 st/\∃c,st b=some (.box [c])/\(D.getD 5 false=true->c=.sl u (ys++[.sl t (plI p)])))/\(D.getD 5 false=true->D.getD 4 false=true)/\(D.getD 3 false=true->D.getD 2 false=true)
def sJ (aS:∀g x,gl g=some x->age x=x)(t:Tr)(x:IV)(hx:IsTr t x)(hs:t.steps<=1000000)(st:ISt):ICall prog gl 10 [x] st (λr st'=>(∃tg ys,r=.sl tg ys/\okEs tg 1/\GY (eY t) ys)/\st'=st):=by
 have hh:=dN t.height_le_steps hs;have hst:=λst=>Es gl x st t hx;have aQ:=λI=>Er gl t x hx (by omega) I;obtain⟨rule,tl,xl,tr,xr,op,fn,ta,xa,tb,xb,v,un,tu,xu,n,ts,xs,rfl⟩:=ft hx;refine ICall.intro (c:=cf prog gl [3,19] [(6,[])] [1]) func10 rfl (by show _<=25;simp) (by kernel_rfl) ?_;simp only[go_sem,zE,zA,fits,IV.one];intro b;refine d_ λhb=>?_;refine (hst _).q ?_;simp only[go_sem,reduceCtorEq];refine RangeL.intro (lkW (λx=>x) (t.walk [])) (t.walk []).length (λk s=>GoI st b (qK ((t.walk []).take k)) s) (λe s=>False) rfl ?_ ?_ ?_ (aQ _) ?_ ?_
 ·rintro k a e ⟨p,u,a,y,_,_,_,rfl⟩;rfl
 ·exact⟨_,[],b_ ..,own.nil ..,fb hb,AllR.nil⟩
 ·rintro k _ e s ⟨p,z,a,y,an,hz,hp,rfl⟩ hd ⟨tg,ys,c3,O,J,hys⟩;have ae:disj s e:=hd;have r3:=iF ae _ _ c3;have aJ:=qj [] t _ (lMg an);simp only[ee] at aJ;have aU:=PC gl aS p a e s hp (by omega) ae;have ag:ivOf a=some a:=by rcases hp with⟨t,rfl,_⟩|⟨g,cap,cs,rfl,_⟩<;>rfl
  have aM:=(lGs an).1;rw[uV] at aM;rw[dM an,PE];obtain⟨ab,bk,f',u',n',av⟩:=z;obtain⟨bh,ba,bg,a8,bm,bx,bj,bc,bi,bb,v',bd,be,a7,bf,au,rfl,_,_,_,_,_,_,_,bA,aG⟩:=hz.mk;have aL:=aG.len;by_cases h0:ab=0
  ·have d0:decide ((ab:Int)=0)=true:=dEt (by omega);by_cases h1:av=[]
   ·have d1:decide ((au.length:Int)=0)=true:=by rw[aL,h1];rfl
    rw[cX (by simp[ki,h0,h1])];simp only[go_sem,zE,zA,zL,d0,d1,ag];intro _;have bs:ys.length<=k:=by
     rw[hys.1];unfold qK;rw[dP];refine dN (kx ..) ?_;rw[dU];omega
    have aO:(join st e) b=none:=by rw[fT (vF ae c3)];exact hb
    have aI:subSt (join st e) (join s e):=λc o h=>by
     cases he:e c with
     | some o'=>rw[e_ he] at h ⊢;exact h
     | none=>rw[fT he] at h ⊢;exact J c o h
    have aK:own (join s e) tg ys.length 1 (join st e):=by
     rcases O with h|h|⟨g,h1,h2,h3⟩
     ·exact .inl h
     ·exact .inr (.inl h)
     ·exact .inr (.inr ⟨g,h1,iF ae _ _ h2,by rw[fT (vF ae h2)];exact h3⟩)
    rw[B_];refine wZ (GoJ a b p tg ys (join st e) (join s e)) ?_ ?_ _ _ _ _ _ _ rfl ?_
    ·intro D ad fr aE ds aj hJ i hi;replace aj:D.size=6:=aj;obtain⟨aw,o,ho,E⟩:=mem_ready.1 hi;have bu:i<6:=(iN.1 ho).1;have ac:D.getD i false=false:=by
      rw[lv,mB (by omega)] at aw ⊢;exact aw
     have e':∀j,(D.setIfInBounds i true).getD j false=if i=j then true else D.getD j false:=λj=>GS (by omega)
     obtain⟨aa,rfl,f3,f4,g0,g1,g2,g3,g4,g5,g6,g7,g8⟩:=hJ;rcases (show i=0\/i=1\/i=2\/i=3\/i=4\/i=5 by omega) with rfl|rfl|rfl|rfl|rfl|rfl
     all_goals obtain rfl:_=o:=eC ho
     ·have h4:D.getD 4 false=false:=by
       cases h:D.getD 4 false with
       | false=>rfl
       | true=>rw[(g4 h).1] at ac;cases ac
      have h5:D.getD 5 false=true->False:=λh=>by rw[g7 h] at h4;cases h4
      obtain rfl:=g5 h4;simp only[go_sem,zE,jC,aa,f3,pt,r3];simp only[GoJ,e',iteT,iteF,h4,reduceCtorEq,false_imp_iff,fA];exact⟨kX aa _,trivial,f3,f4,rfl,g1,g2,g3,trivial,trivial,trivial,h5,g8⟩
     ·simp only[go_sem,jC,f4,ag];simp only[GoJ,e',zE,iteT,iteF,reduceCtorEq,fA];exact⟨kX aa _,trivial,f3,f4,g0,rfl,g2,g3,g4,g5,g6,g7,g8⟩
     ·have h4:D.getD 4 false=false:=by
       cases h:D.getD 4 false with
       | false=>rfl
       | true=>rw[(g4 h).2] at ac;cases ac
      have h5:D.getD 5 false=true->False:=λh=>by rw[g7 h] at h4;cases h4
      obtain rfl:=g5 h4;replace g1:=g1 (E ⟨1,.data⟩ (by simp) rfl);simp only[go_sem,zE,zA,jC,g1,ag];refine aU.mono ?_;rintro _ _ ⟨⟨t',rfl,G⟩,rfl⟩;simp only[go_sem];simp only[GoJ,e',zE,iteT,iteF,h4,reduceCtorEq,false_imp_iff,fA];exact⟨kX aa _,trivial,f3,f4,g0,λ_=>g1,⟨t',G,rfl⟩,g3,trivial,trivial,trivial,h5,λ_=>trivial⟩
     ·obtain⟨t',G,aZ⟩:=g2 (E ⟨2,.data⟩ (by simp) rfl);simp only[go_sem,zE,zM,zL,jC,aZ];simp only[GoJ,e',zE,iteT,iteF,reduceCtorEq,fA];exact fO rfl ⟨kX aa _,trivial,f3,f4,g0,g1,g2,⟨t',G,rfl⟩,g4,g5,g6,g7,E ⟨2,.data⟩ (by simp) rfl⟩
     ·replace g0:=g0 (E ⟨0,.data⟩ (by simp) rfl);obtain⟨t',G,aC⟩:=g3 (E ⟨3,.data⟩ (by simp) rfl);have h2:=g8 (E ⟨3,.data⟩ (by simp) rfl);obtain rfl:=g5 ac;simp only[go_sem,zE,zA,jC,g0,aC];refine mX aK rfl aI rfl (by simp[fits,IV.one]) (by simp only;omega) (by omega) λu st4 o4 s4 k4 _=>?_;simp only[go_sem,zE,reduceCtorEq,GoJ,e',iteT,iteF,false_imp_iff,fA];exact⟨kX aa _,f3,f4,λ_=>g0,g1,g2,λ_=>⟨t',G,aC⟩,⟨E ⟨0,.data⟩ (by simp) rfl,h2⟩,⟨t',u,G,rfl,o4,s4,_,k4 b _ r3 nofun,λh=>by rw[g7 h] at ac;cases ac⟩,λ_=>trivial,g8⟩
     ·obtain⟨t',u,G,f23,am,ak,c,hc,_⟩:=g6 (E ⟨4,.data⟩ (by simp) rfl);have h4:=E ⟨4,.data⟩ (by simp) rfl;simp only[go_sem,zL,jC,aa,f23,f3,pt,hc];simp only[GoJ,e',zE,iteT,iteF,h4,reduceCtorEq,false_imp_iff,fA];exact⟨aa,trivial,f3,f4,g0,g1,g2,g3,g4 h4,trivial,⟨t',u,G,f23,am.mono λg hg _=>by rw[dz (λh=>by rw[h,hc] at hg;cases hg)];exact hg,eG ak aO,_,b_ ..,rfl⟩,trivial,g8⟩
    ·intro D ad fr aE ds aj hr hJ;have hl:=GU (by decide) aj hr;obtain⟨_,rfl,_,_,_,_,_,_,_,_,g6,_,_⟩:=hJ;obtain⟨t',u,G,_,am,ak,c,hc,aV⟩:=g6 (hl 4 (by decide));obtain rfl:=aV (hl 5 (by decide));obtain⟨s1,d1,rfl,k1⟩:=PD (join_sub'.trans ak);have aN:∀c,(join st e) c=none->e c=none/\st c=none:=λc h=>by
      cases he:e c with
      | some o=>rw[e_ he] at h;cases h
      | none=>rw[fT he] at h;exact⟨rfl,h⟩
     simp only[go_sem];refine⟨s1,⟨u,_,by rw[k1 b (vF ae c3)];exact hc,?_,λc o h=>?_,hys.snoc ⟨t',rfl,G⟩⟩,d1,rfl⟩
     ·rw[lLa];rcases am with⟨h,_⟩|h|⟨g,h1,h2,h3⟩
      ·omega
      ·exact .inr (.inl h)
      ·obtain⟨j1,j2⟩:=aN g h3;exact .inr (.inr ⟨g,h1,by rw[k1 g j1];exact h2,j2⟩)
     ·have he:=vF ae (J c o h);rw[k1 c he];exact ak c o (by rw[fT he];exact h)
    ·exact⟨λ_=>rfl,rfl,rfl,rfl,nofun,nofun,nofun,nofun,nofun,λ_=>rfl,nofun,nofun,nofun⟩
   ·have d1:decide ((au.length:Int)=0)=false:=dEf (by have:=jJ.2 h1;omega);rw[a_ (by simp[ki,h1])];simp only[go_sem,zE,zA,zL,d0,d1,ag];intro _;exact⟨s,⟨tg,ys,c3,O,J,hys⟩,hd,rfl⟩
  ·have d0:decide ((ab:Int)=0)=false:=dEf (by omega);rw[a_ (by simp[ki,h0])];simp only[go_sem,zE,zA,zL,d0,ag];exact⟨s,⟨tg,ys,c3,O,J,hys⟩,hd,rfl⟩
 ·rintro s r ⟨tg,ys,c3,O,J,hys⟩;rw[lTl] at hys;simp only[go_sem,zE,c3];exact eI J ⟨⟨tg,ys,rfl,O.es,hys⟩,rfl⟩
 ·rintro e s r ⟨⟩
def okP:Tr->List Nat->Prop
 | _,[]=>True
 | .mk _ _ _ _ _ sub,i::p=>∃s,sub[i]?=some s/\okP s p
def Ae:∀ {p l:List Nat}{t:Tr},okP t (p++l)->okP (atT t p) l/\atT t (p++l)=atT (atT t p) l
 | [],l,t,h=>⟨h,by simp only[fa,atT]⟩
 | i::p,l,.mk r s f u n sub,h=>by
  obtain⟨z,h1,h2⟩:=h;simp only[eu,atT,h1];exact Ae h2
mutual
def Af:∀(q:List Nat)(t:Tr)(p:List Nat)(z:Tr),(p,z)∈t.walk q->∃p',p=q++p'/\okP t p'/\atT t p'=z
 | q,.mk r s f u n sub,p,z,h=>by
  simp only[Tr.walk,dF,Prod.mk.injEq] at h;rcases h with⟨rfl,rfl⟩|h
  ·exact⟨[],by simp,trivial,rfl⟩
  ·obtain⟨i,a,p',_,h1,h2,E,D⟩:=GZ q 0 sub p z h;rw[gC] at h2;exact⟨i::p',h1,⟨a,h2,E⟩,by simp only[atT,h2];exact D⟩
def GZ:∀(q:List Nat)(j:Nat)(l:List Tr)(p:List Nat)(z:Tr),(p,z)∈eO q j l->∃i a p',j<=i/\p=q++i::p'/\l[i-j]?=some a/\okP a p'/\atT a p'=z
 | _,_,[],p,z,h=>by simp[eO] at h
 | q,j,a::l,p,z,h=>by
  simp only[eO,dQ] at h;rcases h with h|h
  ·obtain⟨p',h1,h2,D⟩:=Af (q++[j]) a p z h;exact⟨j,a,p',dG _,by rw[h1,et];rfl,by simp,h2,D⟩
  ·obtain⟨i,b,p',h0,h1,h2,D,E⟩:=GZ q (j+1) l p z h;exact⟨i,b,p',by omega,h1,by rw[show i-j=i-(j+1)+1 by omega];exact h2,D,E⟩
end
def Ag:∀ {p l:List Nat}{t:Tr},okP t (p++l)->okP t p
 | [],_,_,_=>trivial
 | i::p,l,.mk r s f u n sub,h=>by
  obtain⟨z,h1,h2⟩:=h;exact⟨z,h1,Ag h2⟩
abbrev z12:List IV:=[.raw (.int .u8 0),.sl ⟨true,.nil,0⟩ [],.sl ⟨true,.nil,0⟩ [],.raw (.int .u8 0),.raw (.string ⟨#[]⟩),.sl ⟨true,.nil,0⟩ [],.sl ⟨true,.nil,0⟩ [],.raw (.bool false),.raw (.string ⟨#[]⟩),.sl ⟨true,.nil,0⟩ [],.raw (.string ⟨#[]⟩),.sl ⟨true,.nil,0⟩ []]
def at_c (t:Tr)(x:IV)(hx:IsTr t x)(p:List Nat)(hp:okP t p)(tg:Tag)(az:okEs tg 1)(hl:p.length<=1000000)(st:ISt):ICall prog gl 39 [x,.sl tg (plI p)] st (λr st'=>IsTr (atT t p) r/\st'=st):=by
 have ay:=hx;obtain⟨rule,tl,xl,tr,xr,op,fn,ta,xa,tb,xb,v,un,tu,xu,n,ts,xs,rfl⟩:=ft hx;refine iI func39 ?_;simp only[go_sem,zE,iW];intro _;refine dt p.length (λk fr st' ds=>(∃c,fr 2=.box c/\IsTr (atT t (p.take k)) (.agg c))/\st'=st/\fr 4=.box z12/\fr 7=.iv (.sl tg (plI p))/\fr 8=(p.length:Int)/\fr 9=(k:Int)/\ds=[]) ?_ ?_ ?_
 ·simp only[go_sem,zE];exact⟨⟨_,rfl,ay⟩,rfl⟩
 ·rintro k fr au _ E ⟨⟨c,f2,hc⟩,rfl,f4,f7,f8,f9,rfl⟩;obtain⟨i,hi⟩:=dD E;have aC:=GV hi;have O:okP t (p.take k++i::p.drop (k+1)):=by
   have:=eA k p;rw[fC E,(lGs hi).2] at this;rw[this];exact hp
  obtain⟨h1,_⟩:=Ae O;have aa:atT t (p.take (k+1))=atT (atT t (p.take k)) [i]:=by
   rw[dM hi];have:=Ae (p:=p.take k) (l:=[i]) (t:=t) (by
    have aA:okP t ((p.take k++[i])++p.drop (k+1)):=by rw[et];exact O
    exact Ag aA)
   exact this.2
  generalize atT t (p.take k)=z at h1 hc aa;obtain⟨G,aW,f',u',n',aE⟩:=z;obtain⟨z,hz,_⟩:=h1;obtain⟨am,af,al,ae,aw,aD,aq,ah,ao,ag,v',ai,aj,ab,ak,ac,D,_,_,_,_,_,_,_,e3,i3⟩:=hc.mk;injection D with D;subst D;obtain⟨y,hy,J⟩:=i3.get hz;have ax:=J;obtain⟨av,aT,aK,tr2,aJ,aX,a1,aV,aM,aU,aL,v2,aO,aQ,aH,n2,aS,aI,rfl⟩:=ft J;simp only[go_sem,zE,zB,zA,zL,f2,f4,f7,f8,f9,fits,lt_i E,dB az,dB e3,iNn,aC,hy,dL E (by omega)];rw[aa];exact⟨_,rfl,by simp only[atT,hz];exact ax⟩
 ·rintro fr au _ ⟨⟨c,f2,hc⟩,rfl,f4,f7,f8,f9,rfl⟩;rw[lTl] at hc;obtain⟨G,am,af,al,ae,aw,aD,aq,ah,ao,ag,v',ai,aj,ab,n',ak,ac,D⟩:=ft hc;injection D with D;subst D;simp only[go_sem,zE,zA,zL,f2,f4,f8,f9,z12,dS (nLi _)];exact c_ ⟨hc,rfl⟩
def G1:∀ {l:List Tr}{k i:Nat}{z:Tr}{p:List Nat}{x:List Nat×Tr},l[i]?=some z->x∈z.walk (p++[k+i])->x∈eO p k l
 | a::l,k,0,z,p,x,h,D=>by
  obtain rfl:a=z:=by simpa using h
  rw[eO];exact gg _ D
 | a::l,k,i+1,z,p,x,h,D=>by
  rw[eO];refine fV _ (G1 (l:=l) (k:=k+1) (i:=i) (by simpa using h) ?_);rw[show k+1+i=k+(i+1) by omega];exact D
def vG:∀(p:List Nat)(t:Tr)(q:List Nat),okP t p->(q++p,atT t p)∈t.walk q
 | [],.mk _ _ _ _ _ _,q,_=>by rw[ek];simp only[Tr.walk,atT];exact .head _
 | i::p,.mk r s f u n sub,q,⟨z,h1,h2⟩=>by
  have D:atT (.mk r s f u n sub) (i::p)=atT z p:=by simp only[atT,h1]
  rw[D];simp only[Tr.walk];refine .tail _ (G1 h1 ?_);have:=vG p z (q++[i]) h2;rw[et] at this;rw[dY];exact this
def oX:IsTm tmZ (.agg [false,.raw (.string ⟨#[]⟩),()]):=⟨_,_,rfl,.inl rfl,rfl⟩
def PG (t:Tr)(x:IV)(D:IsTr t x)(st:ISt):ICall prog gl 59 [x] st (λr st'=>r=(jV t:Bool)/\st'=st):=by
 obtain⟨rule,sq,f,u,n,sub⟩:=t;obtain⟨tl,xl,tr,J,op,fn,ta,xa,tb,O,v,un,tu,G,ts,xs,rfl,_,_,_,_,_,E,_,e3,i3⟩:=D.mk;have hS:=λst=>EK gl f fm0 _ _ E qc st;have hl:=i3.len;refine iI func59 ?_;by_cases h0:rule=0
 ·have d0:decide ((rule:Int)=0)=true:=dEt (by omega);by_cases h1:sub=[]
  ·have d1:decide ((xs.length:Int)=0)=true:=by rw[hl,h1];rfl
   simp only[go_sem,zE,zA,zL,d0,d1];intro _;refine (hS _).q ?_;simp only[go_sem,zE];exact c_ ⟨by simp[jV,h0,h1],rfl⟩
  ·have hp:0<sub.length:=jJ.2 h1;have d1:decide ((xs.length:Int)=0)=false:=dEf (by omega);simp only[go_sem,zE,d0,d1];intro _;exact c_ ⟨by simp[jV,h1],rfl⟩
 ·have d0:decide ((rule:Int)=0)=false:=dEf (by omega);simp only[go_sem,zE,zA,d0];exact c_ ⟨by simp[jV,h0],rfl⟩
def G2:∀(l:List Tr)(i:Nat),(∀a∈l,fY a.sq)->(∀q∈eO [] i (l.map λp=>goalT p.sq),qi q.2)/\lY (l.map λp=>goalT p.sq)<=1
 | [],_,_=>⟨nofun,ed _⟩
 | a::l,i,E=>by
  obtain⟨G,O⟩:=G2 l (i+1) λb J=>E b (.tail _ J);simp only[ec,eO,Tr.walk,lY,Tr.height];refine⟨λq D=>?_,by omega⟩;rcases dQ.1 D with D|D
  ·rcases dF.1 D with rfl|D
   ·exact⟨E a (.head _),by show fm0.size<=1000000;decide,by show tmZ.size<=1000000;decide,nofun⟩
   ·cases D
  ·exact G q D
def PH {t:Tr}(h:qi t):lZ (shal t):=by
 obtain⟨rule,sq,f,u,n,sub⟩:=t;obtain⟨h1,h2,_,E⟩:=h;have J:tmZ.size<=1000000:=by decide
 obtain⟨G,k2⟩:=G2 sub 0 E;refine⟨λq D=>?_,?_⟩
 ·simp only[shal,Tr.walk] at D;rcases dF.1 D with rfl|D
  ·refine⟨h1,h2,J,λa ha=>?_⟩;obtain⟨b,O,rfl⟩:=dH.1 ha;exact E b O
  ·exact G q D
 ·simp only[shal,Tr.height];omega
def PI (G:Gl gl)(T:Gt gl)(ca:Nat)(t:Tr)(x:IV)(hx:IsTr t x)(hn:qi t)(hl:t.steps<=1000000)(st:ISt):ICall prog gl 31 [.raw (.int .u8 (ca:Int)),x] st (λr st'=>r=(gx ca t:Bool)/\st'=st):=by
 have hg:=λst=>PG gl t x hx st;have ak:=λy hy st=>yW gl G T ca (shal t) y hy (PH hn) st;obtain⟨rule,sq,f,u,n,sub⟩:=t;have aj:=hn.1;obtain⟨tl,xl,tr,xr,op,fn,ta,xa,tb,xb,v,un,tu,xu,ts,xs,rfl,ah,e1,i1,e2,i2,hf,_,e3,i3⟩:=hx.mk;have hv:=λst=>uO gl G ca sq _ ⟨_,_,_,_,rfl,e1,i1,e2,i2⟩ aj st;have a1:=vD sub;simp only[Tr.steps] at hl;refine iI func31 ?_;simp only[go_sem,zE,zA,zL];refine (hg _).q ?_;cases hb:jV (.mk rule sq f u n sub)
 ·simp only[go_sem,zE,zA,zL,fits,i3.len];intro _;refine dt sub.length (λk fr st' ds=>(∃t y,fr 5=.box [.raw (.int .u8 rule),.sl tl xl,.sl tr xr,.raw (.int .u8 op),fn,.sl ta xa,.sl tb xb,false,.raw (.string ⟨#[]⟩),(),.raw (.string ⟨#[]⟩),.sl t y]/\own st' t k 12 st/\subSt st st'/\IsTrs ((sub.take k).map λp=>goalT p.sq) y/\y.length=k) /\
   fr 0=.iv (.raw (.int .u8 ca))/\fr 24=.iv (.sl ts xs)/\fr 25=(sub.length:Int)/\fr 26=(k:Int)/\ds=[]) ?_ ?_ ?_
  ·simp only[go_sem,zE,reduceCtorEq];exact⟨⟨_,_,rfl,own.nil ..,subSt.refl _,rfl,rfl⟩,rfl⟩
  ·rintro k fr ab _ O ⟨⟨t,y,f5,E,D,hy,J⟩,f0,f24,f25,f26,rfl⟩;obtain⟨a,ha⟩:=dD O;obtain⟨z,ai,hz⟩:=i3.get ha;obtain⟨ac,aW,f',u',n',aw⟩:=a;obtain⟨aO,aF,aN,aE,aX,a8,aS,aH,aQ,aG,v',aK,aL,aC,aM,aD,rfl,_,an,af,am,ae,_⟩:=hz.mk;simp only[go_sem,zE,zB,zA,zM,zL,f5,f24,f25,f26,fits,lt_i O,dB e3,iNn,ai,eh];refine ij E J D rfl (by simp[fits,IV.one]) (by simp only;omega) (by omega) λt' aU w1 w2 w3=>?_;simp only[go_sem,zE,zA,zL,reduceCtorEq,f5,f0,f24,f25,f26,dL O (by omega)];refine⟨t',_,rfl,w1,w2,?_,by rw[lLa,J];rfl⟩;rw[dM ha,eQ,List.map_singleton];refine hy.append ?_;simp only[IsTrs];exact⟨_,[],rfl,⟨_,_,_,_,_,_,_,_,_,_,_,_,_,_,_,_,rfl,by omega,an,af,am,ae,qc,oX,.inl rfl,rfl⟩,rfl⟩
  ·rintro fr ab _ ⟨⟨t,y,f5,E,D,hy,J⟩,f0,f24,f25,f26,rfl⟩;rw[lTl] at hy;have ag:IsTr (shal (.mk rule sq f u n sub)) (.agg [.raw (.int .u8 rule),.sl tl xl,.sl tr xr,.raw (.int .u8 op),fn,.sl ta xa,.sl tb xb,false,.raw (.string ⟨#[]⟩),(),.raw (.string ⟨#[]⟩),.sl t y]) :=
    ⟨_,_,_,_,_,_,_,_,_,_,_,_,_,_,_,_,rfl,ah,e1,i1,e2,i2,hf,oX,E.es,hy⟩
   simp only[go_sem,zE,zA,zL,reduceCtorEq,f5,f0,f25,f26,dS (nLi _)];refine (ak _ ag _).mono ?_;rintro _ aV ⟨⟨tg,rfl,aZ⟩,rfl⟩;by_cases h0:(gj ca (shal (.mk rule sq f u n sub))).2=0
   ·have d0:decide (((gj ca (shal (.mk rule sq f u n sub))).2:Int)=0)=true:=dEt (by omega);simp only[go_sem,zE,d0];exact eI D ⟨by simp[gx,hb,h0],rfl⟩
   ·have d0:decide (((gj ca (shal (.mk rule sq f u n sub))).2:Int)=0)=false:=dEf (by omega);simp only[go_sem,zE,d0,iW];intro _;refine eI D ⟨?_,rfl⟩;simp[gx,hb,h0]
 ·simp only[go_sem,zE,zA,zL,reduceCtorEq];refine (hv _).q ?_;simp only[go_sem];exact c_ ⟨by simp[gx,hb,Tr.sq],rfl⟩
def G3 (us:List Fm)(tg:Tag)(xs:List IV)(ai:okEs tg 4)(af:IsFms us xs)(ao:dV us<=1000000)(st:ISt) :
  ICall prog gl 100 [.sl tg xs] st (λr st'=>(∃D ys,r=.sl D ys/\okEs D 4/\IsFms us ys)/\st'=st):=by
 have an:=mS us;refine iI func100 ?_;simp only[go_sem,reduceCtorEq,af.len];intro _;refine dt us.length (λk fr st' ds=>(∃D ys,fr 3=.iv (.sl D ys)/\IsFms (us.take k) ys/\own st' D k 4 st/\subSt st st') /\
  fr 6=.iv (.sl tg xs)/\fr 7=us.length/\fr 8=.iv (.raw (.int .i64 k))/\ds=[]) ?_ ?_ ?_
 ·simp only[go_sem,zE];exact⟨⟨_,[],rfl,rfl,own.nil ..,subSt.refl _⟩,rfl⟩
 ·rintro k fr ae _ aa ⟨⟨D,ys,f3,hys,G,E⟩,f6,f7,f8,rfl⟩;obtain⟨a,ha⟩:=dD aa;obtain⟨x,aj,hx⟩:=af.get ha;obtain⟨h1,h2⟩:=j8 ha;have ab:ys.length=k:=by rw[hys.len,dU];omega
  have ac:=mZ gl a x hx (by omega) ae;obtain⟨o5,n5,t5,x5,t6,x6,rfl⟩:=hx.agg;simp only[go_sem,zE,zB,zA,zL,f3,f6,f7,f8,lt_i aa,dB ai,iNn,aj,fits];refine ac.mono ?_;rintro r _ ⟨hr,rfl⟩;have hn:IsFms (us.take (k+1)) (ys++[r]):=by
   rw[dM ha];exact hys.append ⟨r,[],rfl,hr.1,rfl⟩
  obtain⟨o7,n7,t7,x7,t8,x8,rfl⟩:=iK hr;simp only[go_sem,zE,zA,zM,zL,fits,eh];refine ij G ab E rfl (by simp[fits,IV.one]) (by simp only;omega) (by omega) λag st4 O J _=>?_;simp only[go_sem,zE,f6,f7,f8,dL aa (by omega)];exact⟨ag,_,rfl,hn,O,J⟩
 ·rintro fr ae _ ⟨⟨D,ys,f3,hys,G,E⟩,f6,f7,f8,rfl⟩;rw[lTl] at hys;simp only[go_sem,zE,f3,f7,f8,dS (nLi _)];exact eI E ⟨⟨D,ys,rfl,G.es,hys⟩,rfl⟩
def Ah (s:Sq)(x:IV)(G:IsSq s x)(h1:dV s.l<=1000000)(h2:dV s.r<=1000000)(st:ISt) :
  ICall prog gl 77 [x] st (λr st'=>IsSq s r/\st'=st):=by
 obtain⟨t1,E,t2,D,rfl,e1,i1,e2,i2⟩:=G;have c1:=λst=>G3 gl s.l t1 E e1 i1 h1 st;have c2:=λst=>G3 gl s.r t2 D e2 i2 h2 st;refine ICall.intro (c:=cf prog gl [] [(1,[0,1,3,4,2,5,6,7])]) func77 rfl (by show _<=10;simp) (by kernel_rfl) ?_;simp only[go_sem,zE,zA];refine (c1 _).mono ?_;rintro _ _ ⟨⟨t3,y1,rfl,O,i3⟩,rfl⟩;simp only[go_sem,zE,zA];refine (c2 _).mono ?_;rintro _ _ ⟨⟨t4,y2,rfl,J,i4⟩,rfl⟩;simp only[go_sem,zE,zA,zL,fits];exact c_ ⟨⟨_,_,_,_,rfl,O,i3,J,i4⟩,rfl⟩
def hTC (t:Tm):Prop:=∀(x:IV) (_:IsTm t x) (_:t.size<=1000000) (st:ISt),ICall prog gl 79 [x] st (λr st'=>IsTm t r/\st'=st)
def PJ (v:Bool)(n:ByteArray)(us:List Tm)(IH:∀a∈us,hTC gl a):hTC gl (.mk v n us):=by
 intro x hx af st;obtain⟨t,xs,rfl,ht,ab⟩:=hx.mk;simp only[Tm.size] at af;have hl:=oJ us;refine iI func79 ?_;simp only[go_sem,zE,zA,zL,ab.len];intro _;refine dt us.length (λk fr st' ds=>(∃tg ys,fr 1=.box [v,n,.sl tg ys]/\own st' tg k 3 st/\subSt st st'/\IsTms (us.take k) ys/\ys.length=k)/\fr 2=.box [false,.raw (.string ⟨#[]⟩),()]/\fr 9=.iv (.sl t xs)/\fr 10=(us.length:Int)/\fr 11=(k:Int)/\ds=[]) ?_ ?_ ?_
 ·simp only[go_sem,zE];exact⟨⟨_,[],rfl,own.nil ..,subSt.refl _,rfl,rfl⟩,rfl⟩
 ·rintro k fr G _ O ⟨⟨tg,ys,f1,E,D,hys,J⟩,f2,f9,f10,f11,rfl⟩;obtain⟨a,ha⟩:=dD O;obtain⟨z,ag,hz⟩:=ab.get ha;obtain⟨h1,h2⟩:=mP ha;have aa:=IH a (lMg ha) z hz (by omega) G;obtain⟨v2,n2,m⟩:=a;obtain⟨tx,cx,rfl,ao,au⟩:=hz.mk;simp only[go_sem,zE,zB,zA,zL,f1,f9,f10,f11,lt_i O,dB ht,iNn,ag,fits];refine aa.mono ?_;rintro r G ⟨hr,rfl⟩;have hn:IsTms (us.take (k+1)) (ys++[r]):=by
   rw[dM ha];exact hys.append (IsTms.one hr)
  obtain⟨t3,x3,rfl,_⟩:=hr.mk;simp only[go_sem,zE,zA,zM,zL,fits,eh];refine ij E J D rfl (by simp[fits,IV.one]) (by simp only;omega) (by omega) λt' am w1 w2 w3=>?_;simp only[go_sem,zE,zA,zL,f1,f2,f9,f10,f11,dL O (by omega)];exact⟨t',_,rfl,w1,w2,hn,by rw[lLa,J];rfl⟩
 ·rintro fr G _ ⟨⟨tg,ys,f1,E,D,hys,J⟩,f2,f9,f10,f11,rfl⟩;rw[lTl] at hys;simp only[go_sem,zE,zA,zL,f1,f2,f10,f11,dS (nLi _)];exact eI D ⟨⟨_,_,rfl,E.es,hys⟩,rfl⟩
def G4:∀(k:Nat)(t:Tm),SizeOf.sizeOf t<k->hTC gl t
 | 0,t,h=>by omega
 | k+1,.mk v n us,h=>PJ gl v n us (λa D=>G4 k a (by
   have:=lSm D;simp at h;omega))
def Ai (t:Tm):hTC gl t:=G4 gl _ t (eS _)
def visL (g:Nat->Tr->Option Tr):Nat->List Tr->Option (List Tr)
 | _,[]=>some []
 | k,s::l=>match g k s,visL g (k+1) l with
  | some z,some zs=>some (z::zs)
  | _,_=>none
def G5 {g:Nat->Tr->Option Tr}:∀ {k:Nat} {l zs:List Tr},visL g k l=some zs->zs.length=l.length/\∀(i:Nat) (s:Tr),l[i]?=some s->∃z,g (k+i) s=some z/\zs[i]?=some z
 | _,[],zs,h=>by cases h;exact⟨rfl,λi s h=>by simp at h⟩
 | k,s::l,zs,h=>by
  unfold visL at h;split at h
  ·rename_i z E h1 h2;cases h;obtain⟨O,J⟩:=G5 h2;refine⟨by simp[O],λi s' D=>?_⟩;cases i with
   | zero=>cases D;exact⟨z,h1,rfl⟩
   | succ i =>
    obtain⟨G,h3,h4⟩:=J i s' D;exact⟨G,by rw[show k+(i+1)=k+1+i by omega];exact h3,h4⟩
  ·cases h
def visG (g:Tr->Bool->List Nat->Option Tr)(o:Bool)(pl:List Nat)(k:Nat)(z:Tr):Option Tr:=if o=true/\pl.head?=some k then g z true pl.tail else g z false []
noncomputable def visB (g:Tr->Bool->List Nat->Option Tr)(o:Bool)(pl:List Nat):Tr->Option Tr
 | .mk r s m u nm sub=>if (decide (u.size<=1000000)&&decide (dV s.l<=1000000)&&decide (dV s.r<=1000000)&&decide (m.size<=1000000)&&decide (sub.length<=1000000))=true then (visL (visG g o pl) 0 sub).map (λrs=>.mk r s m u nm rs) else none
noncomputable def visF (f:Tr->Tr):Nat->Tr->Bool->List Nat->Option Tr
 | 0,_,_,_=>none
 | n+1,t,D,pl=>if D=true/\pl=[] then visB (visF f n) false pl (f t) else visB (visF f n) D pl t
def Aj {g:Tr->Bool->List Nat->Option Tr}{o:Bool}{pl:List Nat}{r:Nat}{s:Sq}{m:Fm}{u:Tm}{nm:ByteArray}{sub:List Tr}{D:Tr}(h:visB g o pl (.mk r s m u nm sub)=some D) :
  u.size<=1000000/\dV s.l<=1000000/\dV s.r<=1000000/\m.size<=1000000/\sub.length<=1000000/\∃rs,D=.mk r s m u nm rs/\rs.length=sub.length/\∀(i:Nat) (z:Tr),sub[i]?=some z->∃y,visG g o pl i z=some y/\rs[i]?=some y:=by
 rw[visB] at h;by_cases hc:(decide (u.size<=1000000)&&decide (dV s.l<=1000000)&&decide (dV s.r<=1000000)&&decide (m.size<=1000000)&&decide (sub.length<=1000000))=true
 ·rw[cX hc] at h;simp only[bAt,dTe] at hc;obtain⟨⟨⟨⟨c1,c2⟩,c3⟩,c4⟩,c5⟩:=hc;cases hv:visL (visG g o pl) 0 sub with
  | none=>rw[hv] at h;cases h
  | some rs =>
   rw[hv] at h;obtain⟨G,E⟩:=G5 hv;refine⟨c1,c2,c3,c4,c5,rs,by cases h;rfl,G,λi z J=>?_⟩;obtain⟨y,h1,h2⟩:=E i z J;rw[dY] at h1;exact⟨y,h1,h2⟩
 ·rw[a_ hc] at h;cases h
def G6 {D:Tag}{es:Nat}(h:okEs D es)(len E l:Nat):okEs (kL (reTag es D) len E l none) es:=by
 have:=dB h;unfold kL;by_cases h1:(reTag es D).cap=.nil
 ·rw[cX h1];exact .inr this
 ·rw[a_ h1];by_cases h2:l=0/\E=len
  ·simp only[cX h2];exact .inr this
  ·simp only[a_ h2];exact .inr this
def visI (c:IV)(b:Nat):IV:=.fn (.func 76) [] [.cptr c,pt b]
def G7 (f:Tr->Tr)(g:Fn)(fi ca:List IV)(aK:∀i,g=.func i->entI prog i=true)(P:ISt->Prop)(hP:∀s s',P s->subSt s s'->P s')(aL:∀t x st,P st->IsTr t x->ICallV prog gl (.fn g fi ca) [x] st (λr st'=>IsTr (f t) r/\st'=st))(b:Nat) :
  ∀(n:Nat) (t:Tr) (x:IV) (_:IsTr t x) (on:Bool) (pl:List Nat) (tg:Tag) (_:okEs tg 1) (_:pl.length<=1000000) (aq:Tr) (_:visF f n t on pl=some aq) (st:ISt) (_:P st) (_:st b=some (.box [visI (.fn g fi ca) b])),
   ICall prog gl 76 [x,.raw (.bool on),.sl tg (plI pl),.cptr (.fn g fi ca),pt b] st (λr st'=>IsTr aq r/\st'=st)
 | 0,_,_,_,_,_,_,_,_,_,hv,_,_,_=>by cases hv
 | n+1,t,x,hx,on,pl,tg,av,bc,aq,hv,st,ak,hst=>by
  have IH:=λt x hx on pl tg av bc aq hv st ak hst=>G7 f g fi ca aK P hP aL b n t x hx on pl tg av bc aq hv st ak hst;have ct:=hx;have cj:=λst hp=>aL t x st hp hx;rw[visF] at hv;obtain⟨ab,s1,m1,u1,au,sub1⟩:=t;obtain⟨cb,b4,tr1,b2,ce,ck,cd,b6,cc,b5,v1,b8,b9,b1,aE,aD,rfl,aF,e1,i1,e2,i2,hf,hu,e3,i3⟩:=hx.mk;refine ICall.intro (c:=cf prog gl [53,63] [(4,[0,1,2,3,5,6,8,9,11,12,14,4,7,10,13,15])]) func76 rfl (by show _<=71;simp) (by kernel_rfl) ?_;cases on
  ·rw[a_ (by simp)] at hv;obtain⟨ku,k1,k2,k3,k4,rs,rfl,ay,ax⟩:=Aj hv;simp only[go_sem,zE,zA,zL];have aw:=λst=>Ah gl s1 _ ⟨_,_,_,_,rfl,e1,i1,e2,i2⟩ k1 k2 st;have aA:=λst=>mZ gl m1 _ hf (by omega) st;have htm:=λst=>Ai gl u1 _ hu ku st;refine (aw _).mono ?_;rintro _ st ⟨⟨q1,y1,q2,y2,rfl,g1,j1,g2,j2⟩,rfl⟩;simp only[go_sem,zE,zA];refine (aA _).mono ?_;rintro _ st ⟨⟨ag,bQ⟩,rfl⟩;have af:=ag;obtain⟨o5,n5,t5,x5,t6,x6,rfl⟩:=ag.agg;simp only[go_sem,zE,zA];refine (htm _).mono ?_;rintro _ st ⟨ae,rfl⟩;have ac:=ae;obtain⟨v5,n6,bq⟩:=u1;obtain⟨q3,y3,rfl,_,_⟩:=ae.mk;simp only[go_sem,zE,zA,zL,fits,i3.len];intro _;refine dt sub1.length (λk fr st' ds=>(∃t y,fr 9=.box [.raw (.int .u8 ab),.sl q1 y1,.sl q2 y2,.raw (.int .u8 o5),n5,.sl t5 x5,.sl t6 x6,v5,n6,.sl q3 y3,au,.sl t y]/\own st' t k 12 st/\subSt st st'/\IsTrs (rs.take k) y/\y.length=k) /\
    fr 1=false/\fr 2=.iv (.sl tg (plI pl))/\fr 4=(pt b)/\fr 8=.box z12/\fr 36=.iv (.sl aE aD)/\fr 37=(sub1.length:Int)/\fr 38=(k:Int)/\ds=[]) ?_ ?_ ?_
   ·simp only[go_sem,zE,z12];exact⟨⟨_,[],rfl,own.nil ..,subSt.refl _,rfl,rfl⟩,rfl⟩
   ·rintro k fr J _ aa ⟨⟨t,y,f9,E,D,hy,O⟩,f1,f2,f4,f8,f36,f37,f38,rfl⟩;obtain⟨a,ha⟩:=dD aa;obtain⟨z,an,hz⟩:=i3.get ha;obtain⟨w,hw,am⟩:=ax k a ha;have al:=hz;have hb:=D _ _ hst;obtain⟨ao,bu,bl,tr2,bk,bD,bT,bx,bn,bw,bm,v2,br,bs,bi,n2,bt,bj,rfl⟩:=ft hz;rw[visG,a_ (by simp)] at hw;have G:=IH a _ al false [] ⟨true,.nil,0⟩ (.inl rfl) (ed _) w hw J (hP _ _ ak D) hb;simp only[go_sem,zE,zB,zA,zL,f9,f1,f4,f36,f37,f38,fits,lt_i aa,dB e3,iNn,an,pt,hb,visI];refine G.mono ?_;rintro r J ⟨hr,rfl⟩;have aj:=hr;obtain⟨ah,a1,aS,tr3,aQ,bb,bd,a7,aU,a6,aT,v3,aX,aY,aN,n3,aZ,aO,rfl⟩:=ft hr;simp only[go_sem,zE,zA,zM,zL,fits,eh];refine ij E O D rfl (by simp[fits,IV.one]) (by simp only;omega) (by omega) λt' ba w1 w2 w3=>?_;simp only[go_sem,zE,zA,zL,f9,f1,f2,f4,f8,f36,f37,f38,dL aa (by omega)];refine⟨⟨t',_,rfl,w1,w2,?_,by rw[lLa,O];rfl⟩,rfl⟩;rw[dM am];exact hy.append ⟨_,[],rfl,aj,rfl⟩
   ·rintro fr J _ ⟨⟨t,y,f9,E,D,hy,O⟩,f1,f2,f4,f8,f36,f37,f38,rfl⟩;rw[<- ay,lTl] at hy;simp only[go_sem,zE,zA,zL,f9,f8,f37,f38,z12,dS (nLi _)];exact eI D ⟨⟨_,_,_,_,_,_,_,_,_,_,_,_,_,_,_,_,rfl,aF,g1,j1,g2,j2,af,ac,E.es,hy⟩,rfl⟩
  ·by_cases hp:pl=[]
   ·subst hp;rw[cX ⟨rfl,rfl⟩] at hv;have d:decide (((plI []).length:Int)=0)=true:=rfl;simp only[go_sem,zE,zA,zL,fits,d];intro _;refine lO aK ((cj _ ak).mono ?_);rintro _ st ⟨bO,rfl⟩;generalize f (.mk ab s1 m1 u1 au sub1)=t1 at hv bO;obtain⟨ab,s1,m1,u1,au,sub1⟩:=t1;obtain⟨cb,b4,tr1,b2,ce,ck,cd,b6,cc,b5,v1,b8,b9,b1,aE,aD,rfl,aF,e1,i1,e2,i2,hf,hu,e3,i3⟩:=bO.mk;obtain⟨ku,k1,k2,k3,k4,rs,rfl,ay,ax⟩:=Aj hv;simp only[go_sem,zE,zA,zL];have aw:=λst=>Ah gl s1 _ ⟨_,_,_,_,rfl,e1,i1,e2,i2⟩ k1 k2 st;have aA:=λst=>mZ gl m1 _ hf (by omega) st;have htm:=λst=>Ai gl u1 _ hu ku st;refine (aw _).mono ?_;rintro _ st ⟨⟨q1,y1,q2,y2,rfl,g1,j1,g2,j2⟩,rfl⟩;simp only[go_sem,zE,zA];refine (aA _).mono ?_;rintro _ st ⟨⟨ag,bQ⟩,rfl⟩;have af:=ag;obtain⟨o5,n5,t5,x5,t6,x6,rfl⟩:=ag.agg;simp only[go_sem,zE,zA];refine (htm _).mono ?_;rintro _ st ⟨ae,rfl⟩;have ac:=ae;obtain⟨v5,n6,bq⟩:=u1;obtain⟨q3,y3,rfl,_,_⟩:=ae.mk;simp only[go_sem,zE,zA,zL,fits,i3.len];intro _;refine dt sub1.length (λk fr st' ds=>(∃t y,fr 9=.box [.raw (.int .u8 ab),.sl q1 y1,.sl q2 y2,.raw (.int .u8 o5),n5,.sl t5 x5,.sl t6 x6,v5,n6,.sl q3 y3,au,.sl t y]/\own st' t k 12 st/\subSt st st'/\IsTrs (rs.take k) y/\y.length=k) /\
     fr 1=false/\fr 2=.iv (.sl tg (plI []))/\fr 4=(pt b)/\fr 8=.box z12/\fr 36=.iv (.sl aE aD)/\fr 37=(sub1.length:Int)/\fr 38=(k:Int)/\ds=[]) ?_ ?_ ?_
    ·simp only[go_sem,zE,z12];exact⟨⟨_,[],rfl,own.nil ..,subSt.refl _,rfl,rfl⟩,rfl⟩
    ·rintro k fr J _ aa ⟨⟨t,y,f9,E,D,hy,O⟩,f1,f2,f4,f8,f36,f37,f38,rfl⟩;obtain⟨a,ha⟩:=dD aa;obtain⟨z,an,hz⟩:=i3.get ha;obtain⟨w,hw,am⟩:=ax k a ha;have al:=hz;have hb:=D _ _ hst;obtain⟨ao,bu,bl,tr2,bk,bD,bT,bx,bn,bw,bm,v2,br,bs,bi,n2,bt,bj,rfl⟩:=ft hz;rw[visG,a_ (by simp)] at hw;have G:=IH a _ al false [] ⟨true,.nil,0⟩ (.inl rfl) (ed _) w hw J (hP _ _ ak D) hb;simp only[go_sem,zE,zB,zA,zL,f9,f1,f4,f36,f37,f38,fits,lt_i aa,dB e3,iNn,an,pt,hb,visI];refine G.mono ?_;rintro r J ⟨hr,rfl⟩;have aj:=hr;obtain⟨ah,a1,aS,tr3,aQ,bb,bd,a7,aU,a6,aT,v3,aX,aY,aN,n3,aZ,aO,rfl⟩:=ft hr;simp only[go_sem,zE,zA,zM,zL,fits,eh];refine ij E O D rfl (by simp[fits,IV.one]) (by simp only;omega) (by omega) λt' ba w1 w2 w3=>?_;simp only[go_sem,zE,zA,zL,f9,f1,f2,f4,f8,f36,f37,f38,dL aa (by omega)];refine⟨⟨t',_,rfl,w1,w2,?_,by rw[lLa,O];rfl⟩,rfl⟩;rw[dM am];exact hy.append ⟨_,[],rfl,aj,rfl⟩
    ·rintro fr J _ ⟨⟨t,y,f9,E,D,hy,O⟩,f1,f2,f4,f8,f36,f37,f38,rfl⟩;rw[<- ay,lTl] at hy;simp only[go_sem,zE,zA,zL,f9,f8,f37,f38,z12,dS (nLi _)];exact eI D ⟨⟨_,_,_,_,_,_,_,_,_,_,_,_,_,_,_,_,rfl,aF,g1,j1,g2,j2,af,ac,E.es,hy⟩,rfl⟩
   ·obtain⟨p0,pr,rfl⟩:=List.exists_cons_of_ne_nil hp;rw[a_ (by simp)] at hv;obtain⟨ku,k1,k2,k3,k4,rs,rfl,ay,ax⟩:=Aj hv;have d:decide (((plI (p0::pr)).length:Int)=0)=false:=by rw[iW,dX];exact dEf (by omega)
    simp only[go_sem,zE,zA,zL,d];intro _;have aw:=λst=>Ah gl s1 _ ⟨_,_,_,_,rfl,e1,i1,e2,i2⟩ k1 k2 st;have aA:=λst=>mZ gl m1 _ hf (by omega) st;have htm:=λst=>Ai gl u1 _ hu ku st;refine (aw _).mono ?_;rintro _ st ⟨⟨q1,y1,q2,y2,rfl,g1,j1,g2,j2⟩,rfl⟩;simp only[go_sem,zE,zA];refine (aA _).mono ?_;rintro _ st ⟨⟨ag,bQ⟩,rfl⟩;have af:=ag;obtain⟨o5,n5,t5,x5,t6,x6,rfl⟩:=ag.agg;simp only[go_sem,zE,zA];refine (htm _).mono ?_;rintro _ st ⟨ae,rfl⟩;have ac:=ae;obtain⟨v5,n6,bq⟩:=u1;obtain⟨q3,y3,rfl,_,_⟩:=ae.mk;simp only[go_sem,zE,zA,zL,fits,i3.len];intro _;refine dt sub1.length (λk fr st' ds=>(∃t y,fr 9=.box [.raw (.int .u8 ab),.sl q1 y1,.sl q2 y2,.raw (.int .u8 o5),n5,.sl t5 x5,.sl t6 x6,v5,n6,.sl q3 y3,au,.sl t y]/\own st' t k 12 st/\subSt st st'/\IsTrs (rs.take k) y/\y.length=k) /\
     fr 1=true/\fr 2=.iv (.sl tg (plI (p0::pr)))/\fr 4=(pt b)/\fr 8=.box z12/\fr 36=.iv (.sl aE aD)/\fr 37=(sub1.length:Int)/\fr 38=(k:Int)/\ds=[]) ?_ ?_ ?_
    ·simp only[go_sem,zE,z12];exact⟨⟨_,[],rfl,own.nil ..,subSt.refl _,rfl,rfl⟩,rfl⟩
    ·rintro k fr J _ aa ⟨⟨t,y,f9,E,D,hy,O⟩,f1,f2,f4,f8,f36,f37,f38,rfl⟩;obtain⟨a,ha⟩:=dD aa;obtain⟨z,an,hz⟩:=i3.get ha;obtain⟨w,hw,am⟩:=ax k a ha;have al:=hz;have hb:=D _ _ hst;obtain⟨ao,bu,bl,tr2,bk,bD,bT,bx,bn,bw,bm,v2,br,bs,bi,n2,bt,bj,rfl⟩:=ft hz;have h0:(plI (p0::pr))[0]?=some (.raw (.int .i64 (p0:Int))):=rfl;have ci:gq (some 1) none (plI (p0::pr)).length=some (1,pr.length+1):=by
      rw[iW,dX];simp only[gq,fj,ez];rw[cX ⟨by omega,by omega,by omega⟩];simp
     have ch:List.take (pr.length+1-1) (List.drop 1 (plI (p0::pr)))=plI pr:=by
      show List.take pr.length (plI pr)=_;rw[<- iW pr,lTl]
     by_cases hk:k=p0
     ·subst hk;rw[visG,cX ⟨rfl,rfl⟩] at hw;simp only[go_sem,zE,zB,zA,zL,f9,f1,f2,f4,f36,f37,f38,fits,lt_i aa,dB e3,dB av,iNn,jD,ja,h0,dC,an,pt,hb,visI,ci];rw[ch];have G:=IH a _ al true pr _ (G6 av (plI (k::pr)).length (pr.length+1) 1) (by simp only[dX] at bc;omega) w hw J (hP _ _ ak D) hb;refine G.mono ?_;rintro r J ⟨hr,rfl⟩;have aj:=hr;obtain⟨ah,a1,aS,tr3,aQ,bb,bd,a7,aU,a6,aT,v3,aX,aY,aN,n3,aZ,aO,rfl⟩:=ft hr;simp only[go_sem,zE,zA,zM,zL,fits,eh];refine ij E O D rfl (by simp[fits,IV.one]) (by simp only;omega) (by omega) λt' ba w1 w2 w3=>?_;simp only[go_sem,zE,zA,zL,f9,f1,f2,f4,f8,f36,f37,f38,dL aa (by omega)];refine⟨⟨t',_,rfl,w1,w2,?_,by rw[lLa,O];rfl⟩,rfl⟩;rw[dM am];exact hy.append ⟨_,[],rfl,aj,rfl⟩
     ·rw[visG,a_ (λh=>hk (by have:=h.2;simpa using this.symm))] at hw;have dk:decide ((k:Int)=(p0:Int))=false:=dEf (by omega);have G:=IH a _ al false [] ⟨true,.nil,0⟩ (.inl rfl) (ed _) w hw J (hP _ _ ak D) hb;simp only[go_sem,zE,zB,zA,zL,f9,f1,f2,f4,f36,f37,f38,fits,lt_i aa,dB e3,dB av,iNn,jD,ja,h0,dk,an,pt,hb,visI];refine G.mono ?_;rintro r J ⟨hr,rfl⟩;have aj:=hr;obtain⟨ah,a1,aS,tr3,aQ,bb,bd,a7,aU,a6,aT,v3,aX,aY,aN,n3,aZ,aO,rfl⟩:=ft hr;simp only[go_sem,zE,zA,zM,zL,fits,eh];refine ij E O D rfl (by simp[fits,IV.one]) (by simp only;omega) (by omega) λt' ba w1 w2 w3=>?_;simp only[go_sem,zE,zA,zL,f9,f1,f2,f4,f8,f36,f37,f38,dL aa (by omega)];refine⟨⟨t',_,rfl,w1,w2,?_,by rw[lLa,O];rfl⟩,rfl⟩;rw[dM am];exact hy.append ⟨_,[],rfl,aj,rfl⟩
    ·rintro fr J _ ⟨⟨t,y,f9,E,D,hy,O⟩,f1,f2,f4,f8,f36,f37,f38,rfl⟩;rw[<- ay,lTl] at hy;simp only[go_sem,zE,zA,zL,f9,f8,f37,f38,z12,dS (nLi _)];exact eI D ⟨⟨_,_,_,_,_,_,_,_,_,_,_,_,_,_,_,_,rfl,aF,g1,j1,g2,j2,af,ac,E.es,hy⟩,rfl⟩
def G8 (f:Tr->Tr)(g:Fn)(fi ca:List IV)(G:∀i,g=.func i->entI prog i=true)(P:ISt->Prop)(hP:∀s s',P s->subSt s s'->P s')(J:∀t x st,P st->IsTr t x->ICallV prog gl (.fn g fi ca) [x] st (λr st'=>IsTr (f t) r/\st'=st))(n:Nat)(t:Tr)(x:IV)(hx:IsTr t x)(pl:List Nat)(tg:Tag)(ae:okEs tg 1)(ag:pl.length<=1000000)(D:Tr)(hv:visF f n t true pl=some D)(st:ISt)(ah:P st) :
  ICall prog gl 48 [x,.sl tg (plI pl),.fn g fi ca] st (λr st'=>IsTr D r/\st'=st):=by
 have E:=λb st=>G7 gl f g fi ca G P hP J b n t x hx true pl tg ae ag D hv st;obtain⟨ac,aK,ax,aI,av,aS,aU,aO,aB,aM,az,v',aD,aF,an,n',aH,aq,rfl⟩:=ft hx;refine ICall.intro (c:=cf prog gl [7] [] [5]) func48 rfl (by show _<=13;simp) (by kernel_rfl) ?_;simp only[go_sem,zE,zA,zL];intro b;refine d_ λO=>?_;refine (E b _ (hP _ _ ah (eG (eG (subSt.refl _) O) O)) (b_ ..)).mono ?_;rintro r _ ⟨hr,rfl⟩;have af:=hr;obtain⟨ab,aJ,aw,tr3,au,aQ,aT,aN,aA,aL,ay,v3,aC,aE,am,n3,aG,ao,rfl⟩:=ft hr;simp only[go_sem,zE,zA,zL];exact eI (st':=st) (eG (eG (subSt.refl _) O) O) ⟨af,rfl⟩
mutual
def Ak:∀(q:List Nat)(t:Tr)(x:List Nat×Tr),x∈t.walk q->x.2.steps<=t.steps
 | q,.mk _ _ _ _ _ sub,x,h=>by
  simp only[Tr.walk,dF] at h;rcases h with rfl|h
  ·exact dG _
  ·have:=G9 q 0 sub x h;simp only[Tr.steps];omega
def G9:∀(q:List Nat)(i:Nat)(l:List Tr)(x:List Nat×Tr),x∈eO q i l->x.2.steps<=eE l
 | _,_,[],x,h=>by simp[eO] at h
 | q,i,a::l,x,h=>by
  simp only[eO,dQ] at h;simp only[eE];rcases h with h|h
  ·have:=Ak (q++[i]) a x h;omega
  ·have:=G9 q (i+1) l x h;omega
end
def qL (G:Gl gl)(T:Gt gl)(ca:Nat)(t:Tr)(x:IV)(hx:IsTr t x)(ab:lZ t)(hs:t.steps<=1000000)(st:ISt):ICall prog gl 7 [.raw (.int .u8 (ca:Int)),x] st (λr st'=>(∃tg,r=.tup [.sl tg (plI (hCk ca t).1),((hCk ca t).2:Int)]/\okEs tg 1)/\st'=st):=by
 have hst:=λst=>Es gl x st t hx;have hN:=λst=>Ac gl t x hx (by omega) st;have aA:=λI=>Er gl t x hx ab.2 I;obtain⟨rule,tl,xl,tr,xr,op,fn,ta,xa,tb,xb,v,un,tu,xu,n,ts,xs,rfl⟩:=ft hx;refine ICall.intro (c:=cf prog gl [2,4,5] [] [3]) func7 rfl (by show _<=27;simp) (by kernel_rfl) ?_;simp only[go_sem,zE,IV.one];intro b2;refine d_ λaC=>?_;intro b4;refine d_ λac=>?_;intro b5;refine d_ λE=>?_;have ah:b2≠b4:=by rintro rfl;rw[b_] at ac;cases ac
 have af:b4≠b5:=by rintro rfl;rw[b_] at E;cases E
 have am:b2≠b5:=by rintro rfl;rw[ISt.put_apply,a_ ah,b_] at E;cases E
 rw[ISt.put_apply,a_ ah.symm] at ac;rw[ISt.put_apply,a_ af.symm,ISt.put_apply,a_ am.symm] at E;obtain⟨s1,ax,f2,f4,f5,aa⟩:∃s1,s1=((st.put b2 (some (.box [.raw (.int .u8 ca)]))).put b4 (some (.box [()]))).put b5 (some (.box [(0:Int)]))/\s1 b2=some (.box [.raw (.int .u8 ca)])/\s1 b4=some (.box [()])/\s1 b5=some (.box [(0:Int)])/\subSt st s1 :=
  ⟨_,rfl,by simp only[ISt.put_apply,a_ ah,a_ am,dJ],by simp only[ISt.put_apply,a_ af,dJ],by simp only[ISt.put_apply,dJ],eG (eG (eG (subSt.refl st) aC) ac) E⟩
 rw[<- ax];have g5:∀(s:ISt) o,(s.put b4 o) b5=s b5:=λs o=>by rw[ISt.put_apply,a_ af.symm]
 have g4:∀(s:ISt) o o',((s.put b4 o).put b5 o') b4=o:=λs o o'=>by rw[ISt.put_apply,a_ af,b_]
 have D:∀(s:ISt) o o',subSt st s->subSt st ((s.put b4 o).put b5 o'):=λs o o' h=>eG (eG h ac) E;by_cases hc:ca=1\/ca=2
 ·obtain⟨a,d1,d2⟩:∃a:Bool,decide ((ca:Int)=1)=a/\(a=false->decide ((ca:Int)=2)=true):=by
   rcases hc with rfl|rfl
   ·exact⟨true,rfl,nofun⟩
   ·exact⟨false,rfl,λ_=>rfl⟩
  cases a
  all_goals first
   | (replace d2:=d2 rfl;simp only[go_sem,zE,zA,f2,d1,d2,fits])
   | simp only[go_sem,zE,zA,f2,d1,fits]
  all_goals
   refine (hN _).q ?_;by_cases ag:300<t.steps
   ·have d3:decide ((300:Int)<(t.steps:Int))=true:=dEt (by omega);have hq:hCk ca t=([],5):=by unfold hCk;rw[cX hc,cX ag]
    simp only[go_sem,zE,zL,f4,f5,d3,g5,g4,b_];exact eI (D _ _ _ aa) ⟨⟨_,by rw[hq];rfl,.inl rfl⟩,rfl⟩
   ·have d3:decide ((300:Int)<(t.steps:Int))=false:=dEf (by omega);have hq:hCk ca t=fz (badN ca) (t.walk []):=by unfold hCk;rw[cX hc,a_ ag]
    simp only[go_sem,zE,zA,d3,fits];refine (hst _).q ?_;simp only[go_sem,reduceCtorEq];refine RangeL.intro (lkW (λx=>x) (t.walk [])) (t.walk []).length (λk s=>(s b2=some (.box [.raw (.int .u8 ca)])/\s b4=some (.box [()])/\s b5=some (.box [(0:Int)])/\subSt st s)/\fz (badN ca) ((t.walk []).take k)=([],0)) (λe s=>CkS st b4 b5 (hCk ca t) e s) rfl ?_ ?_ ?_ (aA _) ?_ ?_
    ·rintro k a e ⟨p,u,a,y,_,_,_,rfl⟩;rfl
    ·exact⟨⟨f2,f4,f5,aa⟩,by simp[fz]⟩
    ·rintro k _ e s ⟨p,z,a,y,O,hz,hp,rfl⟩ hd ⟨⟨c2,c4,c5,J⟩,hf⟩;have al:disj s e:=hd;have r2:=iF al _ _ c2;have az:=qj [] t _ (lMg O);have aY:=ab.2;simp only[ee] at az;have ay:=λst=>PI gl G T ca z y hz (ab.1 _ (lMg O)) (dN (Ak [] t _ (lMg O)) hs) st;have aB:=Em gl p a e s hp (by omega) al;have aj:ivOf a=some a:=by rcases hp with⟨t,rfl,_⟩|⟨g,cap,cs,rfl,_⟩<;>rfl
     obtain⟨av,aS,aJ,aQ,aI,aX,a1,aU,aL,aT,aK,v',aM,aN,aG,n',aO,aH,rfl⟩:=ft hz;simp only[go_sem,zE,zA,zL,r2,aj];refine (ay _).q ?_;cases hr:gx ca z
     ·have hb:badN ca z=270:=by unfold badN;rw[hr];rfl
      have hv:hCk ca t=(p,270):=by
       rw[hq]
       conv=>lhs;rw[<- eA k (t.walk [])]
       rw[fC (lGs O).1,(lGs O).2,rT,hf];simp[fz,hb]
      simp only[go_sem,zE,zA,aj];refine aB.mono ?_;rintro _ _ ⟨⟨t',rfl,aw⟩,rfl⟩;simp only[go_sem,zE,zL,c4,c5,g5];refine⟨rfl,⟨t',?_,aw⟩,?_,D _ _ _ J⟩
      ·rw[g4,hv]
      ·rw[b_,hv];rfl
     ·have hb:badN ca z=0:=by unfold badN;rw[hr];rfl
      simp only[go_sem];refine⟨s,⟨⟨c2,c4,c5,J⟩,?_⟩,hd,rfl⟩;rw[dM O,rT,hf];simp[fz,hb]
    ·rintro s r ⟨⟨c2,c4,c5,J⟩,hf⟩;rw[lTl,<- hq] at hf;simp only[go_sem,zE,zL,c4,c5,g5,g4,b_];exact eI (D _ _ _ J) ⟨⟨_,by rw[hf];rfl,.inl rfl⟩,rfl⟩
    ·rintro e s r ⟨rfl,⟨tg,c4,ht⟩,c5,J⟩;simp only[go_sem,zE,c4,c5];exact eI J ⟨⟨_,rfl,ht⟩,rfl⟩
 ·have d1:decide ((ca:Int)=1)=false:=dEf (by omega);have d2:decide ((ca:Int)=2)=false:=dEf (by omega);have hq:hCk ca t=([],2):=by unfold hCk;rw[a_ hc]
  simp only[go_sem,zE,zL,f2,f4,f5,d1,d2,g5,g4,b_];exact eI (D _ _ _ aa) ⟨⟨_,by rw[hq];rfl,.inl rfl⟩,rfl⟩
noncomputable def lowB (j:Bool)(h:Nat)(ps:List Sn):Bool:=ps.all λp=>decide (1<=Tryz.hF j p)&&decide (Tryz.hF j p<h)
abbrev mvZ:IV:=.agg [.raw (.int .u8 0),.raw (.int .u8 0),.raw (.string ⟨#[]⟩),.sl ⟨true,.nil,0⟩ [],.sl ⟨true,.nil,0⟩ [],.sl ⟨true,.nil,0⟩ []]
def PL (ca:Nat)(v:Nat×Fm×List Sn)(x:IV)(hv:gV v x)(h:Nat)(ag:v.2.2.length<=1000000)(hp:∀p∈v.2.2,∀y st,IsSq ⟨p.1,p.2⟩ y->ICall prog gl 38 [.raw (.int .u8 (ca:Int)),y] st (λr st'=>r=.tup [(Tryz.hF (calJ ca) p:Int),(0:Int)]/\st'=st))(st:ISt) :
  ICall prog gl 99 [.raw (.int .u8 (ca:Int)),x,(h:Int)] st (λr st'=>r=.tup [(lowB (calJ ca) h v.2.2:Bool),(0:Int)]/\st'=st):=by
 obtain⟨o,n,t1,x1,t2,x2,t3,x3,rfl,hf,e3,h3⟩:=hv;have af:=h3.1;refine iI func99 ?_;simp only[go_sem,zE,af];intro _;refine dt v.2.2.length (λk fr st' ds=>lowB (calJ ca) h (v.2.2.take k)=true/\st'=st/\fr 0=.iv (.raw (.int .u8 (ca:Int)))/\fr 2=(h:Int)/\fr 13=.iv (.sl t3 x3)/\fr 14=(v.2.2.length:Int)/\fr 15=(k:Int)/\ds=[]) ?_ ?_ ?_
 ·simp only[go_sem,zE,reduceCtorEq];exact⟨rfl,rfl⟩
 ·rintro k fr G _ O ⟨E,rfl,f0,f2,f13,f14,f15,rfl⟩;obtain⟨p,J⟩:=dD O;obtain⟨y,hy,ac⟩:=h3.2 k p J;have hL:=hp p (lMg J) y;have ab:=ac;obtain⟨ta,xa,tb,xb,rfl,ea,ia,eb,ib⟩:=ac;have aa:=hL G ab;simp only[go_sem,zE,zB,zA,zL,reduceCtorEq,f0,f13,f14,f15,fits,lt_i O,dB e3,iNn,hy];refine aa.mono ?_;rintro _ G ⟨rfl,rfl⟩;have D:lowB (calJ ca) h (v.2.2.take (k+1))=(decide (1<=Tryz.hF (calJ ca) p)&&decide (Tryz.hF (calJ ca) p<h)):=by
   rw[dM J];unfold lowB at E ⊢;rw[kl,E];simp
  have ae:∀b:Bool,lowB (calJ ca) h (v.2.2.take (k+1))=false->lowB (calJ ca) h v.2.2=false:=λ_ hb=>by
   rw[<- eA (k+1) v.2.2];unfold lowB at hb ⊢;rw[kl,hb];rfl
  by_cases h1:1<=Tryz.hF (calJ ca) p
  ·have d1:decide ((Tryz.hF (calJ ca) p:Int)<1)=false:=dEf (by omega);by_cases h2:Tryz.hF (calJ ca) p<h
   ·have d2:decide ((h:Int)<=(Tryz.hF (calJ ca) p:Int))=false:=dEf (by omega);rw[dEt h1,dEt h2] at D;simp only[go_sem,zE,reduceCtorEq,f0,f2,f13,f14,f15,dC,d1,d2,dL O (by omega)];exact D
   ·have d2:decide ((h:Int)<=(Tryz.hF (calJ ca) p:Int))=true:=dEt (by omega);rw[dEf h2,Bool.and_false] at D;simp only[go_sem,zE,f2,dC,d1,d2];exact c_ ⟨by rw[ae true D],rfl⟩
  ·have d1:decide ((Tryz.hF (calJ ca) p:Int)<1)=true:=dEt (by omega);rw[dEf h1,oq] at D;simp only[go_sem,zE,dC,d1];exact c_ ⟨by rw[ae true D],rfl⟩
 ·rintro fr G _ ⟨E,rfl,f0,f2,f13,f14,f15,rfl⟩;rw[lTl] at E;simp only[go_sem,zE,f14,f15,dS (nLi _)];exact c_ ⟨by rw[E],rfl⟩
noncomputable def clM (s:Sq):Nat×Fm×List Sn:=match s.l.find? (hasF s.r) with
 | some f=>(1,f,[])
 | none=>(2,.mk 2 noN [] [],[])
def G_ (G:Gl gl)(T:Gt gl)(s s1:Sq)(x:IV)(hx:IsSq s x)(hs:fY s)(hl:s.l.length<=64/\s.r.length<=64)(h1:SetS s=(s1,0))(ac:fY s1)(ao:s1.l.length<=64)(st:ISt) :
  ICall prog gl 97 [x] st (λr st'=>(∃z,gV (clM s1) z/\r=.tup [z,(0:Int)])/\st'=st):=by
 have hS:=λst=>NA gl G T s x hx hs ⟨by omega,by omega⟩ st;rw[h1] at hS;obtain⟨t1,x1,t2,x2,rfl,e1,i1,e2,i2⟩:=hx;refine iI func97 ?_;simp only[go_sem,zE,zA,zL];refine (hS _).mono ?_;rintro _ st ⟨⟨y,rfl,hy⟩,rfl⟩;obtain⟨t3,x3,t4,x4,rfl,e3,i3,e4,i4⟩:=hy;simp only[go_sem,zE,zA,zL,i3.len,show decide (((0:Nat):Int)=0)=true from rfl];intro _;refine dt s1.l.length (λk fr st' ds=>(∀g∈s1.l.take k,hasF s1.r g=false)/\st'=st/\fr 1=.box [.sl t3 x3,.sl t4 x4]/\fr 2=.box [.raw (.int .u8 0),.raw (.int .u8 0),.raw (.string ⟨#[]⟩),(),(),()]/\fr 17=.iv (.sl t3 x3)/\fr 18=(s1.l.length:Int)/\fr 19=(k:Int)/\ds=[]) ?_ ?_ ?_
 ·simp only[go_sem,zE];exact⟨nofun,rfl⟩
 ·rintro k fr ab _ J ⟨D,rfl,f1,f2,f17,f18,f19,rfl⟩;obtain⟨g,hg⟩:=dD J;obtain⟨z,hz,O⟩:=i3.get hg;have ag:=lMg hg;have hH:=λst=>uM gl G s1.r g t4 x4 z e4 i4 O ac.2 (ac.1 g ag) st;have af:=O;obtain⟨o5,n5,t5,x5,t6,x6,rfl⟩:=O.agg;simp only[go_sem,zE,zB,zA,zL,f1,f17,f18,f19,fits,lt_i J,dB e3,iNn,hz];refine (hH _).q ?_;cases hb:hasF s1.r g
  ·simp only[go_sem,zE,f1,f2,f17,f18,f19,dL J (by omega)];refine λq E=>?_;rw[dM hg] at E;rcases dQ.1 E with E|E
   ·exact D q E
   ·rw[dR.1 E];exact hb
  ·have aa:clM s1=(1,g,[]):=by
    have hf:s1.l.find? (hasF s1.r)=some g:=by
     rw[<- eA k s1.l,fC J,(lGs hg).2,jb,jc.2 λq E=>by rw[D q E];simp];simp[hb]
    simp only[clM,hf]
   rw[aa];simp only[go_sem,zE,zA,zL,f2,fits];exact c_ ⟨⟨_,⟨_,_,_,_,_,_,_,_,rfl,af,.inl rfl,AllR.nil⟩,rfl⟩,rfl⟩
 ·rintro fr ab _ ⟨D,rfl,f1,f2,f17,f18,f19,rfl⟩;rw[lTl] at D;have aa:clM s1=(2,.mk 2 noN [] [],[]):=by
   have hf:s1.l.find? (hasF s1.r)=none:=jc.2 λq E=>by rw[D q E];simp
   simp only[clM,hf]
  rw[aa];simp only[go_sem,zE,zA,zL,f2,f18,f19,dS (nLi _),fits];exact c_ ⟨⟨_,⟨_,_,_,_,_,_,_,_,rfl,by simp only[IsFm];exact⟨_,_,_,_,rfl,by decide,.inl rfl,rfl,.inl rfl,rfl⟩,.inl rfl,AllR.nil⟩,rfl⟩,rfl⟩
def sK (G:Gl gl)(T:Gt gl)(ca:Nat)(s:Sq)(hc:ca=1\/ca=2)(hv:en ca s=true)(h:Nat)(m:Nat×Fm×List Sn)(x:IV)(hx:IsSq s x)(hs:fY s)
  (av:ClF s.l s.r->∀st,ICall prog gl 97 [x] st (λr st'=>(∃z,gV m z/\r=.tup [z,(0:Int)])/\st'=st))
  (aq:¬ ClF s.l s.r->¬ nq (calJ ca) (nf (s.l,s.r))/\(mvF (calJ ca) (nf (s.l,s.r))).find? (λv=>lowB (calJ ca) h v.2.2)=some m/\(mvF (calJ ca) (nf (s.l,s.r))).length<=1000000/\∀v∈mvF (calJ ca) (nf (s.l,s.r)),v.2.2.length<=1000000/\∀p∈v.2.2,∀y st,IsSq ⟨p.1,p.2⟩ y->ICall prog gl 38 [.raw (.int .u8 (ca:Int)),y] st (λr st'=>r=.tup [(Tryz.hF (calJ ca) p:Int),(0:Int)]/\st'=st)) (st:ISt) :
  ICall prog gl 70 [.raw (.int .u8 (ca:Int)),x,(h:Int)] st (λr st'=>(∃z,gV m z/\r=.tup [z,(0:Int)])/\st'=st):=by
 have hC:=λst=>O4 gl G T ca s x hx hs st;have hM:=λhn st=>O9 gl G T ca s hc hv hn x hx hs st;obtain⟨t1,x1,t2,x2,rfl,e1,i1,e2,i2⟩:=hx;refine iI func70 ?_;simp only[go_sem,zE,zA,zL,reduceCtorEq];refine (hC _).mono ?_;rintro r st ⟨rfl,hr⟩;obtain⟨b,hb,rfl⟩:∃b:Bool,(b=true↔ClF s.l s.r)/\r=.tup [b,(0:Int)]:=by
  rcases hr with⟨h,_⟩|⟨_,h,_⟩|⟨_,_,h⟩
  ·exact absurd hc h
  ·rw[hv] at h;cases h
  ·exact h
 cases b
 ·have ag:¬ ClF s.l s.r:=λh=>by have:=hb.2 h;cases this
  obtain⟨ae,D,hml,ab⟩:=aq ag;simp only[go_sem,zE,zA,zL,reduceCtorEq,dC];refine (hM ae _).mono ?_;rintro _ st ⟨⟨t,ys,ht,hys,rfl⟩,rfl⟩;generalize mvF (calJ ca) (nf (s.l,s.r))=L at D hml ab hys;have ak:=hys.1;simp only[go_sem,zE,dC,ak];intro _;refine dt L.length (λk fr st' ds=>(∀v∈L.take k,lowB (calJ ca) h v.2.2=false)/\st'=st/\fr 0=.iv (.raw (.int .u8 (ca:Int)))/\fr 2=(h:Int)/\fr 6=.box [.raw (.int .u8 0),.raw (.int .u8 0),.raw (.string ⟨#[]⟩),(),(),()]/\fr 40=.iv (.sl t ys)/\fr 41=(L.length:Int)/\fr 42=(k:Int)/\ds=[]) ?_ ?_ ?_
  ·simp only[go_sem,zE,reduceCtorEq];exact⟨nofun,rfl⟩
  ·rintro k fr af _ aa ⟨E,rfl,f0,f2,f6,f40,f41,f42,rfl⟩;obtain⟨v,O⟩:=dD aa;obtain⟨y,hy,ac⟩:=hys.2 k v O;obtain⟨ao,an⟩:=ab v (lMg O);have au:=λst=>PL gl ca v y ac h ao an st;have al:=ac;obtain⟨o,n,q1,z1,q2,z2,q3,z3,rfl,_⟩:=ac;simp only[go_sem,zE,zB,zA,zL,reduceCtorEq,f0,f2,f40,f41,f42,fits,lt_i aa,dB ht,iNn,hy];refine (au _).q ?_;cases ai:lowB (calJ ca) h v.2.2
   ·simp only[go_sem,zE,reduceCtorEq,f0,f2,f6,f40,f41,f42,dC,dL aa (by omega)];refine λq J=>?_;rw[dM O] at J;rcases dQ.1 J with J|J
    ·exact E q J
    ·rw[dR.1 J];exact ai
   ·have ah:m=v:=by
     rw[<- eA k L,fC aa,(lGs O).2,jb,jc.2 λq J=>by rw[E q J];simp] at D;simpa[ai] using D.symm
    subst ah;simp only[go_sem,zE,zA,zL,f6,dC];exact c_ ⟨⟨_,al,rfl⟩,rfl⟩
  ·rintro fr af _ ⟨E,rfl,f0,f2,f6,f40,f41,f42,rfl⟩;rw[lTl] at E;rw[jc.2 λq J=>by rw[E q J];simp] at D;cases D
 ·simp only[go_sem,zE,zA,zL,dC];refine (av (hb.1 rfl) _).mono ?_;rintro _ st ⟨⟨z,hz,rfl⟩,rfl⟩;have aj:=hz;obtain⟨o,n,q1,z1,q2,z2,q3,z3,rfl,_⟩:=hz;simp only[go_sem,zE,zA,zL];exact c_ ⟨⟨_,aj,rfl⟩,rfl⟩
abbrev nlS:IV:=.sl ⟨true,.nil,0⟩ []
def sL (ca:Nat)(t:Tr)(h:Nat)(m:Nat×Fm×List Sn)(r:IV):Prop :=
 ((hCk ca t).2≠0/\r=.tup [nlS,(0:Int),mvZ,((hCk ca t).2:Int)]) \/
 ((hCk ca t).2=0/\eY t=[]/\r=.tup [nlS,(0:Int),mvZ,(271:Int)]) \/
 ((hCk ca t).2=0/\∃p ps D,eY t=p::ps/\okEs D 1/\((h=0/\r=.tup [.sl D (plI p),(0:Int),mvZ,(272:Int)])\/(0<h/\∃z,gV m z/\r=.tup [.sl D (plI p),(h:Int),z,(0:Int)])))
def Al (ca:Nat)(t:Tr)(h e:Nat)(m:Nat×Fm×List Sn)(F:Prop)(r:IV):Prop :=
 ((hCk ca t).2≠0/\r=.tup [nlS,(0:Int),mvZ,((hCk ca t).2:Int)]) \/
 ((hCk ca t).2=0/\eY t=[]/\r=.tup [nlS,(0:Int),mvZ,(271:Int)]) \/
 ((hCk ca t).2=0/\∃p ps D,eY t=p::ps/\okEs D 1/\((e≠0/\r=.tup [nlS,(0:Int),mvZ,(e:Int)])\/(e=0/\F/\((h=0/\r=.tup [.sl D (plI p),(0:Int),mvZ,(272:Int)])\/(0<h/\∃z,gV m z/\r=.tup [.sl D (plI p),(h:Int),z,(0:Int)])))))
def Am {t:Tr}{p:List Nat}{ps:List (List Nat)}(h:eY t=p::ps):okP t p/\p.length<=t.steps:=by
 have E:p∈eY t:=by rw[h];exact .head _
 unfold eY at E;obtain⟨⟨q,z⟩,D,rfl⟩:=dH.1 E;have D:=(jf.1 D).1;obtain⟨p',h1,h2,_⟩:=Af [] t q z D;have:=qj [] t _ D;have G:=t.height_le_steps;simp only[ee] at this;rw[fa] at h1;exact⟨h1▸h2,by show q.length<=_;omega⟩
def Ha (G:Gl gl)(T:Gt gl)(aw:∀g x,gl g=some x->age x=x)(ca:Nat)(t:Tr)(x:IV)(hx:IsTr t x)(ac:lZ t)(hs:t.steps<=1000000)(h e:Nat)(m:Nat×Fm×List Sn)(F:Prop)
  (hL:∀p ps,(hCk ca t).2=0->eY t=p::ps->∀y st,IsSq (atT t p).sq y->ICall prog gl 38 [.raw (.int .u8 (ca:Int)),y] st (λr st'=>(r=.tup [(h:Int),(e:Int)]/\(e=0->F))/\st'=st))
  (hB:F->∀p ps,0<h->(hCk ca t).2=0->eY t=p::ps->∀y st,IsSq (atT t p).sq y->ICall prog gl 70 [.raw (.int .u8 (ca:Int)),y,(h:Int)] st (λr st'=>(∃z,gV m z/\r=.tup [z,(0:Int)])/\st'=st)) (st:ISt) :
  ICall prog gl 40 [.raw (.int .u8 (ca:Int)),x] st (λr st'=>Al ca t h e m F r/\st'=st):=by
 have hC:=λst=>qL gl G T ca t x hx ac hs st;have hG:=λst=>sJ gl aw t x hx hs st;have hA:=λp hp tg E hl st=>at_c gl t x hx p hp tg E hl st;obtain⟨rule,tl,xl,tr,xr,op,fn,ta,xa,tb,xb,v,un,tu,xu,n,ts,xs,rfl⟩:=ft hx;refine ICall.intro (c:=cf prog gl [] [(7,[0,1,2,3,6,4,5,7])]) func40 rfl (by show _<=69;simp) (by kernel_rfl) ?_;simp only[go_sem,zE,zA,zL,reduceCtorEq];refine (hC _).mono ?_;rintro _ st ⟨⟨aO,rfl,_⟩,rfl⟩;by_cases h0:(hCk ca t).2=0
 ·have d0:decide (((hCk ca t).2:Int)=0)=true:=dEt (by omega);simp only[go_sem,zE,zA,zL,d0];refine (hG _).mono ?_;rintro _ st ⟨⟨tg,ys,rfl,E,hys⟩,rfl⟩;cases D:eY t with
  | nil =>
   rw[D] at hys;obtain rfl:ys=[]:=ev hys.1;simp only[go_sem,zE,zA,zL,show decide (((0:Nat):Int)=0)=true from rfl];exact c_ ⟨.inr (.inl ⟨h0,D,rfl⟩),rfl⟩
  | cons p ps =>
   rw[D] at hys;obtain⟨y,hy,t',rfl,J⟩:=hys.2 0 p rfl;obtain⟨zs,rfl⟩:∃zs,ys=.sl t' (plI p)::zs:=by
    cases ys with
    | nil=>cases hy
    | cons a zs=>cases hy;exact⟨zs,rfl⟩
   obtain⟨av,au⟩:=Am D;have d1:decide (((zs.length+1:Nat):Int)=0)=false:=dEf (by omega);have ha:=hA p av t' J (dN au hs);simp only[go_sem,zE,zA,zL,fits,d1,dB E];intro _;refine (ha _).mono ?_;rintro r st ⟨hr,rfl⟩;have ae:=hL p ps h0 D;have af:=λhF O=>hB hF p ps O h0 D;generalize atT t p=z at hr ae af;obtain⟨am,al,f',u',n',aC⟩:=z;obtain⟨ak,ai,aj,ah,aT,aZ,aS,aK,aQ,aJ,v',aL,aM,aH,aN,aI,rfl,_,aA,ao,az,an,_⟩:=hr.mk;have ab:IsSq al (.agg [.sl ak ai,.sl aj ah]):=⟨_,_,_,_,rfl,aA,ao,az,an⟩
   have ax:=λst=>ae _ st ab;have ay:=λhF O st=>af hF O _ st ab;simp only[go_sem,zE,zA,zL,reduceCtorEq];refine (ax _).mono ?_;rintro _ st ⟨⟨rfl,hF⟩,rfl⟩;by_cases he:e=0
   case neg =>
    have d3:decide ((e:Int)=0)=false:=dEf (by omega);simp only[go_sem,zE,zA,zL,d3];exact c_ ⟨.inr (.inr ⟨h0,p,ps,t',D,J,.inl ⟨he,rfl⟩⟩),rfl⟩
   subst he;have hF:=hF rfl;rcases Nat.eq_zero_or_pos h with rfl|O
   ·simp only[go_sem,zE,zA,zL,fits,show decide (((0:Nat):Int)=0)=true from rfl,dB E,jD,ja];exact c_ ⟨.inr (.inr ⟨h0,p,ps,t',D,J,.inr ⟨rfl,hF,.inl ⟨rfl,rfl⟩⟩⟩),rfl⟩
   ·have d2:decide ((h:Int)=0)=false:=dEf (by omega);simp only[go_sem,zE,zA,zL,reduceCtorEq,show decide (((0:Nat):Int)=0)=true from rfl,d2];refine (ay hF O _).mono ?_;rintro _ st ⟨⟨z,hz,rfl⟩,rfl⟩;have aq:=hz;obtain⟨o,n,q1,z1,q2,z2,q3,z3,rfl,_⟩:=hz;simp only[go_sem,zE,zA,zL,fits,dC,dB E,jD,ja];exact c_ ⟨.inr (.inr ⟨h0,p,ps,t',D,J,.inr ⟨rfl,hF,.inr ⟨O,_,aq,rfl⟩⟩⟩),rfl⟩
 ·have d0:decide (((hCk ca t).2:Int)=0)=false:=dEf (by omega);simp only[go_sem,zE,zA,zL,d0];exact c_ ⟨.inl ⟨h0,rfl⟩,rfl⟩
def Hb (G:Gl gl)(T:Gt gl)(E:∀g x,gl g=some x->age x=x)(ca:Nat)(t:Tr)(x:IV)(hx:IsTr t x)(D:lZ t)(hs:t.steps<=1000000)(h:Nat)(m:Nat×Fm×List Sn)
  (hL:∀p ps,(hCk ca t).2=0->eY t=p::ps->∀y st,IsSq (atT t p).sq y->ICall prog gl 38 [.raw (.int .u8 (ca:Int)),y] st (λr st'=>r=.tup [(h:Int),(0:Int)]/\st'=st))
  (hB:∀p ps,0<h->(hCk ca t).2=0->eY t=p::ps->∀y st,IsSq (atT t p).sq y->ICall prog gl 70 [.raw (.int .u8 (ca:Int)),y,(h:Int)] st (λr st'=>(∃z,gV m z/\r=.tup [z,(0:Int)])/\st'=st)) (st:ISt) :
  ICall prog gl 40 [.raw (.int .u8 (ca:Int)),x] st (λr st'=>sL ca t h m r/\st'=st) :=
 (Ha gl G T E ca t x hx D hs h 0 m True (λp ps h0 hg y st hy=>(hL p ps h0 hg y st hy).mono λ_ _ ⟨a,b⟩=>⟨⟨a,λ_=>trivial⟩,b⟩) (λ_=>hB) st).mono λr st' ⟨a,b⟩=>⟨by
  rcases a with a|a|⟨h0,p,ps,O,h1,h2,⟨J,_⟩|⟨_,_,J⟩⟩
  ·exact .inl a
  ·exact .inr (.inl a)
  ·exact absurd rfl J
  ·exact .inr (.inr ⟨h0,p,ps,O,h1,h2,J⟩),b⟩
end Go.Proofs.Tryz
namespace Go.Proofs.Tryz
open Go Go.Iv
set_option maxRecDepth 4000
def ga (t:Tr):List Tr:=(t.walk []).map (·.2)
def PM (q:List Nat)(t:Tr):(t.walk q).map (·.2)=ga t:=by
 have:=DZ q [] t;rw[ek] at this;rw[this,gZ];rfl
def Hc:∀(q:List Nat)(i:Nat)(l:List Tr),(eO q i l).map (·.2)=l.flatMap ga
 | _,_,[]=>rfl
 | q,i,a::l=>by rw[eO,eQ,PM,Hc q (i+1) l,eo]
def oY (r:Nat)(s:Sq)(m:Fm)(u:Tm)(n:ByteArray)(sub:List Tr):ga (.mk r s m u n sub)=.mk r s m u n sub::sub.flatMap ga:=by
 unfold ga;simp only[Tr.walk,ec];rw[show (eO [] 0 sub).map (λx=>x.2)=sub.flatMap ga from Hc [] 0 sub];rfl
def PN (t:Tr):t∈ga t:=by obtain⟨r,s,m,u,n,sub⟩:=t;rw[oY];exact .head _
def An {t:Tr}{p:List Nat}(h:okP t p):atT t p∈ga t:=dH.2 ⟨_,vG p t [] h,rfl⟩
def Ao {t z:Tr}(h:z∈ga t):∃p,(p,z)∈t.walk []:=by
 obtain⟨⟨p,z⟩,h1,rfl⟩:=dH.1 h;exact⟨p,h1⟩
def PO {t:Tr}{q:List Nat×Tr}(h:q∈t.walk []):okP t q.1/\atT t q.1=q.2:=by
 obtain⟨p',h1,h2,D⟩:=Af [] t q.1 q.2 h;rw[fa] at h1;rw[h1];exact⟨h2,D⟩
def lstB (L:Sq->Nat×Nat)(z:Tr):Bool:=ki z&&decide ((L z.sq).1=0)
def oi (L:Sq->Nat×Nat)(l:List Tr):Nat:=((l.flatMap ga).filter (lstB L)).length
def kj (L:Sq->Nat×Nat)(t:Tr):Nat:=((ga t).filter (lstB L)).length
def Hd (L:Sq->Nat×Nat)(a:Tr)(l:List Tr):oi L (a::l)=kj L a+oi L l:=by
 unfold oi kj;rw[eo,List.filter_append,lLa]
def Aq (L:Sq->Nat×Nat)(r:Nat)(s:Sq)(m:Fm)(u:Tm)(n:ByteArray)(sub:List Tr):kj L (.mk r s m u n sub)=(if lstB L (.mk r s m u n sub)=true then 1 else 0)+oi L sub:=by
 unfold kj oi;rw[oY,kn];split
 ·rw[dX];omega
 ·omega
def jW (L:Sq->Nat×Nat)(t:Tr):List (List Nat)->List Nat×Nat
 | []=>([],271)
 | p::ps=>if (L (atT t p).sq).2≠0 then ([],(L (atT t p).sq).2) else if (L (atT t p).sq).1=0 then (p,0) else jW L t ps
def upG (L:Sq->Nat×Nat)(t:Tr)(p:List Nat):Nat->List Nat×Nat
 | 0=>([],272)
 | n+1=>if (L (atT t (p.take n)).sq).2≠0 then ([],(L (atT t (p.take n)).sq).2) else if 0<(L (atT t (p.take n)).sq).1 then (p.take n,0) else upG L t p n
noncomputable def sN (L:Sq->Nat×Nat)(ca:Nat)(t:Tr):List Nat×Nat :=
 if (hCk ca t).2≠0 then ([],(hCk ca t).2) else if (jW L t (eY t)).2≠0 then ([],(jW L t (eY t)).2) else upG L t (jW L t (eY t)).1 (jW L t (eY t)).1.length
def He (L:Sq->Nat×Nat)(t:Tr):∀l:List (List Nat),(∃p∈l,jW L t l=(p,0)/\L (atT t p).sq=(0,0))\/(jW L t l=([],271)/\∀p∈l,(L (atT t p).sq).2=0/\(L (atT t p).sq).1≠0)\/∃p∈l,jW L t l=([],(L (atT t p).sq).2)/\(L (atT t p).sq).2≠0
 | []=>.inr (.inl ⟨rfl,nofun⟩)
 | p::ps=>by
  rw[jW];by_cases h1:(L (atT t p).sq).2≠0
  ·rw[cX h1];exact .inr (.inr ⟨p,.head _,rfl,h1⟩)
  ·rw[a_ h1];by_cases h2:(L (atT t p).sq).1=0
   ·rw[cX h2];exact .inl ⟨p,.head _,rfl,Prod.ext h2 (Decidable.of_not_not h1)⟩
   ·rw[a_ h2];rcases He L t ps with⟨q,a,b⟩|⟨a,b⟩|⟨q,a,b⟩
    ·exact .inl ⟨q,.tail _ a,b⟩
    ·refine .inr (.inl ⟨a,λq D=>?_⟩);rcases dF.1 D with rfl|D
     ·exact⟨Decidable.of_not_not h1,h2⟩
     ·exact b q D
    ·exact .inr (.inr ⟨q,.tail _ a,b⟩)
def As {t:Tr}{p:List Nat}(h:p∈eY t):okP t p/\ki (atT t p)=true/\p.length<=t.steps:=by
 unfold eY at h;obtain⟨q,D,rfl⟩:=dH.1 h;obtain⟨h1,h2⟩:=jf.1 D;obtain⟨G,E⟩:=PO h1;have:=qj [] t _ h1;have J:=t.height_le_steps;simp only[ee] at this;exact⟨G,by rw[E];exact h2,by omega⟩
end Go.Proofs.Tryz
namespace Go.Proofs.Tryz
open Go Go.Iv
set_option maxRecDepth 4000
variable (gl:Nat->Option IV)
def Au (t:Tr):Tr:=goalT t.sq
def folF (m:Nat×Fm×List Sn)(t:Tr):Tr:=.mk m.1 t.sq m.2.1 tmZ noN (m.2.2.map λp=>goalT ⟨p.1,p.2⟩)
def PT (t:Tr)(x:IV)(hx:IsTr t x)(st:ISt):ICall prog gl 49 [x] st (λr st'=>IsTr (Au t) r/\st'=st):=by
 obtain⟨D,al,f',u',n',E⟩:=t;obtain⟨ai,aa,ah,O,am,ao,ak,ac,aj,ab,v',ae,af,G,ag,J,rfl,_,e1,i1,e2,i2,_⟩:=hx.mk;refine iI func49 ?_;simp only[go_sem,zE,zA,zL,fits];exact c_ ⟨⟨_,_,_,_,_,_,_,_,_,_,_,_,_,_,_,_,rfl,by decide,e1,i1,e2,i2,qc,oX,.inl rfl,rfl⟩,rfl⟩
def Av {s:Sq}{x:IV}(h:IsSq s x):IsSq s (age x):=by
 obtain⟨t,xs,D,ys,rfl,G,i1,E,i2⟩:=h;exact⟨⟨false,t.cap,t.es⟩,_,⟨false,D.cap,D.es⟩,_,by simp only[age,ages],G,i1.aged,E,i2.aged⟩
def PU {l:List IV}{i:Nat}{x:IV}(h:l[i]?=some x):(ages l)[i]?=some (age x):=by
 induction l generalizing i with
 | nil=>simp at h
 | cons a l D =>
  cases i with
  | zero=>cases h;simp[ages]
  | succ i=>simp only[ages,gY] at h ⊢;exact D h
def Aw:∀l:List IV,(ages l).length=l.length
 | []=>by simp[ages]
 | _::l=>by simp[ages,Aw l]
def PV {m:Nat×Fm×List Sn}{x:IV}(h:gV m x):gV m (age x):=by
 obtain⟨o,n,t1,x1,t2,x2,t3,G,rfl,J,O,E⟩:=h;have D:=J.aged;simp only[age,ages] at D;refine⟨_,_,_,_,_,_,⟨false,t3.cap,t3.es⟩,ages G,by simp only[age,ages],D,O,by rw[Aw];exact E.1,λi p hp=>?_⟩;obtain⟨y,h1,h2⟩:=E.2 i p hp;exact⟨_,PU h1,Av h2⟩
def PW (m:Nat×Fm×List Sn)(z:List IV)(hm:gV m (.agg z))(hr:m.1<256)(hl:m.2.2.length<=1000000)(t:Tr)(x:IV)(hx:IsTr t x)(st:ISt):ICall prog gl 51 [x,.cptr (.agg z)] st (λr st'=>IsTr (folF m t) r/\st'=st):=by
 obtain⟨ag,aG,f',u',n',ak⟩:=t;obtain⟨ae,ab,ac,aa,aH,aO,aD,aq,aC,ao,v',az,aA,am,aB,an,rfl,_,e1,i1,e2,i2,_⟩:=hx.mk;obtain⟨o,n,t1,x1,t2,x2,t3,x3,hz,hf,e3,h3⟩:=hm;injection hz with hz;subst hz;have aj:=h3.1;refine iI func51 ?_;simp only[go_sem,zE,zB,zA,zL,fits,aj];intro _;refine dt m.2.2.length (λk fr st' ds=>(∃t y,fr 4=.box [.raw (.int .u8 (m.1:Int)),.sl ae ab,.sl ac aa,.raw (.int .u8 o),n,.sl t1 x1,.sl t2 x2,false,.raw (.string ⟨#[]⟩),(),.raw (.string ⟨#[]⟩),.sl t y]/\own st' t k 12 st/\subSt st st'/\IsTrs ((m.2.2.take k).map λp=>goalT ⟨p.1,p.2⟩) y/\y.length=k) /\
  fr 3=.box z12/\fr 15=.iv (.sl t3 x3)/\fr 16=(m.2.2.length:Int)/\fr 17=(k:Int)/\ds=[]) ?_ ?_ ?_
 ·simp only[go_sem,zE,z12];exact⟨⟨_,[],rfl,own.nil ..,subSt.refl _,rfl,rfl⟩,rfl⟩
 ·rintro k fr af _ J ⟨⟨t,y,f4,E,D,O,G⟩,f3,f15,f16,f17,rfl⟩;obtain⟨p,hp⟩:=dD J;obtain⟨q,hq,ai⟩:=h3.2 k p hp;obtain⟨t5,x5,t6,x6,rfl,e5,i5,e6,i6⟩:=ai;simp only[go_sem,zE,zB,zA,zM,zL,f4,f15,f16,f17,fits,lt_i J,dB e3,iNn,hq,eh];refine ij E G D rfl (by simp[fits,IV.one]) (by simp only;omega) (by omega) λt' aF w1 w2 w3=>?_;simp only[go_sem,zE,zA,zL,f3,f4,f15,f16,f17,dL J (by omega)];refine⟨t',_,rfl,w1,w2,?_,by rw[lLa,G];rfl⟩;rw[dM hp,eQ,List.map_singleton];exact O.append ⟨_,[],rfl,⟨_,_,_,_,_,_,_,_,_,_,_,_,_,_,_,_,rfl,by decide,e5,i5,e6,i6,qc,oX,.inl rfl,rfl⟩,rfl⟩
 ·rintro fr af _ ⟨⟨t,y,f4,E,D,O,G⟩,f3,f15,f16,f17,rfl⟩;rw[lTl] at O;simp only[go_sem,zE,zA,zL,f3,f4,f16,f17,z12,dS (nLi _)];exact eI D ⟨⟨_,_,_,_,_,_,_,_,_,_,_,_,_,_,_,_,rfl,hr,e1,i1,e2,i2,hf,oX,E.es,O⟩,rfl⟩
def LsOk (L:Sq->Nat×Nat)(ca:Nat)(t:Tr):Prop:=∀z∈ga t,∀y st,IsSq z.sq y->ICall prog gl 38 [.raw (.int .u8 (ca:Int)),y] st (λr st'=>r=.tup [((L z.sq).1:Int),((L z.sq).2:Int)]/\st'=st)
def Hf {L:Sq->Nat×Nat}{ca:Nat}{t:Tr}(G:LsOk gl L ca t){p:List Nat}(hp:okP t p){rule:Nat}{sq:Sq}{f:Fm}{u:Tm}{n:ByteArray}{sub:List Tr}(E:atT t p=.mk rule sq f u n sub){y:IV}(D:IsSq sq y)(st:ISt) :
  ICall prog gl 38 [.raw (.int .u8 (ca:Int)),y] st (λr st'=>r=.tup [((L (atT t p).sq).1:Int),((L (atT t p).sq).2:Int)]/\st'=st) :=
 G _ (An hp) y st (by rw[E];exact D)
def PX (ai:∀g x,gl g=some x->age x=x)(L:Sq->Nat×Nat)(ca:Nat)(t:Tr)(x:IV)(hx:IsTr t x)(hs:t.steps<=1000000)(hL:LsOk gl L ca t)(st:ISt) :
  ICall prog gl 47 [.raw (.int .u8 (ca:Int)),x] st (λr st'=>(∃J,okEs J 1/\r=.tup [.sl J (plI (jW L t (eY t)).1),((jW L t (eY t)).2:Int)])/\st'=st):=by
 have hG:=λst=>sJ gl ai t x hx hs st;have hA:=λp hp J G hl st=>at_c gl t x hx p hp J G hl st;obtain⟨rule,tl,xl,tr,xr,op,fn,ta,xa,tb,xb,v,un,tu,xu,n,ts,xs,rfl⟩:=ft hx;refine iI func47 ?_;simp only[go_sem,zE,zA,zL];refine (hG _).mono ?_;rintro _ st ⟨⟨J,ys,rfl,G,hys⟩,rfl⟩;have af:=hys.1;simp only[go_sem,af];intro _;refine dt (eY t).length (λk fr st' ds=>jW L t (eY t)=jW L t ((eY t).drop k)/\st'=st/\fr 0=.iv (.raw (.int .u8 (ca:Int)))/\fr 3=.box [.raw (.int .u8 rule),.sl tl xl,.sl tr xr,.raw (.int .u8 op),fn,.sl ta xa,.sl tb xb,v,un,.sl tu xu,n,.sl ts xs]/\fr 11=.iv (.sl J ys)/\fr 12=((eY t).length:Int)/\fr 13=(k:Int)/\ds=[]) ?_ ?_ ?_
 ·simp only[go_sem,zE,reduceCtorEq];exact rfl
 ·rintro k fr D _ E ⟨hd,rfl,f0,f3,f11,f12,f13,rfl⟩;obtain⟨p,hp⟩:=dD E;obtain⟨y,hy,t',rfl,O⟩:=hys.2 k p hp;obtain⟨aa,_,ah⟩:=As (lMg hp);have ha:=hA p aa t' O (dN ah hs) D;rw[fC E,(lGs hp).2,jW] at hd;simp only[go_sem,zE,zA,zL,reduceCtorEq,f0,f3,f11,f12,f13,fits,lt_i E,dB G,iNn,hy];refine ha.mono ?_;rintro r D ⟨hr,rfl⟩;obtain⟨ab,aO,f',u',n',an,hz⟩:∃a b c d e f,atT t p=.mk a b c d e f:=by cases atT t p;exact⟨_,_,_,_,_,_,rfl⟩
  rw[hz] at hr;obtain⟨aK,az,aJ,ax,aQ,aW,aN,aC,aL,aA,v',aE,aG,au,aI,aw,rfl,_,al,ae,ak,ac,_⟩:=hr.mk;have aj:=λst=>Hf gl hL aa hz ⟨_,_,_,_,rfl,al,ae,ak,ac⟩ st;simp only[go_sem,zE,zA,zL];refine (aj _).q ?_;by_cases h1:(L (atT t p).sq).2=0
  ·have d1:decide (((L (atT t p).sq).2:Int)=0)=true:=dEt (by omega);rw[a_ (λh=>h h1)] at hd;by_cases h2:(L (atT t p).sq).1=0
   ·have d2:decide (((L (atT t p).sq).1:Int)=0)=true:=dEt (by omega);rw[cX h2] at hd;simp only[go_sem,zE,d1,d2];exact c_ ⟨⟨t',O,by rw[hd];rfl⟩,rfl⟩
   ·have d2:decide (((L (atT t p).sq).1:Int)=0)=false:=dEf (by omega);rw[a_ h2] at hd;simp only[go_sem,zE,reduceCtorEq,f0,f3,f11,f12,f13,d1,d2,dL E (by omega)];exact hd
  ·have d1:decide (((L (atT t p).sq).2:Int)=0)=false:=dEf (by omega);rw[cX h1] at hd;simp only[go_sem,zE,d1];exact c_ ⟨⟨⟨true,.nil,0⟩,.inl rfl,by rw[hd];rfl⟩,rfl⟩
 ·rintro fr D _ ⟨hd,rfl,f0,f3,f11,f12,f13,rfl⟩;rw[List.drop_length,jW] at hd;simp only[go_sem,zE,f12,f13,dS (nLi _)];exact c_ ⟨⟨⟨true,.nil,0⟩,.inl rfl,by rw[hd];rfl⟩,rfl⟩
def PY (G:Gl gl)(T:Gt gl)(aD:∀g x,gl g=some x->age x=x)(L:Sq->Nat×Nat)(ca:Nat)(t:Tr)(x:IV)(hx:IsTr t x)(af:lZ t)(hs:t.steps<=1000000)(hL:LsOk gl L ca t)(st:ISt) :
  ICall prog gl 24 [.raw (.int .u8 (ca:Int)),x] st (λr st'=>(∃J,okEs J 1/\r=.tup [.sl J (plI (sN L ca t).1),((sN L ca t).2:Int)])/\st'=st):=by
 have hC:=λst=>qL gl G T ca t x hx af hs st;have hA:=λp hp J D hl st=>at_c gl t x hx p hp J D hl st;have aC:=λst=>PX gl aD L ca t x hx hs hL st;obtain⟨ab,av,ak,au,aj,az,aF,ax,am,aw,al,v',an,ao,ah,n',aq,ai,rfl⟩:=ft hx;refine iI func24 ?_;simp only[go_sem,zE,zA,zL,reduceCtorEq];refine (hC _).mono ?_;rintro _ st ⟨⟨a1,rfl,_⟩,rfl⟩;unfold sN;by_cases h0:(hCk ca t).2=0
 case neg =>
  have d0:decide (((hCk ca t).2:Int)=0)=false:=dEf (by omega);rw[cX h0];simp only[go_sem,zE,d0];exact c_ ⟨⟨⟨true,.nil,0⟩,.inl rfl,rfl⟩,rfl⟩
 have d0:decide (((hCk ca t).2:Int)=0)=true:=dEt (by omega);rw[a_ (λh=>h h0)];simp only[go_sem,zE,zA,zL,reduceCtorEq,d0];refine (aC _).mono ?_;rintro _ st ⟨⟨J,D,rfl⟩,rfl⟩;rcases He L t (eY t) with⟨p,h1,h2,h3⟩|⟨h1,_⟩|⟨p,h1,h2,h3⟩
 case inr.inl =>
  rw[h1,cX (by decide)];simp only[go_sem,zE,show decide (((271:Nat):Int)=0)=false from rfl];exact c_ ⟨⟨⟨true,.nil,0⟩,.inl rfl,rfl⟩,rfl⟩
 case inr.inr =>
  have d1:decide (((L (atT t p).sq).2:Int)=0)=false:=dEf (by omega);rw[h2,cX h3];simp only[go_sem,zE,d1];exact c_ ⟨⟨⟨true,.nil,0⟩,.inl rfl,rfl⟩,rfl⟩
 obtain⟨aB,_,bc⟩:=As h1;rw[h2,a_ (by simp)];simp only[go_sem,zE,show decide (((0:Nat):Int)=0)=true from rfl];refine dt p.length (λk fr st' ds=>(∃J,okEs J 1/\fr 8=.iv (.sl J (plI (p.take (p.length-k)))))/\upG L t p p.length=upG L t p (p.length-k)/\st'=st/\fr 0=.iv (.raw (.int .u8 (ca:Int)))/\fr 3=.box [.raw (.int .u8 ab),.sl av ak,.sl au aj,.raw (.int .u8 az),aF,.sl ax am,.sl aw al,v',an,.sl ao ah,n',.sl aq ai]/\ds=[]) ?_ ?_ ?_
 ·simp only[go_sem,zE,reduceCtorEq];exact⟨J,D,by rw[lTl]⟩
 ·rintro k fr O _ be ⟨⟨J,D,f8⟩,E,rfl,f0,f3,rfl⟩;obtain⟨m,hm⟩:∃m,p.length-k=m+1:=⟨p.length-k-1,by omega⟩
  rw[hm] at f8 E;have hl:(plI (p.take (m+1))).length=m+1:=by rw[iW,dU];omega
  have hw:IntKind.i64.wrap (((m+1:Nat):Int)-1)=(m:Int):=by rw[show ((m+1:Nat):Int)-1=(m:Int) by omega];exact w64 (by omega) (by omega)
  have aA:gq none (some (m:Int)) (m+1)=some (0,m):=by
   simp only[gq,fj,ez];rw[cX ⟨by omega,by omega,by omega⟩];simp
  have ae:List.take (m-0) (List.drop 0 (plI (p.take (m+1))))=plI (p.take m):=by
   rw[List.drop_zero,gC];unfold plI;rw[<- List.map_take,List.take_take,Nat.min_eq_left (by omega)]
  rw[upG] at E;have aa:okP t (p.take m):=Ag (l:=p.drop m) (by rw[eA];exact aB);have ac:=G6 D (m+1) m 0;have ha:=hA (p.take m) aa _ ac (by rw[dU];omega) O;rw[gC,List.drop_zero] at ae;simp only[go_sem,zE,zA,zL,reduceCtorEq,f0,f3,f8,hl,hw,aA,ae,show decide ((0:Int)<((m+1:Nat):Int))=true from dEt (by omega),dB D];intro _ _;refine ha.mono ?_;rintro r O ⟨hr,rfl⟩;obtain⟨ay,sq2,bi,u2,n2,aG,hz⟩:∃a b c d e f,atT t (p.take m)=.mk a b c d e f:=by cases atT t (p.take m);exact⟨_,_,_,_,_,_,rfl⟩
  rw[hz] at hr;obtain⟨aZ,aS,tr2,aQ,a8,bh,a7,aU,a6,aT,v2,aW,aX,aN,aY,aO,rfl,_,e1,i1,e2,i2,_⟩:=hr.mk;have aE:=λst=>Hf gl hL aa hz ⟨_,_,_,_,rfl,e1,i1,e2,i2⟩ st;simp only[go_sem,zE,zA,zL];refine (aE _).q ?_;by_cases h4:(L (atT t (p.take m)).sq).2=0
  ·have d1:decide (((L (atT t (p.take m)).sq).2:Int)=0)=true:=dEt (by omega);rw[a_ (λh=>h h4)] at E;by_cases h5:0<(L (atT t (p.take m)).sq).1
   ·have d2:decide ((0:Int)<((L (atT t (p.take m)).sq).1:Int))=true:=dEt (by omega);rw[cX h5] at E;simp only[go_sem,zE,d1,d2];exact c_ ⟨⟨_,ac,by rw[E];rfl⟩,rfl⟩
   ·have d2:decide ((0:Int)<((L (atT t (p.take m)).sq).1:Int))=false:=dEf (by omega);rw[a_ h5] at E;simp only[go_sem,zE,reduceCtorEq,f0,f3,d1,d2];rw[show p.length-(k+1)=m by omega];exact⟨⟨_,ac,rfl⟩,E⟩
  ·have d1:decide (((L (atT t (p.take m)).sq).2:Int)=0)=false:=dEf (by omega);rw[cX h4] at E;simp only[go_sem,zE,d1];exact c_ ⟨⟨⟨true,.nil,0⟩,.inl rfl,by rw[E];rfl⟩,rfl⟩
 ·rintro fr O _ ⟨⟨J,D,f8⟩,E,rfl,f0,f3,rfl⟩;rw[fc] at f8 E;rw[List.take_zero] at f8;rw[upG] at E;have hl:(plI []).length=0:=rfl;simp only[go_sem,zE,zL,f8,hl,show decide ((0:Int)<((0:Nat):Int))=false from rfl];exact c_ ⟨⟨⟨true,.nil,0⟩,.inl rfl,by rw[E];rfl⟩,rfl⟩
def PZ (ca:Nat)(t E:Tr)(x:IV)(O:IsTr t x)(pl:List Nat)(ae:pl.length<=1000000)(e:Nat)(hB:∀st,ICall prog gl 24 [.raw (.int .u8 (ca:Int)),x] st (λr st'=>((e≠0/\∃D xs,okEs D 1/\r=.tup [.sl D xs,(e:Int)])\/(e=0/\∃D,okEs D 1/\r=.tup [.sl D (plI pl),(0:Int)]))/\st'=st))
  (n:Nat) (hv:e=0->visF Au n t true pl=some E) (st:ISt) :
  ICall prog gl 25 [.raw (.int .u8 (ca:Int)),x] st (λr st'=>((e≠0/\r=.tup [.agg z12,(e:Int)])\/(e=0/\∃z,IsTr E z/\r=.tup [z,(0:Int)]))/\st'=st):=by
 have ac:=λJ D G st=>G8 gl Au (.func 49) [] [] (λi h=>by cases h;simp only[go_sem]) (λ_=>True) (λ_ _ _ _=>trivial) (λt x st _ O=>.of_ICall (by simp only[go_sem]) (PT gl t x O st)) n t x O pl D G ae E (hv J) st trivial;obtain⟨rule,tl,xl,tr,xr,op,fn,ta,xa,tb,xb,v,un,tu,xu,n',ts,xs,rfl⟩:=ft O;refine iI func25 ?_;simp only[go_sem,zE,zA,zL,reduceCtorEq];refine (hB _).mono ?_;rintro _ st ⟨⟨J,D,zs,_,rfl⟩|⟨J,D,G,rfl⟩,rfl⟩
 ·have d0:decide ((e:Int)=0)=false:=dEf (by omega);simp only[go_sem,zE,zA,zL,d0];exact c_ ⟨.inl ⟨J,rfl⟩,rfl⟩
 ·simp only[go_sem,zE,zA,zL,dC];refine (ac J D G _).mono ?_;rintro z st ⟨hz,rfl⟩;have ab:=hz;obtain⟨aa,au,aj,aq,ai,ax,aA,aw,al,av,ak,v',am,an,ag,n',ao,ah,rfl⟩:=ft hz;simp only[go_sem,zE,zA,zL];exact c_ ⟨.inr ⟨J,_,ab,rfl⟩,rfl⟩
def Hg (ca:Nat)(t E:Tr)(x:IV)(hx:IsTr t x)(hs:t.steps<=1000000)(h:Nat)(m:Nat×Fm×List Sn)(hr:m.1<256)(hF:∀st,ICall prog gl 40 [.raw (.int .u8 (ca:Int)),x] st (λr st'=>sL ca t h m r/\st'=st))
  (n:Nat) (hv:∀p ps,0<h->eY t=p::ps->t.steps+m.2.2.length<=300/\visF (folF m) n t true p=some E) (st:ISt) :
  ICall prog gl 27 [.raw (.int .u8 (ca:Int)),x] st (λr st'=>(((hCk ca t).2≠0/\r=.tup [.agg z12,((hCk ca t).2:Int)])\/((hCk ca t).2=0/\eY t=[]/\r=.tup [.agg z12,(271:Int)])\/((hCk ca t).2=0/\h=0)\/((hCk ca t).2=0/\eY t≠[]/\∃z,IsTr E z/\r=.tup [z,(0:Int)]))/\st'=st):=by
 have hN:=λst=>Ac gl t x hx (by omega) st;have ag:=λp ps J D z hm tg G st=>G8 gl (folF m) (.func 51) [] [.cptr (.agg z)] (λi h=>by cases h;simp only[go_sem]) (λ_=>True) (λ_ _ _ _=>trivial) (λt x st _ hx=>.of_ICall (by simp only[go_sem]) (PW gl m z hm hr (by have:=(hv p ps J D).1;omega) t x hx st)) n t x hx p tg G (dN (Am D).2 hs) E (hv p ps J D).2 st trivial;obtain⟨rule,tl,xl,tr,xr,op,fn,ta,xa,tb,xb,v,un,tu,xu,n',ts,xs,rfl⟩:=ft hx;refine ke (t:=8) (n:=2) (c:=cf prog gl [8] [(4,[0,2,3,4,1,5,6])]) func27 rfl (by show _<=34;simp) (by show _<34;simp) (by kernel_rfl) ?_;simp only[go_sem,zE,zA,zL,reduceCtorEq];refine (hF _).mono ?_;rintro r st ⟨⟨h0,rfl⟩|⟨h0,D,rfl⟩|⟨h0,p,ps,tg,D,G,⟨J,rfl⟩|⟨J,z,hz,rfl⟩⟩,rfl⟩
 ·have d0:decide (((hCk ca t).2:Int)=0)=false:=dEf (by omega);simp only[go_sem,zE,zA,zL];refine λb=>d_ λO=>?_;refine⟨b,mvZ,by simp only[go_sem,zE],b_ ..,?_⟩;rw[oh O];simp only[go_sem,zE,zA,zL,d0];exact c_ ⟨.inl ⟨h0,rfl⟩,rfl⟩
 ·simp only[go_sem,zE,zA,zL];refine λb=>d_ λO=>?_;refine⟨b,mvZ,by simp only[go_sem,zE],b_ ..,?_⟩;rw[oh O];simp only[go_sem,zE,zA,zL,show decide ((271:Int)=0)=false from rfl];exact c_ ⟨.inr (.inl ⟨h0,D,rfl⟩),rfl⟩
 ·simp only[go_sem,zE,zA,zL];refine λb=>d_ λO=>?_;refine⟨b,mvZ,by simp only[go_sem,zE],b_ ..,?_⟩;rw[oh O];simp only[go_sem,zE,zA,zL,show decide ((272:Int)=0)=false from rfl];exact c_ ⟨.inr (.inr (.inl ⟨h0,J⟩)),rfl⟩
 ·have aa:=PV hz;obtain⟨hst,_⟩:=hv p ps J D;obtain⟨o,nm,q1,z1,q2,z2,q3,z3,rfl,_,_,h3⟩:=hz;have ah:=h3.1;simp only[go_sem,zE,zA,zL];refine λb=>d_ λO=>?_;refine⟨b,.agg [.raw (.int .u8 (m.1:Int)),.raw (.int .u8 o),nm,.sl q1 z1,.sl q2 z2,.sl q3 z3],by simp only[go_sem,zE],b_ ..,?_⟩;rw[oh O];simp only[age,ages] at aa ⊢;have ai:(ages z3).length=m.2.2.length:=by rw[Aw];exact ah
  have dn:decide ((300:Int)<IntKind.i64.wrap ((t.steps:Int)+(m.2.2.length:Int)))=false:=dEf (by rw[w64 (by omega) (by omega)];omega);simp only[go_sem,zE,zA,zL,fits,dC,ai];refine (hN _).q ?_;simp only[go_sem,zE,zA,zL,dn];refine (ag p ps J D _ aa tg G _).mono ?_;rintro y st ⟨hy,rfl⟩;have af:=hy;obtain⟨ae,aA,aq,az,ao,aG,aM,aC,av,aB,au,v',aw,ax,am,n',ay,an,rfl⟩:=ft hy;simp only[go_sem,zE,zA,zL];exact c_ ⟨.inr (.inr (.inr ⟨h0,by rw[D];simp,_,af,rfl⟩)),rfl⟩
