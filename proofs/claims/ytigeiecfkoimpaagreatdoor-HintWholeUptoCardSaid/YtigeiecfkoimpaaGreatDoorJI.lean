/- The layer of ideal values, part Q: from -/
import Derived.Test.YtigeiecfkoimpaaGreatDoorJH
import Derived.IntWalk
set_option linter.all false
namespace Go.Iv
open Go
def frOf (args:List IV):Fr:=λt=>match args[t]? with|some x=>x|none=>.iv .junk
@[go_sem] def UR (x:IV)(l:List IV):frOf (x::l) 0=x:=(rfl)
@[go_sem] def US (x:IV)(l:List IV)(t:Nat):frOf (x::l) (t+1)=frOf l t:=by simp[frOf]
def Inv.start {C:Cx}{X:WS}{rs:List Value}{args:List IV}{N:Nat}(G:Good C X)(hv:C.vl X rs args)(hN:args.length<=N) :
  Inv C X N X (frOf args) [] { tmps:=(⟨rs⟩:Array Value)++Array.replicate (N-(⟨rs⟩:Array Value).size) undef,defers:=[] }:=by
 refine⟨G,Ext.refl X,⟨λt=>?_,λt O cs cs' h=>?_⟩,?_,.nil⟩
 ·unfold frOf;cases J:args[t]? with
  | none=>exact .junk _
  | some x =>
   obtain⟨r,E,D⟩:=hv.get J;have:tm ((⟨rs⟩:Array Value)++Array.replicate (N-(⟨rs⟩:Array Value).size) undef) t=r:=by
    have hl:=(lGs E).1;unfold tm;rw[lv,Array.getElem?_append_left (by simpa using hl)];grind
   simp only;rw[this];exact D
 ·unfold frOf at h;grind
 ·have:=hv.1;simp;omega
def resI (P:Program)(fr:Fr)(st:ISt):ResultVar->Option IV
 | .tmp t=>ivOf (fr t)
 | .cell a T=>match tyI P T,plOf a (fr a) with
  | some i,some (.box t _)=>match fr t with
   | .box cs=>gw i.1 i.2 cs 0
   | _=>none
  | some i,some (.ptr b off)=>match st b with
   | some (.box cs)=>gw i.1 i.2 cs off
   | _=>none
  | _,_=>none
def resL (P:Program)(fr:Fr)(st:ISt)(rs:List ResultVar):Option (List IV):=allI (resI P fr st) rs
@[go_sem ↓] def J5 (P:Program)(fr:Fr)(st:ISt):resL P fr st []=some []:=(rfl)
@[go_sem ↓] def J6 (P:Program)(fr:Fr)(st:ISt)(x:ResultVar)(l:List ResultVar):resL P fr st (x::l)=vP (resI P fr st x) (resL P fr st l):=by
 unfold resL;rw[allI];cases resI P fr st x<;>cases allI (resI P fr st) l<;>rfl
@[go_sem ↓] def UT (P:Program)(fr:Fr)(st:ISt)(t:Nat):resI P fr st (.tmp t)=ivOf (fr t):=(rfl)
def outI:List IV->IV
 | [x]=>x
 | l=>.tup l
@[go_sem] def UU (x:IV):outI [x]=x:=(rfl)
@[go_sem] def UW (x y:IV)(l:List IV):outI (x::y::l)=.tup (x::y::l):=(rfl)
@[go_sem] def UX:outI []=.tup []:=(rfl)
def outK (K:IV->ISt->Prop)(x:IV)(st:ISt):Prop:=∃st',subSt st' st/\K x st'
def c_ {K:IV->ISt->Prop}{x:IV}{st:ISt}(h:K x st):outK K x st:=⟨st,subSt.refl st,h⟩
def kQ (P:Program)(gl:Nat->Option IV)(rs:List ResultVar)(K:IV->ISt->Prop):List Dfd->Fr->ISt->Prop
 | [],fr,st=>du (resL P fr st rs) λxs=>outK K (outI xs) st
 | .coll _::ds,fr,st=>kQ P gl rs K ds fr st
 | .call f D args::ds,fr,st=>match f with
  | .func g=>if entI P g=true then ICallD P gl g (args++D) st λ_ st'=>kQ P gl rs K ds fr st' else False
  | _=>False
def bodyK (P:Program)(gl:Nat->Option IV)(rs:List ResultVar)(K:IV->ISt->Prop):Kc
 | .normal,fr,st,ds=>kQ P gl rs K ds fr st
 | .ret,fr,st,ds=>kQ P gl rs K ds fr st
 | _,_,_,_=>False
def Cg (P:Program)(rs:List ResultVar)(K:IV->ISt->Prop):Kc
 | .normal,fr,st,ds=>chk (ds=[]) (du (resL P fr st rs) λxs=>outK K (outI xs) st)
 | .ret,fr,st,ds=>chk (ds=[]) (du (resL P fr st rs) λxs=>outK K (outI xs) st)
 | _,_,_,_=>False
section
variable (P:Program)(gl:Nat->Option IV)(rs:List ResultVar)(K:IV->ISt->Prop)(fr:Fr)(st:ISt)(ds:List Dfd)
@[go_sem ↓] def UY:bodyK P gl rs K .normal fr st ds=kQ P gl rs K ds fr st:=(rfl)
@[go_sem ↓] def UZ:bodyK P gl rs K .ret fr st ds=kQ P gl rs K ds fr st:=(rfl)
@[go_sem ↓] def U0:Cg P rs K .normal fr st ds=chk (ds=[]) (du (resL P fr st rs) λxs=>outK K (outI xs) st):=(rfl)
@[go_sem ↓] def U3:kQ P gl rs K [] fr st=du (resL P fr st rs) λxs=>outK K (outI xs) st:=(rfl)
@[go_sem ↓] def U4 (r:Nat):kQ P gl rs K (.coll r::ds) fr st=kQ P gl rs K ds fr st:=(rfl)
@[go_sem ↓] def J7 (g:FuncId)(D args:List IV):kQ P gl rs K (.call (.func g) D args::ds) fr st=if entI P g=true then ICallD P gl g (args++D) st (λ_ st'=>kQ P gl rs K ds fr st') else False:=(rfl)
end
section
variable {C:Cx}{X0 X:WS}{N:Nat}{fr:Fr}{a:Act}
def J8 {ds:List Dfd}{r:ResultVar}{x:IV}(hI:Inv C X0 N X fr ds a)(h:resI C.P fr X.st r=some x) :
  ∃v,((match r with|.tmp t=>pure (a.tmps.getD t undef)|.cell b T=>(do loadVar T (<- asAddr (a.tmps.getD b undef))):Sem Value)).run C.P X.w=.ok v X.w/\C.v X v x:=by
 cases r with
 | tmp t =>
  obtain⟨hv,_⟩:=A6 (C:=C) (X:=X) h (hI.fr.slot t);exact⟨_,rfl,hv⟩
 | cell b T =>
  simp only[resI] at h;split at h
  ·rename_i i t off ht hp;obtain⟨ag,sz⟩:=i;split at h
   ·rename_i cs G;have hs:=hI.fr.slot b;cases D:fr b with
    | box cs' =>
     rw[D] at hp hs;simp only[plOf,dI,Pl.box.injEq] at hp;obtain⟨rfl,rfl⟩:=hp;rw[D] at G;cases G;obtain⟨b',c,E,hr,hh,J,_⟩:=hs;obtain⟨v,hl,hv⟩:=td ht hh J h;refine⟨v,?_,hv⟩;have O:a.tmps.getD b undef=.pointer (some ⟨b',0,none⟩):=hr;simp only[O,asAddr,dw,dA,dv,hl]
    | iv y =>
     rw[D] at hp;exfalso;cases y with
     | raw u =>
      cases u with
      | pointer p =>
       cases p with
       | none=>cases hp
       | some p =>
        obtain⟨pb,po,ps⟩:=p;cases ps<;>cases hp
      | _=>cases hp
     | _=>cases hp
   ·cases h
  ·rename_i i b' off ht hp;obtain⟨ag,sz⟩:=i;split at h
   ·rename_i cs G;have hs:=hI.fr.slot b;cases D:fr b with
    | box cs'=>rw[D] at hp;cases hp
    | iv y =>
     rw[D] at hp hs;cases y with
     | raw u =>
      cases u with
      | pointer p =>
       cases p with
       | none=>cases hp
       | some p =>
        obtain⟨pb,po,ps⟩:=p;cases ps with
        | none =>
         simp only[plOf,dI,Pl.ptr.injEq] at hp;obtain⟨rfl,rfl⟩:=hp;obtain⟨_,c,E,hh,J⟩:=hI.good.ok _ _ G;obtain⟨v,hl,hv⟩:=td ht hh J h;refine⟨v,?_,hv⟩;have O:a.tmps.getD b undef=.pointer (some ⟨pb,po,none⟩):=dK hs;simp only[O,asAddr,dw,dA,dv,hl]
        | some _=>cases hp
      | _=>cases hp
     | _=>cases hp
   ·cases h
  ·cases h
def Ch {ds:List Dfd}(E:Inv C X0 N X fr ds a):∀ {rs:List ResultVar} {xs:List IV},resL C.P fr X.st rs=some xs →
  ∃vs,(rs.mapM (λr=>match r with|.tmp t=>pure (a.tmps.getD t undef)|.cell b T=>(do loadVar T (<- asAddr (a.tmps.getD b undef))):ResultVar->Sem Value)).run C.P X.w=.ok vs X.w/\C.vl X vs xs
 | [],xs,h=>by
  simp only[J5,dI] at h;subst h;exact⟨[],by simp,VL.nil⟩
 | r::rs,xs,h=>by
  rw[J6] at h;cases D:resI C.P fr X.st r with
  | none=>rw[D] at h;cases h
  | some x =>
   cases hl:resL C.P fr X.st rs with
   | none=>rw[D,hl] at h;cases h
   | some l =>
    rw[D,hl,Ii,dI] at h;subst h;obtain⟨v,h1,h2⟩:=J8 E D;obtain⟨vs,J,G⟩:=Ch E hl;refine⟨v::vs,?_,VL.cons h2 G⟩;rw[List.mapM_cons];simp only[dw,h1,J,dv,dA]
def Ci {ds:List Dfd}(J:Inv C X0 N X fr ds a){fn:Func}{xs:List IV}(h:resL C.P fr X.st fn.results.toList=some xs):∃v,(results fn a.tmps).run C.P X.w=.ok v X.w/\C.v X v (outI xs):=by
 obtain⟨vs,E,hv⟩:=Ch J h;have G:(fn.results.mapM (λr=>match r with|.tmp t=>pure (a.tmps.getD t undef)|.cell b T=>(do loadVar T (<- asAddr (a.tmps.getD b undef))):ResultVar->Sem Value)).run C.P X.w=.ok ⟨vs⟩ X.w:=by
  rw[Array.mapM_eq_mapM_toList];simp only[Sem.run_map,E,dv]
 unfold results;simp only[dw]
 erw [G]
 simp only[dv,dA];refine⟨_,rfl,?_⟩;have D:=hv.1
 match xs,vs,hv with
 | [x],[v],hv=>exact hv.2 0 v x rfl rfl
 | [],[],hv=>exact hv.tup
 | x::y::l,v::u::m,hv =>
  rw[dif_neg (by simp)];exact hv.tup
def Inv.mark {r:Nat}{d:Deferred}{ds:List Deferred}{es:List Dfd}(h:Inv C X0 N X fr (.coll r::es) a)(aj:a.defers=d::ds):Inv C X0 N (X.obj r (.deferred none) (X.st r)) fr es { a with defers:=ds } /\
  d={ target:=.collected r,args:=#[] }/\(Instr.takeDeferred r).run C.P X.w=.ok [] (X.obj r (.deferred none) (X.st r)).w/\(X.obj r (.deferred none) (X.st r)).st=X.st:=by
 have ab:=h.ds;rw[aj] at ab;cases ab with
 | cons hd hs ag =>
  obtain⟨hd,J,hst,hn⟩:=hd;subst hd;have G:∀c T f,Obj.deferred (some [])≠.cells c T f:=by intro c T f hc;cases hc
  have D:∀c T f,Obj.deferred none≠.cells c T f:=by intro c T f hc;cases hc
  have E:(X.obj r (.deferred none) (X.st r)).st=X.st:=by
   funext b;simp only[WS.obj];split
   ·grind
   ·rfl
  have keep:∀ {ds:List Deferred} {es:List Dfd},DsOk C X X0.w.heap.size ds es->Dfd.coll r ∉ es->DsOk C (X.obj r (.deferred none) (X.st r)) X0.w.heap.size ds es:=by
   intro ds es hs aa
   induction hs with
   | nil=>exact .nil
   | cons h' _ ai ih =>
    refine .cons ?_ (ih (λhm=>aa (.tail _ hm))) ai;rename_i d' e' _ _ _;cases e' with
    | call f an args =>
     obtain⟨rs,ae,hd,h1,h2⟩:=h';exact⟨rs,ae,hd,⟨h1.1,λi r x hr hx=>mL J G D (h1.2 i r x hr hx)⟩,⟨h2.1,λi r x hr hx=>mL J G D (h2.2 i r x hr hx)⟩⟩
    | coll r' =>
     obtain⟨hd,h1,h2,h3⟩:=h';have ah:r'≠r:=by rintro rfl;exact aa (.head _)
     exact⟨hd,(j3 J ah).trans h1,by rw[E];exact h2,h3⟩
  refine⟨⟨h.good.obj J G D (λi hi=>by rw[hst] at hi;cases hi),h.ext.obj J G D (.inl hn),⟨λt=>(h.fr.slot t).mono (λ_ _=>mL J G D) ?_,h.fr.inj⟩,h.size,keep hs (ag r rfl)⟩,rfl,?_,E⟩
  ·intro b cs hs hr hb hL aw;have ak:b≠r:=by
    rintro rfl;have O:=h.fr.slot t;rw[hs] at O;obtain⟨b',c,T,aq,ax,_⟩:=O;grind
   exact⟨j3 J ak,rfl,by rw[E];exact hb⟩
  ·have h1:(getObj r).run C.P X.w=.ok (.deferred (some [])) X.w:=by simp[getObj,Sem.run,J]
   have h2:(setObj r (.deferred none)).run C.P X.w=.ok () { X.w with heap:=X.w.heap.setIfInBounds r (.deferred none) }:=by simp[setObj,Sem.run,J]
   unfold Instr.takeDeferred;simp only[dw,h1,dv,h2,dA];rfl
def pI {c:Cf}{B:Nat}{X0:WS}{N:Nat}{fn:Func}{K:IV->ISt->Prop}{fr:Fr}:∀(es:List Dfd) (X:WS) (a:Act),Inv (c.cx B) X0 N X fr es a->kQ c.P c.gl fn.results.toList K es fr X.st →
  LeavesInM Fence.wide 0 c.P fn a.tmps (λe w'=>∃v,e=.returned v/\ends ⟨c.P,c.gl,B⟩ X0 K v w') a.defers .returning X.w
 | [],X,a,G,h=>by
  have E:a.defers=[]:=by
   have:=G.ds;generalize a.defers=D at this;cases this;rfl
  rw[E];obtain⟨xs,al,st',ag,hK⟩:=yQ2.1 h;obtain⟨v,hr,hv⟩:=Ci (C:=c.cx B) G al;obtain⟨ab,O⟩:=G.good.sub ag;exact⟨v,hr,v,rfl,{ X with st:=st' },_,rfl,ab,G.ext.trans O,O.v hv,hK⟩
 | .coll r::es,X,a,G,h=>by
  obtain⟨d,D,E⟩:∃d D,a.defers=d::D:=by
   have:=G.ds;generalize a.defers=D at this;cases this;exact⟨_,_,rfl⟩
  obtain⟨ae,hd,aa,ah⟩:=G.mark E;rw[E];refine⟨by simp,.inl ⟨r,_,by rw[hd],aa,?_⟩⟩;exact pI es _ { a with defers:=D } ae (by rw[ah];exact h)
 | .call f aq args::es,X,a,G,h=>by
  obtain⟨d,D,E⟩:∃d D,a.defers=d::D:=by
   have:=G.ds;generalize a.defers=D at this;cases this;exact⟨_,_,rfl⟩
  have aj:=G.ds;rw[E] at aj;cases aj with
  | cons hd hs _ =>
   obtain⟨rs,af,rfl,h1,h2⟩:=hd;rw[E];cases f with
   | func g =>
    rw[J7] at h;split at h
    ·rename_i he;have an:∃J,c.P.funcs[g]?=some J/\J.name ≠ "runtime.NumGoroutine" /\ ¬ J.body.isNone=true:=by
      unfold entI at he;cases hf:c.P.funcs[g]? with
      | none=>simp[hf] at he
      | some J =>
       simp only[hf,bAt,bne_iff_ne,ne_eq] at he;exact⟨J,rfl,he.1,by have:=he.2;cases hq:J.body<;>simp_all⟩
     obtain⟨J,hf,am,ac⟩:=an;refine⟨by simp,.inr ⟨λh=>by simp[Fence.wide] at h,.func g,⟨rs⟩,g,⟨af++rs⟩,rfl,?_,λ_ _=>trivial,?_⟩⟩
     ·simp only[invoke,callFunc,dw,run_program,dv,hf];rw[a_ (by simpa using am),a_ ac];simp
     ·refine (h B X (af++rs) .returning G.good rfl (h2.append h1)).mono ?_;rintro e u' w' ⟨rfl,v,rfl,X',x,rfl,ab,O,_,hK⟩;have ae:Inv (c.cx B) X0 N X' fr es { a with defers:=D }:=by
       have ao:Inv (c.cx B) X0 N X fr es { a with defers:=D }:=⟨G.good,G.ext,G.fr,G.size,hs⟩
       exact ao.ext' O ab
      exact pI es X' { a with defers:=D } ae hK
    ·exact h.elim
   | _=>exact h.elim
end
def ICall.intro {c:Cf}{f:FuncId}{fn:Func}{D:Code}{args:List IV}{st:ISt}{K:IV->ISt->Prop}(hf:c.P.funcs[f]?=some fn)(hb:fn.body=some D)
  (hN:args.length<=fn.ntmps) (hd:codeOk c fn.ntmps D=true) (h:vcC c D (bodyK c.P c.gl fn.results.toList K) (frOf args) st []):ICall c.P c.gl f args st K:=by
 intro B X rs O hst hv;subst hst;refine (callsIn_wide (n:=0)).1 (callsIn_of_wp_marks hf hb trivial ?_);have hs:=tW (N:=fn.ntmps) D c B X none 0 (λ_=>rfl) _ X (frOf args) [] _ hd (Inv.start O hv hN) h;refine fS hs ?_;rintro e a' w' ⟨X',fr',E,rfl,J,G⟩;cases e with
 | normal=>exact pI E X' a' J G
 | ret=>exact pI E X' a' J G
 | _=>exact G.elim
def ICallD.intro {c:Cf}{f:FuncId}{fn:Func}{D:Code}{args:List IV}{st:ISt}{K:IV->ISt->Prop}(hf:c.P.funcs[f]?=some fn)(hb:fn.body=some D)
  (hN:args.length<=fn.ntmps) (hd:codeOk c fn.ntmps D=true) (h:vcC c D (Cg c.P fn.results.toList K) (frOf args) st []):ICallD c.P c.gl f args st K:=by
 intro B X rs u hg hst hv;subst hst;refine (callsDIn_of_wp (R:=λe w'=>∃v,e=.returned v/\ends ⟨c.P,c.gl,B⟩ X K v w') hf hb trivial ?_);have hs:=tW (N:=fn.ntmps) D c B X none 0 (λ_=>rfl) _ X (frOf args) [] _ hd (Inv.start hg hv hN) h;have G:∀(a':Act) (X':WS) (fr':Fr) (E:List Dfd),Inv (c.cx B) X fn.ntmps X' fr' E a'->chk (E=[]) (du (resL c.P fr' X'.st fn.results.toList) λxs=>outK K (outI xs) X'.st) →
   a'.defers=[]/\∃v,(results fn a'.tmps).run c.P X'.w=.ok v X'.w/\∃v',Ending.returned v=.returned v'/\ends ⟨c.P,c.gl,B⟩ X K v' X'.w:=by
  rintro a' X' fr' E J ⟨rfl,h⟩;have af:a'.defers=[]:=by
   have:=J.ds;generalize a'.defers=am at this;cases this;rfl
  obtain⟨xs,ab,st',O,hK⟩:=yQ2.1 h;obtain⟨v,hr,hv⟩:=Ci (C:=c.cx B) J ab;obtain⟨ae,aa⟩:=J.good.sub O;exact⟨af,v,hr,v,rfl,{ X' with st:=st' },_,rfl,ae,J.ext.trans aa,aa.v hv,hK⟩
 refine fS hs ?_;rintro e a' w' ⟨X',fr',E,rfl,J,hq⟩;cases e with
 | normal=>exact G a' X' fr' E J hq
 | ret=>exact G a' X' fr' E J hq
 | _=>exact hq.elim
def LoopC (c:Cf)(b:Code)(Q:Kc)(fr:Fr)(st:ISt)(ds:List Dfd):Prop:=LoopV (λfr st ds Q=>vcC c b Q fr st ds) Q fr st ds .mk .mk
def RangeC (c:Cf)(f:Fn)(first D:List IV)(ps:Array Tmp)(a b:Code)(Q:Kc)(fr:Fr)(st:ISt)(ds:List Dfd):Prop :=
 w9 c.P c.gl f first D ps.size (λE st' R=>vcC { c with rd:=true } a (oE (vcC { c with rd:=true } b) R) (kP (nL fr) (ps.toList.zip E)) st' []) (λe st' r=>Q e fr st' (.coll r::ds)) st .mk .mk
section
variable (c:Cf)(Q:Kc)(k:Fr->ISt->List Dfd->Prop)(fr:Fr)(st:ISt)(ds:List Dfd)(a b:Code)(id id' l:Nat)(ops:Array Oper)(x:Operand)
@[go_sem ↓] def U5:vcC c .skip Q fr st ds=Q .normal fr st ds:=(rfl)
@[go_sem ↓] def U6:vcC c (.region id ops false) Q fr st ds=fW { c with dr:=false } ops.toList ops.toList (Q .normal) Ad.none_ fr st ds:=(rfl)
@[go_sem ↓] def U7:vcC c (.region id ops true) Q fr st ds=lN c ops (lM c.ord id) (Q .normal) fr st ds:=(rfl)
@[go_sem ↓] def U8 (g:Operand)(ps:Array Tmp):vcC c (.rangeFunc g ps a b) Q fr st ds=if c.rd=true then False else du (evV c.gl fr g) λv=>fnV v λf first D =>
   RangeC c f first D ps a b Q fr st ds:=(rfl)
@[go_sem ↓] def J9:vcC c (.seq a b) Q fr st ds=vcC c a (seqK (vcC c b Q) Q) fr st ds:=(rfl)
@[go_sem ↓] def U9:vcC c (.cond x a b) Q fr st ds=du (evV c.gl fr x) λv=>k9 v λt=>jl t (vcC c a Q fr st ds) (vcC c b Q fr st ds) .mk .mk:=(rfl)
@[go_sem ↓] def U_:vcC c (.block id a) Q fr st ds=vcC c a (oC id Q) fr st ds:=(rfl)
@[go_sem ↓] def Va:vcC c (.loop a) Q fr st ds=LoopC c a Q fr st ds:=(rfl)
@[go_sem ↓] def Vb:vcC c (.exit id) Q fr st ds=Q (.exit id) fr st ds:=(rfl)
@[go_sem ↓] def Vc:vcC c .ret Q fr st ds=Q .ret fr st ds:=(rfl)
@[go_sem ↓] def Vd:seqK k Q .normal fr st ds=k fr st ds:=(rfl)
@[go_sem ↓] def Ve:seqK k Q .normal=k:=(rfl)
@[go_sem ↓] def Vf:seqK k Q (.exit id) fr st ds=Q (.exit id) fr st ds:=(rfl)
@[go_sem ↓] def Vg:seqK k Q .ret fr st ds=Q .ret fr st ds:=(rfl)
@[go_sem ↓] def Vh:oC id Q (.exit id') fr st ds=if id'=id then Q .normal fr st ds else Q (.exit id') fr st ds:=(rfl)
@[go_sem ↓] def Vi:oC id Q .normal fr st ds=Q .normal fr st ds:=(rfl)
@[go_sem ↓] def Vj:oC id Q .ret fr st ds=Q .ret fr st ds:=(rfl)
@[go_sem ↓] def Vk:vV Q .ret fr st ds=Q .ret fr st ds:=(rfl)
end
@[go_sem ↓] def Vl (J:Nat->Fr->ISt->List Dfd->Prop)(m:Nat)(Q:Kc)(fr:Fr)(st:ISt)(ds:List Dfd):pn J m Q .normal fr st ds=∃D,D<m/\J D fr st ds:=(rfl)
@[go_sem ↓] def Vm (J:Nat->Fr->ISt->List Dfd->Prop)(m id:Nat)(Q:Kc)(fr:Fr)(st:ISt)(ds:List Dfd):pn J m Q (.exit id) fr st ds=Q (.exit id) fr st ds:=(rfl)
@[go_sem ↓] def Vn (J:Nat->Fr->ISt->List Dfd->Prop)(m:Nat)(Q:Kc)(fr:Fr)(st:ISt)(ds:List Dfd):pn J m Q .ret fr st ds=Q .ret fr st ds:=(rfl)
def LoopV.intro {body:Fr->ISt->List Dfd->Kc->Prop}{Q:Kc}{fr:Fr}{st:ISt}{ds:List Dfd}(J:Nat->Fr->ISt->List Dfd->Prop)(m:Nat)(h0:J m fr st ds)
  (h:∀m fr' st' D,J m fr' st' D->body fr' st' D (pn J m Q)):LoopV body Q fr st ds .mk .mk:=⟨J,⟨m,h0⟩,h⟩
@[go_sem] def Vo (fr:Fr)(d:Nat)(D skip:Fr->Prop)(k:Lock D)(l:Lock skip):jN fr d false true D skip k l=Hold true (skip (fr.put d true)):=by
 unfold jN;simp[Hold]
@[go_sem] def Vp (fr:Fr)(d:Nat)(D skip:Fr->Prop)(k:Lock D)(l:Lock skip):jN fr d true false D skip k l=Hold true (skip (fr.put d false)):=by
 unfold jN;simp[Hold]
@[go_sem] def Vq (p:Prop):Hold true p=p:=(rfl)
attribute [go_sem ↓] Ip
def pJ {fr:Fr}{d:Nat}{D b:Bool}{E skip:Fr->Prop}{k:Lock E}{l:Lock skip}(h1:b=D->E (fr.put d D))(h2:b=!D->skip (fr.put d (.iv (.raw (.bool !D))))) :
  jN fr d D b E skip k l:=⟨h1,h2⟩
def kR {b:Bool}{p q:Prop}{k:Lock p}{l:Lock q}(h1:b=true->p)(h2:b=false->q):jl b p q k l:=⟨h1,h2⟩
def cf (P:Program)(gl:Nat->Option IV)(esc:List Nat)(ord:List (Nat×List Nat):=[])(frz:List Nat:=[]):Cf:={ P:=P,gl:=gl,esc:=esc,rd:=false,dr:=false,ord:=ord,frz:=frz }
def cfp (P:Program)(gl:Nat->Option IV)(esc:List Nat)(ord:List (Nat×List Nat))(pf:FuncId->List IV->Option IV)
  (pok:∀g D v,pf g D=some v->entI P g=true/\∀st,ICall P gl g D st (λr st'=>r=v/\st'=st)):Cf:={ P:=P,gl:=gl,esc:=esc,rd:=false,dr:=false,ord:=ord,pf:=pf,pok:=pok }
attribute [go_sem] cfp
def w64 {n:Int}(h0:-9223372036854775808<=n)(h1:n<=9223372036854775807):IntKind.i64.wrap n=n:=IntWalk.i64_in _ (by omega)
def ctrK (I:Fr->ISt->List Dfd->Prop)(Q:Kc):Kc
 | .normal,fr,st,ds=>I fr st ds
 | e,fr,st,ds=>Q e fr st ds
def xd (Q:Kc):Kc
 | .normal,_,_,_=>False
 | e,fr,st,ds=>Q e fr st ds
section
variable (I:Fr->ISt->List Dfd->Prop)(Q:Kc)(fr:Fr)(st:ISt)(ds:List Dfd)(id:Nat)
@[go_sem ↓] def Vr:ctrK I Q .normal fr st ds=I fr st ds:=(rfl)
@[go_sem ↓] def Vs:ctrK I Q (.exit id) fr st ds=Q (.exit id) fr st ds:=(rfl)
@[go_sem ↓] def Vt:ctrK I Q .ret fr st ds=Q .ret fr st ds:=(rfl)
@[go_sem ↓] def Vu:xd Q (.exit id) fr st ds=Q (.exit id) fr st ds:=(rfl)
@[go_sem ↓] def Vv:xd Q .ret fr st ds=Q .ret fr st ds:=(rfl)
end
@[go_sem] def pK (l:List UInt8):ByteArray.size ⟨l.toArray⟩=l.length:=by simp[ByteArray.size]
def resD (i:Bool×Nat)(off:Nat):Option IObj->Option IV
 | some (.box cs)=>gw i.1 i.2 cs off
 | _=>none
@[go_sem] def Vw (i:Bool×Nat)(off:Nat)(cs:List IV):resD i off (some (.box cs))=gw i.1 i.2 cs off:=(rfl)
def resC (i:Option (Bool×Nat))(s:SV)(st:ISt):Option IV :=
 match i,s with
 | some i,.box cs=>gw i.1 i.2 cs 0
 | some i,.iv (.raw (.pointer (some ⟨b,off,none⟩)))=>resD i off (st b)
 | _,_=>none
@[go_sem] def Vx (i:Bool×Nat)(cs:List IV)(st:ISt):resC (some i) (.box cs) st=gw i.1 i.2 cs 0:=(rfl)
@[go_sem] def Vy (i:Bool×Nat)(b off:Nat)(st:ISt):resC (some i) (.iv (.raw (.pointer (some ⟨b,off,none⟩)))) st=resD i off (st b):=(rfl)
@[go_sem ↓] def Vz (P:Program)(fr:Fr)(st:ISt)(a:Nat)(T:TypeId):resI P fr st (.cell a T)=resC (tyI P T) (fr a) st:=by
 simp only[resI];cases tyI P T with
 | none=>rfl
 | some i =>
  cases E:fr a with
  | box cs=>simp only[plOf,E,resC]
  | iv x =>
   cases x with
   | raw v =>
    cases v with
    | pointer p =>
     cases p with
     | none=>rfl
     | some p =>
      obtain⟨b,off,sp⟩:=p;cases sp with
      | none =>
       rcases D:st b with _|o
       ·simp only[plOf,resC,resD,D]
       ·cases o<;>simp only[plOf,resC,resD,D]
      | some _=>rfl
    | _=>rfl
   | _=>rfl
def d_ {c q:Prop}(h:c->q):giv c q:=h
def fO {c q:Prop}(h:c)(k:q):chk c q:=⟨h,k⟩
def eI {K:IV->ISt->Prop}{x:IV}{st st':ISt}(h:subSt st' st)(k:K x st'):outK K x st:=⟨st',h,k⟩
def fb {st:ISt}{b:Nat}{o:Option IObj}(h:st b=none):subSt st (st.put b o):=λc x hc=>by
 rw[ISt.put_apply];split
 ·rename_i D;rw[D,h] at hc;cases hc
 ·exact hc
def dz {st:ISt}{b c:Nat}{o:Option IObj}(h:c≠b):st.put b o c=st c:=by rw[ISt.put_apply,a_ h]
def mO {st:ISt}{b c:Nat}{o:IObj}(h:st b=some o)(D:st c=none):b≠c:=by rintro rfl;rw[h] at D;cases D
def J_ {dst:Option Nat}{K K':Kt}(hK:∀ad fr st ds,K ad fr st ds->K' ad fr st ds){ad:Ad}{fr:Fr}{pr:PR}{st:ISt}{ds:List Dfd}:finK dst K ad fr pr st ds->finK dst K' ad fr pr st ds:=by
 cases pr<;>cases dst<;>simp only[finK]<;>first|exact hK _ _ _ _|exact id|(split<;>first|exact id|exact hK _ _ _ _)
def tX {c:Cf}{ops:List Oper}{Q Q':Fr->ISt->List Dfd->Prop}(hQ:∀fr st ds,Q fr st ds->Q' fr st ds):∀ {l:List Oper} {ad:Ad} {fr:Fr} {st:ISt} {ds:List Dfd},fW c ops l Q ad fr st ds->fW c ops l Q' ad fr st ds
 | [],_,_,_,_,h=>hQ _ _ _ h
 | o::l,ad,fr,st,ds,h=>by
  have hk:∀ad fr st ds,fW c ops l Q ad fr st ds->fW c ops l Q' ad fr st ds:=λ_ _ _ _=>tX hQ;have D:∀ad fr pr st ds,finK o.dst (fW c ops l Q) ad fr pr st ds->finK o.dst (fW c ops l Q') ad fr pr st ds:=λ_ _ _ _ _=>J_ hk;clear hk;unfold fW at h ⊢;split
  ·rename_i J;rw[J] at h;exact pz (λ_ _ _=>D _ _ _ _ _) h
  ·rename_i j aa J;rw[J] at h;simp only at h;split
   ·rename_i d hd;rw[hd] at h;simp only at h;unfold jN at h ⊢;split
    ·rename_i b hs;rw[hs] at h;exact⟨λO=>pz (λ_ _ _=>D _ _ _ _ _) (h.1 O),λO=>D ad _ (.val (.raw undef)) st ds (h.2 O)⟩
    ·rename_i b hs;rw[hs] at h;exact D ad _ (.val (.raw undef)) st ds h
    ·rename_i hs G;split at h
     ·rename_i b E;exact absurd E (hs b)
     ·rename_i b E;exact absurd E (G b)
     ·exact h
   ·rename_i hd;rw[hd] at h;exact h
def rv:∀(D:Code){c:Cf}{Q Q':Kc},(∀e fr st ds,Q e fr st ds->Q' e fr st ds)->∀ {fr:Fr}{st:ISt}{ds:List Dfd},vcC c D Q fr st ds->vcC c D Q' fr st ds:=by
 intro D
 induction D with
 | skip=>intro c Q Q' h fr st ds;exact h _ _ _ _
 | region id ops dr =>
  intro c Q Q' h fr st ds;cases dr with
  | false=>exact tX (h .normal)
  | true =>
   intro E;change lN c ops (lM c.ord id) _ fr st ds at E;change lN c ops (lM c.ord id) _ fr st ds;generalize lM c.ord id=o at E ⊢
   match o,E with
   | none,E=>exact tX (h .normal) E
   | some [],E=>exact B9 (h .normal) _ _ E
   | some (i::l),E=>exact tX (h .normal) E
 | seq a b O G =>
  intro c Q Q' h fr st ds;refine O (λe fr st ds=>?_);cases e<;>first|exact G h|exact h _ _ _ _
 | cond x a b O G =>
  intro c Q Q' h fr st ds;exact ir λ_=>wI λ_=>wG (O h) (G h)
 | block id a ih =>
  intro c Q Q' h fr st ds;refine ih (λe fr st ds=>?_);cases e<;>first|exact h _ _ _ _|(simp only[oC];split<;>exact h _ _ _ _)
 | loop a ih =>
  intro c Q Q' h fr st ds E;obtain⟨J,h0,hs⟩:=E;refine⟨J,h0,λm fr' st' ae hj=>ih (λe fr st ds=>?_) (hs m fr' st' ae hj)⟩;cases e<;>first|exact id|exact h _ _ _ _
 | rangeFunc g ps ao b _ _ =>
  intro c Q Q' h fr st ds;refine j4 id (ir λ_=>wL λ_ _ _=>?_);rintro⟨g,hf,he,σ,xs,k0,ac,I,S,up,hu,h1,h2,h3,h4,h5,h6⟩;exact⟨g,hf,he,σ,xs,k0,ac,I,S,up,hu,h1,h2,h3,h4,λk st r hk hi=>h _ _ _ _ (h5 k st r hk hi),λe st r hi=>h _ _ _ _ (h6 e st r hi)⟩
 | exit id=>intro c Q Q' h fr st ds;exact h _ _ _ _
 | scope a ih =>
  intro c Q Q' h fr st ds;refine j4 id (ih (λe fr st ds=>?_));cases e<;>first|exact h _ _ _ _|exact id
 | label l=>intro c Q Q' h fr st ds;exact h _ _ _ _
 | goto l=>intro c Q Q' h fr st ds;exact h _ _ _ _
 | ret=>intro c Q Q' h fr st ds;exact h _ _ _ _
 | refuse w=>intro c Q Q' h fr st ds E;exact E.elim
def dt {c:Cf}{b:Code}{Q:Kc}{fr:Fr}{st:ISt}{ds:List Dfd}(n:Nat)(I:Nat->Fr->ISt->List Dfd->Prop)(h0:I 0 fr st ds)
  (step:∀k fr' st' D,k<n->I k fr' st' D->vcC c b (ctrK (I (k+1)) Q) fr' st' D) (E:∀fr' st' D,I n fr' st' D->vcC c b (xd Q) fr' st' D) :
  LoopC c b Q fr st ds:=by
 refine LoopV.intro (λm fr st ds=>∃k,m=n-k/\k<=n/\I k fr st ds) n ⟨0,rfl,ed _,h0⟩ ?_;rintro m fr' st' D ⟨k,rfl,hk,J⟩;rcases fN k n with G|O
 ·refine rv b (λe fr st ds=>?_) (step k fr' st' D G J);cases e with
  | normal=>exact λh=>⟨n-(k+1),by omega,k+1,rfl,G,h⟩
  | _=>exact id
 ·have:k=n:=by omega
  subst this;refine rv b (λe fr st ds=>?_) (E fr' st' D J);cases e with
  | normal=>exact False.elim
  | _=>exact id
def LoopC.dec {c:Cf}{b:Code}{Q:Kc}{fr:Fr}{st:ISt}{ds:List Dfd}(n:Nat)(I:Nat->Fr->ISt->List Dfd->Prop)(h0:I n fr st ds)
  (step:∀k fr' st' D,I k fr' st' D->vcC c b (pn I k Q) fr' st' D):LoopC c b Q fr st ds:=⟨I,⟨n,h0⟩,step⟩
def seqX (l:List (List IV)):Nat->List IV->Prop:=λk a=>l[k]?=some a
def RangeC.intro {c:Cf}{g:FuncId}{first D:List IV}{ps:Array Tmp}{a b:Code}{Q:Kc}{fr:Fr}{st:ISt}{ds:List Dfd}(xs:Nat->List IV->Prop)(len:Nat)(I:Nat->ISt->Prop)(S:Exit->ISt->Prop)
  (he:entI c.P g=true) (hl:∀k a,xs k a->a.length=ps.size) (h0:I 0 st)
  (E:∀k O st',xs k O->I k st'->vcC { c with rd:=true } a (oE (vcC { c with rd:=true } b) (pH (I (k+1)) S)) (kP (nL fr) (ps.toList.zip O)) st' [])
  (iter:IterC c.P c.gl g first D xs len I) (done:∀st' r,I len st'->Q .normal fr st' (.coll r::ds)) (stop:∀e st' r,S e st'->Q e fr st' (.coll r::ds)) :
  RangeC c (.func g) first D ps a b Q fr st ds:=⟨g,rfl,he,Nat,tT (pF xs),0,(·=len),I,S,noUp,λ_ _ _ _ _ _ _ _ h=>h.elim,λk a _ _ h=>hl k a h.1.1,h0,λk a e k' s G hd J=>by
   obtain⟨⟨hx,rfl⟩,rfl⟩:=G;have hn:(λs'=>∃s1,I (k+1) s1/\ISt.disj (λ_=>none) s1/\s'=s1.add (λ_=>none))=I (k+1):=by
    funext s';exact propext ⟨λ⟨s1,h1,_,h2⟩=>h2▸h1,λh=>⟨s',h,λ_ hb=>absurd rfl hb,rfl⟩⟩
   rw[hn];exact E k a s hx J,iter.lent.up.toH,λk st' r G J=>done st' r (G▸J),stop⟩
def RangeL.intro {c:Cf}{g:FuncId}{first D:List IV}{ps:Array Tmp}{a b:Code}{Q:Kc}{fr:Fr}{st:ISt}{ds:List Dfd}(lk:Nat->List IV->ISt->Prop)(len:Nat)(I:Nat->ISt->Prop)(S:Exit->ISt->Prop)
  (he:entI c.P g=true) (hl:∀k a e,lk k a e->a.length=ps.size) (h0:I 0 st)
  (E:∀k O e s,lk k O e->e.disj s->I k s->vcC { c with rd:=true } a (oE (vcC { c with rd:=true } b) (pH (λs'=>∃s1,I (k+1) s1/\e.disj s1/\s'=s1.add e) S)) (kP (nL fr) (ps.toList.zip O)) (s.add e) [])
  (iter:IterL c.P c.gl g first D lk len I) (done:∀st' r,I len st'->Q .normal fr st' (.coll r::ds)) (stop:∀e st' r,S e st'->Q e fr st' (.coll r::ds)) :
  RangeC c (.func g) first D ps a b Q fr st ds:=⟨g,rfl,he,Nat,tT lk,0,(·=len),I,S,noUp,λ_ _ _ _ _ _ _ _ h=>h.elim,λk a e _ h=>hl k a e h.1,h0,λk a e k' s G hd J=>by
   obtain⟨G,rfl⟩:=G;exact E k a e s G hd J,iter.up.toH,λk st' r G J=>done st' r (G▸J),stop⟩
def RangeU.intro {c:Cf}{g:FuncId}{first D:List IV}{ps:Array Tmp}{a b:Code}{Q:Kc}{fr:Fr}{st:ISt}{ds:List Dfd}(xs:Nat->List IV->Prop)(len:Nat)(I:Nat->ISt->Prop)(S:Exit->ISt->Prop)(up:Nat->List (Value×IV)->List (Value×IV)->Prop)
  (J:∀k s m kk es G,I k s->s m=some (.map kk es)->up m es G->I k (s.put m (some (.map kk G)))) (he:entI c.P g=true) (hl:∀k a,xs k a->a.length=ps.size) (h0:I 0 st)
  (E:∀k aL st',xs k aL->I k st'->vcC { c with rd:=true } a (oE (vcC { c with rd:=true } b) (pH (I (k+1)) S)) (kP (nL fr) (ps.toList.zip aL)) st' [])
  (iter:IterU c.P c.gl g first D (pF xs) len I up) (done:∀st' r,I len st'->Q .normal fr st' (.coll r::ds)) (stop:∀e st' r,S e st'->Q e fr st' (.coll r::ds)) :
  RangeC c (.func g) first D ps a b Q fr st ds:=⟨g,rfl,he,Nat,tT (pF xs),0,(·=len),I,S,up,J,λk a _ _ h=>hl k a h.1.1,h0,λk a e k' s O hd hi=>by
   obtain⟨⟨hx,rfl⟩,rfl⟩:=O;have hn:(λs'=>∃s1,I (k+1) s1/\ISt.disj (λ_=>none) s1/\s'=s1.add (λ_=>none))=I (k+1):=by
    funext s';exact propext ⟨λ⟨s1,h1,_,h2⟩=>h2▸h1,λh=>⟨s',h,λ_ hb=>absurd rfl hb,rfl⟩⟩
   rw[hn];exact E k a s hx hi,iter.toH,λk st' r O hi=>done st' r (O▸hi),stop⟩
mutual
def age:IV->IV
 | .raw v=>.raw v
 | .agg cs=>.agg (ages cs)
 | .tup vs=>.tup (ages vs)
 | .fn f a b=>.fn f (ages a) (ages b)
 | .sl t xs=>.sl ⟨false,t.cap,t.es⟩ (ages xs)
 | .cptr x=>.cptr (age x)
 | .junk=>.junk
def ages:List IV->List IV
 | []=>[]
 | x::l=>age x::ages l
end
def nN:∀l:List IV,ages l=l.map age
 | []=>rfl
 | x::l=>by simp only[ages,ec,nN l]
def kS (l:List IV):(ages l).length=l.length:=by rw[nN,dP]
def lR {l:List IV}{i:Nat}{y:IV}(h:(ages l)[i]?=some y):∃x,l[i]?=some x/\y=age x:=by
 rw[nN,eB,fp] at h;grind
def oF (x:IV):(age x).cells=ages x.cells:=by
 cases x<;>simp only[age,IV.cells,ages]
def xe:∀l:List IV,(ages l).flatMap IV.cells=ages (l.flatMap IV.cells)
 | []=>rfl
 | x::l=>by
  simp only[ages,eo,xe l,oF];rw[nN,nN,nN,eQ]
def V.aged {B B':Nat}{L:Nat->Nat}{w:World}{r:Value}{x:IV}(h:V B L w r x):V B' L w r (age x):=by
 induction h with
 | raw v h=>exact .raw v h
 | junk v=>exact .junk v
 | agg rs cs hl _ ih =>
  exact .agg rs (ages cs) (by rw[kS];exact hl) λi r c O hc=>by
   obtain⟨x,E,rfl⟩:=lR hc;grind
 | tup rs cs hl _ ih =>
  exact .tup rs (ages cs) (by rw[kS];exact hl) λi r c O hc=>by
   obtain⟨x,E,rfl⟩:=lR hc;grind
 | fn f rs cs hl _ af cs' ak _ ih ag =>
  exact .fn f rs (ages cs) (by rw[kS];exact hl) (λi r c O hc=>by
   obtain⟨x,E,rfl⟩:=lR hc;exact ih i r x O E) af (ages cs') (by rw[kS];exact ak) λi r c O hc=>by
   obtain⟨x,E,rfl⟩:=lR hc;exact ag i r x O E
 | sl a cap t xs T vs ac ab al hs G J ae D _ ih =>
  have key:=V.sl (B:=B') (L:=L) (w:=w) a cap ⟨false,t.cap,t.es⟩ (ages xs) T vs;rw[kS] at key;refine key ac ab al (λy hy=>?_) G J (λh=>by cases h) (λaj=>D λh=>aj (by rw[h];rfl)) λi r c O hc=>?_
  ·rw[nN] at hy;obtain⟨x,E,rfl⟩:=dH.1 hy;rw[oF,kS];exact hs x E
  ·rw[xe] at hc;obtain⟨x,E,rfl⟩:=lR hc;grind
 | cptr ad x vs ai G hL hc _ ih =>
  refine .cptr ad (age x) vs ai (by rw[oF,kS];exact G) hL hc λi r c O hc=>?_;rw[oF] at hc;obtain⟨y,hy,rfl⟩:=lR hc;grind
def VL.aged {B B':Nat}{L:Nat->Nat}{w:World}{rs:List Value}{xs:List IV}(h:VL B L w rs xs):VL B' L w rs (ages xs) :=
 ⟨by rw[kS];exact h.1,λi r c E hc=>by
  obtain⟨x,D,rfl⟩:=lR hc;exact (h.2 i r x E D).aged⟩
def tY:IV->Prop
 | .raw _=>True
 | .junk=>True
 | .sl t _=>t.cap=.nil
 | _=>False
def V.flat' {B B':Nat}{L L':Nat->Nat}{w w':World}{r:Value}{x:IV}(h:V B L w r x)(hf:tY x):V B' L' w' r x:=by
 cases h with
 | raw _ h=>exact .raw _ h
 | junk _=>exact .junk _
 | sl a cap t xs T vs D G ae hs E aa O J h =>
  have hn:t.cap=.nil:=hf;rw[hn] at D;obtain⟨rfl,hl,rfl⟩:=D;obtain rfl:xs=[]:=ev hl;obtain rfl:vs=[]:=ev (by rw[E];simp);exact .sl none 0 t [] T [] (by rw[hn];exact⟨rfl,rfl,rfl⟩) G ae hs E (λg hg=>by rw[hn] at hg;cases hg) (λ_ ad af=>by cases af) (λab=>absurd rfl ab) (λi r c hr=>by simp at hr)
 | _=>exact hf.elim
def VL.flat' {B B':Nat}{L L':Nat->Nat}{w w':World}{rs:List Value}{xs:List IV}(h:VL B L w rs xs)(E:∀x∈xs,tY x):VL B' L' w' rs xs :=
 ⟨h.1,λi r c D hc=>(h.2 i r c D hc).flat' (E c (lMg hc))⟩
def Cj:IObj->Prop
 | .box cs=>∀c∈cs,tY c
 | .front _ _=>True
 | .map _ es=>∀e∈es,tY e.2
 | .loop _ _=>False
 | .mapx _ _=>True
 | .iter _ _ _ _=>True
def ObjOk.flat {C C':Cx}{X Y:WS}{b:Nat}{o:IObj}(h:ObjOk C X b o)(J:Cj o)(G:Y.w.heap[b]?=X.w.heap[b]?)(D:Y.L b=X.L b):ObjOk C' Y b o:=by
 cases o with
 | box cs =>
  obtain⟨h0,c,T,E,hv⟩:=h;exact⟨D.trans h0,c,T,G.trans E,hv.flat' J⟩
 | front n s =>
  obtain⟨c,T,E,h2,O⟩:=h;exact⟨c,T,G.trans E,D.trans h2,by rw[D];exact O⟩
 | map k es =>
  obtain⟨h0,hk,hnd,e,cl,E,h1,h2,O,h4⟩:=h;exact⟨D.trans h0,hk,hnd,e,cl,G.trans E,h1,h2.flat' (λx hx=>by
   obtain⟨p,hp,rfl⟩:=dH.1 hx;exact J p hp),O,h4⟩
 | loop r xs=>exact J.elim
 | mapx e c=>exact⟨D.trans h.1,G.trans h.2⟩
 | iter m s e c=>exact⟨D.trans h.1,G.trans h.2⟩
def appT (n:Nat)(t:Tag):Prop:=t.cap=.nil\/(0<n/\t.fresh=true/\∃g,t.cap=.app g)
def appT.pos {n m:Nat}{t:Tag}(h:appT n t)(D:0<m):appT m t:=h.imp id λh=>⟨D,h.2⟩
def appT.up {n k:Nat}{t:Tag}(h:appT n t):appT (n+k) t:=h.imp id λh=>⟨by omega,h.2⟩
def wkE (t:Tag):Nat:=if t.es<=4 then 0 else 1
def appT.to {n m:Nat}{t:Tag}(h:appT n t)(D:m=n):appT m t:=D▸h
mutual
def dfr:IV->Prop
 | .raw (.agg _)=>False
 | .raw (.tuple _)=>False
 | .raw _=>True
 | .agg cs=>dfrs cs/\∀c∈cs,c.one=true
 | .tup vs=>dfrs vs
 | .sl t xs=>appT (xs.length+wkE t) t/\dfrs xs/\∀c∈xs.flatMap IV.cells,c.one=true
 | _=>False
def dfrs:List IV->Prop
 | []=>True
 | x::l=>dfr x/\dfrs l
end
def Ck:∀ {l:List IV}{x:IV},dfrs l->x∈l->dfr x
 | y::l,x,h,D=>by
  simp only[dfrs] at h;rcases dF.1 D with rfl|D
  ·exact h.1
  ·exact Ck h.2 D
def xg:∀ {l m:List IV},dfrs l->dfrs m->dfrs (l++m)
 | [],m,_,h=>h
 | x::l,m,h,k=>by
  simp only[eu,dfrs] at h ⊢;exact⟨h.1,xg h.2 k⟩
inductive OI (st:ISt):IV->IV->Prop
 | refl (x:IV):OI st x x
 | agg (rs cs:List IV) (hl:rs.length=cs.length) (h:∀(i:Nat) (r c:IV),rs[i]?=some r->cs[i]?=some c->OI st r c):OI st (.agg rs) (.agg cs)
 | tup (rs cs:List IV) (hl:rs.length=cs.length) (h:∀(i:Nat) (r c:IV),rs[i]?=some r->cs[i]?=some c->OI st r c):OI st (.tup rs) (.tup cs)
 | nil (t:Tag) (h:t.cap=.nil):OI st (.raw (.slice none 0 0)) (.sl t [])
 | sl (g cap:Nat) (t:Tag) (xs:List IV) (cs:List IV) (hcap:t.cap=.app g) (hlen:xs.length<=140737488355328) (hcl:xs.length<=cap) (hs:∀x∈xs,x.cells.length=t.es)
   (hst:st g=some (.box cs)) (hroom:cap*t.es<=cs.length) (h:∀(i:Nat) (r c:IV),cs[i]?=some r->(xs.flatMap IV.cells)[i]?=some c->OI st r c) :
   OI st (.raw (.slice (some ⟨g,0,none⟩) xs.length cap)) (.sl t xs)
 | ptr (b:Nat) (x:IV) (cs:List IV) (hst:st b=some (.box cs)) (hl:cs.length=x.cells.length) (h:∀(i:Nat) (r c:IV),cs[i]?=some r->x.cells[i]?=some c->OI st r c) :
   OI st (.raw (.pointer (some ⟨b,0,none⟩))) (.cptr x)
def j7 (st:ISt):ISt:=λb=>match st b with|some (.box _)=>none|o=>o
def xh (st:ISt):subSt (j7 st) st:=λb o h=>by
 unfold j7 at h;grind
def rz {st:ISt}{b:Nat}{cs:List IV}(h:st b=some (.box cs)):j7 st b=none:=by
 unfold j7;rw[h]
def tZ {st:ISt}{b:Nat}(h:∀cs,st b≠some (.box cs)):j7 st b=st b:=by
 unfold j7;grind
def WS.lendS (X:WS)(s1 s0:ISt):WS :=
 { w:=X.w,L:=λb=>match s1 b with|some (.box cs)=>cs.length|_=>X.L b,st:=s0,d:=X.d }
structure LendOk (st s1 s0:ISt):Prop where
 sub1:subSt s1 st
 sub0:subSt s0 st
 off:∀b cs,s1 b=some (.box cs)->s0 b=none
def xi (st:ISt):LendOk st st (j7 st):=⟨subSt.refl st,xh st,λ_ _ h=>rz h⟩
abbrev WS.lend (X:WS):WS:=X.lendS X.st (j7 X.st)
section
variable {C:Cx}{X:WS}{s1 s0:ISt}
def xj {b:Nat}{cs:List IV}(h:s1 b=some (.box cs)):(X.lendS s1 s0).L b=cs.length:=by simp only[WS.lendS,h]
def rA {b:Nat}(h:∀cs,s1 b≠some (.box cs)):(X.lendS s1 s0).L b=X.L b:=by
 simp only[WS.lendS]
 try split
 all_goals first|rfl|(rename_i cs hc;exact absurd hc (h cs))
def Good.lendS_ext (h:Good C X)(k:LendOk X.st s1 s0):Ext X (X.lendS s1 s0) where
 os:=rfl
 tape:=rfl
 output:=rfl
 size:=dG _
 lmono b:=by
  by_cases D:∃cs,s1 b=some (.box cs)
  ·obtain⟨cs,D⟩:=D;obtain⟨h0,_⟩:=h.ok b _ (k.sub1 _ _ D);grind
  ·rw[rA λcs hc=>D ⟨cs,hc⟩];exact dG _
 cells _ _ _:=rfl
 keep b _ hs:=⟨rfl,rA λcs hc=>by rw[k.sub1 _ _ hc] at hs;cases hs⟩
 dom b _ hs:=by
  show s0 b=none;cases E:s0 b with
  | none=>rfl
  | some o=>rw[k.sub0 _ _ E] at hs;cases hs
 shape _ _ hp:=hp
 d:=rfl
def Good.lendS (h:Good C X)(k:LendOk X.st s1 s0):Good C (X.lendS s1 s0) where
 ok b o D:=by
  have D:s0 b=some o:=D;have E:∀cs,s1 b≠some (.box cs):=λcs hc=>by rw[k.off b cs hc] at D;cases D
  exact (h.ok b o (k.sub0 b o D)).mono rfl (rA E) (λ_ _ hv=>(h.lendS_ext k).vl hv)
 gl g x G:=(h.lendS_ext k).v (h.gl g x G)
 B:=h.B
 Lnew b D:=by
  rw[rA λcs hc=>?_]
  ·exact h.Lnew b D
  ·have h1:=h.lt (k.sub1 _ _ hc);have h2:X.w.heap.size<=b:=D;omega
 gsh:=h.gsh
 dr:=h.dr
def Good.lend_ext (h:Good C X):Ext X X.lend:=h.lendS_ext (xi _)
def Good.lend (h:Good C X):Good C X.lend:=h.lendS (xi _)
def OI.v (h:Good C X)(k:LendOk X.st s1 s0){y x:IV}(ho:OI s1 y x):∀ {r:Value},C.v X r y->C.v (X.lendS s1 s0) r (age x):=by
 induction ho with
 | refl x=>exact λhv=>((h.lendS_ext k).v hv).aged
 | agg rs cs hl _ ih =>
  intro r hv;obtain⟨rr,rfl,D⟩:=ot hv;refine .agg rr (ages cs) (by rw[kS,D.1,hl]) λi r c h1 h2=>?_;obtain⟨x,J,rfl⟩:=lR h2;have hi:=(lGs J).1;have G:rs[i]?=some (rs[i]'(by omega)):=dT _;exact ih i _ x G J (D.2 i r _ h1 G)
 | tup rs cs hl _ ih =>
  intro r hv;obtain⟨rr,rfl,D⟩:=ou hv;refine .tup rr (ages cs) (by rw[kS,D.1,hl]) λi r c h1 h2=>?_;obtain⟨x,J,rfl⟩:=lR h2;have hi:=(lGs J).1;have G:rs[i]?=some (rs[i]'(by omega)):=dT _;exact ih i _ x G J (D.2 i r _ h1 G)
 | nil t hn =>
  intro r hv;obtain rfl:=dK hv;refine .sl none 0 _ [] 0 [] ?_ (by simp) (by simp) (by simp) (by simp) (λg hg=>?_) (λ_ ad ao=>by cases ao) (λal=>absurd rfl al) (λi r c D=>by simp at D)
  ·simp only[hn];exact⟨rfl,rfl,rfl⟩
  ·grind
 | sl g cap t xs cs aa af ah hs hst ac _ ih =>
  intro r hv;obtain rfl:=dK hv;obtain⟨h0,c,T,hh,E⟩:=h.ok g _ (k.sub1 _ _ hst);have an:(xs.flatMap IV.cells).length=xs.length*t.es:=gS xs hs;have av:xs.length*t.es<=cs.length:=dN (fE _ ah) ac;have O:c.toList.length=cs.length:=E.1;have key:=V.sl (B:=C.B) (L:=(X.lendS s1 s0).L) (w:=X.w) (some ⟨g,0,none⟩) cap ⟨false,t.cap,t.es⟩ (ages xs) T (c.toList.take (xs.length*t.es));rw[kS] at key;refine key ?_ af ah (λy hy=>?_) ?_ (λg' ag=>?_) (λhf=>by cases hf) (λ_=>⟨_,rfl,rfl,?_,λi r D=>?_⟩) λi r z D hz=>?_
  ·simp only[aa,kY]
  ·rw[nN] at hy;obtain⟨x,J,rfl⟩:=dH.1 hy;rw[oF,kS];exact hs x J
  ·grind
  ·simp only[aa,Cap.app.injEq] at ag;subst ag;refine⟨T,c.size,?_,?_⟩
   ·simp[shq,hh]
   ·grind
  ·show 0+(c.toList.take (xs.length*t.es)).length<=(X.lendS s1 s0).L g;rw[xj hst,dU];omega
  ·rw[dY,jx hh];grind
  ·rw[xe] at hz;obtain⟨x,J,rfl⟩:=lR hz;rw[gd] at D;split at D
   ·rename_i hi;have G:cs[i]?=some (cs[i]'(by omega)):=dT _;exact ih i _ x G J (E.2 i r _ D G)
   ·cases D
 | ptr b x cs hst hl _ ih =>
  intro r hv;obtain rfl:=dK hv;obtain⟨h0,c,T,hh,E⟩:=h.ok b _ (k.sub1 _ _ hst);have O:c.toList.length=cs.length:=E.1;refine .cptr ⟨b,0,none⟩ (age x) c.toList rfl ?_ ?_ (λi r D=>?_) λi r z D hz=>?_
  ·rw[oF,kS,O,hl]
  ·show 0+c.toList.length<=(X.lendS s1 s0).L b;rw[xj hst];omega
  ·show X.w.cell? ⟨b,0+i,none⟩=some r;rw[dY,jx hh];simpa using D
  ·rw[oF] at hz;obtain⟨y,hy,rfl⟩:=lR hz;have hi:=(lGs D).1;have G:cs[i]?=some (cs[i]'(by omega)):=dT _;exact ih i _ y G hy (E.2 i r _ D G)
end
def Lent (st:ISt)(y x:IV):Prop:=y=x\/∃D,OI st y D/\x=age D
def Lents (st:ISt):List IV->List IV->Prop
 | [],xs=>xs=[]
 | y::ys,xs=>∃x D,xs=x::D/\Lent st y x/\Lents st ys D
def Lents.v {C:Cx}{X:WS}(h:Good C X):∀ {ys xs:List IV} {rs:List Value},Lents X.st ys xs->C.vl X rs ys->C.vl X.lend rs xs
 | [],xs,rs,hl,hv=>by
  simp only[Lents] at hl;subst hl;obtain rfl:rs=[]:=ev hv.1;exact VL.nil
 | y::ys,xs,rs,hl,hv=>by
  simp only[Lents] at hl;obtain⟨x,D,rfl,E,hl⟩:=hl;cases rs with
  | nil=>have:=hv.1;simp at this
  | cons r rs =>
   have h1:=hv.2 0 r y rfl rfl;have h2:C.vl X rs ys:=⟨by have:=hv.1;simpa using this,λi a b O J=>hv.2 (i+1) a b (by simpa using O) (by simpa using J)⟩
   refine VL.cons ?_ (Lents.v h hl h2);rcases E with rfl|⟨x0,G,rfl⟩
   ·exact h.lend_ext.v h1
   ·exact G.v h (xi _) h1
section
variable {P:Program}{gl:Nat->Option IV}{f:FuncId}{args args':List IV}{st:ISt}{K:IV->ISt->Prop}
def rC (hl:Lents st args args')(h:ICall P gl f args' (j7 st) K):ICall P gl f args st K:=by
 intro B X rs D hst hv;subst hst;refine (h B X.lend rs D.lend rfl (hl.v D hv)).mono ?_;rintro e w' ⟨v,rfl,X',x,h1,h2,J,G,E⟩;exact⟨v,rfl,X',x,h1,h2,D.lend_ext.trans J,G,E⟩
def lS (h:ICall P gl f args st (λy st'=>∃x s1 s0,LendOk st' s1 s0/\OI s1 y x/\K (age x) s0)):ICall P gl f args st K:=by
 intro B X rs G hst hv;refine (h B X rs G hst hv).mono ?_;rintro e w' ⟨v,rfl,X',y,rfl,h2,O,J,x,s1,s0,D,E,hK⟩;exact⟨v,rfl,X'.lendS s1 s0,age x,rfl,h2.lendS D,O.trans (h2.lendS_ext D),E.v h2 D J,hK⟩
end
def iteT {α:Sort _}{c:Prop} [Decidable c]{a b:α}(h:c=True):ite c a b=a:=cX (of_eq_true h)
def iteF {α:Sort _}{c:Prop} [Decidable c]{a b:α}(h:c=False):ite c a b=b:=a_ (of_eq_false h)
def laC {α:Type _}{a:α}{l:List α}{f:α->Bool}:(a::l).all f=(f a&&l.all f):=(rfl)
def laN {α:Type _}{f:α->Bool}:[].all f=true:=(rfl)
def naZ (n:Nat):n+0=n:=(rfl)
def lgZ {α:Type _}{a:α}{l:List α}:(a::l)[0]?=some a:=(rfl)
def lgS {α:Type _}{a:α}{i:Nat}{l:List α}:(a::l)[i+1]?=l[i]?:=(rfl)
def omS {α:Type _}{β:Type _}(a:α)(f:α->β):Option.map f (some a)=some (f a):=(rfl)
def nsZ (n:Nat):n-0=n:=(rfl)
def itN (n:Nat):((n:Int)).toNat=n:=(rfl)
def llC {α:Type _}{a:α}{l:List α}:(a::l).length=l.length+1:=(rfl)
def llN {α:Type _}:([]:List α).length=0:=(rfl)
def ltS {α:Type _}{a:α}{l:List α}{i:Nat}:List.take (i+1) (a::l)=a::List.take i l:=(rfl)
def ltZ {α:Type _}{l:List α}:List.take 0 l=[]:=List.take_zero
def lcA {α:Type _}{a:α}{l m:List α}:a::l++m=a::(l++m):=(rfl)
def lnA {α:Type _}(l:List α):[]++l=l:=(rfl)
def lzC {α:Type _}{a:α}{l:List α}{β:Type _}{b:β}{m:List β}:(a::l).zip (b::m)=(a,b)::l.zip m:=(rfl)
def lzN {α:Type _}{β:Type _}{l:List β}:([]:List α).zip l=[]:=(rfl)
attribute [go_sem ↓] iteT iteF
attribute [go_sem] cf fu laC laN Bool.and_self Bool.true_and Bool.and_true Bool.false_and Bool.and_false Bool.not_true Bool.not_false List.mem_nil_iff if_false if_true beq_self_eq_true Nat.zero_add naZ lgZ lgS omS List.mem_cons or_false false_or or_true true_or nsZ forall_const itN llC llN List.map_cons List.map_nil ltS ltZ List.drop_zero List.drop_succ_cons lcA lnA List.append_nil and_true true_and and_self true_implies lzC lzN
end Go.Iv
def Go.Iv.iI {P:Go.Program}{gl:Nat->Option Go.Iv.IV}{f:Go.FuncId}{fn:Go.Func}{code:Go.Code}{args:List Go.Iv.IV}{st:Go.Iv.ISt}{K:Go.Iv.IV->Go.Iv.ISt->Prop}(hf:P.funcs[f]?=some fn)(h:Go.Iv.vcC (Go.Iv.cf P gl [] []) code (Go.Iv.bodyK P gl fn.results.toList K) (Go.Iv.frOf args) st [])(hb:fn.body=some code:=by rfl)(hN:Nat.ble args.length fn.ntmps=true:=by rfl)(hd:Go.Iv.codeOk (Go.Iv.cf P gl [] []) fn.ntmps code=true:=by kernel_rfl):Go.Iv.ICall P gl f args st K:=Go.Iv.ICall.intro (c:=Go.Iv.cf P gl [] []) hf hb (Nat.le_of_ble_eq_true hN) hd h