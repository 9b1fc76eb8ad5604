/- The layer of ideal values, part Q: from -/
import Derived.Test.YtopmhkmegkpkdaaGreatDoorJH
import Derived.IntWalk
set_option linter.all false
namespace Go.Iv
open Go
def frOf (args:List IV):Fr:=λt=>match args[t]? with|some x=>x|none=>.iv .junk
@[go_sem] def UF (x:IV)(l:List IV):frOf (x::l) 0=x:=(rfl)
@[go_sem] def UG (x:IV)(l:List IV)(t:Nat):frOf (x::l) (t+1)=frOf l t:=by simp[frOf]
def Inv.start {C:Cx}{X:WS}{rs:List Value}{args:List IV}{N:Nat}(O:Good C X)(A:C.vl X rs args)(hN:args.length<=N) :
  Inv C X N X (frOf args) [] { tmps:=(⟨rs⟩:Array Value)++Array.replicate (N-(⟨rs⟩:Array Value).size) undef,defers:=[] }:=by
 refine⟨O,Ext.refl X,⟨λt=>?_,λt W cs cs' h=>?_⟩,?_,.nil⟩
 ·unfold frOf;cases U:args[t]? with
  | none=>exact .junk _
  | some x =>
   obtain⟨r,D,hx⟩:=A.get U;have:tm ((⟨rs⟩:Array Value)++Array.replicate (N-(⟨rs⟩:Array Value).size) undef) t=r:=by
    have E:=(lGs D).1;unfold tm;rw[gx,Array.getElem?_append_left (by simpa using E)];grind
   simp only;rw[this];exact hx
 ·unfold frOf at h;grind
 ·have:=A.1;simp;omega
def resI (P:Program)(fr:Fr)(st:ISt):ResultVar->Option IV
 | .tmp t=>ivOf (fr t)
 | .cell a T=>match tyI P T,plOf a (fr a) with
  | some i,some (.box t _)=>match fr t with
   | .box cs=>gB i.1 i.2 cs 0
   | _=>none
  | some i,some (.ptr b off)=>match st b with
   | some (.box cs)=>gB i.1 i.2 cs off
   | _=>none
  | _,_=>none
def resL (P:Program)(fr:Fr)(st:ISt)(rs:List ResultVar):Option (List IV):=allI (resI P fr st) rs
@[go_sem ↓] def Jv (P:Program)(fr:Fr)(st:ISt):resL P fr st []=some []:=(rfl)
@[go_sem ↓] def Jw (P:Program)(fr:Fr)(st:ISt)(x:ResultVar)(l:List ResultVar):resL P fr st (x::l)=uT (resI P fr st x) (resL P fr st l):=by
 unfold resL;rw[allI];cases resI P fr st x<;>cases allI (resI P fr st) l<;>rfl
@[go_sem ↓] def UH (P:Program)(fr:Fr)(st:ISt)(t:Nat):resI P fr st (.tmp t)=ivOf (fr t):=(rfl)
def outI:List IV->IV
 | [x]=>x
 | l=>.tup l
@[go_sem] def UI (x:IV):outI [x]=x:=(rfl)
@[go_sem] def UJ (x y:IV)(l:List IV):outI (x::y::l)=.tup (x::y::l):=(rfl)
@[go_sem] def UK:outI []=.tup []:=(rfl)
def outK (K:IV->ISt->Prop)(x:IV)(st:ISt):Prop:=∃st',subSt st' st/\K x st'
def cO {K:IV->ISt->Prop}{x:IV}{st:ISt}(h:K x st):outK K x st:=⟨st,subSt.refl st,h⟩
def kQ (P:Program)(gl:Nat->Option IV)(rs:List ResultVar)(K:IV->ISt->Prop):List Dfd->Fr->ISt->Prop
 | [],fr,st=>cU (resL P fr st rs) λD=>outK K (outI D) st
 | .coll _::ds,fr,st=>kQ P gl rs K ds fr st
 | .call f A args::ds,fr,st=>match f with
  | .func g=>if entI P g=true then ICallD P gl g (args++A) st λ_ st'=>kQ P gl rs K ds fr st' else False
  | _=>False
def bodyK (P:Program)(gl:Nat->Option IV)(rs:List ResultVar)(K:IV->ISt->Prop):Kc
 | .normal,fr,st,ds=>kQ P gl rs K ds fr st
 | .ret,fr,st,ds=>kQ P gl rs K ds fr st
 | _,_,_,_=>False
def By (P:Program)(rs:List ResultVar)(K:IV->ISt->Prop):Kc
 | .normal,fr,st,ds=>chk (ds=[]) (cU (resL P fr st rs) λA=>outK K (outI A) st)
 | .ret,fr,st,ds=>chk (ds=[]) (cU (resL P fr st rs) λA=>outK K (outI A) st)
 | _,_,_,_=>False
section
variable (P:Program)(gl:Nat->Option IV)(rs:List ResultVar)(K:IV->ISt->Prop)(fr:Fr)(st:ISt)(ds:List Dfd)
@[go_sem ↓] def UL:bodyK P gl rs K .normal fr st ds=kQ P gl rs K ds fr st:=(rfl)
@[go_sem ↓] def UM:bodyK P gl rs K .ret fr st ds=kQ P gl rs K ds fr st:=(rfl)
@[go_sem ↓] def UN:By P rs K .normal fr st ds=chk (ds=[]) (cU (resL P fr st rs) λA=>outK K (outI A) st):=(rfl)
@[go_sem ↓] def UO:kQ P gl rs K [] fr st=cU (resL P fr st rs) λA=>outK K (outI A) st:=(rfl)
@[go_sem ↓] def UQ (r:Nat):kQ P gl rs K (.coll r::ds) fr st=kQ P gl rs K ds fr st:=(rfl)
@[go_sem ↓] def Jx (g:FuncId)(A args:List IV):kQ P gl rs K (.call (.func g) A args::ds) fr st=if entI P g=true then ICallD P gl g (args++A) st (λ_ st'=>kQ P gl rs K ds fr st') else False:=(rfl)
end
section
variable {C:Cx}{X0 X:WS}{N:Nat}{fr:Fr}{a:Act}
def Jy {ds:List Dfd}{r:ResultVar}{x:IV}(hI:Inv C X0 N X fr ds a)(h:resI C.P fr X.st r=some x) :
  ∃v,((match r with|.tmp t=>pure (a.tmps.getD t undef)|.cell b T=>(do loadVar T (<- asAddr (a.tmps.getD b undef))):Sem Value)).run C.P X.w=.ok v X.w/\C.v X v x:=by
 cases r with
 | tmp t =>
  obtain⟨W,_⟩:=Ae (C:=C) (X:=X) h (hI.fr.slot t);exact⟨_,rfl,W⟩
 | cell b T =>
  simp only[resI] at h;split at h
  ·rename_i i t off ht hp;obtain⟨ag,sz⟩:=i;split at h
   ·rename_i cs D;have hs:=hI.fr.slot b;cases A:fr b with
    | box cs' =>
     rw[A] at hp hs;simp only[plOf,dL,Pl.box.injEq] at hp;obtain⟨rfl,rfl⟩:=hp;rw[A] at D;cases D;obtain⟨b',c,E,hr,hh,O,_⟩:=hs;obtain⟨v,hl,W⟩:=sC ht hh O h;refine⟨v,?_,W⟩;have U:a.tmps.getD b undef=.pointer (some ⟨b',0,none⟩):=hr;simp only[U,asAddr,cX,c_,cW,hl]
    | iv y =>
     rw[A] at hp;exfalso;cases y with
     | raw u =>
      cases u with
      | pointer p =>
       cases p with
       | none=>cases hp
       | some p =>
        obtain⟨pb,po,ps⟩:=p;cases ps<;>cases hp
      | _=>cases hp
     | _=>cases hp
   ·cases h
  ·rename_i i b' off ht hp;obtain⟨ag,sz⟩:=i;split at h
   ·rename_i cs D;have hs:=hI.fr.slot b;cases A:fr b with
    | box cs'=>rw[A] at hp;cases hp
    | iv y =>
     rw[A] at hp hs;cases y with
     | raw u =>
      cases u with
      | pointer p =>
       cases p with
       | none=>cases hp
       | some p =>
        obtain⟨pb,po,ps⟩:=p;cases ps with
        | none =>
         simp only[plOf,dL,Pl.ptr.injEq] at hp;obtain⟨rfl,rfl⟩:=hp;obtain⟨_,c,E,hh,O⟩:=hI.good.ok _ _ D;obtain⟨v,hl,W⟩:=sC ht hh O h;refine⟨v,?_,W⟩;have U:a.tmps.getD b undef=.pointer (some ⟨pb,po,none⟩):=dQ hs;simp only[U,asAddr,cX,c_,cW,hl]
        | some _=>cases hp
      | _=>cases hp
     | _=>cases hp
   ·cases h
  ·cases h
def Bz {ds:List Dfd}(E:Inv C X0 N X fr ds a):∀ {rs:List ResultVar} {A:List IV},resL C.P fr X.st rs=some A →
  ∃vs,(rs.mapM (λr=>match r with|.tmp t=>pure (a.tmps.getD t undef)|.cell b T=>(do loadVar T (<- asAddr (a.tmps.getD b undef))):ResultVar->Sem Value)).run C.P X.w=.ok vs X.w/\C.vl X vs A
 | [],A,h=>by
  simp only[Jv,dL] at h;subst h;exact⟨[],by simp,VL.nil⟩
 | r::rs,A,h=>by
  rw[Jw] at h;cases hx:resI C.P fr X.st r with
  | none=>rw[hx] at h;cases h
  | some x =>
   cases D:resL C.P fr X.st rs with
   | none=>rw[hx,D] at h;cases h
   | some l =>
    rw[hx,D,HH,dL] at h;subst h;obtain⟨v,h1,h2⟩:=Jy E hx;obtain⟨vs,U,O⟩:=Bz E D;refine⟨v::vs,?_,VL.cons h2 O⟩;rw[List.mapM_cons];simp only[cX,h1,U,cW,c_]
def BA {ds:List Dfd}(W:Inv C X0 N X fr ds a){fn:Func}{D:List IV}(h:resL C.P fr X.st fn.results.toList=some D):∃v,(results fn a.tmps).run C.P X.w=.ok v X.w/\C.v X v (outI D):=by
 obtain⟨vs,O,A⟩:=Bz W h;have U:(fn.results.mapM (λr=>match r with|.tmp t=>pure (a.tmps.getD t undef)|.cell b T=>(do loadVar T (<- asAddr (a.tmps.getD b undef))):ResultVar->Sem Value)).run C.P X.w=.ok ⟨vs⟩ X.w:=by
  rw[Array.mapM_eq_mapM_toList];simp only[Sem.run_map,O,cW]
 unfold results;simp only[cX]
 erw [U]
 simp only[cW,c_];refine⟨_,rfl,?_⟩;have E:=A.1
 match D,vs,A with
 | [x],[v],A=>exact A.2 0 v x rfl rfl
 | [],[],A=>exact A.tup
 | x::y::l,v::u::m,A =>
  rw[dif_neg (by simp)];exact A.tup
def Inv.mark {r:Nat}{d:Deferred}{ds:List Deferred}{es:List Dfd}(h:Inv C X0 N X fr (.coll r::es) a)(aj:a.defers=d::ds):Inv C X0 N (X.obj r (.deferred none) (X.st r)) fr es { a with defers:=ds } /\
  d={ target:=.collected r,args:=#[] }/\(Instr.takeDeferred r).run C.P X.w=.ok [] (X.obj r (.deferred none) (X.st r)).w/\(X.obj r (.deferred none) (X.st r)).st=X.st:=by
 have ab:=h.ds;rw[aj] at ab;cases ab with
 | cons hd W ag =>
  obtain⟨hd,O,af,hn⟩:=hd;subst hd;have E:∀c T f,Obj.deferred (some [])≠.cells c T f:=by intro c T f hc;cases hc
  have A:∀c T f,Obj.deferred none≠.cells c T f:=by intro c T f hc;cases hc
  have D:(X.obj r (.deferred none) (X.st r)).st=X.st:=by
   funext b;simp only[WS.obj];split
   ·grind
   ·rfl
  have keep:∀ {ds:List Deferred} {es:List Dfd},DsOk C X X0.w.heap.size ds es->Dfd.coll r ∉ es->DsOk C (X.obj r (.deferred none) (X.st r)) X0.w.heap.size ds es:=by
   intro ds es W aa
   induction W with
   | nil=>exact .nil
   | cons h' _ ai ih =>
    refine .cons ?_ (ih (λhm=>aa (.tail _ hm))) ai;rename_i d' e' _ _ _;cases e' with
    | call f ao args =>
     obtain⟨rs,ae,hd,h1,h2⟩:=h';exact⟨rs,ae,hd,⟨h1.1,λi r x hr hx=>mS O E A (h1.2 i r x hr hx)⟩,⟨h2.1,λi r x hr hx=>mS O E A (h2.2 i r x hr hx)⟩⟩
    | coll r' =>
     obtain⟨hd,h1,h2,h3⟩:=h';have ah:r'≠r:=by rintro rfl;exact aa (.head _)
     exact⟨hd,(kh O ah).trans h1,by rw[D];exact h2,h3⟩
  refine⟨⟨h.good.obj O E A (λi hi=>by rw[af] at hi;cases hi),h.ext.obj O E A (.inl hn),⟨λt=>(h.fr.slot t).mono (λ_ _=>mS O E A) ?_,h.fr.inj⟩,h.size,keep W (ag r rfl)⟩,rfl,?_,D⟩
  ·intro b cs W hr hb hL aw;have ak:b≠r:=by
    rintro rfl;have U:=h.fr.slot t;rw[W] at U;obtain⟨b',c,T,ar,ax,_⟩:=U;grind
   exact⟨kh O ak,rfl,by rw[D];exact hb⟩
  ·have h1:(getObj r).run C.P X.w=.ok (.deferred (some [])) X.w:=by simp[getObj,Sem.run,O]
   have h2:(setObj r (.deferred none)).run C.P X.w=.ok () { X.w with heap:=X.w.heap.setIfInBounds r (.deferred none) }:=by simp[setObj,Sem.run,O]
   unfold Instr.takeDeferred;simp only[cX,h1,cW,h2,c_];rfl
def leaves {c:Cf}{B:Nat}{X0:WS}{N:Nat}{fn:Func}{K:IV->ISt->Prop}{fr:Fr}:∀(es:List Dfd) (X:WS) (a:Act),Inv (c.cx B) X0 N X fr es a->kQ c.P c.gl fn.results.toList K es fr X.st →
  LeavesInM Fence.wide 0 c.P fn a.tmps (λe w'=>∃v,e=.returned v/\ends ⟨c.P,c.gl,B⟩ X0 K v w') a.defers .returning X.w
 | [],X,a,E,h=>by
  have D:a.defers=[]:=by
   have:=E.ds;generalize a.defers=A at this;cases this;rfl
  rw[D];obtain⟨xs,ak,st',af,hK⟩:=yQ4.1 h;obtain⟨v,hr,hv⟩:=BA (C:=c.cx B) E ak;obtain⟨aa,U⟩:=E.good.sub af;exact⟨v,hr,v,rfl,{ X with st:=st' },_,rfl,aa,E.ext.trans U,U.v hv,hK⟩
 | .coll r::es,X,a,E,h=>by
  obtain⟨d,A,D⟩:∃d A,a.defers=d::A:=by
   have:=E.ds;generalize a.defers=A at this;cases this;exact⟨_,_,rfl⟩
  obtain⟨ac,hd,W,ag⟩:=E.mark D;rw[D];refine⟨by simp,.inl ⟨r,_,by rw[hd],W,?_⟩⟩;exact leaves es _ { a with defers:=A } ac (by rw[ag];exact h)
 | .call f ar args::es,X,a,E,h=>by
  obtain⟨d,A,D⟩:∃d A,a.defers=d::A:=by
   have:=E.ds;generalize a.defers=A at this;cases this;exact⟨_,_,rfl⟩
  have ai:=E.ds;rw[D] at ai;cases ai with
  | cons hd hs _ =>
   obtain⟨rs,ae,rfl,h1,h2⟩:=hd;rw[D];cases f with
   | func g =>
    rw[Jx] at h;split at h
    ·rename_i he;have an:∃O,c.P.funcs[g]?=some O/\O.name ≠ "runtime.NumGoroutine" /\ ¬ O.body.isNone=true:=by
      unfold entI at he;cases hf:c.P.funcs[g]? with
      | none=>simp[hf] at he
      | some O =>
       simp only[hf,bAt,bne_iff_ne,ne_eq] at he;exact⟨O,rfl,he.1,by have:=he.2;cases hq:O.body<;>simp_all⟩
     obtain⟨O,hf,am,ab⟩:=an;refine⟨by simp,.inr ⟨λh=>by simp[Fence.wide] at h,.func g,⟨rs⟩,g,⟨ae++rs⟩,rfl,?_,λ_ _=>trivial,?_⟩⟩
     ·simp only[invoke,callFunc,cX,run_program,cW,hf];rw[a_ (by simpa using am),a_ ab];simp
     ·refine (h B X (ae++rs) .returning E.good rfl (h2.append h1)).mono ?_;rintro e u' w' ⟨rfl,v,rfl,X',x,rfl,aa,U,_,hK⟩;have ac:Inv (c.cx B) X0 N X' fr es { a with defers:=A }:=by
       have aq:Inv (c.cx B) X0 N X fr es { a with defers:=A }:=⟨E.good,E.ext,E.fr,E.size,hs⟩
       exact aq.ext' U aa
      exact leaves es X' { a with defers:=A } ac hK
    ·exact h.elim
   | _=>exact h.elim
end
def ICall.intro {c:Cf}{f:FuncId}{fn:Func}{A:Code}{args:List IV}{st:ISt}{K:IV->ISt->Prop}(hf:c.P.funcs[f]?=some fn)(hb:fn.body=some A)
  (hN:args.length<=fn.ntmps) (hd:codeOk c fn.ntmps A=true) (h:vcC c A (bodyK c.P c.gl fn.results.toList K) (frOf args) st []):ICall c.P c.gl f args st K:=by
 intro B X rs hg E W;subst E;refine (callsIn_wide (n:=0)).1 (callsIn_of_wp_marks hf hb trivial ?_);have hs:=Bw (N:=fn.ntmps) A c B X none 0 (λ_=>rfl) _ X (frOf args) [] _ hd (Inv.start hg W hN) h;refine gp hs ?_;rintro e a' w' ⟨X',fr',D,rfl,U,O⟩;cases e with
 | normal=>exact leaves D X' a' U O
 | ret=>exact leaves D X' a' U O
 | _=>exact O.elim
def ICallD.intro {c:Cf}{f:FuncId}{fn:Func}{A:Code}{args:List IV}{st:ISt}{K:IV->ISt->Prop}(hf:c.P.funcs[f]?=some fn)(hb:fn.body=some A)
  (hN:args.length<=fn.ntmps) (hd:codeOk c fn.ntmps A=true) (h:vcC c A (By c.P fn.results.toList K) (frOf args) st []):ICallD c.P c.gl f args st K:=by
 intro B X rs u hg ac hv;subst ac;refine (callsDIn_of_wp (R:=λe w'=>∃v,e=.returned v/\ends ⟨c.P,c.gl,B⟩ X K v w') hf hb trivial ?_);have hs:=Bw (N:=fn.ntmps) A c B X none 0 (λ_=>rfl) _ X (frOf args) [] _ hd (Inv.start hg hv hN) h;have E:∀(a':Act) (X':WS) (fr':Fr) (D:List Dfd),Inv (c.cx B) X fn.ntmps X' fr' D a'->chk (D=[]) (cU (resL c.P fr' X'.st fn.results.toList) λxs=>outK K (outI xs) X'.st) →
   a'.defers=[]/\∃v,(results fn a'.tmps).run c.P X'.w=.ok v X'.w/\∃v',Ending.returned v=.returned v'/\ends ⟨c.P,c.gl,B⟩ X K v' X'.w:=by
  rintro a' X' fr' D O ⟨rfl,h⟩;have ag:a'.defers=[]:=by
   have:=O.ds;generalize a'.defers=au at this;cases this;rfl
  obtain⟨xs,aa,st',U,hK⟩:=yQ4.1 h;obtain⟨v,hr,hv⟩:=BA (C:=c.cx B) O aa;obtain⟨af,W⟩:=O.good.sub U;exact⟨ag,v,hr,v,rfl,{ X' with st:=st' },_,rfl,af,O.ext.trans W,W.v hv,hK⟩
 refine gp hs ?_;rintro e a' w' ⟨X',fr',D,rfl,O,hq⟩;cases e with
 | normal=>exact E a' X' fr' D O hq
 | ret=>exact E a' X' fr' D O hq
 | _=>exact hq.elim
def LoopC (c:Cf)(b:Code)(Q:Kc)(fr:Fr)(st:ISt)(ds:List Dfd):Prop:=LoopV (λfr st ds Q=>vcC c b Q fr st ds) Q fr st ds .mk .mk
def RangeC (c:Cf)(f:Fn)(first A:List IV)(ps:Array Tmp)(a b:Code)(Q:Kc)(fr:Fr)(st:ISt)(ds:List Dfd):Prop :=
 vZ c.P c.gl f first A ps.size (λD st' R=>vcC { c with rd:=true } a (pS (vcC { c with rd:=true } b) R) (lh (oL fr) (ps.toList.zip D)) st' []) (λe st' r=>Q e fr st' (.coll r::ds)) st .mk .mk
section
variable (c:Cf)(Q:Kc)(k:Fr->ISt->List Dfd->Prop)(fr:Fr)(st:ISt)(ds:List Dfd)(a b:Code)(id id' l:Nat)(ops:Array Oper)(x:Operand)
@[go_sem ↓] def UR:vcC c .skip Q fr st ds=Q .normal fr st ds:=(rfl)
@[go_sem ↓] def US:vcC c (.region id ops false) Q fr st ds=fR { c with dr:=false } ops.toList ops.toList (Q .normal) Ad.none_ fr st ds:=(rfl)
@[go_sem ↓] def UT:vcC c (.region id ops true) Q fr st ds=mj c ops (lQ c.ord id) (Q .normal) fr st ds:=(rfl)
@[go_sem ↓] def UU (g:Operand)(ps:Array Tmp):vcC c (.rangeFunc g ps a b) Q fr st ds=if c.rd=true then False else cU (evV c.gl fr g) λv=>fnV v λf first A =>
   RangeC c f first A ps a b Q fr st ds:=(rfl)
@[go_sem ↓] def UW:vcC c (.seq a b) Q fr st ds=vcC c a (seqK (vcC c b Q) Q) fr st ds:=(rfl)
@[go_sem ↓] def UX:vcC c (.cond x a b) Q fr st ds=cU (evV c.gl fr x) λv=>kZ v λt=>jG t (vcC c a Q fr st ds) (vcC c b Q fr st ds) .mk .mk:=(rfl)
@[go_sem ↓] def UY:vcC c (.block id a) Q fr st ds=vcC c a (oI id Q) fr st ds:=(rfl)
@[go_sem ↓] def UZ:vcC c (.loop a) Q fr st ds=LoopC c a Q fr st ds:=(rfl)
@[go_sem ↓] def U0:vcC c (.exit id) Q fr st ds=Q (.exit id) fr st ds:=(rfl)
@[go_sem ↓] def U1:vcC c .ret Q fr st ds=Q .ret fr st ds:=(rfl)
@[go_sem ↓] def U2:seqK k Q .normal fr st ds=k fr st ds:=(rfl)
@[go_sem ↓] def U3:seqK k Q .normal=k:=(rfl)
@[go_sem ↓] def U4:seqK k Q (.exit id) fr st ds=Q (.exit id) fr st ds:=(rfl)
@[go_sem ↓] def U5:seqK k Q .ret fr st ds=Q .ret fr st ds:=(rfl)
@[go_sem ↓] def U6:oI id Q (.exit id') fr st ds=if id'=id then Q .normal fr st ds else Q (.exit id') fr st ds:=(rfl)
@[go_sem ↓] def U7:oI id Q .normal fr st ds=Q .normal fr st ds:=(rfl)
@[go_sem ↓] def U8:oI id Q .ret fr st ds=Q .ret fr st ds:=(rfl)
@[go_sem ↓] def U9:uX Q .ret fr st ds=Q .ret fr st ds:=(rfl)
end
@[go_sem ↓] def U_ (J:Nat->Fr->ISt->List Dfd->Prop)(m:Nat)(Q:Kc)(fr:Fr)(st:ISt)(ds:List Dfd):qQ J m Q .normal fr st ds=∃A,A<m/\J A fr st ds:=(rfl)
@[go_sem ↓] def Va (J:Nat->Fr->ISt->List Dfd->Prop)(m id:Nat)(Q:Kc)(fr:Fr)(st:ISt)(ds:List Dfd):qQ J m Q (.exit id) fr st ds=Q (.exit id) fr st ds:=(rfl)
def LoopV.intro {body:Fr->ISt->List Dfd->Kc->Prop}{Q:Kc}{fr:Fr}{st:ISt}{ds:List Dfd}(J:Nat->Fr->ISt->List Dfd->Prop)(m:Nat)(D:J m fr st ds)
  (h:∀m fr' st' A,J m fr' st' A->body fr' st' A (qQ J m Q)):LoopV body Q fr st ds .mk .mk:=⟨J,⟨m,D⟩,h⟩
@[go_sem] def Vb (fr:Fr)(d:Nat)(A skip:Fr->Prop)(k:Lock A)(l:Lock skip):jW fr d false true A skip k l=Hold true (skip (fr.put d true)):=by
 unfold jW;simp[Hold]
@[go_sem] def Vc (fr:Fr)(d:Nat)(A skip:Fr->Prop)(k:Lock A)(l:Lock skip):jW fr d true false A skip k l=Hold true (skip (fr.put d false)):=by
 unfold jW;simp[Hold]
@[go_sem] def Vd (p:Prop):Hold true p=p:=(rfl)
attribute [go_sem ↓] HO
def pT {fr:Fr}{d:Nat}{A b:Bool}{D skip:Fr->Prop}{k:Lock D}{l:Lock skip}(h1:b=A->D (fr.put d A))(h2:b=!A->skip (fr.put d (.iv (.raw (.bool !A))))) :
  jW fr d A b D skip k l:=⟨h1,h2⟩
def j4 {b:Bool}{p q:Prop}{k:Lock p}{l:Lock q}(h1:b=true->p)(h2:b=false->q):jG b p q k l:=⟨h1,h2⟩
def cf (P:Program)(gl:Nat->Option IV)(esc:List Nat)(ord:List (Nat×List Nat):=[])(frz:List Nat:=[]):Cf:={ P:=P,gl:=gl,esc:=esc,rd:=false,dr:=false,ord:=ord,frz:=frz }
def cfp (P:Program)(gl:Nat->Option IV)(esc:List Nat)(ord:List (Nat×List Nat))(pf:FuncId->List IV->Option IV)
  (pok:∀g A v,pf g A=some v->entI P g=true/\∀st,ICall P gl g A st (λr st'=>r=v/\st'=st)):Cf:={ P:=P,gl:=gl,esc:=esc,rd:=false,dr:=false,ord:=ord,pf:=pf,pok:=pok }
attribute [go_sem] cfp
def w64 {n:Int}(A:-9223372036854775808<=n)(h1:n<=9223372036854775807):IntKind.i64.wrap n=n:=IntWalk.i64_in _ (by omega)
def ctrK (I:Fr->ISt->List Dfd->Prop)(Q:Kc):Kc
 | .normal,fr,st,ds=>I fr st ds
 | e,fr,st,ds=>Q e fr st ds
def v_ (Q:Kc):Kc
 | .normal,_,_,_=>False
 | e,fr,st,ds=>Q e fr st ds
section
variable (I:Fr->ISt->List Dfd->Prop)(Q:Kc)(fr:Fr)(st:ISt)(ds:List Dfd)(id:Nat)
@[go_sem ↓] def Ve:ctrK I Q .normal fr st ds=I fr st ds:=(rfl)
@[go_sem ↓] def Vf:ctrK I Q (.exit id) fr st ds=Q (.exit id) fr st ds:=(rfl)
@[go_sem ↓] def Vg:ctrK I Q .ret fr st ds=Q .ret fr st ds:=(rfl)
@[go_sem ↓] def Vh:v_ Q (.exit id) fr st ds=Q (.exit id) fr st ds:=(rfl)
@[go_sem ↓] def Vi:v_ Q .ret fr st ds=Q .ret fr st ds:=(rfl)
end
@[go_sem] def ll (l:List UInt8):ByteArray.size ⟨l.toArray⟩=l.length:=by simp[ByteArray.size]
def resD (i:Bool×Nat)(off:Nat):Option IObj->Option IV
 | some (.box cs)=>gB i.1 i.2 cs off
 | _=>none
@[go_sem] def Vj (i:Bool×Nat)(off:Nat)(cs:List IV):resD i off (some (.box cs))=gB i.1 i.2 cs off:=(rfl)
def resC (i:Option (Bool×Nat))(s:SV)(st:ISt):Option IV :=
 match i,s with
 | some i,.box cs=>gB i.1 i.2 cs 0
 | some i,.iv (.raw (.pointer (some ⟨b,off,none⟩)))=>resD i off (st b)
 | _,_=>none
@[go_sem] def Vk (i:Bool×Nat)(cs:List IV)(st:ISt):resC (some i) (.box cs) st=gB i.1 i.2 cs 0:=(rfl)
@[go_sem] def Vl (i:Bool×Nat)(b off:Nat)(st:ISt):resC (some i) (.iv (.raw (.pointer (some ⟨b,off,none⟩)))) st=resD i off (st b):=(rfl)
@[go_sem ↓] def Vm (P:Program)(fr:Fr)(st:ISt)(a:Nat)(T:TypeId):resI P fr st (.cell a T)=resC (tyI P T) (fr a) st:=by
 simp only[resI];cases tyI P T with
 | none=>rfl
 | some i =>
  cases E:fr a with
  | box cs=>simp only[plOf,E,resC]
  | iv x =>
   cases x with
   | raw v =>
    cases v with
    | pointer p =>
     cases p with
     | none=>rfl
     | some p =>
      obtain⟨b,off,D⟩:=p;cases D with
      | none =>
       rcases A:st b with _|o
       ·simp only[plOf,resC,resD,A]
       ·cases o<;>simp only[plOf,resC,resD,A]
      | some _=>rfl
    | _=>rfl
   | _=>rfl
def eB {c q:Prop}(h:c->q):giv c q:=h
def gv {c q:Prop}(h:c)(k:q):chk c q:=⟨h,k⟩
def dZ {K:IV->ISt->Prop}{x:IV}{st st':ISt}(h:subSt st' st)(k:K x st'):outK K x st:=⟨st',h,k⟩
def fj {st:ISt}{b:Nat}{o:Option IObj}(h:st b=none):subSt st (st.put b o):=λc x hc=>by
 rw[ISt.put_apply];split
 ·rename_i A;rw[A,h] at hc;cases hc
 ·exact hc
def de {st:ISt}{b c:Nat}{o:Option IObj}(h:c≠b):st.put b o c=st c:=by rw[ISt.put_apply,a_ h]
def rk {st:ISt}{b c:Nat}{o:IObj}(h:st b=some o)(A:st c=none):b≠c:=by rintro rfl;rw[h] at A;cases A
def Jz {dst:Option Nat}{K K':Kt}(A:∀ad fr st ds,K ad fr st ds->K' ad fr st ds){ad:Ad}{fr:Fr}{pr:PR}{st:ISt}{ds:List Dfd}:finK dst K ad fr pr st ds->finK dst K' ad fr pr st ds:=by
 cases pr<;>cases dst<;>simp only[finK]<;>first|exact A _ _ _ _|exact id|(split<;>first|exact id|exact A _ _ _ _)
def sT {c:Cf}{ops:List Oper}{Q Q':Fr->ISt->List Dfd->Prop}(hQ:∀fr st ds,Q fr st ds->Q' fr st ds):∀ {l:List Oper} {ad:Ad} {fr:Fr} {st:ISt} {ds:List Dfd},fR c ops l Q ad fr st ds->fR c ops l Q' ad fr st ds
 | [],_,_,_,_,h=>hQ _ _ _ h
 | o::l,ad,fr,st,ds,h=>by
  have hk:∀ad fr st ds,fR c ops l Q ad fr st ds->fR c ops l Q' ad fr st ds:=λ_ _ _ _=>sT hQ;have A:∀ad fr pr st ds,finK o.dst (fR c ops l Q) ad fr pr st ds->finK o.dst (fR c ops l Q') ad fr pr st ds:=λ_ _ _ _ _=>Jz hk;clear hk;unfold fR at h ⊢;split
  ·rename_i O;rw[O] at h;exact pK (λ_ _ _=>A _ _ _ _ _) h
  ·rename_i j W O;rw[O] at h;simp only at h;split
   ·rename_i d hd;rw[hd] at h;simp only at h;unfold jW at h ⊢;split
    ·rename_i b E;rw[E] at h;exact⟨λU=>pK (λ_ _ _=>A _ _ _ _ _) (h.1 U),λU=>A ad _ (.val (.raw undef)) st ds (h.2 U)⟩
    ·rename_i b E;rw[E] at h;exact A ad _ (.val (.raw undef)) st ds h
    ·rename_i E hs2;split at h
     ·rename_i b D;exact absurd D (E b)
     ·rename_i b D;exact absurd D (hs2 b)
     ·exact h
   ·rename_i hd;rw[hd] at h;exact h
def BB:∀(A:Code){c:Cf}{Q Q':Kc},(∀e fr st ds,Q e fr st ds->Q' e fr st ds)->∀ {fr:Fr}{st:ISt}{ds:List Dfd},vcC c A Q fr st ds->vcC c A Q' fr st ds:=by
 intro A
 induction A with
 | skip=>intro c Q Q' h fr st ds;exact h _ _ _ _
 | region id ops dr =>
  intro c Q Q' h fr st ds;cases dr with
  | false=>exact sT (h .normal)
  | true =>
   intro D;change mj c ops (lQ c.ord id) _ fr st ds at D;change mj c ops (lQ c.ord id) _ fr st ds;generalize lQ c.ord id=o at D ⊢
   match o,D with
   | none,D=>exact sT (h .normal) D
   | some [],D=>exact Bn (h .normal) _ _ D
   | some (i::l),D=>exact sT (h .normal) D
 | seq a b O E =>
  intro c Q Q' h fr st ds;refine O (λe fr st ds=>?_);cases e<;>first|exact E h|exact h _ _ _ _
 | cond x a b O E =>
  intro c Q Q' h fr st ds;exact g_ λ_=>vF λ_=>vD (O h) (E h)
 | block id a U =>
  intro c Q Q' h fr st ds;refine U (λe fr st ds=>?_);cases e<;>first|exact h _ _ _ _|(simp only[oI];split<;>exact h _ _ _ _)
 | loop a U =>
  intro c Q Q' h fr st ds D;obtain⟨J,h0,hs⟩:=D;refine⟨J,h0,λm fr' st' ab hj=>U (λe fr st ds=>?_) (hs m fr' st' ab hj)⟩;cases e<;>first|exact id|exact h _ _ _ _
 | rangeFunc g ps ar b _ _ =>
  intro c Q Q' h fr st ds;refine ki id (g_ λ_=>vI λ_ _ _=>?_);rintro⟨g,hf,he,σ,xs,k0,aa,I,S,up,hu,h1,h2,h3,h4,h5,h6⟩;exact⟨g,hf,he,σ,xs,k0,aa,I,S,up,hu,h1,h2,h3,h4,λk st r hk W=>h _ _ _ _ (h5 k st r hk W),λe st r W=>h _ _ _ _ (h6 e st r W)⟩
 | exit id=>intro c Q Q' h fr st ds;exact h _ _ _ _
 | scope a U =>
  intro c Q Q' h fr st ds;refine ki id (U (λe fr st ds=>?_));cases e<;>first|exact h _ _ _ _|exact id
 | label l=>intro c Q Q' h fr st ds;exact h _ _ _ _
 | goto l=>intro c Q Q' h fr st ds;exact h _ _ _ _
 | ret=>intro c Q Q' h fr st ds;exact h _ _ _ _
 | refuse w=>intro c Q Q' h fr st ds D;exact D.elim
def cV {c:Cf}{b:Code}{Q:Kc}{fr:Fr}{st:ISt}{ds:List Dfd}(n:Nat)(I:Nat->Fr->ISt->List Dfd->Prop)(U:I 0 fr st ds)
  (step:∀k fr' st' A,k<n->I k fr' st' A->vcC c b (ctrK (I (k+1)) Q) fr' st' A) (last:∀fr' st' A,I n fr' st' A->vcC c b (v_ Q) fr' st' A) :
  LoopC c b Q fr st ds:=by
 refine LoopV.intro (λm fr st ds=>∃k,m=n-k/\k<=n/\I k fr st ds) n ⟨0,rfl,fQ _,U⟩ ?_;rintro m fr' st' A ⟨k,rfl,W,E⟩;rcases jT k n with D|O
 ·refine BB b (λe fr st ds=>?_) (step k fr' st' A D E);cases e with
  | normal=>exact λh=>⟨n-(k+1),by omega,k+1,rfl,D,h⟩
  | _=>exact id
 ·have:k=n:=by omega
  subst this;refine BB b (λe fr st ds=>?_) (last fr' st' A E);cases e with
  | normal=>exact False.elim
  | _=>exact id
def LoopC.dec {c:Cf}{b:Code}{Q:Kc}{fr:Fr}{st:ISt}{ds:List Dfd}(n:Nat)(I:Nat->Fr->ISt->List Dfd->Prop)(D:I n fr st ds)
  (step:∀k fr' st' A,I k fr' st' A->vcC c b (qQ I k Q) fr' st' A):LoopC c b Q fr st ds:=⟨I,⟨n,D⟩,step⟩
def seqX (l:List (List IV)):Nat->List IV->Prop:=λk a=>l[k]?=some a
def RangeC.intro {c:Cf}{g:FuncId}{first A:List IV}{ps:Array Tmp}{a b:Code}{Q:Kc}{fr:Fr}{st:ISt}{ds:List Dfd}(E:Nat->List IV->Prop)(len:Nat)(I:Nat->ISt->Prop)(S:Exit->ISt->Prop)
  (he:entI c.P g=true) (hl:∀k a,E k a->a.length=ps.size) (h0:I 0 st)
  (D:∀k W st',E k W->I k st'->vcC { c with rd:=true } a (pS (vcC { c with rd:=true } b) (ri (I (k+1)) S)) (lh (oL fr) (ps.toList.zip W)) st' [])
  (iter:IterC c.P c.gl g first A E len I) (done:∀st' r,I len st'->Q .normal fr st' (.coll r::ds)) (stop:∀e st' r,S e st'->Q e fr st' (.coll r::ds)) :
  RangeC c (.func g) first A ps a b Q fr st ds:=⟨g,rfl,he,Nat,vX (Bu E),0,(·=len),I,S,noUp,λ_ _ _ _ _ _ _ _ h=>h.elim,λk a _ _ h=>hl k a h.1.1,h0,λk a e k' s O hd U=>by
   obtain⟨⟨hx,rfl⟩,rfl⟩:=O;have hn:(λs'=>∃s1,I (k+1) s1/\ISt.disj (λ_=>none) s1/\s'=s1.add (λ_=>none))=I (k+1):=by
    funext s';exact propext ⟨λ⟨s1,h1,_,h2⟩=>h2▸h1,λh=>⟨s',h,λ_ hb=>absurd rfl hb,rfl⟩⟩
   rw[hn];exact D k a s hx U,iter.lent.up.toH,λk st' r O U=>done st' r (O▸U),stop⟩
def RangeL.intro {c:Cf}{g:FuncId}{first A:List IV}{ps:Array Tmp}{a b:Code}{Q:Kc}{fr:Fr}{st:ISt}{ds:List Dfd}(O:Nat->List IV->ISt->Prop)(len:Nat)(I:Nat->ISt->Prop)(S:Exit->ISt->Prop)
  (he:entI c.P g=true) (hl:∀k a e,O k a e->a.length=ps.size) (h0:I 0 st)
  (D:∀k W e s,O k W e->e.disj s->I k s->vcC { c with rd:=true } a (pS (vcC { c with rd:=true } b) (ri (λs'=>∃s1,I (k+1) s1/\e.disj s1/\s'=s1.add e) S)) (lh (oL fr) (ps.toList.zip W)) (s.add e) [])
  (iter:IterL c.P c.gl g first A O len I) (done:∀st' r,I len st'->Q .normal fr st' (.coll r::ds)) (stop:∀e st' r,S e st'->Q e fr st' (.coll r::ds)) :
  RangeC c (.func g) first A ps a b Q fr st ds:=⟨g,rfl,he,Nat,vX O,0,(·=len),I,S,noUp,λ_ _ _ _ _ _ _ _ h=>h.elim,λk a e _ h=>hl k a e h.1,h0,λk a e k' s E hd U=>by
   obtain⟨E,rfl⟩:=E;exact D k a e s E hd U,iter.up.toH,λk st' r E U=>done st' r (E▸U),stop⟩
mutual
def age:IV->IV
 | .raw v=>.raw v
 | .agg cs=>.agg (ages cs)
 | .tup vs=>.tup (ages vs)
 | .fn f a b=>.fn f (ages a) (ages b)
 | .sl t A=>.sl ⟨false,t.cap,t.es⟩ (ages A)
 | .cptr x=>.cptr (age x)
 | .junk=>.junk
def ages:List IV->List IV
 | []=>[]
 | x::l=>age x::ages l
end
def nO:∀l:List IV,ages l=l.map age
 | []=>rfl
 | x::l=>by simp only[ages,eo,nO l]
def kS (l:List IV):(ages l).length=l.length:=by rw[nO,gj]
def lU {l:List IV}{i:Nat}{y:IV}(h:(ages l)[i]?=some y):∃x,l[i]?=some x/\y=age x:=by
 rw[nO,en,gI] at h;grind
def oM (x:IV):(age x).cells=ages x.cells:=by
 cases x<;>simp only[age,IV.cells,ages]
def wa:∀l:List IV,(ages l).flatMap IV.cells=ages (l.flatMap IV.cells)
 | []=>rfl
 | x::l=>by
  simp only[ages,ff,wa l,oM];rw[nO,nO,nO,jn]
def V.aged {B B':Nat}{L:Nat->Nat}{w:World}{r:Value}{x:IV}(h:V B L w r x):V B' L w r (age x):=by
 induction h with
 | raw v h=>exact .raw v h
 | junk v=>exact .junk v
 | agg rs cs hl _ U =>
  exact .agg rs (ages cs) (by rw[kS];exact hl) λi r c O hc=>by
   obtain⟨x,hx,rfl⟩:=lU hc;grind
 | tup rs cs hl _ U =>
  exact .tup rs (ages cs) (by rw[kS];exact hl) λi r c O hc=>by
   obtain⟨x,hx,rfl⟩:=lU hc;grind
 | fn f rs cs hl _ ae cs' aj _ U af =>
  exact .fn f rs (ages cs) (by rw[kS];exact hl) (λi r c O hc=>by
   obtain⟨x,hx,rfl⟩:=lU hc;exact U i r x O hx) ae (ages cs') (by rw[kS];exact aj) λi r c O hc=>by
   obtain⟨x,hx,rfl⟩:=lU hc;exact af i r x O hx
 | sl a cap t xs T vs ab W ak hs D E ac A _ U =>
  have key:=V.sl (B:=B') (L:=L) (w:=w) a cap ⟨false,t.cap,t.es⟩ (ages xs) T vs;rw[kS] at key;refine key ab W ak (λy hy=>?_) D E (λh=>by cases h) (λai=>A λh=>ai (by rw[h];rfl)) λi r c O hc=>?_
  ·rw[nO] at hy;obtain⟨x,hx,rfl⟩:=eP.1 hy;rw[oM,kS];exact hs x hx
  ·rw[wa] at hc;obtain⟨x,hx,rfl⟩:=lU hc;grind
 | cptr ad x vs ah D hL hc _ U =>
  refine .cptr ad (age x) vs ah (by rw[oM,kS];exact D) hL hc λi r c O hc=>?_;rw[oM] at hc;obtain⟨y,hy,rfl⟩:=lU hc;grind
def VL.aged {B B':Nat}{L:Nat->Nat}{w:World}{rs:List Value}{A:List IV}(h:VL B L w rs A):VL B' L w rs (ages A) :=
 ⟨by rw[kS];exact h.1,λi r c D hc=>by
  obtain⟨x,hx,rfl⟩:=lU hc;exact (h.2 i r x D hx).aged⟩
def je:IV->Prop
 | .raw _=>True
 | .junk=>True
 | .sl t _=>t.cap=.nil
 | _=>False
def V.flat' {B B':Nat}{L L':Nat->Nat}{w w':World}{r:Value}{x:IV}(h:V B L w r x)(hf:je x):V B' L' w' r x:=by
 cases h with
 | raw _ h=>exact .raw _ h
 | junk _=>exact .junk _
 | sl a cap t xs T vs A E ac hs D W U O h =>
  have hn:t.cap=.nil:=hf;rw[hn] at A;obtain⟨rfl,hl,rfl⟩:=A;obtain rfl:xs=[]:=eN hl;obtain rfl:vs=[]:=eN (by rw[D];simp);exact .sl none 0 t [] T [] (by rw[hn];exact⟨rfl,rfl,rfl⟩) E ac hs D (λg hg=>by rw[hn] at hg;cases hg) (λ_ ad ae=>by cases ae) (λaa=>absurd rfl aa) (λi r c hr=>by simp at hr)
 | _=>exact hf.elim
def VL.flat' {B B':Nat}{L L':Nat->Nat}{w w':World}{rs:List Value}{A:List IV}(h:VL B L w rs A)(E:∀x∈A,je x):VL B' L' w' rs A :=
 ⟨h.1,λi r c D hc=>(h.2 i r c D hc).flat' (E c (lMg hc))⟩
def rm:IObj->Prop
 | .box cs=>∀c∈cs,je c
 | .front _ _=>True
 | .map _ es=>∀e∈es,je e.2
 | .loop _ _=>False
 | .mapx _ _=>True
 | .iter _ _ _ _=>True
def flatSt (st:ISt):Prop:=∀b o,st b=some o->rm o
def flatSt.put {st:ISt}(h:flatSt st){b:Nat}{o:Option IObj}(A:∀x,o=some x->rm x):flatSt (st.put b o):=λc x hc=>by
 rw[ISt.put_apply] at hc;split at hc
 ·exact A x hc
 ·exact h c x hc
def ObjOk.flat {C C':Cx}{X Y:WS}{b:Nat}{o:IObj}(h:ObjOk C X b o)(U:rm o)(E:Y.w.heap[b]?=X.w.heap[b]?)(A:Y.L b=X.L b):ObjOk C' Y b o:=by
 cases o with
 | box cs =>
  obtain⟨h0,c,T,D,hv⟩:=h;exact⟨A.trans h0,c,T,E.trans D,hv.flat' U⟩
 | front n s =>
  obtain⟨c,T,D,h2,W⟩:=h;exact⟨c,T,E.trans D,A.trans h2,by rw[A];exact W⟩
 | map k es =>
  obtain⟨h0,hk,O,e,cl,D,h1,h2,W,h4⟩:=h;exact⟨A.trans h0,hk,O,e,cl,E.trans D,h1,h2.flat' (λx hx=>by
   obtain⟨p,hp,rfl⟩:=eP.1 hx;exact U p hp),W,h4⟩
 | loop r xs=>exact U.elim
 | mapx e c=>exact⟨A.trans h.1,E.trans h.2⟩
 | iter m s e c=>exact⟨A.trans h.1,E.trans h.2⟩
def ICall.sub {P:Program}{gl:Nat->Option IV}{f:FuncId}{args:List IV}{st A:ISt}{K:IV->ISt->Prop}(h:ICall P gl f args A K)(W:subSt A st):ICall P gl f args st K:=by
 intro B X rs hg E U;obtain⟨O,D⟩:=hg.sub (st:=A) (by rw[E];exact W);refine (h B { X with st:=A } rs O rfl ⟨U.1,λi r c hr hc=>D.v (U.2 i r c hr hc)⟩).mono ?_;rintro e w' ⟨v,rfl,X',x,h1,h2,h3,h4,h5⟩;exact⟨v,rfl,X',x,h1,h2,D.trans h3,h4,h5⟩
def JA {C:Cx}{X:WS}{A:Array MapEntry}{es:List (Value×IV)}(h:C.vl X (A.toList.map (·.val)) (es.map (·.2))):∀(i:Nat) (e:MapEntry) (p:Value×IV),A.toList[i]?=some e->es[i]?=some p->∀v,p.2=.raw v->e.val=v:=λi e p E hp v D=>by
 have:=h.2 i e.val p.2 (by rw[en,E];rfl) (by rw[en,hp];rfl);rw[D] at this;exact dQ this
def rn {P:Program}{gl:Nat->Option IV}{f:FuncId}{args:List IV}{st:ISt}{K:IV->ISt->Prop}
  (h:ICall P gl f args st (λr st'=>∃m U es,st' m=some (.map U es)/\∀D A,Ab U es D A->K r (st'.put m (some (.mapx D A))))):ICall P gl f args st K:=by
 intro B X rs hg ac hv;refine (h B X rs hg ac hv).mono ?_;rintro e w' ⟨v,rfl,X',x,rfl,E,af,W,m,U,es,hm,hK⟩;obtain⟨hL,hf,_,D,A,hh,h1,aa,h2,h3⟩:=E.ok m _ hm;have ae:Good ⟨P,gl,B⟩ { X' with st:=X'.st.put m (some (.mapx D A)) }:=⟨λb o O=>by
   simp only[ISt.put_apply] at O;split at O
   ·rename_i h;subst h;cases O;exact⟨hL,hh⟩
   ·exact (E.ok b o O).mono rfl rfl (λ_ _ hv=>hv),E.gl,E.B,E.Lnew,E.gsh,E.dr⟩
 have he:Ext X' { X' with st:=X'.st.put m (some (.mapx D A)) }:=⟨rfl,rfl,rfl,dz _,λ_=>dz _,λ_ _ _=>rfl,λ_ _ _=>⟨rfl,rfl⟩,λb _ O=>by
   show (X'.st.put m (some (.mapx D A))) b=none;rw[ISt.put_apply];split
   ·rename_i h;subst h;rw[hm] at O;cases O
   ·exact O,λ_ _ hp=>hp,rfl⟩
 exact⟨v,rfl,{ X' with st:=X'.st.put m (some (.mapx D A)) },x,rfl,ae,af.trans he,W,hK D A ⟨h1,hf,h2,h3,JA aa⟩⟩
def appT (n:Nat)(t:Tag):Prop:=t.cap=.nil\/(0<n/\t.fresh=true/\∃g,t.cap=.app g)
def appT.pos {n m:Nat}{t:Tag}(h:appT n t)(A:0<m):appT m t:=h.imp id λh=>⟨A,h.2⟩
def appT.up {n k:Nat}{t:Tag}(h:appT n t):appT (n+k) t:=h.imp id λh=>⟨by omega,h.2⟩
def wkE (t:Tag):Nat:=if t.es<=4 then 0 else 1
def appT.to {n m:Nat}{t:Tag}(h:appT n t)(A:m=n):appT m t:=A▸h
mutual
def dfr:IV->Prop
 | .raw (.agg _)=>False
 | .raw (.tuple _)=>False
 | .raw _=>True
 | .agg cs=>dfrs cs/\∀c∈cs,c.one=true
 | .tup vs=>dfrs vs
 | .sl t A=>appT (A.length+wkE t) t/\dfrs A/\∀c∈A.flatMap IV.cells,c.one=true
 | _=>False
def dfrs:List IV->Prop
 | []=>True
 | x::l=>dfr x/\dfrs l
end
def lV:∀ {l:List IV}{x:IV},dfrs l->x∈l->dfr x
 | y::l,x,h,hx=>by
  simp only[dfrs] at h;rcases dC.1 hx with rfl|hx
  ·exact h.1
  ·exact lV h.2 hx
def pU:∀ {l m:List IV},dfrs l->dfrs m->dfrs (l++m)
 | [],m,_,h=>h
 | x::l,m,h,k=>by
  simp only[dX,dfrs] at h ⊢;exact⟨h.1,pU h.2 k⟩
def JB {x:IV}(h:dfr x):∀c∈x.cells,dfr c:=by
 cases x with
 | agg cs=>simp only[dfr] at h;exact λc hc=>lV h.1 hc
 | _=>intro c hc;simp only[IV.cells,fD] at hc;subst hc;exact h
inductive OI (st:ISt):IV->IV->Prop
 | refl (x:IV):OI st x x
 | agg (rs cs:List IV) (hl:rs.length=cs.length) (h:∀(i:Nat) (r c:IV),rs[i]?=some r->cs[i]?=some c->OI st r c):OI st (.agg rs) (.agg cs)
 | tup (rs cs:List IV) (hl:rs.length=cs.length) (h:∀(i:Nat) (r c:IV),rs[i]?=some r->cs[i]?=some c->OI st r c):OI st (.tup rs) (.tup cs)
 | nil (t:Tag) (h:t.cap=.nil):OI st (.raw (.slice none 0 0)) (.sl t [])
 | sl (g cap:Nat) (t:Tag) (xs:List IV) (cs:List IV) (hcap:t.cap=.app g) (hlen:xs.length<=140737488355328) (hcl:xs.length<=cap) (hs:∀x∈xs,x.cells.length=t.es)
   (hst:st g=some (.box cs)) (hroom:cap*t.es<=cs.length) (h:∀(i:Nat) (r c:IV),cs[i]?=some r->(xs.flatMap IV.cells)[i]?=some c->OI st r c) :
   OI st (.raw (.slice (some ⟨g,0,none⟩) xs.length cap)) (.sl t xs)
 | ptr (b:Nat) (x:IV) (cs:List IV) (hst:st b=some (.box cs)) (hl:cs.length=x.cells.length) (h:∀(i:Nat) (r c:IV),cs[i]?=some r->x.cells[i]?=some c->OI st r c) :
   OI st (.raw (.pointer (some ⟨b,0,none⟩))) (.cptr x)
def OI.mono {st st':ISt}{y x:IV}(h:OI st y x)(E:∀b cs,st b=some (.box cs)->st' b=some (.box cs)):OI st' y x:=by
 induction h with
 | refl x=>exact .refl x
 | agg rs cs D _ A=>exact .agg rs cs D A
 | tup rs cs D _ A=>exact .tup rs cs D A
 | nil t h=>exact .nil t h
 | sl g cap t O cs h1 h2 h3 h4 W U _ A=>exact .sl g cap t O cs h1 h2 h3 h4 (E _ _ W) U A
 | ptr b x cs h1 h2 _ A=>exact .ptr b x cs (E _ _ h1) h2 A
def gS (st:ISt):ISt:=λb=>match st b with|some (.box _)=>none|o=>o
def BC (st:ISt):subSt (gS st) st:=λb o h=>by
 unfold gS at h;grind
def sU {st:ISt}{b:Nat}{cs:List IV}(h:st b=some (.box cs)):gS st b=none:=by
 unfold gS;rw[h]
def rp {st:ISt}{b:Nat}(h:∀cs,st b≠some (.box cs)):gS st b=st b:=by
 unfold gS;grind
def WS.lendS (X:WS)(s1 s0:ISt):WS :=
 { w:=X.w,L:=λb=>match s1 b with|some (.box cs)=>cs.length|_=>X.L b,st:=s0,d:=X.d }
structure LendOk (st s1 s0:ISt):Prop where
 sub1:subSt s1 st
 sub0:subSt s0 st
 off:∀b cs,s1 b=some (.box cs)->s0 b=none
def wb (st:ISt):LendOk st st (gS st):=⟨subSt.refl st,BC st,λ_ _ h=>sU h⟩
abbrev WS.lend (X:WS):WS:=X.lendS X.st (gS X.st)
section
variable {C:Cx}{X:WS}{s1 s0:ISt}
def wc {b:Nat}{cs:List IV}(h:s1 b=some (.box cs)):(X.lendS s1 s0).L b=cs.length:=by simp only[WS.lendS,h]
def pV {b:Nat}(h:∀cs,s1 b≠some (.box cs)):(X.lendS s1 s0).L b=X.L b:=by
 simp only[WS.lendS]
 try split
 all_goals first|rfl|(rename_i cs hc;exact absurd hc (h cs))
def Good.lendS_ext (h:Good C X)(k:LendOk X.st s1 s0):Ext X (X.lendS s1 s0) where
 os:=rfl
 tape:=rfl
 output:=rfl
 size:=dz _
 lmono b:=by
  by_cases D:∃cs,s1 b=some (.box cs)
  ·obtain⟨cs,D⟩:=D;obtain⟨O,_⟩:=h.ok b _ (k.sub1 _ _ D);grind
  ·rw[pV λcs hc=>D ⟨cs,hc⟩];exact dz _
 cells _ _ _:=rfl
 keep b _ A:=⟨rfl,pV λcs hc=>by rw[k.sub1 _ _ hc] at A;cases A⟩
 dom b _ A:=by
  show s0 b=none;cases E:s0 b with
  | none=>rfl
  | some o=>rw[k.sub0 _ _ E] at A;cases A
 shape _ _ hp:=hp
 d:=rfl
def Good.lendS (h:Good C X)(k:LendOk X.st s1 s0):Good C (X.lendS s1 s0) where
 ok b o A:=by
  have A:s0 b=some o:=A;have D:∀cs,s1 b≠some (.box cs):=λcs hc=>by rw[k.off b cs hc] at A;cases A
  exact (h.ok b o (k.sub0 b o A)).mono rfl (pV D) (λ_ _ E=>(h.lendS_ext k).vl E)
 gl g x O:=(h.lendS_ext k).v (h.gl g x O)
 B:=h.B
 Lnew b A:=by
  rw[pV λcs hc=>?_]
  ·exact h.Lnew b A
  ·have h1:=h.lt (k.sub1 _ _ hc);have h2:X.w.heap.size<=b:=A;omega
 gsh:=h.gsh
 dr:=h.dr
def Good.lend_ext (h:Good C X):Ext X X.lend:=h.lendS_ext (wb _)
def Good.lend (h:Good C X):Good C X.lend:=h.lendS (wb _)
def OI.v (h:Good C X)(k:LendOk X.st s1 s0){y x:IV}(ho:OI s1 y x):∀ {r:Value},C.v X r y->C.v (X.lendS s1 s0) r (age x):=by
 induction ho with
 | refl x=>exact λE=>((h.lendS_ext k).v E).aged
 | agg rs cs hl _ ih =>
  intro r E;obtain⟨rr,rfl,A⟩:=lH E;refine .agg rr (ages cs) (by rw[kS,A.1,hl]) λi r c h1 h2=>?_;obtain⟨x,hx,rfl⟩:=lU h2;have hi:=(lGs hx).1;have U:rs[i]?=some (rs[i]'(by omega)):=ee _;exact ih i _ x U hx (A.2 i r _ h1 U)
 | tup rs cs hl _ ih =>
  intro r E;obtain⟨rr,rfl,A⟩:=qC E;refine .tup rr (ages cs) (by rw[kS,A.1,hl]) λi r c h1 h2=>?_;obtain⟨x,hx,rfl⟩:=lU h2;have hi:=(lGs hx).1;have U:rs[i]?=some (rs[i]'(by omega)):=ee _;exact ih i _ x U hx (A.2 i r _ h1 U)
 | nil t hn =>
  intro r E;obtain rfl:=dQ E;refine .sl none 0 _ [] 0 [] ?_ (by simp) (by simp) (by simp) (by simp) (λg hg=>?_) (λ_ ad au=>by cases au) (λao=>absurd rfl ao) (λi r c A=>by simp at A)
  ·simp only[hn];exact⟨rfl,rfl,rfl⟩
  ·grind
 | sl g cap t xs cs aa ag aj hs O ae _ ih =>
  intro r E;obtain rfl:=dQ E;obtain⟨h0,c,T,hh,D⟩:=h.ok g _ (k.sub1 _ _ O);have ar:(xs.flatMap IV.cells).length=xs.length*t.es:=jZ xs hs;have ay:xs.length*t.es<=cs.length:=eh (ec _ aj) ae;have W:c.toList.length=cs.length:=D.1;have key:=V.sl (B:=C.B) (L:=(X.lendS s1 s0).L) (w:=X.w) (some ⟨g,0,none⟩) cap ⟨false,t.cap,t.es⟩ (ages xs) T (c.toList.take (xs.length*t.es));rw[kS] at key;refine key ?_ ag aj (λy hy=>?_) ?_ (λg' ai=>?_) (λhf=>by cases hf) (λ_=>⟨_,rfl,rfl,?_,λi r A=>?_⟩) λi r z A hz=>?_
  ·simp only[aa,kH]
  ·rw[nO] at hy;obtain⟨x,hx,rfl⟩:=eP.1 hy;rw[oM,kS];exact hs x hx
  ·grind
  ·simp only[aa,Cap.app.injEq] at ai;subst ai;refine⟨T,c.size,?_,?_⟩
   ·simp[shq,hh]
   ·grind
  ·show 0+(c.toList.take (xs.length*t.es)).length<=(X.lendS s1 s0).L g;rw[wc O,dO];omega
  ·rw[eQ,jX hh];grind
  ·rw[wa] at hz;obtain⟨x,hx,rfl⟩:=lU hz;rw[fl] at A;split at A
   ·rename_i hi;have U:cs[i]?=some (cs[i]'(by omega)):=ee _;exact ih i _ x U hx (D.2 i r _ A U)
   ·cases A
 | ptr b x cs O hl _ ih =>
  intro r E;obtain rfl:=dQ E;obtain⟨h0,c,T,hh,D⟩:=h.ok b _ (k.sub1 _ _ O);have W:c.toList.length=cs.length:=D.1;refine .cptr ⟨b,0,none⟩ (age x) c.toList rfl ?_ ?_ (λi r A=>?_) λi r z A hz=>?_
  ·rw[oM,kS,W,hl]
  ·show 0+c.toList.length<=(X.lendS s1 s0).L b;rw[wc O];omega
  ·show X.w.cell? ⟨b,0+i,none⟩=some r;rw[eQ,jX hh];simpa using A
  ·rw[oM] at hz;obtain⟨y,hy,rfl⟩:=lU hz;have hi:=(lGs A).1;have U:cs[i]?=some (cs[i]'(by omega)):=ee _;exact ih i _ y U hy (D.2 i r _ A U)
end
def Lent (st:ISt)(y x:IV):Prop:=y=x\/∃A,OI st y A/\x=age A
def Lents (st:ISt):List IV->List IV->Prop
 | [],D=>D=[]
 | y::ys,D=>∃x A,D=x::A/\Lent st y x/\Lents st ys A
def Lents.v {C:Cx}{X:WS}(h:Good C X):∀ {ys E:List IV} {rs:List Value},Lents X.st ys E->C.vl X rs ys->C.vl X.lend rs E
 | [],E,rs,A,D=>by
  simp only[Lents] at A;subst A;obtain rfl:rs=[]:=eN D.1;exact VL.nil
 | y::ys,E,rs,A,D=>by
  simp only[Lents] at A;obtain⟨x,O,rfl,hx,A⟩:=A;cases rs with
  | nil=>have:=D.1;simp at this
  | cons r rs =>
   have h1:=D.2 0 r y rfl rfl;have h2:C.vl X rs ys:=⟨by have:=D.1;simpa using this,λi a b ha W=>D.2 (i+1) a b (by simpa using ha) (by simpa using W)⟩
   refine VL.cons ?_ (Lents.v h A h2);rcases hx with rfl|⟨x0,U,rfl⟩
   ·exact h.lend_ext.v h1
   ·exact U.v h (wb _) h1
section
variable {P:Program}{gl:Nat->Option IV}{f:FuncId}{args args':List IV}{st:ISt}{K:IV->ISt->Prop}
def rq (O:Lents st args args')(h:ICall P gl f args' (gS st) K):ICall P gl f args st K:=by
 intro B X rs D A E;subst A;refine (h B X.lend rs D.lend rfl (O.v D E)).mono ?_;rintro e w' ⟨v,rfl,X',x,h1,h2,h3,W,U⟩;exact⟨v,rfl,X',x,h1,h2,D.lend_ext.trans h3,W,U⟩
def ICall.lent {K:IV->Prop}(hf:∀b o,st b=some o->(∃cs,o=.box cs)\/rm o)(hl:Lents st args args')(h:ICall P gl f args' (gS st) (λr st'=>st'=gS st/\je r/\K r)):ICall P gl f args st (λr st'=>st'=st/\K r):=by
 intro B X rs U ag hv;subst ag;refine (h B X.lend rs U.lend rfl (hl.v U hv)).mono ?_;rintro e w' ⟨v,rfl,X',x,rfl,h2,O,h4,h5,h6,h7⟩;have ah:∀ {b o},X.st b=some o->b<X.w.heap.size:=λA=>U.lt A
 let Y:WS:={ w:=X'.w,L:=λb=>match X.st b with|some (.box _)=>0|_=>X'.L b,st:=X.st,d:=X'.d }
 have aj:∀ {b cs},X.st b=some (.box cs)->Y.L b=0:=λA=>by simp only[Y,A]
 have W:∀ {b},(∀cs,X.st b≠some (.box cs))->Y.L b=X'.L b:=λ{b} A=>by
  grind
 have ab:∀ {b cs},X.st b=some (.box cs)->X'.w.heap[b]?=X.w.heap[b]?:=λ{b cs} A=>(O.keep b (ah A) (sU A)).1;have he:Ext X Y:=by
  refine⟨O.os,O.tape,O.output,O.size,λb=>?_,λb i hi=>?_,λb A hs=>?_,λb _ hs=>hs,O.shape,O.d⟩
  ·by_cases A:∃cs,X.st b=some (.box cs)
   ·obtain⟨cs,A⟩:=A;rw[(U.ok b _ A).1];exact fQ _
   ·rw[W λcs hc=>A ⟨cs,hc⟩];exact eh (U.lend_ext.lmono b) (O.lmono b)
  ·exact O.cells b i (kE hi (U.lend_ext.lmono b))
  ·have E:∀cs,X.st b≠some (.box cs):=λcs hc=>by rw[hs] at hc;cases hc
   obtain⟨k1,k2⟩:=O.keep b A ((rp E).trans hs);exact⟨k1,by rw[W E,k2,pV E]⟩
 refine⟨v,rfl,Y,x,rfl,⟨λb o A=>?_,λg x aa=>he.v (U.gl g x aa),h2.B,λb A=>?_,λg x aa=>?_,h2.dr⟩,he,h4.flat' h6,rfl,h7⟩
 ·by_cases D:∃cs,X.st b=some (.box cs)
  ·obtain⟨cs,D⟩:=D;have ac:X.st b=some o:=A;rw[D] at ac;cases ac;exact (U.ok b _ D).mono (ab D) (by rw[aj D,(U.ok b _ D).1]) (λ_ _ hv=>he.vl hv)
  ·have E:∀cs,X.st b≠some (.box cs):=λcs hc=>D ⟨cs,hc⟩;have h1:X'.st b=some o:=by rw[h5];exact (rp E).trans A
   exact (h2.ok b o h1).flat ((hf b o A).resolve_left λ⟨cs,hc⟩=>D ⟨cs,A.trans (et some hc)⟩) rfl (W E)
 ·have E:∀cs,X.st b≠some (.box cs):=λcs hc=>by
   grind
  rw[W E];exact h2.Lnew b A
 ·exact h2.gsh g x aa
def nP {K:IV->Prop}(D:flatSt st)(A:Lents st args args')(h:ICall P gl f args' (gS st) (λr st'=>st'=gS st/\je r/\K r)):ICall P gl f args st (λr st'=>st'=st/\K r) :=
 ICall.lent (λb o E=>.inr (D b o E)) A h
def lW (h:ICall P gl f args st (λy st'=>∃x s1 s0,LendOk st' s1 s0/\OI s1 y x/\K (age x) s0)):ICall P gl f args st K:=by
 intro B X rs U A E;refine (h B X rs U A E).mono ?_;rintro e w' ⟨v,rfl,X',y,rfl,h2,h3,h4,x,s1,s0,D,O,W⟩;exact⟨v,rfl,X'.lendS s1 s0,age x,rfl,h2.lendS D,h3.trans (h2.lendS_ext D),O.v h2 D h4,W⟩
def JC {t:Tag}{g n c:Nat}{a:Option Addr}(h:kH t.cap a n c)(A:t.cap=.app g):a=some ⟨g,0,none⟩:=by rw[A] at h;exact h
open Classical in
noncomputable def rdI (v:Value):IV:=if kI v then .raw v else .junk
def JD {v:Value}(h:kI v):rdI v=.raw v:=b_ h
def BD (v:Value):je (rdI v):=by unfold rdI;split<;>trivial
def BE {B:Nat}{L:Nat->Nat}{w:World}(v:Value):V B L w v (rdI v):=by
 unfold rdI;split
 ·exact .raw v ‹_›
 ·exact .junk v
noncomputable def jI (w:World)(M:Nat)(st:ISt):ISt:=λb =>
 if b<M then st b else match w.heap[b]? with
  | some (.cells c _ f)=>if f=(0,0) then some (.box (c.toList.map rdI)) else none
  | _=>none
def rawC (c:IV):Prop:=(∃v,c=.raw v)\/c=.junk
mutual
def rawY:IV->Prop
 | .raw _=>True
 | .junk=>True
 | .agg cs=>mV cs
 | .tup vs=>mV vs
 | _=>False
def mV:List IV->Prop
 | []=>True
 | x::l=>rawY x/\mV l
end
def BF {l:List IV}(h:∀x∈l,rawY x):mV l:=by
 induction l with
 | nil=>trivial
 | cons x l A=>exact⟨h x (by simp),A λy D=>h y (by simp[D])⟩
def sV:∀ {l:List IV}{x:IV},mV l->x∈l->rawY x
 | y::l,x,h,hx=>by
  simp only[mV] at h;rcases dC.1 hx with rfl|hx
  ·exact h.1
  ·exact sV h.2 hx
def BG {M:Nat}{L:Nat->Nat}{w:World}{st:ISt}{r:Value}{x:IV}(h:V M L w r x):dfr x->∃y,(∀B L' w',V B L' w' r y)/\OI (jI w M st) y x/\(x.one=true->kI r/\y=.raw r)/\rawY y:=by
 induction h with
 | raw v h=>exact λ_=>⟨.raw v,λ_ _ _=>.raw v h,.refl _,λ_=>⟨h,rfl⟩,trivial⟩
 | junk v=>intro hd;simp only[dfr] at hd
 | agg rs cs hl _ ih =>
  intro hd;simp only[dfr] at hd;have key:∀i r c,rs[i]?=some r->cs[i]?=some c->kI r/\OI (jI w M st) (.raw r) c:=λi r c A hc=>by
   obtain⟨y,_,h2,h3,_⟩:=ih i r c A hc (lV hd.1 (lMg hc));grind
  refine⟨.agg (rs.map .raw),λB L' w'=>.agg rs _ (by simp) λi r c A hc=>?_,.agg _ cs (by simpa using hl) λi r c A hc=>?_,λhx=>by simp[IV.one] at hx,BF λx hx=>by obtain⟨r,_,rfl⟩:=eP.1 hx;trivial⟩
  ·rw[en,A] at hc;cases hc;have hi:=(lGs A).1;exact .raw r (key i r _ A (ee (by omega))).1
  ·grind
 | tup rs cs hl _ ih =>
  intro hd;simp only[dfr] at hd;have key:∀i:Nat,∃y,(∀r c,rs[i]?=some r->cs[i]?=some c->(∀B L' w',V B L' w' r y)/\OI (jI w M st) y c)/\rawY y:=λi=>by
   by_cases hi:i<rs.length
   ·obtain⟨y,h1,h2,_,h5⟩:=ih i _ _ (ee hi) (ee (by omega)) (lV hd (List.getElem_mem _));grind
   ·exact⟨.junk,(λr c A=>by rw[lF (by omega)] at A;cases A),trivial⟩
  let ys:List IV:=(List.range rs.length).map λi=>(key i).choose
  have hys:∀i y,ys[i]?=some y->y=(key i).choose:=λi y hy=>by
   grind
  have af:ys.length=rs.length:=by simp[ys]
  refine⟨.tup ys,λB L' w'=>.tup rs _ af.symm λi r c A hc=>?_,.tup _ cs (by rw[af,hl]) λi r c A hc=>?_,λhx=>by simp[IV.one] at hx,BF λx hx=>by obtain⟨i,_,rfl⟩:=eP.1 hx;exact (key i).choose_spec.2⟩
  ·grind
  ·have hi:=(lGs hc).1;rw[hys i r A];exact ((key i).choose_spec.1 _ c (ee (show i<rs.length by omega)) hc).2
 | fn=>intro hd;simp only[dfr] at hd
 | cptr=>intro hd;simp only[dfr] at hd
 | sl a cap t xs T vs E ai ay hs aq W U O aD ih =>
  intro hd;simp only[dfr] at hd;obtain⟨am,ax,ah⟩:=hd;refine⟨_,λ_ _ _=>.raw _ trivial,?_,λ_=>⟨trivial,rfl⟩,trivial⟩;rcases am with hn|⟨_,aw,g,hg⟩
  ·rw[hn] at E;obtain⟨rfl,hl,rfl⟩:=E;obtain rfl:xs=[]:=eN hl;exact .nil t hn
  ·obtain rfl:=JC E hg;obtain⟨hM,_,_⟩:=U aw _ rfl;obtain⟨T',k,D,hk⟩:=W g hg;unfold shq at D;split at D
   case h_2=>cases D
   rename_i c e fz hh;simp only[dL,Prod.mk.injEq,beq_iff_eq] at D;obtain⟨⟨rfl,rfl⟩,rfl⟩:=D;have ar:jI w M st g=some (.box (c.toList.map rdI)):=by
    unfold jI;grind
   refine .sl g cap t xs _ hg ai ay hs ar (by simpa using hk) λi r z A hz=>?_;have au:xs≠[]:=by rintro rfl;simp at hz
   obtain⟨ad,az,_,_,aa⟩:=O au;cases az;have hi:=(lGs hz).1;rw[jZ xs hs,<- aq] at hi;have ag:=ee hi;have ak:=aa i _ ag;rw[eQ,jX hh] at ak;obtain⟨y,_,h2,h3,_⟩:=ih i _ z ag hz (by
    obtain⟨x,hx,ao⟩:=iy.1 (lMg hz);exact JB (lV ax hx) z ao)
   obtain⟨h4,rfl⟩:=h3 (ah z (lMg hz));rw[en,ak] at A;simp only[fg,dL] at A;rw[JD h4] at A;grind
def BH (v:Value):rawC (rdI v):=by
 unfold rdI;split
 ·exact .inl ⟨v,rfl⟩
 ·exact .inr rfl
def lX (st:ISt):Prop:=∀b cs,st b=some (.box cs)->∀c∈cs,rawC c
def nQ (h:ICall P gl f [()] st K):ICall P gl f [.raw (.slice none 0 0)] st K:=by
 intro B X rs O A W;refine h B X rs O A ⟨W.1,λi r c D hc=>?_⟩;cases i with
 | zero =>
  have h1:=W.2 0 r _ D rfl;obtain rfl:=dQ h1;simp only[fC,dL] at hc;subst hc;exact .sl none 0 ⟨true,.nil,0⟩ [] 0 [] ⟨rfl,rfl,rfl⟩ (by simp) (by simp) (by simp) (by simp) (λg O=>by cases O) (λ_ ad U=>by cases U) (λE=>absurd rfl E) (λi r c D=>by simp at D)
 | succ i=>simp at hc
def ICall.own {K:IV->Prop}(hf:flatSt st)(aj:∀g x,gl g=some x->age x=x)(h:ICall P gl f (ages args) st (λr st'=>st'=st/\dfr r/\K r)) :
  ICall P gl f args st (λy st'=>subSt st st'/\flatSt st'/\(lX st->lX st')/\∃x,K x/\OI st' y x/\rawY y):=by
 intro B X rs E af hv;subst af;have ak:Good ⟨P,gl,X.w.heap.size⟩ X:=⟨λb o A=>(E.ok b o A).flat (hf b o A) rfl rfl,λg x hx=>by
   have h1:=aj g x hx;have h2:=(E.gl g x hx).aged (B':=X.w.heap.size);simp only[age,h1] at h2;exact h2,dz _,E.Lnew,E.gsh,E.dr⟩
 refine (h X.w.heap.size X rs ak rfl hv.aged).mono ?_;rintro e w' ⟨v,rfl,X',x,rfl,h2,D,h4,h5,h6,h7⟩;obtain⟨y,ae,ac,_,ab⟩:=BG (st:=X.st) h4 h6
 let Y:WS:={ w:=X'.w,L:=λb=>if b<X.w.heap.size then X'.L b else 0,st:=jI X'.w X.w.heap.size X.st,d:=X'.d }
 have ah:∀ {b o},X.st b=some o->b<X.w.heap.size:=λA=>E.lt A;have he:Ext X Y:=by
  refine⟨D.os,D.tape,D.output,D.size,λb=>?_,D.cells,λb A hs=>?_,λb A hs=>?_,D.shape,D.d⟩
  ·simp only[Y];split
   ·exact D.lmono b
   ·rename_i A;rw[E.Lnew b (by omega)];exact dz _
  ·simp only[Y];rw[b_ A];exact D.keep b A hs
  ·simp only[Y,jI];rw[b_ A];exact hs
 have U:∀b o,Y.st b=some o->(b<X.w.heap.size/\X.st b=some o)\/(X.w.heap.size<=b/\∃c T,X'.w.heap[b]?=some (.cells c T (0,0))/\o=.box (c.toList.map rdI)):=λb o A=>by
  simp only[Y,jI] at A;grind
 refine⟨v,rfl,Y,y,rfl,⟨λb o A=>?_,λg x ai=>he.v (E.gl g x ai),eh E.B D.size,λb A=>?_,h2.gsh,h2.dr⟩,he,ae _ _ _,λb o A=>?_,λb o A=>?_,λaa b cs A=>?_,x,h7,ac,ab⟩
 ·rcases U b o A with⟨h8,O⟩|⟨h8,c,T,hh,rfl⟩
  ·have an:X'.st b=some o:=by rw[h5];exact O
   exact (h2.ok b o an).flat (hf b o O) rfl (by simp only[Y];rw[b_ h8])
  ·refine⟨by simp only[Y];rw[a_ (by omega)],c,T,hh,by simp,λi r z hr W=>?_⟩;rw[en,hr] at W;cases W;exact BE r
 ·simp only[Y];split
  ·exact h2.Lnew b A
  ·rfl
 ·simp only[Y,jI];rw[b_ (ah A)];exact A
 ·rcases U b o A with⟨_,O⟩|⟨_,c,T,_,rfl⟩
  ·exact hf b o O
  ·intro z W;obtain⟨v,_,rfl⟩:=eP.1 W;exact BD v
 ·rcases U b _ A with⟨_,O⟩|⟨_,c,T,_,O⟩
  ·exact aa b cs O
  ·cases O;intro z W;obtain⟨v,_,rfl⟩:=eP.1 W;exact BH v
end
def iteT {α:Sort _}{c:Prop} [Decidable c]{a b:α}(h:c=True):ite c a b=a:=b_ (of_eq_true h)
def iteF {α:Sort _}{c:Prop} [Decidable c]{a b:α}(h:c=False):ite c a b=b:=a_ (of_eq_false h)
def laC {α:Type _}{a:α}{l:List α}{f:α->Bool}:(a::l).all f=(f a&&l.all f):=(rfl)
def laN {α:Type _}{f:α->Bool}:[].all f=true:=(rfl)
def naZ (n:Nat):n+0=n:=(rfl)
def lgZ {α:Type _}{a:α}{l:List α}:(a::l)[0]?=some a:=(rfl)
def lgS {α:Type _}{a:α}{i:Nat}{l:List α}:(a::l)[i+1]?=l[i]?:=(rfl)
def omS {α:Type _}{β:Type _}(a:α)(f:α->β):Option.map f (some a)=some (f a):=(rfl)
def nsZ (n:Nat):n-0=n:=(rfl)
def itN (n:Nat):((n:Int)).toNat=n:=(rfl)
def llC {α:Type _}{a:α}{l:List α}:(a::l).length=l.length+1:=(rfl)
def llN {α:Type _}:([]:List α).length=0:=(rfl)
def ltS {α:Type _}{a:α}{l:List α}{i:Nat}:List.take (i+1) (a::l)=a::List.take i l:=(rfl)
def ltZ {α:Type _}{l:List α}:List.take 0 l=[]:=List.take_zero
def lcA {α:Type _}{a:α}{l m:List α}:a::l++m=a::(l++m):=(rfl)
def lnA {α:Type _}(l:List α):[]++l=l:=(rfl)
def lzC {α:Type _}{a:α}{l:List α}{β:Type _}{b:β}{m:List β}:(a::l).zip (b::m)=(a,b)::l.zip m:=(rfl)
def lzN {α:Type _}{β:Type _}{l:List β}:([]:List α).zip l=[]:=(rfl)
attribute [go_sem ↓] iteT iteF
attribute [go_sem] cf eV laC laN Bool.and_self Bool.true_and Bool.and_true Bool.false_and Bool.and_false Bool.not_true Bool.not_false List.mem_nil_iff if_false if_true beq_self_eq_true Nat.zero_add naZ lgZ lgS omS List.mem_cons or_false false_or or_true true_or nsZ forall_const itN llC llN List.map_cons List.map_nil ltS ltZ List.drop_zero List.drop_succ_cons lcA lnA List.append_nil and_true true_and and_self true_implies lzC lzN
end Go.Iv
def Go.Iv.iI {P:Go.Program}{gl:Nat->Option Go.Iv.IV}{f:Go.FuncId}{fn:Go.Func}{code:Go.Code}{args:List Go.Iv.IV}{st:Go.Iv.ISt}{K:Go.Iv.IV->Go.Iv.ISt->Prop}(hf:P.funcs[f]?=some fn)(h:Go.Iv.vcC (Go.Iv.cf P gl [] []) code (Go.Iv.bodyK P gl fn.results.toList K) (Go.Iv.frOf args) st [])(hb:fn.body=some code:=by rfl)(hN:Nat.ble args.length fn.ntmps=true:=by rfl)(hd:Go.Iv.codeOk (Go.Iv.cf P gl [] []) fn.ntmps code=true:=by kernel_rfl):Go.Iv.ICall P gl f args st K:=Go.Iv.ICall.intro (c:=Go.Iv.cf P gl [] []) hf hb (Nat.le_of_ble_eq_true hN) hd h