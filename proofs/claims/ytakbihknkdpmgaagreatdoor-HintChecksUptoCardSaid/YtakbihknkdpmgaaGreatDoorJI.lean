/- The layer of ideal values, part Q: from -/
import Derived.Test.YtakbihknkdpmgaaGreatDoorJH
import Derived.IntWalk
set_option linter.all false
namespace Go.Iv
open Go
def frOf (args:List IV):Fr:=λt=>match args[t]? with|some x=>x|none=>.iv .junk
@[go_sem] def UP (x:IV)(l:List IV):frOf (x::l) 0=x:=(rfl)
@[go_sem] def UQ (x:IV)(l:List IV)(t:Nat):frOf (x::l) (t+1)=frOf l t:=by simp[frOf]
def Inv.start {C:Cx}{X:WS}{rs:List Value}{args:List IV}{N:Nat}(E:Good C X)(hv:C.vl X rs args)(O:args.length<=N) :
  Inv C X N X (frOf args) [] { tmps:=(⟨rs⟩:Array Value)++Array.replicate (N-(⟨rs⟩:Array Value).size) undef,defers:=[] }:=by
 refine⟨E,Ext.refl X,⟨λt=>?_,λt J cs cs' h=>?_⟩,?_,.nil⟩
 ·unfold frOf;cases G:args[t]? with
  | none=>exact .junk _
  | some x =>
   obtain⟨r,D,A⟩:=hv.get G;have:tm ((⟨rs⟩:Array Value)++Array.replicate (N-(⟨rs⟩:Array Value).size) undef) t=r:=by
    have hl:=(lGs D).1;unfold tm;rw[la,Array.getElem?_append_left (by simpa using hl)];grind
   simp only;rw[this];exact A
 ·unfold frOf at h;grind
 ·have:=hv.1;simp;omega
def resI (P:Program)(fr:Fr)(st:ISt):ResultVar->Option IV
 | .tmp t=>ivOf (fr t)
 | .cell a T=>match tyI P T,plOf a (fr a) with
  | some i,some (.box t _)=>match fr t with
   | .box cs=>gr i.1 i.2 cs 0
   | _=>none
  | some i,some (.ptr b off)=>match st b with
   | some (.box cs)=>gr i.1 i.2 cs off
   | _=>none
  | _,_=>none
def resL (P:Program)(fr:Fr)(st:ISt)(rs:List ResultVar):Option (List IV):=allI (resI P fr st) rs
@[go_sem ↓] def JW (P:Program)(fr:Fr)(st:ISt):resL P fr st []=some []:=(rfl)
@[go_sem ↓] def JX (P:Program)(fr:Fr)(st:ISt)(x:ResultVar)(l:List ResultVar):resL P fr st (x::l)=vG (resI P fr st x) (resL P fr st l):=by
 unfold resL;rw[allI];cases resI P fr st x<;>cases allI (resI P fr st) l<;>rfl
@[go_sem ↓] def UR (P:Program)(fr:Fr)(st:ISt)(t:Nat):resI P fr st (.tmp t)=ivOf (fr t):=(rfl)
def outI:List IV->IV
 | [x]=>x
 | l=>.tup l
@[go_sem] def US (x:IV):outI [x]=x:=(rfl)
@[go_sem] def UT (x y:IV)(l:List IV):outI (x::y::l)=.tup (x::y::l):=(rfl)
@[go_sem] def UU:outI []=.tup []:=(rfl)
def outK (K:IV->ISt->Prop)(x:IV)(st:ISt):Prop:=∃st',subSt st' st/\K x st'
def c_ {K:IV->ISt->Prop}{x:IV}{st:ISt}(h:K x st):outK K x st:=⟨st,subSt.refl st,h⟩
def kG (P:Program)(gl:Nat->Option IV)(rs:List ResultVar)(K:IV->ISt->Prop):List Dfd->Fr->ISt->Prop
 | [],fr,st=>dp (resL P fr st rs) λD=>outK K (outI D) st
 | .coll _::ds,fr,st=>kG P gl rs K ds fr st
 | .call f A args::ds,fr,st=>match f with
  | .func g=>if entI P g=true then ICallD P gl g (args++A) st λ_ st'=>kG P gl rs K ds fr st' else False
  | _=>False
def bodyK (P:Program)(gl:Nat->Option IV)(rs:List ResultVar)(K:IV->ISt->Prop):Kc
 | .normal,fr,st,ds=>kG P gl rs K ds fr st
 | .ret,fr,st,ds=>kG P gl rs K ds fr st
 | _,_,_,_=>False
def B5 (P:Program)(rs:List ResultVar)(K:IV->ISt->Prop):Kc
 | .normal,fr,st,ds=>chk (ds=[]) (dp (resL P fr st rs) λA=>outK K (outI A) st)
 | .ret,fr,st,ds=>chk (ds=[]) (dp (resL P fr st rs) λA=>outK K (outI A) st)
 | _,_,_,_=>False
section
variable (P:Program)(gl:Nat->Option IV)(rs:List ResultVar)(K:IV->ISt->Prop)(fr:Fr)(st:ISt)(ds:List Dfd)
@[go_sem ↓] def UW:bodyK P gl rs K .normal fr st ds=kG P gl rs K ds fr st:=(rfl)
@[go_sem ↓] def UX:bodyK P gl rs K .ret fr st ds=kG P gl rs K ds fr st:=(rfl)
@[go_sem ↓] def UY:B5 P rs K .normal fr st ds=chk (ds=[]) (dp (resL P fr st rs) λA=>outK K (outI A) st):=(rfl)
@[go_sem ↓] def UZ:kG P gl rs K [] fr st=dp (resL P fr st rs) λA=>outK K (outI A) st:=(rfl)
@[go_sem ↓] def U0 (r:Nat):kG P gl rs K (.coll r::ds) fr st=kG P gl rs K ds fr st:=(rfl)
@[go_sem ↓] def JY (g:FuncId)(A args:List IV):kG P gl rs K (.call (.func g) A args::ds) fr st=if entI P g=true then ICallD P gl g (args++A) st (λ_ st'=>kG P gl rs K ds fr st') else False:=(rfl)
end
section
variable {C:Cx}{X0 X:WS}{N:Nat}{fr:Fr}{a:Act}
def JZ {ds:List Dfd}{r:ResultVar}{x:IV}(O:Inv C X0 N X fr ds a)(h:resI C.P fr X.st r=some x) :
  ∃v,((match r with|.tmp t=>pure (a.tmps.getD t undef)|.cell b T=>(do loadVar T (<- asAddr (a.tmps.getD b undef))):Sem Value)).run C.P X.w=.ok v X.w/\C.v X v x:=by
 cases r with
 | tmp t =>
  obtain⟨hv,_⟩:=AV (C:=C) (X:=X) h (O.fr.slot t);exact⟨_,rfl,hv⟩
 | cell b T =>
  simp only[resI] at h;split at h
  ·rename_i i t off ht hp;obtain⟨ag,sz⟩:=i;split at h
   ·rename_i cs D;have hs:=O.fr.slot b;cases A:fr b with
    | box cs' =>
     rw[A] at hp hs;simp only[plOf,dG,Pl.box.injEq] at hp;obtain⟨rfl,rfl⟩:=hp;rw[A] at D;cases D;obtain⟨b',c,E,hr,U,G,_⟩:=hs;obtain⟨v,hl,hv⟩:=sU ht U G h;refine⟨v,?_,hv⟩;have J:a.tmps.getD b undef=.pointer (some ⟨b',0,none⟩):=hr;simp only[J,asAddr,dt,dv,dq,hl]
    | iv y =>
     rw[A] at hp;exfalso;cases y with
     | raw u =>
      cases u with
      | pointer p =>
       cases p with
       | none=>cases hp
       | some p =>
        obtain⟨pb,po,ps⟩:=p;cases ps<;>cases hp
      | _=>cases hp
     | _=>cases hp
   ·cases h
  ·rename_i i b' off ht hp;obtain⟨ag,sz⟩:=i;split at h
   ·rename_i cs D;have hs:=O.fr.slot b;cases A:fr b with
    | box cs'=>rw[A] at hp;cases hp
    | iv y =>
     rw[A] at hp hs;cases y with
     | raw u =>
      cases u with
      | pointer p =>
       cases p with
       | none=>cases hp
       | some p =>
        obtain⟨pb,po,ps⟩:=p;cases ps with
        | none =>
         simp only[plOf,dG,Pl.ptr.injEq] at hp;obtain⟨rfl,rfl⟩:=hp;obtain⟨_,c,E,U,G⟩:=O.good.ok _ _ D;obtain⟨v,hl,hv⟩:=sU ht U G h;refine⟨v,?_,hv⟩;have J:a.tmps.getD b undef=.pointer (some ⟨pb,po,none⟩):=dK hs;simp only[J,asAddr,dt,dv,dq,hl]
        | some _=>cases hp
      | _=>cases hp
     | _=>cases hp
   ·cases h
  ·cases h
def B6 {ds:List Dfd}(E:Inv C X0 N X fr ds a):∀ {rs:List ResultVar} {A:List IV},resL C.P fr X.st rs=some A →
  ∃vs,(rs.mapM (λr=>match r with|.tmp t=>pure (a.tmps.getD t undef)|.cell b T=>(do loadVar T (<- asAddr (a.tmps.getD b undef))):ResultVar->Sem Value)).run C.P X.w=.ok vs X.w/\C.vl X vs A
 | [],A,h=>by
  simp only[JW,dG] at h;subst h;exact⟨[],by simp,VL.nil⟩
 | r::rs,A,h=>by
  rw[JX] at h;cases D:resI C.P fr X.st r with
  | none=>rw[D] at h;cases h
  | some x =>
   cases hl:resL C.P fr X.st rs with
   | none=>rw[D,hl] at h;cases h
   | some l =>
    rw[D,hl,H8,dG] at h;subst h;obtain⟨v,h1,h2⟩:=JZ E D;obtain⟨vs,J,G⟩:=B6 E hl;refine⟨v::vs,?_,VL.cons h2 G⟩;rw[List.mapM_cons];simp only[dt,h1,J,dq,dv]
def B7 {ds:List Dfd}(J:Inv C X0 N X fr ds a){fn:Func}{A:List IV}(h:resL C.P fr X.st fn.results.toList=some A):∃v,(results fn a.tmps).run C.P X.w=.ok v X.w/\C.v X v (outI A):=by
 obtain⟨vs,E,hv⟩:=B6 J h;have G:(fn.results.mapM (λr=>match r with|.tmp t=>pure (a.tmps.getD t undef)|.cell b T=>(do loadVar T (<- asAddr (a.tmps.getD b undef))):ResultVar->Sem Value)).run C.P X.w=.ok ⟨vs⟩ X.w:=by
  rw[Array.mapM_eq_mapM_toList];simp only[Sem.run_map,E,dq]
 unfold results;simp only[dt]
 erw [G]
 simp only[dq,dv];refine⟨_,rfl,?_⟩;have D:=hv.1
 match A,vs,hv with
 | [x],[v],hv=>exact hv.2 0 v x rfl rfl
 | [],[],hv=>exact hv.tup
 | x::y::l,v::u::m,hv =>
  rw[dif_neg (by simp)];exact hv.tup
def Inv.mark {r:Nat}{d:Deferred}{ds:List Deferred}{es:List Dfd}(h:Inv C X0 N X fr (.coll r::es) a)(ah:a.defers=d::ds):Inv C X0 N (X.obj r (.deferred none) (X.st r)) fr es { a with defers:=ds } /\
  d={ target:=.collected r,args:=#[] }/\(Instr.takeDeferred r).run C.P X.w=.ok [] (X.obj r (.deferred none) (X.st r)).w/\(X.obj r (.deferred none) (X.st r)).st=X.st:=by
 have U:=h.ds;rw[ah] at U;cases U with
 | cons hd hs ae =>
  obtain⟨hd,G,hst,hn⟩:=hd;subst hd;have E:∀c T f,Obj.deferred (some [])≠.cells c T f:=by intro c T f hc;cases hc
  have A:∀c T f,Obj.deferred none≠.cells c T f:=by intro c T f hc;cases hc
  have D:(X.obj r (.deferred none) (X.st r)).st=X.st:=by
   funext b;simp only[WS.obj];split
   ·grind
   ·rfl
  have keep:∀ {ds:List Deferred} {es:List Dfd},DsOk C X X0.w.heap.size ds es->Dfd.coll r ∉ es->DsOk C (X.obj r (.deferred none) (X.st r)) X0.w.heap.size ds es:=by
   intro ds es hs O
   induction hs with
   | nil=>exact .nil
   | cons h' _ ag ih =>
    refine .cons ?_ (ih (λhm=>O (.tail _ hm))) ag;rename_i d' e' _ _ _;cases e' with
    | call f al args =>
     obtain⟨rs,ab,hd,h1,h2⟩:=h';exact⟨rs,ab,hd,⟨h1.1,λi r x hr hx=>mH G E A (h1.2 i r x hr hx)⟩,⟨h2.1,λi r x hr hx=>mH G E A (h2.2 i r x hr hx)⟩⟩
    | coll r' =>
     obtain⟨hd,h1,h2,h3⟩:=h';have af:r'≠r:=by rintro rfl;exact O (.head _)
     exact⟨hd,(jV G af).trans h1,by rw[D];exact h2,h3⟩
  refine⟨⟨h.good.obj G E A (λi hi=>by rw[hst] at hi;cases hi),h.ext.obj G E A (.inl hn),⟨λt=>(h.fr.slot t).mono (λ_ _=>mH G E A) ?_,h.fr.inj⟩,h.size,keep hs (ae r rfl)⟩,rfl,?_,D⟩
  ·intro b cs hs hr hb hL au;have ai:b≠r:=by
    rintro rfl;have J:=h.fr.slot t;rw[hs] at J;obtain⟨b',c,T,an,av,_⟩:=J;grind
   exact⟨jV G ai,rfl,by rw[D];exact hb⟩
  ·have h1:(getObj r).run C.P X.w=.ok (.deferred (some [])) X.w:=by simp[getObj,Sem.run,G]
   have h2:(setObj r (.deferred none)).run C.P X.w=.ok () { X.w with heap:=X.w.heap.setIfInBounds r (.deferred none) }:=by simp[setObj,Sem.run,G]
   unfold Instr.takeDeferred;simp only[dt,h1,dq,h2,dv];rfl
def pD {c:Cf}{B:Nat}{X0:WS}{N:Nat}{fn:Func}{K:IV->ISt->Prop}{fr:Fr}:∀(es:List Dfd) (X:WS) (a:Act),Inv (c.cx B) X0 N X fr es a->kG c.P c.gl fn.results.toList K es fr X.st →
  LeavesInM Fence.wide 0 c.P fn a.tmps (λe w'=>∃v,e=.returned v/\ends ⟨c.P,c.gl,B⟩ X0 K v w') a.defers .returning X.w
 | [],X,a,E,h=>by
  have D:a.defers=[]:=by
   have:=E.ds;generalize a.defers=A at this;cases this;rfl
  rw[D];obtain⟨xs,aj,st',ae,hK⟩:=yQ3.1 h;obtain⟨v,hr,hv⟩:=B7 (C:=c.cx B) E aj;obtain⟨U,J⟩:=E.good.sub ae;exact⟨v,hr,v,rfl,{ X with st:=st' },_,rfl,U,E.ext.trans J,J.v hv,hK⟩
 | .coll r::es,X,a,E,h=>by
  obtain⟨d,A,D⟩:∃d A,a.defers=d::A:=by
   have:=E.ds;generalize a.defers=A at this;cases this;exact⟨_,_,rfl⟩
  obtain⟨ab,hd,O,af⟩:=E.mark D;rw[D];refine⟨by simp,.inl ⟨r,_,by rw[hd],O,?_⟩⟩;exact pD es _ { a with defers:=A } ab (by rw[af];exact h)
 | .call f an args::es,X,a,E,h=>by
  obtain⟨d,A,D⟩:∃d A,a.defers=d::A:=by
   have:=E.ds;generalize a.defers=A at this;cases this;exact⟨_,_,rfl⟩
  have ah:=E.ds;rw[D] at ah;cases ah with
  | cons hd hs _ =>
   obtain⟨rs,ac,rfl,h1,h2⟩:=hd;rw[D];cases f with
   | func g =>
    rw[JY] at h;split at h
    ·rename_i he;have al:∃G,c.P.funcs[g]?=some G/\G.name ≠ "runtime.NumGoroutine" /\ ¬ G.body.isNone=true:=by
      unfold entI at he;cases hf:c.P.funcs[g]? with
      | none=>simp[hf] at he
      | some G =>
       simp only[hf,bAt,bne_iff_ne,ne_eq] at he;exact⟨G,rfl,he.1,by have:=he.2;cases hq:G.body<;>simp_all⟩
     obtain⟨G,hf,ak,aa⟩:=al;refine⟨by simp,.inr ⟨λh=>by simp[Fence.wide] at h,.func g,⟨rs⟩,g,⟨ac++rs⟩,rfl,?_,λ_ _=>trivial,?_⟩⟩
     ·simp only[invoke,callFunc,dt,run_program,dq,hf];rw[a_ (by simpa using ak),a_ aa];simp
     ·refine (h B X (ac++rs) .returning E.good rfl (h2.append h1)).mono ?_;rintro e u' w' ⟨rfl,v,rfl,X',x,rfl,U,J,_,hK⟩;have ab:Inv (c.cx B) X0 N X' fr es { a with defers:=A }:=by
       have am:Inv (c.cx B) X0 N X fr es { a with defers:=A }:=⟨E.good,E.ext,E.fr,E.size,hs⟩
       exact am.ext' J U
      exact pD es X' { a with defers:=A } ab hK
    ·exact h.elim
   | _=>exact h.elim
end
def ICall.intro {c:Cf}{f:FuncId}{fn:Func}{A:Code}{args:List IV}{st:ISt}{K:IV->ISt->Prop}(O:c.P.funcs[f]?=some fn)(U:fn.body=some A)
  (hN:args.length<=fn.ntmps) (hd:codeOk c fn.ntmps A=true) (h:vcC c A (bodyK c.P c.gl fn.results.toList K) (frOf args) st []):ICall c.P c.gl f args st K:=by
 intro B X rs J hst hv;subst hst;refine (callsIn_wide (n:=0)).1 (callsIn_of_wp_marks O U trivial ?_);have hs:=tJ (N:=fn.ntmps) A c B X none 0 (λ_=>rfl) _ X (frOf args) [] _ hd (Inv.start J hv hN) h;refine fN hs ?_;rintro e a' w' ⟨X',fr',D,rfl,G,E⟩;cases e with
 | normal=>exact pD D X' a' G E
 | ret=>exact pD D X' a' G E
 | _=>exact E.elim
def ICallD.intro {c:Cf}{f:FuncId}{fn:Func}{A:Code}{args:List IV}{st:ISt}{K:IV->ISt->Prop}(hf:c.P.funcs[f]?=some fn)(hb:fn.body=some A)
  (hN:args.length<=fn.ntmps) (hd:codeOk c fn.ntmps A=true) (h:vcC c A (B5 c.P fn.results.toList K) (frOf args) st []):ICallD c.P c.gl f args st K:=by
 intro B X rs u hg hst hv;subst hst;refine (callsDIn_of_wp (R:=λe w'=>∃v,e=.returned v/\ends ⟨c.P,c.gl,B⟩ X K v w') hf hb trivial ?_);have hs:=tJ (N:=fn.ntmps) A c B X none 0 (λ_=>rfl) _ X (frOf args) [] _ hd (Inv.start hg hv hN) h;have E:∀(a':Act) (X':WS) (fr':Fr) (D:List Dfd),Inv (c.cx B) X fn.ntmps X' fr' D a'->chk (D=[]) (dp (resL c.P fr' X'.st fn.results.toList) λxs=>outK K (outI xs) X'.st) →
   a'.defers=[]/\∃v,(results fn a'.tmps).run c.P X'.w=.ok v X'.w/\∃v',Ending.returned v=.returned v'/\ends ⟨c.P,c.gl,B⟩ X K v' X'.w:=by
  rintro a' X' fr' D G ⟨rfl,h⟩;have ac:a'.defers=[]:=by
   have:=G.ds;generalize a'.defers=al at this;cases this;rfl
  obtain⟨xs,U,st',J,hK⟩:=yQ3.1 h;obtain⟨v,hr,hv⟩:=B7 (C:=c.cx B) G U;obtain⟨ab,O⟩:=G.good.sub J;exact⟨ac,v,hr,v,rfl,{ X' with st:=st' },_,rfl,ab,G.ext.trans O,O.v hv,hK⟩
 refine fN hs ?_;rintro e a' w' ⟨X',fr',D,rfl,G,hq⟩;cases e with
 | normal=>exact E a' X' fr' D G hq
 | ret=>exact E a' X' fr' D G hq
 | _=>exact hq.elim
def LoopC (c:Cf)(b:Code)(Q:Kc)(fr:Fr)(st:ISt)(ds:List Dfd):Prop:=LoopV (λfr st ds Q=>vcC c b Q fr st ds) Q fr st ds .mk .mk
def RangeC (c:Cf)(f:Fn)(first A:List IV)(ps:Array Tmp)(a b:Code)(Q:Kc)(fr:Fr)(st:ISt)(ds:List Dfd):Prop :=
 wO c.P c.gl f first A ps.size (λD st' R=>vcC { c with rd:=true } a (oy (vcC { c with rd:=true } b) R) (kF (nF fr) (ps.toList.zip D)) st' []) (λe st' r=>Q e fr st' (.coll r::ds)) st .mk .mk
section
variable (c:Cf)(Q:Kc)(k:Fr->ISt->List Dfd->Prop)(fr:Fr)(st:ISt)(ds:List Dfd)(a b:Code)(id id' l:Nat)(ops:Array Oper)(x:Operand)
@[go_sem ↓] def U3:vcC c .skip Q fr st ds=Q .normal fr st ds:=(rfl)
@[go_sem ↓] def U4:vcC c (.region id ops false) Q fr st ds=fU { c with dr:=false } ops.toList ops.toList (Q .normal) Ad.none_ fr st ds:=(rfl)
@[go_sem ↓] def U5:vcC c (.region id ops true) Q fr st ds=lE c ops (lD c.ord id) (Q .normal) fr st ds:=(rfl)
@[go_sem ↓] def U6 (g:Operand)(ps:Array Tmp):vcC c (.rangeFunc g ps a b) Q fr st ds=if c.rd=true then False else dp (evV c.gl fr g) λv=>fnV v λf first A =>
   RangeC c f first A ps a b Q fr st ds:=(rfl)
@[go_sem ↓] def J0:vcC c (.seq a b) Q fr st ds=vcC c a (seqK (vcC c b Q) Q) fr st ds:=(rfl)
@[go_sem ↓] def U7:vcC c (.cond x a b) Q fr st ds=dp (evV c.gl fr x) λv=>kR v λt=>jb t (vcC c a Q fr st ds) (vcC c b Q fr st ds) .mk .mk:=(rfl)
@[go_sem ↓] def U8:vcC c (.block id a) Q fr st ds=vcC c a (ow id Q) fr st ds:=(rfl)
@[go_sem ↓] def U9:vcC c (.loop a) Q fr st ds=LoopC c a Q fr st ds:=(rfl)
@[go_sem ↓] def U_:vcC c (.exit id) Q fr st ds=Q (.exit id) fr st ds:=(rfl)
@[go_sem ↓] def Va:vcC c .ret Q fr st ds=Q .ret fr st ds:=(rfl)
@[go_sem ↓] def Vb:seqK k Q .normal fr st ds=k fr st ds:=(rfl)
@[go_sem ↓] def Vc:seqK k Q .normal=k:=(rfl)
@[go_sem ↓] def Vd:seqK k Q (.exit id) fr st ds=Q (.exit id) fr st ds:=(rfl)
@[go_sem ↓] def Ve:seqK k Q .ret fr st ds=Q .ret fr st ds:=(rfl)
@[go_sem ↓] def Vf:ow id Q (.exit id') fr st ds=if id'=id then Q .normal fr st ds else Q (.exit id') fr st ds:=(rfl)
@[go_sem ↓] def Vg:ow id Q .normal fr st ds=Q .normal fr st ds:=(rfl)
@[go_sem ↓] def Vh:ow id Q .ret fr st ds=Q .ret fr st ds:=(rfl)
@[go_sem ↓] def Vi:vL Q .ret fr st ds=Q .ret fr st ds:=(rfl)
end
@[go_sem ↓] def Vj (J:Nat->Fr->ISt->List Dfd->Prop)(m:Nat)(Q:Kc)(fr:Fr)(st:ISt)(ds:List Dfd):pd J m Q .normal fr st ds=∃A,A<m/\J A fr st ds:=(rfl)
@[go_sem ↓] def Vk (J:Nat->Fr->ISt->List Dfd->Prop)(m id:Nat)(Q:Kc)(fr:Fr)(st:ISt)(ds:List Dfd):pd J m Q (.exit id) fr st ds=Q (.exit id) fr st ds:=(rfl)
@[go_sem ↓] def Vl (J:Nat->Fr->ISt->List Dfd->Prop)(m:Nat)(Q:Kc)(fr:Fr)(st:ISt)(ds:List Dfd):pd J m Q .ret fr st ds=Q .ret fr st ds:=(rfl)
def LoopV.intro {body:Fr->ISt->List Dfd->Kc->Prop}{Q:Kc}{fr:Fr}{st:ISt}{ds:List Dfd}(J:Nat->Fr->ISt->List Dfd->Prop)(m:Nat)(h0:J m fr st ds)
  (h:∀m fr' st' A,J m fr' st' A->body fr' st' A (pd J m Q)):LoopV body Q fr st ds .mk .mk:=⟨J,⟨m,h0⟩,h⟩
@[go_sem] def Vm (fr:Fr)(d:Nat)(A skip:Fr->Prop)(k:Lock A)(l:Lock skip):jI fr d false true A skip k l=Hold true (skip (fr.put d true)):=by
 unfold jI;simp[Hold]
@[go_sem] def Vn (fr:Fr)(d:Nat)(A skip:Fr->Prop)(k:Lock A)(l:Lock skip):jI fr d true false A skip k l=Hold true (skip (fr.put d false)):=by
 unfold jI;simp[Hold]
@[go_sem] def Vo (p:Prop):Hold true p=p:=(rfl)
attribute [go_sem ↓] Ie
def pE {fr:Fr}{d:Nat}{A b:Bool}{D skip:Fr->Prop}{k:Lock D}{l:Lock skip}(h1:b=A->D (fr.put d A))(h2:b=!A->skip (fr.put d (.iv (.raw (.bool !A))))) :
  jI fr d A b D skip k l:=⟨h1,h2⟩
def jZ {b:Bool}{p q:Prop}{k:Lock p}{l:Lock q}(h1:b=true->p)(h2:b=false->q):jb b p q k l:=⟨h1,h2⟩
def cf (P:Program)(gl:Nat->Option IV)(esc:List Nat)(ord:List (Nat×List Nat):=[])(frz:List Nat:=[]):Cf:={ P:=P,gl:=gl,esc:=esc,rd:=false,dr:=false,ord:=ord,frz:=frz }
def cfp (P:Program)(gl:Nat->Option IV)(esc:List Nat)(ord:List (Nat×List Nat))(pf:FuncId->List IV->Option IV)
  (pok:∀g A v,pf g A=some v->entI P g=true/\∀st,ICall P gl g A st (λr st'=>r=v/\st'=st)):Cf:={ P:=P,gl:=gl,esc:=esc,rd:=false,dr:=false,ord:=ord,pf:=pf,pok:=pok }
attribute [go_sem] cfp
def w64 {n:Int}(h0:-9223372036854775808<=n)(h1:n<=9223372036854775807):IntKind.i64.wrap n=n:=IntWalk.i64_in _ (by omega)
def ctrK (I:Fr->ISt->List Dfd->Prop)(Q:Kc):Kc
 | .normal,fr,st,ds=>I fr st ds
 | e,fr,st,ds=>Q e fr st ds
def wQ (Q:Kc):Kc
 | .normal,_,_,_=>False
 | e,fr,st,ds=>Q e fr st ds
section
variable (I:Fr->ISt->List Dfd->Prop)(Q:Kc)(fr:Fr)(st:ISt)(ds:List Dfd)(id:Nat)
@[go_sem ↓] def Vp:ctrK I Q .normal fr st ds=I fr st ds:=(rfl)
@[go_sem ↓] def Vq:ctrK I Q (.exit id) fr st ds=Q (.exit id) fr st ds:=(rfl)
@[go_sem ↓] def Vr:ctrK I Q .ret fr st ds=Q .ret fr st ds:=(rfl)
@[go_sem ↓] def Vs:wQ Q (.exit id) fr st ds=Q (.exit id) fr st ds:=(rfl)
@[go_sem ↓] def Vt:wQ Q .ret fr st ds=Q .ret fr st ds:=(rfl)
end
@[go_sem] def pF (l:List UInt8):ByteArray.size ⟨l.toArray⟩=l.length:=by simp[ByteArray.size]
def resD (i:Bool×Nat)(off:Nat):Option IObj->Option IV
 | some (.box cs)=>gr i.1 i.2 cs off
 | _=>none
@[go_sem] def Vu (i:Bool×Nat)(off:Nat)(cs:List IV):resD i off (some (.box cs))=gr i.1 i.2 cs off:=(rfl)
def resC (i:Option (Bool×Nat))(s:SV)(st:ISt):Option IV :=
 match i,s with
 | some i,.box cs=>gr i.1 i.2 cs 0
 | some i,.iv (.raw (.pointer (some ⟨b,off,none⟩)))=>resD i off (st b)
 | _,_=>none
@[go_sem] def Vv (i:Bool×Nat)(cs:List IV)(st:ISt):resC (some i) (.box cs) st=gr i.1 i.2 cs 0:=(rfl)
@[go_sem] def Vw (i:Bool×Nat)(b off:Nat)(st:ISt):resC (some i) (.iv (.raw (.pointer (some ⟨b,off,none⟩)))) st=resD i off (st b):=(rfl)
@[go_sem ↓] def Vx (P:Program)(fr:Fr)(st:ISt)(a:Nat)(T:TypeId):resI P fr st (.cell a T)=resC (tyI P T) (fr a) st:=by
 simp only[resI];cases tyI P T with
 | none=>rfl
 | some i =>
  cases D:fr a with
  | box cs=>simp only[plOf,D,resC]
  | iv x =>
   cases x with
   | raw v =>
    cases v with
    | pointer p =>
     cases p with
     | none=>rfl
     | some p =>
      obtain⟨b,off,sp⟩:=p;cases sp with
      | none =>
       rcases A:st b with _|o
       ·simp only[plOf,resC,resD,A]
       ·cases o<;>simp only[plOf,resC,resD,A]
      | some _=>rfl
    | _=>rfl
   | _=>rfl
def d_ {c q:Prop}(h:c->q):giv c q:=h
def fJ {c q:Prop}(h:c)(k:q):chk c q:=⟨h,k⟩
def ez {K:IV->ISt->Prop}{x:IV}{st st':ISt}(h:subSt st' st)(k:K x st'):outK K x st:=⟨st',h,k⟩
def ff {st:ISt}{b:Nat}{o:Option IObj}(h:st b=none):subSt st (st.put b o):=λc x hc=>by
 rw[ISt.put_apply];split
 ·rename_i A;rw[A,h] at hc;cases hc
 ·exact hc
def dw {st:ISt}{b c:Nat}{o:Option IObj}(h:c≠b):st.put b o c=st c:=by rw[ISt.put_apply,a_ h]
def mJ {st:ISt}{b c:Nat}{o:IObj}(h:st b=some o)(A:st c=none):b≠c:=by rintro rfl;rw[h] at A;cases A
def J1 {dst:Option Nat}{K K':Kt}(hK:∀ad fr st ds,K ad fr st ds->K' ad fr st ds){ad:Ad}{fr:Fr}{pr:PR}{st:ISt}{ds:List Dfd}:finK dst K ad fr pr st ds->finK dst K' ad fr pr st ds:=by
 cases pr<;>cases dst<;>simp only[finK]<;>first|exact hK _ _ _ _|exact id|(split<;>first|exact id|exact hK _ _ _ _)
def tK {c:Cf}{ops:List Oper}{Q Q':Fr->ISt->List Dfd->Prop}(hQ:∀fr st ds,Q fr st ds->Q' fr st ds):∀ {l:List Oper} {ad:Ad} {fr:Fr} {st:ISt} {ds:List Dfd},fU c ops l Q ad fr st ds->fU c ops l Q' ad fr st ds
 | [],_,_,_,_,h=>hQ _ _ _ h
 | o::l,ad,fr,st,ds,h=>by
  have U:∀ad fr st ds,fU c ops l Q ad fr st ds->fU c ops l Q' ad fr st ds:=λ_ _ _ _=>tK hQ;have A:∀ad fr pr st ds,finK o.dst (fU c ops l Q) ad fr pr st ds->finK o.dst (fU c ops l Q') ad fr pr st ds:=λ_ _ _ _ _=>J1 U;clear U;unfold fU at h ⊢;split
  ·rename_i G;rw[G] at h;exact pn (λ_ _ _=>A _ _ _ _ _) h
  ·rename_i j O G;rw[G] at h;simp only at h;split
   ·rename_i d hd;rw[hd] at h;simp only at h;unfold jI at h ⊢;split
    ·rename_i b hs;rw[hs] at h;exact⟨λJ=>pn (λ_ _ _=>A _ _ _ _ _) (h.1 J),λJ=>A ad _ (.val (.raw undef)) st ds (h.2 J)⟩
    ·rename_i b hs;rw[hs] at h;exact A ad _ (.val (.raw undef)) st ds h
    ·rename_i hs E;split at h
     ·rename_i b D;exact absurd D (hs b)
     ·rename_i b D;exact absurd D (E b)
     ·exact h
   ·rename_i hd;rw[hd] at h;exact h
def re:∀(A:Code){c:Cf}{Q Q':Kc},(∀e fr st ds,Q e fr st ds->Q' e fr st ds)->∀ {fr:Fr}{st:ISt}{ds:List Dfd},vcC c A Q fr st ds->vcC c A Q' fr st ds:=by
 intro A
 induction A with
 | skip=>intro c Q Q' h fr st ds;exact h _ _ _ _
 | region id ops dr =>
  intro c Q Q' h fr st ds;cases dr with
  | false=>exact tK (h .normal)
  | true =>
   intro D;change lE c ops (lD c.ord id) _ fr st ds at D;change lE c ops (lD c.ord id) _ fr st ds;generalize lD c.ord id=o at D ⊢
   match o,D with
   | none,D=>exact tK (h .normal) D
   | some [],D=>exact BX (h .normal) _ _ D
   | some (i::l),D=>exact tK (h .normal) D
 | seq a b G E =>
  intro c Q Q' h fr st ds;refine G (λe fr st ds=>?_);cases e<;>first|exact E h|exact h _ _ _ _
 | cond x a b G E =>
  intro c Q Q' h fr st ds;exact gX λ_=>wv λ_=>wq (G h) (E h)
 | block id a O =>
  intro c Q Q' h fr st ds;refine O (λe fr st ds=>?_);cases e<;>first|exact h _ _ _ _|(simp only[ow];split<;>exact h _ _ _ _)
 | loop a O =>
  intro c Q Q' h fr st ds D;obtain⟨J,h0,hs⟩:=D;refine⟨J,h0,λm fr' st' ab hj=>O (λe fr st ds=>?_) (hs m fr' st' ab hj)⟩;cases e<;>first|exact id|exact h _ _ _ _
 | rangeFunc g ps an b _ _ =>
  intro c Q Q' h fr st ds;refine jW id (gX λ_=>wz λ_ _ _=>?_);rintro⟨g,hf,he,σ,xs,k0,aa,I,S,up,hu,h1,h2,h3,h4,h5,h6⟩;exact⟨g,hf,he,σ,xs,k0,aa,I,S,up,hu,h1,h2,h3,h4,λk st r hk U=>h _ _ _ _ (h5 k st r hk U),λe st r U=>h _ _ _ _ (h6 e st r U)⟩
 | exit id=>intro c Q Q' h fr st ds;exact h _ _ _ _
 | scope a O =>
  intro c Q Q' h fr st ds;refine jW id (O (λe fr st ds=>?_));cases e<;>first|exact h _ _ _ _|exact id
 | label l=>intro c Q Q' h fr st ds;exact h _ _ _ _
 | goto l=>intro c Q Q' h fr st ds;exact h _ _ _ _
 | ret=>intro c Q Q' h fr st ds;exact h _ _ _ _
 | refuse w=>intro c Q Q' h fr st ds D;exact D.elim
def dj {c:Cf}{b:Code}{Q:Kc}{fr:Fr}{st:ISt}{ds:List Dfd}(n:Nat)(I:Nat->Fr->ISt->List Dfd->Prop)(h0:I 0 fr st ds)
  (step:∀k fr' st' A,k<n->I k fr' st' A->vcC c b (ctrK (I (k+1)) Q) fr' st' A) (D:∀fr' st' A,I n fr' st' A->vcC c b (wQ Q) fr' st' A) :
  LoopC c b Q fr st ds:=by
 refine LoopV.intro (λm fr st ds=>∃k,m=n-k/\k<=n/\I k fr st ds) n ⟨0,rfl,fq _,h0⟩ ?_;rintro m fr' st' A ⟨k,rfl,O,G⟩;rcases fQ k n with E|J
 ·refine re b (λe fr st ds=>?_) (step k fr' st' A E G);cases e with
  | normal=>exact λh=>⟨n-(k+1),by omega,k+1,rfl,E,h⟩
  | _=>exact id
 ·have:k=n:=by omega
  subst this;refine re b (λe fr st ds=>?_) (D fr' st' A G);cases e with
  | normal=>exact False.elim
  | _=>exact id
def LoopC.dec {c:Cf}{b:Code}{Q:Kc}{fr:Fr}{st:ISt}{ds:List Dfd}(n:Nat)(I:Nat->Fr->ISt->List Dfd->Prop)(h0:I n fr st ds)
  (step:∀k fr' st' A,I k fr' st' A->vcC c b (pd I k Q) fr' st' A):LoopC c b Q fr st ds:=⟨I,⟨n,h0⟩,step⟩
def seqX (l:List (List IV)):Nat->List IV->Prop:=λk a=>l[k]?=some a
def RangeC.intro {c:Cf}{g:FuncId}{first A:List IV}{ps:Array Tmp}{a b:Code}{Q:Kc}{fr:Fr}{st:ISt}{ds:List Dfd}(E:Nat->List IV->Prop)(len:Nat)(I:Nat->ISt->Prop)(S:Exit->ISt->Prop)
  (he:entI c.P g=true) (hl:∀k a,E k a->a.length=ps.size) (h0:I 0 st)
  (D:∀k O st',E k O->I k st'->vcC { c with rd:=true } a (oy (vcC { c with rd:=true } b) (pC (I (k+1)) S)) (kF (nF fr) (ps.toList.zip O)) st' [])
  (iter:IterC c.P c.gl g first A E len I) (done:∀st' r,I len st'->Q .normal fr st' (.coll r::ds)) (stop:∀e st' r,S e st'->Q e fr st' (.coll r::ds)) :
  RangeC c (.func g) first A ps a b Q fr st ds:=⟨g,rfl,he,Nat,tG (pA E),0,(·=len),I,S,noUp,λ_ _ _ _ _ _ _ _ h=>h.elim,λk a _ _ h=>hl k a h.1.1,h0,λk a e k' s G hd J=>by
   obtain⟨⟨U,rfl⟩,rfl⟩:=G;have hn:(λs'=>∃s1,I (k+1) s1/\ISt.disj (λ_=>none) s1/\s'=s1.add (λ_=>none))=I (k+1):=by
    funext s';exact propext ⟨λ⟨s1,h1,_,h2⟩=>h2▸h1,λh=>⟨s',h,λ_ hb=>absurd rfl hb,rfl⟩⟩
   rw[hn];exact D k a s U J,iter.lent.up.toH,λk st' r G J=>done st' r (G▸J),stop⟩
def RangeL.intro {c:Cf}{g:FuncId}{first A:List IV}{ps:Array Tmp}{a b:Code}{Q:Kc}{fr:Fr}{st:ISt}{ds:List Dfd}(lk:Nat->List IV->ISt->Prop)(len:Nat)(I:Nat->ISt->Prop)(S:Exit->ISt->Prop)
  (O:entI c.P g=true) (hl:∀k a e,lk k a e->a.length=ps.size) (h0:I 0 st)
  (D:∀k J e s,lk k J e->e.disj s->I k s->vcC { c with rd:=true } a (oy (vcC { c with rd:=true } b) (pC (λs'=>∃s1,I (k+1) s1/\e.disj s1/\s'=s1.add e) S)) (kF (nF fr) (ps.toList.zip J)) (s.add e) [])
  (iter:IterL c.P c.gl g first A lk len I) (done:∀st' r,I len st'->Q .normal fr st' (.coll r::ds)) (stop:∀e st' r,S e st'->Q e fr st' (.coll r::ds)) :
  RangeC c (.func g) first A ps a b Q fr st ds:=⟨g,rfl,O,Nat,tG lk,0,(·=len),I,S,noUp,λ_ _ _ _ _ _ _ _ h=>h.elim,λk a e _ h=>hl k a e h.1,h0,λk a e U s E hd G=>by
   obtain⟨E,rfl⟩:=E;exact D k a e s E hd G,iter.up.toH,λk st' r E G=>done st' r (E▸G),stop⟩
def RangeU.intro {c:Cf}{g:FuncId}{first A:List IV}{ps:Array Tmp}{a b:Code}{Q:Kc}{fr:Fr}{st:ISt}{ds:List Dfd}(G:Nat->List IV->Prop)(len:Nat)(I:Nat->ISt->Prop)(S:Exit->ISt->Prop)(up:Nat->List (Value×IV)->List (Value×IV)->Prop)
  (J:∀k s m kk es E,I k s->s m=some (.map kk es)->up m es E->I k (s.put m (some (.map kk E)))) (he:entI c.P g=true) (hl:∀k a,G k a->a.length=ps.size) (h0:I 0 st)
  (D:∀k aL st',G k aL->I k st'->vcC { c with rd:=true } a (oy (vcC { c with rd:=true } b) (pC (I (k+1)) S)) (kF (nF fr) (ps.toList.zip aL)) st' [])
  (iter:IterU c.P c.gl g first A (pA G) len I up) (done:∀st' r,I len st'->Q .normal fr st' (.coll r::ds)) (stop:∀e st' r,S e st'->Q e fr st' (.coll r::ds)) :
  RangeC c (.func g) first A ps a b Q fr st ds:=⟨g,rfl,he,Nat,tG (pA G),0,(·=len),I,S,up,J,λk a _ _ h=>hl k a h.1.1,h0,λk a e k' s O hd U=>by
   obtain⟨⟨hx,rfl⟩,rfl⟩:=O;have hn:(λs'=>∃s1,I (k+1) s1/\ISt.disj (λ_=>none) s1/\s'=s1.add (λ_=>none))=I (k+1):=by
    funext s';exact propext ⟨λ⟨s1,h1,_,h2⟩=>h2▸h1,λh=>⟨s',h,λ_ hb=>absurd rfl hb,rfl⟩⟩
   rw[hn];exact D k a s hx U,iter.toH,λk st' r O U=>done st' r (O▸U),stop⟩
mutual
def age:IV->IV
 | .raw v=>.raw v
 | .agg cs=>.agg (ages cs)
 | .tup vs=>.tup (ages vs)
 | .fn f a b=>.fn f (ages a) (ages b)
 | .sl t A=>.sl ⟨false,t.cap,t.es⟩ (ages A)
 | .cptr x=>.cptr (age x)
 | .junk=>.junk
def ages:List IV->List IV
 | []=>[]
 | x::l=>age x::ages l
end
def nH:∀l:List IV,ages l=l.map age
 | []=>rfl
 | x::l=>by simp only[ages,ec,nH l]
def kH (l:List IV):(ages l).length=l.length:=by rw[nH,dY]
def lI {l:List IV}{i:Nat}{y:IV}(h:(ages l)[i]?=some y):∃x,l[i]?=some x/\y=age x:=by
 rw[nH,eI,fb] at h;grind
def oz (x:IV):(age x).cells=ages x.cells:=by
 cases x<;>simp only[age,IV.cells,ages]
def wR:∀l:List IV,(ages l).flatMap IV.cells=ages (l.flatMap IV.cells)
 | []=>rfl
 | x::l=>by
  simp only[ages,eC,wR l,oz];rw[nH,nH,nH,eJ]
def V.aged {B B':Nat}{L:Nat->Nat}{w:World}{r:Value}{x:IV}(h:V B L w r x):V B' L w r (age x):=by
 induction h with
 | raw v h=>exact .raw v h
 | junk v=>exact .junk v
 | agg rs cs hl _ O =>
  exact .agg rs (ages cs) (by rw[kH];exact hl) λi r c J hc=>by
   obtain⟨x,D,rfl⟩:=lI hc;grind
 | tup rs cs hl _ O =>
  exact .tup rs (ages cs) (by rw[kH];exact hl) λi r c J hc=>by
   obtain⟨x,D,rfl⟩:=lI hc;grind
 | fn f rs cs hl _ ac cs' ai _ O ae =>
  exact .fn f rs (ages cs) (by rw[kH];exact hl) (λi r c J hc=>by
   obtain⟨x,D,rfl⟩:=lI hc;exact O i r x J D) ac (ages cs') (by rw[kH];exact ai) λi r c J hc=>by
   obtain⟨x,D,rfl⟩:=lI hc;exact ae i r x J D
 | sl a cap t xs T vs aa U aj hs E G ab A _ O =>
  have key:=V.sl (B:=B') (L:=L) (w:=w) a cap ⟨false,t.cap,t.es⟩ (ages xs) T vs;rw[kH] at key;refine key aa U aj (λy hy=>?_) E G (λh=>by cases h) (λah=>A λh=>ah (by rw[h];rfl)) λi r c J hc=>?_
  ·rw[nH] at hy;obtain⟨x,D,rfl⟩:=dH.1 hy;rw[oz,kH];exact hs x D
  ·rw[wR] at hc;obtain⟨x,D,rfl⟩:=lI hc;grind
 | cptr ad x vs ag E hL hc _ O =>
  refine .cptr ad (age x) vs ag (by rw[oz,kH];exact E) hL hc λi r c J hc=>?_;rw[oz] at hc;obtain⟨y,hy,rfl⟩:=lI hc;grind
def VL.aged {B B':Nat}{L:Nat->Nat}{w:World}{rs:List Value}{A:List IV}(h:VL B L w rs A):VL B' L w rs (ages A) :=
 ⟨by rw[kH];exact h.1,λi r c E hc=>by
  obtain⟨x,D,rfl⟩:=lI hc;exact (h.2 i r x E D).aged⟩
def tM:IV->Prop
 | .raw _=>True
 | .junk=>True
 | .sl t _=>t.cap=.nil
 | _=>False
def V.flat' {B B':Nat}{L L':Nat->Nat}{w w':World}{r:Value}{x:IV}(h:V B L w r x)(hf:tM x):V B' L' w' r x:=by
 cases h with
 | raw _ h=>exact .raw _ h
 | junk _=>exact .junk _
 | sl a cap t xs T vs A E ab hs D O J G h =>
  have hn:t.cap=.nil:=hf;rw[hn] at A;obtain⟨rfl,hl,rfl⟩:=A;obtain rfl:xs=[]:=eG hl;obtain rfl:vs=[]:=eG (by rw[D];simp);exact .sl none 0 t [] T [] (by rw[hn];exact⟨rfl,rfl,rfl⟩) E ab hs D (λg hg=>by rw[hn] at hg;cases hg) (λ_ ad ac=>by cases ac) (λU=>absurd rfl U) (λi r c hr=>by simp at hr)
 | _=>exact hf.elim
def VL.flat' {B B':Nat}{L L':Nat->Nat}{w w':World}{rs:List Value}{A:List IV}(h:VL B L w rs A)(E:∀x∈A,tM x):VL B' L' w' rs A :=
 ⟨h.1,λi r c D hc=>(h.2 i r c D hc).flat' (E c (lMg hc))⟩
def B8:IObj->Prop
 | .box cs=>∀c∈cs,tM c
 | .front _ _=>True
 | .map _ es=>∀e∈es,tM e.2
 | .loop _ _=>False
 | .mapx _ _=>True
 | .iter _ _ _ _=>True
def ObjOk.flat {C C':Cx}{X Y:WS}{b:Nat}{o:IObj}(h:ObjOk C X b o)(G:B8 o)(E:Y.w.heap[b]?=X.w.heap[b]?)(A:Y.L b=X.L b):ObjOk C' Y b o:=by
 cases o with
 | box cs =>
  obtain⟨h0,c,T,D,hv⟩:=h;exact⟨A.trans h0,c,T,E.trans D,hv.flat' G⟩
 | front n s =>
  obtain⟨c,T,D,h2,J⟩:=h;exact⟨c,T,E.trans D,A.trans h2,by rw[A];exact J⟩
 | map k es =>
  obtain⟨h0,U,hnd,e,cl,D,h1,h2,J,h4⟩:=h;exact⟨A.trans h0,U,hnd,e,cl,E.trans D,h1,h2.flat' (λx O=>by
   obtain⟨p,hp,rfl⟩:=dH.1 O;exact G p hp),J,h4⟩
 | loop r xs=>exact G.elim
 | mapx e c=>exact⟨A.trans h.1,E.trans h.2⟩
 | iter m s e c=>exact⟨A.trans h.1,E.trans h.2⟩
def appT (n:Nat)(t:Tag):Prop:=t.cap=.nil\/(0<n/\t.fresh=true/\∃g,t.cap=.app g)
def appT.pos {n m:Nat}{t:Tag}(h:appT n t)(A:0<m):appT m t:=h.imp id λh=>⟨A,h.2⟩
def appT.up {n k:Nat}{t:Tag}(h:appT n t):appT (n+k) t:=h.imp id λh=>⟨by omega,h.2⟩
def wkE (t:Tag):Nat:=if t.es<=4 then 0 else 1
def appT.to {n m:Nat}{t:Tag}(h:appT n t)(A:m=n):appT m t:=A▸h
mutual
def dfr:IV->Prop
 | .raw (.agg _)=>False
 | .raw (.tuple _)=>False
 | .raw _=>True
 | .agg cs=>dfrs cs/\∀c∈cs,c.one=true
 | .tup vs=>dfrs vs
 | .sl t A=>appT (A.length+wkE t) t/\dfrs A/\∀c∈A.flatMap IV.cells,c.one=true
 | _=>False
def dfrs:List IV->Prop
 | []=>True
 | x::l=>dfr x/\dfrs l
end
def B9:∀ {l:List IV}{x:IV},dfrs l->x∈l->dfr x
 | y::l,x,h,A=>by
  simp only[dfrs] at h;rcases dN.1 A with rfl|A
  ·exact h.1
  ·exact B9 h.2 A
def wT:∀ {l m:List IV},dfrs l->dfrs m->dfrs (l++m)
 | [],m,_,h=>h
 | x::l,m,h,k=>by
  simp only[ed,dfrs] at h ⊢;exact⟨h.1,wT h.2 k⟩
inductive OI (st:ISt):IV->IV->Prop
 | refl (x:IV):OI st x x
 | agg (rs cs:List IV) (hl:rs.length=cs.length) (h:∀(i:Nat) (r c:IV),rs[i]?=some r->cs[i]?=some c->OI st r c):OI st (.agg rs) (.agg cs)
 | tup (rs cs:List IV) (hl:rs.length=cs.length) (h:∀(i:Nat) (r c:IV),rs[i]?=some r->cs[i]?=some c->OI st r c):OI st (.tup rs) (.tup cs)
 | nil (t:Tag) (h:t.cap=.nil):OI st (.raw (.slice none 0 0)) (.sl t [])
 | sl (g cap:Nat) (t:Tag) (xs:List IV) (cs:List IV) (hcap:t.cap=.app g) (hlen:xs.length<=140737488355328) (hcl:xs.length<=cap) (hs:∀x∈xs,x.cells.length=t.es)
   (hst:st g=some (.box cs)) (hroom:cap*t.es<=cs.length) (h:∀(i:Nat) (r c:IV),cs[i]?=some r->(xs.flatMap IV.cells)[i]?=some c->OI st r c) :
   OI st (.raw (.slice (some ⟨g,0,none⟩) xs.length cap)) (.sl t xs)
 | ptr (b:Nat) (x:IV) (cs:List IV) (hst:st b=some (.box cs)) (hl:cs.length=x.cells.length) (h:∀(i:Nat) (r c:IV),cs[i]?=some r->x.cells[i]?=some c->OI st r c) :
   OI st (.raw (.pointer (some ⟨b,0,none⟩))) (.cptr x)
def j0 (st:ISt):ISt:=λb=>match st b with|some (.box _)=>none|o=>o
def wU (st:ISt):subSt (j0 st) st:=λb o h=>by
 unfold j0 at h;grind
def rf {st:ISt}{b:Nat}{cs:List IV}(h:st b=some (.box cs)):j0 st b=none:=by
 unfold j0;rw[h]
def tN {st:ISt}{b:Nat}(h:∀cs,st b≠some (.box cs)):j0 st b=st b:=by
 unfold j0;grind
def WS.lendS (X:WS)(s1 s0:ISt):WS :=
 { w:=X.w,L:=λb=>match s1 b with|some (.box cs)=>cs.length|_=>X.L b,st:=s0,d:=X.d }
structure LendOk (st s1 s0:ISt):Prop where
 sub1:subSt s1 st
 sub0:subSt s0 st
 off:∀b cs,s1 b=some (.box cs)->s0 b=none
def wV (st:ISt):LendOk st st (j0 st):=⟨subSt.refl st,wU st,λ_ _ h=>rf h⟩
abbrev WS.lend (X:WS):WS:=X.lendS X.st (j0 X.st)
section
variable {C:Cx}{X:WS}{s1 s0:ISt}
def wW {b:Nat}{cs:List IV}(h:s1 b=some (.box cs)):(X.lendS s1 s0).L b=cs.length:=by simp only[WS.lendS,h]
def rh {b:Nat}(h:∀cs,s1 b≠some (.box cs)):(X.lendS s1 s0).L b=X.L b:=by
 simp only[WS.lendS]
 try split
 all_goals first|rfl|(rename_i cs hc;exact absurd hc (h cs))
def Good.lendS_ext (h:Good C X)(k:LendOk X.st s1 s0):Ext X (X.lendS s1 s0) where
 os:=rfl
 tape:=rfl
 output:=rfl
 size:=dJ _
 lmono b:=by
  by_cases A:∃cs,s1 b=some (.box cs)
  ·obtain⟨cs,A⟩:=A;obtain⟨h0,_⟩:=h.ok b _ (k.sub1 _ _ A);grind
  ·rw[rh λcs hc=>A ⟨cs,hc⟩];exact dJ _
 cells _ _ _:=rfl
 keep b _ hs:=⟨rfl,rh λcs hc=>by rw[k.sub1 _ _ hc] at hs;cases hs⟩
 dom b _ hs:=by
  show s0 b=none;cases D:s0 b with
  | none=>rfl
  | some o=>rw[k.sub0 _ _ D] at hs;cases hs
 shape _ _ hp:=hp
 d:=rfl
def Good.lendS (h:Good C X)(k:LendOk X.st s1 s0):Good C (X.lendS s1 s0) where
 ok b o A:=by
  have A:s0 b=some o:=A;have D:∀cs,s1 b≠some (.box cs):=λcs hc=>by rw[k.off b cs hc] at A;cases A
  exact (h.ok b o (k.sub0 b o A)).mono rfl (rh D) (λ_ _ hv=>(h.lendS_ext k).vl hv)
 gl g x E:=(h.lendS_ext k).v (h.gl g x E)
 B:=h.B
 Lnew b A:=by
  rw[rh λcs hc=>?_]
  ·exact h.Lnew b A
  ·have h1:=h.lt (k.sub1 _ _ hc);have h2:X.w.heap.size<=b:=A;omega
 gsh:=h.gsh
 dr:=h.dr
def Good.lend_ext (h:Good C X):Ext X X.lend:=h.lendS_ext (wV _)
def Good.lend (h:Good C X):Good C X.lend:=h.lendS (wV _)
def OI.v (h:Good C X)(k:LendOk X.st s1 s0){y x:IV}(ho:OI s1 y x):∀ {r:Value},C.v X r y->C.v (X.lendS s1 s0) r (age x):=by
 induction ho with
 | refl x=>exact λhv=>((h.lendS_ext k).v hv).aged
 | agg rs cs hl _ ih =>
  intro r hv;obtain⟨rr,rfl,A⟩:=oh hv;refine .agg rr (ages cs) (by rw[kH,A.1,hl]) λi r c h1 h2=>?_;obtain⟨x,G,rfl⟩:=lI h2;have hi:=(lGs G).1;have E:rs[i]?=some (rs[i]'(by omega)):=dO _;exact ih i _ x E G (A.2 i r _ h1 E)
 | tup rs cs hl _ ih =>
  intro r hv;obtain⟨rr,rfl,A⟩:=oi hv;refine .tup rr (ages cs) (by rw[kH,A.1,hl]) λi r c h1 h2=>?_;obtain⟨x,G,rfl⟩:=lI h2;have hi:=(lGs G).1;have E:rs[i]?=some (rs[i]'(by omega)):=dO _;exact ih i _ x E G (A.2 i r _ h1 E)
 | nil t hn =>
  intro r hv;obtain rfl:=dK hv;refine .sl none 0 _ [] 0 [] ?_ (by simp) (by simp) (by simp) (by simp) (λg hg=>?_) (λ_ ad an=>by cases an) (λak=>absurd rfl ak) (λi r c A=>by simp at A)
  ·simp only[hn];exact⟨rfl,rfl,rfl⟩
  ·grind
 | sl g cap t U cs O ae ag hs hst ab _ ih =>
  intro r hv;obtain rfl:=dK hv;obtain⟨h0,c,T,hh,D⟩:=h.ok g _ (k.sub1 _ _ hst);have am:(U.flatMap IV.cells).length=U.length*t.es:=gD U hs;have au:U.length*t.es<=cs.length:=dT (fz _ ag) ab;have J:c.toList.length=cs.length:=D.1;have key:=V.sl (B:=C.B) (L:=(X.lendS s1 s0).L) (w:=X.w) (some ⟨g,0,none⟩) cap ⟨false,t.cap,t.es⟩ (ages U) T (c.toList.take (U.length*t.es));rw[kH] at key;refine key ?_ ae ag (λy hy=>?_) ?_ (λg' af=>?_) (λhf=>by cases hf) (λ_=>⟨_,rfl,rfl,?_,λi r A=>?_⟩) λi r z A hz=>?_
  ·simp only[O,kO]
  ·rw[nH] at hy;obtain⟨x,G,rfl⟩:=dH.1 hy;rw[oz,kH];exact hs x G
  ·grind
  ·simp only[O,Cap.app.injEq] at af;subst af;refine⟨T,c.size,?_,?_⟩
   ·simp[shq,hh]
   ·grind
  ·show 0+(c.toList.take (U.length*t.es)).length<=(X.lendS s1 s0).L g;rw[wW hst,dQ];omega
  ·rw[ee,jn hh];grind
  ·rw[wR] at hz;obtain⟨x,G,rfl⟩:=lI hz;rw[gg] at A;split at A
   ·rename_i hi;have E:cs[i]?=some (cs[i]'(by omega)):=dO _;exact ih i _ x E G (D.2 i r _ A E)
   ·cases A
 | ptr b x cs hst hl _ ih =>
  intro r hv;obtain rfl:=dK hv;obtain⟨h0,c,T,hh,D⟩:=h.ok b _ (k.sub1 _ _ hst);have J:c.toList.length=cs.length:=D.1;refine .cptr ⟨b,0,none⟩ (age x) c.toList rfl ?_ ?_ (λi r A=>?_) λi r z A hz=>?_
  ·rw[oz,kH,J,hl]
  ·show 0+c.toList.length<=(X.lendS s1 s0).L b;rw[wW hst];omega
  ·show X.w.cell? ⟨b,0+i,none⟩=some r;rw[ee,jn hh];simpa using A
  ·rw[oz] at hz;obtain⟨y,hy,rfl⟩:=lI hz;have hi:=(lGs A).1;have E:cs[i]?=some (cs[i]'(by omega)):=dO _;exact ih i _ y E hy (D.2 i r _ A E)
end
def Lent (st:ISt)(y x:IV):Prop:=y=x\/∃A,OI st y A/\x=age A
def Lents (st:ISt):List IV->List IV->Prop
 | [],D=>D=[]
 | y::ys,D=>∃x A,D=x::A/\Lent st y x/\Lents st ys A
def Lents.v {C:Cx}{X:WS}(h:Good C X):∀ {ys A:List IV} {rs:List Value},Lents X.st ys A->C.vl X rs ys->C.vl X.lend rs A
 | [],A,rs,hl,hv=>by
  simp only[Lents] at hl;subst hl;obtain rfl:rs=[]:=eG hv.1;exact VL.nil
 | y::ys,A,rs,hl,hv=>by
  simp only[Lents] at hl;obtain⟨x,D,rfl,E,hl⟩:=hl;cases rs with
  | nil=>have:=hv.1;simp at this
  | cons r rs =>
   have h1:=hv.2 0 r y rfl rfl;have h2:C.vl X rs ys:=⟨by have:=hv.1;simpa using this,λi a b O J=>hv.2 (i+1) a b (by simpa using O) (by simpa using J)⟩
   refine VL.cons ?_ (Lents.v h hl h2);rcases E with rfl|⟨U,G,rfl⟩
   ·exact h.lend_ext.v h1
   ·exact G.v h (wV _) h1
section
variable {P:Program}{gl:Nat->Option IV}{f:FuncId}{args args':List IV}{st:ISt}{K:IV->ISt->Prop}
def ri (hl:Lents st args args')(h:ICall P gl f args' (j0 st) K):ICall P gl f args st K:=by
 intro B X rs A hst hv;subst hst;refine (h B X.lend rs A.lend rfl (hl.v A hv)).mono ?_;rintro e w' ⟨v,rfl,X',x,h1,h2,G,E,D⟩;exact⟨v,rfl,X',x,h1,h2,A.lend_ext.trans G,E,D⟩
def nI (h:ICall P gl f args st (λy st'=>∃x s1 s0,LendOk st' s1 s0/\OI s1 y x/\K (age x) s0)):ICall P gl f args st K:=by
 intro B X rs E hst hv;refine (h B X rs E hst hv).mono ?_;rintro e w' ⟨v,rfl,X',y,rfl,h2,J,G,x,s1,s0,A,D,hK⟩;exact⟨v,rfl,X'.lendS s1 s0,age x,rfl,h2.lendS A,J.trans (h2.lendS_ext A),D.v h2 A G,hK⟩
end
def iteT {α:Sort _}{c:Prop} [Decidable c]{a b:α}(h:c=True):ite c a b=a:=cV (of_eq_true h)
def iteF {α:Sort _}{c:Prop} [Decidable c]{a b:α}(h:c=False):ite c a b=b:=a_ (of_eq_false h)
def laC {α:Type _}{a:α}{l:List α}{f:α->Bool}:(a::l).all f=(f a&&l.all f):=(rfl)
def laN {α:Type _}{f:α->Bool}:[].all f=true:=(rfl)
def naZ (n:Nat):n+0=n:=(rfl)
def lgZ {α:Type _}{a:α}{l:List α}:(a::l)[0]?=some a:=(rfl)
def lgS {α:Type _}{a:α}{i:Nat}{l:List α}:(a::l)[i+1]?=l[i]?:=(rfl)
def omS {α:Type _}{β:Type _}(a:α)(f:α->β):Option.map f (some a)=some (f a):=(rfl)
def nsZ (n:Nat):n-0=n:=(rfl)
def itN (n:Nat):((n:Int)).toNat=n:=(rfl)
def llC {α:Type _}{a:α}{l:List α}:(a::l).length=l.length+1:=(rfl)
def llN {α:Type _}:([]:List α).length=0:=(rfl)
def ltS {α:Type _}{a:α}{l:List α}{i:Nat}:List.take (i+1) (a::l)=a::List.take i l:=(rfl)
def ltZ {α:Type _}{l:List α}:List.take 0 l=[]:=List.take_zero
def lcA {α:Type _}{a:α}{l m:List α}:a::l++m=a::(l++m):=(rfl)
def lnA {α:Type _}(l:List α):[]++l=l:=(rfl)
def lzC {α:Type _}{a:α}{l:List α}{β:Type _}{b:β}{m:List β}:(a::l).zip (b::m)=(a,b)::l.zip m:=(rfl)
def lzN {α:Type _}{β:Type _}{l:List β}:([]:List α).zip l=[]:=(rfl)
attribute [go_sem ↓] iteT iteF
attribute [go_sem] cf fB laC laN Bool.and_self Bool.true_and Bool.and_true Bool.false_and Bool.and_false Bool.not_true Bool.not_false List.mem_nil_iff if_false if_true beq_self_eq_true Nat.zero_add naZ lgZ lgS omS List.mem_cons or_false false_or or_true true_or nsZ forall_const itN llC llN List.map_cons List.map_nil ltS ltZ List.drop_zero List.drop_succ_cons lcA lnA List.append_nil and_true true_and and_self true_implies lzC lzN
end Go.Iv
def Go.Iv.iI {P:Go.Program}{gl:Nat->Option Go.Iv.IV}{f:Go.FuncId}{fn:Go.Func}{code:Go.Code}{args:List Go.Iv.IV}{st:Go.Iv.ISt}{K:Go.Iv.IV->Go.Iv.ISt->Prop}(hf:P.funcs[f]?=some fn)(h:Go.Iv.vcC (Go.Iv.cf P gl [] []) code (Go.Iv.bodyK P gl fn.results.toList K) (Go.Iv.frOf args) st [])(hb:fn.body=some code:=by rfl)(hN:Nat.ble args.length fn.ntmps=true:=by rfl)(hd:Go.Iv.codeOk (Go.Iv.cf P gl [] []) fn.ntmps code=true:=by kernel_rfl):Go.Iv.ICall P gl f args st K:=Go.Iv.ICall.intro (c:=Go.Iv.cf P gl [] []) hf hb (Nat.le_of_ble_eq_true hN) hd h