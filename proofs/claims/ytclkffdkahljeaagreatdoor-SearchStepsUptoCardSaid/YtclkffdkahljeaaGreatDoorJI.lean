/- The layer of ideal values, part Q: from -/
import Derived.Test.YtclkffdkahljeaaGreatDoorJH
import Derived.IntWalk
set_option linter.all false
namespace Go.Iv
open Go
def frOf (args:List IV):Fr:=λt=>match args[t]? with|some x=>.iv x|none=>.iv .junk
@[go_sem] theorem vVb (x:IV)(l:List IV):frOf (x::l) 0=.iv x:=(rfl)
@[go_sem] theorem vVc (x:IV)(l:List IV)(t:Nat):frOf (x::l) (t+1)=frOf l t:=by simp[frOf]
theorem Inv.start {C:Cx}{X:WS}{rs:List Value}{args:List IV}{N:Nat}(D:Good C X)(hv:C.vl X rs args)(O:args.length<=N) :
  Inv C X N X (frOf args) [] { tmps:=(⟨rs⟩:Array Value)++Array.replicate (N-(⟨rs⟩:Array Value).size) undef,defers:=[] }:=by
 refine⟨D,Ext.refl X,⟨λt=>?_,λt J cs cs' h=>?_⟩,?_,.nil⟩
 ·unfold frOf;cases E:args[t]? with
  | none=>exact .junk _
  | some x =>
   obtain⟨r,A,hx⟩:=hv.get E;have:tm ((⟨rs⟩:Array Value)++Array.replicate (N-(⟨rs⟩:Array Value).size) undef) t=r:=by
    have hl:=(lGs A).1;unfold tm;rw[Array.getD_eq_getD_getElem?,Array.getElem?_append_left (by simpa using hl)];grind
   simp only;rw[this];exact hx
 ·unfold frOf at h;grind
 ·have:=hv.1;simp;omega
def resI (P:Program)(fr:Fr)(st:ISt):ResultVar->Option IV
 | .tmp t=>ivOf (fr t)
 | .cell a T=>match tyI P T,plOf a (fr a) with
  | some i,some (.box t _)=>match fr t with
   | .box cs=>yK4 i.1 i.2 cs 0
   | _=>none
  | some i,some (.ptr b off)=>match st b with
   | some (.box cs)=>yK4 i.1 i.2 cs off
   | _=>none
  | _,_=>none
def resL (P:Program)(fr:Fr)(st:ISt)(rs:List ResultVar):Option (List IV):=allI (resI P fr st) rs
@[go_sem ↓] theorem wVa (P:Program)(fr:Fr)(st:ISt):resL P fr st []=some []:=(rfl)
@[go_sem ↓] theorem wQq (P:Program)(fr:Fr)(st:ISt)(x:ResultVar)(l:List ResultVar):resL P fr st (x::l)=vZ7 (resI P fr st x) (resL P fr st l):=by
 unfold resL;rw[allI];cases resI P fr st x<;>cases allI (resI P fr st) l<;>rfl
@[go_sem ↓] theorem vGr (P:Program)(fr:Fr)(st:ISt)(t:Nat):resI P fr st (.tmp t)=ivOf (fr t):=(rfl)
def outI:List IV->IV
 | [x]=>x
 | l=>.tup l
@[go_sem] theorem vGy (x:IV):outI [x]=x:=(rfl)
@[go_sem] theorem vGx (x y:IV)(l:List IV):outI (x::y::l)=.tup (x::y::l):=(rfl)
@[go_sem] theorem vGz:outI []=.tup []:=(rfl)
def outK (K:IV->ISt->Prop)(x:IV)(st:ISt):Prop:=∃st',subSt st' st/\K x st'
theorem yQ0 {K:IV->ISt->Prop}{x:IV}{st:ISt}(h:K x st):outK K x st:=⟨st,subSt.refl st,h⟩
def yW6 (P:Program)(gl:Nat->Option IV)(rs:List ResultVar)(K:IV->ISt->Prop):List Dfd->Fr->ISt->Prop
 | [],fr,st=>yQ6 (resL P fr st rs) λD=>outK K (outI D) st
 | .coll _::ds,fr,st=>yW6 P gl rs K ds fr st
 | .call f A args::ds,fr,st=>match f with
  | .func g=>if entI P g=true then ICallD P gl g (args++A) st λ_ st'=>yW6 P gl rs K ds fr st' else False
  | _=>False
def bodyK (P:Program)(gl:Nat->Option IV)(rs:List ResultVar)(K:IV->ISt->Prop):Kc
 | .normal,fr,st,ds=>yW6 P gl rs K ds fr st
 | .ret,fr,st,ds=>yW6 P gl rs K ds fr st
 | _,_,_,_=>False
def wGr (P:Program)(rs:List ResultVar)(K:IV->ISt->Prop):Kc
 | .normal,fr,st,ds=>chk (ds=[]) (yQ6 (resL P fr st rs) λA=>outK K (outI A) st)
 | .ret,fr,st,ds=>chk (ds=[]) (yQ6 (resL P fr st rs) λA=>outK K (outI A) st)
 | _,_,_,_=>False
section
variable (P:Program)(gl:Nat->Option IV)(rs:List ResultVar)(K:IV->ISt->Prop)(fr:Fr)(st:ISt)(ds:List Dfd)
@[go_sem ↓] theorem wGq:bodyK P gl rs K .normal fr st ds=yW6 P gl rs K ds fr st:=(rfl)
@[go_sem ↓] theorem vY3:bodyK P gl rs K .ret fr st ds=yW6 P gl rs K ds fr st:=(rfl)
@[go_sem ↓] theorem wY0:wGr P rs K .normal fr st ds=chk (ds=[]) (yQ6 (resL P fr st rs) λA=>outK K (outI A) st):=(rfl)
@[go_sem ↓] theorem vXj:yW6 P gl rs K [] fr st=yQ6 (resL P fr st rs) λA=>outK K (outI A) st:=(rfl)
@[go_sem ↓] theorem vQh (r:Nat):yW6 P gl rs K (.coll r::ds) fr st=yW6 P gl rs K ds fr st:=(rfl)
@[go_sem ↓] theorem xJa (g:FuncId)(A args:List IV):yW6 P gl rs K (.call (.func g) A args::ds) fr st=if entI P g=true then ICallD P gl g (args++A) st (λ_ st'=>yW6 P gl rs K ds fr st') else False:=(rfl)
end
section
variable {C:Cx}{X0 X:WS}{N:Nat}{fr:Fr}{a:Act}
theorem uXb {ds:List Dfd}{r:ResultVar}{x:IV}(U:Inv C X0 N X fr ds a)(h:resI C.P fr X.st r=some x) :
  ∃v,((match r with|.tmp t=>pure (a.tmps.getD t undef)|.cell b T=>(do loadVar T (<- asAddr (a.tmps.getD b undef))):Sem Value)).run C.P X.w=.ok v X.w/\C.v X v x:=by
 cases r with
 | tmp t =>
  obtain⟨hv,_⟩:=wGa (C:=C) (X:=X) h (U.fr.slot t);exact⟨_,rfl,hv⟩
 | cell b T =>
  simp only[resI] at h;split at h
  ·rename_i i t off ht hp;obtain⟨ag,sz⟩:=i;split at h
   ·rename_i cs D;have hs:=U.fr.slot b;cases A:fr b with
    | box cs' =>
     rw[A] at hp hs;simp only[plOf,Option.some.injEq,Pl.box.injEq] at hp;obtain⟨rfl,rfl⟩:=hp;rw[A] at D;cases D;obtain⟨b',c,E,hr,hh,J,_⟩:=hs;obtain⟨v,hl,hv⟩:=zXq ht hh J h;refine⟨v,?_,hv⟩;have O:a.tmps.getD b undef=.pointer (some ⟨b',0,none⟩):=hr;simp only[O,asAddr,Sem.run_bind,Sem.run_pure,Result.andThen_ok,hl]
    | iv y =>
     rw[A] at hp;exfalso;cases y with
     | raw u =>
      cases u with
      | pointer p =>
       cases p with
       | none=>cases hp
       | some p =>
        obtain⟨pb,po,ps⟩:=p;cases ps<;>cases hp
      | _=>cases hp
     | _=>cases hp
   ·cases h
  ·rename_i i b' off ht hp;obtain⟨ag,sz⟩:=i;split at h
   ·rename_i cs D;have hs:=U.fr.slot b;cases A:fr b with
    | box cs'=>rw[A] at hp;cases hp
    | iv y =>
     rw[A] at hp hs;cases y with
     | raw u =>
      cases u with
      | pointer p =>
       cases p with
       | none=>cases hp
       | some p =>
        obtain⟨pb,po,ps⟩:=p;cases ps with
        | none =>
         simp only[plOf,Option.some.injEq,Pl.ptr.injEq] at hp;obtain⟨rfl,rfl⟩:=hp;obtain⟨_,c,E,hh,J⟩:=U.good.ok _ _ D;obtain⟨v,hl,hv⟩:=zXq ht hh J h;refine⟨v,?_,hv⟩;have O:a.tmps.getD b undef=.pointer (some ⟨pb,po,none⟩):=V.raw_inv hs;simp only[O,asAddr,Sem.run_bind,Sem.run_pure,Result.andThen_ok,hl]
        | some _=>cases hp
      | _=>cases hp
     | _=>cases hp
   ·cases h
  ·cases h
theorem wYt {ds:List Dfd}(D:Inv C X0 N X fr ds a):∀ {rs:List ResultVar} {A:List IV},resL C.P fr X.st rs=some A →
  ∃vs,(rs.mapM (λr=>match r with|.tmp t=>pure (a.tmps.getD t undef)|.cell b T=>(do loadVar T (<- asAddr (a.tmps.getD b undef))):ResultVar->Sem Value)).run C.P X.w=.ok vs X.w/\C.vl X vs A
 | [],A,h=>by
  simp only[wVa,Option.some.injEq] at h;subst h;exact⟨[],by simp,VL.nil⟩
 | r::rs,A,h=>by
  rw[wQq] at h;cases hx:resI C.P fr X.st r with
  | none=>rw[hx] at h;cases h
  | some x =>
   cases hl:resL C.P fr X.st rs with
   | none=>rw[hx,hl] at h;cases h
   | some l =>
    rw[hx,hl,xGt,Option.some.injEq] at h;subst h;obtain⟨v,h1,h2⟩:=uXb D hx;obtain⟨vs,J,E⟩:=wYt D hl;refine⟨v::vs,?_,VL.cons h2 E⟩;rw[List.mapM_cons];simp only[Sem.run_bind,h1,J,Result.andThen_ok,Sem.run_pure]
theorem zUz {ds:List Dfd}(O:Inv C X0 N X fr ds a){fn:Func}{A:List IV}(h:resL C.P fr X.st fn.results.toList=some A):∃v,(results fn a.tmps).run C.P X.w=.ok v X.w/\C.v X v (outI A):=by
 obtain⟨vs,E,hv⟩:=wYt O h;have J:(fn.results.mapM (λr=>match r with|.tmp t=>pure (a.tmps.getD t undef)|.cell b T=>(do loadVar T (<- asAddr (a.tmps.getD b undef))):ResultVar->Sem Value)).run C.P X.w=.ok ⟨vs⟩ X.w:=by
  rw[Array.mapM_eq_mapM_toList];simp only[Sem.run_map,E,Result.andThen_ok]
 unfold results;simp only[Sem.run_bind]
 erw [J]
 simp only[Result.andThen_ok,Sem.run_pure];refine⟨_,rfl,?_⟩;have D:=hv.1
 match A,vs,hv with
 | [x],[v],hv=>exact hv.2 0 v x rfl rfl
 | [],[],hv=>exact hv.tup
 | x::y::l,v::u::m,hv =>
  rw[dif_neg (by simp)];exact hv.tup
theorem Inv.mark {r:Nat}{d:Deferred}{ds:List Deferred}{es:List Dfd}(h:Inv C X0 N X fr (.coll r::es) a)(ai:a.defers=d::ds):Inv C X0 N (X.obj r (.deferred none) (X.st r)) fr es { a with defers:=ds } /\
  d={ target:=.collected r,args:=#[] }/\(Instr.takeDeferred r).run C.P X.w=.ok [] (X.obj r (.deferred none) (X.st r)).w/\(X.obj r (.deferred none) (X.st r)).st=X.st:=by
 have aa:=h.ds;rw[ai] at aa;cases aa with
 | cons hd hs af =>
  obtain⟨hd,J,ae,hn⟩:=hd;subst hd;have E:∀c T f,Obj.deferred (some [])≠.cells c T f:=by intro c T f hc;cases hc
  have A:∀c T f,Obj.deferred none≠.cells c T f:=by intro c T f hc;cases hc
  have D:(X.obj r (.deferred none) (X.st r)).st=X.st:=by
   funext b;simp only[WS.obj];split
   ·grind
   ·rfl
  have keep:∀ {ds:List Deferred} {es:List Dfd},DsOk C X X0.w.heap.size ds es->Dfd.coll r ∉ es->DsOk C (X.obj r (.deferred none) (X.st r)) X0.w.heap.size ds es:=by
   intro ds es hs U
   induction hs with
   | nil=>exact .nil
   | cons h' _ ah ih =>
    refine .cons ?_ (ih (λhm=>U (.tail _ hm))) ah;rename_i d' e' _ _ _;cases e' with
    | call f am args =>
     obtain⟨rs,ac,hd,h1,h2⟩:=h';exact⟨rs,ac,hd,⟨h1.1,λi r x hr hx=>zG0 J E A (h1.2 i r x hr hx)⟩,⟨h2.1,λi r x hr hx=>zG0 J E A (h2.2 i r x hr hx)⟩⟩
    | coll r' =>
     obtain⟨hd,h1,h2,h3⟩:=h';have ag:r'≠r:=by rintro rfl;exact U (.head _)
     exact⟨hd,(yX4 J ag).trans h1,by rw[D];exact h2,h3⟩
  refine⟨⟨h.good.obj J E A (λi hi=>by rw[ae] at hi;cases hi),h.ext.obj J E A (.inl hn),⟨λt=>(h.fr.slot t).mono (λ_ _=>zG0 J E A) ?_,h.fr.inj⟩,h.size,keep hs (af r rfl)⟩,rfl,?_,D⟩
  ·intro b cs hs hr hb hL av;have aj:b≠r:=by
    rintro rfl;have O:=h.fr.slot t;rw[hs] at O;obtain⟨b',c,T,ao,aw,_⟩:=O;grind
   exact⟨yX4 J aj,rfl,by rw[D];exact hb⟩
  ·have h1:(getObj r).run C.P X.w=.ok (.deferred (some [])) X.w:=by simp[getObj,Sem.run,J]
   have h2:(setObj r (.deferred none)).run C.P X.w=.ok () { X.w with heap:=X.w.heap.setIfInBounds r (.deferred none) }:=by simp[setObj,Sem.run,J]
   unfold Instr.takeDeferred;simp only[Sem.run_bind,h1,Result.andThen_ok,h2,Sem.run_pure];rfl
theorem zWf {c:Cf}{B:Nat}{X0:WS}{N:Nat}{fn:Func}{K:IV->ISt->Prop}{fr:Fr}:∀(es:List Dfd) (X:WS) (a:Act),Inv (c.cx B) X0 N X fr es a->yW6 c.P c.gl fn.results.toList K es fr X.st →
  LeavesInM Fence.wide 0 c.P fn a.tmps (λe w'=>∃v,e=.returned v/\ends ⟨c.P,c.gl,B⟩ X0 K v w') a.defers .returning X.w
 | [],X,a,E,h=>by
  have D:a.defers=[]:=by
   have:=E.ds;generalize a.defers=A at this;cases this;rfl
  rw[D];obtain⟨xs,ak,st',af,hK⟩:=yQ2.1 h;obtain⟨v,hr,hv⟩:=zUz (C:=c.cx B) E ak;obtain⟨aa,O⟩:=E.good.sub af;exact⟨v,hr,v,rfl,{ X with st:=st' },_,rfl,aa,E.ext.trans O,O.v hv,hK⟩
 | .coll r::es,X,a,E,h=>by
  obtain⟨d,A,D⟩:∃d A,a.defers=d::A:=by
   have:=E.ds;generalize a.defers=A at this;cases this;exact⟨_,_,rfl⟩
  obtain⟨ac,hd,U,ag⟩:=E.mark D;rw[D];refine⟨by simp,.inl ⟨r,_,by rw[hd],U,?_⟩⟩;exact zWf es _ { a with defers:=A } ac (by rw[ag];exact h)
 | .call f ao args::es,X,a,E,h=>by
  obtain⟨d,A,D⟩:∃d A,a.defers=d::A:=by
   have:=E.ds;generalize a.defers=A at this;cases this;exact⟨_,_,rfl⟩
  have ai:=E.ds;rw[D] at ai;cases ai with
  | cons hd hs _ =>
   obtain⟨rs,ae,rfl,h1,h2⟩:=hd;rw[D];cases f with
   | func g =>
    rw[xJa] at h;split at h
    ·rename_i he;have am:∃J,c.P.funcs[g]?=some J/\J.name ≠ "runtime.NumGoroutine" /\ ¬ J.body.isNone=true:=by
      unfold entI at he;cases hf:c.P.funcs[g]? with
      | none=>simp[hf] at he
      | some J =>
       simp only[hf,bAt,bne_iff_ne,ne_eq] at he;exact⟨J,rfl,he.1,by have:=he.2;cases hq:J.body<;>simp_all⟩
     obtain⟨J,hf,al,ab⟩:=am;refine⟨by simp,.inr ⟨λh=>by simp[Fence.wide] at h,.func g,⟨rs⟩,g,⟨ae++rs⟩,rfl,?_,λ_ _=>trivial,?_⟩⟩
     ·simp only[invoke,callFunc,Sem.run_bind,run_program,Result.andThen_ok,hf];rw[if_neg (by simpa using al),if_neg ab];simp
     ·refine (h B X (ae++rs) .returning E.good rfl (h2.append h1)).mono ?_;rintro e u' w' ⟨rfl,v,rfl,X',x,rfl,aa,O,_,hK⟩;have ac:Inv (c.cx B) X0 N X' fr es { a with defers:=A }:=by
       have an:Inv (c.cx B) X0 N X fr es { a with defers:=A }:=⟨E.good,E.ext,E.fr,E.size,hs⟩
       exact an.ext' O aa
      exact zWf es X' { a with defers:=A } ac hK
    ·exact h.elim
   | _=>exact h.elim
end
theorem ICall.intro {c:Cf}{f:FuncId}{fn:Func}{A:Code}{args:List IV}{st:ISt}{K:IV->ISt->Prop}(hf:c.P.funcs[f]?=some fn)(hb:fn.body=some A)
  (hN:args.length<=fn.ntmps) (hd:codeOk c fn.ntmps A=true) (h:vcC c A (bodyK c.P c.gl fn.results.toList K) (frOf args) st []):ICall c.P c.gl f args st K:=by
 intro B X rs U E hv;subst E;refine (callsIn_wide (n:=0)).1 (callsIn_of_wp_marks hf hb trivial ?_);have hs:=yUq (N:=fn.ntmps) A c B X none 0 (λ_=>rfl) _ X (frOf args) [] _ hd (Inv.start U hv hN) h;refine wpIn_mono hs ?_;rintro e a' w' ⟨X',fr',D,rfl,O,J⟩;cases e with
 | normal=>exact zWf D X' a' O J
 | ret=>exact zWf D X' a' O J
 | _=>exact J.elim
theorem ICallD.intro {c:Cf}{f:FuncId}{fn:Func}{A:Code}{args:List IV}{st:ISt}{K:IV->ISt->Prop}(hf:c.P.funcs[f]?=some fn)(hb:fn.body=some A)
  (hN:args.length<=fn.ntmps) (hd:codeOk c fn.ntmps A=true) (h:vcC c A (wGr c.P fn.results.toList K) (frOf args) st []):ICallD c.P c.gl f args st K:=by
 intro B X rs u hg ab hv;subst ab;refine (callsDIn_of_wp (R:=λe w'=>∃v,e=.returned v/\ends ⟨c.P,c.gl,B⟩ X K v w') hf hb trivial ?_);have hs:=yUq (N:=fn.ntmps) A c B X none 0 (λ_=>rfl) _ X (frOf args) [] _ hd (Inv.start hg hv hN) h;have E:∀(a':Act) (X':WS) (fr':Fr) (D:List Dfd),Inv (c.cx B) X fn.ntmps X' fr' D a'->chk (D=[]) (yQ6 (resL c.P fr' X'.st fn.results.toList) λxs=>outK K (outI xs) X'.st) →
   a'.defers=[]/\∃v,(results fn a'.tmps).run c.P X'.w=.ok v X'.w/\∃v',Ending.returned v=.returned v'/\ends ⟨c.P,c.gl,B⟩ X K v' X'.w:=by
  rintro a' X' fr' D J ⟨rfl,h⟩;have af:a'.defers=[]:=by
   have:=J.ds;generalize a'.defers=an at this;cases this;rfl
  obtain⟨xs,aa,st',O,hK⟩:=yQ2.1 h;obtain⟨v,hr,hv⟩:=zUz (C:=c.cx B) J aa;obtain⟨ae,U⟩:=J.good.sub O;exact⟨af,v,hr,v,rfl,{ X' with st:=st' },_,rfl,ae,J.ext.trans U,U.v hv,hK⟩
 refine wpIn_mono hs ?_;rintro e a' w' ⟨X',fr',D,rfl,J,hq⟩;cases e with
 | normal=>exact E a' X' fr' D J hq
 | ret=>exact E a' X' fr' D J hq
 | _=>exact hq.elim
end Go.Iv
namespace Go.Iv
open Go
def LoopC (c:Cf)(b:Code)(Q:Kc)(fr:Fr)(st:ISt)(ds:List Dfd):Prop:=LoopV (λfr st ds Q=>vcC c b Q fr st ds) Q fr st ds .mk .mk
def RangeC (c:Cf)(f:Fn)(first A:List IV)(ps:Array Tmp)(a b:Code)(Q:Kc)(fr:Fr)(st:ISt)(ds:List Dfd):Prop :=
 wKa c.P c.gl f first A ps.size (λD st' R=>vcC { c with rd:=true } a (zZy (vcC { c with rd:=true } b) R) (yVh (zYb fr) (ps.toList.zip D)) st' []) (λe st' r=>Q e fr st' (.coll r::ds)) st .mk .mk
section
variable (c:Cf)(Q:Kc)(k:Fr->ISt->List Dfd->Prop)(fr:Fr)(st:ISt)(ds:List Dfd)(a b:Code)(id id' l:Nat)(ops:Array Oper)(x:Operand)
@[go_sem ↓] theorem vGk:vcC c .skip Q fr st ds=Q .normal fr st ds:=(rfl)
@[go_sem ↓] theorem vX2:vcC c (.region id ops false) Q fr st ds=yXw { c with dr:=false } ops.toList ops.toList (Q .normal) Ad.none_ fr st ds:=(rfl)
@[go_sem ↓] theorem vGn:vcC c (.region id ops true) Q fr st ds=zKi c ops (zJo c.ord id) (Q .normal) fr st ds:=(rfl)
@[go_sem ↓] theorem vJb (g:Operand)(ps:Array Tmp):vcC c (.rangeFunc g ps a b) Q fr st ds=if c.rd=true then False else yQ6 (evV c.gl fr g) λv=>fnV v λf first A =>
   RangeC c f first A ps a b Q fr st ds:=(rfl)
@[go_sem ↓] theorem wU6:vcC c (.seq a b) Q fr st ds=vcC c a (seqK (vcC c b Q) Q) fr st ds:=(rfl)
@[go_sem ↓] theorem vGo:vcC c (.cond x a b) Q fr st ds=yQ6 (evV c.gl fr x) λv=>zXg v λt=>yYv t (vcC c a Q fr st ds) (vcC c b Q fr st ds) .mk .mk:=(rfl)
@[go_sem ↓] theorem vJc:vcC c (.block id a) Q fr st ds=vcC c a (zKu id Q) fr st ds:=(rfl)
@[go_sem ↓] theorem vGl:vcC c (.loop a) Q fr st ds=LoopC c a Q fr st ds:=(rfl)
@[go_sem ↓] theorem vGm:vcC c (.exit id) Q fr st ds=Q (.exit id) fr st ds:=(rfl)
@[go_sem ↓] theorem uX1:vcC c .ret Q fr st ds=Q .ret fr st ds:=(rfl)
@[go_sem ↓] theorem wUo:seqK k Q .normal fr st ds=k fr st ds:=(rfl)
@[go_sem ↓] theorem wYr:seqK k Q .normal=k:=(rfl)
@[go_sem ↓] theorem vJz:seqK k Q (.exit id) fr st ds=Q (.exit id) fr st ds:=(rfl)
@[go_sem ↓] theorem vGq:seqK k Q .ret fr st ds=Q .ret fr st ds:=(rfl)
@[go_sem ↓] theorem vZd:zKu id Q (.exit id') fr st ds=if id'=id then Q .normal fr st ds else Q (.exit id') fr st ds:=(rfl)
@[go_sem ↓] theorem wY1:zKu id Q .normal fr st ds=Q .normal fr st ds:=(rfl)
@[go_sem ↓] theorem vJ2:zKu id Q .ret fr st ds=Q .ret fr st ds:=(rfl)
@[go_sem ↓] theorem vX9:wQi Q .ret fr st ds=Q .ret fr st ds:=(rfl)
end
@[go_sem ↓] theorem wG1 (J:Nat->Fr->ISt->List Dfd->Prop)(m:Nat)(Q:Kc)(fr:Fr)(st:ISt)(ds:List Dfd):xG5 J m Q .normal fr st ds=∃A,A<m/\J A fr st ds:=(rfl)
@[go_sem ↓] theorem vXh (J:Nat->Fr->ISt->List Dfd->Prop)(m id:Nat)(Q:Kc)(fr:Fr)(st:ISt)(ds:List Dfd):xG5 J m Q (.exit id) fr st ds=Q (.exit id) fr st ds:=(rfl)
@[go_sem ↓] theorem vKv (J:Nat->Fr->ISt->List Dfd->Prop)(m:Nat)(Q:Kc)(fr:Fr)(st:ISt)(ds:List Dfd):xG5 J m Q .ret fr st ds=Q .ret fr st ds:=(rfl)
theorem LoopV.intro {body:Fr->ISt->List Dfd->Kc->Prop}{Q:Kc}{fr:Fr}{st:ISt}{ds:List Dfd}(J:Nat->Fr->ISt->List Dfd->Prop)(m:Nat)(h0:J m fr st ds)
  (h:∀m fr' st' A,J m fr' st' A->body fr' st' A (xG5 J m Q)):LoopV body Q fr st ds .mk .mk:=⟨J,⟨m,h0⟩,h⟩
@[go_sem] theorem vV5 (fr:Fr)(d:Nat)(A skip:Fr->Prop)(k:Lock A)(l:Lock skip):yV1 fr d false (.iv (.raw (.bool true))) A skip k l=Hold true (skip (fr.put d (.iv (.raw (.bool true))))):=by
 unfold yV1;simp[Hold]
@[go_sem] theorem vV4 (fr:Fr)(d:Nat)(A skip:Fr->Prop)(k:Lock A)(l:Lock skip):yV1 fr d true (.iv (.raw (.bool false))) A skip k l=Hold true (skip (fr.put d (.iv (.raw (.bool false))))):=by
 unfold yV1;simp[Hold]
@[go_sem] theorem vYk (p:Prop):Hold true p=p:=(rfl)
attribute [go_sem ↓] xJy
theorem yJ9 {fr:Fr}{d:Nat}{A b:Bool}{D skip:Fr->Prop}{k:Lock D}{l:Lock skip}(h1:b=A->D (fr.put d (.iv (.raw (.bool A)))))(h2:b=!A->skip (fr.put d (.iv (.raw (.bool !A))))) :
  yV1 fr d A (.iv (.raw (.bool b))) D skip k l:=⟨h1,h2⟩
theorem yZn {b:Bool}{p q:Prop}{k:Lock p}{l:Lock q}(h1:b=true->p)(h2:b=false->q):yYv b p q k l:=⟨h1,h2⟩
def cf (P:Program)(gl:Nat->Option IV)(esc:List Nat)(ord:List (Nat×List Nat):=[])(frz:List Nat:=[]):Cf:={ P:=P,gl:=gl,esc:=esc,rd:=false,dr:=false,ord:=ord,frz:=frz }
def cfp (P:Program)(gl:Nat->Option IV)(esc:List Nat)(ord:List (Nat×List Nat))(pf:FuncId->List IV->Option IV)
  (pok:∀g A v,pf g A=some v->entI P g=true/\∀st,ICall P gl g A st (λr st'=>r=v/\st'=st)):Cf:={ P:=P,gl:=gl,esc:=esc,rd:=false,dr:=false,ord:=ord,pf:=pf,pok:=pok }
attribute [go_sem] cfp
end Go.Iv
namespace Go.Iv
open Go
theorem w64 {n:Int}(h0:-9223372036854775808<=n)(h1:n<=9223372036854775807):IntKind.i64.wrap n=n:=IntWalk.i64_in _ (by omega)
def ctrK (I:Fr->ISt->List Dfd->Prop)(Q:Kc):Kc
 | .normal,fr,st,ds=>I fr st ds
 | e,fr,st,ds=>Q e fr st ds
def wUg (Q:Kc):Kc
 | .normal,_,_,_=>False
 | e,fr,st,ds=>Q e fr st ds
section
variable (I:Fr->ISt->List Dfd->Prop)(Q:Kc)(fr:Fr)(st:ISt)(ds:List Dfd)(id:Nat)
@[go_sem ↓] theorem vZ5:ctrK I Q .normal fr st ds=I fr st ds:=(rfl)
@[go_sem ↓] theorem vWu:ctrK I Q (.exit id) fr st ds=Q (.exit id) fr st ds:=(rfl)
@[go_sem ↓] theorem uQv:ctrK I Q .ret fr st ds=Q .ret fr st ds:=(rfl)
@[go_sem ↓] theorem vX5:wUg Q (.exit id) fr st ds=Q (.exit id) fr st ds:=(rfl)
@[go_sem ↓] theorem vJq:wUg Q .ret fr st ds=Q .ret fr st ds:=(rfl)
end
@[go_sem] theorem yVl (l:List UInt8):ByteArray.size ⟨l.toArray⟩=l.length:=by simp[ByteArray.size]
def resD (i:Bool×Nat)(off:Nat):Option IObj->Option IV
 | some (.box cs)=>yK4 i.1 i.2 cs off
 | _=>none
@[go_sem] theorem vGs (i:Bool×Nat)(off:Nat)(cs:List IV):resD i off (some (.box cs))=yK4 i.1 i.2 cs off:=(rfl)
def resC (i:Option (Bool×Nat))(s:SV)(st:ISt):Option IV :=
 match i,s with
 | some i,.box cs=>yK4 i.1 i.2 cs 0
 | some i,.iv (.raw (.pointer (some ⟨b,off,none⟩)))=>resD i off (st b)
 | _,_=>none
@[go_sem] theorem vGu (i:Bool×Nat)(cs:List IV)(st:ISt):resC (some i) (.box cs) st=yK4 i.1 i.2 cs 0:=(rfl)
@[go_sem] theorem vGt (i:Bool×Nat)(b off:Nat)(st:ISt):resC (some i) (.iv (.raw (.pointer (some ⟨b,off,none⟩)))) st=resD i off (st b):=(rfl)
@[go_sem ↓] theorem vXa (P:Program)(fr:Fr)(st:ISt)(a:Nat)(T:TypeId):resI P fr st (.cell a T)=resC (tyI P T) (fr a) st:=by
 simp only[resI];cases tyI P T with
 | none=>rfl
 | some i =>
  cases D:fr a with
  | box cs=>simp only[plOf,D,resC]
  | iv x =>
   cases x with
   | raw v =>
    cases v with
    | pointer p =>
     cases p with
     | none=>rfl
     | some p =>
      obtain⟨b,off,sp⟩:=p;cases sp with
      | none =>
       rcases A:st b with _|o
       ·simp only[plOf,resC,resD,A]
       ·cases o<;>simp only[plOf,resC,resD,A]
      | some _=>rfl
    | _=>rfl
   | _=>rfl
theorem yQ8 {c q:Prop}(h:c->q):giv c q:=h
theorem yQj {c q:Prop}(h:c)(k:q):chk c q:=⟨h,k⟩
theorem yQf {K:IV->ISt->Prop}{x:IV}{st st':ISt}(h:subSt st' st)(k:K x st'):outK K x st:=⟨st',h,k⟩
theorem yQa {st:ISt}{b:Nat}{o:Option IObj}(h:st b=none):subSt st (st.put b o):=λc x hc=>by
 rw[ISt.put_apply];split
 ·rename_i A;rw[A,h] at hc;cases hc
 ·exact hc
theorem yQ5 {st:ISt}{b c:Nat}{o:Option IObj}(h:c≠b):st.put b o c=st c:=by rw[ISt.put_apply,if_neg h]
theorem yXt {st:ISt}{b c:Nat}{o:IObj}(h:st b=some o)(A:st c=none):b≠c:=by rintro rfl;rw[h] at A;cases A
theorem wJ1 {dst:Option Nat}{K K':Kt}(hK:∀ad fr st ds,K ad fr st ds->K' ad fr st ds){ad:Ad}{fr:Fr}{pr:PR}{st:ISt}{ds:List Dfd}:finK dst K ad fr pr st ds->finK dst K' ad fr pr st ds:=by
 cases pr<;>cases dst<;>simp only[finK]<;>first|exact hK _ _ _ _|exact id|(split<;>first|exact id|exact hK _ _ _ _)
theorem yG2 {c:Cf}{ops:List Oper}{Q Q':Fr->ISt->List Dfd->Prop}(hQ:∀fr st ds,Q fr st ds->Q' fr st ds):∀ {l:List Oper} {ad:Ad} {fr:Fr} {st:ISt} {ds:List Dfd},yXw c ops l Q ad fr st ds->yXw c ops l Q' ad fr st ds
 | [],_,_,_,_,h=>hQ _ _ _ h
 | o::l,ad,fr,st,ds,h=>by
  have hk:∀ad fr st ds,yXw c ops l Q ad fr st ds->yXw c ops l Q' ad fr st ds:=λ_ _ _ _=>yG2 hQ;have A:∀ad fr pr st ds,finK o.dst (yXw c ops l Q) ad fr pr st ds->finK o.dst (yXw c ops l Q') ad fr pr st ds:=λ_ _ _ _ _=>wJ1 hk;clear hk;unfold yXw at h ⊢;split
  ·rename_i J;rw[J] at h;exact yG1 (λ_ _ _=>A _ _ _ _ _) h
  ·rename_i j U J;rw[J] at h;simp only at h;split
   ·rename_i d hd;rw[hd] at h;simp only at h;unfold yV1 at h ⊢;split
    ·rename_i b hs;rw[hs] at h;exact⟨λO=>yG1 (λ_ _ _=>A _ _ _ _ _) (h.1 O),λO=>A ad _ (.val (.raw undef)) st ds (h.2 O)⟩
    ·rename_i b hs;rw[hs] at h;exact A ad _ (.val (.raw undef)) st ds h
    ·rename_i hs E;split at h
     ·rename_i b D;exact absurd D (hs b)
     ·rename_i b D;exact absurd D (E b)
     ·exact h
   ·rename_i hd;rw[hd] at h;exact h
theorem yUk:∀(A:Code){c:Cf}{Q Q':Kc},(∀e fr st ds,Q e fr st ds->Q' e fr st ds)->∀ {fr:Fr}{st:ISt}{ds:List Dfd},vcC c A Q fr st ds->vcC c A Q' fr st ds:=by
 intro A
 induction A with
 | skip=>intro c Q Q' h fr st ds;exact h _ _ _ _
 | region id ops dr =>
  intro c Q Q' h fr st ds;cases dr with
  | false=>exact yG2 (h .normal)
  | true =>
   intro D;change zKi c ops (zJo c.ord id) _ fr st ds at D;change zKi c ops (zJo c.ord id) _ fr st ds;generalize zJo c.ord id=o at D ⊢
   match o,D with
   | none,D=>exact yG2 (h .normal) D
   | some [],D=>exact xZi (h .normal) _ _ D
   | some (i::l),D=>exact yG2 (h .normal) D
 | seq a b O E =>
  intro c Q Q' h fr st ds;refine O (λe fr st ds=>?_);cases e<;>first|exact E h|exact h _ _ _ _
 | cond x a b O E =>
  intro c Q Q' h fr st ds;exact yZ1 λ_=>zK8 λ_=>zK7 (O h) (E h)
 | block id a U =>
  intro c Q Q' h fr st ds;refine U (λe fr st ds=>?_);cases e<;>first|exact h _ _ _ _|(simp only[zKu];split<;>exact h _ _ _ _)
 | loop a U =>
  intro c Q Q' h fr st ds D;obtain⟨J,h0,hs⟩:=D;refine⟨J,h0,λm fr' st' ac hj=>U (λe fr st ds=>?_) (hs m fr' st' ac hj)⟩;cases e<;>first|exact id|exact h _ _ _ _
 | rangeFunc g ps ao b _ _ =>
  intro c Q Q' h fr st ds;refine yJi id (yZ1 λ_=>xJg λ_ _ _=>?_);rintro⟨g,hf,he,σ,xs,k0,ab,I,S,up,hu,h1,h2,h3,h4,h5,h6⟩;exact⟨g,hf,he,σ,xs,k0,ab,I,S,up,hu,h1,h2,h3,h4,λk st r hk hi=>h _ _ _ _ (h5 k st r hk hi),λe st r hi=>h _ _ _ _ (h6 e st r hi)⟩
 | exit id=>intro c Q Q' h fr st ds;exact h _ _ _ _
 | scope a U =>
  intro c Q Q' h fr st ds;refine yJi id (U (λe fr st ds=>?_));cases e<;>first|exact h _ _ _ _|exact id
 | label l=>intro c Q Q' h fr st ds;exact h _ _ _ _
 | goto l=>intro c Q Q' h fr st ds;exact h _ _ _ _
 | ret=>intro c Q Q' h fr st ds;exact h _ _ _ _
 | refuse w=>intro c Q Q' h fr st ds D;exact D.elim
theorem LoopC.ctr {c:Cf}{b:Code}{Q:Kc}{fr:Fr}{st:ISt}{ds:List Dfd}(n:Nat)(I:Nat->Fr->ISt->List Dfd->Prop)(h0:I 0 fr st ds)
  (step:∀k fr' st' A,k<n->I k fr' st' A->vcC c b (ctrK (I (k+1)) Q) fr' st' A) (D:∀fr' st' A,I n fr' st' A->vcC c b (wUg Q) fr' st' A) :
  LoopC c b Q fr st ds:=by
 refine LoopV.intro (λm fr st ds=>∃k,m=n-k/\k<=n/\I k fr st ds) n ⟨0,rfl,Nat.zero_le _,h0⟩ ?_;rintro m fr' st' A ⟨k,rfl,U,J⟩;rcases Nat.lt_or_ge k n with E|O
 ·refine yUk b (λe fr st ds=>?_) (step k fr' st' A E J);cases e with
  | normal=>exact λh=>⟨n-(k+1),by omega,k+1,rfl,E,h⟩
  | _=>exact id
 ·have:k=n:=by omega
  subst this;refine yUk b (λe fr st ds=>?_) (D fr' st' A J);cases e with
  | normal=>exact False.elim
  | _=>exact id
theorem LoopC.dec {c:Cf}{b:Code}{Q:Kc}{fr:Fr}{st:ISt}{ds:List Dfd}(n:Nat)(I:Nat->Fr->ISt->List Dfd->Prop)(h0:I n fr st ds)
  (step:∀k fr' st' A,I k fr' st' A->vcC c b (xG5 I k Q) fr' st' A):LoopC c b Q fr st ds:=⟨I,⟨n,h0⟩,step⟩
def seqX (l:List (List IV)):Nat->List IV->Prop:=λk a=>l[k]?=some a
theorem RangeC.intro {c:Cf}{g:FuncId}{first A:List IV}{ps:Array Tmp}{a b:Code}{Q:Kc}{fr:Fr}{st:ISt}{ds:List Dfd}(E:Nat->List IV->Prop)(len:Nat)(I:Nat->ISt->Prop)(S:Exit->ISt->Prop)
  (he:entI c.P g=true) (hl:∀k a,E k a->a.length=ps.size) (h0:I 0 st)
  (D:∀k U st',E k U->I k st'->vcC { c with rd:=true } a (zZy (vcC { c with rd:=true } b) (xJ1 (I (k+1)) S)) (yVh (zYb fr) (ps.toList.zip U)) st' [])
  (iter:IterC c.P c.gl g first A E len I) (done:∀st' r,I len st'->Q .normal fr st' (.coll r::ds)) (stop:∀e st' r,S e st'->Q e fr st' (.coll r::ds)) :
  RangeC c (.func g) first A ps a b Q fr st ds:=⟨g,rfl,he,Nat,wKv (zW8 E),0,(·=len),I,S,noUp,λ_ _ _ _ _ _ _ _ h=>h.elim,λk a _ _ h=>hl k a h.1.1,h0,λk a e k' s J hd O=>by
   obtain⟨⟨hx,rfl⟩,rfl⟩:=J;have hn:(λs'=>∃s1,I (k+1) s1/\ISt.disj (λ_=>none) s1/\s'=s1.add (λ_=>none))=I (k+1):=by
    funext s';exact propext ⟨λ⟨s1,h1,_,h2⟩=>h2▸h1,λh=>⟨s',h,λ_ hb=>absurd rfl hb,rfl⟩⟩
   rw[hn];exact D k a s hx O,iter.lent.up.toH,λk st' r J O=>done st' r (J▸O),stop⟩
theorem RangeL.intro {c:Cf}{g:FuncId}{first A:List IV}{ps:Array Tmp}{a b:Code}{Q:Kc}{fr:Fr}{st:ISt}{ds:List Dfd}(lk:Nat->List IV->ISt->Prop)(len:Nat)(I:Nat->ISt->Prop)(S:Exit->ISt->Prop)
  (U:entI c.P g=true) (hl:∀k a e,lk k a e->a.length=ps.size) (h0:I 0 st)
  (D:∀k O e s,lk k O e->e.disj s->I k s->vcC { c with rd:=true } a (zZy (vcC { c with rd:=true } b) (xJ1 (λs'=>∃s1,I (k+1) s1/\e.disj s1/\s'=s1.add e) S)) (yVh (zYb fr) (ps.toList.zip O)) (s.add e) [])
  (iter:IterL c.P c.gl g first A lk len I) (done:∀st' r,I len st'->Q .normal fr st' (.coll r::ds)) (stop:∀e st' r,S e st'->Q e fr st' (.coll r::ds)) :
  RangeC c (.func g) first A ps a b Q fr st ds:=⟨g,rfl,U,Nat,wKv lk,0,(·=len),I,S,noUp,λ_ _ _ _ _ _ _ _ h=>h.elim,λk a e _ h=>hl k a e h.1,h0,λk a e k' s E hd J=>by
   obtain⟨E,rfl⟩:=E;exact D k a e s E hd J,iter.up.toH,λk st' r E J=>done st' r (E▸J),stop⟩
theorem RangeU.intro {c:Cf}{g:FuncId}{first A:List IV}{ps:Array Tmp}{a b:Code}{Q:Kc}{fr:Fr}{st:ISt}{ds:List Dfd}(E:Nat->List IV->Prop)(len:Nat)(I:Nat->ISt->Prop)(S:Exit->ISt->Prop)(up:Nat->List (Value×IV)->List (Value×IV)->Prop)
  (J:∀k s m kk es es',I k s->s m=some (.map kk es)->up m es es'->I k (s.put m (some (.map kk es')))) (he:entI c.P g=true) (hl:∀k a,E k a->a.length=ps.size) (h0:I 0 st)
  (D:∀k aL st',E k aL->I k st'->vcC { c with rd:=true } a (zZy (vcC { c with rd:=true } b) (xJ1 (I (k+1)) S)) (yVh (zYb fr) (ps.toList.zip aL)) st' [])
  (iter:IterU c.P c.gl g first A (zW8 E) len I up) (done:∀st' r,I len st'->Q .normal fr st' (.coll r::ds)) (stop:∀e st' r,S e st'->Q e fr st' (.coll r::ds)) :
  RangeC c (.func g) first A ps a b Q fr st ds:=⟨g,rfl,he,Nat,wKv (zW8 E),0,(·=len),I,S,up,J,λk a _ _ h=>hl k a h.1.1,h0,λk a e k' s O hd U=>by
   obtain⟨⟨hx,rfl⟩,rfl⟩:=O;have hn:(λs'=>∃s1,I (k+1) s1/\ISt.disj (λ_=>none) s1/\s'=s1.add (λ_=>none))=I (k+1):=by
    funext s';exact propext ⟨λ⟨s1,h1,_,h2⟩=>h2▸h1,λh=>⟨s',h,λ_ hb=>absurd rfl hb,rfl⟩⟩
   rw[hn];exact D k a s hx U,iter.toH,λk st' r O U=>done st' r (O▸U),stop⟩
def zZ2 {σ:Type}(A:σ->List IV->σ->Prop):σ->List IV->ISt->σ->Prop:=λk a e D=>A k a D/\e=λ_=>none
theorem RangeH.intro {σ:Type}{c:Cf}{g:FuncId}{first D:List IV}{ps:Array Tmp}{a b:Code}{Q:Kc}{fr:Fr}{st:ISt}{ds:List Dfd}(O:σ->List IV->σ->Prop)(k0:σ)(J:σ->Prop)(I:σ->ISt->Prop)(S:Exit->ISt->Prop)
  (he:entI c.P g=true) (hl:∀k a A,O k a A->a.length=ps.size) (h0:I k0 st)
  (E:∀k U A st',O k U A->I k st'->vcC { c with rd:=true } a (zZy (vcC { c with rd:=true } b) (xJ1 (I A) S)) (yVh (zYb fr) (ps.toList.zip U)) st' [])
  (iter:xKc c.P c.gl g first D (zZ2 O) k0 J I noUp) (done:∀k st' r,J k->I k st'->Q .normal fr st' (.coll r::ds)) (stop:∀e st' r,S e st'->Q e fr st' (.coll r::ds)) :
  RangeC c (.func g) first D ps a b Q fr st ds:=⟨g,rfl,he,σ,zZ2 O,k0,J,I,S,noUp,λ_ _ _ _ _ _ _ _ h=>h.elim,λk a _ A h=>hl k a A h.1,h0,λk a e A s hk hd hi=>by
   obtain⟨hx,rfl⟩:=hk;have hn:(λs'=>∃s1,I A s1/\ISt.disj (λ_=>none) s1/\s'=s1.add (λ_=>none))=I A:=by
    funext s';exact propext ⟨λ⟨s1,h1,_,h2⟩=>h2▸h1,λh=>⟨s',h,λ_ hb=>absurd rfl hb,rfl⟩⟩
   rw[hn];exact E k a A s hx hi,iter,done,stop⟩
end Go.Iv
namespace Go.Iv
open Go
mutual
def age:IV->IV
 | .raw v=>.raw v
 | .agg cs=>.agg (ages cs)
 | .tup vs=>.tup (ages vs)
 | .fn f a b=>.fn f (ages a) (ages b)
 | .sl t A=>.sl ⟨false,t.cap,t.es⟩ (ages A)
 | .cptr x=>.cptr (age x)
 | .junk=>.junk
def ages:List IV->List IV
 | []=>[]
 | x::l=>age x::ages l
end
theorem yVm:∀l:List IV,ages l=l.map age
 | []=>rfl
 | x::l=>by simp only[ages,List.map_cons,yVm l]
theorem yZo (l:List IV):(ages l).length=l.length:=by rw[yVm,List.length_map]
theorem yK2 {l:List IV}{i:Nat}{y:IV}(h:(ages l)[i]?=some y):∃x,l[i]?=some x/\y=age x:=by
 rw[yVm,List.getElem?_map,Option.map_eq_some_iff] at h;grind
theorem yV3 (x:IV):(age x).cells=ages x.cells:=by
 cases x<;>simp only[age,IV.cells,ages]
theorem zGu:∀l:List IV,(ages l).flatMap IV.cells=ages (l.flatMap IV.cells)
 | []=>rfl
 | x::l=>by
  simp only[ages,List.flatMap_cons,zGu l,yV3];rw[yVm,yVm,yVm,List.map_append]
theorem V.aged {B B':Nat}{L:Nat->Nat}{w:World}{r:Value}{x:IV}(h:V B L w r x):V B' L w r (age x):=by
 induction h with
 | raw v h=>exact .raw v h
 | junk v=>exact .junk v
 | agg rs cs hl _ O =>
  exact .agg rs (ages cs) (by rw[yZo];exact hl) λi r c J hc=>by
   obtain⟨x,hx,rfl⟩:=yK2 hc;grind
 | tup rs cs hl _ O =>
  exact .tup rs (ages cs) (by rw[yZo];exact hl) λi r c J hc=>by
   obtain⟨x,hx,rfl⟩:=yK2 hc;grind
 | fn f rs cs hl _ ac cs' ai _ O ae =>
  exact .fn f rs (ages cs) (by rw[yZo];exact hl) (λi r c J hc=>by
   obtain⟨x,hx,rfl⟩:=yK2 hc;exact O i r x J hx) ac (ages cs') (by rw[yZo];exact ai) λi r c J hc=>by
   obtain⟨x,hx,rfl⟩:=yK2 hc;exact ae i r x J hx
 | sl a cap t xs T vs aa U aj hs D E ab A _ O =>
  have key:=V.sl (B:=B') (L:=L) (w:=w) a cap ⟨false,t.cap,t.es⟩ (ages xs) T vs;rw[yZo] at key;refine key aa U aj (λy hy=>?_) D E (λh=>by cases h) (λah=>A λh=>ah (by rw[h];rfl)) λi r c J hc=>?_
  ·rw[yVm] at hy;obtain⟨x,hx,rfl⟩:=List.mem_map.1 hy;rw[yV3,yZo];exact hs x hx
  ·rw[zGu] at hc;obtain⟨x,hx,rfl⟩:=yK2 hc;grind
 | cptr ad x vs ag D hL hc _ O =>
  refine .cptr ad (age x) vs ag (by rw[yV3,yZo];exact D) hL hc λi r c J hc=>?_;rw[yV3] at hc;obtain⟨y,hy,rfl⟩:=yK2 hc;grind
theorem xG4 {C:Cx}{X:WS}{A:Array MapEntry}{es:List (Value×IV)}(h:C.vl X (A.toList.map (·.val)) (es.map (·.2))):∀(i:Nat) (e:MapEntry) (p:Value×IV),A.toList[i]?=some e->es[i]?=some p->∀v,p.2=.raw v->e.val=v:=λi e p D hp v hv=>by
 have:=h.2 i e.val p.2 (by rw[List.getElem?_map,D];rfl) (by rw[List.getElem?_map,hp];rfl);rw[hv] at this;exact V.raw_inv this
theorem ICall.mapx {P:Program}{gl:Nat->Option IV}{f:FuncId}{args:List IV}{st:ISt}{K:IV->ISt->Prop}{m:Nat}{kk:KeyK}{es:List (Value×IV)}(hm:st m=some (.map kk es))
  (h:∀D A,vKu kk es D A->ICall P gl f args (st.put m (some (.mapx D A))) K):ICall P gl f args st K:=by
 intro B X rs J U hv;subst U;obtain⟨hL,hf,_,D,A,hh,h1,O,h2,h3⟩:=J.ok m _ hm;have h4:=xG4 O;have aa:Good ⟨P,gl,B⟩ { X with st:=X.st.put m (some (.mapx D A)) }:=⟨λb o E=>by
   simp only[ISt.put_apply] at E;split at E
   ·rename_i h;subst h;cases E;exact⟨hL,hh⟩
   ·exact (J.ok b o E).mono rfl rfl (λ_ _ hv=>hv),J.gl,J.B,J.Lnew,J.gsh,J.dr⟩
 have he:Ext X { X with st:=X.st.put m (some (.mapx D A)) }:=⟨rfl,rfl,rfl,Nat.le_refl _,λ_=>Nat.le_refl _,λ_ _ _=>rfl,λ_ _ _=>⟨rfl,rfl⟩,λb _ E=>by
   show (X.st.put m (some (.mapx D A))) b=none;rw[ISt.put_apply];split
   ·rename_i h;subst h;rw[hm] at E;cases E
   ·exact E,λ_ _ hp=>hp,rfl⟩
 refine (h D A ⟨h1,hf,h2,h3,h4⟩ B { X with st:=X.st.put m (some (.mapx D A)) } rs aa rfl hv).mono ?_;rintro e w' ⟨v,rfl,X',x,a1,a2,a3,a4,a5⟩;exact⟨v,rfl,X',x,a1,a2,he.trans a3,a4,a5⟩
def appT (n:Nat)(t:Tag):Prop:=t.cap=.nil\/(0<n/\t.fresh=true/\∃g,t.cap=.app g)
theorem appT.pos {n m:Nat}{t:Tag}(h:appT n t)(A:0<m):appT m t:=h.imp id λh=>⟨A,h.2⟩
theorem appT.up {n k:Nat}{t:Tag}(h:appT n t):appT (n+k) t:=h.imp id λh=>⟨by omega,h.2⟩
def wkE (t:Tag):Nat:=if t.es<=4 then 0 else 1
theorem appT.to {n m:Nat}{t:Tag}(h:appT n t)(A:m=n):appT m t:=A▸h
mutual
def dfr:IV->Prop
 | .raw (.agg _)=>False
 | .raw (.tuple _)=>False
 | .raw _=>True
 | .agg cs=>dfrs cs/\∀c∈cs,c.one=true
 | .tup vs=>dfrs vs
 | .sl t A=>appT (A.length+wkE t) t/\dfrs A/\∀c∈A.flatMap IV.cells,c.one=true
 | _=>False
def dfrs:List IV->Prop
 | []=>True
 | x::l=>dfr x/\dfrs l
end
theorem xWn:∀ {l:List IV}{x:IV},dfrs l->x∈l->dfr x
 | y::l,x,h,hx=>by
  simp only[dfrs] at h;rcases List.mem_cons.1 hx with rfl|hx
  ·exact h.1
  ·exact xWn h.2 hx
theorem yU8:∀ {l m:List IV},dfrs l->dfrs m->dfrs (l++m)
 | [],m,_,h=>h
 | x::l,m,h,k=>by
  simp only[List.cons_append,dfrs] at h ⊢;exact⟨h.1,yU8 h.2 k⟩
inductive OI (st:ISt):IV->IV->Prop
 | refl (x:IV):OI st x x
 | agg (rs cs:List IV) (hl:rs.length=cs.length) (h:∀(i:Nat) (r c:IV),rs[i]?=some r->cs[i]?=some c->OI st r c):OI st (.agg rs) (.agg cs)
 | tup (rs cs:List IV) (hl:rs.length=cs.length) (h:∀(i:Nat) (r c:IV),rs[i]?=some r->cs[i]?=some c->OI st r c):OI st (.tup rs) (.tup cs)
 | nil (t:Tag) (h:t.cap=.nil):OI st (.raw (.slice none 0 0)) (.sl t [])
 | sl (g cap:Nat) (t:Tag) (xs:List IV) (cs:List IV) (hcap:t.cap=.app g) (hlen:xs.length<=140737488355328) (hcl:xs.length<=cap) (hs:∀x∈xs,x.cells.length=t.es)
   (hst:st g=some (.box cs)) (hroom:cap*t.es<=cs.length) (h:∀(i:Nat) (r c:IV),cs[i]?=some r->(xs.flatMap IV.cells)[i]?=some c->OI st r c) :
   OI st (.raw (.slice (some ⟨g,0,none⟩) xs.length cap)) (.sl t xs)
 | ptr (b:Nat) (x:IV) (cs:List IV) (hst:st b=some (.box cs)) (hl:cs.length=x.cells.length) (h:∀(i:Nat) (r c:IV),cs[i]?=some r->x.cells[i]?=some c->OI st r c) :
   OI st (.raw (.pointer (some ⟨b,0,none⟩))) (.cptr x)
def zVf (st:ISt):ISt:=λb=>match st b with|some (.box _)=>none|o=>o
theorem wZ8 (st:ISt):subSt (zVf st) st:=λb o h=>by
 unfold zVf at h;grind
theorem xQb {st:ISt}{b:Nat}{cs:List IV}(h:st b=some (.box cs)):zVf st b=none:=by
 unfold zVf;rw[h]
theorem xYz {st:ISt}{b:Nat}(h:∀cs,st b≠some (.box cs)):zVf st b=st b:=by
 unfold zVf;grind
def WS.lendS (X:WS)(s1 s0:ISt):WS :=
 { w:=X.w,L:=λb=>match s1 b with|some (.box cs)=>cs.length|_=>X.L b,st:=s0,d:=X.d }
structure LendOk (st s1 s0:ISt):Prop where
 sub1:subSt s1 st
 sub0:subSt s0 st
 off:∀b cs,s1 b=some (.box cs)->s0 b=none
theorem zZ9 (st:ISt):LendOk st st (zVf st):=⟨subSt.refl st,wZ8 st,λ_ _ h=>xQb h⟩
abbrev WS.lend (X:WS):WS:=X.lendS X.st (zVf X.st)
section
variable {C:Cx}{X:WS}{s1 s0:ISt}
theorem zGc {b:Nat}{cs:List IV}(h:s1 b=some (.box cs)):(X.lendS s1 s0).L b=cs.length:=by simp only[WS.lendS,h]
theorem zQ1 {b:Nat}(h:∀cs,s1 b≠some (.box cs)):(X.lendS s1 s0).L b=X.L b:=by
 simp only[WS.lendS]
 try split
 all_goals first|rfl|(rename_i cs hc;exact absurd hc (h cs))
theorem Good.lendS_ext (h:Good C X)(k:LendOk X.st s1 s0):Ext X (X.lendS s1 s0) where
 os:=rfl
 tape:=rfl
 output:=rfl
 size:=Nat.le_refl _
 lmono b:=by
  by_cases A:∃cs,s1 b=some (.box cs)
  ·obtain⟨cs,A⟩:=A;obtain⟨h0,_⟩:=h.ok b _ (k.sub1 _ _ A);grind
  ·rw[zQ1 λcs hc=>A ⟨cs,hc⟩];exact Nat.le_refl _
 cells _ _ _:=rfl
 keep b _ hs:=⟨rfl,zQ1 λcs hc=>by rw[k.sub1 _ _ hc] at hs;cases hs⟩
 dom b _ hs:=by
  show s0 b=none;cases D:s0 b with
  | none=>rfl
  | some o=>rw[k.sub0 _ _ D] at hs;cases hs
 shape _ _ hp:=hp
 d:=rfl
theorem Good.lendS (h:Good C X)(k:LendOk X.st s1 s0):Good C (X.lendS s1 s0) where
 ok b o A:=by
  have A:s0 b=some o:=A;have D:∀cs,s1 b≠some (.box cs):=λcs hc=>by rw[k.off b cs hc] at A;cases A
  exact (h.ok b o (k.sub0 b o A)).mono rfl (zQ1 D) (λ_ _ hv=>(h.lendS_ext k).vl hv)
 gl g x E:=(h.lendS_ext k).v (h.gl g x E)
 B:=h.B
 Lnew b A:=by
  rw[zQ1 λcs hc=>?_]
  ·exact h.Lnew b A
  ·have h1:=h.lt (k.sub1 _ _ hc);have h2:X.w.heap.size<=b:=A;omega
 gsh:=h.gsh
 dr:=h.dr
theorem Good.lend_ext (h:Good C X):Ext X X.lend:=h.lendS_ext (zZ9 _)
theorem Good.lend (h:Good C X):Good C X.lend:=h.lendS (zZ9 _)
theorem OI.v (h:Good C X)(k:LendOk X.st s1 s0){y x:IV}(ho:OI s1 y x):∀ {r:Value},C.v X r y->C.v (X.lendS s1 s0) r (age x):=by
 induction ho with
 | refl x=>exact λhv=>((h.lendS_ext k).v hv).aged
 | agg rs cs hl _ ih =>
  intro r hv;obtain⟨rr,rfl,A⟩:=V.agg_inv hv;refine .agg rr (ages cs) (by rw[yZo,A.1,hl]) λi r c h1 h2=>?_;obtain⟨x,hx,rfl⟩:=yK2 h2;have hi:=(lGs hx).1;have J:rs[i]?=some (rs[i]'(by omega)):=List.getElem?_eq_getElem _;exact ih i _ x J hx (A.2 i r _ h1 J)
 | tup rs cs hl _ ih =>
  intro r hv;obtain⟨rr,rfl,A⟩:=V.tup_inv hv;refine .tup rr (ages cs) (by rw[yZo,A.1,hl]) λi r c h1 h2=>?_;obtain⟨x,hx,rfl⟩:=yK2 h2;have hi:=(lGs hx).1;have J:rs[i]?=some (rs[i]'(by omega)):=List.getElem?_eq_getElem _;exact ih i _ x J hx (A.2 i r _ h1 J)
 | nil t hn =>
  intro r hv;obtain rfl:=V.raw_inv hv;refine .sl none 0 _ [] 0 [] ?_ (by simp) (by simp) (by simp) (by simp) (λg hg=>?_) (λ_ ad ao=>by cases ao) (λal=>absurd rfl al) (λi r c A=>by simp at A)
  ·simp only[hn];exact⟨rfl,rfl,rfl⟩
  ·grind
 | sl g cap t xs cs U af ah hs E ac _ ih =>
  intro r hv;obtain rfl:=V.raw_inv hv;obtain⟨h0,c,T,hh,D⟩:=h.ok g _ (k.sub1 _ _ E);have an:(xs.flatMap IV.cells).length=xs.length*t.es:=yQn xs hs;have av:xs.length*t.es<=cs.length:=Nat.le_trans (Nat.mul_le_mul_right _ ah) ac;have O:c.toList.length=cs.length:=D.1;have key:=V.sl (B:=C.B) (L:=(X.lendS s1 s0).L) (w:=X.w) (some ⟨g,0,none⟩) cap ⟨false,t.cap,t.es⟩ (ages xs) T (c.toList.take (xs.length*t.es));rw[yZo] at key;refine key ?_ af ah (λy hy=>?_) ?_ (λg' ag=>?_) (λhf=>by cases hf) (λ_=>⟨_,rfl,rfl,?_,λi r A=>?_⟩) λi r z A hz=>?_
  ·simp only[U,zXf]
  ·rw[yVm] at hy;obtain⟨x,hx,rfl⟩:=List.mem_map.1 hy;rw[yV3,yZo];exact hs x hx
  ·grind
  ·simp only[U,Cap.app.injEq] at ag;subst ag;refine⟨T,c.size,?_,?_⟩
   ·simp[shq,hh]
   ·grind
  ·show 0+(c.toList.take (xs.length*t.es)).length<=(X.lendS s1 s0).L g;rw[zGc E,List.length_take];omega
  ·rw[Nat.zero_add,yQw hh];grind
  ·rw[zGu] at hz;obtain⟨x,hx,rfl⟩:=yK2 hz;rw[List.getElem?_take] at A;split at A
   ·rename_i hi;have J:cs[i]?=some (cs[i]'(by omega)):=List.getElem?_eq_getElem _;exact ih i _ x J hx (D.2 i r _ A J)
   ·cases A
 | ptr b x cs E hl _ ih =>
  intro r hv;obtain rfl:=V.raw_inv hv;obtain⟨h0,c,T,hh,D⟩:=h.ok b _ (k.sub1 _ _ E);have O:c.toList.length=cs.length:=D.1;refine .cptr ⟨b,0,none⟩ (age x) c.toList rfl ?_ ?_ (λi r A=>?_) λi r z A hz=>?_
  ·rw[yV3,yZo,O,hl]
  ·show 0+c.toList.length<=(X.lendS s1 s0).L b;rw[zGc E];omega
  ·show X.w.cell? ⟨b,0+i,none⟩=some r;rw[Nat.zero_add,yQw hh];simpa using A
  ·rw[yV3] at hz;obtain⟨y,hy,rfl⟩:=yK2 hz;have hi:=(lGs A).1;have J:cs[i]?=some (cs[i]'(by omega)):=List.getElem?_eq_getElem _;exact ih i _ y J hy (D.2 i r _ A J)
end
def Lent (st:ISt)(y x:IV):Prop:=y=x\/∃A,OI st y A/\x=age A
def Lents (st:ISt):List IV->List IV->Prop
 | [],D=>D=[]
 | y::ys,D=>∃x A,D=x::A/\Lent st y x/\Lents st ys A
theorem Lents.v {C:Cx}{X:WS}(h:Good C X):∀ {ys A:List IV} {rs:List Value},Lents X.st ys A->C.vl X rs ys->C.vl X.lend rs A
 | [],A,rs,hl,hv=>by
  simp only[Lents] at hl;subst hl;obtain rfl:rs=[]:=List.eq_nil_of_length_eq_zero hv.1;exact VL.nil
 | y::ys,A,rs,hl,hv=>by
  simp only[Lents] at hl;obtain⟨x,D,rfl,hx,hl⟩:=hl;cases rs with
  | nil=>have:=hv.1;simp at this
  | cons r rs =>
   have h1:=hv.2 0 r y rfl rfl;have h2:C.vl X rs ys:=⟨by have:=hv.1;simpa using this,λi a b O J=>hv.2 (i+1) a b (by simpa using O) (by simpa using J)⟩
   refine VL.cons ?_ (Lents.v h hl h2);rcases hx with rfl|⟨U,E,rfl⟩
   ·exact h.lend_ext.v h1
   ·exact E.v h (zZ9 _) h1
section
variable {P:Program}{gl:Nat->Option IV}{f:FuncId}{args args':List IV}{st:ISt}{K:IV->ISt->Prop}
theorem ICall.freeze (hl:Lents st args args')(h:ICall P gl f args' (zVf st) K):ICall P gl f args st K:=by
 intro B X rs D A hv;subst A;refine (h B X.lend rs D.lend rfl (hl.v D hv)).mono ?_;rintro e w' ⟨v,rfl,X',x,h1,h2,O,J,E⟩;exact⟨v,rfl,X',x,h1,h2,D.lend_ext.trans O,J,E⟩
theorem ICall.fix (h:ICall P gl f args st (λy st'=>∃x s1 s0,LendOk st' s1 s0/\OI s1 y x/\K (age x) s0)):ICall P gl f args st K:=by
 intro B X rs J A hv;refine (h B X rs J A hv).mono ?_;rintro e w' ⟨v,rfl,X',y,rfl,h2,U,O,x,s1,s0,D,E,hK⟩;exact⟨v,rfl,X'.lendS s1 s0,age x,rfl,h2.lendS D,U.trans (h2.lendS_ext D),E.v h2 D O,hK⟩
end
theorem iteT {α:Sort _}{c:Prop} [Decidable c]{a b:α}(h:c=True):ite c a b=a:=if_pos (of_eq_true h)
theorem iteF {α:Sort _}{c:Prop} [Decidable c]{a b:α}(h:c=False):ite c a b=b:=if_neg (of_eq_false h)
theorem laC {α:Type _}{a:α}{l:List α}{f:α->Bool}:(a::l).all f=(f a&&l.all f):=(rfl)
theorem laN {α:Type _}{f:α->Bool}:[].all f=true:=(rfl)
theorem naZ (n:Nat):n+0=n:=(rfl)
theorem lgZ {α:Type _}{a:α}{l:List α}:(a::l)[0]?=some a:=(rfl)
theorem lgS {α:Type _}{a:α}{i:Nat}{l:List α}:(a::l)[i+1]?=l[i]?:=(rfl)
theorem omS {α:Type _}{β:Type _}(a:α)(f:α->β):Option.map f (some a)=some (f a):=(rfl)
theorem nsZ (n:Nat):n-0=n:=(rfl)
theorem itN (n:Nat):((n:Int)).toNat=n:=(rfl)
theorem llC {α:Type _}{a:α}{l:List α}:(a::l).length=l.length+1:=(rfl)
theorem llN {α:Type _}:([]:List α).length=0:=(rfl)
theorem ltS {α:Type _}{a:α}{l:List α}{i:Nat}:List.take (i+1) (a::l)=a::List.take i l:=(rfl)
theorem ltZ {α:Type _}{l:List α}:List.take 0 l=[]:=List.take_zero
theorem lcA {α:Type _}{a:α}{l m:List α}:a::l++m=a::(l++m):=(rfl)
theorem lnA {α:Type _}(l:List α):[]++l=l:=(rfl)
theorem lzC {α:Type _}{a:α}{l:List α}{β:Type _}{b:β}{m:List β}:(a::l).zip (b::m)=(a,b)::l.zip m:=(rfl)
theorem lzN {α:Type _}{β:Type _}{l:List β}:([]:List α).zip l=[]:=(rfl)
attribute [go_sem ↓] iteT iteF
attribute [go_sem] cf yXe laC laN Bool.and_self Bool.true_and Bool.and_true Bool.false_and Bool.and_false Bool.not_true Bool.not_false List.mem_nil_iff if_false if_true beq_self_eq_true Nat.zero_add naZ lgZ lgS omS List.mem_cons or_false false_or or_true true_or nsZ forall_const itN llC llN List.map_cons List.map_nil ltS ltZ List.drop_zero List.drop_succ_cons lcA lnA List.append_nil and_true true_and and_self true_implies lzC lzN
end Go.Iv
theorem Go.Iv.iI {P:Go.Program}{gl:Nat->Option Go.Iv.IV}{f:Go.FuncId}{fn:Go.Func}{code:Go.Code}{args:List Go.Iv.IV}{st:Go.Iv.ISt}{K:Go.Iv.IV->Go.Iv.ISt->Prop}(hf:P.funcs[f]?=some fn)(h:Go.Iv.vcC (Go.Iv.cf P gl [] []) code (Go.Iv.bodyK P gl fn.results.toList K) (Go.Iv.frOf args) st [])(hb:fn.body=some code:=by rfl)(hN:Nat.ble args.length fn.ntmps=true:=by rfl)(hd:Go.Iv.codeOk (Go.Iv.cf P gl [] []) fn.ntmps code=true:=by kernel_rfl):Go.Iv.ICall P gl f args st K:=Go.Iv.ICall.intro (c:=Go.Iv.cf P gl [] []) hf hb (Nat.le_of_ble_eq_true hN) hd h