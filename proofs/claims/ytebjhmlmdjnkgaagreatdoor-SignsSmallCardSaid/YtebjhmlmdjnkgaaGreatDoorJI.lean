/- The layer of ideal values, part Q: from -/
import Derived.Test.YtebjhmlmdjnkgaaGreatDoorJH
import Derived.IntWalk
set_option linter.all false
namespace Go.Iv
open Go
def frOf (args:List IV):Fr:=λt=>match args[t]? with|some x=>.iv x|none=>.iv .junk
@[go_sem] theorem vKe (x:IV)(l:List IV):frOf (x::l) 0=.iv x:=(rfl)
@[go_sem] theorem vKf (x:IV)(l:List IV)(t:Nat):frOf (x::l) (t+1)=frOf l t:=by simp[frOf]
theorem Inv.start {C:Cx}{X:WS}{rs:List Value}{args:List IV}{N:Nat}(hg:Good C X)(hv:C.vl X rs args)(hN:args.length<=N) :
  Inv C X N X (frOf args) [] { tmps:=(⟨rs⟩:Array Value)++Array.replicate (N-(⟨rs⟩:Array Value).size) undef,defers:=[] }:=by
 refine⟨hg,Ext.refl X,⟨λt=>?_,λt t' cs cs' h=>?_⟩,?_,.nil⟩
 ·unfold frOf;cases ha:args[t]? with
  | none=>exact .junk _
  | some x =>
   obtain⟨r,hr,hx⟩:=hv.get ha;have:tm ((⟨rs⟩:Array Value)++Array.replicate (N-(⟨rs⟩:Array Value).size) undef) t=r:=by
    have hl:=(lGs hr).1;unfold tm;rw[Array.getD_eq_getD_getElem?,Array.getElem?_append_left (by simpa using hl)];grind
   simp only;rw[this];exact hx
 ·unfold frOf at h;grind
 ·have:=hv.1;simp;omega
def resI (P:Program)(fr:Fr)(st:ISt):ResultVar->Option IV
 | .tmp t=>ivOf (fr t)
 | .cell a T=>match tyI P T,plOf a (fr a) with
  | some i,some (.box t _)=>match fr t with
   | .box cs=>yK4 i.1 i.2 cs 0
   | _=>none
  | some i,some (.ptr b off)=>match st b with
   | some (.box cs)=>yK4 i.1 i.2 cs off
   | _=>none
  | _,_=>none
def resL (P:Program)(fr:Fr)(st:ISt)(rs:List ResultVar):Option (List IV):=allI (resI P fr st) rs
@[go_sem ↓] theorem wJa (P:Program)(fr:Fr)(st:ISt):resL P fr st []=some []:=(rfl)
@[go_sem ↓] theorem xGv (P:Program)(fr:Fr)(st:ISt)(x:ResultVar)(l:List ResultVar):resL P fr st (x::l)=vQh (resI P fr st x) (resL P fr st l):=by
 unfold resL;rw[allI];cases resI P fr st x<;>cases allI (resI P fr st) l<;>rfl
@[go_sem ↓] theorem vYa (P:Program)(fr:Fr)(st:ISt)(t:Nat):resI P fr st (.tmp t)=ivOf (fr t):=(rfl)
def outI:List IV->IV
 | [x]=>x
 | l=>.tup l
@[go_sem] theorem vYh (x:IV):outI [x]=x:=(rfl)
@[go_sem] theorem vYg (x y:IV)(l:List IV):outI (x::y::l)=.tup (x::y::l):=(rfl)
@[go_sem] theorem vYi:outI []=.tup []:=(rfl)
def outK (K:IV->ISt->Prop)(x:IV)(st:ISt):Prop:=∃st',subSt st' st/\K x st'
theorem yQ0 {K:IV->ISt->Prop}{x:IV}{st:ISt}(h:K x st):outK K x st:=⟨st,subSt.refl st,h⟩
def yY2 (P:Program)(gl:Nat->Option IV)(rs:List ResultVar)(K:IV->ISt->Prop):List Dfd->Fr->ISt->Prop
 | [],fr,st=>yQ6 (resL P fr st rs) λxs=>outK K (outI xs) st
 | .coll _::ds,fr,st=>yY2 P gl rs K ds fr st
 | .call f caps args::ds,fr,st=>match f with
  | .func g=>if entI P g=true then wYl P gl g (args++caps) st λ_ st'=>yY2 P gl rs K ds fr st' else False
  | _=>False
def bodyK (P:Program)(gl:Nat->Option IV)(rs:List ResultVar)(K:IV->ISt->Prop):Kc
 | .normal,fr,st,ds=>yY2 P gl rs K ds fr st
 | .ret,fr,st,ds=>yY2 P gl rs K ds fr st
 | _,_,_,_=>False
section
variable (P:Program)(gl:Nat->Option IV)(rs:List ResultVar)(K:IV->ISt->Prop)(fr:Fr)(st:ISt)(ds:List Dfd)
@[go_sem ↓] theorem wYc:bodyK P gl rs K .normal fr st ds=yY2 P gl rs K ds fr st:=(rfl)
@[go_sem ↓] theorem vVi:bodyK P gl rs K .ret fr st ds=yY2 P gl rs K ds fr st:=(rfl)
@[go_sem ↓] theorem vZo:yY2 P gl rs K [] fr st=yQ6 (resL P fr st rs) λxs=>outK K (outI xs) st:=(rfl)
@[go_sem ↓] theorem wUo (r:Nat):yY2 P gl rs K (.coll r::ds) fr st=yY2 P gl rs K ds fr st:=(rfl)
@[go_sem ↓] theorem xZx (g:FuncId)(caps args:List IV):yY2 P gl rs K (.call (.func g) caps args::ds) fr st=if entI P g=true then wYl P gl g (args++caps) st (λ_ st'=>yY2 P gl rs K ds fr st') else False:=(rfl)
end
section
variable {C:Cx}{X0 X:WS}{N:Nat}{fr:Fr}{a:Act}
theorem uZe {ds:List Dfd}{r:ResultVar}{x:IV}(hI:Inv C X0 N X fr ds a)(h:resI C.P fr X.st r=some x) :
  ∃v,((match r with|.tmp t=>pure (a.tmps.getD t undef)|.cell b T=>(do loadVar T (<- asAddr (a.tmps.getD b undef))):Sem Value)).run C.P X.w=.ok v X.w/\C.v X v x:=by
 cases r with
 | tmp t =>
  obtain⟨hv,_⟩:=wY1 (C:=C) (X:=X) h (hI.fr.slot t);exact⟨_,rfl,hv⟩
 | cell b T =>
  simp only[resI] at h;split at h
  ·rename_i i t off ht hp;obtain⟨ag,sz⟩:=i;split at h
   ·rename_i cs hcs;have hs:=hI.fr.slot b;cases hfb:fr b with
    | box cs' =>
     rw[hfb] at hp hs;simp only[plOf,Option.some.injEq,Pl.box.injEq] at hp;obtain⟨rfl,rfl⟩:=hp;rw[hfb] at hcs;cases hcs;obtain⟨b',c,E,hr,hh,hvl,_⟩:=hs;obtain⟨v,hl,hv⟩:=zZz ht hh hvl h;refine⟨v,?_,hv⟩;have hr':a.tmps.getD b undef=.pointer (some ⟨b',0,none⟩):=hr;simp only[hr',asAddr,Sem.run_bind,Sem.run_pure,Result.andThen_ok,hl]
    | iv y =>
     rw[hfb] at hp;exfalso;cases y with
     | raw u =>
      cases u with
      | pointer p =>
       cases p with
       | none=>cases hp
       | some p =>
        obtain⟨pb,po,ps⟩:=p;cases ps<;>cases hp
      | _=>cases hp
     | _=>cases hp
   ·cases h
  ·rename_i i b' off ht hp;obtain⟨ag,sz⟩:=i;split at h
   ·rename_i cs hcs;have hs:=hI.fr.slot b;cases hfb:fr b with
    | box cs'=>rw[hfb] at hp;cases hp
    | iv y =>
     rw[hfb] at hp hs;cases y with
     | raw u =>
      cases u with
      | pointer p =>
       cases p with
       | none=>cases hp
       | some p =>
        obtain⟨pb,po,ps⟩:=p;cases ps with
        | none =>
         simp only[plOf,Option.some.injEq,Pl.ptr.injEq] at hp;obtain⟨rfl,rfl⟩:=hp;obtain⟨_,c,E,hh,hvl⟩:=hI.good.ok _ _ hcs;obtain⟨v,hl,hv⟩:=zZz ht hh hvl h;refine⟨v,?_,hv⟩;have hr':a.tmps.getD b undef=.pointer (some ⟨pb,po,none⟩):=V.raw_inv hs;simp only[hr',asAddr,Sem.run_bind,Sem.run_pure,Result.andThen_ok,hl]
        | some _=>cases hp
      | _=>cases hp
     | _=>cases hp
   ·cases h
  ·cases h
theorem wWa {ds:List Dfd}(hI:Inv C X0 N X fr ds a):∀ {rs:List ResultVar} {xs:List IV},resL C.P fr X.st rs=some xs →
  ∃vs,(rs.mapM (λr=>match r with|.tmp t=>pure (a.tmps.getD t undef)|.cell b T=>(do loadVar T (<- asAddr (a.tmps.getD b undef))):ResultVar->Sem Value)).run C.P X.w=.ok vs X.w/\C.vl X vs xs
 | [],xs,h=>by
  simp only[wJa,Option.some.injEq] at h;subst h;exact⟨[],by simp,VL.nil⟩
 | r::rs,xs,h=>by
  rw[xGv] at h;cases hx:resI C.P fr X.st r with
  | none=>rw[hx] at h;cases h
  | some x =>
   cases hl:resL C.P fr X.st rs with
   | none=>rw[hx,hl] at h;cases h
   | some l =>
    rw[hx,hl,xWz,Option.some.injEq] at h;subst h;obtain⟨v,h1,h2⟩:=uZe hI hx;obtain⟨vs,h3,h4⟩:=wWa hI hl;refine⟨v::vs,?_,VL.cons h2 h4⟩;rw[List.mapM_cons];simp only[Sem.run_bind,h1,h3,Result.andThen_ok,Sem.run_pure]
theorem xGu {ds:List Dfd}(hI:Inv C X0 N X fr ds a){fn:Func}{xs:List IV}(h:resL C.P fr X.st fn.results.toList=some xs):∃v,(results fn a.tmps).run C.P X.w=.ok v X.w/\C.v X v (outI xs):=by
 obtain⟨vs,hr,hv⟩:=wWa hI h;have hm:(fn.results.mapM (λr=>match r with|.tmp t=>pure (a.tmps.getD t undef)|.cell b T=>(do loadVar T (<- asAddr (a.tmps.getD b undef))):ResultVar->Sem Value)).run C.P X.w=.ok ⟨vs⟩ X.w:=by
  rw[Array.mapM_eq_mapM_toList];simp only[Sem.run_map,hr,Result.andThen_ok]
 unfold results;simp only[Sem.run_bind]
 erw [hm]
 simp only[Result.andThen_ok,Sem.run_pure];refine⟨_,rfl,?_⟩;have hlen:=hv.1
 match xs,vs,hv with
 | [x],[v],hv=>exact hv.2 0 v x rfl rfl
 | [],[],hv=>exact hv.tup
 | x::y::l,v::u::m,hv =>
  rw[dif_neg (by simp)];exact hv.tup
theorem Inv.mark {r:Nat}{d:Deferred}{ds:List Deferred}{es:List Dfd}(h:Inv C X0 N X fr (.coll r::es) a)(hda:a.defers=d::ds):Inv C X0 N (X.obj r (.deferred none) (X.st r)) fr es { a with defers:=ds } /\
  d={ target:=.collected r,args:=#[] }/\(Instr.takeDeferred r).run C.P X.w=.ok [] (X.obj r (.deferred none) (X.st r)).w/\(X.obj r (.deferred none) (X.st r)).st=X.st:=by
 have hds:=h.ds;rw[hda] at hds;cases hds with
 | cons hd hs hnn =>
  obtain⟨hd,hh,hst,hn⟩:=hd;subst hd;have hnc:∀c T f,Obj.deferred (some [])≠.cells c T f:=by intro c T f hc;cases hc
  have hnc':∀c T f,Obj.deferred none≠.cells c T f:=by intro c T f hc;cases hc
  have hstE:(X.obj r (.deferred none) (X.st r)).st=X.st:=by
   funext b;simp only[WS.obj];split
   ·grind
   ·rfl
  have keep:∀ {ds:List Deferred} {es:List Dfd},DsOk C X X0.w.heap.size ds es->Dfd.coll r ∉ es->DsOk C (X.obj r (.deferred none) (X.st r)) X0.w.heap.size ds es:=by
   intro ds es hs hnr
   induction hs with
   | nil=>exact .nil
   | cons h' _ hn' ih =>
    refine .cons ?_ (ih (λhm=>hnr (.tail _ hm))) hn';rename_i d' e' _ _ _;cases e' with
    | call f caps args =>
     obtain⟨rs,rs',hd,h1,h2⟩:=h';exact⟨rs,rs',hd,⟨h1.1,λi r x hr hx=>zY0 hh hnc hnc' (h1.2 i r x hr hx)⟩,⟨h2.1,λi r x hr hx=>zY0 hh hnc hnc' (h2.2 i r x hr hx)⟩⟩
    | coll r' =>
     obtain⟨hd,h1,h2,h3⟩:=h';have hne:r'≠r:=by rintro rfl;exact hnr (.head _)
     exact⟨hd,(yXf hh hne).trans h1,by rw[hstE];exact h2,h3⟩
  refine⟨⟨h.good.obj hh hnc hnc' (λi hi=>by rw[hst] at hi;cases hi),h.ext.obj hh hnc hnc' (.inl hn),⟨λt=>(h.fr.slot t).mono (λ_ _=>zY0 hh hnc hnc') ?_,h.fr.inj⟩,h.size,keep hs (hnn r rfl)⟩,rfl,?_,hstE⟩
  ·intro b cs hs hr hb hL hlt;have hbr:b≠r:=by
    rintro rfl;have hsl:=h.fr.slot t;rw[hs] at hsl;obtain⟨b',c,T,hr',hh',_⟩:=hsl;grind
   exact⟨yXf hh hbr,rfl,by rw[hstE];exact hb⟩
  ·have h1:(getObj r).run C.P X.w=.ok (.deferred (some [])) X.w:=by simp[getObj,Sem.run,hh]
   have h2:(setObj r (.deferred none)).run C.P X.w=.ok () { X.w with heap:=X.w.heap.setIfInBounds r (.deferred none) }:=by simp[setObj,Sem.run,hh]
   unfold Instr.takeDeferred;simp only[Sem.run_bind,h1,Result.andThen_ok,h2,Sem.run_pure];rfl
theorem leaves {c:Cf}{B:Nat}{X0:WS}{N:Nat}{fn:Func}{K:IV->ISt->Prop}{fr:Fr}:∀(es:List Dfd) (X:WS) (a:Act),Inv (c.cx B) X0 N X fr es a->yY2 c.P c.gl fn.results.toList K es fr X.st →
  LeavesInM Fence.wide 0 c.P fn a.tmps (λe w'=>∃v,e=.returned v/\ends ⟨c.P,c.gl,B⟩ X0 K v w') a.defers .returning X.w
 | [],X,a,hI,h=>by
  have hda:a.defers=[]:=by
   have:=hI.ds;generalize a.defers=das at this;cases this;rfl
  rw[hda];obtain⟨xs,hxs,st',hsub,hK⟩:=yQ4.1 h;obtain⟨v,hr,hv⟩:=xGu (C:=c.cx B) hI hxs;obtain⟨hg',he'⟩:=hI.good.sub hsub;exact⟨v,hr,v,rfl,{ X with st:=st' },_,rfl,hg',hI.ext.trans he',he'.v hv,hK⟩
 | .coll r::es,X,a,hI,h=>by
  obtain⟨d,das,hda⟩:∃d das,a.defers=d::das:=by
   have:=hI.ds;generalize a.defers=das at this;cases this;exact⟨_,_,rfl⟩
  obtain⟨hI',hd,htake,hstE⟩:=hI.mark hda;rw[hda];refine⟨by simp,.inl ⟨r,_,by rw[hd],htake,?_⟩⟩;exact leaves es _ { a with defers:=das } hI' (by rw[hstE];exact h)
 | .call f caps args::es,X,a,hI,h=>by
  obtain⟨d,das,hda⟩:∃d das,a.defers=d::das:=by
   have:=hI.ds;generalize a.defers=das at this;cases this;exact⟨_,_,rfl⟩
  have hds:=hI.ds;rw[hda] at hds;cases hds with
  | cons hd hs _ =>
   obtain⟨rs,rs',rfl,h1,h2⟩:=hd;rw[hda];cases f with
   | func g =>
    rw[xZx] at h;split at h
    ·rename_i he;have hfn:∃fnn,c.P.funcs[g]?=some fnn/\fnn.name ≠ "runtime.NumGoroutine" /\ ¬ fnn.body.isNone=true:=by
      unfold entI at he;cases hf:c.P.funcs[g]? with
      | none=>simp[hf] at he
      | some fnn =>
       simp only[hf,bAt,bne_iff_ne,ne_eq] at he;exact⟨fnn,rfl,he.1,by have:=he.2;cases hq:fnn.body<;>simp_all⟩
     obtain⟨fnn,hf,hnn,hbody⟩:=hfn;refine⟨by simp,.inr ⟨λh=>by simp[Fence.wide] at h,.func g,⟨rs⟩,g,⟨rs'++rs⟩,rfl,?_,λ_ _=>trivial,?_⟩⟩
     ·simp only[invoke,callFunc,Sem.run_bind,run_program,Result.andThen_ok,hf];rw[if_neg (by simpa using hnn),if_neg hbody];simp
     ·refine (h B X (rs'++rs) .returning hI.good rfl (h2.append h1)).mono ?_;rintro e u' w' ⟨rfl,v,rfl,X',x,rfl,hg',he',_,hK⟩;have hI':Inv (c.cx B) X0 N X' fr es { a with defers:=das }:=by
       have hI0:Inv (c.cx B) X0 N X fr es { a with defers:=das }:=⟨hI.good,hI.ext,hI.fr,hI.size,hs⟩
       exact hI0.ext' he' hg'
      exact leaves es X' { a with defers:=das } hI' hK
    ·exact h.elim
   | _=>exact h.elim
end
theorem ICall.intro {c:Cf}{f:FuncId}{fn:Func}{code:Code}{args:List IV}{st:ISt}{K:IV->ISt->Prop}(hf:c.P.funcs[f]?=some fn)(hb:fn.body=some code)
  (hN:args.length<=fn.ntmps) (hd:codeOk c fn.ntmps code=true) (h:vcC c code (bodyK c.P c.gl fn.results.toList K) (frOf args) st []):ICall c.P c.gl f args st K:=by
 intro B X rs hg hst hv;subst hst;refine (callsIn_wide (n:=0)).1 (callsIn_of_wp_marks hf hb trivial ?_);have hs:=xG3 (N:=fn.ntmps) code c B X none 0 (λ_=>rfl) _ X (frOf args) [] _ hd (Inv.start hg hv hN) h;refine wpIn_mono hs ?_;rintro e a' w' ⟨X',fr',ds',rfl,hI,hq⟩;cases e with
 | normal=>exact leaves ds' X' a' hI hq
 | ret=>exact leaves ds' X' a' hI hq
 | _=>exact hq.elim
def LoopC (c:Cf)(b:Code)(Q:Kc)(fr:Fr)(st:ISt)(ds:List Dfd):Prop:=LoopV (λfr st ds Q=>vcC c b Q fr st ds) Q fr st ds .mk .mk
def RangeC (c:Cf)(f:Fn)(first caps:List IV)(ps:Array Tmp)(a b:Code)(Q:Kc)(fr:Fr)(st:ISt)(ds:List Dfd):Prop :=
 wX3 c.P c.gl f first caps ps.size (λaL st' R=>vcC { c with rd:=true } a (zV6 (vcC { c with rd:=true } b) R) (yY4 (xQu fr) (ps.toList.zip aL)) st' []) (λe st' r=>Q e fr st' (.coll r::ds)) st .mk .mk
section
variable (c:Cf)(Q:Kc)(k:Fr->ISt->List Dfd->Prop)(fr:Fr)(st:ISt)(ds:List Dfd)(a b:Code)(id id' l:Nat)(ops:Array Oper)(x:Operand)
@[go_sem ↓] theorem vY3:vcC c .skip Q fr st ds=Q .normal fr st ds:=(rfl)
@[go_sem ↓] theorem vZ9:vcC c (.region id ops false) Q fr st ds=yJb { c with dr:=false } ops.toList ops.toList (Q .normal) Ad.none_ fr st ds:=(rfl)
@[go_sem ↓] theorem vY6:vcC c (.region id ops true) Q fr st ds=zKn c ops (zJ1 c.ord id) (Q .normal) fr st ds:=(rfl)
@[go_sem ↓] theorem vXh (g:Operand)(ps:Array Tmp):vcC c (.rangeFunc g ps a b) Q fr st ds=if c.rd=true then False else yQ6 (evV c.gl fr g) λv=>fnV v λf first caps =>
   RangeC c f first caps ps a b Q fr st ds:=(rfl)
@[go_sem ↓] theorem uZ3:vcC c (.seq a b) Q fr st ds=vcC c a (seqK (vcC c b Q) Q) fr st ds:=(rfl)
@[go_sem ↓] theorem vY7:vcC c (.cond x a b) Q fr st ds=yQ6 (evV c.gl fr x) λv=>zZm v λt=>yGf t (vcC c a Q fr st ds) (vcC c b Q fr st ds) .mk .mk:=(rfl)
@[go_sem ↓] theorem vXi:vcC c (.block id a) Q fr st ds=vcC c a (zK4 id Q) fr st ds:=(rfl)
@[go_sem ↓] theorem vY4:vcC c (.loop a) Q fr st ds=LoopC c a Q fr st ds:=(rfl)
@[go_sem ↓] theorem vY5:vcC c (.exit id) Q fr st ds=Q (.exit id) fr st ds:=(rfl)
@[go_sem ↓] theorem uZ4:vcC c .ret Q fr st ds=Q .ret fr st ds:=(rfl)
@[go_sem ↓] theorem wGd:seqK k Q .normal fr st ds=k fr st ds:=(rfl)
@[go_sem ↓] theorem wW1:seqK k Q .normal=k:=(rfl)
@[go_sem ↓] theorem vXz:seqK k Q (.exit id) fr st ds=Q (.exit id) fr st ds:=(rfl)
@[go_sem ↓] theorem vY9:seqK k Q .ret fr st ds=Q .ret fr st ds:=(rfl)
@[go_sem ↓] theorem vQp:zK4 id Q (.exit id') fr st ds=if id'=id then Q .normal fr st ds else Q (.exit id') fr st ds:=(rfl)
@[go_sem ↓] theorem wKu:zK4 id Q .normal fr st ds=Q .normal fr st ds:=(rfl)
@[go_sem ↓] theorem vX8:zK4 id Q .ret fr st ds=Q .ret fr st ds:=(rfl)
end
@[go_sem ↓] theorem wWv (J:Nat->Fr->ISt->List Dfd->Prop)(m:Nat)(Q:Kc)(fr:Fr)(st:ISt)(ds:List Dfd):xUs J m Q .normal fr st ds=∃m',m'<m/\J m' fr st ds:=(rfl)
@[go_sem ↓] theorem vZm (J:Nat->Fr->ISt->List Dfd->Prop)(m id:Nat)(Q:Kc)(fr:Fr)(st:ISt)(ds:List Dfd):xUs J m Q (.exit id) fr st ds=Q (.exit id) fr st ds:=(rfl)
theorem LoopV.intro {body:Fr->ISt->List Dfd->Kc->Prop}{Q:Kc}{fr:Fr}{st:ISt}{ds:List Dfd}(J:Nat->Fr->ISt->List Dfd->Prop)(m:Nat)(h0:J m fr st ds)
  (h:∀m fr' st' ds',J m fr' st' ds'->body fr' st' ds' (xUs J m Q)):LoopV body Q fr st ds .mk .mk:=⟨J,⟨m,h0⟩,h⟩
@[go_sem] theorem vK8 (fr:Fr)(d:Nat)(run skip:Fr->Prop)(k:Lock run)(l:Lock skip):yVa fr d false (.iv (.raw (.bool true))) run skip k l=Hold true (skip (fr.put d (.iv (.raw (.bool true))))):=by
 unfold yVa;simp[Hold]
@[go_sem] theorem vK7 (fr:Fr)(d:Nat)(run skip:Fr->Prop)(k:Lock run)(l:Lock skip):yVa fr d true (.iv (.raw (.bool false))) run skip k l=Hold true (skip (fr.put d (.iv (.raw (.bool false))))):=by
 unfold yVa;simp[Hold]
@[go_sem] theorem vWb (p:Prop):Hold true p=p:=(rfl)
attribute [go_sem ↓] xXe
theorem yVk {fr:Fr}{d:Nat}{want b:Bool}{run skip:Fr->Prop}{k:Lock run}{l:Lock skip}(h1:b=want->run (fr.put d (.iv (.raw (.bool want)))))(h2:b=!want->skip (fr.put d (.iv (.raw (.bool !want))))) :
  yVa fr d want (.iv (.raw (.bool b))) run skip k l:=⟨h1,h2⟩
theorem yJ4 {b:Bool}{p q:Prop}{k:Lock p}{l:Lock q}(h1:b=true->p)(h2:b=false->q):yGf b p q k l:=⟨h1,h2⟩
def cf (P:Program)(gl:Nat->Option IV)(esc:List Nat)(ord:List (Nat×List Nat):=[])(frz:List Nat:=[]):Cf:={ P:=P,gl:=gl,esc:=esc,rd:=false,dr:=false,ord:=ord,frz:=frz }
def cfp (P:Program)(gl:Nat->Option IV)(esc:List Nat)(ord:List (Nat×List Nat))(pf:FuncId->List IV->Option IV)
  (pok:∀g aL v,pf g aL=some v->entI P g=true/\∀st,ICall P gl g aL st (λr st'=>r=v/\st'=st)):Cf:={ P:=P,gl:=gl,esc:=esc,rd:=false,dr:=false,ord:=ord,pf:=pf,pok:=pok }
attribute [go_sem] cfp
theorem w64 {n:Int}(h0:-9223372036854775808<=n)(h1:n<=9223372036854775807):IntKind.i64.wrap n=n:=IntWalk.i64_in _ (by omega)
def ctrK (I:Fr->ISt->List Dfd->Prop)(Q:Kc):Kc
 | .normal,fr,st,ds=>I fr st ds
 | e,fr,st,ds=>Q e fr st ds
def vXr (Q:Kc):Kc
 | .normal,_,_,_=>False
 | e,fr,st,ds=>Q e fr st ds
section
variable (I:Fr->ISt->List Dfd->Prop)(Q:Kc)(fr:Fr)(st:ISt)(ds:List Dfd)(id:Nat)
@[go_sem ↓] theorem vQf:ctrK I Q .normal fr st ds=I fr st ds:=(rfl)
@[go_sem ↓] theorem vVc:ctrK I Q (.exit id) fr st ds=Q (.exit id) fr st ds:=(rfl)
@[go_sem ↓] theorem vUs:ctrK I Q .ret fr st ds=Q .ret fr st ds:=(rfl)
@[go_sem ↓] theorem vZc:vXr Q (.exit id) fr st ds=Q (.exit id) fr st ds:=(rfl)
end
@[go_sem] theorem yZ0 (l:List UInt8):ByteArray.size ⟨l.toArray⟩=l.length:=by simp[ByteArray.size]
def resD (i:Bool×Nat)(off:Nat):Option IObj->Option IV
 | some (.box cs)=>yK4 i.1 i.2 cs off
 | _=>none
@[go_sem] theorem vYb (i:Bool×Nat)(off:Nat)(cs:List IV):resD i off (some (.box cs))=yK4 i.1 i.2 cs off:=(rfl)
def resC (i:Option (Bool×Nat))(s:SV)(st:ISt):Option IV :=
 match i,s with
 | some i,.box cs=>yK4 i.1 i.2 cs 0
 | some i,.iv (.raw (.pointer (some ⟨b,off,none⟩)))=>resD i off (st b)
 | _,_=>none
@[go_sem] theorem vYd (i:Bool×Nat)(cs:List IV)(st:ISt):resC (some i) (.box cs) st=yK4 i.1 i.2 cs 0:=(rfl)
@[go_sem] theorem vYc (i:Bool×Nat)(b off:Nat)(st:ISt):resC (some i) (.iv (.raw (.pointer (some ⟨b,off,none⟩)))) st=resD i off (st b):=(rfl)
@[go_sem ↓] theorem vZe (P:Program)(fr:Fr)(st:ISt)(a:Nat)(T:TypeId):resI P fr st (.cell a T)=resC (tyI P T) (fr a) st:=by
 simp only[resI];cases tyI P T with
 | none=>rfl
 | some i =>
  cases hf:fr a with
  | box cs=>simp only[plOf,hf,resC]
  | iv x =>
   cases x with
   | raw v =>
    cases v with
    | pointer p =>
     cases p with
     | none=>rfl
     | some p =>
      obtain⟨b,off,sp⟩:=p;cases sp with
      | none =>
       rcases hq:st b with _|o
       ·simp only[plOf,resC,resD,hq]
       ·cases o<;>simp only[plOf,resC,resD,hq]
      | some _=>rfl
    | _=>rfl
   | _=>rfl
theorem yQf {c q:Prop}(h:c->q):giv c q:=h
theorem yZg {c q:Prop}(h:c)(k:q):chk c q:=⟨h,k⟩
theorem yQb {K:IV->ISt->Prop}{x:IV}{st st':ISt}(h:subSt st' st)(k:K x st'):outK K x st:=⟨st',h,k⟩
theorem yQz {st:ISt}{b:Nat}{o:Option IObj}(h:st b=none):subSt st (st.put b o):=λc x hc=>by
 rw[ISt.put_apply];split
 ·rename_i hb;rw[hb,h] at hc;cases hc
 ·exact hc
theorem yQ9 {st:ISt}{b c:Nat}{o:Option IObj}(h:c≠b):st.put b o c=st c:=by rw[ISt.put_apply,if_neg h]
theorem wQw {dst:Option Nat}{K K':Kt}(hK:∀ad fr st ds,K ad fr st ds->K' ad fr st ds){ad:Ad}{fr:Fr}{pr:PR}{st:ISt}{ds:List Dfd}:finK dst K ad fr pr st ds->finK dst K' ad fr pr st ds:=by
 cases pr<;>cases dst<;>simp only[finK]<;>first|exact hK _ _ _ _|exact id|(split<;>first|exact id|exact hK _ _ _ _)
theorem yYz {c:Cf}{ops:List Oper}{Q Q':Fr->ISt->List Dfd->Prop}(hQ:∀fr st ds,Q fr st ds->Q' fr st ds):∀ {l:List Oper} {ad:Ad} {fr:Fr} {st:ISt} {ds:List Dfd},yJb c ops l Q ad fr st ds->yJb c ops l Q' ad fr st ds
 | [],_,_,_,_,h=>hQ _ _ _ h
 | o::l,ad,fr,st,ds,h=>by
  have hk:∀ad fr st ds,yJb c ops l Q ad fr st ds->yJb c ops l Q' ad fr st ds:=λ_ _ _ _=>yYz hQ;have hfin:∀ad fr pr st ds,finK o.dst (yJb c ops l Q) ad fr pr st ds->finK o.dst (yJb c ops l Q') ad fr pr st ds:=λ_ _ _ _ _=>wQw hk;clear hk;unfold yJb at h ⊢;split
  ·rename_i hg;rw[hg] at h;exact yYy (λ_ _ _=>hfin _ _ _ _ _) h
  ·rename_i j want hg;rw[hg] at h;simp only at h;split
   ·rename_i d hd;rw[hd] at h;simp only at h;unfold yVa at h ⊢;split
    ·rename_i b hs;rw[hs] at h;exact⟨λhb=>yYy (λ_ _ _=>hfin _ _ _ _ _) (h.1 hb),λhb=>hfin ad _ (.val (.raw undef)) st ds (h.2 hb)⟩
    ·rename_i b hs;rw[hs] at h;exact hfin ad _ (.val (.raw undef)) st ds h
    ·rename_i hs hs2;split at h
     ·rename_i b hs';exact absurd hs' (hs b)
     ·rename_i b hs';exact absurd hs' (hs2 b)
     ·exact h
   ·rename_i hd;rw[hd] at h;exact h
theorem xJ3:∀(code:Code){c:Cf}{Q Q':Kc},(∀e fr st ds,Q e fr st ds->Q' e fr st ds)->∀ {fr:Fr}{st:ISt}{ds:List Dfd},vcC c code Q fr st ds->vcC c code Q' fr st ds:=by
 intro code
 induction code with
 | skip=>intro c Q Q' h fr st ds;exact h _ _ _ _
 | region id ops dr =>
  intro c Q Q' h fr st ds;cases dr with
  | false=>exact yYz (h .normal)
  | true =>
   intro hh;change zKn c ops (zJ1 c.ord id) _ fr st ds at hh;change zKn c ops (zJ1 c.ord id) _ fr st ds;generalize zJ1 c.ord id=o at hh ⊢
   match o,hh with
   | none,hh=>exact yYz (h .normal) hh
   | some [],hh=>exact xQk (h .normal) _ _ hh
   | some (i::l),hh=>exact yYz (h .normal) hh
 | seq a b iha ihb =>
  intro c Q Q' h fr st ds;refine iha (λe fr st ds=>?_);cases e<;>first|exact ihb h|exact h _ _ _ _
 | cond x a b iha ihb =>
  intro c Q Q' h fr st ds;exact yZa λ_=>zJo λ_=>zJn (iha h) (ihb h)
 | block id a ih =>
  intro c Q Q' h fr st ds;refine ih (λe fr st ds=>?_);cases e<;>first|exact h _ _ _ _|(simp only[zK4];split<;>exact h _ _ _ _)
 | loop a ih =>
  intro c Q Q' h fr st ds hh;obtain⟨J,h0,hs⟩:=hh;refine⟨J,h0,λm fr' st' ds' hj=>ih (λe fr st ds=>?_) (hs m fr' st' ds' hj)⟩;cases e<;>first|exact id|exact h _ _ _ _
 | rangeFunc g ps asg b _ _ =>
  intro c Q Q' h fr st ds;refine yJu id (yZa λ_=>xX3 λ_ _ _=>?_);rintro⟨g,hf,he,σ,xs,k0,fin,I,S,up,hu,h1,h2,h3,h4,h5,h6⟩;exact⟨g,hf,he,σ,xs,k0,fin,I,S,up,hu,h1,h2,h3,h4,λk st r hk hi=>h _ _ _ _ (h5 k st r hk hi),λe st r hi=>h _ _ _ _ (h6 e st r hi)⟩
 | exit id=>intro c Q Q' h fr st ds;exact h _ _ _ _
 | scope a ih =>
  intro c Q Q' h fr st ds;refine yJu id (ih (λe fr st ds=>?_));cases e<;>first|exact h _ _ _ _|exact id
 | label l=>intro c Q Q' h fr st ds;exact h _ _ _ _
 | goto l=>intro c Q Q' h fr st ds;exact h _ _ _ _
 | ret=>intro c Q Q' h fr st ds;exact h _ _ _ _
 | refuse w=>intro c Q Q' h fr st ds hh;exact hh.elim
theorem LoopC.ctr {c:Cf}{b:Code}{Q:Kc}{fr:Fr}{st:ISt}{ds:List Dfd}(n:Nat)(I:Nat->Fr->ISt->List Dfd->Prop)(h0:I 0 fr st ds)
  (step:∀k fr' st' ds',k<n->I k fr' st' ds'->vcC c b (ctrK (I (k+1)) Q) fr' st' ds') (last:∀fr' st' ds',I n fr' st' ds'->vcC c b (vXr Q) fr' st' ds') :
  LoopC c b Q fr st ds:=by
 refine LoopV.intro (λm fr st ds=>∃k,m=n-k/\k<=n/\I k fr st ds) n ⟨0,rfl,Nat.zero_le _,h0⟩ ?_;rintro m fr' st' ds' ⟨k,rfl,hk,hi⟩;rcases Nat.lt_or_ge k n with hlt|hge
 ·refine xJ3 b (λe fr st ds=>?_) (step k fr' st' ds' hlt hi);cases e with
  | normal=>exact λh=>⟨n-(k+1),by omega,k+1,rfl,hlt,h⟩
  | _=>exact id
 ·have:k=n:=by omega
  subst this;refine xJ3 b (λe fr st ds=>?_) (last fr' st' ds' hi);cases e with
  | normal=>exact False.elim
  | _=>exact id
theorem LoopC.dec {c:Cf}{b:Code}{Q:Kc}{fr:Fr}{st:ISt}{ds:List Dfd}(n:Nat)(I:Nat->Fr->ISt->List Dfd->Prop)(h0:I n fr st ds)
  (step:∀k fr' st' ds',I k fr' st' ds'->vcC c b (xUs I k Q) fr' st' ds'):LoopC c b Q fr st ds:=⟨I,⟨n,h0⟩,step⟩
theorem RangeC.intro {c:Cf}{g:FuncId}{first caps:List IV}{ps:Array Tmp}{a b:Code}{Q:Kc}{fr:Fr}{st:ISt}{ds:List Dfd}(xs:Nat->List IV->Prop)(len:Nat)(I:Nat->ISt->Prop)(S:Exit->ISt->Prop)
  (he:entI c.P g=true) (hl:∀k a,xs k a->a.length=ps.size) (h0:I 0 st)
  (round:∀k aL st',xs k aL->I k st'->vcC { c with rd:=true } a (zV6 (vcC { c with rd:=true } b) (xUi (I (k+1)) S)) (yY4 (xQu fr) (ps.toList.zip aL)) st' [])
  (iter:IterC c.P c.gl g first caps xs len I) (done:∀st' r,I len st'->Q .normal fr st' (.coll r::ds)) (stop:∀e st' r,S e st'->Q e fr st' (.coll r::ds)) :
  RangeC c (.func g) first caps ps a b Q fr st ds:=⟨g,rfl,he,Nat,wG7 (wWk xs),0,(·=len),I,S,noUp,λ_ _ _ _ _ _ _ _ h=>h.elim,λk a _ _ h=>hl k a h.1.1,h0,λk a e k' s hk hd hi=>by
   obtain⟨⟨hx,rfl⟩,rfl⟩:=hk;have hn:(λs'=>∃s1,I (k+1) s1/\ISt.disj (λ_=>none) s1/\s'=s1.add (λ_=>none))=I (k+1):=by
    funext s';exact propext ⟨λ⟨s1,h1,_,h2⟩=>h2▸h1,λh=>⟨s',h,λ_ hb=>absurd rfl hb,rfl⟩⟩
   rw[hn];exact round k a s hx hi,iter.lent.up.toH,λk st' r hk hi=>done st' r (hk▸hi),stop⟩
theorem RangeL.intro {c:Cf}{g:FuncId}{first caps:List IV}{ps:Array Tmp}{a b:Code}{Q:Kc}{fr:Fr}{st:ISt}{ds:List Dfd}(lk:Nat->List IV->ISt->Prop)(len:Nat)(I:Nat->ISt->Prop)(S:Exit->ISt->Prop)
  (he:entI c.P g=true) (hl:∀k a e,lk k a e->a.length=ps.size) (h0:I 0 st)
  (round:∀k aL e s,lk k aL e->e.disj s->I k s->vcC { c with rd:=true } a (zV6 (vcC { c with rd:=true } b) (xUi (λs'=>∃s1,I (k+1) s1/\e.disj s1/\s'=s1.add e) S)) (yY4 (xQu fr) (ps.toList.zip aL)) (s.add e) [])
  (iter:IterL c.P c.gl g first caps lk len I) (done:∀st' r,I len st'->Q .normal fr st' (.coll r::ds)) (stop:∀e st' r,S e st'->Q e fr st' (.coll r::ds)) :
  RangeC c (.func g) first caps ps a b Q fr st ds:=⟨g,rfl,he,Nat,wG7 lk,0,(·=len),I,S,noUp,λ_ _ _ _ _ _ _ _ h=>h.elim,λk a e _ h=>hl k a e h.1,h0,λk a e k' s hk hd hi=>by
   obtain⟨hk,rfl⟩:=hk;exact round k a e s hk hd hi,iter.up.toH,λk st' r hk hi=>done st' r (hk▸hi),stop⟩
mutual
def age:IV->IV
 | .raw v=>.raw v
 | .agg cs=>.agg (ages cs)
 | .tup vs=>.tup (ages vs)
 | .fn f a b=>.fn f (ages a) (ages b)
 | .sl t xs=>.sl ⟨false,t.cap,t.es⟩ (ages xs)
 | .cptr x=>.cptr (age x)
 | .junk=>.junk
def ages:List IV->List IV
 | []=>[]
 | x::l=>age x::ages l
end
theorem yVn:∀l:List IV,ages l=l.map age
 | []=>rfl
 | x::l=>by simp only[ages,List.map_cons,yVn l]
theorem yZq (l:List IV):(ages l).length=l.length:=by rw[yVn,List.length_map]
theorem yJz {l:List IV}{i:Nat}{y:IV}(h:(ages l)[i]?=some y):∃x,l[i]?=some x/\y=age x:=by
 rw[yVn,List.getElem?_map,Option.map_eq_some_iff] at h;grind
theorem yVd (x:IV):(age x).cells=ages x.cells:=by
 cases x<;>simp only[age,IV.cells,ages]
theorem zYc:∀l:List IV,(ages l).flatMap IV.cells=ages (l.flatMap IV.cells)
 | []=>rfl
 | x::l=>by
  simp only[ages,List.flatMap_cons,zYc l,yVd];rw[yVn,yVn,yVn,List.map_append]
theorem V.aged {B B':Nat}{L:Nat->Nat}{w:World}{r:Value}{x:IV}(h:V B L w r x):V B' L w r (age x):=by
 induction h with
 | raw v h=>exact .raw v h
 | junk v=>exact .junk v
 | agg rs cs hl _ ih =>
  exact .agg rs (ages cs) (by rw[yZq];exact hl) λi r c hr hc=>by
   obtain⟨x,hx,rfl⟩:=yJz hc;grind
 | tup rs cs hl _ ih =>
  exact .tup rs (ages cs) (by rw[yZq];exact hl) λi r c hr hc=>by
   obtain⟨x,hx,rfl⟩:=yJz hc;grind
 | fn f rs cs hl _ rs' cs' hl' _ ih ih' =>
  exact .fn f rs (ages cs) (by rw[yZq];exact hl) (λi r c hr hc=>by
   obtain⟨x,hx,rfl⟩:=yJz hc;exact ih i r x hr hx) rs' (ages cs') (by rw[yZq];exact hl') λi r c hr hc=>by
   obtain⟨x,hx,rfl⟩:=yJz hc;exact ih' i r x hr hx
 | sl a cap t xs T vs hcap hlen hcl hs hvl hroom hfresh hplace _ ih =>
  have key:=V.sl (B:=B') (L:=L) (w:=w) a cap ⟨false,t.cap,t.es⟩ (ages xs) T vs;rw[yZq] at key;refine key hcap hlen hcl (λy hy=>?_) hvl hroom (λh=>by cases h) (λhne=>hplace λh=>hne (by rw[h];rfl)) λi r c hr hc=>?_
  ·rw[yVn] at hy;obtain⟨x,hx,rfl⟩:=List.mem_map.1 hy;rw[yVd,yZq];exact hs x hx
  ·rw[zYc] at hc;obtain⟨x,hx,rfl⟩:=yJz hc;grind
 | cptr ad x vs hsp hvl hL hc _ ih =>
  refine .cptr ad (age x) vs hsp (by rw[yVd,yZq];exact hvl) hL hc λi r c hr hc=>?_;rw[yVd] at hc;obtain⟨y,hy,rfl⟩:=yJz hc;grind
theorem VL.aged {B B':Nat}{L:Nat->Nat}{w:World}{rs:List Value}{xs:List IV}(h:VL B L w rs xs):VL B' L w rs (ages xs) :=
 ⟨by rw[yZq];exact h.1,λi r c hr hc=>by
  obtain⟨x,hx,rfl⟩:=yJz hc;exact (h.2 i r x hr hx).aged⟩
def yYr:IV->Prop
 | .raw _=>True
 | .junk=>True
 | .sl t _=>t.cap=.nil
 | _=>False
theorem V.flat' {B B':Nat}{L L':Nat->Nat}{w w':World}{r:Value}{x:IV}(h:V B L w r x)(hf:yYr x):V B' L' w' r x:=by
 cases h with
 | raw _ h=>exact .raw _ h
 | junk _=>exact .junk _
 | sl a cap t xs T vs hcap hlen hcl hs hvl hroom hfresh hplace h =>
  have hn:t.cap=.nil:=hf;rw[hn] at hcap;obtain⟨rfl,hl,rfl⟩:=hcap;obtain rfl:xs=[]:=List.eq_nil_of_length_eq_zero hl;obtain rfl:vs=[]:=List.eq_nil_of_length_eq_zero (by rw[hvl];simp);exact .sl none 0 t [] T [] (by rw[hn];exact⟨rfl,rfl,rfl⟩) hlen hcl hs hvl (λg hg=>by rw[hn] at hg;cases hg) (λ_ ad had=>by cases had) (λhne=>absurd rfl hne) (λi r c hr=>by simp at hr)
 | _=>exact hf.elim
theorem VL.flat' {B B':Nat}{L L':Nat->Nat}{w w':World}{rs:List Value}{xs:List IV}(h:VL B L w rs xs)(hf:∀x∈xs,yYr x):VL B' L' w' rs xs :=
 ⟨h.1,λi r c hr hc=>(h.2 i r c hr hc).flat' (hf c (lMg hc))⟩
def wQu:IObj->Prop
 | .box cs=>∀c∈cs,yYr c
 | .front _ _=>True
 | .map _ es=>∀e∈es,yYr e.2
 | .loop _ _=>False
 | .mapx _ _=>True
 | .iter _ _ _ _=>True
def flatSt (st:ISt):Prop:=∀b o,st b=some o->wQu o
theorem flatSt.put {st:ISt}(h:flatSt st){b:Nat}{o:Option IObj}(ho:∀x,o=some x->wQu x):flatSt (st.put b o):=λc x hc=>by
 rw[ISt.put_apply] at hc;split at hc
 ·exact ho x hc
 ·exact h c x hc
theorem ObjOk.flat {C C':Cx}{X Y:WS}{b:Nat}{o:IObj}(h:ObjOk C X b o)(hf:wQu o)(hb:Y.w.heap[b]?=X.w.heap[b]?)(hL:Y.L b=X.L b):ObjOk C' Y b o:=by
 cases o with
 | box cs =>
  obtain⟨h0,c,T,hh,hv⟩:=h;exact⟨hL.trans h0,c,T,hb.trans hh,hv.flat' hf⟩
 | front n s =>
  obtain⟨c,T,hh,h2,h3⟩:=h;exact⟨c,T,hb.trans hh,hL.trans h2,by rw[hL];exact h3⟩
 | map k es =>
  obtain⟨h0,hk,hnd,e,cl,hh,h1,h2,h3,h4⟩:=h;exact⟨hL.trans h0,hk,hnd,e,cl,hb.trans hh,h1,h2.flat' (λx hx=>by
   obtain⟨p,hp,rfl⟩:=List.mem_map.1 hx;exact hf p hp),h3,h4⟩
 | loop r xs=>exact hf.elim
 | mapx e c=>exact⟨hL.trans h.1,hb.trans h.2⟩
 | iter m s e c=>exact⟨hL.trans h.1,hb.trans h.2⟩
theorem ICall.sub {P:Program}{gl:Nat->Option IV}{f:FuncId}{args:List IV}{st st0:ISt}{K:IV->ISt->Prop}(h:ICall P gl f args st0 K)(hs:subSt st0 st):ICall P gl f args st K:=by
 intro B X rs hg hst hv;obtain⟨hg1,he1⟩:=hg.sub (st:=st0) (by rw[hst];exact hs);refine (h B { X with st:=st0 } rs hg1 rfl ⟨hv.1,λi r c hr hc=>he1.v (hv.2 i r c hr hc)⟩).mono ?_;rintro e w' ⟨v,rfl,X',x,h1,h2,h3,h4,h5⟩;exact⟨v,rfl,X',x,h1,h2,he1.trans h3,h4,h5⟩
theorem xWh {C:Cx}{X:WS}{ents:Array MapEntry}{es:List (Value×IV)}(h:C.vl X (ents.toList.map (·.val)) (es.map (·.2))):∀(i:Nat) (e:MapEntry) (p:Value×IV),ents.toList[i]?=some e->es[i]?=some p->∀v,p.2=.raw v->e.val=v:=λi e p he hp v hv=>by
 have:=h.2 i e.val p.2 (by rw[List.getElem?_map,he];rfl) (by rw[List.getElem?_map,hp];rfl);rw[hv] at this;exact V.raw_inv this
theorem ICall.mapxR {P:Program}{gl:Nat->Option IV}{f:FuncId}{args:List IV}{st:ISt}{K:IV->ISt->Prop}
  (h:ICall P gl f args st (λr st'=>∃m kk es,st' m=some (.map kk es)/\∀ents clock,wWu kk es ents clock->K r (st'.put m (some (.mapx ents clock))))):ICall P gl f args st K:=by
 intro B X rs hg hst hv;refine (h B X rs hg hst hv).mono ?_;rintro e w' ⟨v,rfl,X',x,rfl,hg',he',hx',m,kk,es,hm,hK⟩;obtain⟨hL,hf,_,ents,clock,hh,h1,hvl,h2,h3⟩:=hg'.ok m _ hm;have hg1:Good ⟨P,gl,B⟩ { X' with st:=X'.st.put m (some (.mapx ents clock)) }:=⟨λb o hb=>by
   simp only[ISt.put_apply] at hb;split at hb
   ·rename_i h;subst h;cases hb;exact⟨hL,hh⟩
   ·exact (hg'.ok b o hb).mono rfl rfl (λ_ _ hv=>hv),hg'.gl,hg'.B,hg'.Lnew,hg'.gsh,hg'.dr⟩
 have he:Ext X' { X' with st:=X'.st.put m (some (.mapx ents clock)) }:=⟨rfl,rfl,rfl,Nat.le_refl _,λ_=>Nat.le_refl _,λ_ _ _=>rfl,λ_ _ _=>⟨rfl,rfl⟩,λb _ hb=>by
   show (X'.st.put m (some (.mapx ents clock))) b=none;rw[ISt.put_apply];split
   ·rename_i h;subst h;rw[hm] at hb;cases hb
   ·exact hb,λ_ _ hp=>hp,rfl⟩
 exact⟨v,rfl,{ X' with st:=X'.st.put m (some (.mapx ents clock)) },x,rfl,hg1,he'.trans he,hx',hK ents clock ⟨h1,hf,h2,h3,xWh hvl⟩⟩
def appT (n:Nat)(t:Tag):Prop:=t.cap=.nil\/(0<n/\t.fresh=true/\∃g,t.cap=.app g)
theorem appT.pos {n m:Nat}{t:Tag}(h:appT n t)(hn:0<m):appT m t:=h.imp id λh=>⟨hn,h.2⟩
theorem appT.up {n k:Nat}{t:Tag}(h:appT n t):appT (n+k) t:=h.imp id λh=>⟨by omega,h.2⟩
def wkE (t:Tag):Nat:=if t.es<=4 then 0 else 1
theorem appT.to {n m:Nat}{t:Tag}(h:appT n t)(hn:m=n):appT m t:=hn▸h
mutual
def dfr:IV->Prop
 | .raw (.agg _)=>False
 | .raw (.tuple _)=>False
 | .raw _=>True
 | .agg cs=>dfrs cs/\∀c∈cs,c.one=true
 | .tup vs=>dfrs vs
 | .sl t xs=>appT (xs.length+wkE t) t/\dfrs xs/\∀c∈xs.flatMap IV.cells,c.one=true
 | _=>False
def dfrs:List IV->Prop
 | []=>True
 | x::l=>dfr x/\dfrs l
end
theorem yJy:∀ {l:List IV}{x:IV},dfrs l->x∈l->dfr x
 | y::l,x,h,hx=>by
  simp only[dfrs] at h;rcases List.mem_cons.1 hx with rfl|hx
  ·exact h.1
  ·exact yJy h.2 hx
theorem yJ3:∀ {l m:List IV},dfrs l->dfrs m->dfrs (l++m)
 | [],m,_,h=>h
 | x::l,m,h,k=>by
  simp only[List.cons_append,dfrs] at h ⊢;exact⟨h.1,yJ3 h.2 k⟩
theorem wZ1 {x:IV}(h:dfr x):∀c∈x.cells,dfr c:=by
 cases x with
 | agg cs=>simp only[dfr] at h;exact λc hc=>yJy h.1 hc
 | _=>intro c hc;simp only[IV.cells,List.mem_singleton] at hc;subst hc;exact h
inductive OI (st:ISt):IV->IV->Prop
 | refl (x:IV):OI st x x
 | agg (rs cs:List IV) (hl:rs.length=cs.length) (h:∀(i:Nat) (r c:IV),rs[i]?=some r->cs[i]?=some c->OI st r c):OI st (.agg rs) (.agg cs)
 | tup (rs cs:List IV) (hl:rs.length=cs.length) (h:∀(i:Nat) (r c:IV),rs[i]?=some r->cs[i]?=some c->OI st r c):OI st (.tup rs) (.tup cs)
 | nil (t:Tag) (h:t.cap=.nil):OI st (.raw (.slice none 0 0)) (.sl t [])
 | sl (g cap:Nat) (t:Tag) (xs:List IV) (cs:List IV) (hcap:t.cap=.app g) (hlen:xs.length<=140737488355328) (hcl:xs.length<=cap) (hs:∀x∈xs,x.cells.length=t.es)
   (hst:st g=some (.box cs)) (hroom:cap*t.es<=cs.length) (h:∀(i:Nat) (r c:IV),cs[i]?=some r->(xs.flatMap IV.cells)[i]?=some c->OI st r c) :
   OI st (.raw (.slice (some ⟨g,0,none⟩) xs.length cap)) (.sl t xs)
 | ptr (b:Nat) (x:IV) (cs:List IV) (hst:st b=some (.box cs)) (hl:cs.length=x.cells.length) (h:∀(i:Nat) (r c:IV),cs[i]?=some r->x.cells[i]?=some c->OI st r c) :
   OI st (.raw (.pointer (some ⟨b,0,none⟩))) (.cptr x)
theorem OI.mono {st st':ISt}{y x:IV}(h:OI st y x)(hs:∀b cs,st b=some (.box cs)->st' b=some (.box cs)):OI st' y x:=by
 induction h with
 | refl x=>exact .refl x
 | agg rs cs hl _ ih=>exact .agg rs cs hl ih
 | tup rs cs hl _ ih=>exact .tup rs cs hl ih
 | nil t h=>exact .nil t h
 | sl g cap t xs cs h1 h2 h3 h4 h5 h6 _ ih=>exact .sl g cap t xs cs h1 h2 h3 h4 (hs _ _ h5) h6 ih
 | ptr b x cs h1 h2 _ ih=>exact .ptr b x cs (hs _ _ h1) h2 ih
def yKk (st:ISt):ISt:=λb=>match st b with|some (.box _)=>none|o=>o
theorem zUm (st:ISt):subSt (yKk st) st:=λb o h=>by
 unfold yKk at h;grind
theorem yUe {st:ISt}{b:Nat}{cs:List IV}(h:st b=some (.box cs)):yKk st b=none:=by
 unfold yKk;rw[h]
theorem yW2 {st:ISt}{b:Nat}(h:∀cs,st b≠some (.box cs)):yKk st b=st b:=by
 unfold yKk;grind
def WS.lendS (X:WS)(s1 s0:ISt):WS :=
 { w:=X.w,L:=λb=>match s1 b with|some (.box cs)=>cs.length|_=>X.L b,st:=s0,d:=X.d }
structure LendOk (st s1 s0:ISt):Prop where
 sub1:subSt s1 st
 sub0:subSt s0 st
 off:∀b cs,s1 b=some (.box cs)->s0 b=none
theorem zQd (st:ISt):LendOk st st (yKk st):=⟨subSt.refl st,zUm st,λ_ _ h=>yUe h⟩
abbrev WS.lend (X:WS):WS:=X.lendS X.st (yKk X.st)
section
variable {C:Cx}{X:WS}{s1 s0:ISt}
theorem zY5 {b:Nat}{cs:List IV}(h:s1 b=some (.box cs)):(X.lendS s1 s0).L b=cs.length:=by simp only[WS.lendS,h]
theorem yW4 {b:Nat}(h:∀cs,s1 b≠some (.box cs)):(X.lendS s1 s0).L b=X.L b:=by
 simp only[WS.lendS]
 try split
 all_goals first|rfl|(rename_i cs hc;exact absurd hc (h cs))
theorem Good.lendS_ext (h:Good C X)(k:LendOk X.st s1 s0):Ext X (X.lendS s1 s0) where
 os:=rfl
 tape:=rfl
 output:=rfl
 size:=Nat.le_refl _
 lmono b:=by
  by_cases hb:∃cs,s1 b=some (.box cs)
  ·obtain⟨cs,hb⟩:=hb;obtain⟨h0,_⟩:=h.ok b _ (k.sub1 _ _ hb);grind
  ·rw[yW4 λcs hc=>hb ⟨cs,hc⟩];exact Nat.le_refl _
 cells _ _ _:=rfl
 keep b _ hs:=⟨rfl,yW4 λcs hc=>by rw[k.sub1 _ _ hc] at hs;cases hs⟩
 dom b _ hs:=by
  show s0 b=none;cases hq:s0 b with
  | none=>rfl
  | some o=>rw[k.sub0 _ _ hq] at hs;cases hs
 shape _ _ hp:=hp
 d:=rfl
theorem Good.lendS (h:Good C X)(k:LendOk X.st s1 s0):Good C (X.lendS s1 s0) where
 ok b o hb:=by
  have hb:s0 b=some o:=hb;have hne:∀cs,s1 b≠some (.box cs):=λcs hc=>by rw[k.off b cs hc] at hb;cases hb
  exact (h.ok b o (k.sub0 b o hb)).mono rfl (yW4 hne) (λ_ _ hv=>(h.lendS_ext k).vl hv)
 gl g x hg:=(h.lendS_ext k).v (h.gl g x hg)
 B:=h.B
 Lnew b hb:=by
  rw[yW4 λcs hc=>?_]
  ·exact h.Lnew b hb
  ·have h1:=h.lt (k.sub1 _ _ hc);have h2:X.w.heap.size<=b:=hb;omega
 gsh:=h.gsh
 dr:=h.dr
theorem Good.lend_ext (h:Good C X):Ext X X.lend:=h.lendS_ext (zQd _)
theorem Good.lend (h:Good C X):Good C X.lend:=h.lendS (zQd _)
theorem OI.v (h:Good C X)(k:LendOk X.st s1 s0){y x:IV}(ho:OI s1 y x):∀ {r:Value},C.v X r y->C.v (X.lendS s1 s0) r (age x):=by
 induction ho with
 | refl x=>exact λhv=>((h.lendS_ext k).v hv).aged
 | agg rs cs hl _ ih =>
  intro r hv;obtain⟨rr,rfl,hr⟩:=V.agg_inv hv;refine .agg rr (ages cs) (by rw[yZq,hr.1,hl]) λi r c h1 h2=>?_;obtain⟨x,hx,rfl⟩:=yJz h2;have hi:=(lGs hx).1;have h3:rs[i]?=some (rs[i]'(by omega)):=List.getElem?_eq_getElem _;exact ih i _ x h3 hx (hr.2 i r _ h1 h3)
 | tup rs cs hl _ ih =>
  intro r hv;obtain⟨rr,rfl,hr⟩:=V.tup_inv hv;refine .tup rr (ages cs) (by rw[yZq,hr.1,hl]) λi r c h1 h2=>?_;obtain⟨x,hx,rfl⟩:=yJz h2;have hi:=(lGs hx).1;have h3:rs[i]?=some (rs[i]'(by omega)):=List.getElem?_eq_getElem _;exact ih i _ x h3 hx (hr.2 i r _ h1 h3)
 | nil t hn =>
  intro r hv;obtain rfl:=V.raw_inv hv;refine .sl none 0 _ [] 0 [] ?_ (by simp) (by simp) (by simp) (by simp) (λg hg=>?_) (λ_ ad had=>by cases had) (λhne=>absurd rfl hne) (λi r c hr=>by simp at hr)
  ·simp only[hn];exact⟨rfl,rfl,rfl⟩
  ·grind
 | sl g cap t xs cs hcap hlen hcl hs hst hroom _ ih =>
  intro r hv;obtain rfl:=V.raw_inv hv;obtain⟨h0,c,T,hh,hvl⟩:=h.ok g _ (k.sub1 _ _ hst);have hflat:(xs.flatMap IV.cells).length=xs.length*t.es:=yZp xs hs;have hle:xs.length*t.es<=cs.length:=Nat.le_trans (Nat.mul_le_mul_right _ hcl) hroom;have hcl':c.toList.length=cs.length:=hvl.1;have key:=V.sl (B:=C.B) (L:=(X.lendS s1 s0).L) (w:=X.w) (some ⟨g,0,none⟩) cap ⟨false,t.cap,t.es⟩ (ages xs) T (c.toList.take (xs.length*t.es));rw[yZq] at key;refine key ?_ hlen hcl (λy hy=>?_) ?_ (λg' hg'=>?_) (λhf=>by cases hf) (λ_=>⟨_,rfl,rfl,?_,λi r hr=>?_⟩) λi r z hr hz=>?_
  ·simp only[hcap,zQm]
  ·rw[yVn] at hy;obtain⟨x,hx,rfl⟩:=List.mem_map.1 hy;rw[yVd,yZq];exact hs x hx
  ·grind
  ·simp only[hcap,Cap.app.injEq] at hg';subst hg';refine⟨T,c.size,?_,?_⟩
   ·simp[shq,hh]
   ·grind
  ·show 0+(c.toList.take (xs.length*t.es)).length<=(X.lendS s1 s0).L g;rw[zY5 hst,List.length_take];omega
  ·rw[Nat.zero_add,yZm hh];grind
  ·rw[zYc] at hz;obtain⟨x,hx,rfl⟩:=yJz hz;rw[List.getElem?_take] at hr;split at hr
   ·rename_i hi;have h3:cs[i]?=some (cs[i]'(by omega)):=List.getElem?_eq_getElem _;exact ih i _ x h3 hx (hvl.2 i r _ hr h3)
   ·cases hr
 | ptr b x cs hst hl _ ih =>
  intro r hv;obtain rfl:=V.raw_inv hv;obtain⟨h0,c,T,hh,hvl⟩:=h.ok b _ (k.sub1 _ _ hst);have hcl':c.toList.length=cs.length:=hvl.1;refine .cptr ⟨b,0,none⟩ (age x) c.toList rfl ?_ ?_ (λi r hr=>?_) λi r z hr hz=>?_
  ·rw[yVd,yZq,hcl',hl]
  ·show 0+c.toList.length<=(X.lendS s1 s0).L b;rw[zY5 hst];omega
  ·show X.w.cell? ⟨b,0+i,none⟩=some r;rw[Nat.zero_add,yZm hh];simpa using hr
  ·rw[yVd] at hz;obtain⟨y,hy,rfl⟩:=yJz hz;have hi:=(lGs hr).1;have h3:cs[i]?=some (cs[i]'(by omega)):=List.getElem?_eq_getElem _;exact ih i _ y h3 hy (hvl.2 i r _ hr h3)
end
def Lent (st:ISt)(y x:IV):Prop:=y=x\/∃x0,OI st y x0/\x=age x0
def Lents (st:ISt):List IV->List IV->Prop
 | [],xs=>xs=[]
 | y::ys,xs=>∃x xs',xs=x::xs'/\Lent st y x/\Lents st ys xs'
theorem Lents.v {C:Cx}{X:WS}(h:Good C X):∀ {ys xs:List IV} {rs:List Value},Lents X.st ys xs->C.vl X rs ys->C.vl X.lend rs xs
 | [],xs,rs,hl,hv=>by
  simp only[Lents] at hl;subst hl;obtain rfl:rs=[]:=List.eq_nil_of_length_eq_zero hv.1;exact VL.nil
 | y::ys,xs,rs,hl,hv=>by
  simp only[Lents] at hl;obtain⟨x,xs',rfl,hx,hl⟩:=hl;cases rs with
  | nil=>have:=hv.1;simp at this
  | cons r rs =>
   have h1:=hv.2 0 r y rfl rfl;have h2:C.vl X rs ys:=⟨by have:=hv.1;simpa using this,λi a b ha hb=>hv.2 (i+1) a b (by simpa using ha) (by simpa using hb)⟩
   refine VL.cons ?_ (Lents.v h hl h2);rcases hx with rfl|⟨x0,ho,rfl⟩
   ·exact h.lend_ext.v h1
   ·exact ho.v h (zQd _) h1
section
variable {P:Program}{gl:Nat->Option IV}{f:FuncId}{args args':List IV}{st:ISt}{K:IV->ISt->Prop}
theorem ICall.freeze (hl:Lents st args args')(h:ICall P gl f args' (yKk st) K):ICall P gl f args st K:=by
 intro B X rs hg hst hv;subst hst;refine (h B X.lend rs hg.lend rfl (hl.v hg hv)).mono ?_;rintro e w' ⟨v,rfl,X',x,h1,h2,h3,h4,h5⟩;exact⟨v,rfl,X',x,h1,h2,hg.lend_ext.trans h3,h4,h5⟩
theorem ICall.lent {K:IV->Prop}(hf:∀b o,st b=some o->(∃cs,o=.box cs)\/wQu o)(hl:Lents st args args')(h:ICall P gl f args' (yKk st) (λr st'=>st'=yKk st/\yYr r/\K r)):ICall P gl f args st (λr st'=>st'=st/\K r):=by
 intro B X rs hg hst hv;subst hst;refine (h B X.lend rs hg.lend rfl (hl.v hg hv)).mono ?_;rintro e w' ⟨v,rfl,X',x,rfl,h2,h3,h4,h5,h6,h7⟩;have hlt:∀ {b o},X.st b=some o->b<X.w.heap.size:=λhb=>hg.lt hb
 let Y:WS:={ w:=X'.w,L:=λb=>match X.st b with|some (.box _)=>0|_=>X'.L b,st:=X.st,d:=X'.d }
 have hYb:∀ {b cs},X.st b=some (.box cs)->Y.L b=0:=λhb=>by simp only[Y,hb]
 have hYk:∀ {b},(∀cs,X.st b≠some (.box cs))->Y.L b=X'.L b:=λ{b} hb=>by
  grind
 have heap:∀ {b cs},X.st b=some (.box cs)->X'.w.heap[b]?=X.w.heap[b]?:=λ{b cs} hb=>(h3.keep b (hlt hb) (yUe hb)).1;have he:Ext X Y:=by
  refine⟨h3.os,h3.tape,h3.output,h3.size,λb=>?_,λb i hi=>?_,λb hb hs=>?_,λb _ hs=>hs,h3.shape,h3.d⟩
  ·by_cases hb:∃cs,X.st b=some (.box cs)
   ·obtain⟨cs,hb⟩:=hb;rw[(hg.ok b _ hb).1];exact Nat.zero_le _
   ·rw[hYk λcs hc=>hb ⟨cs,hc⟩];exact Nat.le_trans (hg.lend_ext.lmono b) (h3.lmono b)
  ·exact h3.cells b i (Nat.lt_of_lt_of_le hi (hg.lend_ext.lmono b))
  ·have hne:∀cs,X.st b≠some (.box cs):=λcs hc=>by rw[hs] at hc;cases hc
   obtain⟨k1,k2⟩:=h3.keep b hb ((yW2 hne).trans hs);exact⟨k1,by rw[hYk hne,k2,yW4 hne]⟩
 refine⟨v,rfl,Y,x,rfl,⟨λb o hb=>?_,λg x hgx=>he.v (hg.gl g x hgx),h2.B,λb hb=>?_,λg x hgx=>?_,h2.dr⟩,he,h4.flat' h6,rfl,h7⟩
 ·by_cases hbx:∃cs,X.st b=some (.box cs)
  ·obtain⟨cs,hbx⟩:=hbx;have hb':X.st b=some o:=hb;rw[hbx] at hb';cases hb';exact (hg.ok b _ hbx).mono (heap hbx) (by rw[hYb hbx,(hg.ok b _ hbx).1]) (λ_ _ hv=>he.vl hv)
  ·have hne:∀cs,X.st b≠some (.box cs):=λcs hc=>hbx ⟨cs,hc⟩;have h1:X'.st b=some o:=by rw[h5];exact (yW2 hne).trans hb
   exact (h2.ok b o h1).flat ((hf b o hb).resolve_left λ⟨cs,hc⟩=>hbx ⟨cs,hb.trans (congrArg some hc)⟩) rfl (hYk hne)
 ·have hne:∀cs,X.st b≠some (.box cs):=λcs hc=>by
   grind
  rw[hYk hne];exact h2.Lnew b hb
 ·exact h2.gsh g x hgx
theorem ICall.borrow {K:IV->Prop}(hf:flatSt st)(hl:Lents st args args')(h:ICall P gl f args' (yKk st) (λr st'=>st'=yKk st/\yYr r/\K r)):ICall P gl f args st (λr st'=>st'=st/\K r) :=
 ICall.lent (λb o hb=>.inr (hf b o hb)) hl h
theorem ICall.fix (h:ICall P gl f args st (λy st'=>∃x s1 s0,LendOk st' s1 s0/\OI s1 y x/\K (age x) s0)):ICall P gl f args st K:=by
 intro B X rs hg hst hv;refine (h B X rs hg hst hv).mono ?_;rintro e w' ⟨v,rfl,X',y,rfl,h2,h3,h4,x,s1,s0,hk,ho,hK⟩;exact⟨v,rfl,X'.lendS s1 s0,age x,rfl,h2.lendS hk,h3.trans (h2.lendS_ext hk),ho.v h2 hk h4,hK⟩
theorem wZ7 {t:Tag}{g n c:Nat}{a:Option Addr}(h:zQm t.cap a n c)(ht:t.cap=.app g):a=some ⟨g,0,none⟩:=by rw[ht] at h;exact h
open Classical in
noncomputable def rdI (v:Value):IV:=if zZk v then .raw v else .junk
theorem vJ4 {v:Value}(h:zZk v):rdI v=.raw v:=if_pos h
theorem xJx (v:Value):yYr (rdI v):=by unfold rdI;split<;>trivial
theorem vJ3 {B:Nat}{L:Nat->Nat}{w:World}(v:Value):V B L w v (rdI v):=by
 unfold rdI;split
 ·exact .raw v ‹_›
 ·exact .junk v
noncomputable def yKq (w:World)(M:Nat)(st:ISt):ISt:=λb =>
 if b<M then st b else match w.heap[b]? with
  | some (.cells c _ f)=>if f=(0,0) then some (.box (c.toList.map rdI)) else none
  | _=>none
def rawC (c:IV):Prop:=(∃v,c=.raw v)\/c=.junk
mutual
def rawY:IV->Prop
 | .raw _=>True
 | .junk=>True
 | .agg cs=>zKg cs
 | .tup vs=>zKg vs
 | _=>False
def zKg:List IV->Prop
 | []=>True
 | x::l=>rawY x/\zKg l
end
theorem zU2 {l:List IV}(h:∀x∈l,rawY x):zKg l:=by
 induction l with
 | nil=>trivial
 | cons x l ih=>exact⟨h x (by simp),ih λy hy=>h y (by simp[hy])⟩
theorem yYh:∀ {l:List IV}{x:IV},zKg l->x∈l->rawY x
 | y::l,x,h,hx=>by
  simp only[zKg] at h;rcases List.mem_cons.1 hx with rfl|hx
  ·exact h.1
  ·exact yYh h.2 hx
theorem vJd {M:Nat}{L:Nat->Nat}{w:World}{st:ISt}{r:Value}{x:IV}(h:V M L w r x):dfr x->∃y,(∀B L' w',V B L' w' r y)/\OI (yKq w M st) y x/\(x.one=true->zZk r/\y=.raw r)/\rawY y:=by
 induction h with
 | raw v h=>exact λ_=>⟨.raw v,λ_ _ _=>.raw v h,.refl _,λ_=>⟨h,rfl⟩,trivial⟩
 | junk v=>intro hd;simp only[dfr] at hd
 | agg rs cs hl _ ih =>
  intro hd;simp only[dfr] at hd;have key:∀i r c,rs[i]?=some r->cs[i]?=some c->zZk r/\OI (yKq w M st) (.raw r) c:=λi r c hr hc=>by
   obtain⟨y,_,h2,h3,_⟩:=ih i r c hr hc (yJy hd.1 (lMg hc));grind
  refine⟨.agg (rs.map .raw),λB L' w'=>.agg rs _ (by simp) λi r c hr hc=>?_,.agg _ cs (by simpa using hl) λi r c hr hc=>?_,λhx=>by simp[IV.one] at hx,zU2 λx hx=>by obtain⟨r,_,rfl⟩:=List.mem_map.1 hx;trivial⟩
  ·rw[List.getElem?_map,hr] at hc;cases hc;have hi:=(lGs hr).1;exact .raw r (key i r _ hr (List.getElem?_eq_getElem (by omega))).1
  ·grind
 | tup rs cs hl _ ih =>
  intro hd;simp only[dfr] at hd;have key:∀i:Nat,∃y,(∀r c,rs[i]?=some r->cs[i]?=some c->(∀B L' w',V B L' w' r y)/\OI (yKq w M st) y c)/\rawY y:=λi=>by
   by_cases hi:i<rs.length
   ·obtain⟨y,h1,h2,_,h5⟩:=ih i _ _ (List.getElem?_eq_getElem hi) (List.getElem?_eq_getElem (by omega)) (yJy hd (List.getElem_mem _));grind
   ·exact⟨.junk,(λr c hr=>by rw[List.getElem?_eq_none (by omega)] at hr;cases hr),trivial⟩
  let ys:List IV:=(List.range rs.length).map λi=>(key i).choose
  have hys:∀i y,ys[i]?=some y->y=(key i).choose:=λi y hy=>by
   grind
  have hyl:ys.length=rs.length:=by simp[ys]
  refine⟨.tup ys,λB L' w'=>.tup rs _ hyl.symm λi r c hr hc=>?_,.tup _ cs (by rw[hyl,hl]) λi r c hr hc=>?_,λhx=>by simp[IV.one] at hx,zU2 λx hx=>by obtain⟨i,_,rfl⟩:=List.mem_map.1 hx;exact (key i).choose_spec.2⟩
  ·grind
  ·have hi:=(lGs hc).1;rw[hys i r hr];exact ((key i).choose_spec.1 _ c (List.getElem?_eq_getElem (show i<rs.length by omega)) hc).2
 | fn=>intro hd;simp only[dfr] at hd
 | cptr=>intro hd;simp only[dfr] at hd
 | sl a cap t xs T vs hcap hlen hcl hs hvl hroom hfresh hplace hvv ih =>
  intro hd;simp only[dfr] at hd;obtain⟨happ,hds,hone⟩:=hd;refine⟨_,λ_ _ _=>.raw _ trivial,?_,λ_=>⟨trivial,rfl⟩,trivial⟩;rcases happ with hn|⟨_,hfr,g,hg⟩
  ·rw[hn] at hcap;obtain⟨rfl,hl,rfl⟩:=hcap;obtain rfl:xs=[]:=List.eq_nil_of_length_eq_zero hl;exact .nil t hn
  ·obtain rfl:=wZ7 hcap hg;obtain⟨hM,_,_⟩:=hfresh hfr _ rfl;obtain⟨T',k,hsh,hk⟩:=hroom g hg;unfold shq at hsh;split at hsh
   case h_2=>cases hsh
   rename_i c e fz hh;simp only[Option.some.injEq,Prod.mk.injEq,beq_iff_eq] at hsh;obtain⟨⟨rfl,rfl⟩,rfl⟩:=hsh;have hst:yKq w M st g=some (.box (c.toList.map rdI)):=by
    unfold yKq;grind
   refine .sl g cap t xs _ hg hlen hcl hs hst (by simpa using hk) λi r z hr hz=>?_;have hne:xs≠[]:=by rintro rfl;simp at hz
   obtain⟨ad,had,_,_,hcell⟩:=hplace hne;cases had;have hi:=(lGs hz).1;rw[yZp xs hs,<- hvl] at hi;have hv1:=List.getElem?_eq_getElem hi;have hc1:=hcell i _ hv1;rw[Nat.zero_add,yZm hh] at hc1;obtain⟨y,_,h2,h3,_⟩:=ih i _ z hv1 hz (by
    obtain⟨x,hx,hzx⟩:=List.mem_flatMap.1 (lMg hz);exact wZ1 (yJy hds hx) z hzx)
   obtain⟨h4,rfl⟩:=h3 (hone z (lMg hz));rw[List.getElem?_map,hc1] at hr;simp only[Option.map_some,Option.some.injEq] at hr;rw[vJ4 h4] at hr;grind
theorem xJw (v:Value):rawC (rdI v):=by
 unfold rdI;split
 ·exact .inl ⟨v,rfl⟩
 ·exact .inr rfl
def zQ4 (st:ISt):Prop:=∀b cs,st b=some (.box cs)->∀c∈cs,rawC c
theorem ICall.nil1 (h:ICall P gl f [.sl ⟨true,.nil,0⟩ []] st K):ICall P gl f [.raw (.slice none 0 0)] st K:=by
 intro B X rs hg hst hv;refine h B X rs hg hst ⟨hv.1,λi r c hr hc=>?_⟩;cases i with
 | zero =>
  have h1:=hv.2 0 r _ hr rfl;obtain rfl:=V.raw_inv h1;simp only[List.getElem?_cons_zero,Option.some.injEq] at hc;subst hc;exact .sl none 0 ⟨true,.nil,0⟩ [] 0 [] ⟨rfl,rfl,rfl⟩ (by simp) (by simp) (by simp) (by simp) (λg hg=>by cases hg) (λ_ ad had=>by cases had) (λhne=>absurd rfl hne) (λi r c hr=>by simp at hr)
 | succ i=>simp at hc
theorem ICall.own {K:IV->Prop}(hf:flatSt st)(hgl:∀g x,gl g=some x->age x=x)(h:ICall P gl f (ages args) st (λr st'=>st'=st/\dfr r/\K r)) :
  ICall P gl f args st (λy st'=>subSt st st'/\flatSt st'/\(zQ4 st->zQ4 st')/\∃x,K x/\OI st' y x/\rawY y):=by
 intro B X rs hg hst hv;subst hst;have hg1:Good ⟨P,gl,X.w.heap.size⟩ X:=⟨λb o hb=>(hg.ok b o hb).flat (hf b o hb) rfl rfl,λg x hx=>by
   have h1:=hgl g x hx;have h2:=(hg.gl g x hx).aged (B':=X.w.heap.size);simp only[age,h1] at h2;exact h2,Nat.le_refl _,hg.Lnew,hg.gsh,hg.dr⟩
 refine (h X.w.heap.size X rs hg1 rfl hv.aged).mono ?_;rintro e w' ⟨v,rfl,X',x,rfl,h2,h3,h4,h5,h6,h7⟩;obtain⟨y,hy1,hy2,_,hy4⟩:=vJd (st:=X.st) h4 h6
 let Y:WS:={ w:=X'.w,L:=λb=>if b<X.w.heap.size then X'.L b else 0,st:=yKq X'.w X.w.heap.size X.st,d:=X'.d }
 have hlt:∀ {b o},X.st b=some o->b<X.w.heap.size:=λhb=>hg.lt hb;have he:Ext X Y:=by
  refine⟨h3.os,h3.tape,h3.output,h3.size,λb=>?_,h3.cells,λb hb hs=>?_,λb hb hs=>?_,h3.shape,h3.d⟩
  ·simp only[Y];split
   ·exact h3.lmono b
   ·rename_i hb;rw[hg.Lnew b (by omega)];exact Nat.le_refl _
  ·simp only[Y];rw[if_pos hb];exact h3.keep b hb hs
  ·simp only[Y,yKq];rw[if_pos hb];exact hs
 have hso:∀b o,Y.st b=some o->(b<X.w.heap.size/\X.st b=some o)\/(X.w.heap.size<=b/\∃c T,X'.w.heap[b]?=some (.cells c T (0,0))/\o=.box (c.toList.map rdI)):=λb o hb=>by
  simp only[Y,yKq] at hb;grind
 refine⟨v,rfl,Y,y,rfl,⟨λb o hb=>?_,λg x hgx=>he.v (hg.gl g x hgx),Nat.le_trans hg.B h3.size,λb hb=>?_,h2.gsh,h2.dr⟩,he,hy1 _ _ _,λb o hb=>?_,λb o hb=>?_,λhraw b cs hb=>?_,x,h7,hy2,hy4⟩
 ·rcases hso b o hb with⟨h8,h9⟩|⟨h8,c,T,hh,rfl⟩
  ·have h10:X'.st b=some o:=by rw[h5];exact h9
   exact (h2.ok b o h10).flat (hf b o h9) rfl (by simp only[Y];rw[if_pos h8])
  ·refine⟨by simp only[Y];rw[if_neg (by omega)],c,T,hh,by simp,λi r z hr hz=>?_⟩;rw[List.getElem?_map,hr] at hz;cases hz;exact vJ3 r
 ·simp only[Y];split
  ·exact h2.Lnew b hb
  ·rfl
 ·simp only[Y,yKq];rw[if_pos (hlt hb)];exact hb
 ·rcases hso b o hb with⟨_,h9⟩|⟨_,c,T,_,rfl⟩
  ·exact hf b o h9
  ·intro z hz;obtain⟨v,_,rfl⟩:=List.mem_map.1 hz;exact xJx v
 ·rcases hso b _ hb with⟨_,h9⟩|⟨_,c,T,_,h9⟩
  ·exact hraw b cs h9
  ·cases h9;intro z hz;obtain⟨v,_,rfl⟩:=List.mem_map.1 hz;exact xJw v
end
theorem iteT {α:Sort _}{c:Prop} [Decidable c]{a b:α}(h:c=True):ite c a b=a:=if_pos (of_eq_true h)
theorem iteF {α:Sort _}{c:Prop} [Decidable c]{a b:α}(h:c=False):ite c a b=b:=if_neg (of_eq_false h)
theorem laC {α:Type _}{a:α}{l:List α}{f:α->Bool}:(a::l).all f=(f a&&l.all f):=(rfl)
theorem laN {α:Type _}{f:α->Bool}:[].all f=true:=(rfl)
theorem naZ (n:Nat):n+0=n:=(rfl)
theorem lgZ {α:Type _}{a:α}{l:List α}:(a::l)[0]?=some a:=(rfl)
theorem lgS {α:Type _}{a:α}{i:Nat}{l:List α}:(a::l)[i+1]?=l[i]?:=(rfl)
theorem omS {α:Type _}{β:Type _}(a:α)(f:α->β):Option.map f (some a)=some (f a):=(rfl)
theorem nsZ (n:Nat):n-0=n:=(rfl)
theorem itN (n:Nat):((n:Int)).toNat=n:=(rfl)
theorem llC {α:Type _}{a:α}{l:List α}:(a::l).length=l.length+1:=(rfl)
theorem llN {α:Type _}:([]:List α).length=0:=(rfl)
theorem ltS {α:Type _}{a:α}{l:List α}{i:Nat}:List.take (i+1) (a::l)=a::List.take i l:=(rfl)
theorem ltZ {α:Type _}{l:List α}:List.take 0 l=[]:=List.take_zero
theorem lcA {α:Type _}{a:α}{l m:List α}:a::l++m=a::(l++m):=(rfl)
theorem lnA {α:Type _}(l:List α):[]++l=l:=(rfl)
theorem lzC {α:Type _}{a:α}{l:List α}{β:Type _}{b:β}{m:List β}:(a::l).zip (b::m)=(a,b)::l.zip m:=(rfl)
theorem lzN {α:Type _}{β:Type _}{l:List β}:([]:List α).zip l=[]:=(rfl)
attribute [go_sem ↓] iteT iteF
attribute [go_sem] cf yX8 laC laN Bool.and_self Bool.true_and Bool.and_true Bool.false_and Bool.and_false Bool.not_true Bool.not_false List.mem_nil_iff if_false if_true beq_self_eq_true Nat.zero_add naZ lgZ lgS omS List.mem_cons or_false false_or or_true true_or nsZ forall_const itN llC llN List.map_cons List.map_nil ltS ltZ List.drop_zero List.drop_succ_cons lcA lnA List.append_nil and_true true_and and_self true_implies lzC lzN
end Go.Iv
theorem Go.Iv.iI {P:Go.Program}{gl:Nat->Option Go.Iv.IV}{f:Go.FuncId}{fn:Go.Func}{code:Go.Code}{args:List Go.Iv.IV}{st:Go.Iv.ISt}{K:Go.Iv.IV->Go.Iv.ISt->Prop}(hf:P.funcs[f]?=some fn)(h:Go.Iv.vcC (Go.Iv.cf P gl [] []) code (Go.Iv.bodyK P gl fn.results.toList K) (Go.Iv.frOf args) st [])(hb:fn.body=some code:=by rfl)(hN:Nat.ble args.length fn.ntmps=true:=by rfl)(hd:Go.Iv.codeOk (Go.Iv.cf P gl [] []) fn.ntmps code=true:=by kernel_rfl):Go.Iv.ICall P gl f args st K:=Go.Iv.ICall.intro (c:=Go.Iv.cf P gl [] []) hf hb (Nat.le_of_ble_eq_true hN) hd h