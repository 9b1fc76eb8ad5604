/- The layer of ideal values, part Q: from -/
import Derived.Test.YtabhgbojkjcfjaaGreatDoorJH
import Derived.IntWalk
set_option linter.all false
namespace Go.Iv
open Go
def frOf (args:List IV):Fr:=λt=>match args[t]? with|some x=>.iv x|none=>.iv .junk
@[go_sem] theorem vVy (x:IV)(l:List IV):frOf (x::l) 0=.iv x:=(rfl)
@[go_sem] theorem vVz (x:IV)(l:List IV)(t:Nat):frOf (x::l) (t+1)=frOf l t:=by simp[frOf]
theorem Inv.start {C:Cx}{X:WS}{rs:List Value}{args:List IV}{N:Nat}(G:Good C X)(A:C.vl X rs args)(U:args.length<=N) :
  Inv C X N X (frOf args) [] { tmps:=(⟨rs⟩:Array Value)++Array.replicate (N-(⟨rs⟩:Array Value).size) undef,defers:=[] }:=by
 refine⟨G,Ext.refl X,⟨λt=>?_,λt O cs cs' h=>?_⟩,?_,.nil⟩
 ·unfold frOf;cases J:args[t]? with
  | none=>exact .junk _
  | some x =>
   obtain⟨r,D,E⟩:=A.get J;have:tm ((⟨rs⟩:Array Value)++Array.replicate (N-(⟨rs⟩:Array Value).size) undef) t=r:=by
    have F:=(lGs D).1;unfold tm;rw[Array.getD_eq_getD_getElem?,Array.getElem?_append_left (by simpa using F)];have:(⟨rs⟩:Array Value)[t]?=some r:=by simpa using D
    rw[this];rfl
   simp only;rw[this];exact E
 ·unfold frOf at h;split at h<;>cases h
 ·have:=A.1;simp;omega
def resI (P:Program)(fr:Fr)(st:ISt):ResultVar->Option IV
 | .tmp t=>ivOf (fr t)
 | .cell a T=>match tyI P T,plOf a (fr a) with
  | some i,some (.box t _)=>match fr t with
   | .box cs=>yVd i.1 i.2 cs 0
   | _=>none
  | some i,some (.ptr b off)=>match st b with
   | some (.box cs)=>yVd i.1 i.2 cs off
   | _=>none
  | _,_=>none
def resL (P:Program)(fr:Fr)(st:ISt)(rs:List ResultVar):Option (List IV):=allI (resI P fr st) rs
@[go_sem ↓] theorem wWb (P:Program)(fr:Fr)(st:ISt):resL P fr st []=some []:=(rfl)
@[go_sem ↓] theorem wXf (P:Program)(fr:Fr)(st:ISt)(x:ResultVar)(l:List ResultVar):resL P fr st (x::l)=vXd (resI P fr st x) (resL P fr st l):=by
 unfold resL;rw[allI];cases resI P fr st x<;>cases allI (resI P fr st) l<;>rfl
@[go_sem ↓] theorem vGa (P:Program)(fr:Fr)(st:ISt)(t:Nat):resI P fr st (.tmp t)=ivOf (fr t):=(rfl)
def outI:List IV->IV
 | [x]=>x
 | l=>.tup l
@[go_sem] theorem vGh (x:IV):outI [x]=x:=(rfl)
@[go_sem] theorem vGg (x y:IV)(l:List IV):outI (x::y::l)=.tup (x::y::l):=(rfl)
@[go_sem] theorem vGi:outI []=.tup []:=(rfl)
def outK (K:IV->ISt->Prop)(x:IV)(st:ISt):Prop:=∃st',subSt st' st/\K x st'
theorem yQ0 {K:IV->ISt->Prop}{x:IV}{st:ISt}(h:K x st):outK K x st:=⟨st,subSt.refl st,h⟩
def yYf (P:Program)(gl:Nat->Option IV)(rs:List ResultVar)(K:IV->ISt->Prop):List Dfd->Fr->ISt->Prop
 | [],fr,st=>yQ8 (resL P fr st rs) λD=>outK K (outI D) st
 | .coll _::ds,fr,st=>yYf P gl rs K ds fr st
 | .call f A args::ds,fr,st=>match f with
  | .func g=>if entI P g=true then ICallD P gl g (args++A) st λ_ st'=>yYf P gl rs K ds fr st' else False
  | _=>False
def bodyK (P:Program)(gl:Nat->Option IV)(rs:List ResultVar)(K:IV->ISt->Prop):Kc
 | .normal,fr,st,ds=>yYf P gl rs K ds fr st
 | .ret,fr,st,ds=>yYf P gl rs K ds fr st
 | _,_,_,_=>False
def wUu (P:Program)(rs:List ResultVar)(K:IV->ISt->Prop):Kc
 | .normal,fr,st,ds=>chk (ds=[]) (yQ8 (resL P fr st rs) λA=>outK K (outI A) st)
 | .ret,fr,st,ds=>chk (ds=[]) (yQ8 (resL P fr st rs) λA=>outK K (outI A) st)
 | _,_,_,_=>False
section
variable (P:Program)(gl:Nat->Option IV)(rs:List ResultVar)(K:IV->ISt->Prop)(fr:Fr)(st:ISt)(ds:List Dfd)
@[go_sem ↓] theorem wUt:bodyK P gl rs K .normal fr st ds=yYf P gl rs K ds fr st:=(rfl)
@[go_sem ↓] theorem vWy:bodyK P gl rs K .ret fr st ds=yYf P gl rs K ds fr st:=(rfl)
@[go_sem ↓] theorem wG7:wUu P rs K .normal fr st ds=chk (ds=[]) (yQ8 (resL P fr st rs) λA=>outK K (outI A) st):=(rfl)
@[go_sem ↓] theorem vJe:yYf P gl rs K [] fr st=yQ8 (resL P fr st rs) λA=>outK K (outI A) st:=(rfl)
@[go_sem ↓] theorem vZq (r:Nat):yYf P gl rs K (.coll r::ds) fr st=yYf P gl rs K ds fr st:=(rfl)
@[go_sem ↓] theorem xVl (g:FuncId)(A args:List IV):yYf P gl rs K (.call (.func g) A args::ds) fr st=if entI P g=true then ICallD P gl g (args++A) st (λ_ st'=>yYf P gl rs K ds fr st') else False:=(rfl)
end
section
variable {C:Cx}{X0 X:WS}{N:Nat}{fr:Fr}{a:Act}
theorem uZ7 {ds:List Dfd}{r:ResultVar}{x:IV}(U:Inv C X0 N X fr ds a)(h:resI C.P fr X.st r=some x) :
  ∃v,((match r with|.tmp t=>pure (a.tmps.getD t undef)|.cell b T=>(do loadVar T (<- asAddr (a.tmps.getD b undef))):Sem Value)).run C.P X.w=.ok v X.w/\C.v X v x:=by
 cases r with
 | tmp t =>
  obtain⟨J,_⟩:=wUi (C:=C) (X:=X) h (U.fr.slot t);exact⟨_,rfl,J⟩
 | cell b T =>
  simp only[resI] at h;split at h
  ·rename_i i t off W hp;obtain⟨ag,sz⟩:=i;split at h
   ·rename_i cs D;have O:=U.fr.slot b;cases A:fr b with
    | box cs' =>
     rw[A] at hp O;simp only[plOf,Option.some.injEq,Pl.box.injEq] at hp;obtain⟨rfl,rfl⟩:=hp;rw[A] at D;cases D;obtain⟨b',c,E,hr,hh,F,_⟩:=O;obtain⟨v,hl,J⟩:=zK1 W hh F h;refine⟨v,?_,J⟩;have G:a.tmps.getD b undef=.pointer (some ⟨b',0,none⟩):=hr;simp only[G,asAddr,Sem.run_bind,Sem.run_pure,Result.andThen_ok,hl]
    | iv y =>
     rw[A] at hp;exfalso;cases y with
     | raw u =>
      cases u with
      | pointer p =>
       cases p with
       | none=>cases hp
       | some p =>
        obtain⟨pb,po,ps⟩:=p;cases ps<;>cases hp
      | _=>cases hp
     | _=>cases hp
   ·cases h
  ·rename_i i b' off W hp;obtain⟨ag,sz⟩:=i;split at h
   ·rename_i cs D;have O:=U.fr.slot b;cases A:fr b with
    | box cs'=>rw[A] at hp;cases hp
    | iv y =>
     rw[A] at hp O;cases y with
     | raw u =>
      cases u with
      | pointer p =>
       cases p with
       | none=>cases hp
       | some p =>
        obtain⟨pb,po,ps⟩:=p;cases ps with
        | none =>
         simp only[plOf,Option.some.injEq,Pl.ptr.injEq] at hp;obtain⟨rfl,rfl⟩:=hp;obtain⟨_,c,E,hh,F⟩:=U.good.ok _ _ D;obtain⟨v,hl,J⟩:=zK1 W hh F h;refine⟨v,?_,J⟩;have G:a.tmps.getD b undef=.pointer (some ⟨pb,po,none⟩):=V.raw_inv O;simp only[G,asAddr,Sem.run_bind,Sem.run_pure,Result.andThen_ok,hl]
        | some _=>cases hp
      | _=>cases hp
     | _=>cases hp
   ·cases h
  ·cases h
theorem wU2 {ds:List Dfd}(F:Inv C X0 N X fr ds a):∀ {rs:List ResultVar} {A:List IV},resL C.P fr X.st rs=some A →
  ∃vs,(rs.mapM (λr=>match r with|.tmp t=>pure (a.tmps.getD t undef)|.cell b T=>(do loadVar T (<- asAddr (a.tmps.getD b undef))):ResultVar->Sem Value)).run C.P X.w=.ok vs X.w/\C.vl X vs A
 | [],A,h=>by
  simp only[wWb,Option.some.injEq] at h;subst h;exact⟨[],by simp,VL.nil⟩
 | r::rs,A,h=>by
  rw[wXf] at h;cases D:resI C.P fr X.st r with
  | none=>rw[D] at h;cases h
  | some x =>
   cases E:resL C.P fr X.st rs with
   | none=>rw[D,E] at h;cases h
   | some l =>
    rw[D,E,wQr,Option.some.injEq] at h;subst h;obtain⟨v,h1,h2⟩:=uZ7 F D;obtain⟨vs,J,G⟩:=wU2 F E;refine⟨v::vs,?_,VL.cons h2 G⟩;rw[List.mapM_cons];simp only[Sem.run_bind,h1,J,Result.andThen_ok,Sem.run_pure]
theorem xX6 {ds:List Dfd}(J:Inv C X0 N X fr ds a){fn:Func}{D:List IV}(h:resL C.P fr X.st fn.results.toList=some D):∃v,(results fn a.tmps).run C.P X.w=.ok v X.w/\C.v X v (outI D):=by
 obtain⟨vs,F,A⟩:=wU2 J h;have G:(fn.results.mapM (λr=>match r with|.tmp t=>pure (a.tmps.getD t undef)|.cell b T=>(do loadVar T (<- asAddr (a.tmps.getD b undef))):ResultVar->Sem Value)).run C.P X.w=.ok ⟨vs⟩ X.w:=by
  rw[Array.mapM_eq_mapM_toList];simp only[Sem.run_map,F,Result.andThen_ok]
 unfold results;simp only[Sem.run_bind]
 erw [G]
 simp only[Result.andThen_ok,Sem.run_pure];refine⟨_,rfl,?_⟩;have E:=A.1
 match D,vs,A with
 | [x],[v],A=>exact A.2 0 v x rfl rfl
 | [],[],A=>exact A.tup
 | x::y::l,v::u::m,A =>
  rw[dif_neg (by simp)];exact A.tup
theorem Inv.mark {r:Nat}{d:Deferred}{ds:List Deferred}{es:List Dfd}(h:Inv C X0 N X fr (.coll r::es) a)(aj:a.defers=d::ds):Inv C X0 N (X.obj r (.deferred none) (X.st r)) fr es { a with defers:=ds } /\
  d={ target:=.collected r,args:=#[] }/\(Instr.takeDeferred r).run C.P X.w=.ok [] (X.obj r (.deferred none) (X.st r)).w/\(X.obj r (.deferred none) (X.st r)).st=X.st:=by
 have ab:=h.ds;rw[aj] at ab;cases ab with
 | cons hd J ag =>
  obtain⟨hd,F,af,hn⟩:=hd;subst hd;have E:∀c T f,Obj.deferred (some [])≠.cells c T f:=by intro c T f hc;cases hc
  have A:∀c T f,Obj.deferred none≠.cells c T f:=by intro c T f hc;cases hc
  have D:(X.obj r (.deferred none) (X.st r)).st=X.st:=by
   funext b;simp only[WS.obj];split
   ·rename_i hb;rw[hb]
   ·rfl
  have keep:∀ {ds:List Deferred} {es:List Dfd},DsOk C X X0.w.heap.size ds es->Dfd.coll r ∉ es->DsOk C (X.obj r (.deferred none) (X.st r)) X0.w.heap.size ds es:=by
   intro ds es J W
   induction J with
   | nil=>exact .nil
   | cons h' _ ai ih =>
    refine .cons ?_ (ih (λhm=>W (.tail _ hm))) ai;rename_i d' e' _ _ _;cases e' with
    | call f ao args =>
     obtain⟨rs,ac,hd,h1,h2⟩:=h';exact⟨rs,ac,hd,⟨h1.1,λi r x U hx=>xQ4 F E A (h1.2 i r x U hx)⟩,⟨h2.1,λi r x U hx=>xQ4 F E A (h2.2 i r x U hx)⟩⟩
    | coll r' =>
     obtain⟨hd,h1,h2,h3⟩:=h';have ah:r'≠r:=by rintro rfl;exact W (.head _)
     exact⟨hd,(yXr F ah).trans h1,by rw[D];exact h2,h3⟩
  refine⟨⟨h.good.obj F E A (λi hi=>by rw[af] at hi;cases hi),h.ext.obj F E A (.inl hn),⟨λt=>(h.fr.slot t).mono (λ_ _=>xQ4 F E A) ?_,h.fr.inj⟩,h.size,keep J (ag r rfl)⟩,rfl,?_,D⟩
  ·intro b cs J U hb hL aw;have ak:b≠r:=by
    rintro rfl;have G:=h.fr.slot t;rw[J] at G;obtain⟨b',c,T,O,aa,_⟩:=G;rw[U] at O;cases O;rw[F] at aa;cases aa
   exact⟨yXr F ak,rfl,by rw[D];exact hb⟩
  ·have h1:(getObj r).run C.P X.w=.ok (.deferred (some [])) X.w:=by simp[getObj,Sem.run,F]
   have h2:(setObj r (.deferred none)).run C.P X.w=.ok () { X.w with heap:=X.w.heap.setIfInBounds r (.deferred none) }:=by simp[setObj,Sem.run,F]
   unfold Instr.takeDeferred;simp only[Sem.run_bind,h1,Result.andThen_ok,h2,Sem.run_pure];rfl
theorem xYx {c:Cf}{B:Nat}{X0:WS}{N:Nat}{fn:Func}{K:IV->ISt->Prop}{fr:Fr}:∀(es:List Dfd) (X:WS) (a:Act),Inv (c.cx B) X0 N X fr es a->yYf c.P c.gl fn.results.toList K es fr X.st →
  LeavesInM Fence.wide 0 c.P fn a.tmps (λe w'=>∃v,e=.returned v/\ends ⟨c.P,c.gl,B⟩ X0 K v w') a.defers .returning X.w
 | [],X,a,E,h=>by
  have D:a.defers=[]:=by
   have:=E.ds;generalize a.defers=A at this;cases this;rfl
  rw[D];obtain⟨xs,ah,st',ab,hK⟩:=yQ5.1 h;obtain⟨v,hr,hv⟩:=xX6 (C:=c.cx B) E ah;obtain⟨O,G⟩:=E.good.sub ab;exact⟨v,hr,v,rfl,{ X with st:=st' },_,rfl,O,E.ext.trans G,G.v hv,hK⟩
 | .coll r::es,X,a,E,h=>by
  obtain⟨d,A,D⟩:∃d A,a.defers=d::A:=by
   have:=E.ds;generalize a.defers=A at this;cases this;exact⟨_,_,rfl⟩
  obtain⟨W,hd,J,ac⟩:=E.mark D;rw[D];refine⟨by simp,.inl ⟨r,_,by rw[hd],J,?_⟩⟩;exact xYx es _ { a with defers:=A } W (by rw[ac];exact h)
 | .call f am args::es,X,a,E,h=>by
  obtain⟨d,A,D⟩:∃d A,a.defers=d::A:=by
   have:=E.ds;generalize a.defers=A at this;cases this;exact⟨_,_,rfl⟩
  have af:=E.ds;rw[D] at af;cases af with
  | cons hd hs _ =>
   obtain⟨rs,aa,rfl,h1,h2⟩:=hd;rw[D];cases f with
   | func g =>
    rw[xVl] at h;split at h
    ·rename_i he;have aj:∃F,c.P.funcs[g]?=some F/\F.name ≠ "runtime.NumGoroutine" /\ ¬ F.body.isNone=true:=by
      unfold entI at he;cases hf:c.P.funcs[g]? with
      | none=>simp[hf] at he
      | some F =>
       simp only[hf,bAt,bne_iff_ne,ne_eq] at he;exact⟨F,rfl,he.1,by have:=he.2;cases hq:F.body<;>simp_all⟩
     obtain⟨F,hf,ai,U⟩:=aj;refine⟨by simp,.inr ⟨λh=>by simp[Fence.wide] at h,.func g,⟨rs⟩,g,⟨aa++rs⟩,rfl,?_,λ_ _=>trivial,?_⟩⟩
     ·simp only[invoke,callFunc,Sem.run_bind,run_program,Result.andThen_ok,hf];rw[if_neg (by simpa using ai),if_neg U];simp
     ·refine (h B X (aa++rs) .returning E.good rfl (h2.append h1)).mono ?_;rintro e u' w' ⟨rfl,v,rfl,X',x,rfl,O,G,_,hK⟩;have W:Inv (c.cx B) X0 N X' fr es { a with defers:=A }:=by
       have al:Inv (c.cx B) X0 N X fr es { a with defers:=A }:=⟨E.good,E.ext,E.fr,E.size,hs⟩
       exact al.ext' G O
      exact xYx es X' { a with defers:=A } W hK
    ·exact h.elim
   | _=>exact h.elim
end
theorem ICall.intro {c:Cf}{f:FuncId}{fn:Func}{A:Code}{args:List IV}{st:ISt}{K:IV->ISt->Prop}(W:c.P.funcs[f]?=some fn)(hb:fn.body=some A)
  (hN:args.length<=fn.ntmps) (hd:codeOk c fn.ntmps A=true) (h:vcC c A (bodyK c.P c.gl fn.results.toList K) (frOf args) st []):ICall c.P c.gl f args st K:=by
 intro B X rs U E J;subst E;refine (callsIn_wide (n:=0)).1 (callsIn_of_wp_marks W hb trivial ?_);have O:=xZp (N:=fn.ntmps) A c B X none 0 (λ_=>rfl) _ X (frOf args) [] _ hd (Inv.start U J hN) h;refine wpIn_mono O ?_;rintro e a' w' ⟨X',fr',D,rfl,G,F⟩;cases e with
 | normal=>exact xYx D X' a' G F
 | ret=>exact xYx D X' a' G F
 | _=>exact F.elim
theorem ICallD.intro {c:Cf}{f:FuncId}{fn:Func}{A:Code}{args:List IV}{st:ISt}{K:IV->ISt->Prop}(hf:c.P.funcs[f]?=some fn)(hb:fn.body=some A)
  (hN:args.length<=fn.ntmps) (hd:codeOk c fn.ntmps A=true) (h:vcC c A (wUu c.P fn.results.toList K) (frOf args) st []):ICallD c.P c.gl f args st K:=by
 intro B X rs u hg W U;subst W;refine (callsDIn_of_wp (R:=λe w'=>∃v,e=.returned v/\ends ⟨c.P,c.gl,B⟩ X K v w') hf hb trivial ?_);have hs:=xZp (N:=fn.ntmps) A c B X none 0 (λ_=>rfl) _ X (frOf args) [] _ hd (Inv.start hg U hN) h;have E:∀(a':Act) (X':WS) (fr':Fr) (D:List Dfd),Inv (c.cx B) X fn.ntmps X' fr' D a'->chk (D=[]) (yQ8 (resL c.P fr' X'.st fn.results.toList) λxs=>outK K (outI xs) X'.st) →
   a'.defers=[]/\∃v,(results fn a'.tmps).run c.P X'.w=.ok v X'.w/\∃v',Ending.returned v=.returned v'/\ends ⟨c.P,c.gl,B⟩ X K v' X'.w:=by
  rintro a' X' fr' D F ⟨rfl,h⟩;have ac:a'.defers=[]:=by
   have:=F.ds;generalize a'.defers=an at this;cases this;rfl
  obtain⟨xs,O,st',G,hK⟩:=yQ5.1 h;obtain⟨v,hr,U⟩:=xX6 (C:=c.cx B) F O;obtain⟨ab,J⟩:=F.good.sub G;exact⟨ac,v,hr,v,rfl,{ X' with st:=st' },_,rfl,ab,F.ext.trans J,J.v U,hK⟩
 refine wpIn_mono hs ?_;rintro e a' w' ⟨X',fr',D,rfl,F,hq⟩;cases e with
 | normal=>exact E a' X' fr' D F hq
 | ret=>exact E a' X' fr' D F hq
 | _=>exact hq.elim
end Go.Iv
namespace Go.Iv
open Go
def LoopC (c:Cf)(b:Code)(Q:Kc)(fr:Fr)(st:ISt)(ds:List Dfd):Prop:=LoopV (λfr st ds Q=>vcC c b Q fr st ds) Q fr st ds .mk .mk
def RangeC (c:Cf)(f:Fn)(first A:List IV)(ps:Array Tmp)(a b:Code)(Q:Kc)(fr:Fr)(st:ISt)(ds:List Dfd):Prop :=
 wVk c.P c.gl f first A ps.size (λD st' R=>vcC { c with rd:=true } a (zYw (vcC { c with rd:=true } b) R) (yG8 (xKd fr) (ps.toList.zip D)) st' []) (λe st' r=>Q e fr st' (.coll r::ds)) st .mk .mk
section
variable (c:Cf)(Q:Kc)(k:Fr->ISt->List Dfd->Prop)(fr:Fr)(st:ISt)(ds:List Dfd)(a b:Code)(id id' l:Nat)(ops:Array Oper)(x:Operand)
@[go_sem ↓] theorem vG3:vcC c .skip Q fr st ds=Q .normal fr st ds:=(rfl)
@[go_sem ↓] theorem vXz:vcC c (.region id ops false) Q fr st ds=yK5 { c with dr:=false } ops.toList ops.toList (Q .normal) Ad.none_ fr st ds:=(rfl)
@[go_sem ↓] theorem vG6:vcC c (.region id ops true) Q fr st ds=zYe c ops (xQ2 c.ord id) (Q .normal) fr st ds:=(rfl)
@[go_sem ↓] theorem vK7 (g:Operand)(ps:Array Tmp):vcC c (.rangeFunc g ps a b) Q fr st ds=if c.rd=true then False else yQ8 (evV c.gl fr g) λv=>fnV v λf first A =>
   RangeC c f first A ps a b Q fr st ds:=(rfl)
@[go_sem ↓] theorem uQy:vcC c (.seq a b) Q fr st ds=vcC c a (seqK (vcC c b Q) Q) fr st ds:=(rfl)
@[go_sem ↓] theorem vG7:vcC c (.cond x a b) Q fr st ds=yQ8 (evV c.gl fr x) λv=>zJu v λt=>yU6 t (vcC c a Q fr st ds) (vcC c b Q fr st ds) .mk .mk:=(rfl)
@[go_sem ↓] theorem vK8:vcC c (.block id a) Q fr st ds=vcC c a (zWg id Q) fr st ds:=(rfl)
@[go_sem ↓] theorem vG4:vcC c (.loop a) Q fr st ds=LoopC c a Q fr st ds:=(rfl)
@[go_sem ↓] theorem vG5:vcC c (.exit id) Q fr st ds=Q (.exit id) fr st ds:=(rfl)
@[go_sem ↓] theorem uQz:vcC c .ret Q fr st ds=Q .ret fr st ds:=(rfl)
@[go_sem ↓] theorem vQv:seqK k Q .normal fr st ds=k fr st ds:=(rfl)
@[go_sem ↓] theorem wU0:seqK k Q .normal=k:=(rfl)
@[go_sem ↓] theorem vKo:seqK k Q (.exit id) fr st ds=Q (.exit id) fr st ds:=(rfl)
@[go_sem ↓] theorem vG9:seqK k Q .ret fr st ds=Q .ret fr st ds:=(rfl)
@[go_sem ↓] theorem vXk:zWg id Q (.exit id') fr st ds=if id'=id then Q .normal fr st ds else Q (.exit id') fr st ds:=(rfl)
@[go_sem ↓] theorem wG8:zWg id Q .normal fr st ds=Q .normal fr st ds:=(rfl)
@[go_sem ↓] theorem vJw:zWg id Q .ret fr st ds=Q .ret fr st ds:=(rfl)
@[go_sem ↓] theorem vJ5:wX0 Q .ret fr st ds=Q .ret fr st ds:=(rfl)
end
theorem LoopV.intro {body:Fr->ISt->List Dfd->Kc->Prop}{Q:Kc}{fr:Fr}{st:ISt}{ds:List Dfd}(J:Nat->Fr->ISt->List Dfd->Prop)(m:Nat)(D:J m fr st ds)
  (h:∀m fr' st' A,J m fr' st' A->body fr' st' A (vVf J m Q)):LoopV body Q fr st ds .mk .mk:=⟨J,⟨m,D⟩,h⟩
@[go_sem] theorem vVs (fr:Fr)(d:Nat)(A skip:Fr->Prop)(k:Lock A)(l:Lock skip):yWc fr d false (.iv (.raw (.bool true))) A skip k l=Hold true (skip (fr.put d (.iv (.raw (.bool true))))):=by
 unfold yWc;simp[Hold]
@[go_sem] theorem vVr (fr:Fr)(d:Nat)(A skip:Fr->Prop)(k:Lock A)(l:Lock skip):yWc fr d true (.iv (.raw (.bool false))) A skip k l=Hold true (skip (fr.put d (.iv (.raw (.bool false))))):=by
 unfold yWc;simp[Hold]
@[go_sem] theorem vYf (p:Prop):Hold true p=p:=(rfl)
attribute [go_sem ↓] xW5
theorem yKi {fr:Fr}{d:Nat}{A b:Bool}{D skip:Fr->Prop}{k:Lock D}{l:Lock skip}(h1:b=A->D (fr.put d (.iv (.raw (.bool A)))))(h2:b=!A->skip (fr.put d (.iv (.raw (.bool !A))))) :
  yWc fr d A (.iv (.raw (.bool b))) D skip k l:=⟨h1,h2⟩
theorem yZb {b:Bool}{p q:Prop}{k:Lock p}{l:Lock q}(h1:b=true->p)(h2:b=false->q):yU6 b p q k l:=⟨h1,h2⟩
def cf (P:Program)(gl:Nat->Option IV)(esc:List Nat)(ord:List (Nat×List Nat):=[])(frz:List Nat:=[]):Cf:={ P:=P,gl:=gl,esc:=esc,rd:=false,dr:=false,ord:=ord,frz:=frz }
def cfp (P:Program)(gl:Nat->Option IV)(esc:List Nat)(ord:List (Nat×List Nat))(pf:FuncId->List IV->Option IV)
  (pok:∀g A v,pf g A=some v->entI P g=true/\∀st,ICall P gl g A st (λr st'=>r=v/\st'=st)):Cf:={ P:=P,gl:=gl,esc:=esc,rd:=false,dr:=false,ord:=ord,pf:=pf,pok:=pok }
attribute [go_sem] cfp
end Go.Iv
namespace Go.Iv
open Go
theorem w64 {n:Int}(A:-9223372036854775808<=n)(h1:n<=9223372036854775807):IntKind.i64.wrap n=n:=IntWalk.i64_in _ (by omega)
def ctrK (I:Fr->ISt->List Dfd->Prop)(Q:Kc):Kc
 | .normal,fr,st,ds=>I fr st ds
 | e,fr,st,ds=>Q e fr st ds
def vQf (Q:Kc):Kc
 | .normal,_,_,_=>False
 | e,fr,st,ds=>Q e fr st ds
section
variable (I:Fr->ISt->List Dfd->Prop)(Q:Kc)(fr:Fr)(st:ISt)(ds:List Dfd)(id:Nat)
@[go_sem ↓] theorem vXb:ctrK I Q .normal fr st ds=I fr st ds:=(rfl)
@[go_sem ↓] theorem vWt:ctrK I Q (.exit id) fr st ds=Q (.exit id) fr st ds:=(rfl)
@[go_sem ↓] theorem vUw:ctrK I Q .ret fr st ds=Q .ret fr st ds:=(rfl)
@[go_sem ↓] theorem vJ2:vQf Q (.exit id) fr st ds=Q (.exit id) fr st ds:=(rfl)
@[go_sem ↓] theorem vKh:vQf Q .ret fr st ds=Q .ret fr st ds:=(rfl)
end
@[go_sem] theorem yQ7 (l:List UInt8):ByteArray.size ⟨l.toArray⟩=l.length:=by simp[ByteArray.size]
def resD (i:Bool×Nat)(off:Nat):Option IObj->Option IV
 | some (.box cs)=>yVd i.1 i.2 cs off
 | _=>none
@[go_sem] theorem vGb (i:Bool×Nat)(off:Nat)(cs:List IV):resD i off (some (.box cs))=yVd i.1 i.2 cs off:=(rfl)
def resC (i:Option (Bool×Nat))(s:SV)(st:ISt):Option IV :=
 match i,s with
 | some i,.box cs=>yVd i.1 i.2 cs 0
 | some i,.iv (.raw (.pointer (some ⟨b,off,none⟩)))=>resD i off (st b)
 | _,_=>none
@[go_sem] theorem vGd (i:Bool×Nat)(cs:List IV)(st:ISt):resC (some i) (.box cs) st=yVd i.1 i.2 cs 0:=(rfl)
@[go_sem] theorem vGc (i:Bool×Nat)(b off:Nat)(st:ISt):resC (some i) (.iv (.raw (.pointer (some ⟨b,off,none⟩)))) st=resD i off (st b):=(rfl)
@[go_sem ↓] theorem vJ6 (P:Program)(fr:Fr)(st:ISt)(a:Nat)(T:TypeId):resI P fr st (.cell a T)=resC (tyI P T) (fr a) st:=by
 simp only[resI];cases tyI P T with
 | none=>rfl
 | some i =>
  cases E:fr a with
  | box cs=>simp only[plOf,E,resC]
  | iv x =>
   cases x with
   | raw v =>
    cases v with
    | pointer p =>
     cases p with
     | none=>rfl
     | some p =>
      obtain⟨b,off,D⟩:=p;cases D with
      | none =>
       rcases A:st b with _|o
       ·simp only[plOf,resC,resD,A]
       ·cases o<;>simp only[plOf,resC,resD,A]
      | some _=>rfl
    | _=>rfl
   | _=>rfl
theorem yQd {c q:Prop}(h:c->q):giv c q:=h
theorem yQv {c q:Prop}(h:c)(k:q):chk c q:=⟨h,k⟩
theorem yQc {K:IV->ISt->Prop}{x:IV}{st st':ISt}(h:subSt st' st)(k:K x st'):outK K x st:=⟨st',h,k⟩
theorem yQe {st:ISt}{b:Nat}{o:Option IObj}(h:st b=none):subSt st (st.put b o):=λc x hc=>by
 rw[ISt.put_apply];split
 ·rename_i A;rw[A,h] at hc;cases hc
 ·exact hc
theorem yZ7 {st:ISt}{b c:Nat}{o:Option IObj}(h:c≠b):st.put b o c=st c:=by rw[ISt.put_apply,if_neg h]
theorem yVt {st:ISt}{b c:Nat}{o:IObj}(h:st b=some o)(A:st c=none):b≠c:=by rintro rfl;rw[h] at A;cases A
theorem wKh {dst:Option Nat}{K K':Kt}(A:∀ad fr st ds,K ad fr st ds->K' ad fr st ds){ad:Ad}{fr:Fr}{pr:PR}{st:ISt}{ds:List Dfd}:finK dst K ad fr pr st ds->finK dst K' ad fr pr st ds:=by
 cases pr<;>cases dst<;>simp only[finK]<;>first|exact A _ _ _ _|exact id|(split<;>first|exact id|exact A _ _ _ _)
theorem yUa {c:Cf}{ops:List Oper}{Q Q':Fr->ISt->List Dfd->Prop}(W:∀fr st ds,Q fr st ds->Q' fr st ds):∀ {l:List Oper} {ad:Ad} {fr:Fr} {st:ISt} {ds:List Dfd},yK5 c ops l Q ad fr st ds->yK5 c ops l Q' ad fr st ds
 | [],_,_,_,_,h=>W _ _ _ h
 | o::l,ad,fr,st,ds,h=>by
  have U:∀ad fr st ds,yK5 c ops l Q ad fr st ds->yK5 c ops l Q' ad fr st ds:=λ_ _ _ _=>yUa W;have A:∀ad fr pr st ds,finK o.dst (yK5 c ops l Q) ad fr pr st ds->finK o.dst (yK5 c ops l Q') ad fr pr st ds:=λ_ _ _ _ _=>wKh U;clear U;unfold yK5 at h ⊢;split
  ·rename_i G;rw[G] at h;exact yU9 (λ_ _ _=>A _ _ _ _ _) h
  ·rename_i j O G;rw[G] at h;simp only at h;split
   ·rename_i d hd;rw[hd] at h;simp only at h;unfold yWc at h ⊢;split
    ·rename_i b E;rw[E] at h;exact⟨λJ=>yU9 (λ_ _ _=>A _ _ _ _ _) (h.1 J),λJ=>A ad _ (.val (.raw undef)) st ds (h.2 J)⟩
    ·rename_i b E;rw[E] at h;exact A ad _ (.val (.raw undef)) st ds h
    ·rename_i E F;split at h
     ·rename_i b D;exact absurd D (E b)
     ·rename_i b D;exact absurd D (F b)
     ·exact h
   ·rename_i hd;rw[hd] at h;exact h
theorem zJx:∀(A:Code){c:Cf}{Q Q':Kc},(∀e fr st ds,Q e fr st ds->Q' e fr st ds)->∀ {fr:Fr}{st:ISt}{ds:List Dfd},vcC c A Q fr st ds->vcC c A Q' fr st ds:=by
 intro A
 induction A with
 | skip=>intro c Q Q' h fr st ds;exact h _ _ _ _
 | region id ops dr =>
  intro c Q Q' h fr st ds;cases dr with
  | false=>exact yUa (h .normal)
  | true =>
   intro D;change zYe c ops (xQ2 c.ord id) _ fr st ds at D;change zYe c ops (xQ2 c.ord id) _ fr st ds;unfold zYe at *;split at D
   ·exact yUa (h .normal) D
   ·exact yUa (h .normal) D
 | seq a b F E =>
  intro c Q Q' h fr st ds;refine F (λe fr st ds=>?_);cases e<;>first|exact E h|exact h _ _ _ _
 | cond x a b F E =>
  intro c Q Q' h fr st ds;exact yZe λ_=>zVq λ_=>zVp (F h) (E h)
 | block id a G =>
  intro c Q Q' h fr st ds;refine G (λe fr st ds=>?_);cases e<;>first|exact h _ _ _ _|(simp only[zWg];split<;>exact h _ _ _ _)
 | loop a G =>
  intro c Q Q' h fr st ds D;obtain⟨J,h0,hs⟩:=D;refine⟨J,h0,λm fr' st' U hj=>G (λe fr st ds=>?_) (hs m fr' st' U hj)⟩;cases e<;>first|exact id|exact h _ _ _ _
 | rangeFunc g ps ak b _ _ =>
  intro c Q Q' h fr st ds;refine yKr id (yZe λ_=>xVr λ_ _ _=>?_);rintro⟨g,hf,he,W,len,I,S,h1,h2,h3,h4,h5,h6⟩;exact⟨g,hf,he,W,len,I,S,h1,h2,h3,h4,λst r O=>h _ _ _ _ (h5 st r O),λe st r O=>h _ _ _ _ (h6 e st r O)⟩
 | exit id=>intro c Q Q' h fr st ds;exact h _ _ _ _
 | scope a G =>
  intro c Q Q' h fr st ds;refine yKr id (G (λe fr st ds=>?_));cases e<;>first|exact h _ _ _ _|exact id
 | label l=>intro c Q Q' h fr st ds;exact h _ _ _ _
 | goto l=>intro c Q Q' h fr st ds;exact h _ _ _ _
 | ret=>intro c Q Q' h fr st ds;exact h _ _ _ _
 | refuse w=>intro c Q Q' h fr st ds D;exact D.elim
theorem LoopC.ctr {c:Cf}{b:Code}{Q:Kc}{fr:Fr}{st:ISt}{ds:List Dfd}(n:Nat)(I:Nat->Fr->ISt->List Dfd->Prop)(J:I 0 fr st ds)
  (step:∀k fr' st' A,k<n->I k fr' st' A->vcC c b (ctrK (I (k+1)) Q) fr' st' A) (D:∀fr' st' A,I n fr' st' A->vcC c b (vQf Q) fr' st' A) :
  LoopC c b Q fr st ds:=by
 refine LoopV.intro (λm fr st ds=>∃k,m=n-k/\k<=n/\I k fr st ds) n ⟨0,rfl,Nat.zero_le _,J⟩ ?_;rintro m fr' st' A ⟨k,rfl,O,F⟩;rcases Nat.lt_or_ge k n with E|G
 ·refine zJx b (λe fr st ds=>?_) (step k fr' st' A E F);cases e with
  | normal=>exact λh=>⟨n-(k+1),by omega,k+1,rfl,E,h⟩
  | _=>exact id
 ·have:k=n:=by omega
  subst this;refine zJx b (λe fr st ds=>?_) (D fr' st' A F);cases e with
  | normal=>exact False.elim
  | _=>exact id
def seqX (l:List (List IV)):Nat->List IV->Prop:=λk a=>l[k]?=some a
theorem RangeC.intro {c:Cf}{g:FuncId}{first A:List IV}{ps:Array Tmp}{a b:Code}{Q:Kc}{fr:Fr}{st:ISt}{ds:List Dfd}(E:Nat->List IV->Prop)(len:Nat)(I:Nat->ISt->Prop)(S:Exit->ISt->Prop)
  (he:entI c.P g=true) (O:∀k a,E k a->a.length=ps.size) (h0:I 0 st)
  (D:∀k F st',E k F->I k st'->vcC { c with rd:=true } a (zYw (vcC { c with rd:=true } b) (wXx (I (k+1)) S)) (yG8 (xKd fr) (ps.toList.zip F)) st' [])
  (iter:IterC c.P c.gl g first A E len I) (done:∀st' r,I len st'->Q .normal fr st' (.coll r::ds)) (stop:∀e st' r,S e st'->Q e fr st' (.coll r::ds)) :
  RangeC c (.func g) first A ps a b Q fr st ds:=⟨g,rfl,he,wU8 E,len,I,S,λk a _ h=>O k a h.1,h0,λk a e s U hd W=>by
   obtain⟨G,rfl⟩:=U;have J:(λs'=>∃s1,I (k+1) s1/\ISt.disj (λ_=>none) s1/\s'=s1.add (λ_=>none))=I (k+1):=by
    funext s';exact propext ⟨λ⟨s1,h1,_,h2⟩=>h2▸h1,λh=>⟨s',h,λ_ hb=>absurd rfl hb,rfl⟩⟩
   rw[J];exact D k a s G W,iter.lent,done,stop⟩
theorem RangeL.intro {c:Cf}{g:FuncId}{first A:List IV}{ps:Array Tmp}{a b:Code}{Q:Kc}{fr:Fr}{st:ISt}{ds:List Dfd}(E:Nat->List IV->ISt->Prop)(len:Nat)(I:Nat->ISt->Prop)(S:Exit->ISt->Prop)
  (J:entI c.P g=true) (G:∀k a e,E k a e->a.length=ps.size) (O:I 0 st)
  (D:∀k F e s,E k F e->e.disj s->I k s->vcC { c with rd:=true } a (zYw (vcC { c with rd:=true } b) (wXx (λs'=>∃s1,I (k+1) s1/\e.disj s1/\s'=s1.add e) S)) (yG8 (xKd fr) (ps.toList.zip F)) (s.add e) [])
  (iter:wGh c.P c.gl g first A E len I) (done:∀st' r,I len st'->Q .normal fr st' (.coll r::ds)) (stop:∀e st' r,S e st'->Q e fr st' (.coll r::ds)) :
  RangeC c (.func g) first A ps a b Q fr st ds:=⟨g,rfl,J,E,len,I,S,G,O,D,iter,done,stop⟩
end Go.Iv
namespace Go.Iv
open Go
mutual
def age:IV->IV
 | .raw v=>.raw v
 | .agg cs=>.agg (ages cs)
 | .tup vs=>.tup (ages vs)
 | .fn f a b=>.fn f (ages a) (ages b)
 | .sl t A=>.sl ⟨false,t.cap,t.es⟩ (ages A)
 | .cptr x=>.cptr (age x)
 | .junk=>.junk
def ages:List IV->List IV
 | []=>[]
 | x::l=>age x::ages l
end
theorem yWu:∀l:List IV,ages l=l.map age
 | []=>rfl
 | x::l=>by simp only[ages,List.map_cons,yWu l]
theorem yX1 (l:List IV):(ages l).length=l.length:=by rw[yWu,List.length_map]
theorem yKx {l:List IV}{i:Nat}{y:IV}(h:(ages l)[i]?=some y):∃x,l[i]?=some x/\y=age x:=by
 rw[yWu,List.getElem?_map,Option.map_eq_some_iff] at h;obtain⟨x,h1,h2⟩:=h;exact⟨x,h1,h2.symm⟩
theorem yWh (x:IV):(age x).cells=ages x.cells:=by
 cases x<;>simp only[age,IV.cells,ages]
theorem xQq:∀l:List IV,(ages l).flatMap IV.cells=ages (l.flatMap IV.cells)
 | []=>rfl
 | x::l=>by
  simp only[ages,List.flatMap_cons,xQq l,yWh];rw[yWu,yWu,yWu,List.map_append]
theorem V.aged {B B':Nat}{L:Nat->Nat}{w:World}{r:Value}{x:IV}(h:V B L w r x):V B' L w r (age x):=by
 induction h with
 | raw v h=>exact .raw v h
 | junk v=>exact .junk v
 | agg rs cs U _ E =>
  exact .agg rs (ages cs) (by rw[yX1];exact U) λi r c D hc=>by
   obtain⟨x,A,rfl⟩:=yKx hc;exact E i r x D A
 | tup rs cs U _ E =>
  exact .tup rs (ages cs) (by rw[yX1];exact U) λi r c D hc=>by
   obtain⟨x,A,rfl⟩:=yKx hc;exact E i r x D A
 | fn f rs cs U _ ac cs' ah _ E ae =>
  exact .fn f rs (ages cs) (by rw[yX1];exact U) (λi r c D hc=>by
   obtain⟨x,A,rfl⟩:=yKx hc;exact E i r x D A) ac (ages cs') (by rw[yX1];exact ah) λi r c D hc=>by
   obtain⟨x,A,rfl⟩:=yKx hc;exact ae i r x D A
 | sl a cap t xs T vs W O ai hs G J ab F _ E =>
  have key:=V.sl (B:=B') (L:=L) (w:=w) a cap ⟨false,t.cap,t.es⟩ (ages xs) T vs;rw[yX1] at key;refine key W O ai (λy hy=>?_) G J (λh=>by cases h) (λag=>F λh=>ag (by rw[h];rfl)) λi r c D hc=>?_
  ·rw[yWu] at hy;obtain⟨x,A,rfl⟩:=List.mem_map.1 hy;rw[yWh,yX1];exact hs x A
  ·rw[xQq] at hc;obtain⟨x,A,rfl⟩:=yKx hc;exact E i r x D A
 | cptr ad x vs af G hL hc _ E =>
  refine .cptr ad (age x) vs af (by rw[yWh,yX1];exact G) hL hc λi r c D hc=>?_;rw[yWh] at hc;obtain⟨y,hy,rfl⟩:=yKx hc;exact E i r y D hy
theorem VL.aged {B B':Nat}{L:Nat->Nat}{w:World}{rs:List Value}{A:List IV}(h:VL B L w rs A):VL B' L w rs (ages A) :=
 ⟨by rw[yX1];exact h.1,λi r c E hc=>by
  obtain⟨x,D,rfl⟩:=yKx hc;exact (h.2 i r x E D).aged⟩
def yU4:IV->Prop
 | .raw _=>True
 | .junk=>True
 | .sl t _=>t.cap=.nil
 | _=>False
theorem V.flat' {B B':Nat}{L L':Nat->Nat}{w w':World}{r:Value}{x:IV}(h:V B L w r x)(hf:yU4 x):V B' L' w' r x:=by
 cases h with
 | raw _ h=>exact .raw _ h
 | junk _=>exact .junk _
 | sl a cap t xs T vs A E W hs D J G F h =>
  have U:t.cap=.nil:=hf;rw[U] at A;obtain⟨rfl,hl,rfl⟩:=A;obtain rfl:xs=[]:=List.eq_nil_of_length_eq_zero hl;obtain rfl:vs=[]:=List.eq_nil_of_length_eq_zero (by rw[D];simp);exact .sl none 0 t [] T [] (by rw[U];exact⟨rfl,rfl,rfl⟩) E W hs D (λg hg=>by rw[U] at hg;cases hg) (λ_ ad aa=>by cases aa) (λO=>absurd rfl O) (λi r c hr=>by simp at hr)
 | _=>exact hf.elim
theorem VL.flat' {B B':Nat}{L L':Nat->Nat}{w w':World}{rs:List Value}{A:List IV}(h:VL B L w rs A)(E:∀x∈A,yU4 x):VL B' L' w' rs A :=
 ⟨h.1,λi r c D hc=>(h.2 i r c D hc).flat' (E c (lMg hc))⟩
def wKc:IObj->Prop
 | .box cs=>∀c∈cs,yU4 c
 | .front _ _=>True
 | .map _ es=>∀e∈es,yU4 e.2
 | .loop _ _=>False
 | .mapx _ _=>True
 | .iter _ _ _ _=>True
def flatSt (st:ISt):Prop:=∀b o,st b=some o->wKc o
theorem flatSt.none:flatSt λ_=>none:=λ_ _ h=>by cases h
theorem flatSt.put {st:ISt}(h:flatSt st){b:Nat}{o:Option IObj}(A:∀x,o=some x->wKc x):flatSt (st.put b o):=λc x hc=>by
 rw[ISt.put_apply] at hc;split at hc
 ·exact A x hc
 ·exact h c x hc
theorem ObjOk.flat {C C':Cx}{X Y:WS}{b:Nat}{o:IObj}(h:ObjOk C X b o)(G:wKc o)(E:Y.w.heap[b]?=X.w.heap[b]?)(A:Y.L b=X.L b):ObjOk C' Y b o:=by
 cases o with
 | box cs =>
  obtain⟨O,c,T,D,W⟩:=h;exact⟨A.trans O,c,T,E.trans D,W.flat' G⟩
 | front n s =>
  obtain⟨c,T,D,h2,J⟩:=h;exact⟨c,T,E.trans D,A.trans h2,by rw[A];exact J⟩
 | map k es =>
  obtain⟨O,hk,F,e,cl,D,h1,h2,J,h4⟩:=h;exact⟨A.trans O,hk,F,e,cl,E.trans D,h1,h2.flat' (λx U=>by
   obtain⟨p,hp,rfl⟩:=List.mem_map.1 U;exact G p hp),J,h4⟩
 | loop r xs=>exact G.elim
 | mapx e c=>exact⟨A.trans h.1,E.trans h.2⟩
 | iter m s e c=>exact⟨A.trans h.1,E.trans h.2⟩
theorem ICall.sub {P:Program}{gl:Nat->Option IV}{f:FuncId}{args:List IV}{st A:ISt}{K:IV->ISt->Prop}(h:ICall P gl f args A K)(J:subSt A st):ICall P gl f args st K:=by
 intro B X rs U E G;obtain⟨F,D⟩:=U.sub (st:=A) (by rw[E];exact J);refine (h B { X with st:=A } rs F rfl ⟨G.1,λi r c O hc=>D.v (G.2 i r c O hc)⟩).mono ?_;rintro e w' ⟨v,rfl,X',x,h1,h2,h3,h4,W⟩;exact⟨v,rfl,X',x,h1,h2,D.trans h3,h4,W⟩
def appT (n:Nat)(t:Tag):Prop:=t.cap=.nil\/(0<n/\t.fresh=true/\∃g,t.cap=.app g)
theorem appT.pos {n m:Nat}{t:Tag}(h:appT n t)(A:0<m):appT m t:=h.imp id λh=>⟨A,h.2⟩
theorem appT.to {n m:Nat}{t:Tag}(h:appT n t)(A:m=n):appT m t:=A▸h
mutual
def dfr:IV->Prop
 | .raw (.agg _)=>False
 | .raw (.tuple _)=>False
 | .raw _=>True
 | .agg cs=>dfrs cs/\∀c∈cs,c.one=true
 | .tup vs=>dfrs vs
 | .sl t A=>appT A.length t/\dfrs A/\∀c∈A.flatMap IV.cells,c.one=true
 | _=>False
def dfrs:List IV->Prop
 | []=>True
 | x::l=>dfr x/\dfrs l
end
theorem yKt:∀ {l:List IV}{x:IV},dfrs l->x∈l->dfr x
 | y::l,x,h,A=>by
  simp only[dfrs] at h;rcases List.mem_cons.1 A with rfl|A
  ·exact h.1
  ·exact yKt h.2 A
theorem zQp:∀ {l m:List IV},dfrs l->dfrs m->dfrs (l++m)
 | [],m,_,h=>h
 | x::l,m,h,k=>by
  simp only[List.cons_append,dfrs] at h ⊢;exact⟨h.1,zQp h.2 k⟩
theorem wKn {x:IV}(h:dfr x):∀c∈x.cells,dfr c:=by
 cases x with
 | agg cs=>simp only[dfr] at h;exact λc hc=>yKt h.1 hc
 | _=>intro c hc;simp only[IV.cells,List.mem_singleton] at hc;subst hc;exact h
inductive OI (st:ISt):IV->IV->Prop
 | refl (x:IV):OI st x x
 | agg (rs cs:List IV) (hl:rs.length=cs.length) (h:∀(i:Nat) (r c:IV),rs[i]?=some r->cs[i]?=some c->OI st r c):OI st (.agg rs) (.agg cs)
 | tup (rs cs:List IV) (hl:rs.length=cs.length) (h:∀(i:Nat) (r c:IV),rs[i]?=some r->cs[i]?=some c->OI st r c):OI st (.tup rs) (.tup cs)
 | nil (t:Tag) (h:t.cap=.nil):OI st (.raw (.slice none 0 0)) (.sl t [])
 | sl (g cap:Nat) (t:Tag) (xs:List IV) (cs:List IV) (hcap:t.cap=.app g) (hlen:xs.length<=140737488355328) (hcl:xs.length<=cap) (hs:∀x∈xs,x.cells.length=t.es)
   (hst:st g=some (.box cs)) (hroom:cap*t.es<=cs.length) (h:∀(i:Nat) (r c:IV),cs[i]?=some r->(xs.flatMap IV.cells)[i]?=some c->OI st r c) :
   OI st (.raw (.slice (some ⟨g,0,none⟩) xs.length cap)) (.sl t xs)
 | ptr (b:Nat) (x:IV) (cs:List IV) (hst:st b=some (.box cs)) (hl:cs.length=x.cells.length) (h:∀(i:Nat) (r c:IV),cs[i]?=some r->x.cells[i]?=some c->OI st r c) :
   OI st (.raw (.pointer (some ⟨b,0,none⟩))) (.cptr x)
theorem OI.mono {st st':ISt}{y x:IV}(h:OI st y x)(E:∀b cs,st b=some (.box cs)->st' b=some (.box cs)):OI st' y x:=by
 induction h with
 | refl x=>exact .refl x
 | agg rs cs D _ A=>exact .agg rs cs D A
 | tup rs cs D _ A=>exact .tup rs cs D A
 | nil t h=>exact .nil t h
 | sl g cap t F cs h1 h2 U O J G _ A=>exact .sl g cap t F cs h1 h2 U O (E _ _ J) G A
 | ptr b x cs h1 h2 _ A=>exact .ptr b x cs (E _ _ h1) h2 A
def yY2 (st:ISt):ISt:=λb=>match st b with|some (.box _)=>none|o=>o
theorem xXt (st:ISt):subSt (yY2 st) st:=λb o h=>by
 unfold yY2 at h;split at h
 ·cases h
 ·exact h
theorem zZb {st:ISt}{b:Nat}{cs:List IV}(h:st b=some (.box cs)):yY2 st b=none:=by
 unfold yY2;rw[h]
theorem yYa {st:ISt}{b:Nat}(h:∀cs,st b≠some (.box cs)):yY2 st b=st b:=by
 unfold yY2;split
 ·rename_i cs hc;exact absurd hc (h cs)
 ·rfl
def WS.lendS (X:WS)(s1 s0:ISt):WS :=
 { w:=X.w,L:=λb=>match s1 b with|some (.box cs)=>cs.length|_=>X.L b,st:=s0,d:=X.d }
structure LendOk (st s1 s0:ISt):Prop where
 sub1:subSt s1 st
 sub0:subSt s0 st
 off:∀b cs,s1 b=some (.box cs)->s0 b=none
theorem zXj (st:ISt):LendOk st st (yY2 st):=⟨subSt.refl st,xXt st,λ_ _ h=>zZb h⟩
abbrev WS.lend (X:WS):WS:=X.lendS X.st (yY2 X.st)
section
variable {C:Cx}{X:WS}{s1 s0:ISt}
theorem xQf {b:Nat}{cs:List IV}(h:s1 b=some (.box cs)):(X.lendS s1 s0).L b=cs.length:=by simp only[WS.lendS,h]
theorem yYe {b:Nat}(h:∀cs,s1 b≠some (.box cs)):(X.lendS s1 s0).L b=X.L b:=by
 simp only[WS.lendS]
 try split
 all_goals first|rfl|(rename_i cs hc;exact absurd hc (h cs))
theorem Good.lendS_ext (h:Good C X)(k:LendOk X.st s1 s0):Ext X (X.lendS s1 s0) where
 os:=rfl
 tape:=rfl
 output:=rfl
 size:=Nat.le_refl _
 lmono b:=by
  by_cases D:∃cs,s1 b=some (.box cs)
  ·obtain⟨cs,D⟩:=D;obtain⟨F,_⟩:=h.ok b _ (k.sub1 _ _ D);rw[F];exact Nat.zero_le _
  ·rw[yYe λcs hc=>D ⟨cs,hc⟩];exact Nat.le_refl _
 cells _ _ _:=rfl
 keep b _ A:=⟨rfl,yYe λcs hc=>by rw[k.sub1 _ _ hc] at A;cases A⟩
 dom b _ A:=by
  show s0 b=none;cases E:s0 b with
  | none=>rfl
  | some o=>rw[k.sub0 _ _ E] at A;cases A
 shape _ _ hp:=hp
 d:=rfl
theorem Good.lendS (h:Good C X)(k:LendOk X.st s1 s0):Good C (X.lendS s1 s0) where
 ok b o A:=by
  have A:s0 b=some o:=A;have D:∀cs,s1 b≠some (.box cs):=λcs hc=>by rw[k.off b cs hc] at A;cases A
  exact (h.ok b o (k.sub0 b o A)).mono rfl (yYe D) (λ_ _ E=>(h.lendS_ext k).vl E)
 gl g x F:=(h.lendS_ext k).v (h.gl g x F)
 B:=h.B
 Lnew b A:=by
  rw[yYe λcs hc=>?_]
  ·exact h.Lnew b A
  ·have h1:=h.lt (k.sub1 _ _ hc);have h2:X.w.heap.size<=b:=A;omega
 gsh:=h.gsh
 dr:=h.dr
theorem Good.lend_ext (h:Good C X):Ext X X.lend:=h.lendS_ext (zXj _)
theorem Good.lend (h:Good C X):Good C X.lend:=h.lendS (zXj _)
theorem OI.v (h:Good C X)(k:LendOk X.st s1 s0){y x:IV}(ho:OI s1 y x):∀ {r:Value},C.v X r y->C.v (X.lendS s1 s0) r (age x):=by
 induction ho with
 | refl x=>exact λE=>((h.lendS_ext k).v E).aged
 | agg rs cs hl _ ih =>
  intro r E;obtain⟨rr,rfl,A⟩:=V.agg_inv E;refine .agg rr (ages cs) (by rw[yX1,A.1,hl]) λi r c h1 h2=>?_;obtain⟨x,U,rfl⟩:=yKx h2;have hi:=(lGs U).1;have O:rs[i]?=some (rs[i]'(by omega)):=List.getElem?_eq_getElem _;exact ih i _ x O U (A.2 i r _ h1 O)
 | tup rs cs hl _ ih =>
  intro r E;obtain⟨rr,rfl,A⟩:=V.tup_inv E;refine .tup rr (ages cs) (by rw[yX1,A.1,hl]) λi r c h1 h2=>?_;obtain⟨x,U,rfl⟩:=yKx h2;have hi:=(lGs U).1;have O:rs[i]?=some (rs[i]'(by omega)):=List.getElem?_eq_getElem _;exact ih i _ x O U (A.2 i r _ h1 O)
 | nil t hn =>
  intro r E;obtain rfl:=V.raw_inv E;refine .sl none 0 _ [] 0 [] ?_ (by simp) (by simp) (by simp) (by simp) (λg hg=>?_) (λ_ ad ao=>by cases ao) (λal=>absurd rfl al) (λi r c A=>by simp at A)
  ·simp only[hn];exact⟨rfl,rfl,rfl⟩
  ·simp only[hn] at hg;cases hg
 | sl g cap t xs cs W ae ah hs F G _ ih =>
  intro r E;obtain rfl:=V.raw_inv E;obtain⟨h0,c,T,hh,D⟩:=h.ok g _ (k.sub1 _ _ F);have an:(xs.flatMap IV.cells).length=xs.length*t.es:=yQy xs hs;have ax:xs.length*t.es<=cs.length:=Nat.le_trans (Nat.mul_le_mul_right _ ah) G;have J:c.toList.length=cs.length:=D.1;have key:=V.sl (B:=C.B) (L:=(X.lendS s1 s0).L) (w:=X.w) (some ⟨g,0,none⟩) cap ⟨false,t.cap,t.es⟩ (ages xs) T (c.toList.take (xs.length*t.es));rw[yX1] at key;refine key ?_ ae ah (λy hy=>?_) ?_ (λg' ag=>?_) (λhf=>by cases hf) (λ_=>⟨_,rfl,rfl,?_,λi r A=>?_⟩) λi r z A hz=>?_
  ·simp only[W,zXu]
  ·rw[yWu] at hy;obtain⟨x,U,rfl⟩:=List.mem_map.1 hy;rw[yWh,yX1];exact hs x U
  ·rw[List.length_take];simp only;omega
  ·simp only[W,Cap.app.injEq] at ag;subst ag;refine⟨T,c.size,?_,?_⟩
   ·simp[shq,hh]
   ·have:c.size=c.toList.length:=by simp
    rw[this,J];exact G
  ·show 0+(c.toList.take (xs.length*t.es)).length<=(X.lendS s1 s0).L g;rw[xQf F,List.length_take];omega
  ·rw[Nat.zero_add,yZh hh];rw[List.getElem?_take] at A;split at A
   ·simpa using A
   ·cases A
  ·rw[xQq] at hz;obtain⟨x,U,rfl⟩:=yKx hz;rw[List.getElem?_take] at A;split at A
   ·rename_i hi;have O:cs[i]?=some (cs[i]'(by omega)):=List.getElem?_eq_getElem _;exact ih i _ x O U (D.2 i r _ A O)
   ·cases A
 | ptr b x cs F hl _ ih =>
  intro r E;obtain rfl:=V.raw_inv E;obtain⟨h0,c,T,hh,D⟩:=h.ok b _ (k.sub1 _ _ F);have J:c.toList.length=cs.length:=D.1;refine .cptr ⟨b,0,none⟩ (age x) c.toList rfl ?_ ?_ (λi r A=>?_) λi r z A hz=>?_
  ·rw[yWh,yX1,J,hl]
  ·show 0+c.toList.length<=(X.lendS s1 s0).L b;rw[xQf F];omega
  ·show X.w.cell? ⟨b,0+i,none⟩=some r;rw[Nat.zero_add,yZh hh];simpa using A
  ·rw[yWh] at hz;obtain⟨y,hy,rfl⟩:=yKx hz;have hi:=(lGs A).1;have O:cs[i]?=some (cs[i]'(by omega)):=List.getElem?_eq_getElem _;exact ih i _ y O hy (D.2 i r _ A O)
end
def Lent (st:ISt)(y x:IV):Prop:=y=x\/∃A,OI st y A/\x=age A
def Lents (st:ISt):List IV->List IV->Prop
 | [],D=>D=[]
 | y::ys,D=>∃x A,D=x::A/\Lent st y x/\Lents st ys A
theorem Lents.v {C:Cx}{X:WS}(h:Good C X):∀ {ys E:List IV} {rs:List Value},Lents X.st ys E->C.vl X rs ys->C.vl X.lend rs E
 | [],E,rs,A,D=>by
  simp only[Lents] at A;subst A;obtain rfl:rs=[]:=List.eq_nil_of_length_eq_zero D.1;exact VL.nil
 | y::ys,E,rs,A,D=>by
  simp only[Lents] at A;obtain⟨x,F,rfl,G,A⟩:=A;cases rs with
  | nil=>have:=D.1;simp at this
  | cons r rs =>
   have h1:=D.2 0 r y rfl rfl;have h2:C.vl X rs ys:=⟨by have:=D.1;simpa using this,λi a b U O=>D.2 (i+1) a b (by simpa using U) (by simpa using O)⟩
   refine VL.cons ?_ (Lents.v h A h2);rcases G with rfl|⟨W,J,rfl⟩
   ·exact h.lend_ext.v h1
   ·exact J.v h (zXj _) h1
section
variable {P:Program}{gl:Nat->Option IV}{f:FuncId}{args args':List IV}{st:ISt}{K:IV->ISt->Prop}
theorem ICall.freeze (F:Lents st args args')(h:ICall P gl f args' (yY2 st) K):ICall P gl f args st K:=by
 intro B X rs D A E;subst A;refine (h B X.lend rs D.lend rfl (F.v D E)).mono ?_;rintro e w' ⟨v,rfl,X',x,h1,h2,O,J,G⟩;exact⟨v,rfl,X',x,h1,h2,D.lend_ext.trans O,J,G⟩
theorem ICall.lent {K:IV->Prop}(hf:∀b o,st b=some o->(∃cs,o=.box cs)\/wKc o)(hl:Lents st args args')(h:ICall P gl f args' (yY2 st) (λr st'=>st'=yY2 st/\yU4 r/\K r)):ICall P gl f args st (λr st'=>st'=st/\K r):=by
 intro B X rs G ae hv;subst ae;refine (h B X.lend rs G.lend rfl (hl.v G hv)).mono ?_;rintro e w' ⟨v,rfl,X',x,rfl,h2,F,h4,h5,h6,h7⟩;have U:∀ {b o},X.st b=some o->b<X.w.heap.size:=λA=>G.lt A
 let Y:WS:={ w:=X'.w,L:=λb=>match X.st b with|some (.box _)=>0|_=>X'.L b,st:=X.st,d:=X'.d }
 have ag:∀ {b cs},X.st b=some (.box cs)->Y.L b=0:=λA=>by simp only[Y,A]
 have J:∀ {b},(∀cs,X.st b≠some (.box cs))->Y.L b=X'.L b:=λ{b} A=>by
  simp only[Y]
  try split
  all_goals first|rfl|(rename_i cs hc;exact absurd hc (A _))
 have W:∀ {b cs},X.st b=some (.box cs)->X'.w.heap[b]?=X.w.heap[b]?:=λ{b cs} A=>(F.keep b (U A) (zZb A)).1;have he:Ext X Y:=by
  refine⟨F.os,F.tape,F.output,F.size,λb=>?_,λb i hi=>?_,λb A hs=>?_,λb _ hs=>hs,F.shape,F.d⟩
  ·by_cases A:∃cs,X.st b=some (.box cs)
   ·obtain⟨cs,A⟩:=A;rw[(G.ok b _ A).1];exact Nat.zero_le _
   ·rw[J λcs hc=>A ⟨cs,hc⟩];exact Nat.le_trans (G.lend_ext.lmono b) (F.lmono b)
  ·exact F.cells b i (Nat.lt_of_lt_of_le hi (G.lend_ext.lmono b))
  ·have E:∀cs,X.st b≠some (.box cs):=λcs hc=>by rw[hs] at hc;cases hc
   obtain⟨k1,k2⟩:=F.keep b A ((yYa E).trans hs);exact⟨k1,by rw[J E,k2,yYe E]⟩
 refine⟨v,rfl,Y,x,rfl,⟨λb o A=>?_,λg x O=>he.v (G.gl g x O),h2.B,λb A=>?_,λg x O=>?_,h2.dr⟩,he,h4.flat' h6,rfl,h7⟩
 ·by_cases D:∃cs,X.st b=some (.box cs)
  ·obtain⟨cs,D⟩:=D;have aa:X.st b=some o:=A;rw[D] at aa;cases aa;exact (G.ok b _ D).mono (W D) (by rw[ag D,(G.ok b _ D).1]) (λ_ _ hv=>he.vl hv)
  ·have E:∀cs,X.st b≠some (.box cs):=λcs hc=>D ⟨cs,hc⟩;have h1:X'.st b=some o:=by rw[h5];exact (yYa E).trans A
   exact (h2.ok b o h1).flat ((hf b o A).resolve_left λ⟨cs,hc⟩=>D ⟨cs,A.trans (congrArg some hc)⟩) rfl (J E)
 ·have E:∀cs,X.st b≠some (.box cs):=λcs hc=>by
   have:=U hc;have h9:X'.w.heap.size<=b:=A;have h8:X.w.heap.size<=X'.w.heap.size:=F.size;omega
  rw[J E];exact h2.Lnew b A
 ·exact h2.gsh g x O
theorem ICall.fix (h:ICall P gl f args st (λy st'=>∃x s1 s0,LendOk st' s1 s0/\OI s1 y x/\K (age x) s0)):ICall P gl f args st K:=by
 intro B X rs G A E;refine (h B X rs G A E).mono ?_;rintro e w' ⟨v,rfl,X',y,rfl,h2,U,O,x,s1,s0,D,F,J⟩;exact⟨v,rfl,X'.lendS s1 s0,age x,rfl,h2.lendS D,U.trans (h2.lendS_ext D),F.v h2 D O,J⟩
theorem wKw {t:Tag}{g n c:Nat}{a:Option Addr}(h:zXu t.cap a n c)(A:t.cap=.app g):a=some ⟨g,0,none⟩:=by rw[A] at h;exact h
open Classical in
noncomputable def rdI (v:Value):IV:=if zXc v then .raw v else .junk
theorem vKv {v:Value}(h:zXc v):rdI v=.raw v:=if_pos h
theorem wWh (v:Value):yU4 (rdI v):=by unfold rdI;split<;>trivial
theorem uVm {B:Nat}{L:Nat->Nat}{w:World}(v:Value):V B L w v (rdI v):=by
 unfold rdI;split
 ·exact .raw v ‹_›
 ·exact .junk v
noncomputable def yG5 (w:World)(M:Nat)(st:ISt):ISt:=λb =>
 if b<M then st b else match w.heap[b]? with
  | some (.cells c _ f)=>if f=(0,0) then some (.box (c.toList.map rdI)) else none
  | _=>none
def rawC (c:IV):Prop:=(∃v,c=.raw v)\/c=.junk
mutual
def rawY:IV->Prop
 | .raw _=>True
 | .junk=>True
 | .agg cs=>xV1 cs
 | .tup vs=>xV1 vs
 | _=>False
def xV1:List IV->Prop
 | []=>True
 | x::l=>rawY x/\xV1 l
end
theorem xX8 {l:List IV}(h:∀x∈l,rawY x):xV1 l:=by
 induction l with
 | nil=>trivial
 | cons x l A=>exact⟨h x (by simp),A λy D=>h y (by simp[D])⟩
theorem yGo:∀ {l:List IV}{x:IV},xV1 l->x∈l->rawY x
 | y::l,x,h,A=>by
  simp only[xV1] at h;rcases List.mem_cons.1 A with rfl|A
  ·exact h.1
  ·exact yGo h.2 A
theorem uVr {M:Nat}{L:Nat->Nat}{w:World}{st:ISt}{r:Value}{x:IV}(h:V M L w r x):dfr x->∃y,(∀B L' w',V B L' w' r y)/\OI (yG5 w M st) y x/\(x.one=true->zXc r/\y=.raw r)/\rawY y:=by
 induction h with
 | raw v h=>exact λ_=>⟨.raw v,λ_ _ _=>.raw v h,.refl _,λ_=>⟨h,rfl⟩,trivial⟩
 | junk v=>intro hd;simp only[dfr] at hd
 | agg rs cs hl _ ih =>
  intro hd;simp only[dfr] at hd;have key:∀i r c,rs[i]?=some r->cs[i]?=some c->zXc r/\OI (yG5 w M st) (.raw r) c:=λi r c A hc=>by
   obtain⟨y,_,h2,h3,_⟩:=ih i r c A hc (yKt hd.1 (lMg hc));obtain⟨h4,rfl⟩:=h3 (hd.2 c (lMg hc));exact⟨h4,h2⟩
  refine⟨.agg (rs.map .raw),λB L' w'=>.agg rs _ (by simp) λi r c A hc=>?_,.agg _ cs (by simpa using hl) λi r c A hc=>?_,λF=>by simp[IV.one] at F,xX8 λx F=>by obtain⟨r,_,rfl⟩:=List.mem_map.1 F;trivial⟩
  ·rw[List.getElem?_map,A] at hc;cases hc;have O:=(lGs A).1;exact .raw r (key i r _ A (List.getElem?_eq_getElem (by omega))).1
  ·rw[List.getElem?_map,Option.map_eq_some_iff] at A;obtain⟨r',aq,rfl⟩:=A;exact (key i r' c aq hc).2
 | tup rs cs hl _ ih =>
  intro hd;simp only[dfr] at hd;have key:∀i:Nat,∃y,(∀r c,rs[i]?=some r->cs[i]?=some c->(∀B L' w',V B L' w' r y)/\OI (yG5 w M st) y c)/\rawY y:=λi=>by
   by_cases O:i<rs.length
   ·obtain⟨y,h1,h2,_,h5⟩:=ih i _ _ (List.getElem?_eq_getElem O) (List.getElem?_eq_getElem (by omega)) (yKt hd (List.getElem_mem _));refine⟨y,λr c A hc=>?_,h5⟩;rw[List.getElem?_eq_getElem O] at A;rw[List.getElem?_eq_getElem (show i<cs.length by omega)] at hc;cases A;cases hc;exact⟨h1,h2⟩
   ·exact⟨.junk,(λr c A=>by rw[List.getElem?_eq_none (by omega)] at A;cases A),trivial⟩
  let ys:List IV:=(List.range rs.length).map λi=>(key i).choose
  have hys:∀i y,ys[i]?=some y->y=(key i).choose:=λi y hy=>by
   simp only[ys,List.getElem?_map,Option.map_eq_some_iff] at hy;obtain⟨j,hj,rfl⟩:=hy;obtain⟨aI,ai⟩:=lGs hj;simp at ai;rw[ai]
  have ac:ys.length=rs.length:=by simp[ys]
  refine⟨.tup ys,λB L' w'=>.tup rs _ ac.symm λi r c A hc=>?_,.tup _ cs (by rw[ac,hl]) λi r c A hc=>?_,λF=>by simp[IV.one] at F,xX8 λx F=>by obtain⟨i,_,rfl⟩:=List.mem_map.1 F;exact (key i).choose_spec.2⟩
  ·have O:=(lGs A).1;rw[hys i c hc];exact ((key i).choose_spec.1 r _ A (List.getElem?_eq_getElem (show i<cs.length by omega))).1 B L' w'
  ·have O:=(lGs hc).1;rw[hys i r A];exact ((key i).choose_spec.1 _ c (List.getElem?_eq_getElem (show i<rs.length by omega)) hc).2
 | fn=>intro hd;simp only[dfr] at hd
 | cptr=>intro hd;simp only[dfr] at hd
 | sl a cap t xs T vs E ag ay hs an U J G aG ih =>
  intro hd;simp only[dfr] at hd;obtain⟨ak,ax,af⟩:=hd;refine⟨_,λ_ _ _=>.raw _ trivial,?_,λ_=>⟨trivial,rfl⟩,trivial⟩;rcases ak with hn|⟨_,aw,g,hg⟩
  ·rw[hn] at E;obtain⟨rfl,hl,rfl⟩:=E;obtain rfl:xs=[]:=List.eq_nil_of_length_eq_zero hl;exact .nil t hn
  ·obtain rfl:=wKw E hg;obtain⟨hM,_,_⟩:=J aw _ rfl;obtain⟨T',k,D,hk⟩:=U g hg;unfold shq at D;split at D
   case h_2=>cases D
   rename_i c e fz hh;simp only[Option.some.injEq,Prod.mk.injEq,beq_iff_eq] at D;obtain⟨⟨rfl,rfl⟩,rfl⟩:=D;have ao:yG5 w M st g=some (.box (c.toList.map rdI)):=by
    unfold yG5;rw[if_neg (by simp only at hM;omega),hh];simp
   refine .sl g cap t xs _ hg ag ay hs ao (by simpa using hk) λi r z A hz=>?_;have au:xs≠[]:=by rintro rfl;simp at hz
   obtain⟨ad,az,_,_,W⟩:=G au;cases az;have O:=(lGs hz).1;rw[yQy xs hs,<- an] at O;have ae:=List.getElem?_eq_getElem O;have aj:=W i _ ae;rw[Nat.zero_add,yZh hh] at aj;obtain⟨y,_,h2,h3,_⟩:=ih i _ z ae hz (by
    obtain⟨x,F,am⟩:=List.mem_flatMap.1 (lMg hz);exact wKn (yKt ax F) z am)
   obtain⟨h4,rfl⟩:=h3 (af z (lMg hz));rw[List.getElem?_map,aj] at A;simp only[Option.map_some,Option.some.injEq] at A;rw[vKv h4] at A;rw[<- A];exact h2
theorem wWg (v:Value):rawC (rdI v):=by
 unfold rdI;split
 ·exact .inl ⟨v,rfl⟩
 ·exact .inr rfl
def wXh (st:ISt):Prop:=∀b cs,st b=some (.box cs)->∀c∈cs,rawC c
theorem ICall.nil1 (h:ICall P gl f [.sl ⟨true,.nil,0⟩ []] st K):ICall P gl f [.raw (.slice none 0 0)] st K:=by
 intro B X rs F A J;refine h B X rs F A ⟨J.1,λi r c D hc=>?_⟩;cases i with
 | zero =>
  have h1:=J.2 0 r _ D rfl;obtain rfl:=V.raw_inv h1;simp only[List.getElem?_cons_zero,Option.some.injEq] at hc;subst hc;exact .sl none 0 ⟨true,.nil,0⟩ [] 0 [] ⟨rfl,rfl,rfl⟩ (by simp) (by simp) (by simp) (by simp) (λg F=>by cases F) (λ_ ad G=>by cases G) (λE=>absurd rfl E) (λi r c D=>by simp at D)
 | succ i=>simp at hc
end
theorem iteT {α:Sort _}{c:Prop} [Decidable c]{a b:α}(h:c=True):ite c a b=a:=if_pos (of_eq_true h)
theorem iteF {α:Sort _}{c:Prop} [Decidable c]{a b:α}(h:c=False):ite c a b=b:=if_neg (of_eq_false h)
theorem laC {α:Type _}{a:α}{l:List α}{f:α->Bool}:(a::l).all f=(f a&&l.all f):=(rfl)
theorem laN {α:Type _}{f:α->Bool}:[].all f=true:=(rfl)
theorem naZ (n:Nat):n+0=n:=(rfl)
theorem lgZ {α:Type _}{a:α}{l:List α}:(a::l)[0]?=some a:=(rfl)
theorem lgS {α:Type _}{a:α}{i:Nat}{l:List α}:(a::l)[i+1]?=l[i]?:=(rfl)
theorem omS {α:Type _}{β:Type _}(a:α)(f:α->β):Option.map f (some a)=some (f a):=(rfl)
theorem nsZ (n:Nat):n-0=n:=(rfl)
theorem itN (n:Nat):((n:Int)).toNat=n:=(rfl)
theorem llC {α:Type _}{a:α}{l:List α}:(a::l).length=l.length+1:=(rfl)
theorem llN {α:Type _}:([]:List α).length=0:=(rfl)
theorem ltS {α:Type _}{a:α}{l:List α}{i:Nat}:List.take (i+1) (a::l)=a::List.take i l:=(rfl)
theorem ltZ {α:Type _}{l:List α}:List.take 0 l=[]:=List.take_zero
theorem lcA {α:Type _}{a:α}{l m:List α}:a::l++m=a::(l++m):=(rfl)
theorem lnA {α:Type _}(l:List α):[]++l=l:=(rfl)
theorem lzC {α:Type _}{a:α}{l:List α}{β:Type _}{b:β}{m:List β}:(a::l).zip (b::m)=(a,b)::l.zip m:=(rfl)
theorem lzN {α:Type _}{β:Type _}{l:List β}:([]:List α).zip l=[]:=(rfl)
attribute [go_sem ↓] iteT iteF
attribute [go_sem] cf yXb laC laN Bool.and_self Bool.true_and Bool.and_true Bool.false_and Bool.and_false Bool.not_true Bool.not_false List.mem_nil_iff if_false if_true beq_self_eq_true Nat.zero_add naZ lgZ lgS omS List.mem_cons or_false false_or or_true true_or nsZ forall_const itN llC llN List.map_cons List.map_nil ltS ltZ List.drop_zero List.drop_succ_cons lcA lnA List.append_nil and_true true_and and_self true_implies lzC lzN
end Go.Iv
theorem Go.Iv.iI {P:Go.Program}{gl:Nat->Option Go.Iv.IV}{f:Go.FuncId}{fn:Go.Func}{code:Go.Code}{args:List Go.Iv.IV}{st:Go.Iv.ISt}{K:Go.Iv.IV->Go.Iv.ISt->Prop}(hf:P.funcs[f]?=some fn)(h:Go.Iv.vcC (Go.Iv.cf P gl [] []) code (Go.Iv.bodyK P gl fn.results.toList K) (Go.Iv.frOf args) st [])(hb:fn.body=some code:=by rfl)(hN:Nat.ble args.length fn.ntmps=true:=by rfl)(hd:Go.Iv.codeOk (Go.Iv.cf P gl [] []) fn.ntmps code=true:=by kernel_rfl):Go.Iv.ICall P gl f args st K:=Go.Iv.ICall.intro (c:=Go.Iv.cf P gl [] []) hf hb (Nat.le_of_ble_eq_true hN) hd h