/- The layer of ideal values, part L: appen -/
import Derived.Test.YtakbihknkdpmgaaGreatDoorJD
import Derived.Deep.Upon
import Derived.Lib.AppendZeros
set_option linter.all false
namespace Go.Iv
open Go
def WS.drop (X:WS)(g:Nat):WS:={ X with st:=λb=>if b=g then none else X.st b }
section
variable {C:Cx}{X:WS}
def lB (g:Nat):Ext X (X.drop g):=⟨rfl,rfl,rfl,dJ _,λ_=>dJ _,λ_ _ _=>rfl,λ_ _ _=>⟨rfl,rfl⟩,λb _ h=>by simp only[WS.drop];split<;>first|rfl|exact h,λ_ _ h=>h,rfl⟩
def Good.drop (h:Good C X)(g:Nat):Good C (X.drop g) where
 ok b o A:=by
  simp only[WS.drop] at A;split at A
  ·cases A
  ·exact (h.ok b o A).mono rfl rfl (λ_ _ hv=>hv)
 gl:=h.gl
 B:=h.B
 Lnew:=h.Lnew
 gsh:=h.gsh
 dr:=h.dr
def Inv.drop {X0:WS}{N:Nat}{fr:Fr}{ds:List Dfd}{a:Act}(h:Inv C X0 N X fr ds a)(g:Nat):Inv C X0 N (X.drop g) fr ds a:=h.ext' (lB g) (h.good.drop g)
def Inv.drew {X0:WS}{N:Nat}{fr:Fr}{ds:List Dfd}{a:Act}(h:Inv C X0 N X fr ds a):Inv C X0 N X.drew fr ds a:=h.ext' h.good.drew.1 h.good.drew.2
def wh {r:Value}{tg:Tag}{A:List IV}{s:Nat}(hv:C.v X r (.sl tg A))(ac:∀x∈A,x.cells.length=s) :
  ∃(ad:Option Addr) (cap:Nat) (vs:List Value),r=.slice ad A.length cap/\A.length<=cap/\vs.length=A.length*s/\C.vl X vs (A.flatMap IV.cells) /\
   (∀b,ad=some b->∀j v,vs[j]?=some v->X.w.cell? (b.add j)=some v)/\(ad=none->A=[]):=by
 cases hv with
 | sl ad cap _ _ T vs ai ah ae hs G ab O D hc =>
  by_cases U:A=[]
  ·subst U;exact⟨ad,cap,[],rfl,by simp,by simp,VL.nil,λ_ _ _ _ h=>by simp at h,λ_=>rfl⟩
  ·have hts:tg.es=s:=by
    cases A with
    | nil=>exact absurd rfl U
    | cons x A=>rw[<- hs x (by simp),<- ac x (by simp)]
   obtain⟨b,hb,aa,_,E⟩:=D U;refine⟨ad,cap,vs,rfl,ae,by rw[G,hts],⟨?_,hc⟩,λb' J j v hj=>?_,λh0=>by rw[h0] at hb;cases hb⟩
   ·rw[gD A hs,G]
   ·rw[hb] at J;cases J;rw[mD _ aa];exact E j v hj
def Src.of {P:Program}{w:World}{A J:TypeId}{ad:Option Addr}{m cap s:Nat}{vs:List Value}(D:P.underlying A=some (.slice J))(hl:vs.length=m*s)
  (hc:∀b,ad=some b->∀j v,vs[j]?=some v->w.cell? (b.add j)=some v) (E:ad=none->m=0) (h1:∀u∈vs,u.oneCell'=true):Src P s A (.slice ad m cap) m vs w:=by
 cases ad with
 | some b=>exact Go.Src.ofSlice w D b m cap vs hl (hc b rfl) h1
 | none =>
  have G:=E rfl;subst G;have:vs=[]:=eG (by rw[hl];simp);subst this;exact Go.Src.ofNil w D cap
def wi {P:Program}{w:World}{ad:Option Addr}{m cap s:Nat}{vs:List Value}(hl:vs.length=m*s)
  (hc:∀b,ad=some b->∀j v,vs[j]?=some v->w.cell? (b.add j)=some v) (A:ad=none->m=0):(Builtin.firstCells s m (.slice ad m cap)).run P w.drew=.ok vs.toArray w.drew:=by
 cases ad with
 | some b=>exact run_firstCells_some w.drew s m b m cap vs hl (hc b rfl)
 | none =>
  have D:=A rfl;subst D;have:vs=[]:=eG (by rw[hl];simp);subst this;exact run_firstCells_none w.drew s 0 0 cap
def qS {B:Nat}{L:Nat->Nat}{w:World}{r:Value}{cp:Cap}{s:Nat}{xs:List IV}(f:Bool)(h:V B L w r (.sl ⟨true,cp,s⟩ xs)):V B L w r (.sl ⟨f,cp,s⟩ xs):=by
 cases h with
 | sl ad cap _ _ T vs J G U hs O E D A hc=>exact .sl ad cap _ _ T vs J G U hs O E (λ_=>D rfl) A hc
def je {B:Nat}{L:Nat->Nat}{w:World}{r:Value}{t:Tag}{A:List IV}(hv:V B L w r (.sl t A)):∃(a:Option Addr) (cap:Nat) (T:TypeId) (vs:List Value),r=.slice a A.length cap /\
  (∀x∈A,x.cells.length=t.es)/\vs.length=A.length*t.es/\(∀g,t.cap=.app g->∃T' k,shq w g=some ((T',k),true)/\cap*t.es<=k) /\
  (t.fresh=true->∀ad:Addr,a=some ad->B<=ad.block/\ad.off%t.es=0/\ety w ad.block=some T) /\
  (A≠[]->∃ad:Addr,a=some ad/\ad.spot=Option.none/\ad.off+vs.length<=L ad.block/\(∀(i:Nat) (r:Value),vs[i]?=some r->w.cell? ⟨ad.block,ad.off+i,Option.none⟩=some r)) /\
  VL B L w vs (A.flatMap IV.cells):=by
 cases hv with
 | sl a cap _ _ T vs _ _ _ hs D E G hp hc=>exact⟨a,cap,T,vs,rfl,hs,D,E,G,hp,by rw[gD A hs,D],hc⟩
def V.push {g s cap:Nat}{f:Bool}{c:Array Value}{E:TypeId}{D ys:List IV}{A:List Value}{so:Option IObj}(hv:C.v X (.slice (some ⟨g,0,none⟩) D.length cap) (.sl ⟨f,.app g,s⟩ D))
  (hh:X.w.heap[g]?=some (.cells c E (0,0))) (hL:X.L g=D.length*s) (hn:C.vl X A (ys.flatMap IV.cells)) (hys:∀y∈ys,y.cells.length=s) (J:D.length+ys.length<=cap) (al:D.length+ys.length<=140737488355328) :
  D.length*s+A.length<=c.size/\(c.toList.take (D.length*s)++A++c.toList.drop (D.length*s+A.length)).toArray.size=c.size /\
  (∀i,i<X.L g->(c.toList.take (D.length*s)++A++c.toList.drop (D.length*s+A.length)).toArray[i]?=c[i]?)/\(D.length+ys.length)*s<=c.size /\
  C.v (X.row g (c.toList.take (D.length*s)++A++c.toList.drop (D.length*s+A.length)).toArray ((D.length+ys.length)*s) so) (.slice (some ⟨g,0,none⟩) (D.length+ys.length) cap) (.sl ⟨f,.app g,s⟩ (D++ys)):=by
 have ak:A.length=ys.length*s:=by rw[hn.1,gD ys hys]
 have ab:(D.length+ys.length)*s=D.length*s+A.length:=by rw[ak,fp]
 have ax:cap*s<=c.size:=by
  obtain⟨_,_,_,_,he,_,_,hr,_⟩:=je hv;cases he;obtain⟨T',k,h1,h2⟩:=hr g rfl;simp only[shq,hh,dG,Prod.mk.injEq] at h1;grind
 have af:(D.length+ys.length)*s<=c.size:=dT (fz _ J) ax;have G:(c.toList.take (D.length*s)++A++c.toList.drop (D.length*s+A.length)).toArray.size=c.size:=by
  grind
 have htl:(c.toList.take (D.length*s)).length=D.length*s:=by rw[ab] at af;simp;omega
 have O:∀i,i<X.L g->(c.toList.take (D.length*s)++A++c.toList.drop (D.length*s+A.length)).toArray[i]?=c[i]?:=λi hi=>by
  grind
 refine⟨by rw[<- ab];exact af,G,O,af,?_⟩;have ae:∀r x,C.v X r x->C.v (X.row g (c.toList.take (D.length*s)++A++c.toList.drop (D.length*s+A.length)).toArray ((D.length+ys.length)*s) so) r x :=
  λr x h=>kv hh G (by rw[hL];exact fz _ (Nat.le_add_right _ _)) O h
 obtain⟨_,_,T,vs,he,hs,ac,hr,aa,U,ao⟩:=je hv;cases he;have am:C.vl X (vs++A) ((D++ys).flatMap IV.cells):=by rw[jA];exact ao.append hn
 have ag:∀i,(X.row g (c.toList.take (D.length*s)++A++c.toList.drop (D.length*s+A.length)).toArray ((D.length+ys.length)*s) so).w.cell? ⟨g,i,none⟩ =
   (c.toList.take (D.length*s)++A++c.toList.drop (D.length*s+A.length))[i]?:=λi=>by
  simp only[WS.row];rw[jn (fY X.w g c _ E (0,0) hh)]
 have key:=V.sl (B:=C.B) (L:=(X.row g (c.toList.take (D.length*s)++A++c.toList.drop (D.length*s+A.length)).toArray ((D.length+ys.length)*s) so).L)
  (w:=(X.row g (c.toList.take (D.length*s)++A++c.toList.drop (D.length*s+A.length)).toArray ((D.length+ys.length)*s) so).w)
  (some ⟨g,0,none⟩) cap ⟨f,.app g,s⟩ (D++ys) T (vs++A)
 rw[lLa] at key;refine key rfl al J (λx hx=>?_) (by rw[lLa,ac,ak,fp]) (λg' av=>?_) (λhf ad ha=>?_) (λ_=>⟨_,rfl,rfl,?_,λi r ai=>?_⟩) (λi r x h1 h2=>ae _ _ (am.2 i r x h1 h2))
 ·grind
 ·obtain⟨T',k,h1,h2⟩:=hr g' av;exact⟨T',k,(qF hh G g').trans h1,h2⟩
 ·obtain⟨h1,h2,h3⟩:=aa hf ad ha;exact⟨h1,h2,by unfold ety at h3 ⊢;rw[show shq (X.row g _ _ so).w ad.block=shq X.w ad.block from qF hh G ad.block];exact h3⟩
 ·simp only[WS.row,dD];grind
 ·rw[ee,ag];simp only at ac;by_cases hi:i<vs.length
  ·rw[fw hi] at ai;have au:D≠[]:=by rintro rfl;rw[ac] at hi;simp at hi
   obtain⟨ad,ha,_,_,aj⟩:=U au;cases ha;have h1:=aj i r ai;rw[ee] at h1;simp only at h1;rw[jn hh] at h1;grind
  ·grind
def wj {P:Program}(w:World)(t O U e E:TypeId)(i:TypeInfo)(ht:P.underlying t=some (.slice e))(hi:P.info? e=some i)(b A G:Nat)(x:Value)(n:Nat)(D:List Value)(c:Array Value)(hs:Src P i.size O x n D w)
  (J:A+n<=G) (hh:w.heap[b]?=some (.cells c E (0,0))) (aa:A*i.size+D.length<=c.size) :
  (Builtin.append_ #[t,O] U #[.slice (some ⟨b,0,none⟩) A G,x]).run P w =
   .ok (.slice (some ⟨b,0,none⟩) (A+n) G) (w.setRow b (c.toList.take (A*i.size)++D++c.toList.drop (A*i.size+D.length)).toArray):=by
 have hst:=run_storeCells_at (P:=P) b (A*i.size) E D 0 c w hh (by omega) hs.one;simp only[iH] at hst;rcases hs.kind with⟨e',hk⟩|hk<;>simp[Builtin.append_,dS ht,dS hk,sizeOf,typeInfo,hi,hs.len,J,hs.cells,Addr.add_lit,hst]
end
section
variable {C:Cx}{X0 X:WS}{N:Nat}{fr:Fr}{ds:List Dfd}{a:Act}{ad:Ad}{K:Kt}{ro:Option Nat}{n:Nat}{Q:Exit->Act->World->Prop}{o:Oper}
variable (hA:At C X0 N X fr ds a ad o.dst)
include hA
def I7 {T T' e:TypeId}{x y:Operand}{s by_ g₀:Nat}{i:TypeInfo}{z:Value}{D ys:List IV}{olds E:List Value}{base ac:Option Addr}{A J:Nat}(ho:o.op=.call ⟨.builtin .append,⟨[x,y]⟩,⟨[T,T']⟩⟩)
  (hT:C.P.underlying T=some (.slice e)) (hi:C.P.info? e=some i) (aq:i.bytes=by_) (hz:i.zero=some z) (hzs:z.cells.size=s)
  (ex:a.eval x=.slice base D.length A) (ey:a.eval y=.slice ac ys.length J) (ag:(Builtin.firstCells i.size D.length (.slice base D.length A)).run C.P X.w.drew=.ok olds.toArray X.w.drew)
  (hs:Src C.P i.size T' (.slice ac ys.length J) ys.length E X.w) (ak:C.vl X olds (D.flatMap IV.cells)) (al:C.vl X E (ys.flatMap IV.cells)) (az:∀x∈D,x.cells.length=s) (hys:∀x∈ys,x.cells.length=s)
  (hg:A<D.length+ys.length) (av:(D.length+ys.length)*by_<=140737488355328) (au:D.length+ys.length<=140737488355328) (f:Bool)
  (h:∀g,X.st g=none->finK o.dst K ad fr (.val (.sl ⟨f,.app g,s⟩ (D++ys))) (((X.drop g₀).st:ISt).put g (some (.front (D.length+ys.length) s))) ds) :
  o.wpIn (eF ro) n C.P a X.w (PK C X0 N K) Q:=by
 have hnd:∀c,o.op≠.defer c:=by rw[ho];intro c hc;cases hc
 have ai:Builtin.nextslicecap (D.length+ys.length) A*i.bytes<=281474976710656:=growslice_fits hg (by rw[aq];exact av);have af:=run_append_grow_src X.w T T' o.type e i z hT hi hz base D.length A olds ag (.slice ac ys.length J) ys.length E hs hg (by omega) ai;have hr:(execOp a.eval o).run C.P X.w=.ok (.value (.slice (some ⟨X.w.heap.size,0,none⟩) (D.length+ys.length) (grownCap X.w (D.length+ys.length) A e)))
   (X.w.drew.alloc (.cells ((olds++E).toArray++Builtin.zeroCells z.cells (grownCap X.w (D.length+ys.length) A e-(D.length+ys.length))) e)):=by
  rw[kE ho];simp only[builtin,iW,ec,fx,ex,ey,dt,af,dq,dv]
 have an:=grownCap_ge X.w (D.length+ys.length) A e;have ab:(D++ys).flatMap IV.cells=D.flatMap IV.cells++ys.flatMap IV.cells:=by simp
 have ae:C.vl X (olds++E) ((D++ys).flatMap IV.cells):=by rw[ab];exact ak.append al
 have U:∀x∈D++ys,x.cells.length=s:=λx hx=>by
  grind
 have G:(olds++E).length=(D.length+ys.length)*s:=by rw[ae.1,gD _ U,lLa]
 have ao:Ext X (X.drop g₀).drew:=(lB g₀).trans (hA.inv.good.drop g₀).drew.1;have aa:=(hA.inv.good.drop g₀).drew.2;have O:(⟨(olds++E)++(Builtin.zeroCells z.cells (grownCap X.w (D.length+ys.length) A e-(D.length+ys.length))).toList⟩:Array Value) =
   (olds++E).toArray++Builtin.zeroCells z.cells (grownCap X.w (D.length+ys.length) A e-(D.length+ys.length)):=by
  grind
 have ah:=v7 (X:=(X.drop g₀).drew) (cp:=.app X.w.heap.size) (so:=some (.front (D.length+ys.length) s)) (rest:=(Builtin.zeroCells z.cells (grownCap X.w (D.length+ys.length) A e-(D.length+ys.length))).toList)
  (e:=e) (cap:=grownCap X.w (D.length+ys.length) A e) aa (ao.vl ae) U (by rw[lLa];exact au) (by rw[lLa];exact an) rfl (λg _=>by
   have aj:(Builtin.zeroCells z.cells (grownCap X.w (D.length+ys.length) A e-(D.length+ys.length))).toList.length=(grownCap X.w (D.length+ys.length) A e-(D.length+ys.length))*s:=by
    rw[jR,size_zeroCells,hzs]
   rw[lLa,G,aj,<- fp];exact fz _ (by omega))
 rw[O,G,lLa] at ah;have hI:=((hA.inv.drop g₀).drew).new (.cells ((olds++E).toArray++Builtin.zeroCells z.cells (grownCap X.w (D.length+ys.length) A e-(D.length+ys.length))) e) ((D.length+ys.length)*s)
  (some (.front (D.length+ys.length) s)) (λi hi=>by
   cases hi;refine⟨_,e,iL _ _,by simp[WS.new],?_⟩;simp only[WS.new,dD];rw[Array.size_append,kn,G];exact Nat.le_add_right _ _)
 exact et hr hnd (gA hI hA.ad hA.hd (qS f ah) (h X.w.heap.size (by
  cases hq:X.st X.w.heap.size with
  | none=>rfl
  | some o=>have:=hA.inv.good.lt hq;omega)))
omit hA in
def lC {B:Nat}{L:Nat->Nat}{w:World}(rs:List Value):VL B L w rs (List.replicate rs.length .junk) :=
 ⟨by simp,λi r c _ hc=>by
  have:=lMg hc;rw[(List.mem_replicate.1 this).2];exact .junk r⟩
omit hA in
def I8 {k:Option LenK}{i:Option IntKind}{f g:Prop}(h:appK k i f g):(k=some .sl/\f)\/(k=none/\(∃j,i=some j)/\g):=by
 unfold appK at h;grind
def wk {T T' e:TypeId}{x y:Operand}{s by_ g₀ m:Nat}{i:TypeInfo}{z:Value}{oc ys:List IV}{olds D:List Value}{base J:Option Addr}{A E:Nat}(ho:o.op=.call ⟨.builtin .append,⟨[x,y]⟩,⟨[T,T']⟩⟩)
  (hT:C.P.underlying T=some (.slice e)) (hi:C.P.info? e=some i) (aj:i.bytes=by_) (hz:i.zero=some z) (hzs:z.cells.size=s)
  (ex:a.eval x=.slice base m A) (ey:a.eval y=.slice J ys.length E) (U:(Builtin.firstCells i.size m (.slice base m A)).run C.P X.w.drew=.ok olds.toArray X.w.drew)
  (hs:Src C.P i.size T' (.slice J ys.length E) ys.length D X.w) (ae:C.vl X olds oc) (af:C.vl X D (ys.flatMap IV.cells))
  (hg:A<m+ys.length) (ak:(m+ys.length)*by_<=140737488355328) (au:m+ys.length<=140737488355328)
  (h:∀g cap,X.st g=none->m+ys.length<=cap->finK o.dst K ad fr (.val (.raw (.slice (some ⟨g,0,none⟩) (m+ys.length) cap)))
   (((X.drop g₀).st:ISt).put g (some (.box (oc++ys.flatMap IV.cells++List.replicate ((cap-(m+ys.length))*s) .junk)))) ds) :
  o.wpIn (eF ro) n C.P a X.w (PK C X0 N K) Q:=by
 have hnd:∀c,o.op≠.defer c:=by rw[ho];intro c hc;cases hc
 have aa:Builtin.nextslicecap (m+ys.length) A*i.bytes<=281474976710656:=growslice_fits hg (by rw[aj];exact ak);have O:=run_append_grow_src X.w T T' o.type e i z hT hi hz base m A olds U (.slice J ys.length E) ys.length D hs hg (by omega) aa;have hr:(execOp a.eval o).run C.P X.w=.ok (.value (.slice (some ⟨X.w.heap.size,0,none⟩) (m+ys.length) (grownCap X.w (m+ys.length) A e)))
   (X.w.drew.alloc (.cells ((olds++D).toArray++Builtin.zeroCells z.cells (grownCap X.w (m+ys.length) A e-(m+ys.length))) e)):=by
  rw[kE ho];simp only[builtin,iW,ec,fx,ex,ey,dt,O,dq,dv]
 have ah:=grownCap_ge X.w (m+ys.length) A e;have ai:Ext X (X.drop g₀).drew:=(lB g₀).trans (hA.inv.good.drop g₀).drew.1;have G:=(hA.inv.good.drop g₀).drew.2;have ac:(Builtin.zeroCells z.cells (grownCap X.w (m+ys.length) A e-(m+ys.length))).toList.length=(grownCap X.w (m+ys.length) A e-(m+ys.length))*s:=by
  rw[jR,size_zeroCells,hzs]
 have ab:C.vl (X.drop g₀).drew ((olds++D)++(Builtin.zeroCells z.cells (grownCap X.w (m+ys.length) A e-(m+ys.length))).toList)
   (oc++ys.flatMap IV.cells++List.replicate ((grownCap X.w (m+ys.length) A e-(m+ys.length))*s) .junk):=by
  refine (ai.vl (ae.append af)).append ?_;rw[<- ac];exact lC _
 have hI:=((hA.inv.drop g₀).drew).new (.cells ((olds++D).toArray++Builtin.zeroCells z.cells (grownCap X.w (m+ys.length) A e-(m+ys.length))) e) 0
  (some (.box (oc++ys.flatMap IV.cells++List.replicate ((grownCap X.w (m+ys.length) A e-(m+ys.length))*s) .junk))) (λi hi=>by
   cases hi;refine⟨by simp[WS.new],_,e,iL _ _,(G.new_ext _ 0 _).vl ?_⟩;rw[Array.toList_append,List.toList_toArray];exact ab)
 exact et hr hnd (gA (x:=.raw _) hI hA.ad hA.hd (.raw _ trivial) (h X.w.heap.size _ (by
  cases hq:X.st X.w.heap.size with
  | none=>rfl
  | some o=>have:=hA.inv.good.lt hq;omega) ah))
def I9 {T T':TypeId}{x y:Operand}{esc:List Nat}(ho:o.op=.call ⟨.builtin .append,⟨[x,y]⟩,⟨[T,T']⟩⟩)
  (h:dp (slI C.P T) λe=>appK (lenI C.P T') (intK C.P T')
   (dp (evV C.gl fr x) λs=>slY s (λtg xs=>dp (evV C.gl fr y) λy=>slV y λ_ ys=>appV esc o.dst e tg xs ys (finK o.dst K ad fr) X.st ds) (λb off n cap=>dp (evV C.gl fr y) λy=>slY y (λ_ ys=>qO esc o.dst (appO e b off n cap ys (finK o.dst K ad fr) X.st ds)) (λb2 ah m2 _=>qO esc o.dst (appR e b off n cap b2 ah m2 (finK o.dst K ad fr) X.st ds))))
   (dp (evV C.gl fr x) λs=>slV s λtg _=>dp (evV C.gl fr y) λy=>intV y λ_ m=>appZ e tg m (finK o.dst K ad fr) X.st ds)):o.wpIn (eF ro) n C.P a X.w (PK C X0 N K) Q:=by
 obtain⟨⟨e,ag,s,by_⟩,bw,h1⟩:=yQ3.1 h;clear h;have hnd:∀c,o.op≠.defer c:=by rw[ho];intro c hc;cases hc
 obtain⟨hT,bL,i,hi,_,aQ⟩:=mF bw;obtain⟨z,hz,hzs⟩:=vX bw hi;have aj:i.size=s:=by have:=sT bL;simpa[hi] using this
 have aM:X.st X.w.heap.size=none:=by
  cases hq:X.st X.w.heap.size with
  | none=>rfl
  | some o=>have:=hA.inv.good.lt hq;omega
 have a6:∀g₀,X.st g₀=none->(X.drop g₀).st=X.st:=λg₀ h0=>by
  funext b;simp only[WS.drop];split
  ·grind
  ·rfl
 rcases I8 h1 with⟨hk,h2⟩|⟨_,⟨ik,bS⟩,h2⟩
 case inr =>
  clear h1;obtain⟨vx,hx,h3⟩:=yQ3.1 h2;clear h2;obtain⟨tg,xs,rfl,h4⟩:=A0 h3;clear h3;obtain⟨vy,hy,h5⟩:=yQ3.1 h4;clear h4;obtain⟨ky,m,rfl,⟨hc,b6,bB,hml,bM⟩,h⟩:=mE h5;clear h5;simp only at bB bM h;obtain⟨bb,ai,ex,_,_,D⟩:=jd (hA.v hx).1;rw[hc] at D;obtain⟨rfl,h0,rfl⟩:=D;rw[h0] at ex;have ey:=dK (hA.v hy).1;obtain⟨q,rfl⟩:∃q:Nat,m=q:=⟨m.toNat,by omega⟩
  rw[kd] at h;have bU:C.P.underlying T'=some (.int ik):=by
   unfold intK at bS;grind
  have J:=Lib.run_append_nil_zeros X.w T T' o.type e i z ky ik hT bU hi hz q (by omega) (by omega) (by omega) (by
   rw[aQ];have:((q*by_:Nat):Int)<=140737488355328:=by rw[Int.natCast_mul];exact bB
   omega)
  have hr:(execOp a.eval o).run C.P X.w=.ok (.value (.slice (some ⟨X.w.heap.size,0,none⟩) q (grownCap X.w q 0 e)))
    (X.w.drew.alloc (.cells (Builtin.zeroCells z.cells q++Builtin.zeroCells z.cells (grownCap X.w q 0 e-q)) e)):=by
   rw[kE ho];simp only[builtin,iW,ec,fx,ex,ey,dt,J,dq,dv]
  have bT:q<=grownCap X.w q 0 e:=by have:=grownCap_ge X.w q 0 e;omega
  have hI:=(hA.inv.drew).new (.cells (Builtin.zeroCells z.cells q++Builtin.zeroCells z.cells (grownCap X.w q 0 e-q)) e) 0 (some (.box (List.replicate (grownCap X.w q 0 e*s) .junk))) (λi hi=>by
   cases hi;refine⟨by simp[WS.new],_,e,iL _ _,?_⟩;have hl:(Builtin.zeroCells z.cells q++Builtin.zeroCells z.cells (grownCap X.w q 0 e-q)).toList.length=grownCap X.w q 0 e*s:=by
    rw[jR,Array.size_append,size_zeroCells,size_zeroCells,hzs,<- fp];grind
   rw[<- hl];exact lC _)
  exact et hr hnd (gA (x:=.raw _) hI hA.ad hA.hd (.raw _ trivial) (h X.w.heap.size _ ⟨aM,bT⟩))
 clear h1;rcases qP hk with⟨hq,_⟩|⟨_,e',bo⟩|⟨hq,_⟩|⟨_,_,hq,_⟩
 ·cases hq
 ·obtain⟨vx,hx,h3⟩:=yQ3.1 h2;clear h2;rcases qM h3 with⟨tg,xs,rfl,h4⟩|⟨b,off,m,cap,rfl,h4⟩
  case inr =>
   clear h3;obtain⟨vy,hy,h5⟩:=yQ3.1 h4;clear h4;rcases qM h5 with⟨bJ,ys,rfl,aB⟩|⟨b2,ah,m2,be,rfl,aB⟩
   case inr =>
    clear h5;unfold qO at aB;by_cases bi:qJ esc o.dst=true
    ·grind
    rw[a_ bi] at aB;obtain⟨⟨rfl,rfl⟩,h6⟩:=aB;obtain⟨ob,aL,h7⟩:=yQ3.1 h6;clear h6;obtain⟨cs,rfl,⟨bA,aF,G,bx,ab⟩,h⟩:=qN h7;clear h7;simp only at aF bx ab h;have ex:=dK (hA.v hx).1;have ey:=dK (hA.v hy).1;obtain⟨hL,c,E,hh,ao⟩:=hA.inv.good.ok b2 _ aL;have bm:c.size=cs.length:=by rw[<- ao.1];simp
    obtain⟨A,ay⟩:∃A,A=(c.toList.drop ah).take (m2*s):=⟨_,rfl⟩
    have au:A.length=m2*s:=by rw[ay,dQ,iT,jR];omega
    have ak:C.vl X A ((cs.drop ah).take (m2*s)):=ay▸(ao.drop ah).take _;have aq:∀u∈A,u.oneCell'=true:=ph ak ab;have U:Src C.P i.size T' (.slice (some ⟨b2,ah,none⟩) m2 be) m2 A X.w:=by
     rw[aj];refine Src.of bo au (λb' aS j v hj=>?_) (λh0=>by cases h0) aq;cases aS;rw[ay,gg] at hj;split at hj
     ·rw[lh] at hj;rw[lz,jn hh];exact hj
     ·cases hj
    have aN:(m+m2)*s<=cs.length:=dT (fz _ G) aF;have aw:m*s+A.length<=c.size:=by rw[au,<- fp,bm];exact aN
    have J:=wj X.w T T' o.type e E i hT hi b2 m cap (.slice (some ⟨b2,ah,none⟩) m2 be) m2 A c U G hh (by rw[aj];exact aw);rw[aj] at J;have hr:(execOp a.eval o).run C.P X.w=.ok (.value (.slice (some ⟨b2,0,none⟩) (m+m2) cap))
      (X.w.setRow b2 (c.toList.take (m*s)++A++c.toList.drop (m*s+A.length)).toArray):=by
     rw[kE ho];simp only[builtin,iW,ec,fx,ex,ey,dt,J,dq,dv]
    have aa:(c.toList.take (m*s)++A++c.toList.drop (m*s+A.length)).toArray.size=c.size:=by simp;omega
    have ac:∀i,i<X.L b2->(c.toList.take (m*s)++A++c.toList.drop (m*s+A.length)).toArray[i]?=c[i]?:=λi hi=>by rw[hL] at hi;omega
    have hI:=hA.inv.row hh aa (n:=0) (so:=some (.box (fB cs (m*s) ((cs.drop ah).take (m2*s))))) (by omega) ac (by rw[aL];simp) (λi hi=>by
     cases hi;refine⟨by simp[WS.row],_,E,fY X.w b2 c _ E (0,0) hh,?_⟩;have:=pk ao ak (off:=m*s);exact⟨by simpa using this.1,λi r z hr hz=>kv hh aa (by omega) ac (this.2 i r z (by simpa using hr) hz)⟩)
    exact et hr hnd (gA (x:=.raw _) hI hA.ad hA.hd (.raw _ trivial) h)
   clear h5;unfold qO at aB;by_cases bi:qJ esc o.dst=true
   ·grind
   rw[a_ bi] at aB;obtain⟨⟨rfl,ab⟩,⟨aA,aG⟩,h6⟩:=aB;obtain⟨ob,aL,h7⟩:=yQ3.1 h6;clear h6;obtain⟨cs,rfl,⟨bA,aF⟩,h⟩:=qN h7;clear h7;simp only at ab aA aF h;have ex:=dK (hA.v hx).1;have bf:=(hA.v hy).1;have hys:=vZ ab;obtain⟨aH,am,A,ey,_,au,ak,bk,bj⟩:=wh bf hys;have aq:∀u∈A,u.oneCell'=true:=ph ak (by
    simp only[eP];intro q hq;obtain⟨y',bg,hq⟩:=f_.1 hq;exact eP.1 (lA (eP.1 ab y' bg)).2.2.1 q hq)
   have U:Src C.P i.size T' (.slice aH ys.length am) ys.length A X.w:=by
    rw[aj];exact Src.of bo au bk (λh0=>by rw[bj h0];rfl) aq
   obtain⟨hL,c,E,hh,ao⟩:=hA.inv.good.ok b _ aL;have bm:c.size=cs.length:=by rw[<- ao.1];simp
   have bY:m*s<=cs.length:=dT (fz _ bA) aF;rcases fQ cap (m+ys.length) with hg|G
   ·have h8:=h.2 (dEf (by omega));have a1:(c.toList.take (m*s)).length=m*s:=by rw[dQ,jR];omega
    rcases h8 with h8|h8
    ·refine wk hA ho hT hi aQ hz hzs ex ey (olds:=c.toList.take (m*s)) (oc:=cs.take (m*s)) (g₀:=b) (by
      rw[aj];refine wi a1 (λb' aS j v hj=>?_) (λh0=>by cases h0);cases aS;rw[gg] at hj;split at hj
      ·rw[lz,ee,jn hh];exact hj
      ·cases hj) U (ao.take _) ak hg aA aG (λg aU bl bn=>?_)
     exact h8 g aU ⟨bl,bn⟩
    ·refine wk hA ho hT hi aQ hz hzs ex ey (olds:=c.toList.take (m*s)) (oc:=cs.take (m*s)) (g₀:=X.w.heap.size) (by
      rw[aj];refine wi a1 (λb' aS j v hj=>?_) (λh0=>by cases h0);cases aS;rw[gg] at hj;split at hj
      ·rw[lz,ee,jn hh];exact hj
      ·cases hj) U (ao.take _) ak hg aA aG (λg aU bl bn=>?_)
     rw[a6 _ aM];exact h8 g aU ⟨bl,bn⟩
   ·have h8:=h.1 (dEt G);have aN:(m+ys.length)*s<=cs.length:=dT (fz _ G) aF;have aw:m*s+A.length<=c.size:=by rw[au,<- fp,bm];exact aN
    have J:=wj X.w T T' o.type e E i hT hi b m cap (.slice aH ys.length am) ys.length A c U G hh (by rw[aj];exact aw);rw[aj] at J;have hr:(execOp a.eval o).run C.P X.w=.ok (.value (.slice (some ⟨b,0,none⟩) (m+ys.length) cap))
      (X.w.setRow b (c.toList.take (m*s)++A++c.toList.drop (m*s+A.length)).toArray):=by
     rw[kE ho];simp only[builtin,iW,ec,fx,ex,ey,dt,J,dq,dv]
    have aa:(c.toList.take (m*s)++A++c.toList.drop (m*s+A.length)).toArray.size=c.size:=by simp;omega
    have ac:∀i,i<X.L b->(c.toList.take (m*s)++A++c.toList.drop (m*s+A.length)).toArray[i]?=c[i]?:=λi hi=>by rw[hL] at hi;omega
    have hI:=hA.inv.row hh aa (n:=0) (so:=some (.box (fB cs (m*s) (ys.flatMap IV.cells)))) (by omega) ac (by rw[aL];simp) (λi hi=>by
     cases hi;refine⟨by simp[WS.row],_,E,fY X.w b c _ E (0,0) hh,?_⟩;have:=pk ao ak (off:=m*s);exact⟨by simpa using this.1,λi r z hr hz=>kv hh aa (by omega) ac (this.2 i r z (by simpa using hr) hz)⟩)
    exact et hr hnd (gA (x:=.raw _) hI hA.ad hA.hd (.raw _ trivial) h8)
  clear h3;obtain⟨vy,hy,h5⟩:=yQ3.1 h4;clear h4;obtain⟨bJ,ys,rfl,ab,⟨aA,aG⟩,h⟩:=A0 h5;clear h5;simp only at ab aA h;have aC:=(hA.v hx).1;have bf:=(hA.v hy).1;have hys:=vZ ab;obtain⟨aH,am,A,ey,_,au,ak,bk,bj⟩:=wh bf hys;have aq:∀u∈A,u.oneCell'=true:=ph ak (by
   simp only[eP];intro q hq;obtain⟨y',bg,hq⟩:=f_.1 hq;exact eP.1 (lA (eP.1 ab y' bg)).2.2.1 q hq)
  have U:Src C.P i.size T' (.slice aH ys.length am) ys.length A X.w:=by
   rw[aj];exact Src.of bo au bk (λh0=>by rw[bj h0];rfl) aq
  obtain⟨bb,ai,ex,_,bC,D⟩:=jd aC;have an:ys=[]->finK o.dst K ad fr (.val (.sl tg xs)) X.st ds->o.wpIn (eF ro) n C.P a X.w (PK C X0 N K) Q:=by
   intro O hf;have bQ:A=[]:=by subst O;exact eG (by rw[au];simp)
   rw[O,bQ] at U;have J:(Builtin.append_ #[T,T'] o.type #[.slice bb xs.length ai,.slice aH ys.length am]).run C.P X.w=.ok (.slice bb xs.length ai) X.w:=by
    rw[O];exact run_append_nothing X.w T T' o.type e i hT hi bb xs.length ai bC _ U
   have hr:(execOp a.eval o).run C.P X.w=.ok (.value (a.eval x)) X.w:=by
    rw[kE ho];simp only[builtin,iW,ec,fx,ex,ey,dt,J,dq,dv]
   exact et hr hnd (hA.val aC hf)
  have aT:∀(g₀:Nat) (f:Bool) (aD:∀x∈xs,x.cells.length=s) (hg:ai<xs.length+ys.length)
    (hf:∀g,X.st g=none->finK o.dst K ad fr (.val (.sl ⟨f,.app g,s⟩ (xs++ys))) (((X.drop g₀).st:ISt).put g (some (.front (xs.length+ys.length) s))) ds),o.wpIn (eF ro) n C.P a X.w (PK C X0 N K) Q:=by
   intro g₀ f aD hg hf;obtain⟨b0,bV,olds,bG,_,a1,bN,bP,bO⟩:=wh aC aD;rw[ex] at bG;cases bG;exact I7 hA ho hT hi aQ hz hzs ex ey (by rw[aj];exact wi a1 bP (λh0=>by rw[bO h0];rfl)) U bN ak aD hys hg aA aG f hf
  have aD:tg.es=s->∀x∈xs,x.cells.length=s:=λhe x hx=>by
   obtain⟨_,_,_,_,_,hs,_⟩:=je aC;grind
  cases hc:tg.cap with
  | none =>
   grind
  | nil =>
   rw[hc] at h D;obtain⟨h1,h2,h3⟩:=D;have bh:xs=[]:=eG h2;cases O:ys with
   | nil=>rw[O] at h;exact an O h
   | cons y0 yt =>
    rw[O] at h;by_cases bc:gO esc o.dst=true
    ·have ae:∀g cap,(X.st g=none/\(y0::yt).length<=cap)->finK o.dst K ad fr (.val (.raw (.slice (some ⟨g,0,none⟩) (y0::yt).length cap)))
       (X.st.put g (some (.box ((y0::yt).flatMap IV.cells++List.replicate ((cap-(y0::yt).length)*s) .junk)))) ds:=by
      simp only[cV bc] at h;exact h
     rw[<- O] at ae;rw[h1,h2,h3] at ex;refine wk hA ho hT hi aQ hz hzs ex ey (olds:=[]) (oc:=[]) (g₀:=X.w.heap.size) rfl U VL.nil ak (by rw[O];simp) (by simpa[bh] using aA) (by simpa[bh] using aG) (λg cap hg hc=>?_);grind
    have ae:∀g,X.st g=none->finK o.dst K ad fr (.val (.sl ⟨true,.app g,s⟩ (y0::yt))) (X.st.put g (some (.front (y0::yt).length s))) ds:=by
     simp only[a_ bc] at h;exact h
    rw[<- O] at ae;refine aT X.w.heap.size true (by rw[bh];simp) (by rw[O,h3,h2];simp) (λg hg=>?_);grind
  | full =>
   rw[hc] at h D;cases O:ys with
   | nil=>rw[O] at h;exact an O h.2
   | cons y0 yt =>
    rw[O] at h;obtain⟨aO,h⟩:=h;have ae:∀g,X.st g=none->finK o.dst K ad fr (.val (.sl ⟨true,.app g,s⟩ (xs++y0::yt))) (X.st.put g (some (.front (xs.length+(y0::yt).length) s))) ds:=h;rw[<- O] at ae;simp only[kO] at D;refine aT X.w.heap.size true (aD aO) (by rw[O,D];simp) (λg hg=>?_);grind
  | app g₀ =>
   rw[hc] at h D;obtain⟨aO,hst,ae⟩:=h;simp only[kO] at D;rcases fQ ai (xs.length+ys.length) with hg|G
   ·exact aT g₀ tg.fresh (aD aO) hg (λg hg=>ae g (.inr hg))
   ·obtain⟨c,E,hh,hL,b8⟩:=hA.inv.good.ok g₀ _ hst;obtain⟨fresh,cp,es⟩:=tg;simp only at aO hc ae;subst aO hc D;rw[ex] at aC;obtain⟨aw,aa,ac,bR,bK⟩:=V.push (so:=some (.front (xs.length+ys.length) es)) aC hh hL ak hys G aG;have J:=wj X.w T T' o.type e E i hT hi g₀ xs.length ai (.slice aH ys.length am) ys.length A c U G hh (by rw[aj];exact aw);rw[aj] at J;have hr:(execOp a.eval o).run C.P X.w=.ok (.value (.slice (some ⟨g₀,0,none⟩) (xs.length+ys.length) ai))
      (X.w.setRow g₀ (c.toList.take (xs.length*es)++A++c.toList.drop (xs.length*es+A.length)).toArray):=by
     rw[kE ho];simp only[builtin,iW,ec,fx,ex,ey,dt,J,dq,dv]
    have hI:=hA.inv.row hh aa (n:=(xs.length+ys.length)*es) (so:=some (.front (xs.length+ys.length) es)) (by rw[hL];exact fz _ (Nat.le_add_right _ _)) ac (by rw[hst];simp) (λi hi=>by
     cases hi;exact⟨_,E,fY X.w g₀ c _ E (0,0) hh,by simp[WS.row],by simp only[WS.row,dD];rw[aa];exact bR⟩)
    have bu:(X.row g₀ (c.toList.take (xs.length*es)++A++c.toList.drop (xs.length*es+A.length)).toArray ((xs.length+ys.length)*es) (some (.front (xs.length+ys.length) es))).st =
      (X.st.put g₀ none).put g₀ (some (.front (xs.length+ys.length) es)):=by
     funext b;simp only[WS.row,ISt.put];split<;>rfl
    exact et hr hnd (gA hI hA.ad hA.hd bK (by rw[bu];exact ae g₀ (.inl rfl)))
 ·cases hq
 ·cases hq
omit hA in
def I_ {A:Array Value}{m:Nat}(E:0<A.size){u:Value}(D:u∈(Builtin.zeroCells A m).toList):u∈A.toList:=by
 unfold Builtin.zeroCells at D;rw[Array.toList_map] at D;obtain⟨i,_,rfl⟩:=dH.1 D;have G:=Nat.mod_lt i E;grind
def Ja {T:TypeId}{x:Operand}(ho:o.op=.call ⟨.builtin .clear,⟨[x]⟩,⟨[T]⟩⟩)
  (h:dp (slI C.P T) λe=>dp (eO C.P e.1) λ_=>dp (evV C.gl fr x) λx=>o_ e x (finK o.dst K ad fr) X.st ds):o.wpIn (eF ro) n C.P a X.w (PK C X0 N K) Q:=by
 obtain⟨⟨e,ag,s,by_⟩,ac,h0⟩:=yQ3.1 h;clear h;obtain⟨zi,aj,h1⟩:=yQ3.1 h0;clear h0;obtain⟨vx,hx,h2⟩:=yQ3.1 h1;clear h1;have hnd:∀c,o.op≠.defer c:=by rw[ho];intro c hc;cases hc
 obtain⟨hT,aA,i,O,_,aD⟩:=mF ac;obtain⟨z,hz,hzs⟩:=vX ac O;have A:(zeroValue e).run C.P X.w=.ok z X.w:=by simp only[zeroValue,dt,run_typeInfo X.w O,dq,hz,dv]
 rcases qM h2 with⟨_,_,_,h3⟩|⟨b,off,m,cap,rfl,h⟩
 ·exact h3.elim
 clear h2;have ex:=dK (hA.v hx).1;by_cases hm:m=0
 ·subst hm;rw[cV rfl] at h;have hr:(execOp a.eval o).run C.P X.w=.ok (.value (.tuple #[])) X.w:=by
   rw[kE ho];simp[builtin,ex,Builtin.clear_,dS hT]
  exact et hr hnd (hA.val (.tup [] [] rfl (λi r c h=>by simp at h)) h)
 rw[a_ hm] at h;obtain⟨ob,ah,h4⟩:=yQ3.1 h;clear h;obtain⟨cs,rfl,h5⟩:=qN h4;clear h4;obtain⟨aq,h⟩:=jJ h5;clear h5;simp only at aq h;obtain⟨hL,c,E,hh,U⟩:=hA.inv.good.ok b _ ah;have aC:c.size=cs.length:=by rw[<- U.1];simp
 have J:(Builtin.zeroCells z.cells m).toList.length=m*s:=by rw[jR,size_zeroCells,hzs]
 have af:∀u∈(Builtin.zeroCells z.cells m).toList,u.oneCell'=true:=λu hu=>by
  obtain⟨v,ab,am,al,aa⟩:=qL aj X.w;rw[A] at ab;cases ab;have aB:0<s:=Nat.pos_of_ne_zero λh0=>by
   have:=List.length_pos_of_mem hu;rw[J,h0] at this;omega
  exact ph (V.cells (am C.B X.L X.w) (ny aa) al) aa u (I_ (by omega) hu)
 have hst:=run_storeCells_at (P:=C.P) b off E (Builtin.zeroCells z.cells m).toList 0 c X.w hh (by omega) af;simp only[iH] at hst;have hr:(execOp a.eval o).run C.P X.w=.ok (.value (.tuple #[])) (X.w.setRow b (c.toList.take off++(Builtin.zeroCells z.cells m).toList++c.toList.drop (off+(Builtin.zeroCells z.cells m).toList.length)).toArray):=by
  rw[kE ho];simp[builtin,ex,Builtin.clear_,dS hT,hm,A,hst]
 have D:(c.toList.take off++(Builtin.zeroCells z.cells m).toList++c.toList.drop (off+(Builtin.zeroCells z.cells m).toList.length)).toArray.size=c.size:=by simp only[kn,lLa,dQ,iT,jR] at J ⊢;omega
 have G:∀i,i<X.L b->(c.toList.take off++(Builtin.zeroCells z.cells m).toList++c.toList.drop (off+(Builtin.zeroCells z.cells m).toList.length)).toArray[i]?=c[i]?:=λi O=>by rw[hL] at O;omega
 have hI:=hA.inv.row hh D (n:=0) (so:=some (.box (fB cs off (List.replicate (m*s) .junk)))) (by omega) G (by rw[ah];simp) (λi O=>by
  cases O;refine⟨by simp[WS.row],_,E,fY X.w b c _ E (0,0) hh,?_⟩;have hj:=lC (B:=C.B) (L:=X.L) (w:=X.w) (Builtin.zeroCells z.cells m).toList;rw[J] at hj;have:=pk U hj (off:=off);exact⟨by simpa using this.1,λi r z hr hz=>kv hh D (by omega) G (this.2 i r z (by simpa using hr) hz)⟩)
 exact et hr hnd (gA (x:=.tup []) hI hA.ad hA.hd (.tup [] [] rfl (λi r c h=>by simp at h)) h)
def Jb {esc:List Nat}{T:TypeId}{x y:Operand}(ho:o.op=.makeSlice T x y)
  (h:dp (slI C.P T) λe=>dp (evV C.gl fr x) λl=>intV l λ_ p=>dp (evV C.gl fr y) λm=>intV m λ_ q=>ov (eO C.P e.1) esc o.dst e p q (finK o.dst K ad fr) X.st ds):o.wpIn (eF ro) n C.P a X.w (PK C X0 N K) Q:=by
 obtain⟨⟨e,ag,s,by_⟩,af,h1⟩:=yQ3.1 h;clear h;obtain⟨vx,hx,h2⟩:=yQ3.1 h1;clear h1;obtain⟨kp,p,rfl,h3⟩:=mE h2;clear h2;obtain⟨vy,hy,h4⟩:=yQ3.1 h3;clear h3;obtain⟨kq,q,rfl,⟨aH,aF,an,aE⟩,h⟩:=mE h4;clear h4;simp only at an h;have hnd:∀c,o.op≠.defer c:=by rw[ho];intro c hc;cases hc
 obtain⟨hT,al,i,D,_,av⟩:=mF af;obtain⟨z,hz,hzs⟩:=vX af D;have am:i.size=s:=by have:=sT al;simpa[D] using this
 have ex:=dK (hA.v hx).1;have ey:=dK (hA.v hy).1;have ao:0<=p:=by omega
 have ai:p<=q:=by omega
 have ah:=run_make (P:=C.P) X.w T e i z hT D hz kp kq p q ao ai (by rw[av,Int.mul_comm];omega) (by omega);have hr:(execOp a.eval o).run C.P X.w=.ok (.value (.slice (some ⟨X.w.heap.size,0,none⟩) p.toNat q.toNat)) (X.w.alloc (.cells (madeCells z.cells (q.toNat*i.size)) e)):=by
  unfold execOp;rw[ho];simp only[ex,ey,dt,ah,dq,dv]
 have hml:(madeCells z.cells (q.toNat*i.size)).toList.length=q.toNat*s:=by rw[jR,size_madeCells,am]
 have A:X.st X.w.heap.size=none:=by
  cases hq:X.st X.w.heap.size with
  | none=>rfl
  | some o=>have:=hA.inv.good.lt hq;omega
 split at h
 ·obtain⟨J,h⟩:=h;obtain⟨y,E,G,h⟩:=yQ3.1 h;have J:s=1:=J;replace E:eO C.P e=some y:=E;subst J;have ac:qG z=some y:=by
   unfold eO at E;simpa[D,hz] using E
  have aj:=lv G;have hI:=hA.inv.new (.cells (madeCells z.cells (q.toNat*i.size)) e) 0 (some (.box (List.replicate q.toNat y))) (λi' au=>by
   cases au;refine⟨by simp[WS.new],_,e,iL _ _,by rw[hml,gK,fR],λj r c hr hc=>?_⟩;obtain rfl:=List.eq_of_mem_replicate (lMg hc);have hv:=pe (B:=C.B) (L:=(X.new (.cells (madeCells z.cells (q.toNat*i.size)) e) 0 (some (.box (List.replicate q.toNat c)))).L) (w:=(X.new (.cells (madeCells z.cells (q.toNat*i.size)) e) 0 (some (.box (List.replicate q.toNat c)))).w) ac;have ae:=V.cells hv.1 (ny hv.2.2) (λhj=>by rw[hj] at G;simp[IV.one] at G);rw[aj] at ae;refine ae.2 0 r c ?_ rfl;have U:=lMg hr;rw[Array.mem_toList_iff] at U;unfold madeCells at U;obtain⟨k,_,rfl⟩:=Array.mem_map.1 U;rw[hzs,Nat.mod_one,getElem!_pos _ _ (by omega)];simp)
  exact et hr hnd (gA (x:=.raw (.slice (some ⟨X.w.heap.size,0,none⟩) (lenZ p) q.toNat)) hI hA.ad hA.hd (.raw _ trivial) (h X.w.heap.size A))
 split at h
 ·have hI:=hA.inv.new (.cells (madeCells z.cells (q.toNat*i.size)) e) 0 (some (.box (List.replicate (q.toNat*s) .junk))) (λi' D=>by
   cases D;refine⟨by simp[WS.new],_,e,iL _ _,by rw[hml,gK],λj r c _ hc=>?_⟩;obtain rfl:=List.eq_of_mem_replicate (lMg hc);exact .junk r)
  exact et hr hnd (gA (x:=.raw (.slice (some ⟨X.w.heap.size,0,none⟩) (lenZ p) q.toNat)) hI hA.ad hA.hd (.raw _ trivial) (h X.w.heap.size A))
 split at h
 ·rename_i O;have O:s=0:=O;subst O;have hI:=hA.inv.new (.cells (madeCells z.cells (q.toNat*i.size)) e) 0 none (λi' D=>by cases D);have hst:(X.new (.cells (madeCells z.cells (q.toNat*i.size)) e) 0 none).st=X.st:=by
   funext b;simp only[WS.new];split
   ·rename_i hb;rw[hb];exact A.symm
   ·rfl
  refine et hr hnd (gA (x:=.sl ⟨false,.none,0⟩ (List.replicate (lenZ p) (.agg []))) hI hA.ad hA.hd ?_ (by rw[hst];exact h));have hv:V C.B (X.new (.cells (madeCells z.cells (q.toNat*i.size)) e) 0 none).L (X.new (.cells (madeCells z.cells (q.toNat*i.size)) e) 0 none).w (.slice (some ⟨X.w.heap.size,0,none⟩) (List.replicate (lenZ p) (IV.agg [])).length q.toNat) (.sl ⟨false,.none,0⟩ (List.replicate (lenZ p) (.agg []))):=by
   refine .sl (some ⟨X.w.heap.size,0,none⟩) q.toNat ⟨false,.none,0⟩ (List.replicate (lenZ p) (.agg [])) e [] trivial (by rw[gK];unfold lenZ;omega) (by rw[gK];unfold lenZ;omega) (λx hx=>by obtain rfl:=List.eq_of_mem_replicate hx;rfl) (by simp) (λg hg=>by cases hg)
    (λh=>by cases h) (λ_=>⟨⟨X.w.heap.size,0,none⟩,rfl,rfl,fq _,λi r h=>by simp at h⟩) (λi r c h=>by simp at h)
  rw[gK] at hv;exact hv
 obtain⟨hp,h⟩:=h;subst hp;rw[jx] at hr;have aq:=v7 (X:=X) (vs:=[]) (rest:=(madeCells z.cells (q.toNat*i.size)).toList) (ys:=[]) (s:=s) (cap:=q.toNat) (e:=e) (cp:=.app X.w.heap.size) (so:=some (.front 0 s)) hA.inv.good VL.nil (λ_ h=>by cases h) (by simp) (by simp) rfl
  (λg _=>by rw[eY,hml];exact dJ _)
 have hI:=hA.inv.new (.cells (madeCells z.cells (q.toNat*i.size)) e) 0 (some (.front 0 s)) (λi D=>by
  cases D;refine⟨_,e,iL _ _,by simp[WS.new],?_⟩;simp[WS.new])
 exact et hr hnd (gA hI hA.ad hA.hd aq (h X.w.heap.size A))
end
def Bf {ro:Option Nat}{n:Nat}{P:Program}{f:FuncId}{args:Array Value}{w:World}{R:Ending->World->Prop}(h:Calls P f args w R):CallsIn (eF ro) n P f args w R :=
 callsIn_wide (n:=n).2 h
def Jc {ro:Option Nat}{m n:Nat}{P:Program}{l:Nat}{f:FuncId}{tmps:Array Value}{assign body:Code}{w:World}{R:Ending->World->Prop}(h:RoundIn Fence.wide m P l f tmps assign body w R) :
  RoundIn (eF ro) n P l f tmps assign body w R :=
 ⟨trivial,λc cs _=>h.2 c cs (room_wide _)⟩
def Bg {P:Program}{g:FuncId}{D cs E:List Value}{w:World}{R:Value->World->Prop}(A:entI P g=true)(h:Calls P g ⟨D++E++cs⟩ w λe w'=>∃v,e=.returned v/\R v w') :
  CallsVal P (.func (.func g) ⟨D⟩ ⟨cs⟩) ⟨E⟩ w R:=by
 unfold entI at A;cases G:P.funcs[g]? with
 | none=>simp[G] at A
 | some fn =>
  simp only[G,bAt,bne_iff_ne,ne_eq] at A;have J:¬ fn.body.isNone=true:=by
   have:=A.2;cases U:fn.body<;>simp_all
  have O:(do let d <- Deferred.ofValue (.func (.func g) ⟨D⟩ ⟨cs⟩) ⟨E⟩;invoke d.target d.args:Sem Next).run P w=.ok (.enter g ⟨D++E++cs⟩) w:=by
   simp only[Deferred.ofValue,dt,dv,dq,invoke,callFunc,run_program,G];rw[a_ (by simpa using A.1),a_ J];simp
  unfold CallsVal;grind
section
variable {C:Cx}{X0 X:WS}{N:Nat}{fr:Fr}{ds:List Dfd}{a:Act}{ad:Ad}{K:Kt}{ro:Option Nat}{n:Nat}{Q:Exit->Act->World->Prop}{o:Oper}
variable (hA:At C X0 N X fr ds a ad o.dst)
include hA
def Jd {esc:List Nat}{pf:FuncId->List IV->Option IV}(aa:∀g A v,pf g A=some v->entI C.P g=true/\∀st,ICall C.P C.gl g A st (λr st'=>r=v/\st'=st)){x:Operand}{A:Array Operand}{ts:Array TypeId}(ho:o.op=.call ⟨.value x,A,ts⟩)
  (h:mC esc pf x (evL C.gl fr A.toList) (finK o.dst K ad fr) X.st ds (dp (evV C.gl fr x) λf=>fnV f λf first E=>dp (evL C.gl fr A.toList) λA=>callV C.P C.gl f first E A X.st (ly (finK o.dst K ad fr) ds))) :
  o.wpIn (eF ro) n C.P a X.w (PK C X0 N K) Q:=by
 replace h:dp (evV C.gl fr x) λf=>fnV f λf first E=>dp (evL C.gl fr A.toList) λA=>callV C.P C.gl f first E A X.st (ly (finK o.dst K ad fr) ds):=by
  unfold mC at h;split at h
  ·rename_i g;split at h
   ·obtain⟨ys,hys,h1⟩:=yQ3.1 h;obtain⟨v,hv,h2⟩:=yQ3.1 h1;obtain⟨J,hc⟩:=aa g ys v hv;refine yQ3.2 ⟨.fn (.func g) [] [],rfl,?_⟩;show dp (evL C.gl fr A.toList) λA=>callV C.P C.gl (.func g) [] [] A X.st (ly (finK o.dst K ad fr) ds);refine yQ3.2 ⟨ys,hys,?_⟩;show if entI C.P g=true then ICall C.P C.gl g ([]++ys++[]) X.st (ly (finK o.dst K ad fr) ds) else False
    rw[cV J,eY,eo];exact (hc X.st).mono λr st' hr=>by obtain⟨rfl,rfl⟩:=hr;exact h2
   ·exact h
  ·exact h
 obtain⟨fv,hf,h1⟩:=yQ3.1 h;clear h;obtain⟨f,first,E,rfl,h2⟩:=vR h1;clear h1;obtain⟨ys,hys,h⟩:=yQ3.1 h2;clear h2;have hnd:∀c,o.op≠.defer c:=by rw[ho];intro c hc;cases hc
 have O:=(hA.v hf).1;obtain⟨fs,cs,ef,ab,ae⟩:=ja O;have G:=qK hA.inv.good hA.inv.fr hys;have D:CallsVal C.P (a.eval x) ⟨A.toList.map a.eval⟩ X.w (ends C X (ly (finK o.dst K ad fr) ds)):=by
  unfold callV at h;split at h
  ·split at h
   ·rename_i J;rw[ef];exact Bg J (h C.B X (fs++A.toList.map a.eval++cs) hA.inv.good rfl ((ab.append G).append ae))
   ·exact h.elim
  ·exact h C.B X (a.eval x) (A.toList.map a.eval) hA.inv.good rfl O G
 have ac:execOp a.eval o=(do let d <- Deferred.ofValue (a.eval x) ⟨A.toList.map a.eval⟩;invoke d.target d.args):=by
  unfold execOp;rw[ho];have:A.map a.eval=⟨A.toList.map a.eval⟩:=by apply Array.ext';simp
  simp only[resolve,this]
 refine⟨λ_ _=>trivial,?_⟩;rw[Oper.semAt_eq _ _ _ hnd,ac];unfold CallsVal at D;have ag:∀v w',ends C X (ly (finK o.dst K ad fr) ds) v w'->PK C X0 N K (a.put o.dst v) w':=by
  rintro v w' ⟨X',y,rfl,hg,J,hv,hk⟩;exact gA (hA.inv.ext' J hg) hA.ad hA.hd hv hk
 generalize (do let d <- Deferred.ofValue (a.eval x) ⟨A.toList.map a.eval⟩;invoke d.target d.args:Sem Next).run C.P X.w=r at D ⊢;cases r with
 | halt hh w'=>exact D.elim
 | ok nx w' =>
  cases nx with
  | enter g args =>
   obtain⟨rfl,hc⟩:=D;rw[Oper.uponIn_enter];refine⟨(λh0=>by cases h0),(Bf hc).mono λe U J=>?_⟩;grind
  | round l g tmps assign body =>
   obtain⟨rfl,hc⟩:=D;rw[Oper.uponIn_round];refine⟨(λh0=>by cases h0),(Jc hc).mono λe U J=>?_⟩;grind
  | _=>exact D.elim
def Je {x:Operand}{D:Array Operand}{ts:Array TypeId}(ho:o.op=.defer ⟨.value x,D,ts⟩)(G:ro=none)
  (h:dp (evV C.gl fr x) λf=>fnV f λf first A=>dp (evL C.gl fr D.toList) λD=>finK o.dst K ad fr .nop X.st (.call f A (first++D)::ds)) :
  o.wpIn (eF ro) n C.P a X.w (PK C X0 N K) Q:=by
 obtain⟨fv,hf,h1⟩:=yQ3.1 h;clear h;obtain⟨f,first,A,rfl,h2⟩:=vR h1;clear h1;obtain⟨ys,hys,h⟩:=yQ3.1 h2;clear h2;subst G;obtain⟨fs,cs,ef,J,U⟩:=ja (hA.v hf).1;have E:=qK hA.inv.good hA.inv.fr hys;have O:(execOp a.eval o).run C.P X.w=.ok (.defer { target:=.fn f ⟨cs⟩,args:=⟨fs++D.toList.map a.eval⟩ }) X.w:=by
  unfold execOp;rw[ho];have:D.map a.eval=⟨D.toList.map a.eval⟩:=by apply Array.ext';simp
  simp only[resolve,this,ef,Deferred.ofValue,dt,dv,dq];simp
 refine⟨λ_ _=>trivial,?_⟩;have hs:Oper.semAt (eF none).round a.eval o=execOp a.eval o:=rfl;rw[hs,O,Oper.uponIn_defer];cases hd:o.dst with
 | some d=>rw[hd] at h;exact h.elim
 | none =>
  rw[hd] at h;have hI:Inv C X0 N X fr (.call f A (first++ys)::ds) { a with defers:={ target:=.fn f ⟨cs⟩,args:=⟨fs++D.toList.map a.eval⟩ }::a.defers } :=
   ⟨hA.inv.good,hA.inv.ext,hA.inv.fr,hA.inv.size,.cons ⟨cs,_,rfl,U,J.append E⟩ hA.inv.ds (λr h=>by cases h)⟩
  exact⟨X,ad,fr,_,rfl,hI,hA.ad,h⟩
end
def wm {c:Cf}{B:Nat}{X0 X:WS}{N:Nat}{fr:Fr}{ds:List Dfd}{a:Act}{ad:Ad}{K:Kt}{ro:Option Nat}{n:Nat}{Q:Exit->Act->World->Prop}{o:Oper}
  (A:c.rd=false->ro=none) (hA:At (c.cx B) X0 N X fr ds a ad o.dst) (h:vcOp c o.dst o.op K ad fr X.st ds):o.wpIn (eF ro) n c.P a X.w (PK (c.cx B) X0 N K) Q:=by
 unfold vcOp vcR at h;split at h
 case h_1=>exact AY hA (.inl ‹_›) h
 case h_2=>exact AY hA (.inr ‹_›) h
 case h_3=>exact Il hA ‹_› h
 case h_4=>exact Im hA ‹_› h
 case h_5=>exact Ip hA ‹_› h
 case h_6=>exact IX hA ‹_› h
 case h_7=>exact IY hA ‹_› h
 case h_8=>exact Iq hA ‹_› h
 case h_9=>exact Ir hA ‹_› h
 case h_10=>exact Is hA ‹_› h
 case h_11=>exact IB hA ‹_› h
 case h_12=>exact IC hA ‹_› h
 case h_13=>exact ID hA ‹_› h
 case h_14=>exact It hA ‹_› h
 case h_15=>exact IZ hA ‹_› h
 case h_16=>exact IS hA ‹_› h
 case h_17=>exact IG hA ‹_› h
 case h_18=>exact II hA ‹_› h
 case h_19=>exact IJ hA ‹_› h
 case h_20=>exact IK hA ‹_› h
 case h_21=>exact I3 hA ‹_› h
 case h_22=>exact Be hA (.inl ‹_›) h
 case h_23=>exact Iu hA ‹_› h
 case h_24=>exact Jd hA c.pok ‹_› h
 case h_25=>exact IM hA ‹_› h
 case h_26=>exact I9 hA ‹_› h
 case h_27=>exact IP hA ‹_› h
 case h_28 =>
  split at h
  ·exact h.elim
  ·rename_i D;exact Je hA ‹_› (A (by simpa using D)) h
 case h_29=>exact IN hA ‹_› h
 case h_30=>exact Ja hA ‹_› h
 case h_31=>exact Jb hA ‹_› h
 case h_32=>exact Be hA (.inr ‹_›) h
 case h_33=>exact IQ hA ‹_› h
 case h_34 =>
  split at h
  ·exact h.elim
  ·exact I4 hA ‹_› h
 case h_35 =>
  split at h
  ·exact h.elim
  ·exact I5 hA ‹_› h
 case h_36 =>
  split at h
  ·exact h.elim
  ·exact I6 hA ‹_› h
 case h_37=>exact h.elim
def PQ (C:Cx)(X0:WS)(N:Nat)(Q:Kc)(e:Exit)(a:Act)(w:World):Prop :=
 ∃X fr ds,X.w=w/\Inv C X0 N X fr ds a/\Q e fr X.st ds
def Bh {c:Cf}{B:Nat}{X0 X:WS}{N:Nat}{fr:Fr}{ds:List Dfd}{a:Act}{ops:Array Oper}{j d:Nat}{b:Bool}(G:Inv (c.cx B) X0 N X fr ds a)(hd:gV ops.toList j=some d)(E:d<N)
  (hs:fr d=b):yielded ops a.tmps j=some b:=by
 have h1:((ops[j]?).bind (·.dst))=some d:=by simpa[gV] using hd
 have A:=G.fr.slot d;rw[hs] at A;have hv:=dK A;have D:d<a.tmps.size:=by rw[G.size];exact E
 have h2:a.tmps[d]?=some (.bool b):=by
  unfold tm at hv;rw[la,mu D,eh] at hv;grind
 unfold yielded;grind
def Bi {c:Cf}{B:Nat}{X0 X:WS}{N:Nat}{fr:Fr}{ds:List Dfd}{a:Act}{ops:Array Oper}{j d:Nat}{t:Array Value}(G:Inv (c.cx B) X0 N X fr ds a)(hd:gV ops.toList j=some d)(E:d<N)
  (hs:fr d=.iv (.raw (.tuple t))):yielded ops a.tmps j=none:=by
 have h1:((ops[j]?).bind (·.dst))=some d:=by simpa[gV] using hd
 have A:=G.fr.slot d;rw[hs] at A;have hv:=dK A;have D:d<a.tmps.size:=by rw[G.size];exact E
 have h2:a.tmps[d]?=some (.tuple t):=by
  unfold tm at hv;rw[la,mu D,eh] at hv;grind
 unfold yielded;grind
def Bj {ops:Array Oper}{j d:Nat}(h:gV ops.toList j=some d):∃o∈ops.toList,o.dst=some d:=by
 unfold gV at h;grind
def Bk {c:Cf}{B:Nat}{X0:WS}{N:Nat}{ro:Option Nat}{n:Nat}{ops:Array Oper}{Q:Kc}(U:c.rd=false->ro=none)(hN:∀o∈ops.toList,∀d,o.dst=some d->d<N) :
  ∀(rest:List Oper) (i:Nat) (X:WS) (fr:Fr) (ds:List Dfd) (a:Act) (ad:Ad),ops.toList.drop i=rest->Inv (c.cx B) X0 N X fr ds a->AdOk fr a.tmps ad->fU c ops.toList rest (Q .normal) ad fr X.st ds →
   wpOpsIn (eF ro) n c.P ops (PQ (c.cx B) X0 N Q) (List.range' i rest.length) a X.w
 | [],i,X,fr,ds,a,ad,_,J,_,h=>by
  simp only[dU,List.range'_zero,wpOpsIn];exact⟨X,fr,ds,rfl,J,h⟩
 | o::rest,i,X,fr,ds,a,ad,af,J,G,h=>by
  have ho:ops[i]?=some o:=by
   have:ops.toList[i]?=some o:=by
    have:=dX (·[0]?) af;grind
   grind
  have E:o∈ops.toList:=by
   grind
  have ae:ops.toList.drop (i+1)=rest:=by
   have:=dX (List.drop 1) af;rw[List.drop_drop] at this;grind
  have A:∀a' w',PK (c.cx B) X0 N (fU c ops.toList rest (Q .normal)) a' w'->wpOpsIn (eF ro) n c.P ops (PQ (c.cx B) X0 N Q) (List.range' (i+1) rest.length) a' w':=by
   rintro a' w' ⟨X',ao,fr',an,rfl,am,ai,h'⟩;exact Bk U hN rest (i+1) X' fr' an a' ao ae am ai h'
  have aq:∀ad fr,AdOk fr a.tmps ad->Inv (c.cx B) X0 N X fr ds a->vcOp c o.dst o.op (fU c ops.toList rest (Q .normal)) ad fr X.st ds →
    o.wpIn (eF ro) n c.P a X.w (wpOpsIn (eF ro) n c.P ops (PQ (c.cx B) X0 N Q) (List.range' (i+1) rest.length)) (PQ (c.cx B) X0 N Q):=by
   intro ad fr G J h;exact Oper.wpIn_mono A (wm U ⟨J,G,hN o E⟩ h)
  rw[dV,List.range'_succ];simp only[wpOpsIn,ho];unfold fU at h;split at h
  ·rename_i hg;have O:Region.wanted o (yielded ops a.tmps)=true:=by simp[Region.wanted,hg]
   grind
  ·rename_i j D hg;split at h
   ·rename_i d hd;obtain⟨od,aa,ab⟩:=Bj (ops:=ops) (show gV ops.toList j=some d from hd);have ag:=hN od aa d ab;cases hs:fr d with
    | box cs=>rw[hs] at h;exact h.elim
    | iv x =>
     cases x with
     | raw v =>
      cases v with
      | bool b =>
       rw[hs,AU fr d D b _ _ _ _ hs] at h;have hy:=Bh J (show gV ops.toList j=some d from hd) ag hs;by_cases ah:b=D
       ·have O:Region.wanted o (yielded ops a.tmps)=true:=by simp[Region.wanted,hg,hy,ah]
        grind
       ·have al:b=!D:=by cases b<;>cases D<;>simp_all
        have O:¬ Region.wanted o (yielded ops a.tmps)=true:=by simp[Region.wanted,hg,hy,ah]
        rw[a_ O];exact⟨λ_ _=>trivial,A _ _ (gA J G (hN o E) (.raw _ trivial) (h.2 al))⟩
      | tuple t =>
       rw[hs] at h;have hy:=Bi J (show gV ops.toList j=some d from hd) ag hs;have O:¬ Region.wanted o (yielded ops a.tmps)=true:=by simp[Region.wanted,hg,hy]
       rw[a_ O];exact⟨λ_ _=>trivial,A _ _ (gA J G (hN o E) (.raw _ trivial) h)⟩
      | _=>rw[hs] at h;exact h.elim
     | _=>rw[hs] at h;exact h.elim
   ·exact h.elim
def Jf {c:Cf}{B:Nat}{X0 X:WS}{N:Nat}{ro:Option Nat}{n id:Nat}{ops:Array Oper}{Q:Kc}{fr:Fr}{ds:List Dfd}{a:Act}(A:c.rd=false->ro=none)(D:∀o∈ops.toList,∀d,o.dst=some d->d<N)
  (E:Inv (c.cx B) X0 N X fr ds a) (h:fU c ops.toList ops.toList (Q .normal) Ad.none_ fr X.st ds):(Code.region id ops false).wpIn (eF ro) n c.P (PQ (c.cx B) X0 N Q) a X.w:=by
 refine wpIn_region ?_;have:=Bk (Q:=Q) (ro:=ro) (n:=n) A D ops.toList 0 X fr ds a Ad.none_ rfl E .nil h
 rwa [jR,<- List.range_eq_range'] at this
