/- The layer of ideal values, part L: appen -/
import Derived.Test.YtigeiecfkoimpaaGreatDoorJD
import Derived.Deep.Upon
import Derived.Lib.AppendZeros
set_option linter.all false
namespace Go.Iv
open Go
def WS.drop (X:WS)(g:Nat):WS:={ X with st:=λb=>if b=g then none else X.st b }
section
variable {C:Cx}{X:WS}
def lK (g:Nat):Ext X (X.drop g):=⟨rfl,rfl,rfl,dG _,λ_=>dG _,λ_ _ _=>rfl,λ_ _ _=>⟨rfl,rfl⟩,λb _ h=>by simp only[WS.drop];split<;>first|rfl|exact h,λ_ _ h=>h,rfl⟩
def Good.drop (h:Good C X)(g:Nat):Good C (X.drop g) where
 ok b o D:=by
  simp only[WS.drop] at D;split at D
  ·cases D
  ·exact (h.ok b o D).mono rfl rfl (λ_ _ hv=>hv)
 gl:=h.gl
 B:=h.B
 Lnew:=h.Lnew
 gsh:=h.gsh
 dr:=h.dr
def Inv.drop {X0:WS}{N:Nat}{fr:Fr}{ds:List Dfd}{a:Act}(h:Inv C X0 N X fr ds a)(g:Nat):Inv C X0 N (X.drop g) fr ds a:=h.ext' (lK g) (h.good.drop g)
def Inv.drew {X0:WS}{N:Nat}{fr:Fr}{ds:List Dfd}{a:Act}(h:Inv C X0 N X fr ds a):Inv C X0 N X.drew fr ds a:=h.ext' h.good.drew.1 h.good.drew.2
def wA {r:Value}{tg:Tag}{xs:List IV}{s:Nat}(hv:C.v X r (.sl tg xs))(ae:∀x∈xs,x.cells.length=s) :
  ∃(ad:Option Addr) (cap:Nat) (vs:List Value),r=.slice ad xs.length cap/\xs.length<=cap/\vs.length=xs.length*s/\C.vl X vs (xs.flatMap IV.cells) /\
   (∀b,ad=some b->∀j v,vs[j]?=some v->X.w.cell? (b.add j)=some v)/\(ad=none->xs=[]):=by
 cases hv with
 | sl ad cap _ _ T vs aj ai af hs G ac O D hc =>
  by_cases hx:xs=[]
  ·subst hx;exact⟨ad,cap,[],rfl,by simp,by simp,VL.nil,λ_ _ _ _ h=>by simp at h,λ_=>rfl⟩
  ·have hts:tg.es=s:=by
    cases xs with
    | nil=>exact absurd rfl hx
    | cons x xs=>rw[<- hs x (by simp),<- ae x (by simp)]
   obtain⟨b,hb,ab,_,E⟩:=D hx;refine⟨ad,cap,vs,rfl,af,by rw[G,hts],⟨?_,hc⟩,λb' J j v hj=>?_,λh0=>by rw[h0] at hb;cases hb⟩
   ·rw[gS xs hs,G]
   ·rw[hb] at J;cases J;rw[mH _ ab];exact E j v hj
def Src.of {P:Program}{w:World}{D O:TypeId}{ad:Option Addr}{m cap s:Nat}{vs:List Value}(E:P.underlying D=some (.slice O))(hl:vs.length=m*s)
  (hc:∀b,ad=some b->∀j v,vs[j]?=some v->w.cell? (b.add j)=some v) (G:ad=none->m=0) (h1:∀u∈vs,u.oneCell'=true):Src P s D (.slice ad m cap) m vs w:=by
 cases ad with
 | some b=>exact Go.Src.ofSlice w E b m cap vs hl (hc b rfl) h1
 | none =>
  have J:=G rfl;subst J;have:vs=[]:=ev (by rw[hl];simp);subst this;exact Go.Src.ofNil w E cap
def wB {P:Program}{w:World}{ad:Option Addr}{m cap s:Nat}{vs:List Value}(hl:vs.length=m*s)
  (hc:∀b,ad=some b->∀j v,vs[j]?=some v->w.cell? (b.add j)=some v) (D:ad=none->m=0):(Builtin.firstCells s m (.slice ad m cap)).run P w.drew=.ok vs.toArray w.drew:=by
 cases ad with
 | some b=>exact run_firstCells_some w.drew s m b m cap vs hl (hc b rfl)
 | none =>
  have E:=D rfl;subst E;have:vs=[]:=ev (by rw[hl];simp);subst this;exact run_firstCells_none w.drew s 0 0 cap
def ri {B:Nat}{L:Nat->Nat}{w:World}{r:Value}{cp:Cap}{s:Nat}{xs:List IV}(f:Bool)(h:V B L w r (.sl ⟨true,cp,s⟩ xs)):V B L w r (.sl ⟨f,cp,s⟩ xs):=by
 cases h with
 | sl ad cap _ _ T vs O J ab hs aa G E D hc=>exact .sl ad cap _ _ T vs O J ab hs aa G (λ_=>E rfl) D hc
def jo {B:Nat}{L:Nat->Nat}{w:World}{r:Value}{t:Tag}{xs:List IV}(hv:V B L w r (.sl t xs)):∃(a:Option Addr) (cap:Nat) (T:TypeId) (vs:List Value),r=.slice a xs.length cap /\
  (∀x∈xs,x.cells.length=t.es)/\vs.length=xs.length*t.es/\(∀g,t.cap=.app g->∃T' k,shq w g=some ((T',k),true)/\cap*t.es<=k) /\
  (t.fresh=true->∀ad:Addr,a=some ad->B<=ad.block/\ad.off%t.es=0/\ety w ad.block=some T) /\
  (xs≠[]->∃ad:Addr,a=some ad/\ad.spot=Option.none/\ad.off+vs.length<=L ad.block/\(∀(i:Nat) (r:Value),vs[i]?=some r->w.cell? ⟨ad.block,ad.off+i,Option.none⟩=some r)) /\
  VL B L w vs (xs.flatMap IV.cells):=by
 cases hv with
 | sl a cap _ _ T vs _ _ _ hs D E G hp hc=>exact⟨a,cap,T,vs,rfl,hs,D,E,G,hp,by rw[gS xs hs,D],hc⟩
def V.push {g s cap:Nat}{f:Bool}{c:Array Value}{E:TypeId}{xs ys:List IV}{D:List Value}{so:Option IObj}(hv:C.v X (.slice (some ⟨g,0,none⟩) xs.length cap) (.sl ⟨f,.app g,s⟩ xs))
  (hh:X.w.heap[g]?=some (.cells c E (0,0))) (hL:X.L g=xs.length*s) (hn:C.vl X D (ys.flatMap IV.cells)) (hys:∀y∈ys,y.cells.length=s) (J:xs.length+ys.length<=cap) (am:xs.length+ys.length<=140737488355328) :
  xs.length*s+D.length<=c.size/\(c.toList.take (xs.length*s)++D++c.toList.drop (xs.length*s+D.length)).toArray.size=c.size /\
  (∀i,i<X.L g->(c.toList.take (xs.length*s)++D++c.toList.drop (xs.length*s+D.length)).toArray[i]?=c[i]?)/\(xs.length+ys.length)*s<=c.size /\
  C.v (X.row g (c.toList.take (xs.length*s)++D++c.toList.drop (xs.length*s+D.length)).toArray ((xs.length+ys.length)*s) so) (.slice (some ⟨g,0,none⟩) (xs.length+ys.length) cap) (.sl ⟨f,.app g,s⟩ (xs++ys)):=by
 have al:D.length=ys.length*s:=by rw[hn.1,gS ys hys]
 have ac:(xs.length+ys.length)*s=xs.length*s+D.length:=by rw[al,ff]
 have ay:cap*s<=c.size:=by
  obtain⟨_,_,_,_,he,_,_,hr,_⟩:=jo hv;cases he;obtain⟨T',k,h1,h2⟩:=hr g rfl;simp only[shq,hh,dI,Prod.mk.injEq] at h1;grind
 have ag:(xs.length+ys.length)*s<=c.size:=dN (fE _ J) ay;have G:(c.toList.take (xs.length*s)++D++c.toList.drop (xs.length*s+D.length)).toArray.size=c.size:=by
  grind
 have htl:(c.toList.take (xs.length*s)).length=xs.length*s:=by rw[ac] at ag;simp;omega
 have O:∀i,i<X.L g->(c.toList.take (xs.length*s)++D++c.toList.drop (xs.length*s+D.length)).toArray[i]?=c[i]?:=λi hi=>by
  grind
 refine⟨by rw[<- ac];exact ag,G,O,ag,?_⟩;have af:∀r x,C.v X r x->C.v (X.row g (c.toList.take (xs.length*s)++D++c.toList.drop (xs.length*s+D.length)).toArray ((xs.length+ys.length)*s) so) r x :=
  λr x h=>kH hh G (by rw[hL];exact fE _ (Nat.le_add_right _ _)) O h
 obtain⟨_,_,T,vs,he,hs,ae,hr,ab,aa,aq⟩:=jo hv;cases he;have an:C.vl X (vs++D) ((xs++ys).flatMap IV.cells):=by rw[ix];exact aq.append hn
 have ah:∀i,(X.row g (c.toList.take (xs.length*s)++D++c.toList.drop (xs.length*s+D.length)).toArray ((xs.length+ys.length)*s) so).w.cell? ⟨g,i,none⟩ =
   (c.toList.take (xs.length*s)++D++c.toList.drop (xs.length*s+D.length))[i]?:=λi=>by
  simp only[WS.row];rw[jx (fZ X.w g c _ E (0,0) hh)]
 have key:=V.sl (B:=C.B) (L:=(X.row g (c.toList.take (xs.length*s)++D++c.toList.drop (xs.length*s+D.length)).toArray ((xs.length+ys.length)*s) so).L)
  (w:=(X.row g (c.toList.take (xs.length*s)++D++c.toList.drop (xs.length*s+D.length)).toArray ((xs.length+ys.length)*s) so).w)
  (some ⟨g,0,none⟩) cap ⟨f,.app g,s⟩ (xs++ys) T (vs++D)
 rw[lLa] at key;refine key rfl am J (λx hx=>?_) (by rw[lLa,ae,al,ff]) (λg' aw=>?_) (λhf ad ha=>?_) (λ_=>⟨_,rfl,rfl,?_,λi r aj=>?_⟩) (λi r x h1 h2=>af _ _ (an.2 i r x h1 h2))
 ·grind
 ·obtain⟨T',k,h1,h2⟩:=hr g' aw;exact⟨T',k,(qT hh G g').trans h1,h2⟩
 ·obtain⟨h1,h2,h3⟩:=ab hf ad ha;exact⟨h1,h2,by unfold ety at h3 ⊢;rw[show shq (X.row g _ _ so).w ad.block=shq X.w ad.block from qT hh G ad.block];exact h3⟩
 ·simp only[WS.row,dJ];grind
 ·rw[dY,ah];simp only at ae;by_cases hi:i<vs.length
  ·rw[fg hi] at aj;have av:xs≠[]:=by rintro rfl;rw[ae] at hi;simp at hi
   obtain⟨ad,ha,_,_,ak⟩:=aa av;cases ha;have h1:=ak i r aj;rw[dY] at h1;simp only at h1;rw[jx hh] at h1;grind
  ·grind
def wC {P:Program}(w:World)(t tx ty e E:TypeId)(i:TypeInfo)(ht:P.underlying t=some (.slice e))(hi:P.info? e=some i)(b D J:Nat)(x:Value)(n:Nat)(G:List Value)(c:Array Value)(hs:Src P i.size tx x n G w)
  (O:D+n<=J) (hh:w.heap[b]?=some (.cells c E (0,0))) (ac:D*i.size+G.length<=c.size) :
  (Builtin.append_ #[t,tx] ty #[.slice (some ⟨b,0,none⟩) D J,x]).run P w =
   .ok (.slice (some ⟨b,0,none⟩) (D+n) J) (w.setRow b (c.toList.take (D*i.size)++G++c.toList.drop (D*i.size+G.length)).toArray):=by
 have hst:=run_storeCells_at (P:=P) b (D*i.size) E G 0 c w hh (by omega) hs.one;simp only[iO] at hst;rcases hs.kind with⟨e',hk⟩|hk<;>simp[Builtin.append_,dW ht,dW hk,sizeOf,typeInfo,hi,hs.len,O,hs.cells,Addr.add_lit,hst]
end
section
variable {C:Cx}{X0 X:WS}{N:Nat}{fr:Fr}{ds:List Dfd}{a:Act}{ad:Ad}{K:Kt}{ro:Option Nat}{n:Nat}{Q:Exit->Act->World->Prop}{o:Oper}
variable (hA:At C X0 N X fr ds a ad o.dst)
include hA
def Jf {T T' e:TypeId}{x y:Operand}{s by_ g₀:Nat}{i:TypeInfo}{z:Value}{xs ys:List IV}{olds E:List Value}{base ae:Option Addr}{D J:Nat}(ho:o.op=.call ⟨.builtin .append,⟨[x,y]⟩,⟨[T,T']⟩⟩)
  (hT:C.P.underlying T=some (.slice e)) (hi:C.P.info? e=some i) (au:i.bytes=by_) (hz:i.zero=some z) (hzs:z.cells.size=s)
  (ex:a.eval x=.slice base xs.length D) (ey:a.eval y=.slice ae ys.length J) (ah:(Builtin.firstCells i.size xs.length (.slice base xs.length D)).run C.P X.w.drew=.ok olds.toArray X.w.drew)
  (hs:Src C.P i.size T' (.slice ae ys.length J) ys.length E X.w) (al:C.vl X olds (xs.flatMap IV.cells)) (am:C.vl X E (ys.flatMap IV.cells)) (aA:∀x∈xs,x.cells.length=s) (hys:∀x∈ys,x.cells.length=s)
  (hg:D<xs.length+ys.length) (aw:(xs.length+ys.length)*by_<=140737488355328) (av:xs.length+ys.length<=140737488355328) (f:Bool)
  (h:∀g,X.st g=none->finK o.dst K ad fr (.val (.sl ⟨f,.app g,s⟩ (xs++ys))) (((X.drop g₀).st:ISt).put g (some (.front (xs.length+ys.length) s))) ds) :
  o.wpIn (eP ro) n C.P a X.w (PK C X0 N K) Q:=by
 have hnd:∀c,o.op≠.defer c:=by rw[ho];intro c hc;cases hc
 have aj:Builtin.nextslicecap (xs.length+ys.length) D*i.bytes<=281474976710656:=growslice_fits hg (by rw[au];exact aw);have ag:=run_append_grow_src X.w T T' o.type e i z hT hi hz base xs.length D olds ah (.slice ae ys.length J) ys.length E hs hg (by omega) aj;have hr:(execOp a.eval o).run C.P X.w=.ok (.value (.slice (some ⟨X.w.heap.size,0,none⟩) (xs.length+ys.length) (grownCap X.w (xs.length+ys.length) D e)))
   (X.w.drew.alloc (.cells ((olds++E).toArray++Builtin.zeroCells z.cells (grownCap X.w (xs.length+ys.length) D e-(xs.length+ys.length))) e)):=by
  rw[kO ho];simp only[builtin,je,ec,fG,ex,ey,dw,ag,dv,dA]
 have ao:=grownCap_ge X.w (xs.length+ys.length) D e;have ac:(xs++ys).flatMap IV.cells=xs.flatMap IV.cells++ys.flatMap IV.cells:=by simp
 have af:C.vl X (olds++E) ((xs++ys).flatMap IV.cells):=by rw[ac];exact al.append am
 have aa:∀x∈xs++ys,x.cells.length=s:=λx hx=>by
  grind
 have G:(olds++E).length=(xs.length+ys.length)*s:=by rw[af.1,gS _ aa,lLa]
 have aq:Ext X (X.drop g₀).drew:=(lK g₀).trans (hA.inv.good.drop g₀).drew.1;have ab:=(hA.inv.good.drop g₀).drew.2;have O:(⟨(olds++E)++(Builtin.zeroCells z.cells (grownCap X.w (xs.length+ys.length) D e-(xs.length+ys.length))).toList⟩:Array Value) =
   (olds++E).toArray++Builtin.zeroCells z.cells (grownCap X.w (xs.length+ys.length) D e-(xs.length+ys.length)):=by
  grind
 have ai:=wm (X:=(X.drop g₀).drew) (cp:=.app X.w.heap.size) (so:=some (.front (xs.length+ys.length) s)) (rest:=(Builtin.zeroCells z.cells (grownCap X.w (xs.length+ys.length) D e-(xs.length+ys.length))).toList)
  (e:=e) (cap:=grownCap X.w (xs.length+ys.length) D e) ab (aq.vl af) aa (by rw[lLa];exact av) (by rw[lLa];exact ao) rfl (λg _=>by
   have ak:(Builtin.zeroCells z.cells (grownCap X.w (xs.length+ys.length) D e-(xs.length+ys.length))).toList.length=(grownCap X.w (xs.length+ys.length) D e-(xs.length+ys.length))*s:=by
    rw[jX,size_zeroCells,hzs]
   rw[lLa,G,ak,<- ff];exact fE _ (by omega))
 rw[O,G,lLa] at ai;have hI:=((hA.inv.drop g₀).drew).new (.cells ((olds++E).toArray++Builtin.zeroCells z.cells (grownCap X.w (xs.length+ys.length) D e-(xs.length+ys.length))) e) ((xs.length+ys.length)*s)
  (some (.front (xs.length+ys.length) s)) (λi hi=>by
   cases hi;refine⟨_,e,iR _ _,by simp[WS.new],?_⟩;simp only[WS.new,dJ];rw[Array.size_append,List.size_toArray,G];exact Nat.le_add_right _ _)
 exact eD hr hnd (gF hI hA.ad hA.hd (ri f ai) (h X.w.heap.size (by
  cases hq:X.st X.w.heap.size with
  | none=>rfl
  | some o=>have:=hA.inv.good.lt hq;omega)))
omit hA in
def lL {B:Nat}{L:Nat->Nat}{w:World}(rs:List Value):VL B L w rs (List.replicate rs.length .junk) :=
 ⟨by simp,λi r c _ hc=>by
  have:=lMg hc;rw[(List.mem_replicate.1 this).2];exact .junk r⟩
omit hA in
def Jg {k:Option LenK}{i:Option IntKind}{f g:Prop}(h:appK k i f g):(k=some .sl/\f)\/(k=none/\(∃j,i=some j)/\g):=by
 unfold appK at h;grind
def wD {T T' e:TypeId}{x y:Operand}{s by_ g₀ m:Nat}{i:TypeInfo}{z:Value}{oc ys:List IV}{olds E:List Value}{base O:Option Addr}{D G:Nat}(ho:o.op=.call ⟨.builtin .append,⟨[x,y]⟩,⟨[T,T']⟩⟩)
  (hT:C.P.underlying T=some (.slice e)) (hi:C.P.info? e=some i) (al:i.bytes=by_) (hz:i.zero=some z) (hzs:z.cells.size=s)
  (ex:a.eval x=.slice base m D) (ey:a.eval y=.slice O ys.length G) (ab:(Builtin.firstCells i.size m (.slice base m D)).run C.P X.w.drew=.ok olds.toArray X.w.drew)
  (hs:Src C.P i.size T' (.slice O ys.length G) ys.length E X.w) (ag:C.vl X olds oc) (ah:C.vl X E (ys.flatMap IV.cells))
  (hg:D<m+ys.length) (am:(m+ys.length)*by_<=140737488355328) (aw:m+ys.length<=140737488355328)
  (h:∀g cap,X.st g=none->m+ys.length<=cap->finK o.dst K ad fr (.val (.raw (.slice (some ⟨g,0,none⟩) (m+ys.length) cap)))
   (((X.drop g₀).st:ISt).put g (some (.box (oc++ys.flatMap IV.cells++List.replicate ((cap-(m+ys.length))*s) .junk)))) ds) :
  o.wpIn (eP ro) n C.P a X.w (PK C X0 N K) Q:=by
 have hnd:∀c,o.op≠.defer c:=by rw[ho];intro c hc;cases hc
 have ac:Builtin.nextslicecap (m+ys.length) D*i.bytes<=281474976710656:=growslice_fits hg (by rw[al];exact am);have aa:=run_append_grow_src X.w T T' o.type e i z hT hi hz base m D olds ab (.slice O ys.length G) ys.length E hs hg (by omega) ac;have hr:(execOp a.eval o).run C.P X.w=.ok (.value (.slice (some ⟨X.w.heap.size,0,none⟩) (m+ys.length) (grownCap X.w (m+ys.length) D e)))
   (X.w.drew.alloc (.cells ((olds++E).toArray++Builtin.zeroCells z.cells (grownCap X.w (m+ys.length) D e-(m+ys.length))) e)):=by
  rw[kO ho];simp only[builtin,je,ec,fG,ex,ey,dw,aa,dv,dA]
 have aj:=grownCap_ge X.w (m+ys.length) D e;have ak:Ext X (X.drop g₀).drew:=(lK g₀).trans (hA.inv.good.drop g₀).drew.1;have J:=(hA.inv.good.drop g₀).drew.2;have af:(Builtin.zeroCells z.cells (grownCap X.w (m+ys.length) D e-(m+ys.length))).toList.length=(grownCap X.w (m+ys.length) D e-(m+ys.length))*s:=by
  rw[jX,size_zeroCells,hzs]
 have ae:C.vl (X.drop g₀).drew ((olds++E)++(Builtin.zeroCells z.cells (grownCap X.w (m+ys.length) D e-(m+ys.length))).toList)
   (oc++ys.flatMap IV.cells++List.replicate ((grownCap X.w (m+ys.length) D e-(m+ys.length))*s) .junk):=by
  refine (ak.vl (ag.append ah)).append ?_;rw[<- af];exact lL _
 have hI:=((hA.inv.drop g₀).drew).new (.cells ((olds++E).toArray++Builtin.zeroCells z.cells (grownCap X.w (m+ys.length) D e-(m+ys.length))) e) 0
  (some (.box (oc++ys.flatMap IV.cells++List.replicate ((grownCap X.w (m+ys.length) D e-(m+ys.length))*s) .junk))) (λi hi=>by
   cases hi;refine⟨by simp[WS.new],_,e,iR _ _,(J.new_ext _ 0 _).vl ?_⟩;rw[Array.toList_append,List.toList_toArray];exact ae)
 exact eD hr hnd (gF (x:=.raw _) hI hA.ad hA.hd (.raw _ trivial) (h X.w.heap.size _ (by
  cases hq:X.st X.w.heap.size with
  | none=>rfl
  | some o=>have:=hA.inv.good.lt hq;omega) aj))
def Jh {T T':TypeId}{x y:Operand}{esc:List Nat}(ho:o.op=.call ⟨.builtin .append,⟨[x,y]⟩,⟨[T,T']⟩⟩)
  (h:du (slI C.P T) λe=>appK (lenI C.P T') (intK C.P T')
   (du (evV C.gl fr x) λs=>slY s (λtg xs=>du (evV C.gl fr y) λy=>slV y λ_ ys=>appV esc o.dst e tg xs ys (finK o.dst K ad fr) X.st ds) (λb off n cap=>du (evV C.gl fr y) λy=>slY y (λ_ ys=>qO esc o.dst (appO e b off n cap ys (finK o.dst K ad fr) X.st ds)) (λb2 ai m2 _=>qO esc o.dst (appR e b off n cap b2 ai m2 (finK o.dst K ad fr) X.st ds))))
   (du (evV C.gl fr x) λs=>slV s λtg _=>du (evV C.gl fr y) λy=>intV y λ_ m=>appZ e tg m (finK o.dst K ad fr) X.st ds)):o.wpIn (eP ro) n C.P a X.w (PK C X0 N K) Q:=by
 obtain⟨⟨e,ag,s,by_⟩,bx,h1⟩:=yQ2.1 h;clear h;have hnd:∀c,o.op≠.defer c:=by rw[ho];intro c hc;cases hc
 obtain⟨hT,bM,i,hi,_,aS⟩:=mJ bx;obtain⟨z,hz,hzs⟩:=wg bx hi;have ak:i.size=s:=by have:=s_ bM;simpa[hi] using this
 have aN:X.st X.w.heap.size=none:=by
  cases hq:X.st X.w.heap.size with
  | none=>rfl
  | some o=>have:=hA.inv.good.lt hq;omega
 have a7:∀g₀,X.st g₀=none->(X.drop g₀).st=X.st:=λg₀ h0=>by
  funext b;simp only[WS.drop];split
  ·grind
  ·rfl
 rcases Jg h1 with⟨hk,h2⟩|⟨_,⟨ik,bT⟩,h2⟩
 case inr =>
  clear h1;obtain⟨vx,hx,h3⟩:=yQ2.1 h2;clear h2;obtain⟨tg,xs,rfl,h4⟩:=Ba h3;clear h3;obtain⟨vy,hy,h5⟩:=yQ2.1 h4;clear h4;obtain⟨ky,m,rfl,⟨hc,b7,bC,hml,bN⟩,h⟩:=mI h5;clear h5;simp only at bC bN h;obtain⟨bc,aj,ex,_,_,G⟩:=jn (hA.v hx).1;rw[hc] at G;obtain⟨rfl,h0,rfl⟩:=G;rw[h0] at ex;have ey:=dK (hA.v hy).1;obtain⟨q,rfl⟩:∃q:Nat,m=q:=⟨m.toNat,by omega⟩
  rw[i_] at h;have bV:C.P.underlying T'=some (.int ik):=by
   unfold intK at bT;grind
  have O:=Lib.run_append_nil_zeros X.w T T' o.type e i z ky ik hT bV hi hz q (by omega) (by omega) (by omega) (by
   rw[aS];have:((q*by_:Nat):Int)<=140737488355328:=by rw[Int.natCast_mul];exact bC
   omega)
  have hr:(execOp a.eval o).run C.P X.w=.ok (.value (.slice (some ⟨X.w.heap.size,0,none⟩) q (grownCap X.w q 0 e)))
    (X.w.drew.alloc (.cells (Builtin.zeroCells z.cells q++Builtin.zeroCells z.cells (grownCap X.w q 0 e-q)) e)):=by
   rw[kO ho];simp only[builtin,je,ec,fG,ex,ey,dw,O,dv,dA]
  have bU:q<=grownCap X.w q 0 e:=by have:=grownCap_ge X.w q 0 e;omega
  have hI:=(hA.inv.drew).new (.cells (Builtin.zeroCells z.cells q++Builtin.zeroCells z.cells (grownCap X.w q 0 e-q)) e) 0 (some (.box (List.replicate (grownCap X.w q 0 e*s) .junk))) (λi hi=>by
   cases hi;refine⟨by simp[WS.new],_,e,iR _ _,?_⟩;have hl:(Builtin.zeroCells z.cells q++Builtin.zeroCells z.cells (grownCap X.w q 0 e-q)).toList.length=grownCap X.w q 0 e*s:=by
    rw[jX,Array.size_append,size_zeroCells,size_zeroCells,hzs,<- ff];grind
   rw[<- hl];exact lL _)
  exact eD hr hnd (gF (x:=.raw _) hI hA.ad hA.hd (.raw _ trivial) (h X.w.heap.size _ ⟨aN,bU⟩))
 clear h1;rcases re hk with⟨hq,_⟩|⟨_,e',bp⟩|⟨hq,_⟩|⟨_,_,hq,_⟩
 ·cases hq
 ·obtain⟨vx,hx,h3⟩:=yQ2.1 h2;clear h2;rcases q_ h3 with⟨tg,xs,rfl,h4⟩|⟨b,off,m,cap,rfl,h4⟩
  case inr =>
   clear h3;obtain⟨vy,hy,h5⟩:=yQ2.1 h4;clear h4;rcases q_ h5 with⟨bK,ys,rfl,aC⟩|⟨b2,ai,m2,bf,rfl,aC⟩
   case inr =>
    clear h5;unfold qO at aC;by_cases bj:qX esc o.dst=true
    ·grind
    rw[a_ bj] at aC;obtain⟨⟨rfl,rfl⟩,h6⟩:=aC;obtain⟨ob,aM,h7⟩:=yQ2.1 h6;clear h6;obtain⟨cs,rfl,⟨bB,aG,J,bA,ae⟩,h⟩:=ra h7;clear h7;simp only at aG bA ae h;have ex:=dK (hA.v hx).1;have ey:=dK (hA.v hy).1;obtain⟨hL,c,E,hh,aq⟩:=hA.inv.good.ok b2 _ aM;have bn:c.size=cs.length:=by rw[<- aq.1];simp
    obtain⟨D,az⟩:∃D,D=(c.toList.drop ai).take (m2*s):=⟨_,rfl⟩
    have av:D.length=m2*s:=by rw[az,dU,gz,jX];omega
    have al:C.vl X D ((cs.drop ai).take (m2*s)):=az▸(aq.drop ai).take _;have au:∀u∈D,u.oneCell'=true:=pw al ae;have ab:Src C.P i.size T' (.slice (some ⟨b2,ai,none⟩) m2 bf) m2 D X.w:=by
     rw[ak];refine Src.of bp av (λb' aT j v hj=>?_) (λh0=>by cases h0) au;cases aT;rw[az,gd] at hj;split at hj
     ·rw[kv] at hj;rw[lI,jx hh];exact hj
     ·cases hj
    have aO:(m+m2)*s<=cs.length:=dN (fE _ J) aG;have ax:m*s+D.length<=c.size:=by rw[av,<- ff,bn];exact aO
    have O:=wC X.w T T' o.type e E i hT hi b2 m cap (.slice (some ⟨b2,ai,none⟩) m2 bf) m2 D c ab J hh (by rw[ak];exact ax);rw[ak] at O;have hr:(execOp a.eval o).run C.P X.w=.ok (.value (.slice (some ⟨b2,0,none⟩) (m+m2) cap))
      (X.w.setRow b2 (c.toList.take (m*s)++D++c.toList.drop (m*s+D.length)).toArray):=by
     rw[kO ho];simp only[builtin,je,ec,fG,ex,ey,dw,O,dv,dA]
    have ac:(c.toList.take (m*s)++D++c.toList.drop (m*s+D.length)).toArray.size=c.size:=by simp;omega
    have af:∀i,i<X.L b2->(c.toList.take (m*s)++D++c.toList.drop (m*s+D.length)).toArray[i]?=c[i]?:=λi hi=>by rw[hL] at hi;omega
    have hI:=hA.inv.row hh ac (n:=0) (so:=some (.box (fu cs (m*s) ((cs.drop ai).take (m2*s))))) (by omega) af (by rw[aM];simp) (λi hi=>by
     cases hi;refine⟨by simp[WS.row],_,E,fZ X.w b2 c _ E (0,0) hh,?_⟩;have:=px aq al (off:=m*s);exact⟨by simpa using this.1,λi r z hr hz=>kH hh ac (by omega) af (this.2 i r z (by simpa using hr) hz)⟩)
    exact eD hr hnd (gF (x:=.raw _) hI hA.ad hA.hd (.raw _ trivial) h)
   clear h5;unfold qO at aC;by_cases bj:qX esc o.dst=true
   ·grind
   rw[a_ bj] at aC;obtain⟨⟨rfl,ae⟩,⟨aB,aH⟩,h6⟩:=aC;obtain⟨ob,aM,h7⟩:=yQ2.1 h6;clear h6;obtain⟨cs,rfl,⟨bB,aG⟩,h⟩:=ra h7;clear h7;simp only at ae aB aG h;have ex:=dK (hA.v hx).1;have bg:=(hA.v hy).1;have hys:=wk ae;obtain⟨aI,an,D,ey,_,av,al,bl,bk⟩:=wA bg hys;have au:∀u∈D,u.oneCell'=true:=pw al (by
    simp only[eF];intro q hq;obtain⟨y',bh,hq⟩:=fh.1 hq;exact eF.1 (lJ (eF.1 ae y' bh)).2.2.1 q hq)
   have ab:Src C.P i.size T' (.slice aI ys.length an) ys.length D X.w:=by
    rw[ak];exact Src.of bp av bl (λh0=>by rw[bk h0];rfl) au
   obtain⟨hL,c,E,hh,aq⟩:=hA.inv.good.ok b _ aM;have bn:c.size=cs.length:=by rw[<- aq.1];simp
   have bZ:m*s<=cs.length:=dN (fE _ bB) aG;rcases fN cap (m+ys.length) with hg|J
   ·have h8:=h.2 (dEf (by omega));have a6:(c.toList.take (m*s)).length=m*s:=by rw[dU,jX];omega
    rcases h8 with h8|h8
    ·refine wD hA ho hT hi aS hz hzs ex ey (olds:=c.toList.take (m*s)) (oc:=cs.take (m*s)) (g₀:=b) (by
      rw[ak];refine wB a6 (λb' aT j v hj=>?_) (λh0=>by cases h0);cases aT;rw[gd] at hj;split at hj
      ·rw[lI,dY,jx hh];exact hj
      ·cases hj) ab (aq.take _) al hg aB aH (λg aV bm bo=>?_)
     exact h8 g aV ⟨bm,bo⟩
    ·refine wD hA ho hT hi aS hz hzs ex ey (olds:=c.toList.take (m*s)) (oc:=cs.take (m*s)) (g₀:=X.w.heap.size) (by
      rw[ak];refine wB a6 (λb' aT j v hj=>?_) (λh0=>by cases h0);cases aT;rw[gd] at hj;split at hj
      ·rw[lI,dY,jx hh];exact hj
      ·cases hj) ab (aq.take _) al hg aB aH (λg aV bm bo=>?_)
     rw[a7 _ aN];exact h8 g aV ⟨bm,bo⟩
   ·have h8:=h.1 (dEt J);have aO:(m+ys.length)*s<=cs.length:=dN (fE _ J) aG;have ax:m*s+D.length<=c.size:=by rw[av,<- ff,bn];exact aO
    have O:=wC X.w T T' o.type e E i hT hi b m cap (.slice aI ys.length an) ys.length D c ab J hh (by rw[ak];exact ax);rw[ak] at O;have hr:(execOp a.eval o).run C.P X.w=.ok (.value (.slice (some ⟨b,0,none⟩) (m+ys.length) cap))
      (X.w.setRow b (c.toList.take (m*s)++D++c.toList.drop (m*s+D.length)).toArray):=by
     rw[kO ho];simp only[builtin,je,ec,fG,ex,ey,dw,O,dv,dA]
    have ac:(c.toList.take (m*s)++D++c.toList.drop (m*s+D.length)).toArray.size=c.size:=by simp;omega
    have af:∀i,i<X.L b->(c.toList.take (m*s)++D++c.toList.drop (m*s+D.length)).toArray[i]?=c[i]?:=λi hi=>by rw[hL] at hi;omega
    have hI:=hA.inv.row hh ac (n:=0) (so:=some (.box (fu cs (m*s) (ys.flatMap IV.cells)))) (by omega) af (by rw[aM];simp) (λi hi=>by
     cases hi;refine⟨by simp[WS.row],_,E,fZ X.w b c _ E (0,0) hh,?_⟩;have:=px aq al (off:=m*s);exact⟨by simpa using this.1,λi r z hr hz=>kH hh ac (by omega) af (this.2 i r z (by simpa using hr) hz)⟩)
    exact eD hr hnd (gF (x:=.raw _) hI hA.ad hA.hd (.raw _ trivial) h8)
  clear h3;obtain⟨vy,hy,h5⟩:=yQ2.1 h4;clear h4;obtain⟨bK,ys,rfl,ae,⟨aB,aH⟩,h⟩:=Ba h5;clear h5;simp only at ae aB h;have aD:=(hA.v hx).1;have bg:=(hA.v hy).1;have hys:=wk ae;obtain⟨aI,an,D,ey,_,av,al,bl,bk⟩:=wA bg hys;have au:∀u∈D,u.oneCell'=true:=pw al (by
   simp only[eF];intro q hq;obtain⟨y',bh,hq⟩:=fh.1 hq;exact eF.1 (lJ (eF.1 ae y' bh)).2.2.1 q hq)
  have ab:Src C.P i.size T' (.slice aI ys.length an) ys.length D X.w:=by
   rw[ak];exact Src.of bp av bl (λh0=>by rw[bk h0];rfl) au
  obtain⟨bc,aj,ex,_,bD,G⟩:=jn aD;have ao:ys=[]->finK o.dst K ad fr (.val (.sl tg xs)) X.st ds->o.wpIn (eP ro) n C.P a X.w (PK C X0 N K) Q:=by
   intro aa hf;have bR:D=[]:=by subst aa;exact ev (by rw[av];simp)
   rw[aa,bR] at ab;have O:(Builtin.append_ #[T,T'] o.type #[.slice bc xs.length aj,.slice aI ys.length an]).run C.P X.w=.ok (.slice bc xs.length aj) X.w:=by
    rw[aa];exact run_append_nothing X.w T T' o.type e i hT hi bc xs.length aj bD _ ab
   have hr:(execOp a.eval o).run C.P X.w=.ok (.value (a.eval x)) X.w:=by
    rw[kO ho];simp only[builtin,je,ec,fG,ex,ey,dw,O,dv,dA]
   exact eD hr hnd (hA.val aD hf)
  have aU:∀(g₀:Nat) (f:Bool) (aE:∀x∈xs,x.cells.length=s) (hg:aj<xs.length+ys.length)
    (hf:∀g,X.st g=none->finK o.dst K ad fr (.val (.sl ⟨f,.app g,s⟩ (xs++ys))) (((X.drop g₀).st:ISt).put g (some (.front (xs.length+ys.length) s))) ds),o.wpIn (eP ro) n C.P a X.w (PK C X0 N K) Q:=by
   intro g₀ f aE hg hf;obtain⟨b1,bW,olds,bH,_,a6,bO,bQ,bP⟩:=wA aD aE;rw[ex] at bH;cases bH;exact Jf hA ho hT hi aS hz hzs ex ey (by rw[ak];exact wB a6 bQ (λh0=>by rw[bP h0];rfl)) ab bO al aE hys hg aB aH f hf
  have aE:tg.es=s->∀x∈xs,x.cells.length=s:=λhe x hx=>by
   obtain⟨_,_,_,_,_,hs,_⟩:=jo aD;grind
  cases hc:tg.cap with
  | none =>
   grind
  | nil =>
   rw[hc] at h G;obtain⟨h1,h2,h3⟩:=G;have bi:xs=[]:=ev h2;cases aa:ys with
   | nil=>rw[aa] at h;exact ao aa h
   | cons y0 yt =>
    rw[aa] at h;by_cases bd:ic esc o.dst=true
    ·have ah:∀g cap,(X.st g=none/\(y0::yt).length<=cap)->finK o.dst K ad fr (.val (.raw (.slice (some ⟨g,0,none⟩) (y0::yt).length cap)))
       (X.st.put g (some (.box ((y0::yt).flatMap IV.cells++List.replicate ((cap-(y0::yt).length)*s) .junk)))) ds:=by
      simp only[cX bd] at h;exact h
     rw[<- aa] at ah;rw[h1,h2,h3] at ex;refine wD hA ho hT hi aS hz hzs ex ey (olds:=[]) (oc:=[]) (g₀:=X.w.heap.size) rfl ab VL.nil al (by rw[aa];simp) (by simpa[bi] using aB) (by simpa[bi] using aH) (λg cap hg hc=>?_);grind
    have ah:∀g,X.st g=none->finK o.dst K ad fr (.val (.sl ⟨true,.app g,s⟩ (y0::yt))) (X.st.put g (some (.front (y0::yt).length s))) ds:=by
     simp only[a_ bd] at h;exact h
    rw[<- aa] at ah;refine aU X.w.heap.size true (by rw[bi];simp) (by rw[aa,h3,h2];simp) (λg hg=>?_);grind
  | full =>
   rw[hc] at h G;cases aa:ys with
   | nil=>rw[aa] at h;exact ao aa h.2
   | cons y0 yt =>
    rw[aa] at h;obtain⟨aQ,h⟩:=h;have ah:∀g,X.st g=none->finK o.dst K ad fr (.val (.sl ⟨true,.app g,s⟩ (xs++y0::yt))) (X.st.put g (some (.front (xs.length+(y0::yt).length) s))) ds:=h;rw[<- aa] at ah;simp only[kY] at G;refine aU X.w.heap.size true (aE aQ) (by rw[aa,G];simp) (λg hg=>?_);grind
  | app g₀ =>
   rw[hc] at h G;obtain⟨aQ,hst,ah⟩:=h;simp only[kY] at G;rcases fN aj (xs.length+ys.length) with hg|J
   ·exact aU g₀ tg.fresh (aE aQ) hg (λg hg=>ah g (.inr hg))
   ·obtain⟨c,E,hh,hL,b9⟩:=hA.inv.good.ok g₀ _ hst;obtain⟨fresh,cp,es⟩:=tg;simp only at aQ hc ah;subst aQ hc G;rw[ex] at aD;obtain⟨ax,ac,af,bS,bL⟩:=V.push (so:=some (.front (xs.length+ys.length) es)) aD hh hL al hys J aH;have O:=wC X.w T T' o.type e E i hT hi g₀ xs.length aj (.slice aI ys.length an) ys.length D c ab J hh (by rw[ak];exact ax);rw[ak] at O;have hr:(execOp a.eval o).run C.P X.w=.ok (.value (.slice (some ⟨g₀,0,none⟩) (xs.length+ys.length) aj))
      (X.w.setRow g₀ (c.toList.take (xs.length*es)++D++c.toList.drop (xs.length*es+D.length)).toArray):=by
     rw[kO ho];simp only[builtin,je,ec,fG,ex,ey,dw,O,dv,dA]
    have hI:=hA.inv.row hh ac (n:=(xs.length+ys.length)*es) (so:=some (.front (xs.length+ys.length) es)) (by rw[hL];exact fE _ (Nat.le_add_right _ _)) af (by rw[hst];simp) (λi hi=>by
     cases hi;exact⟨_,E,fZ X.w g₀ c _ E (0,0) hh,by simp[WS.row],by simp only[WS.row,dJ];rw[ac];exact bS⟩)
    have bw:(X.row g₀ (c.toList.take (xs.length*es)++D++c.toList.drop (xs.length*es+D.length)).toArray ((xs.length+ys.length)*es) (some (.front (xs.length+ys.length) es))).st =
      (X.st.put g₀ none).put g₀ (some (.front (xs.length+ys.length) es)):=by
     funext b;simp only[WS.row,ISt.put];split<;>rfl
    exact eD hr hnd (gF hI hA.ad hA.hd bL (by rw[bw];exact ah g₀ (.inl rfl)))
 ·cases hq
 ·cases hq
omit hA in
def Ji {D:Array Value}{m:Nat}(G:0<D.size){u:Value}(E:u∈(Builtin.zeroCells D m).toList):u∈D.toList:=by
 unfold Builtin.zeroCells at E;rw[Array.toList_map] at E;obtain⟨i,_,rfl⟩:=dH.1 E;have J:=Nat.mod_lt i G;grind
def Jj {T:TypeId}{x:Operand}(ho:o.op=.call ⟨.builtin .clear,⟨[x]⟩,⟨[T]⟩⟩)
  (h:du (slI C.P T) λe=>du (eX C.P e.1) λ_=>du (evV C.gl fr x) λx=>ph e x (finK o.dst K ad fr) X.st ds):o.wpIn (eP ro) n C.P a X.w (PK C X0 N K) Q:=by
 obtain⟨⟨e,ag,s,by_⟩,af,h0⟩:=yQ2.1 h;clear h;obtain⟨zi,al,h1⟩:=yQ2.1 h0;clear h0;obtain⟨vx,hx,h2⟩:=yQ2.1 h1;clear h1;have hnd:∀c,o.op≠.defer c:=by rw[ho];intro c hc;cases hc
 obtain⟨hT,aC,i,hi,_,aF⟩:=mJ af;obtain⟨z,hz,hzs⟩:=wg af hi;have D:(zeroValue e).run C.P X.w=.ok z X.w:=by simp only[zeroValue,dw,run_typeInfo X.w hi,dv,hz,dA]
 rcases q_ h2 with⟨_,_,_,h3⟩|⟨b,off,m,cap,rfl,h⟩
 ·exact h3.elim
 clear h2;have ex:=dK (hA.v hx).1;by_cases hm:m=0
 ·subst hm;rw[cX rfl] at h;have hr:(execOp a.eval o).run C.P X.w=.ok (.value (.tuple #[])) X.w:=by
   rw[kO ho];simp[builtin,ex,Builtin.clear_,dW hT]
  exact eD hr hnd (hA.val (.tup [] [] rfl (λi r c h=>by simp at h)) h)
 rw[a_ hm] at h;obtain⟨ob,aj,h4⟩:=yQ2.1 h;clear h;obtain⟨cs,rfl,h5⟩:=ra h4;clear h4;obtain⟨av,h⟩:=jO h5;clear h5;simp only at av h;obtain⟨hL,c,E,hh,ab⟩:=hA.inv.good.ok b _ aj;have aE:c.size=cs.length:=by rw[<- ab.1];simp
 have O:(Builtin.zeroCells z.cells m).toList.length=m*s:=by rw[jX,size_zeroCells,hzs]
 have ai:∀u∈(Builtin.zeroCells z.cells m).toList,u.oneCell'=true:=λu hu=>by
  obtain⟨v,ae,ao,an,ac⟩:=qZ al X.w;rw[D] at ae;cases ae;have aD:0<s:=Nat.pos_of_ne_zero λh0=>by
   have:=List.length_pos_of_mem hu;rw[O,h0] at this;omega
  exact pw (V.cells (ao C.B X.L X.w) (nE ac) an) ac u (Ji (by omega) hu)
 have hst:=run_storeCells_at (P:=C.P) b off E (Builtin.zeroCells z.cells m).toList 0 c X.w hh (by omega) ai;simp only[iO] at hst;have hr:(execOp a.eval o).run C.P X.w=.ok (.value (.tuple #[])) (X.w.setRow b (c.toList.take off++(Builtin.zeroCells z.cells m).toList++c.toList.drop (off+(Builtin.zeroCells z.cells m).toList.length)).toArray):=by
  rw[kO ho];simp[builtin,ex,Builtin.clear_,dW hT,hm,D,hst]
 have G:(c.toList.take off++(Builtin.zeroCells z.cells m).toList++c.toList.drop (off+(Builtin.zeroCells z.cells m).toList.length)).toArray.size=c.size:=by simp only[List.size_toArray,lLa,dU,gz,jX] at O ⊢;omega
 have J:∀i,i<X.L b->(c.toList.take off++(Builtin.zeroCells z.cells m).toList++c.toList.drop (off+(Builtin.zeroCells z.cells m).toList.length)).toArray[i]?=c[i]?:=λi hi=>by rw[hL] at hi;omega
 have hI:=hA.inv.row hh G (n:=0) (so:=some (.box (fu cs off (List.replicate (m*s) .junk)))) (by omega) J (by rw[aj];simp) (λi hi=>by
  cases hi;refine⟨by simp[WS.row],_,E,fZ X.w b c _ E (0,0) hh,?_⟩;have hj:=lL (B:=C.B) (L:=X.L) (w:=X.w) (Builtin.zeroCells z.cells m).toList;rw[O] at hj;have:=px ab hj (off:=off);exact⟨by simpa using this.1,λi r z hr hz=>kH hh G (by omega) J (this.2 i r z (by simpa using hr) hz)⟩)
 exact eD hr hnd (gF (x:=.tup []) hI hA.ad hA.hd (.tup [] [] rfl (λi r c h=>by simp at h)) h)
def Jk {esc:List Nat}{T:TypeId}{x y:Operand}(ho:o.op=.makeSlice T x y)
  (h:du (slI C.P T) λe=>du (evV C.gl fr x) λl=>intV l λ_ p=>du (evV C.gl fr y) λm=>intV m λ_ q=>oA (eX C.P e.1) esc o.dst e p q (finK o.dst K ad fr) X.st ds):o.wpIn (eP ro) n C.P a X.w (PK C X0 N K) Q:=by
 obtain⟨⟨e,ag,s,by_⟩,ai,h1⟩:=yQ2.1 h;clear h;obtain⟨vx,hx,h2⟩:=yQ2.1 h1;clear h1;obtain⟨kp,p,rfl,h3⟩:=mI h2;clear h2;obtain⟨vy,hy,h4⟩:=yQ2.1 h3;clear h3;obtain⟨kq,q,rfl,⟨aJ,aH,aq,aG⟩,h⟩:=mI h4;clear h4;simp only at aq h;have hnd:∀c,o.op≠.defer c:=by rw[ho];intro c hc;cases hc
 obtain⟨hT,an,i,E,_,ax⟩:=mJ ai;obtain⟨z,hz,hzs⟩:=wg ai E;have ao:i.size=s:=by have:=s_ an;simpa[E] using this
 have ex:=dK (hA.v hx).1;have ey:=dK (hA.v hy).1;have au:0<=p:=by omega
 have ak:p<=q:=by omega
 have aj:=run_make (P:=C.P) X.w T e i z hT E hz kp kq p q au ak (by rw[ax,Int.mul_comm];omega) (by omega);have hr:(execOp a.eval o).run C.P X.w=.ok (.value (.slice (some ⟨X.w.heap.size,0,none⟩) p.toNat q.toNat)) (X.w.alloc (.cells (madeCells z.cells (q.toNat*i.size)) e)):=by
  unfold execOp;rw[ho];simp only[ex,ey,dw,aj,dv,dA]
 have hml:(madeCells z.cells (q.toNat*i.size)).toList.length=q.toNat*s:=by rw[jX,size_madeCells,ao]
 have D:X.st X.w.heap.size=none:=by
  cases hq:X.st X.w.heap.size with
  | none=>rfl
  | some o=>have:=hA.inv.good.lt hq;omega
 split at h
 ·obtain⟨O,h⟩:=h;obtain⟨y,G,J,h⟩:=yQ2.1 h;have O:s=1:=O;replace G:eX C.P e=some y:=G;subst O;have af:qU z=some y:=by
   unfold eX at G;simpa[E,hz] using G
  have al:=lF J;have hI:=hA.inv.new (.cells (madeCells z.cells (q.toNat*i.size)) e) 0 (some (.box (List.replicate q.toNat y))) (λi' aw=>by
   cases aw;refine⟨by simp[WS.new],_,e,iR _ _,by rw[hml,gA,ew],λj r c hr hc=>?_⟩;obtain rfl:=List.eq_of_mem_replicate (lMg hc);have hv:=pq (B:=C.B) (L:=(X.new (.cells (madeCells z.cells (q.toNat*i.size)) e) 0 (some (.box (List.replicate q.toNat c)))).L) (w:=(X.new (.cells (madeCells z.cells (q.toNat*i.size)) e) 0 (some (.box (List.replicate q.toNat c)))).w) af;have ah:=V.cells hv.1 (nE hv.2.2) (λhj=>by rw[hj] at J;simp[IV.one] at J);rw[al] at ah;refine ah.2 0 r c ?_ rfl;have ab:=lMg hr;rw[Array.mem_toList_iff] at ab;unfold madeCells at ab;obtain⟨k,_,rfl⟩:=Array.mem_map.1 ab;rw[hzs,Nat.mod_one,getElem!_pos _ _ (by omega)];simp)
  exact eD hr hnd (gF (x:=.raw (.slice (some ⟨X.w.heap.size,0,none⟩) (lenZ p) q.toNat)) hI hA.ad hA.hd (.raw _ trivial) (h X.w.heap.size D))
 split at h
 ·have hI:=hA.inv.new (.cells (madeCells z.cells (q.toNat*i.size)) e) 0 (some (.box (List.replicate (q.toNat*s) .junk))) (λi' E=>by
   cases E;refine⟨by simp[WS.new],_,e,iR _ _,by rw[hml,gA],λj r c _ hc=>?_⟩;obtain rfl:=List.eq_of_mem_replicate (lMg hc);exact .junk r)
  exact eD hr hnd (gF (x:=.raw (.slice (some ⟨X.w.heap.size,0,none⟩) (lenZ p) q.toNat)) hI hA.ad hA.hd (.raw _ trivial) (h X.w.heap.size D))
 split at h
 ·rename_i aa;have aa:s=0:=aa;subst aa;have hI:=hA.inv.new (.cells (madeCells z.cells (q.toNat*i.size)) e) 0 none (λi' E=>by cases E);have hst:(X.new (.cells (madeCells z.cells (q.toNat*i.size)) e) 0 none).st=X.st:=by
   funext b;simp only[WS.new];split
   ·rename_i hb;rw[hb];exact D.symm
   ·rfl
  refine eD hr hnd (gF (x:=.sl ⟨false,.none,0⟩ (List.replicate (lenZ p) (.agg []))) hI hA.ad hA.hd ?_ (by rw[hst];exact h));have hv:V C.B (X.new (.cells (madeCells z.cells (q.toNat*i.size)) e) 0 none).L (X.new (.cells (madeCells z.cells (q.toNat*i.size)) e) 0 none).w (.slice (some ⟨X.w.heap.size,0,none⟩) (List.replicate (lenZ p) (IV.agg [])).length q.toNat) (.sl ⟨false,.none,0⟩ (List.replicate (lenZ p) (.agg []))):=by
   refine .sl (some ⟨X.w.heap.size,0,none⟩) q.toNat ⟨false,.none,0⟩ (List.replicate (lenZ p) (.agg [])) e [] trivial (by rw[gA];unfold lenZ;omega) (by rw[gA];unfold lenZ;omega) (λx hx=>by obtain rfl:=List.eq_of_mem_replicate hx;rfl) (by simp) (λg hg=>by cases hg)
    (λh=>by cases h) (λ_=>⟨⟨X.w.heap.size,0,none⟩,rfl,rfl,ed _,λi r h=>by simp at h⟩) (λi r c h=>by simp at h)
  rw[gA] at hv;exact hv
 obtain⟨hp,h⟩:=h;subst hp;rw[ja] at hr;have av:=wm (X:=X) (vs:=[]) (rest:=(madeCells z.cells (q.toNat*i.size)).toList) (ys:=[]) (s:=s) (cap:=q.toNat) (e:=e) (cp:=.app X.w.heap.size) (so:=some (.front 0 s)) hA.inv.good VL.nil (λ_ h=>by cases h) (by simp) (by simp) rfl
  (λg _=>by rw[fa,hml];exact dG _)
 have hI:=hA.inv.new (.cells (madeCells z.cells (q.toNat*i.size)) e) 0 (some (.front 0 s)) (λi E=>by
  cases E;refine⟨_,e,iR _ _,by simp[WS.new],?_⟩;simp[WS.new])
 exact eD hr hnd (gF hI hA.ad hA.hd av (h X.w.heap.size D))
end
def Br {ro:Option Nat}{n:Nat}{P:Program}{f:FuncId}{args:Array Value}{w:World}{R:Ending->World->Prop}(h:Calls P f args w R):CallsIn (eP ro) n P f args w R :=
 callsIn_wide (n:=n).2 h
def Jl {ro:Option Nat}{m n:Nat}{P:Program}{l:Nat}{f:FuncId}{tmps:Array Value}{assign body:Code}{w:World}{R:Ending->World->Prop}(h:RoundIn Fence.wide m P l f tmps assign body w R) :
  RoundIn (eP ro) n P l f tmps assign body w R :=
 ⟨trivial,λc cs _=>h.2 c cs (room_wide _)⟩
def Bs {P:Program}{g:FuncId}{E cs G:List Value}{w:World}{R:Value->World->Prop}(D:entI P g=true)(h:Calls P g ⟨E++G++cs⟩ w λe w'=>∃v,e=.returned v/\R v w') :
  CallsVal P (.func (.func g) ⟨E⟩ ⟨cs⟩) ⟨G⟩ w R:=by
 unfold entI at D;cases J:P.funcs[g]? with
 | none=>simp[J] at D
 | some fn =>
  simp only[J,bAt,bne_iff_ne,ne_eq] at D;have O:¬ fn.body.isNone=true:=by
   have:=D.2;cases hq:fn.body<;>simp_all
  have hr:(do let d <- Deferred.ofValue (.func (.func g) ⟨E⟩ ⟨cs⟩) ⟨G⟩;invoke d.target d.args:Sem Next).run P w=.ok (.enter g ⟨E++G++cs⟩) w:=by
   simp only[Deferred.ofValue,dw,dA,dv,invoke,callFunc,run_program,J];rw[a_ (by simpa using D.1),a_ O];simp
  unfold CallsVal;grind
section
variable {C:Cx}{X0 X:WS}{N:Nat}{fr:Fr}{ds:List Dfd}{a:Act}{ad:Ad}{K:Kt}{ro:Option Nat}{n:Nat}{Q:Exit->Act->World->Prop}{o:Oper}
variable (hA:At C X0 N X fr ds a ad o.dst)
include hA
def Jm {esc:List Nat}{pf:FuncId->List IV->Option IV}(ac:∀g D v,pf g D=some v->entI C.P g=true/\∀st,ICall C.P C.gl g D st (λr st'=>r=v/\st'=st)){x:Operand}{D:Array Operand}{ts:Array TypeId}(ho:o.op=.call ⟨.value x,D,ts⟩)
  (h:mG esc pf x (evL C.gl fr D.toList) (finK o.dst K ad fr) X.st ds (du (evV C.gl fr x) λf=>fnV f λf first G=>du (evL C.gl fr D.toList) λD=>callV C.P C.gl f first G D X.st (lH (finK o.dst K ad fr) ds))) :
  o.wpIn (eP ro) n C.P a X.w (PK C X0 N K) Q:=by
 replace h:du (evV C.gl fr x) λf=>fnV f λf first G=>du (evL C.gl fr D.toList) λD=>callV C.P C.gl f first G D X.st (lH (finK o.dst K ad fr) ds):=by
  unfold mG at h;split at h
  ·rename_i g;split at h
   ·obtain⟨ys,hys,h1⟩:=yQ2.1 h;obtain⟨v,hv,h2⟩:=yQ2.1 h1;obtain⟨O,hc⟩:=ac g ys v hv;refine yQ2.2 ⟨.fn (.func g) [] [],rfl,?_⟩;show du (evL C.gl fr D.toList) λD=>callV C.P C.gl (.func g) [] [] D X.st (lH (finK o.dst K ad fr) ds);refine yQ2.2 ⟨ys,hys,?_⟩;show if entI C.P g=true then ICall C.P C.gl g ([]++ys++[]) X.st (lH (finK o.dst K ad fr) ds) else False
    rw[cX O,fa,ek];exact (hc X.st).mono λr st' hr=>by obtain⟨rfl,rfl⟩:=hr;exact h2
   ·exact h
  ·exact h
 obtain⟨fv,hf,h1⟩:=yQ2.1 h;clear h;obtain⟨f,first,G,rfl,h2⟩:=v8 h1;clear h1;obtain⟨ys,hys,h⟩:=yQ2.1 h2;clear h2;have hnd:∀c,o.op≠.defer c:=by rw[ho];intro c hc;cases hc
 have aa:=(hA.v hf).1;obtain⟨fs,cs,ef,ae,ag⟩:=jk aa;have J:=qY hA.inv.good hA.inv.fr hys;have E:CallsVal C.P (a.eval x) ⟨D.toList.map a.eval⟩ X.w (ends C X (lH (finK o.dst K ad fr) ds)):=by
  unfold callV at h;split at h
  ·split at h
   ·rename_i O;rw[ef];exact Bs O (h C.B X (fs++D.toList.map a.eval++cs) hA.inv.good rfl ((ae.append J).append ag))
   ·exact h.elim
  ·exact h C.B X (a.eval x) (D.toList.map a.eval) hA.inv.good rfl aa J
 have af:execOp a.eval o=(do let d <- Deferred.ofValue (a.eval x) ⟨D.toList.map a.eval⟩;invoke d.target d.args):=by
  unfold execOp;rw[ho];have:D.map a.eval=⟨D.toList.map a.eval⟩:=by apply Array.ext';simp
  simp only[resolve,this]
 refine⟨λ_ _=>trivial,?_⟩;rw[Oper.semAt_eq _ _ _ hnd,af];unfold CallsVal at E;have ai:∀v w',ends C X (lH (finK o.dst K ad fr) ds) v w'->PK C X0 N K (a.put o.dst v) w':=by
  rintro v w' ⟨X',y,rfl,hg,O,hv,hk⟩;exact gF (hA.inv.ext' O hg) hA.ad hA.hd hv hk
 generalize (do let d <- Deferred.ofValue (a.eval x) ⟨D.toList.map a.eval⟩;invoke d.target d.args:Sem Next).run C.P X.w=r at E ⊢;cases r with
 | halt hh w'=>exact E.elim
 | ok nx w' =>
  cases nx with
  | enter g args =>
   obtain⟨rfl,hc⟩:=E;rw[Oper.uponIn_enter];refine⟨(λh0=>by cases h0),(Br hc).mono λe ab O=>?_⟩;grind
  | round l g tmps assign body =>
   obtain⟨rfl,hc⟩:=E;rw[Oper.uponIn_round];refine⟨(λh0=>by cases h0),(Jl hc).mono λe ab O=>?_⟩;grind
  | _=>exact E.elim
def Jn {x:Operand}{E:Array Operand}{ts:Array TypeId}(ho:o.op=.defer ⟨.value x,E,ts⟩)(J:ro=none)
  (h:du (evV C.gl fr x) λf=>fnV f λf first D=>du (evL C.gl fr E.toList) λE=>finK o.dst K ad fr .nop X.st (.call f D (first++E)::ds)) :
  o.wpIn (eP ro) n C.P a X.w (PK C X0 N K) Q:=by
 obtain⟨fv,hf,h1⟩:=yQ2.1 h;clear h;obtain⟨f,first,D,rfl,h2⟩:=v8 h1;clear h1;obtain⟨ys,hys,h⟩:=yQ2.1 h2;clear h2;subst J;obtain⟨fs,cs,ef,O,ab⟩:=jk (hA.v hf).1;have G:=qY hA.inv.good hA.inv.fr hys;have aa:(execOp a.eval o).run C.P X.w=.ok (.defer { target:=.fn f ⟨cs⟩,args:=⟨fs++E.toList.map a.eval⟩ }) X.w:=by
  unfold execOp;rw[ho];have:E.map a.eval=⟨E.toList.map a.eval⟩:=by apply Array.ext';simp
  simp only[resolve,this,ef,Deferred.ofValue,dw,dA,dv];simp
 refine⟨λ_ _=>trivial,?_⟩;have hs:Oper.semAt (eP none).round a.eval o=execOp a.eval o:=rfl;rw[hs,aa,Oper.uponIn_defer];cases hd:o.dst with
 | some d=>rw[hd] at h;exact h.elim
 | none =>
  rw[hd] at h;have hI:Inv C X0 N X fr (.call f D (first++ys)::ds) { a with defers:={ target:=.fn f ⟨cs⟩,args:=⟨fs++E.toList.map a.eval⟩ }::a.defers } :=
   ⟨hA.inv.good,hA.inv.ext,hA.inv.fr,hA.inv.size,.cons ⟨cs,_,rfl,ab,O.append G⟩ hA.inv.ds (λr h=>by cases h)⟩
  exact⟨X,ad,fr,_,rfl,hI,hA.ad,h⟩
end
def wE {c:Cf}{B:Nat}{X0 X:WS}{N:Nat}{fr:Fr}{ds:List Dfd}{a:Act}{ad:Ad}{K:Kt}{ro:Option Nat}{n:Nat}{Q:Exit->Act->World->Prop}{o:Oper}
  (D:c.rd=false->ro=none) (hA:At (c.cx B) X0 N X fr ds a ad o.dst) (h:vcOp c o.dst o.op K ad fr X.st ds):o.wpIn (eP ro) n c.P a X.w (PK (c.cx B) X0 N K) Q:=by
 unfold vcOp vcR at h;split at h
 case h_1=>exact A9 hA (.inl ‹_›) h
 case h_2=>exact A9 hA (.inr ‹_›) h
 case h_3=>exact Iw hA ‹_› h
 case h_4=>exact Iy hA ‹_› h
 case h_5=>exact IA hA ‹_› h
 case h_6=>exact I6 hA ‹_› h
 case h_7=>exact I7 hA ‹_› h
 case h_8=>exact IB hA ‹_› h
 case h_9=>exact IC hA ‹_› h
 case h_10=>exact ID hA ‹_› h
 case h_11=>exact IL hA ‹_› h
 case h_12=>exact IM hA ‹_› h
 case h_13=>exact IN hA ‹_› h
 case h_14=>exact IE hA ‹_› h
 case h_15=>exact I8 hA ‹_› h
 case h_16=>exact I2 hA ‹_› h
 case h_17=>exact IS hA ‹_› h
 case h_18=>exact IT hA ‹_› h
 case h_19=>exact IU hA ‹_› h
 case h_20=>exact IW hA ‹_› h
 case h_21=>exact Jb hA ‹_› h
 case h_22=>exact Bq hA (.inl ‹_›) h
 case h_23=>exact IF hA ‹_› h
 case h_24=>exact Jm hA c.pok ‹_› h
 case h_25=>exact IY hA ‹_› h
 case h_26=>exact Jh hA ‹_› h
 case h_27=>exact I0 hA ‹_› h
 case h_28 =>
  split at h
  ·exact h.elim
  ·rename_i E;exact Jn hA ‹_› (D (by simpa using E)) h
 case h_29=>exact IZ hA ‹_› h
 case h_30=>exact Jj hA ‹_› h
 case h_31=>exact Jk hA ‹_› h
 case h_32=>exact Bq hA (.inr ‹_›) h
 case h_33=>exact I1 hA ‹_› h
 case h_34 =>
  split at h
  ·exact h.elim
  ·exact Jc hA ‹_› h
 case h_35 =>
  split at h
  ·exact h.elim
  ·exact Jd hA ‹_› h
 case h_36 =>
  split at h
  ·exact h.elim
  ·exact Je hA ‹_› h
 case h_37=>exact h.elim
def PQ (C:Cx)(X0:WS)(N:Nat)(Q:Kc)(e:Exit)(a:Act)(w:World):Prop :=
 ∃X fr ds,X.w=w/\Inv C X0 N X fr ds a/\Q e fr X.st ds
def Bt {c:Cf}{B:Nat}{X0 X:WS}{N:Nat}{fr:Fr}{ds:List Dfd}{a:Act}{ops:Array Oper}{j d:Nat}{b:Bool}(J:Inv (c.cx B) X0 N X fr ds a)(hd:iq ops.toList j=some d)(G:d<N)
  (hs:fr d=b):yielded ops a.tmps j=some b:=by
 have h1:((ops[j]?).bind (·.dst))=some d:=by simpa[iq] using hd
 have D:=J.fr.slot d;rw[hs] at D;have hv:=dK D;have E:d<a.tmps.size:=by rw[J.size];exact G
 have h2:a.tmps[d]?=some (.bool b):=by
  unfold tm at hv;rw[lv,mB E,ez] at hv;grind
 unfold yielded;grind
def Bu {c:Cf}{B:Nat}{X0 X:WS}{N:Nat}{fr:Fr}{ds:List Dfd}{a:Act}{ops:Array Oper}{j d:Nat}{t:Array Value}(J:Inv (c.cx B) X0 N X fr ds a)(hd:iq ops.toList j=some d)(G:d<N)
  (hs:fr d=.iv (.raw (.tuple t))):yielded ops a.tmps j=none:=by
 have h1:((ops[j]?).bind (·.dst))=some d:=by simpa[iq] using hd
 have D:=J.fr.slot d;rw[hs] at D;have hv:=dK D;have E:d<a.tmps.size:=by rw[J.size];exact G
 have h2:a.tmps[d]?=some (.tuple t):=by
  unfold tm at hv;rw[lv,mB E,ez] at hv;grind
 unfold yielded;grind
def Bv {ops:Array Oper}{j d:Nat}(h:iq ops.toList j=some d):∃o∈ops.toList,o.dst=some d:=by
 unfold iq at h;grind
def Bw {c:Cf}{B:Nat}{X0:WS}{N:Nat}{ro:Option Nat}{n:Nat}{ops:Array Oper}{Q:Kc}(ab:c.rd=false->ro=none)(hN:∀o∈ops.toList,∀d,o.dst=some d->d<N) :
  ∀(rest:List Oper) (i:Nat) (X:WS) (fr:Fr) (ds:List Dfd) (a:Act) (ad:Ad),ops.toList.drop i=rest->Inv (c.cx B) X0 N X fr ds a->AdOk fr a.tmps ad->fW c ops.toList rest (Q .normal) ad fr X.st ds →
   wpOpsIn (eP ro) n c.P ops (PQ (c.cx B) X0 N Q) (List.range' i rest.length) a X.w
 | [],i,X,fr,ds,a,ad,_,O,_,h=>by
  simp only[ee,List.range'_zero,wpOpsIn];exact⟨X,fr,ds,rfl,O,h⟩
 | o::rest,i,X,fr,ds,a,ad,ah,O,J,h=>by
  have ho:ops[i]?=some o:=by
   have:ops.toList[i]?=some o:=by
    have:=dZ (·[0]?) ah;grind
   grind
  have G:o∈ops.toList:=by
   grind
  have ag:ops.toList.drop (i+1)=rest:=by
   have:=dZ (List.drop 1) ah;rw[List.drop_drop] at this;grind
  have D:∀a' w',PK (c.cx B) X0 N (fW c ops.toList rest (Q .normal)) a' w'->wpOpsIn (eP ro) n c.P ops (PQ (c.cx B) X0 N Q) (List.range' (i+1) rest.length) a' w':=by
   rintro a' w' ⟨X',au,fr',aq,rfl,ao,ak,h'⟩;exact Bw ab hN rest (i+1) X' fr' aq a' au ag ao ak h'
  have av:∀ad fr,AdOk fr a.tmps ad->Inv (c.cx B) X0 N X fr ds a->vcOp c o.dst o.op (fW c ops.toList rest (Q .normal)) ad fr X.st ds →
    o.wpIn (eP ro) n c.P a X.w (wpOpsIn (eP ro) n c.P ops (PQ (c.cx B) X0 N Q) (List.range' (i+1) rest.length)) (PQ (c.cx B) X0 N Q):=by
   intro ad fr J O h;exact Oper.wpIn_mono D (wE ab ⟨O,J,hN o G⟩ h)
  rw[dX,List.range'_succ];simp only[wpOpsIn,ho];unfold fW at h;split at h
  ·rename_i hg;have hw:Region.wanted o (yielded ops a.tmps)=true:=by simp[Region.wanted,hg]
   grind
  ·rename_i j E hg;split at h
   ·rename_i d hd;obtain⟨od,ac,ae⟩:=Bv (ops:=ops) (show iq ops.toList j=some d from hd);have ai:=hN od ac d ae;cases hs:fr d with
    | box cs=>rw[hs] at h;exact h.elim
    | iv x =>
     cases x with
     | raw v =>
      cases v with
      | bool b =>
       rw[hs,A5 fr d E b _ _ _ _ hs] at h;have hy:=Bt O (show iq ops.toList j=some d from hd) ai hs;by_cases aj:b=E
       ·have hw:Region.wanted o (yielded ops a.tmps)=true:=by simp[Region.wanted,hg,hy,aj]
        grind
       ·have an:b=!E:=by cases b<;>cases E<;>simp_all
        have hw:¬ Region.wanted o (yielded ops a.tmps)=true:=by simp[Region.wanted,hg,hy,aj]
        rw[a_ hw];exact⟨λ_ _=>trivial,D _ _ (gF O J (hN o G) (.raw _ trivial) (h.2 an))⟩
      | tuple t =>
       rw[hs] at h;have hy:=Bu O (show iq ops.toList j=some d from hd) ai hs;have hw:¬ Region.wanted o (yielded ops a.tmps)=true:=by simp[Region.wanted,hg,hy]
       rw[a_ hw];exact⟨λ_ _=>trivial,D _ _ (gF O J (hN o G) (.raw _ trivial) h)⟩
      | _=>rw[hs] at h;exact h.elim
     | _=>rw[hs] at h;exact h.elim
   ·exact h.elim
def Jo {c:Cf}{B:Nat}{X0 X:WS}{N:Nat}{ro:Option Nat}{n id:Nat}{ops:Array Oper}{Q:Kc}{fr:Fr}{ds:List Dfd}{a:Act}(D:c.rd=false->ro=none)(E:∀o∈ops.toList,∀d,o.dst=some d->d<N)
  (G:Inv (c.cx B) X0 N X fr ds a) (h:fW c ops.toList ops.toList (Q .normal) Ad.none_ fr X.st ds):(Code.region id ops false).wpIn (eP ro) n c.P (PQ (c.cx B) X0 N Q) a X.w:=by
 refine wpIn_region ?_;have:=Bw (Q:=Q) (ro:=ro) (n:=n) D E ops.toList 0 X fr ds a Ad.none_ rfl G .nil h
 rwa [jX,<- List.range_eq_range'] at this
