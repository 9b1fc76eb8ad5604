/- The layer of ideal values, part L: appen -/
import Derived.Test.YtopmhkmegkpkdaaGreatDoorJD
import Derived.Deep.Upon
import Derived.Lib.AppendZeros
set_option linter.all false
namespace Go.Iv
open Go
def WS.drop (X:WS)(g:Nat):WS:={ X with st:=λb=>if b=g then none else X.st b }
section
variable {C:Cx}{X:WS}
def lN (g:Nat):Ext X (X.drop g):=⟨rfl,rfl,rfl,dz _,λ_=>dz _,λ_ _ _=>rfl,λ_ _ _=>⟨rfl,rfl⟩,λb _ h=>by simp only[WS.drop];split<;>first|rfl|exact h,λ_ _ h=>h,rfl⟩
def Good.drop (h:Good C X)(g:Nat):Good C (X.drop g) where
 ok b o A:=by
  simp only[WS.drop] at A;split at A
  ·cases A
  ·exact (h.ok b o A).mono rfl rfl (λ_ _ D=>D)
 gl:=h.gl
 B:=h.B
 Lnew:=h.Lnew
 gsh:=h.gsh
 dr:=h.dr
def Inv.drop {X0:WS}{N:Nat}{fr:Fr}{ds:List Dfd}{a:Act}(h:Inv C X0 N X fr ds a)(g:Nat):Inv C X0 N (X.drop g) fr ds a:=h.ext' (lN g) (h.good.drop g)
def Inv.drew {X0:WS}{N:Nat}{fr:Fr}{ds:List Dfd}{a:Act}(h:Inv C X0 N X fr ds a):Inv C X0 N X.drew fr ds a:=h.ext' h.good.drew.1 h.good.drew.2
def vu {r:Value}{tg:Tag}{A:List IV}{s:Nat}(hv:C.v X r (.sl tg A))(ae:∀x∈A,x.cells.length=s) :
  ∃(ad:Option Addr) (cap:Nat) (vs:List Value),r=.slice ad A.length cap/\A.length<=cap/\vs.length=A.length*s/\C.vl X vs (A.flatMap IV.cells) /\
   (∀b,ad=some b->∀j v,vs[j]?=some v->X.w.cell? (b.add j)=some v)/\(ad=none->A=[]):=by
 cases hv with
 | sl ad cap _ _ T vs ak aj af hs O ac W D hc =>
  by_cases hx:A=[]
  ·subst hx;exact⟨ad,cap,[],rfl,by simp,by simp,VL.nil,λ_ _ _ _ h=>by simp at h,λ_=>rfl⟩
  ·have aa:tg.es=s:=by
    cases A with
    | nil=>exact absurd rfl hx
    | cons x A=>rw[<- hs x (by simp),<- ae x (by simp)]
   obtain⟨b,hb,ab,_,E⟩:=D hx;refine⟨ad,cap,vs,rfl,af,by rw[O,aa],⟨?_,hc⟩,λb' U j v hj=>?_,λh0=>by rw[h0] at hb;cases hb⟩
   ·rw[jZ A hs,O]
   ·rw[hb] at U;cases U;rw[mN _ ab];exact E j v hj
def Src.of {P:Program}{w:World}{A W:TypeId}{ad:Option Addr}{m cap s:Nat}{vs:List Value}(E:P.underlying A=some (.slice W))(D:vs.length=m*s)
  (hc:∀b,ad=some b->∀j v,vs[j]?=some v->w.cell? (b.add j)=some v) (O:ad=none->m=0) (h1:∀u∈vs,u.oneCell'=true):Src P s A (.slice ad m cap) m vs w:=by
 cases ad with
 | some b=>exact Go.Src.ofSlice w E b m cap vs D (hc b rfl) h1
 | none =>
  have U:=O rfl;subst U;have:vs=[]:=eN (by rw[D];simp);subst this;exact Go.Src.ofNil w E cap
def vv {P:Program}{w:World}{ad:Option Addr}{m cap s:Nat}{vs:List Value}(A:vs.length=m*s)
  (hc:∀b,ad=some b->∀j v,vs[j]?=some v->w.cell? (b.add j)=some v) (D:ad=none->m=0):(Builtin.firstCells s m (.slice ad m cap)).run P w.drew=.ok vs.toArray w.drew:=by
 cases ad with
 | some b=>exact run_firstCells_some w.drew s m b m cap vs A (hc b rfl)
 | none =>
  have E:=D rfl;subst E;have:vs=[]:=eN (by rw[A];simp);subst this;exact run_firstCells_none w.drew s 0 0 cap
def qY {B:Nat}{L:Nat->Nat}{w:World}{r:Value}{cp:Cap}{s:Nat}{xs:List IV}(f:Bool)(h:V B L w r (.sl ⟨true,cp,s⟩ xs)):V B L w r (.sl ⟨f,cp,s⟩ xs):=by
 cases h with
 | sl ad cap _ _ T vs U O aa hs W E D A hc=>exact .sl ad cap _ _ T vs U O aa hs W E (λ_=>D rfl) A hc
def lO {B:Nat}{L:Nat->Nat}{w:World}{r:Value}{t:Tag}{A:List IV}(O:V B L w r (.sl t A)):∃(a:Option Addr) (cap:Nat) (T:TypeId) (vs:List Value),r=.slice a A.length cap /\
  (∀x∈A,x.cells.length=t.es)/\vs.length=A.length*t.es/\(∀g,t.cap=.app g->∃T' k,shq w g=some ((T',k),true)/\cap*t.es<=k) /\
  (t.fresh=true->∀ad:Addr,a=some ad->B<=ad.block/\ad.off%t.es=0/\ety w ad.block=some T) /\
  (A≠[]->∃ad:Addr,a=some ad/\ad.spot=Option.none/\ad.off+vs.length<=L ad.block/\(∀(i:Nat) (r:Value),vs[i]?=some r->w.cell? ⟨ad.block,ad.off+i,Option.none⟩=some r)) /\
  VL B L w vs (A.flatMap IV.cells):=by
 cases O with
 | sl a cap _ _ T vs _ _ _ E D U W hp hc=>exact⟨a,cap,T,vs,rfl,E,D,U,W,hp,by rw[jZ A E,D],hc⟩
def V.push {g s cap:Nat}{f:Bool}{c:Array Value}{E:TypeId}{D ys:List IV}{A:List Value}{so:Option IObj}(hv:C.v X (.slice (some ⟨g,0,none⟩) D.length cap) (.sl ⟨f,.app g,s⟩ D))
  (hh:X.w.heap[g]?=some (.cells c E (0,0))) (hL:X.L g=D.length*s) (hn:C.vl X A (ys.flatMap IV.cells)) (hys:∀y∈ys,y.cells.length=s) (U:D.length+ys.length<=cap) (an:D.length+ys.length<=140737488355328) :
  D.length*s+A.length<=c.size/\(c.toList.take (D.length*s)++A++c.toList.drop (D.length*s+A.length)).toArray.size=c.size /\
  (∀i,i<X.L g->(c.toList.take (D.length*s)++A++c.toList.drop (D.length*s+A.length)).toArray[i]?=c[i]?)/\(D.length+ys.length)*s<=c.size /\
  C.v (X.row g (c.toList.take (D.length*s)++A++c.toList.drop (D.length*s+A.length)).toArray ((D.length+ys.length)*s) so) (.slice (some ⟨g,0,none⟩) (D.length+ys.length) cap) (.sl ⟨f,.app g,s⟩ (D++ys)):=by
 have am:A.length=ys.length*s:=by rw[hn.1,jZ ys hys]
 have ac:(D.length+ys.length)*s=D.length*s+A.length:=by rw[am,ek]
 have ay:cap*s<=c.size:=by
  obtain⟨_,_,_,_,he,_,_,hr,_⟩:=lO hv;cases he;obtain⟨T',k,h1,h2⟩:=hr g rfl;simp only[shq,hh,dL,Prod.mk.injEq] at h1;grind
 have ag:(D.length+ys.length)*s<=c.size:=eh (ec _ U) ay;have O:(c.toList.take (D.length*s)++A++c.toList.drop (D.length*s+A.length)).toArray.size=c.size:=by
  grind
 have htl:(c.toList.take (D.length*s)).length=D.length*s:=by rw[ac] at ag;simp;omega
 have W:∀i,i<X.L g->(c.toList.take (D.length*s)++A++c.toList.drop (D.length*s+A.length)).toArray[i]?=c[i]?:=λi hi=>by
  grind
 refine⟨by rw[<- ac];exact ag,O,W,ag,?_⟩;have af:∀r x,C.v X r x->C.v (X.row g (c.toList.take (D.length*s)++A++c.toList.drop (D.length*s+A.length)).toArray ((D.length+ys.length)*s) so) r x :=
  λr x h=>kY hh O (by rw[hL];exact ec _ (Nat.le_add_right _ _)) W h
 obtain⟨_,_,T,vs,he,hs,ae,hr,ab,aa,ar⟩:=lO hv;cases he;have ao:C.vl X (vs++A) ((D++ys).flatMap IV.cells):=by rw[iu];exact ar.append hn
 have ah:∀i,(X.row g (c.toList.take (D.length*s)++A++c.toList.drop (D.length*s+A.length)).toArray ((D.length+ys.length)*s) so).w.cell? ⟨g,i,none⟩ =
   (c.toList.take (D.length*s)++A++c.toList.drop (D.length*s+A.length))[i]?:=λi=>by
  simp only[WS.row];rw[jX (fU X.w g c _ E (0,0) hh)]
 have key:=V.sl (B:=C.B) (L:=(X.row g (c.toList.take (D.length*s)++A++c.toList.drop (D.length*s+A.length)).toArray ((D.length+ys.length)*s) so).L)
  (w:=(X.row g (c.toList.take (D.length*s)++A++c.toList.drop (D.length*s+A.length)).toArray ((D.length+ys.length)*s) so).w)
  (some ⟨g,0,none⟩) cap ⟨f,.app g,s⟩ (D++ys) T (vs++A)
 rw[lLa] at key;refine key rfl an U (λx hx=>?_) (by rw[lLa,ae,am,ek]) (λg' aw=>?_) (λhf ad ha=>?_) (λ_=>⟨_,rfl,rfl,?_,λi r aj=>?_⟩) (λi r x h1 h2=>af _ _ (ao.2 i r x h1 h2))
 ·grind
 ·obtain⟨T',k,h1,h2⟩:=hr g' aw;exact⟨T',k,(qH hh O g').trans h1,h2⟩
 ·obtain⟨h1,h2,h3⟩:=ab hf ad ha;exact⟨h1,h2,by unfold ety at h3 ⊢;rw[show shq (X.row g _ _ so).w ad.block=shq X.w ad.block from qH hh O ad.block];exact h3⟩
 ·simp only[WS.row,dB];grind
 ·rw[eQ,ah];simp only at ae;by_cases hi:i<vs.length
  ·rw[fP hi] at aj;have av:D≠[]:=by rintro rfl;rw[ae] at hi;simp at hi
   obtain⟨ad,ha,_,_,ak⟩:=aa av;cases ha;have h1:=ak i r aj;rw[eQ] at h1;simp only at h1;rw[jX hh] at h1;grind
  ·grind
def vw {P:Program}(w:World)(t tx ty e E:TypeId)(i:TypeInfo)(ht:P.underlying t=some (.slice e))(hi:P.info? e=some i)(b A O:Nat)(x:Value)(n:Nat)(D:List Value)(c:Array Value)(hs:Src P i.size tx x n D w)
  (U:A+n<=O) (hh:w.heap[b]?=some (.cells c E (0,0))) (af:A*i.size+D.length<=c.size) :
  (Builtin.append_ #[t,tx] ty #[.slice (some ⟨b,0,none⟩) A O,x]).run P w =
   .ok (.slice (some ⟨b,0,none⟩) (A+n) O) (w.setRow b (c.toList.take (A*i.size)++D++c.toList.drop (A*i.size+D.length)).toArray):=by
 have W:=run_storeCells_at (P:=P) b (A*i.size) E D 0 c w hh (by omega) hs.one;simp only[jr] at W;rcases hs.kind with⟨e',hk⟩|hk<;>simp[Builtin.append_,dS ht,dS hk,sizeOf,typeInfo,hi,hs.len,U,hs.cells,Addr.add_lit,W]
end
section
variable {C:Cx}{X0 X:WS}{N:Nat}{fr:Fr}{ds:List Dfd}{a:Act}{ad:Ad}{K:Kt}{ro:Option Nat}{n:Nat}{Q:Exit->Act->World->Prop}{o:Oper}
variable (hA:At C X0 N X fr ds a ad o.dst)
include hA
def IC {T T' e:TypeId}{x y:Operand}{s by_ g₀:Nat}{i:TypeInfo}{z:Value}{D ys:List IV}{olds E:List Value}{W af:Option Addr}{A U:Nat}(ho:o.op=.call ⟨.builtin .append,⟨[x,y]⟩,⟨[T,T']⟩⟩)
  (hT:C.P.underlying T=some (.slice e)) (hi:C.P.info? e=some i) (aw:i.bytes=by_) (hz:i.zero=some z) (hzs:z.cells.size=s)
  (ex:a.eval x=.slice W D.length A) (ey:a.eval y=.slice af ys.length U) (ai:(Builtin.firstCells i.size D.length (.slice W D.length A)).run C.P X.w.drew=.ok olds.toArray X.w.drew)
  (hs:Src C.P i.size T' (.slice af ys.length U) ys.length E X.w) (an:C.vl X olds (D.flatMap IV.cells)) (aq:C.vl X E (ys.flatMap IV.cells)) (aC:∀x∈D,x.cells.length=s) (hys:∀x∈ys,x.cells.length=s)
  (hg:A<D.length+ys.length) (ay:(D.length+ys.length)*by_<=140737488355328) (ax:D.length+ys.length<=140737488355328) (f:Bool)
  (h:∀g,X.st g=none->finK o.dst K ad fr (.val (.sl ⟨f,.app g,s⟩ (D++ys))) (((X.drop g₀).st:ISt).put g (some (.front (D.length+ys.length) s))) ds) :
  o.wpIn (ev ro) n C.P a X.w (PK C X0 N K) Q:=by
 have ao:∀c,o.op≠.defer c:=by rw[ho];intro c hc;cases hc
 have ak:Builtin.nextslicecap (D.length+ys.length) A*i.bytes<=281474976710656:=growslice_fits hg (by rw[aw];exact ay);have ah:=run_append_grow_src X.w T T' o.type e i z hT hi hz W D.length A olds ai (.slice af ys.length U) ys.length E hs hg (by omega) ak;have hr:(execOp a.eval o).run C.P X.w=.ok (.value (.slice (some ⟨X.w.heap.size,0,none⟩) (D.length+ys.length) (grownCap X.w (D.length+ys.length) A e)))
   (X.w.drew.alloc (.cells ((olds++E).toArray++Builtin.zeroCells z.cells (grownCap X.w (D.length+ys.length) A e-(D.length+ys.length))) e)):=by
  rw[kP ho];simp only[builtin,jo,eo,fm,ex,ey,cX,ah,cW,c_]
 have au:=grownCap_ge X.w (D.length+ys.length) A e;have ae:(D++ys).flatMap IV.cells=D.flatMap IV.cells++ys.flatMap IV.cells:=by simp
 have ag:C.vl X (olds++E) ((D++ys).flatMap IV.cells):=by rw[ae];exact an.append aq
 have ab:∀x∈D++ys,x.cells.length=s:=λx hx=>by
  grind
 have O:(olds++E).length=(D.length+ys.length)*s:=by rw[ag.1,jZ _ ab,lLa]
 have av:Ext X (X.drop g₀).drew:=(lN g₀).trans (hA.inv.good.drop g₀).drew.1;have ac:=(hA.inv.good.drop g₀).drew.2;have aa:(⟨(olds++E)++(Builtin.zeroCells z.cells (grownCap X.w (D.length+ys.length) A e-(D.length+ys.length))).toList⟩:Array Value) =
   (olds++E).toArray++Builtin.zeroCells z.cells (grownCap X.w (D.length+ys.length) A e-(D.length+ys.length)):=by
  grind
 have aj:=vn (X:=(X.drop g₀).drew) (cp:=.app X.w.heap.size) (so:=some (.front (D.length+ys.length) s)) (rest:=(Builtin.zeroCells z.cells (grownCap X.w (D.length+ys.length) A e-(D.length+ys.length))).toList)
  (e:=e) (cap:=grownCap X.w (D.length+ys.length) A e) ac (av.vl ag) ab (by rw[lLa];exact ax) (by rw[lLa];exact au) rfl (λg _=>by
   have am:(Builtin.zeroCells z.cells (grownCap X.w (D.length+ys.length) A e-(D.length+ys.length))).toList.length=(grownCap X.w (D.length+ys.length) A e-(D.length+ys.length))*s:=by
    rw[kd,size_zeroCells,hzs]
   rw[lLa,O,am,<- ek];exact ec _ (by omega))
 rw[aa,O,lLa] at aj;have hI:=((hA.inv.drop g₀).drew).new (.cells ((olds++E).toArray++Builtin.zeroCells z.cells (grownCap X.w (D.length+ys.length) A e-(D.length+ys.length))) e) ((D.length+ys.length)*s)
  (some (.front (D.length+ys.length) s)) (λi hi=>by
   cases hi;refine⟨_,e,ja _ _,by simp[WS.new],?_⟩;simp only[WS.new,dB];rw[Array.size_append,List.size_toArray,O];exact Nat.le_add_right _ _)
 exact eD hr ao (gD hI hA.ad hA.hd (qY f aj) (h X.w.heap.size (by
  cases hq:X.st X.w.heap.size with
  | none=>rfl
  | some o=>have:=hA.inv.good.lt hq;omega)))
omit hA in
def lP {B:Nat}{L:Nat->Nat}{w:World}(rs:List Value):VL B L w rs (List.replicate rs.length .junk) :=
 ⟨by simp,λi r c _ hc=>by
  have:=lMg hc;rw[(List.mem_replicate.1 this).2];exact .junk r⟩
omit hA in
def ID {k:Option LenK}{i:Option IntKind}{f g:Prop}(h:appK k i f g):(k=some .sl/\f)\/(k=none/\(∃j,i=some j)/\g):=by
 unfold appK at h;grind
def vA {T T' e:TypeId}{x y:Operand}{s by_ g₀ m:Nat}{i:TypeInfo}{z:Value}{oc ys:List IV}{olds D:List Value}{O W:Option Addr}{A E:Nat}(ho:o.op=.call ⟨.builtin .append,⟨[x,y]⟩,⟨[T,T']⟩⟩)
  (hT:C.P.underlying T=some (.slice e)) (hi:C.P.info? e=some i) (an:i.bytes=by_) (hz:i.zero=some z) (hzs:z.cells.size=s)
  (ex:a.eval x=.slice O m A) (ey:a.eval y=.slice W ys.length E) (ab:(Builtin.firstCells i.size m (.slice O m A)).run C.P X.w.drew=.ok olds.toArray X.w.drew)
  (hs:Src C.P i.size T' (.slice W ys.length E) ys.length D X.w) (ag:C.vl X olds oc) (ai:C.vl X D (ys.flatMap IV.cells))
  (hg:A<m+ys.length) (ao:(m+ys.length)*by_<=140737488355328) (ay:m+ys.length<=140737488355328)
  (h:∀g cap,X.st g=none->m+ys.length<=cap->finK o.dst K ad fr (.val (.raw (.slice (some ⟨g,0,none⟩) (m+ys.length) cap)))
   (((X.drop g₀).st:ISt).put g (some (.box (oc++ys.flatMap IV.cells++List.replicate ((cap-(m+ys.length))*s) .junk)))) ds) :
  o.wpIn (ev ro) n C.P a X.w (PK C X0 N K) Q:=by
 have ah:∀c,o.op≠.defer c:=by rw[ho];intro c hc;cases hc
 have ac:Builtin.nextslicecap (m+ys.length) A*i.bytes<=281474976710656:=growslice_fits hg (by rw[an];exact ao);have aa:=run_append_grow_src X.w T T' o.type e i z hT hi hz O m A olds ab (.slice W ys.length E) ys.length D hs hg (by omega) ac;have hr:(execOp a.eval o).run C.P X.w=.ok (.value (.slice (some ⟨X.w.heap.size,0,none⟩) (m+ys.length) (grownCap X.w (m+ys.length) A e)))
   (X.w.drew.alloc (.cells ((olds++D).toArray++Builtin.zeroCells z.cells (grownCap X.w (m+ys.length) A e-(m+ys.length))) e)):=by
  rw[kP ho];simp only[builtin,jo,eo,fm,ex,ey,cX,aa,cW,c_]
 have ak:=grownCap_ge X.w (m+ys.length) A e;have am:Ext X (X.drop g₀).drew:=(lN g₀).trans (hA.inv.good.drop g₀).drew.1;have U:=(hA.inv.good.drop g₀).drew.2;have af:(Builtin.zeroCells z.cells (grownCap X.w (m+ys.length) A e-(m+ys.length))).toList.length=(grownCap X.w (m+ys.length) A e-(m+ys.length))*s:=by
  rw[kd,size_zeroCells,hzs]
 have ae:C.vl (X.drop g₀).drew ((olds++D)++(Builtin.zeroCells z.cells (grownCap X.w (m+ys.length) A e-(m+ys.length))).toList)
   (oc++ys.flatMap IV.cells++List.replicate ((grownCap X.w (m+ys.length) A e-(m+ys.length))*s) .junk):=by
  refine (am.vl (ag.append ai)).append ?_;rw[<- af];exact lP _
 have hI:=((hA.inv.drop g₀).drew).new (.cells ((olds++D).toArray++Builtin.zeroCells z.cells (grownCap X.w (m+ys.length) A e-(m+ys.length))) e) 0
  (some (.box (oc++ys.flatMap IV.cells++List.replicate ((grownCap X.w (m+ys.length) A e-(m+ys.length))*s) .junk))) (λi hi=>by
   cases hi;refine⟨by simp[WS.new],_,e,ja _ _,(U.new_ext _ 0 _).vl ?_⟩;rw[Array.toList_append,List.toList_toArray];exact ae)
 exact eD hr ah (gD (x:=.raw _) hI hA.ad hA.hd (.raw _ trivial) (h X.w.heap.size _ (by
  cases hq:X.st X.w.heap.size with
  | none=>rfl
  | some o=>have:=hA.inv.good.lt hq;omega) ak))
def IE {T T':TypeId}{x y:Operand}{esc:List Nat}(ho:o.op=.call ⟨.builtin .append,⟨[x,y]⟩,⟨[T,T']⟩⟩)
  (h:cU (slI C.P T) λe=>appK (lenI C.P T') (intK C.P T')
   (cU (evV C.gl fr x) λs=>slY s (λtg xs=>cU (evV C.gl fr y) λy=>slV y λ_ ys=>appV esc o.dst e tg xs ys (finK o.dst K ad fr) X.st ds) (λb off n cap=>cU (evV C.gl fr y) λy=>slY y (λ_ ys=>qO esc o.dst (appO e b off n cap ys (finK o.dst K ad fr) X.st ds)) (λb2 ai m2 _=>qO esc o.dst (appR e b off n cap b2 ai m2 (finK o.dst K ad fr) X.st ds))))
   (cU (evV C.gl fr x) λs=>slV s λtg _=>cU (evV C.gl fr y) λy=>intV y λ_ m=>appZ e tg m (finK o.dst K ad fr) X.st ds)):o.wpIn (ev ro) n C.P a X.w (PK C X0 N K) Q:=by
 obtain⟨⟨e,ag,s,by_⟩,bD,h1⟩:=yQ4.1 h;clear h;have aS:∀c,o.op≠.defer c:=by rw[ho];intro c hc;cases hc
 obtain⟨hT,bQ,i,hi,_,aV⟩:=mP bD;obtain⟨z,hz,hzs⟩:=vj bD hi;have ak:i.size=s:=by have:=u0 bQ;simpa[hi] using this
 have aR:X.st X.w.heap.size=none:=by
  cases hq:X.st X.w.heap.size with
  | none=>rfl
  | some o=>have:=hA.inv.good.lt hq;omega
 have ba:∀g₀,X.st g₀=none->(X.drop g₀).st=X.st:=λg₀ h0=>by
  funext b;simp only[WS.drop];split
  ·grind
  ·rfl
 rcases ID h1 with⟨hk,h2⟩|⟨_,⟨ik,bX⟩,h2⟩
 case inr =>
  clear h1;obtain⟨vx,hx,h3⟩:=yQ4.1 h2;clear h2;obtain⟨tg,xs,rfl,h4⟩:=Aj h3;clear h3;obtain⟨vy,hy,h5⟩:=yQ4.1 h4;clear h4;obtain⟨ky,m,rfl,⟨hc,cb,bH,ca,bR⟩,h⟩:=mO h5;clear h5;simp only at bH bR h;obtain⟨be,aj,ex,_,_,D⟩:=jx (hA.v hx).1;rw[hc] at D;obtain⟨rfl,h0,rfl⟩:=D;rw[h0] at ex;have ey:=dQ (hA.v hy).1;obtain⟨q,rfl⟩:∃q:Nat,m=q:=⟨m.toNat,by omega⟩
  rw[jl] at h;have bZ:C.P.underlying T'=some (.int ik):=by
   unfold intK at bX;grind
  have U:=Lib.run_append_nil_zeros X.w T T' o.type e i z ky ik hT bZ hi hz q (by omega) (by omega) (by omega) (by
   rw[aV];have:((q*by_:Nat):Int)<=140737488355328:=by rw[Int.natCast_mul];exact bH
   omega)
  have hr:(execOp a.eval o).run C.P X.w=.ok (.value (.slice (some ⟨X.w.heap.size,0,none⟩) q (grownCap X.w q 0 e)))
    (X.w.drew.alloc (.cells (Builtin.zeroCells z.cells q++Builtin.zeroCells z.cells (grownCap X.w q 0 e-q)) e)):=by
   rw[kP ho];simp only[builtin,jo,eo,fm,ex,ey,cX,U,cW,c_]
  have bY:q<=grownCap X.w q 0 e:=by have:=grownCap_ge X.w q 0 e;omega
  have hI:=(hA.inv.drew).new (.cells (Builtin.zeroCells z.cells q++Builtin.zeroCells z.cells (grownCap X.w q 0 e-q)) e) 0 (some (.box (List.replicate (grownCap X.w q 0 e*s) .junk))) (λi hi=>by
   cases hi;refine⟨by simp[WS.new],_,e,ja _ _,?_⟩;have hl:(Builtin.zeroCells z.cells q++Builtin.zeroCells z.cells (grownCap X.w q 0 e-q)).toList.length=grownCap X.w q 0 e*s:=by
    rw[kd,Array.size_append,size_zeroCells,size_zeroCells,hzs,<- ek];grind
   rw[<- hl];exact lP _)
  exact eD hr aS (gD (x:=.raw _) hI hA.ad hA.hd (.raw _ trivial) (h X.w.heap.size _ ⟨aR,bY⟩))
 clear h1;rcases qV hk with⟨hq,_⟩|⟨_,e',bs⟩|⟨hq,_⟩|⟨_,_,hq,_⟩
 ·cases hq
 ·obtain⟨vx,hx,h3⟩:=yQ4.1 h2;clear h2;rcases qT h3 with⟨tg,xs,rfl,h4⟩|⟨b,off,m,cap,rfl,h4⟩
  case inr =>
   clear h3;obtain⟨vy,hy,h5⟩:=yQ4.1 h4;clear h4;rcases qT h5 with⟨bO,ys,rfl,aD⟩|⟨b2,ai,m2,bh,rfl,aD⟩
   case inr =>
    clear h5;unfold qO at aD;by_cases bl:qP esc o.dst=true
    ·grind
    rw[a_ bl] at aD;obtain⟨⟨rfl,rfl⟩,h6⟩:=aD;obtain⟨ob,aO,h7⟩:=yQ4.1 h6;clear h6;obtain⟨cs,rfl,⟨bG,aI,O,bF,ac⟩,h⟩:=qU h7;clear h7;simp only at aI bF ac h;have ex:=dQ (hA.v hx).1;have ey:=dQ (hA.v hy).1;obtain⟨hL,c,E,hh,ar⟩:=hA.inv.good.ok b2 _ aO;have bp:c.size=cs.length:=by rw[<- ar.1];simp
    obtain⟨A,aA⟩:∃A,A=(c.toList.drop ai).take (m2*s):=⟨_,rfl⟩
    have av:A.length=m2*s:=by rw[aA,dO,fp,kd];omega
    have am:C.vl X A ((cs.drop ai).take (m2*s)):=aA▸(ar.drop ai).take _;have au:∀u∈A,u.oneCell'=true:=qS am ac;have aa:Src C.P i.size T' (.slice (some ⟨b2,ai,none⟩) m2 bh) m2 A X.w:=by
     rw[ak];refine Src.of bs av (λb' aW j v hj=>?_) (λh0=>by cases h0) au;cases aW;rw[aA,fl] at hj;split at hj
     ·rw[ix] at hj;rw[lM,jX hh];exact hj
     ·cases hj
    have aT:(m+m2)*s<=cs.length:=eh (ec _ O) aI;have ax:m*s+A.length<=c.size:=by rw[av,<- ek,bp];exact aT
    have U:=vw X.w T T' o.type e E i hT hi b2 m cap (.slice (some ⟨b2,ai,none⟩) m2 bh) m2 A c aa O hh (by rw[ak];exact ax);rw[ak] at U;have hr:(execOp a.eval o).run C.P X.w=.ok (.value (.slice (some ⟨b2,0,none⟩) (m+m2) cap))
      (X.w.setRow b2 (c.toList.take (m*s)++A++c.toList.drop (m*s+A.length)).toArray):=by
     rw[kP ho];simp only[builtin,jo,eo,fm,ex,ey,cX,U,cW,c_]
    have ab:(c.toList.take (m*s)++A++c.toList.drop (m*s+A.length)).toArray.size=c.size:=by simp;omega
    have ae:∀i,i<X.L b2->(c.toList.take (m*s)++A++c.toList.drop (m*s+A.length)).toArray[i]?=c[i]?:=λi hi=>by rw[hL] at hi;omega
    have hI:=hA.inv.row hh ab (n:=0) (so:=some (.box (eV cs (m*s) ((cs.drop ai).take (m2*s))))) (by omega) ae (by rw[aO];simp) (λi hi=>by
     cases hi;refine⟨by simp[WS.row],_,E,fU X.w b2 c _ E (0,0) hh,?_⟩;have:=pJ ar am (off:=m*s);exact⟨by simpa using this.1,λi r z hr hz=>kY hh ab (by omega) ae (this.2 i r z (by simpa using hr) hz)⟩)
    exact eD hr aS (gD (x:=.raw _) hI hA.ad hA.hd (.raw _ trivial) h)
   clear h5;unfold qO at aD;by_cases bl:qP esc o.dst=true
   ·grind
   rw[a_ bl] at aD;obtain⟨⟨rfl,ac⟩,⟨aC,aJ⟩,h6⟩:=aD;obtain⟨ob,aO,h7⟩:=yQ4.1 h6;clear h6;obtain⟨cs,rfl,⟨bG,aI⟩,h⟩:=qU h7;clear h7;simp only at ac aC aI h;have ex:=dQ (hA.v hx).1;have bi:=(hA.v hy).1;have hys:=vm ac;obtain⟨aK,ao,A,ey,_,av,am,bn,bm⟩:=vu bi hys;have au:∀u∈A,u.oneCell'=true:=qS am (by
    simp only[ed];intro q hq;obtain⟨y',bj,hq⟩:=iy.1 hq;exact ed.1 (mQ (ed.1 ac y' bj)).2.2.1 q hq)
   have aa:Src C.P i.size T' (.slice aK ys.length ao) ys.length A X.w:=by
    rw[ak];exact Src.of bs av bn (λh0=>by rw[bm h0];rfl) au
   obtain⟨hL,c,E,hh,ar⟩:=hA.inv.good.ok b _ aO;have bp:c.size=cs.length:=by rw[<- ar.1];simp
   have b4:m*s<=cs.length:=eh (ec _ bG) aI;rcases jT cap (m+ys.length) with hg|O
   ·have h8:=h.2 (dEf (by omega));have a8:(c.toList.take (m*s)).length=m*s:=by rw[dO,kd];omega
    rcases h8 with h8|h8
    ·refine vA hA ho hT hi aV hz hzs ex ey (olds:=c.toList.take (m*s)) (oc:=cs.take (m*s)) (g₀:=b) (by
      rw[ak];refine vv a8 (λb' aW j v hj=>?_) (λh0=>by cases h0);cases aW;rw[fl] at hj;split at hj
      ·rw[lM,eQ,jX hh];exact hj
      ·cases hj) aa (ar.take _) am hg aC aJ (λg cap' bo bq=>?_)
     exact h8 g cap' ⟨bo,bq⟩
    ·refine vA hA ho hT hi aV hz hzs ex ey (olds:=c.toList.take (m*s)) (oc:=cs.take (m*s)) (g₀:=X.w.heap.size) (by
      rw[ak];refine vv a8 (λb' aW j v hj=>?_) (λh0=>by cases h0);cases aW;rw[fl] at hj;split at hj
      ·rw[lM,eQ,jX hh];exact hj
      ·cases hj) aa (ar.take _) am hg aC aJ (λg cap' bo bq=>?_)
     rw[ba _ aR];exact h8 g cap' ⟨bo,bq⟩
   ·have h8:=h.1 (dEt O);have aT:(m+ys.length)*s<=cs.length:=eh (ec _ O) aI;have ax:m*s+A.length<=c.size:=by rw[av,<- ek,bp];exact aT
    have U:=vw X.w T T' o.type e E i hT hi b m cap (.slice aK ys.length ao) ys.length A c aa O hh (by rw[ak];exact ax);rw[ak] at U;have hr:(execOp a.eval o).run C.P X.w=.ok (.value (.slice (some ⟨b,0,none⟩) (m+ys.length) cap))
      (X.w.setRow b (c.toList.take (m*s)++A++c.toList.drop (m*s+A.length)).toArray):=by
     rw[kP ho];simp only[builtin,jo,eo,fm,ex,ey,cX,U,cW,c_]
    have ab:(c.toList.take (m*s)++A++c.toList.drop (m*s+A.length)).toArray.size=c.size:=by simp;omega
    have ae:∀i,i<X.L b->(c.toList.take (m*s)++A++c.toList.drop (m*s+A.length)).toArray[i]?=c[i]?:=λi hi=>by rw[hL] at hi;omega
    have hI:=hA.inv.row hh ab (n:=0) (so:=some (.box (eV cs (m*s) (ys.flatMap IV.cells)))) (by omega) ae (by rw[aO];simp) (λi hi=>by
     cases hi;refine⟨by simp[WS.row],_,E,fU X.w b c _ E (0,0) hh,?_⟩;have:=pJ ar am (off:=m*s);exact⟨by simpa using this.1,λi r z hr hz=>kY hh ab (by omega) ae (this.2 i r z (by simpa using hr) hz)⟩)
    exact eD hr aS (gD (x:=.raw _) hI hA.ad hA.hd (.raw _ trivial) h8)
  clear h3;obtain⟨vy,hy,h5⟩:=yQ4.1 h4;clear h4;obtain⟨bO,ys,rfl,ac,⟨aC,aJ⟩,h⟩:=Aj h5;clear h5;simp only at ac aC h;have aF:=(hA.v hx).1;have bi:=(hA.v hy).1;have hys:=vm ac;obtain⟨aK,ao,A,ey,_,av,am,bn,bm⟩:=vu bi hys;have au:∀u∈A,u.oneCell'=true:=qS am (by
   simp only[ed];intro q hq;obtain⟨y',bj,hq⟩:=iy.1 hq;exact ed.1 (mQ (ed.1 ac y' bj)).2.2.1 q hq)
  have aa:Src C.P i.size T' (.slice aK ys.length ao) ys.length A X.w:=by
   rw[ak];exact Src.of bs av bn (λh0=>by rw[bm h0];rfl) au
  obtain⟨be,aj,ex,_,bI,D⟩:=jx aF;have aq:ys=[]->finK o.dst K ad fr (.val (.sl tg xs)) X.st ds->o.wpIn (ev ro) n C.P a X.w (PK C X0 N K) Q:=by
   intro W hf;have bV:A=[]:=by subst W;exact eN (by rw[av];simp)
   rw[W,bV] at aa;have U:(Builtin.append_ #[T,T'] o.type #[.slice be xs.length aj,.slice aK ys.length ao]).run C.P X.w=.ok (.slice be xs.length aj) X.w:=by
    rw[W];exact run_append_nothing X.w T T' o.type e i hT hi be xs.length aj bI _ aa
   have hr:(execOp a.eval o).run C.P X.w=.ok (.value (a.eval x)) X.w:=by
    rw[kP ho];simp only[builtin,jo,eo,fm,ex,ey,cX,U,cW,c_]
   exact eD hr aS (hA.val aF hf)
  have aX:∀(g₀:Nat) (f:Bool) (aG:∀x∈xs,x.cells.length=s) (hg:aj<xs.length+ys.length)
    (hf:∀g,X.st g=none->finK o.dst K ad fr (.val (.sl ⟨f,.app g,s⟩ (xs++ys))) (((X.drop g₀).st:ISt).put g (some (.front (xs.length+ys.length) s))) ds),o.wpIn (ev ro) n C.P a X.w (PK C X0 N K) Q:=by
   intro g₀ f aG hg hf;obtain⟨b6,b0,olds,bL,_,a8,bS,bU,bT⟩:=vu aF aG;rw[ex] at bL;cases bL;exact IC hA ho hT hi aV hz hzs ex ey (by rw[ak];exact vv a8 bU (λh0=>by rw[bT h0];rfl)) aa bS am aG hys hg aC aJ f hf
  have aG:tg.es=s->∀x∈xs,x.cells.length=s:=λhe x hx=>by
   obtain⟨_,_,_,_,_,hs,_⟩:=lO aF;grind
  cases hc:tg.cap with
  | none =>
   grind
  | nil =>
   rw[hc] at h D;obtain⟨h1,h2,h3⟩:=D;have bk:xs=[]:=eN h2;cases W:ys with
   | nil=>rw[W] at h;exact aq W h
   | cons y0 yt =>
    rw[W] at h;by_cases bf:iz esc o.dst=true
    ·have af:∀g cap,(X.st g=none/\(y0::yt).length<=cap)->finK o.dst K ad fr (.val (.raw (.slice (some ⟨g,0,none⟩) (y0::yt).length cap)))
       (X.st.put g (some (.box ((y0::yt).flatMap IV.cells++List.replicate ((cap-(y0::yt).length)*s) .junk)))) ds:=by
      simp only[b_ bf] at h;exact h
     rw[<- W] at af;rw[h1,h2,h3] at ex;refine vA hA ho hT hi aV hz hzs ex ey (olds:=[]) (oc:=[]) (g₀:=X.w.heap.size) rfl aa VL.nil am (by rw[W];simp) (by simpa[bk] using aC) (by simpa[bk] using aJ) (λg cap hg hc=>?_);grind
    have af:∀g,X.st g=none->finK o.dst K ad fr (.val (.sl ⟨true,.app g,s⟩ (y0::yt))) (X.st.put g (some (.front (y0::yt).length s))) ds:=by
     simp only[a_ bf] at h;exact h
    rw[<- W] at af;refine aX X.w.heap.size true (by rw[bk];simp) (by rw[W,h3,h2];simp) (λg hg=>?_);grind
  | full =>
   rw[hc] at h D;cases W:ys with
   | nil=>rw[W] at h;exact aq W h.2
   | cons y0 yt =>
    rw[W] at h;obtain⟨aU,h⟩:=h;have af:∀g,X.st g=none->finK o.dst K ad fr (.val (.sl ⟨true,.app g,s⟩ (xs++y0::yt))) (X.st.put g (some (.front (xs.length+(y0::yt).length) s))) ds:=h;rw[<- W] at af;simp only[kH] at D;refine aX X.w.heap.size true (aG aU) (by rw[W,D];simp) (λg hg=>?_);grind
  | app g₀ =>
   rw[hc] at h D;obtain⟨aU,bC,af⟩:=h;simp only[kH] at D;rcases jT aj (xs.length+ys.length) with hg|O
   ·exact aX g₀ tg.fresh (aG aU) hg (λg hg=>af g (.inr hg))
   ·obtain⟨c,E,hh,hL,ce⟩:=hA.inv.good.ok g₀ _ bC;obtain⟨fresh,cp,es⟩:=tg;simp only at aU hc af;subst aU hc D;rw[ex] at aF;obtain⟨ax,ab,ae,bW,bP⟩:=V.push (so:=some (.front (xs.length+ys.length) es)) aF hh hL am hys O aJ;have U:=vw X.w T T' o.type e E i hT hi g₀ xs.length aj (.slice aK ys.length ao) ys.length A c aa O hh (by rw[ak];exact ax);rw[ak] at U;have hr:(execOp a.eval o).run C.P X.w=.ok (.value (.slice (some ⟨g₀,0,none⟩) (xs.length+ys.length) aj))
      (X.w.setRow g₀ (c.toList.take (xs.length*es)++A++c.toList.drop (xs.length*es+A.length)).toArray):=by
     rw[kP ho];simp only[builtin,jo,eo,fm,ex,ey,cX,U,cW,c_]
    have hI:=hA.inv.row hh ab (n:=(xs.length+ys.length)*es) (so:=some (.front (xs.length+ys.length) es)) (by rw[hL];exact ec _ (Nat.le_add_right _ _)) ae (by rw[bC];simp) (λi hi=>by
     cases hi;exact⟨_,E,fU X.w g₀ c _ E (0,0) hh,by simp[WS.row],by simp only[WS.row,dB];rw[ab];exact bW⟩)
    have bB:(X.row g₀ (c.toList.take (xs.length*es)++A++c.toList.drop (xs.length*es+A.length)).toArray ((xs.length+ys.length)*es) (some (.front (xs.length+ys.length) es))).st =
      (X.st.put g₀ none).put g₀ (some (.front (xs.length+ys.length) es)):=by
     funext b;simp only[WS.row,ISt.put];split<;>rfl
    exact eD hr aS (gD hI hA.ad hA.hd bP (by rw[bB];exact af g₀ (.inl rfl)))
 ·cases hq
 ·cases hq
omit hA in
def IF {A:Array Value}{m:Nat}(E:0<A.size){u:Value}(D:u∈(Builtin.zeroCells A m).toList):u∈A.toList:=by
 unfold Builtin.zeroCells at D;rw[Array.toList_map] at D;obtain⟨i,_,rfl⟩:=eP.1 D;have O:=Nat.mod_lt i E;grind
def IG {T:TypeId}{x:Operand}(ho:o.op=.call ⟨.builtin .clear,⟨[x]⟩,⟨[T]⟩⟩)
  (h:cU (slI C.P T) λe=>cU (eY C.P e.1) λ_=>cU (evV C.gl fr x) λx=>sw e x (finK o.dst K ad fr) X.st ds):o.wpIn (ev ro) n C.P a X.w (PK C X0 N K) Q:=by
 obtain⟨⟨e,ag,s,by_⟩,af,h0⟩:=yQ4.1 h;clear h;obtain⟨zi,ao,h1⟩:=yQ4.1 h0;clear h0;obtain⟨vx,hx,h2⟩:=yQ4.1 h1;clear h1;have ak:∀c,o.op≠.defer c:=by rw[ho];intro c hc;cases hc
 obtain⟨hT,aE,i,W,_,aH⟩:=mP af;obtain⟨z,hz,hzs⟩:=vj af W;have A:(zeroValue e).run C.P X.w=.ok z X.w:=by simp only[zeroValue,cX,run_typeInfo X.w W,cW,hz,c_]
 rcases qT h2 with⟨_,_,_,h3⟩|⟨b,off,m,cap,rfl,h⟩
 ·exact h3.elim
 clear h2;have ex:=dQ (hA.v hx).1;by_cases hm:m=0
 ·subst hm;rw[b_ rfl] at h;have hr:(execOp a.eval o).run C.P X.w=.ok (.value (.tuple #[])) X.w:=by
   rw[kP ho];simp[builtin,ex,Builtin.clear_,dS hT]
  exact eD hr ak (hA.val (.tup [] [] rfl (λi r c h=>by simp at h)) h)
 rw[a_ hm] at h;obtain⟨ob,aj,h4⟩:=yQ4.1 h;clear h;obtain⟨cs,rfl,h5⟩:=qU h4;clear h4;obtain⟨ax,h⟩:=jY h5;clear h5;simp only at ax h;obtain⟨hL,c,E,hh,aa⟩:=hA.inv.good.ok b _ aj;have aG:c.size=cs.length:=by rw[<- aa.1];simp
 have U:(Builtin.zeroCells z.cells m).toList.length=m*s:=by rw[kd,size_zeroCells,hzs]
 have ai:∀u∈(Builtin.zeroCells z.cells m).toList,u.oneCell'=true:=λu hu=>by
  obtain⟨v,ac,au,ar,ab⟩:=sB ao X.w;rw[A] at ac;cases ac;have aF:0<s:=Nat.pos_of_ne_zero λh0=>by
   have:=List.length_pos_of_mem hu;rw[U,h0] at this;omega
  exact qS (V.cells (au C.B X.L X.w) (oJ ab) ar) ab u (IF (by omega) hu)
 have ae:=run_storeCells_at (P:=C.P) b off E (Builtin.zeroCells z.cells m).toList 0 c X.w hh (by omega) ai;simp only[jr] at ae;have hr:(execOp a.eval o).run C.P X.w=.ok (.value (.tuple #[])) (X.w.setRow b (c.toList.take off++(Builtin.zeroCells z.cells m).toList++c.toList.drop (off+(Builtin.zeroCells z.cells m).toList.length)).toArray):=by
  rw[kP ho];simp[builtin,ex,Builtin.clear_,dS hT,hm,A,ae]
 have D:(c.toList.take off++(Builtin.zeroCells z.cells m).toList++c.toList.drop (off+(Builtin.zeroCells z.cells m).toList.length)).toArray.size=c.size:=by simp only[List.size_toArray,lLa,dO,fp,kd] at U ⊢;omega
 have O:∀i,i<X.L b->(c.toList.take off++(Builtin.zeroCells z.cells m).toList++c.toList.drop (off+(Builtin.zeroCells z.cells m).toList.length)).toArray[i]?=c[i]?:=λi W=>by rw[hL] at W;omega
 have hI:=hA.inv.row hh D (n:=0) (so:=some (.box (eV cs off (List.replicate (m*s) .junk)))) (by omega) O (by rw[aj];simp) (λi W=>by
  cases W;refine⟨by simp[WS.row],_,E,fU X.w b c _ E (0,0) hh,?_⟩;have hj:=lP (B:=C.B) (L:=X.L) (w:=X.w) (Builtin.zeroCells z.cells m).toList;rw[U] at hj;have:=pJ aa hj (off:=off);exact⟨by simpa using this.1,λi r z hr hz=>kY hh D (by omega) O (this.2 i r z (by simpa using hr) hz)⟩)
 exact eD hr ak (gD (x:=.tup []) hI hA.ad hA.hd (.tup [] [] rfl (λi r c h=>by simp at h)) h)
def II {esc:List Nat}{T:TypeId}{x y:Operand}(ho:o.op=.makeSlice T x y)
  (h:cU (slI C.P T) λe=>cU (evV C.gl fr x) λl=>intV l λ_ p=>cU (evV C.gl fr y) λm=>intV m λ_ q=>oG (eY C.P e.1) esc o.dst e p q (finK o.dst K ad fr) X.st ds):o.wpIn (ev ro) n C.P a X.w (PK C X0 N K) Q:=by
 obtain⟨⟨e,ag,s,by_⟩,aj,h1⟩:=yQ4.1 h;clear h;obtain⟨vx,hx,h2⟩:=yQ4.1 h1;clear h1;obtain⟨kp,p,rfl,h3⟩:=mO h2;clear h2;obtain⟨vy,hy,h4⟩:=yQ4.1 h3;clear h3;obtain⟨kq,q,rfl,⟨aK,aI,au,aH⟩,h⟩:=mO h4;clear h4;simp only at au h;have O:∀c,o.op≠.defer c:=by rw[ho];intro c hc;cases hc
 obtain⟨hT,ao,i,D,_,ay⟩:=mP aj;obtain⟨z,hz,hzs⟩:=vj aj D;have aq:i.size=s:=by have:=u0 ao;simpa[D] using this
 have ex:=dQ (hA.v hx).1;have ey:=dQ (hA.v hy).1;have av:0<=p:=by omega
 have am:p<=q:=by omega
 have ak:=run_make (P:=C.P) X.w T e i z hT D hz kp kq p q av am (by rw[ay,Int.mul_comm];omega) (by omega);have hr:(execOp a.eval o).run C.P X.w=.ok (.value (.slice (some ⟨X.w.heap.size,0,none⟩) p.toNat q.toNat)) (X.w.alloc (.cells (madeCells z.cells (q.toNat*i.size)) e)):=by
  unfold execOp;rw[ho];simp only[ex,ey,cX,ak,cW,c_]
 have ac:(madeCells z.cells (q.toNat*i.size)).toList.length=q.toNat*s:=by rw[kd,size_madeCells,aq]
 have A:X.st X.w.heap.size=none:=by
  cases hq:X.st X.w.heap.size with
  | none=>rfl
  | some o=>have:=hA.inv.good.lt hq;omega
 split at h
 ·obtain⟨hs1,h⟩:=h;obtain⟨y,E,U,h⟩:=yQ4.1 h;have hs1:s=1:=hs1;replace E:eY C.P e=some y:=E;subst hs1;have af:qI z=some y:=by
   unfold eY at E;simpa[D,hz] using E
  have an:=lI U;have hI:=hA.inv.new (.cells (madeCells z.cells (q.toNat*i.size)) e) 0 (some (.box (List.replicate q.toNat y))) (λi' ax=>by
   cases ax;refine⟨by simp[WS.new],_,e,ja _ _,by rw[ac,iX,Nat.mul_one],λj r c hr hc=>?_⟩;obtain rfl:=lB (lMg hc);have hv:=pH (B:=C.B) (L:=(X.new (.cells (madeCells z.cells (q.toNat*i.size)) e) 0 (some (.box (List.replicate q.toNat c)))).L) (w:=(X.new (.cells (madeCells z.cells (q.toNat*i.size)) e) 0 (some (.box (List.replicate q.toNat c)))).w) af;have ah:=V.cells hv.1 (oJ hv.2.2) (λhj=>by rw[hj] at U;simp[IV.one] at U);rw[an] at ah;refine ah.2 0 r c ?_ rfl;have aa:=lMg hr;rw[Array.mem_toList_iff] at aa;unfold madeCells at aa;obtain⟨k,_,rfl⟩:=Array.mem_map.1 aa;rw[hzs,Nat.mod_one,getElem!_pos _ _ (by omega)];simp)
  exact eD hr O (gD (x:=.raw (.slice (some ⟨X.w.heap.size,0,none⟩) (lenZ p) q.toNat)) hI hA.ad hA.hd (.raw _ trivial) (h X.w.heap.size A))
 split at h
 ·have hI:=hA.inv.new (.cells (madeCells z.cells (q.toNat*i.size)) e) 0 (some (.box (List.replicate (q.toNat*s) .junk))) (λi' D=>by
   cases D;refine⟨by simp[WS.new],_,e,ja _ _,by rw[ac,iX],λj r c _ hc=>?_⟩;obtain rfl:=lB (lMg hc);exact .junk r)
  exact eD hr O (gD (x:=.raw (.slice (some ⟨X.w.heap.size,0,none⟩) (lenZ p) q.toNat)) hI hA.ad hA.hd (.raw _ trivial) (h X.w.heap.size A))
 split at h
 ·rename_i W;have W:s=0:=W;subst W;have hI:=hA.inv.new (.cells (madeCells z.cells (q.toNat*i.size)) e) 0 none (λi' D=>by cases D);have ar:(X.new (.cells (madeCells z.cells (q.toNat*i.size)) e) 0 none).st=X.st:=by
   funext b;simp only[WS.new];split
   ·rename_i hb;rw[hb];exact A.symm
   ·rfl
  refine eD hr O (gD (x:=.sl ⟨false,.none,0⟩ (List.replicate (lenZ p) (.agg []))) hI hA.ad hA.hd ?_ (by rw[ar];exact h));have hv:V C.B (X.new (.cells (madeCells z.cells (q.toNat*i.size)) e) 0 none).L (X.new (.cells (madeCells z.cells (q.toNat*i.size)) e) 0 none).w (.slice (some ⟨X.w.heap.size,0,none⟩) (List.replicate (lenZ p) (IV.agg [])).length q.toNat) (.sl ⟨false,.none,0⟩ (List.replicate (lenZ p) (.agg []))):=by
   refine .sl (some ⟨X.w.heap.size,0,none⟩) q.toNat ⟨false,.none,0⟩ (List.replicate (lenZ p) (.agg [])) e [] trivial (by rw[iX];unfold lenZ;omega) (by rw[iX];unfold lenZ;omega) (λx hx=>by obtain rfl:=lB hx;rfl) (by simp) (λg hg=>by cases hg)
    (λh=>by cases h) (λ_=>⟨⟨X.w.heap.size,0,none⟩,rfl,rfl,fQ _,λi r h=>by simp at h⟩) (λi r c h=>by simp at h)
  rw[iX] at hv;exact hv
 obtain⟨hp,h⟩:=h;subst hp;rw[Int.toNat_zero] at hr;have aw:=vn (X:=X) (vs:=[]) (rest:=(madeCells z.cells (q.toNat*i.size)).toList) (ys:=[]) (s:=s) (cap:=q.toNat) (e:=e) (cp:=.app X.w.heap.size) (so:=some (.front 0 s)) hA.inv.good VL.nil (λ_ h=>by cases h) (by simp) (by simp) rfl
  (λg _=>by rw[gz,ac];exact dz _)
 have hI:=hA.inv.new (.cells (madeCells z.cells (q.toNat*i.size)) e) 0 (some (.front 0 s)) (λi D=>by
  cases D;refine⟨_,e,ja _ _,by simp[WS.new],?_⟩;simp[WS.new])
 exact eD hr O (gD hI hA.ad hA.hd aw (h X.w.heap.size A))
end
def AF {ro:Option Nat}{n:Nat}{P:Program}{f:FuncId}{args:Array Value}{w:World}{R:Ending->World->Prop}(h:Calls P f args w R):CallsIn (ev ro) n P f args w R :=
 callsIn_wide (n:=n).2 h
def IJ {ro:Option Nat}{m n:Nat}{P:Program}{l:Nat}{f:FuncId}{tmps:Array Value}{assign body:Code}{w:World}{R:Ending->World->Prop}(h:RoundIn Fence.wide m P l f tmps assign body w R) :
  RoundIn (ev ro) n P l f tmps assign body w R :=
 ⟨trivial,λc cs _=>h.2 c cs (room_wide _)⟩
def AG {P:Program}{g:FuncId}{D cs E:List Value}{w:World}{R:Value->World->Prop}(A:entI P g=true)(h:Calls P g ⟨D++E++cs⟩ w λe w'=>∃v,e=.returned v/\R v w') :
  CallsVal P (.func (.func g) ⟨D⟩ ⟨cs⟩) ⟨E⟩ w R:=by
 unfold entI at A;cases O:P.funcs[g]? with
 | none=>simp[O] at A
 | some fn =>
  simp only[O,bAt,bne_iff_ne,ne_eq] at A;have U:¬ fn.body.isNone=true:=by
   have:=A.2;cases hq:fn.body<;>simp_all
  have W:(do let d <- Deferred.ofValue (.func (.func g) ⟨D⟩ ⟨cs⟩) ⟨E⟩;invoke d.target d.args:Sem Next).run P w=.ok (.enter g ⟨D++E++cs⟩) w:=by
   simp only[Deferred.ofValue,cX,c_,cW,invoke,callFunc,run_program,O];rw[a_ (by simpa using A.1),a_ U];simp
  unfold CallsVal;grind
section
variable {C:Cx}{X0 X:WS}{N:Nat}{fr:Fr}{ds:List Dfd}{a:Act}{ad:Ad}{K:Kt}{ro:Option Nat}{n:Nat}{Q:Exit->Act->World->Prop}{o:Oper}
variable (hA:At C X0 N X fr ds a ad o.dst)
include hA
def IK {esc:List Nat}{pf:FuncId->List IV->Option IV}(ac:∀g A v,pf g A=some v->entI C.P g=true/\∀st,ICall C.P C.gl g A st (λr st'=>r=v/\st'=st)){x:Operand}{A:Array Operand}{ts:Array TypeId}(ho:o.op=.call ⟨.value x,A,ts⟩)
  (h:mM esc pf x (evL C.gl fr A.toList) (finK o.dst K ad fr) X.st ds (cU (evV C.gl fr x) λf=>fnV f λf first E=>cU (evL C.gl fr A.toList) λA=>callV C.P C.gl f first E A X.st (lL (finK o.dst K ad fr) ds))) :
  o.wpIn (ev ro) n C.P a X.w (PK C X0 N K) Q:=by
 replace h:cU (evV C.gl fr x) λf=>fnV f λf first E=>cU (evL C.gl fr A.toList) λA=>callV C.P C.gl f first E A X.st (lL (finK o.dst K ad fr) ds):=by
  unfold mM at h;split at h
  ·rename_i g;split at h
   ·obtain⟨ys,hys,h1⟩:=yQ4.1 h;obtain⟨v,hv,h2⟩:=yQ4.1 h1;obtain⟨U,hc⟩:=ac g ys v hv;refine yQ4.2 ⟨.fn (.func g) [] [],rfl,?_⟩;show cU (evL C.gl fr A.toList) λA=>callV C.P C.gl (.func g) [] [] A X.st (lL (finK o.dst K ad fr) ds);refine yQ4.2 ⟨ys,hys,?_⟩;show if entI C.P g=true then ICall C.P C.gl g ([]++ys++[]) X.st (lL (finK o.dst K ad fr) ds) else False
    rw[b_ U,gz,fH];exact (hc X.st).mono λr st' hr=>by obtain⟨rfl,rfl⟩:=hr;exact h2
   ·exact h
  ·exact h
 obtain⟨fv,hf,h1⟩:=yQ4.1 h;clear h;obtain⟨f,first,E,rfl,h2⟩:=va h1;clear h1;obtain⟨ys,hys,h⟩:=yQ4.1 h2;clear h2;have ae:∀c,o.op≠.defer c:=by rw[ho];intro c hc;cases hc
 have W:=(hA.v hf).1;obtain⟨fs,cs,ef,af,ah⟩:=kJ W;have O:=qR hA.inv.good hA.inv.fr hys;have D:CallsVal C.P (a.eval x) ⟨A.toList.map a.eval⟩ X.w (ends C X (lL (finK o.dst K ad fr) ds)):=by
  unfold callV at h;split at h
  ·split at h
   ·rename_i U;rw[ef];exact AG U (h C.B X (fs++A.toList.map a.eval++cs) hA.inv.good rfl ((af.append O).append ah))
   ·exact h.elim
  ·exact h C.B X (a.eval x) (A.toList.map a.eval) hA.inv.good rfl W O
 have ag:execOp a.eval o=(do let d <- Deferred.ofValue (a.eval x) ⟨A.toList.map a.eval⟩;invoke d.target d.args):=by
  unfold execOp;rw[ho];have:A.map a.eval=⟨A.toList.map a.eval⟩:=by apply Array.ext';simp
  simp only[resolve,this]
 refine⟨λ_ _=>trivial,?_⟩;rw[Oper.semAt_eq _ _ _ ae,ag];unfold CallsVal at D;have ak:∀v w',ends C X (lL (finK o.dst K ad fr) ds) v w'->PK C X0 N K (a.put o.dst v) w':=by
  rintro v w' ⟨X',y,rfl,hg,U,hv,hk⟩;exact gD (hA.inv.ext' U hg) hA.ad hA.hd hv hk
 generalize (do let d <- Deferred.ofValue (a.eval x) ⟨A.toList.map a.eval⟩;invoke d.target d.args:Sem Next).run C.P X.w=r at D ⊢;cases r with
 | halt hh w'=>exact D.elim
 | ok nx w' =>
  cases nx with
  | enter g args =>
   obtain⟨rfl,hc⟩:=D;rw[Oper.uponIn_enter];refine⟨(λh0=>by cases h0),(AF hc).mono λe aa U=>?_⟩;grind
  | round l g tmps assign body =>
   obtain⟨rfl,hc⟩:=D;rw[Oper.uponIn_round];refine⟨(λh0=>by cases h0),(IJ hc).mono λe aa U=>?_⟩;grind
  | _=>exact D.elim
def IL {x:Operand}{D:Array Operand}{ts:Array TypeId}(ho:o.op=.defer ⟨.value x,D,ts⟩)(O:ro=none)
  (h:cU (evV C.gl fr x) λf=>fnV f λf first A=>cU (evL C.gl fr D.toList) λD=>finK o.dst K ad fr .nop X.st (.call f A (first++D)::ds)) :
  o.wpIn (ev ro) n C.P a X.w (PK C X0 N K) Q:=by
 obtain⟨fv,hf,h1⟩:=yQ4.1 h;clear h;obtain⟨f,first,A,rfl,h2⟩:=va h1;clear h1;obtain⟨ys,hys,h⟩:=yQ4.1 h2;clear h2;subst O;obtain⟨fs,cs,ef,U,aa⟩:=kJ (hA.v hf).1;have E:=qR hA.inv.good hA.inv.fr hys;have W:(execOp a.eval o).run C.P X.w=.ok (.defer { target:=.fn f ⟨cs⟩,args:=⟨fs++D.toList.map a.eval⟩ }) X.w:=by
  unfold execOp;rw[ho];have:D.map a.eval=⟨D.toList.map a.eval⟩:=by apply Array.ext';simp
  simp only[resolve,this,ef,Deferred.ofValue,cX,c_,cW];simp
 refine⟨λ_ _=>trivial,?_⟩;have hs:Oper.semAt (ev none).round a.eval o=execOp a.eval o:=rfl;rw[hs,W,Oper.uponIn_defer];cases hd:o.dst with
 | some d=>rw[hd] at h;exact h.elim
 | none =>
  rw[hd] at h;have hI:Inv C X0 N X fr (.call f A (first++ys)::ds) { a with defers:={ target:=.fn f ⟨cs⟩,args:=⟨fs++D.toList.map a.eval⟩ }::a.defers } :=
   ⟨hA.inv.good,hA.inv.ext,hA.inv.fr,hA.inv.size,.cons ⟨cs,_,rfl,aa,U.append E⟩ hA.inv.ds (λr h=>by cases h)⟩
  exact⟨X,ad,fr,_,rfl,hI,hA.ad,h⟩
end
def vB {c:Cf}{B:Nat}{X0 X:WS}{N:Nat}{fr:Fr}{ds:List Dfd}{a:Act}{ad:Ad}{K:Kt}{ro:Option Nat}{n:Nat}{Q:Exit->Act->World->Prop}{o:Oper}
  (A:c.rd=false->ro=none) (hA:At (c.cx B) X0 N X fr ds a ad o.dst) (h:vcOp c o.dst o.op K ad fr X.st ds):o.wpIn (ev ro) n c.P a X.w (PK (c.cx B) X0 N K) Q:=by
 unfold vcOp vcR at h;split at h
 case h_1=>exact Ah hA (.inl ‹_›) h
 case h_2=>exact Ah hA (.inr ‹_›) h
 case h_3=>exact HV hA ‹_› h
 case h_4=>exact HW hA ‹_› h
 case h_5=>exact HY hA ‹_› h
 case h_6=>exact Ir hA ‹_› h
 case h_7=>exact Is hA ‹_› h
 case h_8=>exact HZ hA ‹_› h
 case h_9=>exact H0 hA ‹_› h
 case h_10=>exact H2 hA ‹_› h
 case h_11=>exact H9 hA ‹_› h
 case h_12=>exact H_ hA ‹_› h
 case h_13=>exact Ia hA ‹_› h
 case h_14=>exact H3 hA ‹_› h
 case h_15=>exact It hA ‹_› h
 case h_16=>exact Ip hA ‹_› h
 case h_17=>exact Ie hA ‹_› h
 case h_18=>exact Ig hA ‹_› h
 case h_19=>exact Ih hA ‹_› h
 case h_20=>exact Ii hA ‹_› h
 case h_21=>exact Iy hA ‹_› h
 case h_22=>exact AE hA (.inl ‹_›) h
 case h_23=>exact H4 hA ‹_› h
 case h_24=>exact IK hA c.pok ‹_› h
 case h_25=>exact Ik hA ‹_› h
 case h_26=>exact IE hA ‹_› h
 case h_27=>exact Im hA ‹_› h
 case h_28 =>
  split at h
  ·exact h.elim
  ·rename_i D;exact IL hA ‹_› (A (by simpa using D)) h
 case h_29=>exact Il hA ‹_› h
 case h_30=>exact IG hA ‹_› h
 case h_31=>exact II hA ‹_› h
 case h_32=>exact AE hA (.inr ‹_›) h
 case h_33=>exact Io hA ‹_› h
 case h_34 =>
  split at h
  ·exact h.elim
  ·exact Iz hA ‹_› h
 case h_35 =>
  split at h
  ·exact h.elim
  ·exact IA hA ‹_› h
 case h_36 =>
  split at h
  ·exact h.elim
  ·exact IB hA ‹_› h
 case h_37=>exact h.elim
def PQ (C:Cx)(X0:WS)(N:Nat)(Q:Kc)(e:Exit)(a:Act)(w:World):Prop :=
 ∃X fr ds,X.w=w/\Inv C X0 N X fr ds a/\Q e fr X.st ds
def AH {c:Cf}{B:Nat}{X0 X:WS}{N:Nat}{fr:Fr}{ds:List Dfd}{a:Act}{ops:Array Oper}{j d:Nat}{b:Bool}(U:Inv (c.cx B) X0 N X fr ds a)(hd:gQ ops.toList j=some d)(E:d<N)
  (W:fr d=b):yielded ops a.tmps j=some b:=by
 have h1:((ops[j]?).bind (·.dst))=some d:=by simpa[gQ] using hd
 have A:=U.fr.slot d;rw[W] at A;have O:=dQ A;have D:d<a.tmps.size:=by rw[U.size];exact E
 have h2:a.tmps[d]?=some (.bool b):=by
  unfold tm at O;rw[gx,jj D,fI] at O;grind
 unfold yielded;grind
def AI {c:Cf}{B:Nat}{X0 X:WS}{N:Nat}{fr:Fr}{ds:List Dfd}{a:Act}{ops:Array Oper}{j d:Nat}{t:Array Value}(U:Inv (c.cx B) X0 N X fr ds a)(hd:gQ ops.toList j=some d)(E:d<N)
  (W:fr d=.iv (.raw (.tuple t))):yielded ops a.tmps j=none:=by
 have h1:((ops[j]?).bind (·.dst))=some d:=by simpa[gQ] using hd
 have A:=U.fr.slot d;rw[W] at A;have O:=dQ A;have D:d<a.tmps.size:=by rw[U.size];exact E
 have h2:a.tmps[d]?=some (.tuple t):=by
  unfold tm at O;rw[gx,jj D,fI] at O;grind
 unfold yielded;grind
def AJ {ops:Array Oper}{j d:Nat}(h:gQ ops.toList j=some d):∃o∈ops.toList,o.dst=some d:=by
 unfold gQ at h;grind
def AL {c:Cf}{B:Nat}{X0:WS}{N:Nat}{ro:Option Nat}{n:Nat}{ops:Array Oper}{Q:Kc}(ab:c.rd=false->ro=none)(hN:∀o∈ops.toList,∀d,o.dst=some d->d<N) :
  ∀(rest:List Oper) (i:Nat) (X:WS) (fr:Fr) (ds:List Dfd) (a:Act) (ad:Ad),ops.toList.drop i=rest->Inv (c.cx B) X0 N X fr ds a->AdOk fr a.tmps ad->fR c ops.toList rest (Q .normal) ad fr X.st ds →
   wpOpsIn (ev ro) n c.P ops (PQ (c.cx B) X0 N Q) (List.range' i rest.length) a X.w
 | [],i,X,fr,ds,a,ad,_,W,_,h=>by
  simp only[fN,List.range'_zero,wpOpsIn];exact⟨X,fr,ds,rfl,W,h⟩
 | o::rest,i,X,fr,ds,a,ad,ah,W,O,h=>by
  have ho:ops[i]?=some o:=by
   have:ops.toList[i]?=some o:=by
    have:=et (·[0]?) ah;grind
   grind
  have E:o∈ops.toList:=by
   grind
  have ag:ops.toList.drop (i+1)=rest:=by
   have:=et (List.drop 1) ah;rw[kC] at this;grind
  have A:∀a' w',PK (c.cx B) X0 N (fR c ops.toList rest (Q .normal)) a' w'->wpOpsIn (ev ro) n c.P ops (PQ (c.cx B) X0 N Q) (List.range' (i+1) rest.length) a' w':=by
   rintro a' w' ⟨X',au,fr',ar,rfl,aq,ak,h'⟩;exact AL ab hN rest (i+1) X' fr' ar a' au ag aq ak h'
  have av:∀ad fr,AdOk fr a.tmps ad->Inv (c.cx B) X0 N X fr ds a->vcOp c o.dst o.op (fR c ops.toList rest (Q .normal)) ad fr X.st ds →
    o.wpIn (ev ro) n c.P a X.w (wpOpsIn (ev ro) n c.P ops (PQ (c.cx B) X0 N Q) (List.range' (i+1) rest.length)) (PQ (c.cx B) X0 N Q):=by
   intro ad fr O W h;exact Oper.wpIn_mono A (vB ab ⟨W,O,hN o E⟩ h)
  rw[eG,List.range'_succ];simp only[wpOpsIn,ho];unfold fR at h;split at h
  ·rename_i hg;have hw:Region.wanted o (yielded ops a.tmps)=true:=by simp[Region.wanted,hg]
   grind
  ·rename_i j D hg;split at h
   ·rename_i d hd;obtain⟨od,ac,ae⟩:=AJ (ops:=ops) (show gQ ops.toList j=some d from hd);have ai:=hN od ac d ae;cases U:fr d with
    | box cs=>rw[U] at h;exact h.elim
    | iv x =>
     cases x with
     | raw v =>
      cases v with
      | bool b =>
       rw[U,Ac fr d D b _ _ _ _ U] at h;have hy:=AH W (show gQ ops.toList j=some d from hd) ai U;by_cases aj:b=D
       ·have hw:Region.wanted o (yielded ops a.tmps)=true:=by simp[Region.wanted,hg,hy,aj]
        grind
       ·have ao:b=!D:=by cases b<;>cases D<;>simp_all
        have hw:¬ Region.wanted o (yielded ops a.tmps)=true:=by simp[Region.wanted,hg,hy,aj]
        rw[a_ hw];exact⟨λ_ _=>trivial,A _ _ (gD W O (hN o E) (.raw _ trivial) (h.2 ao))⟩
      | tuple t =>
       rw[U] at h;have hy:=AI W (show gQ ops.toList j=some d from hd) ai U;have hw:¬ Region.wanted o (yielded ops a.tmps)=true:=by simp[Region.wanted,hg,hy]
       rw[a_ hw];exact⟨λ_ _=>trivial,A _ _ (gD W O (hN o E) (.raw _ trivial) h)⟩
      | _=>rw[U] at h;exact h.elim
     | _=>rw[U] at h;exact h.elim
   ·exact h.elim
def IM {c:Cf}{B:Nat}{X0 X:WS}{N:Nat}{ro:Option Nat}{n id:Nat}{ops:Array Oper}{Q:Kc}{fr:Fr}{ds:List Dfd}{a:Act}(A:c.rd=false->ro=none)(D:∀o∈ops.toList,∀d,o.dst=some d->d<N)
  (E:Inv (c.cx B) X0 N X fr ds a) (h:fR c ops.toList ops.toList (Q .normal) Ad.none_ fr X.st ds):(Code.region id ops false).wpIn (ev ro) n c.P (PQ (c.cx B) X0 N Q) a X.w:=by
 refine wpIn_region ?_;have:=AL (Q:=Q) (ro:=ro) (n:=n) A D ops.toList 0 X fr ds a Ad.none_ rfl E .nil h
 rwa [kd,<- List.range_eq_range'] at this
