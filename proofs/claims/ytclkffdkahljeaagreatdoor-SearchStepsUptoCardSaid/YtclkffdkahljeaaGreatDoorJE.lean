/- The layer of ideal values, part L: appen -/
import Derived.Test.YtclkffdkahljeaaGreatDoorJD
import Derived.Deep.Upon
import Derived.Lib.AppendZeros
set_option linter.all false
namespace Go.Iv
open Go
def WS.drop (X:WS)(g:Nat):WS:={ X with st:=λb=>if b=g then none else X.st b }
section
variable {C:Cx}{X:WS}
theorem Good.drop_ext (g:Nat):Ext X (X.drop g):=⟨rfl,rfl,rfl,Nat.le_refl _,λ_=>Nat.le_refl _,λ_ _ _=>rfl,λ_ _ _=>⟨rfl,rfl⟩,λb _ h=>by simp only[WS.drop];split<;>first|rfl|exact h,λ_ _ h=>h,rfl⟩
theorem Good.drop (h:Good C X)(g:Nat):Good C (X.drop g) where
 ok b o A:=by
  simp only[WS.drop] at A;split at A
  ·cases A
  ·exact (h.ok b o A).mono rfl rfl (λ_ _ hv=>hv)
 gl:=h.gl
 B:=h.B
 Lnew:=h.Lnew
 gsh:=h.gsh
 dr:=h.dr
theorem Inv.drop {X0:WS}{N:Nat}{fr:Fr}{ds:List Dfd}{a:Act}(h:Inv C X0 N X fr ds a)(g:Nat):Inv C X0 N (X.drop g) fr ds a:=h.ext' (Good.drop_ext g) (h.good.drop g)
theorem Inv.drew {X0:WS}{N:Nat}{fr:Fr}{ds:List Dfd}{a:Act}(h:Inv C X0 N X fr ds a):Inv C X0 N X.drew fr ds a:=h.ext' h.good.drew.1 h.good.drew.2
theorem zYm {r:Value}{tg:Tag}{A:List IV}{s:Nat}(hv:C.v X r (.sl tg A))(ac:∀x∈A,x.cells.length=s) :
  ∃(ad:Option Addr) (cap:Nat) (vs:List Value),r=.slice ad A.length cap/\A.length<=cap/\vs.length=A.length*s/\C.vl X vs (A.flatMap IV.cells) /\
   (∀b,ad=some b->∀j v,vs[j]?=some v->X.w.cell? (b.add j)=some v)/\(ad=none->A=[]):=by
 cases hv with
 | sl ad cap _ _ T vs ai ah ae hs J ab U D hc =>
  by_cases hx:A=[]
  ·subst hx;exact⟨ad,cap,[],rfl,by simp,by simp,VL.nil,λ_ _ _ _ h=>by simp at h,λ_=>rfl⟩
  ·have hts:tg.es=s:=by
    cases A with
    | nil=>exact absurd rfl hx
    | cons x A=>rw[<- hs x (by simp),<- ac x (by simp)]
   obtain⟨b,hb,aa,_,E⟩:=D hx;refine⟨ad,cap,vs,rfl,ae,by rw[J,hts],⟨?_,hc⟩,λb' O j v hj=>?_,λh0=>by rw[h0] at hb;cases hb⟩
   ·rw[yQn A hs,J]
   ·rw[hb] at O;cases O;rw[yJn _ aa];exact E j v hj
theorem Src.of {P:Program}{w:World}{A O:TypeId}{ad:Option Addr}{m cap s:Nat}{vs:List Value}(D:P.underlying A=some (.slice O))(hl:vs.length=m*s)
  (hc:∀b,ad=some b->∀j v,vs[j]?=some v->w.cell? (b.add j)=some v) (E:ad=none->m=0) (h1:∀u∈vs,u.oneCell'=true):Src P s A (.slice ad m cap) m vs w:=by
 cases ad with
 | some b=>exact Go.Src.ofSlice w D b m cap vs hl (hc b rfl) h1
 | none =>
  have J:=E rfl;subst J;have:vs=[]:=List.eq_nil_of_length_eq_zero (by rw[hl];simp);subst this;exact Go.Src.ofNil w D cap
theorem xXz {P:Program}{w:World}{ad:Option Addr}{m cap s:Nat}{vs:List Value}(hl:vs.length=m*s)
  (hc:∀b,ad=some b->∀j v,vs[j]?=some v->w.cell? (b.add j)=some v) (A:ad=none->m=0):(Builtin.firstCells s m (.slice ad m cap)).run P w.drew=.ok vs.toArray w.drew:=by
 cases ad with
 | some b=>exact run_firstCells_some w.drew s m b m cap vs hl (hc b rfl)
 | none =>
  have D:=A rfl;subst D;have:vs=[]:=List.eq_nil_of_length_eq_zero (by rw[hl];simp);subst this;exact run_firstCells_none w.drew s 0 0 cap
theorem V.stale {B:Nat}{L:Nat->Nat}{w:World}{r:Value}{cp:Cap}{s:Nat}{xs:List IV}(f:Bool)(h:V B L w r (.sl ⟨true,cp,s⟩ xs)):V B L w r (.sl ⟨f,cp,s⟩ xs):=by
 cases h with
 | sl ad cap _ _ T vs O J aa hs U E D A hc=>exact .sl ad cap _ _ T vs O J aa hs U E (λ_=>D rfl) A hc
theorem V.sl_inv {B:Nat}{L:Nat->Nat}{w:World}{r:Value}{t:Tag}{A:List IV}(hv:V B L w r (.sl t A)):∃(a:Option Addr) (cap:Nat) (T:TypeId) (vs:List Value),r=.slice a A.length cap /\
  (∀x∈A,x.cells.length=t.es)/\vs.length=A.length*t.es/\(∀g,t.cap=.app g->∃T' k,shq w g=some ((T',k),true)/\cap*t.es<=k) /\
  (t.fresh=true->∀ad:Addr,a=some ad->B<=ad.block/\ad.off%t.es=0/\ety w ad.block=some T) /\
  (A≠[]->∃ad:Addr,a=some ad/\ad.spot=Option.none/\ad.off+vs.length<=L ad.block/\(∀(i:Nat) (r:Value),vs[i]?=some r->w.cell? ⟨ad.block,ad.off+i,Option.none⟩=some r)) /\
  VL B L w vs (A.flatMap IV.cells):=by
 cases hv with
 | sl a cap _ _ T vs _ _ _ hs D E J hp hc=>exact⟨a,cap,T,vs,rfl,hs,D,E,J,hp,by rw[yQn A hs,D],hc⟩
theorem V.push {g s cap:Nat}{f:Bool}{c:Array Value}{E:TypeId}{D ys:List IV}{A:List Value}{so:Option IObj}(hv:C.v X (.slice (some ⟨g,0,none⟩) D.length cap) (.sl ⟨f,.app g,s⟩ D))
  (hh:X.w.heap[g]?=some (.cells c E (0,0))) (hL:X.L g=D.length*s) (hn:C.vl X A (ys.flatMap IV.cells)) (hys:∀y∈ys,y.cells.length=s) (O:D.length+ys.length<=cap) (am:D.length+ys.length<=140737488355328) :
  D.length*s+A.length<=c.size/\(c.toList.take (D.length*s)++A++c.toList.drop (D.length*s+A.length)).toArray.size=c.size /\
  (∀i,i<X.L g->(c.toList.take (D.length*s)++A++c.toList.drop (D.length*s+A.length)).toArray[i]?=c[i]?)/\(D.length+ys.length)*s<=c.size /\
  C.v (X.row g (c.toList.take (D.length*s)++A++c.toList.drop (D.length*s+A.length)).toArray ((D.length+ys.length)*s) so) (.slice (some ⟨g,0,none⟩) (D.length+ys.length) cap) (.sl ⟨f,.app g,s⟩ (D++ys)):=by
 have al:A.length=ys.length*s:=by rw[hn.1,yQn ys hys]
 have ac:(D.length+ys.length)*s=D.length*s+A.length:=by rw[al,Nat.add_mul]
 have ay:cap*s<=c.size:=by
  obtain⟨_,_,_,_,he,_,_,hr,_⟩:=V.sl_inv hv;cases he;obtain⟨T',k,h1,h2⟩:=hr g rfl;simp only[shq,hh,Option.some.injEq,Prod.mk.injEq] at h1;grind
 have ag:(D.length+ys.length)*s<=c.size:=Nat.le_trans (Nat.mul_le_mul_right _ O) ay;have J:(c.toList.take (D.length*s)++A++c.toList.drop (D.length*s+A.length)).toArray.size=c.size:=by
  grind
 have htl:(c.toList.take (D.length*s)).length=D.length*s:=by rw[ac] at ag;simp;omega
 have U:∀i,i<X.L g->(c.toList.take (D.length*s)++A++c.toList.drop (D.length*s+A.length)).toArray[i]?=c[i]?:=λi hi=>by
  grind
 refine⟨by rw[<- ac];exact ag,J,U,ag,?_⟩;have af:∀r x,C.v X r x->C.v (X.row g (c.toList.take (D.length*s)++A++c.toList.drop (D.length*s+A.length)).toArray ((D.length+ys.length)*s) so) r x :=
  λr x h=>zQy hh J (by rw[hL];exact Nat.mul_le_mul_right _ (Nat.le_add_right _ _)) U h
 obtain⟨_,_,T,vs,he,hs,ae,hr,ab,aa,aq⟩:=V.sl_inv hv;cases he;have an:C.vl X (vs++A) ((D++ys).flatMap IV.cells):=by rw[List.flatMap_append];exact aq.append hn
 have ah:∀i,(X.row g (c.toList.take (D.length*s)++A++c.toList.drop (D.length*s+A.length)).toArray ((D.length+ys.length)*s) so).w.cell? ⟨g,i,none⟩ =
   (c.toList.take (D.length*s)++A++c.toList.drop (D.length*s+A.length))[i]?:=λi=>by
  simp only[WS.row];rw[yQw (setRow_heap X.w g c _ E (0,0) hh)]
 have key:=V.sl (B:=C.B) (L:=(X.row g (c.toList.take (D.length*s)++A++c.toList.drop (D.length*s+A.length)).toArray ((D.length+ys.length)*s) so).L)
  (w:=(X.row g (c.toList.take (D.length*s)++A++c.toList.drop (D.length*s+A.length)).toArray ((D.length+ys.length)*s) so).w)
  (some ⟨g,0,none⟩) cap ⟨f,.app g,s⟩ (D++ys) T (vs++A)
 rw[lLa] at key;refine key rfl am O (λx hx=>?_) (by rw[lLa,ae,al,Nat.add_mul]) (λg' aw=>?_) (λhf ad ha=>?_) (λ_=>⟨_,rfl,rfl,?_,λi r aj=>?_⟩) (λi r x h1 h2=>af _ _ (an.2 i r x h1 h2))
 ·grind
 ·obtain⟨T',k,h1,h2⟩:=hr g' aw;exact⟨T',k,(yYe hh J g').trans h1,h2⟩
 ·obtain⟨h1,h2,h3⟩:=ab hf ad ha;exact⟨h1,h2,by unfold ety at h3 ⊢;rw[show shq (X.row g _ _ so).w ad.block=shq X.w ad.block from yYe hh J ad.block];exact h3⟩
 ·simp only[WS.row,if_true];grind
 ·rw[Nat.zero_add,ah];simp only at ae;by_cases hi:i<vs.length
  ·rw[List.getElem?_append_left hi] at aj;have av:D≠[]:=by rintro rfl;rw[ae] at hi;simp at hi
   obtain⟨ad,ha,_,_,ak⟩:=aa av;cases ha;have h1:=ak i r aj;rw[Nat.zero_add] at h1;simp only at h1;rw[yQw hh] at h1;grind
  ·grind
theorem yKv {P:Program}(w:World)(t tx ty e E:TypeId)(i:TypeInfo)(ht:P.underlying t=some (.slice e))(hi:P.info? e=some i)(b A J:Nat)(x:Value)(n:Nat)(D:List Value)(c:Array Value)(hs:Src P i.size tx x n D w)
  (O:A+n<=J) (hh:w.heap[b]?=some (.cells c E (0,0))) (ac:A*i.size+D.length<=c.size) :
  (Builtin.append_ #[t,tx] ty #[.slice (some ⟨b,0,none⟩) A J,x]).run P w =
   .ok (.slice (some ⟨b,0,none⟩) (A+n) J) (w.setRow b (c.toList.take (A*i.size)++D++c.toList.drop (A*i.size+D.length)).toArray):=by
 have U:=run_storeCells_at (P:=P) b (A*i.size) E D 0 c w hh (by omega) hs.one;simp only[Nat.add_zero] at U;rcases hs.kind with⟨e',hk⟩|hk<;>simp[Builtin.append_,run_underlying ht,run_underlying hk,sizeOf,typeInfo,hi,hs.len,O,hs.cells,Addr.add_lit,U]
end
section
variable {C:Cx}{X0 X:WS}{N:Nat}{fr:Fr}{ds:List Dfd}{a:Act}{ad:Ad}{K:Kt}{ro:Option Nat}{n:Nat}{Q:Exit->Act->World->Prop}{o:Oper}
variable (hA:At C X0 N X fr ds a ad o.dst)
include hA
theorem xK2 {T T' e:TypeId}{x y:Operand}{s by_ g₀:Nat}{i:TypeInfo}{z:Value}{D ys:List IV}{olds E:List Value}{base ae:Option Addr}{A O:Nat}(ho:o.op=.call ⟨.builtin .append,⟨[x,y]⟩,⟨[T,T']⟩⟩)
  (hT:C.P.underlying T=some (.slice e)) (hi:C.P.info? e=some i) (au:i.bytes=by_) (hz:i.zero=some z) (hzs:z.cells.size=s)
  (ex:a.eval x=.slice base D.length A) (ey:a.eval y=.slice ae ys.length O) (ah:(Builtin.firstCells i.size D.length (.slice base D.length A)).run C.P X.w.drew=.ok olds.toArray X.w.drew)
  (hs:Src C.P i.size T' (.slice ae ys.length O) ys.length E X.w) (al:C.vl X olds (D.flatMap IV.cells)) (am:C.vl X E (ys.flatMap IV.cells)) (aA:∀x∈D,x.cells.length=s) (hys:∀x∈ys,x.cells.length=s)
  (hg:A<D.length+ys.length) (aw:(D.length+ys.length)*by_<=140737488355328) (av:D.length+ys.length<=140737488355328) (f:Bool)
  (h:∀g,X.st g=none->finK o.dst K ad fr (.val (.sl ⟨f,.app g,s⟩ (D++ys))) (((X.drop g₀).st:ISt).put g (some (.front (D.length+ys.length) s))) ds) :
  o.wpIn (yZ7 ro) n C.P a X.w (PK C X0 N K) Q:=by
 have hnd:∀c,o.op≠.defer c:=by rw[ho];intro c hc;cases hc
 have aj:Builtin.nextslicecap (D.length+ys.length) A*i.bytes<=281474976710656:=growslice_fits hg (by rw[au];exact aw);have ag:=run_append_grow_src X.w T T' o.type e i z hT hi hz base D.length A olds ah (.slice ae ys.length O) ys.length E hs hg (by omega) aj;have hr:(execOp a.eval o).run C.P X.w=.ok (.value (.slice (some ⟨X.w.heap.size,0,none⟩) (D.length+ys.length) (grownCap X.w (D.length+ys.length) A e)))
   (X.w.drew.alloc (.cells ((olds++E).toArray++Builtin.zeroCells z.cells (grownCap X.w (D.length+ys.length) A e-(D.length+ys.length))) e)):=by
  rw[yQs ho];simp only[builtin,List.map_toArray,List.map_cons,List.map_nil,ex,ey,Sem.run_bind,ag,Result.andThen_ok,Sem.run_pure]
 have ao:=grownCap_ge X.w (D.length+ys.length) A e;have ac:(D++ys).flatMap IV.cells=D.flatMap IV.cells++ys.flatMap IV.cells:=by simp
 have af:C.vl X (olds++E) ((D++ys).flatMap IV.cells):=by rw[ac];exact al.append am
 have aa:∀x∈D++ys,x.cells.length=s:=λx hx=>by
  grind
 have J:(olds++E).length=(D.length+ys.length)*s:=by rw[af.1,yQn _ aa,lLa]
 have aq:Ext X (X.drop g₀).drew:=(Good.drop_ext g₀).trans (hA.inv.good.drop g₀).drew.1;have ab:=(hA.inv.good.drop g₀).drew.2;have U:(⟨(olds++E)++(Builtin.zeroCells z.cells (grownCap X.w (D.length+ys.length) A e-(D.length+ys.length))).toList⟩:Array Value) =
   (olds++E).toArray++Builtin.zeroCells z.cells (grownCap X.w (D.length+ys.length) A e-(D.length+ys.length)):=by
  grind
 have ai:=zJv (X:=(X.drop g₀).drew) (cp:=.app X.w.heap.size) (so:=some (.front (D.length+ys.length) s)) (rest:=(Builtin.zeroCells z.cells (grownCap X.w (D.length+ys.length) A e-(D.length+ys.length))).toList)
  (e:=e) (cap:=grownCap X.w (D.length+ys.length) A e) ab (aq.vl af) aa (by rw[lLa];exact av) (by rw[lLa];exact ao) rfl (λg _=>by
   have ak:(Builtin.zeroCells z.cells (grownCap X.w (D.length+ys.length) A e-(D.length+ys.length))).toList.length=(grownCap X.w (D.length+ys.length) A e-(D.length+ys.length))*s:=by
    rw[Array.length_toList,size_zeroCells,hzs]
   rw[lLa,J,ak,<- Nat.add_mul];exact Nat.mul_le_mul_right _ (by omega))
 rw[U,J,lLa] at ai;have hI:=((hA.inv.drop g₀).drew).new (.cells ((olds++E).toArray++Builtin.zeroCells z.cells (grownCap X.w (D.length+ys.length) A e-(D.length+ys.length))) e) ((D.length+ys.length)*s)
  (some (.front (D.length+ys.length) s)) (λi hi=>by
   cases hi;refine⟨_,e,yQm _ _,by simp[WS.new],?_⟩;simp only[WS.new,if_true];rw[Array.size_append,List.size_toArray,J];exact Nat.le_add_right _ _)
 exact yQg hr hnd (yZl hI hA.ad hA.hd (V.stale f ai) (h X.w.heap.size (by
  cases hq:X.st X.w.heap.size with
  | none=>rfl
  | some o=>have:=hA.inv.good.lt hq;omega)))
omit hA in
theorem VL.junks {B:Nat}{L:Nat->Nat}{w:World}(rs:List Value):VL B L w rs (List.replicate rs.length .junk) :=
 ⟨by simp,λi r c _ hc=>by
  have:=lMg hc;rw[(List.mem_replicate.1 this).2];exact .junk r⟩
omit hA in
theorem wY3 {k:Option LenK}{i:Option IntKind}{f g:Prop}(h:appK k i f g):(k=some .sl/\f)\/(k=none/\(∃j,i=some j)/\g):=by
 unfold appK at h;grind
theorem yG0 {T T' e:TypeId}{x y:Operand}{s by_ g₀ m:Nat}{i:TypeInfo}{z:Value}{oc ys:List IV}{olds D:List Value}{base O:Option Addr}{A E:Nat}(ho:o.op=.call ⟨.builtin .append,⟨[x,y]⟩,⟨[T,T']⟩⟩)
  (hT:C.P.underlying T=some (.slice e)) (hi:C.P.info? e=some i) (ak:i.bytes=by_) (hz:i.zero=some z) (hzs:z.cells.size=s)
  (ex:a.eval x=.slice base m A) (ey:a.eval y=.slice O ys.length E) (aa:(Builtin.firstCells i.size m (.slice base m A)).run C.P X.w.drew=.ok olds.toArray X.w.drew)
  (hs:Src C.P i.size T' (.slice O ys.length E) ys.length D X.w) (af:C.vl X olds oc) (ag:C.vl X D (ys.flatMap IV.cells))
  (hg:A<m+ys.length) (al:(m+ys.length)*by_<=140737488355328) (av:m+ys.length<=140737488355328)
  (h:∀g cap,X.st g=none->m+ys.length<=cap->finK o.dst K ad fr (.val (.raw (.slice (some ⟨g,0,none⟩) (m+ys.length) cap)))
   (((X.drop g₀).st:ISt).put g (some (.box (oc++ys.flatMap IV.cells++List.replicate ((cap-(m+ys.length))*s) .junk)))) ds) :
  o.wpIn (yZ7 ro) n C.P a X.w (PK C X0 N K) Q:=by
 have hnd:∀c,o.op≠.defer c:=by rw[ho];intro c hc;cases hc
 have ab:Builtin.nextslicecap (m+ys.length) A*i.bytes<=281474976710656:=growslice_fits hg (by rw[ak];exact al);have U:=run_append_grow_src X.w T T' o.type e i z hT hi hz base m A olds aa (.slice O ys.length E) ys.length D hs hg (by omega) ab;have hr:(execOp a.eval o).run C.P X.w=.ok (.value (.slice (some ⟨X.w.heap.size,0,none⟩) (m+ys.length) (grownCap X.w (m+ys.length) A e)))
   (X.w.drew.alloc (.cells ((olds++D).toArray++Builtin.zeroCells z.cells (grownCap X.w (m+ys.length) A e-(m+ys.length))) e)):=by
  rw[yQs ho];simp only[builtin,List.map_toArray,List.map_cons,List.map_nil,ex,ey,Sem.run_bind,U,Result.andThen_ok,Sem.run_pure]
 have ai:=grownCap_ge X.w (m+ys.length) A e;have aj:Ext X (X.drop g₀).drew:=(Good.drop_ext g₀).trans (hA.inv.good.drop g₀).drew.1;have J:=(hA.inv.good.drop g₀).drew.2;have ae:(Builtin.zeroCells z.cells (grownCap X.w (m+ys.length) A e-(m+ys.length))).toList.length=(grownCap X.w (m+ys.length) A e-(m+ys.length))*s:=by
  rw[Array.length_toList,size_zeroCells,hzs]
 have ac:C.vl (X.drop g₀).drew ((olds++D)++(Builtin.zeroCells z.cells (grownCap X.w (m+ys.length) A e-(m+ys.length))).toList)
   (oc++ys.flatMap IV.cells++List.replicate ((grownCap X.w (m+ys.length) A e-(m+ys.length))*s) .junk):=by
  refine (aj.vl (af.append ag)).append ?_;rw[<- ae];exact VL.junks _
 have hI:=((hA.inv.drop g₀).drew).new (.cells ((olds++D).toArray++Builtin.zeroCells z.cells (grownCap X.w (m+ys.length) A e-(m+ys.length))) e) 0
  (some (.box (oc++ys.flatMap IV.cells++List.replicate ((grownCap X.w (m+ys.length) A e-(m+ys.length))*s) .junk))) (λi hi=>by
   cases hi;refine⟨by simp[WS.new],_,e,yQm _ _,(J.new_ext _ 0 _).vl ?_⟩;rw[Array.toList_append,List.toList_toArray];exact ac)
 exact yQg hr hnd (yZl (x:=.raw _) hI hA.ad hA.hd (.raw _ trivial) (h X.w.heap.size _ (by
  cases hq:X.st X.w.heap.size with
  | none=>rfl
  | some o=>have:=hA.inv.good.lt hq;omega) ai))
theorem zUu {T T':TypeId}{x y:Operand}{esc:List Nat}(ho:o.op=.call ⟨.builtin .append,⟨[x,y]⟩,⟨[T,T']⟩⟩)
  (h:yQ6 (slI C.P T) λe=>appK (lenI C.P T') (intK C.P T')
   (yQ6 (evV C.gl fr x) λs=>slY s (λtg xs=>yQ6 (evV C.gl fr y) λy=>slV y λ_ ys=>appV esc o.dst e tg xs ys (finK o.dst K ad fr) X.st ds) (λb off n cap=>yQ6 (evV C.gl fr y) λy=>slY y (λ_ ys=>qO esc o.dst (appO e b off n cap ys (finK o.dst K ad fr) X.st ds)) (λb2 ai m2 _=>qO esc o.dst (appR e b off n cap b2 ai m2 (finK o.dst K ad fr) X.st ds))))
   (yQ6 (evV C.gl fr x) λs=>slV s λtg _=>yQ6 (evV C.gl fr y) λy=>intV y λ_ m=>appZ e tg m (finK o.dst K ad fr) X.st ds)):o.wpIn (yZ7 ro) n C.P a X.w (PK C X0 N K) Q:=by
 obtain⟨⟨e,ag,s,by_⟩,bx,h1⟩:=yQ2.1 h;clear h;have hnd:∀c,o.op≠.defer c:=by rw[ho];intro c hc;cases hc
 obtain⟨hT,bM,i,hi,_,aS⟩:=yWj bx;obtain⟨z,hz,hzs⟩:=zYn bx hi;have ak:i.size=s:=by have:=zYd bM;simpa[hi] using this
 have aN:X.st X.w.heap.size=none:=by
  cases hq:X.st X.w.heap.size with
  | none=>rfl
  | some o=>have:=hA.inv.good.lt hq;omega
 have a7:∀g₀,X.st g₀=none->(X.drop g₀).st=X.st:=λg₀ h0=>by
  funext b;simp only[WS.drop];split
  ·grind
  ·rfl
 rcases wY3 h1 with⟨hk,h2⟩|⟨_,⟨ik,bT⟩,h2⟩
 case inr =>
  clear h1;obtain⟨vx,hx,h3⟩:=yQ2.1 h2;clear h2;obtain⟨tg,xs,rfl,h4⟩:=wQc h3;clear h3;obtain⟨vy,hy,h5⟩:=yQ2.1 h4;clear h4;obtain⟨ky,m,rfl,⟨hc,b7,bC,hml,bN⟩,h⟩:=yKl h5;clear h5;simp only at bC bN h;obtain⟨bc,aj,ex,_,_,D⟩:=V.sl_len (hA.v hx).1;rw[hc] at D;obtain⟨rfl,h0,rfl⟩:=D;rw[h0] at ex;have ey:=V.raw_inv (hA.v hy).1;obtain⟨q,rfl⟩:∃q:Nat,m=q:=⟨m.toNat,by omega⟩
  rw[Int.toNat_natCast] at h;have bV:C.P.underlying T'=some (.int ik):=by
   unfold intK at bT;grind
  have O:=Lib.run_append_nil_zeros X.w T T' o.type e i z ky ik hT bV hi hz q (by omega) (by omega) (by omega) (by
   rw[aS];have:((q*by_:Nat):Int)<=140737488355328:=by rw[Int.natCast_mul];exact bC
   omega)
  have hr:(execOp a.eval o).run C.P X.w=.ok (.value (.slice (some ⟨X.w.heap.size,0,none⟩) q (grownCap X.w q 0 e)))
    (X.w.drew.alloc (.cells (Builtin.zeroCells z.cells q++Builtin.zeroCells z.cells (grownCap X.w q 0 e-q)) e)):=by
   rw[yQs ho];simp only[builtin,List.map_toArray,List.map_cons,List.map_nil,ex,ey,Sem.run_bind,O,Result.andThen_ok,Sem.run_pure]
  have bU:q<=grownCap X.w q 0 e:=by have:=grownCap_ge X.w q 0 e;omega
  have hI:=(hA.inv.drew).new (.cells (Builtin.zeroCells z.cells q++Builtin.zeroCells z.cells (grownCap X.w q 0 e-q)) e) 0 (some (.box (List.replicate (grownCap X.w q 0 e*s) .junk))) (λi hi=>by
   cases hi;refine⟨by simp[WS.new],_,e,yQm _ _,?_⟩;have hl:(Builtin.zeroCells z.cells q++Builtin.zeroCells z.cells (grownCap X.w q 0 e-q)).toList.length=grownCap X.w q 0 e*s:=by
    rw[Array.length_toList,Array.size_append,size_zeroCells,size_zeroCells,hzs,<- Nat.add_mul];grind
   rw[<- hl];exact VL.junks _)
  exact yQg hr hnd (yZl (x:=.raw _) hI hA.ad hA.hd (.raw _ trivial) (h X.w.heap.size _ ⟨aN,bU⟩))
 clear h1;rcases zQ2 hk with⟨hq,_⟩|⟨_,e',bp⟩|⟨hq,_⟩|⟨_,_,hq,_⟩
 ·cases hq
 ·obtain⟨vx,hx,h3⟩:=yQ2.1 h2;clear h2;rcases zJe h3 with⟨tg,xs,rfl,h4⟩|⟨b,off,m,cap,rfl,h4⟩
  case inr =>
   clear h3;obtain⟨vy,hy,h5⟩:=yQ2.1 h4;clear h4;rcases zJe h5 with⟨bK,ys,rfl,aC⟩|⟨b2,ai,m2,bf,rfl,aC⟩
   case inr =>
    clear h5;unfold qO at aC;by_cases bj:zJk esc o.dst=true
    ·grind
    rw[if_neg bj] at aC;obtain⟨⟨rfl,rfl⟩,h6⟩:=aC;obtain⟨ob,aM,h7⟩:=yQ2.1 h6;clear h6;obtain⟨cs,rfl,⟨bB,aG,J,bA,ac⟩,h⟩:=zJs h7;clear h7;simp only at aG bA ac h;have ex:=V.raw_inv (hA.v hx).1;have ey:=V.raw_inv (hA.v hy).1;obtain⟨hL,c,E,hh,aq⟩:=hA.inv.good.ok b2 _ aM;have bn:c.size=cs.length:=by rw[<- aq.1];simp
    obtain⟨A,az⟩:∃A,A=(c.toList.drop ai).take (m2*s):=⟨_,rfl⟩
    have av:A.length=m2*s:=by rw[az,List.length_take,List.length_drop,Array.length_toList];omega
    have al:C.vl X A ((cs.drop ai).take (m2*s)):=az▸(aq.drop ai).take _;have au:∀u∈A,u.oneCell'=true:=yWz al ac;have aa:Src C.P i.size T' (.slice (some ⟨b2,ai,none⟩) m2 bf) m2 A X.w:=by
     rw[ak];refine Src.of bp av (λb' aT j v hj=>?_) (λh0=>by cases h0) au;cases aT;rw[az,List.getElem?_take] at hj;split at hj
     ·rw[List.getElem?_drop] at hj;rw[yJo,yQw hh];exact hj
     ·cases hj
    have aO:(m+m2)*s<=cs.length:=Nat.le_trans (Nat.mul_le_mul_right _ J) aG;have ax:m*s+A.length<=c.size:=by rw[av,<- Nat.add_mul,bn];exact aO
    have O:=yKv X.w T T' o.type e E i hT hi b2 m cap (.slice (some ⟨b2,ai,none⟩) m2 bf) m2 A c aa J hh (by rw[ak];exact ax);rw[ak] at O;have hr:(execOp a.eval o).run C.P X.w=.ok (.value (.slice (some ⟨b2,0,none⟩) (m+m2) cap))
      (X.w.setRow b2 (c.toList.take (m*s)++A++c.toList.drop (m*s+A.length)).toArray):=by
     rw[yQs ho];simp only[builtin,List.map_toArray,List.map_cons,List.map_nil,ex,ey,Sem.run_bind,O,Result.andThen_ok,Sem.run_pure]
    have ab:(c.toList.take (m*s)++A++c.toList.drop (m*s+A.length)).toArray.size=c.size:=by simp;omega
    have ae:∀i,i<X.L b2->(c.toList.take (m*s)++A++c.toList.drop (m*s+A.length)).toArray[i]?=c[i]?:=λi hi=>by rw[hL] at hi;omega
    have hI:=hA.inv.row hh ab (n:=0) (so:=some (.box (yXe cs (m*s) ((cs.drop ai).take (m2*s))))) (by omega) ae (by rw[aM];simp) (λi hi=>by
     cases hi;refine⟨by simp[WS.row],_,E,setRow_heap X.w b2 c _ E (0,0) hh,?_⟩;have:=yG5 aq al (off:=m*s);exact⟨by simpa using this.1,λi r z hr hz=>zQy hh ab (by omega) ae (this.2 i r z (by simpa using hr) hz)⟩)
    exact yQg hr hnd (yZl (x:=.raw _) hI hA.ad hA.hd (.raw _ trivial) h)
   clear h5;unfold qO at aC;by_cases bj:zJk esc o.dst=true
   ·grind
   rw[if_neg bj] at aC;obtain⟨⟨rfl,ac⟩,⟨aB,aH⟩,h6⟩:=aC;obtain⟨ob,aM,h7⟩:=yQ2.1 h6;clear h6;obtain⟨cs,rfl,⟨bB,aG⟩,h⟩:=zJs h7;clear h7;simp only at ac aB aG h;have ex:=V.raw_inv (hA.v hx).1;have bg:=(hA.v hy).1;have hys:=zKz ac;obtain⟨aI,an,A,ey,_,av,al,bl,bk⟩:=zYm bg hys;have au:∀u∈A,u.oneCell'=true:=yWz al (by
    simp only[List.all_eq_true];intro q hq;obtain⟨y',bh,hq⟩:=List.mem_flatMap.1 hq;exact List.all_eq_true.1 (yZt (List.all_eq_true.1 ac y' bh)).2.2.1 q hq)
   have aa:Src C.P i.size T' (.slice aI ys.length an) ys.length A X.w:=by
    rw[ak];exact Src.of bp av bl (λh0=>by rw[bk h0];rfl) au
   obtain⟨hL,c,E,hh,aq⟩:=hA.inv.good.ok b _ aM;have bn:c.size=cs.length:=by rw[<- aq.1];simp
   have bZ:m*s<=cs.length:=Nat.le_trans (Nat.mul_le_mul_right _ bB) aG;rcases Nat.lt_or_ge cap (m+ys.length) with hg|J
   ·have h8:=h.2 (dEf (by omega));have a6:(c.toList.take (m*s)).length=m*s:=by rw[List.length_take,Array.length_toList];omega
    rcases h8 with h8|h8
    ·refine yG0 hA ho hT hi aS hz hzs ex ey (olds:=c.toList.take (m*s)) (oc:=cs.take (m*s)) (g₀:=b) (by
      rw[ak];refine xXz a6 (λb' aT j v hj=>?_) (λh0=>by cases h0);cases aT;rw[List.getElem?_take] at hj;split at hj
      ·rw[yJo,Nat.zero_add,yQw hh];exact hj
      ·cases hj) aa (aq.take _) al hg aB aH (λg aV bm bo=>?_)
     exact h8 g aV ⟨bm,bo⟩
    ·refine yG0 hA ho hT hi aS hz hzs ex ey (olds:=c.toList.take (m*s)) (oc:=cs.take (m*s)) (g₀:=X.w.heap.size) (by
      rw[ak];refine xXz a6 (λb' aT j v hj=>?_) (λh0=>by cases h0);cases aT;rw[List.getElem?_take] at hj;split at hj
      ·rw[yJo,Nat.zero_add,yQw hh];exact hj
      ·cases hj) aa (aq.take _) al hg aB aH (λg aV bm bo=>?_)
     rw[a7 _ aN];exact h8 g aV ⟨bm,bo⟩
   ·have h8:=h.1 (dEt J);have aO:(m+ys.length)*s<=cs.length:=Nat.le_trans (Nat.mul_le_mul_right _ J) aG;have ax:m*s+A.length<=c.size:=by rw[av,<- Nat.add_mul,bn];exact aO
    have O:=yKv X.w T T' o.type e E i hT hi b m cap (.slice aI ys.length an) ys.length A c aa J hh (by rw[ak];exact ax);rw[ak] at O;have hr:(execOp a.eval o).run C.P X.w=.ok (.value (.slice (some ⟨b,0,none⟩) (m+ys.length) cap))
      (X.w.setRow b (c.toList.take (m*s)++A++c.toList.drop (m*s+A.length)).toArray):=by
     rw[yQs ho];simp only[builtin,List.map_toArray,List.map_cons,List.map_nil,ex,ey,Sem.run_bind,O,Result.andThen_ok,Sem.run_pure]
    have ab:(c.toList.take (m*s)++A++c.toList.drop (m*s+A.length)).toArray.size=c.size:=by simp;omega
    have ae:∀i,i<X.L b->(c.toList.take (m*s)++A++c.toList.drop (m*s+A.length)).toArray[i]?=c[i]?:=λi hi=>by rw[hL] at hi;omega
    have hI:=hA.inv.row hh ab (n:=0) (so:=some (.box (yXe cs (m*s) (ys.flatMap IV.cells)))) (by omega) ae (by rw[aM];simp) (λi hi=>by
     cases hi;refine⟨by simp[WS.row],_,E,setRow_heap X.w b c _ E (0,0) hh,?_⟩;have:=yG5 aq al (off:=m*s);exact⟨by simpa using this.1,λi r z hr hz=>zQy hh ab (by omega) ae (this.2 i r z (by simpa using hr) hz)⟩)
    exact yQg hr hnd (yZl (x:=.raw _) hI hA.ad hA.hd (.raw _ trivial) h8)
  clear h3;obtain⟨vy,hy,h5⟩:=yQ2.1 h4;clear h4;obtain⟨bK,ys,rfl,ac,⟨aB,aH⟩,h⟩:=wQc h5;clear h5;simp only at ac aB h;have aD:=(hA.v hx).1;have bg:=(hA.v hy).1;have hys:=zKz ac;obtain⟨aI,an,A,ey,_,av,al,bl,bk⟩:=zYm bg hys;have au:∀u∈A,u.oneCell'=true:=yWz al (by
   simp only[List.all_eq_true];intro q hq;obtain⟨y',bh,hq⟩:=List.mem_flatMap.1 hq;exact List.all_eq_true.1 (yZt (List.all_eq_true.1 ac y' bh)).2.2.1 q hq)
  have aa:Src C.P i.size T' (.slice aI ys.length an) ys.length A X.w:=by
   rw[ak];exact Src.of bp av bl (λh0=>by rw[bk h0];rfl) au
  obtain⟨bc,aj,ex,_,bD,D⟩:=V.sl_len aD;have ao:ys=[]->finK o.dst K ad fr (.val (.sl tg xs)) X.st ds->o.wpIn (yZ7 ro) n C.P a X.w (PK C X0 N K) Q:=by
   intro U hf;have bR:A=[]:=by subst U;exact List.eq_nil_of_length_eq_zero (by rw[av];simp)
   rw[U,bR] at aa;have O:(Builtin.append_ #[T,T'] o.type #[.slice bc xs.length aj,.slice aI ys.length an]).run C.P X.w=.ok (.slice bc xs.length aj) X.w:=by
    rw[U];exact run_append_nothing X.w T T' o.type e i hT hi bc xs.length aj bD _ aa
   have hr:(execOp a.eval o).run C.P X.w=.ok (.value (a.eval x)) X.w:=by
    rw[yQs ho];simp only[builtin,List.map_toArray,List.map_cons,List.map_nil,ex,ey,Sem.run_bind,O,Result.andThen_ok,Sem.run_pure]
   exact yQg hr hnd (hA.val aD hf)
  have aU:∀(g₀:Nat) (f:Bool) (aE:∀x∈xs,x.cells.length=s) (hg:aj<xs.length+ys.length)
    (hf:∀g,X.st g=none->finK o.dst K ad fr (.val (.sl ⟨f,.app g,s⟩ (xs++ys))) (((X.drop g₀).st:ISt).put g (some (.front (xs.length+ys.length) s))) ds),o.wpIn (yZ7 ro) n C.P a X.w (PK C X0 N K) Q:=by
   intro g₀ f aE hg hf;obtain⟨b1,bW,olds,bH,_,a6,bO,bQ,bP⟩:=zYm aD aE;rw[ex] at bH;cases bH;exact xK2 hA ho hT hi aS hz hzs ex ey (by rw[ak];exact xXz a6 bQ (λh0=>by rw[bP h0];rfl)) aa bO al aE hys hg aB aH f hf
  have aE:tg.es=s->∀x∈xs,x.cells.length=s:=λhe x hx=>by
   obtain⟨_,_,_,_,_,hs,_⟩:=V.sl_inv aD;grind
  cases hc:tg.cap with
  | none =>
   grind
  | nil =>
   rw[hc] at h D;obtain⟨h1,h2,h3⟩:=D;have bi:xs=[]:=List.eq_nil_of_length_eq_zero h2;cases U:ys with
   | nil=>rw[U] at h;exact ao U h
   | cons y0 yt =>
    rw[U] at h;by_cases bd:yV2 esc o.dst=true
    ·have af:∀g cap,(X.st g=none/\(y0::yt).length<=cap)->finK o.dst K ad fr (.val (.raw (.slice (some ⟨g,0,none⟩) (y0::yt).length cap)))
       (X.st.put g (some (.box ((y0::yt).flatMap IV.cells++List.replicate ((cap-(y0::yt).length)*s) .junk)))) ds:=by
      simp only[if_pos bd] at h;exact h
     rw[<- U] at af;rw[h1,h2,h3] at ex;refine yG0 hA ho hT hi aS hz hzs ex ey (olds:=[]) (oc:=[]) (g₀:=X.w.heap.size) rfl aa VL.nil al (by rw[U];simp) (by simpa[bi] using aB) (by simpa[bi] using aH) (λg cap hg hc=>?_);grind
    have af:∀g,X.st g=none->finK o.dst K ad fr (.val (.sl ⟨true,.app g,s⟩ (y0::yt))) (X.st.put g (some (.front (y0::yt).length s))) ds:=by
     simp only[if_neg bd] at h;exact h
    rw[<- U] at af;refine aU X.w.heap.size true (by rw[bi];simp) (by rw[U,h3,h2];simp) (λg hg=>?_);grind
  | full =>
   rw[hc] at h D;cases U:ys with
   | nil=>rw[U] at h;exact ao U h.2
   | cons y0 yt =>
    rw[U] at h;obtain⟨aQ,h⟩:=h;have af:∀g,X.st g=none->finK o.dst K ad fr (.val (.sl ⟨true,.app g,s⟩ (xs++y0::yt))) (X.st.put g (some (.front (xs.length+(y0::yt).length) s))) ds:=h;rw[<- U] at af;simp only[zXf] at D;refine aU X.w.heap.size true (aE aQ) (by rw[U,D];simp) (λg hg=>?_);grind
  | app g₀ =>
   rw[hc] at h D;obtain⟨aQ,bw,af⟩:=h;simp only[zXf] at D;rcases Nat.lt_or_ge aj (xs.length+ys.length) with hg|J
   ·exact aU g₀ tg.fresh (aE aQ) hg (λg hg=>af g (.inr hg))
   ·obtain⟨c,E,hh,hL,b9⟩:=hA.inv.good.ok g₀ _ bw;obtain⟨fresh,cp,es⟩:=tg;simp only at aQ hc af;subst aQ hc D;rw[ex] at aD;obtain⟨ax,ab,ae,bS,bL⟩:=V.push (so:=some (.front (xs.length+ys.length) es)) aD hh hL al hys J aH;have O:=yKv X.w T T' o.type e E i hT hi g₀ xs.length aj (.slice aI ys.length an) ys.length A c aa J hh (by rw[ak];exact ax);rw[ak] at O;have hr:(execOp a.eval o).run C.P X.w=.ok (.value (.slice (some ⟨g₀,0,none⟩) (xs.length+ys.length) aj))
      (X.w.setRow g₀ (c.toList.take (xs.length*es)++A++c.toList.drop (xs.length*es+A.length)).toArray):=by
     rw[yQs ho];simp only[builtin,List.map_toArray,List.map_cons,List.map_nil,ex,ey,Sem.run_bind,O,Result.andThen_ok,Sem.run_pure]
    have hI:=hA.inv.row hh ab (n:=(xs.length+ys.length)*es) (so:=some (.front (xs.length+ys.length) es)) (by rw[hL];exact Nat.mul_le_mul_right _ (Nat.le_add_right _ _)) ae (by rw[bw];simp) (λi hi=>by
     cases hi;exact⟨_,E,setRow_heap X.w g₀ c _ E (0,0) hh,by simp[WS.row],by simp only[WS.row,if_true];rw[ab];exact bS⟩)
    have bu:(X.row g₀ (c.toList.take (xs.length*es)++A++c.toList.drop (xs.length*es+A.length)).toArray ((xs.length+ys.length)*es) (some (.front (xs.length+ys.length) es))).st =
      (X.st.put g₀ none).put g₀ (some (.front (xs.length+ys.length) es)):=by
     funext b;simp only[WS.row,ISt.put];split<;>rfl
    exact yQg hr hnd (yZl hI hA.ad hA.hd bL (by rw[bu];exact af g₀ (.inl rfl)))
 ·cases hq
 ·cases hq
omit hA in
theorem zY5 {A:Array Value}{m:Nat}(E:0<A.size){u:Value}(D:u∈(Builtin.zeroCells A m).toList):u∈A.toList:=by
 unfold Builtin.zeroCells at D;rw[Array.toList_map] at D;obtain⟨i,_,rfl⟩:=List.mem_map.1 D;have J:=Nat.mod_lt i E;grind
theorem xXg {T:TypeId}{x:Operand}(ho:o.op=.call ⟨.builtin .clear,⟨[x]⟩,⟨[T]⟩⟩)
  (h:yQ6 (slI C.P T) λe=>yQ6 (yZh C.P e.1) λ_=>yQ6 (evV C.gl fr x) λx=>zWw e x (finK o.dst K ad fr) X.st ds):o.wpIn (yZ7 ro) n C.P a X.w (PK C X0 N K) Q:=by
 obtain⟨⟨e,ag,s,by_⟩,af,h0⟩:=yQ2.1 h;clear h;obtain⟨zi,al,h1⟩:=yQ2.1 h0;clear h0;obtain⟨vx,hx,h2⟩:=yQ2.1 h1;clear h1;have hnd:∀c,o.op≠.defer c:=by rw[ho];intro c hc;cases hc
 obtain⟨hT,aB,i,U,_,aE⟩:=yWj af;obtain⟨z,hz,hzs⟩:=zYn af U;have A:(zeroValue e).run C.P X.w=.ok z X.w:=by simp only[zeroValue,Sem.run_bind,run_typeInfo X.w U,Result.andThen_ok,hz,Sem.run_pure]
 rcases zJe h2 with⟨_,_,_,h3⟩|⟨b,off,m,cap,rfl,h⟩
 ·exact h3.elim
 clear h2;have ex:=V.raw_inv (hA.v hx).1;by_cases hm:m=0
 ·subst hm;rw[if_pos rfl] at h;have hr:(execOp a.eval o).run C.P X.w=.ok (.value (.tuple #[])) X.w:=by
   rw[yQs ho];simp[builtin,ex,Builtin.clear_,run_underlying hT]
  exact yQg hr hnd (hA.val (.tup [] [] rfl (λi r c h=>by simp at h)) h)
 rw[if_neg hm] at h;obtain⟨ob,aj,h4⟩:=yQ2.1 h;clear h;obtain⟨cs,rfl,h5⟩:=zJs h4;clear h4;obtain⟨av,h⟩:=yQx h5;clear h5;simp only at av h;obtain⟨hL,c,E,hh,aa⟩:=hA.inv.good.ok b _ aj;have aD:c.size=cs.length:=by rw[<- aa.1];simp
 have O:(Builtin.zeroCells z.cells m).toList.length=m*s:=by rw[Array.length_toList,size_zeroCells,hzs]
 have ai:∀u∈(Builtin.zeroCells z.cells m).toList,u.oneCell'=true:=λu hu=>by
  obtain⟨v,ac,ao,an,ab⟩:=zY4 al X.w;rw[A] at ac;cases ac;have aC:0<s:=Nat.pos_of_ne_zero λh0=>by
   have:=List.length_pos_of_mem hu;rw[O,h0] at this;omega
  exact yWz (V.cells (ao C.B X.L X.w) (yU9 ab) an) ab u (zY5 (by omega) hu)
 have ae:=run_storeCells_at (P:=C.P) b off E (Builtin.zeroCells z.cells m).toList 0 c X.w hh (by omega) ai;simp only[Nat.add_zero] at ae;have hr:(execOp a.eval o).run C.P X.w=.ok (.value (.tuple #[])) (X.w.setRow b (c.toList.take off++(Builtin.zeroCells z.cells m).toList++c.toList.drop (off+(Builtin.zeroCells z.cells m).toList.length)).toArray):=by
  rw[yQs ho];simp[builtin,ex,Builtin.clear_,run_underlying hT,hm,A,ae]
 have D:(c.toList.take off++(Builtin.zeroCells z.cells m).toList++c.toList.drop (off+(Builtin.zeroCells z.cells m).toList.length)).toArray.size=c.size:=by simp only[List.size_toArray,lLa,List.length_take,List.length_drop,Array.length_toList] at O ⊢;omega
 have J:∀i,i<X.L b->(c.toList.take off++(Builtin.zeroCells z.cells m).toList++c.toList.drop (off+(Builtin.zeroCells z.cells m).toList.length)).toArray[i]?=c[i]?:=λi U=>by rw[hL] at U;omega
 have hI:=hA.inv.row hh D (n:=0) (so:=some (.box (yXe cs off (List.replicate (m*s) .junk)))) (by omega) J (by rw[aj];simp) (λi U=>by
  cases U;refine⟨by simp[WS.row],_,E,setRow_heap X.w b c _ E (0,0) hh,?_⟩;have hj:=VL.junks (B:=C.B) (L:=X.L) (w:=X.w) (Builtin.zeroCells z.cells m).toList;rw[O] at hj;have:=yG5 aa hj (off:=off);exact⟨by simpa using this.1,λi r z hr hz=>zQy hh D (by omega) J (this.2 i r z (by simpa using hr) hz)⟩)
 exact yQg hr hnd (yZl (x:=.tup []) hI hA.ad hA.hd (.tup [] [] rfl (λi r c h=>by simp at h)) h)
theorem zJa {esc:List Nat}{T:TypeId}{x y:Operand}(ho:o.op=.makeSlice T x y)
  (h:yQ6 (slI C.P T) λe=>yQ6 (evV C.gl fr x) λl=>intV l λ_ p=>yQ6 (evV C.gl fr y) λm=>intV m λ_ q=>xJ5 (yZh C.P e.1) esc o.dst e p q (finK o.dst K ad fr) X.st ds):o.wpIn (yZ7 ro) n C.P a X.w (PK C X0 N K) Q:=by
 obtain⟨⟨e,ag,s,by_⟩,ah,h1⟩:=yQ2.1 h;clear h;obtain⟨vx,hx,h2⟩:=yQ2.1 h1;clear h1;obtain⟨kp,p,rfl,h3⟩:=yKl h2;clear h2;obtain⟨vy,hy,h4⟩:=yQ2.1 h3;clear h3;obtain⟨kq,q,rfl,⟨aI,aG,ao,aF⟩,h⟩:=yKl h4;clear h4;simp only at ao h;have hnd:∀c,o.op≠.defer c:=by rw[ho];intro c hc;cases hc
 obtain⟨hT,al,i,D,_,aw⟩:=yWj ah;obtain⟨z,hz,hzs⟩:=zYn ah D;have am:i.size=s:=by have:=zYd al;simpa[D] using this
 have ex:=V.raw_inv (hA.v hx).1;have ey:=V.raw_inv (hA.v hy).1;have aq:0<=p:=by omega
 have aj:p<=q:=by omega
 have ai:=run_make (P:=C.P) X.w T e i z hT D hz kp kq p q aq aj (by rw[aw,Int.mul_comm];omega) (by omega);have hr:(execOp a.eval o).run C.P X.w=.ok (.value (.slice (some ⟨X.w.heap.size,0,none⟩) p.toNat q.toNat)) (X.w.alloc (.cells (madeCells z.cells (q.toNat*i.size)) e)):=by
  unfold execOp;rw[ho];simp only[ex,ey,Sem.run_bind,ai,Result.andThen_ok,Sem.run_pure]
 have hml:(madeCells z.cells (q.toNat*i.size)).toList.length=q.toNat*s:=by rw[Array.length_toList,size_madeCells,am]
 have A:X.st X.w.heap.size=none:=by
  cases hq:X.st X.w.heap.size with
  | none=>rfl
  | some o=>have:=hA.inv.good.lt hq;omega
 split at h
 ·obtain⟨O,h⟩:=h;obtain⟨y,E,J,h⟩:=yQ2.1 h;have O:s=1:=O;replace E:yZh C.P e=some y:=E;subst O;have ae:zKl z=some y:=by
   unfold yZh at E;simpa[D,hz] using E
  have ak:=IV.one_cells J;have hI:=hA.inv.new (.cells (madeCells z.cells (q.toNat*i.size)) e) 0 (some (.box (List.replicate q.toNat y))) (λi' av=>by
   cases av;refine⟨by simp[WS.new],_,e,yQm _ _,by rw[hml,List.length_replicate,Nat.mul_one],λj r c hr hc=>?_⟩;obtain rfl:=List.eq_of_mem_replicate (lMg hc);have hv:=yW9 (B:=C.B) (L:=(X.new (.cells (madeCells z.cells (q.toNat*i.size)) e) 0 (some (.box (List.replicate q.toNat c)))).L) (w:=(X.new (.cells (madeCells z.cells (q.toNat*i.size)) e) 0 (some (.box (List.replicate q.toNat c)))).w) ae;have af:=V.cells hv.1 (yU9 hv.2.2) (λhj=>by rw[hj] at J;simp[IV.one] at J);rw[ak] at af;refine af.2 0 r c ?_ rfl;have aa:=lMg hr;rw[Array.mem_toList_iff] at aa;unfold madeCells at aa;obtain⟨k,_,rfl⟩:=Array.mem_map.1 aa;rw[hzs,Nat.mod_one,getElem!_pos _ _ (by omega)];simp)
  exact yQg hr hnd (yZl (x:=.raw (.slice (some ⟨X.w.heap.size,0,none⟩) (lenZ p) q.toNat)) hI hA.ad hA.hd (.raw _ trivial) (h X.w.heap.size A))
 split at h
 ·have hI:=hA.inv.new (.cells (madeCells z.cells (q.toNat*i.size)) e) 0 (some (.box (List.replicate (q.toNat*s) .junk))) (λi' D=>by
   cases D;refine⟨by simp[WS.new],_,e,yQm _ _,by rw[hml,List.length_replicate],λj r c _ hc=>?_⟩;obtain rfl:=List.eq_of_mem_replicate (lMg hc);exact .junk r)
  exact yQg hr hnd (yZl (x:=.raw (.slice (some ⟨X.w.heap.size,0,none⟩) (lenZ p) q.toNat)) hI hA.ad hA.hd (.raw _ trivial) (h X.w.heap.size A))
 split at h
 ·rename_i U;have U:s=0:=U;subst U;have hI:=hA.inv.new (.cells (madeCells z.cells (q.toNat*i.size)) e) 0 none (λi' D=>by cases D);have an:(X.new (.cells (madeCells z.cells (q.toNat*i.size)) e) 0 none).st=X.st:=by
   funext b;simp only[WS.new];split
   ·rename_i hb;rw[hb];exact A.symm
   ·rfl
  refine yQg hr hnd (yZl (x:=.sl ⟨false,.none,0⟩ (List.replicate (lenZ p) (.agg []))) hI hA.ad hA.hd ?_ (by rw[an];exact h));have hv:V C.B (X.new (.cells (madeCells z.cells (q.toNat*i.size)) e) 0 none).L (X.new (.cells (madeCells z.cells (q.toNat*i.size)) e) 0 none).w (.slice (some ⟨X.w.heap.size,0,none⟩) (List.replicate (lenZ p) (IV.agg [])).length q.toNat) (.sl ⟨false,.none,0⟩ (List.replicate (lenZ p) (.agg []))):=by
   refine .sl (some ⟨X.w.heap.size,0,none⟩) q.toNat ⟨false,.none,0⟩ (List.replicate (lenZ p) (.agg [])) e [] trivial (by rw[List.length_replicate];unfold lenZ;omega) (by rw[List.length_replicate];unfold lenZ;omega) (λx hx=>by obtain rfl:=List.eq_of_mem_replicate hx;rfl) (by simp) (λg hg=>by cases hg)
    (λh=>by cases h) (λ_=>⟨⟨X.w.heap.size,0,none⟩,rfl,rfl,Nat.zero_le _,λi r h=>by simp at h⟩) (λi r c h=>by simp at h)
  rw[List.length_replicate] at hv;exact hv
 obtain⟨hp,h⟩:=h;subst hp;rw[Int.toNat_zero] at hr;have au:=zJv (X:=X) (vs:=[]) (rest:=(madeCells z.cells (q.toNat*i.size)).toList) (ys:=[]) (s:=s) (cap:=q.toNat) (e:=e) (cp:=.app X.w.heap.size) (so:=some (.front 0 s)) hA.inv.good VL.nil (λ_ h=>by cases h) (by simp) (by simp) rfl
  (λg _=>by rw[List.nil_append,hml];exact Nat.le_refl _)
 have hI:=hA.inv.new (.cells (madeCells z.cells (q.toNat*i.size)) e) 0 (some (.front 0 s)) (λi D=>by
  cases D;refine⟨_,e,yQm _ _,by simp[WS.new],?_⟩;simp[WS.new])
 exact yQg hr hnd (yZl hI hA.ad hA.hd au (h X.w.heap.size A))
end
end Go.Iv
namespace Go.Iv
open Go
theorem zQj {ro:Option Nat}{n:Nat}{P:Program}{f:FuncId}{args:Array Value}{w:World}{R:Ending->World->Prop}(h:Calls P f args w R):CallsIn (yZ7 ro) n P f args w R :=
 callsIn_wide (n:=n).2 h
theorem zYr {ro:Option Nat}{m n:Nat}{P:Program}{l:Nat}{f:FuncId}{tmps:Array Value}{assign body:Code}{w:World}{R:Ending->World->Prop}(h:RoundIn Fence.wide m P l f tmps assign body w R) :
  RoundIn (yZ7 ro) n P l f tmps assign body w R :=
 ⟨trivial,λc cs _=>h.2 c cs (room_wide _)⟩
theorem zQi {P:Program}{g:FuncId}{D cs E:List Value}{w:World}{R:Value->World->Prop}(A:entI P g=true)(h:Calls P g ⟨D++E++cs⟩ w λe w'=>∃v,e=.returned v/\R v w') :
  CallsVal P (.func (.func g) ⟨D⟩ ⟨cs⟩) ⟨E⟩ w R:=by
 unfold entI at A;cases J:P.funcs[g]? with
 | none=>simp[J] at A
 | some fn =>
  simp only[J,bAt,bne_iff_ne,ne_eq] at A;have O:¬ fn.body.isNone=true:=by
   have:=A.2;cases hq:fn.body<;>simp_all
  have U:(do let d <- Deferred.ofValue (.func (.func g) ⟨D⟩ ⟨cs⟩) ⟨E⟩;invoke d.target d.args:Sem Next).run P w=.ok (.enter g ⟨D++E++cs⟩) w:=by
   simp only[Deferred.ofValue,Sem.run_bind,Sem.run_pure,Result.andThen_ok,invoke,callFunc,run_program,J];rw[if_neg (by simpa using A.1),if_neg O];simp
  unfold CallsVal;grind
section
variable {C:Cx}{X0 X:WS}{N:Nat}{fr:Fr}{ds:List Dfd}{a:Act}{ad:Ad}{K:Kt}{ro:Option Nat}{n:Nat}{Q:Exit->Act->World->Prop}{o:Oper}
variable (hA:At C X0 N X fr ds a ad o.dst)
include hA
theorem xYl {esc:List Nat}{pf:FuncId->List IV->Option IV}(ab:∀g A v,pf g A=some v->entI C.P g=true/\∀st,ICall C.P C.gl g A st (λr st'=>r=v/\st'=st)){x:Operand}{A:Array Operand}{ts:Array TypeId}(ho:o.op=.call ⟨.value x,A,ts⟩)
  (h:zU1 esc pf x (evL C.gl fr A.toList) (finK o.dst K ad fr) X.st ds (yQ6 (evV C.gl fr x) λf=>fnV f λf first E=>yQ6 (evL C.gl fr A.toList) λA=>callV C.P C.gl f first E A X.st (zKs (finK o.dst K ad fr) ds))) :
  o.wpIn (yZ7 ro) n C.P a X.w (PK C X0 N K) Q:=by
 replace h:yQ6 (evV C.gl fr x) λf=>fnV f λf first E=>yQ6 (evL C.gl fr A.toList) λA=>callV C.P C.gl f first E A X.st (zKs (finK o.dst K ad fr) ds):=by
  unfold zU1 at h;split at h
  ·rename_i g;split at h
   ·obtain⟨ys,hys,h1⟩:=yQ2.1 h;obtain⟨v,hv,h2⟩:=yQ2.1 h1;obtain⟨O,hc⟩:=ab g ys v hv;refine yQ2.2 ⟨.fn (.func g) [] [],rfl,?_⟩;show yQ6 (evL C.gl fr A.toList) λA=>callV C.P C.gl (.func g) [] [] A X.st (zKs (finK o.dst K ad fr) ds);refine yQ2.2 ⟨ys,hys,?_⟩;show if entI C.P g=true then ICall C.P C.gl g ([]++ys++[]) X.st (zKs (finK o.dst K ad fr) ds) else False
    rw[if_pos O,List.nil_append,List.append_nil];exact (hc X.st).mono λr st' hr=>by obtain⟨rfl,rfl⟩:=hr;exact h2
   ·exact h
  ·exact h
 obtain⟨fv,hf,h1⟩:=yQ2.1 h;clear h;obtain⟨f,first,E,rfl,h2⟩:=xJo h1;clear h1;obtain⟨ys,hys,h⟩:=yQ2.1 h2;clear h2;have hnd:∀c,o.op≠.defer c:=by rw[ho];intro c hc;cases hc
 have U:=(hA.v hf).1;obtain⟨fs,cs,ef,ac,af⟩:=V.fn_inv U;have J:=wJ2 hA.inv.good hA.inv.fr hys;have D:CallsVal C.P (a.eval x) ⟨A.toList.map a.eval⟩ X.w (ends C X (zKs (finK o.dst K ad fr) ds)):=by
  unfold callV at h;split at h
  ·split at h
   ·rename_i O;rw[ef];exact zQi O (h C.B X (fs++A.toList.map a.eval++cs) hA.inv.good rfl ((ac.append J).append af))
   ·exact h.elim
  ·exact h C.B X (a.eval x) (A.toList.map a.eval) hA.inv.good rfl U J
 have ae:execOp a.eval o=(do let d <- Deferred.ofValue (a.eval x) ⟨A.toList.map a.eval⟩;invoke d.target d.args):=by
  unfold execOp;rw[ho];have:A.map a.eval=⟨A.toList.map a.eval⟩:=by apply Array.ext';simp
  simp only[resolve,this]
 refine⟨λ_ _=>trivial,?_⟩;rw[Oper.semAt_eq _ _ _ hnd,ae];unfold CallsVal at D;have ah:∀v w',ends C X (zKs (finK o.dst K ad fr) ds) v w'->PK C X0 N K (a.put o.dst v) w':=by
  rintro v w' ⟨X',y,rfl,hg,O,hv,hk⟩;exact yZl (hA.inv.ext' O hg) hA.ad hA.hd hv hk
 generalize (do let d <- Deferred.ofValue (a.eval x) ⟨A.toList.map a.eval⟩;invoke d.target d.args:Sem Next).run C.P X.w=r at D ⊢;cases r with
 | halt hh w'=>exact D.elim
 | ok nx w' =>
  cases nx with
  | enter g args =>
   obtain⟨rfl,hc⟩:=D;rw[Oper.uponIn_enter];refine⟨(λh0=>by cases h0),(zQj hc).mono λe aa O=>?_⟩;grind
  | round l g tmps assign body =>
   obtain⟨rfl,hc⟩:=D;rw[Oper.uponIn_round];refine⟨(λh0=>by cases h0),(zYr hc).mono λe aa O=>?_⟩;grind
  | _=>exact D.elim
theorem xXf {x:Operand}{D:Array Operand}{ts:Array TypeId}(ho:o.op=.defer ⟨.value x,D,ts⟩)(J:ro=none)
  (h:yQ6 (evV C.gl fr x) λf=>fnV f λf first A=>yQ6 (evL C.gl fr D.toList) λD=>finK o.dst K ad fr .nop X.st (.call f A (first++D)::ds)) :
  o.wpIn (yZ7 ro) n C.P a X.w (PK C X0 N K) Q:=by
 obtain⟨fv,hf,h1⟩:=yQ2.1 h;clear h;obtain⟨f,first,A,rfl,h2⟩:=xJo h1;clear h1;obtain⟨ys,hys,h⟩:=yQ2.1 h2;clear h2;subst J;obtain⟨fs,cs,ef,O,aa⟩:=V.fn_inv (hA.v hf).1;have E:=wJ2 hA.inv.good hA.inv.fr hys;have U:(execOp a.eval o).run C.P X.w=.ok (.defer { target:=.fn f ⟨cs⟩,args:=⟨fs++D.toList.map a.eval⟩ }) X.w:=by
  unfold execOp;rw[ho];have:D.map a.eval=⟨D.toList.map a.eval⟩:=by apply Array.ext';simp
  simp only[resolve,this,ef,Deferred.ofValue,Sem.run_bind,Sem.run_pure,Result.andThen_ok];simp
 refine⟨λ_ _=>trivial,?_⟩;have hs:Oper.semAt (yZ7 none).round a.eval o=execOp a.eval o:=rfl;rw[hs,U,Oper.uponIn_defer];cases hd:o.dst with
 | some d=>rw[hd] at h;exact h.elim
 | none =>
  rw[hd] at h;have hI:Inv C X0 N X fr (.call f A (first++ys)::ds) { a with defers:={ target:=.fn f ⟨cs⟩,args:=⟨fs++D.toList.map a.eval⟩ }::a.defers } :=
   ⟨hA.inv.good,hA.inv.ext,hA.inv.fr,hA.inv.size,.cons ⟨cs,_,rfl,aa,O.append E⟩ hA.inv.ds (λr h=>by cases h)⟩
  exact⟨X,ad,fr,_,rfl,hI,hA.ad,h⟩
end
theorem zQt {c:Cf}{B:Nat}{X0 X:WS}{N:Nat}{fr:Fr}{ds:List Dfd}{a:Act}{ad:Ad}{K:Kt}{ro:Option Nat}{n:Nat}{Q:Exit->Act->World->Prop}{o:Oper}
  (A:c.rd=false->ro=none) (hA:At (c.cx B) X0 N X fr ds a ad o.dst) (h:vcOp c o.dst o.op K ad fr X.st ds):o.wpIn (yZ7 ro) n c.P a X.w (PK (c.cx B) X0 N K) Q:=by
 unfold vcOp vcR at h;split at h
 case h_1=>exact zVt hA (.inl ‹_›) h
 case h_2=>exact zVt hA (.inr ‹_›) h
 case h_3=>exact xYh hA ‹_› h
 case h_4=>exact xXj hA ‹_› h
 case h_5=>exact wQ5 hA ‹_› h
 case h_6=>exact xXh hA ‹_› h
 case h_7=>exact zXa hA ‹_› h
 case h_8=>exact xYj hA ‹_› h
 case h_9=>exact xX9 hA ‹_› h
 case h_10=>exact zV9 hA ‹_› h
 case h_11=>exact xXi hA ‹_› h
 case h_12=>exact xYg hA ‹_› h
 case h_13=>exact zYl hA ‹_› h
 case h_14=>exact zVa hA ‹_› h
 case h_15=>exact zYj hA ‹_› h
 case h_16=>exact xXa hA ‹_› h
 case h_17=>exact zJc hA ‹_› h
 case h_18=>exact xXd hA ‹_› h
 case h_19=>exact zJb hA ‹_› h
 case h_20=>exact xXc hA ‹_› h
 case h_21=>exact zUt hA ‹_› h
 case h_22=>exact yYc hA (.inl ‹_›) h
 case h_23=>exact zYk hA ‹_› h
 case h_24=>exact xYl hA c.pok ‹_› h
 case h_25=>exact wQ3 hA ‹_› h
 case h_26=>exact zUu hA ‹_› h
 case h_27=>exact wQ2 hA ‹_› h
 case h_28 =>
  split at h
  ·exact h.elim
  ·rename_i D;exact xXf hA ‹_› (A (by simpa using D)) h
 case h_29=>exact wQ4 hA ‹_› h
 case h_30=>exact xXg hA ‹_› h
 case h_31=>exact zJa hA ‹_› h
 case h_32=>exact yYc hA (.inr ‹_›) h
 case h_33=>exact wQ1 hA ‹_› h
 case h_34 =>
  split at h
  ·exact h.elim
  ·exact zUr hA ‹_› h
 case h_35 =>
  split at h
  ·exact h.elim
  ·exact xYi hA ‹_› h
 case h_36 =>
  split at h
  ·exact h.elim
  ·exact xXe hA ‹_› h
 case h_37=>exact h.elim
end Go.Iv
namespace Go.Iv
open Go
def PQ (C:Cx)(X0:WS)(N:Nat)(Q:Kc)(e:Exit)(a:Act)(w:World):Prop :=
 ∃X fr ds,X.w=w/\Inv C X0 N X fr ds a/\Q e fr X.st ds
theorem zZs {c:Cf}{B:Nat}{X0 X:WS}{N:Nat}{fr:Fr}{ds:List Dfd}{a:Act}{ops:Array Oper}{j d:Nat}{b:Bool}(J:Inv (c.cx B) X0 N X fr ds a)(hd:yV7 ops.toList j=some d)(E:d<N)
  (hs:fr d=.iv (.raw (.bool b))):yielded ops a.tmps j=some b:=by
 have h1:((ops[j]?).bind (·.dst))=some d:=by simpa[yV7] using hd
 have A:=J.fr.slot d;rw[hs] at A;have hv:=V.raw_inv A;have D:d<a.tmps.size:=by rw[J.size];exact E
 have h2:a.tmps[d]?=some (.bool b):=by
  unfold tm at hv;rw[Array.getD_eq_getD_getElem?,Array.getElem?_eq_getElem D,Option.getD_some] at hv;grind
 unfold yielded;grind
theorem zZt {c:Cf}{B:Nat}{X0 X:WS}{N:Nat}{fr:Fr}{ds:List Dfd}{a:Act}{ops:Array Oper}{j d:Nat}{t:Array Value}(J:Inv (c.cx B) X0 N X fr ds a)(hd:yV7 ops.toList j=some d)(E:d<N)
  (hs:fr d=.iv (.raw (.tuple t))):yielded ops a.tmps j=none:=by
 have h1:((ops[j]?).bind (·.dst))=some d:=by simpa[yV7] using hd
 have A:=J.fr.slot d;rw[hs] at A;have hv:=V.raw_inv A;have D:d<a.tmps.size:=by rw[J.size];exact E
 have h2:a.tmps[d]?=some (.tuple t):=by
  unfold tm at hv;rw[Array.getD_eq_getD_getElem?,Array.getElem?_eq_getElem D,Option.getD_some] at hv;grind
 unfold yielded;grind
theorem xZ1 {ops:Array Oper}{j d:Nat}(h:yV7 ops.toList j=some d):∃o∈ops.toList,o.dst=some d:=by
 unfold yV7 at h;grind
theorem zUs {c:Cf}{B:Nat}{X0:WS}{N:Nat}{ro:Option Nat}{n:Nat}{ops:Array Oper}{Q:Kc}(aa:c.rd=false->ro=none)(hN:∀o∈ops.toList,∀d,o.dst=some d->d<N) :
  ∀(rest:List Oper) (i:Nat) (X:WS) (fr:Fr) (ds:List Dfd) (a:Act) (ad:Ad),ops.toList.drop i=rest->Inv (c.cx B) X0 N X fr ds a->AdOk fr a.tmps ad->yXw c ops.toList rest (Q .normal) ad fr X.st ds →
   wpOpsIn (yZ7 ro) n c.P ops (PQ (c.cx B) X0 N Q) (List.range' i rest.length) a X.w
 | [],i,X,fr,ds,a,ad,_,O,_,h=>by
  simp only[List.length_nil,List.range'_zero,wpOpsIn];exact⟨X,fr,ds,rfl,O,h⟩
 | o::rest,i,X,fr,ds,a,ad,ag,O,J,h=>by
  have ho:ops[i]?=some o:=by
   have:ops.toList[i]?=some o:=by
    have:=congrArg (·[0]?) ag;grind
   grind
  have E:o∈ops.toList:=by
   grind
  have af:ops.toList.drop (i+1)=rest:=by
   have:=congrArg (List.drop 1) ag;rw[List.drop_drop] at this;grind
  have A:∀a' w',PK (c.cx B) X0 N (yXw c ops.toList rest (Q .normal)) a' w'->wpOpsIn (yZ7 ro) n c.P ops (PQ (c.cx B) X0 N Q) (List.range' (i+1) rest.length) a' w':=by
   rintro a' w' ⟨X',aq,fr',ao,rfl,an,aj,h'⟩;exact zUs aa hN rest (i+1) X' fr' ao a' aq af an aj h'
  have au:∀ad fr,AdOk fr a.tmps ad->Inv (c.cx B) X0 N X fr ds a->vcOp c o.dst o.op (yXw c ops.toList rest (Q .normal)) ad fr X.st ds →
    o.wpIn (yZ7 ro) n c.P a X.w (wpOpsIn (yZ7 ro) n c.P ops (PQ (c.cx B) X0 N Q) (List.range' (i+1) rest.length)) (PQ (c.cx B) X0 N Q):=by
   intro ad fr J O h;exact Oper.wpIn_mono A (zQt aa ⟨O,J,hN o E⟩ h)
  rw[List.length_cons,List.range'_succ];simp only[wpOpsIn,ho];unfold yXw at h;split at h
  ·rename_i hg;have U:Region.wanted o (yielded ops a.tmps)=true:=by simp[Region.wanted,hg]
   grind
  ·rename_i j D hg;split at h
   ·rename_i d hd;obtain⟨od,ab,ac⟩:=xZ1 (ops:=ops) (show yV7 ops.toList j=some d from hd);have ah:=hN od ab d ac;cases hs:fr d with
    | box cs=>rw[hs] at h;exact h.elim
    | iv x =>
     cases x with
     | raw v =>
      cases v with
      | bool b =>
       rw[hs,xQu fr d D b _ _ _ _ hs] at h;have hy:=zZs O (show yV7 ops.toList j=some d from hd) ah hs;by_cases ai:b=D
       ·have U:Region.wanted o (yielded ops a.tmps)=true:=by simp[Region.wanted,hg,hy,ai]
        grind
       ·have am:b=!D:=by cases b<;>cases D<;>simp_all
        have U:¬ Region.wanted o (yielded ops a.tmps)=true:=by simp[Region.wanted,hg,hy,ai]
        rw[if_neg U];exact⟨λ_ _=>trivial,A _ _ (yZl O J (hN o E) (.raw _ trivial) (h.2 am))⟩
      | tuple t =>
       rw[hs] at h;have hy:=zZt O (show yV7 ops.toList j=some d from hd) ah hs;have U:¬ Region.wanted o (yielded ops a.tmps)=true:=by simp[Region.wanted,hg,hy]
       rw[if_neg U];exact⟨λ_ _=>trivial,A _ _ (yZl O J (hN o E) (.raw _ trivial) h)⟩
      | _=>rw[hs] at h;exact h.elim
     | _=>rw[hs] at h;exact h.elim
   ·exact h.elim
theorem zUq {c:Cf}{B:Nat}{X0 X:WS}{N:Nat}{ro:Option Nat}{n id:Nat}{ops:Array Oper}{Q:Kc}{fr:Fr}{ds:List Dfd}{a:Act}(A:c.rd=false->ro=none)(D:∀o∈ops.toList,∀d,o.dst=some d->d<N)
  (E:Inv (c.cx B) X0 N X fr ds a) (h:yXw c ops.toList ops.toList (Q .normal) Ad.none_ fr X.st ds):(Code.region id ops false).wpIn (yZ7 ro) n c.P (PQ (c.cx B) X0 N Q) a X.w:=by
 refine wpIn_region ?_;have:=zUs (Q:=Q) (ro:=ro) (n:=n) A D ops.toList 0 X fr ds a Ad.none_ rfl E .nil h
 rwa [Array.length_toList,<- List.range_eq_range'] at this
