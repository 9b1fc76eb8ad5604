/- The layer of ideal values, part L: appen -/
import Derived.Test.YtabhgbojkjcfjaaGreatDoorJD
import Derived.Deep.Upon
import Derived.Lib.AppendZeros
set_option linter.all false
namespace Go.Iv
open Go
def WS.drop (X:WS)(g:Nat):WS:={ X with st:=λb=>if b=g then none else X.st b }
section
variable {C:Cx}{X:WS}
theorem Good.drop_ext (g:Nat):Ext X (X.drop g):=⟨rfl,rfl,rfl,Nat.le_refl _,λ_=>Nat.le_refl _,λ_ _ _=>rfl,λ_ _ _=>⟨rfl,rfl⟩,λb _ h=>by simp only[WS.drop];split<;>first|rfl|exact h,λ_ _ h=>h,rfl⟩
theorem Good.drop (h:Good C X)(g:Nat):Good C (X.drop g) where
 ok b o A:=by
  simp only[WS.drop] at A;split at A
  ·cases A
  ·exact (h.ok b o A).mono rfl rfl (λ_ _ D=>D)
 gl:=h.gl
 B:=h.B
 Lnew:=h.Lnew
 gsh:=h.gsh
 dr:=h.dr
theorem Inv.drop {X0:WS}{N:Nat}{fr:Fr}{ds:List Dfd}{a:Act}(h:Inv C X0 N X fr ds a)(g:Nat):Inv C X0 N (X.drop g) fr ds a:=h.ext' (Good.drop_ext g) (h.good.drop g)
theorem Inv.drew {X0:WS}{N:Nat}{fr:Fr}{ds:List Dfd}{a:Act}(h:Inv C X0 N X fr ds a):Inv C X0 N X.drew fr ds a:=h.ext' h.good.drew.1 h.good.drew.2
theorem zUm {r:Value}{tg:Tag}{A:List IV}{s:Nat}(hv:C.v X r (.sl tg A))(ab:∀x∈A,x.cells.length=s) :
  ∃(ad:Option Addr) (cap:Nat) (vs:List Value),r=.slice ad A.length cap/\A.length<=cap/\vs.length=A.length*s/\C.vl X vs (A.flatMap IV.cells) /\
   (∀b,ad=some b->∀j v,vs[j]?=some v->X.w.cell? (b.add j)=some v)/\(ad=none->A=[]):=by
 cases hv with
 | sl ad cap _ _ T vs ai ah ac hs F aa J D hc =>
  by_cases O:A=[]
  ·subst O;exact⟨ad,cap,[],rfl,by simp,by simp,VL.nil,λ_ _ _ _ h=>by simp at h,λ_=>rfl⟩
  ·have U:tg.es=s:=by
    cases A with
    | nil=>exact absurd rfl O
    | cons x A=>rw[<- hs x (by simp),<- ab x (by simp)]
   obtain⟨b,hb,W,_,E⟩:=D O;refine⟨ad,cap,vs,rfl,ac,by rw[F,U],⟨?_,hc⟩,λb' G j v hj=>?_,λh0=>by rw[h0] at hb;cases hb⟩
   ·rw[yQy A hs,F]
   ·rw[hb] at G;cases G;rw[yVk _ W];exact E j v hj
theorem Src.of {P:Program}{w:World}{A J:TypeId}{ad:Option Addr}{m cap s:Nat}{vs:List Value}(E:P.underlying A=some (.slice J))(D:vs.length=m*s)
  (hc:∀b,ad=some b->∀j v,vs[j]?=some v->w.cell? (b.add j)=some v) (F:ad=none->m=0) (h1:∀u∈vs,u.oneCell'=true):Src P s A (.slice ad m cap) m vs w:=by
 cases ad with
 | some b=>exact Go.Src.ofSlice w E b m cap vs D (hc b rfl) h1
 | none =>
  have G:=F rfl;subst G;have:vs=[]:=List.eq_nil_of_length_eq_zero (by rw[D];simp);subst this;exact Go.Src.ofNil w E cap
theorem wXs {P:Program}{w:World}{ad:Option Addr}{m cap s:Nat}{vs:List Value}(A:vs.length=m*s)
  (hc:∀b,ad=some b->∀j v,vs[j]?=some v->w.cell? (b.add j)=some v) (D:ad=none->m=0):(Builtin.firstCells s m (.slice ad m cap)).run P w.drew=.ok vs.toArray w.drew:=by
 cases ad with
 | some b=>exact run_firstCells_some w.drew s m b m cap vs A (hc b rfl)
 | none =>
  have E:=D rfl;subst E;have:vs=[]:=List.eq_nil_of_length_eq_zero (by rw[A];simp);subst this;exact run_firstCells_none w.drew s 0 0 cap
theorem V.stale {B:Nat}{L:Nat->Nat}{w:World}{r:Value}{cp:Cap}{s:Nat}{U:List IV}(f:Bool)(h:V B L w r (.sl ⟨true,cp,s⟩ U)):V B L w r (.sl ⟨f,cp,s⟩ U):=by
 cases h with
 | sl ad cap _ _ T vs G F O W J E D A hc=>exact .sl ad cap _ _ T vs G F O W J E (λ_=>D rfl) A hc
theorem V.sl_inv {B:Nat}{L:Nat->Nat}{w:World}{r:Value}{t:Tag}{A:List IV}(F:V B L w r (.sl t A)):∃(a:Option Addr) (cap:Nat) (T:TypeId) (vs:List Value),r=.slice a A.length cap /\
  (∀x∈A,x.cells.length=t.es)/\vs.length=A.length*t.es/\(∀g,t.cap=.app g->∃T' k,shq w g=some ((T',k),true)/\cap*t.es<=k) /\
  (t.fresh=true->∀ad:Addr,a=some ad->B<=ad.block/\ad.off%t.es=0/\ety w ad.block=some T) /\
  (A≠[]->∃ad:Addr,a=some ad/\ad.spot=Option.none/\ad.off+vs.length<=L ad.block/\(∀(i:Nat) (r:Value),vs[i]?=some r->w.cell? ⟨ad.block,ad.off+i,Option.none⟩=some r)) /\
  VL B L w vs (A.flatMap IV.cells):=by
 cases F with
 | sl a cap _ _ T vs _ _ _ E D G J hp hc=>exact⟨a,cap,T,vs,rfl,E,D,G,J,hp,by rw[yQy A E,D],hc⟩
theorem V.push {g s cap:Nat}{f:Bool}{c:Array Value}{E:TypeId}{D ys:List IV}{A:List Value}{so:Option IObj}(hv:C.v X (.slice (some ⟨g,0,none⟩) D.length cap) (.sl ⟨f,.app g,s⟩ D))
  (hh:X.w.heap[g]?=some (.cells c E (0,0))) (hL:X.L g=D.length*s) (hn:C.vl X A (ys.flatMap IV.cells)) (hys:∀y∈ys,y.cells.length=s) (O:D.length+ys.length<=cap) (al:D.length+ys.length<=140737488355328) :
  D.length*s+A.length<=c.size/\(c.toList.take (D.length*s)++A++c.toList.drop (D.length*s+A.length)).toArray.size=c.size /\
  (∀i,i<X.L g->(c.toList.take (D.length*s)++A++c.toList.drop (D.length*s+A.length)).toArray[i]?=c[i]?)/\(D.length+ys.length)*s<=c.size /\
  C.v (X.row g (c.toList.take (D.length*s)++A++c.toList.drop (D.length*s+A.length)).toArray ((D.length+ys.length)*s) so) (.slice (some ⟨g,0,none⟩) (D.length+ys.length) cap) (.sl ⟨f,.app g,s⟩ (D++ys)):=by
 have ak:A.length=ys.length*s:=by rw[hn.1,yQy ys hys]
 have G:(D.length+ys.length)*s=D.length*s+A.length:=by rw[ak,Nat.add_mul]
 have aw:cap*s<=c.size:=by
  obtain⟨_,_,_,_,he,_,_,hr,_⟩:=V.sl_inv hv;cases he;obtain⟨T',k,h1,h2⟩:=hr g rfl;simp only[shq,hh,Option.some.injEq,Prod.mk.injEq] at h1;rw[h1.1.2];exact h2
 have ab:(D.length+ys.length)*s<=c.size:=Nat.le_trans (Nat.mul_le_mul_right _ O) aw;have F:(c.toList.take (D.length*s)++A++c.toList.drop (D.length*s+A.length)).toArray.size=c.size:=by
  rw[G] at ab;simp;omega
 have htl:(c.toList.take (D.length*s)).length=D.length*s:=by rw[G] at ab;simp;omega
 have W:∀i,i<X.L g->(c.toList.take (D.length*s)++A++c.toList.drop (D.length*s+A.length)).toArray[i]?=c[i]?:=λi hi=>by
  rw[hL] at hi;rw[List.getElem?_toArray,List.append_assoc,List.getElem?_append_left (by omega),List.getElem?_take,if_pos hi,Array.getElem?_toList]
 refine⟨by rw[<- G];exact ab,F,W,ab,?_⟩;have ae:∀r x,C.v X r x->C.v (X.row g (c.toList.take (D.length*s)++A++c.toList.drop (D.length*s+A.length)).toArray ((D.length+ys.length)*s) so) r x :=
  λr x h=>zKz hh F (by rw[hL];exact Nat.mul_le_mul_right _ (Nat.le_add_right _ _)) W h
 obtain⟨_,_,T,vs,he,hs,J,hr,ac,aa,an⟩:=V.sl_inv hv;cases he;have am:C.vl X (vs++A) ((D++ys).flatMap IV.cells):=by rw[List.flatMap_append];exact an.append hn
 have af:∀i,(X.row g (c.toList.take (D.length*s)++A++c.toList.drop (D.length*s+A.length)).toArray ((D.length+ys.length)*s) so).w.cell? ⟨g,i,none⟩ =
   (c.toList.take (D.length*s)++A++c.toList.drop (D.length*s+A.length))[i]?:=λi=>by
  simp only[WS.row];rw[yZh (setRow_heap X.w g c _ E (0,0) hh)]
 have key:=V.sl (B:=C.B) (L:=(X.row g (c.toList.take (D.length*s)++A++c.toList.drop (D.length*s+A.length)).toArray ((D.length+ys.length)*s) so).L)
  (w:=(X.row g (c.toList.take (D.length*s)++A++c.toList.drop (D.length*s+A.length)).toArray ((D.length+ys.length)*s) so).w)
  (some ⟨g,0,none⟩) cap ⟨f,.app g,s⟩ (D++ys) T (vs++A)
 rw[lLa] at key;refine key rfl al O (λx hx=>?_) (by rw[lLa,J,ak,Nat.add_mul]) (λg' au=>?_) (λhf ad ha=>?_) (λ_=>⟨_,rfl,rfl,?_,λi r U=>?_⟩) (λi r x h1 h2=>ae _ _ (am.2 i r x h1 h2))
 ·rcases List.mem_append.1 hx with hx|hx
  ·exact hs x hx
  ·exact hys x hx
 ·obtain⟨T',k,h1,h2⟩:=hr g' au;exact⟨T',k,(yGl hh F g').trans h1,h2⟩
 ·obtain⟨h1,h2,h3⟩:=ac hf ad ha;exact⟨h1,h2,by unfold ety at h3 ⊢;rw[show shq (X.row g _ _ so).w ad.block=shq X.w ad.block from yGl hh F ad.block];exact h3⟩
 ·simp only[WS.row,if_true];rw[lLa,J,G,Nat.zero_add];exact Nat.le_refl _
 ·rw[Nat.zero_add,af];simp only at J;by_cases hi:i<vs.length
  ·rw[List.getElem?_append_left hi] at U;have aq:D≠[]:=by rintro rfl;rw[J] at hi;simp at hi
   obtain⟨ad,ha,_,_,aj⟩:=aa aq;cases ha;have h1:=aj i r U;rw[Nat.zero_add] at h1;simp only at h1;rw[yZh hh] at h1;rw[List.append_assoc,List.getElem?_append_left (by omega),List.getElem?_take,if_pos (by omega)];exact h1
  ·rw[List.getElem?_append_right (by omega)] at U;have aE:=(lGs U).1;rw[List.append_assoc,List.getElem?_append_right (by omega),htl,List.getElem?_append_left (by omega),<- J];exact U
theorem yGn {P:Program}(w:World)(t U W e E:TypeId)(i:TypeInfo)(ht:P.underlying t=some (.slice e))(hi:P.info? e=some i)(b A F:Nat)(x:Value)(n:Nat)(D:List Value)(c:Array Value)(O:Src P i.size U x n D w)
  (G:A+n<=F) (hh:w.heap[b]?=some (.cells c E (0,0))) (ab:A*i.size+D.length<=c.size) :
  (Builtin.append_ #[t,U] W #[.slice (some ⟨b,0,none⟩) A F,x]).run P w =
   .ok (.slice (some ⟨b,0,none⟩) (A+n) F) (w.setRow b (c.toList.take (A*i.size)++D++c.toList.drop (A*i.size+D.length)).toArray):=by
 have J:=run_storeCells_at (P:=P) b (A*i.size) E D 0 c w hh (by omega) O.one;simp only[Nat.add_zero] at J;rcases O.kind with⟨e',hk⟩|hk<;>simp[Builtin.append_,run_underlying ht,run_underlying hk,sizeOf,typeInfo,hi,O.len,G,O.cells,Addr.add_lit,J]
end
section
variable {C:Cx}{X0 X:WS}{N:Nat}{fr:Fr}{ds:List Dfd}{a:Act}{ad:Ad}{K:Kt}{ro:Option Nat}{n:Nat}{Q:Exit->Act->World->Prop}{o:Oper}
variable (hA:At C X0 N X fr ds a ad o.dst)
include hA
theorem xW9 {T T' e:TypeId}{x y:Operand}{s by_ g₀:Nat}{i:TypeInfo}{z:Value}{D ys:List IV}{olds E:List Value}{J ab:Option Addr}{A G:Nat}(ho:o.op=.call ⟨.builtin .append,⟨[x,y]⟩,⟨[T,T']⟩⟩)
  (hT:C.P.underlying T=some (.slice e)) (hi:C.P.info? e=some i) (av:i.bytes=by_) (hz:i.zero=some z) (hzs:z.cells.size=s)
  (ex:a.eval x=.slice J D.length A) (ey:a.eval y=.slice ab ys.length G) (ag:(Builtin.firstCells i.size D.length (.slice J D.length A)).run C.P X.w.drew=.ok olds.toArray X.w.drew)
  (hs:Src C.P i.size T' (.slice ab ys.length G) ys.length E X.w) (al:C.vl X olds (D.flatMap IV.cells)) (an:C.vl X E (ys.flatMap IV.cells)) (ak:∀x∈D,x.cells.length=s) (hys:∀x∈ys,x.cells.length=s)
  (hg:A<D.length+ys.length) (ax:(D.length+ys.length)*by_<=140737488355328) (aw:D.length+ys.length<=140737488355328) (f:Bool)
  (h:∀g,X.st g=none->finK o.dst K ad fr (.val (.sl ⟨f,.app g,s⟩ (D++ys))) (((X.drop g₀).st:ISt).put g (some (.front (D.length+ys.length) s))) ds) :
  o.wpIn (yZo ro) n C.P a X.w (PK C X0 N K) Q:=by
 have am:∀c,o.op≠.defer c:=by rw[ho];intro c hc;cases hc
 have ai:Builtin.nextslicecap (D.length+ys.length) A*i.bytes<=281474976710656:=growslice_fits hg (by rw[av];exact ax);have af:=run_append_grow_src X.w T T' o.type e i z hT hi hz J D.length A olds ag (.slice ab ys.length G) ys.length E hs hg (by omega) ai;have hr:(execOp a.eval o).run C.P X.w=.ok (.value (.slice (some ⟨X.w.heap.size,0,none⟩) (D.length+ys.length) (grownCap X.w (D.length+ys.length) A e)))
   (X.w.drew.alloc (.cells ((olds++E).toArray++Builtin.zeroCells z.cells (grownCap X.w (D.length+ys.length) A e-(D.length+ys.length))) e)):=by
  rw[yZ8 ho];simp only[builtin,List.map_toArray,List.map_cons,List.map_nil,ex,ey,Sem.run_bind,af,Result.andThen_ok,Sem.run_pure]
 have aq:=grownCap_ge X.w (D.length+ys.length) A e;have aa:(D++ys).flatMap IV.cells=D.flatMap IV.cells++ys.flatMap IV.cells:=by simp
 have ae:C.vl X (olds++E) ((D++ys).flatMap IV.cells):=by rw[aa];exact al.append an
 have U:∀x∈D++ys,x.cells.length=s:=λx hx=>by
  rcases List.mem_append.1 hx with hx|hx
  ·exact ak x hx
  ·exact hys x hx
 have F:(olds++E).length=(D.length+ys.length)*s:=by rw[ae.1,yQy _ U,lLa]
 have au:Ext X (X.drop g₀).drew:=(Good.drop_ext g₀).trans (hA.inv.good.drop g₀).drew.1;have W:=(hA.inv.good.drop g₀).drew.2;have O:(⟨(olds++E)++(Builtin.zeroCells z.cells (grownCap X.w (D.length+ys.length) A e-(D.length+ys.length))).toList⟩:Array Value) =
   (olds++E).toArray++Builtin.zeroCells z.cells (grownCap X.w (D.length+ys.length) A e-(D.length+ys.length)):=by
  apply Array.ext';simp
 have ah:=zV9 (X:=(X.drop g₀).drew) (cp:=.app X.w.heap.size) (so:=some (.front (D.length+ys.length) s)) (rest:=(Builtin.zeroCells z.cells (grownCap X.w (D.length+ys.length) A e-(D.length+ys.length))).toList)
  (e:=e) (cap:=grownCap X.w (D.length+ys.length) A e) W (au.vl ae) U (by rw[lLa];exact aw) (by rw[lLa];exact aq) rfl (λg _=>by
   have aj:(Builtin.zeroCells z.cells (grownCap X.w (D.length+ys.length) A e-(D.length+ys.length))).toList.length=(grownCap X.w (D.length+ys.length) A e-(D.length+ys.length))*s:=by
    rw[Array.length_toList,size_zeroCells,hzs]
   rw[lLa,F,aj,<- Nat.add_mul];exact Nat.mul_le_mul_right _ (by omega))
 rw[O,F,lLa] at ah;have hI:=((hA.inv.drop g₀).drew).new (.cells ((olds++E).toArray++Builtin.zeroCells z.cells (grownCap X.w (D.length+ys.length) A e-(D.length+ys.length))) e) ((D.length+ys.length)*s)
  (some (.front (D.length+ys.length) s)) (λi hi=>by
   cases hi;refine⟨_,e,yQr _ _,by simp[WS.new],?_⟩;simp only[WS.new,if_true];rw[Array.size_append,List.size_toArray,F];exact Nat.le_add_right _ _)
 exact yQh hr am (yXi hI hA.ad hA.hd (V.stale f ah) (h X.w.heap.size (by
  cases hq:X.st X.w.heap.size with
  | none=>rfl
  | some o=>have:=hA.inv.good.lt hq;omega)))
omit hA in
theorem VL.junks {B:Nat}{L:Nat->Nat}{w:World}(rs:List Value):VL B L w rs (List.replicate rs.length .junk) :=
 ⟨by simp,λi r c _ hc=>by
  have:=lMg hc;rw[(List.mem_replicate.1 this).2];exact .junk r⟩
omit hA in
theorem wG9 {k:Option LenK}{i:Option IntKind}{f g:Prop}(h:appK k i f g):(k=some .sl/\f)\/(k=none/\(∃j,i=some j)/\g):=by
 unfold appK at h;split at h
 ·exact .inl ⟨rfl,h⟩
 ·exact .inr ⟨rfl,⟨_,rfl⟩,h⟩
 ·exact h.elim
theorem zJn {T T' e:TypeId}{x y:Operand}{s by_ g₀ m:Nat}{i:TypeInfo}{z:Value}{oc ys:List IV}{olds D:List Value}{F J:Option Addr}{A E:Nat}(ho:o.op=.call ⟨.builtin .append,⟨[x,y]⟩,⟨[T,T']⟩⟩)
  (hT:C.P.underlying T=some (.slice e)) (hi:C.P.info? e=some i) (aj:i.bytes=by_) (hz:i.zero=some z) (hzs:z.cells.size=s)
  (ex:a.eval x=.slice F m A) (ey:a.eval y=.slice J ys.length E) (U:(Builtin.firstCells i.size m (.slice F m A)).run C.P X.w.drew=.ok olds.toArray X.w.drew)
  (hs:Src C.P i.size T' (.slice J ys.length E) ys.length D X.w) (ac:C.vl X olds oc) (af:C.vl X D (ys.flatMap IV.cells))
  (hg:A<m+ys.length) (ak:(m+ys.length)*by_<=140737488355328) (av:m+ys.length<=140737488355328)
  (h:∀g cap,X.st g=none->m+ys.length<=cap->finK o.dst K ad fr (.val (.raw (.slice (some ⟨g,0,none⟩) (m+ys.length) cap)))
   (((X.drop g₀).st:ISt).put g (some (.box (oc++ys.flatMap IV.cells++List.replicate ((cap-(m+ys.length))*s) .junk)))) ds) :
  o.wpIn (yZo ro) n C.P a X.w (PK C X0 N K) Q:=by
 have ae:∀c,o.op≠.defer c:=by rw[ho];intro c hc;cases hc
 have W:Builtin.nextslicecap (m+ys.length) A*i.bytes<=281474976710656:=growslice_fits hg (by rw[aj];exact ak);have O:=run_append_grow_src X.w T T' o.type e i z hT hi hz F m A olds U (.slice J ys.length E) ys.length D hs hg (by omega) W;have hr:(execOp a.eval o).run C.P X.w=.ok (.value (.slice (some ⟨X.w.heap.size,0,none⟩) (m+ys.length) (grownCap X.w (m+ys.length) A e)))
   (X.w.drew.alloc (.cells ((olds++D).toArray++Builtin.zeroCells z.cells (grownCap X.w (m+ys.length) A e-(m+ys.length))) e)):=by
  rw[yZ8 ho];simp only[builtin,List.map_toArray,List.map_cons,List.map_nil,ex,ey,Sem.run_bind,O,Result.andThen_ok,Sem.run_pure]
 have ah:=grownCap_ge X.w (m+ys.length) A e;have ai:Ext X (X.drop g₀).drew:=(Good.drop_ext g₀).trans (hA.inv.good.drop g₀).drew.1;have G:=(hA.inv.good.drop g₀).drew.2;have ab:(Builtin.zeroCells z.cells (grownCap X.w (m+ys.length) A e-(m+ys.length))).toList.length=(grownCap X.w (m+ys.length) A e-(m+ys.length))*s:=by
  rw[Array.length_toList,size_zeroCells,hzs]
 have aa:C.vl (X.drop g₀).drew ((olds++D)++(Builtin.zeroCells z.cells (grownCap X.w (m+ys.length) A e-(m+ys.length))).toList)
   (oc++ys.flatMap IV.cells++List.replicate ((grownCap X.w (m+ys.length) A e-(m+ys.length))*s) .junk):=by
  refine (ai.vl (ac.append af)).append ?_;rw[<- ab];exact VL.junks _
 have hI:=((hA.inv.drop g₀).drew).new (.cells ((olds++D).toArray++Builtin.zeroCells z.cells (grownCap X.w (m+ys.length) A e-(m+ys.length))) e) 0
  (some (.box (oc++ys.flatMap IV.cells++List.replicate ((grownCap X.w (m+ys.length) A e-(m+ys.length))*s) .junk))) (λi hi=>by
   cases hi;refine⟨by simp[WS.new],_,e,yQr _ _,(G.new_ext _ 0 _).vl ?_⟩;rw[Array.toList_append,List.toList_toArray];exact aa)
 exact yQh hr ae (yXi (x:=.raw _) hI hA.ad hA.hd (.raw _ trivial) (h X.w.heap.size _ (by
  cases hq:X.st X.w.heap.size with
  | none=>rfl
  | some o=>have:=hA.inv.good.lt hq;omega) ah))
theorem xZu {T T':TypeId}{x y:Operand}{esc:List Nat}(ho:o.op=.call ⟨.builtin .append,⟨[x,y]⟩,⟨[T,T']⟩⟩)
  (h:yQ8 (slI C.P T) λe=>appK (lenI C.P T') (intK C.P T')
   (yQ8 (evV C.gl fr x) λs=>slY s (λtg O=>yQ8 (evV C.gl fr y) λy=>slV y λ_ ys=>appV esc o.dst e tg O ys (finK o.dst K ad fr) X.st ds) (λb off n cap=>yQ8 (evV C.gl fr y) λy=>slV y λ_ ys=>qO esc o.dst (appO e b off n cap ys (finK o.dst K ad fr) X.st ds)))
   (yQ8 (evV C.gl fr x) λs=>slV s λtg _=>yQ8 (evV C.gl fr y) λy=>intV y λ_ m=>appZ e tg m (finK o.dst K ad fr) X.st ds)):o.wpIn (yZo ro) n C.P a X.w (PK C X0 N K) Q:=by
 obtain⟨⟨e,ag,s,by_⟩,bg,h1⟩:=yQ5.1 h;clear h;have aN:∀c,o.op≠.defer c:=by rw[ho];intro c hc;cases hc
 obtain⟨hT,bx,i,hi,bX,_,aO⟩:=yYo bg;obtain⟨z,hz,hzs⟩:=zUo bg hi;have ak:i.size=s:=by have:=zUb bx;simpa[hi] using this
 have ah:X.st X.w.heap.size=none:=by
  cases hq:X.st X.w.heap.size with
  | none=>rfl
  | some o=>have:=hA.inv.good.lt hq;omega
 have aj:∀g₀,X.st g₀=none->(X.drop g₀).st=X.st:=λg₀ h0=>by
  funext b;simp only[WS.drop];split
  ·rename_i hb;rw[hb,h0]
  ·rfl
 rcases wG9 h1 with⟨hk,h2⟩|⟨_,⟨ik,aA⟩,h2⟩
 case inr =>
  clear h1;obtain⟨vx,hx,h3⟩:=yQ5.1 h2;clear h2;obtain⟨tg,O,rfl,h4⟩:=xKx h3;clear h3;obtain⟨vy,hy,h5⟩:=yQ5.1 h4;clear h4;obtain⟨ky,m,rfl,⟨hc,b0,bj,bZ⟩,h⟩:=yVv h5;clear h5;simp only at bj h;obtain⟨aS,aa,ex,_,_,D⟩:=V.sl_len (hA.v hx).1;rw[hc] at D;obtain⟨rfl,h0,rfl⟩:=D;rw[h0] at ex;have ey:=V.raw_inv (hA.v hy).1;obtain⟨q,rfl⟩:∃q:Nat,m=q:=⟨m.toNat,by omega⟩
  rw[Int.toNat_natCast] at h;have bM:C.P.underlying T'=some (.int ik):=by
   unfold intK at aA;split at aA
   ·rename_i k hk;simp only[Option.some.injEq] at aA;rw[hk,aA]
   ·cases aA
  have J:=Lib.run_append_nil_zeros X.w T T' o.type e i z ky ik hT bM hi hz q (by omega) (by omega) (by omega) (by
   rw[aO];have:((q*by_:Nat):Int)<=140737488355328:=by rw[Int.natCast_mul];exact bj
   omega)
  have hr:(execOp a.eval o).run C.P X.w=.ok (.value (.slice (some ⟨X.w.heap.size,0,none⟩) q (grownCap X.w q 0 e)))
    (X.w.drew.alloc (.cells (Builtin.zeroCells z.cells q++Builtin.zeroCells z.cells (grownCap X.w q 0 e-q)) e)):=by
   rw[yZ8 ho];simp only[builtin,List.map_toArray,List.map_cons,List.map_nil,ex,ey,Sem.run_bind,J,Result.andThen_ok,Sem.run_pure]
  have bH:q<=grownCap X.w q 0 e:=by have:=grownCap_ge X.w q 0 e;omega
  have hI:=(hA.inv.drew).new (.cells (Builtin.zeroCells z.cells q++Builtin.zeroCells z.cells (grownCap X.w q 0 e-q)) e) 0 (some (.box (List.replicate (grownCap X.w q 0 e*s) .junk))) (λi hi=>by
   cases hi;refine⟨by simp[WS.new],_,e,yQr _ _,?_⟩;have hl:(Builtin.zeroCells z.cells q++Builtin.zeroCells z.cells (grownCap X.w q 0 e-q)).toList.length=grownCap X.w q 0 e*s:=by
    rw[Array.length_toList,Array.size_append,size_zeroCells,size_zeroCells,hzs,<- Nat.add_mul];congr 1;omega
   rw[<- hl];exact VL.junks _)
  exact yQh hr aN (yXi (x:=.raw _) hI hA.ad hA.hd (.raw _ trivial) (h X.w.heap.size _ ⟨ah,bH⟩))
 clear h1;rcases zZf hk with⟨hq,_⟩|⟨_,e',bm⟩|⟨hq,_⟩|⟨_,_,hq,_⟩
 ·cases hq
 ·obtain⟨vx,hx,h3⟩:=yQ5.1 h2;clear h2;rcases zUn h3 with⟨tg,O,rfl,h4⟩|⟨b,off,m,cap,rfl,h4⟩
  case inr =>
   clear h3;obtain⟨vy,hy,h5⟩:=yQ5.1 h4;clear h4;obtain⟨bu,ys,rfl,aE⟩:=xKx h5;clear h5;unfold qO at aE;by_cases bh:zUw esc o.dst=true
   ·rw[if_pos bh] at aE;exact aE.elim
   rw[if_neg bh] at aE;obtain⟨⟨rfl,ae⟩,⟨av,aD⟩,h6⟩:=aE;obtain⟨ob,bi,h7⟩:=yQ5.1 h6;clear h6;obtain⟨cs,rfl,⟨bD,a8⟩,h⟩:=xQ5 h7;clear h7;simp only at ae av a8 h;have ex:=V.raw_inv (hA.v hx).1;have aX:=(hA.v hy).1;have hys:=zWk ae;obtain⟨ax,af,A,ey,_,az,al,a7,a6⟩:=zUm aX hys;have ay:∀u∈A,u.oneCell'=true:=zZy al (by
    simp only[List.all_eq_true];intro q hq;obtain⟨y',aY,hq⟩:=List.mem_flatMap.1 hq;exact List.all_eq_true.1 (yJf (List.all_eq_true.1 ae y' aY)).2.2.1 q hq)
   have W:Src C.P i.size T' (.slice ax ys.length af) ys.length A X.w:=by
    rw[ak];exact Src.of bm az a7 (λh0=>by rw[a6 h0];rfl) ay
   obtain⟨hL,c,E,hh,aZ⟩:=hA.inv.good.ok b _ bi;have bJ:c.size=cs.length:=by rw[<- aZ.1];simp
   have bR:m*s<=cs.length:=Nat.le_trans (Nat.mul_le_mul_right _ bD) a8;rcases Nat.lt_or_ge cap (m+ys.length) with hg|U
   ·have h8:=h.2 (dEf (by omega));have a1:(c.toList.take (m*s)).length=m*s:=by rw[List.length_take,Array.length_toList];omega
    refine zJn hA ho hT hi aO hz hzs ex ey (olds:=c.toList.take (m*s)) (oc:=cs.take (m*s)) (g₀:=b) (by
     rw[ak];refine wXs a1 (λb' bL j v hj=>?_) (λh0=>by cases h0);cases bL;rw[List.getElem?_take] at hj;split at hj
     ·rw[yVx,Nat.zero_add,yZh hh];exact hj
     ·cases hj) W (aZ.take _) al hg av aD (λg bp bI bK=>?_)
    exact h8 g bp ⟨bI,bK⟩
   ·have h8:=h.1 (dEt U);have bk:(m+ys.length)*s<=cs.length:=Nat.le_trans (Nat.mul_le_mul_right _ U) a8;have aB:m*s+A.length<=c.size:=by rw[az,<- Nat.add_mul,bJ];exact bk
    have J:=yGn X.w T T' o.type e E i hT hi b m cap (.slice ax ys.length af) ys.length A c W U hh (by rw[ak];exact aB);rw[ak] at J;have hr:(execOp a.eval o).run C.P X.w=.ok (.value (.slice (some ⟨b,0,none⟩) (m+ys.length) cap))
      (X.w.setRow b (c.toList.take (m*s)++A++c.toList.drop (m*s+A.length)).toArray):=by
     rw[yZ8 ho];simp only[builtin,List.map_toArray,List.map_cons,List.map_nil,ex,ey,Sem.run_bind,J,Result.andThen_ok,Sem.run_pure]
    have ac:(c.toList.take (m*s)++A++c.toList.drop (m*s+A.length)).toArray.size=c.size:=by simp;omega
    have ai:∀i,i<X.L b->(c.toList.take (m*s)++A++c.toList.drop (m*s+A.length)).toArray[i]?=c[i]?:=λi hi=>by rw[hL] at hi;omega
    have hI:=hA.inv.row hh ac (n:=0) (so:=some (.box (yXb cs (m*s) (ys.flatMap IV.cells)))) (by omega) ai (by rw[bi];simp) (λi hi=>by
     cases hi;refine⟨by simp[WS.row],_,E,setRow_heap X.w b c _ E (0,0) hh,?_⟩;have:=zZ2 aZ al (off:=m*s);exact⟨by simpa using this.1,λi r z hr hz=>zKz hh ac (by omega) ai (this.2 i r z (by simpa using hr) hz)⟩)
    exact yQh hr aN (yXi (x:=.raw _) hI hA.ad hA.hd (.raw _ trivial) h8)
  clear h3;obtain⟨vy,hy,h5⟩:=yQ5.1 h4;clear h4;obtain⟨bu,ys,rfl,ae,⟨av,aD⟩,h⟩:=xKx h5;clear h5;simp only at ae av h;have aq:=(hA.v hx).1;have aX:=(hA.v hy).1;have hys:=zWk ae;obtain⟨ax,af,A,ey,_,az,al,a7,a6⟩:=zUm aX hys;have ay:∀u∈A,u.oneCell'=true:=zZy al (by
   simp only[List.all_eq_true];intro q hq;obtain⟨y',aY,hq⟩:=List.mem_flatMap.1 hq;exact List.all_eq_true.1 (yJf (List.all_eq_true.1 ae y' aY)).2.2.1 q hq)
  have W:Src C.P i.size T' (.slice ax ys.length af) ys.length A X.w:=by
   rw[ak];exact Src.of bm az a7 (λh0=>by rw[a6 h0];rfl) ay
  obtain⟨aS,aa,ex,_,bl,D⟩:=V.sl_len aq;have ab:ys=[]->finK o.dst K ad fr (.val (.sl tg O)) X.st ds->o.wpIn (yZo ro) n C.P a X.w (PK C X0 N K) Q:=by
   intro F hf;have bC:A=[]:=by subst F;exact List.eq_nil_of_length_eq_zero (by rw[az];simp)
   rw[F,bC] at W;have J:(Builtin.append_ #[T,T'] o.type #[.slice aS O.length aa,.slice ax ys.length af]).run C.P X.w=.ok (.slice aS O.length aa) X.w:=by
    rw[F];exact run_append_nothing X.w T T' o.type e i hT hi aS O.length aa bl _ W
   have hr:(execOp a.eval o).run C.P X.w=.ok (.value (a.eval x)) X.w:=by
    rw[yZ8 ho];simp only[builtin,List.map_toArray,List.map_cons,List.map_nil,ex,ey,Sem.run_bind,J,Result.andThen_ok,Sem.run_pure]
   exact yQh hr aN (hA.val aq hf)
  have aG:∀(g₀:Nat) (f:Bool) (au:∀x∈O,x.cells.length=s) (hg:aa<O.length+ys.length)
    (hf:∀g,X.st g=none->finK o.dst K ad fr (.val (.sl ⟨f,.app g,s⟩ (O++ys))) (((X.drop g₀).st:ISt).put g (some (.front (O.length+ys.length) s))) ds),o.wpIn (yZo ro) n C.P a X.w (PK C X0 N K) Q:=by
   intro g₀ f au hg hf;obtain⟨bU,bO,olds,bo,_,a1,bz,bB,bA⟩:=zUm aq au;rw[ex] at bo;cases bo;exact xW9 hA ho hT hi aO hz hzs ex ey (by rw[ak];exact wXs a1 bB (λh0=>by rw[bA h0];rfl)) W bz al au hys hg av aD f hf
  have au:tg.es=s->∀x∈O,x.cells.length=s:=λhe x hx=>by
   obtain⟨_,_,_,_,_,hs,_⟩:=V.sl_inv aq;rw[hs x hx,he]
  cases hc:tg.cap with
  | none =>
   rw[hc] at h;cases F:ys with
   | nil=>rw[F] at h;exact ab F h
   | cons y0 yt=>rw[F] at h;exact h.elim
  | nil =>
   rw[hc] at h D;obtain⟨h1,h2,h3⟩:=D;have aL:O=[]:=List.eq_nil_of_length_eq_zero h2;cases F:ys with
   | nil=>rw[F] at h;exact ab F h
   | cons y0 yt =>
    rw[F] at h;by_cases aU:yWe esc o.dst=true
    ·have G:∀g cap,(X.st g=none/\(y0::yt).length<=cap)->finK o.dst K ad fr (.val (.raw (.slice (some ⟨g,0,none⟩) (y0::yt).length cap)))
       (X.st.put g (some (.box ((y0::yt).flatMap IV.cells++List.replicate ((cap-(y0::yt).length)*s) .junk)))) ds:=by
      simp only[if_pos aU] at h;exact h
     rw[<- F] at G;rw[h1,h2,h3] at ex;refine zJn hA ho hT hi aO hz hzs ex ey (olds:=[]) (oc:=[]) (g₀:=X.w.heap.size) rfl W VL.nil al (by rw[F];simp) (by simpa[aL] using av) (by simpa[aL] using aD) (λg cap hg hc=>?_);rw[aj _ ah,List.nil_append];simp only[Nat.zero_add] at hc ⊢;exact G g cap ⟨hg,hc⟩
    have G:∀g,X.st g=none->finK o.dst K ad fr (.val (.sl ⟨true,.app g,s⟩ (y0::yt))) (X.st.put g (some (.front (y0::yt).length s))) ds:=by
     simp only[if_neg aU] at h;exact h
    rw[<- F] at G;refine aG X.w.heap.size true (by rw[aL];simp) (by rw[F,h3,h2];simp) (λg hg=>?_);rw[aj _ ah,aL,List.nil_append,List.length_nil,Nat.zero_add];exact G g hg
  | full =>
   rw[hc] at h D;cases F:ys with
   | nil=>rw[F] at h;exact ab F h.2
   | cons y0 yt =>
    rw[F] at h;obtain⟨aC,h⟩:=h;have G:∀g,X.st g=none->finK o.dst K ad fr (.val (.sl ⟨true,.app g,s⟩ (O++y0::yt))) (X.st.put g (some (.front (O.length+(y0::yt).length) s))) ds:=h;rw[<- F] at G;simp only[zXu] at D;refine aG X.w.heap.size true (au aC) (by rw[F,D];simp) (λg hg=>?_);rw[aj _ ah];exact G g hg
  | app g₀ =>
   rw[hc] at h D;obtain⟨aC,bf,G⟩:=h;simp only[zXu] at D;rcases Nat.lt_or_ge aa (O.length+ys.length) with hg|U
   ·exact aG g₀ tg.fresh (au aC) hg (λg hg=>G g (.inr hg))
   ·obtain⟨c,E,hh,hL,b4⟩:=hA.inv.good.ok g₀ _ bf;obtain⟨fresh,cp,es⟩:=tg;simp only at aC hc G;subst aC hc D;rw[ex] at aq;obtain⟨aB,ac,ai,bF,bw⟩:=V.push (so:=some (.front (O.length+ys.length) es)) aq hh hL al hys U aD;have J:=yGn X.w T T' o.type e E i hT hi g₀ O.length aa (.slice ax ys.length af) ys.length A c W U hh (by rw[ak];exact aB);rw[ak] at J;have hr:(execOp a.eval o).run C.P X.w=.ok (.value (.slice (some ⟨g₀,0,none⟩) (O.length+ys.length) aa))
      (X.w.setRow g₀ (c.toList.take (O.length*es)++A++c.toList.drop (O.length*es+A.length)).toArray):=by
     rw[yZ8 ho];simp only[builtin,List.map_toArray,List.map_cons,List.map_nil,ex,ey,Sem.run_bind,J,Result.andThen_ok,Sem.run_pure]
    have hI:=hA.inv.row hh ac (n:=(O.length+ys.length)*es) (so:=some (.front (O.length+ys.length) es)) (by rw[hL];exact Nat.mul_le_mul_right _ (Nat.le_add_right _ _)) ai (by rw[bf];simp) (λi hi=>by
     cases hi;exact⟨_,E,setRow_heap X.w g₀ c _ E (0,0) hh,by simp[WS.row],by simp only[WS.row,if_true];rw[ac];exact bF⟩)
    have be:(X.row g₀ (c.toList.take (O.length*es)++A++c.toList.drop (O.length*es+A.length)).toArray ((O.length+ys.length)*es) (some (.front (O.length+ys.length) es))).st =
      (X.st.put g₀ none).put g₀ (some (.front (O.length+ys.length) es)):=by
     funext b;simp only[WS.row,ISt.put];split<;>rfl
    exact yQh hr aN (yXi hI hA.ad hA.hd bw (by rw[be];exact G g₀ (.inl rfl)))
 ·cases hq
 ·cases hq
omit hA in
theorem zU6 {A:Array Value}{m:Nat}(F:0<A.size){u:Value}(E:u∈(Builtin.zeroCells A m).toList):u∈A.toList:=by
 unfold Builtin.zeroCells at E;rw[Array.toList_map] at E;obtain⟨i,_,rfl⟩:=List.mem_map.1 E;have D:=Nat.mod_lt i F;rw[getElem!_pos A (i%A.size) D];exact Array.mem_toList_iff.2 (Array.getElem_mem D)
theorem xKr {T:TypeId}{x:Operand}(ho:o.op=.call ⟨.builtin .clear,⟨[x]⟩,⟨[T]⟩⟩)
  (h:yQ8 (slI C.P T) λe=>yQ8 (yKl C.P e.1) λ_=>yQ8 (evV C.gl fr x) λx=>zGv e x (finK o.dst K ad fr) X.st ds):o.wpIn (yZo ro) n C.P a X.w (PK C X0 N K) Q:=by
 obtain⟨⟨e,ag,s,by_⟩,ab,h0⟩:=yQ5.1 h;clear h;obtain⟨zi,aj,h1⟩:=yQ5.1 h0;clear h0;obtain⟨vx,hx,h2⟩:=yQ5.1 h1;clear h1;have ah:∀c,o.op≠.defer c:=by rw[ho];intro c hc;cases hc
 obtain⟨hT,aC,i,G,aD,_,aF⟩:=yYo ab;obtain⟨z,hz,hzs⟩:=zUo ab G;have A:(zeroValue e).run C.P X.w=.ok z X.w:=by simp only[zeroValue,Sem.run_bind,run_typeInfo X.w G,Result.andThen_ok,hz,Sem.run_pure]
 rcases zUn h2 with⟨_,_,_,h3⟩|⟨b,off,m,cap,rfl,h⟩
 ·exact h3.elim
 clear h2;have ex:=V.raw_inv (hA.v hx).1;by_cases hm:m=0
 ·subst hm;rw[if_pos rfl] at h;have hr:(execOp a.eval o).run C.P X.w=.ok (.value (.tuple #[])) X.w:=by
   rw[yZ8 ho];simp[builtin,ex,Builtin.clear_,run_underlying hT]
  exact yQh hr ah (hA.val (.tup [] [] rfl (λi r c h=>by simp at h)) h)
 rw[if_neg hm] at h;obtain⟨ob,af,h4⟩:=yQ5.1 h;clear h;obtain⟨cs,rfl,h5⟩:=xQ5 h4;clear h4;obtain⟨aq,h⟩:=yZ6 h5;clear h5;simp only at aq h;obtain⟨hL,c,E,hh,O⟩:=hA.inv.good.ok b _ af;have aE:c.size=cs.length:=by rw[<- O.1];simp
 have J:(Builtin.zeroCells z.cells m).toList.length=m*s:=by rw[Array.length_toList,size_zeroCells,hzs]
 have ae:∀u∈(Builtin.zeroCells z.cells m).toList,u.oneCell'=true:=λu hu=>by
  obtain⟨v,W,am,al,U⟩:=zU5 aj X.w;rw[A] at W;cases W;exact zZy (V.cells (am C.B X.L X.w) (zXq U) al) U u (zU6 (by omega) hu)
 have aa:=run_storeCells_at (P:=C.P) b off E (Builtin.zeroCells z.cells m).toList 0 c X.w hh (by omega) ae;simp only[Nat.add_zero] at aa;have hr:(execOp a.eval o).run C.P X.w=.ok (.value (.tuple #[])) (X.w.setRow b (c.toList.take off++(Builtin.zeroCells z.cells m).toList++c.toList.drop (off+(Builtin.zeroCells z.cells m).toList.length)).toArray):=by
  rw[yZ8 ho];simp[builtin,ex,Builtin.clear_,run_underlying hT,hm,A,aa]
 have D:(c.toList.take off++(Builtin.zeroCells z.cells m).toList++c.toList.drop (off+(Builtin.zeroCells z.cells m).toList.length)).toArray.size=c.size:=by simp only[List.size_toArray,lLa,List.length_take,List.length_drop,Array.length_toList] at J ⊢;omega
 have F:∀i,i<X.L b->(c.toList.take off++(Builtin.zeroCells z.cells m).toList++c.toList.drop (off+(Builtin.zeroCells z.cells m).toList.length)).toArray[i]?=c[i]?:=λi G=>by rw[hL] at G;omega
 have hI:=hA.inv.row hh D (n:=0) (so:=some (.box (yXb cs off (List.replicate (m*s) .junk)))) (by omega) F (by rw[af];simp) (λi G=>by
  cases G;refine⟨by simp[WS.row],_,E,setRow_heap X.w b c _ E (0,0) hh,?_⟩;have hj:=VL.junks (B:=C.B) (L:=X.L) (w:=X.w) (Builtin.zeroCells z.cells m).toList;rw[J] at hj;have:=zZ2 O hj (off:=off);exact⟨by simpa using this.1,λi r z hr hz=>zKz hh D (by omega) F (this.2 i r z (by simpa using hr) hz)⟩)
 exact yQh hr ah (yXi (x:=.tup []) hI hA.ad hA.hd (.tup [] [] rfl (λi r c h=>by simp at h)) h)
theorem zKr {esc:List Nat}{T:TypeId}{x y:Operand}(ho:o.op=.makeSlice T x y)
  (h:yQ8 (slI C.P T) λe=>yQ8 (evV C.gl fr x) λl=>intV l λ_ p=>yQ8 (evV C.gl fr y) λm=>intV m λ_ q=>xVf esc o.dst e p q (finK o.dst K ad fr) X.st ds):o.wpIn (yZo ro) n C.P a X.w (PK C X0 N K) Q:=by
 obtain⟨⟨e,ag,s,by_⟩,E,h1⟩:=yQ5.1 h;clear h;obtain⟨vx,hx,h2⟩:=yQ5.1 h1;clear h1;obtain⟨kp,p,rfl,h3⟩:=yVv h2;clear h2;obtain⟨vy,hy,h4⟩:=yQ5.1 h3;clear h3;obtain⟨kq,q,rfl,⟨rfl,aa,W,au⟩,h⟩:=yVv h4;clear h4;simp only at W h;have G:∀c,o.op≠.defer c:=by rw[ho];intro c hc;cases hc
 obtain⟨hT,O,i,D,aq,_,ac⟩:=yYo E;obtain⟨z,hz,hzs⟩:=zUo E D;have U:i.size=s:=by have:=zUb O;simpa[D] using this
 have ex:=V.raw_inv (hA.v hx).1;have ey:=V.raw_inv (hA.v hy).1;have F:=run_make (P:=C.P) X.w T e i z hT D hz kp kq 0 q (Int.le_refl _) aa (by rw[ac,Int.mul_comm];omega) (by omega);have hr:(execOp a.eval o).run C.P X.w=.ok (.value (.slice (some ⟨X.w.heap.size,0,none⟩) 0 q.toNat)) (X.w.alloc (.cells (madeCells z.cells (q.toNat*i.size)) e)):=by
  unfold execOp;rw[ho];simp only[ex,ey,Sem.run_bind,F,Result.andThen_ok,Sem.run_pure,Int.toNat_zero]
 have J:(madeCells z.cells (q.toNat*i.size)).toList.length=q.toNat*s:=by rw[Array.length_toList,size_madeCells,U]
 have A:X.st X.w.heap.size=none:=by
  cases hq:X.st X.w.heap.size with
  | none=>rfl
  | some o=>have:=hA.inv.good.lt hq;omega
 split at h
 ·have hI:=hA.inv.new (.cells (madeCells z.cells (q.toNat*i.size)) e) 0 (some (.box (List.replicate (q.toNat*s) .junk))) (λi' D=>by
   cases D;refine⟨by simp[WS.new],_,e,yQr _ _,by rw[J,List.length_replicate],λj r c _ hc=>?_⟩;obtain rfl:=List.eq_of_mem_replicate (lMg hc);exact .junk r)
  exact yQh hr G (yXi (x:=.raw (.slice (some ⟨X.w.heap.size,0,none⟩) 0 q.toNat)) hI hA.ad hA.hd (.raw _ trivial) (h X.w.heap.size A))
 have ab:=zV9 (X:=X) (vs:=[]) (rest:=(madeCells z.cells (q.toNat*i.size)).toList) (ys:=[]) (s:=s) (cap:=q.toNat) (e:=e) (cp:=.app X.w.heap.size) (so:=some (.front 0 s)) hA.inv.good VL.nil (λ_ h=>by cases h) (by simp) (by simp) rfl
  (λg _=>by rw[List.nil_append,J];exact Nat.le_refl _)
 have hI:=hA.inv.new (.cells (madeCells z.cells (q.toNat*i.size)) e) 0 (some (.front 0 s)) (λi D=>by
  cases D;refine⟨_,e,yQr _ _,by simp[WS.new],?_⟩;simp[WS.new])
 exact yQh hr G (yXi hI hA.ad hA.hd ab (h X.w.heap.size A))
end
end Go.Iv
namespace Go.Iv
open Go
theorem zZw {ro:Option Nat}{n:Nat}{P:Program}{f:FuncId}{args:Array Value}{w:World}{R:Ending->World->Prop}(h:Calls P f args w R):CallsIn (yZo ro) n P f args w R :=
 callsIn_wide (n:=n).2 h
theorem zUq {ro:Option Nat}{m n:Nat}{P:Program}{l:Nat}{f:FuncId}{tmps:Array Value}{assign body:Code}{w:World}{R:Ending->World->Prop}(h:RoundIn Fence.wide m P l f tmps assign body w R) :
  RoundIn (yZo ro) n P l f tmps assign body w R :=
 ⟨trivial,λc cs _=>h.2 c cs (room_wide _)⟩
theorem zZv {P:Program}{g:FuncId}{D cs E:List Value}{w:World}{R:Value->World->Prop}(A:entI P g=true)(h:Calls P g ⟨D++E++cs⟩ w λe w'=>∃v,e=.returned v/\R v w') :
  CallsVal P (.func (.func g) ⟨D⟩ ⟨cs⟩) ⟨E⟩ w R:=by
 unfold entI at A;cases F:P.funcs[g]? with
 | none=>simp[F] at A
 | some fn =>
  simp only[F,bAt,bne_iff_ne,ne_eq] at A;have J:¬ fn.body.isNone=true:=by
   have:=A.2;cases O:fn.body<;>simp_all
  have G:(do let d <- Deferred.ofValue (.func (.func g) ⟨D⟩ ⟨cs⟩) ⟨E⟩;invoke d.target d.args:Sem Next).run P w=.ok (.enter g ⟨D++E++cs⟩) w:=by
   simp only[Deferred.ofValue,Sem.run_bind,Sem.run_pure,Result.andThen_ok,invoke,callFunc,run_program,F];rw[if_neg (by simpa using A.1),if_neg J];simp
  unfold CallsVal;rw[G];exact⟨rfl,h⟩
section
variable {C:Cx}{X0 X:WS}{N:Nat}{fr:Fr}{ds:List Dfd}{a:Act}{ad:Ad}{K:Kt}{ro:Option Nat}{n:Nat}{Q:Exit->Act->World->Prop}{o:Oper}
variable (hA:At C X0 N X fr ds a ad o.dst)
include hA
theorem xUh {esc:List Nat}{pf:FuncId->List IV->Option IV}(aa:∀g A v,pf g A=some v->entI C.P g=true/\∀st,ICall C.P C.gl g A st (λr st'=>r=v/\st'=st)){x:Operand}{A:Array Operand}{ts:Array TypeId}(ho:o.op=.call ⟨.value x,A,ts⟩)
  (h:xZ2 esc pf x (evL C.gl fr A.toList) (finK o.dst K ad fr) X.st ds (yQ8 (evV C.gl fr x) λf=>fnV f λf first E=>yQ8 (evL C.gl fr A.toList) λA=>callV C.P C.gl f first E A X.st (zWe (finK o.dst K ad fr) ds))) :
  o.wpIn (yZo ro) n C.P a X.w (PK C X0 N K) Q:=by
 replace h:yQ8 (evV C.gl fr x) λf=>fnV f λf first E=>yQ8 (evL C.gl fr A.toList) λA=>callV C.P C.gl f first E A X.st (zWe (finK o.dst K ad fr) ds):=by
  unfold xZ2 at h;split at h
  ·rename_i g;split at h
   ·obtain⟨ys,hys,h1⟩:=yQ5.1 h;obtain⟨v,W,h2⟩:=yQ5.1 h1;obtain⟨F,hc⟩:=aa g ys v W;refine yQ5.2 ⟨.fn (.func g) [] [],rfl,?_⟩;show yQ8 (evL C.gl fr A.toList) λA=>callV C.P C.gl (.func g) [] [] A X.st (zWe (finK o.dst K ad fr) ds);refine yQ5.2 ⟨ys,hys,?_⟩;show if entI C.P g=true then ICall C.P C.gl g ([]++ys++[]) X.st (zWe (finK o.dst K ad fr) ds) else False
    rw[if_pos F,List.nil_append,List.append_nil];exact (hc X.st).mono λr st' hr=>by obtain⟨rfl,rfl⟩:=hr;exact h2
   ·exact h
  ·exact h
 obtain⟨fv,hf,h1⟩:=yQ5.1 h;clear h;obtain⟨f,first,E,rfl,h2⟩:=xVx h1;clear h1;obtain⟨ys,hys,h⟩:=yQ5.1 h2;clear h2;have ab:∀c,o.op≠.defer c:=by rw[ho];intro c hc;cases hc
 have U:=(hA.v hf).1;obtain⟨fs,cs,ef,ac,af⟩:=V.fn_inv U;have G:=wKi hA.inv.good hA.inv.fr hys;have D:CallsVal C.P (a.eval x) ⟨A.toList.map a.eval⟩ X.w (ends C X (zWe (finK o.dst K ad fr) ds)):=by
  unfold callV at h;split at h
  ·split at h
   ·rename_i F;rw[ef];exact zZv F (h C.B X (fs++A.toList.map a.eval++cs) hA.inv.good rfl ((ac.append G).append af))
   ·exact h.elim
  ·exact h C.B X (a.eval x) (A.toList.map a.eval) hA.inv.good rfl U G
 have ae:execOp a.eval o=(do let d <- Deferred.ofValue (a.eval x) ⟨A.toList.map a.eval⟩;invoke d.target d.args):=by
  unfold execOp;rw[ho];have:A.map a.eval=⟨A.toList.map a.eval⟩:=by apply Array.ext';simp
  simp only[resolve,this]
 refine⟨λ_ _=>trivial,?_⟩;rw[Oper.semAt_eq _ _ _ ab,ae];unfold CallsVal at D;have J:∀v w',ends C X (zWe (finK o.dst K ad fr) ds) v w'->PK C X0 N K (a.put o.dst v) w':=by
  rintro v w' ⟨X',y,rfl,hg,F,W,hk⟩;exact yXi (hA.inv.ext' F hg) hA.ad hA.hd W hk
 generalize (do let d <- Deferred.ofValue (a.eval x) ⟨A.toList.map a.eval⟩;invoke d.target d.args:Sem Next).run C.P X.w=r at D ⊢;cases r with
 | halt hh w'=>exact D.elim
 | ok nx w' =>
  cases nx with
  | enter g args =>
   obtain⟨rfl,hc⟩:=D;rw[Oper.uponIn_enter];refine⟨(λh0=>by cases h0),(zZw hc).mono λe O F=>?_⟩;obtain⟨v,rfl,hR⟩:=F;exact J v O hR
  | round l g tmps assign body =>
   obtain⟨rfl,hc⟩:=D;rw[Oper.uponIn_round];refine⟨(λh0=>by cases h0),(zUq hc).mono λe O F=>?_⟩;obtain⟨v,rfl,hR⟩:=F;exact J v O hR
  | _=>exact D.elim
theorem xKq {x:Operand}{D:Array Operand}{W:Array TypeId}(ho:o.op=.defer ⟨.value x,D,W⟩)(F:ro=none)
  (h:yQ8 (evV C.gl fr x) λf=>fnV f λf first A=>yQ8 (evL C.gl fr D.toList) λD=>finK o.dst K ad fr .nop X.st (.call f A (first++D)::ds)) :
  o.wpIn (yZo ro) n C.P a X.w (PK C X0 N K) Q:=by
 obtain⟨fv,hf,h1⟩:=yQ5.1 h;clear h;obtain⟨f,first,A,rfl,h2⟩:=xVx h1;clear h1;obtain⟨ys,hys,h⟩:=yQ5.1 h2;clear h2;subst F;obtain⟨U,cs,ef,G,O⟩:=V.fn_inv (hA.v hf).1;have E:=wKi hA.inv.good hA.inv.fr hys;have J:(execOp a.eval o).run C.P X.w=.ok (.defer { target:=.fn f ⟨cs⟩,args:=⟨U++D.toList.map a.eval⟩ }) X.w:=by
  unfold execOp;rw[ho];have:D.map a.eval=⟨D.toList.map a.eval⟩:=by apply Array.ext';simp
  simp only[resolve,this,ef,Deferred.ofValue,Sem.run_bind,Sem.run_pure,Result.andThen_ok];simp
 refine⟨λ_ _=>trivial,?_⟩;have hs:Oper.semAt (yZo none).round a.eval o=execOp a.eval o:=rfl;rw[hs,J,Oper.uponIn_defer];cases hd:o.dst with
 | some d=>rw[hd] at h;exact h.elim
 | none =>
  rw[hd] at h;have hI:Inv C X0 N X fr (.call f A (first++ys)::ds) { a with defers:={ target:=.fn f ⟨cs⟩,args:=⟨U++D.toList.map a.eval⟩ }::a.defers } :=
   ⟨hA.inv.good,hA.inv.ext,hA.inv.fr,hA.inv.size,.cons ⟨cs,_,rfl,O,G.append E⟩ hA.inv.ds (λr h=>by cases h)⟩
  exact⟨X,ad,fr,_,rfl,hI,hA.ad,h⟩
end
theorem zX8 {c:Cf}{B:Nat}{X0 X:WS}{N:Nat}{fr:Fr}{ds:List Dfd}{a:Act}{ad:Ad}{K:Kt}{ro:Option Nat}{n:Nat}{Q:Exit->Act->World->Prop}{o:Oper}
  (A:c.rd=false->ro=none) (hA:At (c.cx B) X0 N X fr ds a ad o.dst) (h:vcOp c o.dst o.op K ad fr X.st ds):o.wpIn (yZo ro) n c.P a X.w (PK (c.cx B) X0 N K) Q:=by
 unfold vcOp vcR at h;split at h
 case h_1=>exact zYp hA (.inl ‹_›) h
 case h_2=>exact zYp hA (.inr ‹_›) h
 case h_3=>exact xUd hA ‹_› h
 case h_4=>exact xKu hA ‹_› h
 case h_5=>exact wZs hA ‹_› h
 case h_6=>exact xKs hA ‹_› h
 case h_7=>exact zJq hA ‹_› h
 case h_8=>exact xUf hA ‹_› h
 case h_9=>exact xKk hA ‹_› h
 case h_10=>exact zY2 hA ‹_› h
 case h_11=>exact xKt hA ‹_› h
 case h_12=>exact xUb hA ‹_› h
 case h_13=>exact zUl hA ‹_› h
 case h_14=>exact zY3 hA ‹_› h
 case h_15=>exact zUj hA ‹_› h
 case h_16=>exact xKl hA ‹_› h
 case h_17=>exact zKt hA ‹_› h
 case h_18=>exact xKo hA ‹_› h
 case h_19=>exact zKs hA ‹_› h
 case h_20=>exact xKn hA ‹_› h
 case h_21=>exact xZt hA ‹_› h
 case h_22=>exact yGi hA (.inl ‹_›) h
 case h_23=>exact zUk hA ‹_› h
 case h_24=>exact xUh hA c.pok ‹_› h
 case h_25=>exact wZq hA ‹_› h
 case h_26=>exact xZu hA ‹_› h
 case h_27=>exact wZp hA ‹_› h
 case h_28 =>
  split at h
  ·exact h.elim
  ·rename_i D;exact xKq hA ‹_› (A (by simpa using D)) h
 case h_29=>exact wZr hA ‹_› h
 case h_30=>exact xKr hA ‹_› h
 case h_31=>exact zKr hA ‹_› h
 case h_32=>exact yGi hA (.inr ‹_›) h
 case h_33=>exact wZo hA ‹_› h
 case h_34 =>
  split at h
  ·exact h.elim
  ·exact xZr hA ‹_› h
 case h_35 =>
  split at h
  ·exact h.elim
  ·exact xUe hA ‹_› h
 case h_36 =>
  split at h
  ·exact h.elim
  ·exact xKp hA ‹_› h
 case h_37=>exact h.elim
end Go.Iv
namespace Go.Iv
open Go
def PQ (C:Cx)(X0:WS)(N:Nat)(Q:Kc)(e:Exit)(a:Act)(w:World):Prop :=
 ∃X fr ds,X.w=w/\Inv C X0 N X fr ds a/\Q e fr X.st ds
theorem zXy {c:Cf}{B:Nat}{X0 X:WS}{N:Nat}{fr:Fr}{ds:List Dfd}{a:Act}{ops:Array Oper}{j d:Nat}{b:Bool}(G:Inv (c.cx B) X0 N X fr ds a)(hd:yWk ops.toList j=some d)(F:d<N)
  (J:fr d=.iv (.raw (.bool b))):yielded ops a.tmps j=some b:=by
 have h1:((ops[j]?).bind (·.dst))=some d:=by simpa[yWk] using hd
 have A:=G.fr.slot d;rw[J] at A;have E:=V.raw_inv A;have D:d<a.tmps.size:=by rw[G.size];exact F
 have h2:a.tmps[d]?=some (.bool b):=by
  unfold tm at E;rw[Array.getD_eq_getD_getElem?,Array.getElem?_eq_getElem D,Option.getD_some] at E;rw[Array.getElem?_eq_getElem D,E]
 unfold yielded;rw[h1];simp only[Option.bind_some,h2]
theorem zXz {c:Cf}{B:Nat}{X0 X:WS}{N:Nat}{fr:Fr}{ds:List Dfd}{a:Act}{ops:Array Oper}{j d:Nat}{t:Array Value}(G:Inv (c.cx B) X0 N X fr ds a)(hd:yWk ops.toList j=some d)(F:d<N)
  (J:fr d=.iv (.raw (.tuple t))):yielded ops a.tmps j=none:=by
 have h1:((ops[j]?).bind (·.dst))=some d:=by simpa[yWk] using hd
 have A:=G.fr.slot d;rw[J] at A;have E:=V.raw_inv A;have D:d<a.tmps.size:=by rw[G.size];exact F
 have h2:a.tmps[d]?=some (.tuple t):=by
  unfold tm at E;rw[Array.getD_eq_getD_getElem?,Array.getElem?_eq_getElem D,Option.getD_some] at E;rw[Array.getElem?_eq_getElem D,E]
 unfold yielded;rw[h1];simp only[Option.bind_some,h2]
theorem xJo {ops:Array Oper}{j d:Nat}(h:yWk ops.toList j=some d):∃o∈ops.toList,o.dst=some d:=by
 unfold yWk at h;cases A:ops.toList[j]? with
 | none=>simp[A] at h
 | some o=>exact⟨o,lMg A,by simpa[A] using h⟩
theorem xZs {c:Cf}{B:Nat}{X0:WS}{N:Nat}{ro:Option Nat}{n:Nat}{ops:Array Oper}{Q:Kc}(ab:c.rd=false->ro=none)(hN:∀o∈ops.toList,∀d,o.dst=some d->d<N) :
  ∀(rest:List Oper) (i:Nat) (X:WS) (fr:Fr) (ds:List Dfd) (a:Act) (ad:Ad),ops.toList.drop i=rest->Inv (c.cx B) X0 N X fr ds a->AdOk fr a.tmps ad->yK5 c ops.toList rest (Q .normal) ad fr X.st ds →
   wpOpsIn (yZo ro) n c.P ops (PQ (c.cx B) X0 N Q) (List.range' i rest.length) a X.w
 | [],i,X,fr,ds,a,ad,_,G,_,h=>by
  simp only[List.length_nil,List.range'_zero,wpOpsIn];exact⟨X,fr,ds,rfl,G,h⟩
 | o::rest,i,X,fr,ds,a,ad,W,G,E,h=>by
  have ho:ops[i]?=some o:=by
   have:ops.toList[i]?=some o:=by
    have:=congrArg (·[0]?) W;simpa[List.getElem?_drop] using this
   simpa using this
  have F:o∈ops.toList:=by
   have:o∈ops.toList.drop i:=by rw[W];simp
   exact List.mem_of_mem_drop this
  have ag:ops.toList.drop (i+1)=rest:=by
   have:=congrArg (List.drop 1) W;rw[List.drop_drop] at this;simpa[Nat.add_comm] using this
  have A:∀a' w',PK (c.cx B) X0 N (yK5 c ops.toList rest (Q .normal)) a' w'->wpOpsIn (yZo ro) n c.P ops (PQ (c.cx B) X0 N Q) (List.range' (i+1) rest.length) a' w':=by
   rintro a' w' ⟨X',ao,fr',an,rfl,am,ai,h'⟩;exact xZs ab hN rest (i+1) X' fr' an a' ao ag am ai h'
  have O:∀ad fr,AdOk fr a.tmps ad->Inv (c.cx B) X0 N X fr ds a->vcOp c o.dst o.op (yK5 c ops.toList rest (Q .normal)) ad fr X.st ds →
    o.wpIn (yZo ro) n c.P a X.w (wpOpsIn (yZo ro) n c.P ops (PQ (c.cx B) X0 N Q) (List.range' (i+1) rest.length)) (PQ (c.cx B) X0 N Q):=by
   intro ad fr E G h;exact Oper.wpIn_mono A (zX8 ab ⟨G,E,hN o F⟩ h)
  rw[List.length_cons,List.range'_succ];simp only[wpOpsIn,ho];unfold yK5 at h;split at h
  ·rename_i hg;have U:Region.wanted o (yielded ops a.tmps)=true:=by simp[Region.wanted,hg]
   rw[if_pos U];exact O ad fr E G h
  ·rename_i j D hg;split at h
   ·rename_i d hd;obtain⟨od,ac,ae⟩:=xJo (ops:=ops) (show yWk ops.toList j=some d from hd);have ah:=hN od ac d ae;cases J:fr d with
    | box cs=>rw[J] at h;exact h.elim
    | iv x =>
     cases x with
     | raw v =>
      cases v with
      | bool b =>
       rw[J,xJe fr d D b _ _ _ _ J] at h;have hy:=zXy G (show yWk ops.toList j=some d from hd) ah J;by_cases aa:b=D
       ·have U:Region.wanted o (yielded ops a.tmps)=true:=by simp[Region.wanted,hg,hy,aa]
        rw[if_pos U];exact O ad fr E G (h.1 aa)
       ·have al:b=!D:=by cases b<;>cases D<;>simp_all
        have U:¬ Region.wanted o (yielded ops a.tmps)=true:=by simp[Region.wanted,hg,hy,aa]
        rw[if_neg U];exact⟨λ_ _=>trivial,A _ _ (yXi G E (hN o F) (.raw _ trivial) (h.2 al))⟩
      | tuple t =>
       rw[J] at h;have hy:=zXz G (show yWk ops.toList j=some d from hd) ah J;have U:¬ Region.wanted o (yielded ops a.tmps)=true:=by simp[Region.wanted,hg,hy]
       rw[if_neg U];exact⟨λ_ _=>trivial,A _ _ (yXi G E (hN o F) (.raw _ trivial) h)⟩
      | _=>rw[J] at h;exact h.elim
     | _=>rw[J] at h;exact h.elim
   ·exact h.elim
theorem xZq {c:Cf}{B:Nat}{X0 X:WS}{N:Nat}{ro:Option Nat}{n id:Nat}{ops:Array Oper}{Q:Kc}{fr:Fr}{ds:List Dfd}{a:Act}(A:c.rd=false->ro=none)(D:∀o∈ops.toList,∀d,o.dst=some d->d<N)
  (E:Inv (c.cx B) X0 N X fr ds a) (h:yK5 c ops.toList ops.toList (Q .normal) Ad.none_ fr X.st ds):(Code.region id ops false).wpIn (yZo ro) n c.P (PQ (c.cx B) X0 N Q) a X.w:=by
 refine wpIn_region ?_;have:=xZs (Q:=Q) (ro:=ro) (n:=n) A D ops.toList 0 X fr ds a Ad.none_ rfl E .nil h
 rwa [Array.length_toList,<- List.range_eq_range'] at this
