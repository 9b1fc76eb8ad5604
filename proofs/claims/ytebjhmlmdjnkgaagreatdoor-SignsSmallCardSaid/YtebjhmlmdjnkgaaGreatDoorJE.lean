/- The layer of ideal values, part L: appen -/
import Derived.Test.YtebjhmlmdjnkgaaGreatDoorJD
import Derived.Deep.Upon
import Derived.Lib.AppendZeros
set_option linter.all false
namespace Go.Iv
open Go
def WS.drop (X:WS)(g:Nat):WS:={ X with st:=λb=>if b=g then none else X.st b }
section
variable {C:Cx}{X:WS}
theorem Good.drop_ext (g:Nat):Ext X (X.drop g):=⟨rfl,rfl,rfl,Nat.le_refl _,λ_=>Nat.le_refl _,λ_ _ _=>rfl,λ_ _ _=>⟨rfl,rfl⟩,λb _ h=>by simp only[WS.drop];split<;>first|rfl|exact h,λ_ _ h=>h,rfl⟩
theorem Good.drop (h:Good C X)(g:Nat):Good C (X.drop g) where
 ok b o hb:=by
  simp only[WS.drop] at hb;split at hb
  ·cases hb
  ·exact (h.ok b o hb).mono rfl rfl (λ_ _ hv=>hv)
 gl:=h.gl
 B:=h.B
 Lnew:=h.Lnew
 gsh:=h.gsh
 dr:=h.dr
theorem Inv.drop {X0:WS}{N:Nat}{fr:Fr}{ds:List Dfd}{a:Act}(h:Inv C X0 N X fr ds a)(g:Nat):Inv C X0 N (X.drop g) fr ds a:=h.ext' (Good.drop_ext g) (h.good.drop g)
theorem Inv.drew {X0:WS}{N:Nat}{fr:Fr}{ds:List Dfd}{a:Act}(h:Inv C X0 N X fr ds a):Inv C X0 N X.drew fr ds a:=h.ext' h.good.drew.1 h.good.drew.2
theorem zWh {r:Value}{tg:Tag}{xs:List IV}{s:Nat}(hv:C.v X r (.sl tg xs))(hes:∀x∈xs,x.cells.length=s) :
  ∃(ad:Option Addr) (cap:Nat) (vs:List Value),r=.slice ad xs.length cap/\xs.length<=cap/\vs.length=xs.length*s/\C.vl X vs (xs.flatMap IV.cells) /\
   (∀b,ad=some b->∀j v,vs[j]?=some v->X.w.cell? (b.add j)=some v)/\(ad=none->xs=[]):=by
 cases hv with
 | sl ad cap _ _ T vs hcap hlen hcl hs hvl hroom hfresh hplace hc =>
  by_cases hx:xs=[]
  ·subst hx;exact⟨ad,cap,[],rfl,by simp,by simp,VL.nil,λ_ _ _ _ h=>by simp at h,λ_=>rfl⟩
  ·have hts:tg.es=s:=by
    cases xs with
    | nil=>exact absurd rfl hx
    | cons x xs=>rw[<- hs x (by simp),<- hes x (by simp)]
   obtain⟨b,hb,hsp,_,hcell⟩:=hplace hx;refine⟨ad,cap,vs,rfl,hcl,by rw[hvl,hts],⟨?_,hc⟩,λb' hb' j v hj=>?_,λh0=>by rw[h0] at hb;cases hb⟩
   ·rw[yZp xs hs,hvl]
   ·rw[hb] at hb';cases hb';rw[yK0 _ hsp];exact hcell j v hj
theorem Src.of {P:Program}{w:World}{tx e':TypeId}{ad:Option Addr}{m cap s:Nat}{vs:List Value}(hk:P.underlying tx=some (.slice e'))(hl:vs.length=m*s)
  (hc:∀b,ad=some b->∀j v,vs[j]?=some v->w.cell? (b.add j)=some v) (hn:ad=none->m=0) (h1:∀u∈vs,u.oneCell'=true):Src P s tx (.slice ad m cap) m vs w:=by
 cases ad with
 | some b=>exact Go.Src.ofSlice w hk b m cap vs hl (hc b rfl) h1
 | none =>
  have hm:=hn rfl;subst hm;have:vs=[]:=List.eq_nil_of_length_eq_zero (by rw[hl];simp);subst this;exact Go.Src.ofNil w hk cap
theorem xZm {P:Program}{w:World}{ad:Option Addr}{m cap s:Nat}{vs:List Value}(hl:vs.length=m*s)
  (hc:∀b,ad=some b->∀j v,vs[j]?=some v->w.cell? (b.add j)=some v) (hn:ad=none->m=0):(Builtin.firstCells s m (.slice ad m cap)).run P w.drew=.ok vs.toArray w.drew:=by
 cases ad with
 | some b=>exact run_firstCells_some w.drew s m b m cap vs hl (hc b rfl)
 | none =>
  have hm:=hn rfl;subst hm;have:vs=[]:=List.eq_nil_of_length_eq_zero (by rw[hl];simp);subst this;exact run_firstCells_none w.drew s 0 0 cap
theorem V.stale {B:Nat}{L:Nat->Nat}{w:World}{r:Value}{cp:Cap}{s:Nat}{xs:List IV}(f:Bool)(h:V B L w r (.sl ⟨true,cp,s⟩ xs)):V B L w r (.sl ⟨f,cp,s⟩ xs):=by
 cases h with
 | sl ad cap _ _ T vs hcap hlen hcl hs hvl hroom hfresh hplace hc=>exact .sl ad cap _ _ T vs hcap hlen hcl hs hvl hroom (λ_=>hfresh rfl) hplace hc
theorem V.sl_inv {B:Nat}{L:Nat->Nat}{w:World}{r:Value}{t:Tag}{xs:List IV}(hv:V B L w r (.sl t xs)):∃(a:Option Addr) (cap:Nat) (T:TypeId) (vs:List Value),r=.slice a xs.length cap /\
  (∀x∈xs,x.cells.length=t.es)/\vs.length=xs.length*t.es/\(∀g,t.cap=.app g->∃T' k,shq w g=some ((T',k),true)/\cap*t.es<=k) /\
  (t.fresh=true->∀ad:Addr,a=some ad->B<=ad.block/\ad.off%t.es=0/\ety w ad.block=some T) /\
  (xs≠[]->∃ad:Addr,a=some ad/\ad.spot=Option.none/\ad.off+vs.length<=L ad.block/\(∀(i:Nat) (r:Value),vs[i]?=some r->w.cell? ⟨ad.block,ad.off+i,Option.none⟩=some r)) /\
  VL B L w vs (xs.flatMap IV.cells):=by
 cases hv with
 | sl a cap _ _ T vs _ _ _ hs hvl hr hf hp hc=>exact⟨a,cap,T,vs,rfl,hs,hvl,hr,hf,hp,by rw[yZp xs hs,hvl],hc⟩
theorem V.push {g s cap:Nat}{f:Bool}{c:Array Value}{E:TypeId}{xs ys:List IV}{news:List Value}{so:Option IObj}(hv:C.v X (.slice (some ⟨g,0,none⟩) xs.length cap) (.sl ⟨f,.app g,s⟩ xs))
  (hh:X.w.heap[g]?=some (.cells c E (0,0))) (hL:X.L g=xs.length*s) (hn:C.vl X news (ys.flatMap IV.cells)) (hys:∀y∈ys,y.cells.length=s) (hroom:xs.length+ys.length<=cap) (hlen:xs.length+ys.length<=140737488355328) :
  xs.length*s+news.length<=c.size/\(c.toList.take (xs.length*s)++news++c.toList.drop (xs.length*s+news.length)).toArray.size=c.size /\
  (∀i,i<X.L g->(c.toList.take (xs.length*s)++news++c.toList.drop (xs.length*s+news.length)).toArray[i]?=c[i]?)/\(xs.length+ys.length)*s<=c.size /\
  C.v (X.row g (c.toList.take (xs.length*s)++news++c.toList.drop (xs.length*s+news.length)).toArray ((xs.length+ys.length)*s) so) (.slice (some ⟨g,0,none⟩) (xs.length+ys.length) cap) (.sl ⟨f,.app g,s⟩ (xs++ys)):=by
 have hnl:news.length=ys.length*s:=by rw[hn.1,yZp ys hys]
 have hsum:(xs.length+ys.length)*s=xs.length*s+news.length:=by rw[hnl,Nat.add_mul]
 have hcs:cap*s<=c.size:=by
  obtain⟨_,_,_,_,he,_,_,hr,_⟩:=V.sl_inv hv;cases he;obtain⟨T',k,h1,h2⟩:=hr g rfl;simp only[shq,hh,Option.some.injEq,Prod.mk.injEq] at h1;grind
 have hle:(xs.length+ys.length)*s<=c.size:=Nat.le_trans (Nat.mul_le_mul_right _ hroom) hcs;have hsize:(c.toList.take (xs.length*s)++news++c.toList.drop (xs.length*s+news.length)).toArray.size=c.size:=by
  grind
 have htl:(c.toList.take (xs.length*s)).length=xs.length*s:=by rw[hsum] at hle;simp;omega
 have hkeep:∀i,i<X.L g->(c.toList.take (xs.length*s)++news++c.toList.drop (xs.length*s+news.length)).toArray[i]?=c[i]?:=λi hi=>by
  grind
 refine⟨by rw[<- hsum];exact hle,hsize,hkeep,hle,?_⟩;have hmono:∀r x,C.v X r x->C.v (X.row g (c.toList.take (xs.length*s)++news++c.toList.drop (xs.length*s+news.length)).toArray ((xs.length+ys.length)*s) so) r x :=
  λr x h=>zZj hh hsize (by rw[hL];exact Nat.mul_le_mul_right _ (Nat.le_add_right _ _)) hkeep h
 obtain⟨_,_,T,vs,he,hs,hvl,hr,hfresh,hplace,hvv⟩:=V.sl_inv hv;cases he;have hall:C.vl X (vs++news) ((xs++ys).flatMap IV.cells):=by rw[List.flatMap_append];exact hvv.append hn
 have hcell:∀i,(X.row g (c.toList.take (xs.length*s)++news++c.toList.drop (xs.length*s+news.length)).toArray ((xs.length+ys.length)*s) so).w.cell? ⟨g,i,none⟩ =
   (c.toList.take (xs.length*s)++news++c.toList.drop (xs.length*s+news.length))[i]?:=λi=>by
  simp only[WS.row];rw[yZm (setRow_heap X.w g c _ E (0,0) hh)]
 have key:=V.sl (B:=C.B) (L:=(X.row g (c.toList.take (xs.length*s)++news++c.toList.drop (xs.length*s+news.length)).toArray ((xs.length+ys.length)*s) so).L)
  (w:=(X.row g (c.toList.take (xs.length*s)++news++c.toList.drop (xs.length*s+news.length)).toArray ((xs.length+ys.length)*s) so).w)
  (some ⟨g,0,none⟩) cap ⟨f,.app g,s⟩ (xs++ys) T (vs++news)
 rw[lLa] at key;refine key rfl hlen hroom (λx hx=>?_) (by rw[lLa,hvl,hnl,Nat.add_mul]) (λg' hg'=>?_) (λhf ad ha=>?_) (λ_=>⟨_,rfl,rfl,?_,λi r hr'=>?_⟩) (λi r x h1 h2=>hmono _ _ (hall.2 i r x h1 h2))
 ·grind
 ·obtain⟨T',k,h1,h2⟩:=hr g' hg';exact⟨T',k,(yYe hh hsize g').trans h1,h2⟩
 ·obtain⟨h1,h2,h3⟩:=hfresh hf ad ha;exact⟨h1,h2,by unfold ety at h3 ⊢;rw[show shq (X.row g _ _ so).w ad.block=shq X.w ad.block from yYe hh hsize ad.block];exact h3⟩
 ·simp only[WS.row,if_true];grind
 ·rw[Nat.zero_add,hcell];simp only at hvl;by_cases hi:i<vs.length
  ·rw[List.getElem?_append_left hi] at hr';have hne:xs≠[]:=by rintro rfl;rw[hvl] at hi;simp at hi
   obtain⟨ad,ha,_,_,hold⟩:=hplace hne;cases ha;have h1:=hold i r hr';rw[Nat.zero_add] at h1;simp only at h1;rw[yZm hh] at h1;grind
  ·grind
theorem yV5 {P:Program}(w:World)(t tx ty e E:TypeId)(i:TypeInfo)(ht:P.underlying t=some (.slice e))(hi:P.info? e=some i)(b sLen sCap:Nat)(x:Value)(n:Nat)(news:List Value)(c:Array Value)(hs:Src P i.size tx x n news w)
  (hroom:sLen+n<=sCap) (hh:w.heap[b]?=some (.cells c E (0,0))) (hle:sLen*i.size+news.length<=c.size) :
  (Builtin.append_ #[t,tx] ty #[.slice (some ⟨b,0,none⟩) sLen sCap,x]).run P w =
   .ok (.slice (some ⟨b,0,none⟩) (sLen+n) sCap) (w.setRow b (c.toList.take (sLen*i.size)++news++c.toList.drop (sLen*i.size+news.length)).toArray):=by
 have hst:=run_storeCells_at (P:=P) b (sLen*i.size) E news 0 c w hh (by omega) hs.one;simp only[Nat.add_zero] at hst;rcases hs.kind with⟨e',hk⟩|hk<;>simp[Builtin.append_,run_underlying ht,run_underlying hk,sizeOf,typeInfo,hi,hs.len,hroom,hs.cells,Addr.add_lit,hst]
end
section
variable {C:Cx}{X0 X:WS}{N:Nat}{fr:Fr}{ds:List Dfd}{a:Act}{ad:Ad}{K:Kt}{ro:Option Nat}{n:Nat}{Q:Exit->Act->World->Prop}{o:Oper}
variable (hA:At C X0 N X fr ds a ad o.dst)
include hA
theorem xXg {T T' e:TypeId}{x y:Operand}{s by_ g₀:Nat}{i:TypeInfo}{z:Value}{xs ys:List IV}{olds news:List Value}{base ady:Option Addr}{sCap capy:Nat}(ho:o.op=.call ⟨.builtin .append,⟨[x,y]⟩,⟨[T,T']⟩⟩)
  (hT:C.P.underlying T=some (.slice e)) (hi:C.P.info? e=some i) (hby:i.bytes=by_) (hz:i.zero=some z) (hzs:z.cells.size=s)
  (ex:a.eval x=.slice base xs.length sCap) (ey:a.eval y=.slice ady ys.length capy) (hold:(Builtin.firstCells i.size xs.length (.slice base xs.length sCap)).run C.P X.w.drew=.ok olds.toArray X.w.drew)
  (hs:Src C.P i.size T' (.slice ady ys.length capy) ys.length news X.w) (ho1:C.vl X olds (xs.flatMap IV.cells)) (hn1:C.vl X news (ys.flatMap IV.cells)) (hxs:∀x∈xs,x.cells.length=s) (hys:∀x∈ys,x.cells.length=s)
  (hg:sCap<xs.length+ys.length) (hb1:(xs.length+ys.length)*by_<=140737488355328) (hb2:xs.length+ys.length<=140737488355328) (f:Bool)
  (h:∀g,X.st g=none->finK o.dst K ad fr (.val (.sl ⟨f,.app g,s⟩ (xs++ys))) (((X.drop g₀).st:ISt).put g (some (.front (xs.length+ys.length) s))) ds) :
  o.wpIn (yZ3 ro) n C.P a X.w (PK C X0 N K) Q:=by
 have hnd:∀c,o.op≠.defer c:=by rw[ho];intro c hc;cases hc
 have hfit:Builtin.nextslicecap (xs.length+ys.length) sCap*i.bytes<=281474976710656:=growslice_fits hg (by rw[hby];exact hb1);have hrun:=run_append_grow_src X.w T T' o.type e i z hT hi hz base xs.length sCap olds hold (.slice ady ys.length capy) ys.length news hs hg (by omega) hfit;have hr:(execOp a.eval o).run C.P X.w=.ok (.value (.slice (some ⟨X.w.heap.size,0,none⟩) (xs.length+ys.length) (grownCap X.w (xs.length+ys.length) sCap e)))
   (X.w.drew.alloc (.cells ((olds++news).toArray++Builtin.zeroCells z.cells (grownCap X.w (xs.length+ys.length) sCap e-(xs.length+ys.length))) e)):=by
  rw[yQv ho];simp only[builtin,List.map_toArray,List.map_cons,List.map_nil,ex,ey,Sem.run_bind,hrun,Result.andThen_ok,Sem.run_pure]
 have hge:=grownCap_ge X.w (xs.length+ys.length) sCap e;have hflat:(xs++ys).flatMap IV.cells=xs.flatMap IV.cells++ys.flatMap IV.cells:=by simp
 have hvl:C.vl X (olds++news) ((xs++ys).flatMap IV.cells):=by rw[hflat];exact ho1.append hn1
 have hall:∀x∈xs++ys,x.cells.length=s:=λx hx=>by
  grind
 have hlen:(olds++news).length=(xs.length+ys.length)*s:=by rw[hvl.1,yZp _ hall,lLa]
 have hdg:Ext X (X.drop g₀).drew:=(Good.drop_ext g₀).trans (hA.inv.good.drop g₀).drew.1;have hgood:=(hA.inv.good.drop g₀).drew.2;have hcells:(⟨(olds++news)++(Builtin.zeroCells z.cells (grownCap X.w (xs.length+ys.length) sCap e-(xs.length+ys.length))).toList⟩:Array Value) =
   (olds++news).toArray++Builtin.zeroCells z.cells (grownCap X.w (xs.length+ys.length) sCap e-(xs.length+ys.length)):=by
  grind
 have hns:=zJ8 (X:=(X.drop g₀).drew) (cp:=.app X.w.heap.size) (so:=some (.front (xs.length+ys.length) s)) (rest:=(Builtin.zeroCells z.cells (grownCap X.w (xs.length+ys.length) sCap e-(xs.length+ys.length))).toList)
  (e:=e) (cap:=grownCap X.w (xs.length+ys.length) sCap e) hgood (hdg.vl hvl) hall (by rw[lLa];exact hb2) (by rw[lLa];exact hge) rfl (λg _=>by
   have hzc:(Builtin.zeroCells z.cells (grownCap X.w (xs.length+ys.length) sCap e-(xs.length+ys.length))).toList.length=(grownCap X.w (xs.length+ys.length) sCap e-(xs.length+ys.length))*s:=by
    rw[Array.length_toList,size_zeroCells,hzs]
   rw[lLa,hlen,hzc,<- Nat.add_mul];exact Nat.mul_le_mul_right _ (by omega))
 rw[hcells,hlen,lLa] at hns;have hI:=((hA.inv.drop g₀).drew).new (.cells ((olds++news).toArray++Builtin.zeroCells z.cells (grownCap X.w (xs.length+ys.length) sCap e-(xs.length+ys.length))) e) ((xs.length+ys.length)*s)
  (some (.front (xs.length+ys.length) s)) (λi hi=>by
   cases hi;refine⟨_,e,yQn _ _,by simp[WS.new],?_⟩;simp only[WS.new,if_true];rw[Array.size_append,List.size_toArray,hlen];exact Nat.le_add_right _ _)
 exact yQd hr hnd (yZx hI hA.ad hA.hd (V.stale f hns) (h X.w.heap.size (by
  cases hq:X.st X.w.heap.size with
  | none=>rfl
  | some o=>have:=hA.inv.good.lt hq;omega)))
omit hA in
theorem VL.junks {B:Nat}{L:Nat->Nat}{w:World}(rs:List Value):VL B L w rs (List.replicate rs.length .junk) :=
 ⟨by simp,λi r c _ hc=>by
  have:=lMg hc;rw[(List.mem_replicate.1 this).2];exact .junk r⟩
omit hA in
theorem wKw {k:Option LenK}{i:Option IntKind}{f g:Prop}(h:appK k i f g):(k=some .sl/\f)\/(k=none/\(∃j,i=some j)/\g):=by
 unfold appK at h;grind
theorem yYw {T T' e:TypeId}{x y:Operand}{s by_ g₀ m:Nat}{i:TypeInfo}{z:Value}{oc ys:List IV}{olds news:List Value}{base ady:Option Addr}{sCap capy:Nat}(ho:o.op=.call ⟨.builtin .append,⟨[x,y]⟩,⟨[T,T']⟩⟩)
  (hT:C.P.underlying T=some (.slice e)) (hi:C.P.info? e=some i) (hby:i.bytes=by_) (hz:i.zero=some z) (hzs:z.cells.size=s)
  (ex:a.eval x=.slice base m sCap) (ey:a.eval y=.slice ady ys.length capy) (hold:(Builtin.firstCells i.size m (.slice base m sCap)).run C.P X.w.drew=.ok olds.toArray X.w.drew)
  (hs:Src C.P i.size T' (.slice ady ys.length capy) ys.length news X.w) (ho1:C.vl X olds oc) (hn1:C.vl X news (ys.flatMap IV.cells))
  (hg:sCap<m+ys.length) (hb1:(m+ys.length)*by_<=140737488355328) (hb2:m+ys.length<=140737488355328)
  (h:∀g cap,X.st g=none->m+ys.length<=cap->finK o.dst K ad fr (.val (.raw (.slice (some ⟨g,0,none⟩) (m+ys.length) cap)))
   (((X.drop g₀).st:ISt).put g (some (.box (oc++ys.flatMap IV.cells++List.replicate ((cap-(m+ys.length))*s) .junk)))) ds) :
  o.wpIn (yZ3 ro) n C.P a X.w (PK C X0 N K) Q:=by
 have hnd:∀c,o.op≠.defer c:=by rw[ho];intro c hc;cases hc
 have hfit:Builtin.nextslicecap (m+ys.length) sCap*i.bytes<=281474976710656:=growslice_fits hg (by rw[hby];exact hb1);have hrun:=run_append_grow_src X.w T T' o.type e i z hT hi hz base m sCap olds hold (.slice ady ys.length capy) ys.length news hs hg (by omega) hfit;have hr:(execOp a.eval o).run C.P X.w=.ok (.value (.slice (some ⟨X.w.heap.size,0,none⟩) (m+ys.length) (grownCap X.w (m+ys.length) sCap e)))
   (X.w.drew.alloc (.cells ((olds++news).toArray++Builtin.zeroCells z.cells (grownCap X.w (m+ys.length) sCap e-(m+ys.length))) e)):=by
  rw[yQv ho];simp only[builtin,List.map_toArray,List.map_cons,List.map_nil,ex,ey,Sem.run_bind,hrun,Result.andThen_ok,Sem.run_pure]
 have hge:=grownCap_ge X.w (m+ys.length) sCap e;have hdg:Ext X (X.drop g₀).drew:=(Good.drop_ext g₀).trans (hA.inv.good.drop g₀).drew.1;have hgood:=(hA.inv.good.drop g₀).drew.2;have hzc:(Builtin.zeroCells z.cells (grownCap X.w (m+ys.length) sCap e-(m+ys.length))).toList.length=(grownCap X.w (m+ys.length) sCap e-(m+ys.length))*s:=by
  rw[Array.length_toList,size_zeroCells,hzs]
 have hall:C.vl (X.drop g₀).drew ((olds++news)++(Builtin.zeroCells z.cells (grownCap X.w (m+ys.length) sCap e-(m+ys.length))).toList)
   (oc++ys.flatMap IV.cells++List.replicate ((grownCap X.w (m+ys.length) sCap e-(m+ys.length))*s) .junk):=by
  refine (hdg.vl (ho1.append hn1)).append ?_;rw[<- hzc];exact VL.junks _
 have hI:=((hA.inv.drop g₀).drew).new (.cells ((olds++news).toArray++Builtin.zeroCells z.cells (grownCap X.w (m+ys.length) sCap e-(m+ys.length))) e) 0
  (some (.box (oc++ys.flatMap IV.cells++List.replicate ((grownCap X.w (m+ys.length) sCap e-(m+ys.length))*s) .junk))) (λi hi=>by
   cases hi;refine⟨by simp[WS.new],_,e,yQn _ _,(hgood.new_ext _ 0 _).vl ?_⟩;rw[Array.toList_append,List.toList_toArray];exact hall)
 exact yQd hr hnd (yZx (x:=.raw _) hI hA.ad hA.hd (.raw _ trivial) (h X.w.heap.size _ (by
  cases hq:X.st X.w.heap.size with
  | none=>rfl
  | some o=>have:=hA.inv.good.lt hq;omega) hge))
theorem zGn {T T':TypeId}{x y:Operand}{esc:List Nat}(ho:o.op=.call ⟨.builtin .append,⟨[x,y]⟩,⟨[T,T']⟩⟩)
  (h:yQ6 (slI C.P T) λe=>appK (lenI C.P T') (intK C.P T')
   (yQ6 (evV C.gl fr x) λs=>slY s (λtg xs=>yQ6 (evV C.gl fr y) λy=>slV y λ_ ys=>appV esc o.dst e tg xs ys (finK o.dst K ad fr) X.st ds) (λb off n cap=>yQ6 (evV C.gl fr y) λy=>slY y (λ_ ys=>qO esc o.dst (appO e b off n cap ys (finK o.dst K ad fr) X.st ds)) (λb2 off2 m2 _=>qO esc o.dst (appR e b off n cap b2 off2 m2 (finK o.dst K ad fr) X.st ds))))
   (yQ6 (evV C.gl fr x) λs=>slV s λtg _=>yQ6 (evV C.gl fr y) λy=>intV y λ_ m=>appZ e tg m (finK o.dst K ad fr) X.st ds)):o.wpIn (yZ3 ro) n C.P a X.w (PK C X0 N K) Q:=by
 obtain⟨⟨e,ag,s,by_⟩,hsl,h1⟩:=yQ4.1 h;clear h;have hnd:∀c,o.op≠.defer c:=by rw[ho];intro c hc;cases hc
 obtain⟨hT,hty,i,hi,_,hby⟩:=yWb hsl;obtain⟨z,hz,hzs⟩:=zWi hsl hi;have hsz:i.size=s:=by have:=zZo hty;simpa[hi] using this
 have hnone:X.st X.w.heap.size=none:=by
  cases hq:X.st X.w.heap.size with
  | none=>rfl
  | some o=>have:=hA.inv.good.lt hq;omega
 have hdropn:∀g₀,X.st g₀=none->(X.drop g₀).st=X.st:=λg₀ h0=>by
  funext b;simp only[WS.drop];split
  ·grind
  ·rfl
 rcases wKw h1 with⟨hk,h2⟩|⟨_,⟨ik,hik⟩,h2⟩
 case inr =>
  clear h1;obtain⟨vx,hx,h3⟩:=yQ4.1 h2;clear h2;obtain⟨tg,xs,rfl,h4⟩:=xGf h3;clear h3;obtain⟨vy,hy,h5⟩:=yQ4.1 h4;clear h4;obtain⟨ky,m,rfl,⟨hc,hm0,hmb,hml,hs0⟩,h⟩:=yKt h5;clear h5;simp only at hmb hs0 h;obtain⟨adx,capx,ex,_,_,hcapx⟩:=V.sl_len (hA.v hx).1;rw[hc] at hcapx;obtain⟨rfl,h0,rfl⟩:=hcapx;rw[h0] at ex;have ey:=V.raw_inv (hA.v hy).1;obtain⟨q,rfl⟩:∃q:Nat,m=q:=⟨m.toNat,by omega⟩
  rw[Int.toNat_natCast] at h;have hTk:C.P.underlying T'=some (.int ik):=by
   unfold intK at hik;grind
  have hrun:=Lib.run_append_nil_zeros X.w T T' o.type e i z ky ik hT hTk hi hz q (by omega) (by omega) (by omega) (by
   rw[hby];have:((q*by_:Nat):Int)<=140737488355328:=by rw[Int.natCast_mul];exact hmb
   omega)
  have hr:(execOp a.eval o).run C.P X.w=.ok (.value (.slice (some ⟨X.w.heap.size,0,none⟩) q (grownCap X.w q 0 e)))
    (X.w.drew.alloc (.cells (Builtin.zeroCells z.cells q++Builtin.zeroCells z.cells (grownCap X.w q 0 e-q)) e)):=by
   rw[yQv ho];simp only[builtin,List.map_toArray,List.map_cons,List.map_nil,ex,ey,Sem.run_bind,hrun,Result.andThen_ok,Sem.run_pure]
  have hge:q<=grownCap X.w q 0 e:=by have:=grownCap_ge X.w q 0 e;omega
  have hI:=(hA.inv.drew).new (.cells (Builtin.zeroCells z.cells q++Builtin.zeroCells z.cells (grownCap X.w q 0 e-q)) e) 0 (some (.box (List.replicate (grownCap X.w q 0 e*s) .junk))) (λi hi=>by
   cases hi;refine⟨by simp[WS.new],_,e,yQn _ _,?_⟩;have hl:(Builtin.zeroCells z.cells q++Builtin.zeroCells z.cells (grownCap X.w q 0 e-q)).toList.length=grownCap X.w q 0 e*s:=by
    rw[Array.length_toList,Array.size_append,size_zeroCells,size_zeroCells,hzs,<- Nat.add_mul];grind
   rw[<- hl];exact VL.junks _)
  exact yQd hr hnd (yZx (x:=.raw _) hI hA.ad hA.hd (.raw _ trivial) (h X.w.heap.size _ ⟨hnone,hge⟩))
 clear h1;rcases yUj hk with⟨hq,_⟩|⟨_,e',hT'⟩|⟨hq,_⟩|⟨_,_,hq,_⟩
 ·cases hq
 ·obtain⟨vx,hx,h3⟩:=yQ4.1 h2;clear h2;rcases zXs h3 with⟨tg,xs,rfl,h4⟩|⟨b,off,m,cap,rfl,h4⟩
  case inr =>
   clear h3;obtain⟨vy,hy,h5⟩:=yQ4.1 h4;clear h4;rcases zXs h5 with⟨tgy,ys,rfl,h5'⟩|⟨b2,off2,m2,cap2,rfl,h5'⟩
   case inr =>
    clear h5;unfold qO at h5';by_cases hqu:zJ0 esc o.dst=true
    ·grind
    rw[if_neg hqu] at h5';obtain⟨⟨rfl,rfl⟩,h6⟩:=h5';obtain⟨ob,hob,h7⟩:=yQ4.1 h6;clear h6;obtain⟨cs,rfl,⟨hmc,hcc,hroom,hoff,hall⟩,h⟩:=zJ6 h7;clear h7;simp only at hcc hoff hall h;have ex:=V.raw_inv (hA.v hx).1;have ey:=V.raw_inv (hA.v hy).1;obtain⟨hL,c,E,hh,hvl⟩:=hA.inv.good.ok b2 _ hob;have hcl:c.size=cs.length:=by rw[<- hvl.1];simp
    obtain⟨news,hnews⟩:∃news,news=(c.toList.drop off2).take (m2*s):=⟨_,rfl⟩
    have hnl:news.length=m2*s:=by rw[hnews,List.length_take,List.length_drop,Array.length_toList];omega
    have hnv:C.vl X news ((cs.drop off2).take (m2*s)):=hnews▸(hvl.drop off2).take _;have hone:∀u∈news,u.oneCell'=true:=yUw hnv hall;have hsrc:Src C.P i.size T' (.slice (some ⟨b2,off2,none⟩) m2 cap2) m2 news X.w:=by
     rw[hsz];refine Src.of hT' hnl (λb' hb' j v hj=>?_) (λh0=>by cases h0) hone;cases hb';rw[hnews,List.getElem?_take] at hj;split at hj
     ·rw[List.getElem?_drop] at hj;rw[yK1,yZm hh];exact hj
     ·cases hj
    have hle2:(m+m2)*s<=cs.length:=Nat.le_trans (Nat.mul_le_mul_right _ hroom) hcc;have hfit:m*s+news.length<=c.size:=by rw[hnl,<- Nat.add_mul,hcl];exact hle2
    have hrun:=yV5 X.w T T' o.type e E i hT hi b2 m cap (.slice (some ⟨b2,off2,none⟩) m2 cap2) m2 news c hsrc hroom hh (by rw[hsz];exact hfit);rw[hsz] at hrun;have hr:(execOp a.eval o).run C.P X.w=.ok (.value (.slice (some ⟨b2,0,none⟩) (m+m2) cap))
      (X.w.setRow b2 (c.toList.take (m*s)++news++c.toList.drop (m*s+news.length)).toArray):=by
     rw[yQv ho];simp only[builtin,List.map_toArray,List.map_cons,List.map_nil,ex,ey,Sem.run_bind,hrun,Result.andThen_ok,Sem.run_pure]
    have hsize:(c.toList.take (m*s)++news++c.toList.drop (m*s+news.length)).toArray.size=c.size:=by simp;omega
    have hkeep:∀i,i<X.L b2->(c.toList.take (m*s)++news++c.toList.drop (m*s+news.length)).toArray[i]?=c[i]?:=λi hi=>by rw[hL] at hi;omega
    have hI:=hA.inv.row hh hsize (n:=0) (so:=some (.box (yX8 cs (m*s) ((cs.drop off2).take (m2*s))))) (by omega) hkeep (by rw[hob];simp) (λi hi=>by
     cases hi;refine⟨by simp[WS.row],_,E,setRow_heap X.w b2 c _ E (0,0) hh,?_⟩;have:=yG5 hvl hnv (off:=m*s);exact⟨by simpa using this.1,λi r z hr hz=>zZj hh hsize (by omega) hkeep (this.2 i r z (by simpa using hr) hz)⟩)
    exact yQd hr hnd (yZx (x:=.raw _) hI hA.ad hA.hd (.raw _ trivial) h)
   clear h5;unfold qO at h5';by_cases hqu:zJ0 esc o.dst=true
   ·grind
   rw[if_neg hqu] at h5';obtain⟨⟨rfl,hall⟩,⟨hb1,hb2⟩,h6⟩:=h5';obtain⟨ob,hob,h7⟩:=yQ4.1 h6;clear h6;obtain⟨cs,rfl,⟨hmc,hcc⟩,h⟩:=zJ6 h7;clear h7;simp only at hall hb1 hcc h;have ex:=V.raw_inv (hA.v hx).1;have hyv:=(hA.v hy).1;have hys:=zK5 hall;obtain⟨ady,capy,news,ey,_,hnl,hnv,hnc,hnn⟩:=zWh hyv hys;have hone:∀u∈news,u.oneCell'=true:=yUw hnv (by
    simp only[List.all_eq_true];intro q hq;obtain⟨y',hy',hq⟩:=List.mem_flatMap.1 hq;exact List.all_eq_true.1 (yJ8 (List.all_eq_true.1 hall y' hy')).2.2.1 q hq)
   have hsrc:Src C.P i.size T' (.slice ady ys.length capy) ys.length news X.w:=by
    rw[hsz];exact Src.of hT' hnl hnc (λh0=>by rw[hnn h0];rfl) hone
   obtain⟨hL,c,E,hh,hvl⟩:=hA.inv.good.ok b _ hob;have hcl:c.size=cs.length:=by rw[<- hvl.1];simp
   have hmle:m*s<=cs.length:=Nat.le_trans (Nat.mul_le_mul_right _ hmc) hcc;rcases Nat.lt_or_ge cap (m+ys.length) with hg|hroom
   ·have h8:=h.2 (dEf (by omega));have hol:(c.toList.take (m*s)).length=m*s:=by rw[List.length_take,Array.length_toList];omega
    rcases h8 with h8|h8
    ·refine yYw hA ho hT hi hby hz hzs ex ey (olds:=c.toList.take (m*s)) (oc:=cs.take (m*s)) (g₀:=b) (by
      rw[hsz];refine xZm hol (λb' hb' j v hj=>?_) (λh0=>by cases h0);cases hb';rw[List.getElem?_take] at hj;split at hj
      ·rw[yK1,Nat.zero_add,yZm hh];exact hj
      ·cases hj) hsrc (hvl.take _) hnv hg hb1 hb2 (λg cap' hg' hc'=>?_)
     exact h8 g cap' ⟨hg',hc'⟩
    ·refine yYw hA ho hT hi hby hz hzs ex ey (olds:=c.toList.take (m*s)) (oc:=cs.take (m*s)) (g₀:=X.w.heap.size) (by
      rw[hsz];refine xZm hol (λb' hb' j v hj=>?_) (λh0=>by cases h0);cases hb';rw[List.getElem?_take] at hj;split at hj
      ·rw[yK1,Nat.zero_add,yZm hh];exact hj
      ·cases hj) hsrc (hvl.take _) hnv hg hb1 hb2 (λg cap' hg' hc'=>?_)
     rw[hdropn _ hnone];exact h8 g cap' ⟨hg',hc'⟩
   ·have h8:=h.1 (dEt hroom);have hle2:(m+ys.length)*s<=cs.length:=Nat.le_trans (Nat.mul_le_mul_right _ hroom) hcc;have hfit:m*s+news.length<=c.size:=by rw[hnl,<- Nat.add_mul,hcl];exact hle2
    have hrun:=yV5 X.w T T' o.type e E i hT hi b m cap (.slice ady ys.length capy) ys.length news c hsrc hroom hh (by rw[hsz];exact hfit);rw[hsz] at hrun;have hr:(execOp a.eval o).run C.P X.w=.ok (.value (.slice (some ⟨b,0,none⟩) (m+ys.length) cap))
      (X.w.setRow b (c.toList.take (m*s)++news++c.toList.drop (m*s+news.length)).toArray):=by
     rw[yQv ho];simp only[builtin,List.map_toArray,List.map_cons,List.map_nil,ex,ey,Sem.run_bind,hrun,Result.andThen_ok,Sem.run_pure]
    have hsize:(c.toList.take (m*s)++news++c.toList.drop (m*s+news.length)).toArray.size=c.size:=by simp;omega
    have hkeep:∀i,i<X.L b->(c.toList.take (m*s)++news++c.toList.drop (m*s+news.length)).toArray[i]?=c[i]?:=λi hi=>by rw[hL] at hi;omega
    have hI:=hA.inv.row hh hsize (n:=0) (so:=some (.box (yX8 cs (m*s) (ys.flatMap IV.cells)))) (by omega) hkeep (by rw[hob];simp) (λi hi=>by
     cases hi;refine⟨by simp[WS.row],_,E,setRow_heap X.w b c _ E (0,0) hh,?_⟩;have:=yG5 hvl hnv (off:=m*s);exact⟨by simpa using this.1,λi r z hr hz=>zZj hh hsize (by omega) hkeep (this.2 i r z (by simpa using hr) hz)⟩)
    exact yQd hr hnd (yZx (x:=.raw _) hI hA.ad hA.hd (.raw _ trivial) h8)
  clear h3;obtain⟨vy,hy,h5⟩:=yQ4.1 h4;clear h4;obtain⟨tgy,ys,rfl,hall,⟨hb1,hb2⟩,h⟩:=xGf h5;clear h5;simp only at hall hb1 h;have hxv:=(hA.v hx).1;have hyv:=(hA.v hy).1;have hys:=zK5 hall;obtain⟨ady,capy,news,ey,_,hnl,hnv,hnc,hnn⟩:=zWh hyv hys;have hone:∀u∈news,u.oneCell'=true:=yUw hnv (by
   simp only[List.all_eq_true];intro q hq;obtain⟨y',hy',hq⟩:=List.mem_flatMap.1 hq;exact List.all_eq_true.1 (yJ8 (List.all_eq_true.1 hall y' hy')).2.2.1 q hq)
  have hsrc:Src C.P i.size T' (.slice ady ys.length capy) ys.length news X.w:=by
   rw[hsz];exact Src.of hT' hnl hnc (λh0=>by rw[hnn h0];rfl) hone
  obtain⟨adx,capx,ex,_,hclx,hcapx⟩:=V.sl_len hxv;have nothing:ys=[]->finK o.dst K ad fr (.val (.sl tg xs)) X.st ds->o.wpIn (yZ3 ro) n C.P a X.w (PK C X0 N K) Q:=by
   intro hy0 hf;have hn0:news=[]:=by subst hy0;exact List.eq_nil_of_length_eq_zero (by rw[hnl];simp)
   rw[hy0,hn0] at hsrc;have hrun:(Builtin.append_ #[T,T'] o.type #[.slice adx xs.length capx,.slice ady ys.length capy]).run C.P X.w=.ok (.slice adx xs.length capx) X.w:=by
    rw[hy0];exact run_append_nothing X.w T T' o.type e i hT hi adx xs.length capx hclx _ hsrc
   have hr:(execOp a.eval o).run C.P X.w=.ok (.value (a.eval x)) X.w:=by
    rw[yQv ho];simp only[builtin,List.map_toArray,List.map_cons,List.map_nil,ex,ey,Sem.run_bind,hrun,Result.andThen_ok,Sem.run_pure]
   exact yQd hr hnd (hA.val hxv hf)
  have grow:∀(g₀:Nat) (f:Bool) (hxs:∀x∈xs,x.cells.length=s) (hg:capx<xs.length+ys.length)
    (hf:∀g,X.st g=none->finK o.dst K ad fr (.val (.sl ⟨f,.app g,s⟩ (xs++ys))) (((X.drop g₀).st:ISt).put g (some (.front (xs.length+ys.length) s))) ds),o.wpIn (yZ3 ro) n C.P a X.w (PK C X0 N K) Q:=by
   intro g₀ f hxs hg hf;obtain⟨adx',capx',olds,ex',_,hol,hov,hoc,hon⟩:=zWh hxv hxs;rw[ex] at ex';cases ex';exact xXg hA ho hT hi hby hz hzs ex ey (by rw[hsz];exact xZm hol hoc (λh0=>by rw[hon h0];rfl)) hsrc hov hnv hxs hys hg hb1 hb2 f hf
  have hxs:tg.es=s->∀x∈xs,x.cells.length=s:=λhe x hx=>by
   obtain⟨_,_,_,_,_,hs,_⟩:=V.sl_inv hxv;grind
  cases hc:tg.cap with
  | none =>
   grind
  | nil =>
   rw[hc] at h hcapx;obtain⟨h1,h2,h3⟩:=hcapx;have hx0:xs=[]:=List.eq_nil_of_length_eq_zero h2;cases hy0:ys with
   | nil=>rw[hy0] at h;exact nothing hy0 h
   | cons y0 yt =>
    rw[hy0] at h;by_cases hesc:yKm esc o.dst=true
    ·have hfin:∀g cap,(X.st g=none/\(y0::yt).length<=cap)->finK o.dst K ad fr (.val (.raw (.slice (some ⟨g,0,none⟩) (y0::yt).length cap)))
       (X.st.put g (some (.box ((y0::yt).flatMap IV.cells++List.replicate ((cap-(y0::yt).length)*s) .junk)))) ds:=by
      simp only[if_pos hesc] at h;exact h
     rw[<- hy0] at hfin;rw[h1,h2,h3] at ex;refine yYw hA ho hT hi hby hz hzs ex ey (olds:=[]) (oc:=[]) (g₀:=X.w.heap.size) rfl hsrc VL.nil hnv (by rw[hy0];simp) (by simpa[hx0] using hb1) (by simpa[hx0] using hb2) (λg cap hg hc=>?_);grind
    have hfin:∀g,X.st g=none->finK o.dst K ad fr (.val (.sl ⟨true,.app g,s⟩ (y0::yt))) (X.st.put g (some (.front (y0::yt).length s))) ds:=by
     simp only[if_neg hesc] at h;exact h
    rw[<- hy0] at hfin;refine grow X.w.heap.size true (by rw[hx0];simp) (by rw[hy0,h3,h2];simp) (λg hg=>?_);grind
  | full =>
   rw[hc] at h hcapx;cases hy0:ys with
   | nil=>rw[hy0] at h;exact nothing hy0 h.2
   | cons y0 yt =>
    rw[hy0] at h;obtain⟨hes,h⟩:=h;have hfin:∀g,X.st g=none->finK o.dst K ad fr (.val (.sl ⟨true,.app g,s⟩ (xs++y0::yt))) (X.st.put g (some (.front (xs.length+(y0::yt).length) s))) ds:=h;rw[<- hy0] at hfin;simp only[zQm] at hcapx;refine grow X.w.heap.size true (hxs hes) (by rw[hy0,hcapx];simp) (λg hg=>?_);grind
  | app g₀ =>
   rw[hc] at h hcapx;obtain⟨hes,hst,hfin⟩:=h;simp only[zQm] at hcapx;rcases Nat.lt_or_ge capx (xs.length+ys.length) with hg|hroom
   ·exact grow g₀ tg.fresh (hxs hes) hg (λg hg=>hfin g (.inr hg))
   ·obtain⟨c,E,hh,hL,hLe⟩:=hA.inv.good.ok g₀ _ hst;obtain⟨fresh,cp,es⟩:=tg;simp only at hes hc hfin;subst hes hc hcapx;rw[ex] at hxv;obtain⟨hfit,hsize,hkeep,hle,hv'⟩:=V.push (so:=some (.front (xs.length+ys.length) es)) hxv hh hL hnv hys hroom hb2;have hrun:=yV5 X.w T T' o.type e E i hT hi g₀ xs.length capx (.slice ady ys.length capy) ys.length news c hsrc hroom hh (by rw[hsz];exact hfit);rw[hsz] at hrun;have hr:(execOp a.eval o).run C.P X.w=.ok (.value (.slice (some ⟨g₀,0,none⟩) (xs.length+ys.length) capx))
      (X.w.setRow g₀ (c.toList.take (xs.length*es)++news++c.toList.drop (xs.length*es+news.length)).toArray):=by
     rw[yQv ho];simp only[builtin,List.map_toArray,List.map_cons,List.map_nil,ex,ey,Sem.run_bind,hrun,Result.andThen_ok,Sem.run_pure]
    have hI:=hA.inv.row hh hsize (n:=(xs.length+ys.length)*es) (so:=some (.front (xs.length+ys.length) es)) (by rw[hL];exact Nat.mul_le_mul_right _ (Nat.le_add_right _ _)) hkeep (by rw[hst];simp) (λi hi=>by
     cases hi;exact⟨_,E,setRow_heap X.w g₀ c _ E (0,0) hh,by simp[WS.row],by simp only[WS.row,if_true];rw[hsize];exact hle⟩)
    have hst':(X.row g₀ (c.toList.take (xs.length*es)++news++c.toList.drop (xs.length*es+news.length)).toArray ((xs.length+ys.length)*es) (some (.front (xs.length+ys.length) es))).st =
      (X.st.put g₀ none).put g₀ (some (.front (xs.length+ys.length) es)):=by
     funext b;simp only[WS.row,ISt.put];split<;>rfl
    exact yQd hr hnd (yZx hI hA.ad hA.hd hv' (by rw[hst'];exact hfin g₀ (.inl rfl)))
 ·cases hq
 ·cases hq
omit hA in
theorem zW3 {zc:Array Value}{m:Nat}(hz:0<zc.size){u:Value}(hu:u∈(Builtin.zeroCells zc m).toList):u∈zc.toList:=by
 unfold Builtin.zeroCells at hu;rw[Array.toList_map] at hu;obtain⟨i,_,rfl⟩:=List.mem_map.1 hu;have hlt:=Nat.mod_lt i hz;grind
theorem xZ5 {T:TypeId}{x:Operand}(ho:o.op=.call ⟨.builtin .clear,⟨[x]⟩,⟨[T]⟩⟩)
  (h:yQ6 (slI C.P T) λe=>yQ6 (yX3 C.P e.1) λ_=>yQ6 (evV C.gl fr x) λx=>xVb e x (finK o.dst K ad fr) X.st ds):o.wpIn (yZ3 ro) n C.P a X.w (PK C X0 N K) Q:=by
 obtain⟨⟨e,ag,s,by_⟩,hsl,h0⟩:=yQ4.1 h;clear h;obtain⟨zi,hzi,h1⟩:=yQ4.1 h0;clear h0;obtain⟨vx,hx,h2⟩:=yQ4.1 h1;clear h1;have hnd:∀c,o.op≠.defer c:=by rw[ho];intro c hc;cases hc
 obtain⟨hT,hty,i,hi,_,hby⟩:=yWb hsl;obtain⟨z,hz,hzs⟩:=zWi hsl hi;have hzrun:(zeroValue e).run C.P X.w=.ok z X.w:=by simp only[zeroValue,Sem.run_bind,run_typeInfo X.w hi,Result.andThen_ok,hz,Sem.run_pure]
 rcases zXs h2 with⟨_,_,_,h3⟩|⟨b,off,m,cap,rfl,h⟩
 ·exact h3.elim
 clear h2;have ex:=V.raw_inv (hA.v hx).1;by_cases hm:m=0
 ·subst hm;rw[if_pos rfl] at h;have hr:(execOp a.eval o).run C.P X.w=.ok (.value (.tuple #[])) X.w:=by
   rw[yQv ho];simp[builtin,ex,Builtin.clear_,run_underlying hT]
  exact yQd hr hnd (hA.val (.tup [] [] rfl (λi r c h=>by simp at h)) h)
 rw[if_neg hm] at h;obtain⟨ob,hob,h4⟩:=yQ4.1 h;clear h;obtain⟨cs,rfl,h5⟩:=zJ6 h4;clear h4;obtain⟨hle,h⟩:=yQx h5;clear h5;simp only at hle h;obtain⟨hL,c,E,hh,hvl⟩:=hA.inv.good.ok b _ hob;have hcl:c.size=cs.length:=by rw[<- hvl.1];simp
 have hzl:(Builtin.zeroCells z.cells m).toList.length=m*s:=by rw[Array.length_toList,size_zeroCells,hzs]
 have hone:∀u∈(Builtin.zeroCells z.cells m).toList,u.oneCell'=true:=λu hu=>by
  obtain⟨v,hv1,hv2,hv3,hv4⟩:=zXd hzi X.w;rw[hzrun] at hv1;cases hv1;have hs0:0<s:=Nat.pos_of_ne_zero λh0=>by
   have:=List.length_pos_of_mem hu;rw[hzl,h0] at this;omega
  exact yUw (V.cells (hv2 C.B X.L X.w) (yYs hv4) hv3) hv4 u (zW3 (by omega) hu)
 have hst:=run_storeCells_at (P:=C.P) b off E (Builtin.zeroCells z.cells m).toList 0 c X.w hh (by omega) hone;simp only[Nat.add_zero] at hst;have hr:(execOp a.eval o).run C.P X.w=.ok (.value (.tuple #[])) (X.w.setRow b (c.toList.take off++(Builtin.zeroCells z.cells m).toList++c.toList.drop (off+(Builtin.zeroCells z.cells m).toList.length)).toArray):=by
  rw[yQv ho];simp[builtin,ex,Builtin.clear_,run_underlying hT,hm,hzrun,hst]
 have hsize:(c.toList.take off++(Builtin.zeroCells z.cells m).toList++c.toList.drop (off+(Builtin.zeroCells z.cells m).toList.length)).toArray.size=c.size:=by simp only[List.size_toArray,lLa,List.length_take,List.length_drop,Array.length_toList] at hzl ⊢;omega
 have hkeep:∀i,i<X.L b->(c.toList.take off++(Builtin.zeroCells z.cells m).toList++c.toList.drop (off+(Builtin.zeroCells z.cells m).toList.length)).toArray[i]?=c[i]?:=λi hi=>by rw[hL] at hi;omega
 have hI:=hA.inv.row hh hsize (n:=0) (so:=some (.box (yX8 cs off (List.replicate (m*s) .junk)))) (by omega) hkeep (by rw[hob];simp) (λi hi=>by
  cases hi;refine⟨by simp[WS.row],_,E,setRow_heap X.w b c _ E (0,0) hh,?_⟩;have hj:=VL.junks (B:=C.B) (L:=X.L) (w:=X.w) (Builtin.zeroCells z.cells m).toList;rw[hzl] at hj;have:=yG5 hvl hj (off:=off);exact⟨by simpa using this.1,λi r z hr hz=>zZj hh hsize (by omega) hkeep (this.2 i r z (by simpa using hr) hz)⟩)
 exact yQd hr hnd (yZx (x:=.tup []) hI hA.ad hA.hd (.tup [] [] rfl (λi r c h=>by simp at h)) h)
theorem zXp {esc:List Nat}{T:TypeId}{x y:Operand}(ho:o.op=.makeSlice T x y)
  (h:yQ6 (slI C.P T) λe=>yQ6 (evV C.gl fr x) λl=>intV l λ_ p=>yQ6 (evV C.gl fr y) λm=>intV m λ_ q=>xZr (yX3 C.P e.1) esc o.dst e p q (finK o.dst K ad fr) X.st ds):o.wpIn (yZ3 ro) n C.P a X.w (PK C X0 N K) Q:=by
 obtain⟨⟨e,ag,s,by_⟩,hsl,h1⟩:=yQ4.1 h;clear h;obtain⟨vx,hx,h2⟩:=yQ4.1 h1;clear h1;obtain⟨kp,p,rfl,h3⟩:=yKt h2;clear h2;obtain⟨vy,hy,h4⟩:=yQ4.1 h3;clear h3;obtain⟨kq,q,rfl,⟨hpq,hq0,hqb,hql⟩,h⟩:=yKt h4;clear h4;simp only at hqb h;have hnd:∀c,o.op≠.defer c:=by rw[ho];intro c hc;cases hc
 obtain⟨hT,hty,i,hi,_,hby⟩:=yWb hsl;obtain⟨z,hz,hzs⟩:=zWi hsl hi;have hsz:i.size=s:=by have:=zZo hty;simpa[hi] using this
 have ex:=V.raw_inv (hA.v hx).1;have ey:=V.raw_inv (hA.v hy).1;have hp0:0<=p:=by omega
 have hpq':p<=q:=by omega
 have hrun:=run_make (P:=C.P) X.w T e i z hT hi hz kp kq p q hp0 hpq' (by rw[hby,Int.mul_comm];omega) (by omega);have hr:(execOp a.eval o).run C.P X.w=.ok (.value (.slice (some ⟨X.w.heap.size,0,none⟩) p.toNat q.toNat)) (X.w.alloc (.cells (madeCells z.cells (q.toNat*i.size)) e)):=by
  unfold execOp;rw[ho];simp only[ex,ey,Sem.run_bind,hrun,Result.andThen_ok,Sem.run_pure]
 have hml:(madeCells z.cells (q.toNat*i.size)).toList.length=q.toNat*s:=by rw[Array.length_toList,size_madeCells,hsz]
 have hnone:X.st X.w.heap.size=none:=by
  cases hq:X.st X.w.heap.size with
  | none=>rfl
  | some o=>have:=hA.inv.good.lt hq;omega
 split at h
 ·obtain⟨hs1,h⟩:=h;obtain⟨y,hzy,hy1,h⟩:=yQ4.1 h;have hs1:s=1:=hs1;replace hzy:yX3 C.P e=some y:=hzy;subst hs1;have hzy':zJx z=some y:=by
   unfold yX3 at hzy;simpa[hi,hz] using hzy
  have hyc:=IV.one_cells hy1;have hI:=hA.inv.new (.cells (madeCells z.cells (q.toNat*i.size)) e) 0 (some (.box (List.replicate q.toNat y))) (λi' hi'=>by
   cases hi';refine⟨by simp[WS.new],_,e,yQn _ _,by rw[hml,List.length_replicate,Nat.mul_one],λj r c hr hc=>?_⟩;obtain rfl:=List.eq_of_mem_replicate (lMg hc);have hv:=yW5 (B:=C.B) (L:=(X.new (.cells (madeCells z.cells (q.toNat*i.size)) e) 0 (some (.box (List.replicate q.toNat c)))).L) (w:=(X.new (.cells (madeCells z.cells (q.toNat*i.size)) e) 0 (some (.box (List.replicate q.toNat c)))).w) hzy';have hvl:=V.cells hv.1 (yYs hv.2.2) (λhj=>by rw[hj] at hy1;simp[IV.one] at hy1);rw[hyc] at hvl;refine hvl.2 0 r c ?_ rfl;have hr':=lMg hr;rw[Array.mem_toList_iff] at hr';unfold madeCells at hr';obtain⟨k,_,rfl⟩:=Array.mem_map.1 hr';rw[hzs,Nat.mod_one,getElem!_pos _ _ (by omega)];simp)
  exact yQd hr hnd (yZx (x:=.raw (.slice (some ⟨X.w.heap.size,0,none⟩) (lenZ p) q.toNat)) hI hA.ad hA.hd (.raw _ trivial) (h X.w.heap.size hnone))
 split at h
 ·have hI:=hA.inv.new (.cells (madeCells z.cells (q.toNat*i.size)) e) 0 (some (.box (List.replicate (q.toNat*s) .junk))) (λi' hi=>by
   cases hi;refine⟨by simp[WS.new],_,e,yQn _ _,by rw[hml,List.length_replicate],λj r c _ hc=>?_⟩;obtain rfl:=List.eq_of_mem_replicate (lMg hc);exact .junk r)
  exact yQd hr hnd (yZx (x:=.raw (.slice (some ⟨X.w.heap.size,0,none⟩) (lenZ p) q.toNat)) hI hA.ad hA.hd (.raw _ trivial) (h X.w.heap.size hnone))
 split at h
 ·rename_i hs0;have hs0:s=0:=hs0;subst hs0;have hI:=hA.inv.new (.cells (madeCells z.cells (q.toNat*i.size)) e) 0 none (λi' hi=>by cases hi);have hst:(X.new (.cells (madeCells z.cells (q.toNat*i.size)) e) 0 none).st=X.st:=by
   funext b;simp only[WS.new];split
   ·rename_i hb;rw[hb];exact hnone.symm
   ·rfl
  refine yQd hr hnd (yZx (x:=.sl ⟨false,.none,0⟩ (List.replicate (lenZ p) (.agg []))) hI hA.ad hA.hd ?_ (by rw[hst];exact h));have hv:V C.B (X.new (.cells (madeCells z.cells (q.toNat*i.size)) e) 0 none).L (X.new (.cells (madeCells z.cells (q.toNat*i.size)) e) 0 none).w (.slice (some ⟨X.w.heap.size,0,none⟩) (List.replicate (lenZ p) (IV.agg [])).length q.toNat) (.sl ⟨false,.none,0⟩ (List.replicate (lenZ p) (.agg []))):=by
   refine .sl (some ⟨X.w.heap.size,0,none⟩) q.toNat ⟨false,.none,0⟩ (List.replicate (lenZ p) (.agg [])) e [] trivial (by rw[List.length_replicate];unfold lenZ;omega) (by rw[List.length_replicate];unfold lenZ;omega) (λx hx=>by obtain rfl:=List.eq_of_mem_replicate hx;rfl) (by simp) (λg hg=>by cases hg)
    (λh=>by cases h) (λ_=>⟨⟨X.w.heap.size,0,none⟩,rfl,rfl,Nat.zero_le _,λi r h=>by simp at h⟩) (λi r c h=>by simp at h)
  rw[List.length_replicate] at hv;exact hv
 obtain⟨hp,h⟩:=h;subst hp;rw[Int.toNat_zero] at hr;have hns:=zJ8 (X:=X) (vs:=[]) (rest:=(madeCells z.cells (q.toNat*i.size)).toList) (ys:=[]) (s:=s) (cap:=q.toNat) (e:=e) (cp:=.app X.w.heap.size) (so:=some (.front 0 s)) hA.inv.good VL.nil (λ_ h=>by cases h) (by simp) (by simp) rfl
  (λg _=>by rw[List.nil_append,hml];exact Nat.le_refl _)
 have hI:=hA.inv.new (.cells (madeCells z.cells (q.toNat*i.size)) e) 0 (some (.front 0 s)) (λi hi=>by
  cases hi;refine⟨_,e,yQn _ _,by simp[WS.new],?_⟩;simp[WS.new])
 exact yQd hr hnd (yZx hI hA.ad hA.hd hns (h X.w.heap.size hnone))
end
theorem yUt {ro:Option Nat}{n:Nat}{P:Program}{f:FuncId}{args:Array Value}{w:World}{R:Ending->World->Prop}(h:Calls P f args w R):CallsIn (yZ3 ro) n P f args w R :=
 callsIn_wide (n:=n).2 h
theorem zWm {ro:Option Nat}{m n:Nat}{P:Program}{l:Nat}{f:FuncId}{tmps:Array Value}{assign body:Code}{w:World}{R:Ending->World->Prop}(h:RoundIn Fence.wide m P l f tmps assign body w R) :
  RoundIn (yZ3 ro) n P l f tmps assign body w R :=
 ⟨trivial,λc cs _=>h.2 c cs (room_wide _)⟩
theorem zYm {P:Program}{g:FuncId}{fs cs aL:List Value}{w:World}{R:Value->World->Prop}(he:entI P g=true)(h:Calls P g ⟨fs++aL++cs⟩ w λe w'=>∃v,e=.returned v/\R v w') :
  CallsVal P (.func (.func g) ⟨fs⟩ ⟨cs⟩) ⟨aL⟩ w R:=by
 unfold entI at he;cases hf:P.funcs[g]? with
 | none=>simp[hf] at he
 | some fn =>
  simp only[hf,bAt,bne_iff_ne,ne_eq] at he;have hb:¬ fn.body.isNone=true:=by
   have:=he.2;cases hq:fn.body<;>simp_all
  have hr:(do let d <- Deferred.ofValue (.func (.func g) ⟨fs⟩ ⟨cs⟩) ⟨aL⟩;invoke d.target d.args:Sem Next).run P w=.ok (.enter g ⟨fs++aL++cs⟩) w:=by
   simp only[Deferred.ofValue,Sem.run_bind,Sem.run_pure,Result.andThen_ok,invoke,callFunc,run_program,hf];rw[if_neg (by simpa using he.1),if_neg hb];simp
  unfold CallsVal;grind
section
variable {C:Cx}{X0 X:WS}{N:Nat}{fr:Fr}{ds:List Dfd}{a:Act}{ad:Ad}{K:Kt}{ro:Option Nat}{n:Nat}{Q:Exit->Act->World->Prop}{o:Oper}
variable (hA:At C X0 N X fr ds a ad o.dst)
include hA
theorem xVz {esc:List Nat}{pf:FuncId->List IV->Option IV}(hpf:∀g aL v,pf g aL=some v->entI C.P g=true/\∀st,ICall C.P C.gl g aL st (λr st'=>r=v/\st'=st)){x:Operand}{aL:Array Operand}{ts:Array TypeId}(ho:o.op=.call ⟨.value x,aL,ts⟩)
  (h:zYn esc pf x (evL C.gl fr aL.toList) (finK o.dst K ad fr) X.st ds (yQ6 (evV C.gl fr x) λf=>fnV f λf first caps=>yQ6 (evL C.gl fr aL.toList) λaL=>callV C.P C.gl f first caps aL X.st (zK1 (finK o.dst K ad fr) ds))) :
  o.wpIn (yZ3 ro) n C.P a X.w (PK C X0 N K) Q:=by
 replace h:yQ6 (evV C.gl fr x) λf=>fnV f λf first caps=>yQ6 (evL C.gl fr aL.toList) λaL=>callV C.P C.gl f first caps aL X.st (zK1 (finK o.dst K ad fr) ds):=by
  unfold zYn at h;split at h
  ·rename_i g;split at h
   ·obtain⟨ys,hys,h1⟩:=yQ4.1 h;obtain⟨v,hv,h2⟩:=yQ4.1 h1;obtain⟨he,hc⟩:=hpf g ys v hv;refine yQ4.2 ⟨.fn (.func g) [] [],rfl,?_⟩;show yQ6 (evL C.gl fr aL.toList) λaL=>callV C.P C.gl (.func g) [] [] aL X.st (zK1 (finK o.dst K ad fr) ds);refine yQ4.2 ⟨ys,hys,?_⟩;show if entI C.P g=true then ICall C.P C.gl g ([]++ys++[]) X.st (zK1 (finK o.dst K ad fr) ds) else False
    rw[if_pos he,List.nil_append,List.append_nil];exact (hc X.st).mono λr st' hr=>by obtain⟨rfl,rfl⟩:=hr;exact h2
   ·exact h
  ·exact h
 obtain⟨fv,hf,h1⟩:=yQ4.1 h;clear h;obtain⟨f,first,caps,rfl,h2⟩:=xX7 h1;clear h1;obtain⟨ys,hys,h⟩:=yQ4.1 h2;clear h2;have hnd:∀c,o.op≠.defer c:=by rw[ho];intro c hc;cases hc
 have hfv:=(hA.v hf).1;obtain⟨fs,cs,ef,hfs,hcs⟩:=V.fn_inv hfv;have hys':=wQx hA.inv.good hA.inv.fr hys;have hval:CallsVal C.P (a.eval x) ⟨aL.toList.map a.eval⟩ X.w (ends C X (zK1 (finK o.dst K ad fr) ds)):=by
  unfold callV at h;split at h
  ·split at h
   ·rename_i he;rw[ef];exact zYm he (h C.B X (fs++aL.toList.map a.eval++cs) hA.inv.good rfl ((hfs.append hys').append hcs))
   ·exact h.elim
  ·exact h C.B X (a.eval x) (aL.toList.map a.eval) hA.inv.good rfl hfv hys'
 have hex:execOp a.eval o=(do let d <- Deferred.ofValue (a.eval x) ⟨aL.toList.map a.eval⟩;invoke d.target d.args):=by
  unfold execOp;rw[ho];have:aL.map a.eval=⟨aL.toList.map a.eval⟩:=by apply Array.ext';simp
  simp only[resolve,this]
 refine⟨λ_ _=>trivial,?_⟩;rw[Oper.semAt_eq _ _ _ hnd,hex];unfold CallsVal at hval;have hfin:∀v w',ends C X (zK1 (finK o.dst K ad fr) ds) v w'->PK C X0 N K (a.put o.dst v) w':=by
  rintro v w' ⟨X',y,rfl,hg,he,hv,hk⟩;exact yZx (hA.inv.ext' he hg) hA.ad hA.hd hv hk
 generalize (do let d <- Deferred.ofValue (a.eval x) ⟨aL.toList.map a.eval⟩;invoke d.target d.args:Sem Next).run C.P X.w=r at hval ⊢;cases r with
 | halt hh w'=>exact hval.elim
 | ok nx w' =>
  cases nx with
  | enter g args =>
   obtain⟨rfl,hc⟩:=hval;rw[Oper.uponIn_enter];refine⟨(λh0=>by cases h0),(yUt hc).mono λe w'' he=>?_⟩;grind
  | round l g tmps assign body =>
   obtain⟨rfl,hc⟩:=hval;rw[Oper.uponIn_round];refine⟨(λh0=>by cases h0),(zWm hc).mono λe w'' he=>?_⟩;grind
  | _=>exact hval.elim
theorem xZ4 {x:Operand}{aL:Array Operand}{ts:Array TypeId}(ho:o.op=.defer ⟨.value x,aL,ts⟩)(hro:ro=none)
  (h:yQ6 (evV C.gl fr x) λf=>fnV f λf first caps=>yQ6 (evL C.gl fr aL.toList) λaL=>finK o.dst K ad fr .nop X.st (.call f caps (first++aL)::ds)) :
  o.wpIn (yZ3 ro) n C.P a X.w (PK C X0 N K) Q:=by
 obtain⟨fv,hf,h1⟩:=yQ4.1 h;clear h;obtain⟨f,first,caps,rfl,h2⟩:=xX7 h1;clear h1;obtain⟨ys,hys,h⟩:=yQ4.1 h2;clear h2;subst hro;obtain⟨fs,cs,ef,hfs,hcs⟩:=V.fn_inv (hA.v hf).1;have hys':=wQx hA.inv.good hA.inv.fr hys;have hex:(execOp a.eval o).run C.P X.w=.ok (.defer { target:=.fn f ⟨cs⟩,args:=⟨fs++aL.toList.map a.eval⟩ }) X.w:=by
  unfold execOp;rw[ho];have:aL.map a.eval=⟨aL.toList.map a.eval⟩:=by apply Array.ext';simp
  simp only[resolve,this,ef,Deferred.ofValue,Sem.run_bind,Sem.run_pure,Result.andThen_ok];simp
 refine⟨λ_ _=>trivial,?_⟩;have hs:Oper.semAt (yZ3 none).round a.eval o=execOp a.eval o:=rfl;rw[hs,hex,Oper.uponIn_defer];cases hd:o.dst with
 | some d=>rw[hd] at h;exact h.elim
 | none =>
  rw[hd] at h;have hI:Inv C X0 N X fr (.call f caps (first++ys)::ds) { a with defers:={ target:=.fn f ⟨cs⟩,args:=⟨fs++aL.toList.map a.eval⟩ }::a.defers } :=
   ⟨hA.inv.good,hA.inv.ext,hA.inv.fr,hA.inv.size,.cons ⟨cs,_,rfl,hcs,hfs.append hys'⟩ hA.inv.ds (λr h=>by cases h)⟩
  exact⟨X,ad,fr,_,rfl,hI,hA.ad,h⟩
end
theorem yUz {c:Cf}{B:Nat}{X0 X:WS}{N:Nat}{fr:Fr}{ds:List Dfd}{a:Act}{ad:Ad}{K:Kt}{ro:Option Nat}{n:Nat}{Q:Exit->Act->World->Prop}{o:Oper}
  (hro:c.rd=false->ro=none) (hA:At (c.cx B) X0 N X fr ds a ad o.dst) (h:vcOp c o.dst o.op K ad fr X.st ds):o.wpIn (yZ3 ro) n c.P a X.w (PK (c.cx B) X0 N K) Q:=by
 unfold vcOp vcR at h;split at h
 case h_1=>exact zV0 hA (.inl ‹_›) h
 case h_2=>exact zV0 hA (.inr ‹_›) h
 case h_3=>exact xVv hA ‹_› h
 case h_4=>exact xZ8 hA ‹_› h
 case h_5=>exact xG8 hA ‹_› h
 case h_6=>exact xZ6 hA ‹_› h
 case h_7=>exact zZi hA ‹_› h
 case h_8=>exact xVx hA ‹_› h
 case h_9=>exact xQy hA ‹_› h
 case h_10=>exact zKc hA ‹_› h
 case h_11=>exact xZ7 hA ‹_› h
 case h_12=>exact xVu hA ‹_› h
 case h_13=>exact zWg hA ‹_› h
 case h_14=>exact zKd hA ‹_› h
 case h_15=>exact zWe hA ‹_› h
 case h_16=>exact xQz hA ‹_› h
 case h_17=>exact zXr hA ‹_› h
 case h_18=>exact xZ2 hA ‹_› h
 case h_19=>exact zXq hA ‹_› h
 case h_20=>exact xZ1 hA ‹_› h
 case h_21=>exact zGm hA ‹_› h
 case h_22=>exact yYc hA (.inl ‹_›) h
 case h_23=>exact zWf hA ‹_› h
 case h_24=>exact xVz hA c.pok ‹_› h
 case h_25=>exact xG6 hA ‹_› h
 case h_26=>exact zGn hA ‹_› h
 case h_27=>exact xG5 hA ‹_› h
 case h_28 =>
  split at h
  ·exact h.elim
  ·rename_i hrd;exact xZ4 hA ‹_› (hro (by simpa using hrd)) h
 case h_29=>exact xG7 hA ‹_› h
 case h_30=>exact xZ5 hA ‹_› h
 case h_31=>exact zXp hA ‹_› h
 case h_32=>exact yYc hA (.inr ‹_›) h
 case h_33=>exact xG4 hA ‹_› h
 case h_34 =>
  split at h
  ·exact h.elim
  ·exact zGk hA ‹_› h
 case h_35 =>
  split at h
  ·exact h.elim
  ·exact xVw hA ‹_› h
 case h_36 =>
  split at h
  ·exact h.elim
  ·exact xZ3 hA ‹_› h
 case h_37=>exact h.elim
def PQ (C:Cx)(X0:WS)(N:Nat)(Q:Kc)(e:Exit)(a:Act)(w:World):Prop :=
 ∃X fr ds,X.w=w/\Inv C X0 N X fr ds a/\Q e fr X.st ds
theorem zQt {c:Cf}{B:Nat}{X0 X:WS}{N:Nat}{fr:Fr}{ds:List Dfd}{a:Act}{ops:Array Oper}{j d:Nat}{b:Bool}(hI:Inv (c.cx B) X0 N X fr ds a)(hd:yVb ops.toList j=some d)(hdN:d<N)
  (hs:fr d=.iv (.raw (.bool b))):yielded ops a.tmps j=some b:=by
 have h1:((ops[j]?).bind (·.dst))=some d:=by simpa[yVb] using hd
 have hsl:=hI.fr.slot d;rw[hs] at hsl;have hv:=V.raw_inv hsl;have hlt:d<a.tmps.size:=by rw[hI.size];exact hdN
 have h2:a.tmps[d]?=some (.bool b):=by
  unfold tm at hv;rw[Array.getD_eq_getD_getElem?,Array.getElem?_eq_getElem hlt,Option.getD_some] at hv;grind
 unfold yielded;grind
theorem zQu {c:Cf}{B:Nat}{X0 X:WS}{N:Nat}{fr:Fr}{ds:List Dfd}{a:Act}{ops:Array Oper}{j d:Nat}{t:Array Value}(hI:Inv (c.cx B) X0 N X fr ds a)(hd:yVb ops.toList j=some d)(hdN:d<N)
  (hs:fr d=.iv (.raw (.tuple t))):yielded ops a.tmps j=none:=by
 have h1:((ops[j]?).bind (·.dst))=some d:=by simpa[yVb] using hd
 have hsl:=hI.fr.slot d;rw[hs] at hsl;have hv:=V.raw_inv hsl;have hlt:d<a.tmps.size:=by rw[hI.size];exact hdN
 have h2:a.tmps[d]?=some (.tuple t):=by
  unfold tm at hv;rw[Array.getD_eq_getD_getElem?,Array.getElem?_eq_getElem hlt,Option.getD_some] at hv;grind
 unfold yielded;grind
theorem xQ5 {ops:Array Oper}{j d:Nat}(h:yVb ops.toList j=some d):∃o∈ops.toList,o.dst=some d:=by
 unfold yVb at h;grind
theorem zGl {c:Cf}{B:Nat}{X0:WS}{N:Nat}{ro:Option Nat}{n:Nat}{ops:Array Oper}{Q:Kc}(hro:c.rd=false->ro=none)(hN:∀o∈ops.toList,∀d,o.dst=some d->d<N) :
  ∀(rest:List Oper) (i:Nat) (X:WS) (fr:Fr) (ds:List Dfd) (a:Act) (ad:Ad),ops.toList.drop i=rest->Inv (c.cx B) X0 N X fr ds a->AdOk fr a.tmps ad->yJb c ops.toList rest (Q .normal) ad fr X.st ds →
   wpOpsIn (yZ3 ro) n c.P ops (PQ (c.cx B) X0 N Q) (List.range' i rest.length) a X.w
 | [],i,X,fr,ds,a,ad,_,hI,_,h=>by
  simp only[List.length_nil,List.range'_zero,wpOpsIn];exact⟨X,fr,ds,rfl,hI,h⟩
 | o::rest,i,X,fr,ds,a,ad,hdr,hI,had,h=>by
  have ho:ops[i]?=some o:=by
   have:ops.toList[i]?=some o:=by
    have:=congrArg (·[0]?) hdr;grind
   grind
  have hmem:o∈ops.toList:=by
   grind
  have hdr':ops.toList.drop (i+1)=rest:=by
   have:=congrArg (List.drop 1) hdr;rw[List.drop_drop] at this;grind
  have hnext:∀a' w',PK (c.cx B) X0 N (yJb c ops.toList rest (Q .normal)) a' w'->wpOpsIn (yZ3 ro) n c.P ops (PQ (c.cx B) X0 N Q) (List.range' (i+1) rest.length) a' w':=by
   rintro a' w' ⟨X',ad',fr',ds',rfl,hI',had',h'⟩;exact zGl hro hN rest (i+1) X' fr' ds' a' ad' hdr' hI' had' h'
  have hrun:∀ad fr,AdOk fr a.tmps ad->Inv (c.cx B) X0 N X fr ds a->vcOp c o.dst o.op (yJb c ops.toList rest (Q .normal)) ad fr X.st ds →
    o.wpIn (yZ3 ro) n c.P a X.w (wpOpsIn (yZ3 ro) n c.P ops (PQ (c.cx B) X0 N Q) (List.range' (i+1) rest.length)) (PQ (c.cx B) X0 N Q):=by
   intro ad fr had hI h;exact Oper.wpIn_mono hnext (yUz hro ⟨hI,had,hN o hmem⟩ h)
  rw[List.length_cons,List.range'_succ];simp only[wpOpsIn,ho];unfold yJb at h;split at h
  ·rename_i hg;have hw:Region.wanted o (yielded ops a.tmps)=true:=by simp[Region.wanted,hg]
   grind
  ·rename_i j want hg;split at h
   ·rename_i d hd;obtain⟨od,hodm,hodd⟩:=xQ5 (ops:=ops) (show yVb ops.toList j=some d from hd);have hdN:=hN od hodm d hodd;cases hs:fr d with
    | box cs=>rw[hs] at h;exact h.elim
    | iv x =>
     cases x with
     | raw v =>
      cases v with
      | bool b =>
       rw[hs,zUv fr d want b _ _ _ _ hs] at h;have hy:=zQt hI (show yVb ops.toList j=some d from hd) hdN hs;by_cases hbw:b=want
       ·have hw:Region.wanted o (yielded ops a.tmps)=true:=by simp[Region.wanted,hg,hy,hbw]
        grind
       ·have hbn:b=!want:=by cases b<;>cases want<;>simp_all
        have hw:¬ Region.wanted o (yielded ops a.tmps)=true:=by simp[Region.wanted,hg,hy,hbw]
        rw[if_neg hw];exact⟨λ_ _=>trivial,hnext _ _ (yZx hI had (hN o hmem) (.raw _ trivial) (h.2 hbn))⟩
      | tuple t =>
       rw[hs] at h;have hy:=zQu hI (show yVb ops.toList j=some d from hd) hdN hs;have hw:¬ Region.wanted o (yielded ops a.tmps)=true:=by simp[Region.wanted,hg,hy]
       rw[if_neg hw];exact⟨λ_ _=>trivial,hnext _ _ (yZx hI had (hN o hmem) (.raw _ trivial) h)⟩
      | _=>rw[hs] at h;exact h.elim
     | _=>rw[hs] at h;exact h.elim
   ·exact h.elim
theorem zGj {c:Cf}{B:Nat}{X0 X:WS}{N:Nat}{ro:Option Nat}{n id:Nat}{ops:Array Oper}{Q:Kc}{fr:Fr}{ds:List Dfd}{a:Act}(hro:c.rd=false->ro=none)(hN:∀o∈ops.toList,∀d,o.dst=some d->d<N)
  (hI:Inv (c.cx B) X0 N X fr ds a) (h:yJb c ops.toList ops.toList (Q .normal) Ad.none_ fr X.st ds):(Code.region id ops false).wpIn (yZ3 ro) n c.P (PQ (c.cx B) X0 N Q) a X.w:=by
 refine wpIn_region ?_;have:=zGl (Q:=Q) (ro:=ro) (n:=n) hro hN ops.toList 0 X fr ds a Ad.none_ rfl hI .nil h
 rwa [Array.length_toList,<- List.range_eq_range'] at this
