/- From a row's reading to ideal values, pa -/
import Derived.Lib.SmallJoins
import Derived.Test.YtdbmgeebmfpmpaaGreatDoorJT
import Derived.Test.YtdbmgeebmfpmpaaGreatDoorRows
set_option linter.all false
namespace Go.Iv
open Go Go.ChangeShapes
def L0 (w:World)(b:Nat):Nat:=match w.heap[b]? with
 | some (.cells c _ _)=>c.size
 | _=>0
theorem vYb {w:World}{a:Addr}{r:Value}(h:w.cell? a=some r):a.spot=none/\a.off<L0 w a.block:=by
 unfold World.cell? at h;unfold L0;split at h
 ·rename_i c t f hh;rw[hh];split at h
  ·cases h
  ·rename_i hs;refine⟨by cases hq:a.spot with|none=>rfl|some _=>simp[hq] at hs,?_⟩;exact (Array.getElem?_eq_some_iff.1 h).1
 ·cases h
theorem xYf (a:Addr)(n:Nat)(h:a.spot=none):a.add n=⟨a.block,a.off+n,none⟩:=by
 cases a;simp only at h;subst h;unfold Addr.add;split
 ·rename_i h;simp[h]
 ·rfl
theorem add_zero (a:Addr):a.add 0=a:=by simp[Addr.add]
theorem zUr {w:World}(a:Addr)(es:Nat):∀(xs:List IV) (k:Nat),(∀(i:Nat) (x:IV),xs[i]?=some x->x.cells.length=es/\∃cs,w.cells? 0 (a.add ((k+i)*es)) es=some cs/\VL 0 (L0 w) w cs x.cells) →
  ∃vs:List Value,vs.length=xs.length*es/\(∀(i:Nat) (r:Value),vs[i]?=some r->w.cell? (a.add (k*es+i))=some r)/\VL 0 (L0 w) w vs (xs.flatMap IV.cells)
 | [],k,h=>⟨[],by simp,λi r h=>by simp at h,VL.nil⟩
 | x::xs,k,h=>by
  obtain⟨vs,h1,h2,h3⟩:=zUr a es xs (k+1) (λi x hx=>by
   have:=h (i+1) x (by simpa using hx)
   rwa [show k+(i+1)=k+1+i by omega] at this)
  obtain⟨hx,cs,hc,hv⟩:=h 0 x rfl;obtain⟨_,hl,hg⟩:=World.cells?_some hc;refine⟨cs++vs,by simp[hl,h1,Nat.succ_mul,Nat.add_comm],λi r hr=>?_,by simpa using hv.append h3⟩;by_cases hi:i<cs.length
  ·rw[List.getElem?_append_left hi] at hr;have:=hg i (by omega);rw[hr] at this;rw[<- this];rw[Deep.add_add,Nat.add_zero]
  ·rw[List.getElem?_append_right (by omega)] at hr;have:=h2 _ r hr;rw[<- this];have e:(k+1)*es+(i-cs.length)=k*es+i:=by rw[Nat.succ_mul,hl];omega
   rw[e]
theorem vZe {w:World}{a:Addr}{len cap es:Nat}{xs:List IV}(hes:0<es)(hxl:xs.length=len)(hcl:len<=cap)(hlen:len<=140737488355328)
  (h:∀(i:Nat) (x:IV),xs[i]?=some x->x.cells.length=es/\∃cs,w.cells? 0 (a.add (i*es)) es=some cs/\VL 0 (L0 w) w cs x.cells) :
  V 0 (L0 w) w (.slice (some a) len cap) (.sl ⟨false,.none,es⟩ xs):=by
 obtain⟨vs,h1,h2,h3⟩:=zUr a es xs 0 (λi x hx=>by simpa using h i x hx);subst hxl;refine .sl (some a) cap ⟨false,.none,es⟩ xs 0 vs trivial hlen hcl (λx hx=>?_) h1 (λg hg=>by cases hg) (λhf=>by cases hf) (λhne=>?_) h3.2
 ·obtain⟨i,hi,rfl⟩:=List.mem_iff_getElem.1 hx;exact (h i _ (List.getElem?_eq_getElem hi)).1
 ·have hpos:0<vs.length:=by
   rw[h1];exact Nat.mul_pos (List.length_pos_iff.2 hne) hes
  have hfirst:=h2 0 (vs[0]'(hpos)) (List.getElem?_eq_getElem hpos);rw[Nat.zero_mul,Nat.add_zero,add_zero] at hfirst;have hs':=(vYb hfirst).1;have hlast:=h2 (vs.length-1) (vs[vs.length-1]'(by omega)) (List.getElem?_eq_getElem (by omega));obtain⟨hs,hL⟩:=vYb hlast;rw[xYf a _ hs'] at hL;simp only[Nat.zero_mul,Nat.zero_add] at hL;refine⟨a,rfl,hs',by omega,λi r hr=>?_⟩;have:=h2 i r hr;rw[xYf a _ hs'] at this;simpa using this
section
variable {H:Type}{enc:TypeId×Value->H}{P:Program}{w:World}{spare:Nat->Bool}{held:Bool}
theorem xXp {α:Type}(R:DataW H->α->IV->Prop){t e:TypeId}{es:Nat}{fuel:Nat}{cs:List Value}{d:DataW H}{p:List MemPlace}(ht:P.underlying t=some (.slice e))(hes:P.cellsOf e=es)(h0:0<es)
  (h:DataW.trod enc P w 0 spare held fuel t cs=some (d,p)) (bound:∀(elems sp:List (DataW H)),d=.slice elems sp->elems.length<=140737488355328)
  (hR:∀d t x,R d t x->x.cells.length=es)
  (each:∀(n:Nat),fuel=n+1->∀(cs':List Value) (y:DataW H) (q:List MemPlace),(∃elems sp,d=.slice elems sp/\y∈elems)->DataW.trod enc P w 0 spare held n e cs'=some (y,q)->∃a x,VL 0 (L0 w) w cs' x.cells/\R y a x) :
  ∃(v:Value) (tg:Tag) (xs:List IV) (us:List α),cs=[v]/\V 0 (L0 w) w v (.sl tg xs)/\okEs tg es/\us.length=xs.length /\
   ((d=.nil/\xs=[])\/∃elems sp,d=.slice elems sp/\elems.length=xs.length/\∀(i:Nat) (y:DataW H) (a:α) (x:IV),elems[i]?=some y->us[i]?=some a->xs[i]?=some x->R y a x):=by
 rcases DataW.trod_slice ht h with⟨rfl,hd⟩|⟨a,len,cap,elems,rest,n,hn,rfl,hd,_,hl,_,hlen,hel,_,_⟩
 ·refine⟨_,⟨true,.nil,0⟩,[],[],rfl,?_,Or.inl rfl,rfl,Or.inl ⟨by simpa using congrArg Prod.fst hd,rfl⟩⟩;exact .sl none 0 ⟨true,.nil,0⟩ [] 0 [] ⟨rfl,rfl,rfl⟩ (by simp) (by simp) (λx hx=>by cases hx) (by simp) (λg hg=>by cases hg) (λ_ ad ha=>by cases ha) (λhne=>absurd rfl hne) (λi r c h=>by simp at h)
 ·have hd1:d=.slice (elems.map (·.1)) (rest.map (·.1)):=congrArg Prod.fst hd;have hb:=bound _ _ hd1;rw[List.length_map] at hb;rw[hes] at hel;have key:∀i,i<len->∃(z:α×IV) (cs':List Value),w.cells? 0 (a.add (i*es)) es=some cs'/\VL 0 (L0 w) w cs' z.2.cells/\∀y,elems[i]?=some y->R y.1 z.1 z.2:=by
   intro i hi;have hi':i<elems.length:=by omega
   have h1:=hel i hi;rw[List.getElem?_eq_getElem hi'] at h1;obtain⟨cs',hc,hy⟩:=Option.bind_eq_some_iff.1 h1;obtain⟨b,x,hv,hr⟩:=each n hn cs' elems[i].1 elems[i].2 ⟨_,_,hd1,List.mem_map.2 ⟨_,List.getElem_mem hi',rfl⟩⟩ hy;refine⟨(b,x),cs',hc,hv,λy hy=>?_⟩;rw[List.getElem?_eq_getElem hi'] at hy;cases hy;exact hr
  have build:∀m,m<=len->∃zs:List (α×IV),zs.length=m/\∀(i:Nat) (z:α×IV),zs[i]?=some z->∃cs':List Value,w.cells? 0 (a.add (i*es)) es=some cs'/\VL 0 (L0 w) w cs' z.2.cells/\∀y,elems[i]?=some y->R y.1 z.1 z.2:=by
   intro m
   induction m with
   | zero=>exact λ_=>⟨[],rfl,λi z h=>by simp at h⟩
   | succ m ih =>
    intro hm;obtain⟨zs,hzl,hz⟩:=ih (by omega);obtain⟨z,hk⟩:=key m (by omega);refine⟨zs++[z],by simp[hzl],λi z' hz'=>?_⟩;by_cases hi:i<zs.length
    ·rw[List.getElem?_append_left hi] at hz';exact hz i z' hz'
    ·rw[List.getElem?_append_right (by omega)] at hz';have:i=m:=by
      have:=(lGs hz').1;simp at this;omega
     subst this;rw[hzl,Nat.sub_self] at hz';cases hz';exact hk
  obtain⟨zs,hzl,hz⟩:=build len (Nat.le_refl _);refine⟨_,⟨false,.none,es⟩,zs.map (·.2),zs.map (·.1),rfl,vZe h0 (by simp[hzl]) hl (by omega) (λi x hx=>?_),Or.inr rfl,by simp,Or.inr ⟨_,_,hd1,by simp[hzl,hlen],λi y b x hy hb hx=>?_⟩⟩
  ·rw[List.getElem?_map] at hx;obtain⟨z,hz1,rfl⟩:=Option.map_eq_some_iff.1 hx;obtain⟨cs',h1,h2,h3⟩:=hz i z hz1;have hi:i<elems.length:=by
    have:=(lGs hz1).1;omega
   exact⟨hR _ _ _ (h3 _ (List.getElem?_eq_getElem hi)),cs',h1,h2⟩
  ·rw[List.getElem?_map] at hx hb hy;obtain⟨z,hz1,rfl⟩:=Option.map_eq_some_iff.1 hx;rw[hz1] at hb;cases hb;obtain⟨y',hy1,rfl⟩:=Option.map_eq_some_iff.1 hy;obtain⟨cs',h1,h2,h3⟩:=hz i z hz1;exact h3 _ hy1
end
end Go.Iv
namespace Go.Proofs.Tryz
open Go Go.Iv Go.ChangeShapes
open Go.Proofs.YtdbmgeebmfpmpaaGreatDoor.Rows (uptoBulk uptoBulkAll)
set_option maxRecDepth 4000
theorem uZx:prog.underlying 29=some (.struct #[⟨ "Var",4,0,false, "", "",0⟩,⟨ "Name",9,1,false, "", "",8⟩,⟨ "Args",25,2,false, "", "",24⟩]):=by kernel_rfl
theorem uZz:prog.underlying 27=some (.struct #[⟨ "Op",5,0,false, "", "",0⟩,⟨ "Name",9,1,false, "", "",8⟩,⟨ "Args",25,2,false, "", "",24⟩,⟨ "Sub",22,3,false, "", "",48⟩]):=by kernel_rfl
theorem vJ7:prog.underlying 25=some (.slice 29):=by kernel_rfl
theorem vJ8:prog.underlying 22=some (.slice 27):=by kernel_rfl
theorem wQ0:prog.underlying 4=some .bool:=by kernel_rfl
theorem wU2:prog.underlying 9=some .string:=by kernel_rfl
theorem uU8:prog.underlying 5=some (.int .u8):=by kernel_rfl
theorem vK9:prog.cellsOf 29=3:=by kernel_rfl
theorem vKa:prog.cellsOf 27=4:=by kernel_rfl
section
variable {H:Type}{enc:TypeId×Value->H}{w:World}{spare:Nat->Bool}{held:Bool}
theorem vK2 (d:DataW H):1<=uptoBulk d:=by
 cases d with
 | lit l=>cases l<;>simp[uptoBulk]
 | nil=>simp[uptoBulk]
 | ptr d=>simp[uptoBulk]
 | slice elems spare=>simp[uptoBulk]
 | agg parts=>simp[uptoBulk]
 | iface t d=>simp[uptoBulk]
 | map entries=>simp[uptoBulk]
 | held h=>simp[uptoBulk]
theorem zYt {d:DataW H}:∀ {l:List (DataW H)},d∈l->uptoBulk d<=uptoBulkAll l
 | x::r,h=>by
  simp only[uptoBulkAll];cases List.mem_cons.1 h with
  | inl e=>subst e;omega
  | inr e=>have:=zYt e;omega
theorem zQ5:∀(l:List (DataW H)),l.length<=uptoBulkAll l
 | []=>Nat.le_refl _
 | x::r=>by have:=vK2 x;have:=zQ5 r;simp only[uptoBulkAll,List.length_cons];omega
theorem yK9 (elems sp:List (DataW H)):uptoBulkAll elems+1<=uptoBulk (.slice elems sp):=by simp only[uptoBulk];omega
theorem xQk:∀ {us:List Tm}{xs:List IV},us.length=xs.length->(∀(i:Nat)(a:Tm)(x:IV),us[i]?=some a->xs[i]?=some x->IsTm a x)->IsTms us xs
 | [],xs,h,_=>by simpa[IsTms] using h.symm
 | a::us,[],h,_=>by simp at h
 | a::us,x::xs,h,hh=>⟨x,xs,rfl,hh 0 a x rfl rfl,xQk (by simpa using h) (λi b y hb hy=>hh (i+1) b y (by simpa using hb) (by simpa using hy))⟩
theorem xQl:∀ {us:List Fm}{xs:List IV},us.length=xs.length->(∀(i:Nat)(a:Fm)(x:IV),us[i]?=some a->xs[i]?=some x->IsFm a x)->IsFms us xs
 | [],xs,h,_=>by simpa[IsFms] using h.symm
 | a::us,[],h,_=>by simp at h
 | a::us,x::xs,h,hh=>⟨x,xs,rfl,hh 0 a x rfl rfl,xQl (by simpa using h) (λi b y hb hy=>hh (i+1) b y (by simpa using hb) (by simpa using hy))⟩
theorem zWx:∀ {us:List Tm}{ds:List (DataW H)},us.length=ds.length->(∀(i:Nat)(a:Tm)(d:DataW H),us[i]?=some a->ds[i]?=some d->xU7 a<=uptoBulk d)->yGu us<=uptoBulkAll ds
 | [],ds,h,_=>by simp[yGu]
 | a::us,[],h,_=>by simp at h
 | a::us,x::xs,h,hh=>by
  have h1:=hh 0 a x rfl rfl;have h2:=zWx (us:=us) (ds:=xs) (by simpa using h) (λi b y hb hy=>hh (i+1) b y (by simpa using hb) (by simpa using hy));simp only[yGu,uptoBulkAll];omega
theorem zWy:∀ {us:List Fm}{ds:List (DataW H)},us.length=ds.length->(∀(i:Nat)(a:Fm)(d:DataW H),us[i]?=some a->ds[i]?=some d->xU8 a<=uptoBulk d)->zQk us<=uptoBulkAll ds
 | [],ds,h,_=>by simp[zQk]
 | a::us,[],h,_=>by simp at h
 | a::us,x::xs,h,hh=>by
  have h1:=hh 0 a x rfl rfl;have h2:=zWy (us:=us) (ds:=xs) (by simpa using h) (λi b y hb hy=>hh (i+1) b y (by simpa using hb) (by simpa using hy));simp only[zQk,uptoBulkAll];omega
theorem wQ9 {n:Nat}{cs:List Value}{y:DataW H×List MemPlace}(h:DataW.trod enc prog w 0 spare held n 9 cs=some y)(hb:uptoBulk y.1<=1048576) :
  ∃s:ByteArray,cs=[.string s]/\V 0 (L0 w) w (.string s) (.raw (.string s))/\s.size+1<=uptoBulk y.1:=by
 obtain⟨s,rfl,rfl,_⟩:=DataW.trod_string wU2 h;have hq:s.size+1=uptoBulk (DataW.lit (H:=H) (.string s.data.toList)):=by simp only[uptoBulk,ByteArray.size,Array.length_toList]
 refine⟨s,rfl,.raw _ ?_,by rw[hq];exact Nat.le_refl _⟩;show s.size<=281474976710656;have hb':s.size+1<=1048576:=by rw[hq];exact hb
 omega
def RT (d:DataW H)(t:Tm)(x:IV):Prop:=IsTm t x/\xU7 t<=uptoBulk d
theorem RT.cells {d:DataW H}{t:Tm}{x:IV}(h:RT d t x):x.cells.length=3:=by
 cases t with
 | mk v n us=>obtain⟨tg,xs,rfl,_⟩:=IsTm.mk h.1;rfl
theorem cs3 {cs:List Value}(h:cs.length=3):∃a b c,cs=[a,b,c]:=by
 match cs,h with
 | [a,b,c],_=>exact⟨a,b,c,rfl⟩
theorem cs4 {cs:List Value}(h:cs.length=4):∃a b c d,cs=[a,b,c,d]:=by
 match cs,h with
 | [a,b,c,d],_=>exact⟨a,b,c,d,rfl⟩
theorem xKr {fuel:Nat}{cs:List Value}{y:DataW H×List MemPlace}(h:DataW.trod enc prog w 0 spare held fuel 25 cs=some y)(hb:uptoBulk y.1<=1048576)
  (IH:∀(n:Nat),n<fuel->∀(cs:List Value) (y:DataW H×List MemPlace),DataW.trod enc prog w 0 spare held n 29 cs=some y->uptoBulk y.1<=1048576->∃t x,VL 0 (L0 w) w cs x.cells/\RT y.1 t x) :
  ∃v tg xs ts,cs=[v]/\V 0 (L0 w) w v (.sl tg xs)/\okEs tg 3/\IsTms ts xs/\yGu ts+1<=uptoBulk y.1:=by
 obtain⟨v,tg,xs,ts,rfl,hv,htg,hl,hc⟩:=xXp (H:=H) (P:=prog) (d:=y.1) (p:=y.2) RT vJ7 vK9 (by decide) h (λelems sp e=>by
   have:=yK9 elems sp;have:=zQ5 elems;rw[<- e] at *;omega) (λd t x h=>h.cells) (λn hn cs' z q ⟨elems,sp,he,hm⟩ hz=>by
   have:=yK9 elems sp;have:=zYt hm;rw[he] at hb;exact IH n (by omega) cs' (z,q) hz (show uptoBulk z<=1048576 by omega))
 refine⟨v,tg,xs,ts,rfl,hv,htg,?_⟩;rcases hc with⟨hd,rfl⟩|⟨elems,sp,hd,hel,hr⟩
 ·obtain rfl:ts=[]:=List.length_eq_zero_iff.1 (by simpa using hl);exact⟨rfl,by rw[hd];simp[yGu,uptoBulk]⟩
 ·have hi:∀(i:Nat) (a:Tm),ts[i]?=some a->∃x d,xs[i]?=some x/\elems[i]?=some d/\RT d a x:=λi a ha=>by
   have hi:=(lGs ha).1;exact⟨_,_,List.getElem?_eq_getElem (by omega),List.getElem?_eq_getElem (by omega),hr i _ _ _ (List.getElem?_eq_getElem (by omega)) ha (List.getElem?_eq_getElem (by omega))⟩
  refine⟨xQk hl (λi a x ha hx=>?_),?_⟩
  ·obtain⟨x',d,h1,h2,h3⟩:=hi i a ha;rw[hx] at h1;cases h1;exact h3.1
  ·have:=zWx (us:=ts) (ds:=elems) (by omega) (λi a d ha hd'=>by
    obtain⟨x',d',h1,h2,h3⟩:=hi i a ha;rw[hd'] at h2;cases h2;exact h3.2)
   have:=yK9 elems sp;rw[hd];omega
theorem wQ4:∀(fuel:Nat)(cs:List Value)(y:DataW H×List MemPlace),DataW.trod enc prog w 0 spare held fuel 29 cs=some y->uptoBulk y.1<=1048576->∃t x,VL 0 (L0 w) w cs x.cells/\RT y.1 t x:=by
 intro fuel
 induction fuel using Nat.strongRecOn with
 | ind fuel IH =>
  intro cs y h hb;obtain⟨ys,n,rfl,rfl,hl,hlen,hf⟩:=DataW.trod_struct uZx h
  match ys,hlen with
  | [y0,y1,y2],_ =>
   rw[vK9] at hl;obtain⟨c0,c1,c2,rfl⟩:=cs3 hl;have h0:=hf 0 _ rfl;have h1:=hf 1 _ rfl;have h2:=hf 2 _ rfl;simp only[List.getElem?_cons_zero,List.getElem?_cons_succ] at h0 h1 h2;simp only[List.map_cons,List.map_nil,uptoBulk,uptoBulkAll] at hb;obtain⟨b,e0,rfl⟩:=DataW.trod_bool wQ0 h0;obtain⟨s,e1,hs,hs2⟩:=wQ9 h1 (by omega);obtain⟨v,tg,xs,ts,e2,hv,htg,hts,hbk⟩:=xKr h2 (by omega) (λm hm=>IH m (by omega));cases e0;cases e1;cases e2;refine⟨.mk b s ts,.agg [.raw (.bool b),.raw (.string s),.sl tg xs],VL.cons (.raw _ trivial) (VL.cons hs (VL.cons hv VL.nil)),?_,?_⟩
   ·simp only[IsTm];exact⟨tg,xs,rfl,htg,hts⟩
   ·simp only[List.map_cons,List.map_nil,uptoBulk,uptoBulkAll,xU7];omega
def RF (d:DataW H)(f:Fm)(x:IV):Prop:=IsFm f x/\xU8 f<=uptoBulk d
theorem RF.cells {d:DataW H}{t:Fm}{x:IV}(h:RF d t x):x.cells.length=4:=by
 cases t with
 | mk v n us sub=>obtain⟨tg,xs,tg',ys,rfl,_⟩:=IsFm.mk h.1;rfl
theorem zGn {fuel:Nat}{cs:List Value}{y:DataW H×List MemPlace}(h:DataW.trod enc prog w 0 spare held fuel 22 cs=some y)(hb:uptoBulk y.1<=1048576)
  (IH:∀(n:Nat),n<fuel->∀(cs:List Value) (y:DataW H×List MemPlace),DataW.trod enc prog w 0 spare held n 27 cs=some y->uptoBulk y.1<=1048576->∃t x,VL 0 (L0 w) w cs x.cells/\RF y.1 t x) :
  ∃v tg xs ts,cs=[v]/\V 0 (L0 w) w v (.sl tg xs)/\okEs tg 4/\IsFms ts xs/\zQk ts+1<=uptoBulk y.1:=by
 obtain⟨v,tg,xs,ts,rfl,hv,htg,hl,hc⟩:=xXp (H:=H) (P:=prog) (d:=y.1) (p:=y.2) RF vJ8 vKa (by decide) h (λelems sp e=>by
   have:=yK9 elems sp;have:=zQ5 elems;rw[<- e] at *;omega) (λd t x h=>h.cells) (λn hn cs' z q ⟨elems,sp,he,hm⟩ hz=>by
   have:=yK9 elems sp;have:=zYt hm;rw[he] at hb;exact IH n (by omega) cs' (z,q) hz (show uptoBulk z<=1048576 by omega))
 refine⟨v,tg,xs,ts,rfl,hv,htg,?_⟩;rcases hc with⟨hd,rfl⟩|⟨elems,sp,hd,hel,hr⟩
 ·obtain rfl:ts=[]:=List.length_eq_zero_iff.1 (by simpa using hl);exact⟨rfl,by rw[hd];simp[zQk,uptoBulk]⟩
 ·have hi:∀(i:Nat) (a:Fm),ts[i]?=some a->∃x d,xs[i]?=some x/\elems[i]?=some d/\RF d a x:=λi a ha=>by
   have hi:=(lGs ha).1;exact⟨_,_,List.getElem?_eq_getElem (by omega),List.getElem?_eq_getElem (by omega),hr i _ _ _ (List.getElem?_eq_getElem (by omega)) ha (List.getElem?_eq_getElem (by omega))⟩
  refine⟨xQl hl (λi a x ha hx=>?_),?_⟩
  ·obtain⟨x',d,h1,h2,h3⟩:=hi i a ha;rw[hx] at h1;cases h1;exact h3.1
  ·have:=zWy (us:=ts) (ds:=elems) (by omega) (λi a d ha hd'=>by
    obtain⟨x',d',h1,h2,h3⟩:=hi i a ha;rw[hd'] at h2;cases h2;exact h3.2)
   have:=yK9 elems sp;rw[hd];omega
theorem xJk:∀(fuel:Nat)(cs:List Value)(y:DataW H×List MemPlace),DataW.trod enc prog w 0 spare held fuel 27 cs=some y->uptoBulk y.1<=1048576->∃t x,VL 0 (L0 w) w cs x.cells/\RF y.1 t x:=by
 intro fuel
 induction fuel using Nat.strongRecOn with
 | ind fuel IH =>
  intro cs y h hb;obtain⟨ys,n,rfl,rfl,hl,hlen,hf⟩:=DataW.trod_struct uZz h
  match ys,hlen with
  | [y0,y1,y2,y3],_ =>
   rw[vKa] at hl;obtain⟨c0,c1,c2,c3,rfl⟩:=cs4 hl;have h0:=hf 0 _ rfl;have h1:=hf 1 _ rfl;have h2:=hf 2 _ rfl;have h3:=hf 3 _ rfl;simp only[List.getElem?_cons_zero,List.getElem?_cons_succ] at h0 h1 h2 h3;simp only[List.map_cons,List.map_nil,uptoBulk,uptoBulkAll] at hb;obtain⟨op,e0,rfl,hop⟩:=DataW.trod_int uU8 h0;obtain⟨s,e1,hs,hs2⟩:=wQ9 h1 (by omega);obtain⟨v,tg,xs,ts,e2,hv,htg,hts,hbk⟩:=xKr h2 (by omega) (λm _=>wQ4 m);obtain⟨v',tg',xs',ts',e3,hv',htg',hts',hbk'⟩:=zGn h3 (by omega) (λm hm=>IH m (by omega));cases e0;cases e1;cases e2;cases e3;have hop:0<=op/\op<256:=by
    simp only[Lit.wf,IntKind.min,IntKind.max,IntKind.signed,IntKind.bits,bAt] at hop;exact⟨of_decide_eq_true hop.1,by have:=of_decide_eq_true hop.2;simp at this;omega⟩
   obtain⟨k,rfl⟩:=Int.eq_ofNat_of_zero_le hop.1;refine⟨.mk k s ts ts',.agg [.raw (.int .u8 k),.raw (.string s),.sl tg xs,.sl tg' xs'],VL.cons (.raw _ trivial) (VL.cons hs (VL.cons hv (VL.cons hv' VL.nil))),?_,?_⟩
   ·simp only[IsFm];exact⟨tg,xs,tg',xs',rfl,by omega,htg,hts,htg',hts'⟩
   ·simp only[List.map_cons,List.map_nil,uptoBulk,uptoBulkAll,xU8];omega
end
section
variable {H:Type}{enc:TypeId×Value->H}{w:World}{spare:Nat->Bool}{held:Bool}
end
