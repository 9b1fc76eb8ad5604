/- From a row's reading to ideal values, pa -/
import Derived.Lib.SmallJoins
import Derived.Test.YtigeiecfkoimpaaGreatDoorJT
import Derived.Test.YtigeiecfkoimpaaGreatDoorRows
set_option linter.all false
namespace Go.Iv
open Go Go.ChangeShapes
def L0 (w:World)(b:Nat):Nat:=match w.heap[b]? with
 | some (.cells c _ _)=>c.size
 | _=>0
def DE {w:World}{a:Addr}{r:Value}(h:w.cell? a=some r):a.spot=none/\a.off<L0 w a.block:=by
 unfold World.cell? at h;unfold L0;split at h
 ·rename_i c t f E;rw[E];split at h
  ·cases h
  ·rename_i hs;refine⟨by cases D:a.spot with|none=>rfl|some _=>simp[D] at hs,?_⟩;exact (iN.1 h).1
 ·cases h
def DG (a:Addr)(n:Nat)(h:a.spot=none):a.add n=⟨a.block,a.off+n,none⟩:=by
 cases a;simp only at h;subst h;unfold Addr.add;split
 ·rename_i h;simp[h]
 ·rfl
def add_zero (a:Addr):a.add 0=a:=by simp[Addr.add]
def DH {w:World}(a:Addr)(es:Nat):∀(xs:List IV) (k:Nat),(∀(i:Nat) (x:IV),xs[i]?=some x->x.cells.length=es/\∃cs,w.cells? 0 (a.add ((k+i)*es)) es=some cs/\VL 0 (L0 w) w cs x.cells) →
  ∃vs:List Value,vs.length=xs.length*es/\(∀(i:Nat) (r:Value),vs[i]?=some r->w.cell? (a.add (k*es+i))=some r)/\VL 0 (L0 w) w vs (xs.flatMap IV.cells)
 | [],k,h=>⟨[],by simp,λi r h=>by simp at h,VL.nil⟩
 | x::xs,k,h=>by
  obtain⟨vs,h1,h2,O⟩:=DH a es xs (k+1) (λi x E=>by
   have:=h (i+1) x (by simpa using E)
   rwa [show k+(i+1)=k+1+i by omega] at this)
  obtain⟨E,cs,hc,hv⟩:=h 0 x rfl;obtain⟨_,hl,J⟩:=World.cells?_some hc;refine⟨cs++vs,by simp[hl,h1,hY,Nat.add_comm],λi r D=>?_,by simpa using hv.append O⟩;by_cases G:i<cs.length
  ·rw[fg G] at D;have:=J i (by omega);rw[D] at this;rw[<- this];rw[Deep.add_add,iO]
  ·rw[fD (by omega)] at D;have:=h2 _ r D;rw[<- this];have e:(k+1)*es+(i-cs.length)=k*es+i:=by rw[hY,hl];omega
   rw[e]
def L4 {w:World}{a:Addr}{len cap es:Nat}{xs:List IV}(ae:0<es)(aa:xs.length=len)(af:len<=cap)(O:len<=140737488355328)
  (h:∀(i:Nat) (x:IV),xs[i]?=some x->x.cells.length=es/\∃cs,w.cells? 0 (a.add (i*es)) es=some cs/\VL 0 (L0 w) w cs x.cells) :
  V 0 (L0 w) w (.slice (some a) len cap) (.sl ⟨false,.none,es⟩ xs):=by
 obtain⟨vs,h1,h2,h3⟩:=DH a es xs 0 (λi x hx=>by simpa using h i x hx);subst aa;refine .sl (some a) cap ⟨false,.none,es⟩ xs 0 vs trivial O af (λx hx=>?_) h1 (λg hg=>by cases hg) (λhf=>by cases hf) (λac=>?_) h3.2
 ·obtain⟨i,hi,rfl⟩:=fR.1 hx;exact (h i _ (dT hi)).1
 ·have E:0<vs.length:=by
   rw[h1];exact Nat.mul_pos (jJ.2 ac) ae
  have D:=h2 0 (vs[0]'(E)) (dT E);rw[Nat.zero_mul,iO,add_zero] at D;have G:=(DE D).1;have J:=h2 (vs.length-1) (vs[vs.length-1]'(by omega)) (dT (by omega));obtain⟨hs,hL⟩:=DE J;rw[DG a _ G] at hL;simp only[Nat.zero_mul,dY] at hL;refine⟨a,rfl,G,by omega,λi r hr=>?_⟩;have:=h2 i r hr;rw[DG a _ G] at this;simpa using this
section
variable {H:Type}{enc:TypeId×Value->H}{P:Program}{w:World}{spare:Nat->Bool}{held:Bool}
def yh {α:Type}(R:DataW H->α->IV->Prop){t e:TypeId}{es:Nat}{O:Nat}{cs:List Value}{d:DataW H}{p:List MemPlace}(ht:P.underlying t=some (.slice e))(ao:P.cellsOf e=es)(h0:0<es)
  (h:DataW.trod enc P w 0 spare held O t cs=some (d,p)) (af:∀(D sp:List (DataW H)),d=.slice D sp->D.length<=140737488355328)
  (hR:∀d t x,R d t x->x.cells.length=es)
  (ak:∀(n:Nat),O=n+1->∀(cs':List Value) (y:DataW H) (q:List MemPlace),(∃D sp,d=.slice D sp/\y∈D)->DataW.trod enc P w 0 spare held n e cs'=some (y,q)->∃a x,VL 0 (L0 w) w cs' x.cells/\R y a x) :
  ∃(v:Value) (tg:Tag) (xs:List IV) (us:List α),cs=[v]/\V 0 (L0 w) w v (.sl tg xs)/\okEs tg es/\us.length=xs.length /\
   ((d=.nil/\xs=[])\/∃D sp,d=.slice D sp/\D.length=xs.length/\∀(i:Nat) (y:DataW H) (a:α) (x:IV),D[i]?=some y->us[i]?=some a->xs[i]?=some x->R y a x):=by
 rcases DataW.trod_slice ht h with⟨rfl,hd⟩|⟨a,len,cap,D,rest,n,hn,rfl,hd,_,hl,_,ag,ai,_,_⟩
 ·refine⟨_,⟨true,.nil,0⟩,[],[],rfl,?_,Or.inl rfl,rfl,Or.inl ⟨by simpa using dZ Prod.fst hd,rfl⟩⟩;exact .sl none 0 ⟨true,.nil,0⟩ [] 0 [] ⟨rfl,rfl,rfl⟩ (by simp) (by simp) (λx hx=>by cases hx) (by simp) (λg hg=>by cases hg) (λ_ ad ha=>by cases ha) (λan=>absurd rfl an) (λi r c h=>by simp at h)
 ·have ae:d=.slice (D.map (·.1)) (rest.map (·.1)):=dZ Prod.fst hd;have hb:=af _ _ ae;rw[dP] at hb;rw[ao] at ai;have key:∀i,i<len->∃(z:α×IV) (cs':List Value),w.cells? 0 (a.add (i*es)) es=some cs'/\VL 0 (L0 w) w cs' z.2.cells/\∀y,D[i]?=some y->R y.1 z.1 z.2:=by
   intro i hi;have ac:i<D.length:=by omega
   have h1:=ai i hi;rw[dT ac] at h1;obtain⟨cs',hc,hy⟩:=Option.bind_eq_some_iff.1 h1;obtain⟨b,x,hv,hr⟩:=ak n hn cs' D[i].1 D[i].2 ⟨_,_,ae,dH.2 ⟨_,jI ac,rfl⟩⟩ hy;refine⟨(b,x),cs',hc,hv,λy hy=>?_⟩;rw[dT ac] at hy;cases hy;exact hr
  have build:∀m,m<=len->∃zs:List (α×IV),zs.length=m/\∀(i:Nat) (z:α×IV),zs[i]?=some z->∃cs':List Value,w.cells? 0 (a.add (i*es)) es=some cs'/\VL 0 (L0 w) w cs' z.2.cells/\∀y,D[i]?=some y->R y.1 z.1 z.2:=by
   intro m
   induction m with
   | zero=>exact λ_=>⟨[],rfl,λi z h=>by simp at h⟩
   | succ m ih =>
    intro hm;obtain⟨zs,G,hz⟩:=ih (by omega);obtain⟨z,hk⟩:=key m (by omega);refine⟨zs++[z],by simp[G],λi z' E=>?_⟩;by_cases hi:i<zs.length
    ·rw[fg hi] at E;exact hz i z' E
    ·rw[fD (by omega)] at E;have:i=m:=by
      have:=(lGs E).1;simp at this;omega
     subst this;rw[G,fc] at E;cases E;exact hk
  obtain⟨zs,G,hz⟩:=build len (dG _);refine⟨_,⟨false,.none,es⟩,zs.map (·.2),zs.map (·.1),rfl,L4 h0 (by simp[G]) hl (by omega) (λi x hx=>?_),Or.inr rfl,by simp,Or.inr ⟨_,_,ae,by simp[G,ag],λi y b x hy hb hx=>?_⟩⟩
  ·rw[eB] at hx;obtain⟨z,J,rfl⟩:=fp.1 hx;obtain⟨cs',h1,h2,h3⟩:=hz i z J;have hi:i<D.length:=by
    have:=(lGs J).1;omega
   exact⟨hR _ _ _ (h3 _ (dT hi)),cs',h1,h2⟩
  ·rw[eB] at hx hb hy;obtain⟨z,J,rfl⟩:=fp.1 hx;rw[J] at hb;cases hb;obtain⟨y',am,rfl⟩:=fp.1 hy;obtain⟨cs',h1,h2,h3⟩:=hz i z J;exact h3 _ am
end
end Go.Iv
namespace Go.Proofs.Tryz
open Go Go.Iv Go.ChangeShapes
open Go.Proofs.YtigeiecfkoimpaaGreatDoor.Rows (uptoBulk uptoBulkAll)
set_option maxRecDepth 4000
def L5:prog.underlying 29=some (.struct #[⟨ "Var",4,0,false, "", "",0⟩,⟨ "Name",9,1,false, "", "",8⟩,⟨ "Args",25,2,false, "", "",24⟩]):=by kernel_rfl
def L6:prog.underlying 27=some (.struct #[⟨ "Op",5,0,false, "", "",0⟩,⟨ "Name",9,1,false, "", "",8⟩,⟨ "Args",25,2,false, "", "",24⟩,⟨ "Sub",22,3,false, "", "",48⟩]):=by kernel_rfl
def L7:prog.underlying 25=some (.slice 29):=by kernel_rfl
def L8:prog.underlying 22=some (.slice 27):=by kernel_rfl
def p9:prog.underlying 4=some .bool:=by kernel_rfl
def L9:prog.underlying 9=some .string:=by kernel_rfl
def uG:prog.underlying 5=some (.int .u8):=by kernel_rfl
def DI:prog.cellsOf 29=3:=by kernel_rfl
def DJ:prog.cellsOf 27=4:=by kernel_rfl
section
variable {H:Type}{enc:TypeId×Value->H}{w:World}{spare:Nat->Bool}{held:Bool}
def L_ (d:DataW H):1<=uptoBulk d:=by
 cases d with
 | lit l=>cases l<;>simp[uptoBulk]
 | nil=>simp[uptoBulk]
 | ptr d=>simp[uptoBulk]
 | slice E spare=>simp[uptoBulk]
 | agg parts=>simp[uptoBulk]
 | iface t d=>simp[uptoBulk]
 | map D=>simp[uptoBulk]
 | held h=>simp[uptoBulk]
def uH {d:DataW H}:∀ {l:List (DataW H)},d∈l->uptoBulk d<=uptoBulkAll l
 | x::r,h=>by
  simp only[uptoBulkAll];cases dF.1 h with
  | inl e=>subst e;omega
  | inr e=>have:=uH e;omega
def uI:∀(l:List (DataW H)),l.length<=uptoBulkAll l
 | []=>dG _
 | x::r=>by have:=L_ x;have:=uI r;simp only[uptoBulkAll,dX];omega
def mY (D sp:List (DataW H)):uptoBulkAll D+1<=uptoBulk (.slice D sp):=by simp only[uptoBulk];omega
def DK:∀ {us:List Tm}{xs:List IV},us.length=xs.length->(∀(i:Nat)(a:Tm)(x:IV),us[i]?=some a->xs[i]?=some x->IsTm a x)->IsTms us xs
 | [],xs,h,_=>by simpa[IsTms] using h.symm
 | a::us,[],h,_=>by simp at h
 | a::us,x::xs,h,D=>⟨x,xs,rfl,D 0 a x rfl rfl,DK (by simpa using h) (λi b y G E=>D (i+1) b y (by simpa using G) (by simpa using E))⟩
def DL:∀ {us:List Fm}{xs:List IV},us.length=xs.length->(∀(i:Nat)(a:Fm)(x:IV),us[i]?=some a->xs[i]?=some x->IsFm a x)->IsFms us xs
 | [],xs,h,_=>by simpa[IsFms] using h.symm
 | a::us,[],h,_=>by simp at h
 | a::us,x::xs,h,D=>⟨x,xs,rfl,D 0 a x rfl rfl,DL (by simpa using h) (λi b y G E=>D (i+1) b y (by simpa using G) (by simpa using E))⟩
def DM:∀ {us:List Tm}{ds:List (DataW H)},us.length=ds.length->(∀(i:Nat)(a:Tm)(d:DataW H),us[i]?=some a->ds[i]?=some d->pS a<=uptoBulk d)->ml us<=uptoBulkAll ds
 | [],ds,h,_=>by simp[ml]
 | a::us,[],h,_=>by simp at h
 | a::us,x::xs,h,D=>by
  have h1:=D 0 a x rfl rfl;have h2:=DM (us:=us) (ds:=xs) (by simpa using h) (λi b y G E=>D (i+1) b y (by simpa using G) (by simpa using E));simp only[ml,uptoBulkAll];omega
def DN:∀ {us:List Fm}{ds:List (DataW H)},us.length=ds.length->(∀(i:Nat)(a:Fm)(d:DataW H),us[i]?=some a->ds[i]?=some d->pT a<=uptoBulk d)->mT us<=uptoBulkAll ds
 | [],ds,h,_=>by simp[mT]
 | a::us,[],h,_=>by simp at h
 | a::us,x::xs,h,D=>by
  have h1:=D 0 a x rfl rfl;have h2:=DN (us:=us) (ds:=xs) (by simpa using h) (λi b y G E=>D (i+1) b y (by simpa using G) (by simpa using E));simp only[mT,uptoBulkAll];omega
def yi {n:Nat}{cs:List Value}{y:DataW H×List MemPlace}(h:DataW.trod enc prog w 0 spare held n 9 cs=some y)(G:uptoBulk y.1<=1048576) :
  ∃s:ByteArray,cs=[.string s]/\V 0 (L0 w) w (.string s) s/\s.size+1<=uptoBulk y.1:=by
 obtain⟨s,rfl,rfl,_⟩:=DataW.trod_string L9 h;have D:s.size+1=uptoBulk (DataW.lit (H:=H) (.string s.data.toList)):=by simp only[uptoBulk,ByteArray.size,jX]
 refine⟨s,rfl,.raw _ ?_,by rw[D];exact dG _⟩;show s.size<=281474976710656;have E:s.size+1<=1048576:=by rw[D];exact G
 omega
def RT (d:DataW H)(t:Tm)(x:IV):Prop:=IsTm t x/\pS t<=uptoBulk d
def RT.cells {d:DataW H}{t:Tm}{x:IV}(h:RT d t x):x.cells.length=3:=by
 cases t with
 | mk v n us=>obtain⟨D,xs,rfl,_⟩:=IsTm.mk h.1;rfl
def cs3 {cs:List Value}(h:cs.length=3):∃a b c,cs=[a,b,c]:=by
 match cs,h with
 | [a,b,c],_=>exact⟨a,b,c,rfl⟩
def cs4 {cs:List Value}(h:cs.length=4):∃a b c d,cs=[a,b,c,d]:=by
 match cs,h with
 | [a,b,c,d],_=>exact⟨a,b,c,d,rfl⟩
def DO {E:Nat}{cs:List Value}{y:DataW H×List MemPlace}(h:DataW.trod enc prog w 0 spare held E 25 cs=some y)(hb:uptoBulk y.1<=1048576)
  (IH:∀(n:Nat),n<E->∀(cs:List Value) (y:DataW H×List MemPlace),DataW.trod enc prog w 0 spare held n 29 cs=some y->uptoBulk y.1<=1048576->∃t x,VL 0 (L0 w) w cs x.cells/\RT y.1 t x) :
  ∃v J xs ts,cs=[v]/\V 0 (L0 w) w v (.sl J xs)/\okEs J 3/\IsTms ts xs/\ml ts+1<=uptoBulk y.1:=by
 obtain⟨v,J,xs,ts,rfl,hv,O,hl,hc⟩:=yh (H:=H) (P:=prog) (d:=y.1) (p:=y.2) RT L7 DI (by decide) h (λD sp e=>by
   have:=mY D sp;have:=uI D;rw[<- e] at *;omega) (λd t x h=>h.cells) (λn hn cs' z q ⟨D,sp,he,hm⟩ hz=>by
   have:=mY D sp;have:=uH hm;rw[he] at hb;exact IH n (by omega) cs' (z,q) hz (show uptoBulk z<=1048576 by omega))
 refine⟨v,J,xs,ts,rfl,hv,O,?_⟩;rcases hc with⟨hd,rfl⟩|⟨D,sp,hd,aj,hr⟩
 ·obtain rfl:ts=[]:=lC.1 (by simpa using hl);exact⟨rfl,by rw[hd];simp[ml,uptoBulk]⟩
 ·have hi:∀(i:Nat) (a:Tm),ts[i]?=some a->∃x d,xs[i]?=some x/\D[i]?=some d/\RT d a x:=λi a G=>by
   have hi:=(lGs G).1;exact⟨_,_,dT (by omega),dT (by omega),hr i _ _ _ (dT (by omega)) G (dT (by omega))⟩
  refine⟨DK hl (λi a x G hx=>?_),?_⟩
  ·obtain⟨x',d,h1,h2,h3⟩:=hi i a G;rw[hx] at h1;cases h1;exact h3.1
  ·have:=DM (us:=ts) (ds:=D) (by omega) (λi a d G ab=>by
    obtain⟨x',d',h1,h2,h3⟩:=hi i a G;rw[ab] at h2;cases h2;exact h3.2)
   have:=mY D sp;rw[hd];omega
def DP:∀(D:Nat)(cs:List Value)(y:DataW H×List MemPlace),DataW.trod enc prog w 0 spare held D 29 cs=some y->uptoBulk y.1<=1048576->∃t x,VL 0 (L0 w) w cs x.cells/\RT y.1 t x:=by
 intro D
 induction D using Nat.strongRecOn with
 | ind D IH =>
  intro cs y h hb;obtain⟨ys,n,rfl,rfl,hl,E,J⟩:=DataW.trod_struct L5 h
  match ys,E with
  | [y0,y1,y2],_ =>
   rw[DI] at hl;obtain⟨c0,c1,c2,rfl⟩:=cs3 hl;have h0:=J 0 _ rfl;have h1:=J 1 _ rfl;have h2:=J 2 _ rfl;simp only[kr,gY] at h0 h1 h2;simp only[ec,fG,uptoBulk,uptoBulkAll] at hb;obtain⟨b,e0,rfl⟩:=DataW.trod_bool p9 h0;obtain⟨s,e1,hs,aa⟩:=yi h1 (by omega);obtain⟨v,O,xs,ts,e2,hv,G,hts,ab⟩:=DO h2 (by omega) (λm hm=>IH m (by omega));cases e0;cases e1;cases e2;refine⟨.mk b s ts,.agg [b,s,.sl O xs],VL.cons (.raw _ trivial) (VL.cons hs (VL.cons hv VL.nil)),?_,?_⟩
   ·simp only[IsTm];exact⟨O,xs,rfl,G,hts⟩
   ·simp only[ec,fG,uptoBulk,uptoBulkAll,pS];omega
def RF (d:DataW H)(f:Fm)(x:IV):Prop:=IsFm f x/\pT f<=uptoBulk d
def RF.cells {d:DataW H}{t:Fm}{x:IV}(h:RF d t x):x.cells.length=4:=by
 cases t with
 | mk v n us sub=>obtain⟨E,xs,D,ys,rfl,_⟩:=IsFm.mk h.1;rfl
def yj {E:Nat}{cs:List Value}{y:DataW H×List MemPlace}(h:DataW.trod enc prog w 0 spare held E 22 cs=some y)(hb:uptoBulk y.1<=1048576)
  (IH:∀(n:Nat),n<E->∀(cs:List Value) (y:DataW H×List MemPlace),DataW.trod enc prog w 0 spare held n 27 cs=some y->uptoBulk y.1<=1048576->∃t x,VL 0 (L0 w) w cs x.cells/\RF y.1 t x) :
  ∃v J xs ts,cs=[v]/\V 0 (L0 w) w v (.sl J xs)/\okEs J 4/\IsFms ts xs/\mT ts+1<=uptoBulk y.1:=by
 obtain⟨v,J,xs,ts,rfl,hv,O,hl,hc⟩:=yh (H:=H) (P:=prog) (d:=y.1) (p:=y.2) RF L8 DJ (by decide) h (λD sp e=>by
   have:=mY D sp;have:=uI D;rw[<- e] at *;omega) (λd t x h=>h.cells) (λn hn cs' z q ⟨D,sp,he,hm⟩ hz=>by
   have:=mY D sp;have:=uH hm;rw[he] at hb;exact IH n (by omega) cs' (z,q) hz (show uptoBulk z<=1048576 by omega))
 refine⟨v,J,xs,ts,rfl,hv,O,?_⟩;rcases hc with⟨hd,rfl⟩|⟨D,sp,hd,aj,hr⟩
 ·obtain rfl:ts=[]:=lC.1 (by simpa using hl);exact⟨rfl,by rw[hd];simp[mT,uptoBulk]⟩
 ·have hi:∀(i:Nat) (a:Fm),ts[i]?=some a->∃x d,xs[i]?=some x/\D[i]?=some d/\RF d a x:=λi a G=>by
   have hi:=(lGs G).1;exact⟨_,_,dT (by omega),dT (by omega),hr i _ _ _ (dT (by omega)) G (dT (by omega))⟩
  refine⟨DL hl (λi a x G hx=>?_),?_⟩
  ·obtain⟨x',d,h1,h2,h3⟩:=hi i a G;rw[hx] at h1;cases h1;exact h3.1
  ·have:=DN (us:=ts) (ds:=D) (by omega) (λi a d G ab=>by
    obtain⟨x',d',h1,h2,h3⟩:=hi i a G;rw[ab] at h2;cases h2;exact h3.2)
   have:=mY D sp;rw[hd];omega
def yk:∀(D:Nat)(cs:List Value)(y:DataW H×List MemPlace),DataW.trod enc prog w 0 spare held D 27 cs=some y->uptoBulk y.1<=1048576->∃t x,VL 0 (L0 w) w cs x.cells/\RF y.1 t x:=by
 intro D
 induction D using Nat.strongRecOn with
 | ind D IH =>
  intro cs y h hb;obtain⟨ys,n,rfl,rfl,hl,ab,hf⟩:=DataW.trod_struct L6 h
  match ys,ab with
  | [y0,y1,y2,y3],_ =>
   rw[DJ] at hl;obtain⟨c0,c1,c2,c3,rfl⟩:=cs4 hl;have h0:=hf 0 _ rfl;have h1:=hf 1 _ rfl;have h2:=hf 2 _ rfl;have h3:=hf 3 _ rfl;simp only[kr,gY] at h0 h1 h2 h3;simp only[ec,fG,uptoBulk,uptoBulkAll] at hb;obtain⟨op,e0,rfl,E⟩:=DataW.trod_int uG h0;obtain⟨s,e1,hs,ak⟩:=yi h1 (by omega);obtain⟨v,tg,xs,ts,e2,hv,ag,hts,al⟩:=DO h2 (by omega) (λm _=>DP m);obtain⟨v',J,G,ae,e3,af,aa,O,ai⟩:=yj h3 (by omega) (λm hm=>IH m (by omega));cases e0;cases e1;cases e2;cases e3;have E:0<=op/\op<256:=by
    simp only[Lit.wf,IntKind.min,IntKind.max,IntKind.signed,IntKind.bits,bAt] at E;exact⟨fe E.1,by have:=fe E.2;simp at this;omega⟩
   obtain⟨k,rfl⟩:=Int.eq_ofNat_of_zero_le E.1;refine⟨.mk k s ts ae,.agg [.raw (.int .u8 k),s,.sl tg xs,.sl J G],VL.cons (.raw _ trivial) (VL.cons hs (VL.cons hv (VL.cons af VL.nil))),?_,?_⟩
   ·simp only[IsFm];exact⟨tg,xs,J,G,rfl,by omega,ag,hts,aa,O⟩
   ·simp only[ec,fG,uptoBulk,uptoBulkAll,pT];omega
end
section
variable {H:Type}{enc:TypeId×Value->H}{w:World}{spare:Nat->Bool}{held:Bool}
end
