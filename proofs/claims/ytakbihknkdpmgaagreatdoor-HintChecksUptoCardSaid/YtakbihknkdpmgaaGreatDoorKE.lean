/- From a row's reading to ideal values, pa -/
import Derived.Lib.SmallJoins
import Derived.Test.YtakbihknkdpmgaaGreatDoorJT
import Derived.Test.YtakbihknkdpmgaaGreatDoorRows
set_option linter.all false
namespace Go.Iv
open Go Go.ChangeShapes
def L0 (w:World)(b:Nat):Nat:=match w.heap[b]? with
 | some (.cells c _ _)=>c.size
 | _=>0
def Dr {w:World}{a:Addr}{r:Value}(h:w.cell? a=some r):a.spot=none/\a.off<L0 w a.block:=by
 unfold World.cell? at h;unfold L0;split at h
 ·rename_i c t f D;rw[D];split at h
  ·cases h
  ·rename_i hs;refine⟨by cases A:a.spot with|none=>rfl|some _=>simp[A] at hs,?_⟩;exact (iF.1 h).1
 ·cases h
def Ds (a:Addr)(n:Nat)(h:a.spot=none):a.add n=⟨a.block,a.off+n,none⟩:=by
 cases a;simp only at h;subst h;unfold Addr.add;split
 ·rename_i h;simp[h]
 ·rfl
def add_zero (a:Addr):a.add 0=a:=by simp[Addr.add]
def Dt {w:World}(a:Addr)(es:Nat):∀(A:List IV) (k:Nat),(∀(i:Nat) (x:IV),A[i]?=some x->x.cells.length=es/\∃cs,w.cells? 0 (a.add ((k+i)*es)) es=some cs/\VL 0 (L0 w) w cs x.cells) →
  ∃vs:List Value,vs.length=A.length*es/\(∀(i:Nat) (r:Value),vs[i]?=some r->w.cell? (a.add (k*es+i))=some r)/\VL 0 (L0 w) w vs (A.flatMap IV.cells)
 | [],k,h=>⟨[],by simp,λi r h=>by simp at h,VL.nil⟩
 | x::A,k,h=>by
  obtain⟨vs,h1,h2,O⟩:=Dt a es A (k+1) (λi x E=>by
   have:=h (i+1) x (by simpa using E)
   rwa [show k+(i+1)=k+1+i by omega] at this)
  obtain⟨E,cs,hc,hv⟩:=h 0 x rfl;obtain⟨_,hl,J⟩:=World.cells?_some hc;refine⟨cs++vs,by simp[hl,h1,Nat.succ_mul,Nat.add_comm],λi r D=>?_,by simpa using hv.append O⟩;by_cases G:i<cs.length
  ·rw[fw G] at D;have:=J i (by omega);rw[D] at this;rw[<- this];rw[Deep.add_add,iH]
  ·rw[fD (by omega)] at D;have:=h2 _ r D;rw[<- this];have e:(k+1)*es+(i-cs.length)=k*es+i:=by rw[Nat.succ_mul,hl];omega
   rw[e]
def LR {w:World}{a:Addr}{len cap es:Nat}{J:List IV}(ac:0<es)(U:J.length=len)(ae:len<=cap)(O:len<=140737488355328)
  (h:∀(i:Nat) (x:IV),J[i]?=some x->x.cells.length=es/\∃cs,w.cells? 0 (a.add (i*es)) es=some cs/\VL 0 (L0 w) w cs x.cells) :
  V 0 (L0 w) w (.slice (some a) len cap) (.sl ⟨false,.none,es⟩ J):=by
 obtain⟨vs,h1,h2,h3⟩:=Dt a es J 0 (λi x hx=>by simpa using h i x hx);subst U;refine .sl (some a) cap ⟨false,.none,es⟩ J 0 vs trivial O ae (λx hx=>?_) h1 (λg hg=>by cases hg) (λhf=>by cases hf) (λab=>?_) h3.2
 ·obtain⟨i,hi,rfl⟩:=fL.1 hx;exact (h i _ (dO hi)).1
 ·have D:0<vs.length:=by
   rw[h1];exact Nat.mul_pos (kj.2 ab) ac
  have A:=h2 0 (vs[0]'(D)) (dO D);rw[gL,iH,add_zero] at A;have E:=(Dr A).1;have G:=h2 (vs.length-1) (vs[vs.length-1]'(by omega)) (dO (by omega));obtain⟨hs,hL⟩:=Dr G;rw[Ds a _ E] at hL;simp only[gL,ee] at hL;refine⟨a,rfl,E,by omega,λi r hr=>?_⟩;have:=h2 i r hr;rw[Ds a _ E] at this;simpa using this
section
variable {H:Type}{enc:TypeId×Value->H}{P:Program}{w:World}{spare:Nat->Bool}{held:Bool}
def xV {α:Type}(R:DataW H->α->IV->Prop){t e:TypeId}{es:Nat}{J:Nat}{cs:List Value}{d:DataW H}{p:List MemPlace}(ht:P.underlying t=some (.slice e))(an:P.cellsOf e=es)(h0:0<es)
  (h:DataW.trod enc P w 0 spare held J t cs=some (d,p)) (ac:∀(A sp:List (DataW H)),d=.slice A sp->A.length<=140737488355328)
  (hR:∀d t x,R d t x->x.cells.length=es)
  (aj:∀(n:Nat),J=n+1->∀(cs':List Value) (y:DataW H) (q:List MemPlace),(∃A sp,d=.slice A sp/\y∈A)->DataW.trod enc P w 0 spare held n e cs'=some (y,q)->∃a x,VL 0 (L0 w) w cs' x.cells/\R y a x) :
  ∃(v:Value) (tg:Tag) (xs:List IV) (us:List α),cs=[v]/\V 0 (L0 w) w v (.sl tg xs)/\okEs tg es/\us.length=xs.length /\
   ((d=.nil/\xs=[])\/∃A sp,d=.slice A sp/\A.length=xs.length/\∀(i:Nat) (y:DataW H) (a:α) (x:IV),A[i]?=some y->us[i]?=some a->xs[i]?=some x->R y a x):=by
 rcases DataW.trod_slice ht h with⟨rfl,hd⟩|⟨a,len,cap,A,rest,n,hn,rfl,hd,_,hl,_,af,ah,_,_⟩
 ·refine⟨_,⟨true,.nil,0⟩,[],[],rfl,?_,Or.inl rfl,rfl,Or.inl ⟨by simpa using dX Prod.fst hd,rfl⟩⟩;exact .sl none 0 ⟨true,.nil,0⟩ [] 0 [] ⟨rfl,rfl,rfl⟩ (by simp) (by simp) (λx U=>by cases U) (by simp) (λg hg=>by cases hg) (λ_ ad ha=>by cases ha) (λam=>absurd rfl am) (λi r c h=>by simp at h)
 ·have ab:d=.slice (A.map (·.1)) (rest.map (·.1)):=dX Prod.fst hd;have hb:=ac _ _ ab;rw[dY] at hb;rw[an] at ah;have key:∀i,i<len->∃(z:α×IV) (cs':List Value),w.cells? 0 (a.add (i*es)) es=some cs'/\VL 0 (L0 w) w cs' z.2.cells/\∀y,A[i]?=some y->R y.1 z.1 z.2:=by
   intro i hi;have aa:i<A.length:=by omega
   have h1:=ah i hi;rw[dO aa] at h1;obtain⟨cs',hc,O⟩:=Option.bind_eq_some_iff.1 h1;obtain⟨b,x,hv,hr⟩:=aj n hn cs' A[i].1 A[i].2 ⟨_,_,ab,dH.2 ⟨_,List.getElem_mem aa,rfl⟩⟩ O;refine⟨(b,x),cs',hc,hv,λy O=>?_⟩;rw[dO aa] at O;cases O;exact hr
  have build:∀m,m<=len->∃zs:List (α×IV),zs.length=m/\∀(i:Nat) (z:α×IV),zs[i]?=some z->∃cs':List Value,w.cells? 0 (a.add (i*es)) es=some cs'/\VL 0 (L0 w) w cs' z.2.cells/\∀y,A[i]?=some y->R y.1 z.1 z.2:=by
   intro m
   induction m with
   | zero=>exact λ_=>⟨[],rfl,λi z h=>by simp at h⟩
   | succ m ih =>
    intro hm;obtain⟨zs,E,hz⟩:=ih (by omega);obtain⟨z,hk⟩:=key m (by omega);refine⟨zs++[z],by simp[E],λi z' D=>?_⟩;by_cases hi:i<zs.length
    ·rw[fw hi] at D;exact hz i z' D
    ·rw[fD (by omega)] at D;have:i=m:=by
      have:=(lGs D).1;simp at this;omega
     subst this;rw[E,fS] at D;cases D;exact hk
  obtain⟨zs,E,hz⟩:=build len (dJ _);refine⟨_,⟨false,.none,es⟩,zs.map (·.2),zs.map (·.1),rfl,LR h0 (by simp[E]) hl (by omega) (λi x U=>?_),Or.inr rfl,by simp,Or.inr ⟨_,_,ab,by simp[E,af],λi y b x O hb U=>?_⟩⟩
  ·rw[eI] at U;obtain⟨z,G,rfl⟩:=fb.1 U;obtain⟨cs',h1,h2,h3⟩:=hz i z G;have hi:i<A.length:=by
    have:=(lGs G).1;omega
   exact⟨hR _ _ _ (h3 _ (dO hi)),cs',h1,h2⟩
  ·rw[eI] at U hb O;obtain⟨z,G,rfl⟩:=fb.1 U;rw[G] at hb;cases hb;obtain⟨y',al,rfl⟩:=fb.1 O;obtain⟨cs',h1,h2,h3⟩:=hz i z G;exact h3 _ al
end
end Go.Iv
namespace Go.Proofs.Tryz
open Go Go.Iv Go.ChangeShapes
open Go.Proofs.YtakbihknkdpmgaaGreatDoor.Rows (uptoBulk uptoBulkAll)
set_option maxRecDepth 4000
def LS:prog.underlying 29=some (.struct #[⟨ "Var",4,0,false, "", "",0⟩,⟨ "Name",9,1,false, "", "",8⟩,⟨ "Args",25,2,false, "", "",24⟩]):=by kernel_rfl
def LU:prog.underlying 27=some (.struct #[⟨ "Op",5,0,false, "", "",0⟩,⟨ "Name",9,1,false, "", "",8⟩,⟨ "Args",25,2,false, "", "",24⟩,⟨ "Sub",22,3,false, "", "",48⟩]):=by kernel_rfl
def LV:prog.underlying 25=some (.slice 29):=by kernel_rfl
def LW:prog.underlying 22=some (.slice 27):=by kernel_rfl
def rL:prog.underlying 4=some .bool:=by kernel_rfl
def LX:prog.underlying 9=some .string:=by kernel_rfl
def uw:prog.underlying 5=some (.int .u8):=by kernel_rfl
def Du:prog.cellsOf 29=3:=by kernel_rfl
def Dv:prog.cellsOf 27=4:=by kernel_rfl
section
variable {H:Type}{enc:TypeId×Value->H}{w:World}{spare:Nat->Bool}{held:Bool}
def LY (d:DataW H):1<=uptoBulk d:=by
 cases d with
 | lit l=>cases l<;>simp[uptoBulk]
 | nil=>simp[uptoBulk]
 | ptr d=>simp[uptoBulk]
 | slice D spare=>simp[uptoBulk]
 | agg parts=>simp[uptoBulk]
 | iface t d=>simp[uptoBulk]
 | map A=>simp[uptoBulk]
 | held h=>simp[uptoBulk]
def ux {d:DataW H}:∀ {l:List (DataW H)},d∈l->uptoBulk d<=uptoBulkAll l
 | x::r,h=>by
  simp only[uptoBulkAll];cases dN.1 h with
  | inl e=>subst e;omega
  | inr e=>have:=ux e;omega
def uy:∀(l:List (DataW H)),l.length<=uptoBulkAll l
 | []=>dJ _
 | x::r=>by have:=LY x;have:=uy r;simp only[uptoBulkAll,dV];omega
def mS (A sp:List (DataW H)):uptoBulkAll A+1<=uptoBulk (.slice A sp):=by simp only[uptoBulk];omega
def Dw:∀ {us:List Tm}{A:List IV},us.length=A.length->(∀(i:Nat)(a:Tm)(x:IV),us[i]?=some a->A[i]?=some x->IsTm a x)->IsTms us A
 | [],A,h,_=>by simpa[IsTms] using h.symm
 | a::us,[],h,_=>by simp at h
 | a::us,x::A,h,D=>⟨x,A,rfl,D 0 a x rfl rfl,Dw (by simpa using h) (λi b y G E=>D (i+1) b y (by simpa using G) (by simpa using E))⟩
def Dx:∀ {us:List Fm}{A:List IV},us.length=A.length->(∀(i:Nat)(a:Fm)(x:IV),us[i]?=some a->A[i]?=some x->IsFm a x)->IsFms us A
 | [],A,h,_=>by simpa[IsFms] using h.symm
 | a::us,[],h,_=>by simp at h
 | a::us,x::A,h,D=>⟨x,A,rfl,D 0 a x rfl rfl,Dx (by simpa using h) (λi b y G E=>D (i+1) b y (by simpa using G) (by simpa using E))⟩
def Dy:∀ {us:List Tm}{ds:List (DataW H)},us.length=ds.length->(∀(i:Nat)(a:Tm)(d:DataW H),us[i]?=some a->ds[i]?=some d->pL a<=uptoBulk d)->mg us<=uptoBulkAll ds
 | [],ds,h,_=>by simp[mg]
 | a::us,[],h,_=>by simp at h
 | a::us,x::D,h,A=>by
  have h1:=A 0 a x rfl rfl;have h2:=Dy (us:=us) (ds:=D) (by simpa using h) (λi b y G E=>A (i+1) b y (by simpa using G) (by simpa using E));simp only[mg,uptoBulkAll];omega
def Dz:∀ {us:List Fm}{ds:List (DataW H)},us.length=ds.length->(∀(i:Nat)(a:Fm)(d:DataW H),us[i]?=some a->ds[i]?=some d->pM a<=uptoBulk d)->mO us<=uptoBulkAll ds
 | [],ds,h,_=>by simp[mO]
 | a::us,[],h,_=>by simp at h
 | a::us,x::D,h,A=>by
  have h1:=A 0 a x rfl rfl;have h2:=Dz (us:=us) (ds:=D) (by simpa using h) (λi b y G E=>A (i+1) b y (by simpa using G) (by simpa using E));simp only[mO,uptoBulkAll];omega
def xW {n:Nat}{cs:List Value}{y:DataW H×List MemPlace}(h:DataW.trod enc prog w 0 spare held n 9 cs=some y)(E:uptoBulk y.1<=1048576) :
  ∃s:ByteArray,cs=[.string s]/\V 0 (L0 w) w (.string s) s/\s.size+1<=uptoBulk y.1:=by
 obtain⟨s,rfl,rfl,_⟩:=DataW.trod_string LX h;have A:s.size+1=uptoBulk (DataW.lit (H:=H) (.string s.data.toList)):=by simp only[uptoBulk,ByteArray.size,jR]
 refine⟨s,rfl,.raw _ ?_,by rw[A];exact dJ _⟩;show s.size<=281474976710656;have D:s.size+1<=1048576:=by rw[A];exact E
 omega
def RT (d:DataW H)(t:Tm)(x:IV):Prop:=IsTm t x/\pL t<=uptoBulk d
def RT.cells {d:DataW H}{t:Tm}{x:IV}(h:RT d t x):x.cells.length=3:=by
 cases t with
 | mk v n us=>obtain⟨D,A,rfl,_⟩:=IsTm.mk h.1;rfl
def cs3 {cs:List Value}(h:cs.length=3):∃a b c,cs=[a,b,c]:=by
 match cs,h with
 | [a,b,c],_=>exact⟨a,b,c,rfl⟩
def cs4 {cs:List Value}(h:cs.length=4):∃a b c d,cs=[a,b,c,d]:=by
 match cs,h with
 | [a,b,c,d],_=>exact⟨a,b,c,d,rfl⟩
def DA {D:Nat}{cs:List Value}{y:DataW H×List MemPlace}(h:DataW.trod enc prog w 0 spare held D 25 cs=some y)(hb:uptoBulk y.1<=1048576)
  (IH:∀(n:Nat),n<D->∀(cs:List Value) (y:DataW H×List MemPlace),DataW.trod enc prog w 0 spare held n 29 cs=some y->uptoBulk y.1<=1048576->∃t x,VL 0 (L0 w) w cs x.cells/\RT y.1 t x) :
  ∃v J G ts,cs=[v]/\V 0 (L0 w) w v (.sl J G)/\okEs J 3/\IsTms ts G/\mg ts+1<=uptoBulk y.1:=by
 obtain⟨v,J,G,ts,rfl,hv,O,hl,hc⟩:=xV (H:=H) (P:=prog) (d:=y.1) (p:=y.2) RT LV Du (by decide) h (λA sp e=>by
   have:=mS A sp;have:=uy A;rw[<- e] at *;omega) (λd t x h=>h.cells) (λn hn cs' z q ⟨A,sp,he,hm⟩ hz=>by
   have:=mS A sp;have:=ux hm;rw[he] at hb;exact IH n (by omega) cs' (z,q) hz (show uptoBulk z<=1048576 by omega))
 refine⟨v,J,G,ts,rfl,hv,O,?_⟩;rcases hc with⟨hd,rfl⟩|⟨A,sp,hd,ai,hr⟩
 ·obtain rfl:ts=[]:=ll.1 (by simpa using hl);exact⟨rfl,by rw[hd];simp[mg,uptoBulk]⟩
 ·have U:∀(i:Nat) (a:Tm),ts[i]?=some a->∃x d,G[i]?=some x/\A[i]?=some d/\RT d a x:=λi a E=>by
   have U:=(lGs E).1;exact⟨_,_,dO (by omega),dO (by omega),hr i _ _ _ (dO (by omega)) E (dO (by omega))⟩
  refine⟨Dw hl (λi a x E hx=>?_),?_⟩
  ·obtain⟨x',d,h1,h2,h3⟩:=U i a E;rw[hx] at h1;cases h1;exact h3.1
  ·have:=Dy (us:=ts) (ds:=A) (by omega) (λi a d E aa=>by
    obtain⟨x',d',h1,h2,h3⟩:=U i a E;rw[aa] at h2;cases h2;exact h3.2)
   have:=mS A sp;rw[hd];omega
def DB:∀(A:Nat)(cs:List Value)(y:DataW H×List MemPlace),DataW.trod enc prog w 0 spare held A 29 cs=some y->uptoBulk y.1<=1048576->∃t x,VL 0 (L0 w) w cs x.cells/\RT y.1 t x:=by
 intro A
 induction A using Nat.strongRecOn with
 | ind A IH =>
  intro cs y h hb;obtain⟨ys,n,rfl,rfl,hl,D,G⟩:=DataW.trod_struct LS h
  match ys,D with
  | [y0,y1,y2],_ =>
   rw[Du] at hl;obtain⟨c0,c1,c2,rfl⟩:=cs3 hl;have h0:=G 0 _ rfl;have h1:=G 1 _ rfl;have h2:=G 2 _ rfl;simp only[ki,gJ] at h0 h1 h2;simp only[ec,fx,uptoBulk,uptoBulkAll] at hb;obtain⟨b,e0,rfl⟩:=DataW.trod_bool rL h0;obtain⟨s,e1,hs,U⟩:=xW h1 (by omega);obtain⟨v,O,J,ts,e2,hv,E,hts,aa⟩:=DA h2 (by omega) (λm hm=>IH m (by omega));cases e0;cases e1;cases e2;refine⟨.mk b s ts,.agg [b,s,.sl O J],VL.cons (.raw _ trivial) (VL.cons hs (VL.cons hv VL.nil)),?_,?_⟩
   ·simp only[IsTm];exact⟨O,J,rfl,E,hts⟩
   ·simp only[ec,fx,uptoBulk,uptoBulkAll,pL];omega
def RF (d:DataW H)(f:Fm)(x:IV):Prop:=IsFm f x/\pM f<=uptoBulk d
def RF.cells {d:DataW H}{t:Fm}{x:IV}(h:RF d t x):x.cells.length=4:=by
 cases t with
 | mk v n us sub=>obtain⟨E,D,A,ys,rfl,_⟩:=IsFm.mk h.1;rfl
def xX {D:Nat}{cs:List Value}{y:DataW H×List MemPlace}(h:DataW.trod enc prog w 0 spare held D 22 cs=some y)(hb:uptoBulk y.1<=1048576)
  (IH:∀(n:Nat),n<D->∀(cs:List Value) (y:DataW H×List MemPlace),DataW.trod enc prog w 0 spare held n 27 cs=some y->uptoBulk y.1<=1048576->∃t x,VL 0 (L0 w) w cs x.cells/\RF y.1 t x) :
  ∃v J G ts,cs=[v]/\V 0 (L0 w) w v (.sl J G)/\okEs J 4/\IsFms ts G/\mO ts+1<=uptoBulk y.1:=by
 obtain⟨v,J,G,ts,rfl,hv,O,hl,hc⟩:=xV (H:=H) (P:=prog) (d:=y.1) (p:=y.2) RF LW Dv (by decide) h (λA sp e=>by
   have:=mS A sp;have:=uy A;rw[<- e] at *;omega) (λd t x h=>h.cells) (λn hn cs' z q ⟨A,sp,he,hm⟩ hz=>by
   have:=mS A sp;have:=ux hm;rw[he] at hb;exact IH n (by omega) cs' (z,q) hz (show uptoBulk z<=1048576 by omega))
 refine⟨v,J,G,ts,rfl,hv,O,?_⟩;rcases hc with⟨hd,rfl⟩|⟨A,sp,hd,ai,hr⟩
 ·obtain rfl:ts=[]:=ll.1 (by simpa using hl);exact⟨rfl,by rw[hd];simp[mO,uptoBulk]⟩
 ·have U:∀(i:Nat) (a:Fm),ts[i]?=some a->∃x d,G[i]?=some x/\A[i]?=some d/\RF d a x:=λi a E=>by
   have U:=(lGs E).1;exact⟨_,_,dO (by omega),dO (by omega),hr i _ _ _ (dO (by omega)) E (dO (by omega))⟩
  refine⟨Dx hl (λi a x E hx=>?_),?_⟩
  ·obtain⟨x',d,h1,h2,h3⟩:=U i a E;rw[hx] at h1;cases h1;exact h3.1
  ·have:=Dz (us:=ts) (ds:=A) (by omega) (λi a d E aa=>by
    obtain⟨x',d',h1,h2,h3⟩:=U i a E;rw[aa] at h2;cases h2;exact h3.2)
   have:=mS A sp;rw[hd];omega
def xY:∀(A:Nat)(cs:List Value)(y:DataW H×List MemPlace),DataW.trod enc prog w 0 spare held A 27 cs=some y->uptoBulk y.1<=1048576->∃t x,VL 0 (L0 w) w cs x.cells/\RF y.1 t x:=by
 intro A
 induction A using Nat.strongRecOn with
 | ind A IH =>
  intro cs y h hb;obtain⟨ys,n,rfl,rfl,hl,U,hf⟩:=DataW.trod_struct LU h
  match ys,U with
  | [y0,y1,y2,y3],_ =>
   rw[Dv] at hl;obtain⟨c0,c1,c2,c3,rfl⟩:=cs4 hl;have h0:=hf 0 _ rfl;have h1:=hf 1 _ rfl;have h2:=hf 2 _ rfl;have h3:=hf 3 _ rfl;simp only[ki,gJ] at h0 h1 h2 h3;simp only[ec,fx,uptoBulk,uptoBulkAll] at hb;obtain⟨op,e0,rfl,D⟩:=DataW.trod_int uw h0;obtain⟨s,e1,hs,aj⟩:=xW h1 (by omega);obtain⟨v,tg,xs,ts,e2,hv,ae,hts,ak⟩:=DA h2 (by omega) (λm _=>DB m);obtain⟨v',G,E,ab,e3,ac,O,J,ah⟩:=xX h3 (by omega) (λm hm=>IH m (by omega));cases e0;cases e1;cases e2;cases e3;have D:0<=op/\op<256:=by
    simp only[Lit.wf,IntKind.min,IntKind.max,IntKind.signed,IntKind.bits,bAt] at D;exact⟨fc D.1,by have:=fc D.2;simp at this;omega⟩
   obtain⟨k,rfl⟩:=Int.eq_ofNat_of_zero_le D.1;refine⟨.mk k s ts ab,.agg [.raw (.int .u8 k),s,.sl tg xs,.sl G E],VL.cons (.raw _ trivial) (VL.cons hs (VL.cons hv (VL.cons ac VL.nil))),?_,?_⟩
   ·simp only[IsFm];exact⟨tg,xs,G,E,rfl,by omega,ae,hts,O,J⟩
   ·simp only[ec,fx,uptoBulk,uptoBulkAll,pM];omega
end
section
variable {H:Type}{enc:TypeId×Value->H}{w:World}{spare:Nat->Bool}{held:Bool}
end
