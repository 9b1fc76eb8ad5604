/- From a row's reading to ideal values, pa -/
import Derived.Lib.SmallJoins
import Derived.Test.YtofmbookakncjabGreatDoorJT
import Derived.Test.YtofmbookakncjabGreatDoorRows
set_option linter.all false
namespace Go.Iv
open Go Go.ChangeShapes
def L0 (w:World)(b:Nat):Nat:=match w.heap[b]? with
 | some (.cells c _ _)=>c.size
 | _=>0
def Fw {w:World}{a:Addr}{r:Value}(h:w.cell? a=some r):a.spot=none/\a.off<L0 w a.block:=by
 unfold World.cell? at h;unfold L0;split at h
 ·rename_i c t f D;rw[D];split at h
  ·cases h
  ·rename_i hs;refine⟨by cases A:a.spot with|none=>rfl|some _=>simp[A] at hs,?_⟩;exact (jw.1 h).1
 ·cases h
def Fx (a:Addr)(n:Nat)(h:a.spot=none):a.add n=⟨a.block,a.off+n,none⟩:=by
 cases a;simp only at h;subst h;unfold Addr.add;split
 ·rename_i h;simp[h]
 ·rfl
def add_zero (a:Addr):a.add 0=a:=by simp[Addr.add]
def Fy {w:World}(a:Addr)(es:Nat):∀(A:List IV) (k:Nat),(∀(i:Nat) (x:IV),A[i]?=some x->x.cells.length=es/\∃cs,w.cells? 0 (a.add ((k+i)*es)) es=some cs/\VL 0 (L0 w) w cs x.cells) →
  ∃vs:List Value,vs.length=A.length*es/\(∀(i:Nat) (r:Value),vs[i]?=some r->w.cell? (a.add (k*es+i))=some r)/\VL 0 (L0 w) w vs (A.flatMap IV.cells)
 | [],k,h=>⟨[],by simp,λi r h=>by simp at h,VL.nil⟩
 | x::A,k,h=>by
  obtain⟨vs,h1,h2,O⟩:=Fy a es A (k+1) (λi x E=>by
   have:=h (i+1) x (by simpa using E)
   rwa [show k+(i+1)=k+1+i by omega] at this)
  obtain⟨E,cs,hc,hv⟩:=h 0 x rfl;obtain⟨_,hl,J⟩:=World.cells?_some hc;refine⟨cs++vs,by simp[hl,h1,Nat.succ_mul,Nat.add_comm],λi r D=>?_,by simpa using hv.append O⟩;by_cases G:i<cs.length
  ·rw[gw G] at D;have:=J i (by omega);rw[D] at this;rw[<- this];rw[Deep.add_add,jJ]
  ·rw[gD (by omega)] at D;have:=h2 _ r D;rw[<- this];have e:(k+1)*es+(i-cs.length)=k*es+i:=by rw[Nat.succ_mul,hl];omega
   rw[e]
def Nt {w:World}{a:Addr}{len cap es:Nat}{J:List IV}(ac:0<es)(U:J.length=len)(ae:len<=cap)(O:len<=140737488355328)
  (h:∀(i:Nat) (x:IV),J[i]?=some x->x.cells.length=es/\∃cs,w.cells? 0 (a.add (i*es)) es=some cs/\VL 0 (L0 w) w cs x.cells) :
  V 0 (L0 w) w (.slice (some a) len cap) (.sl ⟨false,.none,es⟩ J):=by
 obtain⟨vs,h1,h2,h3⟩:=Fy a es J 0 (λi x hx=>by simpa using h i x hx);subst U;refine .sl (some a) cap ⟨false,.none,es⟩ J 0 vs trivial O ae (λx hx=>?_) h1 (λg hg=>by cases hg) (λhf=>by cases hf) (λab=>?_) h3.2
 ·obtain⟨i,hi,rfl⟩:=gS.1 hx;exact (h i _ (eN hi)).1
 ·have D:0<vs.length:=by
   rw[h1];exact Nat.mul_pos (kC.2 ab) ac
  have A:=h2 0 (vs[0]'(D)) (eN D);rw[Nat.zero_mul,jJ,add_zero] at A;have E:=(Fw A).1;have G:=h2 (vs.length-1) (vs[vs.length-1]'(by omega)) (eN (by omega));obtain⟨hs,hL⟩:=Fw G;rw[Fx a _ E] at hL;simp only[Nat.zero_mul,eT] at hL;refine⟨a,rfl,E,by omega,λi r hr=>?_⟩;have:=h2 i r hr;rw[Fx a _ E] at this;simpa using this
section
variable {H:Type}{enc:TypeId×Value->H}{P:Program}{w:World}{spare:Nat->Bool}{held:Bool}
def AB {α:Type}(R:DataW H->α->IV->Prop){t e:TypeId}{es:Nat}{J:Nat}{cs:List Value}{d:DataW H}{p:List MemPlace}(ht:P.underlying t=some (.slice e))(an:P.cellsOf e=es)(h0:0<es)
  (h:DataW.trod enc P w 0 spare held J t cs=some (d,p)) (ac:∀(A sp:List (DataW H)),d=.slice A sp->A.length<=140737488355328)
  (hR:∀d t x,R d t x->x.cells.length=es)
  (aj:∀(n:Nat),J=n+1->∀(cs':List Value) (y:DataW H) (q:List MemPlace),(∃A sp,d=.slice A sp/\y∈A)->DataW.trod enc P w 0 spare held n e cs'=some (y,q)->∃a x,VL 0 (L0 w) w cs' x.cells/\R y a x) :
  ∃(v:Value) (tg:Tag) (xs:List IV) (us:List α),cs=[v]/\V 0 (L0 w) w v (.sl tg xs)/\okEs tg es/\us.length=xs.length /\
   ((d=.nil/\xs=[])\/∃A sp,d=.slice A sp/\A.length=xs.length/\∀(i:Nat) (y:DataW H) (a:α) (x:IV),A[i]?=some y->us[i]?=some a->xs[i]?=some x->R y a x):=by
 rcases DataW.trod_slice ht h with⟨rfl,hd⟩|⟨a,len,cap,A,rest,n,hn,rfl,hd,_,hl,_,af,ah,_,_⟩
 ·refine⟨_,⟨true,.nil,0⟩,[],[],rfl,?_,Or.inl rfl,rfl,Or.inl ⟨by simpa using eZ Prod.fst hd,rfl⟩⟩;exact .sl none 0 ⟨true,.nil,0⟩ [] 0 [] ⟨rfl,rfl,rfl⟩ (by simp) (by simp) (λx U=>by cases U) (by simp) (λg hg=>by cases hg) (λ_ ad ha=>by cases ha) (λam=>absurd rfl am) (λi r c h=>by simp at h)
 ·have ab:d=.slice (A.map (·.1)) (rest.map (·.1)):=eZ Prod.fst hd;have hb:=ac _ _ ab;rw[eP] at hb;rw[an] at ah;have key:∀i,i<len->∃(z:α×IV) (cs':List Value),w.cells? 0 (a.add (i*es)) es=some cs'/\VL 0 (L0 w) w cs' z.2.cells/\∀y,A[i]?=some y->R y.1 z.1 z.2:=by
   intro i hi;have aa:i<A.length:=by omega
   have h1:=ah i hi;rw[eN aa] at h1;obtain⟨cs',hc,O⟩:=Option.bind_eq_some_iff.1 h1;obtain⟨b,x,hv,hr⟩:=aj n hn cs' A[i].1 A[i].2 ⟨_,_,ab,eh.2 ⟨_,List.getElem_mem aa,rfl⟩⟩ O;refine⟨(b,x),cs',hc,hv,λy O=>?_⟩;rw[eN aa] at O;cases O;exact hr
  have build:∀m,m<=len->∃zs:List (α×IV),zs.length=m/\∀(i:Nat) (z:α×IV),zs[i]?=some z->∃cs':List Value,w.cells? 0 (a.add (i*es)) es=some cs'/\VL 0 (L0 w) w cs' z.2.cells/\∀y,A[i]?=some y->R y.1 z.1 z.2:=by
   intro m
   induction m with
   | zero=>exact λ_=>⟨[],rfl,λi z h=>by simp at h⟩
   | succ m ih =>
    intro hm;obtain⟨zs,E,hz⟩:=ih (by omega);obtain⟨z,hk⟩:=key m (by omega);refine⟨zs++[z],by simp[E],λi z' D=>?_⟩;by_cases hi:i<zs.length
    ·rw[gw hi] at D;exact hz i z' D
    ·rw[gD (by omega)] at D;have:i=m:=by
      have:=(lGs D).1;simp at this;omega
     subst this;rw[E,gg] at D;cases D;exact hk
  obtain⟨zs,E,hz⟩:=build len (eu _);refine⟨_,⟨false,.none,es⟩,zs.map (·.2),zs.map (·.1),rfl,Nt h0 (by simp[E]) hl (by omega) (λi x U=>?_),Or.inr rfl,by simp,Or.inr ⟨_,_,ab,by simp[E,af],λi y b x O hb U=>?_⟩⟩
  ·rw[fH] at U;obtain⟨z,G,rfl⟩:=ga.1 U;obtain⟨cs',h1,h2,h3⟩:=hz i z G;have hi:i<A.length:=by
    have:=(lGs G).1;omega
   exact⟨hR _ _ _ (h3 _ (eN hi)),cs',h1,h2⟩
  ·rw[fH] at U hb O;obtain⟨z,G,rfl⟩:=ga.1 U;rw[G] at hb;cases hb;obtain⟨y',al,rfl⟩:=ga.1 O;obtain⟨cs',h1,h2,h3⟩:=hz i z G;exact h3 _ al
end
end Go.Iv
namespace Go.Proofs.Tryz
open Go Go.Iv Go.ChangeShapes
open Go.Proofs.YtofmbookakncjabGreatDoor.Rows (uptoBulk uptoBulkAll)
set_option maxRecDepth 4000
def Nu:prog.underlying 29=some (.struct #[⟨ "Var",4,0,false, "", "",0⟩,⟨ "Name",9,1,false, "", "",8⟩,⟨ "Args",25,2,false, "", "",24⟩]):=by kernel_rfl
def Nv:prog.underlying 27=some (.struct #[⟨ "Op",5,0,false, "", "",0⟩,⟨ "Name",9,1,false, "", "",8⟩,⟨ "Args",25,2,false, "", "",24⟩,⟨ "Sub",22,3,false, "", "",48⟩]):=by kernel_rfl
def Nw:prog.underlying 25=some (.slice 29):=by kernel_rfl
def Nx:prog.underlying 22=some (.slice 27):=by kernel_rfl
def rv:prog.underlying 4=some .bool:=by kernel_rfl
def Ny:prog.underlying 9=some .string:=by kernel_rfl
def AD:prog.underlying 5=some (.int .u8):=by kernel_rfl
def Fz:prog.cellsOf 29=3:=by kernel_rfl
def FA:prog.cellsOf 27=4:=by kernel_rfl
section
variable {H:Type}{enc:TypeId×Value->H}{w:World}{spare:Nat->Bool}{held:Bool}
def Nz (d:DataW H):1<=uptoBulk d:=by
 cases d with
 | lit l=>cases l<;>simp[uptoBulk]
 | nil=>simp[uptoBulk]
 | ptr d=>simp[uptoBulk]
 | slice D spare=>simp[uptoBulk]
 | agg parts=>simp[uptoBulk]
 | iface t d=>simp[uptoBulk]
 | map A=>simp[uptoBulk]
 | held h=>simp[uptoBulk]
def wv {d:DataW H}:∀ {l:List (DataW H)},d∈l->uptoBulk d<=uptoBulkAll l
 | x::r,h=>by
  simp only[uptoBulkAll];cases eK.1 h with
  | inl e=>subst e;omega
  | inr e=>have:=wv e;omega
def wx:∀(l:List (DataW H)),l.length<=uptoBulkAll l
 | []=>eu _
 | x::r=>by have:=Nz x;have:=wx r;simp only[uptoBulkAll,fa];omega
def ov (A sp:List (DataW H)):uptoBulkAll A+1<=uptoBulk (.slice A sp):=by simp only[uptoBulk];omega
def FB:∀ {us:List Tm}{A:List IV},us.length=A.length->(∀(i:Nat)(a:Tm)(x:IV),us[i]?=some a->A[i]?=some x->IsTm a x)->IsTms us A
 | [],A,h,_=>by simpa[IsTms] using h.symm
 | a::us,[],h,_=>by simp at h
 | a::us,x::A,h,D=>⟨x,A,rfl,D 0 a x rfl rfl,FB (by simpa using h) (λi b y G E=>D (i+1) b y (by simpa using G) (by simpa using E))⟩
def FC:∀ {us:List Fm}{A:List IV},us.length=A.length->(∀(i:Nat)(a:Fm)(x:IV),us[i]?=some a->A[i]?=some x->IsFm a x)->IsFms us A
 | [],A,h,_=>by simpa[IsFms] using h.symm
 | a::us,[],h,_=>by simp at h
 | a::us,x::A,h,D=>⟨x,A,rfl,D 0 a x rfl rfl,FC (by simpa using h) (λi b y G E=>D (i+1) b y (by simpa using G) (by simpa using E))⟩
def FD:∀ {us:List Tm}{ds:List (DataW H)},us.length=ds.length->(∀(i:Nat)(a:Tm)(d:DataW H),us[i]?=some a->ds[i]?=some d->rf a<=uptoBulk d)->ns us<=uptoBulkAll ds
 | [],ds,h,_=>by simp[ns]
 | a::us,[],h,_=>by simp at h
 | a::us,x::D,h,A=>by
  have h1:=A 0 a x rfl rfl;have h2:=FD (us:=us) (ds:=D) (by simpa using h) (λi b y G E=>A (i+1) b y (by simpa using G) (by simpa using E));simp only[ns,uptoBulkAll];omega
def FG:∀ {us:List Fm}{ds:List (DataW H)},us.length=ds.length->(∀(i:Nat)(a:Fm)(d:DataW H),us[i]?=some a->ds[i]?=some d->rh a<=uptoBulk d)->oo us<=uptoBulkAll ds
 | [],ds,h,_=>by simp[oo]
 | a::us,[],h,_=>by simp at h
 | a::us,x::D,h,A=>by
  have h1:=A 0 a x rfl rfl;have h2:=FG (us:=us) (ds:=D) (by simpa using h) (λi b y G E=>A (i+1) b y (by simpa using G) (by simpa using E));simp only[oo,uptoBulkAll];omega
def AE {n:Nat}{cs:List Value}{y:DataW H×List MemPlace}(h:DataW.trod enc prog w 0 spare held n 9 cs=some y)(E:uptoBulk y.1<=1048576) :
  ∃s:ByteArray,cs=[.string s]/\V 0 (L0 w) w (.string s) s/\s.size+1<=uptoBulk y.1:=by
 obtain⟨s,rfl,rfl,_⟩:=DataW.trod_string Ny h;have A:s.size+1=uptoBulk (DataW.lit (H:=H) (.string s.data.toList)):=by simp only[uptoBulk,ByteArray.size,kN]
 refine⟨s,rfl,.raw _ ?_,by rw[A];exact eu _⟩;show s.size<=281474976710656;have D:s.size+1<=1048576:=by rw[A];exact E
 omega
def RT (d:DataW H)(t:Tm)(x:IV):Prop:=IsTm t x/\rf t<=uptoBulk d
def RT.cells {d:DataW H}{t:Tm}{x:IV}(h:RT d t x):x.cells.length=3:=by
 cases t with
 | mk v n us=>obtain⟨D,A,rfl,_⟩:=IsTm.mk h.1;rfl
def cs3 {cs:List Value}(h:cs.length=3):∃a b c,cs=[a,b,c]:=by
 match cs,h with
 | [a,b,c],_=>exact⟨a,b,c,rfl⟩
def cs4 {cs:List Value}(h:cs.length=4):∃a b c d,cs=[a,b,c,d]:=by
 match cs,h with
 | [a,b,c,d],_=>exact⟨a,b,c,d,rfl⟩
def FH {D:Nat}{cs:List Value}{y:DataW H×List MemPlace}(h:DataW.trod enc prog w 0 spare held D 25 cs=some y)(hb:uptoBulk y.1<=1048576)
  (IH:∀(n:Nat),n<D->∀(cs:List Value) (y:DataW H×List MemPlace),DataW.trod enc prog w 0 spare held n 29 cs=some y->uptoBulk y.1<=1048576->∃t x,VL 0 (L0 w) w cs x.cells/\RT y.1 t x) :
  ∃v J G ts,cs=[v]/\V 0 (L0 w) w v (.sl J G)/\okEs J 3/\IsTms ts G/\ns ts+1<=uptoBulk y.1:=by
 obtain⟨v,J,G,ts,rfl,hv,O,hl,hc⟩:=AB (H:=H) (P:=prog) (d:=y.1) (p:=y.2) RT Nw Fz (by decide) h (λA sp e=>by
   have:=ov A sp;have:=wx A;rw[<- e] at *;omega) (λd t x h=>h.cells) (λn hn cs' z q ⟨A,sp,he,hm⟩ hz=>by
   have:=ov A sp;have:=wv hm;rw[he] at hb;exact IH n (by omega) cs' (z,q) hz (show uptoBulk z<=1048576 by omega))
 refine⟨v,J,G,ts,rfl,hv,O,?_⟩;rcases hc with⟨hd,rfl⟩|⟨A,sp,hd,ai,hr⟩
 ·obtain rfl:ts=[]:=mn.1 (by simpa using hl);exact⟨rfl,by rw[hd];simp[ns,uptoBulk]⟩
 ·have U:∀(i:Nat) (a:Tm),ts[i]?=some a->∃x d,G[i]?=some x/\A[i]?=some d/\RT d a x:=λi a E=>by
   have U:=(lGs E).1;exact⟨_,_,eN (by omega),eN (by omega),hr i _ _ _ (eN (by omega)) E (eN (by omega))⟩
  refine⟨FB hl (λi a x E hx=>?_),?_⟩
  ·obtain⟨x',d,h1,h2,h3⟩:=U i a E;rw[hx] at h1;cases h1;exact h3.1
  ·have:=FD (us:=ts) (ds:=A) (by omega) (λi a d E aa=>by
    obtain⟨x',d',h1,h2,h3⟩:=U i a E;rw[aa] at h2;cases h2;exact h3.2)
   have:=ov A sp;rw[hd];omega
def FI:∀(A:Nat)(cs:List Value)(y:DataW H×List MemPlace),DataW.trod enc prog w 0 spare held A 29 cs=some y->uptoBulk y.1<=1048576->∃t x,VL 0 (L0 w) w cs x.cells/\RT y.1 t x:=by
 intro A
 induction A using Nat.strongRecOn with
 | ind A IH =>
  intro cs y h hb;obtain⟨ys,n,rfl,rfl,hl,D,G⟩:=DataW.trod_struct Nu h
  match ys,D with
  | [y0,y1,y2],_ =>
   rw[Fz] at hl;obtain⟨c0,c1,c2,rfl⟩:=cs3 hl;have h0:=G 0 _ rfl;have h1:=G 1 _ rfl;have h2:=G 2 _ rfl;simp only[lh,i_] at h0 h1 h2;simp only[ff,gE,uptoBulk,uptoBulkAll] at hb;obtain⟨b,e0,rfl⟩:=DataW.trod_bool rv h0;obtain⟨s,e1,hs,U⟩:=AE h1 (by omega);obtain⟨v,O,J,ts,e2,hv,E,hts,aa⟩:=FH h2 (by omega) (λm hm=>IH m (by omega));cases e0;cases e1;cases e2;refine⟨.mk b s ts,.agg [b,s,.sl O J],VL.cons (.raw _ trivial) (VL.cons hs (VL.cons hv VL.nil)),?_,?_⟩
   ·simp only[IsTm];exact⟨O,J,rfl,E,hts⟩
   ·simp only[ff,gE,uptoBulk,uptoBulkAll,rf];omega
def RF (d:DataW H)(f:Fm)(x:IV):Prop:=IsFm f x/\rh f<=uptoBulk d
def RF.cells {d:DataW H}{t:Fm}{x:IV}(h:RF d t x):x.cells.length=4:=by
 cases t with
 | mk v n us sub=>obtain⟨E,D,A,ys,rfl,_⟩:=IsFm.mk h.1;rfl
def AF {D:Nat}{cs:List Value}{y:DataW H×List MemPlace}(h:DataW.trod enc prog w 0 spare held D 22 cs=some y)(hb:uptoBulk y.1<=1048576)
  (IH:∀(n:Nat),n<D->∀(cs:List Value) (y:DataW H×List MemPlace),DataW.trod enc prog w 0 spare held n 27 cs=some y->uptoBulk y.1<=1048576->∃t x,VL 0 (L0 w) w cs x.cells/\RF y.1 t x) :
  ∃v J G ts,cs=[v]/\V 0 (L0 w) w v (.sl J G)/\okEs J 4/\IsFms ts G/\oo ts+1<=uptoBulk y.1:=by
 obtain⟨v,J,G,ts,rfl,hv,O,hl,hc⟩:=AB (H:=H) (P:=prog) (d:=y.1) (p:=y.2) RF Nx FA (by decide) h (λA sp e=>by
   have:=ov A sp;have:=wx A;rw[<- e] at *;omega) (λd t x h=>h.cells) (λn hn cs' z q ⟨A,sp,he,hm⟩ hz=>by
   have:=ov A sp;have:=wv hm;rw[he] at hb;exact IH n (by omega) cs' (z,q) hz (show uptoBulk z<=1048576 by omega))
 refine⟨v,J,G,ts,rfl,hv,O,?_⟩;rcases hc with⟨hd,rfl⟩|⟨A,sp,hd,ai,hr⟩
 ·obtain rfl:ts=[]:=mn.1 (by simpa using hl);exact⟨rfl,by rw[hd];simp[oo,uptoBulk]⟩
 ·have U:∀(i:Nat) (a:Fm),ts[i]?=some a->∃x d,G[i]?=some x/\A[i]?=some d/\RF d a x:=λi a E=>by
   have U:=(lGs E).1;exact⟨_,_,eN (by omega),eN (by omega),hr i _ _ _ (eN (by omega)) E (eN (by omega))⟩
  refine⟨FC hl (λi a x E hx=>?_),?_⟩
  ·obtain⟨x',d,h1,h2,h3⟩:=U i a E;rw[hx] at h1;cases h1;exact h3.1
  ·have:=FG (us:=ts) (ds:=A) (by omega) (λi a d E aa=>by
    obtain⟨x',d',h1,h2,h3⟩:=U i a E;rw[aa] at h2;cases h2;exact h3.2)
   have:=ov A sp;rw[hd];omega
def AG:∀(A:Nat)(cs:List Value)(y:DataW H×List MemPlace),DataW.trod enc prog w 0 spare held A 27 cs=some y->uptoBulk y.1<=1048576->∃t x,VL 0 (L0 w) w cs x.cells/\RF y.1 t x:=by
 intro A
 induction A using Nat.strongRecOn with
 | ind A IH =>
  intro cs y h hb;obtain⟨ys,n,rfl,rfl,hl,U,hf⟩:=DataW.trod_struct Nv h
  match ys,U with
  | [y0,y1,y2,y3],_ =>
   rw[FA] at hl;obtain⟨c0,c1,c2,c3,rfl⟩:=cs4 hl;have h0:=hf 0 _ rfl;have h1:=hf 1 _ rfl;have h2:=hf 2 _ rfl;have h3:=hf 3 _ rfl;simp only[lh,i_] at h0 h1 h2 h3;simp only[ff,gE,uptoBulk,uptoBulkAll] at hb;obtain⟨op,e0,rfl,D⟩:=DataW.trod_int AD h0;obtain⟨s,e1,hs,aj⟩:=AE h1 (by omega);obtain⟨v,tg,xs,ts,e2,hv,ae,hts,ak⟩:=FH h2 (by omega) (λm _=>FI m);obtain⟨v',G,E,ab,e3,ac,O,J,ah⟩:=AF h3 (by omega) (λm hm=>IH m (by omega));cases e0;cases e1;cases e2;cases e3;have D:0<=op/\op<256:=by
    simp only[Lit.wf,IntKind.min,IntKind.max,IntKind.signed,IntKind.bits,bAt] at D;exact⟨gi D.1,by have:=gi D.2;simp at this;omega⟩
   obtain⟨k,rfl⟩:=Int.eq_ofNat_of_zero_le D.1;refine⟨.mk k s ts ab,.agg [.raw (.int .u8 k),s,.sl tg xs,.sl G E],VL.cons (.raw _ trivial) (VL.cons hs (VL.cons hv (VL.cons ac VL.nil))),?_,?_⟩
   ·simp only[IsFm];exact⟨tg,xs,G,E,rfl,by omega,ae,hts,O,J⟩
   ·simp only[ff,gE,uptoBulk,uptoBulkAll,rh];omega
end
section
variable {H:Type}{enc:TypeId×Value->H}{w:World}{spare:Nat->Bool}{held:Bool}
end
