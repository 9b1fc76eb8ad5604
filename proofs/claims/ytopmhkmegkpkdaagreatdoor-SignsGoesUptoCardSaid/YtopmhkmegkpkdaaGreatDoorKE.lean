/- From a row's reading to ideal values, pa -/
import Derived.Lib.SmallJoins
import Derived.Test.YtopmhkmegkpkdaaGreatDoorJT
import Derived.Test.YtopmhkmegkpkdaaGreatDoorRows
set_option linter.all false
namespace Go.Iv
open Go Go.ChangeShapes
def L0 (w:World)(b:Nat):Nat:=match w.heap[b]? with
 | some (.cells c _ _)=>c.size
 | _=>0
def CX {w:World}{a:Addr}{r:Value}(h:w.cell? a=some r):a.spot=none/\a.off<L0 w a.block:=by
 unfold World.cell? at h;unfold L0;split at h
 ·rename_i c t f E;rw[E];split at h
  ·cases h
  ·rename_i A;refine⟨by cases D:a.spot with|none=>rfl|some _=>simp[D] at A,?_⟩;exact (gO.1 h).1
 ·cases h
def CY (a:Addr)(n:Nat)(h:a.spot=none):a.add n=⟨a.block,a.off+n,none⟩:=by
 cases a;simp only at h;subst h;unfold Addr.add;split
 ·rename_i h;simp[h]
 ·rfl
def add_zero (a:Addr):a.add 0=a:=by simp[Addr.add]
def CZ {w:World}(a:Addr)(es:Nat):∀(A:List IV) (k:Nat),(∀(i:Nat) (x:IV),A[i]?=some x->x.cells.length=es/\∃cs,w.cells? 0 (a.add ((k+i)*es)) es=some cs/\VL 0 (L0 w) w cs x.cells) →
  ∃vs:List Value,vs.length=A.length*es/\(∀(i:Nat) (r:Value),vs[i]?=some r->w.cell? (a.add (k*es+i))=some r)/\VL 0 (L0 w) w vs (A.flatMap IV.cells)
 | [],k,h=>⟨[],by simp,λi r h=>by simp at h,VL.nil⟩
 | x::A,k,h=>by
  obtain⟨vs,h1,h2,h3⟩:=CZ a es A (k+1) (λi x hx=>by
   have:=h (i+1) x (by simpa using hx)
   rwa [show k+(i+1)=k+1+i by omega] at this)
  obtain⟨hx,cs,hc,O⟩:=h 0 x rfl;obtain⟨_,E,W⟩:=World.cells?_some hc;refine⟨cs++vs,by simp[E,h1,Nat.succ_mul,Nat.add_comm],λi r D=>?_,by simpa using O.append h3⟩;by_cases U:i<cs.length
  ·rw[fP U] at D;have:=W i (by omega);rw[D] at this;rw[<- this];rw[Deep.add_add,jr]
  ·rw[gh (by omega)] at D;have:=h2 _ r D;rw[<- this];have e:(k+1)*es+(i-cs.length)=k*es+i:=by rw[Nat.succ_mul,E];omega
   rw[e]
def Lo {w:World}{a:Addr}{len cap es:Nat}{U:List IV}(ac:0<es)(aa:U.length=len)(ae:len<=cap)(W:len<=140737488355328)
  (h:∀(i:Nat) (x:IV),U[i]?=some x->x.cells.length=es/\∃cs,w.cells? 0 (a.add (i*es)) es=some cs/\VL 0 (L0 w) w cs x.cells) :
  V 0 (L0 w) w (.slice (some a) len cap) (.sl ⟨false,.none,es⟩ U):=by
 obtain⟨vs,h1,h2,h3⟩:=CZ a es U 0 (λi x hx=>by simpa using h i x hx);subst aa;refine .sl (some a) cap ⟨false,.none,es⟩ U 0 vs trivial W ae (λx hx=>?_) h1 (λg hg=>by cases hg) (λhf=>by cases hf) (λab=>?_) h3.2
 ·obtain⟨i,hi,rfl⟩:=List.mem_iff_getElem.1 hx;exact (h i _ (ee hi)).1
 ·have D:0<vs.length:=by
   rw[h1];exact Nat.mul_pos (List.length_pos_iff.2 ab) ac
  have A:=h2 0 (vs[0]'(D)) (ee D);rw[fY,jr,add_zero] at A;have E:=(CX A).1;have O:=h2 (vs.length-1) (vs[vs.length-1]'(by omega)) (ee (by omega));obtain⟨hs,hL⟩:=CX O;rw[CY a _ E] at hL;simp only[fY,eQ] at hL;refine⟨a,rfl,E,by omega,λi r hr=>?_⟩;have:=h2 i r hr;rw[CY a _ E] at this;simpa using this
section
variable {H:Type}{enc:TypeId×Value->H}{P:Program}{w:World}{spare:Nat->Bool}{held:Bool}
def wV {α:Type}(R:DataW H->α->IV->Prop){t e:TypeId}{es:Nat}{U:Nat}{cs:List Value}{d:DataW H}{p:List MemPlace}(ht:P.underlying t=some (.slice e))(aq:P.cellsOf e=es)(h0:0<es)
  (h:DataW.trod enc P w 0 spare held U t cs=some (d,p)) (ac:∀(A sp:List (DataW H)),d=.slice A sp->A.length<=140737488355328)
  (hR:∀d t x,R d t x->x.cells.length=es)
  (ak:∀(n:Nat),U=n+1->∀(cs':List Value) (y:DataW H) (q:List MemPlace),(∃A sp,d=.slice A sp/\y∈A)->DataW.trod enc P w 0 spare held n e cs'=some (y,q)->∃a x,VL 0 (L0 w) w cs' x.cells/\R y a x) :
  ∃(v:Value) (tg:Tag) (xs:List IV) (us:List α),cs=[v]/\V 0 (L0 w) w v (.sl tg xs)/\okEs tg es/\us.length=xs.length /\
   ((d=.nil/\xs=[])\/∃A sp,d=.slice A sp/\A.length=xs.length/\∀(i:Nat) (y:DataW H) (a:α) (x:IV),A[i]?=some y->us[i]?=some a->xs[i]?=some x->R y a x):=by
 rcases DataW.trod_slice ht h with⟨rfl,hd⟩|⟨a,len,cap,A,rest,n,hn,rfl,hd,_,hl,_,ag,ai,_,_⟩
 ·refine⟨_,⟨true,.nil,0⟩,[],[],rfl,?_,Or.inl rfl,rfl,Or.inl ⟨by simpa using et Prod.fst hd,rfl⟩⟩;exact .sl none 0 ⟨true,.nil,0⟩ [] 0 [] ⟨rfl,rfl,rfl⟩ (by simp) (by simp) (λx hx=>by cases hx) (by simp) (λg hg=>by cases hg) (λ_ ad ha=>by cases ha) (λao=>absurd rfl ao) (λi r c h=>by simp at h)
 ·have ab:d=.slice (A.map (·.1)) (rest.map (·.1)):=et Prod.fst hd;have hb:=ac _ _ ab;rw[gj] at hb;rw[aq] at ai;have key:∀i,i<len->∃(z:α×IV) (cs':List Value),w.cells? 0 (a.add (i*es)) es=some cs'/\VL 0 (L0 w) w cs' z.2.cells/\∀y,A[i]?=some y->R y.1 z.1 z.2:=by
   intro i hi;have aa:i<A.length:=by omega
   have h1:=ai i hi;rw[ee aa] at h1;obtain⟨cs',hc,W⟩:=Option.bind_eq_some_iff.1 h1;obtain⟨b,x,hv,hr⟩:=ak n hn cs' A[i].1 A[i].2 ⟨_,_,ab,eP.2 ⟨_,List.getElem_mem aa,rfl⟩⟩ W;refine⟨(b,x),cs',hc,hv,λy W=>?_⟩;rw[ee aa] at W;cases W;exact hr
  have build:∀m,m<=len->∃zs:List (α×IV),zs.length=m/\∀(i:Nat) (z:α×IV),zs[i]?=some z->∃cs':List Value,w.cells? 0 (a.add (i*es)) es=some cs'/\VL 0 (L0 w) w cs' z.2.cells/\∀y,A[i]?=some y->R y.1 z.1 z.2:=by
   intro m
   induction m with
   | zero=>exact λ_=>⟨[],rfl,λi z h=>by simp at h⟩
   | succ m ih =>
    intro hm;obtain⟨zs,E,hz⟩:=ih (by omega);obtain⟨z,hk⟩:=key m (by omega);refine⟨zs++[z],by simp[E],λi z' D=>?_⟩;by_cases hi:i<zs.length
    ·rw[fP hi] at D;exact hz i z' D
    ·rw[gh (by omega)] at D;have:i=m:=by
      have:=(lGs D).1;simp at this;omega
     subst this;rw[E,jV] at D;cases D;exact hk
  obtain⟨zs,E,hz⟩:=build len (dz _);refine⟨_,⟨false,.none,es⟩,zs.map (·.2),zs.map (·.1),rfl,Lo h0 (by simp[E]) hl (by omega) (λi x hx=>?_),Or.inr rfl,by simp,Or.inr ⟨_,_,ab,by simp[E,ag],λi y b x W hb hx=>?_⟩⟩
  ·rw[en] at hx;obtain⟨z,O,rfl⟩:=gI.1 hx;obtain⟨cs',h1,h2,h3⟩:=hz i z O;have hi:i<A.length:=by
    have:=(lGs O).1;omega
   exact⟨hR _ _ _ (h3 _ (ee hi)),cs',h1,h2⟩
  ·rw[en] at hx hb W;obtain⟨z,O,rfl⟩:=gI.1 hx;rw[O] at hb;cases hb;obtain⟨y',an,rfl⟩:=gI.1 W;obtain⟨cs',h1,h2,h3⟩:=hz i z O;exact h3 _ an
end
end Go.Iv
namespace Go.Proofs.Tryz
open Go Go.Iv Go.ChangeShapes
open Go.Proofs.YtopmhkmegkpkdaaGreatDoor.Rows (uptoBulk uptoBulkAll)
set_option maxRecDepth 4000
def Lp:prog.underlying 47=some (.struct #[⟨ "Var",4,0,false, "", "",0⟩,⟨ "Name",9,1,false, "", "",8⟩,⟨ "Args",25,2,false, "", "",24⟩]):=by kernel_rfl
def Lq:prog.underlying 27=some (.struct #[⟨ "Op",5,0,false, "", "",0⟩,⟨ "Name",9,1,false, "", "",8⟩,⟨ "Args",25,2,false, "", "",24⟩,⟨ "Sub",22,3,false, "", "",48⟩]):=by kernel_rfl
def Lr:prog.underlying 25=some (.slice 47):=by kernel_rfl
def Ls:prog.underlying 22=some (.slice 27):=by kernel_rfl
def oV:prog.underlying 4=some .bool:=by kernel_rfl
def Lt:prog.underlying 9=some .string:=by kernel_rfl
def C0:prog.underlying 5=some (.int .u8):=by kernel_rfl
def C1:prog.cellsOf 47=3:=by kernel_rfl
def wW:prog.cellsOf 27=4:=by kernel_rfl
def C2:prog.cellsOf 4=1:=by kernel_rfl
section
variable {H:Type}{enc:TypeId×Value->H}{w:World}{spare:Nat->Bool}{held:Bool}
def Lu (d:DataW H):1<=uptoBulk d:=by
 cases d with
 | lit l=>cases l<;>simp[uptoBulk]
 | nil=>simp[uptoBulk]
 | ptr d=>simp[uptoBulk]
 | slice D spare=>simp[uptoBulk]
 | agg parts=>simp[uptoBulk]
 | iface t d=>simp[uptoBulk]
 | map A=>simp[uptoBulk]
 | held h=>simp[uptoBulk]
def tH {d:DataW H}:∀ {l:List (DataW H)},d∈l->uptoBulk d<=uptoBulkAll l
 | x::r,h=>by
  simp only[uptoBulkAll];cases dC.1 h with
  | inl e=>subst e;omega
  | inr e=>have:=tH e;omega
def tI:∀(l:List (DataW H)),l.length<=uptoBulkAll l
 | []=>dz _
 | x::r=>by have:=Lu x;have:=tI r;simp only[uptoBulkAll,eG];omega
def nc (A D:List (DataW H)):uptoBulkAll A+1<=uptoBulk (.slice A D):=by simp only[uptoBulk];omega
def C3:∀ {us:List Tm}{A:List IV},us.length=A.length->(∀(i:Nat)(a:Tm)(x:IV),us[i]?=some a->A[i]?=some x->IsTm a x)->IsTms us A
 | [],A,h,_=>by simpa[IsTms] using h.symm
 | a::us,[],h,_=>by simp at h
 | a::us,x::A,h,D=>⟨x,A,rfl,D 0 a x rfl rfl,C3 (by simpa using h) (λi b y O E=>D (i+1) b y (by simpa using O) (by simpa using E))⟩
def C4:∀ {us:List Fm}{A:List IV},us.length=A.length->(∀(i:Nat)(a:Fm)(x:IV),us[i]?=some a->A[i]?=some x->IsFm a x)->IsFms us A
 | [],A,h,_=>by simpa[IsFms] using h.symm
 | a::us,[],h,_=>by simp at h
 | a::us,x::A,h,D=>⟨x,A,rfl,D 0 a x rfl rfl,C4 (by simpa using h) (λi b y O E=>D (i+1) b y (by simpa using O) (by simpa using E))⟩
def C5:∀ {us:List Tm}{ds:List (DataW H)},us.length=ds.length->(∀(i:Nat)(a:Tm)(d:DataW H),us[i]?=some a->ds[i]?=some d->p6 a<=uptoBulk d)->my us<=uptoBulkAll ds
 | [],ds,h,_=>by simp[my]
 | a::us,[],h,_=>by simp at h
 | a::us,x::D,h,A=>by
  have h1:=A 0 a x rfl rfl;have h2:=C5 (us:=us) (ds:=D) (by simpa using h) (λi b y O E=>A (i+1) b y (by simpa using O) (by simpa using E));simp only[my,uptoBulkAll];omega
def C6:∀ {us:List Fm}{ds:List (DataW H)},us.length=ds.length->(∀(i:Nat)(a:Fm)(d:DataW H),us[i]?=some a->ds[i]?=some d->p7 a<=uptoBulk d)->mZ us<=uptoBulkAll ds
 | [],ds,h,_=>by simp[mZ]
 | a::us,[],h,_=>by simp at h
 | a::us,x::D,h,A=>by
  have h1:=A 0 a x rfl rfl;have h2:=C6 (us:=us) (ds:=D) (by simpa using h) (λi b y O E=>A (i+1) b y (by simpa using O) (by simpa using E));simp only[mZ,uptoBulkAll];omega
def C7 {n:Nat}{cs:List Value}{y:DataW H×List MemPlace}(h:DataW.trod enc prog w 0 spare held n 9 cs=some y)(E:uptoBulk y.1<=1048576) :
  ∃s:ByteArray,cs=[.string s]/\V 0 (L0 w) w (.string s) s/\s.size+1<=uptoBulk y.1:=by
 obtain⟨s,rfl,rfl,_⟩:=DataW.trod_string Lt h;have A:s.size+1=uptoBulk (DataW.lit (H:=H) (.string s.data.toList)):=by simp only[uptoBulk,ByteArray.size,kd]
 refine⟨s,rfl,.raw _ ?_,by rw[A];exact dz _⟩;show s.size<=281474976710656;have D:s.size+1<=1048576:=by rw[A];exact E
 omega
def RT (d:DataW H)(t:Tm)(x:IV):Prop:=IsTm t x/\p6 t<=uptoBulk d
def RT.cells {d:DataW H}{t:Tm}{x:IV}(h:RT d t x):x.cells.length=3:=by
 cases t with
 | mk v n us=>obtain⟨D,A,rfl,_⟩:=IsTm.mk h.1;rfl
def cs3 {cs:List Value}(h:cs.length=3):∃a b c,cs=[a,b,c]:=by
 match cs,h with
 | [a,b,c],_=>exact⟨a,b,c,rfl⟩
def cs4 {cs:List Value}(h:cs.length=4):∃a b c d,cs=[a,b,c,d]:=by
 match cs,h with
 | [a,b,c,d],_=>exact⟨a,b,c,d,rfl⟩
def C8 {D:Nat}{cs:List Value}{y:DataW H×List MemPlace}(h:DataW.trod enc prog w 0 spare held D 25 cs=some y)(hb:uptoBulk y.1<=1048576)
  (IH:∀(n:Nat),n<D->∀(cs:List Value) (y:DataW H×List MemPlace),DataW.trod enc prog w 0 spare held n 47 cs=some y->uptoBulk y.1<=1048576->∃t x,VL 0 (L0 w) w cs x.cells/\RT y.1 t x) :
  ∃v tg U E,cs=[v]/\V 0 (L0 w) w v (.sl tg U)/\okEs tg 3/\IsTms E U/\my E+1<=uptoBulk y.1:=by
 obtain⟨v,tg,U,E,rfl,hv,ab,hl,hc⟩:=wV (H:=H) (P:=prog) (d:=y.1) (p:=y.2) RT Lr C1 (by decide) h (λA W e=>by
   have:=nc A W;have:=tI A;rw[<- e] at *;omega) (λd t x h=>h.cells) (λn hn cs' z q ⟨A,W,he,hm⟩ hz=>by
   have:=nc A W;have:=tH hm;rw[he] at hb;exact IH n (by omega) cs' (z,q) hz (show uptoBulk z<=1048576 by omega))
 refine⟨v,tg,U,E,rfl,hv,ab,?_⟩;rcases hc with⟨hd,rfl⟩|⟨A,W,hd,an,hr⟩
 ·obtain rfl:E=[]:=fX.1 (by simpa using hl);exact⟨rfl,by rw[hd];simp[my,uptoBulk]⟩
 ·have hi:∀(i:Nat) (a:Tm),E[i]?=some a->∃x d,U[i]?=some x/\A[i]?=some d/\RT d a x:=λi a O=>by
   have hi:=(lGs O).1;exact⟨_,_,ee (by omega),ee (by omega),hr i _ _ _ (ee (by omega)) O (ee (by omega))⟩
  refine⟨C3 hl (λi a x O hx=>?_),?_⟩
  ·obtain⟨x',d,h1,h2,h3⟩:=hi i a O;rw[hx] at h1;cases h1;exact h3.1
  ·have:=C5 (us:=E) (ds:=A) (by omega) (λi a d O ae=>by
    obtain⟨x',d',h1,h2,h3⟩:=hi i a O;rw[ae] at h2;cases h2;exact h3.2)
   have:=nc A W;rw[hd];omega
def Lv:∀(A:Nat)(cs:List Value)(y:DataW H×List MemPlace),DataW.trod enc prog w 0 spare held A 47 cs=some y->uptoBulk y.1<=1048576->∃t x,VL 0 (L0 w) w cs x.cells/\RT y.1 t x:=by
 intro A
 induction A using Nat.strongRecOn with
 | ind A IH =>
  intro cs y h hb;obtain⟨ys,n,rfl,rfl,hl,D,U⟩:=kA Lp h
  match ys,D with
  | [y0,y1,y2],_ =>
   rw[C1] at hl;obtain⟨c0,c1,c2,rfl⟩:=cs3 hl;have h0:=U 0 _ rfl;have h1:=U 1 _ rfl;have h2:=U 2 _ rfl;simp only[fC,iV] at h0 h1 h2;simp only[eo,fm,uptoBulk,uptoBulkAll] at hb;obtain⟨b,e0,rfl⟩:=DataW.trod_bool oV h0;obtain⟨s,e1,hs,hs2⟩:=C7 h1 (by omega);obtain⟨v,tg,W,ts,e2,hv,O,E,ah⟩:=C8 h2 (by omega) (λm hm=>IH m (by omega));cases e0;cases e1;cases e2;refine⟨.mk b s ts,.agg [b,s,.sl tg W],VL.cons (.raw _ trivial) (VL.cons hs (VL.cons hv VL.nil)),?_,?_⟩
   ·simp only[IsTm];exact⟨tg,W,rfl,O,E⟩
   ·simp only[eo,fm,uptoBulk,uptoBulkAll,p6];omega
def RF (d:DataW H)(f:Fm)(x:IV):Prop:=IsFm f x/\p7 f<=uptoBulk d
def RF.cells {d:DataW H}{t:Fm}{x:IV}(h:RF d t x):x.cells.length=4:=by
 cases t with
 | mk v n us sub=>obtain⟨E,D,A,ys,rfl,_⟩:=IsFm.mk h.1;rfl
def wX {D:Nat}{cs:List Value}{y:DataW H×List MemPlace}(h:DataW.trod enc prog w 0 spare held D 22 cs=some y)(hb:uptoBulk y.1<=1048576)
  (IH:∀(n:Nat),n<D->∀(cs:List Value) (y:DataW H×List MemPlace),DataW.trod enc prog w 0 spare held n 27 cs=some y->uptoBulk y.1<=1048576->∃t x,VL 0 (L0 w) w cs x.cells/\RF y.1 t x) :
  ∃v tg U E,cs=[v]/\V 0 (L0 w) w v (.sl tg U)/\okEs tg 4/\IsFms E U/\mZ E+1<=uptoBulk y.1:=by
 obtain⟨v,tg,U,E,rfl,hv,ab,hl,hc⟩:=wV (H:=H) (P:=prog) (d:=y.1) (p:=y.2) RF Ls wW (by decide) h (λA W e=>by
   have:=nc A W;have:=tI A;rw[<- e] at *;omega) (λd t x h=>h.cells) (λn hn cs' z q ⟨A,W,he,hm⟩ hz=>by
   have:=nc A W;have:=tH hm;rw[he] at hb;exact IH n (by omega) cs' (z,q) hz (show uptoBulk z<=1048576 by omega))
 refine⟨v,tg,U,E,rfl,hv,ab,?_⟩;rcases hc with⟨hd,rfl⟩|⟨A,W,hd,an,hr⟩
 ·obtain rfl:E=[]:=fX.1 (by simpa using hl);exact⟨rfl,by rw[hd];simp[mZ,uptoBulk]⟩
 ·have hi:∀(i:Nat) (a:Fm),E[i]?=some a->∃x d,U[i]?=some x/\A[i]?=some d/\RF d a x:=λi a O=>by
   have hi:=(lGs O).1;exact⟨_,_,ee (by omega),ee (by omega),hr i _ _ _ (ee (by omega)) O (ee (by omega))⟩
  refine⟨C4 hl (λi a x O hx=>?_),?_⟩
  ·obtain⟨x',d,h1,h2,h3⟩:=hi i a O;rw[hx] at h1;cases h1;exact h3.1
  ·have:=C6 (us:=E) (ds:=A) (by omega) (λi a d O ae=>by
    obtain⟨x',d',h1,h2,h3⟩:=hi i a O;rw[ae] at h2;cases h2;exact h3.2)
   have:=nc A W;rw[hd];omega
def wY:∀(A:Nat)(cs:List Value)(y:DataW H×List MemPlace),DataW.trod enc prog w 0 spare held A 27 cs=some y->uptoBulk y.1<=1048576->∃t x,VL 0 (L0 w) w cs x.cells/\RF y.1 t x:=by
 intro A
 induction A using Nat.strongRecOn with
 | ind A IH =>
  intro cs y h hb;obtain⟨ys,n,rfl,rfl,hl,aa,hf⟩:=kA Lq h
  match ys,aa with
  | [y0,y1,y2,y3],_ =>
   rw[wW] at hl;obtain⟨c0,c1,c2,c3,rfl⟩:=cs4 hl;have h0:=hf 0 _ rfl;have h1:=hf 1 _ rfl;have h2:=hf 2 _ rfl;have h3:=hf 3 _ rfl;simp only[fC,iV] at h0 h1 h2 h3;simp only[eo,fm,uptoBulk,uptoBulkAll] at hb;obtain⟨op,e0,rfl,D⟩:=DataW.trod_int C0 h0;obtain⟨s,e1,hs,hs2⟩:=C7 h1 (by omega);obtain⟨v,tg,xs,ts,e2,hv,ag,af,au⟩:=C8 h2 (by omega) (λm _=>Lv m);obtain⟨v',O,E,ac,e3,ae,W,U,ak⟩:=wX h3 (by omega) (λm hm=>IH m (by omega));cases e0;cases e1;cases e2;cases e3;have D:0<=op/\op<256:=by
    simp only[Lit.wf,IntKind.min,IntKind.max,IntKind.signed,IntKind.bits,bAt] at D;exact⟨eI D.1,by have:=eI D.2;simp at this;omega⟩
   obtain⟨k,rfl⟩:=Int.eq_ofNat_of_zero_le D.1;refine⟨.mk k s ts ac,.agg [.raw (.int .u8 k),s,.sl tg xs,.sl O E],VL.cons (.raw _ trivial) (VL.cons hs (VL.cons hv (VL.cons ae VL.nil))),?_,?_⟩
   ·simp only[IsFm];exact⟨tg,xs,O,E,rfl,by omega,ag,af,W,U⟩
   ·simp only[eo,fm,uptoBulk,uptoBulkAll,p7];omega
end
section
variable {H:Type}{enc:TypeId×Value->H}{w:World}{spare:Nat->Bool}{held:Bool}
end
