/- From a row's reading to ideal values, pa -/
import Derived.Lib.SmallJoins
import Derived.Test.YtclkffdkahljeaaGreatDoorJT
import Derived.Test.YtclkffdkahljeaaGreatDoorRows
set_option linter.all false
namespace Go.Iv
open Go Go.ChangeShapes
def L0 (w:World)(b:Nat):Nat:=match w.heap[b]? with
 | some (.cells c _ _)=>c.size
 | _=>0
theorem vYh {w:World}{a:Addr}{r:Value}(h:w.cell? a=some r):a.spot=none/\a.off<L0 w a.block:=by
 unfold World.cell? at h;unfold L0;split at h
 ·rename_i c t f D;rw[D];split at h
  ·cases h
  ·rename_i hs;refine⟨by cases A:a.spot with|none=>rfl|some _=>simp[A] at hs,?_⟩;exact (Array.getElem?_eq_some_iff.1 h).1
 ·cases h
theorem xY4 (a:Addr)(n:Nat)(h:a.spot=none):a.add n=⟨a.block,a.off+n,none⟩:=by
 cases a;simp only at h;subst h;unfold Addr.add;split
 ·rename_i h;simp[h]
 ·rfl
theorem add_zero (a:Addr):a.add 0=a:=by simp[Addr.add]
theorem zUw {w:World}(a:Addr)(es:Nat):∀(A:List IV) (k:Nat),(∀(i:Nat) (x:IV),A[i]?=some x->x.cells.length=es/\∃cs,w.cells? 0 (a.add ((k+i)*es)) es=some cs/\VL 0 (L0 w) w cs x.cells) →
  ∃vs:List Value,vs.length=A.length*es/\(∀(i:Nat) (r:Value),vs[i]?=some r->w.cell? (a.add (k*es+i))=some r)/\VL 0 (L0 w) w vs (A.flatMap IV.cells)
 | [],k,h=>⟨[],by simp,λi r h=>by simp at h,VL.nil⟩
 | x::A,k,h=>by
  obtain⟨vs,h1,h2,O⟩:=zUw a es A (k+1) (λi x hx=>by
   have:=h (i+1) x (by simpa using hx)
   rwa [show k+(i+1)=k+1+i by omega] at this)
  obtain⟨hx,cs,hc,hv⟩:=h 0 x rfl;obtain⟨_,hl,J⟩:=World.cells?_some hc;refine⟨cs++vs,by simp[hl,h1,Nat.succ_mul,Nat.add_comm],λi r D=>?_,by simpa using hv.append O⟩;by_cases E:i<cs.length
  ·rw[List.getElem?_append_left E] at D;have:=J i (by omega);rw[D] at this;rw[<- this];rw[Deep.add_add,Nat.add_zero]
  ·rw[List.getElem?_append_right (by omega)] at D;have:=h2 _ r D;rw[<- this];have e:(k+1)*es+(i-cs.length)=k*es+i:=by rw[Nat.succ_mul,hl];omega
   rw[e]
theorem vZj {w:World}{a:Addr}{len cap es:Nat}{O:List IV}(ab:0<es)(hxl:O.length=len)(ac:len<=cap)(U:len<=140737488355328)
  (h:∀(i:Nat) (x:IV),O[i]?=some x->x.cells.length=es/\∃cs,w.cells? 0 (a.add (i*es)) es=some cs/\VL 0 (L0 w) w cs x.cells) :
  V 0 (L0 w) w (.slice (some a) len cap) (.sl ⟨false,.none,es⟩ O):=by
 obtain⟨vs,h1,h2,h3⟩:=zUw a es O 0 (λi x hx=>by simpa using h i x hx);subst hxl;refine .sl (some a) cap ⟨false,.none,es⟩ O 0 vs trivial U ac (λx hx=>?_) h1 (λg hg=>by cases hg) (λhf=>by cases hf) (λaa=>?_) h3.2
 ·obtain⟨i,hi,rfl⟩:=List.mem_iff_getElem.1 hx;exact (h i _ (List.getElem?_eq_getElem hi)).1
 ·have D:0<vs.length:=by
   rw[h1];exact Nat.mul_pos (List.length_pos_iff.2 aa) ab
  have A:=h2 0 (vs[0]'(D)) (List.getElem?_eq_getElem D);rw[Nat.zero_mul,Nat.add_zero,add_zero] at A;have E:=(vYh A).1;have J:=h2 (vs.length-1) (vs[vs.length-1]'(by omega)) (List.getElem?_eq_getElem (by omega));obtain⟨hs,hL⟩:=vYh J;rw[xY4 a _ E] at hL;simp only[Nat.zero_mul,Nat.zero_add] at hL;refine⟨a,rfl,E,by omega,λi r hr=>?_⟩;have:=h2 i r hr;rw[xY4 a _ E] at this;simpa using this
section
variable {H:Type}{enc:TypeId×Value->H}{P:Program}{w:World}{spare:Nat->Bool}{held:Bool}
theorem wZ3 {α:Type}(R:DataW H->α->IV->Prop){t e:TypeId}{es:Nat}{O:Nat}{cs:List Value}{d:DataW H}{p:List MemPlace}(ht:P.underlying t=some (.slice e))(am:P.cellsOf e=es)(h0:0<es)
  (h:DataW.trod enc P w 0 spare held O t cs=some (d,p)) (bound:∀(A sp:List (DataW H)),d=.slice A sp->A.length<=140737488355328)
  (hR:∀d t x,R d t x->x.cells.length=es)
  (ai:∀(n:Nat),O=n+1->∀(cs':List Value) (y:DataW H) (q:List MemPlace),(∃A sp,d=.slice A sp/\y∈A)->DataW.trod enc P w 0 spare held n e cs'=some (y,q)->∃a x,VL 0 (L0 w) w cs' x.cells/\R y a x) :
  ∃(v:Value) (tg:Tag) (xs:List IV) (us:List α),cs=[v]/\V 0 (L0 w) w v (.sl tg xs)/\okEs tg es/\us.length=xs.length /\
   ((d=.nil/\xs=[])\/∃A sp,d=.slice A sp/\A.length=xs.length/\∀(i:Nat) (y:DataW H) (a:α) (x:IV),A[i]?=some y->us[i]?=some a->xs[i]?=some x->R y a x):=by
 rcases DataW.trod_slice ht h with⟨rfl,hd⟩|⟨a,len,cap,A,rest,n,hn,rfl,hd,_,hl,_,ae,ag,_,_⟩
 ·refine⟨_,⟨true,.nil,0⟩,[],[],rfl,?_,Or.inl rfl,rfl,Or.inl ⟨by simpa using congrArg Prod.fst hd,rfl⟩⟩;exact .sl none 0 ⟨true,.nil,0⟩ [] 0 [] ⟨rfl,rfl,rfl⟩ (by simp) (by simp) (λx hx=>by cases hx) (by simp) (λg hg=>by cases hg) (λ_ ad ha=>by cases ha) (λal=>absurd rfl al) (λi r c h=>by simp at h)
 ·have ab:d=.slice (A.map (·.1)) (rest.map (·.1)):=congrArg Prod.fst hd;have hb:=bound _ _ ab;rw[List.length_map] at hb;rw[am] at ag;have key:∀i,i<len->∃(z:α×IV) (cs':List Value),w.cells? 0 (a.add (i*es)) es=some cs'/\VL 0 (L0 w) w cs' z.2.cells/\∀y,A[i]?=some y->R y.1 z.1 z.2:=by
   intro i hi;have aa:i<A.length:=by omega
   have h1:=ag i hi;rw[List.getElem?_eq_getElem aa] at h1;obtain⟨cs',hc,U⟩:=Option.bind_eq_some_iff.1 h1;obtain⟨b,x,hv,hr⟩:=ai n hn cs' A[i].1 A[i].2 ⟨_,_,ab,List.mem_map.2 ⟨_,List.getElem_mem aa,rfl⟩⟩ U;refine⟨(b,x),cs',hc,hv,λy U=>?_⟩;rw[List.getElem?_eq_getElem aa] at U;cases U;exact hr
  have build:∀m,m<=len->∃zs:List (α×IV),zs.length=m/\∀(i:Nat) (z:α×IV),zs[i]?=some z->∃cs':List Value,w.cells? 0 (a.add (i*es)) es=some cs'/\VL 0 (L0 w) w cs' z.2.cells/\∀y,A[i]?=some y->R y.1 z.1 z.2:=by
   intro m
   induction m with
   | zero=>exact λ_=>⟨[],rfl,λi z h=>by simp at h⟩
   | succ m ih =>
    intro hm;obtain⟨zs,E,hz⟩:=ih (by omega);obtain⟨z,hk⟩:=key m (by omega);refine⟨zs++[z],by simp[E],λi z' D=>?_⟩;by_cases hi:i<zs.length
    ·rw[List.getElem?_append_left hi] at D;exact hz i z' D
    ·rw[List.getElem?_append_right (by omega)] at D;have:i=m:=by
      have:=(lGs D).1;simp at this;omega
     subst this;rw[E,Nat.sub_self] at D;cases D;exact hk
  obtain⟨zs,E,hz⟩:=build len (Nat.le_refl _);refine⟨_,⟨false,.none,es⟩,zs.map (·.2),zs.map (·.1),rfl,vZj h0 (by simp[E]) hl (by omega) (λi x hx=>?_),Or.inr rfl,by simp,Or.inr ⟨_,_,ab,by simp[E,ae],λi y b x U hb hx=>?_⟩⟩
  ·rw[List.getElem?_map] at hx;obtain⟨z,J,rfl⟩:=Option.map_eq_some_iff.1 hx;obtain⟨cs',h1,h2,h3⟩:=hz i z J;have hi:i<A.length:=by
    have:=(lGs J).1;omega
   exact⟨hR _ _ _ (h3 _ (List.getElem?_eq_getElem hi)),cs',h1,h2⟩
  ·rw[List.getElem?_map] at hx hb U;obtain⟨z,J,rfl⟩:=Option.map_eq_some_iff.1 hx;rw[J] at hb;cases hb;obtain⟨y',ak,rfl⟩:=Option.map_eq_some_iff.1 U;obtain⟨cs',h1,h2,h3⟩:=hz i z J;exact h3 _ ak
end
end Go.Iv
namespace Go.Proofs.Tryz
open Go Go.Iv Go.ChangeShapes
open Go.Proofs.YtclkffdkahljeaaGreatDoor.Rows (uptoBulk uptoBulkAll)
set_option maxRecDepth 4000
theorem uX3:prog.underlying 34=some (.struct #[⟨ "Var",4,0,false, "", "",0⟩,⟨ "Name",9,1,false, "", "",8⟩,⟨ "Args",29,2,false, "", "",24⟩]):=by kernel_rfl
theorem uX6:prog.underlying 31=some (.struct #[⟨ "Op",5,0,false, "", "",0⟩,⟨ "Name",9,1,false, "", "",8⟩,⟨ "Args",29,2,false, "", "",24⟩,⟨ "Sub",22,3,false, "", "",48⟩]):=by kernel_rfl
theorem vJg:prog.underlying 29=some (.slice 34):=by kernel_rfl
theorem vJh:prog.underlying 22=some (.slice 31):=by kernel_rfl
theorem xYd:prog.underlying 4=some .bool:=by kernel_rfl
theorem wUb:prog.underlying 9=some .string:=by kernel_rfl
theorem uU8:prog.underlying 5=some (.int .u8):=by kernel_rfl
theorem vKn:prog.cellsOf 34=3:=by kernel_rfl
theorem vKo:prog.cellsOf 31=4:=by kernel_rfl
section
variable {H:Type}{enc:TypeId×Value->H}{w:World}{spare:Nat->Bool}{held:Bool}
theorem vKf (d:DataW H):1<=uptoBulk d:=by
 cases d with
 | lit l=>cases l<;>simp[uptoBulk]
 | nil=>simp[uptoBulk]
 | ptr d=>simp[uptoBulk]
 | slice D spare=>simp[uptoBulk]
 | agg parts=>simp[uptoBulk]
 | iface t d=>simp[uptoBulk]
 | map A=>simp[uptoBulk]
 | held h=>simp[uptoBulk]
theorem xXv {d:DataW H}:∀ {l:List (DataW H)},d∈l->uptoBulk d<=uptoBulkAll l
 | x::r,h=>by
  simp only[uptoBulkAll];cases List.mem_cons.1 h with
  | inl e=>subst e;omega
  | inr e=>have:=xXv e;omega
theorem zJy:∀(l:List (DataW H)),l.length<=uptoBulkAll l
 | []=>Nat.le_refl _
 | x::r=>by have:=vKf x;have:=zJy r;simp only[uptoBulkAll,List.length_cons];omega
theorem yG3 (A sp:List (DataW H)):uptoBulkAll A+1<=uptoBulk (.slice A sp):=by simp only[uptoBulk];omega
theorem xQn:∀ {us:List Tm}{A:List IV},us.length=A.length->(∀(i:Nat)(a:Tm)(x:IV),us[i]?=some a->A[i]?=some x->IsTm a x)->IsTms us A
 | [],A,h,_=>by simpa[IsTms] using h.symm
 | a::us,[],h,_=>by simp at h
 | a::us,x::A,h,D=>⟨x,A,rfl,D 0 a x rfl rfl,xQn (by simpa using h) (λi b y J E=>D (i+1) b y (by simpa using J) (by simpa using E))⟩
theorem xQo:∀ {us:List Fm}{A:List IV},us.length=A.length->(∀(i:Nat)(a:Fm)(x:IV),us[i]?=some a->A[i]?=some x->IsFm a x)->IsFms us A
 | [],A,h,_=>by simpa[IsFms] using h.symm
 | a::us,[],h,_=>by simp at h
 | a::us,x::A,h,D=>⟨x,A,rfl,D 0 a x rfl rfl,xQo (by simpa using h) (λi b y J E=>D (i+1) b y (by simpa using J) (by simpa using E))⟩
theorem zWx:∀ {us:List Tm}{ds:List (DataW H)},us.length=ds.length->(∀(i:Nat)(a:Tm)(d:DataW H),us[i]?=some a->ds[i]?=some d->xGx a<=uptoBulk d)->yGw us<=uptoBulkAll ds
 | [],ds,h,_=>by simp[yGw]
 | a::us,[],h,_=>by simp at h
 | a::us,x::D,h,A=>by
  have h1:=A 0 a x rfl rfl;have h2:=zWx (us:=us) (ds:=D) (by simpa using h) (λi b y J E=>A (i+1) b y (by simpa using J) (by simpa using E));simp only[yGw,uptoBulkAll];omega
theorem zWy:∀ {us:List Fm}{ds:List (DataW H)},us.length=ds.length->(∀(i:Nat)(a:Fm)(d:DataW H),us[i]?=some a->ds[i]?=some d->xGy a<=uptoBulk d)->zQk us<=uptoBulkAll ds
 | [],ds,h,_=>by simp[zQk]
 | a::us,[],h,_=>by simp at h
 | a::us,x::D,h,A=>by
  have h1:=A 0 a x rfl rfl;have h2:=zWy (us:=us) (ds:=D) (by simpa using h) (λi b y J E=>A (i+1) b y (by simpa using J) (by simpa using E));simp only[zQk,uptoBulkAll];omega
theorem wYo {n:Nat}{cs:List Value}{y:DataW H×List MemPlace}(h:DataW.trod enc prog w 0 spare held n 9 cs=some y)(E:uptoBulk y.1<=1048576) :
  ∃s:ByteArray,cs=[.string s]/\V 0 (L0 w) w (.string s) (.raw (.string s))/\s.size+1<=uptoBulk y.1:=by
 obtain⟨s,rfl,rfl,_⟩:=DataW.trod_string wUb h;have A:s.size+1=uptoBulk (DataW.lit (H:=H) (.string s.data.toList)):=by simp only[uptoBulk,ByteArray.size,Array.length_toList]
 refine⟨s,rfl,.raw _ ?_,by rw[A];exact Nat.le_refl _⟩;show s.size<=281474976710656;have D:s.size+1<=1048576:=by rw[A];exact E
 omega
def RT (d:DataW H)(t:Tm)(x:IV):Prop:=IsTm t x/\xGx t<=uptoBulk d
theorem RT.cells {d:DataW H}{t:Tm}{x:IV}(h:RT d t x):x.cells.length=3:=by
 cases t with
 | mk v n us=>obtain⟨D,A,rfl,_⟩:=IsTm.mk h.1;rfl
theorem cs3 {cs:List Value}(h:cs.length=3):∃a b c,cs=[a,b,c]:=by
 match cs,h with
 | [a,b,c],_=>exact⟨a,b,c,rfl⟩
theorem cs4 {cs:List Value}(h:cs.length=4):∃a b c d,cs=[a,b,c,d]:=by
 match cs,h with
 | [a,b,c,d],_=>exact⟨a,b,c,d,rfl⟩
theorem xKo {D:Nat}{cs:List Value}{y:DataW H×List MemPlace}(h:DataW.trod enc prog w 0 spare held D 29 cs=some y)(hb:uptoBulk y.1<=1048576)
  (IH:∀(n:Nat),n<D->∀(cs:List Value) (y:DataW H×List MemPlace),DataW.trod enc prog w 0 spare held n 34 cs=some y->uptoBulk y.1<=1048576->∃t x,VL 0 (L0 w) w cs x.cells/\RT y.1 t x) :
  ∃v U O E,cs=[v]/\V 0 (L0 w) w v (.sl U O)/\okEs U 3/\IsTms E O/\yGw E+1<=uptoBulk y.1:=by
 obtain⟨v,U,O,E,rfl,hv,aa,hl,hc⟩:=wZ3 (H:=H) (P:=prog) (d:=y.1) (p:=y.2) RT vJg vKn (by decide) h (λA sp e=>by
   have:=yG3 A sp;have:=zJy A;rw[<- e] at *;omega) (λd t x h=>h.cells) (λn hn cs' z q ⟨A,sp,he,hm⟩ hz=>by
   have:=yG3 A sp;have:=xXv hm;rw[he] at hb;exact IH n (by omega) cs' (z,q) hz (show uptoBulk z<=1048576 by omega))
 refine⟨v,U,O,E,rfl,hv,aa,?_⟩;rcases hc with⟨hd,rfl⟩|⟨A,sp,hd,aj,hr⟩
 ·obtain rfl:E=[]:=List.length_eq_zero_iff.1 (by simpa using hl);exact⟨rfl,by rw[hd];simp[yGw,uptoBulk]⟩
 ·have hi:∀(i:Nat) (a:Tm),E[i]?=some a->∃x d,O[i]?=some x/\A[i]?=some d/\RT d a x:=λi a J=>by
   have hi:=(lGs J).1;exact⟨_,_,List.getElem?_eq_getElem (by omega),List.getElem?_eq_getElem (by omega),hr i _ _ _ (List.getElem?_eq_getElem (by omega)) J (List.getElem?_eq_getElem (by omega))⟩
  refine⟨xQn hl (λi a x J hx=>?_),?_⟩
  ·obtain⟨x',d,h1,h2,h3⟩:=hi i a J;rw[hx] at h1;cases h1;exact h3.1
  ·have:=zWx (us:=E) (ds:=A) (by omega) (λi a d J ac=>by
    obtain⟨x',d',h1,h2,h3⟩:=hi i a J;rw[ac] at h2;cases h2;exact h3.2)
   have:=yG3 A sp;rw[hd];omega
theorem wUe:∀(A:Nat)(cs:List Value)(y:DataW H×List MemPlace),DataW.trod enc prog w 0 spare held A 34 cs=some y->uptoBulk y.1<=1048576->∃t x,VL 0 (L0 w) w cs x.cells/\RT y.1 t x:=by
 intro A
 induction A using Nat.strongRecOn with
 | ind A IH =>
  intro cs y h hb;obtain⟨ys,n,rfl,rfl,hl,D,J⟩:=DataW.trod_struct uX3 h
  match ys,D with
  | [y0,y1,y2],_ =>
   rw[vKn] at hl;obtain⟨c0,c1,c2,rfl⟩:=cs3 hl;have h0:=J 0 _ rfl;have h1:=J 1 _ rfl;have h2:=J 2 _ rfl;simp only[List.getElem?_cons_zero,List.getElem?_cons_succ] at h0 h1 h2;simp only[List.map_cons,List.map_nil,uptoBulk,uptoBulkAll] at hb;obtain⟨b,e0,rfl⟩:=DataW.trod_bool xYd h0;obtain⟨s,e1,hs,ab⟩:=wYo h1 (by omega);obtain⟨v,U,O,ts,e2,hv,E,hts,ac⟩:=xKo h2 (by omega) (λm hm=>IH m (by omega));cases e0;cases e1;cases e2;refine⟨.mk b s ts,.agg [.raw (.bool b),.raw (.string s),.sl U O],VL.cons (.raw _ trivial) (VL.cons hs (VL.cons hv VL.nil)),?_,?_⟩
   ·simp only[IsTm];exact⟨U,O,rfl,E,hts⟩
   ·simp only[List.map_cons,List.map_nil,uptoBulk,uptoBulkAll,xGx];omega
def RF (d:DataW H)(f:Fm)(x:IV):Prop:=IsFm f x/\xGy f<=uptoBulk d
theorem RF.cells {d:DataW H}{t:Fm}{x:IV}(h:RF d t x):x.cells.length=4:=by
 cases t with
 | mk v n us sub=>obtain⟨E,D,A,ys,rfl,_⟩:=IsFm.mk h.1;rfl
theorem zGp {D:Nat}{cs:List Value}{y:DataW H×List MemPlace}(h:DataW.trod enc prog w 0 spare held D 22 cs=some y)(hb:uptoBulk y.1<=1048576)
  (IH:∀(n:Nat),n<D->∀(cs:List Value) (y:DataW H×List MemPlace),DataW.trod enc prog w 0 spare held n 31 cs=some y->uptoBulk y.1<=1048576->∃t x,VL 0 (L0 w) w cs x.cells/\RF y.1 t x) :
  ∃v U O E,cs=[v]/\V 0 (L0 w) w v (.sl U O)/\okEs U 4/\IsFms E O/\zQk E+1<=uptoBulk y.1:=by
 obtain⟨v,U,O,E,rfl,hv,aa,hl,hc⟩:=wZ3 (H:=H) (P:=prog) (d:=y.1) (p:=y.2) RF vJh vKo (by decide) h (λA sp e=>by
   have:=yG3 A sp;have:=zJy A;rw[<- e] at *;omega) (λd t x h=>h.cells) (λn hn cs' z q ⟨A,sp,he,hm⟩ hz=>by
   have:=yG3 A sp;have:=xXv hm;rw[he] at hb;exact IH n (by omega) cs' (z,q) hz (show uptoBulk z<=1048576 by omega))
 refine⟨v,U,O,E,rfl,hv,aa,?_⟩;rcases hc with⟨hd,rfl⟩|⟨A,sp,hd,aj,hr⟩
 ·obtain rfl:E=[]:=List.length_eq_zero_iff.1 (by simpa using hl);exact⟨rfl,by rw[hd];simp[zQk,uptoBulk]⟩
 ·have hi:∀(i:Nat) (a:Fm),E[i]?=some a->∃x d,O[i]?=some x/\A[i]?=some d/\RF d a x:=λi a J=>by
   have hi:=(lGs J).1;exact⟨_,_,List.getElem?_eq_getElem (by omega),List.getElem?_eq_getElem (by omega),hr i _ _ _ (List.getElem?_eq_getElem (by omega)) J (List.getElem?_eq_getElem (by omega))⟩
  refine⟨xQo hl (λi a x J hx=>?_),?_⟩
  ·obtain⟨x',d,h1,h2,h3⟩:=hi i a J;rw[hx] at h1;cases h1;exact h3.1
  ·have:=zWy (us:=E) (ds:=A) (by omega) (λi a d J ac=>by
    obtain⟨x',d',h1,h2,h3⟩:=hi i a J;rw[ac] at h2;cases h2;exact h3.2)
   have:=yG3 A sp;rw[hd];omega
theorem wXp:∀(A:Nat)(cs:List Value)(y:DataW H×List MemPlace),DataW.trod enc prog w 0 spare held A 31 cs=some y->uptoBulk y.1<=1048576->∃t x,VL 0 (L0 w) w cs x.cells/\RF y.1 t x:=by
 intro A
 induction A using Nat.strongRecOn with
 | ind A IH =>
  intro cs y h hb;obtain⟨ys,n,rfl,rfl,hl,aa,hf⟩:=DataW.trod_struct uX6 h
  match ys,aa with
  | [y0,y1,y2,y3],_ =>
   rw[vKo] at hl;obtain⟨c0,c1,c2,c3,rfl⟩:=cs4 hl;have h0:=hf 0 _ rfl;have h1:=hf 1 _ rfl;have h2:=hf 2 _ rfl;have h3:=hf 3 _ rfl;simp only[List.getElem?_cons_zero,List.getElem?_cons_succ] at h0 h1 h2 h3;simp only[List.map_cons,List.map_nil,uptoBulk,uptoBulkAll] at hb;obtain⟨op,e0,rfl,D⟩:=DataW.trod_int uU8 h0;obtain⟨s,e1,hs,al⟩:=wYo h1 (by omega);obtain⟨v,tg,xs,ts,e2,hv,af,hts,am⟩:=xKo h2 (by omega) (λm _=>wUe m);obtain⟨v',J,E,ac,e3,ae,U,O,ai⟩:=zGp h3 (by omega) (λm hm=>IH m (by omega));cases e0;cases e1;cases e2;cases e3;have D:0<=op/\op<256:=by
    simp only[Lit.wf,IntKind.min,IntKind.max,IntKind.signed,IntKind.bits,bAt] at D;exact⟨of_decide_eq_true D.1,by have:=of_decide_eq_true D.2;simp at this;omega⟩
   obtain⟨k,rfl⟩:=Int.eq_ofNat_of_zero_le D.1;refine⟨.mk k s ts ac,.agg [.raw (.int .u8 k),.raw (.string s),.sl tg xs,.sl J E],VL.cons (.raw _ trivial) (VL.cons hs (VL.cons hv (VL.cons ae VL.nil))),?_,?_⟩
   ·simp only[IsFm];exact⟨tg,xs,J,E,rfl,by omega,af,hts,U,O⟩
   ·simp only[List.map_cons,List.map_nil,uptoBulk,uptoBulkAll,xGy];omega
end
section
variable {H:Type}{enc:TypeId×Value->H}{w:World}{spare:Nat->Bool}{held:Bool}
end
