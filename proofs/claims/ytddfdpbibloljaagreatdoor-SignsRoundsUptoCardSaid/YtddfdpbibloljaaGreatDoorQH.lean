/- From a row's reading to ideal values, pa -/
import Derived.Test.YtddfdpbibloljaaGreatDoorQG
set_option linter.all false
namespace Go.Proofs.Tryz
open Go Go.Iv Go.ChangeShapes
open Go.Proofs.YtddfdpbibloljaaGreatDoor.Rows (uptoBulk uptoBulkAll)
set_option maxRecDepth 4000
theorem uZp:prog.underlying 29=some (.struct #[⟨ "True",4,0,false, "", "",0⟩,⟨ "World",3,1,false, "", "",8⟩,⟨ "Form",27,2,false, "", "",16⟩]):=by kernel_rfl
theorem vJg:prog.underlying 32=some (.struct #[⟨ "Main",29,0,false, "", "",0⟩,⟨ "Close",4,6,false, "", "",88⟩,⟨ "World",3,7,false, "", "",96⟩,⟨ "Sub",30,8,false, "", "",104⟩]):=by kernel_rfl
theorem vJf:prog.underlying 30=some (.slice 32):=by kernel_rfl
theorem vKo:prog.cellsOf 29=6:=by kernel_rfl
theorem vKn:prog.cellsOf 32=9:=by kernel_rfl
theorem vKm:prog.cellsOf 30=1:=by kernel_rfl
section
variable {H:Type}{enc:TypeId×Value->H}{w:World}{spare:Nat->Bool}{held:Bool}
theorem vQ4 (fuel:Nat)(cs:List Value)(y:DataW H×List MemPlace)(h:DataW.trod enc prog w 0 spare held fuel 29 cs=some y)(hb:uptoBulk y.1<=1048576):∃(m:Mk) (x:IV),VL 0 (L0 w) w cs x.cells/\IsMk m x/\wFm m.f<=2*uptoBulk y.1:=by
 obtain⟨ys,n,rfl,rfl,hl,hlen,hf⟩:=DataW.trod_struct uZp h
 match ys,hlen with
 | [y0,y1,y2],_ =>
  rw[vKo] at hl
  match cs,hl with
  | [c0,c1,c2,c3,c4,c5],_ =>
   have h0:=hf 0 _ rfl;have h1:=hf 1 _ rfl;have h2:=hf 2 _ rfl;simp only[vKp,nInt,vQ0,List.drop_zero,List.drop_succ_cons,List.take_succ_cons,List.take_zero,List.getElem?_cons_zero,List.getElem?_cons_succ] at h0 h1 h2;simp only[List.map_cons,List.map_nil,uptoBulk,uptoBulkAll] at hb;obtain⟨b,e0,rfl⟩:=DataW.trod_bool xXg h0;obtain⟨i,e1,rfl,_⟩:=DataW.trod_int uInt h1;obtain⟨f,xf,hvf,hf1,hf2⟩:=zGx n _ _ h2 (by omega);cases e0;cases e1;have hf0:=hf1;obtain⟨o,fn,us,sub⟩:=f;obtain⟨ta,xa,tb,xb',rfl,_⟩:=hf1.mk;refine⟨⟨b,i,.mk o fn us sub⟩,.agg [.raw (.bool b),.raw (.int .i64 i),.raw (.int .u8 o),.raw (.string fn),.sl ta xa,.sl tb xb'],VL.cons (.raw _ trivial) (VL.cons (.raw _ trivial) hvf),⟨_,_,_,_,_,_,rfl,hf0⟩,?_⟩;have:=zYo (.mk o fn us sub);simp only[List.map_cons,List.map_nil,uptoBulk,uptoBulkAll];omega
theorem xZa:∀ {us:List Nd}{xs:List IV},us.length=xs.length->(∀(i:Nat)(a:Nd)(x:IV),us[i]?=some a->xs[i]?=some x->IsNd a x)->IsNds us xs
 | [],xs,h,_=>by simpa[IsNds] using h.symm
 | a::us,[],h,_=>by simp at h
 | a::us,x::xs,h,hh=>⟨x,xs,rfl,hh 0 a x rfl rfl,xZa (by simpa using h) (λi b y hb hy=>hh (i+1) b y (by simpa using hb) (by simpa using hy))⟩
theorem xKt:∀ {us:List Nd}{ds:List (DataW H)},us.length=ds.length->(∀(i:Nat)(a:Nd)(d:DataW H),us[i]?=some a->ds[i]?=some d->wNd a<=2*uptoBulk d)->wNds us<=2*uptoBulkAll ds
 | [],ds,h,_=>by simp[wNds]
 | a::us,[],h,_=>by simp at h
 | a::us,x::xs,h,hh=>by
  have h1:=hh 0 a x rfl rfl;have h2:=xKt (us:=us) (ds:=xs) (by simpa using h) (λi b y hb hy=>hh (i+1) b y (by simpa using hb) (by simpa using hy));simp only[wNds,uptoBulkAll];omega
def RN (d:DataW H)(t:Nd)(x:IV):Prop:=IsNd t x/\wNd t<=2*uptoBulk d
theorem RN.cells {d:DataW H}{t:Nd}{x:IV}(h:RN d t x):x.cells.length=9:=by
 obtain⟨v3,w3,o3,n3,t4,y4,t5,y5,c5,w5,t6,y6,rfl⟩:=yXp h.1;rfl
theorem wVe {fuel:Nat}{cs:List Value}{y:DataW H×List MemPlace}(h:DataW.trod enc prog w 0 spare held fuel 30 cs=some y)(hb:uptoBulk y.1<=1048576)
  (IH:∀(n:Nat),n<fuel->∀(cs:List Value) (y:DataW H×List MemPlace),DataW.trod enc prog w 0 spare held n 32 cs=some y->uptoBulk y.1<=1048576->∃t x,VL 0 (L0 w) w cs x.cells/\RN y.1 t x) :
  ∃v tg xs ts,cs=[v]/\V 0 (L0 w) w v (.sl tg xs)/\okEs tg 9/\IsNds ts xs/\wNds ts<=2*uptoBulk y.1:=by
 obtain⟨v,tg,xs,ts,rfl,hv,htg,hl,hc⟩:=zGf (H:=H) (P:=prog) (d:=y.1) (p:=y.2) RN vJf vKn (by decide) h (λelems sp e=>by
   have:=yJk elems sp;have:=yGa elems;rw[<- e] at *;omega) (λd t x h=>h.cells) (λn hn cs' z q ⟨elems,sp,he,hm⟩ hz=>by
   have:=yJk elems sp;have:=zK3 hm;rw[he] at hb;exact IH n (by omega) cs' (z,q) hz (show uptoBulk z<=1048576 by omega))
 refine⟨v,tg,xs,ts,rfl,hv,htg,?_⟩;rcases hc with⟨hd,rfl⟩|⟨elems,sp,hd,hel,hr⟩
 ·obtain rfl:ts=[]:=List.length_eq_zero_iff.1 (by simpa using hl);exact⟨rfl,by simp[wNds]⟩
 ·have hi:∀(i:Nat) (a:Nd),ts[i]?=some a->∃x d,xs[i]?=some x/\elems[i]?=some d/\RN d a x:=λi a ha=>by
   have hi:=(lGs ha).1;exact⟨_,_,List.getElem?_eq_getElem (by omega),List.getElem?_eq_getElem (by omega),hr i _ _ _ (List.getElem?_eq_getElem (by omega)) ha (List.getElem?_eq_getElem (by omega))⟩
  refine⟨xZa hl (λi a x ha hx=>?_),?_⟩
  ·obtain⟨x',d,h1,h2,h3⟩:=hi i a ha;rw[hx] at h1;cases h1;exact h3.1
  ·have:=xKt (us:=ts) (ds:=elems) (by omega) (λi a d ha hd'=>by
    obtain⟨x',d',h1,h2,h3⟩:=hi i a ha;rw[hd'] at h2;cases h2;exact h3.2)
   have:=yJk elems sp;grind
theorem cs9 {cs:List Value}(h:cs.length=9):∃a b c d e f g h i,cs=[a,b,c,d,e,f,g,h,i]:=by
 match cs,h with
 | [a,b,c,d,e,f,g,h,i],_=>exact⟨a,b,c,d,e,f,g,h,i,rfl⟩
theorem wUw:∀(fuel:Nat)(cs:List Value)(y:DataW H×List MemPlace),DataW.trod enc prog w 0 spare held fuel 32 cs=some y->uptoBulk y.1<=1048576->∃t x,VL 0 (L0 w) w cs x.cells/\RN y.1 t x:=by
 intro fuel
 induction fuel using Nat.strongRecOn with
 | ind fuel IH =>
  intro cs y h hb;obtain⟨ys,n,rfl,rfl,hl,hlen,hf⟩:=DataW.trod_struct vJg h
  match ys,hlen with
  | [y0,y1,y2,y3],_ =>
   rw[vKn] at hl;obtain⟨c0,c1,c2,c3,c4,c5,c6,c7,c8,rfl⟩:=cs9 hl;have h0:=hf 0 _ rfl;have h1:=hf 1 _ rfl;have h2:=hf 2 _ rfl;have h3:=hf 3 _ rfl;simp only[vKo,vKp,nInt,vKm,List.drop_zero,List.drop_succ_cons,List.take_succ_cons,List.take_zero,List.getElem?_cons_zero,List.getElem?_cons_succ] at h0 h1 h2 h3;simp only[List.map_cons,List.map_nil,uptoBulk,uptoBulkAll] at hb;obtain⟨m,xm,hvm,⟨o,fn,ta,xa,tb,xb,rfl,hm1⟩,hm2⟩:=vQ4 n _ _ h0 (by omega);obtain⟨c,e1,rfl⟩:=DataW.trod_bool xXg h1;obtain⟨i,e2,rfl,_⟩:=DataW.trod_int uInt h2;obtain⟨v,tg,xb',ts,e3,hv,htg,hts,hbk⟩:=wVe h3 (by omega) (λm hm=>IH m (by omega));cases e1;cases e2;cases e3;refine⟨.mk m c i ts,.agg [.raw (.bool m.is),.raw (.int .i64 m.w),.raw (.int .u8 o),.raw (.string fn),.sl ta xa,.sl tb xb,.raw (.bool c),.raw (.int .i64 i),.sl tg xb'],
    hvm.append (VL.cons (.raw _ trivial) (VL.cons (.raw _ trivial) (VL.cons hv VL.nil))),?_,?_⟩
   ·simp only[IsNd];exact⟨_,_,_,_,_,_,_,_,rfl,hm1,htg,hts⟩
   ·simp only[List.map_cons,List.map_nil,uptoBulk,uptoBulkAll,wNd];omega
theorem wVf {W:World}{base:Nat}{v:Value}{t:Nd}{x:IV}(h:Value.okWide prog W .any base 32 v)(hx:VL 0 (L0 W) W v.cells.toList x.cells)(hf:IsNd t x):V 0 (L0 W) W v x:=by
 obtain⟨cs,rfl,_⟩:=WideShapes.okWide_struct vJg h;obtain⟨_,_,_,_,_,_,_,_,_,_,_,_,rfl⟩:=yXp hf;cases cs;exact hx.agg
end
