/-  -/
import Derived.Test.YtebjhmlmdjnkgaaGreatDoorKF
set_option linter.all false
open Nat renaming reduceEqDiff → zE,reduceBEq → zB,reduceAdd → zA,reduceMul → zM,reduceSub → zS,reduceLeDiff → zL
namespace Go.Proofs.Tryz
open Go Go.Iv
set_option maxRecDepth 4000
variable (gl:Nat->Option IV)
theorem xWa (s:ByteArray)(st:ISt):ICall prog gl 316 [.raw (.string s)] st (λx st'=>x=.raw (.bool (yJk s))/\st'=st):=by
 refine iI func316 ?_;simp only[go_sem,zA,zL,reduceCtorEq];refine yJ4 (λh=>?_) (λh=>?_)
 ·simp only[go_sem,h];exact yQ0 ⟨by rw[show s=wAll from of_decide_eq_true h];rfl,rfl⟩
 have h1:s≠wAll:=of_decide_eq_false h;simp only[go_sem,zE,zA,zL,h];refine yJ4 (λh=>?_) (λh=>?_)
 ·simp only[go_sem,h];exact yQ0 ⟨by rw[show s=xYj from of_decide_eq_true h];rfl,rfl⟩
 have h2:s≠xYj:=of_decide_eq_false h;simp only[go_sem,zE,zA,zL,h];refine yJ4 (λh=>?_) (λh=>?_)
 ·simp only[go_sem,h];exact yQ0 ⟨by rw[show s=zG8 from of_decide_eq_true h];rfl,rfl⟩
 have h3:s≠zG8:=of_decide_eq_false h;simp only[go_sem,zE,zA,zL,h];refine yJ4 (λh=>?_) (λh=>?_)
 ·simp only[go_sem,h];exact yQ0 ⟨by rw[show s=xYk from of_decide_eq_true h];rfl,rfl⟩
 have h4:s≠xYk:=of_decide_eq_false h;simp only[go_sem,zE,zA,zL,h];refine yJ4 (λh=>?_) (λh=>?_)
 ·simp only[go_sem,h];exact yQ0 ⟨by rw[show s=zXh from of_decide_eq_true h];rfl,rfl⟩
 have h5:s≠zXh:=of_decide_eq_false h;simp only[go_sem,zE,zA,zL,h];refine yJ4 (λh=>?_) (λh=>?_)
 ·simp only[go_sem,h];exact yQ0 ⟨by rw[show s=zG7 from of_decide_eq_true h];rfl,rfl⟩
 have h6:s≠zG7:=of_decide_eq_false h;simp only[go_sem,h];exact yQ0 ⟨by rw[show yJk s=false by unfold yJk;rw[dEf h1,dEf h2,dEf h3,dEf h4,dEf h5,dEf h6];rfl],rfl⟩
theorem zXu (s:ByteArray):s.size=s.data.toList.length:=Array.length_toList.symm
theorem zWb {s:ByteArray}{k:Nat}{c:UInt8}(h:s.data.toList[k]?=some c):zGi s (k:Int)=some c:=by
 unfold zGi;rw[if_pos (by omega)];have hk:k<s.size:=by rw[zXu];exact (lGs h).1
 rw[Int.toNat_natCast];rw[getElem?_pos s k hk];have h2:=(lGs h).2;rw[<- h2];rfl
theorem zKx {s:ByteArray}{c:UInt8}{cs:List UInt8}(h:s.data.toList=c::cs):zGi s 0=some c:=zWb (k:=0) (by rw[h];rfl)
theorem xY2 (p q:FuncId)(P Q:UInt8->Bool)(ep:entI prog p=true)(eq:entI prog q=true)
  (hp:∀c st,ICall prog gl p [.raw (.int .u8 (UInt8.toNat c))] st (λx st'=>x=.raw (.bool (P c))/\st'=st))
  (hq:∀c st,ICall prog gl q [.raw (.int .u8 (UInt8.toNat c))] st (λx st'=>x=.raw (.bool (Q c))/\st'=st)) (s:ByteArray) (st:ISt) :
  ICall prog gl 315 [.raw (.string s),.cptr (.fn (.func p) [] []),.cptr (.fn (.func q) [] [])] st (λx st'=>x=.raw (.bool (yVi P Q s))/\st'=st):=by
 refine iI func315 ?_;have hsz:=zXu s;cases hl:s.data.toList with
 | nil =>
  rw[hl] at hsz;have h1:decide (((s.size:Nat):Int)<1)=true:=by rw[hsz];rfl
  simp only[go_sem,zE,reduceCtorEq,h1];exact yQ0 ⟨by simp[yVi,hl],rfl⟩
 | cons c cs =>
  rw[hl] at hsz;have h1:decide (((s.size:Nat):Int)<1)=false:=by rw[hsz];simp;omega
  by_cases h16:cs.length<16
  ·have h2:decide ((16:Int)<((s.size:Nat):Int))=false:=by rw[hsz];simp;omega
   simp only[go_sem,zE,zA,reduceCtorEq,h1,h2];refine (xWa gl s _).mono ?_;rintro _ st ⟨rfl,rfl⟩;cases h3:yJk s
   ·simp only[go_sem,zE,reduceCtorEq,zKx hl,fits,ep];refine (hp c _).mono ?_;rintro _ st ⟨rfl,rfl⟩;cases h4:P c
    ·simp only[go_sem,zE];exact yQ0 ⟨by simp[yVi,hl,h4],rfl⟩
    ·simp only[go_sem,zE];refine LoopC.ctr cs.length (λk fr st' ds=>(cs.take k).all Q=true/\fr 0=.iv (.raw (.string s))/\fr 2=.iv (.cptr (.fn (.func q) [] []))/\fr 5=.iv (.raw (.int .i64 ((k+1:Nat):Int)))/\st'=st/\ds=[]) ?_ ?_ ?_
     ·simp only[go_sem,zE,reduceCtorEq];rfl
     ·rintro k fr st' ds hlt ⟨hn,h0,h2',h5,rfl,rfl⟩;obtain⟨x,hx⟩:=yQ3 hlt;have hlt':decide (((k+1:Nat):Int)<((s.size:Nat):Int))=true:=by rw[hsz];simp;omega
      have hx':zGi s ((k+1:Nat):Int)=some x:=zWb (by rw[hl];simpa using hx);have hw:IntKind.i64.wrap (((k+1:Nat):Int)+1)=((k+1+1:Nat):Int):=by rw[w64]<;>omega
      simp only[go_sem,zE,reduceCtorEq,h0,h2',h5,hlt',hx',fits,eq];intro _;refine (hq x _).mono ?_;rintro _ st ⟨rfl,rfl⟩;cases h6:Q x
      ·simp only[go_sem];exact yQ0 ⟨by
        have:cs.all Q=false:=by rw[List.all_eq_false];exact⟨x,lMg hx,by simp[h6]⟩
        simp[yVi,hl,this],rfl⟩
      ·simp only[go_sem,zE,reduceCtorEq,h0,h2',h5,hw];rw[yQ8 hx,List.all_append,hn];simp[h6]
     ·rintro fr st' ds ⟨hn,h0,h2',h5,rfl,rfl⟩;have hlt':decide (((cs.length+1:Nat):Int)<((s.size:Nat):Int))=false:=by rw[hsz];simp
      simp only[go_sem,zE,reduceCtorEq,h0,h5,hlt'];intro _;rw[lTl] at hn;exact yQ0 ⟨by simp[yVi,hl,h3,h4,h16,hn],rfl⟩
   ·simp only[go_sem,zE];exact yQ0 ⟨by simp[yVi,hl,h3],rfl⟩
  ·have h2:decide ((16:Int)<((s.size:Nat):Int))=true:=by rw[hsz];simp;omega
   simp only[go_sem,zE,reduceCtorEq,h1,h2];exact yQ0 ⟨by simp[yVi,hl,h16],rfl⟩
theorem wZ5 (p q:FuncId)(st:ISt):ICall prog gl 276 [.fn (.func p) [] [],.fn (.func q) [] []] st
  (λx st'=>x=.fn (.func 315) [] [.cptr (.fn (.func p) [] []),.cptr (.fn (.func q) [] [])]/\st'=st):=by
 refine ICall.intro (c:=cf prog gl [] [] [2,3]) func276 rfl (by show _<=6;simp) (by kernel_rfl) ?_;simp only[go_sem,zE];exact yQ0 ⟨rfl,rfl⟩
theorem xXq (s:ByteArray)(st:ISt):ICall prog gl 252 [.raw (.string s)] st (λx st'=>x=.raw (.bool (zJ7 s))/\st'=st):=by
 refine iI func252 ?_;simp only[go_sem,zA];refine (wZ5 gl _ _ _).mono ?_;rintro _ st ⟨rfl,rfl⟩;simp only[go_sem,zE,reduceCtorEq];refine (xY2 gl _ _ yJ2 yWq (by simp only[go_sem]) (by simp only[go_sem]) (xQc gl) (vQt gl) s _).mono ?_;rintro _ st ⟨rfl,rfl⟩;simp only[go_sem];exact yQ0 ⟨rfl,rfl⟩
def xKj (k:Nat)(s:ByteArray):Bool:=match k with|1=>zJ7 s|_=>decide (s=⟨#[]⟩)
theorem wUb (k:Nat)(hk:k<=1)(s:ByteArray)(st:ISt):ICall prog gl 214 [.raw (.int .u8 k),.raw (.string s)] st (λx st'=>x=.raw (.bool (xKj k s))/\st'=st):=by
 refine iI func214 ?_
 match k,hk with
 | 0,_ =>
  simp only[go_sem,zE,zB,zA,zM,zS,zL,reduceCtorEq,show decide (((0:Nat):Int)=1)=false from rfl,show decide (((0:Nat):Int)=2)=false from rfl,show decide (((0:Nat):Int)=3)=false from rfl];exact yQ0 ⟨rfl,rfl⟩
 | 1,_ =>
  simp only[go_sem,zE,zB,zA,zM,zS,zL,reduceCtorEq,show decide (((1:Nat):Int)=1)=true from rfl];refine (xXq gl s _).mono ?_;rintro _ st ⟨rfl,rfl⟩;simp only[go_sem,zE,zB,zA,zM,zS,zL,reduceCtorEq];exact yQ0 ⟨rfl,rfl⟩
def jBox (l d:Int):Option IObj:=some (.box [.raw (.bool false),.raw (.int .i64 l),.raw (.int .i64 d)])
theorem vJl (b:Nat)(st:ISt)(l d dep:Int)(hb:st b=jBox l d)(h0:0<=l)(h1:l<=9223372036854775807) :
  ICall prog gl 213 [.raw (.pointer (some ⟨b,0,none⟩)),.raw (.int .i64 dep)] st (λx st'=>x=.raw (.bool (decide (1<=l)&&decide (dep<=d)))/\st'=st.put b (jBox (l-1) d)):=by
 refine iI func213 ?_;have hw:IntKind.i64.wrap (l-1)=l-1:=w64 (by omega) (by omega);simp only[go_sem,zE,zA,zL,reduceCtorEq,hb,jBox,hw];refine yVk (λh=>?_) (λh=>?_)
 ·have h':1<=l:=by simp at h;omega
  simp only[go_sem,zE,zA,reduceCtorEq];exact yQ0 ⟨by simp[h'],rfl⟩
 ·have h':¬ 1<=l:=by simp at h;omega
  simp only[go_sem,zE,zA];exact yQ0 ⟨by simp[h'],rfl⟩
def vK2 (b:Nat)(st:ISt)(l d:Int)(r:Bool)(sz:Nat)(x:IV)(st':ISt):Prop:=x=.raw (.bool r)/\∃l',st'=st.put b (jBox l' d)/\(r=true->l'=l-sz)
theorem wK6 (b:Nat)(tg:Tag)(st:ISt)(dep:Int) :
  ICall prog gl 216 [.raw (.pointer (some ⟨b,0,none⟩)),.sl tg [],.raw (.int .i64 dep)] st (λx st'=>x=.raw (.bool true)/\st'=st):=by
 refine iI func216 ?_;simp only[go_sem,zE,zB,zA,zM,zS,zL,reduceCtorEq,List.length_nil];intros;refine LoopC.ctr 0 (λk fr st' ds=>fr 10=.iv (.raw (.int .i64 (0:Nat)))/\fr 11=.iv (.raw (.int .i64 k))/\st'=st/\ds=[]) ?_ ?_ ?_
 ·simp only[go_sem,zE,zB,zA,zM,zS,zL,reduceCtorEq]
  first|rfl|exact⟨rfl,rfl⟩
 ·rintro k fr _ ds hlt;omega
 ·rintro fr _ ds ⟨f10,f11,rfl,rfl⟩;simp only[go_sem,zE,zB,zA,zM,zS,zL,reduceCtorEq,f10,f11,yQk (nLi _)];exact yQ0 ⟨rfl,rfl⟩
