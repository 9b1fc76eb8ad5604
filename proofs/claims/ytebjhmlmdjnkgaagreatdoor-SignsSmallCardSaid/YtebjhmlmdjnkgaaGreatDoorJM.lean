/-  -/
import Derived.Test.YtebjhmlmdjnkgaaGreatDoorJL
set_option linter.all false
open Nat renaming reduceEqDiff → zE,reduceBEq → zB,reduceAdd → zA,reduceMul → zM,reduceSub → zS,reduceLeDiff → zL
namespace Go.Proofs.Tryz
open Go Go.Iv
set_option maxRecDepth 4000
def yG6 (op:Nat):Bool:=decide (1<=op)&&decide (op<=14)
def zXx (op:Nat):Bool:=decide (1<=op)
def yGu (op:Nat):Nat:=match op with|1=>1|8=>2|9=>2|15=>3|16=>3|_=>0
def zWl (op:Nat):Nat:=match op with|1=>4|16=>2|_=>0
def yYg (op:Nat):Nat:=match op with|3=>1|4=>2|5=>2|6=>2|7=>2|8=>1|9=>1|10=>1|11=>1|12=>1|13=>1|14=>2|_=>0
def rowI (op:Nat):List IV:=[.raw (.bool (yG6 op)),.raw (.bool (zXx op)),.raw (.int .u8 (yGu op)),.raw (.int .i64 (zWl op)),.raw (.int .i64 (yYg op))]
def rowsL:List IV:=(List.range 17).flatMap rowI
theorem xW9:∀op:Nat,op<=7->op*5+5<=rowsL.length/\(rowsL.drop (op*5)).take 5=rowI op
 | 0,_|1,_|2,_|3,_|4,_|5,_|6,_|7,_=>⟨by decide,rfl⟩
 | k+8,h=>by omega
theorem zZv (op:Nat)(n:ByteArray)(ls:Nat)(h:op<=7):yUc op n 0 ls=(yG6 op&&xKj (yGu op) n&&decide (ls=yYg op)):=by
 match op,h with
 | 0,_|1,_|2,_|3,_|4,_|5,_|6,_|7,_=>simp[yUc,yG6,yGu,yYg,xKj]
 | k+8,h=>omega
structure Gl (gl:Nat->Option IV):Prop where
 rows:gl 0=some (.agg rowsL)
def fmR (f:Fm)(l d dep:Int):Bool:=decide ((f.size:Int)<=l)&&decide (dep+f.deep<=d+1)&&f.ok
def fmsR (f:List Fm)(l d dep:Int):Bool:=decide ((yQ7 f:Int)<=l)&&decide (yZe f=0\/dep+yZe f<=d+1)&&yKc f
theorem wKc (l d dep:Int)(h:0<=l):fmsR [] l d dep=true:=by simp[fmsR,yQ7,yZe,yKc,h]
theorem yUp (a:Fm)(m:List Fm)(l d dep:Int):fmsR (a::m) l d dep=(fmR a l d dep&&fmsR m (l-a.size) d dep):=by
 rw[Bool.eq_iff_iff];have h1:=a.deep_pos;simp only[fmsR,fmR,bAt,dTe];simp only[yQ7,yZe,yKc,bAt];constructor
 ·rintro⟨⟨h2,h3⟩,h4,h5⟩;refine⟨⟨⟨by omega,by omega⟩,h4⟩,⟨by omega,by omega⟩,h5⟩
 ·rintro⟨⟨⟨h2,h3⟩,h4⟩,⟨h5,h6⟩,h7⟩;exact⟨⟨by omega,by omega⟩,h4,h7⟩
theorem zJr (a m:List Fm)(l d dep:Int)(h0:0<=l):fmsR (a++m) l d dep=(fmsR a l d dep&&fmsR m (l-yQ7 a) d dep):=by
 induction a generalizing l with
 | nil =>
  rw[wKc _ _ _ h0];simp only[List.nil_append,yQ7,Int.natCast_zero,Int.sub_zero,Bool.true_and]
 | cons x a ih =>
  rw[List.cons_append,yUp,yUp];by_cases hx:fmR x l d dep=true
  ·have:(x.size:Int)<=l:=by simp only[fmR,bAt,dTe] at hx;exact hx.1.1
   rw[ih _ (by omega),Bool.and_assoc];congr 3;simp only[yQ7];omega
  ·rw[Bool.not_eq_true] at hx;rw[hx];rfl
theorem zVt (op:Nat)(n:ByteArray)(sub:List Fm)(l d dep:Int):fmR (.mk op n [] sub) l d dep =
  ((decide (1<=l)&&decide (dep<=d))&&yUc op n 0 sub.length&&fmsR sub (l-1) d (dep+1)):=by
 rw[Bool.eq_iff_iff];simp only[fmR,fmsR,bAt,dTe];simp only[Fm.size,Fm.deep,Fm.ok,yQy,yWu,xZn,List.length_nil,Bool.and_true,bAt];constructor
 ·rintro⟨⟨h2,h3⟩,h4,h6⟩;exact⟨⟨⟨by omega,by omega⟩,h4⟩,⟨by omega,by omega⟩,h6⟩
 ·rintro⟨⟨⟨h1,h2⟩,h4⟩,⟨h9,h10⟩,h6⟩;exact⟨⟨by omega,by omega⟩,h4,h6⟩
variable (gl:Nat->Option IV)
def JF (f:Fm):Prop:=∀(x:IV) (_:IsFm f x) (b:Nat) (st:ISt) (l d dep:Int) (_:st b=jBox l d) (_:0<=l) (_:l<=9223372036854775807) (_:0<=dep) (_:dep+f.size<=4611686018427387904),
  ICall prog gl 144 [.raw (.pointer (some ⟨b,0,none⟩)),x,.raw (.int .i64 dep)] st (vK2 b st l d (fmR f l d dep) f.size)
theorem xWs (G:Gl gl)(op:Nat)(n:ByteArray)(us:List Tm)(sub:List Fm)(IH:∀a∈sub,JF gl a):JF gl (.mk op n us sub):=by
 intro x hx b st l d dep hb h0 h1 h2 h3;obtain⟨tg,xs,tg',ys,rfl,ho,htg,hxs,htg',hys⟩:=hx.mk;obtain⟨rfl,rfl⟩:=hxs.z;have hGr:=G.rows;refine iI func144 ?_;simp only[go_sem,zE,zB,zA,zM,zS,zL,reduceCtorEq];refine (vJl gl b _ l d dep hb h0 h1).mono ?_;rintro _ _ ⟨rfl,rfl⟩;have hret:∀r,r=false->fmR (.mk op n [] sub) l d dep=r->∀l',outK (vK2 b st l d (fmR (.mk op n [] sub) l d dep) (Fm.mk op n [] sub).size) (.raw (.bool false)) (st.put b (jBox l' d)):=by
  rintro r rfl hr l';exact yQ0 ⟨by rw[hr],l',rfl,λh=>by rw[hr] at h;cases h⟩
 cases hn:(decide (1<=l)&&decide (dep<=d))
 ·simp only[go_sem,zE,zB,zA,zM,zS,zL,reduceCtorEq];exact hret _ rfl (by simp[zVt,hn]) _
 have hn':1<=l/\dep<=d:=by simpa using hn
 have hcv:=zJw prog 5 3 wUu wUv .u8 op;have hwo:IntKind.i64.wrap (op:Int)=(op:Int):=w64 (by omega) (by omega);have ho':decide ((17:Int)<=(op:Int))=false:=dEf (by omega);have hcond:(0:Int)<=(op:Int):=by omega
 have ho17:op<17:=by omega
 obtain⟨hr1,hr2⟩:=xW9 op ho;cases hrt:yG6 op
 ·simp only[go_sem,zE,zB,zA,zM,zS,zL,reduceCtorEq,hcv,hwo,ho',hGr,hcond,ho17,hr1,hr2,rowI,hrt,fits,ISt.put_same,jBox];exact hret _ rfl (by simp[zVt,zZv _ _ _ ho,hrt]) _
 have hnm:yGu op<=1:=by
  match op,ho with
  | 0,_|1,_|2,_|3,_|4,_|5,_|6,_|7,_=>decide
  | k+8,h=>omega
 have h16:decide ((op:Int)=16)=false:=dEf (by omega);simp only[go_sem,zE,zB,zA,zM,zS,zL,reduceCtorEq,hcv,hwo,ho',hGr,hcond,ho17,hr1,hr2,rowI,hrt,fits];refine (wUb gl _ hnm n _).mono ?_;rintro _ _ ⟨rfl,rfl⟩;cases hnb:xKj (yGu op) n
 ·simp only[go_sem,zE,zB,zA,zM,zS,zL,reduceCtorEq];exact hret _ rfl (by simp[zVt,zZv _ _ _ ho,hnb]) _
 have hla':decide (((zWl op:Nat):Int)<((0:Nat):Int))=false:=dEf (by omega);by_cases hls:sub.length=yYg op
 case neg =>
  have hls':decide (((sub.length:Nat):Int)=((yYg op:Nat):Int))=false:=dEf (by omega);simp only[go_sem,zE,zB,zA,zM,zS,zL,reduceCtorEq,List.length_nil,hla',hys.len,hls'];intros;exact hret _ rfl (by simp[zVt,zZv _ _ _ ho,hls]) _
 have hls':decide (((sub.length:Nat):Int)=((yYg op:Nat):Int))=true:=dEt (by omega);have hok:yUc op n 0 sub.length=true:=by simp[zZv _ _ _ ho,hrt,hnb,hls]
 simp only[Fm.size,yQy] at h3;have hw:IntKind.i64.wrap (dep+1)=dep+1:=w64 (by omega) (by omega);simp only[go_sem,zE,zB,zA,zM,zS,zL,reduceCtorEq,List.length_nil,hla',hys.len,hls',h16,hw];intros;refine (wK6 gl b tg _ (dep+1)).mono ?_;rintro _ _ ⟨rfl,rfl⟩;simp only[go_sem,zE,zB,zA,zM,zS,zL,reduceCtorEq,hys.len,yQh];intros;refine LoopC.ctr sub.length (λk fr st' ds=>fmsR (sub.take k) (l-1) d (dep+1)=true/\fr 0=.iv (.raw (.pointer (some ⟨b,0,none⟩)))/\fr 2=.iv (.raw (.int .i64 dep))/\fr 77=.iv (.sl tg' ys) /\
  fr 78=.iv (.raw (.int .i64 sub.length))/\fr 79=.iv (.raw (.int .i64 k))/\st'=st.put b (jBox (l-1-yQ7 (sub.take k)) d)/\ds=[]) ?_ ?_ ?_
 ·have:l-1-(yQ7 ([]:List Fm):Int)=l-1:=by simp[yQ7]
  simp only[go_sem,zE,zB,zA,zM,zS,zL,reduceCtorEq,this];simp[fmsR,yQ7,yZe,yKc];omega
 ·rintro k fr _ ds hlt ⟨hn2,f0,f2,f77,f78,f79,rfl,rfl⟩;obtain⟨a,ha⟩:=yQ3 hlt;obtain⟨x,hkx,hx⟩:=hys.get ha;obtain⟨hs1,hs2⟩:=yZ5 ha;have hcall:=IH a (lMg ha) x hx;obtain⟨op2,n2,us2,sub2⟩:=a;obtain⟨t1,x1,t2,x2,rfl,_⟩:=hx.mk;have hle:(yQ7 (sub.take k):Int)<=l-1:=by simp only[fmsR,bAt,dTe] at hn2;exact hn2.1.1
  simp only[go_sem,zE,zB,zA,zM,zS,zL,reduceCtorEq,f0,f2,f77,f78,f79,lt_i hlt,yQ2 htg',iNn,hkx,yQa hlt (by omega),hw];refine (hcall b _ (l-1-yQ7 (sub.take k)) d (dep+1) (ISt.put_same _ _ _) (by omega) (by omega) (by omega) (by omega)).mono ?_;rintro _ _ ⟨rfl,l',rfl,hl'⟩;cases hr:fmR (.mk op2 n2 us2 sub2) (l-1-yQ7 (sub.take k)) d (dep+1)
  ·simp only[go_sem,zE,zB,zA,zM,zS,zL,reduceCtorEq,yQh];refine hret _ rfl ?_ _;have hf:fmsR sub (l-1) d (dep+1)=false:=by
    rw[<- List.take_append_drop k sub,List.drop_eq_getElem_cons hlt];rw[zJr _ _ _ _ _ (by omega),(lGs ha).2,yUp,hr];simp
   simp[zVt,hf]
  ·have hl2:=hl' hr;subst hl2;simp only[go_sem,zE,zB,zA,zM,zS,zL,reduceCtorEq,f0,f2,f77,f78,f79,yQa hlt (by omega),yQh];refine⟨?_,?_⟩
   ·rw[yQ8 ha,zJr _ _ _ _ _ (by omega),hn2,yUp,hr];simp only[fmR,bAt,dTe] at hr;simp[fmsR,yQ7,yZe,yKc];omega
   ·rw[hs1];congr 2;omega
 ·rintro fr _ ds ⟨hn2,f0,f2,f77,f78,f79,rfl,rfl⟩;simp only[go_sem,zE,zB,zA,zM,zS,zL,reduceCtorEq,f78,f79,yQk (nLi _)];rw[lTl] at hn2;refine yQ0 ⟨by simp[zVt,hn,hok,hn2],_,rfl,?_⟩;intros;rw[lTl];simp only[Fm.size,yQy];omega
theorem zUu (G:Gl gl):∀(k:Nat) (f:Fm),SizeOf.sizeOf f<k->JF gl f
 | 0,f,h=>by omega
 | k+1,.mk op n us sub,h=>xWs gl G op n us sub (λa ha=>zUu G k a (by
   have:=lSm ha;simp at h;omega))
theorem wUt (G:Gl gl)(f:Fm):JF gl f:=zUu gl G _ f (Nat.lt_succ_self _)
end Go.Proofs.Tryz
namespace Go.Proofs.Tryz
open Go Go.Iv
set_option maxRecDepth 4000
variable (gl:Nat->Option IV)
theorem zYt (G:Gl gl)(f:Fm)(x:IV)(hx:IsFm f x)(st:ISt)(hs:f.size<=1000000):ICall prog gl 90 [x] st (λx st'=>x=.raw (.bool f.right)/\st'=st):=by
 obtain⟨op,n,us,sub⟩:=f;obtain⟨tg,xs,tg',ys,rfl,_⟩:=hx.mk;refine ICall.intro (c:=cf prog gl [3] []) func90 rfl (by show _<=7;simp) (by kernel_rfl) ?_;simp only[go_sem,zE,zA,zL,Nat.reduceLeDiff];refine λb=>yQf λhb=>?_;simp only[go_sem,yQh];refine (wUt gl G _ _ hx b _ 400 40 1 (ISt.put_same _ _ _) (by omega) (by omega) (by omega) (by omega)).mono ?_;rintro _ _ ⟨rfl,l',rfl,_⟩;simp only[go_sem];refine yQb (st':=st) ?_ ⟨?_,rfl⟩
 ·intro c o hc;rw[ISt.put_apply,ISt.put_apply];split
  ·rename_i h;rw[h,hb] at hc;cases hc
  ·exact hc
 ·congr 2;rw[Bool.eq_iff_iff];simp only[fmR,Fm.right,bAt,dTe];constructor
  ·rintro⟨⟨h1,h2⟩,h3⟩;exact⟨⟨h3,by omega⟩,by omega⟩
  ·rintro⟨⟨h3,h1⟩,h2⟩;exact⟨⟨by omega,by omega⟩,h3⟩
