/- Walks: right formulas. -/
import Derived.Test.YtdbmgeebmfpmpaaGreatDoorJL
set_option linter.all false
open Nat renaming reduceEqDiff → zE,reduceBEq → zB,reduceAdd → zA,reduceLeDiff → zL
namespace Go.Proofs.Tryz
open Go Go.Iv
set_option maxRecDepth 4000
def yZ8 (op:Nat):Bool:=decide (1<=op)&&decide (op<=14)
def zJh (op:Nat):Bool:=decide (1<=op)
def yX9 (op:Nat):Nat:=match op with|1=>1|8=>2|9=>2|15=>3|16=>3|_=>0
def yX4 (op:Nat):Nat:=match op with|1=>4|16=>2|_=>0
def yX3 (op:Nat):Nat:=match op with|3=>1|4=>2|5=>2|6=>2|7=>2|8=>1|9=>1|10=>1|11=>1|12=>1|13=>1|14=>2|_=>0
def rowI (op:Nat):List IV:=[.raw (.bool (yZ8 op)),.raw (.bool (zJh op)),.raw (.int .u8 (yX9 op)),.raw (.int .i64 (yX4 op)),.raw (.int .i64 (yX3 op))]
def rowsL:List IV:=(List.range 17).flatMap rowI
theorem zW0 (op:Nat)(h:op<17):op*5+5<=rowsL.length/\(rowsL.drop (op*5)).take 5=rowI op:=by
 match op,h with
 | 0,_=>exact⟨by decide,rfl⟩|1,_=>exact⟨by decide,rfl⟩|2,_=>exact⟨by decide,rfl⟩|3,_=>exact⟨by decide,rfl⟩|4,_=>exact⟨by decide,rfl⟩|5,_=>exact⟨by decide,rfl⟩
 | 6,_=>exact⟨by decide,rfl⟩|7,_=>exact⟨by decide,rfl⟩|8,_=>exact⟨by decide,rfl⟩|9,_=>exact⟨by decide,rfl⟩|10,_=>exact⟨by decide,rfl⟩|11,_=>exact⟨by decide,rfl⟩
 | 12,_=>exact⟨by decide,rfl⟩|13,_=>exact⟨by decide,rfl⟩|14,_=>exact⟨by decide,rfl⟩|15,_=>exact⟨by decide,rfl⟩|16,_=>exact⟨by decide,rfl⟩
 | k+17,h=>omega
theorem yG5 (op:Nat)(n:ByteArray)(la ls:Nat):yJq op n la ls=(((decide (op<17)&&yZ8 op)&&yJz (yX9 op) n)&&decide (la<=yX4 op)&&decide (ls=yX3 op)):=by
 match op with
 | 0=>simp[yJq,yZ8]
 | 1=>simp[yJq,yZ8,yX9,yX4,yX3,yJz]
 | 2=>simp[yJq,yZ8,yX9,yX4,yX3,yJz]
 | 3=>simp[yJq,yZ8,yX9,yX4,yX3,yJz]
 | 4=>simp[yJq,yZ8,yX9,yX4,yX3,yJz]
 | 5=>simp[yJq,yZ8,yX9,yX4,yX3,yJz]
 | 6=>simp[yJq,yZ8,yX9,yX4,yX3,yJz]
 | 7=>simp[yJq,yZ8,yX9,yX4,yX3,yJz]
 | 8=>simp[yJq,yZ8,yX9,yX4,yX3,yJz]
 | 9=>simp[yJq,yZ8,yX9,yX4,yX3,yJz]
 | 10=>simp[yJq,yZ8,yX9,yX4,yX3,yJz]
 | 11=>simp[yJq,yZ8,yX9,yX4,yX3,yJz]
 | 12=>simp[yJq,yZ8,yX9,yX4,yX3,yJz]
 | 13=>simp[yJq,yZ8,yX9,yX4,yX3,yJz]
 | 14=>simp[yJq,yZ8,yX9,yX4,yX3,yJz]
 | 15=>simp[yJq,yZ8]
 | 16=>simp[yJq,yZ8]
 | op+17=>simp[yJq,yZ8]
structure Gl (gl:Nat->Option IV):Prop where
 rows:gl 0=some (.agg rowsL)
def fmR (f:Fm)(l d dep:Int):Bool:=decide ((f.size:Int)<=l)&&decide (dep+f.deep<=d+1)&&f.ok
def fmsR (f:List Fm)(l d dep:Int):Bool:=decide ((yQb f:Int)<=l)&&decide (yZ5 f=0\/dep+yZ5 f<=d+1)&&yY0 f
theorem wWe (l d dep:Int)(h:0<=l):fmsR [] l d dep=true:=by simp[fmsR,yQb,yZ5,yY0,h]
theorem zQb (a:Fm)(m:List Fm)(l d dep:Int):fmsR (a::m) l d dep=(fmR a l d dep&&fmsR m (l-a.size) d dep):=by
 rw[Bool.eq_iff_iff];have h1:=a.deep_pos;simp only[fmsR,fmR,bAt,dTe];simp only[yQb,yZ5,yY0,bAt];constructor
 ·rintro⟨⟨h2,h3⟩,h4,h5⟩;refine⟨⟨⟨by omega,by omega⟩,h4⟩,⟨by omega,by omega⟩,h5⟩
 ·rintro⟨⟨⟨h2,h3⟩,h4⟩,⟨h5,h6⟩,h7⟩;exact⟨⟨by omega,by omega⟩,h4,h7⟩
theorem zKd (a m:List Fm)(l d dep:Int)(h0:0<=l):fmsR (a++m) l d dep=(fmsR a l d dep&&fmsR m (l-yQb a) d dep):=by
 induction a generalizing l with
 | nil =>
  rw[wWe _ _ _ h0];simp only[List.nil_append,yQb,Int.natCast_zero,Int.sub_zero,Bool.true_and]
 | cons x a ih =>
  rw[List.cons_append,zQb,zQb];by_cases hx:fmR x l d dep=true
  ·have:(x.size:Int)<=l:=by simp only[fmR,bAt,dTe] at hx;exact hx.1.1
   rw[ih _ (by omega),Bool.and_assoc];congr 3;simp only[yQb];omega
  ·rw[Bool.not_eq_true] at hx;rw[hx];rfl
theorem zQc (op:Nat)(n:ByteArray)(m:List Tm)(sub:List Fm)(l d dep:Int):fmR (.mk op n m sub) l d dep =
  ((decide (1<=l)&&decide (dep<=d))&&yJq op n m.length sub.length&&tmsR m (l-1) d (dep+1)&&fmsR sub (l-1-yQf m) d (dep+1)):=by
 rw[Bool.eq_iff_iff];simp only[fmR,tmsR,fmsR,bAt,dTe];simp only[Fm.size,Fm.deep,Fm.ok,bAt];constructor
 ·rintro⟨⟨h2,h3⟩,⟨h4,h5⟩,h6⟩;exact⟨⟨⟨⟨by omega,by omega⟩,h4⟩,⟨⟨by omega,by omega⟩,h5⟩⟩,⟨by omega,by omega⟩,h6⟩
 ·rintro⟨⟨⟨⟨h1,h2⟩,h4⟩,⟨⟨h7,h8⟩,h5⟩⟩,⟨h9,h10⟩,h6⟩;exact⟨⟨by omega,by omega⟩,⟨h4,h5⟩,h6⟩
variable (gl:Nat->Option IV)
def JF (f:Fm):Prop:=∀(x:IV) (_:IsFm f x) (b:Nat) (st:ISt) (l d dep:Int) (_:st b=jBox l d) (_:0<=l) (_:l<=9223372036854775807) (_:0<=dep) (_:dep+f.size<=4611686018427387904),
  ICall prog gl 124 [.raw (.pointer (some ⟨b,0,none⟩)),x,.raw (.int .i64 dep)] st (wXc b st l d (fmR f l d dep) f.size)
theorem xGp (G:Gl gl)(op:Nat)(n:ByteArray)(us:List Tm)(sub:List Fm)(IH:∀a∈sub,JF gl a)(x:IV)(hx:IsFm (.mk op n us sub) x)(b:Nat)(st:ISt)(l d dep:Int)(hb:st b=jBox l d)(h0:0<=l)(h1:l<=9223372036854775807)
  (h2:0<=dep) (h3:dep+(Fm.mk op n us sub).size<=4611686018427387904) :
  ICall prog gl 124 [.raw (.pointer (some ⟨b,0,none⟩)),x,.raw (.int .i64 dep)] st (wXc b st l d (fmR (.mk op n us sub) l d dep) (Fm.mk op n us sub).size):=by
 obtain⟨tg,xs,tg',ys,rfl,hop,htg,hxs,htg',hys⟩:=hx.mk;have hGr:=G.rows;refine iI func124 ?_;simp only[go_sem,zE,zA,reduceCtorEq];refine (wYp gl b _ l d dep hb h0 h1).mono ?_;rintro _ _ ⟨rfl,rfl⟩;have hret:∀r,r=false->fmR (.mk op n us sub) l d dep=r->∀l',outK (wXc b st l d (fmR (.mk op n us sub) l d dep) (Fm.mk op n us sub).size) (.raw (.bool false)) (st.put b (jBox l' d)):=by
  rintro r rfl hr l';exact yQ0 ⟨by rw[hr],l',rfl,λh=>by rw[hr] at h;cases h⟩
 cases hn:(decide (1<=l)&&decide (dep<=d))
 ·simp only[go_sem,zE];exact hret _ rfl (by simp[zQc,hn]) _
 have hn':1<=l/\dep<=d:=by simpa using hn
 have hcv:=yXz prog 5 3 vKk zVl .u8 op;have hwo:IntKind.i64.wrap (op:Int)=(op:Int):=w64 (by omega) (by omega);by_cases ho:op<17
 ·have ho':decide ((17:Int)<=(op:Int))=false:=dEf (by omega);have hcond:(0:Int)<=(op:Int):=by omega
  obtain⟨hr1,hr2⟩:=zW0 op ho;cases hrt:yZ8 op
  ·simp only[go_sem,zE,zB,zA,zL,reduceCtorEq,hcv,hwo,ho',hGr,hcond,ho,hr1,hr2,rowI,hrt,fits,ISt.put_same,jBox];exact hret _ rfl (by simp[zQc,yG5,hrt]) _
  have hnm:yX9 op<=2:=by
   simp only[yZ8,bAt,dTe] at hrt
   match op,hrt with
   | 1,_=>decide|2,_=>decide|3,_=>decide|4,_=>decide|5,_=>decide|6,_=>decide|7,_=>decide|8,_=>decide|9,_=>decide|10,_=>decide|11,_=>decide|12,_=>decide|13,_=>decide|14,_=>decide
   | 0,h=>omega
   | k+15,h=>omega
  have h16:decide ((op:Int)=16)=false:=by
   simp only[yZ8,bAt,dTe] at hrt;exact dEf (by omega)
  simp only[go_sem,zE,zB,zA,zL,hcv,hwo,ho',hGr,hcond,ho,hr1,hr2,rowI,hrt,fits];refine (wUw gl _ hnm n _).mono ?_;rintro _ _ ⟨rfl,rfl⟩;cases hnb:yJz (yX9 op) n
  ·simp only[go_sem,zE];exact hret _ rfl (by simp[zQc,yG5,hnb]) _
  by_cases hla:us.length<=yX4 op
  case neg =>
   have hla':decide (((yX4 op:Nat):Int)<((us.length:Nat):Int))=true:=dEt (by omega);simp only[go_sem,zE,zA,hxs.len,hla'];intro _;exact hret _ rfl (by simp[zQc,yG5,hla]) _
  have hla':decide (((yX4 op:Nat):Int)<((us.length:Nat):Int))=false:=dEf (by omega);by_cases hls:sub.length=yX3 op
  case neg =>
   have hls':decide (((sub.length:Nat):Int)=((yX3 op:Nat):Int))=false:=dEf (by omega);simp only[go_sem,zE,zA,hxs.len,hla',hys.len,hls'];intro _ _;exact hret _ rfl (by simp[zQc,yG5,hls]) _
  have hls':decide (((sub.length:Nat):Int)=((yX3 op:Nat):Int))=true:=dEt (by omega);have hok:yJq op n us.length sub.length=true:=by simp[yG5,hrt,hnb,hla,hls,ho]
  simp only[Fm.size] at h3;have hw:IntKind.i64.wrap (dep+1)=dep+1:=w64 (by omega) (by omega);simp only[go_sem,zE,zA,reduceCtorEq,hxs.len,hla',hys.len,hls',h16,hw];intro _ hsl;refine (xW4 gl us tg xs htg hxs b _ (l-1) d (dep+1) (ISt.put_same _ _ _) (by omega) (by omega) (by omega) (by omega)).mono ?_;rintro _ _ ⟨rfl,l',rfl,hl'⟩;cases hts:tmsR us (l-1) d (dep+1)
  ·simp only[go_sem,yQ6];exact hret _ rfl (by simp[zQc,hts]) _
  have hl2:=hl' hts;subst hl2;have hle1:(yQf us:Int)<=l-1:=by simp only[tmsR,bAt,dTe] at hts;exact hts.1.1
  simp only[go_sem,zE,hys.len,yQ6];intro _;refine LoopC.ctr sub.length (λk fr st' ds=>fmsR (sub.take k) (l-1-yQf us) d (dep+1)=true/\fr 0=.iv (.raw (.pointer (some ⟨b,0,none⟩)))/\fr 2=.iv (.raw (.int .i64 dep))/\fr 77=.iv (.sl tg' ys) /\
   fr 78=.iv (.raw (.int .i64 sub.length))/\fr 79=.iv (.raw (.int .i64 k))/\st'=st.put b (jBox (l-1-yQf us-yQb (sub.take k)) d)/\ds=[]) ?_ ?_ ?_
  ·have:l-1-(yQf us:Int)-(yQb ([]:List Fm):Int)=l-1-yQf us:=by simp[yQb]
   simp only[go_sem,zE,reduceCtorEq,this];simp[fmsR,yQb,yZ5,yY0];omega
  ·rintro k fr _ ds hlt ⟨hn2,f0,f2,f77,f78,f79,rfl,rfl⟩;obtain⟨a,ha⟩:=yQ1 hlt;obtain⟨x,hkx,hx⟩:=hys.get ha;obtain⟨hs1,hs2⟩:=yZ6 ha;obtain⟨op2,n2,us2,sub2⟩:=a;obtain⟨t1,x1,t2,x2,rfl,_⟩:=hx.mk;have hle:(yQb (sub.take k):Int)<=l-1-yQf us:=by simp only[fmsR,bAt,dTe] at hn2;exact hn2.1.1
   simp only[go_sem,zE,zA,zL,reduceCtorEq,f0,f2,f77,f78,f79,lt_i hlt,yQ4 htg',iNn,hkx,hw];refine (IH _ (lMg ha) _ hx b _ (l-1-yQf us-yQb (sub.take k)) d (dep+1) (ISt.put_same _ _ _) (by omega) (by omega) (by omega) (by omega)).mono ?_;rintro _ _ ⟨rfl,l',rfl,hl'⟩;cases hr:fmR (.mk op2 n2 us2 sub2) (l-1-yQf us-yQb (sub.take k)) d (dep+1)
   ·simp only[go_sem,yQ6];refine hret _ rfl ?_ _;have hf:fmsR sub (l-1-yQf us) d (dep+1)=false:=by
     rw[<- List.take_append_drop k sub,List.drop_eq_getElem_cons hlt];rw[zKd _ _ _ _ _ (by omega),(lGs ha).2,zQb,hr];simp
    simp[zQc,hf]
   ·have hl2:=hl' hr;subst hl2;simp only[go_sem,zE,reduceCtorEq,f0,f2,f77,f78,f79,yQd hlt (by omega),yQ6];refine⟨?_,?_⟩
    ·rw[yQ8 ha,zKd _ _ _ _ _ (by omega),hn2,zQb,hr];simp only[fmR,bAt,dTe] at hr;simp[fmsR,yQb,yZ5,yY0];omega
    ·rw[hs1];congr 2;omega
  ·rintro fr _ ds ⟨hn2,f0,f2,f77,f78,f79,rfl,rfl⟩;simp only[go_sem,f78,f79,yQl (nLi _)];rw[lTl] at hn2;refine yQ0 ⟨by simp[zQc,hn,hok,hts,hn2],_,rfl,?_⟩;intro _;rw[lTl];simp only[Fm.size];omega
 ·have ho':decide ((17:Int)<=(op:Int))=true:=dEt (by omega);simp only[go_sem,zE,zA,hcv,hwo,ho'];exact hret _ rfl (by simp[zQc,yG5,ho]) _
theorem xQi (G:Gl gl):∀(k:Nat) (f:Fm),SizeOf.sizeOf f<k->JF gl f
 | 0,f,h=>by omega
 | k+1,.mk op n us sub,h=>λx hx b st l d dep=>xGp gl G op n us sub (λa ha=>xQi G k a (by
   have:=lSm ha;simp at h;omega)) x hx b st l d dep
theorem vQc (G:Gl gl)(f:Fm):JF gl f:=xQi gl G _ f (Nat.lt_succ_self _)
end Go.Proofs.Tryz
namespace Go.Proofs.Tryz
open Go Go.Iv
set_option maxRecDepth 4000
variable (gl:Nat->Option IV)
theorem wGl (t:Tm)(x:IV)(hx:IsTm t x)(hs:t.size<=1000000)(st:ISt):ICall prog gl 112 [x] st (λx st'=>x=.raw (.bool t.ok)/\st'=st):=by
 obtain⟨v,n,us⟩:=t;obtain⟨tg,xs,rfl,_⟩:=hx.mk;refine ICall.intro (c:=cf prog gl [3] []) func112 rfl (by show _<=7;simp) (by kernel_rfl) ?_;simp only[go_sem,zE,zA,zL,Nat.reduceLeDiff];refine λb=>yQ9 λhb=>?_;simp only[go_sem,yQ6];refine (wXb gl v n us _ hx b _ 9223372036854775807 9223372036854775807 1 (ISt.put_same _ _ _) (by omega) (by omega) (by omega) (by omega)).mono ?_;rintro _ _ ⟨rfl,l',rfl,_⟩;simp only[go_sem];have hd:=Tm.deep_le (.mk v n us);refine yQg (st':=st) ?_ ⟨?_,rfl⟩
 ·intro c o hc;rw[ISt.put_apply,ISt.put_apply];split
  ·rename_i h;rw[h,hb] at hc;cases hc
  ·exact hc
 ·simp only[tmR];rw[dEt (by omega),dEt (by omega)];simp
theorem zV7 (G:Gl gl)(f:Fm)(x:IV)(hx:IsFm f x)(st:ISt)(hs:f.size<=1000000):ICall prog gl 95 [x] st (λx st'=>x=.raw (.bool f.right)/\st'=st):=by
 obtain⟨op,n,us,sub⟩:=f;obtain⟨tg,xs,tg',ys,rfl,_⟩:=hx.mk;refine ICall.intro (c:=cf prog gl [3] []) func95 rfl (by show _<=7;simp) (by kernel_rfl) ?_;simp only[go_sem,zE,zA,zL,Nat.reduceLeDiff];refine λb=>yQ9 λhb=>?_;simp only[go_sem,yQ6];refine (vQc gl G _ _ hx b _ 400 40 1 (ISt.put_same _ _ _) (by omega) (by omega) (by omega) (by omega)).mono ?_;rintro _ _ ⟨rfl,l',rfl,_⟩;simp only[go_sem];refine yQg (st':=st) ?_ ⟨?_,rfl⟩
 ·intro c o hc;rw[ISt.put_apply,ISt.put_apply];split
  ·rename_i h;rw[h,hb] at hc;cases hc
  ·exact hc
 ·congr 2;rw[Bool.eq_iff_iff];simp only[fmR,Fm.right,bAt,dTe];constructor
  ·rintro⟨⟨h1,h2⟩,h3⟩;exact⟨⟨h3,by omega⟩,by omega⟩
  ·rintro⟨⟨h3,h1⟩,h2⟩;exact⟨⟨by omega,by omega⟩,h3⟩
