/-  -/
import Derived.Test.YtebjhmlmdjnkgaaGreatDoorJU
import Derived.Test.YtebjhmlmdjnkgaaGreatDoorJM
set_option linter.all false
open Nat renaming reduceEqDiff → zE,reduceBEq → zB,reduceAdd → zA,reduceMul → zM,reduceSub → zS,reduceLeDiff → zL
namespace Go.Proofs.Tryz
open Go Go.Iv
set_option maxRecDepth 4000
variable (gl:Nat->Option IV)
theorem zZ0 (op:Nat)(ho:op<=7)(n:ByteArray)(t t':Tag)(xs ys:List IV)(st:ISt) :
  ICall prog gl 288 [.agg [.raw (.int .u8 op),.raw (.string n),.sl t xs,.sl t' ys]] st (λx st'=>x=.raw (.bool false)/\st'=st):=by
 refine iI func288 ?_;simp only[go_sem,zE,zB,zA,zM,zS,zL,reduceCtorEq,show decide ((op:Int)=8)=false from dEf (by omega),show decide ((op:Int)=9)=false from dEf (by omega)];exact yQ0 ⟨rfl,rfl⟩
theorem yQ1 (x:Operand):yZk 1 [(0,x)]=true:=rfl
theorem yQj:∀l:List Fm,l.length<=yQ7 l
 | []=>Nat.le_refl _
 | a::l=>by have:=a.size_pos;have:=yQj l;simp only[List.length_cons,yQ7];omega
def AK (f:Fm):Prop:=∀(g:Fm) (_:f.size<=1099511627776) (x y:IV) (_:IsFm f x) (_:IsFm g y) (st:ISt),
 ICall prog gl 330 [x,y,.sl ⟨true,.nil,0⟩ []] st (λr st'=>r=.raw (.bool (eqB f g))/\st'=st)
theorem xYa (op:Nat)(n:ByteArray)(us:List Tm)(sub:List Fm)(IH:∀a∈sub,AK gl a):AK gl (.mk op n us sub):=by
 rintro⟨op',n',us',sub'⟩ hll x y hx hy st;obtain⟨t1,x1,t2,x2,rfl,ho1,ht1,hx1,ht2,hx2⟩:=hx.mk;obtain⟨t3,y1,t4,y2,rfl,ho2,ht3,hy1,ht4,hy2⟩:=hy.mk;obtain⟨rfl,rfl⟩:=hx1.z;obtain⟨rfl,rfl⟩:=hy1.z;simp only[Fm.size] at hll;have hsl:=yQj sub;have hno:¬ (op=op'/\n=n'/\sub=sub')->eqB (Fm.mk op n [] sub) (.mk op' n' [] sub')=false:=λh=>by
  rw[yZf];intro he;injection he with h1 h2 _ h4;exact h ⟨h1,h2,h4⟩
 refine iI func330 ?_;by_cases h1:op=op'
 case neg =>
  simp only[go_sem,zE,zB,zA,zM,zS,zL,reduceCtorEq,fits,show decide ((op:Int)=(op':Int))=false from dEf (by omega)];intros;exact yQ0 ⟨by rw[hno λh=>h1 h.1],rfl⟩
 subst h1;by_cases h3:sub.length=sub'.length
 case neg =>
  simp only[go_sem,zE,zB,zA,zM,zS,zL,reduceCtorEq,fits,decide_true,List.length_nil,hx2.len,hy2.len,show decide ((sub.length:Int)=(sub'.length:Int))=false from dEf (by omega)];intros;exact yQ0 ⟨by rw[hno λh=>h3 (by rw[h.2.2])],rfl⟩
 simp only[go_sem,zE,zB,zA,zM,zS,zL,reduceCtorEq,fits,decide_true,List.length_nil,hx2.len,hy2.len,show decide ((sub.length:Int)=(sub'.length:Int))=true from dEt (by omega)];intros;refine (zZ0 gl op ho1 n _ _ _ _ _).mono ?_;rintro _ st ⟨rfl,rfl⟩;by_cases h6:n=n'
 case neg =>
  simp only[go_sem,zE,zB,zA,zM,zS,zL,reduceCtorEq,fits,dEf h6];exact yQ0 ⟨by rw[hno λh=>h6 h.2.1],rfl⟩
 subst h6;simp only[go_sem,zE,zB,zA,zM,zS,zL,reduceCtorEq,fits,decide_true,List.length_nil];intros;refine LoopC.ctr 0 (λk fr st' ds=>fr 2=.iv (.sl ⟨true,.nil,0⟩ [])/\fr 3=.box [.raw (.int .u8 op),.raw (.string n),.sl t1 [],.sl t2 x2]/\fr 4=.box [.raw (.int .u8 op),.raw (.string n),.sl t3 [],.sl t4 y2] /\
  fr 46=.iv (.raw (.int .i64 (0:Nat)))/\fr 47=.iv (.raw (.int .i64 k))/\st'=st/\ds=[]) ?_ ?_ ?_
 ·simp only[go_sem,zE,zB,zA,zM,zS,zL,reduceCtorEq]
  first|rfl|exact⟨rfl,rfl⟩
 ·rintro k fr st _ hlt;omega
 rintro fr st _ ⟨f2,f3,f4,f46,f47,rfl,rfl⟩;simp only[go_sem,zE,zB,zA,zM,zS,zL,reduceCtorEq,f2,f3,f4,f46,f47,yQk (nLi _),fits];refine (zZ0 gl op ho1 n _ _ _ _ _).mono ?_;rintro _ st ⟨rfl,rfl⟩;simp only[go_sem,zE,zB,zA,zM,zS,zL,reduceCtorEq,f2,f3,f4,fits,hx2.len];intros;refine LoopC.ctr sub.length (λk fr st' ds=>sub.take k=sub'.take k/\fr 2=.iv (.sl ⟨true,.nil,0⟩ [])/\fr 4=.box [.raw (.int .u8 op),.raw (.string n),.sl t3 [],.sl t4 y2] /\
  fr 78=.iv (.sl t2 x2)/\fr 79=.iv (.raw (.int .i64 sub.length))/\fr 80=.iv (.raw (.int .i64 k))/\st'=st/\ds=[]) ?_ ?_ ?_
 ·simp only[go_sem,zE,zB,zA,zM,zS,zL,reduceCtorEq,f2,f4]
  first|rfl|exact⟨rfl,rfl⟩
 ·rintro k fr sm _ hlt ⟨hn,f2,f4,f78,f79,f80,rfl,rfl⟩;obtain⟨a,hka⟩:=yQ3 hlt;obtain⟨b,hkb⟩:=yQ3 (h3▸hlt);obtain⟨x,hkx,hx⟩:=hx2.get hka;obtain⟨y,hky,hy⟩:=hy2.get hkb;obtain⟨hs1,hs2⟩:=yZ5 hka;have hcall:=IH a (lMg hka) b (by omega) x y hx hy sm;obtain⟨o5,n5,t5,x5,t6,x6,rfl⟩:=hx.agg;obtain⟨o7,n7,t7,x7,t8,x8,rfl⟩:=hy.agg;simp only[go_sem,zE,zB,zA,zM,zS,zL,reduceCtorEq,f2,f4,f78,f79,f80,lt_i hlt,yQ2 ht2,yQ2 ht4,iNn,hkx,hky,fits];refine hcall.mono ?_;rintro _ sm ⟨rfl,rfl⟩;by_cases hc:a=b
  ·simp only[go_sem,zE,zB,zA,zM,zS,zL,reduceCtorEq,f2,f4,f78,f79,f80,yZ2.2 hc,yQa hlt (show sub.length<=281474976710656 by omega)];rw[yQ8 hka,yQ8 hkb,hn,hc]
  ·simp only[go_sem,zE,zB,zA,zM,zS,zL,reduceCtorEq,f2,f4,f78,f79,f80,yZf.2 hc];have hne:sub≠sub':=λh=>hc (by rw[h,hkb] at hka;exact (Option.some.inj hka).symm);exact yQ0 ⟨by rw[hno λh=>hne h.2.2],rfl⟩
 rintro fr sm _ ⟨hn,f2,f4,f78,f79,f80,rfl,rfl⟩;rw[lTl,h3,lTl] at hn;simp only[go_sem,zE,zB,zA,zM,zS,zL,reduceCtorEq,f79,f80,yQk (nLi _)];exact yQ0 ⟨by subst hn;simp[eqB],rfl⟩
theorem xQm:∀(k:Nat)(t:Fm),SizeOf.sizeOf t<k->AK gl t
 | 0,f,h=>by omega
 | k+1,.mk o n us sub,h=>xYa gl o n us sub (λa ha=>xQm k a (by
   have:=lSm ha;simp at h;omega))
theorem vZ4 (G:Gl gl)(f g:Fm)(x y:IV)(hx:IsFm f x)(hy:IsFm g y)(hs:f.size<=1000000)(hs':g.size<=1000000)(st:ISt) :
  ICall prog gl 299 [x,y] st (λr st'=>r=.raw (.bool (yJf f g))/\st'=st):=by
 have h1:=λst=>zYt gl G f x hx st hs;have h2:=λst=>zYt gl G g y hy st hs';have h3:=λst=>xQm gl _ f (Nat.lt_succ_self _) g (by omega) x y hx hy st;obtain⟨o,n,t1,x1,t2,x2,rfl⟩:=hx.agg;obtain⟨o',n',t3,x3,t4,x4,rfl⟩:=hy.agg;refine iI func299 ?_;simp only[go_sem,zE,zB,zA,zM,zS,zL,reduceCtorEq,fits];refine (h1 _).mono ?_;rintro _ st ⟨rfl,rfl⟩;cases hr:f.right
 ·simp only[go_sem,zE,zB,zA,zM,zS,zL,reduceCtorEq,fits,hr];exact yQ0 ⟨by simp[yJf,hr],rfl⟩
 ·simp only[go_sem,zE,zB,zA,zM,zS,zL,reduceCtorEq,fits,hr];refine (h2 _).mono ?_;rintro _ st ⟨rfl,rfl⟩;cases hr':g.right
  ·simp only[go_sem,zE,zB,zA,zM,zS,zL,reduceCtorEq,fits,hr'];exact yQ0 ⟨by simp[yJf,hr'],rfl⟩
  ·simp only[go_sem,zE,zB,zA,zM,zS,zL,reduceCtorEq,fits,hr'];refine (h3 _).mono ?_;rintro _ st ⟨rfl,rfl⟩;simp only[go_sem,zE,zB,zA,zM,zS,zL,reduceCtorEq,fits];exact yQ0 ⟨by simp[yJf,hr,hr',dbF],rfl⟩
